/-
  window (layer 30): an image in new memory; the first image.
-/
import Derived.Test.YtkofafmiabmobaaGreatDoorM4
import Derived.Test.YtkofafmiabmobaaGreatDoorM1
import Derived.Test.YtkofafmiabmobaaGreatDoorM2
import Derived.Shelf.SortM.Plain
import Derived.Shelf.SortM.SortNone
import Derived.Shelf.Slices.CompactI
set_option linter.unusedSimpArgs false
set_option linter.unusedVariables false
namespace Go.Proofs.YtkofafmiabmobaaGreatDoor
open Go.Vx Go.ChangeShapes Go.WideShapes Go.ChangeAt Go.RowKit
theorem winClone_s {G:GH}{m:Im}{v:Value}(hm:ImV G m v) (hz:StZ m.st) (hco:CoZ m.confs):Con Tryz.prog 62 #[v] G [] (fun r G' μ'=>μ'=[]∧ImV G' m r):=by
 obtain ⟨C,cc,A,c,A',c',rfl,hC,hp,hss⟩:=hm
 have hs:StV G m.st (.agg [.int .i64 m.st.schema,.slice A m.st.pairs.length c,.slice A' m.st.sess.length c'].toArray):=⟨_,_,_,_,rfl,hp,hss⟩
 have hcn:=fun G' (hle:GH.le G G')=>migClone_s (G:=G') (hs.up hle) (by have:=hz.2.2.1;omega) (by have:=hz.2.2.2;omega)
 have hsz:m.st.pairs.length≤200∧m.st.sess.length≤200:=⟨by have:=hz.2.2.1;omega,by have:=hz.2.2.2;omega⟩
 have hcl:=hco.1
 have hbig:=hco.2
 obtain ⟨C0,cc0,mA,mc,eC,hlc,hcm,hsome,hcp,hc0,hc1,hmv,hwf⟩:=coOpen hC
 cases eC
 simp only [maxLen] at hcm
 obtain ⟨ix,ac,lc,⟨z,lp,ls⟩⟩:=m
 simp only at *
 (refine v_enter Tryz.func62 rfl Tryz.ntmps62 rfl ?_;intro B _)
 repeat' (first|apply v_box (d:=1) (zs:=[.int .i64 ix,.int .i64 ac,.slice C lc.length cc,.int .i64 z,.slice A lp.length c,.slice A' ls.length c']);(case hx|hz|hd=>rfl);intro b1|apply v_alloc (d:=2);(case hz|hd=>rfl);intro b2|apply v_alloc (d:=3);(case hz|hd=>rfl);intro b3|apply v_read;(case hop=>(apply r_loadNo;(case hx=>rfl);(case h=>exact aM);(case hd|hn=>rfl)));(case hd=>rfl)|refine Wa ?_|(refine Wc ⟨?_,?_⟩<;>first|exact True.intro|intro h)|refine Wr ?_|(refine Wb ?_;intro b)|fail)
 refine v_loop [11,10,9,3,1,2] (fun us G' μ'=>GH.le G G'∧∃ (k:Nat) (O:Option Addr) (oc:Nat) (css:List (List Value)) (ν:OH),k≤lc.length∧us=[Value.int .i64 (k:Int),.int .i64 lc.length,.slice C lc.length cc,.pointer (some ⟨b3,0,none⟩),.pointer (some ⟨b1,0,none⟩),.pointer (some ⟨b2,0,none⟩)]∧CoCells G' (lc.take k) css∧Grow 71 2 (.slice O k oc) k css.flatten ν∧μ'=(b3,.cells [.int .i64 ix,.int .i64 ac,.slice O k oc,.int .i64 z,.slice A lp.length c,.slice A' ls.length c'].toArray 59 (0,0))::(b2,.cells [.int .i64 0,.int .i64 0,.slice none 0 0,.int .i64 0,.slice none 0 0,.slice none 0 0].toArray 59 (0,0))::(b1,.cells [.int .i64 ix,.int .i64 ac,.slice C lc.length cc,.int .i64 z,.slice A lp.length c,.slice A' ls.length c'].toArray 59 (0,0))::ν) (fun us=>lc.length-(headI us).toNat) rfl ⟨GH.le_refl _,0,none,0,[],[],by omega,rfl,CoCells.nil,Grow.nil _ _,rfl⟩ ?_
 rintro us G' _ ⟨hle,k,O,oc,css,ν,hk,rfl,hcc,hg,rfl⟩
 by_cases hlt:k<lc.length
 ·have hlt2:=hbig _ (List.getElem_mem hlt)
  have hA:=hsome (by omega)
  have e1:((k:Nat):Int).toNat=k:=by omega
  have qc:=clone_s ((hmv _ hlt).mono hle) (by omega)
  have hck:=(hcp k hlt).le hle
  have hwk:=hwf k hlt
  have hmk:=hmv k hlt
  have htk:=List.take_succ_eq_append_getElem hlt
  clear hcp hc0 hc1 hmv hwf hbig
  generalize lc[k]=x at *
  obtain ⟨xf,xm⟩:=x
  generalize mA k=xA at *
  generalize mc k=xc at *
  simp only at *
  repeat' (first|refine RN hck ?_|apply v_alloc (d:=5);(case hz|hd=>rfl);intro b5|refine Wa ?_|(refine Wc ⟨?_,?_⟩<;>first|exact True.intro|intro h)|refine Wr ?_|(refine Wb ?_;intro b)|fail)
  refine Dz [(b5,.cells ([.int .i64 xf,.slice xA xm.length xc]).toArray 71 (0,0))] ?_
  all_goals refine Dt [0,2,3,4,5] ?_
  focus
   refine d_fork 1 6 (by kernel_rfl) ?_ ?_
   rotate_right
   focus
    first|apply x_exec 6;(case hi=>rfl);(case hop=>exact ReadOp.move (r_load1 rfl (Cell.own aM rfl)));(case hd=>rfl);rintro _ G0 _ ⟨rfl,hG0,rfl⟩;subst G0;refine ⟨(by intro e he;simp at he;simp [he]),?_⟩|apply x_call 6 (hs:=qc) (μ1:=[]);(case hi|ha=>rfl);(case hp=>exact List.Perm.refl _);(case hd=>rfl);(case hν'=>intro e he;simp at he;simp [he]);rintro r1 G1 ν1 - ⟨hG1,hg1⟩;subst G1;obtain ⟨A1,c1,rfl,-,-⟩:=hg1.shape|apply x_buildSlice 6;(case hi=>rfl);(case hT=>infer_instance);(case hL=>infer_instance);(case hz|hl=>rfl);(case hv=>(simp only [List.map_cons,List.map_nil];repeat (first|with_reducible exact evs_nil|apply evs_cons;(case h1=>rfl))));(case hp=>(first|with_reducible exact pk_nil|apply pk_cons;(case hc|hs=>rfl);(case h=>(first|with_reducible exact pk_nil|apply pk_cons;(case hc|hs=>rfl);(case h=>(first|with_reducible exact pk_nil|apply pk_cons;(case hc|hs=>rfl);(case h=>(first|with_reducible exact pk_nil|apply pk_cons;(case hc|hs=>rfl);(case h=>(first|with_reducible exact pk_nil|apply pk_cons;(case hc|hs=>rfl);(case h=>(first|with_reducible exact pk_nil|apply pk_cons;(case hc|hs=>rfl);(case h=>(first|with_reducible exact pk_nil|apply pk_cons;(case hc|hs=>rfl);(case h=>(first|with_reducible exact pk_nil|apply pk_cons;(case hc|hs=>rfl);(case h=>(with_reducible exact pk_nil));(case he=>(first|((repeat (first|with_reducible exact ap_nil|apply ap_cons));done)|rfl))|rfl));(case he=>(first|((repeat (first|with_reducible exact ap_nil|apply ap_cons));done)|rfl))|rfl));(case he=>(first|((repeat (first|with_reducible exact ap_nil|apply ap_cons));done)|rfl))|rfl));(case he=>(first|((repeat (first|with_reducible exact ap_nil|apply ap_cons));done)|rfl))|rfl));(case he=>(first|((repeat (first|with_reducible exact ap_nil|apply ap_cons));done)|rfl))|rfl));(case he=>(first|((repeat (first|with_reducible exact ap_nil|apply ap_cons));done)|rfl))|rfl));(case he=>(first|((repeat (first|with_reducible exact ap_nil|apply ap_cons));done)|rfl))|rfl));(case he=>(first|((repeat (first|with_reducible exact ap_nil|apply ap_cons));done)|rfl))|rfl));(case hb|hd=>rfl);(case hν=>intro e he;first|exact he|(cases he;done)|(simp at he;simp [he];done)|(simp only [List.mem_cons,List.not_mem_nil,or_false] at he;rcases he with rfl|rfl<;>simp;done)|(simp only [List.mem_cons,List.not_mem_nil,or_false] at he;rcases he with rfl|rfl|rfl<;>simp;done)|(simp at he ⊢;try omega));intro b7|apply x_append 6 (hg:=hg) (q':=1) (us:=[.int .i64 xf,.slice A1 xm.length c1]) (hp:=PickA.perm (PickA.cons _ (PickA.app _ (PickA.cons _ (PickA.cons _ (PickA.cons _ (PickA.cons _ PickA.last))))))) (hsrc:=Src.own (e:=71) (List.Mem.head _) rfl);(case hi=>rfl);(case hT=>infer_instance);(case hL=>infer_instance);(case hzs=>rfl);(case hsz=>omega);(case hs|hx=>rfl);(case hb=>omega);(case hb'=>simp only [maxLen];omega);(case hd=>rfl);(case h1=>first|rfl|assumption);(case hν=>intro e he;first|exact he|(cases he;done)|(simp at he;simp [he];done)|(simp only [List.mem_cons,List.not_mem_nil,or_false] at he;rcases he with rfl|rfl<;>simp;done)|(simp only [List.mem_cons,List.not_mem_nil,or_false] at he;rcases he with rfl|rfl|rfl<;>simp;done)|(simp at he ⊢;try omega));intro v5 n5 g5;obtain ⟨A5,c5,rfl,-,-⟩:=g5.shape|fail
    all_goals refine Dt [7] ?_
    focus
     refine d_fork 1 8 (by kernel_rfl) ?_ ?_
     rotate_right
     focus
      first|apply x_exec 8;(case hi=>rfl);(case hop=>exact ReadOp.move (r_load1 rfl (Cell.own aM rfl)));(case hd=>rfl);rintro _ G0 _ ⟨rfl,hG0,rfl⟩;subst G0;refine ⟨(by intro e he;simp at he;simp [he]),?_⟩|apply x_call 8 (hs:=qc) (μ1:=[]);(case hi|ha=>rfl);(case hp=>exact List.Perm.refl _);(case hd=>rfl);(case hν'=>intro e he;simp at he;simp [he]);rintro r1 G1 ν1 - ⟨hG1,hg1⟩;subst G1;obtain ⟨A1,c1,rfl,-,-⟩:=hg1.shape|apply x_buildSlice 8;(case hi=>rfl);(case hT=>infer_instance);(case hL=>infer_instance);(case hz|hl=>rfl);(case hv=>(simp only [List.map_cons,List.map_nil];repeat (first|with_reducible exact evs_nil|apply evs_cons;(case h1=>rfl))));(case hp=>(first|with_reducible exact pk_nil|apply pk_cons;(case hc|hs=>rfl);(case h=>(first|with_reducible exact pk_nil|apply pk_cons;(case hc|hs=>rfl);(case h=>(first|with_reducible exact pk_nil|apply pk_cons;(case hc|hs=>rfl);(case h=>(first|with_reducible exact pk_nil|apply pk_cons;(case hc|hs=>rfl);(case h=>(first|with_reducible exact pk_nil|apply pk_cons;(case hc|hs=>rfl);(case h=>(first|with_reducible exact pk_nil|apply pk_cons;(case hc|hs=>rfl);(case h=>(first|with_reducible exact pk_nil|apply pk_cons;(case hc|hs=>rfl);(case h=>(first|with_reducible exact pk_nil|apply pk_cons;(case hc|hs=>rfl);(case h=>(with_reducible exact pk_nil));(case he=>(first|((repeat (first|with_reducible exact ap_nil|apply ap_cons));done)|rfl))|rfl));(case he=>(first|((repeat (first|with_reducible exact ap_nil|apply ap_cons));done)|rfl))|rfl));(case he=>(first|((repeat (first|with_reducible exact ap_nil|apply ap_cons));done)|rfl))|rfl));(case he=>(first|((repeat (first|with_reducible exact ap_nil|apply ap_cons));done)|rfl))|rfl));(case he=>(first|((repeat (first|with_reducible exact ap_nil|apply ap_cons));done)|rfl))|rfl));(case he=>(first|((repeat (first|with_reducible exact ap_nil|apply ap_cons));done)|rfl))|rfl));(case he=>(first|((repeat (first|with_reducible exact ap_nil|apply ap_cons));done)|rfl))|rfl));(case he=>(first|((repeat (first|with_reducible exact ap_nil|apply ap_cons));done)|rfl))|rfl));(case hb|hd=>rfl);(case hν=>intro e he;first|exact he|(cases he;done)|(simp at he;simp [he];done)|(simp only [List.mem_cons,List.not_mem_nil,or_false] at he;rcases he with rfl|rfl<;>simp;done)|(simp only [List.mem_cons,List.not_mem_nil,or_false] at he;rcases he with rfl|rfl|rfl<;>simp;done)|(simp at he ⊢;try omega));intro b7|apply x_append 8 (hg:=hg) (q':=1) (us:=[.int .i64 xf,.slice A1 xm.length c1]) (hp:=PickA.perm (PickA.cons _ (PickA.app _ (PickA.cons _ (PickA.cons _ (PickA.cons _ (PickA.cons _ PickA.last))))))) (hsrc:=Src.own (e:=71) (List.Mem.head _) rfl);(case hi=>rfl);(case hT=>infer_instance);(case hL=>infer_instance);(case hzs=>rfl);(case hsz=>omega);(case hs|hx=>rfl);(case hb=>omega);(case hb'=>simp only [maxLen];omega);(case hd=>rfl);(case h1=>first|rfl|assumption);(case hν=>intro e he;first|exact he|(cases he;done)|(simp at he;simp [he];done)|(simp only [List.mem_cons,List.not_mem_nil,or_false] at he;rcases he with rfl|rfl<;>simp;done)|(simp only [List.mem_cons,List.not_mem_nil,or_false] at he;rcases he with rfl|rfl|rfl<;>simp;done)|(simp at he ⊢;try omega));intro v5 n5 g5;obtain ⟨A5,c5,rfl,-,-⟩:=g5.shape|fail
      all_goals (first|apply d_keep 1 (hop:=ReadOp.move ?hop);(case hi=>rfl);(case hr=>kernel_rfl);(case hop=>(apply r_load1;rfl;(apply Cell.own;(case h=>exact aM);rfl)));(case hd=>rfl)|((apply x_exec 1;(case hi=>rfl);(case hr=>kernel_rfl);(case hop=>exact ReadOp.move (r_load1 rfl (Cell.own aM rfl)));(case hd=>rfl);rintro _ G0 _ ⟨rfl,hG0,rfl⟩;subst G0;refine ⟨(by intro e he;simp at he;simp [he]),?_⟩))|((apply d_call 1 (hs:=qc) (μ1:=[]);(case hi=>rfl);(case hr=>kernel_rfl);(case ha=>rfl);(case hp=>exact List.Perm.refl _);(case hd=>rfl);(case hν'=>intro e he;simp at he;simp [he]);rintro r1 G1 ν1 - ⟨hG1,hg1⟩;subst G1;obtain ⟨A1,c1,rfl,-,-⟩:=hg1.shape))|apply d_buildSlice 1;(case hi=>rfl);(case hr=>kernel_rfl);(case hT=>infer_instance);(case hL=>infer_instance);(case hz|hl=>rfl);(case hv=>(simp only [List.map_cons,List.map_nil];repeat (first|with_reducible exact evs_nil|apply evs_cons;(case h1=>rfl))));(case hp=>(first|with_reducible exact pk_nil|apply pk_cons;(case hc|hs=>rfl);(case h=>(first|with_reducible exact pk_nil|apply pk_cons;(case hc|hs=>rfl);(case h=>(first|with_reducible exact pk_nil|apply pk_cons;(case hc|hs=>rfl);(case h=>(first|with_reducible exact pk_nil|apply pk_cons;(case hc|hs=>rfl);(case h=>(first|with_reducible exact pk_nil|apply pk_cons;(case hc|hs=>rfl);(case h=>(first|with_reducible exact pk_nil|apply pk_cons;(case hc|hs=>rfl);(case h=>(first|with_reducible exact pk_nil|apply pk_cons;(case hc|hs=>rfl);(case h=>(first|with_reducible exact pk_nil|apply pk_cons;(case hc|hs=>rfl);(case h=>(with_reducible exact pk_nil));(case he=>(first|((repeat (first|with_reducible exact ap_nil|apply ap_cons));done)|rfl))|rfl));(case he=>(first|((repeat (first|with_reducible exact ap_nil|apply ap_cons));done)|rfl))|rfl));(case he=>(first|((repeat (first|with_reducible exact ap_nil|apply ap_cons));done)|rfl))|rfl));(case he=>(first|((repeat (first|with_reducible exact ap_nil|apply ap_cons));done)|rfl))|rfl));(case he=>(first|((repeat (first|with_reducible exact ap_nil|apply ap_cons));done)|rfl))|rfl));(case he=>(first|((repeat (first|with_reducible exact ap_nil|apply ap_cons));done)|rfl))|rfl));(case he=>(first|((repeat (first|with_reducible exact ap_nil|apply ap_cons));done)|rfl))|rfl));(case he=>(first|((repeat (first|with_reducible exact ap_nil|apply ap_cons));done)|rfl))|rfl));(case hb|hd=>rfl);(case hν=>exact aE);intro b7|apply d_append 1 (hg:=hg) (q':=1) (us:=[.int .i64 xf,.slice A1 xm.length c1]) (hp:=PickA.perm (PickA.cons _ (PickA.app _ (PickA.cons _ (PickA.cons _ (PickA.cons _ (PickA.cons _ PickA.last))))))) (hsrc:=Src.own (e:=71) (List.Mem.head _) rfl);(case hi=>rfl);(case hr=>kernel_rfl);(case hT=>infer_instance);(case hL=>infer_instance);(case hzs=>rfl);(case hsz=>omega);(case hs|hx=>rfl);(case hb=>omega);(case hb'=>simp only [maxLen];omega);(case hd=>rfl);(case h1=>first|rfl|assumption);(case hν=>exact aE);intro v5 n5 g5;obtain ⟨A5,c5,rfl,-,-⟩:=g5.shape|apply d_store 1;(case hi=>rfl);(case hr=>kernel_rfl);(case hL=>infer_instance);(case hp|hx|hc|hsz|h1=>rfl);(case hb=>exact aM);(case hfit=>first|exact Nat.le_of_ble_eq_true rfl|rfl);(case hov=>(first|((repeat (first|with_reducible exact ov_nil|apply ov_cons|apply ov_there));done)|rfl));(case hu=>repeat first|exact Upd.here _ _|apply Upd.there|apply Upd.app);(case hν'=>exact aE)|fail)
      all_goals (first|apply d_keep 9 (hop:=ReadOp.move ?hop);(case hi=>rfl);(case hr=>kernel_rfl);(case hop=>(apply r_load1;rfl;(apply Cell.own;(case h=>exact aM);rfl)));(case hd=>rfl)|((apply x_exec 9;(case hi=>rfl);(case hr=>kernel_rfl);(case hop=>exact ReadOp.move (r_load1 rfl (Cell.own aM rfl)));(case hd=>rfl);rintro _ G0 _ ⟨rfl,hG0,rfl⟩;subst G0;refine ⟨(by intro e he;simp at he;simp [he]),?_⟩))|((apply d_call 9 (hs:=qc) (μ1:=[]);(case hi=>rfl);(case hr=>kernel_rfl);(case ha=>rfl);(case hp=>exact List.Perm.refl _);(case hd=>rfl);(case hν'=>intro e he;simp at he;simp [he]);rintro r1 G1 ν1 - ⟨hG1,hg1⟩;subst G1;obtain ⟨A1,c1,rfl,-,-⟩:=hg1.shape))|apply d_buildSlice 9;(case hi=>rfl);(case hr=>kernel_rfl);(case hT=>infer_instance);(case hL=>infer_instance);(case hz|hl=>rfl);(case hv=>(simp only [List.map_cons,List.map_nil];repeat (first|with_reducible exact evs_nil|apply evs_cons;(case h1=>rfl))));(case hp=>(first|with_reducible exact pk_nil|apply pk_cons;(case hc|hs=>rfl);(case h=>(first|with_reducible exact pk_nil|apply pk_cons;(case hc|hs=>rfl);(case h=>(first|with_reducible exact pk_nil|apply pk_cons;(case hc|hs=>rfl);(case h=>(first|with_reducible exact pk_nil|apply pk_cons;(case hc|hs=>rfl);(case h=>(first|with_reducible exact pk_nil|apply pk_cons;(case hc|hs=>rfl);(case h=>(first|with_reducible exact pk_nil|apply pk_cons;(case hc|hs=>rfl);(case h=>(first|with_reducible exact pk_nil|apply pk_cons;(case hc|hs=>rfl);(case h=>(first|with_reducible exact pk_nil|apply pk_cons;(case hc|hs=>rfl);(case h=>(with_reducible exact pk_nil));(case he=>(first|((repeat (first|with_reducible exact ap_nil|apply ap_cons));done)|rfl))|rfl));(case he=>(first|((repeat (first|with_reducible exact ap_nil|apply ap_cons));done)|rfl))|rfl));(case he=>(first|((repeat (first|with_reducible exact ap_nil|apply ap_cons));done)|rfl))|rfl));(case he=>(first|((repeat (first|with_reducible exact ap_nil|apply ap_cons));done)|rfl))|rfl));(case he=>(first|((repeat (first|with_reducible exact ap_nil|apply ap_cons));done)|rfl))|rfl));(case he=>(first|((repeat (first|with_reducible exact ap_nil|apply ap_cons));done)|rfl))|rfl));(case he=>(first|((repeat (first|with_reducible exact ap_nil|apply ap_cons));done)|rfl))|rfl));(case he=>(first|((repeat (first|with_reducible exact ap_nil|apply ap_cons));done)|rfl))|rfl));(case hb|hd=>rfl);(case hν=>exact aE);intro b7|apply d_append 9 (hg:=hg) (q':=1) (us:=[.int .i64 xf,.slice A1 xm.length c1]) (hp:=PickA.perm (PickA.cons _ (PickA.app _ (PickA.cons _ (PickA.cons _ (PickA.cons _ (PickA.cons _ PickA.last))))))) (hsrc:=Src.own (e:=71) (List.Mem.head _) rfl);(case hi=>rfl);(case hr=>kernel_rfl);(case hT=>infer_instance);(case hL=>infer_instance);(case hzs=>rfl);(case hsz=>omega);(case hs|hx=>rfl);(case hb=>omega);(case hb'=>simp only [maxLen];omega);(case hd=>rfl);(case h1=>first|rfl|assumption);(case hν=>exact aE);intro v5 n5 g5;obtain ⟨A5,c5,rfl,-,-⟩:=g5.shape|apply d_store 9;(case hi=>rfl);(case hr=>kernel_rfl);(case hL=>infer_instance);(case hp|hx|hc|hsz|h1=>rfl);(case hb=>exact aM);(case hfit=>first|exact Nat.le_of_ble_eq_true rfl|rfl);(case hov=>(first|((repeat (first|with_reducible exact ov_nil|apply ov_cons|apply ov_there));done)|rfl));(case hu=>repeat first|exact Upd.here _ _|apply Upd.there|apply Upd.app);(case hν'=>exact aE)|fail)
      all_goals refine Dt [10] ?_
      all_goals (first|apply d_keep 11 (hop:=ReadOp.move ?hop);(case hi=>rfl);(case hr=>kernel_rfl);(case hop=>(apply r_load1;rfl;(apply Cell.own;(case h=>exact aM);rfl)));(case hd=>rfl)|((apply x_exec 11;(case hi=>rfl);(case hr=>kernel_rfl);(case hop=>exact ReadOp.move (r_load1 rfl (Cell.own aM rfl)));(case hd=>rfl);rintro _ G0 _ ⟨rfl,hG0,rfl⟩;subst G0;refine ⟨(by intro e he;simp at he;simp [he]),?_⟩))|((apply d_call 11 (hs:=qc) (μ1:=[]);(case hi=>rfl);(case hr=>kernel_rfl);(case ha=>rfl);(case hp=>exact List.Perm.refl _);(case hd=>rfl);(case hν'=>intro e he;simp at he;simp [he]);rintro r1 G1 ν1 - ⟨hG1,hg1⟩;subst G1;obtain ⟨A1,c1,rfl,-,-⟩:=hg1.shape))|apply d_buildSlice 11;(case hi=>rfl);(case hr=>kernel_rfl);(case hT=>infer_instance);(case hL=>infer_instance);(case hz|hl=>rfl);(case hv=>(simp only [List.map_cons,List.map_nil];repeat (first|with_reducible exact evs_nil|apply evs_cons;(case h1=>rfl))));(case hp=>(first|with_reducible exact pk_nil|apply pk_cons;(case hc|hs=>rfl);(case h=>(first|with_reducible exact pk_nil|apply pk_cons;(case hc|hs=>rfl);(case h=>(first|with_reducible exact pk_nil|apply pk_cons;(case hc|hs=>rfl);(case h=>(first|with_reducible exact pk_nil|apply pk_cons;(case hc|hs=>rfl);(case h=>(first|with_reducible exact pk_nil|apply pk_cons;(case hc|hs=>rfl);(case h=>(first|with_reducible exact pk_nil|apply pk_cons;(case hc|hs=>rfl);(case h=>(first|with_reducible exact pk_nil|apply pk_cons;(case hc|hs=>rfl);(case h=>(first|with_reducible exact pk_nil|apply pk_cons;(case hc|hs=>rfl);(case h=>(with_reducible exact pk_nil));(case he=>(first|((repeat (first|with_reducible exact ap_nil|apply ap_cons));done)|rfl))|rfl));(case he=>(first|((repeat (first|with_reducible exact ap_nil|apply ap_cons));done)|rfl))|rfl));(case he=>(first|((repeat (first|with_reducible exact ap_nil|apply ap_cons));done)|rfl))|rfl));(case he=>(first|((repeat (first|with_reducible exact ap_nil|apply ap_cons));done)|rfl))|rfl));(case he=>(first|((repeat (first|with_reducible exact ap_nil|apply ap_cons));done)|rfl))|rfl));(case he=>(first|((repeat (first|with_reducible exact ap_nil|apply ap_cons));done)|rfl))|rfl));(case he=>(first|((repeat (first|with_reducible exact ap_nil|apply ap_cons));done)|rfl))|rfl));(case he=>(first|((repeat (first|with_reducible exact ap_nil|apply ap_cons));done)|rfl))|rfl));(case hb|hd=>rfl);(case hν=>exact aE);intro b7|apply d_append 11 (hg:=hg) (q':=1) (us:=[.int .i64 xf,.slice A1 xm.length c1]) (hp:=PickA.perm (PickA.cons _ (PickA.app _ (PickA.cons _ (PickA.cons _ (PickA.cons _ (PickA.cons _ PickA.last))))))) (hsrc:=Src.own (e:=71) (List.Mem.head _) rfl);(case hi=>rfl);(case hr=>kernel_rfl);(case hT=>infer_instance);(case hL=>infer_instance);(case hzs=>rfl);(case hsz=>omega);(case hs|hx=>rfl);(case hb=>omega);(case hb'=>simp only [maxLen];omega);(case hd=>rfl);(case h1=>first|rfl|assumption);(case hν=>exact aE);intro v5 n5 g5;obtain ⟨A5,c5,rfl,-,-⟩:=g5.shape|apply d_store 11;(case hi=>rfl);(case hr=>kernel_rfl);(case hL=>infer_instance);(case hp|hx|hc|hsz|h1=>rfl);(case hb=>exact aM);(case hfit=>first|exact Nat.le_of_ble_eq_true rfl|rfl);(case hov=>(first|((repeat (first|with_reducible exact ov_nil|apply ov_cons|apply ov_there));done)|rfl));(case hu=>repeat first|exact Upd.here _ _|apply Upd.there|apply Upd.app);(case hν'=>exact aE)|fail)
      all_goals refine Dd ?_
     rotate_right
     focus
      first|apply x_exec 1;(case hi=>rfl);(case hop=>exact ReadOp.move (r_load1 rfl (Cell.own aM rfl)));(case hd=>rfl);rintro _ G0 _ ⟨rfl,hG0,rfl⟩;subst G0;refine ⟨(by intro e he;simp at he;simp [he]),?_⟩|apply x_call 1 (hs:=qc) (μ1:=[]);(case hi|ha=>rfl);(case hp=>exact List.Perm.refl _);(case hd=>rfl);(case hν'=>intro e he;simp at he;simp [he]);rintro r1 G1 ν1 - ⟨hG1,hg1⟩;subst G1;obtain ⟨A1,c1,rfl,-,-⟩:=hg1.shape|apply x_buildSlice 1;(case hi=>rfl);(case hT=>infer_instance);(case hL=>infer_instance);(case hz|hl=>rfl);(case hv=>(simp only [List.map_cons,List.map_nil];repeat (first|with_reducible exact evs_nil|apply evs_cons;(case h1=>rfl))));(case hp=>(first|with_reducible exact pk_nil|apply pk_cons;(case hc|hs=>rfl);(case h=>(first|with_reducible exact pk_nil|apply pk_cons;(case hc|hs=>rfl);(case h=>(first|with_reducible exact pk_nil|apply pk_cons;(case hc|hs=>rfl);(case h=>(first|with_reducible exact pk_nil|apply pk_cons;(case hc|hs=>rfl);(case h=>(first|with_reducible exact pk_nil|apply pk_cons;(case hc|hs=>rfl);(case h=>(first|with_reducible exact pk_nil|apply pk_cons;(case hc|hs=>rfl);(case h=>(first|with_reducible exact pk_nil|apply pk_cons;(case hc|hs=>rfl);(case h=>(first|with_reducible exact pk_nil|apply pk_cons;(case hc|hs=>rfl);(case h=>(with_reducible exact pk_nil));(case he=>(first|((repeat (first|with_reducible exact ap_nil|apply ap_cons));done)|rfl))|rfl));(case he=>(first|((repeat (first|with_reducible exact ap_nil|apply ap_cons));done)|rfl))|rfl));(case he=>(first|((repeat (first|with_reducible exact ap_nil|apply ap_cons));done)|rfl))|rfl));(case he=>(first|((repeat (first|with_reducible exact ap_nil|apply ap_cons));done)|rfl))|rfl));(case he=>(first|((repeat (first|with_reducible exact ap_nil|apply ap_cons));done)|rfl))|rfl));(case he=>(first|((repeat (first|with_reducible exact ap_nil|apply ap_cons));done)|rfl))|rfl));(case he=>(first|((repeat (first|with_reducible exact ap_nil|apply ap_cons));done)|rfl))|rfl));(case he=>(first|((repeat (first|with_reducible exact ap_nil|apply ap_cons));done)|rfl))|rfl));(case hb|hd=>rfl);(case hν=>intro e he;first|exact he|(cases he;done)|(simp at he;simp [he];done)|(simp only [List.mem_cons,List.not_mem_nil,or_false] at he;rcases he with rfl|rfl<;>simp;done)|(simp only [List.mem_cons,List.not_mem_nil,or_false] at he;rcases he with rfl|rfl|rfl<;>simp;done)|(simp at he ⊢;try omega));intro b7|apply x_append 1 (hg:=hg) (q':=1) (us:=[.int .i64 xf,.slice A1 xm.length c1]) (hp:=PickA.perm (PickA.cons _ (PickA.app _ (PickA.cons _ (PickA.cons _ (PickA.cons _ (PickA.cons _ PickA.last))))))) (hsrc:=Src.own (e:=71) (List.Mem.head _) rfl);(case hi=>rfl);(case hT=>infer_instance);(case hL=>infer_instance);(case hzs=>rfl);(case hsz=>omega);(case hs|hx=>rfl);(case hb=>omega);(case hb'=>simp only [maxLen];omega);(case hd=>rfl);(case h1=>first|rfl|assumption);(case hν=>intro e he;first|exact he|(cases he;done)|(simp at he;simp [he];done)|(simp only [List.mem_cons,List.not_mem_nil,or_false] at he;rcases he with rfl|rfl<;>simp;done)|(simp only [List.mem_cons,List.not_mem_nil,or_false] at he;rcases he with rfl|rfl|rfl<;>simp;done)|(simp at he ⊢;try omega));intro v5 n5 g5;obtain ⟨A5,c5,rfl,-,-⟩:=g5.shape|fail
      all_goals (first|apply d_keep 8 (hop:=ReadOp.move ?hop);(case hi=>rfl);(case hr=>kernel_rfl);(case hop=>(apply r_load1;rfl;(apply Cell.own;(case h=>exact aM);rfl)));(case hd=>rfl)|((apply x_exec 8;(case hi=>rfl);(case hr=>kernel_rfl);(case hop=>exact ReadOp.move (r_load1 rfl (Cell.own aM rfl)));(case hd=>rfl);rintro _ G0 _ ⟨rfl,hG0,rfl⟩;subst G0;refine ⟨(by intro e he;simp at he;simp [he]),?_⟩))|((apply d_call 8 (hs:=qc) (μ1:=[]);(case hi=>rfl);(case hr=>kernel_rfl);(case ha=>rfl);(case hp=>exact List.Perm.refl _);(case hd=>rfl);(case hν'=>intro e he;simp at he;simp [he]);rintro r1 G1 ν1 - ⟨hG1,hg1⟩;subst G1;obtain ⟨A1,c1,rfl,-,-⟩:=hg1.shape))|apply d_buildSlice 8;(case hi=>rfl);(case hr=>kernel_rfl);(case hT=>infer_instance);(case hL=>infer_instance);(case hz|hl=>rfl);(case hv=>(simp only [List.map_cons,List.map_nil];repeat (first|with_reducible exact evs_nil|apply evs_cons;(case h1=>rfl))));(case hp=>(first|with_reducible exact pk_nil|apply pk_cons;(case hc|hs=>rfl);(case h=>(first|with_reducible exact pk_nil|apply pk_cons;(case hc|hs=>rfl);(case h=>(first|with_reducible exact pk_nil|apply pk_cons;(case hc|hs=>rfl);(case h=>(first|with_reducible exact pk_nil|apply pk_cons;(case hc|hs=>rfl);(case h=>(first|with_reducible exact pk_nil|apply pk_cons;(case hc|hs=>rfl);(case h=>(first|with_reducible exact pk_nil|apply pk_cons;(case hc|hs=>rfl);(case h=>(first|with_reducible exact pk_nil|apply pk_cons;(case hc|hs=>rfl);(case h=>(first|with_reducible exact pk_nil|apply pk_cons;(case hc|hs=>rfl);(case h=>(with_reducible exact pk_nil));(case he=>(first|((repeat (first|with_reducible exact ap_nil|apply ap_cons));done)|rfl))|rfl));(case he=>(first|((repeat (first|with_reducible exact ap_nil|apply ap_cons));done)|rfl))|rfl));(case he=>(first|((repeat (first|with_reducible exact ap_nil|apply ap_cons));done)|rfl))|rfl));(case he=>(first|((repeat (first|with_reducible exact ap_nil|apply ap_cons));done)|rfl))|rfl));(case he=>(first|((repeat (first|with_reducible exact ap_nil|apply ap_cons));done)|rfl))|rfl));(case he=>(first|((repeat (first|with_reducible exact ap_nil|apply ap_cons));done)|rfl))|rfl));(case he=>(first|((repeat (first|with_reducible exact ap_nil|apply ap_cons));done)|rfl))|rfl));(case he=>(first|((repeat (first|with_reducible exact ap_nil|apply ap_cons));done)|rfl))|rfl));(case hb|hd=>rfl);(case hν=>exact aE);intro b7|apply d_append 8 (hg:=hg) (q':=1) (us:=[.int .i64 xf,.slice A1 xm.length c1]) (hp:=PickA.perm (PickA.cons _ (PickA.app _ (PickA.cons _ (PickA.cons _ (PickA.cons _ (PickA.cons _ PickA.last))))))) (hsrc:=Src.own (e:=71) (List.Mem.head _) rfl);(case hi=>rfl);(case hr=>kernel_rfl);(case hT=>infer_instance);(case hL=>infer_instance);(case hzs=>rfl);(case hsz=>omega);(case hs|hx=>rfl);(case hb=>omega);(case hb'=>simp only [maxLen];omega);(case hd=>rfl);(case h1=>first|rfl|assumption);(case hν=>exact aE);intro v5 n5 g5;obtain ⟨A5,c5,rfl,-,-⟩:=g5.shape|apply d_store 8;(case hi=>rfl);(case hr=>kernel_rfl);(case hL=>infer_instance);(case hp|hx|hc|hsz|h1=>rfl);(case hb=>exact aM);(case hfit=>first|exact Nat.le_of_ble_eq_true rfl|rfl);(case hov=>(first|((repeat (first|with_reducible exact ov_nil|apply ov_cons|apply ov_there));done)|rfl));(case hu=>repeat first|exact Upd.here _ _|apply Upd.there|apply Upd.app);(case hν'=>exact aE)|fail)
      all_goals (first|apply d_keep 9 (hop:=ReadOp.move ?hop);(case hi=>rfl);(case hr=>kernel_rfl);(case hop=>(apply r_load1;rfl;(apply Cell.own;(case h=>exact aM);rfl)));(case hd=>rfl)|((apply x_exec 9;(case hi=>rfl);(case hr=>kernel_rfl);(case hop=>exact ReadOp.move (r_load1 rfl (Cell.own aM rfl)));(case hd=>rfl);rintro _ G0 _ ⟨rfl,hG0,rfl⟩;subst G0;refine ⟨(by intro e he;simp at he;simp [he]),?_⟩))|((apply d_call 9 (hs:=qc) (μ1:=[]);(case hi=>rfl);(case hr=>kernel_rfl);(case ha=>rfl);(case hp=>exact List.Perm.refl _);(case hd=>rfl);(case hν'=>intro e he;simp at he;simp [he]);rintro r1 G1 ν1 - ⟨hG1,hg1⟩;subst G1;obtain ⟨A1,c1,rfl,-,-⟩:=hg1.shape))|apply d_buildSlice 9;(case hi=>rfl);(case hr=>kernel_rfl);(case hT=>infer_instance);(case hL=>infer_instance);(case hz|hl=>rfl);(case hv=>(simp only [List.map_cons,List.map_nil];repeat (first|with_reducible exact evs_nil|apply evs_cons;(case h1=>rfl))));(case hp=>(first|with_reducible exact pk_nil|apply pk_cons;(case hc|hs=>rfl);(case h=>(first|with_reducible exact pk_nil|apply pk_cons;(case hc|hs=>rfl);(case h=>(first|with_reducible exact pk_nil|apply pk_cons;(case hc|hs=>rfl);(case h=>(first|with_reducible exact pk_nil|apply pk_cons;(case hc|hs=>rfl);(case h=>(first|with_reducible exact pk_nil|apply pk_cons;(case hc|hs=>rfl);(case h=>(first|with_reducible exact pk_nil|apply pk_cons;(case hc|hs=>rfl);(case h=>(first|with_reducible exact pk_nil|apply pk_cons;(case hc|hs=>rfl);(case h=>(first|with_reducible exact pk_nil|apply pk_cons;(case hc|hs=>rfl);(case h=>(with_reducible exact pk_nil));(case he=>(first|((repeat (first|with_reducible exact ap_nil|apply ap_cons));done)|rfl))|rfl));(case he=>(first|((repeat (first|with_reducible exact ap_nil|apply ap_cons));done)|rfl))|rfl));(case he=>(first|((repeat (first|with_reducible exact ap_nil|apply ap_cons));done)|rfl))|rfl));(case he=>(first|((repeat (first|with_reducible exact ap_nil|apply ap_cons));done)|rfl))|rfl));(case he=>(first|((repeat (first|with_reducible exact ap_nil|apply ap_cons));done)|rfl))|rfl));(case he=>(first|((repeat (first|with_reducible exact ap_nil|apply ap_cons));done)|rfl))|rfl));(case he=>(first|((repeat (first|with_reducible exact ap_nil|apply ap_cons));done)|rfl))|rfl));(case he=>(first|((repeat (first|with_reducible exact ap_nil|apply ap_cons));done)|rfl))|rfl));(case hb|hd=>rfl);(case hν=>exact aE);intro b7|apply d_append 9 (hg:=hg) (q':=1) (us:=[.int .i64 xf,.slice A1 xm.length c1]) (hp:=PickA.perm (PickA.cons _ (PickA.app _ (PickA.cons _ (PickA.cons _ (PickA.cons _ (PickA.cons _ PickA.last))))))) (hsrc:=Src.own (e:=71) (List.Mem.head _) rfl);(case hi=>rfl);(case hr=>kernel_rfl);(case hT=>infer_instance);(case hL=>infer_instance);(case hzs=>rfl);(case hsz=>omega);(case hs|hx=>rfl);(case hb=>omega);(case hb'=>simp only [maxLen];omega);(case hd=>rfl);(case h1=>first|rfl|assumption);(case hν=>exact aE);intro v5 n5 g5;obtain ⟨A5,c5,rfl,-,-⟩:=g5.shape|apply d_store 9;(case hi=>rfl);(case hr=>kernel_rfl);(case hL=>infer_instance);(case hp|hx|hc|hsz|h1=>rfl);(case hb=>exact aM);(case hfit=>first|exact Nat.le_of_ble_eq_true rfl|rfl);(case hov=>(first|((repeat (first|with_reducible exact ov_nil|apply ov_cons|apply ov_there));done)|rfl));(case hu=>repeat first|exact Upd.here _ _|apply Upd.there|apply Upd.app);(case hν'=>exact aE)|fail)
      all_goals refine Dt [10] ?_
      all_goals (first|apply d_keep 11 (hop:=ReadOp.move ?hop);(case hi=>rfl);(case hr=>kernel_rfl);(case hop=>(apply r_load1;rfl;(apply Cell.own;(case h=>exact aM);rfl)));(case hd=>rfl)|((apply x_exec 11;(case hi=>rfl);(case hr=>kernel_rfl);(case hop=>exact ReadOp.move (r_load1 rfl (Cell.own aM rfl)));(case hd=>rfl);rintro _ G0 _ ⟨rfl,hG0,rfl⟩;subst G0;refine ⟨(by intro e he;simp at he;simp [he]),?_⟩))|((apply d_call 11 (hs:=qc) (μ1:=[]);(case hi=>rfl);(case hr=>kernel_rfl);(case ha=>rfl);(case hp=>exact List.Perm.refl _);(case hd=>rfl);(case hν'=>intro e he;simp at he;simp [he]);rintro r1 G1 ν1 - ⟨hG1,hg1⟩;subst G1;obtain ⟨A1,c1,rfl,-,-⟩:=hg1.shape))|apply d_buildSlice 11;(case hi=>rfl);(case hr=>kernel_rfl);(case hT=>infer_instance);(case hL=>infer_instance);(case hz|hl=>rfl);(case hv=>(simp only [List.map_cons,List.map_nil];repeat (first|with_reducible exact evs_nil|apply evs_cons;(case h1=>rfl))));(case hp=>(first|with_reducible exact pk_nil|apply pk_cons;(case hc|hs=>rfl);(case h=>(first|with_reducible exact pk_nil|apply pk_cons;(case hc|hs=>rfl);(case h=>(first|with_reducible exact pk_nil|apply pk_cons;(case hc|hs=>rfl);(case h=>(first|with_reducible exact pk_nil|apply pk_cons;(case hc|hs=>rfl);(case h=>(first|with_reducible exact pk_nil|apply pk_cons;(case hc|hs=>rfl);(case h=>(first|with_reducible exact pk_nil|apply pk_cons;(case hc|hs=>rfl);(case h=>(first|with_reducible exact pk_nil|apply pk_cons;(case hc|hs=>rfl);(case h=>(first|with_reducible exact pk_nil|apply pk_cons;(case hc|hs=>rfl);(case h=>(with_reducible exact pk_nil));(case he=>(first|((repeat (first|with_reducible exact ap_nil|apply ap_cons));done)|rfl))|rfl));(case he=>(first|((repeat (first|with_reducible exact ap_nil|apply ap_cons));done)|rfl))|rfl));(case he=>(first|((repeat (first|with_reducible exact ap_nil|apply ap_cons));done)|rfl))|rfl));(case he=>(first|((repeat (first|with_reducible exact ap_nil|apply ap_cons));done)|rfl))|rfl));(case he=>(first|((repeat (first|with_reducible exact ap_nil|apply ap_cons));done)|rfl))|rfl));(case he=>(first|((repeat (first|with_reducible exact ap_nil|apply ap_cons));done)|rfl))|rfl));(case he=>(first|((repeat (first|with_reducible exact ap_nil|apply ap_cons));done)|rfl))|rfl));(case he=>(first|((repeat (first|with_reducible exact ap_nil|apply ap_cons));done)|rfl))|rfl));(case hb|hd=>rfl);(case hν=>exact aE);intro b7|apply d_append 11 (hg:=hg) (q':=1) (us:=[.int .i64 xf,.slice A1 xm.length c1]) (hp:=PickA.perm (PickA.cons _ (PickA.app _ (PickA.cons _ (PickA.cons _ (PickA.cons _ (PickA.cons _ PickA.last))))))) (hsrc:=Src.own (e:=71) (List.Mem.head _) rfl);(case hi=>rfl);(case hr=>kernel_rfl);(case hT=>infer_instance);(case hL=>infer_instance);(case hzs=>rfl);(case hsz=>omega);(case hs|hx=>rfl);(case hb=>omega);(case hb'=>simp only [maxLen];omega);(case hd=>rfl);(case h1=>first|rfl|assumption);(case hν=>exact aE);intro v5 n5 g5;obtain ⟨A5,c5,rfl,-,-⟩:=g5.shape|apply d_store 11;(case hi=>rfl);(case hr=>kernel_rfl);(case hL=>infer_instance);(case hp|hx|hc|hsz|h1=>rfl);(case hb=>exact aM);(case hfit=>first|exact Nat.le_of_ble_eq_true rfl|rfl);(case hov=>(first|((repeat (first|with_reducible exact ov_nil|apply ov_cons|apply ov_there));done)|rfl));(case hu=>repeat first|exact Upd.here _ _|apply Upd.there|apply Upd.app);(case hν'=>exact aE)|fail)
      all_goals refine Dd ?_
   rotate_right
   focus
    first|apply x_exec 1;(case hi=>rfl);(case hop=>exact ReadOp.move (r_load1 rfl (Cell.own aM rfl)));(case hd=>rfl);rintro _ G0 _ ⟨rfl,hG0,rfl⟩;subst G0;refine ⟨(by intro e he;simp at he;simp [he]),?_⟩|apply x_call 1 (hs:=qc) (μ1:=[]);(case hi|ha=>rfl);(case hp=>exact List.Perm.refl _);(case hd=>rfl);(case hν'=>intro e he;simp at he;simp [he]);rintro r1 G1 ν1 - ⟨hG1,hg1⟩;subst G1;obtain ⟨A1,c1,rfl,-,-⟩:=hg1.shape|apply x_buildSlice 1;(case hi=>rfl);(case hT=>infer_instance);(case hL=>infer_instance);(case hz|hl=>rfl);(case hv=>(simp only [List.map_cons,List.map_nil];repeat (first|with_reducible exact evs_nil|apply evs_cons;(case h1=>rfl))));(case hp=>(first|with_reducible exact pk_nil|apply pk_cons;(case hc|hs=>rfl);(case h=>(first|with_reducible exact pk_nil|apply pk_cons;(case hc|hs=>rfl);(case h=>(first|with_reducible exact pk_nil|apply pk_cons;(case hc|hs=>rfl);(case h=>(first|with_reducible exact pk_nil|apply pk_cons;(case hc|hs=>rfl);(case h=>(first|with_reducible exact pk_nil|apply pk_cons;(case hc|hs=>rfl);(case h=>(first|with_reducible exact pk_nil|apply pk_cons;(case hc|hs=>rfl);(case h=>(first|with_reducible exact pk_nil|apply pk_cons;(case hc|hs=>rfl);(case h=>(first|with_reducible exact pk_nil|apply pk_cons;(case hc|hs=>rfl);(case h=>(with_reducible exact pk_nil));(case he=>(first|((repeat (first|with_reducible exact ap_nil|apply ap_cons));done)|rfl))|rfl));(case he=>(first|((repeat (first|with_reducible exact ap_nil|apply ap_cons));done)|rfl))|rfl));(case he=>(first|((repeat (first|with_reducible exact ap_nil|apply ap_cons));done)|rfl))|rfl));(case he=>(first|((repeat (first|with_reducible exact ap_nil|apply ap_cons));done)|rfl))|rfl));(case he=>(first|((repeat (first|with_reducible exact ap_nil|apply ap_cons));done)|rfl))|rfl));(case he=>(first|((repeat (first|with_reducible exact ap_nil|apply ap_cons));done)|rfl))|rfl));(case he=>(first|((repeat (first|with_reducible exact ap_nil|apply ap_cons));done)|rfl))|rfl));(case he=>(first|((repeat (first|with_reducible exact ap_nil|apply ap_cons));done)|rfl))|rfl));(case hb|hd=>rfl);(case hν=>intro e he;first|exact he|(cases he;done)|(simp at he;simp [he];done)|(simp only [List.mem_cons,List.not_mem_nil,or_false] at he;rcases he with rfl|rfl<;>simp;done)|(simp only [List.mem_cons,List.not_mem_nil,or_false] at he;rcases he with rfl|rfl|rfl<;>simp;done)|(simp at he ⊢;try omega));intro b7|apply x_append 1 (hg:=hg) (q':=1) (us:=[.int .i64 xf,.slice A1 xm.length c1]) (hp:=PickA.perm (PickA.cons _ (PickA.app _ (PickA.cons _ (PickA.cons _ (PickA.cons _ (PickA.cons _ PickA.last))))))) (hsrc:=Src.own (e:=71) (List.Mem.head _) rfl);(case hi=>rfl);(case hT=>infer_instance);(case hL=>infer_instance);(case hzs=>rfl);(case hsz=>omega);(case hs|hx=>rfl);(case hb=>omega);(case hb'=>simp only [maxLen];omega);(case hd=>rfl);(case h1=>first|rfl|assumption);(case hν=>intro e he;first|exact he|(cases he;done)|(simp at he;simp [he];done)|(simp only [List.mem_cons,List.not_mem_nil,or_false] at he;rcases he with rfl|rfl<;>simp;done)|(simp only [List.mem_cons,List.not_mem_nil,or_false] at he;rcases he with rfl|rfl|rfl<;>simp;done)|(simp at he ⊢;try omega));intro v5 n5 g5;obtain ⟨A5,c5,rfl,-,-⟩:=g5.shape|fail
    all_goals (first|apply d_keep 6 (hop:=ReadOp.move ?hop);(case hi=>rfl);(case hr=>kernel_rfl);(case hop=>(apply r_load1;rfl;(apply Cell.own;(case h=>exact aM);rfl)));(case hd=>rfl)|((apply x_exec 6;(case hi=>rfl);(case hr=>kernel_rfl);(case hop=>exact ReadOp.move (r_load1 rfl (Cell.own aM rfl)));(case hd=>rfl);rintro _ G0 _ ⟨rfl,hG0,rfl⟩;subst G0;refine ⟨(by intro e he;simp at he;simp [he]),?_⟩))|((apply d_call 6 (hs:=qc) (μ1:=[]);(case hi=>rfl);(case hr=>kernel_rfl);(case ha=>rfl);(case hp=>exact List.Perm.refl _);(case hd=>rfl);(case hν'=>intro e he;simp at he;simp [he]);rintro r1 G1 ν1 - ⟨hG1,hg1⟩;subst G1;obtain ⟨A1,c1,rfl,-,-⟩:=hg1.shape))|apply d_buildSlice 6;(case hi=>rfl);(case hr=>kernel_rfl);(case hT=>infer_instance);(case hL=>infer_instance);(case hz|hl=>rfl);(case hv=>(simp only [List.map_cons,List.map_nil];repeat (first|with_reducible exact evs_nil|apply evs_cons;(case h1=>rfl))));(case hp=>(first|with_reducible exact pk_nil|apply pk_cons;(case hc|hs=>rfl);(case h=>(first|with_reducible exact pk_nil|apply pk_cons;(case hc|hs=>rfl);(case h=>(first|with_reducible exact pk_nil|apply pk_cons;(case hc|hs=>rfl);(case h=>(first|with_reducible exact pk_nil|apply pk_cons;(case hc|hs=>rfl);(case h=>(first|with_reducible exact pk_nil|apply pk_cons;(case hc|hs=>rfl);(case h=>(first|with_reducible exact pk_nil|apply pk_cons;(case hc|hs=>rfl);(case h=>(first|with_reducible exact pk_nil|apply pk_cons;(case hc|hs=>rfl);(case h=>(first|with_reducible exact pk_nil|apply pk_cons;(case hc|hs=>rfl);(case h=>(with_reducible exact pk_nil));(case he=>(first|((repeat (first|with_reducible exact ap_nil|apply ap_cons));done)|rfl))|rfl));(case he=>(first|((repeat (first|with_reducible exact ap_nil|apply ap_cons));done)|rfl))|rfl));(case he=>(first|((repeat (first|with_reducible exact ap_nil|apply ap_cons));done)|rfl))|rfl));(case he=>(first|((repeat (first|with_reducible exact ap_nil|apply ap_cons));done)|rfl))|rfl));(case he=>(first|((repeat (first|with_reducible exact ap_nil|apply ap_cons));done)|rfl))|rfl));(case he=>(first|((repeat (first|with_reducible exact ap_nil|apply ap_cons));done)|rfl))|rfl));(case he=>(first|((repeat (first|with_reducible exact ap_nil|apply ap_cons));done)|rfl))|rfl));(case he=>(first|((repeat (first|with_reducible exact ap_nil|apply ap_cons));done)|rfl))|rfl));(case hb|hd=>rfl);(case hν=>exact aE);intro b7|apply d_append 6 (hg:=hg) (q':=1) (us:=[.int .i64 xf,.slice A1 xm.length c1]) (hp:=PickA.perm (PickA.cons _ (PickA.app _ (PickA.cons _ (PickA.cons _ (PickA.cons _ (PickA.cons _ PickA.last))))))) (hsrc:=Src.own (e:=71) (List.Mem.head _) rfl);(case hi=>rfl);(case hr=>kernel_rfl);(case hT=>infer_instance);(case hL=>infer_instance);(case hzs=>rfl);(case hsz=>omega);(case hs|hx=>rfl);(case hb=>omega);(case hb'=>simp only [maxLen];omega);(case hd=>rfl);(case h1=>first|rfl|assumption);(case hν=>exact aE);intro v5 n5 g5;obtain ⟨A5,c5,rfl,-,-⟩:=g5.shape|apply d_store 6;(case hi=>rfl);(case hr=>kernel_rfl);(case hL=>infer_instance);(case hp|hx|hc|hsz|h1=>rfl);(case hb=>exact aM);(case hfit=>first|exact Nat.le_of_ble_eq_true rfl|rfl);(case hov=>(first|((repeat (first|with_reducible exact ov_nil|apply ov_cons|apply ov_there));done)|rfl));(case hu=>repeat first|exact Upd.here _ _|apply Upd.there|apply Upd.app);(case hν'=>exact aE)|fail)
    all_goals refine Dt [7] ?_
    all_goals (first|apply d_keep 8 (hop:=ReadOp.move ?hop);(case hi=>rfl);(case hr=>kernel_rfl);(case hop=>(apply r_load1;rfl;(apply Cell.own;(case h=>exact aM);rfl)));(case hd=>rfl)|((apply x_exec 8;(case hi=>rfl);(case hr=>kernel_rfl);(case hop=>exact ReadOp.move (r_load1 rfl (Cell.own aM rfl)));(case hd=>rfl);rintro _ G0 _ ⟨rfl,hG0,rfl⟩;subst G0;refine ⟨(by intro e he;simp at he;simp [he]),?_⟩))|((apply d_call 8 (hs:=qc) (μ1:=[]);(case hi=>rfl);(case hr=>kernel_rfl);(case ha=>rfl);(case hp=>exact List.Perm.refl _);(case hd=>rfl);(case hν'=>intro e he;simp at he;simp [he]);rintro r1 G1 ν1 - ⟨hG1,hg1⟩;subst G1;obtain ⟨A1,c1,rfl,-,-⟩:=hg1.shape))|apply d_buildSlice 8;(case hi=>rfl);(case hr=>kernel_rfl);(case hT=>infer_instance);(case hL=>infer_instance);(case hz|hl=>rfl);(case hv=>(simp only [List.map_cons,List.map_nil];repeat (first|with_reducible exact evs_nil|apply evs_cons;(case h1=>rfl))));(case hp=>(first|with_reducible exact pk_nil|apply pk_cons;(case hc|hs=>rfl);(case h=>(first|with_reducible exact pk_nil|apply pk_cons;(case hc|hs=>rfl);(case h=>(first|with_reducible exact pk_nil|apply pk_cons;(case hc|hs=>rfl);(case h=>(first|with_reducible exact pk_nil|apply pk_cons;(case hc|hs=>rfl);(case h=>(first|with_reducible exact pk_nil|apply pk_cons;(case hc|hs=>rfl);(case h=>(first|with_reducible exact pk_nil|apply pk_cons;(case hc|hs=>rfl);(case h=>(first|with_reducible exact pk_nil|apply pk_cons;(case hc|hs=>rfl);(case h=>(first|with_reducible exact pk_nil|apply pk_cons;(case hc|hs=>rfl);(case h=>(with_reducible exact pk_nil));(case he=>(first|((repeat (first|with_reducible exact ap_nil|apply ap_cons));done)|rfl))|rfl));(case he=>(first|((repeat (first|with_reducible exact ap_nil|apply ap_cons));done)|rfl))|rfl));(case he=>(first|((repeat (first|with_reducible exact ap_nil|apply ap_cons));done)|rfl))|rfl));(case he=>(first|((repeat (first|with_reducible exact ap_nil|apply ap_cons));done)|rfl))|rfl));(case he=>(first|((repeat (first|with_reducible exact ap_nil|apply ap_cons));done)|rfl))|rfl));(case he=>(first|((repeat (first|with_reducible exact ap_nil|apply ap_cons));done)|rfl))|rfl));(case he=>(first|((repeat (first|with_reducible exact ap_nil|apply ap_cons));done)|rfl))|rfl));(case he=>(first|((repeat (first|with_reducible exact ap_nil|apply ap_cons));done)|rfl))|rfl));(case hb|hd=>rfl);(case hν=>exact aE);intro b7|apply d_append 8 (hg:=hg) (q':=1) (us:=[.int .i64 xf,.slice A1 xm.length c1]) (hp:=PickA.perm (PickA.cons _ (PickA.app _ (PickA.cons _ (PickA.cons _ (PickA.cons _ (PickA.cons _ PickA.last))))))) (hsrc:=Src.own (e:=71) (List.Mem.head _) rfl);(case hi=>rfl);(case hr=>kernel_rfl);(case hT=>infer_instance);(case hL=>infer_instance);(case hzs=>rfl);(case hsz=>omega);(case hs|hx=>rfl);(case hb=>omega);(case hb'=>simp only [maxLen];omega);(case hd=>rfl);(case h1=>first|rfl|assumption);(case hν=>exact aE);intro v5 n5 g5;obtain ⟨A5,c5,rfl,-,-⟩:=g5.shape|apply d_store 8;(case hi=>rfl);(case hr=>kernel_rfl);(case hL=>infer_instance);(case hp|hx|hc|hsz|h1=>rfl);(case hb=>exact aM);(case hfit=>first|exact Nat.le_of_ble_eq_true rfl|rfl);(case hov=>(first|((repeat (first|with_reducible exact ov_nil|apply ov_cons|apply ov_there));done)|rfl));(case hu=>repeat first|exact Upd.here _ _|apply Upd.there|apply Upd.app);(case hν'=>exact aE)|fail)
    all_goals (first|apply d_keep 9 (hop:=ReadOp.move ?hop);(case hi=>rfl);(case hr=>kernel_rfl);(case hop=>(apply r_load1;rfl;(apply Cell.own;(case h=>exact aM);rfl)));(case hd=>rfl)|((apply x_exec 9;(case hi=>rfl);(case hr=>kernel_rfl);(case hop=>exact ReadOp.move (r_load1 rfl (Cell.own aM rfl)));(case hd=>rfl);rintro _ G0 _ ⟨rfl,hG0,rfl⟩;subst G0;refine ⟨(by intro e he;simp at he;simp [he]),?_⟩))|((apply d_call 9 (hs:=qc) (μ1:=[]);(case hi=>rfl);(case hr=>kernel_rfl);(case ha=>rfl);(case hp=>exact List.Perm.refl _);(case hd=>rfl);(case hν'=>intro e he;simp at he;simp [he]);rintro r1 G1 ν1 - ⟨hG1,hg1⟩;subst G1;obtain ⟨A1,c1,rfl,-,-⟩:=hg1.shape))|apply d_buildSlice 9;(case hi=>rfl);(case hr=>kernel_rfl);(case hT=>infer_instance);(case hL=>infer_instance);(case hz|hl=>rfl);(case hv=>(simp only [List.map_cons,List.map_nil];repeat (first|with_reducible exact evs_nil|apply evs_cons;(case h1=>rfl))));(case hp=>(first|with_reducible exact pk_nil|apply pk_cons;(case hc|hs=>rfl);(case h=>(first|with_reducible exact pk_nil|apply pk_cons;(case hc|hs=>rfl);(case h=>(first|with_reducible exact pk_nil|apply pk_cons;(case hc|hs=>rfl);(case h=>(first|with_reducible exact pk_nil|apply pk_cons;(case hc|hs=>rfl);(case h=>(first|with_reducible exact pk_nil|apply pk_cons;(case hc|hs=>rfl);(case h=>(first|with_reducible exact pk_nil|apply pk_cons;(case hc|hs=>rfl);(case h=>(first|with_reducible exact pk_nil|apply pk_cons;(case hc|hs=>rfl);(case h=>(first|with_reducible exact pk_nil|apply pk_cons;(case hc|hs=>rfl);(case h=>(with_reducible exact pk_nil));(case he=>(first|((repeat (first|with_reducible exact ap_nil|apply ap_cons));done)|rfl))|rfl));(case he=>(first|((repeat (first|with_reducible exact ap_nil|apply ap_cons));done)|rfl))|rfl));(case he=>(first|((repeat (first|with_reducible exact ap_nil|apply ap_cons));done)|rfl))|rfl));(case he=>(first|((repeat (first|with_reducible exact ap_nil|apply ap_cons));done)|rfl))|rfl));(case he=>(first|((repeat (first|with_reducible exact ap_nil|apply ap_cons));done)|rfl))|rfl));(case he=>(first|((repeat (first|with_reducible exact ap_nil|apply ap_cons));done)|rfl))|rfl));(case he=>(first|((repeat (first|with_reducible exact ap_nil|apply ap_cons));done)|rfl))|rfl));(case he=>(first|((repeat (first|with_reducible exact ap_nil|apply ap_cons));done)|rfl))|rfl));(case hb|hd=>rfl);(case hν=>exact aE);intro b7|apply d_append 9 (hg:=hg) (q':=1) (us:=[.int .i64 xf,.slice A1 xm.length c1]) (hp:=PickA.perm (PickA.cons _ (PickA.app _ (PickA.cons _ (PickA.cons _ (PickA.cons _ (PickA.cons _ PickA.last))))))) (hsrc:=Src.own (e:=71) (List.Mem.head _) rfl);(case hi=>rfl);(case hr=>kernel_rfl);(case hT=>infer_instance);(case hL=>infer_instance);(case hzs=>rfl);(case hsz=>omega);(case hs|hx=>rfl);(case hb=>omega);(case hb'=>simp only [maxLen];omega);(case hd=>rfl);(case h1=>first|rfl|assumption);(case hν=>exact aE);intro v5 n5 g5;obtain ⟨A5,c5,rfl,-,-⟩:=g5.shape|apply d_store 9;(case hi=>rfl);(case hr=>kernel_rfl);(case hL=>infer_instance);(case hp|hx|hc|hsz|h1=>rfl);(case hb=>exact aM);(case hfit=>first|exact Nat.le_of_ble_eq_true rfl|rfl);(case hov=>(first|((repeat (first|with_reducible exact ov_nil|apply ov_cons|apply ov_there));done)|rfl));(case hu=>repeat first|exact Upd.here _ _|apply Upd.there|apply Upd.app);(case hν'=>exact aE)|fail)
    all_goals refine Dt [10] ?_
    all_goals (first|apply d_keep 11 (hop:=ReadOp.move ?hop);(case hi=>rfl);(case hr=>kernel_rfl);(case hop=>(apply r_load1;rfl;(apply Cell.own;(case h=>exact aM);rfl)));(case hd=>rfl)|((apply x_exec 11;(case hi=>rfl);(case hr=>kernel_rfl);(case hop=>exact ReadOp.move (r_load1 rfl (Cell.own aM rfl)));(case hd=>rfl);rintro _ G0 _ ⟨rfl,hG0,rfl⟩;subst G0;refine ⟨(by intro e he;simp at he;simp [he]),?_⟩))|((apply d_call 11 (hs:=qc) (μ1:=[]);(case hi=>rfl);(case hr=>kernel_rfl);(case ha=>rfl);(case hp=>exact List.Perm.refl _);(case hd=>rfl);(case hν'=>intro e he;simp at he;simp [he]);rintro r1 G1 ν1 - ⟨hG1,hg1⟩;subst G1;obtain ⟨A1,c1,rfl,-,-⟩:=hg1.shape))|apply d_buildSlice 11;(case hi=>rfl);(case hr=>kernel_rfl);(case hT=>infer_instance);(case hL=>infer_instance);(case hz|hl=>rfl);(case hv=>(simp only [List.map_cons,List.map_nil];repeat (first|with_reducible exact evs_nil|apply evs_cons;(case h1=>rfl))));(case hp=>(first|with_reducible exact pk_nil|apply pk_cons;(case hc|hs=>rfl);(case h=>(first|with_reducible exact pk_nil|apply pk_cons;(case hc|hs=>rfl);(case h=>(first|with_reducible exact pk_nil|apply pk_cons;(case hc|hs=>rfl);(case h=>(first|with_reducible exact pk_nil|apply pk_cons;(case hc|hs=>rfl);(case h=>(first|with_reducible exact pk_nil|apply pk_cons;(case hc|hs=>rfl);(case h=>(first|with_reducible exact pk_nil|apply pk_cons;(case hc|hs=>rfl);(case h=>(first|with_reducible exact pk_nil|apply pk_cons;(case hc|hs=>rfl);(case h=>(first|with_reducible exact pk_nil|apply pk_cons;(case hc|hs=>rfl);(case h=>(with_reducible exact pk_nil));(case he=>(first|((repeat (first|with_reducible exact ap_nil|apply ap_cons));done)|rfl))|rfl));(case he=>(first|((repeat (first|with_reducible exact ap_nil|apply ap_cons));done)|rfl))|rfl));(case he=>(first|((repeat (first|with_reducible exact ap_nil|apply ap_cons));done)|rfl))|rfl));(case he=>(first|((repeat (first|with_reducible exact ap_nil|apply ap_cons));done)|rfl))|rfl));(case he=>(first|((repeat (first|with_reducible exact ap_nil|apply ap_cons));done)|rfl))|rfl));(case he=>(first|((repeat (first|with_reducible exact ap_nil|apply ap_cons));done)|rfl))|rfl));(case he=>(first|((repeat (first|with_reducible exact ap_nil|apply ap_cons));done)|rfl))|rfl));(case he=>(first|((repeat (first|with_reducible exact ap_nil|apply ap_cons));done)|rfl))|rfl));(case hb|hd=>rfl);(case hν=>exact aE);intro b7|apply d_append 11 (hg:=hg) (q':=1) (us:=[.int .i64 xf,.slice A1 xm.length c1]) (hp:=PickA.perm (PickA.cons _ (PickA.app _ (PickA.cons _ (PickA.cons _ (PickA.cons _ (PickA.cons _ PickA.last))))))) (hsrc:=Src.own (e:=71) (List.Mem.head _) rfl);(case hi=>rfl);(case hr=>kernel_rfl);(case hT=>infer_instance);(case hL=>infer_instance);(case hzs=>rfl);(case hsz=>omega);(case hs|hx=>rfl);(case hb=>omega);(case hb'=>simp only [maxLen];omega);(case hd=>rfl);(case h1=>first|rfl|assumption);(case hν=>exact aE);intro v5 n5 g5;obtain ⟨A5,c5,rfl,-,-⟩:=g5.shape|apply d_store 11;(case hi=>rfl);(case hr=>kernel_rfl);(case hL=>infer_instance);(case hp|hx|hc|hsz|h1=>rfl);(case hb=>exact aM);(case hfit=>first|exact Nat.le_of_ble_eq_true rfl|rfl);(case hov=>(first|((repeat (first|with_reducible exact ov_nil|apply ov_cons|apply ov_there));done)|rfl));(case hu=>repeat first|exact Upd.here _ _|apply Upd.there|apply Upd.app);(case hν'=>exact aE)|fail)
    all_goals refine Dd ?_
  all_goals repeat' (first|refine Wa ?_|(refine Wc ⟨?_,?_⟩<;>first|exact True.intro|intro h)|refine Wr ?_|(refine Wb ?_;intro b)|fail)
  all_goals
   (refine v_freezeP ν1 ((b3,.cells [.int .i64 ix,.int .i64 ac,.slice A5 (k+1) c5,.int .i64 z,.slice A lp.length c,.slice A' ls.length c'].toArray 59 (0,0))::(b2,.cells [.int .i64 0,.int .i64 0,.slice none 0 0,.int .i64 0,.slice none 0 0,.slice none 0 0].toArray 59 (0,0))::(b1,.cells [.int .i64 ix,.int .i64 ac,.slice C lc.length cc,.int .i64 z,.slice A lp.length c,.slice A' ls.length c'].toArray 59 (0,0))::n5) [(b7,_),(b5,_)] aV ?_
    intro G1 hle1 hG1
    refine Va rfl ⟨GH.le_trans hle hle1,k+1,A5,c5,css++[[.int .i64 xf,.slice A1 xm.length c1]],n5,by omega,rfl,?_,?_,rfl⟩
    ·rw [htk]
     obtain ⟨_,_,_,_,_,_,_,hw⟩:=hmk.openInt
     exact (hcc.le hle1).push rfl ⟨_,rfl,hwk,hg1.ints hG1 hw⟩
    ·simpa using g5)
 ·obtain rfl:k=lc.length:=by omega
  rw [List.take_length] at hcc
  have hcn:=hcn G' hle
  repeat' (first|apply v_read;(case hop=>(apply r_loadNo;(case hx=>rfl);(case h=>exact aM);(case hd|hn=>rfl)));(case hd=>rfl)|refine Wa ?_|(refine Wc ⟨?_,?_⟩<;>first|exact True.intro|intro h)|refine Wr ?_|(refine Wb ?_;intro b)|fail)
  refine cQ rfl hcn ?_
  rintro _ G2 ν2 - ⟨hG2,bp,bs,rfl,rfl⟩
  subst hG2
  refine v_frz [(bs,.cells (rowC Ss.cells ls).toArray 241 (0,0)),(bp,.cells (rowC Pr.cells lp).toArray 257 (0,0))] (PickA.here _) ?_
  intro G3 hle3 hG3
  have hs3:StV G3 ⟨z,lp,ls⟩ _:=StV.made (s:=⟨z,lp,ls⟩) (bp:=bp) (bs:=bs) hsz.1 hsz.2 (hG3 _ _ aM) (hG3 _ _ aM)
  repeat' (first|apply v_read;(case hop=>(apply r_loadNo;(case hx=>rfl);(case h=>exact aM);(case hd|hn=>rfl)));(case hd=>rfl)|refine Wa ?_|(refine Wc ⟨?_,?_⟩<;>first|exact True.intro|intro h)|refine Wr ?_|(refine Wb ?_;intro b)|fail)
  refine v_frz ν (PickA.cons _ (PickA.cons _ (PickA.cons _ PickA.last))) ?_
  intro G4 hle4 hG4
  have hs4:=hs3.up hle4
  have hC4:=hcc.grow hg (GH.le_trans hle3 hle4) hG4
  refine v_retM [] (outsM_cell (sz:=6) (vs:=[.int .i64 ix,.int .i64 ac,.slice O lc.length oc,.int .i64 z,.slice (some ⟨bp,0,none⟩) lp.length lp.length,.slice (some ⟨bs,0,none⟩) ls.length ls.length]) (e:=59) rfl rfl aM rfl) (List.nil_sublist _) ⟨rfl,?_⟩
  exact ImV.mk' hC4 hs4
theorem Cos.made1 {G:GH}{x:Int}{l:List Int}{A:Option Addr}{c b:Nat}(hx:(Lit.int .i64 x).wf=true) (hl:Sl G 1 (IntR .i64) (.slice A l.length c) l) (hb:G b=some (.cells [Value.int .i64 x,.slice A l.length c].toArray 71 (0,0))):Cos G (.slice (some ⟨b,0,none⟩) 1 1) [(x,l)]:=by
 have h0:CoCells G [(x,l)] [[Value.int .i64 x,.slice A l.length c]]:=CoCells.push (l:=[]) (css:=[]) CoCells.nil rfl ⟨_,rfl,hx,hl⟩
 refine h0.grow (ν:=[(b,.cells [Value.int .i64 x,.slice A l.length c].toArray 71 (0,0))]) ⟨rfl,.inr ⟨b,1,[],rfl,rfl,by simp,by simp [maxLen],rfl⟩⟩ (GH.le_refl _) (fun b' o h=>?_)
 simp only [List.mem_singleton] at h
 cases h
 exact hb
noncomputable def firstI (l:List Int):Im:=if ConfOK [(1,l)] then ⟨0,0,[(1,l)],emp⟩ else zeroIm
theorem ImV.zero (G:GH):ImV G zeroIm (.agg [.int .i64 0,.int .i64 0,.slice none 0 0,.int .i64 0,.slice none 0 0,.slice none 0 0].toArray):=ImV.mk' Sl.nil (StV.zero G)
theorem winFirst_s {G:GH}{l:List Int}{v:Value}(hs:Sl G 1 (IntR .i64) v l) (hl:l.length≤1000) :
 Con Tryz.prog 20 #[v] G [] (fun r G' μ'=>μ'=[]∧∃ v',r=.tuple [v',.int .i64 (if ConfOK [(1,l)] then 0 else 3)].toArray∧ImV G' (firstI l) v'):=by
 have qc:=clone_s hs (by omega)
 obtain ⟨_,_,_,_,_,_,_,hw⟩:=hs.openInt
 have hfi:firstI l=if ConfOK [(1,l)] then ⟨0,0,[(1,l)],emp⟩ else zeroIm:=rfl
 rw [hfi]
 clear hfi
 (refine v_enter Tryz.func20 rfl Tryz.ntmps20 rfl ?_;intro B _)
 repeat' (first|apply v_alloc (d:=2);(case hz|hd=>rfl);intro b2|refine Wa ?_|(refine Wc ⟨?_,?_⟩<;>first|exact True.intro|intro h)|refine Wr ?_|(refine Wb ?_;intro b)|fail)
 refine cQ rfl qc ?_
 rintro r1 G1 ν1 - ⟨hG1,hg1⟩
 subst hG1
 obtain ⟨A1,c1,rfl,-,-⟩:=hg1.shape
 refine v_frz ν1 (PickA.here _) ?_
 intro G2 hle2 hG2
 have hl2:=hg1.ints hG2 hw
 repeat' (first|apply v_buildSlice;(case hz|hi=>rfl);(case hv=>(simp only [List.map_cons,List.map_nil];repeat (first|with_reducible exact evs_nil|apply evs_cons;(case h1=>rfl))));(case hp=>(first|with_reducible exact pk_nil|apply pk_cons;(case hc|hs=>rfl);(case h=>(first|with_reducible exact pk_nil|apply pk_cons;(case hc|hs=>rfl);(case h=>(first|with_reducible exact pk_nil|apply pk_cons;(case hc|hs=>rfl);(case h=>(first|with_reducible exact pk_nil|apply pk_cons;(case hc|hs=>rfl);(case h=>(first|with_reducible exact pk_nil|apply pk_cons;(case hc|hs=>rfl);(case h=>(first|with_reducible exact pk_nil|apply pk_cons;(case hc|hs=>rfl);(case h=>(first|with_reducible exact pk_nil|apply pk_cons;(case hc|hs=>rfl);(case h=>(first|with_reducible exact pk_nil|apply pk_cons;(case hc|hs=>rfl);(case h=>(with_reducible exact pk_nil));(case he=>(first|((repeat (first|with_reducible exact ap_nil|apply ap_cons));done)|rfl))|rfl));(case he=>(first|((repeat (first|with_reducible exact ap_nil|apply ap_cons));done)|rfl))|rfl));(case he=>(first|((repeat (first|with_reducible exact ap_nil|apply ap_cons));done)|rfl))|rfl));(case he=>(first|((repeat (first|with_reducible exact ap_nil|apply ap_cons));done)|rfl))|rfl));(case he=>(first|((repeat (first|with_reducible exact ap_nil|apply ap_cons));done)|rfl))|rfl));(case he=>(first|((repeat (first|with_reducible exact ap_nil|apply ap_cons));done)|rfl))|rfl));(case he=>(first|((repeat (first|with_reducible exact ap_nil|apply ap_cons));done)|rfl))|rfl));(case he=>(first|((repeat (first|with_reducible exact ap_nil|apply ap_cons));done)|rfl))|rfl));(case hb|hd=>rfl);intro b9|refine Wa ?_|(refine Wc ⟨?_,?_⟩<;>first|exact True.intro|intro h)|refine Wr ?_|(refine Wb ?_;intro b)|fail)
 refine v_frz [(b9,.cells [Value.int .i64 1,.slice A1 l.length c1].toArray 71 (0,0))] (PickA.here _) ?_
 intro G3 hle3 hG3
 have hC:=Cos.made1 (x:=1) (WalkArith.wf_i64 (by decide)) (hl2.mono hle3) (hG3 _ _ aM)
 have qk:=check_s hC
 by_cases hok:ConfOK [(1,l)]
 ·rw [if_pos hok] at qk
  rw [if_pos hok,if_pos hok]
  have qe:=empty_s G3
  repeat' (first|refine Wa ?_|(refine Wc ⟨?_,?_⟩<;>first|exact True.intro|intro h)|refine cJ qk ?_|refine cJ qe ?_|refine Wr ?_|(refine Wb ?_;intro b)|fail)
  refine v_retM [] (outsM_cell_tmp (sz:=6) (vs:=[.int .i64 0,.int .i64 0,.slice (some ⟨b9,0,none⟩) 1 1,.int .i64 1,.slice none 0 0,.slice none 0 0]) (e:=59) rfl rfl rfl aM rfl) (List.nil_sublist _) ⟨rfl,_,rfl,?_⟩
  exact ImV.mk' (l:=[(1,l)]) hC (emp_v G3)
 ·rw [if_neg hok] at qk
  rw [if_neg hok,if_neg hok]
  repeat' (first|refine Wa ?_|(refine Wc ⟨?_,?_⟩<;>first|exact True.intro|intro h)|refine cJ qk ?_|refine Wr ?_|(refine Wb ?_;intro b)|fail)
  refine v_retM [] (outsM_cell_tmp (sz:=6) (vs:=[.int .i64 0,.int .i64 0,.slice none 0 0,.int .i64 0,.slice none 0 0,.slice none 0 0]) (e:=59) rfl rfl rfl aM rfl) (List.nil_sublist _) ⟨rfl,_,rfl,?_⟩
  exact ImV.zero G3
end Go.Proofs.YtkofafmiabmobaaGreatDoor
/-
  node, cluster (layers 40, 41): a node that is down from its beginning on.
-/
set_option maxHeartbeats 2000000
namespace Go.Proofs.YtkofafmiabmobaaGreatDoor
open Go.Vx Go.ChangeShapes Go.WideShapes Go.ChangeAt Go.RowKit
def dkO0 (m:Nat):Obj:=.cells [.map (some m),.slice none 0 0].toArray 235 (0,0)
theorem dnew0_s {G:GH}:Con Tryz.prog 97 #[] G [] (fun v G' μ'=>G'=G∧∃ d m,v=.pointer (some ⟨d,0,none⟩)∧μ'=[(d,dkO0 m),(m,.map #[] 0)]):=by
 (refine v_enter Tryz.func97 rfl Tryz.ntmps97 rfl ?_;intro B _)
 repeat' (first|refine Wa ?_|(refine Wc ⟨?_,?_⟩<;>first|exact True.intro|intro h)|apply v_makeMap;(case hd=>rfl);intro m|(refine Wb ?_;intro b)|fail)
 refine v_ret [(b,_),(m,_)] (outsA1 rfl rfl) sS ⟨rfl,b,m,rfl,rfl⟩
abbrev imL (m:Im) (C:Option Addr) (cc:Nat) (A:Option Addr) (c:Nat) (A':Option Addr) (c':Nat):List Value:=[.int .i64 m.index,.int .i64 m.active,.slice C m.confs.length cc,.int .i64 m.st.schema,.slice A m.st.pairs.length c,.slice A' m.st.sess.length c']
abbrev lifeZ:List Value:=[.int .i64 0,.pointer none,.pointer none,.pointer none,.pointer none,.pointer none,.int .i64 0,.int .i64 0,.slice none 0 0,.map none,.slice none 0 0,.slice none 0 0,.slice none 0 0]
abbrev ndL (life:List Value) (id nodes:Int) (F:List Value) (d:Nat) (I:List Value) (why:Int):List Value:=life++([.int .i64 id,.int .i64 nodes]++F++[.pointer (some ⟨d,0,none⟩)]++I++[.int .i64 why])
abbrev ndO (l:List Value):Obj:=.cells l.toArray 176 (0,0)
def NewNd (G:GH) (id nodes:Int) (m:Im) (p:Nat) (ν:OH):Prop := ∃ d dm F I,ImV G m (.agg F.toArray)∧ImV G m (.agg I.toArray)∧F.length=6∧I.length=6∧ν=[(p,ndO (ndL lifeZ id nodes F d I 0)),(d,dkO0 dm),(dm,.map #[] 0)]
noncomputable def newE (id nodes:Int) (ml:List Int):Int:=if id<1∨nodes<id∨9<nodes then 6 else if ¬ ConfOK [(1,ml)] then 3 else if nodes<ml.getLastD 0 then 16 else 0
set_option maxHeartbeats 1000000 in
theorem nodeNew_s {G:GH}{ml:List Int}{sv:Value}(hs:Sl G 1 (IntR .i64) sv ml) (hl:ml.length≤1000) (nid nodes:Int) :
 Con Tryz.prog 42 #[.int .i64 nid,.int .i64 nodes,sv] G [] (fun r G' μ'=>(newE nid nodes ml≠0∧r=.tuple [.pointer none,.int .i64 (newE nid nodes ml)].toArray∧μ'=[])∨(newE nid nodes ml=0∧∃ p,r=.tuple [.pointer (some ⟨p,0,none⟩),.int .i64 0].toArray∧NewNd G' nid nodes (firstI ml) p μ')):=by
 have q1:=winFirst_s hs hl
 have hs0:=hs
 obtain ⟨SA,sc,rfl,hsc,hsm,hsome,hel,hsw⟩:=hs.openInt
 simp only [maxLen] at hsm
 have hE:newE nid nodes ml=if nid<1∨nodes<nid∨9<nodes then 6 else if ¬ ConfOK [(1,ml)] then 3 else if nodes<ml.getLastD 0 then 16 else 0:=rfl
 generalize newE nid nodes ml=e at *
 (refine v_enter Tryz.func42 rfl Tryz.ntmps42 rfl ?_;intro B _)
 by_cases h1:nid<1∨nodes<nid∨9<nodes
 ·rw [if_pos h1] at hE
  repeat' (first|refine Wa ?_|(refine Wc ⟨?_,?_⟩<;>first|exact True.intro|intro h)|refine Wr ?_|(refine Wb ?_;intro b)|fail)
  all_goals exact v_ret [] (outsA2 rfl rfl rfl) sS (.inl ⟨by omega,by rw [hE],rfl⟩)
 ·rw [if_neg h1] at hE
  repeat' (first|refine Wa ?_|(refine Wc ⟨?_,?_⟩<;>first|exact True.intro|intro h)|refine Wr ?_|(refine Wb ?_;intro b)|fail)
  refine cQ rfl q1 ?_
  rintro _ G1 _ hle1 ⟨rfl,v1,rfl,hv1⟩
  obtain ⟨C1,cc1,A1,c1,A1',c1',rfl,hC1,hp1,hss1⟩:=id hv1
  by_cases hP:ConfOK [(1,ml)]
  ·rw [if_neg (by simpa using hP)] at hE
   have h0:0<ml.length:=(hP.2 0 (by simp)).1.1
   have hA:=hsome h0
   have hlast:ml.getLastD 0=ml[ml.length-1]'(by omega):=by
    rw [List.getLastD_eq_getLast?,List.getLast?_eq_getElem?,List.getElem?_eq_getElem (by omega)]
    rfl
   have hcl:=GH.cell_le hle1 (hel (ml.length-1) (by omega))
   have hwl:=hsw (ml[ml.length-1]'(by omega)) (List.getElem_mem _)
   have e1:(((ml.length:Nat):Int)-1).toNat=ml.length-1:=by omega
   rw [hlast] at hE
   rw [if_pos hP]
   generalize ml[ml.length-1]'(by omega)=z at *
   repeat' (first|apply v_read;(case hop=>(apply r_loadNo;(case hx=>rfl);(case h=>exact aM);(case hd|hn=>rfl)));(case hd=>rfl)|apply v_alloc (d:=8);(case hz|hd=>rfl);intro b8|refine Wa ?_|(refine Wc ⟨?_,?_⟩<;>first|exact True.intro|intro h)|apply v_read;(case hop=>(apply r_load1;rfl;exact Cell.frozen (by rw [e1];exact hcl)));(case hd=>rfl)|refine Wr ?_|(refine Wb ?_;intro b)|fail)
   ·exact v_ret [] (outsA2 rfl rfl rfl) sS (.inl ⟨by rw [hE,if_pos (by assumption)];decide,by rw [hE,if_pos (by assumption)],rfl⟩)
   ·have hm0:ImP (firstI ml):=by rw [show firstI ml=⟨0,0,[(1,ml)],emp⟩ from if_pos hP];exact ⟨⟨by simp,by simp,by simp,by simp⟩,hP,emp_ok,by simp⟩
    have hcl1:(firstI ml).confs.length≤1:=by rw [show firstI ml=⟨0,0,[(1,ml)],emp⟩ from if_pos hP];simp
    have qc:=fun G' (h:GH.le G1 G')=>winClone_s (hv1.up h) hm0.2.2.1.small (hm0.2.1.coZ (by omega))
    refine Dz _ ?_
    all_goals refine Dt [0,1] ?_
    all_goals (first|refine Tv 2 ?_ (hop:=by first|apply r_loadNo;(case hx=>rfl);(case h=>exact List.Mem.head _);(case hd|hn=>rfl)|fail)|refine Dt [2] ?_)
    all_goals (first|refine Tv 4 ?_ (hop:=by first|apply r_loadNo;(case hx=>rfl);(case h=>exact List.Mem.head _);(case hd|hn=>rfl)|fail)|refine Dt [4] ?_)
    all_goals (first|((apply d_call 3 (hs:=dnew0_s) (μ1:=[]);(case hi=>rfl);(case hr=>kernel_rfl);(case ha=>rfl);(case hp=>exact List.Perm.refl _);(case hd=>rfl);(case hν'=>intro e he;exact he);rintro _ G2 _ hle2 ⟨hG2,d,dm,rfl,rfl⟩;subst G2))|((apply d_call 3 (hs:=qc _ (GH.le_refl _)) (μ1:=[]);(case hi=>rfl);(case hr=>kernel_rfl);(case ha=>rfl);(case hp=>exact List.Perm.refl _);(case hd=>rfl);(case hν'=>intro e he;simp at he;simp [he]);rintro v3 G3 _ hle3 ⟨rfl,hv3⟩;obtain ⟨C3,cc3,A3,c3,A3',c3',rfl,hC3,hp3,hss3⟩:=id hv3))|((apply d_exec 3;(case hi=>rfl);(case hr=>kernel_rfl);(case hop=>exact m_box rfl rfl);(case hd=>rfl);rintro _ _ _ ⟨nb,rfl,rfl,rfl⟩;refine ⟨(by intro e he;simp at he;simp [he]),?_⟩))|fail)
    all_goals (first|((apply d_call 5 (hs:=dnew0_s) (μ1:=[]);(case hi=>rfl);(case hr=>kernel_rfl);(case ha=>rfl);(case hp=>exact List.Perm.refl _);(case hd=>rfl);(case hν'=>intro e he;exact he);rintro _ G2 _ hle2 ⟨hG2,d,dm,rfl,rfl⟩;subst G2))|((apply d_call 5 (hs:=qc _ (GH.le_refl _)) (μ1:=[]);(case hi=>rfl);(case hr=>kernel_rfl);(case ha=>rfl);(case hp=>exact List.Perm.refl _);(case hd=>rfl);(case hν'=>intro e he;simp at he;simp [he]);rintro v3 G3 _ hle3 ⟨rfl,hv3⟩;obtain ⟨C3,cc3,A3,c3,A3',c3',rfl,hC3,hp3,hss3⟩:=id hv3))|((apply d_exec 5;(case hi=>rfl);(case hr=>kernel_rfl);(case hop=>exact m_box rfl rfl);(case hd=>rfl);rintro _ _ _ ⟨nb,rfl,rfl,rfl⟩;refine ⟨(by intro e he;simp at he;simp [he]),?_⟩))|fail)
    all_goals refine Dt [6] ?_
    all_goals (first|((apply d_call 7 (hs:=dnew0_s) (μ1:=[]);(case hi=>rfl);(case hr=>kernel_rfl);(case ha=>rfl);(case hp=>exact List.Perm.refl _);(case hd=>rfl);(case hν'=>intro e he;exact he);rintro _ G2 _ hle2 ⟨hG2,d,dm,rfl,rfl⟩;subst G2))|((apply d_call 7 (hs:=qc _ (GH.le_refl _)) (μ1:=[]);(case hi=>rfl);(case hr=>kernel_rfl);(case ha=>rfl);(case hp=>exact List.Perm.refl _);(case hd=>rfl);(case hν'=>intro e he;simp at he;simp [he]);rintro v3 G3 _ hle3 ⟨rfl,hv3⟩;obtain ⟨C3,cc3,A3,c3,A3',c3',rfl,hC3,hp3,hss3⟩:=id hv3))|((apply d_exec 7;(case hi=>rfl);(case hr=>kernel_rfl);(case hop=>exact m_box rfl rfl);(case hd=>rfl);rintro _ _ _ ⟨nb,rfl,rfl,rfl⟩;refine ⟨(by intro e he;simp at he;simp [he]),?_⟩))|fail)
    all_goals refine Dt [8,9] ?_
    all_goals refine Dd ?_
    all_goals repeat' (first|refine Wa ?_|(refine Wc ⟨?_,?_⟩<;>first|exact True.intro|intro h)|refine Wr ?_|(refine Wb ?_;intro b)|fail)
    all_goals exact v_ret [(nb,_),(d,_),(dm,_)] (outsA2 rfl rfl rfl) sS (.inr ⟨by rw [hE,if_neg (by assumption)],nb,rfl,d,dm,imL (firstI ml) C1 cc1 A1 c1 A1' c1',imL (firstI ml) C3 cc3 A3 c3 A3' c3',hv1.up hle3,hv3,rfl,rfl,rfl⟩)
  ·rw [if_pos hP] at hE
   rw [if_neg hP]
   repeat' (first|apply v_read;(case hop=>(apply r_loadNo;(case hx=>rfl);(case h=>exact aM);(case hd|hn=>rfl)));(case hd=>rfl)|apply v_alloc (d:=8);(case hz|hd=>rfl);intro b8|refine Wa ?_|(refine Wc ⟨?_,?_⟩<;>first|exact True.intro|intro h)|refine Wr ?_|(refine Wb ?_;intro b)|fail)
   exact v_ret [] (outsA2 rfl rfl rfl) sS (.inl ⟨by omega,by rw [hE],rfl⟩)
end Go.Proofs.YtkofafmiabmobaaGreatDoor
/-
  cluster (layer 41): a cluster at its beginning.
-/
set_option maxHeartbeats 2000000
namespace Go.Proofs.YtkofafmiabmobaaGreatDoor
open Go.Vx Go.ChangeShapes Go.WideShapes Go.ChangeAt Go.RowKit
abbrev ptrs (ps:List Nat):List Value:=ps.map fun p=>Value.pointer (some ⟨p,0,none⟩)
theorem ptrs_snoc (ps:List Nat) (p:Nat):ptrs (ps++[p])=ptrs ps++[.pointer (some ⟨p,0,none⟩)]:=by simp
def NdsR (Q:Nat→Nat→OH→Prop) (ps:List Nat) (ν:OH):Prop := ∃ νs:List OH,νs.length=ps.length∧ν=νs.flatten∧∀ i (h:i<ps.length) (h':i<νs.length),Q (i+1) ps[i] νs[i]
theorem NdsR.nil {Q:Nat→Nat→OH→Prop}:NdsR Q [] []:=⟨[],rfl,rfl,fun i h=>by simp at h⟩
theorem NdsR.snoc {Q:Nat→Nat→OH→Prop}{ps:List Nat}{ν:OH}(h:NdsR Q ps ν) {p:Nat}{ν':OH}(h':Q (ps.length+1) p ν'):NdsR Q (ps++[p]) (ν++ν'):=by
 obtain ⟨νs,hl,rfl,hq⟩:=h
 refine ⟨νs++[ν'],by simp [hl],by simp,fun i hi hi'=>?_⟩
 by_cases hlt:i<ps.length
 ·rw [List.getElem_append_left hlt,List.getElem_append_left (by omega)]
  exact hq i hlt (by omega)
 ·have:i=ps.length:=by simp at hi;omega
  subst this
  rw [List.getElem_append_right (Nat.le_refl _),List.getElem_append_right (by omega)]
  simp only [Nat.sub_self,List.getElem_cons_zero,hl]
  exact h'
theorem NdsR.imp {Q Q':Nat→Nat→OH→Prop}{ps:List Nat}{ν:OH}(h:NdsR Q ps ν) (hi:∀ i p ν,Q i p ν→Q' i p ν):NdsR Q' ps ν:=by
 obtain ⟨νs,hl,rfl,hq⟩:=h
 exact ⟨νs,hl,rfl,fun i h1 h2=>hi _ _ _ (hq i h1 h2)⟩
theorem NdsR.pick {Q:Nat→Nat→OH→Prop}{ps:List Nat}{ν:OH}(h:NdsR Q ps ν) {i:Nat}(hi:i<ps.length):∃ ν1 νr,Q (i+1) ps[i] ν1∧ν.Perm (ν1++νr)∧∀ ν2,Q (i+1) ps[i] ν2→∃ ν',NdsR Q ps ν'∧(ν2++νr).Perm ν':=by
 obtain ⟨νs,hl,rfl,hq⟩:=h
 have hi':i<νs.length:=by omega
 have e:νs=νs.take i++νs[i]::νs.drop (i+1):=by rw [List.getElem_cons_drop,List.take_append_drop]
 have pp:∀ (a b c:OH),(a++(b++c)).Perm (b++(a++c)):=fun a b c=>by
  rw [← List.append_assoc,← List.append_assoc]
  exact List.perm_append_comm.append_right c
 refine ⟨νs[i],(νs.take i).flatten++(νs.drop (i+1)).flatten,hq i hi hi',?_,fun ν2 h2=>⟨(νs.set i ν2).flatten,⟨νs.set i ν2,by simp [hl],rfl,fun j h1 h3=>?_⟩,?_⟩⟩
 ·conv=>lhs;rw [e]
  rw [List.flatten_append,List.flatten_cons]
  exact pp _ _ _
 ·by_cases hji:i=j
  ·subst hji;rw [List.getElem_set_self];exact h2
  ·rw [List.getElem_set_ne hji];exact hq j h1 (by simpa using h3)
 ·rw [List.set_eq_take_append_cons_drop,if_pos hi',List.flatten_append,List.flatten_cons]
  exact (pp _ _ _).symm
abbrev nilS:Value:=.slice none 0 0
abbrev clZ (sl:Value) (bg lm:Nat):List Value:=[sl,.pointer (some ⟨bg,0,none⟩),.int .i64 0,nilS,nilS,nilS,nilS,nilS,nilS,nilS,nilS,nilS,.map (some lm),.int .i64 0,.int .i64 0,.int .i64 0,.int .i64 0,.int .i64 0,.int .i64 0,.int .i64 0,.int .i64 0,.int .i64 0,.int .i64 0,.int .i64 0,.int .i64 0]
abbrev clO (l:List Value):Obj:=.cells l.toArray 98 (0,0)
abbrev bagO (v:Value):Obj:=.cells [v].toArray 163 (0,0)
theorem bagNew_s {G:GH}:Con Tryz.prog 41 #[] G [] (fun v G' μ'=>G'=G∧∃ b,v=.pointer (some ⟨b,0,none⟩)∧μ'=[(b,bagO nilS)]):=by
 (refine v_enter Tryz.func41 rfl Tryz.ntmps41 rfl ?_;intro B _)
 repeat' (first|refine Wa ?_|(refine Wc ⟨?_,?_⟩<;>first|exact True.intro|intro h)|(refine Wb ?_;intro b)|fail)
 refine v_ret [(b,_)] (outsA1 rfl rfl) sS ⟨rfl,b,rfl,rfl⟩
theorem newE_next {nodes:Int}{ml:List Int}(h:newE 1 nodes ml=0) {id:Int}(h1:1≤id) (h2:id≤nodes):newE id nodes ml=0:=by
 unfold newE at h ⊢
 by_cases h3:(1:Int)<1∨nodes<1∨9<nodes
 ·rw [if_pos h3] at h;simp at h
 ·rw [if_neg h3] at h
  rw [if_neg (by omega)]
  exact h
theorem newE_nodes {nodes:Int}{ml:List Int}(h:newE 1 nodes ml=0):1≤nodes∧nodes≤9∧ConfOK [(1,ml)]:=by
 unfold newE at h
 by_cases h3:(1:Int)<1∨nodes<1∨9<nodes
 ·rw [if_pos h3] at h;simp at h
 ·rw [if_neg h3] at h
  refine ⟨by omega,by omega,?_⟩
  by_cases hP:ConfOK [(1,ml)]
  ·exact hP
  ·rw [if_pos hP] at h;simp at h
theorem NewNd.up {G G':GH}(hle:GH.le G G') {id nodes:Int}{m:Im}{p:Nat}{ν:OH}(h:NewNd G id nodes m p ν):NewNd G' id nodes m p ν:=by
 obtain ⟨d,dm,F,I,h1,h2,h3,h4,h5⟩:=h
 exact ⟨d,dm,F,I,h1.up hle,h2.up hle,h3,h4,h5⟩
abbrev NewNds (G:GH) (nodes:Int) (m:Im):List Nat→OH→Prop:=NdsR fun i p ν=>NewNd G i nodes m p ν
set_option maxHeartbeats 2000000 in
theorem clusterNew_s {G:GH}{ml:List Int}{sv:Value}(hs:Sl G 1 (IntR .i64) sv ml) (hl:ml.length≤1000) (nodes:Int) (hn:(Lit.int .i64 nodes).wf=true) :
 Con Tryz.prog 17 #[.agg [.int .i64 nodes,sv].toArray] G [] (fun r G' μ'=>(newE 1 nodes ml≠0∧r=.tuple [.pointer none,.int .i64 (newE 1 nodes ml)].toArray∧μ'=[])∨(newE 1 nodes ml=0∧∃ cb bg lm ps sl νs νn,r=.tuple [.pointer (some ⟨cb,0,none⟩),.int .i64 0].toArray∧(ps.length:Int)=nodes∧Grow 99 1 sl ps.length (ptrs ps) νs∧NewNds G' nodes (firstI ml) ps νn∧μ'=(cb,clO (clZ sl bg lm))::(bg,bagO nilS)::(lm,.map #[] 0)::(νs++νn))):=by
 have hib:=bounds_i64 hn
 obtain ⟨SA,sc,rfl,hsc,hsm,hsome,hel,hsw⟩:=id hs.openInt
 have qn:=fun G' (h:GH.le G G') (id:Int)=>nodeNew_s (hs.mono h) hl id nodes
 (refine v_enter Tryz.func17 rfl Tryz.ntmps17 rfl ?_;intro B _)
 repeat' (first|apply v_box (d:=1) (zs:=[.int .i64 nodes,.slice SA ml.length sc]);(case hx|hz|hd=>rfl);intro b1|refine Wa ?_|(refine Wc ⟨?_,?_⟩<;>first|exact True.intro|intro h)|refine Wr ?_|(refine Wb ?_;intro b)|fail)
 refine cQ rfl bagNew_s ?_
 rintro _ G1 _ - ⟨hG1,bg,rfl,rfl⟩
 subst G1
 repeat' (first|apply v_box (d:=11) (zs:=clZ nilS bg lm);(case hx|hz|hd=>rfl);intro cb|refine Wa ?_|(refine Wc ⟨?_,?_⟩<;>first|exact True.intro|intro h)|apply v_makeMap;(case hd=>rfl);intro lm|refine Wr ?_|(refine Wb ?_;intro b)|fail)
 refine v_perm (ν:=(cb,clO (clZ nilS bg lm))::(bg,bagO nilS)::(lm,.map #[] 0)::(b1,.cells [.int .i64 nodes,.slice SA ml.length sc].toArray 50 (0,0))::([]++[])) aV ?_
 refine v_loop [5,4,1] (fun us G' μ'=>GH.le G G'∧∃ (k:Nat) (ps:List Nat) (sl:Value) (νs νn:OH),(k:Int)≤max 1 (min nodes 10)∧ps.length=k∧us=[Value.int .i64 ((k:Nat)+1),.pointer (some ⟨cb,0,none⟩),.pointer (some ⟨b1,0,none⟩)]∧Grow 99 1 sl ps.length (ptrs ps) νs∧NewNds G' nodes (firstI ml) ps νn∧(0<k→newE 1 nodes ml=0)∧μ'=(cb,clO (clZ sl bg lm))::(bg,bagO nilS)::(lm,.map #[] 0)::(b1,.cells [.int .i64 nodes,.slice SA ml.length sc].toArray 50 (0,0))::(νs++νn)) (fun us=>11-(headI us).toNat) rfl ⟨GH.le_refl _,0,[],nilS,[],[],by omega,rfl,rfl,Grow.nil _ _,NdsR.nil,by omega,rfl⟩ ?_
 rintro us G' _ ⟨hle,k,ps,sl,νs,νn,hk,hps,rfl,hg,hN,hE0,rfl⟩
 subst hps
 by_cases hlt:(ps.length:Int)<max 1 (min nodes 10)
 ·repeat' (first|apply v_read;(case hop=>(apply r_load1;rfl;(apply Cell.own;(case h=>exact aM);rfl)));(case hd=>rfl)|refine Wa ?_|(refine Wc ⟨?_,?_⟩<;>first|exact True.intro|intro h)|refine Wr ?_|(refine Wb ?_;intro b)|fail)
  refine cQ rfl (qn G' hle ((ps.length:Nat)+1)) ?_
  rintro _ G2 ν2 hle2 (⟨hE,rfl,rfl⟩|⟨hE,p,rfl,hp⟩)
  ·have hz:ps.length=0:=by
    rcases Nat.eq_zero_or_pos ps.length with h|h
    ·exact h
    ·have h0:=newE_nodes (hE0 h)
     exact absurd (newE_next (hE0 h) (by omega) (by omega)) hE
   rw [hz] at hE ⊢
   rw [show ((0:Nat):Int)+1=1 from rfl] at hE ⊢
   repeat' (first|refine Wa ?_|(refine Wc ⟨?_,?_⟩<;>first|exact True.intro|intro h)|refine Wr ?_|(refine Wb ?_;intro b)|fail)
   exact v_ret [] (outsA2 rfl rfl rfl) sS (.inl ⟨hE,rfl,rfl⟩)
  ·have hE1:newE 1 nodes ml=0:=by
    rcases Nat.eq_zero_or_pos ps.length with h|h
    ·rw [h] at hE;exact hE
    ·exact hE0 h
   have hno:=newE_nodes hE1
   have hk9:ps.length≤9:=by omega
   repeat' (first|apply v_read;(case hop=>(apply r_load1;rfl;(apply Cell.own;(case h=>exact aM);rfl)));(case hd=>rfl)|apply v_buildSlice (d:=38);(case hz|hi=>rfl);(case hv=>(simp only [List.map_cons,List.map_nil];repeat (first|with_reducible exact evs_nil|apply evs_cons;(case h1=>rfl))));(case hp=>(first|with_reducible exact pk_nil|apply pk_cons;(case hc|hs=>rfl);(case h=>(first|with_reducible exact pk_nil|apply pk_cons;(case hc|hs=>rfl);(case h=>(first|with_reducible exact pk_nil|apply pk_cons;(case hc|hs=>rfl);(case h=>(first|with_reducible exact pk_nil|apply pk_cons;(case hc|hs=>rfl);(case h=>(first|with_reducible exact pk_nil|apply pk_cons;(case hc|hs=>rfl);(case h=>(first|with_reducible exact pk_nil|apply pk_cons;(case hc|hs=>rfl);(case h=>(first|with_reducible exact pk_nil|apply pk_cons;(case hc|hs=>rfl);(case h=>(first|with_reducible exact pk_nil|apply pk_cons;(case hc|hs=>rfl);(case h=>(with_reducible exact pk_nil));(case he=>(first|((repeat (first|with_reducible exact ap_nil|apply ap_cons));done)|rfl))|rfl));(case he=>(first|((repeat (first|with_reducible exact ap_nil|apply ap_cons));done)|rfl))|rfl));(case he=>(first|((repeat (first|with_reducible exact ap_nil|apply ap_cons));done)|rfl))|rfl));(case he=>(first|((repeat (first|with_reducible exact ap_nil|apply ap_cons));done)|rfl))|rfl));(case he=>(first|((repeat (first|with_reducible exact ap_nil|apply ap_cons));done)|rfl))|rfl));(case he=>(first|((repeat (first|with_reducible exact ap_nil|apply ap_cons));done)|rfl))|rfl));(case he=>(first|((repeat (first|with_reducible exact ap_nil|apply ap_cons));done)|rfl))|rfl));(case he=>(first|((repeat (first|with_reducible exact ap_nil|apply ap_cons));done)|rfl))|rfl));(case hb|hd=>rfl);intro b38|refine Wa ?_|(refine Wc ⟨?_,?_⟩<;>first|exact True.intro|intro h)|apply v_append (hg:=hg) (m':=1) (us:=[.pointer (some ⟨p,0,none⟩)]) (μr:=(b38,.cells [Value.pointer (some ⟨p,0,none⟩)].toArray 99 (0,0))::(cb,clO (clZ sl bg lm))::(bg,bagO nilS)::(lm,.map #[] 0)::(b1,.cells [.int .i64 nodes,.slice SA ml.length sc].toArray 50 (0,0))::(ν2++νn)) (hp:=aV) (hsrc:=Src.own (e:=99) aM rfl);(case hzs=>rfl);(case hsz=>omega);(case hs|hx=>rfl);(case hb=>omega);(case hb'=>simp only [maxLen];omega);(case hd|h1=>rfl);intro v3 n3 hg3;obtain ⟨A3,c3,rfl,-,-⟩:=hg3.shape|refine Wr ?_|(refine Wb ?_;intro b)|fail)
   have hg4:Grow 99 1 (.slice A3 (ps.length+1) c3) (ps++[p]).length (ptrs (ps++[p])) n3:=by
    rw [ptrs_snoc,List.length_append,List.length_singleton];exact hg3
   have hN4:=(hN.imp fun i p ν h=>NewNd.up hle2 h).snoc hp
   refine v_perm (ν:=n3++((b38,.cells [Value.pointer (some ⟨p,0,none⟩)].toArray 99 (0,0))::(cb,clO (clZ (.slice A3 (ps.length+1) c3) bg lm))::(bg,bagO nilS)::(lm,.map #[] 0)::(b1,.cells [.int .i64 nodes,.slice SA ml.length sc].toArray 50 (0,0))::(ν2++νn))) (List.Perm.refl _) ?_
   refine v_dropP ((cb,clO (clZ (.slice A3 (ps.length+1) c3) bg lm))::(bg,bagO nilS)::(lm,.map #[] 0)::(b1,.cells [.int .i64 nodes,.slice SA ml.length sc].toArray 50 (0,0))::(n3++(νn++ν2))) [(b38,_)] aV ?_
   exact Va rfl ⟨GH.le_trans hle hle2,ps.length+1,ps++[p],_,n3,νn++ν2,by omega,by simp,rfl,hg4,hN4,fun _=>hE1,rfl⟩
 ·have hlen:0<ps.length:=by omega
  have hE:=hE0 hlen
  obtain ⟨h1,h9,-⟩:=newE_nodes hE
  repeat' (first|apply v_read;(case hop=>(apply r_load1;rfl;(apply Cell.own;(case h=>exact aM);rfl)));(case hd=>rfl)|refine Wa ?_|(refine Wc ⟨?_,?_⟩<;>first|exact True.intro|intro h)|refine Wr ?_|(refine Wb ?_;intro b)|fail)
  refine v_dropP ((cb,clO (clZ sl bg lm))::(bg,bagO nilS)::(lm,.map #[] 0)::(νs++νn)) [_] aV ?_
  exact v_ret _ (outsA2 rfl rfl rfl) (List.Sublist.refl _) (.inr ⟨hE,cb,bg,lm,ps,sl,νs,νn,rfl,by omega,hg,hN,rfl⟩)
end Go.Proofs.YtkofafmiabmobaaGreatDoor
/-
  slices.Sort and slices.Compact at numbers: the kit's contracts, laid at this program, as contracts of ours.
-/
namespace Go.Proofs.YtkofafmiabmobaaGreatDoor
open Go.Vx Go.ChangeShapes Go.WideShapes Go.ChangeAt Go.RowKit
def laysSort_ren:Go.Shelf.Ren:=⟨fun|5=>197|7=>243|8=>244|10=>283|11=>284|12=>285|13=>286|14=>287|15=>288|16=>289|17=>290|18=>291|19=>292|20=>266|30=>321|31=>322|32=>323|33=>324|34=>325|35=>195|40=>353|n=>n,fun|0=>0|3=>3|4=>4|5=>5|9=>9|22=>22|23=>22|25=>3|32=>286|35=>373|36=>374|41=>113|44=>149|46=>217|53=>408|57=>192|63=>435|64=>158|n=>n,fun n=>n⟩
theorem laysSort:SlLaysM.n5 Tryz.prog laysSort_ren where
 mixed:=by kernel_rfl
 f5:=⟨"slices.Sort[[]int,int]",by decide,Tryz.func197.trans (congrArg some (by kernel_rfl))⟩
 f7:=⟨"slices.pdqsortOrdered[int]",by decide,Tryz.func243.trans (congrArg some (by kernel_rfl))⟩
 f8:=Tryz.func244.trans (congrArg some (by kernel_rfl))
 f10:=⟨"slices.insertionSortOrdered[int]",by decide,Tryz.func283.trans (congrArg some (by kernel_rfl))⟩
 f11:=⟨"slices.heapSortOrdered[int]",by decide,Tryz.func284.trans (congrArg some (by kernel_rfl))⟩
 f12:=⟨"slices.breakPatternsOrdered[int]",by decide,Tryz.func285.trans (congrArg some (by kernel_rfl))⟩
 f13:=⟨"slices.choosePivotOrdered[int]",by decide,Tryz.func286.trans (congrArg some (by kernel_rfl))⟩
 f14:=⟨"slices.reverseRangeOrdered[int]",by decide,Tryz.func287.trans (congrArg some (by kernel_rfl))⟩
 f15:=⟨"slices.partialInsertionSortOrdered[int]",by decide,Tryz.func288.trans (congrArg some (by kernel_rfl))⟩
 f16:=⟨"cmp.Less[int]",by decide,Tryz.func289.trans (congrArg some (by kernel_rfl))⟩
 f17:=⟨"slices.partitionEqualOrdered[int]",by decide,Tryz.func290.trans (congrArg some (by kernel_rfl))⟩
 f18:=⟨"slices.partitionOrdered[int]",by decide,Tryz.func291.trans (congrArg some (by kernel_rfl))⟩
 f19:=Tryz.func292.trans (congrArg some (by kernel_rfl))
 f20:=Tryz.func266.trans (congrArg some (by kernel_rfl))
 f30:=⟨"slices.siftDownOrdered[int]",by decide,Tryz.func321.trans (congrArg some (by kernel_rfl))⟩
 f31:=Tryz.func322.trans (congrArg some (by kernel_rfl))
 f32:=Tryz.func323.trans (congrArg some (by kernel_rfl))
 f33:=⟨"slices.medianAdjacentOrdered[int]",by decide,Tryz.func324.trans (congrArg some (by kernel_rfl))⟩
 f34:=⟨"slices.medianOrdered[int]",by decide,Tryz.func325.trans (congrArg some (by kernel_rfl))⟩
 f35:=⟨"cmp.isNaN[int]",by decide,Tryz.func195.trans (congrArg some (by kernel_rfl))⟩
 f40:=⟨"slices.order2Ordered[int]",by decide,Tryz.func353.trans (congrArg some (by kernel_rfl))⟩
 t0:=Tryz.underlying0
 a0:=Tryz.isAgg0
 z0:=Tryz.sizeOf0
 v0:=Tryz.zeroValue0
 t3:=Tryz.underlying3
 a3:=Tryz.isAgg3
 z3:=Tryz.sizeOf3
 v3:=Tryz.zeroValue3
 t4:=Tryz.underlying4
 a4:=Tryz.isAgg4
 z4:=Tryz.sizeOf4
 v4:=Tryz.zeroValue4
 t5:=Tryz.underlying5
 a5:=Tryz.isAgg5
 z5:=Tryz.sizeOf5
 v5:=Tryz.zeroValue5
 t9:=Tryz.underlying9
 a9:=Tryz.isAgg9
 z9:=Tryz.sizeOf9
 v9:=Tryz.zeroValue9
 t22:=Tryz.underlying22
 a22:=Tryz.isAgg22
 z22:=Tryz.sizeOf22
 v22:=Tryz.zeroValue22
 t23:=Tryz.underlying22
 a23:=Tryz.isAgg22
 z23:=Tryz.sizeOf22
 v23:=Tryz.zeroValue22
 t25:=Tryz.underlying3
 a25:=Tryz.isAgg3
 z25:=Tryz.sizeOf3
 v25:=Tryz.zeroValue3
 t32:=Tryz.underlying286
 a32:=Tryz.isAgg286
 z32:=Tryz.sizeOf286
 v32:=Tryz.zeroValue286
 t35:=Tryz.underlying373
 a35:=Tryz.isAgg373
 z35:=Tryz.sizeOf373
 v35:=Tryz.zeroValue373
 t36:=Tryz.underlying374
 a36:=Tryz.isAgg374
 z36:=Tryz.sizeOf374
 v36:=Tryz.zeroValue374
 t41:=Tryz.underlying113
 a41:=Tryz.isAgg113
 z41:=Tryz.sizeOf113
 v41:=Tryz.zeroValue113
 t44:=Tryz.underlying149
 a44:=Tryz.isAgg149
 z44:=Tryz.sizeOf149
 v44:=Tryz.zeroValue149
 t46:=Tryz.underlying217
 a46:=Tryz.isAgg217
 z46:=Tryz.sizeOf217
 v46:=Tryz.zeroValue217
 t53:=Tryz.underlying408
 a53:=Tryz.isAgg408
 z53:=Tryz.sizeOf408
 v53:=Tryz.zeroValue408
 t57:=Tryz.underlying192
 a57:=Tryz.isAgg192
 z57:=Tryz.sizeOf192
 v57:=Tryz.zeroValue192
 t63:=Tryz.underlying435
 a63:=Tryz.isAgg435
 z63:=Tryz.sizeOf435
 v63:=Tryz.zeroValue435
 t64:=Tryz.underlying158
 a64:=Tryz.isAgg158
 z64:=Tryz.sizeOf158
 v64:=Tryz.zeroValue158
attribute [local semireducible] Con
theorem Con.ofCallsS {P:Program}{f:FuncId}{args:Array Value}{G:GH}{μ:OH}{Φ:Value→GH→OH→Prop}(h:∀ w,Mem G μ w→Calls P f args w fun e w'=>∃ v,e=.returned v∧∃ G' μ',Step G μ w G' μ' w'∧Φ v G' μ'):Con P f args G μ Φ:=by
 intro w hw
 exact (h w hw).mono fun e w' hq=>by
  obtain ⟨v,rfl,hv⟩:=hq
  exact ⟨v,rfl,hv⟩
section
variable {G:GH}{μ μ':OH}{w:World}{b:Nat}{e:TypeId}
theorem Step.mapS {vs vs':List Value}{f:Array Value→Array Value}(hw:Mem G μ w) (hb:Has μ b vs e) (hf:f vs.toArray=vs'.toArray) (hu:Upd b (.cells vs'.toArray e (0,0)) μ μ'):Step G μ w G μ' (Go.Sort.mapBlock w b f):=by
 have hg:=hw.own _ _ hb
 refine Step.upd hw hu rfl rfl rfl (by simp [Go.Sort.mapBlock]) ?_ (fun c hc=>?_)
 ·simp only [Go.Sort.mapBlock,Array.getElem?_modify,if_true,hg,Option.map_some,Go.Sort.onCells,hf]
 ·simp only [Go.Sort.mapBlock,Array.getElem?_modify]
  rw [if_neg (fun h=>hc h.symm)]
theorem Step.grow (h:Mem G μ w) (os:Array Obj):Step G μ w G μ (Go.Sort.grow w os):=by
 have hold:∀ c,c<w.heap.size→(Go.Sort.grow w os).heap[c]? = w.heap[c]? := fun c hc=>by
  show (w.heap++os)[c]? = _
  rw [Array.getElem?_append_left hc]
 refine ⟨⟨fun c o hc=>?_,fun c o hc=>?_,h.nodup,h.apart⟩,GH.le_refl _,rfl,rfl,rfl,?_,fun c hc _=>hold c hc,fun c o hc=>.inl ⟨o,hc⟩,fun c o hc=>.inl ⟨o,hc⟩⟩
 ·rw [hold c (lt_of_heap (h.g c o hc))];exact h.g c o hc
 ·rw [hold c (lt_of_heap (h.own c o hc))];exact h.own c o hc
 ·show w.heap.size≤(w.heap++os).size
  simp
end
theorem holds_own {G:GH}{μ:OH}{w:World}{b:Nat}{e:TypeId}{zs:List Int}{spare:List Value}(hw:Mem G μ w) (hb:Has μ b (zs.map (Value.int .i64 ·)++spare) e):Go.Sort.Holds (Value.int .i64) w b 0 zs.toArray:=by
 intro j hj
 have hj':j<zs.length:=by simpa using hj
 refine ⟨?_,?_⟩
 ·rw [Nat.zero_add]
  refine Cell.own hb ?_ w hw.sees
  rw [List.getElem?_append_left (by simpa using hj'),List.getElem?_map,List.getElem?_eq_getElem hj']
  simp [hj']
 ·have:=hw.own _ _ hb
  simp [World.frozen?,this]
theorem putCells_own {zs ys:List Int}{spare:List Value}(h:ys.length=zs.length):Go.Sort.putCells (Value.int .i64) 0 ys.toArray (zs.map (Value.int .i64 ·)++spare).toArray=(ys.map (Value.int .i64 ·)++spare).toArray:=by
 apply Array.ext_getElem?
 intro k
 simp only [Go.Sort.putCells,Array.getElem?_mapIdx,List.getElem?_toArray,List.size_toArray,Nat.zero_le,true_and,Nat.zero_add,Nat.sub_zero]
 by_cases hk:k<ys.length
 ·rw [List.getElem?_append_left (by simp;omega),List.getElem?_append_left (by simpa using hk)]
  simp [hk,h ▸ hk]
 ·rw [List.getElem?_append_right (by simp;omega),List.getElem?_append_right (by simp;omega)]
  have hk2:¬ k<zs.length:=by omega
  simp only [List.length_map,h]
  cases spare[k-zs.length]? with
  | none=>rfl
  | some v=>simp only [Option.map_some,hk2,if_false]
def sortL (l:List Int):List Int:=l.mergeSort fun x y=>decide (x≤y)
theorem sortL_perm (l:List Int):(sortL l).Perm l:=List.mergeSort_perm _ _
theorem sort_s {G:GH}{zs:List Int}{b cap:Nat}{e:TypeId}{spare:List Value}(hsz:zs.length<4611686018427387904) :
 Con Tryz.prog 197 #[.slice (some ⟨b,0,none⟩) zs.length cap] G [(b,.cells (zs.map (Value.int .i64 ·)++spare).toArray e (0,0))]
  (fun r G' μ'=>r=.tuple #[]∧G'=G∧μ'=[(b,.cells ((sortL zs).map (Value.int .i64 ·)++spare).toArray e (0,0))]):=by
 refine Con.ofCallsS fun w hw=>?_
 have hb:Has [(b,Obj.cells (zs.map (Value.int .i64 ·)++spare).toArray e (0,0))] b (zs.map (Value.int .i64 ·)++spare) e:=List.mem_cons_self
 refine (AnyM.slices_Sort_int laysSort b 0 cap zs w (holds_own hw hb) (lt_of_heap (hw.own _ _ hb)) hsz).mono ?_
 rintro _ w' ⟨rfl,n,os,rfl⟩
 have s1:=Step.drew hw n
 have s2:=Step.mapS (f:=Go.Sort.putCells (Value.int .i64) 0 (sortL zs).toArray) s1.mem hb (putCells_own (sortL_perm zs).length_eq) (.here _ _)
 exact ⟨_,rfl,G,_,(s1.trans s2).trans (Step.grow s2.mem os),rfl,rfl,rfl⟩
theorem sort0_s {G:GH}{p:Option Addr}{cap:Nat}:Con Tryz.prog 197 #[.slice p 0 cap] G [] (Just (.tuple #[]) G):=by
 refine Con.ofCallsS fun w hw=>?_
 refine (AnyM.slices_Sort_int_none laysSort p cap w).mono ?_
 rintro _ w' ⟨rfl,rfl⟩
 exact ⟨_,rfl,G,[],Step.refl hw,rfl,rfl,rfl⟩
end Go.Proofs.YtkofafmiabmobaaGreatDoor
/-
  Majorities, in plain Lean: distinct members, counted in two ways; two majorities have a member in common.
-/
namespace Go.Proofs.YtkofafmiabmobaaGreatDoor
open Go.Vx Go.ChangeShapes Go.WideShapes Go.ChangeAt Go.RowKit
theorem perm_of_mem {l l':List Int}(h:l.Nodup) (h':l'.Nodup) (hm:∀ x,x∈l↔x∈l'):l.Perm l':=by
 rw [List.perm_iff_count]
 intro a
 rw [h.count,h'.count]
 simp only [hm a]
def once (l:List Int):List Int:=Lib.compact (sortL l)
theorem appendSeq_s {G:GH}{gf:FuncId} [Callable Tryz.prog gf] {lb:List Value}{S:List Int→Prop}{N:Nat}{μ1:OH}(hN:N≤1048576) (hseq:SeqCon Tryz.prog gf lb keyI S N G μ1) :
 Con Tryz.prog 242 #[.slice none 0 0,.func (.func gf) #[] lb.toArray] G μ1 (fun r G' μ'=>G'=G∧∃ xs ν,S xs∧Grow 3 1 r xs.length (xs.map (Value.int .i64 ·)) ν∧μ'=ν++μ1):=by
 (refine v_enter Tryz.func242 rfl Tryz.ntmps242 rfl ?_;intro B _)
 repeat' (first|refine Wa ?_|(refine Wc ⟨?_,?_⟩<;>first|exact True.intro|intro h)|refine Wr ?_|(refine Wb ?_;intro b)|fail)
 refine v_rangeFunc (enc:=keyI) (N:=N) (S:=S) (μ1:=μ1) (μ2:=[(b,.cells [.slice none 0 0].toArray 22 (0,0))]) (σ':=fun x=>_) (fun pre G' ν=>G'=G∧∃ v ν1,Grow 3 1 v pre.length (pre.map (Value.int .i64 ·)) ν1∧ν=ν1++[(b,.cells [v].toArray 22 (0,0))]) rfl hseq ?_ rfl (fun x=>Assigns.region (.cons (p_assign rfl) rfl (.nil _))) rfl ⟨rfl,_,[],Grow.nil _ _,rfl⟩ ?_ ?_
 ·exact (List.perm_append_comm (l₁:=[(b,Obj.cells [Value.slice none 0 0].toArray 22 (0,0))]) (l₂:=μ1))
 ·rintro l B' _ pre x G2 _ hle ⟨rfl,v,ν1,hg,rfl⟩ hlen
  have hpl:pre.length≤1048576:=by omega
  repeat' (first|refine Wa ?_|(refine Wc ⟨?_,?_⟩<;>first|exact True.intro|intro h)|apply v_append (hg:=hg) (m':=1) (us:=[keyI x]) (hp:=PickA.perm (by repeat (first|exact PickA.last|exact PickA.here _|exact PickA.one _|apply PickA.cons|apply PickA.app))) (hsrc:=Src.own (e:=3) aM rfl);(case hzs=>rfl);(case hsz=>omega);(case hs|hx=>rfl);(case hb=>omega);(case hb'=>simp only [maxLen];omega);(case hd|h1=>rfl);intro v3 n3 hg3;obtain ⟨A3,c3,rfl,-,-⟩:=hg3.shape|refine Wr ?_|(refine Wb ?_;intro b)|fail)
  refine v_endR (n3++[_]) (List.Sublist.append_left sS _) ⟨rfl,rfl,_,n3,by simpa using hg3,rfl⟩
 ·rintro B' D _ xs G2 _ hle hS ⟨rfl,v,ν1,hg,rfl⟩
  repeat' (first|refine Wa ?_|(refine Wc ⟨?_,?_⟩<;>first|exact True.intro|intro h)|refine Wr ?_|(refine Wb ?_;intro b)|fail)
  refine v_retD (Ds:=[D]) (μ1:=(ν1++μ1)++[(b,.cells [v].toArray 22 (0,0))]) (ν1++μ1) (fun ds a ha w _=>outs1 rfl rfl ds a ha) ?_ (List.sublist_append_left _ _) ⟨rfl,xs,ν1,hS,hg,rfl⟩
  exact (show List.Perm (μ1++(ν1++[(b,Obj.cells [v].toArray 22 (0,0))])) (ν1++μ1++[(b,Obj.cells [v].toArray 22 (0,0))]) from aV).cons _
theorem collect_s {G:GH}{gf:FuncId} [Callable Tryz.prog gf] {lb:List Value}{S:List Int→Prop}{N:Nat}{μ1:OH}(hN:N≤1048576) (hseq:SeqCon Tryz.prog gf lb keyI S N G μ1) :
 Con Tryz.prog 196 #[.func (.func gf) #[] lb.toArray] G μ1 (fun r G' μ'=>G'=G∧∃ xs ν,S xs∧Grow 3 1 r xs.length (xs.map (Value.int .i64 ·)) ν∧μ'=ν++μ1):=by
 have q:=appendSeq_s hN hseq
 (refine v_enter Tryz.func196 rfl Tryz.ntmps196 rfl ?_;intro B _)
 repeat' (first|refine Wa ?_|(refine Wc ⟨?_,?_⟩<;>first|exact True.intro|intro h)|fail)
 refine v_call (μ1:=μ1) (μ2:=[]) rfl q (by simp) rfl ?_
 rintro r _ _ - ⟨rfl,xs,ν,hS,hg,rfl⟩
 repeat' (first|refine Wa ?_|(refine Wc ⟨?_,?_⟩<;>first|exact True.intro|intro h)|fail)
 refine v_ret (ν++μ1) (outsA1 rfl rfl) (by simp) ⟨rfl,xs,ν,hS,hg,rfl⟩
theorem Grow.cases {e:TypeId}{v:Value}{m:Nat}{xs:List Value}{ν:OH}(h:Grow e 1 v m xs ν):(v=.slice none 0 0∧m=0∧xs=[]∧ν=[])∨∃ b cap spare,v=.slice (some ⟨b,0,none⟩) m cap∧m≤cap∧cap≤maxLen∧ν=[(b,.cells (xs++spare).toArray e (0,0))]∧xs.length=m∧(xs++spare).length=cap:=by
 obtain ⟨hx,⟨rfl,rfl,rfl⟩|⟨b,cap,spare,rfl,rfl,h1,h2,h3⟩⟩:=h
 ·left
  exact ⟨rfl,rfl,by simpa using hx,rfl⟩
 ·right
  exact ⟨b,cap,spare,rfl,h1,h2,rfl,by simpa using hx,by simpa using h3⟩
theorem grow_of {e:TypeId}{b m cap:Nat}{xs spare:List Value}(h1:xs.length=m) (h2:m≤cap) (h3:cap≤maxLen) (h4:(xs++spare).length=cap):Grow e 1 (.slice (some ⟨b,0,none⟩) m cap) m xs [(b,.cells (xs++spare).toArray e (0,0))] :=
 ⟨by omega,.inr ⟨b,cap,spare,rfl,rfl,h2,h3,by omega⟩⟩
theorem sorted_s {G:GH}{gf:FuncId} [Callable Tryz.prog gf] {lb:List Value}{S:List Int→Prop}{N:Nat}{μ1:OH}(hN:N≤1048576) (hS:∀ xs,S xs→xs.length≤1048576) (hseq:SeqCon Tryz.prog gf lb keyI S N G μ1) :
 Con Tryz.prog 146 #[.func (.func gf) #[] lb.toArray] G μ1 (fun r G' μ'=>G'=G∧∃ xs ν,S xs∧Grow 3 1 r xs.length ((sortL xs).map (Value.int .i64 ·)) ν∧μ'=ν++μ1):=by
 have q:=collect_s hN hseq
 (refine v_enter Tryz.func146 rfl Tryz.ntmps146 rfl ?_;intro B _)
 repeat' (first|refine Wa ?_|(refine Wc ⟨?_,?_⟩<;>first|exact True.intro|intro h)|fail)
 refine v_call (μ1:=μ1) (μ2:=[]) rfl q (by simp) rfl ?_
 rintro r G1 _ - ⟨rfl,xs,ν,hSx,hg,rfl⟩
 have hlen:=hS _ hSx
 obtain ⟨rfl,h0,h1,rfl⟩|⟨b,cap,spare,rfl,hc,hm,rfl,hxl,hcl⟩:=Grow.cases hg
 ·have hx0:xs=[]:=List.eq_nil_of_length_eq_zero h0
  subst hx0
  repeat' (first|refine Wa ?_|(refine Wc ⟨?_,?_⟩<;>first|exact True.intro|intro h)|apply v_call (hs:=sort0_s);(case ha=>rfl);(case hp=>first|exact (Pick.perm (by repeat (first|exact Pick.here _|apply Pick.there|apply Pick.app)))|exact List.Perm.refl _);(case hd=>rfl);rintro _ _ _ _ ⟨rfl,rfl,rfl⟩|fail)
  refine v_ret μ1 (outsA1 rfl rfl) (by simp) ⟨rfl,[],[],hSx,by simpa [sortL] using Grow.nil _ _,rfl⟩
 ·have q2:=sort_s (G:=G1) (zs:=xs) (b:=b) (cap:=cap) (e:=3) (spare:=spare) (by omega)
  repeat' (first|refine Wa ?_|(refine Wc ⟨?_,?_⟩<;>first|exact True.intro|intro h)|fail)
  refine v_call (μ1:=[(b,_)]) (μ2:=μ1) rfl q2 (by simp) rfl ?_
  rintro _ G2 _ hle2 ⟨rfl,rfl,rfl⟩
  repeat' (first|refine Wa ?_|(refine Wc ⟨?_,?_⟩<;>first|exact True.intro|intro h)|fail)
  refine v_ret ([(b,_)]++μ1) (outsA1 rfl rfl) (List.Sublist.refl _) ⟨rfl,xs,_,hSx,grow_of (by simp [(sortL_perm xs).length_eq]) hc hm (by simpa [(sortL_perm xs).length_eq] using hcl),rfl⟩
end Go.Proofs.YtkofafmiabmobaaGreatDoor
/-
  cluster (layer 41): what a cluster is asked, and audit's answers (layer 44), of a cluster at its beginning.
-/
set_option maxHeartbeats 2000000
namespace Go.Proofs.YtkofafmiabmobaaGreatDoor
open Go.Vx Go.ChangeShapes Go.WideShapes Go.ChangeAt Go.RowKit
theorem Con.frameK {P:Program}{f:FuncId}{args:Array Value}{G:GH}{μ μ1 μ2:OH}{Ψ:Value→GH→Prop}(h:Con P f args G μ1 (fun v G' μ'=>μ'=μ1∧Ψ v G')) (hp:μ.Perm (μ1++μ2)):Con P f args G μ (fun v G' μ'=>μ'=μ∧Ψ v G'):=by
 unfold Con at h ⊢
 intro w hw
 have hw':=hw.perm hp
 refine Calls.mono (h w hw'.split.1) ?_
 rintro e w' ⟨v,rfl,G',μ1',hst,rfl,hΨ⟩
 exact ⟨v,rfl,G',μ,((hst.frame hw').permL hp.symm).perm hp.symm,rfl,hΨ⟩
theorem Con.monoG {P:Program}{f:FuncId}{args:Array Value}{G:GH}{μ:OH}{Φ Φ':Value→GH→OH→Prop}(h:Con P f args G μ Φ) (hv:∀ v G' μ',GH.le G G'→Φ v G' μ'→Φ' v G' μ'):Con P f args G μ Φ':=by
 unfold Con at h ⊢
 intro w hw
 refine Calls.mono (h w hw) ?_
 rintro e w' ⟨v,rfl,G',μ',hst,hΦ⟩
 exact ⟨v,rfl,G',μ',hst,hv v G' μ' hst.le hΦ⟩
theorem Con.keepsK {P:Program}{f:FuncId}{args:Array Value}{G:GH}{μ:OH}{r:Value}(h:Con P f args G μ (fun v G' μ'=>μ'=μ∧v=r)):Con P f args G μ (Keeps r G μ):=Con.keeps (h.mono fun v G' μ' h=>⟨h.2,h.1⟩)
def PtrR (p:Nat) (cs:List Value):Prop:=cs=[.pointer (some ⟨p,0,none⟩)]
abbrev PtS (G:GH) (v:Value) (ps:List Nat):Prop:=Sl G 1 PtrR v ps
theorem clNodes_s {G:GH}{cb:Nat}{A:Option Addr}{c:Nat}{L:List Value}{ps:List Nat}:Con Tryz.prog 67 #[.pointer (some ⟨cb,0,none⟩)] G [(cb,clO (.slice A ps.length c::L))] (Keeps (.int .i64 (ps.length:Nat)) G [(cb,clO (.slice A ps.length c::L))]):=by
 (refine v_enter Tryz.func67 rfl Tryz.ntmps67 rfl ?_;intro B _)
 repeat' (first|apply v_read;(case hop=>(apply r_load1;rfl;(apply Cell.own;(case h=>exact aM);rfl)));(case hd=>rfl)|refine Wa ?_|(refine Wc ⟨?_,?_⟩<;>first|exact True.intro|intro h)|refine Wr ?_|fail)
 exact v_ret _ (outsA1 rfl rfl) (List.Sublist.refl _) ⟨rfl,rfl,rfl⟩
theorem clNode_s {G:GH}{cb:Nat}{A:Option Addr}{c:Nat}{L:List Value}{ps:List Nat}(hp:PtS G (.slice A ps.length c) ps) {i:Nat}(hi:i<ps.length) (h9:ps.length≤9):Con Tryz.prog 98 #[.pointer (some ⟨cb,0,none⟩),.int .i64 ((i:Nat)+1)] G [(cb,clO (.slice A ps.length c::L))] (Keeps (.pointer (some ⟨ps[i],0,none⟩)) G [(cb,clO (.slice A ps.length c::L))]):=by
 obtain ⟨A0,c0,e0,hlc,hcm,hsome,hcp⟩:=hp.open
 cases e0
 have hA:=hsome (by omega)
 obtain ⟨cs,hcs,rfl,hck⟩:=hcp i _ (List.getElem?_eq_getElem hi)
 have hc:=hck.cell (j:=0) rfl
 have e1:(((i:Nat):Int)+1-1).toNat=i:=by omega
 generalize ps[i]=p at *
 (refine v_enter Tryz.func98 rfl Tryz.ntmps98 rfl ?_;intro B _)
 repeat' (first|apply v_read;(case hop=>(apply r_load1;rfl;(apply Cell.own;(case h=>exact aM);rfl)));(case hd=>rfl)|refine Wa ?_|(refine Wc ⟨?_,?_⟩<;>first|exact True.intro|intro h)|apply v_read;(case hop=>(apply r_load1;rfl;exact Cell.frozen (by rw [e1];exact hc)));(case hd=>rfl)|refine Wr ?_|fail)
 exact v_ret _ (outsA1 rfl rfl) (List.Sublist.refl _) ⟨rfl,rfl,rfl⟩
theorem ndImage_s {G:GH}{nid nodes:Int}{m:Im}{p:Nat}{ν:OH}(h:NewNd G nid nodes m p ν) (hz:StZ m.st) (hc:CoZ m.confs):Con Tryz.prog 99 #[.pointer (some ⟨p,0,none⟩)] G ν (fun r G' μ'=>μ'=ν∧ImV G' m r):=by
 obtain ⟨d,dm,F,I,hF,hI,hf,hi,rfl⟩:=h
 have q:=winClone_s hI hz hc
 match F,I,hf,hi with
 | [f0,f1,f2,f3,f4,f5],[i0,i1,i2,i3,i4,i5],_,_ =>
 (refine v_enter Tryz.func99 rfl Tryz.ntmps99 rfl ?_;intro B _)
 repeat' (first|apply v_read;(case hop=>(apply r_loadNo;(case hx=>rfl);(case h=>exact aM);(case hd|hn=>rfl)));(case hd=>rfl)|refine Wa ?_|(refine Wc ⟨?_,?_⟩<;>first|exact True.intro|intro h)|refine Wr ?_|(refine Wb ?_;intro b)|fail)
 refine cQ rfl q ?_
 rintro r G1 _ - ⟨rfl,hr⟩
 obtain ⟨C1,cc1,A1,c1,A1',c1',rfl,hC1,hp1,hss1⟩:=id hr
 repeat' (first|apply v_read;(case hop=>(apply r_loadNo;(case hx=>rfl);(case h=>exact aM);(case hd|hn=>rfl)));(case hd=>rfl)|refine Wa ?_|(refine Wc ⟨?_,?_⟩<;>first|exact True.intro|intro h)|refine Wr ?_|(refine Wb ?_;intro b)|fail)
 exact v_retM [(p,_),(d,_),(dm,_)] (outsM_cell (sz:=6) (vs:=imL m C1 cc1 A1 c1 A1' c1') (e:=59) rfl rfl aM rfl) sS ⟨rfl,hr⟩
theorem ndUp_s {G:GH}{nid nodes:Int}{m:Im}{p:Nat}{ν:OH}(h:NewNd G nid nodes m p ν):Con Tryz.prog 136 #[.pointer (some ⟨p,0,none⟩)] G ν (Keeps (.bool false) G ν):=by
 obtain ⟨d,dm,F,I,hF,hI,hf,hi,rfl⟩:=h
 (refine v_enter Tryz.func136 rfl Tryz.ntmps136 rfl ?_;intro B _)
 repeat' (first|apply v_read;(case hop=>(apply r_load1;rfl;(apply Cell.own;(case h=>exact aM);rfl)));(case hd=>rfl)|refine Wa ?_|(refine Wc ⟨?_,?_⟩<;>first|exact True.intro|intro h)|refine Wr ?_|fail)
 exact v_ret _ (outsA1 rfl rfl) (List.Sublist.refl _) ⟨rfl,rfl,rfl⟩
theorem ndVersion_s {G:GH}{nid nodes:Int}{m:Im}{p:Nat}{ν:OH}(h:NewNd G nid nodes m p ν):Con Tryz.prog 137 #[.pointer (some ⟨p,0,none⟩)] G ν (Keeps (.int .i64 0) G ν):=by
 have q:=ndUp_s h
 (refine v_enter Tryz.func137 rfl Tryz.ntmps137 rfl ?_;intro B _)
 repeat' (first|refine Wa ?_|(refine Wc ⟨?_,?_⟩<;>first|exact True.intro|intro h)|refine cK q ?_|refine Wr ?_|fail)
 exact v_ret _ (outsA1 rfl rfl) (List.Sublist.refl _) ⟨rfl,rfl,rfl⟩
theorem clImage_s {G:GH}{cb:Nat}{A:Option Addr}{c:Nat}{L:List Value}{ps:List Nat}{nodes:Int}{m:Im}{νn:OH}(hp:PtS G (.slice A ps.length c) ps) (hN:NewNds G nodes m ps νn) (hz:StZ m.st) (hc:CoZ m.confs) {i:Nat}(hi:i<ps.length) (h9:ps.length≤9):Con Tryz.prog 46 #[.pointer (some ⟨cb,0,none⟩),.int .i64 ((i:Nat)+1)] G ((cb,clO (.slice A ps.length c::L))::νn) (fun r G' μ'=>μ'=(cb,clO (.slice A ps.length c::L))::νn∧ImV G' m r):=by
 have q1:=clNode_s (cb:=cb) (L:=L) hp hi h9
 obtain ⟨ν1,νr,hQ,hperm,-⟩:=hN.pick hi
 have q2:=Con.frameK (ndImage_s hQ hz hc) hperm
 (refine v_enter Tryz.func46 rfl Tryz.ntmps46 rfl ?_;intro B _)
 repeat' (first|apply v_alloc (d:=4);(case hz|hd=>rfl);intro b4|refine Wa ?_|(refine Wc ⟨?_,?_⟩<;>first|exact True.intro|intro h)|apply v_callK (hs:=q1) (μ2:=(b4,_)::νn);(case ha=>rfl);(case hp=>exact List.Perm.swap _ _ _);(case hd=>rfl)|refine Wr ?_|(refine Wb ?_;intro b)|fail)
 refine v_call (μ1:=νn) (μ2:=[(b4,_),(cb,clO (.slice A ps.length c::L))]) rfl q2 (List.perm_append_comm (l₁:=[(b4,_),(cb,clO (.slice A ps.length c::L))])) rfl ?_
 rintro r G1 _ - ⟨rfl,hr⟩
 obtain ⟨C1,cc1,A1,c1,A1',c1',rfl,hC1,hp1,hss1⟩:=id hr
 refine v_perm List.perm_append_comm ?_
 repeat' (first|apply v_read;(case hop=>(apply r_loadNo;(case hx=>rfl);(case h=>exact aM);(case hd|hn=>rfl)));(case hd=>rfl)|refine Wa ?_|(refine Wc ⟨?_,?_⟩<;>first|exact True.intro|intro h)|refine Wr ?_|(refine Wb ?_;intro b)|fail)
 exact v_retM _ (outsM_cell (sz:=6) (vs:=imL m C1 cc1 A1 c1 A1' c1') (e:=59) rfl rfl aM rfl) (List.sublist_cons_self _ _) ⟨rfl,hr⟩
theorem clVersion_s {G:GH}{cb:Nat}{A:Option Addr}{c:Nat}{L:List Value}{ps:List Nat}{nodes:Int}{m:Im}{νn:OH}(hp:PtS G (.slice A ps.length c) ps) (hN:NewNds G nodes m ps νn) {i:Nat}(hi:i<ps.length) (h9:ps.length≤9):Con Tryz.prog 72 #[.pointer (some ⟨cb,0,none⟩),.int .i64 ((i:Nat)+1)] G ((cb,clO (.slice A ps.length c::L))::νn) (Keeps (.int .i64 0) G ((cb,clO (.slice A ps.length c::L))::νn)):=by
 have q1:=clNode_s (cb:=cb) (L:=L) hp hi h9
 obtain ⟨ν1,νr,hQ,hperm,-⟩:=hN.pick hi
 have q2:=Con.keepsK (Con.frameK ((ndVersion_s hQ).mono fun v G' μ' h=>(⟨h.2.2,h.1⟩:_∧_)) hperm)
 (refine v_enter Tryz.func72 rfl Tryz.ntmps72 rfl ?_;intro B _)
 repeat' (first|refine Wa ?_|(refine Wc ⟨?_,?_⟩<;>first|exact True.intro|intro h)|apply v_callK (hs:=q1) (μ2:=νn);(case ha=>rfl);(case hp=>exact List.Perm.refl _);(case hd=>rfl)|apply v_callK (hs:=q2) (μ2:=[(cb,clO (.slice A ps.length c::L))]);(case ha=>rfl);(case hp=>exact List.perm_append_comm (l₁:=[(cb,clO (.slice A ps.length c::L))]));(case hd=>rfl)|fail)
 exact v_ret _ (outsA1 rfl rfl) (List.Sublist.refl _) ⟨rfl,rfl,rfl⟩
theorem keysC_s {G:GH}{m:Nat}:Con Tryz.prog 147 #[.map (some m)] G []
 (fun r G' μ'=>∃ b,r=.func (.func 198) #[] #[.pointer (some ⟨b,0,none⟩)]∧G'=G∧μ'=[(b,.cells [Value.map (some m)].toArray 92 (0,0))]):=by
 (refine v_enter Tryz.func147 rfl Tryz.ntmps147 rfl ?_;intro B _)
 repeat' (first|refine Wa ?_|(refine Wc ⟨?_,?_⟩<;>first|exact True.intro|intro h)|(refine Wb ?_;intro b)|fail)
 refine v_ret [(b,_)] (outsA1 rfl rfl) sS ?_
 exact ⟨b,rfl,rfl,rfl⟩
instance keyT_intC:KeyT Tryz.prog 3 keyI:=KeyT.int
theorem leftC_perm {left:List Int}{a:Int}(hn:left.Nodup) (ha:a∈left):left.Perm (a::left.filter fun z=>decide (z≠a)):=by
 refine perm_of_mem hn ?_ fun x=>?_
 ·rw [List.nodup_cons]
  exact ⟨by simp,hn.sublist List.filter_sublist⟩
 ·simp only [List.mem_cons,List.mem_filter,decide_eq_true_eq]
  by_cases hx:x=a
  ·subst hx;simp [ha]
  ·simp [hx]
theorem keysC_seq {G:GH}{l:List (Int×Value)}{m b:Nat}{oM:Obj}(hM:MapB keyI l oM):SeqCon Tryz.prog 198 [.pointer (some ⟨b,0,none⟩)] keyI (fun xs=>xs.Perm (l.map (·.1))) l.length G [(b,.cells [Value.map (some m)].toArray 92 (0,0)),(m,oM)]:=by
 intro lp J G1 ν hle hJ0 hY
 have hnd:=hM.nodup
 (refine v_enter Tryz.func198 rfl Tryz.ntmps198 rfl ?_;intro B _)
 repeat' (first|refine Wa ?_|(refine Wc ⟨?_,?_⟩<;>first|exact True.intro|intro h)|apply v_rangeM (hb:=aM) (hM:=hM);(case hx|hd=>rfl);intro it oI hI|refine Wr ?_|(refine Wb ?_;intro b)|fail)
 refine v_loopI (ι:=List Int×List Int) [5,0] (fun i vs G' μ'=>GH.le G1 G'∧∃ ν' oI,IterB keyI m l i.2 oM oI∧i.2.Nodup∧(i.1++i.2).Perm (l.map (·.1))∧vs=[.pointer (some ⟨it,0,none⟩),.func (.yield lp) #[] #[]]∧J i.1 G' ν'∧μ'=(it,oI)::(b,.cells [Value.map (some m)].toArray 92 (0,0))::(m,oM)::ν') (fun i=>i.2.length) rfl ([],l.map (·.1)) ⟨GH.le_refl _,ν,oI,hI,hnd,List.Perm.refl _,rfl,hJ0,rfl⟩ ?_
 rintro ⟨pre,left⟩ vs G' _ ⟨hle',ν',oI',hI',hn,hper,rfl,hJ,rfl⟩
 simp only at hI' hn hper hJ
 have hlen:=hper.length_eq
 rw [List.length_append,List.length_map] at hlen
 repeat' (first|refine Wa ?_|(refine Wc ⟨?_,?_⟩<;>first|exact True.intro|intro h)|apply v_nextM (k:=3) (hb:=aM) (hI:=hI');(case hx=>rfl);(case hp=>exact List.Perm.refl _);(case hd=>rfl)|refine Wr ?_|(refine Wb ?_;intro b)|fail)
 ·intro h0
  subst h0
  repeat' (first|refine Wa ?_|(refine Wc ⟨?_,?_⟩<;>first|exact True.intro|intro h)|refine Wr ?_|(refine Wb ?_;intro b)|fail)
  refine v_end ([(b,_),(m,oM)]++ν') (outsA0 rfl) sS ?_
  exact ⟨pre,ν',by simpa using hper,hJ,rfl⟩
 ·intro a u oI2 ha hau hI2 hE
  have hy:=hY pre a G' ν' hle' hJ (by
   have:0<left.length:=List.length_pos_of_mem ha
   omega)
  have hlp:=leftC_perm hn ha
  repeat' (first|refine Wa ?_|(refine Wc ⟨?_,?_⟩<;>first|exact True.intro|intro h)|apply v_read;(case hop=>apply r_entry (hE:=hE);(case hx=>rfl);(case hi=>exact aM);(case hb=>exact aM));(case hd=>rfl)|apply v_yield (hs:=hy);(case hx|ha=>rfl);(case hp=>exact (List.perm_append_comm (l₁:=[(it,oI2),(b,Obj.cells [Value.map (some m)].toArray 92 (0,0)),(m,oM)]) (l₂:=ν')));(case hd=>rfl);rintro _ G2 ν2 hle2 ⟨rfl,hJ2⟩|refine Wr ?_|(refine Wb ?_;intro b)|fail)
  refine v_perm List.perm_append_comm ?_
  refine v_againI (pre++[a],left.filter fun z=>decide (z≠a)) rfl ⟨GH.le_trans hle' hle2,ν2,oI2,hI2,hn.sublist List.filter_sublist,?_,rfl,hJ2,rfl⟩ ?_
  ·refine List.Perm.trans ?_ hper
   simp only [List.append_assoc,List.singleton_append]
   exact List.Perm.append_left _ hlp.symm
  ·have:=hlp.length_eq
   simp only [List.length_cons] at this ⊢
   omega
theorem clLog0_s {G:GH}{cb bg lm:Nat}{A:Option Addr}{c:Nat}{ps:List Nat}:Con Tryz.prog 79 #[.pointer (some ⟨cb,0,none⟩)] G [(cb,clO (clZ (.slice A ps.length c) bg lm)),(lm,.map #[] 0)] (Keeps nilS G [(cb,clO (clZ (.slice A ps.length c) bg lm)),(lm,.map #[] 0)]):=by
 (refine v_enter Tryz.func79 rfl Tryz.ntmps79 rfl ?_;intro B _)
 have hM:MapB keyI [] (.map #[] 0):=MapB.nil
 repeat' (first|apply v_read;(case hop=>(apply r_load1;rfl;(apply Cell.own;(case h=>exact aM);rfl)));(case hd=>rfl)|refine Wa ?_|(refine Wc ⟨?_,?_⟩<;>first|exact True.intro|intro h)|refine Wr ?_|(refine Wb ?_;intro b)|fail)
 refine cQ rfl keysC_s ?_
 rintro _ G1 _ - ⟨b,rfl,hG1,rfl⟩
 subst G1
 have q2:=sorted_s (G:=G) (S:=fun xs=>xs.Perm (([]:List (Int×Value)).map (·.1))) (N:=0) (by omega) (fun xs h=>by rw [h.length_eq];simp) (keysC_seq (m:=lm) (b:=b) hM)
 repeat' (first|refine Wa ?_|(refine Wc ⟨?_,?_⟩<;>first|exact True.intro|intro h)|refine Wr ?_|(refine Wb ?_;intro b)|fail)
 refine v_call (μ1:=[(b,_),(lm,.map #[] 0)]) (μ2:=[(cb,clO (clZ (.slice A ps.length c) bg lm))]) rfl q2 aV rfl ?_
 rintro r G1 _ - ⟨hG1,xs,ν,hxs,hg,rfl⟩
 subst G1
 have hx0:xs=[]:=List.Perm.eq_nil hxs
 subst hx0
 obtain ⟨A3,c3,rfl,-,-⟩:=hg.shape
 refine v_dropP [(cb,clO (clZ (.slice A ps.length c) bg lm)),(lm,.map #[] 0)] (ν++[(b,_)]) aV ?_
 repeat' (first|refine Wa ?_|(refine Wc ⟨?_,?_⟩<;>first|exact True.intro|intro h)|refine Wr ?_|(refine Wb ?_;intro b)|fail)
 refine v_loop [15,14,3] (fun us G' μ'=>G'=G∧μ'=[(cb,clO (clZ (.slice A ps.length c) bg lm)),(lm,.map #[] 0)]∧us=[Value.int .i64 0,.int .i64 0,nilS]) (fun us=>0) rfl ⟨rfl,rfl,rfl⟩ ?_
 rintro us G' _ ⟨hG',rfl,rfl⟩
 subst G'
 repeat' (first|refine Wa ?_|(refine Wc ⟨?_,?_⟩<;>first|exact True.intro|intro h)|refine Wr ?_|(refine Wb ?_;intro b)|fail)
 exact v_ret _ (outsA1 rfl rfl) (List.Sublist.refl _) ⟨rfl,rfl,rfl⟩
theorem auPrefix0_s {G:GH}{cb bg lm:Nat}{A:Option Addr}{c:Nat}{ps:List Nat}:Con Tryz.prog 43 #[.pointer (some ⟨cb,0,none⟩)] G [(cb,clO (clZ (.slice A ps.length c) bg lm)),(lm,.map #[] 0)] (Keeps nilS G [(cb,clO (clZ (.slice A ps.length c) bg lm)),(lm,.map #[] 0)]):=by
 have q:=clLog0_s (G:=G) (cb:=cb) (bg:=bg) (lm:=lm) (A:=A) (c:=c) (ps:=ps)
 (refine v_enter Tryz.func43 rfl Tryz.ntmps43 rfl ?_;intro B _)
 repeat' (first|refine Wa ?_|(refine Wc ⟨?_,?_⟩<;>first|exact True.intro|intro h)|refine cK q ?_|refine Wr ?_|(refine Wb ?_;intro b)|fail)
 refine v_loop [9,8,3] (fun us G' μ'=>G'=G∧μ'=[(cb,clO (clZ (.slice A ps.length c) bg lm)),(lm,.map #[] 0)]∧us=[Value.int .i64 0,.int .i64 0,nilS]) (fun us=>0) rfl ⟨rfl,rfl,rfl⟩ ?_
 rintro us G' _ ⟨hG',rfl,rfl⟩
 subst G'
 repeat' (first|refine Wa ?_|(refine Wc ⟨?_,?_⟩<;>first|exact True.intro|intro h)|refine Wr ?_|(refine Wb ?_;intro b)|fail)
 exact v_ret _ (outsA1 rfl rfl) (List.Sublist.refl _) ⟨rfl,rfl,rfl⟩
theorem idxNil_s {G:GH}{fv:Value}:Con Tryz.prog 108 #[nilS,fv] G [] (Just (.int .i64 (-1)) G):=by
 (refine v_enter Tryz.func108 rfl Tryz.ntmps108 rfl ?_;intro B _)
 repeat' (first|refine Wa ?_|(refine Wc ⟨?_,?_⟩<;>first|exact True.intro|intro h)|refine Wr ?_|fail)
 refine v_loop [8,7] (fun us G' μ'=>G'=G∧μ'=[]∧us=[Value.int .i64 0,.int .i64 0]) (fun us=>0) rfl ⟨rfl,rfl,rfl⟩ ?_
 rintro us G' _ ⟨hG',rfl,rfl⟩
 subst G'
 repeat' (first|refine Wa ?_|(refine Wc ⟨?_,?_⟩<;>first|exact True.intro|intro h)|refine Wr ?_|fail)
 exact v_ret _ (outsA1 rfl rfl) (List.Sublist.refl _) ⟨rfl,rfl,rfl⟩
theorem actNil_s {G:GH}:Con Tryz.prog 100 #[nilS] G [] (Just (.int .i64 0) G):=by
 have q:=fun fv=>idxNil_s (G:=G) (fv:=fv)
 (refine v_enter Tryz.func100 rfl Tryz.ntmps100 rfl ?_;intro B _)
 repeat' (first|refine Wa ?_|(refine Wc ⟨?_,?_⟩<;>first|exact True.intro|intro h)|refine cJ (q _) ?_|fail)
 exact v_ret _ (outsA1 rfl rfl) (List.Sublist.refl _) ⟨rfl,rfl,rfl⟩
theorem auEach_s {G:GH}{cb:Nat}{A:Option Addr}{c:Nat}{L:List Value}{ps:List Nat}{cf:FuncId} [Callable Tryz.prog cf] {capt:List Value}{ν0:OH}{J:Nat→GH→OH→Prop}(h9:ps.length≤9) (h0:J 0 G ((cb,clO (.slice A ps.length c::L))::ν0))
 (h:∀ i G' μ',GH.le G G'→i<ps.length→J i G' μ'→Con Tryz.prog cf (([]:List Value)++[Value.int .i64 ((i:Nat)+1)]++capt).toArray G' μ' (fun r G'' μ''=>r=.bool true∧J (i+1) G'' μ'')) :
 Con Tryz.prog 44 #[.pointer (some ⟨cb,0,none⟩),.func (.func cf) #[] capt.toArray] G ((cb,clO (.slice A ps.length c::L))::ν0) (fun r G' μ'=>r=.bool true∧J ps.length G' μ'):=by
 have q:=clNodes_s (G:=G) (cb:=cb) (A:=A) (c:=c) (L:=L) (ps:=ps)
 (refine v_enter Tryz.func44 rfl Tryz.ntmps44 rfl ?_;intro B _)
 repeat' (first|refine Wa ?_|(refine Wc ⟨?_,?_⟩<;>first|exact True.intro|intro h)|apply v_callK (hs:=q) (μ2:=ν0);(case ha=>rfl);(case hp=>exact List.Perm.refl _);(case hd=>rfl)|fail)
 refine v_loop [8,7,1] (fun us G' μ'=>GH.le G G'∧∃ i:Nat,i≤ps.length∧us=[Value.int .i64 (i:Nat),.int .i64 (ps.length:Nat),.func (.func cf) #[] capt.toArray]∧J i G' μ') (fun us=>ps.length-(headI us).toNat) rfl ⟨GH.le_refl _,0,by omega,rfl,h0⟩ ?_
 rintro us G' μ' ⟨hle,i,hi,rfl,hJ⟩
 by_cases hlt:i<ps.length
 ·have qi:=h i G' μ' hle hlt hJ
  repeat' (first|refine Wa ?_|(refine Wc ⟨?_,?_⟩<;>first|exact True.intro|intro h)|fail)
  refine v_callC (first:=[]) (captured:=capt) (vs:=[Value.int .i64 ((i:Nat)+1)]) (μ1:=μ') (μ2:=[]) rfl rfl qi (by simp) rfl ?_
  rintro _ G2 μ2 hle2 ⟨rfl,hJ2⟩
  rw [List.append_nil]
  repeat' (first|refine Wa ?_|(refine Wc ⟨?_,?_⟩<;>first|exact True.intro|intro h)|fail)
  exact v_again rfl ⟨GH.le_trans hle hle2,i+1,by omega,rfl,hJ2⟩ (by simp [headI]<;>omega)
 ·obtain rfl:i=ps.length:=by omega
  repeat' (first|refine Wa ?_|(refine Wc ⟨?_,?_⟩<;>first|exact True.intro|intro h)|fail)
  exact v_ret _ (outsA1 rfl rfl) (List.Sublist.refl _) ⟨rfl,hJ⟩
theorem auAct1_s {G:GH}{xb ab cb bg lm:Nat}{A:Option Addr}{c:Nat}{ps:List Nat}{nodes:Int}{m:Im}{νn:OH}(hp:PtS G (.slice A ps.length c) ps) (hN:NewNds G nodes m ps νn) (hz:StZ m.st) (hc:CoZ m.confs) (ha:m.active=0) {i:Nat}(hi:i<ps.length) (h9:ps.length≤9) :
 Con Tryz.prog 101 #[.int .i64 ((i:Nat)+1),.pointer (some ⟨xb,0,none⟩),.pointer (some ⟨ab,0,none⟩)] G ([(xb,.cells [Value.pointer (some ⟨cb,0,none⟩)].toArray 46 (0,0))]++(ab,.cells [Value.int .i64 0].toArray 3 (0,0))::(cb,clO (clZ (.slice A ps.length c) bg lm))::(bg,bagO nilS)::(lm,.map #[] 0)::νn) (fun r G' μ'=>μ'=[(xb,.cells [Value.pointer (some ⟨cb,0,none⟩)].toArray 46 (0,0))]++(ab,.cells [Value.int .i64 0].toArray 3 (0,0))::(cb,clO (clZ (.slice A ps.length c) bg lm))::(bg,bagO nilS)::(lm,.map #[] 0)::νn∧r=.bool true):=by
 have q:=Con.frameK (clImage_s (cb:=cb) (L:=List.tail (clZ nilS bg lm)) hp hN hz hc hi h9) (μ:=[(xb,.cells [Value.pointer (some ⟨cb,0,none⟩)].toArray 46 (0,0))]++(ab,.cells [Value.int .i64 0].toArray 3 (0,0))::(cb,clO (clZ (.slice A ps.length c) bg lm))::(bg,bagO nilS)::(lm,.map #[] 0)::νn) (μ2:=[(xb,.cells [Value.pointer (some ⟨cb,0,none⟩)].toArray 46 (0,0))]++[(ab,.cells [Value.int .i64 0].toArray 3 (0,0)),(bg,bagO nilS),(lm,.map #[] 0)]) aV
 (refine v_enter Tryz.func101 rfl Tryz.ntmps101 rfl ?_;intro B _)
 repeat' (first|apply v_read;(case hop=>(apply r_load1;rfl;(apply Cell.own;(case h=>exact aM);rfl)));(case hd=>rfl)|refine Wa ?_|(refine Wc ⟨?_,?_⟩<;>first|exact True.intro|intro h)|refine Wr ?_|fail)
 refine v_call (μ1:=_) (μ2:=[]) rfl q (by simp) rfl ?_
 rintro r G1 _ - ⟨rfl,hr⟩
 obtain ⟨C1,cc1,A1,c1,A1',c1',rfl,hC1,hp1,hss1⟩:=id hr
 rw [List.append_nil,ha]
 repeat' (first|apply v_read;(case hop=>(apply r_load1;rfl;(apply Cell.own;(case h=>exact aM);rfl)));(case hd=>rfl)|refine Wa ?_|(refine Wc ⟨?_,?_⟩<;>first|exact True.intro|intro h)|refine Wr ?_|fail)
 exact v_ret _ (outsA1 rfl rfl) (List.Sublist.refl _) ⟨rfl,rfl⟩
theorem auAct_s {G:GH}{cb bg lm:Nat}{A:Option Addr}{c:Nat}{ps:List Nat}{nodes:Int}{m:Im}{νn:OH}(hp:PtS G (.slice A ps.length c) ps) (hN:NewNds G nodes m ps νn) (hz:StZ m.st) (hc:CoZ m.confs) (ha:m.active=0) (h9:ps.length≤9) :
 Con Tryz.prog 48 #[.pointer (some ⟨cb,0,none⟩)] G ((cb,clO (clZ (.slice A ps.length c) bg lm))::(bg,bagO nilS)::(lm,.map #[] 0)::νn) (fun r G' μ'=>μ'=(cb,clO (clZ (.slice A ps.length c) bg lm))::(bg,bagO nilS)::(lm,.map #[] 0)::νn∧r=.int .i64 0):=by
 have qp:=auPrefix0_s (G:=G) (cb:=cb) (bg:=bg) (lm:=lm) (A:=A) (c:=c) (ps:=ps)
 have qa:=actNil_s (G:=G)
 (refine v_enter Tryz.func48 rfl Tryz.ntmps48 rfl ?_;intro B _)
 repeat' (first|apply v_box (d:=1) (zs:=[.pointer (some ⟨cb,0,none⟩)]);(case hx|hz|hd=>rfl);intro xb|apply v_read;(case hop=>(apply r_load1;rfl;(apply Cell.own;(case h=>exact aM);rfl)));(case hd=>rfl)|apply v_alloc (d:=3);(case hz|hd=>rfl);intro ab|refine Wa ?_|(refine Wc ⟨?_,?_⟩<;>first|exact True.intro|intro h)|apply v_callK (hs:=qp) (μ2:=(xb,.cells [Value.pointer (some ⟨cb,0,none⟩)].toArray 46 (0,0))::(bg,bagO nilS)::νn);(case ha=>rfl);(case hp=>exact aV);(case hd=>rfl)|refine cJ qa ?_|refine Wr ?_|(refine Wb ?_;intro b)|fail)
 have qe:=auEach_s (G:=G) (cb:=cb) (A:=A) (c:=c) (L:=List.tail (clZ nilS bg lm)) (ps:=ps) (cf:=101) (capt:=[.pointer (some ⟨xb,0,none⟩),.pointer (some ⟨ab,0,none⟩)]) (ν0:=(bg,bagO nilS)::(lm,.map #[] 0)::((xb,.cells [Value.pointer (some ⟨cb,0,none⟩)].toArray 46 (0,0))::(ab,.cells [Value.int .i64 0].toArray 3 (0,0))::νn)) (J:=fun i G' μ'=>GH.le G G'∧μ'=(cb,clO (clZ (.slice A ps.length c) bg lm))::(bg,bagO nilS)::(lm,.map #[] 0)::((xb,.cells [Value.pointer (some ⟨cb,0,none⟩)].toArray 46 (0,0))::(ab,.cells [Value.int .i64 0].toArray 3 (0,0))::νn)) h9 ⟨GH.le_refl _,rfl⟩ (by
  rintro i G' _ hle hi ⟨-,rfl⟩
  exact Con.monoG (Con.frameK (auAct1_s (xb:=xb) (ab:=ab) (cb:=cb) (bg:=bg) (lm:=lm) (hp.mono hle) (hN.imp fun i p ν h=>NewNd.up hle h) hz hc ha hi h9) (μ:=(cb,clO (clZ (.slice A ps.length c) bg lm))::(bg,bagO nilS)::(lm,.map #[] 0)::((xb,.cells [Value.pointer (some ⟨cb,0,none⟩)].toArray 46 (0,0))::(ab,.cells [Value.int .i64 0].toArray 3 (0,0))::νn)) (μ2:=[]) aV) fun v G2 μ2 hle2 h=>⟨h.2,GH.le_trans hle hle2,h.1⟩)
 refine v_call (μ1:=(cb,clO (clZ (.slice A ps.length c) bg lm))::(bg,bagO nilS)::(lm,.map #[] 0)::((xb,.cells [Value.pointer (some ⟨cb,0,none⟩)].toArray 46 (0,0))::(ab,.cells [Value.int .i64 0].toArray 3 (0,0))::νn)) (μ2:=[]) rfl qe aV rfl ?_
 rintro _ G1 _ - ⟨rfl,-,rfl⟩
 repeat' (first|refine Wa ?_|(refine Wc ⟨?_,?_⟩<;>first|exact True.intro|intro h)|refine Wr ?_|(refine Wb ?_;intro b)|fail)
 refine v_dropP ((cb,clO (clZ (.slice A ps.length c) bg lm))::(bg,bagO nilS)::(lm,.map #[] 0)::νn) [(xb,.cells [Value.pointer (some ⟨cb,0,none⟩)].toArray 46 (0,0)),(ab,.cells [Value.int .i64 0].toArray 3 (0,0))] aV ?_
 exact v_ret _ (outsA1 rfl rfl) (List.Sublist.refl _) ⟨rfl,rfl⟩
theorem auLate_s {G:GH}{cb bg lm:Nat}{A:Option Addr}{c:Nat}{ps:List Nat}:Con Tryz.prog 50 #[.pointer (some ⟨cb,0,none⟩)] G [(cb,clO (clZ (.slice A ps.length c) bg lm)),(lm,.map #[] 0)] (Keeps (.bool true) G [(cb,clO (clZ (.slice A ps.length c) bg lm)),(lm,.map #[] 0)]):=by
 have qp:=auPrefix0_s (G:=G) (cb:=cb) (bg:=bg) (lm:=lm) (A:=A) (c:=c) (ps:=ps)
 have qa:=actNil_s (G:=G)
 have qi:=fun fv=>idxNil_s (G:=G) (fv:=fv)
 (refine v_enter Tryz.func50 rfl Tryz.ntmps50 rfl ?_;intro B _)
 repeat' (first|refine Wa ?_|(refine Wc ⟨?_,?_⟩<;>first|exact True.intro|intro h)|refine cK qp ?_|refine cJ qa ?_|refine cJ (qi _) ?_|fail)
 exact v_ret _ (outsA1 rfl rfl) (List.Sublist.refl _) ⟨rfl,rfl,rfl⟩
theorem auSupp_s {G:GH}{sv:Value}{cb bg lm:Nat}{A:Option Addr}{c:Nat}{ps:List Nat}:Con Tryz.prog 49 #[sv,.pointer (some ⟨cb,0,none⟩)] G [(cb,clO (clZ (.slice A ps.length c) bg lm)),(lm,.map #[] 0)] (Keeps (.bool true) G [(cb,clO (clZ (.slice A ps.length c) bg lm)),(lm,.map #[] 0)]):=by
 have qp:=auPrefix0_s (G:=G) (cb:=cb) (bg:=bg) (lm:=lm) (A:=A) (c:=c) (ps:=ps)
 have qa:=actNil_s (G:=G)
 (refine v_enter Tryz.func49 rfl Tryz.ntmps49 rfl ?_;intro B _)
 repeat' (first|apply v_box (d:=3) (zs:=[.pointer (some ⟨cb,0,none⟩)]);(case hx|hz|hd=>rfl);intro xb|apply v_read;(case hop=>(apply r_load1;rfl;(apply Cell.own;(case h=>exact aM);rfl)));(case hd=>rfl)|refine Wa ?_|(refine Wc ⟨?_,?_⟩<;>first|exact True.intro|intro h)|apply v_callK (hs:=qp) (μ2:=[(xb,.cells [Value.pointer (some ⟨cb,0,none⟩)].toArray 46 (0,0))]);(case ha=>rfl);(case hp=>exact aV);(case hd=>rfl)|refine cJ qa ?_|refine Wr ?_|(refine Wb ?_;intro b)|fail)
 exact v_ret _ (outsA1 rfl rfl) (List.sublist_cons_self _ _) ⟨rfl,rfl,rfl⟩
theorem auNew1_s {G:GH}{xb cb bg lm:Nat}{A:Option Addr}{c:Nat}{ps:List Nat}{nodes:Int}{m:Im}{νn:OH}(hp:PtS G (.slice A ps.length c) ps) (hN:NewNds G nodes m ps νn) {i:Nat}(hi:i<ps.length) (h9:ps.length≤9) :
 Con Tryz.prog 110 #[.int .i64 ((i:Nat)+1),.pointer (some ⟨xb,0,none⟩)] G ((xb,.cells [Value.pointer (some ⟨cb,0,none⟩)].toArray 46 (0,0))::(cb,clO (clZ (.slice A ps.length c) bg lm))::νn) (fun r G' μ'=>μ'=(xb,.cells [Value.pointer (some ⟨cb,0,none⟩)].toArray 46 (0,0))::(cb,clO (clZ (.slice A ps.length c) bg lm))::νn∧r=.bool true):=by
 have q:=clVersion_s (cb:=cb) (L:=List.tail (clZ nilS bg lm)) hp hN hi h9
 (refine v_enter Tryz.func110 rfl Tryz.ntmps110 rfl ?_;intro B _)
 repeat' (first|apply v_read;(case hop=>(apply r_load1;rfl;(apply Cell.own;(case h=>exact aM);rfl)));(case hd=>rfl)|refine Wa ?_|(refine Wc ⟨?_,?_⟩<;>first|exact True.intro|intro h)|apply v_callK (hs:=q) (μ2:=[(xb,.cells [Value.pointer (some ⟨cb,0,none⟩)].toArray 46 (0,0))]);(case ha=>rfl);(case hp=>exact aV);(case hd=>rfl)|refine Wr ?_|fail)
 exact v_ret _ (outsA1 rfl rfl) (List.Sublist.refl _) ⟨rfl,rfl⟩
theorem auNew_s {G:GH}{cb bg lm:Nat}{A:Option Addr}{c:Nat}{ps:List Nat}{nodes:Int}{m:Im}{νn:OH}(hp:PtS G (.slice A ps.length c) ps) (hN:NewNds G nodes m ps νn) (h9:ps.length≤9) :
 Con Tryz.prog 51 #[.pointer (some ⟨cb,0,none⟩)] G ((cb,clO (clZ (.slice A ps.length c) bg lm))::νn) (fun r G' μ'=>μ'=(cb,clO (clZ (.slice A ps.length c) bg lm))::νn∧r=.bool true):=by
 (refine v_enter Tryz.func51 rfl Tryz.ntmps51 rfl ?_;intro B _)
 repeat' (first|apply v_box (d:=1) (zs:=[.pointer (some ⟨cb,0,none⟩)]);(case hx|hz|hd=>rfl);intro xb|apply v_read;(case hop=>(apply r_load1;rfl;(apply Cell.own;(case h=>exact aM);rfl)));(case hd=>rfl)|refine Wa ?_|(refine Wc ⟨?_,?_⟩<;>first|exact True.intro|intro h)|refine Wr ?_|(refine Wb ?_;intro b)|fail)
 have qe:=auEach_s (G:=G) (cb:=cb) (A:=A) (c:=c) (L:=List.tail (clZ nilS bg lm)) (ps:=ps) (cf:=110) (capt:=[.pointer (some ⟨xb,0,none⟩)]) (ν0:=(xb,.cells [Value.pointer (some ⟨cb,0,none⟩)].toArray 46 (0,0))::νn) (J:=fun i G' μ'=>GH.le G G'∧μ'=(cb,clO (clZ (.slice A ps.length c) bg lm))::(xb,.cells [Value.pointer (some ⟨cb,0,none⟩)].toArray 46 (0,0))::νn) h9 ⟨GH.le_refl _,rfl⟩ (by
  rintro i G' _ hle hi ⟨-,rfl⟩
  exact Con.monoG (Con.frameK (auNew1_s (xb:=xb) (cb:=cb) (bg:=bg) (lm:=lm) (hp.mono hle) (hN.imp fun i p ν h=>NewNd.up hle h) hi h9) (μ:=(cb,clO (clZ (.slice A ps.length c) bg lm))::(xb,.cells [Value.pointer (some ⟨cb,0,none⟩)].toArray 46 (0,0))::νn) (μ2:=[]) aV) fun v G2 μ2 hle2 h=>⟨h.2,GH.le_trans hle hle2,h.1⟩)
 refine v_call (μ1:=(cb,clO (clZ (.slice A ps.length c) bg lm))::(xb,.cells [Value.pointer (some ⟨cb,0,none⟩)].toArray 46 (0,0))::νn) (μ2:=[]) rfl qe aV rfl ?_
 rintro _ G1 _ - ⟨rfl,-,rfl⟩
 repeat' (first|refine Wa ?_|(refine Wc ⟨?_,?_⟩<;>first|exact True.intro|intro h)|refine Wr ?_|(refine Wb ?_;intro b)|fail)
 refine v_dropP ((cb,clO (clZ (.slice A ps.length c) bg lm))::νn) [(xb,.cells [Value.pointer (some ⟨cb,0,none⟩)].toArray 46 (0,0))] aV ?_
 exact v_ret _ (outsA1 rfl rfl) (List.Sublist.refl _) ⟨rfl,rfl⟩
theorem clClash_s {G:GH}{cb bg lm:Nat}{A:Option Addr}{c:Nat}{ps:List Nat}:Con Tryz.prog 47 #[.pointer (some ⟨cb,0,none⟩)] G [(cb,clO (clZ (.slice A ps.length c) bg lm))] (Keeps (.int .i64 0) G [(cb,clO (clZ (.slice A ps.length c) bg lm))]):=by
 (refine v_enter Tryz.func47 rfl Tryz.ntmps47 rfl ?_;intro B _)
 repeat' (first|apply v_read;(case hop=>(apply r_load1;rfl;(apply Cell.own;(case h=>exact aM);rfl)));(case hd=>rfl)|refine Wa ?_|(refine Wc ⟨?_,?_⟩<;>first|exact True.intro|intro h)|refine Wr ?_|fail)
 exact v_ret _ (outsA1 rfl rfl) (List.Sublist.refl _) ⟨rfl,rfl,rfl⟩
theorem auCheck_s {G:GH}{sv:Value}{cb bg lm:Nat}{A:Option Addr}{c:Nat}{ps:List Nat}{nodes:Int}{m:Im}{νn:OH}(hp:PtS G (.slice A ps.length c) ps) (hN:NewNds G nodes m ps νn) (hz:StZ m.st) (hc:CoZ m.confs) (ha:m.active=0) (h9:ps.length≤9) :
 Con Tryz.prog 19 #[sv,.pointer (some ⟨cb,0,none⟩)] G ((cb,clO (clZ (.slice A ps.length c) bg lm))::(bg,bagO nilS)::(lm,.map #[] 0)::νn) (fun r G' μ'=>μ'=(cb,clO (clZ (.slice A ps.length c) bg lm))::(bg,bagO nilS)::(lm,.map #[] 0)::νn∧r=.int .i64 0):=by
 have q1:=clClash_s (G:=G) (cb:=cb) (bg:=bg) (lm:=lm) (A:=A) (c:=c) (ps:=ps)
 have q2:=auAct_s (cb:=cb) (bg:=bg) (lm:=lm) hp hN hz hc ha h9
 have q3:=fun G=>auSupp_s (G:=G) (sv:=sv) (cb:=cb) (bg:=bg) (lm:=lm) (A:=A) (c:=c) (ps:=ps)
 have q4:=fun G=>auLate_s (G:=G) (cb:=cb) (bg:=bg) (lm:=lm) (A:=A) (c:=c) (ps:=ps)
 have q5:=fun G' (h:GH.le G G')=>auNew_s (cb:=cb) (bg:=bg) (lm:=lm) (hp.mono h) (hN.imp fun i p ν h'=>NewNd.up h h') h9
 (refine v_enter Tryz.func19 rfl Tryz.ntmps19 rfl ?_;intro B _)
 repeat' (first|refine Wa ?_|(refine Wc ⟨?_,?_⟩<;>first|exact True.intro|intro h)|apply v_callK (hs:=q1) (μ2:=(bg,bagO nilS)::(lm,.map #[] 0)::νn);(case ha=>rfl);(case hp=>exact aV);(case hd=>rfl)|fail)
 refine v_call (μ1:=(cb,clO (clZ (.slice A ps.length c) bg lm))::(bg,bagO nilS)::(lm,.map #[] 0)::νn) (μ2:=[]) rfl q2 (by simp) rfl ?_
 rintro _ G1 _ hle1 ⟨rfl,rfl⟩
 rw [List.append_nil]
 repeat' (first|refine Wa ?_|(refine Wc ⟨?_,?_⟩<;>first|exact True.intro|intro h)|apply v_callK (hs:=q3 G1) (μ2:=(bg,bagO nilS)::νn);(case ha=>rfl);(case hp=>exact aV);(case hd=>rfl)|apply v_callK (hs:=q4 G1) (μ2:=(bg,bagO nilS)::νn);(case ha=>rfl);(case hp=>exact aV);(case hd=>rfl)|fail)
 refine v_call (μ1:=(cb,clO (clZ (.slice A ps.length c) bg lm))::νn) (μ2:=[(bg,bagO nilS),(lm,.map #[] 0)]) rfl (q5 G1 hle1) aV rfl ?_
 rintro _ G2 _ hle2 ⟨rfl,rfl⟩
 refine v_perm (ν:=(cb,clO (clZ (.slice A ps.length c) bg lm))::(bg,bagO nilS)::(lm,.map #[] 0)::νn) aV ?_
 repeat' (first|refine Wa ?_|(refine Wc ⟨?_,?_⟩<;>first|exact True.intro|intro h)|fail)
 exact v_ret _ (outsA1 rfl rfl) (List.Sublist.refl _) ⟨rfl,rfl⟩
end Go.Proofs.YtkofafmiabmobaaGreatDoor
/-
  window (layer 30): what a kind of commands does to all but the application.
-/
namespace Go.Proofs.YtkofafmiabmobaaGreatDoor
open Go.Vx Go.ChangeShapes Go.WideShapes Go.ChangeAt Go.RowKit
abbrev boxI (b:Nat) (ix ac:Int) (C:Value) (z:Int) (P S:Value):Nat×Obj:=(b,.cells [.int .i64 ix,.int .i64 ac,C,.int .i64 z,P,S].toArray 127 (0,0))
theorem imOther_s {G:GH}{b:Nat}{ix ac z:Int}{C P S:Value}(c:Cm):Con Tryz.prog 126 #[.pointer (some ⟨b,0,none⟩),.agg c.cells.toArray] G [boxI b ix ac C z P S] (fun _ G' μ'=>G'=G∧μ'=[boxI b ix ac C z P S]):=by
 obtain ⟨kind,cl,seq,key,val,old,node⟩:=c
 (refine v_enter Tryz.func126 rfl Tryz.ntmps126 rfl ?_;intro B _)
 repeat' (first|apply v_box (d:=3) (zs:=Cm.cells ⟨kind,cl,seq,key,val,old,node⟩);(case hx|hz|hd=>rfl);intro b3|refine Wa ?_|(refine Wc ⟨?_,?_⟩<;>first|exact True.intro|intro h)|(refine Wb ?_;intro b)|fail)
 refine v_end [boxI b ix ac C z P S] (outsA0 rfl) sS ?_
 exact ⟨rfl,rfl⟩
theorem imActivate_s {G:GH}{b:Nat}{ix ac z:Int}{C P S:Value}(c:Cm):Con Tryz.prog 125 #[.pointer (some ⟨b,0,none⟩),.agg c.cells.toArray] G [boxI b ix ac C z P S] (fun _ G' μ'=>G'=G∧μ'=[boxI b ix (if ac=0 then ix else ac) C z P S]):=by
 obtain ⟨kind,cl,seq,key,val,old,node⟩:=c
 (refine v_enter Tryz.func125 rfl Tryz.ntmps125 rfl ?_;intro B _)
 repeat' (first|apply v_box (d:=3) (zs:=Cm.cells ⟨kind,cl,seq,key,val,old,node⟩);(case hx|hz|hd=>rfl);intro b3|refine Wa ?_|(refine Wc ⟨?_,?_⟩<;>first|exact True.intro|intro h)|refine Wr ?_|(refine Wb ?_;intro b)|fail)
 ·have h0:ac=0:=by assumption
  rw [if_pos h0]
  refine v_end [boxI b ix ix C z P S] (outsA0 rfl) sS ?_
  exact ⟨rfl,rfl⟩
 ·have h0:¬ ac=0:=by assumption
  rw [if_neg h0]
  refine v_end [boxI b ix ac C z P S] (outsA0 rfl) sS ?_
  exact ⟨rfl,rfl⟩
theorem imMember_s {G:GH}{b:Nat}{ix ac z:Int}{C P S:Value}{l:List Co}(c:Cm) (hC:Cos G C l) (hl:l.length≤1000) (hbig:∀ c∈l,c.2.length≤1048000) (hn:(Lit.int .i64 c.node).wf=true) :
 Con Tryz.prog 124 #[.pointer (some ⟨b,0,none⟩),.agg c.cells.toArray] G [boxI b ix ac C z P S]
  (fun _ G' μ'=>∃ C',Cos G' C' (if (changeR l ix c.kind c.node).2=0 then changeL l ix c.kind c.node else l)∧μ'=[boxI b ix ac C' z P S]):=by
 obtain ⟨kind,cl,seq,key,val,old,node⟩:=c
 have q:=change_s ix kind node hC hl hbig hn
 have h1:=fun h=>changeR_one (l:=l) (x:=ix) (k:=kind) (n:=node) h
 obtain ⟨A,cc,rfl,-⟩:=id hC.open
 simp only at *
 generalize changeR l ix kind node=cr at *
 obtain ⟨cl',ce⟩:=cr
 simp only at *
 (refine v_enter Tryz.func124 rfl Tryz.ntmps124 rfl ?_;intro B _)
 repeat' (first|apply v_box (d:=3) (zs:=Cm.cells ⟨kind,cl,seq,key,val,old,node⟩);(case hx|hz|hd=>rfl);intro b3|refine Wa ?_|(refine Wc ⟨?_,?_⟩<;>first|exact True.intro|intro h)|refine Wr ?_|(refine Wb ?_;intro b)|fail)
 refine Dz [boxI b ix ac (.slice A l.length cc) z P S,(b3,.cells (Cm.cells ⟨kind,cl,seq,key,val,old,node⟩).toArray 41 (0,0))] ?_
 all_goals refine Dt [0,1,2,3,4,5,6,7,8,9,10,11,12,13] ?_
 all_goals (((apply d_call 14 (hs:=q) (μ1:=[]);(case hi=>rfl);(case hr=>kernel_rfl);(case ha=>rfl);(case hp=>exact List.Perm.refl _);(case hd=>rfl);(case hν'=>intro e he;simp at he;simp;rcases he with rfl|rfl<;>simp);rintro r1 G1 ν1 hle1 ⟨rfl,v1,rfl,hv1⟩)))
 all_goals refine Dt [15,16,17,18,19] ?_
 all_goals refine Dd ?_
 repeat' (first|refine Wa ?_|(refine Wc ⟨?_,?_⟩<;>first|exact True.intro|intro h)|refine Wr ?_|(refine Wb ?_;intro b)|fail)
 ·obtain ⟨A1,c1,rfl,-⟩:=id hv1.open
  have h0:ce=0:=by assumption
  rw [if_pos h0,← h1 h0]
  repeat' (first|refine Wa ?_|(refine Wc ⟨?_,?_⟩<;>first|exact True.intro|intro h)|refine Wr ?_|(refine Wb ?_;intro b)|fail)
  refine v_end [boxI b ix ac _ z P S] (outsA0 rfl) sS ?_
  exact ⟨_,hv1,rfl⟩
 ·rw [if_neg (by assumption)]
  refine v_end [boxI b ix ac (.slice A l.length cc) z P S] (outsA0 rfl) sS ?_
  exact ⟨_,hC.le hle1,rfl⟩
noncomputable def doesF (kind:Int):Nat:=if kind=7∨kind=8 then 124 else if kind=6 then 125 else 126
theorem imDoes_s {G:GH}{b:Nat}(kind:Int):Con Tryz.prog 63 #[.pointer (some ⟨b,0,none⟩),.int .i64 kind] G [] (Just (.func (.func (doesF kind)) #[.pointer (some ⟨b,0,none⟩)] #[]) G):=by
 apply Con.just
 unfold doesF
 (refine v_enter Tryz.func63 rfl Tryz.ntmps63 rfl ?_;intro B _)
 by_cases h7:kind=7
 ·repeat' (first|refine Wa ?_|(refine Wc ⟨?_,?_⟩<;>first|exact True.intro|intro h)|fail)
  refine Vr ?_
  rw [if_pos (.inl h7)]
  exact ⟨rfl,rfl⟩
 ·by_cases h8:kind=8
  ·repeat' (first|refine Wa ?_|(refine Wc ⟨?_,?_⟩<;>first|exact True.intro|intro h)|fail)
   refine Vr ?_
   rw [if_pos (.inr h8)]
   exact ⟨rfl,rfl⟩
  ·by_cases h6:kind=6
   ·repeat' (first|refine Wa ?_|(refine Wc ⟨?_,?_⟩<;>first|exact True.intro|intro h)|fail)
    refine Vr ?_
    rw [if_neg (by omega),if_pos h6]
    exact ⟨rfl,rfl⟩
   ·repeat' (first|refine Wa ?_|(refine Wc ⟨?_,?_⟩<;>first|exact True.intro|intro h)|fail)
    refine Vr ?_
    rw [if_neg (by omega),if_neg h6]
    exact ⟨rfl,rfl⟩
theorem winNone_s (G:GH) (e:Int):Con Tryz.prog 61 #[.int .i64 e] G [] (Just (.tuple [.agg [.int .i64 0,.int .i64 0,.slice none 0 0,.int .i64 0,.slice none 0 0,.slice none 0 0].toArray,.agg zA.cells.toArray,.int .i64 e].toArray) G):=by
 apply Con.just
 (refine v_enter Tryz.func61 rfl Tryz.ntmps61 rfl ?_;intro B _)
 repeat' (first|apply v_alloc (d:=2);(case hz|hd=>rfl);intro b2|apply v_alloc (d:=3);(case hz|hd=>rfl);intro b3|refine Wa ?_|(refine Wc ⟨?_,?_⟩<;>first|exact True.intro|intro h)|refine Wr ?_|(refine Wb ?_;intro b)|fail)
 refine v_retM [] (outsM_cct (sz0:=6) (vs0:=[.int .i64 0,.int .i64 0,.slice none 0 0,.int .i64 0,.slice none 0 0,.slice none 0 0]) (e0:=59) (sz1:=6) (vs1:=zA.cells) (e1:=66) rfl rfl aM rfl rfl aM rfl rfl) (List.nil_sublist _) ⟨rfl,rfl⟩
end Go.Proofs.YtkofafmiabmobaaGreatDoor
/-
  window (layer 30): Apply.
-/
set_option maxHeartbeats 2000000
namespace Go.Proofs.YtkofafmiabmobaaGreatDoor
open Go.Vx Go.ChangeShapes Go.WideShapes Go.ChangeAt Go.RowKit
noncomputable instance (kind:Int):Callable Tryz.prog (doesF kind):=by
 unfold doesF
 split
 ·exact callable_of Tryz.func124 (by kernel_rfl) (by kernel_rfl)
 ·split
  ·exact callable_of Tryz.func125 (by kernel_rfl) (by kernel_rfl)
  ·exact callable_of Tryz.func126 (by kernel_rfl) (by kernel_rfl)
theorem imDo_s {G:GH}{b:Nat}{ix ac z:Int}{C P S:Value}{l:List Co}(c:Cm) (hC:Cos G C l) (hl:l.length≤1000) (hbig:∀ c∈l,c.2.length≤1048000) (hn:(Lit.int .i64 c.node).wf=true) :
 Con Tryz.prog (doesF c.kind) #[.pointer (some ⟨b,0,none⟩),.agg c.cells.toArray] G [boxI b ix ac C z P S]
  (fun _ G' μ'=>∃ C',Cos G' C' (if (c.kind=7∨c.kind=8)∧(changeR l ix c.kind c.node).2=0 then changeL l ix c.kind c.node else l)∧μ'=[boxI b ix (if c.kind=6∧ac=0 then ix else ac) C' z P S]):=by
 unfold doesF
 by_cases h7:c.kind=7∨c.kind=8
 ·rw [if_pos h7]
  refine (imMember_s c hC hl hbig hn).mono fun r G' μ' h=>?_
  obtain ⟨C',h1,h2⟩:=h
  refine ⟨C',?_,?_⟩
  ·by_cases h0:(changeR l ix c.kind c.node).2=0
   ·rw [if_pos h0] at h1;rw [if_pos ⟨h7,h0⟩];exact h1
   ·rw [if_neg h0] at h1;rw [if_neg (fun h=>h0 h.2)];exact h1
  ·rw [if_neg (fun h=>by omega)];exact h2
 ·rw [if_neg h7]
  by_cases h6:c.kind=6
  ·rw [if_pos h6]
   refine (imActivate_s c).mono fun r G' μ' h=>?_
   obtain ⟨rfl,h2⟩:=h
   refine ⟨C,by rw [if_neg (fun h=>h7 h.1)];exact hC,?_⟩
   by_cases h0:ac=0
   ·rw [if_pos h0] at h2;rw [if_pos ⟨h6,h0⟩];exact h2
   ·rw [if_neg h0] at h2;rw [if_neg (fun h=>h0 h.2)];exact h2
  ·rw [if_neg h6]
   refine (imOther_s c).mono fun r G' μ' h=>?_
   obtain ⟨rfl,h2⟩:=h
   exact ⟨C,by rw [if_neg (fun h=>h7 h.1)];exact hC,by rw [if_neg (fun h=>h6 h.1)];exact h2⟩
theorem winApply_s {G:GH}(hT:TabsG G) {m:Im}{v:Value}(hm:ImV G m v) (hz:StZ m.st) (hco:CoZ m.confs) (c:Cm) (hc:c.ok) (hcw:CmW c) :
 Con Tryz.prog 25 #[v,.agg c.cells.toArray] G [] (fun r G' μ'=>μ'=[]∧∃ v',r=.tuple [v',.agg (winS m c).2.1.cells.toArray,.int .i64 (winS m c).2.2].toArray∧ImV G' (winS m c).1 v'):=by
 have q1:=winCheck_s hT hm hz
 have q2:=cmdCheck_s hT c hc
 have q3:=fun G' (h:GH.le G G')=>winClone_s (hm.up h) hz hco
 have q4:=fun G' (hT:TabsG G') v' (hs:StV G' m.st v') (hok:StP m.st)=>apply_s hT c hs hz hok hc hcw
 have hst:winS m c=if ¬ ImP m then (zeroIm,zA,3) else if 4294967292≤m.index then (zeroIm,zA,11) else if cmdI c≠0 then (zeroIm,zA,cmdI c) else (nextI m c,(applyS m.st c).2.1,0):=rfl
 have hnx:nextI m c=⟨m.index+1,activeI m c,trimL (confsI m c) (m.index+2),(applyS m.st c).1⟩:=rfl
 have hcI:confsI m c=if (c.kind=7∨c.kind=8)∧(changeR m.confs (m.index+1) c.kind c.node).2=0 then changeL m.confs (m.index+1) c.kind c.node else m.confs:=rfl
 have haI:activeI m c=if c.kind=6∧m.active=0 then m.index+1 else m.active:=rfl
 have hcok:=fun (h:ImP m) (h2:m.index<4294967292)=>confsI_ok (c:=c) h h2
 have hclen:=confsI_len (m:=m) (c:=c)
 have hi0:ImP m→0≤m.index:=fun h=>h.1.1
 have hstp:ImP m→StP m.st:=fun h=>h.2.2.1
 have hcz:=hco.1
 have hcb:=hco.one
 have hnode:(Lit.int .i64 c.node).wf=true:=hc.2.2.2.2.2.2
 have q6:=fun G' (b:Nat) (x a z:Int) (C P S:Value) (hC:Cos G' C m.confs)=>imDo_s (b:=b) (ix:=x) (ac:=a) (z:=z) (P:=P) (S:=S) c hC (by omega) hcb hnode
 have q5:=fun G' (b:Nat)=>imDoes_s (G:=G') (b:=b) c.kind
 obtain ⟨C,cc,A,d,A',d',rfl,hC,hp,hss⟩:=id hm
 rw [hst]
 clear hst
 obtain ⟨kind,cl,seq,key,val,old,node⟩:=c
 generalize cmdI ⟨kind,cl,seq,key,val,old,node⟩=ci at *
 generalize activeI m ⟨kind,cl,seq,key,val,old,node⟩=aI at *
 generalize confsI m ⟨kind,cl,seq,key,val,old,node⟩=cI at *
 generalize applyS m.st ⟨kind,cl,seq,key,val,old,node⟩=ap at *
 generalize nextI m ⟨kind,cl,seq,key,val,old,node⟩=nI at *
 by_cases hP:ImP m
 ·rw [if_pos hP] at q1
  rw [if_neg (fun h=>h hP)]
  have hi0:=hi0 hP
  have hstp:=hstp hP
  have hcok:=hcok hP
  clear hP
  obtain ⟨ix,ac,lc,⟨z,lp,ls⟩⟩:=m
  simp only at *
  by_cases hfull:4294967292≤ix
  ·rw [if_pos hfull]
   (refine v_enter Tryz.func25 rfl Tryz.ntmps25 rfl ?_;intro B _)
   repeat' (first|apply v_box (d:=2) (zs:=[.int .i64 ix,.int .i64 ac,.slice C lc.length cc,.int .i64 z,.slice A lp.length d,.slice A' ls.length d']);(case hx|hz|hd=>rfl);intro b2|apply v_box (d:=3) (zs:=Cm.cells ⟨kind,cl,seq,key,val,old,node⟩);(case hx|hz|hd=>rfl);intro b3|apply v_alloc (d:=4);(case hz|hd=>rfl);intro b4|apply v_alloc (d:=5);(case hz|hd=>rfl);intro b5|apply v_read;(case hop=>(apply r_loadNo;(case hx=>rfl);(case h=>exact aM);(case hd|hn=>rfl)));(case hd=>rfl)|refine Wa ?_|(refine Wc ⟨?_,?_⟩<;>first|exact True.intro|intro h)|refine cJ q1 ?_|apply v_callFJ0 (hs:=winNone_s _ _);(case hx|ha|hd=>rfl)|refine Wr ?_|(refine Wb ?_;intro b)|fail)
   refine v_retM [] (outsM_cct (sz0:=6) (vs0:=[.int .i64 0,.int .i64 0,.slice none 0 0,.int .i64 0,.slice none 0 0,.slice none 0 0]) (e0:=59) (sz1:=6) (vs1:=zA.cells) (e1:=66) rfl rfl aM rfl rfl aM rfl rfl) (List.nil_sublist _) ⟨rfl,_,rfl,ImV.zero _⟩
  ·rw [if_neg hfull]
   have hcok:=hcok (by omega)
   have hcf:∀ x∈cI,x.2.length≤1048000:=fun x hx=>by have:=hcok.few x hx;omega
   (refine v_enter Tryz.func25 rfl Tryz.ntmps25 rfl ?_;intro B _)
   repeat' (first|apply v_box (d:=2) (zs:=[.int .i64 ix,.int .i64 ac,.slice C lc.length cc,.int .i64 z,.slice A lp.length d,.slice A' ls.length d']);(case hx|hz|hd=>rfl);intro b2|apply v_box (d:=3) (zs:=Cm.cells ⟨kind,cl,seq,key,val,old,node⟩);(case hx|hz|hd=>rfl);intro b3|apply v_alloc (d:=4);(case hz|hd=>rfl);intro b4|apply v_alloc (d:=5);(case hz|hd=>rfl);intro b5|apply v_read;(case hop=>(apply r_loadNo;(case hx=>rfl);(case h=>exact aM);(case hd|hn=>rfl)));(case hd=>rfl)|refine Wa ?_|(refine Wc ⟨?_,?_⟩<;>first|exact True.intro|intro h)|refine cJ q1 ?_|refine Wr ?_|(refine Wb ?_;intro b)|fail)
   refine cQ rfl q2 ?_
   rintro _ G1 _ hle1 ⟨rfl,rfl⟩
   by_cases hci:ci=0
   ·subst hci
    rw [if_neg (by simp)]
    repeat' (first|apply v_read;(case hop=>(apply r_loadNo;(case hx=>rfl);(case h=>exact aM);(case hd|hn=>rfl)));(case hd=>rfl)|refine Wa ?_|(refine Wc ⟨?_,?_⟩<;>first|exact True.intro|intro h)|refine Wr ?_|(refine Wb ?_;intro b)|fail)
    refine cQ rfl (q3 G1 hle1) ?_
    rintro _ G2 _ hle2 ⟨rfl,C2,cc2,A2,d2,A2',d2',rfl,hC2,hp2,hss2⟩
    have hs2:StV G2 ⟨z,lp,ls⟩ (.agg [.int .i64 z,.slice A2 lp.length d2,.slice A2' ls.length d2'].toArray):=⟨_,_,_,_,rfl,hp2,hss2⟩
    repeat' (first|apply v_box (d:=46) (zs:=[.int .i64 ix,.int .i64 ac,.slice C2 lc.length cc2,.int .i64 z,.slice A2 lp.length d2,.slice A2' ls.length d2']);(case hx|hz|hd=>rfl);intro b46|apply v_read;(case hop=>(apply r_loadNo;(case hx=>rfl);(case h=>exact aM);(case hd|hn=>rfl)));(case hd=>rfl)|refine Wa ?_|(refine Wc ⟨?_,?_⟩<;>first|exact True.intro|intro h)|refine cJ (q5 _ _) ?_|refine Wr ?_|(refine Wb ?_;intro b)|fail)
    refine v_callC (first:=[.pointer (some ⟨b46,0,none⟩)]) (captured:=[]) (μ1:=[boxI b46 (ix+1) ac (.slice C2 lc.length cc2) z (.slice A2 lp.length d2) (.slice A2' ls.length d2')]) rfl rfl (q6 G2 b46 (ix+1) ac z _ _ _ hC2) (List.Perm.refl _) rfl ?_
    rintro _ G3 _ hle3 ⟨C3,hC3,rfl⟩
    rw [← haI,← hcI] at *
    obtain ⟨CA,cc3,rfl,-⟩:=id hC3.open
    have qa:=q4 G3 (((hT.up hle1).up hle2).up hle3) _ (hs2.up hle3) hstp
    have htr:trimR cI (ix+1+1)=trimL cI (ix+2):=by
     rw [trimR,if_pos ⟨hcok,by omega⟩]
     congr 1;omega
    obtain ⟨s5,⟨xc,xq,xe,xf,xv,xr⟩,e5⟩:=ap
    simp only at *
    have qt:=fun G' (h:GH.le G3 G')=>trim_s (ix+1+1) (hC3.le h) (by omega) hcf
    rw [htr] at qt
    clear hnode hcz hcb q5 q6 q4 hcf hcI haI htr
    repeat' (first|apply v_read;(case hop=>(apply r_loadNo;(case hx=>rfl);(case h=>exact aM);(case hd|hn=>rfl)));(case hd=>rfl)|refine Wa ?_|(refine Wc ⟨?_,?_⟩<;>first|exact True.intro|intro h)|refine Wr ?_|(refine Wb ?_;intro b)|fail)
    refine Dz [boxI b46 (ix+1) aI (.slice CA cI.length cc3) z (.slice A2 lp.length d2) (.slice A2' ls.length d2'),(b3,.cells (Cm.cells ⟨kind,cl,seq,key,val,old,node⟩).toArray 41 (0,0))] ?_
    all_goals refine Dt [0,1,2,3,4,5] ?_
    focus
     refine d_fork3 6 11 12 (by kernel_rfl) ?_ ?_ ?_
     rotate_right
     focus
      first|apply x_call 12 (hs:=qa) (μ1:=[]);(case hi|ha=>rfl);(case hp=>exact List.Perm.refl _);(case hd=>rfl);(case hν'=>intro e he;simp only [List.mem_cons,List.not_mem_nil,or_false] at he;rcases he with rfl|rfl<;>simp);rintro _ G6 _ hle6 ⟨rfl,v6,rfl,hs6⟩;obtain ⟨A6,c6,A6',c6',rfl,-,-⟩:=id hs6|apply d_exec (d:=12) 12;(case hi=>rfl);(case hop=>exact m_alloc rfl);(case hd=>rfl);rintro _ G0 _ ⟨b12,rfl,hG0,rfl⟩;subst G0;refine ⟨(by intro e he;simp only [List.mem_cons,List.not_mem_nil,or_false] at he;rcases he with rfl|rfl<;>simp),?_⟩|apply x_exec (d:=12) 12;(case hi=>rfl);(case hop=>exact m_alloc rfl);(case hd=>rfl);rintro _ G0 _ ⟨b12,rfl,hG0,rfl⟩;subst G0;refine ⟨(by intro e he;simp only [List.mem_cons,List.not_mem_nil,or_false] at he;rcases he with rfl|rfl<;>simp),?_⟩|apply d_exec (d:=13) 12;(case hi=>rfl);(case hop=>exact m_alloc rfl);(case hd=>rfl);rintro _ G0 _ ⟨b13,rfl,hG0,rfl⟩;subst G0;refine ⟨(by intro e he;simp only [List.mem_cons,List.not_mem_nil,or_false] at he;rcases he with rfl|rfl<;>simp),?_⟩|apply x_exec (d:=13) 12;(case hi=>rfl);(case hop=>exact m_alloc rfl);(case hd=>rfl);rintro _ G0 _ ⟨b13,rfl,hG0,rfl⟩;subst G0;refine ⟨(by intro e he;simp only [List.mem_cons,List.not_mem_nil,or_false] at he;rcases he with rfl|rfl<;>simp),?_⟩|fail
      focus
       refine d_fork 6 11 (by kernel_rfl) ?_ ?_
       rotate_right
       focus
        first|apply x_call 11 (hs:=qa) (μ1:=[]);(case hi|ha=>rfl);(case hp=>exact List.Perm.refl _);(case hd=>rfl);(case hν'=>intro e he;simp only [List.mem_cons,List.not_mem_nil,or_false] at he;rcases he with rfl|rfl<;>simp);rintro _ G6 _ hle6 ⟨rfl,v6,rfl,hs6⟩;obtain ⟨A6,c6,A6',c6',rfl,-,-⟩:=id hs6|apply d_exec (d:=12) 11;(case hi=>rfl);(case hop=>exact m_alloc rfl);(case hd=>rfl);rintro _ G0 _ ⟨b12,rfl,hG0,rfl⟩;subst G0;refine ⟨(by intro e he;simp only [List.mem_cons,List.not_mem_nil,or_false] at he;rcases he with rfl|rfl<;>simp),?_⟩|apply x_exec (d:=12) 11;(case hi=>rfl);(case hop=>exact m_alloc rfl);(case hd=>rfl);rintro _ G0 _ ⟨b12,rfl,hG0,rfl⟩;subst G0;refine ⟨(by intro e he;simp only [List.mem_cons,List.not_mem_nil,or_false] at he;rcases he with rfl|rfl<;>simp),?_⟩|apply d_exec (d:=13) 11;(case hi=>rfl);(case hop=>exact m_alloc rfl);(case hd=>rfl);rintro _ G0 _ ⟨b13,rfl,hG0,rfl⟩;subst G0;refine ⟨(by intro e he;simp only [List.mem_cons,List.not_mem_nil,or_false] at he;rcases he with rfl|rfl<;>simp),?_⟩|apply x_exec (d:=13) 11;(case hi=>rfl);(case hop=>exact m_alloc rfl);(case hd=>rfl);rintro _ G0 _ ⟨b13,rfl,hG0,rfl⟩;subst G0;refine ⟨(by intro e he;simp only [List.mem_cons,List.not_mem_nil,or_false] at he;rcases he with rfl|rfl<;>simp),?_⟩|fail
        all_goals (first|((apply d_call 6 (hs:=qa) (μ1:=[]);(case hi=>rfl);(case hr=>kernel_rfl);(case ha=>rfl);(case hp=>exact List.Perm.refl _);(case hd=>rfl);(case hν'=>intro e he;simp only [List.mem_cons,List.not_mem_nil,or_false] at he;rcases he with rfl|rfl<;>simp);rintro _ G6 _ hle6 ⟨rfl,v6,rfl,hs6⟩;obtain ⟨A6,c6,A6',c6',rfl,-,-⟩:=id hs6))|((apply d_exec (d:=12) 6;(case hi=>rfl);(case hr=>kernel_rfl);(case hop=>exact m_alloc rfl);(case hd=>rfl);rintro _ G0 _ ⟨b12,rfl,hG0,rfl⟩;subst G0;refine ⟨(by intro e he;simp only [List.mem_cons,List.not_mem_nil,or_false] at he;rcases he with rfl|rfl<;>simp),?_⟩))|((apply x_exec (d:=12) 6;(case hi=>rfl);(case hr=>kernel_rfl);(case hop=>exact m_alloc rfl);(case hd=>rfl);rintro _ G0 _ ⟨b12,rfl,hG0,rfl⟩;subst G0;refine ⟨(by intro e he;simp only [List.mem_cons,List.not_mem_nil,or_false] at he;rcases he with rfl|rfl<;>simp),?_⟩))|((apply d_exec (d:=13) 6;(case hi=>rfl);(case hr=>kernel_rfl);(case hop=>exact m_alloc rfl);(case hd=>rfl);rintro _ G0 _ ⟨b13,rfl,hG0,rfl⟩;subst G0;refine ⟨(by intro e he;simp only [List.mem_cons,List.not_mem_nil,or_false] at he;rcases he with rfl|rfl<;>simp),?_⟩))|((apply x_exec (d:=13) 6;(case hi=>rfl);(case hr=>kernel_rfl);(case hop=>exact m_alloc rfl);(case hd=>rfl);rintro _ G0 _ ⟨b13,rfl,hG0,rfl⟩;subst G0;refine ⟨(by intro e he;simp only [List.mem_cons,List.not_mem_nil,or_false] at he;rcases he with rfl|rfl<;>simp),?_⟩))|apply d_store 6;(case hi=>rfl);(case hr=>kernel_rfl);(case hL=>infer_instance);(case hp|hx|hc|hsz|h1=>rfl);(case hb=>exact aM);(case hfit=>first|exact Nat.le_of_ble_eq_true rfl|rfl);(case hov=>(first|((repeat (first|with_reducible exact ov_nil|apply ov_cons|apply ov_there));done)|rfl));(case hu=>repeat first|exact Upd.here _ _|apply Upd.there|apply Upd.app);(case hν'=>exact aE)|fail)
        all_goals refine Dt [7,8,9,10] ?_
        all_goals (first|((apply d_call 13 (hs:=qa) (μ1:=[]);(case hi=>rfl);(case hr=>kernel_rfl);(case ha=>rfl);(case hp=>exact List.Perm.refl _);(case hd=>rfl);(case hν'=>intro e he;simp only [List.mem_cons,List.not_mem_nil,or_false] at he;rcases he with rfl|rfl<;>simp);rintro _ G6 _ hle6 ⟨rfl,v6,rfl,hs6⟩;obtain ⟨A6,c6,A6',c6',rfl,-,-⟩:=id hs6))|((apply d_exec (d:=12) 13;(case hi=>rfl);(case hr=>kernel_rfl);(case hop=>exact m_alloc rfl);(case hd=>rfl);rintro _ G0 _ ⟨b12,rfl,hG0,rfl⟩;subst G0;refine ⟨(by intro e he;simp only [List.mem_cons,List.not_mem_nil,or_false] at he;rcases he with rfl|rfl<;>simp),?_⟩))|((apply x_exec (d:=12) 13;(case hi=>rfl);(case hr=>kernel_rfl);(case hop=>exact m_alloc rfl);(case hd=>rfl);rintro _ G0 _ ⟨b12,rfl,hG0,rfl⟩;subst G0;refine ⟨(by intro e he;simp only [List.mem_cons,List.not_mem_nil,or_false] at he;rcases he with rfl|rfl<;>simp),?_⟩))|((apply d_exec (d:=13) 13;(case hi=>rfl);(case hr=>kernel_rfl);(case hop=>exact m_alloc rfl);(case hd=>rfl);rintro _ G0 _ ⟨b13,rfl,hG0,rfl⟩;subst G0;refine ⟨(by intro e he;simp only [List.mem_cons,List.not_mem_nil,or_false] at he;rcases he with rfl|rfl<;>simp),?_⟩))|((apply x_exec (d:=13) 13;(case hi=>rfl);(case hr=>kernel_rfl);(case hop=>exact m_alloc rfl);(case hd=>rfl);rintro _ G0 _ ⟨b13,rfl,hG0,rfl⟩;subst G0;refine ⟨(by intro e he;simp only [List.mem_cons,List.not_mem_nil,or_false] at he;rcases he with rfl|rfl<;>simp),?_⟩))|apply d_store 13;(case hi=>rfl);(case hr=>kernel_rfl);(case hL=>infer_instance);(case hp|hx|hc|hsz|h1=>rfl);(case hb=>exact aM);(case hfit=>first|exact Nat.le_of_ble_eq_true rfl|rfl);(case hov=>(first|((repeat (first|with_reducible exact ov_nil|apply ov_cons|apply ov_there));done)|rfl));(case hu=>repeat first|exact Upd.here _ _|apply Upd.there|apply Upd.app);(case hν'=>exact aE)|fail)
        all_goals (first|((apply d_call 14 (hs:=qa) (μ1:=[]);(case hi=>rfl);(case hr=>kernel_rfl);(case ha=>rfl);(case hp=>exact List.Perm.refl _);(case hd=>rfl);(case hν'=>intro e he;simp only [List.mem_cons,List.not_mem_nil,or_false] at he;rcases he with rfl|rfl<;>simp);rintro _ G6 _ hle6 ⟨rfl,v6,rfl,hs6⟩;obtain ⟨A6,c6,A6',c6',rfl,-,-⟩:=id hs6))|((apply d_exec (d:=12) 14;(case hi=>rfl);(case hr=>kernel_rfl);(case hop=>exact m_alloc rfl);(case hd=>rfl);rintro _ G0 _ ⟨b12,rfl,hG0,rfl⟩;subst G0;refine ⟨(by intro e he;simp only [List.mem_cons,List.not_mem_nil,or_false] at he;rcases he with rfl|rfl<;>simp),?_⟩))|((apply x_exec (d:=12) 14;(case hi=>rfl);(case hr=>kernel_rfl);(case hop=>exact m_alloc rfl);(case hd=>rfl);rintro _ G0 _ ⟨b12,rfl,hG0,rfl⟩;subst G0;refine ⟨(by intro e he;simp only [List.mem_cons,List.not_mem_nil,or_false] at he;rcases he with rfl|rfl<;>simp),?_⟩))|((apply d_exec (d:=13) 14;(case hi=>rfl);(case hr=>kernel_rfl);(case hop=>exact m_alloc rfl);(case hd=>rfl);rintro _ G0 _ ⟨b13,rfl,hG0,rfl⟩;subst G0;refine ⟨(by intro e he;simp only [List.mem_cons,List.not_mem_nil,or_false] at he;rcases he with rfl|rfl<;>simp),?_⟩))|((apply x_exec (d:=13) 14;(case hi=>rfl);(case hr=>kernel_rfl);(case hop=>exact m_alloc rfl);(case hd=>rfl);rintro _ G0 _ ⟨b13,rfl,hG0,rfl⟩;subst G0;refine ⟨(by intro e he;simp only [List.mem_cons,List.not_mem_nil,or_false] at he;rcases he with rfl|rfl<;>simp),?_⟩))|apply d_store 14;(case hi=>rfl);(case hr=>kernel_rfl);(case hL=>infer_instance);(case hp|hx|hc|hsz|h1=>rfl);(case hb=>exact aM);(case hfit=>first|exact Nat.le_of_ble_eq_true rfl|rfl);(case hov=>(first|((repeat (first|with_reducible exact ov_nil|apply ov_cons|apply ov_there));done)|rfl));(case hu=>repeat first|exact Upd.here _ _|apply Upd.there|apply Upd.app);(case hν'=>exact aE)|fail)
        all_goals refine Dt [15] ?_
        all_goals refine Dd ?_
       rotate_right
       focus
        first|apply x_call 6 (hs:=qa) (μ1:=[]);(case hi|ha=>rfl);(case hp=>exact List.Perm.refl _);(case hd=>rfl);(case hν'=>intro e he;simp only [List.mem_cons,List.not_mem_nil,or_false] at he;rcases he with rfl|rfl<;>simp);rintro _ G6 _ hle6 ⟨rfl,v6,rfl,hs6⟩;obtain ⟨A6,c6,A6',c6',rfl,-,-⟩:=id hs6|apply d_exec (d:=12) 6;(case hi=>rfl);(case hop=>exact m_alloc rfl);(case hd=>rfl);rintro _ G0 _ ⟨b12,rfl,hG0,rfl⟩;subst G0;refine ⟨(by intro e he;simp only [List.mem_cons,List.not_mem_nil,or_false] at he;rcases he with rfl|rfl<;>simp),?_⟩|apply x_exec (d:=12) 6;(case hi=>rfl);(case hop=>exact m_alloc rfl);(case hd=>rfl);rintro _ G0 _ ⟨b12,rfl,hG0,rfl⟩;subst G0;refine ⟨(by intro e he;simp only [List.mem_cons,List.not_mem_nil,or_false] at he;rcases he with rfl|rfl<;>simp),?_⟩|apply d_exec (d:=13) 6;(case hi=>rfl);(case hop=>exact m_alloc rfl);(case hd=>rfl);rintro _ G0 _ ⟨b13,rfl,hG0,rfl⟩;subst G0;refine ⟨(by intro e he;simp only [List.mem_cons,List.not_mem_nil,or_false] at he;rcases he with rfl|rfl<;>simp),?_⟩|apply x_exec (d:=13) 6;(case hi=>rfl);(case hop=>exact m_alloc rfl);(case hd=>rfl);rintro _ G0 _ ⟨b13,rfl,hG0,rfl⟩;subst G0;refine ⟨(by intro e he;simp only [List.mem_cons,List.not_mem_nil,or_false] at he;rcases he with rfl|rfl<;>simp),?_⟩|fail
        all_goals refine Dt [7,8,9,10] ?_
        all_goals (first|((apply d_call 11 (hs:=qa) (μ1:=[]);(case hi=>rfl);(case hr=>kernel_rfl);(case ha=>rfl);(case hp=>exact List.Perm.refl _);(case hd=>rfl);(case hν'=>intro e he;simp only [List.mem_cons,List.not_mem_nil,or_false] at he;rcases he with rfl|rfl<;>simp);rintro _ G6 _ hle6 ⟨rfl,v6,rfl,hs6⟩;obtain ⟨A6,c6,A6',c6',rfl,-,-⟩:=id hs6))|((apply d_exec (d:=12) 11;(case hi=>rfl);(case hr=>kernel_rfl);(case hop=>exact m_alloc rfl);(case hd=>rfl);rintro _ G0 _ ⟨b12,rfl,hG0,rfl⟩;subst G0;refine ⟨(by intro e he;simp only [List.mem_cons,List.not_mem_nil,or_false] at he;rcases he with rfl|rfl<;>simp),?_⟩))|((apply x_exec (d:=12) 11;(case hi=>rfl);(case hr=>kernel_rfl);(case hop=>exact m_alloc rfl);(case hd=>rfl);rintro _ G0 _ ⟨b12,rfl,hG0,rfl⟩;subst G0;refine ⟨(by intro e he;simp only [List.mem_cons,List.not_mem_nil,or_false] at he;rcases he with rfl|rfl<;>simp),?_⟩))|((apply d_exec (d:=13) 11;(case hi=>rfl);(case hr=>kernel_rfl);(case hop=>exact m_alloc rfl);(case hd=>rfl);rintro _ G0 _ ⟨b13,rfl,hG0,rfl⟩;subst G0;refine ⟨(by intro e he;simp only [List.mem_cons,List.not_mem_nil,or_false] at he;rcases he with rfl|rfl<;>simp),?_⟩))|((apply x_exec (d:=13) 11;(case hi=>rfl);(case hr=>kernel_rfl);(case hop=>exact m_alloc rfl);(case hd=>rfl);rintro _ G0 _ ⟨b13,rfl,hG0,rfl⟩;subst G0;refine ⟨(by intro e he;simp only [List.mem_cons,List.not_mem_nil,or_false] at he;rcases he with rfl|rfl<;>simp),?_⟩))|apply d_store 11;(case hi=>rfl);(case hr=>kernel_rfl);(case hL=>infer_instance);(case hp|hx|hc|hsz|h1=>rfl);(case hb=>exact aM);(case hfit=>first|exact Nat.le_of_ble_eq_true rfl|rfl);(case hov=>(first|((repeat (first|with_reducible exact ov_nil|apply ov_cons|apply ov_there));done)|rfl));(case hu=>repeat first|exact Upd.here _ _|apply Upd.there|apply Upd.app);(case hν'=>exact aE)|fail)
        all_goals (first|((apply d_call 13 (hs:=qa) (μ1:=[]);(case hi=>rfl);(case hr=>kernel_rfl);(case ha=>rfl);(case hp=>exact List.Perm.refl _);(case hd=>rfl);(case hν'=>intro e he;simp only [List.mem_cons,List.not_mem_nil,or_false] at he;rcases he with rfl|rfl<;>simp);rintro _ G6 _ hle6 ⟨rfl,v6,rfl,hs6⟩;obtain ⟨A6,c6,A6',c6',rfl,-,-⟩:=id hs6))|((apply d_exec (d:=12) 13;(case hi=>rfl);(case hr=>kernel_rfl);(case hop=>exact m_alloc rfl);(case hd=>rfl);rintro _ G0 _ ⟨b12,rfl,hG0,rfl⟩;subst G0;refine ⟨(by intro e he;simp only [List.mem_cons,List.not_mem_nil,or_false] at he;rcases he with rfl|rfl<;>simp),?_⟩))|((apply x_exec (d:=12) 13;(case hi=>rfl);(case hr=>kernel_rfl);(case hop=>exact m_alloc rfl);(case hd=>rfl);rintro _ G0 _ ⟨b12,rfl,hG0,rfl⟩;subst G0;refine ⟨(by intro e he;simp only [List.mem_cons,List.not_mem_nil,or_false] at he;rcases he with rfl|rfl<;>simp),?_⟩))|((apply d_exec (d:=13) 13;(case hi=>rfl);(case hr=>kernel_rfl);(case hop=>exact m_alloc rfl);(case hd=>rfl);rintro _ G0 _ ⟨b13,rfl,hG0,rfl⟩;subst G0;refine ⟨(by intro e he;simp only [List.mem_cons,List.not_mem_nil,or_false] at he;rcases he with rfl|rfl<;>simp),?_⟩))|((apply x_exec (d:=13) 13;(case hi=>rfl);(case hr=>kernel_rfl);(case hop=>exact m_alloc rfl);(case hd=>rfl);rintro _ G0 _ ⟨b13,rfl,hG0,rfl⟩;subst G0;refine ⟨(by intro e he;simp only [List.mem_cons,List.not_mem_nil,or_false] at he;rcases he with rfl|rfl<;>simp),?_⟩))|apply d_store 13;(case hi=>rfl);(case hr=>kernel_rfl);(case hL=>infer_instance);(case hp|hx|hc|hsz|h1=>rfl);(case hb=>exact aM);(case hfit=>first|exact Nat.le_of_ble_eq_true rfl|rfl);(case hov=>(first|((repeat (first|with_reducible exact ov_nil|apply ov_cons|apply ov_there));done)|rfl));(case hu=>repeat first|exact Upd.here _ _|apply Upd.there|apply Upd.app);(case hν'=>exact aE)|fail)
        all_goals (first|((apply d_call 14 (hs:=qa) (μ1:=[]);(case hi=>rfl);(case hr=>kernel_rfl);(case ha=>rfl);(case hp=>exact List.Perm.refl _);(case hd=>rfl);(case hν'=>intro e he;simp only [List.mem_cons,List.not_mem_nil,or_false] at he;rcases he with rfl|rfl<;>simp);rintro _ G6 _ hle6 ⟨rfl,v6,rfl,hs6⟩;obtain ⟨A6,c6,A6',c6',rfl,-,-⟩:=id hs6))|((apply d_exec (d:=12) 14;(case hi=>rfl);(case hr=>kernel_rfl);(case hop=>exact m_alloc rfl);(case hd=>rfl);rintro _ G0 _ ⟨b12,rfl,hG0,rfl⟩;subst G0;refine ⟨(by intro e he;simp only [List.mem_cons,List.not_mem_nil,or_false] at he;rcases he with rfl|rfl<;>simp),?_⟩))|((apply x_exec (d:=12) 14;(case hi=>rfl);(case hr=>kernel_rfl);(case hop=>exact m_alloc rfl);(case hd=>rfl);rintro _ G0 _ ⟨b12,rfl,hG0,rfl⟩;subst G0;refine ⟨(by intro e he;simp only [List.mem_cons,List.not_mem_nil,or_false] at he;rcases he with rfl|rfl<;>simp),?_⟩))|((apply d_exec (d:=13) 14;(case hi=>rfl);(case hr=>kernel_rfl);(case hop=>exact m_alloc rfl);(case hd=>rfl);rintro _ G0 _ ⟨b13,rfl,hG0,rfl⟩;subst G0;refine ⟨(by intro e he;simp only [List.mem_cons,List.not_mem_nil,or_false] at he;rcases he with rfl|rfl<;>simp),?_⟩))|((apply x_exec (d:=13) 14;(case hi=>rfl);(case hr=>kernel_rfl);(case hop=>exact m_alloc rfl);(case hd=>rfl);rintro _ G0 _ ⟨b13,rfl,hG0,rfl⟩;subst G0;refine ⟨(by intro e he;simp only [List.mem_cons,List.not_mem_nil,or_false] at he;rcases he with rfl|rfl<;>simp),?_⟩))|apply d_store 14;(case hi=>rfl);(case hr=>kernel_rfl);(case hL=>infer_instance);(case hp|hx|hc|hsz|h1=>rfl);(case hb=>exact aM);(case hfit=>first|exact Nat.le_of_ble_eq_true rfl|rfl);(case hov=>(first|((repeat (first|with_reducible exact ov_nil|apply ov_cons|apply ov_there));done)|rfl));(case hu=>repeat first|exact Upd.here _ _|apply Upd.there|apply Upd.app);(case hν'=>exact aE)|fail)
        all_goals refine Dt [15] ?_
        all_goals refine Dd ?_
     rotate_right
     focus
      first|apply x_call 11 (hs:=qa) (μ1:=[]);(case hi|ha=>rfl);(case hp=>exact List.Perm.refl _);(case hd=>rfl);(case hν'=>intro e he;simp only [List.mem_cons,List.not_mem_nil,or_false] at he;rcases he with rfl|rfl<;>simp);rintro _ G6 _ hle6 ⟨rfl,v6,rfl,hs6⟩;obtain ⟨A6,c6,A6',c6',rfl,-,-⟩:=id hs6|apply d_exec (d:=12) 11;(case hi=>rfl);(case hop=>exact m_alloc rfl);(case hd=>rfl);rintro _ G0 _ ⟨b12,rfl,hG0,rfl⟩;subst G0;refine ⟨(by intro e he;simp only [List.mem_cons,List.not_mem_nil,or_false] at he;rcases he with rfl|rfl<;>simp),?_⟩|apply x_exec (d:=12) 11;(case hi=>rfl);(case hop=>exact m_alloc rfl);(case hd=>rfl);rintro _ G0 _ ⟨b12,rfl,hG0,rfl⟩;subst G0;refine ⟨(by intro e he;simp only [List.mem_cons,List.not_mem_nil,or_false] at he;rcases he with rfl|rfl<;>simp),?_⟩|apply d_exec (d:=13) 11;(case hi=>rfl);(case hop=>exact m_alloc rfl);(case hd=>rfl);rintro _ G0 _ ⟨b13,rfl,hG0,rfl⟩;subst G0;refine ⟨(by intro e he;simp only [List.mem_cons,List.not_mem_nil,or_false] at he;rcases he with rfl|rfl<;>simp),?_⟩|apply x_exec (d:=13) 11;(case hi=>rfl);(case hop=>exact m_alloc rfl);(case hd=>rfl);rintro _ G0 _ ⟨b13,rfl,hG0,rfl⟩;subst G0;refine ⟨(by intro e he;simp only [List.mem_cons,List.not_mem_nil,or_false] at he;rcases he with rfl|rfl<;>simp),?_⟩|fail
      focus
       refine d_fork 6 12 (by kernel_rfl) ?_ ?_
       rotate_right
       focus
        first|apply x_call 12 (hs:=qa) (μ1:=[]);(case hi|ha=>rfl);(case hp=>exact List.Perm.refl _);(case hd=>rfl);(case hν'=>intro e he;simp only [List.mem_cons,List.not_mem_nil,or_false] at he;rcases he with rfl|rfl<;>simp);rintro _ G6 _ hle6 ⟨rfl,v6,rfl,hs6⟩;obtain ⟨A6,c6,A6',c6',rfl,-,-⟩:=id hs6|apply d_exec (d:=12) 12;(case hi=>rfl);(case hop=>exact m_alloc rfl);(case hd=>rfl);rintro _ G0 _ ⟨b12,rfl,hG0,rfl⟩;subst G0;refine ⟨(by intro e he;simp only [List.mem_cons,List.not_mem_nil,or_false] at he;rcases he with rfl|rfl<;>simp),?_⟩|apply x_exec (d:=12) 12;(case hi=>rfl);(case hop=>exact m_alloc rfl);(case hd=>rfl);rintro _ G0 _ ⟨b12,rfl,hG0,rfl⟩;subst G0;refine ⟨(by intro e he;simp only [List.mem_cons,List.not_mem_nil,or_false] at he;rcases he with rfl|rfl<;>simp),?_⟩|apply d_exec (d:=13) 12;(case hi=>rfl);(case hop=>exact m_alloc rfl);(case hd=>rfl);rintro _ G0 _ ⟨b13,rfl,hG0,rfl⟩;subst G0;refine ⟨(by intro e he;simp only [List.mem_cons,List.not_mem_nil,or_false] at he;rcases he with rfl|rfl<;>simp),?_⟩|apply x_exec (d:=13) 12;(case hi=>rfl);(case hop=>exact m_alloc rfl);(case hd=>rfl);rintro _ G0 _ ⟨b13,rfl,hG0,rfl⟩;subst G0;refine ⟨(by intro e he;simp only [List.mem_cons,List.not_mem_nil,or_false] at he;rcases he with rfl|rfl<;>simp),?_⟩|fail
        all_goals (first|((apply d_call 6 (hs:=qa) (μ1:=[]);(case hi=>rfl);(case hr=>kernel_rfl);(case ha=>rfl);(case hp=>exact List.Perm.refl _);(case hd=>rfl);(case hν'=>intro e he;simp only [List.mem_cons,List.not_mem_nil,or_false] at he;rcases he with rfl|rfl<;>simp);rintro _ G6 _ hle6 ⟨rfl,v6,rfl,hs6⟩;obtain ⟨A6,c6,A6',c6',rfl,-,-⟩:=id hs6))|((apply d_exec (d:=12) 6;(case hi=>rfl);(case hr=>kernel_rfl);(case hop=>exact m_alloc rfl);(case hd=>rfl);rintro _ G0 _ ⟨b12,rfl,hG0,rfl⟩;subst G0;refine ⟨(by intro e he;simp only [List.mem_cons,List.not_mem_nil,or_false] at he;rcases he with rfl|rfl<;>simp),?_⟩))|((apply x_exec (d:=12) 6;(case hi=>rfl);(case hr=>kernel_rfl);(case hop=>exact m_alloc rfl);(case hd=>rfl);rintro _ G0 _ ⟨b12,rfl,hG0,rfl⟩;subst G0;refine ⟨(by intro e he;simp only [List.mem_cons,List.not_mem_nil,or_false] at he;rcases he with rfl|rfl<;>simp),?_⟩))|((apply d_exec (d:=13) 6;(case hi=>rfl);(case hr=>kernel_rfl);(case hop=>exact m_alloc rfl);(case hd=>rfl);rintro _ G0 _ ⟨b13,rfl,hG0,rfl⟩;subst G0;refine ⟨(by intro e he;simp only [List.mem_cons,List.not_mem_nil,or_false] at he;rcases he with rfl|rfl<;>simp),?_⟩))|((apply x_exec (d:=13) 6;(case hi=>rfl);(case hr=>kernel_rfl);(case hop=>exact m_alloc rfl);(case hd=>rfl);rintro _ G0 _ ⟨b13,rfl,hG0,rfl⟩;subst G0;refine ⟨(by intro e he;simp only [List.mem_cons,List.not_mem_nil,or_false] at he;rcases he with rfl|rfl<;>simp),?_⟩))|apply d_store 6;(case hi=>rfl);(case hr=>kernel_rfl);(case hL=>infer_instance);(case hp|hx|hc|hsz|h1=>rfl);(case hb=>exact aM);(case hfit=>first|exact Nat.le_of_ble_eq_true rfl|rfl);(case hov=>(first|((repeat (first|with_reducible exact ov_nil|apply ov_cons|apply ov_there));done)|rfl));(case hu=>repeat first|exact Upd.here _ _|apply Upd.there|apply Upd.app);(case hν'=>exact aE)|fail)
        all_goals refine Dt [7,8,9,10] ?_
        all_goals (first|((apply d_call 13 (hs:=qa) (μ1:=[]);(case hi=>rfl);(case hr=>kernel_rfl);(case ha=>rfl);(case hp=>exact List.Perm.refl _);(case hd=>rfl);(case hν'=>intro e he;simp only [List.mem_cons,List.not_mem_nil,or_false] at he;rcases he with rfl|rfl<;>simp);rintro _ G6 _ hle6 ⟨rfl,v6,rfl,hs6⟩;obtain ⟨A6,c6,A6',c6',rfl,-,-⟩:=id hs6))|((apply d_exec (d:=12) 13;(case hi=>rfl);(case hr=>kernel_rfl);(case hop=>exact m_alloc rfl);(case hd=>rfl);rintro _ G0 _ ⟨b12,rfl,hG0,rfl⟩;subst G0;refine ⟨(by intro e he;simp only [List.mem_cons,List.not_mem_nil,or_false] at he;rcases he with rfl|rfl<;>simp),?_⟩))|((apply x_exec (d:=12) 13;(case hi=>rfl);(case hr=>kernel_rfl);(case hop=>exact m_alloc rfl);(case hd=>rfl);rintro _ G0 _ ⟨b12,rfl,hG0,rfl⟩;subst G0;refine ⟨(by intro e he;simp only [List.mem_cons,List.not_mem_nil,or_false] at he;rcases he with rfl|rfl<;>simp),?_⟩))|((apply d_exec (d:=13) 13;(case hi=>rfl);(case hr=>kernel_rfl);(case hop=>exact m_alloc rfl);(case hd=>rfl);rintro _ G0 _ ⟨b13,rfl,hG0,rfl⟩;subst G0;refine ⟨(by intro e he;simp only [List.mem_cons,List.not_mem_nil,or_false] at he;rcases he with rfl|rfl<;>simp),?_⟩))|((apply x_exec (d:=13) 13;(case hi=>rfl);(case hr=>kernel_rfl);(case hop=>exact m_alloc rfl);(case hd=>rfl);rintro _ G0 _ ⟨b13,rfl,hG0,rfl⟩;subst G0;refine ⟨(by intro e he;simp only [List.mem_cons,List.not_mem_nil,or_false] at he;rcases he with rfl|rfl<;>simp),?_⟩))|apply d_store 13;(case hi=>rfl);(case hr=>kernel_rfl);(case hL=>infer_instance);(case hp|hx|hc|hsz|h1=>rfl);(case hb=>exact aM);(case hfit=>first|exact Nat.le_of_ble_eq_true rfl|rfl);(case hov=>(first|((repeat (first|with_reducible exact ov_nil|apply ov_cons|apply ov_there));done)|rfl));(case hu=>repeat first|exact Upd.here _ _|apply Upd.there|apply Upd.app);(case hν'=>exact aE)|fail)
        all_goals (first|((apply d_call 14 (hs:=qa) (μ1:=[]);(case hi=>rfl);(case hr=>kernel_rfl);(case ha=>rfl);(case hp=>exact List.Perm.refl _);(case hd=>rfl);(case hν'=>intro e he;simp only [List.mem_cons,List.not_mem_nil,or_false] at he;rcases he with rfl|rfl<;>simp);rintro _ G6 _ hle6 ⟨rfl,v6,rfl,hs6⟩;obtain ⟨A6,c6,A6',c6',rfl,-,-⟩:=id hs6))|((apply d_exec (d:=12) 14;(case hi=>rfl);(case hr=>kernel_rfl);(case hop=>exact m_alloc rfl);(case hd=>rfl);rintro _ G0 _ ⟨b12,rfl,hG0,rfl⟩;subst G0;refine ⟨(by intro e he;simp only [List.mem_cons,List.not_mem_nil,or_false] at he;rcases he with rfl|rfl<;>simp),?_⟩))|((apply x_exec (d:=12) 14;(case hi=>rfl);(case hr=>kernel_rfl);(case hop=>exact m_alloc rfl);(case hd=>rfl);rintro _ G0 _ ⟨b12,rfl,hG0,rfl⟩;subst G0;refine ⟨(by intro e he;simp only [List.mem_cons,List.not_mem_nil,or_false] at he;rcases he with rfl|rfl<;>simp),?_⟩))|((apply d_exec (d:=13) 14;(case hi=>rfl);(case hr=>kernel_rfl);(case hop=>exact m_alloc rfl);(case hd=>rfl);rintro _ G0 _ ⟨b13,rfl,hG0,rfl⟩;subst G0;refine ⟨(by intro e he;simp only [List.mem_cons,List.not_mem_nil,or_false] at he;rcases he with rfl|rfl<;>simp),?_⟩))|((apply x_exec (d:=13) 14;(case hi=>rfl);(case hr=>kernel_rfl);(case hop=>exact m_alloc rfl);(case hd=>rfl);rintro _ G0 _ ⟨b13,rfl,hG0,rfl⟩;subst G0;refine ⟨(by intro e he;simp only [List.mem_cons,List.not_mem_nil,or_false] at he;rcases he with rfl|rfl<;>simp),?_⟩))|apply d_store 14;(case hi=>rfl);(case hr=>kernel_rfl);(case hL=>infer_instance);(case hp|hx|hc|hsz|h1=>rfl);(case hb=>exact aM);(case hfit=>first|exact Nat.le_of_ble_eq_true rfl|rfl);(case hov=>(first|((repeat (first|with_reducible exact ov_nil|apply ov_cons|apply ov_there));done)|rfl));(case hu=>repeat first|exact Upd.here _ _|apply Upd.there|apply Upd.app);(case hν'=>exact aE)|fail)
        all_goals refine Dt [15] ?_
        all_goals refine Dd ?_
       rotate_right
       focus
        first|apply x_call 6 (hs:=qa) (μ1:=[]);(case hi|ha=>rfl);(case hp=>exact List.Perm.refl _);(case hd=>rfl);(case hν'=>intro e he;simp only [List.mem_cons,List.not_mem_nil,or_false] at he;rcases he with rfl|rfl<;>simp);rintro _ G6 _ hle6 ⟨rfl,v6,rfl,hs6⟩;obtain ⟨A6,c6,A6',c6',rfl,-,-⟩:=id hs6|apply d_exec (d:=12) 6;(case hi=>rfl);(case hop=>exact m_alloc rfl);(case hd=>rfl);rintro _ G0 _ ⟨b12,rfl,hG0,rfl⟩;subst G0;refine ⟨(by intro e he;simp only [List.mem_cons,List.not_mem_nil,or_false] at he;rcases he with rfl|rfl<;>simp),?_⟩|apply x_exec (d:=12) 6;(case hi=>rfl);(case hop=>exact m_alloc rfl);(case hd=>rfl);rintro _ G0 _ ⟨b12,rfl,hG0,rfl⟩;subst G0;refine ⟨(by intro e he;simp only [List.mem_cons,List.not_mem_nil,or_false] at he;rcases he with rfl|rfl<;>simp),?_⟩|apply d_exec (d:=13) 6;(case hi=>rfl);(case hop=>exact m_alloc rfl);(case hd=>rfl);rintro _ G0 _ ⟨b13,rfl,hG0,rfl⟩;subst G0;refine ⟨(by intro e he;simp only [List.mem_cons,List.not_mem_nil,or_false] at he;rcases he with rfl|rfl<;>simp),?_⟩|apply x_exec (d:=13) 6;(case hi=>rfl);(case hop=>exact m_alloc rfl);(case hd=>rfl);rintro _ G0 _ ⟨b13,rfl,hG0,rfl⟩;subst G0;refine ⟨(by intro e he;simp only [List.mem_cons,List.not_mem_nil,or_false] at he;rcases he with rfl|rfl<;>simp),?_⟩|fail
        all_goals refine Dt [7,8,9,10] ?_
        all_goals (first|((apply d_call 12 (hs:=qa) (μ1:=[]);(case hi=>rfl);(case hr=>kernel_rfl);(case ha=>rfl);(case hp=>exact List.Perm.refl _);(case hd=>rfl);(case hν'=>intro e he;simp only [List.mem_cons,List.not_mem_nil,or_false] at he;rcases he with rfl|rfl<;>simp);rintro _ G6 _ hle6 ⟨rfl,v6,rfl,hs6⟩;obtain ⟨A6,c6,A6',c6',rfl,-,-⟩:=id hs6))|((apply d_exec (d:=12) 12;(case hi=>rfl);(case hr=>kernel_rfl);(case hop=>exact m_alloc rfl);(case hd=>rfl);rintro _ G0 _ ⟨b12,rfl,hG0,rfl⟩;subst G0;refine ⟨(by intro e he;simp only [List.mem_cons,List.not_mem_nil,or_false] at he;rcases he with rfl|rfl<;>simp),?_⟩))|((apply x_exec (d:=12) 12;(case hi=>rfl);(case hr=>kernel_rfl);(case hop=>exact m_alloc rfl);(case hd=>rfl);rintro _ G0 _ ⟨b12,rfl,hG0,rfl⟩;subst G0;refine ⟨(by intro e he;simp only [List.mem_cons,List.not_mem_nil,or_false] at he;rcases he with rfl|rfl<;>simp),?_⟩))|((apply d_exec (d:=13) 12;(case hi=>rfl);(case hr=>kernel_rfl);(case hop=>exact m_alloc rfl);(case hd=>rfl);rintro _ G0 _ ⟨b13,rfl,hG0,rfl⟩;subst G0;refine ⟨(by intro e he;simp only [List.mem_cons,List.not_mem_nil,or_false] at he;rcases he with rfl|rfl<;>simp),?_⟩))|((apply x_exec (d:=13) 12;(case hi=>rfl);(case hr=>kernel_rfl);(case hop=>exact m_alloc rfl);(case hd=>rfl);rintro _ G0 _ ⟨b13,rfl,hG0,rfl⟩;subst G0;refine ⟨(by intro e he;simp only [List.mem_cons,List.not_mem_nil,or_false] at he;rcases he with rfl|rfl<;>simp),?_⟩))|apply d_store 12;(case hi=>rfl);(case hr=>kernel_rfl);(case hL=>infer_instance);(case hp|hx|hc|hsz|h1=>rfl);(case hb=>exact aM);(case hfit=>first|exact Nat.le_of_ble_eq_true rfl|rfl);(case hov=>(first|((repeat (first|with_reducible exact ov_nil|apply ov_cons|apply ov_there));done)|rfl));(case hu=>repeat first|exact Upd.here _ _|apply Upd.there|apply Upd.app);(case hν'=>exact aE)|fail)
        all_goals (first|((apply d_call 13 (hs:=qa) (μ1:=[]);(case hi=>rfl);(case hr=>kernel_rfl);(case ha=>rfl);(case hp=>exact List.Perm.refl _);(case hd=>rfl);(case hν'=>intro e he;simp only [List.mem_cons,List.not_mem_nil,or_false] at he;rcases he with rfl|rfl<;>simp);rintro _ G6 _ hle6 ⟨rfl,v6,rfl,hs6⟩;obtain ⟨A6,c6,A6',c6',rfl,-,-⟩:=id hs6))|((apply d_exec (d:=12) 13;(case hi=>rfl);(case hr=>kernel_rfl);(case hop=>exact m_alloc rfl);(case hd=>rfl);rintro _ G0 _ ⟨b12,rfl,hG0,rfl⟩;subst G0;refine ⟨(by intro e he;simp only [List.mem_cons,List.not_mem_nil,or_false] at he;rcases he with rfl|rfl<;>simp),?_⟩))|((apply x_exec (d:=12) 13;(case hi=>rfl);(case hr=>kernel_rfl);(case hop=>exact m_alloc rfl);(case hd=>rfl);rintro _ G0 _ ⟨b12,rfl,hG0,rfl⟩;subst G0;refine ⟨(by intro e he;simp only [List.mem_cons,List.not_mem_nil,or_false] at he;rcases he with rfl|rfl<;>simp),?_⟩))|((apply d_exec (d:=13) 13;(case hi=>rfl);(case hr=>kernel_rfl);(case hop=>exact m_alloc rfl);(case hd=>rfl);rintro _ G0 _ ⟨b13,rfl,hG0,rfl⟩;subst G0;refine ⟨(by intro e he;simp only [List.mem_cons,List.not_mem_nil,or_false] at he;rcases he with rfl|rfl<;>simp),?_⟩))|((apply x_exec (d:=13) 13;(case hi=>rfl);(case hr=>kernel_rfl);(case hop=>exact m_alloc rfl);(case hd=>rfl);rintro _ G0 _ ⟨b13,rfl,hG0,rfl⟩;subst G0;refine ⟨(by intro e he;simp only [List.mem_cons,List.not_mem_nil,or_false] at he;rcases he with rfl|rfl<;>simp),?_⟩))|apply d_store 13;(case hi=>rfl);(case hr=>kernel_rfl);(case hL=>infer_instance);(case hp|hx|hc|hsz|h1=>rfl);(case hb=>exact aM);(case hfit=>first|exact Nat.le_of_ble_eq_true rfl|rfl);(case hov=>(first|((repeat (first|with_reducible exact ov_nil|apply ov_cons|apply ov_there));done)|rfl));(case hu=>repeat first|exact Upd.here _ _|apply Upd.there|apply Upd.app);(case hν'=>exact aE)|fail)
        all_goals (first|((apply d_call 14 (hs:=qa) (μ1:=[]);(case hi=>rfl);(case hr=>kernel_rfl);(case ha=>rfl);(case hp=>exact List.Perm.refl _);(case hd=>rfl);(case hν'=>intro e he;simp only [List.mem_cons,List.not_mem_nil,or_false] at he;rcases he with rfl|rfl<;>simp);rintro _ G6 _ hle6 ⟨rfl,v6,rfl,hs6⟩;obtain ⟨A6,c6,A6',c6',rfl,-,-⟩:=id hs6))|((apply d_exec (d:=12) 14;(case hi=>rfl);(case hr=>kernel_rfl);(case hop=>exact m_alloc rfl);(case hd=>rfl);rintro _ G0 _ ⟨b12,rfl,hG0,rfl⟩;subst G0;refine ⟨(by intro e he;simp only [List.mem_cons,List.not_mem_nil,or_false] at he;rcases he with rfl|rfl<;>simp),?_⟩))|((apply x_exec (d:=12) 14;(case hi=>rfl);(case hr=>kernel_rfl);(case hop=>exact m_alloc rfl);(case hd=>rfl);rintro _ G0 _ ⟨b12,rfl,hG0,rfl⟩;subst G0;refine ⟨(by intro e he;simp only [List.mem_cons,List.not_mem_nil,or_false] at he;rcases he with rfl|rfl<;>simp),?_⟩))|((apply d_exec (d:=13) 14;(case hi=>rfl);(case hr=>kernel_rfl);(case hop=>exact m_alloc rfl);(case hd=>rfl);rintro _ G0 _ ⟨b13,rfl,hG0,rfl⟩;subst G0;refine ⟨(by intro e he;simp only [List.mem_cons,List.not_mem_nil,or_false] at he;rcases he with rfl|rfl<;>simp),?_⟩))|((apply x_exec (d:=13) 14;(case hi=>rfl);(case hr=>kernel_rfl);(case hop=>exact m_alloc rfl);(case hd=>rfl);rintro _ G0 _ ⟨b13,rfl,hG0,rfl⟩;subst G0;refine ⟨(by intro e he;simp only [List.mem_cons,List.not_mem_nil,or_false] at he;rcases he with rfl|rfl<;>simp),?_⟩))|apply d_store 14;(case hi=>rfl);(case hr=>kernel_rfl);(case hL=>infer_instance);(case hp|hx|hc|hsz|h1=>rfl);(case hb=>exact aM);(case hfit=>first|exact Nat.le_of_ble_eq_true rfl|rfl);(case hov=>(first|((repeat (first|with_reducible exact ov_nil|apply ov_cons|apply ov_there));done)|rfl));(case hu=>repeat first|exact Upd.here _ _|apply Upd.there|apply Upd.app);(case hν'=>exact aE)|fail)
        all_goals refine Dt [15] ?_
        all_goals refine Dd ?_
     rotate_right
     focus
      first|apply x_call 6 (hs:=qa) (μ1:=[]);(case hi|ha=>rfl);(case hp=>exact List.Perm.refl _);(case hd=>rfl);(case hν'=>intro e he;simp only [List.mem_cons,List.not_mem_nil,or_false] at he;rcases he with rfl|rfl<;>simp);rintro _ G6 _ hle6 ⟨rfl,v6,rfl,hs6⟩;obtain ⟨A6,c6,A6',c6',rfl,-,-⟩:=id hs6|apply d_exec (d:=12) 6;(case hi=>rfl);(case hop=>exact m_alloc rfl);(case hd=>rfl);rintro _ G0 _ ⟨b12,rfl,hG0,rfl⟩;subst G0;refine ⟨(by intro e he;simp only [List.mem_cons,List.not_mem_nil,or_false] at he;rcases he with rfl|rfl<;>simp),?_⟩|apply x_exec (d:=12) 6;(case hi=>rfl);(case hop=>exact m_alloc rfl);(case hd=>rfl);rintro _ G0 _ ⟨b12,rfl,hG0,rfl⟩;subst G0;refine ⟨(by intro e he;simp only [List.mem_cons,List.not_mem_nil,or_false] at he;rcases he with rfl|rfl<;>simp),?_⟩|apply d_exec (d:=13) 6;(case hi=>rfl);(case hop=>exact m_alloc rfl);(case hd=>rfl);rintro _ G0 _ ⟨b13,rfl,hG0,rfl⟩;subst G0;refine ⟨(by intro e he;simp only [List.mem_cons,List.not_mem_nil,or_false] at he;rcases he with rfl|rfl<;>simp),?_⟩|apply x_exec (d:=13) 6;(case hi=>rfl);(case hop=>exact m_alloc rfl);(case hd=>rfl);rintro _ G0 _ ⟨b13,rfl,hG0,rfl⟩;subst G0;refine ⟨(by intro e he;simp only [List.mem_cons,List.not_mem_nil,or_false] at he;rcases he with rfl|rfl<;>simp),?_⟩|fail
      all_goals refine Dt [7,8,9,10] ?_
      focus
       refine d_fork 11 12 (by kernel_rfl) ?_ ?_
       rotate_right
       focus
        first|apply x_call 12 (hs:=qa) (μ1:=[]);(case hi|ha=>rfl);(case hp=>exact List.Perm.refl _);(case hd=>rfl);(case hν'=>intro e he;simp only [List.mem_cons,List.not_mem_nil,or_false] at he;rcases he with rfl|rfl<;>simp);rintro _ G6 _ hle6 ⟨rfl,v6,rfl,hs6⟩;obtain ⟨A6,c6,A6',c6',rfl,-,-⟩:=id hs6|apply d_exec (d:=12) 12;(case hi=>rfl);(case hop=>exact m_alloc rfl);(case hd=>rfl);rintro _ G0 _ ⟨b12,rfl,hG0,rfl⟩;subst G0;refine ⟨(by intro e he;simp only [List.mem_cons,List.not_mem_nil,or_false] at he;rcases he with rfl|rfl<;>simp),?_⟩|apply x_exec (d:=12) 12;(case hi=>rfl);(case hop=>exact m_alloc rfl);(case hd=>rfl);rintro _ G0 _ ⟨b12,rfl,hG0,rfl⟩;subst G0;refine ⟨(by intro e he;simp only [List.mem_cons,List.not_mem_nil,or_false] at he;rcases he with rfl|rfl<;>simp),?_⟩|apply d_exec (d:=13) 12;(case hi=>rfl);(case hop=>exact m_alloc rfl);(case hd=>rfl);rintro _ G0 _ ⟨b13,rfl,hG0,rfl⟩;subst G0;refine ⟨(by intro e he;simp only [List.mem_cons,List.not_mem_nil,or_false] at he;rcases he with rfl|rfl<;>simp),?_⟩|apply x_exec (d:=13) 12;(case hi=>rfl);(case hop=>exact m_alloc rfl);(case hd=>rfl);rintro _ G0 _ ⟨b13,rfl,hG0,rfl⟩;subst G0;refine ⟨(by intro e he;simp only [List.mem_cons,List.not_mem_nil,or_false] at he;rcases he with rfl|rfl<;>simp),?_⟩|fail
        all_goals (first|((apply d_call 11 (hs:=qa) (μ1:=[]);(case hi=>rfl);(case hr=>kernel_rfl);(case ha=>rfl);(case hp=>exact List.Perm.refl _);(case hd=>rfl);(case hν'=>intro e he;simp only [List.mem_cons,List.not_mem_nil,or_false] at he;rcases he with rfl|rfl<;>simp);rintro _ G6 _ hle6 ⟨rfl,v6,rfl,hs6⟩;obtain ⟨A6,c6,A6',c6',rfl,-,-⟩:=id hs6))|((apply d_exec (d:=12) 11;(case hi=>rfl);(case hr=>kernel_rfl);(case hop=>exact m_alloc rfl);(case hd=>rfl);rintro _ G0 _ ⟨b12,rfl,hG0,rfl⟩;subst G0;refine ⟨(by intro e he;simp only [List.mem_cons,List.not_mem_nil,or_false] at he;rcases he with rfl|rfl<;>simp),?_⟩))|((apply x_exec (d:=12) 11;(case hi=>rfl);(case hr=>kernel_rfl);(case hop=>exact m_alloc rfl);(case hd=>rfl);rintro _ G0 _ ⟨b12,rfl,hG0,rfl⟩;subst G0;refine ⟨(by intro e he;simp only [List.mem_cons,List.not_mem_nil,or_false] at he;rcases he with rfl|rfl<;>simp),?_⟩))|((apply d_exec (d:=13) 11;(case hi=>rfl);(case hr=>kernel_rfl);(case hop=>exact m_alloc rfl);(case hd=>rfl);rintro _ G0 _ ⟨b13,rfl,hG0,rfl⟩;subst G0;refine ⟨(by intro e he;simp only [List.mem_cons,List.not_mem_nil,or_false] at he;rcases he with rfl|rfl<;>simp),?_⟩))|((apply x_exec (d:=13) 11;(case hi=>rfl);(case hr=>kernel_rfl);(case hop=>exact m_alloc rfl);(case hd=>rfl);rintro _ G0 _ ⟨b13,rfl,hG0,rfl⟩;subst G0;refine ⟨(by intro e he;simp only [List.mem_cons,List.not_mem_nil,or_false] at he;rcases he with rfl|rfl<;>simp),?_⟩))|apply d_store 11;(case hi=>rfl);(case hr=>kernel_rfl);(case hL=>infer_instance);(case hp|hx|hc|hsz|h1=>rfl);(case hb=>exact aM);(case hfit=>first|exact Nat.le_of_ble_eq_true rfl|rfl);(case hov=>(first|((repeat (first|with_reducible exact ov_nil|apply ov_cons|apply ov_there));done)|rfl));(case hu=>repeat first|exact Upd.here _ _|apply Upd.there|apply Upd.app);(case hν'=>exact aE)|fail)
        all_goals (first|((apply d_call 13 (hs:=qa) (μ1:=[]);(case hi=>rfl);(case hr=>kernel_rfl);(case ha=>rfl);(case hp=>exact List.Perm.refl _);(case hd=>rfl);(case hν'=>intro e he;simp only [List.mem_cons,List.not_mem_nil,or_false] at he;rcases he with rfl|rfl<;>simp);rintro _ G6 _ hle6 ⟨rfl,v6,rfl,hs6⟩;obtain ⟨A6,c6,A6',c6',rfl,-,-⟩:=id hs6))|((apply d_exec (d:=12) 13;(case hi=>rfl);(case hr=>kernel_rfl);(case hop=>exact m_alloc rfl);(case hd=>rfl);rintro _ G0 _ ⟨b12,rfl,hG0,rfl⟩;subst G0;refine ⟨(by intro e he;simp only [List.mem_cons,List.not_mem_nil,or_false] at he;rcases he with rfl|rfl<;>simp),?_⟩))|((apply x_exec (d:=12) 13;(case hi=>rfl);(case hr=>kernel_rfl);(case hop=>exact m_alloc rfl);(case hd=>rfl);rintro _ G0 _ ⟨b12,rfl,hG0,rfl⟩;subst G0;refine ⟨(by intro e he;simp only [List.mem_cons,List.not_mem_nil,or_false] at he;rcases he with rfl|rfl<;>simp),?_⟩))|((apply d_exec (d:=13) 13;(case hi=>rfl);(case hr=>kernel_rfl);(case hop=>exact m_alloc rfl);(case hd=>rfl);rintro _ G0 _ ⟨b13,rfl,hG0,rfl⟩;subst G0;refine ⟨(by intro e he;simp only [List.mem_cons,List.not_mem_nil,or_false] at he;rcases he with rfl|rfl<;>simp),?_⟩))|((apply x_exec (d:=13) 13;(case hi=>rfl);(case hr=>kernel_rfl);(case hop=>exact m_alloc rfl);(case hd=>rfl);rintro _ G0 _ ⟨b13,rfl,hG0,rfl⟩;subst G0;refine ⟨(by intro e he;simp only [List.mem_cons,List.not_mem_nil,or_false] at he;rcases he with rfl|rfl<;>simp),?_⟩))|apply d_store 13;(case hi=>rfl);(case hr=>kernel_rfl);(case hL=>infer_instance);(case hp|hx|hc|hsz|h1=>rfl);(case hb=>exact aM);(case hfit=>first|exact Nat.le_of_ble_eq_true rfl|rfl);(case hov=>(first|((repeat (first|with_reducible exact ov_nil|apply ov_cons|apply ov_there));done)|rfl));(case hu=>repeat first|exact Upd.here _ _|apply Upd.there|apply Upd.app);(case hν'=>exact aE)|fail)
        all_goals (first|((apply d_call 14 (hs:=qa) (μ1:=[]);(case hi=>rfl);(case hr=>kernel_rfl);(case ha=>rfl);(case hp=>exact List.Perm.refl _);(case hd=>rfl);(case hν'=>intro e he;simp only [List.mem_cons,List.not_mem_nil,or_false] at he;rcases he with rfl|rfl<;>simp);rintro _ G6 _ hle6 ⟨rfl,v6,rfl,hs6⟩;obtain ⟨A6,c6,A6',c6',rfl,-,-⟩:=id hs6))|((apply d_exec (d:=12) 14;(case hi=>rfl);(case hr=>kernel_rfl);(case hop=>exact m_alloc rfl);(case hd=>rfl);rintro _ G0 _ ⟨b12,rfl,hG0,rfl⟩;subst G0;refine ⟨(by intro e he;simp only [List.mem_cons,List.not_mem_nil,or_false] at he;rcases he with rfl|rfl<;>simp),?_⟩))|((apply x_exec (d:=12) 14;(case hi=>rfl);(case hr=>kernel_rfl);(case hop=>exact m_alloc rfl);(case hd=>rfl);rintro _ G0 _ ⟨b12,rfl,hG0,rfl⟩;subst G0;refine ⟨(by intro e he;simp only [List.mem_cons,List.not_mem_nil,or_false] at he;rcases he with rfl|rfl<;>simp),?_⟩))|((apply d_exec (d:=13) 14;(case hi=>rfl);(case hr=>kernel_rfl);(case hop=>exact m_alloc rfl);(case hd=>rfl);rintro _ G0 _ ⟨b13,rfl,hG0,rfl⟩;subst G0;refine ⟨(by intro e he;simp only [List.mem_cons,List.not_mem_nil,or_false] at he;rcases he with rfl|rfl<;>simp),?_⟩))|((apply x_exec (d:=13) 14;(case hi=>rfl);(case hr=>kernel_rfl);(case hop=>exact m_alloc rfl);(case hd=>rfl);rintro _ G0 _ ⟨b13,rfl,hG0,rfl⟩;subst G0;refine ⟨(by intro e he;simp only [List.mem_cons,List.not_mem_nil,or_false] at he;rcases he with rfl|rfl<;>simp),?_⟩))|apply d_store 14;(case hi=>rfl);(case hr=>kernel_rfl);(case hL=>infer_instance);(case hp|hx|hc|hsz|h1=>rfl);(case hb=>exact aM);(case hfit=>first|exact Nat.le_of_ble_eq_true rfl|rfl);(case hov=>(first|((repeat (first|with_reducible exact ov_nil|apply ov_cons|apply ov_there));done)|rfl));(case hu=>repeat first|exact Upd.here _ _|apply Upd.there|apply Upd.app);(case hν'=>exact aE)|fail)
        all_goals refine Dt [15] ?_
        all_goals refine Dd ?_
       rotate_right
       focus
        first|apply x_call 11 (hs:=qa) (μ1:=[]);(case hi|ha=>rfl);(case hp=>exact List.Perm.refl _);(case hd=>rfl);(case hν'=>intro e he;simp only [List.mem_cons,List.not_mem_nil,or_false] at he;rcases he with rfl|rfl<;>simp);rintro _ G6 _ hle6 ⟨rfl,v6,rfl,hs6⟩;obtain ⟨A6,c6,A6',c6',rfl,-,-⟩:=id hs6|apply d_exec (d:=12) 11;(case hi=>rfl);(case hop=>exact m_alloc rfl);(case hd=>rfl);rintro _ G0 _ ⟨b12,rfl,hG0,rfl⟩;subst G0;refine ⟨(by intro e he;simp only [List.mem_cons,List.not_mem_nil,or_false] at he;rcases he with rfl|rfl<;>simp),?_⟩|apply x_exec (d:=12) 11;(case hi=>rfl);(case hop=>exact m_alloc rfl);(case hd=>rfl);rintro _ G0 _ ⟨b12,rfl,hG0,rfl⟩;subst G0;refine ⟨(by intro e he;simp only [List.mem_cons,List.not_mem_nil,or_false] at he;rcases he with rfl|rfl<;>simp),?_⟩|apply d_exec (d:=13) 11;(case hi=>rfl);(case hop=>exact m_alloc rfl);(case hd=>rfl);rintro _ G0 _ ⟨b13,rfl,hG0,rfl⟩;subst G0;refine ⟨(by intro e he;simp only [List.mem_cons,List.not_mem_nil,or_false] at he;rcases he with rfl|rfl<;>simp),?_⟩|apply x_exec (d:=13) 11;(case hi=>rfl);(case hop=>exact m_alloc rfl);(case hd=>rfl);rintro _ G0 _ ⟨b13,rfl,hG0,rfl⟩;subst G0;refine ⟨(by intro e he;simp only [List.mem_cons,List.not_mem_nil,or_false] at he;rcases he with rfl|rfl<;>simp),?_⟩|fail
        all_goals (first|((apply d_call 12 (hs:=qa) (μ1:=[]);(case hi=>rfl);(case hr=>kernel_rfl);(case ha=>rfl);(case hp=>exact List.Perm.refl _);(case hd=>rfl);(case hν'=>intro e he;simp only [List.mem_cons,List.not_mem_nil,or_false] at he;rcases he with rfl|rfl<;>simp);rintro _ G6 _ hle6 ⟨rfl,v6,rfl,hs6⟩;obtain ⟨A6,c6,A6',c6',rfl,-,-⟩:=id hs6))|((apply d_exec (d:=12) 12;(case hi=>rfl);(case hr=>kernel_rfl);(case hop=>exact m_alloc rfl);(case hd=>rfl);rintro _ G0 _ ⟨b12,rfl,hG0,rfl⟩;subst G0;refine ⟨(by intro e he;simp only [List.mem_cons,List.not_mem_nil,or_false] at he;rcases he with rfl|rfl<;>simp),?_⟩))|((apply x_exec (d:=12) 12;(case hi=>rfl);(case hr=>kernel_rfl);(case hop=>exact m_alloc rfl);(case hd=>rfl);rintro _ G0 _ ⟨b12,rfl,hG0,rfl⟩;subst G0;refine ⟨(by intro e he;simp only [List.mem_cons,List.not_mem_nil,or_false] at he;rcases he with rfl|rfl<;>simp),?_⟩))|((apply d_exec (d:=13) 12;(case hi=>rfl);(case hr=>kernel_rfl);(case hop=>exact m_alloc rfl);(case hd=>rfl);rintro _ G0 _ ⟨b13,rfl,hG0,rfl⟩;subst G0;refine ⟨(by intro e he;simp only [List.mem_cons,List.not_mem_nil,or_false] at he;rcases he with rfl|rfl<;>simp),?_⟩))|((apply x_exec (d:=13) 12;(case hi=>rfl);(case hr=>kernel_rfl);(case hop=>exact m_alloc rfl);(case hd=>rfl);rintro _ G0 _ ⟨b13,rfl,hG0,rfl⟩;subst G0;refine ⟨(by intro e he;simp only [List.mem_cons,List.not_mem_nil,or_false] at he;rcases he with rfl|rfl<;>simp),?_⟩))|apply d_store 12;(case hi=>rfl);(case hr=>kernel_rfl);(case hL=>infer_instance);(case hp|hx|hc|hsz|h1=>rfl);(case hb=>exact aM);(case hfit=>first|exact Nat.le_of_ble_eq_true rfl|rfl);(case hov=>(first|((repeat (first|with_reducible exact ov_nil|apply ov_cons|apply ov_there));done)|rfl));(case hu=>repeat first|exact Upd.here _ _|apply Upd.there|apply Upd.app);(case hν'=>exact aE)|fail)
        all_goals (first|((apply d_call 13 (hs:=qa) (μ1:=[]);(case hi=>rfl);(case hr=>kernel_rfl);(case ha=>rfl);(case hp=>exact List.Perm.refl _);(case hd=>rfl);(case hν'=>intro e he;simp only [List.mem_cons,List.not_mem_nil,or_false] at he;rcases he with rfl|rfl<;>simp);rintro _ G6 _ hle6 ⟨rfl,v6,rfl,hs6⟩;obtain ⟨A6,c6,A6',c6',rfl,-,-⟩:=id hs6))|((apply d_exec (d:=12) 13;(case hi=>rfl);(case hr=>kernel_rfl);(case hop=>exact m_alloc rfl);(case hd=>rfl);rintro _ G0 _ ⟨b12,rfl,hG0,rfl⟩;subst G0;refine ⟨(by intro e he;simp only [List.mem_cons,List.not_mem_nil,or_false] at he;rcases he with rfl|rfl<;>simp),?_⟩))|((apply x_exec (d:=12) 13;(case hi=>rfl);(case hr=>kernel_rfl);(case hop=>exact m_alloc rfl);(case hd=>rfl);rintro _ G0 _ ⟨b12,rfl,hG0,rfl⟩;subst G0;refine ⟨(by intro e he;simp only [List.mem_cons,List.not_mem_nil,or_false] at he;rcases he with rfl|rfl<;>simp),?_⟩))|((apply d_exec (d:=13) 13;(case hi=>rfl);(case hr=>kernel_rfl);(case hop=>exact m_alloc rfl);(case hd=>rfl);rintro _ G0 _ ⟨b13,rfl,hG0,rfl⟩;subst G0;refine ⟨(by intro e he;simp only [List.mem_cons,List.not_mem_nil,or_false] at he;rcases he with rfl|rfl<;>simp),?_⟩))|((apply x_exec (d:=13) 13;(case hi=>rfl);(case hr=>kernel_rfl);(case hop=>exact m_alloc rfl);(case hd=>rfl);rintro _ G0 _ ⟨b13,rfl,hG0,rfl⟩;subst G0;refine ⟨(by intro e he;simp only [List.mem_cons,List.not_mem_nil,or_false] at he;rcases he with rfl|rfl<;>simp),?_⟩))|apply d_store 13;(case hi=>rfl);(case hr=>kernel_rfl);(case hL=>infer_instance);(case hp|hx|hc|hsz|h1=>rfl);(case hb=>exact aM);(case hfit=>first|exact Nat.le_of_ble_eq_true rfl|rfl);(case hov=>(first|((repeat (first|with_reducible exact ov_nil|apply ov_cons|apply ov_there));done)|rfl));(case hu=>repeat first|exact Upd.here _ _|apply Upd.there|apply Upd.app);(case hν'=>exact aE)|fail)
        all_goals (first|((apply d_call 14 (hs:=qa) (μ1:=[]);(case hi=>rfl);(case hr=>kernel_rfl);(case ha=>rfl);(case hp=>exact List.Perm.refl _);(case hd=>rfl);(case hν'=>intro e he;simp only [List.mem_cons,List.not_mem_nil,or_false] at he;rcases he with rfl|rfl<;>simp);rintro _ G6 _ hle6 ⟨rfl,v6,rfl,hs6⟩;obtain ⟨A6,c6,A6',c6',rfl,-,-⟩:=id hs6))|((apply d_exec (d:=12) 14;(case hi=>rfl);(case hr=>kernel_rfl);(case hop=>exact m_alloc rfl);(case hd=>rfl);rintro _ G0 _ ⟨b12,rfl,hG0,rfl⟩;subst G0;refine ⟨(by intro e he;simp only [List.mem_cons,List.not_mem_nil,or_false] at he;rcases he with rfl|rfl<;>simp),?_⟩))|((apply x_exec (d:=12) 14;(case hi=>rfl);(case hr=>kernel_rfl);(case hop=>exact m_alloc rfl);(case hd=>rfl);rintro _ G0 _ ⟨b12,rfl,hG0,rfl⟩;subst G0;refine ⟨(by intro e he;simp only [List.mem_cons,List.not_mem_nil,or_false] at he;rcases he with rfl|rfl<;>simp),?_⟩))|((apply d_exec (d:=13) 14;(case hi=>rfl);(case hr=>kernel_rfl);(case hop=>exact m_alloc rfl);(case hd=>rfl);rintro _ G0 _ ⟨b13,rfl,hG0,rfl⟩;subst G0;refine ⟨(by intro e he;simp only [List.mem_cons,List.not_mem_nil,or_false] at he;rcases he with rfl|rfl<;>simp),?_⟩))|((apply x_exec (d:=13) 14;(case hi=>rfl);(case hr=>kernel_rfl);(case hop=>exact m_alloc rfl);(case hd=>rfl);rintro _ G0 _ ⟨b13,rfl,hG0,rfl⟩;subst G0;refine ⟨(by intro e he;simp only [List.mem_cons,List.not_mem_nil,or_false] at he;rcases he with rfl|rfl<;>simp),?_⟩))|apply d_store 14;(case hi=>rfl);(case hr=>kernel_rfl);(case hL=>infer_instance);(case hp|hx|hc|hsz|h1=>rfl);(case hb=>exact aM);(case hfit=>first|exact Nat.le_of_ble_eq_true rfl|rfl);(case hov=>(first|((repeat (first|with_reducible exact ov_nil|apply ov_cons|apply ov_there));done)|rfl));(case hu=>repeat first|exact Upd.here _ _|apply Upd.there|apply Upd.app);(case hν'=>exact aE)|fail)
        all_goals refine Dt [15] ?_
        all_goals refine Dd ?_
    all_goals repeat' (first|apply v_read;(case hop=>(apply r_loadNo;(case hx=>rfl);(case h=>exact aM);(case hd|hn=>rfl)));(case hd=>rfl)|refine Wa ?_|(refine Wc ⟨?_,?_⟩<;>first|exact True.intro|intro h)|refine Wr ?_|(refine Wb ?_;intro b)|fail)
    all_goals
     (first
       | refine v_perm (ν:=(b12,Obj.cells [.int .i64 s5.schema,.slice A6 s5.pairs.length c6,.slice A6' s5.sess.length c6'].toArray 57 (0,0))::(b13,Obj.cells [.int .i64 xc,.int .i64 xq,.int .i64 xe,.bool xf,.string xv,.int .i64 xr].toArray 66 (0,0))::((b46,Obj.cells [.int .i64 (ix+1),.int .i64 aI,.slice CA cI.length cc3,.int .i64 s5.schema,.slice A6 s5.pairs.length c6,.slice A6' s5.sess.length c6'].toArray 127 (0,0))::[(b5,Obj.cells zA.cells.toArray 66 (0,0)),(b4,Obj.cells [.int .i64 0,.int .i64 0,.slice none 0 0,.int .i64 0,.slice none 0 0,.slice none 0 0].toArray 59 (0,0)),(b3,Obj.cells (Cm.cells ⟨kind,cl,seq,key,val,old,node⟩).toArray 41 (0,0)),(b2,Obj.cells [.int .i64 ix,.int .i64 ac,.slice C lc.length cc,.int .i64 z,.slice A lp.length d,.slice A' ls.length d'].toArray 59 (0,0))])) (List.Perm.refl _) ?_
       | refine v_perm (ν:=(b12,Obj.cells [.int .i64 s5.schema,.slice A6 s5.pairs.length c6,.slice A6' s5.sess.length c6'].toArray 57 (0,0))::(b13,Obj.cells [.int .i64 xc,.int .i64 xq,.int .i64 xe,.bool xf,.string xv,.int .i64 xr].toArray 66 (0,0))::((b46,Obj.cells [.int .i64 (ix+1),.int .i64 aI,.slice CA cI.length cc3,.int .i64 s5.schema,.slice A6 s5.pairs.length c6,.slice A6' s5.sess.length c6'].toArray 127 (0,0))::[(b5,Obj.cells zA.cells.toArray 66 (0,0)),(b4,Obj.cells [.int .i64 0,.int .i64 0,.slice none 0 0,.int .i64 0,.slice none 0 0,.slice none 0 0].toArray 59 (0,0)),(b3,Obj.cells (Cm.cells ⟨kind,cl,seq,key,val,old,node⟩).toArray 41 (0,0)),(b2,Obj.cells [.int .i64 ix,.int .i64 ac,.slice C lc.length cc,.int .i64 z,.slice A lp.length d,.slice A' ls.length d'].toArray 59 (0,0))])) (List.Perm.swap (b12,Obj.cells [.int .i64 s5.schema,.slice A6 s5.pairs.length c6,.slice A6' s5.sess.length c6'].toArray 57 (0,0)) (b13,Obj.cells [.int .i64 xc,.int .i64 xq,.int .i64 xe,.bool xf,.string xv,.int .i64 xr].toArray 66 (0,0)) _) ?_)
    all_goals
     (refine Dz [] ?_
      all_goals refine Dt [0,1,2,3,4,6,7,8,9] ?_
      focus
       refine d_fork 5 10 (by kernel_rfl) ?_ ?_
       rotate_right
       focus
        first|apply x_exec 10;(case hi=>rfl);(case hop=>exact ReadOp.move (r_load1 rfl (Cell.own aM rfl)));(case hd=>rfl);rintro _ G0 _ ⟨rfl,hG0,rfl⟩;subst G0;refine ⟨(by intro e he;cases he),?_⟩|apply x_call 10 (hs:=qt _ hle6) (μ1:=[]);(case hi|ha=>rfl);(case hp=>exact List.Perm.refl _);(case hd=>rfl);(case hν'=>intro e he;cases he);rintro r1 G7 ν1 hle7 ⟨rfl,hC7⟩;obtain ⟨A7,c7,rfl,-⟩:=id hC7.open|fail
        all_goals refine Dt [11] ?_
        all_goals (first|apply d_keep 5 (hop:=ReadOp.move ?hop);(case hi=>rfl);(case hr=>kernel_rfl);(case hop=>(apply r_load1;rfl;(apply Cell.own;(case h=>exact aM);rfl)));(case hd=>rfl)|((apply x_exec 5;(case hi=>rfl);(case hr=>kernel_rfl);(case hop=>exact ReadOp.move (r_load1 rfl (Cell.own aM rfl)));(case hd=>rfl);rintro _ G0 _ ⟨rfl,hG0,rfl⟩;subst G0;refine ⟨(by intro e he;cases he),?_⟩))|((apply d_call 5 (hs:=qt _ hle6) (μ1:=[]);(case hi=>rfl);(case hr=>kernel_rfl);(case ha=>rfl);(case hp=>exact List.Perm.refl _);(case hd=>rfl);(case hν'=>intro e he;cases he);rintro r1 G7 ν1 hle7 ⟨rfl,hC7⟩;obtain ⟨A7,c7,rfl,-⟩:=id hC7.open))|apply d_store 5;(case hi=>rfl);(case hr=>kernel_rfl);(case hL=>infer_instance);(case hp|hx|hc|hsz|h1=>rfl);(case hb=>exact aM);(case hfit=>first|exact Nat.le_of_ble_eq_true rfl|rfl);(case hov=>(first|((repeat (first|with_reducible exact ov_nil|apply ov_cons|apply ov_there));done)|rfl));(case hu=>repeat first|exact Upd.here _ _|apply Upd.there|apply Upd.app);(case hν'=>exact aE)|fail)
        all_goals (first|apply d_keep 12 (hop:=ReadOp.move ?hop);(case hi=>rfl);(case hr=>kernel_rfl);(case hop=>(apply r_load1;rfl;(apply Cell.own;(case h=>exact aM);rfl)));(case hd=>rfl)|((apply x_exec 12;(case hi=>rfl);(case hr=>kernel_rfl);(case hop=>exact ReadOp.move (r_load1 rfl (Cell.own aM rfl)));(case hd=>rfl);rintro _ G0 _ ⟨rfl,hG0,rfl⟩;subst G0;refine ⟨(by intro e he;cases he),?_⟩))|((apply d_call 12 (hs:=qt _ hle6) (μ1:=[]);(case hi=>rfl);(case hr=>kernel_rfl);(case ha=>rfl);(case hp=>exact List.Perm.refl _);(case hd=>rfl);(case hν'=>intro e he;cases he);rintro r1 G7 ν1 hle7 ⟨rfl,hC7⟩;obtain ⟨A7,c7,rfl,-⟩:=id hC7.open))|apply d_store 12;(case hi=>rfl);(case hr=>kernel_rfl);(case hL=>infer_instance);(case hp|hx|hc|hsz|h1=>rfl);(case hb=>exact aM);(case hfit=>first|exact Nat.le_of_ble_eq_true rfl|rfl);(case hov=>(first|((repeat (first|with_reducible exact ov_nil|apply ov_cons|apply ov_there));done)|rfl));(case hu=>repeat first|exact Upd.here _ _|apply Upd.there|apply Upd.app);(case hν'=>exact aE)|fail)
        all_goals refine Dt [13,14,15] ?_
        all_goals (first|apply d_keep 16 (hop:=ReadOp.move ?hop);(case hi=>rfl);(case hr=>kernel_rfl);(case hop=>(apply r_load1;rfl;(apply Cell.own;(case h=>exact aM);rfl)));(case hd=>rfl)|((apply x_exec 16;(case hi=>rfl);(case hr=>kernel_rfl);(case hop=>exact ReadOp.move (r_load1 rfl (Cell.own aM rfl)));(case hd=>rfl);rintro _ G0 _ ⟨rfl,hG0,rfl⟩;subst G0;refine ⟨(by intro e he;cases he),?_⟩))|((apply d_call 16 (hs:=qt _ hle6) (μ1:=[]);(case hi=>rfl);(case hr=>kernel_rfl);(case ha=>rfl);(case hp=>exact List.Perm.refl _);(case hd=>rfl);(case hν'=>intro e he;cases he);rintro r1 G7 ν1 hle7 ⟨rfl,hC7⟩;obtain ⟨A7,c7,rfl,-⟩:=id hC7.open))|apply d_store 16;(case hi=>rfl);(case hr=>kernel_rfl);(case hL=>infer_instance);(case hp|hx|hc|hsz|h1=>rfl);(case hb=>exact aM);(case hfit=>first|exact Nat.le_of_ble_eq_true rfl|rfl);(case hov=>(first|((repeat (first|with_reducible exact ov_nil|apply ov_cons|apply ov_there));done)|rfl));(case hu=>repeat first|exact Upd.here _ _|apply Upd.there|apply Upd.app);(case hν'=>exact aE)|fail)
        all_goals refine Dd ?_
       rotate_right
       focus
        first|apply x_exec 5;(case hi=>rfl);(case hop=>exact ReadOp.move (r_load1 rfl (Cell.own aM rfl)));(case hd=>rfl);rintro _ G0 _ ⟨rfl,hG0,rfl⟩;subst G0;refine ⟨(by intro e he;cases he),?_⟩|apply x_call 5 (hs:=qt _ hle6) (μ1:=[]);(case hi|ha=>rfl);(case hp=>exact List.Perm.refl _);(case hd=>rfl);(case hν'=>intro e he;cases he);rintro r1 G7 ν1 hle7 ⟨rfl,hC7⟩;obtain ⟨A7,c7,rfl,-⟩:=id hC7.open|fail
        all_goals (first|apply d_keep 10 (hop:=ReadOp.move ?hop);(case hi=>rfl);(case hr=>kernel_rfl);(case hop=>(apply r_load1;rfl;(apply Cell.own;(case h=>exact aM);rfl)));(case hd=>rfl)|((apply x_exec 10;(case hi=>rfl);(case hr=>kernel_rfl);(case hop=>exact ReadOp.move (r_load1 rfl (Cell.own aM rfl)));(case hd=>rfl);rintro _ G0 _ ⟨rfl,hG0,rfl⟩;subst G0;refine ⟨(by intro e he;cases he),?_⟩))|((apply d_call 10 (hs:=qt _ hle6) (μ1:=[]);(case hi=>rfl);(case hr=>kernel_rfl);(case ha=>rfl);(case hp=>exact List.Perm.refl _);(case hd=>rfl);(case hν'=>intro e he;cases he);rintro r1 G7 ν1 hle7 ⟨rfl,hC7⟩;obtain ⟨A7,c7,rfl,-⟩:=id hC7.open))|apply d_store 10;(case hi=>rfl);(case hr=>kernel_rfl);(case hL=>infer_instance);(case hp|hx|hc|hsz|h1=>rfl);(case hb=>exact aM);(case hfit=>first|exact Nat.le_of_ble_eq_true rfl|rfl);(case hov=>(first|((repeat (first|with_reducible exact ov_nil|apply ov_cons|apply ov_there));done)|rfl));(case hu=>repeat first|exact Upd.here _ _|apply Upd.there|apply Upd.app);(case hν'=>exact aE)|fail)
        all_goals refine Dt [11] ?_
        all_goals (first|apply d_keep 12 (hop:=ReadOp.move ?hop);(case hi=>rfl);(case hr=>kernel_rfl);(case hop=>(apply r_load1;rfl;(apply Cell.own;(case h=>exact aM);rfl)));(case hd=>rfl)|((apply x_exec 12;(case hi=>rfl);(case hr=>kernel_rfl);(case hop=>exact ReadOp.move (r_load1 rfl (Cell.own aM rfl)));(case hd=>rfl);rintro _ G0 _ ⟨rfl,hG0,rfl⟩;subst G0;refine ⟨(by intro e he;cases he),?_⟩))|((apply d_call 12 (hs:=qt _ hle6) (μ1:=[]);(case hi=>rfl);(case hr=>kernel_rfl);(case ha=>rfl);(case hp=>exact List.Perm.refl _);(case hd=>rfl);(case hν'=>intro e he;cases he);rintro r1 G7 ν1 hle7 ⟨rfl,hC7⟩;obtain ⟨A7,c7,rfl,-⟩:=id hC7.open))|apply d_store 12;(case hi=>rfl);(case hr=>kernel_rfl);(case hL=>infer_instance);(case hp|hx|hc|hsz|h1=>rfl);(case hb=>exact aM);(case hfit=>first|exact Nat.le_of_ble_eq_true rfl|rfl);(case hov=>(first|((repeat (first|with_reducible exact ov_nil|apply ov_cons|apply ov_there));done)|rfl));(case hu=>repeat first|exact Upd.here _ _|apply Upd.there|apply Upd.app);(case hν'=>exact aE)|fail)
        all_goals refine Dt [13,14,15] ?_
        all_goals (first|apply d_keep 16 (hop:=ReadOp.move ?hop);(case hi=>rfl);(case hr=>kernel_rfl);(case hop=>(apply r_load1;rfl;(apply Cell.own;(case h=>exact aM);rfl)));(case hd=>rfl)|((apply x_exec 16;(case hi=>rfl);(case hr=>kernel_rfl);(case hop=>exact ReadOp.move (r_load1 rfl (Cell.own aM rfl)));(case hd=>rfl);rintro _ G0 _ ⟨rfl,hG0,rfl⟩;subst G0;refine ⟨(by intro e he;cases he),?_⟩))|((apply d_call 16 (hs:=qt _ hle6) (μ1:=[]);(case hi=>rfl);(case hr=>kernel_rfl);(case ha=>rfl);(case hp=>exact List.Perm.refl _);(case hd=>rfl);(case hν'=>intro e he;cases he);rintro r1 G7 ν1 hle7 ⟨rfl,hC7⟩;obtain ⟨A7,c7,rfl,-⟩:=id hC7.open))|apply d_store 16;(case hi=>rfl);(case hr=>kernel_rfl);(case hL=>infer_instance);(case hp|hx|hc|hsz|h1=>rfl);(case hb=>exact aM);(case hfit=>first|exact Nat.le_of_ble_eq_true rfl|rfl);(case hov=>(first|((repeat (first|with_reducible exact ov_nil|apply ov_cons|apply ov_there));done)|rfl));(case hu=>repeat first|exact Upd.here _ _|apply Upd.there|apply Upd.app);(case hν'=>exact aE)|fail)
        all_goals refine Dd ?_
      )
    all_goals repeat' (first|refine Wa ?_|(refine Wc ⟨?_,?_⟩<;>first|exact True.intro|intro h)|refine Wr ?_|(refine Wb ?_;intro b)|fail)
    all_goals
     (refine Dz [(b46,.cells [.int .i64 (ix+1),.int .i64 aI,.slice A7 (trimL cI (ix+2)).length c7,.int .i64 s5.schema,.slice A6 s5.pairs.length c6,.slice A6' s5.sess.length c6'].toArray 127 (0,0)),(b13,Obj.cells [.int .i64 xc,.int .i64 xq,.int .i64 xe,.bool xf,.string xv,.int .i64 xr].toArray 66 (0,0))] ?_
      all_goals refine Dt [0,1,2,3,4] ?_
      all_goals ((apply d_store 5;(case hi=>rfl);(case hr=>kernel_rfl);(case hL=>infer_instance);(case hp|hx|hc|hsz|h1=>rfl);(case hb=>exact aM);(case hfit=>first|exact Nat.le_of_ble_eq_true rfl|rfl);(case hov=>(first|((repeat (first|with_reducible exact ov_nil|apply ov_cons|apply ov_there));done)|rfl));(case hu=>repeat first|exact Upd.here _ _|apply Upd.there|apply Upd.app);(case hν'=>exact aE)))
      all_goals ((apply d_store 6;(case hi=>rfl);(case hr=>kernel_rfl);(case hL=>infer_instance);(case hp|hx|hc|hsz|h1=>rfl);(case hb=>exact aM);(case hfit=>first|exact Nat.le_of_ble_eq_true rfl|rfl);(case hov=>(first|((repeat (first|with_reducible exact ov_nil|apply ov_cons|apply ov_there));done)|rfl));(case hu=>repeat first|exact Upd.here _ _|apply Upd.there|apply Upd.app);(case hν'=>exact aE)))
      all_goals refine Dt [7] ?_
      all_goals refine Dd ?_
      )
    all_goals repeat' (first|refine Wa ?_|(refine Wc ⟨?_,?_⟩<;>first|exact True.intro|intro h)|refine Wr ?_|(refine Wb ?_;intro b)|fail)
    all_goals
     (refine v_retM [] (outsM_cct (sz0:=6) (vs0:=[.int .i64 (ix+1),.int .i64 aI,.slice A7 (trimL cI (ix+2)).length c7,.int .i64 s5.schema,.slice A6 s5.pairs.length c6,.slice A6' s5.sess.length c6']) (e0:=59) (sz1:=6) (vs1:=[.int .i64 xc,.int .i64 xq,.int .i64 xe,.bool xf,.string xv,.int .i64 xr]) (e1:=66) rfl rfl aM rfl rfl aM rfl rfl) (List.nil_sublist _) ⟨rfl,_,rfl,?_⟩
      rw [hnx]
      exact ImV.mk' (l:=trimL cI (ix+2)) (s:=s5) hC7 (hs6.up hle7))
   ·rw [if_pos hci]
    repeat' (first|apply v_read;(case hop=>(apply r_loadNo;(case hx=>rfl);(case h=>exact aM);(case hd|hn=>rfl)));(case hd=>rfl)|refine Wa ?_|(refine Wc ⟨?_,?_⟩<;>first|exact True.intro|intro h)|apply v_callFJ0 (hs:=winNone_s _ _);(case hx|ha|hd=>rfl)|refine Wr ?_|(refine Wb ?_;intro b)|fail)
    refine v_retM [] (outsM_cct (sz0:=6) (vs0:=[.int .i64 0,.int .i64 0,.slice none 0 0,.int .i64 0,.slice none 0 0,.slice none 0 0]) (e0:=59) (sz1:=6) (vs1:=zA.cells) (e1:=66) rfl rfl aM rfl rfl aM rfl rfl) (List.nil_sublist _) ⟨rfl,_,rfl,ImV.zero _⟩
 ·rw [if_neg hP] at q1
  rw [if_pos hP]
  clear hi0 hstp hcok hP q3 q4 q5 q6 q2 hnx hcI haI hclen
  obtain ⟨ix,ac,lc,⟨z,lp,ls⟩⟩:=m
  simp only at *
  generalize lp.length=np at *
  generalize ls.length=ns at *
  generalize lc.length=nl at *
  (refine v_enter Tryz.func25 rfl Tryz.ntmps25 rfl ?_;intro B _)
  repeat' (first|apply v_box (d:=2) (zs:=[.int .i64 ix,.int .i64 ac,.slice C nl cc,.int .i64 z,.slice A np d,.slice A' ns d']);(case hx|hz|hd=>rfl);intro b2|apply v_box (d:=3) (zs:=Cm.cells ⟨kind,cl,seq,key,val,old,node⟩);(case hx|hz|hd=>rfl);intro b3|apply v_alloc (d:=4);(case hz|hd=>rfl);intro b4|apply v_alloc (d:=5);(case hz|hd=>rfl);intro b5|apply v_read;(case hop=>(apply r_loadNo;(case hx=>rfl);(case h=>exact aM);(case hd|hn=>rfl)));(case hd=>rfl)|refine Wa ?_|(refine Wc ⟨?_,?_⟩<;>first|exact True.intro|intro h)|refine cJ q1 ?_|apply v_callFJ0 (hs:=winNone_s _ _);(case hx|ha|hd=>rfl)|refine Wr ?_|(refine Wb ?_;intro b)|fail)
  refine v_retM [] (outsM_cct (sz0:=6) (vs0:=[.int .i64 0,.int .i64 0,.slice none 0 0,.int .i64 0,.slice none 0 0,.slice none 0 0]) (e0:=59) (sz1:=6) (vs1:=zA.cells) (e1:=66) rfl rfl aM rfl rfl aM rfl rfl) (List.nil_sublist _) ⟨rfl,_,rfl,ImV.zero _⟩
end Go.Proofs.YtkofafmiabmobaaGreatDoor
/-
  The reference 30: Check, Same, Large, Trim.
-/
namespace Go.Proofs.YtkofafmiabmobaaGreatDoor
open Go.Vx Go.ChangeShapes Go.WideShapes Go.ChangeAt Go.RowKit
theorem trimL_at (l:List Co) (x:Int):(trimL l x).length=l.length-(placeK l x l.length).toNat∧∀ j (h:j<(trimL l x).length) (h':(placeK l x l.length).toNat+j<l.length),(trimL l x)[j]=((if j=0 then 1 else l[(placeK l x l.length).toNat+j].1),l[(placeK l x l.length).toNat+j].2):=by
 by_cases h0:(placeK l x l.length).toNat<l.length
 ·have e:trimL l x=(1,l[(placeK l x l.length).toNat].2)::l.drop ((placeK l x l.length).toNat+1):=by
   unfold trimL
   rw [List.drop_eq_getElem_cons h0]
  rw [e]
  refine ⟨by simp;omega,fun j h h'=>?_⟩
  cases j with
  | zero=>simp
  | succ j =>
   have e3:(placeK l x l.length).toNat+1+j=(placeK l x l.length).toNat+(j+1):=by omega
   simp only [List.getElem_cons_succ,List.getElem_drop,e3]
   rw [if_neg (by omega)]
 ·have e:trimL l x=[]:=by
   unfold trimL
   rw [List.drop_of_length_le (by omega)]
  rw [e]
  exact ⟨by simp;omega,fun j h=>by simp at h⟩
theorem refWTrim_s {G:GH}{l:List Co}{sv:Value}(x:Int) (hs:Cos G sv l) (hl:l.length≤1000):Con Tryz.prog 133 #[sv,.int .i64 x] G [] (fun r G' μ'=>μ'=[]∧Cos G' r (trimL l x)):=by
 obtain ⟨A,c,mA,mc,rfl,hlc,hcm,hsome,hcp,hc0,hc1,hmv,hwf⟩:=coOpen hs
 simp only [maxLen] at hcm
 (refine v_enter Tryz.func133 rfl Tryz.ntmps133 rfl ?_;intro B _)
 repeat' (first|refine Wa ?_|(refine Wc ⟨?_,?_⟩<;>first|exact True.intro|intro h)|refine Wr ?_|(refine Wb ?_;intro b)|fail)
 refine v_loop [6,5,0,1] (fun us G' μ'=>G'=G∧μ'=[]∧∃ k:Nat,k≤l.length∧us=[Value.int .i64 (k:Int),.int .i64 ((placeK l x k).toNat:Nat),.slice A l.length c,.int .i64 x]) (fun us=>l.length-(headI us).toNat) rfl ⟨rfl,rfl,0,by omega,rfl⟩ ?_
 rintro us G' _ ⟨rfl,rfl,k,hk,rfl⟩
 have hpk:=placeK_le l x k
 by_cases hlt:k<l.length
 ·have hA:=hsome (by omega)
  have e1:((k:Nat):Int).toNat=k:=by omega
  have hsu:=placeK_succ (x:=x) hlt
  have hck:=hc0 k hlt
  repeat' (first|refine Wa ?_|(refine Wc ⟨?_,?_⟩<;>first|exact True.intro|intro h)|refine Rf hck ?_|refine Wr ?_|(refine Wb ?_;intro b)|fail)
  ·rw [if_pos (by assumption)] at hsu
   exact Va rfl ⟨rfl,rfl,k+1,by omega,by rw [hsu];rfl⟩
  ·rw [if_neg (by assumption)] at hsu
   exact Va rfl ⟨rfl,rfl,k+1,by omega,by rw [hsu];rfl⟩
 ·obtain rfl:k=l.length:=by omega
  obtain ⟨hTl,hTa⟩:=trimL_at l x
  generalize trimL l x=T at *
  generalize hp:(placeK l x l.length).toNat=p at *
  clear hpk hc1
  repeat' (first|refine Wa ?_|(refine Wc ⟨?_,?_⟩<;>first|exact True.intro|intro h)|refine Wr ?_|(refine Wb ?_;intro b)|fail)
  refine v_loop [8,5,0,7] (fun us G2 μ'=>G2=G'∧∃ (j:Nat) (out:Value) (css:List (List Value)),j≤T.length∧us=[Value.int .i64 ((p+j:Nat):Int),.int .i64 (p:Nat),.slice A l.length c,out]∧CoCells G' (T.take j) css∧Grow 71 2 out j css.flatten μ') (fun us=>l.length-(headI us).toNat) rfl ⟨rfl,0,_,[],by omega,rfl,CoCells.nil,Grow.nil _ _⟩ ?_
  rintro us G2 ν ⟨rfl,j,out,css,hj,rfl,hcc,hg⟩
  by_cases hjt:j<T.length
  ·have hlt2:p+j<l.length:=by omega
   have hA:=hsome (by omega)
   have e1:(((p+j:Nat):Int)).toNat=p+j:=by omega
   have hck:=hcp (p+j) hlt2
   have hmk:=hmv (p+j) hlt2
   have hwk:=hwf (p+j) hlt2
   have hTj:=hTa j hjt hlt2
   have htk:=List.take_succ_eq_append_getElem hjt
   clear hcp hc0 hmv hwf hTa
   generalize l[p+j]=y at *
   obtain ⟨yf,ym⟩:=y
   generalize mA (p+j)=yA at *
   generalize mc (p+j)=yc at *
   simp only at *
   obtain ⟨OA,oc,rfl,-,hoc⟩:=id hg.shape
   by_cases h0:j=0
   ·subst h0
    repeat' (first|refine RN hck ?_|apply v_alloc (d:=9);(case hz|hd=>rfl);intro b9|refine Wa ?_|(refine Wc ⟨?_,?_⟩<;>first|exact True.intro|intro h)|refine Wr ?_|(refine Wb ?_;intro b)|fail)
    rw [if_pos rfl] at hTj
    have hpm:=List.perm_append_comm (l₁:=([(b,.cells [Value.int .i64 1,.slice yA ym.length yc].toArray 71 (0,0)),(b9,.cells [Value.int .i64 1,.slice yA ym.length yc].toArray 71 (0,0))]:OH)) (l₂:=ν)
    refine v_append (e:=71) (agg:=true) (sz:=2) (bytes:=32) (zero:=.agg #[.int .i64 0,.slice none 0 0]) rfl (by omega) rfl rfl hg hpm (m':=1) (us:=[Value.int .i64 1,.slice yA ym.length yc]) (Src.own (e:=71) (List.Mem.head _) rfl) rfl (by omega) (by simp only [maxLen];omega) rfl fun v' ν' hg'=>?_
    refine v_drop (List.sublist_append_left _ _) ?_
    repeat' (first|refine Wa ?_|(refine Wc ⟨?_,?_⟩<;>first|exact True.intro|intro h)|refine Wr ?_|(refine Wb ?_;intro b)|fail)
    refine Va rfl ⟨rfl,0+1,v',css++[[Value.int .i64 1,.slice yA ym.length yc]],by omega,by rw [show ((p+(0+1):Nat):Int)=((p+0:Nat):Int)+1 by omega],?_,by simpa using hg'⟩
    rw [htk]
    exact hcc.push rfl ⟨_,by rw [hTj],by rw [hTj];(first|exact hwk|exact WalkArith.wf_i64 (n:=1) (by decide)),by rw [hTj];exact hmk⟩
   ·repeat' (first|refine RN hck ?_|apply v_alloc (d:=9);(case hz|hd=>rfl);intro b9|refine Wa ?_|(refine Wc ⟨?_,?_⟩<;>first|exact True.intro|intro h)|refine Wr ?_|(refine Wb ?_;intro b)|fail)
    rw [if_neg h0] at hTj
    have hpm:=List.perm_append_comm (l₁:=([(b,.cells [Value.int .i64 yf,.slice yA ym.length yc].toArray 71 (0,0)),(b9,.cells [Value.int .i64 yf,.slice yA ym.length yc].toArray 71 (0,0))]:OH)) (l₂:=ν)
    refine v_append (e:=71) (agg:=true) (sz:=2) (bytes:=32) (zero:=.agg #[.int .i64 0,.slice none 0 0]) rfl (by omega) rfl rfl hg hpm (m':=1) (us:=[Value.int .i64 yf,.slice yA ym.length yc]) (Src.own (e:=71) (List.Mem.head _) rfl) rfl (by omega) (by simp only [maxLen];omega) rfl fun v' ν' hg'=>?_
    refine v_drop (List.sublist_append_left _ _) ?_
    repeat' (first|refine Wa ?_|(refine Wc ⟨?_,?_⟩<;>first|exact True.intro|intro h)|refine Wr ?_|(refine Wb ?_;intro b)|fail)
    refine Va rfl ⟨rfl,j+1,v',css++[[Value.int .i64 yf,.slice yA ym.length yc]],by omega,by rw [show ((p+(j+1):Nat):Int)=((p+j:Nat):Int)+1 by omega],?_,by simpa using hg'⟩
    rw [htk]
    exact hcc.push rfl ⟨_,by rw [hTj],by rw [hTj];(first|exact hwk|exact WalkArith.wf_i64 (n:=1) (by decide)),by rw [hTj];exact hmk⟩
  ·obtain rfl:j=T.length:=by omega
   rw [List.take_length] at hcc
   repeat' (first|refine Wa ?_|(refine Wc ⟨?_,?_⟩<;>first|exact True.intro|intro h)|refine Wr ?_|(refine Wb ?_;intro b)|fail)
   refine v_frz ν (PickA.last) ?_
   intro G3 hle3 hG3
   refine Vr ?_
   exact ⟨rfl,hcc.grow hg hle3 hG3⟩
set_option maxHeartbeats 1000000 in
theorem refWApply_s {G:GH}{m:Im}{v:Value}(hm:ImV G m v) (hok:ImP m) (hx:m.index<4294967292) (hco:CoZ m.confs) (c:Cm) (hc:cmdI c=0) (hcok:c.ok) (hkz:c.key.size≤200) :
 Con Tryz.prog 66 #[v,.agg c.cells.toArray] G [] (fun r G' μ'=>μ'=[]∧∃ v',r=.tuple [v',.agg (applyS m.st c).2.1.cells.toArray].toArray∧ImV G' (nextI m c) v'):=by
 have hnx:nextI m c=⟨m.index+1,activeI m c,trimL (confsI m c) (m.index+2),(applyS m.st c).1⟩:=rfl
 have hcI:confsI m c=if (c.kind=7∨c.kind=8)∧(changeR m.confs (m.index+1) c.kind c.node).2=0 then changeL m.confs (m.index+1) c.kind c.node else m.confs:=rfl
 have haI:activeI m c=if c.kind=6∧m.active=0 then m.index+1 else m.active:=rfl
 have hclen:=confsI_len (m:=m) (c:=c)
 have hi0:=hok.1.1
 have hnode:(Lit.int .i64 c.node).wf=true:=hcok.2.2.2.2.2.2
 have hmem:=(hok.2.1.mems _ (lastC_mem hok.2.1.1.1)).1
 have hzero:=changeR_zero (l:=m.confs) (x:=m.index+1) (k:=c.kind) (n:=c.node) hok.2.1 (by omega)
 have hceq:=fun h=>refChangeL_eq (x:=m.index+1) (kind:=c.kind) (n:=c.node) hok.2.1 h
 have hrce:=refChanged_eq c.kind c.node hmem
 have hstp:=hok.2.2.1
 obtain ⟨C,cc,A,d,A',d',rfl,hC,hp,hss⟩:=id hm
 have hs:StV G m.st (.agg [.int .i64 m.st.schema,.slice A m.st.pairs.length d,.slice A' m.st.sess.length d'].toArray):=⟨_,_,_,_,rfl,hp,hss⟩
 have q1:=refChange_s (m.index+1) c.kind c.node hC hok.2.1.1.1 (by have:=hco.1;omega) hco.one hnode (by omega)
 have q2:=fun G' (h:GH.le G G')=>refApply_s c (hs.up h) hstp hc hkz
 have q3:=fun G' (l:List Co) (sv:Value) (h:Cos G' sv l) (hl:l.length≤1000)=>refWTrim_s (m.index+1+1) h hl
 have hcz:=hco.1
 rw [hrce] at q1
 clear hok hco hm hrce hp hss hs hc hcok hmem
 obtain ⟨kind,cl,seq,key,val,old,node⟩:=c
 generalize activeI m ⟨kind,cl,seq,key,val,old,node⟩=aI at *
 generalize confsI m ⟨kind,cl,seq,key,val,old,node⟩=cI at *
 generalize applyS m.st ⟨kind,cl,seq,key,val,old,node⟩=ap at *
 generalize nextI m ⟨kind,cl,seq,key,val,old,node⟩=nI at *
 obtain ⟨ix,ac,lc,⟨z,lp,ls⟩⟩:=m
 simp only at *
 rw [show ix+2=ix+1+1 by omega] at hnx
 obtain ⟨s5,⟨xc,xq,xe,xf,xv,xr⟩,e5⟩:=ap
 simp only at *
 (refine v_enter Tryz.func66 rfl Tryz.ntmps66 rfl ?_;intro B _)
 by_cases h78:kind=7∨kind=8
 ·rw [if_neg (fun h=>by omega)] at haI
  rw [haI] at hnx
  repeat' (first|apply v_box (d:=2) (zs:=[.int .i64 ix,.int .i64 ac,.slice C lc.length cc,.int .i64 z,.slice A lp.length d,.slice A' ls.length d']);(case hx|hz|hd=>rfl);intro b2|apply v_box (d:=3) (zs:=Cm.cells ⟨kind,cl,seq,key,val,old,node⟩);(case hx|hz|hd=>rfl);intro b3|apply v_alloc (d:=4);(case hz|hd=>rfl);intro b4|apply v_alloc (d:=5);(case hz|hd=>rfl);intro b5|apply v_alloc (d:=7);(case hz|hd=>rfl);intro b7|apply v_alloc (d:=10);(case hz|hd=>rfl);intro b10|apply v_alloc (d:=11);(case hz|hd=>rfl);intro b11|apply v_read;(case hop=>(apply r_loadNo;(case hx=>rfl);(case h=>exact aM);(case hd|hn=>rfl)));(case hd=>rfl)|refine Wa ?_|(refine Wc ⟨?_,?_⟩<;>first|exact True.intro|intro h)|refine Wr ?_|(refine Wb ?_;intro b)|fail)
  all_goals
   (refine cQ rfl q1 ?_
    rintro _ G2 _ hle2 ⟨rfl,w,rfl,hw⟩
    obtain ⟨WA,wc,rfl,-⟩:=id hw.open
    by_cases hz:(changedL (lastC lc).2 kind node).length≠0
    ·rw [if_pos ⟨h78,hzero.2 hz⟩] at hcI
     rw [decide_eq_true hz]
     rw [hceq hz,← hcI] at hw
     rw [show refChangeL lc (ix+1) kind node=cI by rw [hceq hz,hcI]]
     have hCx:=hw
     clear hw hcI hceq
     repeat' (first|apply v_box (d:=2) (zs:=[.int .i64 ix,.int .i64 ac,.slice C lc.length cc,.int .i64 z,.slice A lp.length d,.slice A' ls.length d']);(case hx|hz|hd=>rfl);intro b2|apply v_box (d:=3) (zs:=Cm.cells ⟨kind,cl,seq,key,val,old,node⟩);(case hx|hz|hd=>rfl);intro b3|apply v_alloc (d:=4);(case hz|hd=>rfl);intro b4|apply v_alloc (d:=5);(case hz|hd=>rfl);intro b5|apply v_alloc (d:=7);(case hz|hd=>rfl);intro b7|apply v_alloc (d:=10);(case hz|hd=>rfl);intro b10|apply v_alloc (d:=11);(case hz|hd=>rfl);intro b11|apply v_read;(case hop=>(apply r_loadNo;(case hx=>rfl);(case h=>exact aM);(case hd|hn=>rfl)));(case hd=>rfl)|refine Wa ?_|(refine Wc ⟨?_,?_⟩<;>first|exact True.intro|intro h)|refine Wr ?_|(refine Wb ?_;intro b)|fail)
     refine cQ rfl (q2 G2 hle2) ?_
     rintro _ G3 _ - ⟨hle3,rfl,v3,rfl,hs3⟩
     obtain ⟨A3,c3,A3',c3',rfl,-,-⟩:=id hs3
     repeat' (first|apply v_box (d:=2) (zs:=[.int .i64 ix,.int .i64 ac,.slice C lc.length cc,.int .i64 z,.slice A lp.length d,.slice A' ls.length d']);(case hx|hz|hd=>rfl);intro b2|apply v_box (d:=3) (zs:=Cm.cells ⟨kind,cl,seq,key,val,old,node⟩);(case hx|hz|hd=>rfl);intro b3|apply v_alloc (d:=4);(case hz|hd=>rfl);intro b4|apply v_alloc (d:=5);(case hz|hd=>rfl);intro b5|apply v_alloc (d:=7);(case hz|hd=>rfl);intro b7|apply v_alloc (d:=10);(case hz|hd=>rfl);intro b10|apply v_alloc (d:=11);(case hz|hd=>rfl);intro b11|apply v_read;(case hop=>(apply r_loadNo;(case hx=>rfl);(case h=>exact aM);(case hd|hn=>rfl)));(case hd=>rfl)|refine Wa ?_|(refine Wc ⟨?_,?_⟩<;>first|exact True.intro|intro h)|refine Wr ?_|(refine Wb ?_;intro b)|fail)
     refine cQ rfl (q3 G3 cI _ (hCx.le hle3) (by omega)) ?_
     rintro _ G4 _ hle4 ⟨rfl,hC4⟩
     obtain ⟨A4,c4,rfl,-⟩:=id hC4.open
     repeat' (first|apply v_box (d:=2) (zs:=[.int .i64 ix,.int .i64 ac,.slice C lc.length cc,.int .i64 z,.slice A lp.length d,.slice A' ls.length d']);(case hx|hz|hd=>rfl);intro b2|apply v_box (d:=3) (zs:=Cm.cells ⟨kind,cl,seq,key,val,old,node⟩);(case hx|hz|hd=>rfl);intro b3|apply v_alloc (d:=4);(case hz|hd=>rfl);intro b4|apply v_alloc (d:=5);(case hz|hd=>rfl);intro b5|apply v_alloc (d:=7);(case hz|hd=>rfl);intro b7|apply v_alloc (d:=10);(case hz|hd=>rfl);intro b10|apply v_alloc (d:=11);(case hz|hd=>rfl);intro b11|apply v_read;(case hop=>(apply r_loadNo;(case hx=>rfl);(case h=>exact aM);(case hd|hn=>rfl)));(case hd=>rfl)|refine Wa ?_|(refine Wc ⟨?_,?_⟩<;>first|exact True.intro|intro h)|refine Wr ?_|(refine Wb ?_;intro b)|fail)
     refine Dz [(b7,.cells [.int .i64 (ix+1),.int .i64 ac,.slice A4 (trimL cI (ix+1+1)).length c4,.int .i64 s5.schema,.slice A3 s5.pairs.length c3,.slice A3' s5.sess.length c3'].toArray 59 (0,0)),(b11,.cells [.int .i64 xc,.int .i64 xq,.int .i64 xe,.bool xf,.string xv,.int .i64 xr].toArray 66 (0,0))] ?_
     all_goals refine Dt [0,1] ?_
     all_goals ((apply d_store 2;(case hi=>rfl);(case hr=>kernel_rfl);(case hL=>infer_instance);(case hp|hx|hc|hsz|h1=>rfl);(case hb=>exact aM);(case hfit=>first|exact Nat.le_of_ble_eq_true rfl|rfl);(case hov=>(first|((repeat (first|with_reducible exact ov_nil|apply ov_cons|apply ov_there));done)|rfl));(case hu=>repeat first|exact Upd.here _ _|apply Upd.there|apply Upd.app);(case hν'=>exact aE)))
     all_goals ((apply d_store 3;(case hi=>rfl);(case hr=>kernel_rfl);(case hL=>infer_instance);(case hp|hx|hc|hsz|h1=>rfl);(case hb=>exact aM);(case hfit=>first|exact Nat.le_of_ble_eq_true rfl|rfl);(case hov=>(first|((repeat (first|with_reducible exact ov_nil|apply ov_cons|apply ov_there));done)|rfl));(case hu=>repeat first|exact Upd.here _ _|apply Upd.there|apply Upd.app);(case hν'=>exact aE)))
     all_goals refine Dd ?_
     repeat' (first|refine Wa ?_|(refine Wc ⟨?_,?_⟩<;>first|exact True.intro|intro h)|refine Wr ?_|(refine Wb ?_;intro b)|fail)
     refine v_retM [] (outsM_cc (sz0:=6) (vs0:=[.int .i64 (ix+1),.int .i64 ac,.slice A4 (trimL cI (ix+1+1)).length c4,.int .i64 s5.schema,.slice A3 s5.pairs.length c3,.slice A3' s5.sess.length c3']) (e0:=59) (sz1:=6) (vs1:=[.int .i64 xc,.int .i64 xq,.int .i64 xe,.bool xf,.string xv,.int .i64 xr]) (e1:=66) rfl rfl aM rfl rfl aM rfl) (List.nil_sublist _) ⟨rfl,_,rfl,?_⟩
     rw [hnx]
     exact ImV.mk' (l:=trimL cI (ix+1+1)) (s:=s5) hC4 (hs3.up hle4)
    ·rw [if_neg (fun h=>hz (hzero.1 h.2))] at hcI
     rw [decide_eq_false hz]
     have hCx:=hC.le hle2
     rw [hcI] at hnx
     repeat' (first|apply v_box (d:=2) (zs:=[.int .i64 ix,.int .i64 ac,.slice C lc.length cc,.int .i64 z,.slice A lp.length d,.slice A' ls.length d']);(case hx|hz|hd=>rfl);intro b2|apply v_box (d:=3) (zs:=Cm.cells ⟨kind,cl,seq,key,val,old,node⟩);(case hx|hz|hd=>rfl);intro b3|apply v_alloc (d:=4);(case hz|hd=>rfl);intro b4|apply v_alloc (d:=5);(case hz|hd=>rfl);intro b5|apply v_alloc (d:=7);(case hz|hd=>rfl);intro b7|apply v_alloc (d:=10);(case hz|hd=>rfl);intro b10|apply v_alloc (d:=11);(case hz|hd=>rfl);intro b11|apply v_read;(case hop=>(apply r_loadNo;(case hx=>rfl);(case h=>exact aM);(case hd|hn=>rfl)));(case hd=>rfl)|refine Wa ?_|(refine Wc ⟨?_,?_⟩<;>first|exact True.intro|intro h)|refine Wr ?_|(refine Wb ?_;intro b)|fail)
     refine cQ rfl (q2 G2 hle2) ?_
     rintro _ G3 _ - ⟨hle3,rfl,v3,rfl,hs3⟩
     obtain ⟨A3,c3,A3',c3',rfl,-,-⟩:=id hs3
     repeat' (first|apply v_box (d:=2) (zs:=[.int .i64 ix,.int .i64 ac,.slice C lc.length cc,.int .i64 z,.slice A lp.length d,.slice A' ls.length d']);(case hx|hz|hd=>rfl);intro b2|apply v_box (d:=3) (zs:=Cm.cells ⟨kind,cl,seq,key,val,old,node⟩);(case hx|hz|hd=>rfl);intro b3|apply v_alloc (d:=4);(case hz|hd=>rfl);intro b4|apply v_alloc (d:=5);(case hz|hd=>rfl);intro b5|apply v_alloc (d:=7);(case hz|hd=>rfl);intro b7|apply v_alloc (d:=10);(case hz|hd=>rfl);intro b10|apply v_alloc (d:=11);(case hz|hd=>rfl);intro b11|apply v_read;(case hop=>(apply r_loadNo;(case hx=>rfl);(case h=>exact aM);(case hd|hn=>rfl)));(case hd=>rfl)|refine Wa ?_|(refine Wc ⟨?_,?_⟩<;>first|exact True.intro|intro h)|refine Wr ?_|(refine Wb ?_;intro b)|fail)
     refine cQ rfl (q3 G3 lc _ (hCx.le hle3) (by omega)) ?_
     rintro _ G4 _ hle4 ⟨rfl,hC4⟩
     obtain ⟨A4,c4,rfl,-⟩:=id hC4.open
     repeat' (first|apply v_box (d:=2) (zs:=[.int .i64 ix,.int .i64 ac,.slice C lc.length cc,.int .i64 z,.slice A lp.length d,.slice A' ls.length d']);(case hx|hz|hd=>rfl);intro b2|apply v_box (d:=3) (zs:=Cm.cells ⟨kind,cl,seq,key,val,old,node⟩);(case hx|hz|hd=>rfl);intro b3|apply v_alloc (d:=4);(case hz|hd=>rfl);intro b4|apply v_alloc (d:=5);(case hz|hd=>rfl);intro b5|apply v_alloc (d:=7);(case hz|hd=>rfl);intro b7|apply v_alloc (d:=10);(case hz|hd=>rfl);intro b10|apply v_alloc (d:=11);(case hz|hd=>rfl);intro b11|apply v_read;(case hop=>(apply r_loadNo;(case hx=>rfl);(case h=>exact aM);(case hd|hn=>rfl)));(case hd=>rfl)|refine Wa ?_|(refine Wc ⟨?_,?_⟩<;>first|exact True.intro|intro h)|refine Wr ?_|(refine Wb ?_;intro b)|fail)
     refine Dz [(b7,.cells [.int .i64 (ix+1),.int .i64 ac,.slice A4 (trimL lc (ix+1+1)).length c4,.int .i64 s5.schema,.slice A3 s5.pairs.length c3,.slice A3' s5.sess.length c3'].toArray 59 (0,0)),(b11,.cells [.int .i64 xc,.int .i64 xq,.int .i64 xe,.bool xf,.string xv,.int .i64 xr].toArray 66 (0,0))] ?_
     all_goals refine Dt [0,1] ?_
     all_goals ((apply d_store 2;(case hi=>rfl);(case hr=>kernel_rfl);(case hL=>infer_instance);(case hp|hx|hc|hsz|h1=>rfl);(case hb=>exact aM);(case hfit=>first|exact Nat.le_of_ble_eq_true rfl|rfl);(case hov=>(first|((repeat (first|with_reducible exact ov_nil|apply ov_cons|apply ov_there));done)|rfl));(case hu=>repeat first|exact Upd.here _ _|apply Upd.there|apply Upd.app);(case hν'=>exact aE)))
     all_goals ((apply d_store 3;(case hi=>rfl);(case hr=>kernel_rfl);(case hL=>infer_instance);(case hp|hx|hc|hsz|h1=>rfl);(case hb=>exact aM);(case hfit=>first|exact Nat.le_of_ble_eq_true rfl|rfl);(case hov=>(first|((repeat (first|with_reducible exact ov_nil|apply ov_cons|apply ov_there));done)|rfl));(case hu=>repeat first|exact Upd.here _ _|apply Upd.there|apply Upd.app);(case hν'=>exact aE)))
     all_goals refine Dd ?_
     repeat' (first|refine Wa ?_|(refine Wc ⟨?_,?_⟩<;>first|exact True.intro|intro h)|refine Wr ?_|(refine Wb ?_;intro b)|fail)
     refine v_retM [] (outsM_cc (sz0:=6) (vs0:=[.int .i64 (ix+1),.int .i64 ac,.slice A4 (trimL lc (ix+1+1)).length c4,.int .i64 s5.schema,.slice A3 s5.pairs.length c3,.slice A3' s5.sess.length c3']) (e0:=59) (sz1:=6) (vs1:=[.int .i64 xc,.int .i64 xq,.int .i64 xe,.bool xf,.string xv,.int .i64 xr]) (e1:=66) rfl rfl aM rfl rfl aM rfl) (List.nil_sublist _) ⟨rfl,_,rfl,?_⟩
     rw [hnx]
     exact ImV.mk' (l:=trimL lc (ix+1+1)) (s:=s5) hC4 (hs3.up hle4)
    )
 ·rw [if_neg (fun h=>h78 h.1)] at hcI
  rw [hcI] at hnx
  have hCx:=hC
  have hle2:=GH.le_refl G
  obtain ⟨G2,hG2⟩:∃ G2,G2=G:=⟨_,rfl⟩
  subst hG2
  by_cases h6:kind=6∧ac=0
  ·rw [if_pos h6] at haI
   obtain ⟨h6,h0⟩:=h6
   rw [haI] at hnx
   repeat' (first|apply v_box (d:=2) (zs:=[.int .i64 ix,.int .i64 ac,.slice C lc.length cc,.int .i64 z,.slice A lp.length d,.slice A' ls.length d']);(case hx|hz|hd=>rfl);intro b2|apply v_box (d:=3) (zs:=Cm.cells ⟨kind,cl,seq,key,val,old,node⟩);(case hx|hz|hd=>rfl);intro b3|apply v_alloc (d:=4);(case hz|hd=>rfl);intro b4|apply v_alloc (d:=5);(case hz|hd=>rfl);intro b5|apply v_alloc (d:=7);(case hz|hd=>rfl);intro b7|apply v_alloc (d:=10);(case hz|hd=>rfl);intro b10|apply v_alloc (d:=11);(case hz|hd=>rfl);intro b11|apply v_read;(case hop=>(apply r_loadNo;(case hx=>rfl);(case h=>exact aM);(case hd|hn=>rfl)));(case hd=>rfl)|refine Wa ?_|(refine Wc ⟨?_,?_⟩<;>first|exact True.intro|intro h)|refine Wr ?_|(refine Wb ?_;intro b)|fail)
   refine cQ rfl (q2 G2 hle2) ?_
   rintro _ G3 _ - ⟨hle3,rfl,v3,rfl,hs3⟩
   obtain ⟨A3,c3,A3',c3',rfl,-,-⟩:=id hs3
   repeat' (first|apply v_box (d:=2) (zs:=[.int .i64 ix,.int .i64 ac,.slice C lc.length cc,.int .i64 z,.slice A lp.length d,.slice A' ls.length d']);(case hx|hz|hd=>rfl);intro b2|apply v_box (d:=3) (zs:=Cm.cells ⟨kind,cl,seq,key,val,old,node⟩);(case hx|hz|hd=>rfl);intro b3|apply v_alloc (d:=4);(case hz|hd=>rfl);intro b4|apply v_alloc (d:=5);(case hz|hd=>rfl);intro b5|apply v_alloc (d:=7);(case hz|hd=>rfl);intro b7|apply v_alloc (d:=10);(case hz|hd=>rfl);intro b10|apply v_alloc (d:=11);(case hz|hd=>rfl);intro b11|apply v_read;(case hop=>(apply r_loadNo;(case hx=>rfl);(case h=>exact aM);(case hd|hn=>rfl)));(case hd=>rfl)|refine Wa ?_|(refine Wc ⟨?_,?_⟩<;>first|exact True.intro|intro h)|refine Wr ?_|(refine Wb ?_;intro b)|fail)
   refine cQ rfl (q3 G3 lc _ (hCx.le hle3) (by omega)) ?_
   rintro _ G4 _ hle4 ⟨rfl,hC4⟩
   obtain ⟨A4,c4,rfl,-⟩:=id hC4.open
   repeat' (first|apply v_box (d:=2) (zs:=[.int .i64 ix,.int .i64 ac,.slice C lc.length cc,.int .i64 z,.slice A lp.length d,.slice A' ls.length d']);(case hx|hz|hd=>rfl);intro b2|apply v_box (d:=3) (zs:=Cm.cells ⟨kind,cl,seq,key,val,old,node⟩);(case hx|hz|hd=>rfl);intro b3|apply v_alloc (d:=4);(case hz|hd=>rfl);intro b4|apply v_alloc (d:=5);(case hz|hd=>rfl);intro b5|apply v_alloc (d:=7);(case hz|hd=>rfl);intro b7|apply v_alloc (d:=10);(case hz|hd=>rfl);intro b10|apply v_alloc (d:=11);(case hz|hd=>rfl);intro b11|apply v_read;(case hop=>(apply r_loadNo;(case hx=>rfl);(case h=>exact aM);(case hd|hn=>rfl)));(case hd=>rfl)|refine Wa ?_|(refine Wc ⟨?_,?_⟩<;>first|exact True.intro|intro h)|refine Wr ?_|(refine Wb ?_;intro b)|fail)
   refine Dz [(b7,.cells [.int .i64 (ix+1),.int .i64 (ix+1),.slice A4 (trimL lc (ix+1+1)).length c4,.int .i64 s5.schema,.slice A3 s5.pairs.length c3,.slice A3' s5.sess.length c3'].toArray 59 (0,0)),(b11,.cells [.int .i64 xc,.int .i64 xq,.int .i64 xe,.bool xf,.string xv,.int .i64 xr].toArray 66 (0,0))] ?_
   all_goals refine Dt [0,1] ?_
   all_goals ((apply d_store 2;(case hi=>rfl);(case hr=>kernel_rfl);(case hL=>infer_instance);(case hp|hx|hc|hsz|h1=>rfl);(case hb=>exact aM);(case hfit=>first|exact Nat.le_of_ble_eq_true rfl|rfl);(case hov=>(first|((repeat (first|with_reducible exact ov_nil|apply ov_cons|apply ov_there));done)|rfl));(case hu=>repeat first|exact Upd.here _ _|apply Upd.there|apply Upd.app);(case hν'=>exact aE)))
   all_goals ((apply d_store 3;(case hi=>rfl);(case hr=>kernel_rfl);(case hL=>infer_instance);(case hp|hx|hc|hsz|h1=>rfl);(case hb=>exact aM);(case hfit=>first|exact Nat.le_of_ble_eq_true rfl|rfl);(case hov=>(first|((repeat (first|with_reducible exact ov_nil|apply ov_cons|apply ov_there));done)|rfl));(case hu=>repeat first|exact Upd.here _ _|apply Upd.there|apply Upd.app);(case hν'=>exact aE)))
   all_goals refine Dd ?_
   repeat' (first|refine Wa ?_|(refine Wc ⟨?_,?_⟩<;>first|exact True.intro|intro h)|refine Wr ?_|(refine Wb ?_;intro b)|fail)
   refine v_retM [] (outsM_cc (sz0:=6) (vs0:=[.int .i64 (ix+1),.int .i64 (ix+1),.slice A4 (trimL lc (ix+1+1)).length c4,.int .i64 s5.schema,.slice A3 s5.pairs.length c3,.slice A3' s5.sess.length c3']) (e0:=59) (sz1:=6) (vs1:=[.int .i64 xc,.int .i64 xq,.int .i64 xe,.bool xf,.string xv,.int .i64 xr]) (e1:=66) rfl rfl aM rfl rfl aM rfl) (List.nil_sublist _) ⟨rfl,_,rfl,?_⟩
   rw [hnx]
   exact ImV.mk' (l:=trimL lc (ix+1+1)) (s:=s5) hC4 (hs3.up hle4)
  ·rw [if_neg h6] at haI
   rw [haI] at hnx
   by_cases h6':kind=6
   ·have h0:¬ ac=0:=fun h=>h6 ⟨h6',h⟩
    repeat' (first|apply v_box (d:=2) (zs:=[.int .i64 ix,.int .i64 ac,.slice C lc.length cc,.int .i64 z,.slice A lp.length d,.slice A' ls.length d']);(case hx|hz|hd=>rfl);intro b2|apply v_box (d:=3) (zs:=Cm.cells ⟨kind,cl,seq,key,val,old,node⟩);(case hx|hz|hd=>rfl);intro b3|apply v_alloc (d:=4);(case hz|hd=>rfl);intro b4|apply v_alloc (d:=5);(case hz|hd=>rfl);intro b5|apply v_alloc (d:=7);(case hz|hd=>rfl);intro b7|apply v_alloc (d:=10);(case hz|hd=>rfl);intro b10|apply v_alloc (d:=11);(case hz|hd=>rfl);intro b11|apply v_read;(case hop=>(apply r_loadNo;(case hx=>rfl);(case h=>exact aM);(case hd|hn=>rfl)));(case hd=>rfl)|refine Wa ?_|(refine Wc ⟨?_,?_⟩<;>first|exact True.intro|intro h)|refine Wr ?_|(refine Wb ?_;intro b)|fail)
    refine cQ rfl (q2 G2 hle2) ?_
    rintro _ G3 _ - ⟨hle3,rfl,v3,rfl,hs3⟩
    obtain ⟨A3,c3,A3',c3',rfl,-,-⟩:=id hs3
    repeat' (first|apply v_box (d:=2) (zs:=[.int .i64 ix,.int .i64 ac,.slice C lc.length cc,.int .i64 z,.slice A lp.length d,.slice A' ls.length d']);(case hx|hz|hd=>rfl);intro b2|apply v_box (d:=3) (zs:=Cm.cells ⟨kind,cl,seq,key,val,old,node⟩);(case hx|hz|hd=>rfl);intro b3|apply v_alloc (d:=4);(case hz|hd=>rfl);intro b4|apply v_alloc (d:=5);(case hz|hd=>rfl);intro b5|apply v_alloc (d:=7);(case hz|hd=>rfl);intro b7|apply v_alloc (d:=10);(case hz|hd=>rfl);intro b10|apply v_alloc (d:=11);(case hz|hd=>rfl);intro b11|apply v_read;(case hop=>(apply r_loadNo;(case hx=>rfl);(case h=>exact aM);(case hd|hn=>rfl)));(case hd=>rfl)|refine Wa ?_|(refine Wc ⟨?_,?_⟩<;>first|exact True.intro|intro h)|refine Wr ?_|(refine Wb ?_;intro b)|fail)
    refine cQ rfl (q3 G3 lc _ (hCx.le hle3) (by omega)) ?_
    rintro _ G4 _ hle4 ⟨rfl,hC4⟩
    obtain ⟨A4,c4,rfl,-⟩:=id hC4.open
    repeat' (first|apply v_box (d:=2) (zs:=[.int .i64 ix,.int .i64 ac,.slice C lc.length cc,.int .i64 z,.slice A lp.length d,.slice A' ls.length d']);(case hx|hz|hd=>rfl);intro b2|apply v_box (d:=3) (zs:=Cm.cells ⟨kind,cl,seq,key,val,old,node⟩);(case hx|hz|hd=>rfl);intro b3|apply v_alloc (d:=4);(case hz|hd=>rfl);intro b4|apply v_alloc (d:=5);(case hz|hd=>rfl);intro b5|apply v_alloc (d:=7);(case hz|hd=>rfl);intro b7|apply v_alloc (d:=10);(case hz|hd=>rfl);intro b10|apply v_alloc (d:=11);(case hz|hd=>rfl);intro b11|apply v_read;(case hop=>(apply r_loadNo;(case hx=>rfl);(case h=>exact aM);(case hd|hn=>rfl)));(case hd=>rfl)|refine Wa ?_|(refine Wc ⟨?_,?_⟩<;>first|exact True.intro|intro h)|refine Wr ?_|(refine Wb ?_;intro b)|fail)
    refine Dz [(b7,.cells [.int .i64 (ix+1),.int .i64 ac,.slice A4 (trimL lc (ix+1+1)).length c4,.int .i64 s5.schema,.slice A3 s5.pairs.length c3,.slice A3' s5.sess.length c3'].toArray 59 (0,0)),(b11,.cells [.int .i64 xc,.int .i64 xq,.int .i64 xe,.bool xf,.string xv,.int .i64 xr].toArray 66 (0,0))] ?_
    all_goals refine Dt [0,1] ?_
    all_goals ((apply d_store 2;(case hi=>rfl);(case hr=>kernel_rfl);(case hL=>infer_instance);(case hp|hx|hc|hsz|h1=>rfl);(case hb=>exact aM);(case hfit=>first|exact Nat.le_of_ble_eq_true rfl|rfl);(case hov=>(first|((repeat (first|with_reducible exact ov_nil|apply ov_cons|apply ov_there));done)|rfl));(case hu=>repeat first|exact Upd.here _ _|apply Upd.there|apply Upd.app);(case hν'=>exact aE)))
    all_goals ((apply d_store 3;(case hi=>rfl);(case hr=>kernel_rfl);(case hL=>infer_instance);(case hp|hx|hc|hsz|h1=>rfl);(case hb=>exact aM);(case hfit=>first|exact Nat.le_of_ble_eq_true rfl|rfl);(case hov=>(first|((repeat (first|with_reducible exact ov_nil|apply ov_cons|apply ov_there));done)|rfl));(case hu=>repeat first|exact Upd.here _ _|apply Upd.there|apply Upd.app);(case hν'=>exact aE)))
    all_goals refine Dd ?_
    repeat' (first|refine Wa ?_|(refine Wc ⟨?_,?_⟩<;>first|exact True.intro|intro h)|refine Wr ?_|(refine Wb ?_;intro b)|fail)
    refine v_retM [] (outsM_cc (sz0:=6) (vs0:=[.int .i64 (ix+1),.int .i64 ac,.slice A4 (trimL lc (ix+1+1)).length c4,.int .i64 s5.schema,.slice A3 s5.pairs.length c3,.slice A3' s5.sess.length c3']) (e0:=59) (sz1:=6) (vs1:=[.int .i64 xc,.int .i64 xq,.int .i64 xe,.bool xf,.string xv,.int .i64 xr]) (e1:=66) rfl rfl aM rfl rfl aM rfl) (List.nil_sublist _) ⟨rfl,_,rfl,?_⟩
    rw [hnx]
    exact ImV.mk' (l:=trimL lc (ix+1+1)) (s:=s5) hC4 (hs3.up hle4)
   ·repeat' (first|apply v_box (d:=2) (zs:=[.int .i64 ix,.int .i64 ac,.slice C lc.length cc,.int .i64 z,.slice A lp.length d,.slice A' ls.length d']);(case hx|hz|hd=>rfl);intro b2|apply v_box (d:=3) (zs:=Cm.cells ⟨kind,cl,seq,key,val,old,node⟩);(case hx|hz|hd=>rfl);intro b3|apply v_alloc (d:=4);(case hz|hd=>rfl);intro b4|apply v_alloc (d:=5);(case hz|hd=>rfl);intro b5|apply v_alloc (d:=7);(case hz|hd=>rfl);intro b7|apply v_alloc (d:=10);(case hz|hd=>rfl);intro b10|apply v_alloc (d:=11);(case hz|hd=>rfl);intro b11|apply v_read;(case hop=>(apply r_loadNo;(case hx=>rfl);(case h=>exact aM);(case hd|hn=>rfl)));(case hd=>rfl)|refine Wa ?_|(refine Wc ⟨?_,?_⟩<;>first|exact True.intro|intro h)|refine Wr ?_|(refine Wb ?_;intro b)|fail)
    refine cQ rfl (q2 G2 hle2) ?_
    rintro _ G3 _ - ⟨hle3,rfl,v3,rfl,hs3⟩
    obtain ⟨A3,c3,A3',c3',rfl,-,-⟩:=id hs3
    repeat' (first|apply v_box (d:=2) (zs:=[.int .i64 ix,.int .i64 ac,.slice C lc.length cc,.int .i64 z,.slice A lp.length d,.slice A' ls.length d']);(case hx|hz|hd=>rfl);intro b2|apply v_box (d:=3) (zs:=Cm.cells ⟨kind,cl,seq,key,val,old,node⟩);(case hx|hz|hd=>rfl);intro b3|apply v_alloc (d:=4);(case hz|hd=>rfl);intro b4|apply v_alloc (d:=5);(case hz|hd=>rfl);intro b5|apply v_alloc (d:=7);(case hz|hd=>rfl);intro b7|apply v_alloc (d:=10);(case hz|hd=>rfl);intro b10|apply v_alloc (d:=11);(case hz|hd=>rfl);intro b11|apply v_read;(case hop=>(apply r_loadNo;(case hx=>rfl);(case h=>exact aM);(case hd|hn=>rfl)));(case hd=>rfl)|refine Wa ?_|(refine Wc ⟨?_,?_⟩<;>first|exact True.intro|intro h)|refine Wr ?_|(refine Wb ?_;intro b)|fail)
    refine cQ rfl (q3 G3 lc _ (hCx.le hle3) (by omega)) ?_
    rintro _ G4 _ hle4 ⟨rfl,hC4⟩
    obtain ⟨A4,c4,rfl,-⟩:=id hC4.open
    repeat' (first|apply v_box (d:=2) (zs:=[.int .i64 ix,.int .i64 ac,.slice C lc.length cc,.int .i64 z,.slice A lp.length d,.slice A' ls.length d']);(case hx|hz|hd=>rfl);intro b2|apply v_box (d:=3) (zs:=Cm.cells ⟨kind,cl,seq,key,val,old,node⟩);(case hx|hz|hd=>rfl);intro b3|apply v_alloc (d:=4);(case hz|hd=>rfl);intro b4|apply v_alloc (d:=5);(case hz|hd=>rfl);intro b5|apply v_alloc (d:=7);(case hz|hd=>rfl);intro b7|apply v_alloc (d:=10);(case hz|hd=>rfl);intro b10|apply v_alloc (d:=11);(case hz|hd=>rfl);intro b11|apply v_read;(case hop=>(apply r_loadNo;(case hx=>rfl);(case h=>exact aM);(case hd|hn=>rfl)));(case hd=>rfl)|refine Wa ?_|(refine Wc ⟨?_,?_⟩<;>first|exact True.intro|intro h)|refine Wr ?_|(refine Wb ?_;intro b)|fail)
    refine Dz [(b7,.cells [.int .i64 (ix+1),.int .i64 ac,.slice A4 (trimL lc (ix+1+1)).length c4,.int .i64 s5.schema,.slice A3 s5.pairs.length c3,.slice A3' s5.sess.length c3'].toArray 59 (0,0)),(b11,.cells [.int .i64 xc,.int .i64 xq,.int .i64 xe,.bool xf,.string xv,.int .i64 xr].toArray 66 (0,0))] ?_
    all_goals refine Dt [0,1] ?_
    all_goals ((apply d_store 2;(case hi=>rfl);(case hr=>kernel_rfl);(case hL=>infer_instance);(case hp|hx|hc|hsz|h1=>rfl);(case hb=>exact aM);(case hfit=>first|exact Nat.le_of_ble_eq_true rfl|rfl);(case hov=>(first|((repeat (first|with_reducible exact ov_nil|apply ov_cons|apply ov_there));done)|rfl));(case hu=>repeat first|exact Upd.here _ _|apply Upd.there|apply Upd.app);(case hν'=>exact aE)))
    all_goals ((apply d_store 3;(case hi=>rfl);(case hr=>kernel_rfl);(case hL=>infer_instance);(case hp|hx|hc|hsz|h1=>rfl);(case hb=>exact aM);(case hfit=>first|exact Nat.le_of_ble_eq_true rfl|rfl);(case hov=>(first|((repeat (first|with_reducible exact ov_nil|apply ov_cons|apply ov_there));done)|rfl));(case hu=>repeat first|exact Upd.here _ _|apply Upd.there|apply Upd.app);(case hν'=>exact aE)))
    all_goals refine Dd ?_
    repeat' (first|refine Wa ?_|(refine Wc ⟨?_,?_⟩<;>first|exact True.intro|intro h)|refine Wr ?_|(refine Wb ?_;intro b)|fail)
    refine v_retM [] (outsM_cc (sz0:=6) (vs0:=[.int .i64 (ix+1),.int .i64 ac,.slice A4 (trimL lc (ix+1+1)).length c4,.int .i64 s5.schema,.slice A3 s5.pairs.length c3,.slice A3' s5.sess.length c3']) (e0:=59) (sz1:=6) (vs1:=[.int .i64 xc,.int .i64 xq,.int .i64 xe,.bool xf,.string xv,.int .i64 xr]) (e1:=66) rfl rfl aM rfl rfl aM rfl) (List.nil_sublist _) ⟨rfl,_,rfl,?_⟩
    rw [hnx]
    exact ImV.mk' (l:=trimL lc (ix+1+1)) (s:=s5) hC4 (hs3.up hle4)
end Go.Proofs.YtkofafmiabmobaaGreatDoor
