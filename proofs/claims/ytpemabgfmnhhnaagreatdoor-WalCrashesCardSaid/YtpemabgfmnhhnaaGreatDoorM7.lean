/-
  wal (layer 21), the reference: Add, Was, Large.
-/
import Derived.Test.YtpemabgfmnhhnaaGreatDoorM6
import Derived.Test.YtpemabgfmnhhnaaGreatDoorM5
import Derived.Test.YtpemabgfmnhhnaaGreatDoorM4
import VxDev
import Derived.Test.YtpemabgfmnhhnaaGreatDoorM1
import Derived.Test.YtpemabgfmnhhnaaGreatDoorRows
import Derived.Test.YtpemabgfmnhhnaaGreatDoorChecked
import Derived.JoinedOf
import Derived.SevenTiedAt
import Derived.LaidMore
import Derived.Lay
import Derived.Test.YtpemabgfmnhhnaaGreatDoorTie
import Derived.Test.YtpemabgfmnhhnaaGreatDoorCards
import Derived.Stop.Joined
set_option linter.unusedSimpArgs false
set_option linter.unusedVariables false
namespace Go.Proofs.YtpemabgfmnhhnaaGreatDoor
open Go.Vx Go.ChangeShapes Go.WideShapes Go.ChangeAt Go.RowKit
def PAddR (pb:Nat) (past:List (Int×Hd)) (f:Int) (H:Hd) (x:Rc) (G:GH) (r:Value) (G':GH) (μ':OH):Prop :=
 GH.le G G'∧r=.int .i64 (errF f x)∧(if errF f x=0 then PaM pb (past++[(f,stepH H x)]) G' μ' else PaM pb past G' μ')
theorem hasF_one {f:Int}{x:Rc}:hasF f [x]=errF f x:=by
 unfold hasF
 by_cases hf:f=1∨f=2
 ·rw [if_pos hf]
  unfold errsF
  by_cases h:errF f x=0
  ·rw [if_pos h,h];rfl
  ·rw [if_neg h]
 ·rw [if_neg hf,errFN hf]
set_option maxHeartbeats 1000000 in
theorem padd_s {pb a:Nat}{pre:List (Int×Hd)}{f:Int}{H:Hd}{G:GH}{μ:OH}(h:PaM pb (pre++[(f,H)]) G μ) (hlen:(pre++[(f,H)]).length≤1000) (s:St a f H) (ha40:a≤40) {x:Rc}{xv:Value}(hx:RcV G x xv) (hok:x.cmd.ok) (hsm:x.small) :
 Con Tryz.prog 41 #[.pointer (some ⟨pb,0,none⟩),xv] G μ (PAddR pb (pre++[(f,H)]) f H x G):=by
 have ql:=plast_s h
 have hpa:=h
 obtain ⟨xi,rfl,hxi⟩:=id hx
 obtain ⟨A3,c3,rfl,-⟩:=id hxi.openInt
 (refine v_enter Tryz.func41 rfl Tryz.ntmps41 rfl ?_;intro B _)
 repeat' (first|apply v_box (zs:=recL x.kind x.round x.node x.index x.cmd (.slice A3 x.image.length c3));(case hx|hz|hd=>rfl);intro b|apply v_seq|apply v_region|apply v_nil|apply v_pure;(case hop=>first|apply p_move<;>rfl|apply p_assign<;>rfl|fail);(case hd=>rfl)|fail)
 revert b
 intro xb
 refine v_call (μ1:=μ) (μ2:=[(xb,.cells (recL x.kind x.round x.node x.index x.cmd (.slice A3 x.image.length c3)).toArray 42 (0,0))]) rfl ql (by apply perm_of_count;intro p;simp only [List.append_eq,List.countP_append,List.countP_cons,List.countP_nil,Nat.zero_add,Nat.add_zero];try ac_rfl) rfl ?_
 rintro _ G1 μ1 - ⟨hG1,rfl,L,rfl,hL⟩
 subst hG1
 have hL0:=hL
 obtain ⟨iv,av,cv,rfl,hi,ha,hcv⟩:=hL
 obtain ⟨A0,c0,rfl,-⟩:=id hi.openInt
 obtain ⟨A1,c1,rfl,-⟩:=id ha.open
 obtain ⟨A2,c2,rfl,-⟩:=id hcv.open
 repeat' (first|apply v_seq|apply v_region|apply v_nil|apply v_pure;(case hop=>first|apply p_move<;>rfl|apply p_assign<;>rfl|apply p_extract0<;>rfl|apply p_extract1<;>rfl|fail);(case hd=>rfl)|apply v_read;(case hop=>(apply r_loadNo;(case hx=>rfl);(case h=>repeat first|exact mhd _|apply mtl|apply List.mem_append_right);(case hd=>repeat first|with_reducible exact dt_nil|apply dt_here);(case hn=>rfl)));(case hd=>rfl)|apply v_buildSlice;(case hz|hi=>rfl);(case hv=>(simp only [List.map_cons,List.map_nil];repeat (first|with_reducible exact evs_nil|apply evs_cons;(case h1=>rfl))));(case hp=>(apply pk_cons;(case hc|hs=>rfl);(case h=>(with_reducible exact pk_nil));(case he=>((repeat (first|with_reducible exact ap_nil|apply ap_cons));done))));(case hb|hd=>rfl);intro b|apply v_alloc;(case hz|hd=>rfl);intro b|apply v_store;(case hp|hx|hc|hsz|h1=>rfl);(case hb=>repeat exact mhd _);(case hfit=>exact nle rfl);(case hov=>((repeat (first|with_reducible exact ov_nil|apply ov_cons));done));(case hu=>repeat (exact Upd.here _ _))|fail)
 revert b
 intro sb
 revert b
 intro hb
 refine v_frzP [(sb,.cells (recL x.kind x.round x.node x.index x.cmd (.slice A3 x.image.length c3)).toArray 42 (0,0))] (List.Perm.refl _) ?_
 intro G2 hle2 hG2
 have hrs:Rs G2 (.slice (some ⟨sb,0,none⟩) 1 1) [x]:=one_rs (hG2 _ _ (List.Mem.head _)) ⟨_,rfl,hok,hsm,hxi.mono hle2⟩
 have qh:=has20_s f hrs
 rw [hasF_one] at qh
 by_cases he:errF f x=0
 ·rw [he] at qh
  repeat' (first|apply v_seq|apply v_region|apply v_nil|apply v_skip|apply v_pure;(case hop=>first|apply p_move<;>rfl|apply p_nes<;>rfl|apply p_assign<;>rfl|fail);(case hd=>rfl)|apply v_condF;(case hc=>rfl)|apply v_callJ (hs:=qh);(case ha|hd=>rfl)|apply v_read;(case hop=>(apply r_loadNo;(case hx=>rfl);(case h=>repeat first|exact mhd _|apply mtl|apply List.mem_append_right);(case hd=>repeat first|with_reducible exact dt_nil|apply dt_here);(case hn=>rfl)));(case hd=>rfl)|apply v_buildSlice;(case hz|hi=>rfl);(case hv=>(simp only [List.map_cons,List.map_nil];repeat (first|with_reducible exact evs_nil|apply evs_cons;(case h1=>rfl))));(case hp=>(apply pk_cons;(case hc|hs=>rfl);(case h=>(with_reducible exact pk_nil));(case he=>((repeat (first|with_reducible exact ap_nil|apply ap_cons));done))));(case hb|hd=>rfl);intro b|fail)
  revert b
  intro sb2
  refine v_frzP [(sb2,.cells (recL x.kind x.round x.node x.index x.cmd (.slice A3 x.image.length c3)).toArray 42 (0,0))] (List.Perm.refl _) ?_
  intro G3 hle3 hG3
  have hle13:=GH.le_trans hle2 hle3
  have hrs3:Rs G3 (.slice (some ⟨sb2,0,none⟩) 1 1) [x]:=one_rs (hG3 _ _ (List.Mem.head _)) ⟨_,rfl,hok,hsm,hxi.mono hle13⟩
  have qb:=behind_s (hL0.le hle13) s.good ha40 hrs3 (by have:=s.len;simp;omega)
  rw [hardOf_snoc,s.back] at qb
  refine v_call (μ1:=[]) rfl qb (List.Perm.refl _) rfl ?_
  rintro _ G4 _ hle4 ⟨rfl,L4,rfl,hL4⟩
  have hle14:=GH.le_trans hle13 hle4
  have qp:=pput_s (f:=f) (h.le hle14) hlen hL4
  obtain ⟨iv4,av4,cv4,rfl,hi4,ha4,hcv4⟩:=id hL4
  obtain ⟨B0,d0,rfl,-⟩:=id hi4.openInt
  obtain ⟨B1,d1,rfl,-⟩:=id ha4.open
  obtain ⟨B2,d2,rfl,-⟩:=id hcv4.open
  repeat' (first|apply v_pure;(case hop=>(apply p_move<;>rfl));(case hd=>rfl)|fail)
  refine v_call (μ1:=μ1) (μ2:=[(hb,.cells (hdL H.pr H.pn H.base (.slice A0 H.image.length c0) (.slice A1 H.acc.length c1) (.slice A2 H.cho.length c2)).toArray 27 (0,0)),(xb,.cells (recL x.kind x.round x.node x.index x.cmd (.slice A3 x.image.length c3)).toArray 42 (0,0))]) rfl qp (by apply perm_of_count;intro p;simp only [List.append_eq,List.countP_append,List.countP_cons,List.countP_nil,Nat.zero_add,Nat.add_zero];try ac_rfl) rfl ?_
  rintro _ G5 μ5 - ⟨hG5,hp5⟩
  subst hG5
  repeat' (first|apply v_seq|apply v_region|apply v_nil|apply v_pure;(case hop=>(apply p_assign<;>rfl));(case hd=>rfl)|fail)
  refine v_ret μ5 (outsA1 rfl rfl) (List.sublist_append_left _ _) ⟨hle14,by rw [he],by rw [if_pos he];exact hp5⟩
 ·generalize hee:errF f x=e at *
  repeat' (first|apply v_seq|apply v_region|apply v_nil|apply v_pure;(case hop=>first|apply p_move<;>rfl|apply p_ne<;>rfl|apply p_assign<;>rfl|fail);(case hd=>rfl)|apply v_cond;(case hc=>rfl);all_goals (intro h;(try simp only [reduceCtorEq,zzz] at h);try (exfalso;omega))|apply v_callJ (hs:=qh);(case ha|hd=>rfl)|fail)
  refine v_ret μ1 (outsA1 rfl rfl) ?_ ⟨hle2,by rw [hee],by rw [hee,if_neg he];exact hpa.le hle2⟩
  exact List.Sublist.cons _ (List.sublist_append_left _ _)
theorem pwas_s {pb:Nat}{past:List (Int×Hd)}{f:Int}{H:Hd}{L:List Value}{G:GH}{μ:OH}(h:PaM pb past G μ) (hlen:past.length≤1000) (hm:(f,H)∈past) (hL:HdV G H L) :
 Con Tryz.prog 45 #[.pointer (some ⟨pb,0,none⟩),.agg L.toArray,.int .i64 f] G μ (fun r G' μ'=>G'=G∧r=.bool true∧μ'=μ):=by
 obtain ⟨Lb,capL,cellsL,Fb,capF,cellsF,a1,a2,b1,b2,hat,rfl⟩:=paAt h (by intro e;rw [e] at hm;cases hm)
 simp only [maxLen] at a2 b2
 have hL0:=hL
 obtain ⟨iv,av,cv,rfl,hi,ha,hcv⟩:=hL
 obtain ⟨A0,c0,rfl,-⟩:=id hi.openInt
 obtain ⟨A1,c1,rfl,-⟩:=id ha.open
 obtain ⟨A2,c2,rfl,-⟩:=id hcv.open
 clear h
 (refine v_enter Tryz.func45 rfl Tryz.ntmps45 rfl ?_;intro B _)
 repeat' (first|apply v_box (zs:=hdL H.pr H.pn H.base (.slice A0 H.image.length c0) (.slice A1 H.acc.length c1) (.slice A2 H.cho.length c2));(case hx|hz|hd=>rfl);intro b|apply v_seq|apply v_region|apply v_nil|apply v_block|apply v_pure;(case hop=>(apply p_assign<;>rfl));(case hd=>rfl)|fail)
 revert b
 intro hb
 refine v_loop [7,4,2,0] (fun us G' μ'=>G'=G∧∃ k:Nat,k≤past.length∧(∀ i (hi:i<past.length),i<k→past[i]≠(f,H))∧us=[Value.int .i64 (k:Nat),.pointer (some ⟨hb,0,none⟩),.int .i64 f,.pointer (some ⟨pb,0,none⟩)]∧μ'=(hb,.cells (hdL H.pr H.pn H.base (.slice A0 H.image.length c0) (.slice A1 H.acc.length c1) (.slice A2 H.cho.length c2)).toArray 27 (0,0))::[(pb,.cells [Value.slice (some ⟨Lb,0,none⟩) past.length capL,.slice (some ⟨Fb,0,none⟩) past.length capF].toArray 88 (0,0)),(Lb,.cells cellsL.toArray 27 (0,0)),(Fb,.cells cellsF.toArray 3 (0,0))]) (fun us=>past.length-(headI us).toNat) rfl ⟨rfl,0,by omega,fun i _ h=>by omega,rfl,rfl⟩ ?_
 rintro us G' _ ⟨rfl,k,hk,hno,rfl,rfl⟩
 by_cases hlt:k<past.length
 ·obtain ⟨⟨L',hcd,hL'⟩,hcf⟩:=hat k hlt
  generalize hp:past[k]=p at *
  obtain ⟨f',H'⟩:=p
  simp only at hL' hcf
  have hL1:=hL'
  obtain ⟨iv',av',cv',rfl,hi',ha',hcv'⟩:=hL'
  obtain ⟨B0,d0,rfl,-⟩:=id hi'.openInt
  obtain ⟨B1,d1,rfl,-⟩:=id ha'.open
  obtain ⟨B2,d2,rfl,-⟩:=id hcv'.open
  have e1:((k:Nat):Int).toNat=k:=by omega
  have qs:=hSameB_s hL1 hL0
  by_cases hf:f'=f
  ·by_cases hH:H'=H
   ·rw [decide_eq_true hH] at qs
    repeat' (first|apply v_seq|apply v_region|apply v_nil|apply v_skip|apply v_block|apply v_take;(case hg=>rfl)|apply v_pure;(case hop=>first|apply p_move<;>rfl|apply p_lt<;>rfl|apply p_pickT<;>rfl|apply p_lenSlice<;>rfl|apply p_fieldAddrB<;>rfl|apply p_nilCheck<;>rfl|fail);(case hd=>rfl)|apply v_cond;(case hc=>rfl);all_goals (intro h;(try simp only [reduceCtorEq,zzz] at h);try (exfalso;omega))|apply v_guardB;(case h1|h2=>rfl);all_goals (intro h;(try simp only [reduceCtorEq,zzz] at h);try (exfalso;omega))|apply v_read;(case hop=>(apply r_load1;rfl;(apply Cell.own;(case h=>repeat first|exact mhd _|apply mtl);rfl)));(case hd=>rfl)|fail)
    refine d_start [(hb,.cells (hdL H.pr H.pn H.base (.slice A0 H.image.length c0) (.slice A1 H.acc.length c1) (.slice A2 H.cho.length c2)).toArray 27 (0,0)),(pb,.cells [Value.slice (some ⟨Lb,0,none⟩) past.length capL,.slice (some ⟨Fb,0,none⟩) past.length capF].toArray 88 (0,0)),(Lb,.cells cellsL.toArray 27 (0,0)),(Fb,.cells cellsF.toArray 3 (0,0))] (by kernel_rfl) (by kernel_rfl) (by kernel_rfl) (by (intro e he;exact he)) ?_
    all_goals (apply dtm 0;(case hi|hx=>rfl);(case hq=>kernel_rfl);apply dtn 1;(case hi|hx=>rfl);(case hq=>kernel_rfl))
    all_goals (apply dtk 2;(case hi=>rfl);(case hop=>(apply prd;apply p_fieldAddrB<;>rfl));(case hq=>kernel_rfl);apply dtk 3;(case hi=>rfl);(case hop=>(apply r_load1;rfl;(apply Cell.own;(case h=>repeat first|exact mhd _|apply mtl);rfl)));(case hq=>kernel_rfl))
    all_goals (apply dtm 4;(case hi|hx=>rfl);(case hq=>kernel_rfl);apply dtk 5;(case hi=>rfl);(case hop=>((apply prd;apply p_idxOwnJ k;(case hx|hi=>rfl);(case hj|h=>omega))));(case hq=>kernel_rfl))
    all_goals (apply dtk 6;(case hi=>rfl);(case hop=>((apply r_load1;rfl;exact Cell.own (by repeat (first|exact mhd _|apply mtl)) hcf)));(case hq=>kernel_rfl))
    all_goals (apply dtm 7;(case hi|hx=>rfl);(case hq=>kernel_rfl);apply dtk 8;(case hi=>rfl);(case hop=>(apply prd;apply p_eq<;>rfl));(case hq=>kernel_rfl))
    all_goals (apply dtm 9;(case hi|hx=>rfl);(case hq=>kernel_rfl))
    all_goals (try (apply d_guardB 10;(case hi|hgd|h1|h2=>rfl);all_goals (intro h;(try simp only [reduceCtorEq,zzz] at h);try (exfalso;omega))))
    all_goals (apply dtg 10;(case hi|hg=>rfl);(case hop=>(apply prd;apply p_move<;>rfl));(case hq=>kernel_rfl))
    all_goals (try (apply d_guardB 11;(case hi|hgd|h1|h2=>rfl);all_goals (intro h;(try simp only [reduceCtorEq,zzz] at h))))
    all_goals (apply dtg 11;(case hi|hg=>rfl);(case hop=>(apply prd;apply p_nilCheck<;>rfl));(case hq=>kernel_rfl))
    all_goals (try (apply d_guardB 12;(case hi|hgd|h1|h2=>rfl);all_goals (intro h;(try simp only [reduceCtorEq,zzz] at h))))
    all_goals (apply dtg 12;(case hi|hg=>rfl);(case hop=>(apply prd;apply p_fieldAddrB<;>rfl));(case hq=>kernel_rfl))
    all_goals (try (apply d_guardB 13;(case hi|hgd|h1|h2=>rfl);all_goals (intro h;(try simp only [reduceCtorEq,zzz] at h))))
    all_goals (apply dtg 13;(case hi|hg=>rfl);(case hop=>(apply r_load1;rfl;(apply Cell.own;(case h=>repeat first|exact mhd _|apply mtl);rfl)));(case hq=>kernel_rfl))
    all_goals (try (apply d_guardB 14;(case hi|hgd|h1|h2=>rfl);all_goals (intro h;(try simp only [reduceCtorEq,zzz] at h))))
    all_goals (apply dtg 14;(case hi|hg=>rfl);(case hop=>(apply prd;apply p_move<;>rfl));(case hq=>kernel_rfl))
    all_goals (try (apply d_guardB 15;(case hi|hgd|h1|h2=>rfl);all_goals (intro h;(try simp only [reduceCtorEq,zzz] at h))))
    all_goals (apply dtg 15;(case hi|hg=>rfl);(case hop=>((apply prd;apply p_idxOwnJ k;(case hx|hi=>rfl);(case hj|h=>omega))));(case hq=>kernel_rfl))
    all_goals (try (apply d_guardB 16;(case hi|hgd|h1|h2=>rfl);all_goals (intro h;(try simp only [reduceCtorEq,zzz] at h))))
    all_goals (apply dtg 16;(case hi|hg=>rfl);(case hop=>((apply r_loadNo;(case hx=>rfl);(case h=>repeat first|exact mhd _|apply mtl);(case hd=>exact hcd);(case hn=>rfl))));(case hq=>kernel_rfl))
    all_goals (try (apply d_guardB 17;(case hi|hgd|h1|h2=>rfl);all_goals (intro h;(try simp only [reduceCtorEq,zzz] at h))))
    all_goals (apply dtg 17;(case hi|hg=>rfl);(case hop=>(apply r_loadNo;(case hx=>rfl);(case h=>repeat exact mhd _);(case hd=>repeat first|with_reducible exact dt_nil|apply dt_here);(case hn=>rfl)));(case hq=>kernel_rfl))
    all_goals (try (apply d_guardB 18;(case hi|hgd|h1|h2=>rfl);all_goals (intro h;(try simp only [reduceCtorEq,zzz] at h))))
    all_goals (apply d_callJG 18 (hs:=qs);(case hi|hg=>rfl);(case hr=>kernel_rfl);(case ha|hd=>rfl))
    all_goals (apply dtk 19;(case hi=>rfl);(case hop=>(apply prd;apply p_pickT<;>rfl));(case hq=>kernel_rfl))
    all_goals (apply d_done;(case hr=>kernel_rfl))
    repeat' (first|apply v_seq|apply v_region|apply v_nil|apply v_pure;(case hop=>(apply p_assign<;>rfl));(case hd=>rfl)|apply v_condT;(case hc=>rfl)|fail)
    refine v_ret [(pb,.cells [Value.slice (some ⟨Lb,0,none⟩) past.length capL,.slice (some ⟨Fb,0,none⟩) past.length capF].toArray 88 (0,0)),(Lb,.cells cellsL.toArray 27 (0,0)),(Fb,.cells cellsF.toArray 3 (0,0))] (outsA1 rfl rfl) (List.sublist_cons_self _ _) ⟨rfl,rfl,rfl⟩
   ·rw [decide_eq_false hH] at qs
    repeat' (first|apply v_seq|apply v_region|apply v_nil|apply v_skip|apply v_block|apply v_take;(case hg=>rfl)|apply v_pure;(case hop=>first|apply p_move<;>rfl|apply p_lt<;>rfl|apply p_pickT<;>rfl|apply p_lenSlice<;>rfl|apply p_fieldAddrB<;>rfl|apply p_nilCheck<;>rfl|fail);(case hd=>rfl)|apply v_cond;(case hc=>rfl);all_goals (intro h;(try simp only [reduceCtorEq,zzz] at h);try (exfalso;omega))|apply v_guardB;(case h1|h2=>rfl);all_goals (intro h;(try simp only [reduceCtorEq,zzz] at h);try (exfalso;omega))|apply v_read;(case hop=>(apply r_load1;rfl;(apply Cell.own;(case h=>repeat first|exact mhd _|apply mtl);rfl)));(case hd=>rfl)|fail)
    refine d_start [(hb,.cells (hdL H.pr H.pn H.base (.slice A0 H.image.length c0) (.slice A1 H.acc.length c1) (.slice A2 H.cho.length c2)).toArray 27 (0,0)),(pb,.cells [Value.slice (some ⟨Lb,0,none⟩) past.length capL,.slice (some ⟨Fb,0,none⟩) past.length capF].toArray 88 (0,0)),(Lb,.cells cellsL.toArray 27 (0,0)),(Fb,.cells cellsF.toArray 3 (0,0))] (by kernel_rfl) (by kernel_rfl) (by kernel_rfl) (by (intro e he;exact he)) ?_
    all_goals (apply dtm 0;(case hi|hx=>rfl);(case hq=>kernel_rfl);apply dtn 1;(case hi|hx=>rfl);(case hq=>kernel_rfl))
    all_goals (apply dtk 2;(case hi=>rfl);(case hop=>(apply prd;apply p_fieldAddrB<;>rfl));(case hq=>kernel_rfl);apply dtk 3;(case hi=>rfl);(case hop=>(apply r_load1;rfl;(apply Cell.own;(case h=>repeat first|exact mhd _|apply mtl);rfl)));(case hq=>kernel_rfl))
    all_goals (apply dtm 4;(case hi|hx=>rfl);(case hq=>kernel_rfl);apply dtk 5;(case hi=>rfl);(case hop=>((apply prd;apply p_idxOwnJ k;(case hx|hi=>rfl);(case hj|h=>omega))));(case hq=>kernel_rfl))
    all_goals (apply dtk 6;(case hi=>rfl);(case hop=>((apply r_load1;rfl;exact Cell.own (by repeat (first|exact mhd _|apply mtl)) hcf)));(case hq=>kernel_rfl))
    all_goals (apply dtm 7;(case hi|hx=>rfl);(case hq=>kernel_rfl);apply dtk 8;(case hi=>rfl);(case hop=>(apply prd;apply p_eq<;>rfl));(case hq=>kernel_rfl))
    all_goals (apply dtm 9;(case hi|hx=>rfl);(case hq=>kernel_rfl))
    all_goals (try (apply d_guardB 10;(case hi|hgd|h1|h2=>rfl);all_goals (intro h;(try simp only [reduceCtorEq,zzz] at h);try (exfalso;omega))))
    all_goals (apply dtg 10;(case hi|hg=>rfl);(case hop=>(apply prd;apply p_move<;>rfl));(case hq=>kernel_rfl))
    all_goals (try (apply d_guardB 11;(case hi|hgd|h1|h2=>rfl);all_goals (intro h;(try simp only [reduceCtorEq,zzz] at h))))
    all_goals (apply dtg 11;(case hi|hg=>rfl);(case hop=>(apply prd;apply p_nilCheck<;>rfl));(case hq=>kernel_rfl))
    all_goals (try (apply d_guardB 12;(case hi|hgd|h1|h2=>rfl);all_goals (intro h;(try simp only [reduceCtorEq,zzz] at h))))
    all_goals (apply dtg 12;(case hi|hg=>rfl);(case hop=>(apply prd;apply p_fieldAddrB<;>rfl));(case hq=>kernel_rfl))
    all_goals (try (apply d_guardB 13;(case hi|hgd|h1|h2=>rfl);all_goals (intro h;(try simp only [reduceCtorEq,zzz] at h))))
    all_goals (apply dtg 13;(case hi|hg=>rfl);(case hop=>(apply r_load1;rfl;(apply Cell.own;(case h=>repeat first|exact mhd _|apply mtl);rfl)));(case hq=>kernel_rfl))
    all_goals (try (apply d_guardB 14;(case hi|hgd|h1|h2=>rfl);all_goals (intro h;(try simp only [reduceCtorEq,zzz] at h))))
    all_goals (apply dtg 14;(case hi|hg=>rfl);(case hop=>(apply prd;apply p_move<;>rfl));(case hq=>kernel_rfl))
    all_goals (try (apply d_guardB 15;(case hi|hgd|h1|h2=>rfl);all_goals (intro h;(try simp only [reduceCtorEq,zzz] at h))))
    all_goals (apply dtg 15;(case hi|hg=>rfl);(case hop=>((apply prd;apply p_idxOwnJ k;(case hx|hi=>rfl);(case hj|h=>omega))));(case hq=>kernel_rfl))
    all_goals (try (apply d_guardB 16;(case hi|hgd|h1|h2=>rfl);all_goals (intro h;(try simp only [reduceCtorEq,zzz] at h))))
    all_goals (apply dtg 16;(case hi|hg=>rfl);(case hop=>((apply r_loadNo;(case hx=>rfl);(case h=>repeat first|exact mhd _|apply mtl);(case hd=>exact hcd);(case hn=>rfl))));(case hq=>kernel_rfl))
    all_goals (try (apply d_guardB 17;(case hi|hgd|h1|h2=>rfl);all_goals (intro h;(try simp only [reduceCtorEq,zzz] at h))))
    all_goals (apply dtg 17;(case hi|hg=>rfl);(case hop=>(apply r_loadNo;(case hx=>rfl);(case h=>repeat exact mhd _);(case hd=>repeat first|with_reducible exact dt_nil|apply dt_here);(case hn=>rfl)));(case hq=>kernel_rfl))
    all_goals (try (apply d_guardB 18;(case hi|hgd|h1|h2=>rfl);all_goals (intro h;(try simp only [reduceCtorEq,zzz] at h))))
    all_goals (apply d_callJG 18 (hs:=qs);(case hi|hg=>rfl);(case hr=>kernel_rfl);(case ha|hd=>rfl))
    all_goals (apply dtk 19;(case hi=>rfl);(case hop=>(apply prd;apply p_pickT<;>rfl));(case hq=>kernel_rfl))
    all_goals (apply d_done;(case hr=>kernel_rfl))
    repeat' (first|apply v_region|apply v_nil|apply v_skip|apply v_blk|apply v_pure;(case hop=>first|apply p_move<;>rfl|apply p_assign<;>rfl|apply p_add;(case hx|hy=>rfl);(case h=>omega)|fail);(case hd=>rfl)|apply v_condF;(case hc=>rfl)|fail)
    refine v_again rfl ⟨rfl,k+1,by omega,fun i hi hik=>?_,rfl,rfl⟩ (by simp [headI];omega)
    by_cases e:i=k
    ·subst e
     rw [hp]
     intro hh
     cases hh
     exact hH rfl
    ·exact hno i hi (by omega)
  ·repeat' (first|apply v_seq|apply v_region|apply v_nil|apply v_skip|apply v_block|apply v_take;(case hg=>rfl)|apply v_pure;(case hop=>first|apply p_move<;>rfl|apply p_lt<;>rfl|apply p_pickT<;>rfl|apply p_lenSlice<;>rfl|apply p_fieldAddrB<;>rfl|apply p_nilCheck<;>rfl|fail);(case hd=>rfl)|apply v_cond;(case hc=>rfl);all_goals (intro h;(try simp only [reduceCtorEq,zzz] at h);try (exfalso;omega))|apply v_guardB;(case h1|h2=>rfl);all_goals (intro h;(try simp only [reduceCtorEq,zzz] at h);try (exfalso;omega))|apply v_read;(case hop=>(apply r_load1;rfl;(apply Cell.own;(case h=>repeat first|exact mhd _|apply mtl);rfl)));(case hd=>rfl)|fail)
   refine d_start [(hb,.cells (hdL H.pr H.pn H.base (.slice A0 H.image.length c0) (.slice A1 H.acc.length c1) (.slice A2 H.cho.length c2)).toArray 27 (0,0)),(pb,.cells [Value.slice (some ⟨Lb,0,none⟩) past.length capL,.slice (some ⟨Fb,0,none⟩) past.length capF].toArray 88 (0,0)),(Lb,.cells cellsL.toArray 27 (0,0)),(Fb,.cells cellsF.toArray 3 (0,0))] (by kernel_rfl) (by kernel_rfl) (by kernel_rfl) (by (intro e he;exact he)) ?_
   all_goals (apply dtm 0;(case hi|hx=>rfl);(case hq=>kernel_rfl);apply dtn 1;(case hi|hx=>rfl);(case hq=>kernel_rfl))
   all_goals (apply dtk 2;(case hi=>rfl);(case hop=>(apply prd;apply p_fieldAddrB<;>rfl));(case hq=>kernel_rfl);apply dtk 3;(case hi=>rfl);(case hop=>(apply r_load1;rfl;(apply Cell.own;(case h=>repeat first|exact mhd _|apply mtl);rfl)));(case hq=>kernel_rfl))
   all_goals (apply dtm 4;(case hi|hx=>rfl);(case hq=>kernel_rfl);apply dtk 5;(case hi=>rfl);(case hop=>((apply prd;apply p_idxOwnJ k;(case hx|hi=>rfl);(case hj|h=>omega))));(case hq=>kernel_rfl))
   all_goals (apply dtk 6;(case hi=>rfl);(case hop=>((apply r_load1;rfl;exact Cell.own (by repeat (first|exact mhd _|apply mtl)) hcf)));(case hq=>kernel_rfl))
   all_goals (apply dtm 7;(case hi|hx=>rfl);(case hq=>kernel_rfl);apply dtk 8;(case hi=>rfl);(case hop=>(apply prd;apply p_eq<;>rfl));(case hq=>kernel_rfl))
   all_goals (apply dtm 9;(case hi|hx=>rfl);(case hq=>kernel_rfl))
   all_goals (try (apply d_guardB 10;(case hi|hgd|h1|h2=>rfl);all_goals (intro h;(try simp only [reduceCtorEq,zzz] at h);try (exfalso;omega))))
   all_goals (apply dpa 10;(case hi|hg|hn=>rfl);(case hq=>kernel_rfl))
   all_goals (try (apply d_guardB 11;(case hi|hgd|h1|h2=>rfl);all_goals (intro h;(try simp only [reduceCtorEq,zzz] at h))))
   all_goals (apply dpa 11;(case hi|hg|hn=>rfl);(case hq=>kernel_rfl))
   all_goals (try (apply d_guardB 12;(case hi|hgd|h1|h2=>rfl);all_goals (intro h;(try simp only [reduceCtorEq,zzz] at h))))
   all_goals (apply dpa 12;(case hi|hg|hn=>rfl);(case hq=>kernel_rfl))
   all_goals (try (apply d_guardB 13;(case hi|hgd|h1|h2=>rfl);all_goals (intro h;(try simp only [reduceCtorEq,zzz] at h))))
   all_goals (apply dpa 13;(case hi|hg|hn=>rfl);(case hq=>kernel_rfl))
   all_goals (try (apply d_guardB 14;(case hi|hgd|h1|h2=>rfl);all_goals (intro h;(try simp only [reduceCtorEq,zzz] at h))))
   all_goals (apply dpa 14;(case hi|hg|hn=>rfl);(case hq=>kernel_rfl))
   all_goals (try (apply d_guardB 15;(case hi|hgd|h1|h2=>rfl);all_goals (intro h;(try simp only [reduceCtorEq,zzz] at h))))
   all_goals (apply dpa 15;(case hi|hg|hn=>rfl);(case hq=>kernel_rfl))
   all_goals (try (apply d_guardB 16;(case hi|hgd|h1|h2=>rfl);all_goals (intro h;(try simp only [reduceCtorEq,zzz] at h))))
   all_goals (apply dpa 16;(case hi|hg|hn=>rfl);(case hq=>kernel_rfl))
   all_goals (try (apply d_guardB 17;(case hi|hgd|h1|h2=>rfl);all_goals (intro h;(try simp only [reduceCtorEq,zzz] at h))))
   all_goals (apply dpa 17;(case hi|hg|hn=>rfl);(case hq=>kernel_rfl))
   all_goals (try (apply d_guardB 18;(case hi|hgd|h1|h2=>rfl);all_goals (intro h;(try simp only [reduceCtorEq,zzz] at h))))
   all_goals (apply dpa 18;(case hi|hg|hn=>rfl);(case hq=>kernel_rfl))
   all_goals (apply dtk 19;(case hi=>rfl);(case hop=>(apply prd;apply p_pickF<;>rfl));(case hq=>kernel_rfl))
   all_goals (apply d_done;(case hr=>kernel_rfl))
   repeat' (first|apply v_region|apply v_nil|apply v_skip|apply v_blk|apply v_pure;(case hop=>first|apply p_move<;>rfl|apply p_assign<;>rfl|apply p_add;(case hx|hy=>rfl);(case h=>omega)|fail);(case hd=>rfl)|apply v_condF;(case hc=>rfl)|fail)
   refine v_again rfl ⟨rfl,k+1,by omega,fun i hi hik=>?_,rfl,rfl⟩ (by simp [headI];omega)
   by_cases e:i=k
   ·subst e
    rw [hp]
    intro hh
    cases hh
    exact hf rfl
   ·exact hno i hi (by omega)
 ·exfalso
  obtain ⟨i,hi,he⟩:=List.getElem_of_mem hm
  exact hno i hi (by omega) he
theorem CellsG.drop3 {G:GH}{a:Addr}{x y z:Value}{vs:List Value}(h:CellsG G a (x::y::z::vs)):CellsG G (a.add 3) vs:=fun j v hv=>by
 have h1:=h (j+3) v hv
 have e:a.add (j+3)=(a.add 3).add j:=by simp [Addr.add,Nat.add_comm,Nat.add_left_comm,Nat.add_assoc]
 rw [e] at h1
 exact h1
def LgS (l:List Stp) (G:GH) (r:Value) (G':GH) (μ':OH):Prop:=GH.le G G'∧μ'=[]∧∃ b,r=.bool b∧(b=false→l.length≤40∧∀ s∈l,¬ s.x.large∧s.x.image.length≤300)
theorem sLarge_s {G:GH}{l:List Stp}{lv:Value}(hs:Stps G lv l):Con Tryz.prog 38 #[lv] G [] (LgS l G):=by
 obtain ⟨A,c,iv,rfl,hlc,hcm,hsome,hcp,hok⟩:=stpOpen hs
 simp only [maxLen] at hcm
 (refine v_enter Tryz.func38 rfl Tryz.ntmps38 rfl ?_;intro B _)
 repeat' (first|apply v_seq|apply v_region|apply v_nil|apply v_block|apply v_pure;(case hop=>(apply p_assign<;>rfl));(case hd=>rfl)|fail)
 refine v_loop [3,0] (fun us G' μ'=>GH.le G G'∧μ'=[]∧∃ k:Nat,k≤l.length∧k≤40∧(∀ i (hi:i<l.length),i<k→¬ l[i].x.large∧l[i].x.image.length≤300)∧us=[Value.int .i64 (k:Nat),.slice A l.length c]) (fun us=>l.length-(headI us).toNat) rfl ⟨GH.le_refl _,rfl,0,by omega,by omega,fun i _ h=>by omega,rfl⟩ ?_
 rintro us G' μ' ⟨hle,rfl,k,hk,hk40,hpre,rfl⟩
 by_cases hlt:k<l.length∧k<40
 ·obtain ⟨hl1,hl2⟩:=hlt
  have e1:((k:Nat):Int).toNat=k:=by omega
  have hA:=hsome (by omega)
  have hck:=(hcp k hl1).le hle
  obtain ⟨hcok,hsm,hix⟩:=hok k hl1
  have hix:=hix.mono hle
  generalize hsx:l[k]=s at *
  obtain ⟨A3,c3,hive,-⟩:=id hix.openInt
  rw [hive] at hck hix
  have hck3:=CellsG.drop3 hck
  repeat' (first|apply v_seq|apply v_region|apply v_nil|apply v_skip|apply v_block|apply v_take;(case hg=>rfl)|apply v_pure;(case hop=>first|apply p_move<;>rfl|apply p_lt<;>rfl|apply p_pickT<;>rfl|apply p_lenSlice<;>rfl|apply p_fieldAddr<;>rfl|apply p_indexAddrS;(case hx|hi=>rfl);(case h0|h=>omega);(case hA=>assumption)|fail);(case hd=>rfl)|apply v_cond;(case hc=>rfl);all_goals (intro h;(try simp only [reduceCtorEq,zzz] at h);try (exfalso;omega))|apply v_guardB;(case h1|h2=>rfl);all_goals (intro h;(try simp only [reduceCtorEq,zzz] at h);try (exfalso;omega))|apply v_read;(case hop=>(apply r_loadN;rfl;exact CellsAt.frozen hck3;rfl));(case hd=>rfl)|apply v_buildSlice;(case hz|hi=>rfl);(case hv=>(simp only [List.map_cons,List.map_nil];repeat (first|with_reducible exact evs_nil|apply evs_cons;(case h1=>rfl))));(case hp=>(apply pk_cons;(case hc|hs=>rfl);(case h=>(with_reducible exact pk_nil));(case he=>((repeat (first|with_reducible exact ap_nil|apply ap_cons));done))));(case hb|hd=>rfl);intro b|fail)
  revert b
  intro sb
  refine v_frzP [(sb,.cells (recL s.x.kind s.x.round s.x.node s.x.index s.x.cmd (.slice A3 s.x.image.length c3)).toArray 42 (0,0))] (List.Perm.refl _) ?_
  intro G2 hle2 hG2
  have hrs:Rs G2 (.slice (some ⟨sb,0,none⟩) 1 1) [s.x]:=one_rs (hG2 _ _ (List.Mem.head _)) ⟨_,rfl,hcok,hsm,hix.mono hle2⟩
  refine v_call (μ1:=[]) rfl (rLarge_s hrs) (List.Perm.refl _) rfl ?_
  rintro _ G3 _ - ⟨hG3,rfl,b,rfl,hbb⟩
  subst hG3
  cases b
  ·repeat' (first|apply v_region|apply v_nil|apply v_skip|apply v_blk|apply v_pure;(case hop=>first|apply p_move<;>rfl|apply p_assign<;>rfl|apply p_add;(case hx|hy=>rfl);(case h=>omega)|fail);(case hd=>rfl)|apply v_condF;(case hc=>rfl)|fail)
   refine v_again rfl ⟨GH.le_trans hle hle2,rfl,k+1,by omega,by omega,fun i hi hik=>?_,rfl⟩ (by simp [headI];omega)
   by_cases e:i=k
   ·subst e
    rw [hsx]
    exact (hbb rfl).2 _ List.mem_cons_self
   ·exact hpre i hi (by omega)
  ·repeat' (first|apply v_seq|apply v_region|apply v_nil|apply v_pure;(case hop=>(apply p_assign<;>rfl));(case hd=>rfl)|apply v_condT;(case hc=>rfl)|fail)
   refine v_ret [] (outsA1 rfl rfl) (List.nil_sublist _) ⟨GH.le_trans hle hle2,rfl,true,rfl,fun h=>by cases h⟩
 ·repeat' (first|apply v_seq|apply v_region|apply v_nil|apply v_exit;(case hp=>rfl)|apply v_take;(case hg=>rfl)|apply v_pass;(case hg|hn|hd=>rfl)|apply v_pure;(case hop=>first|apply p_move<;>rfl|apply p_lt<;>rfl|apply p_gt<;>rfl|apply p_assign<;>rfl|apply p_pickT<;>rfl|apply p_pickF<;>rfl|apply p_lenSlice<;>rfl|fail);(case hd=>rfl)|apply v_condF;(case hc=>rfl)|apply v_cond;(case hc=>rfl);all_goals (intro h;(try simp only [reduceCtorEq,zzz] at h);try (exfalso;omega))|apply v_guardB;(case h1|h2=>rfl);all_goals (intro h;(try simp only [reduceCtorEq,zzz] at h))|fail)
  all_goals
   (refine v_ret [] (outsA1 rfl rfl) (List.nil_sublist _) ⟨hle,rfl,_,rfl,fun hb=>?_⟩
    rw [dec_false] at hb
    refine ⟨by omega,fun s hs=>?_⟩
    obtain ⟨i,hi,rfl⟩:=List.getElem_of_mem hs
    exact hpre i hi (by omega))
theorem wformat_s (G:GH) {lb d:Nat}{no f:Int}{L:List Value}:Con Tryz.prog 35 #[.pointer (some ⟨lb,0,none⟩)] G [(lb,lgO d no f L)] (Keeps (.int .i64 f) G [(lb,lgO d no f L)]):=by
 unfold lgO
 (refine v_enter Tryz.func35 rfl Tryz.ntmps35 rfl ?_;intro B _)
 repeat' (first|apply v_seq|apply v_region|apply v_nil|apply v_skip|apply v_pure;(case hop=>first|apply p_move<;>rfl|apply p_assign<;>rfl|apply p_fieldAddrB<;>rfl|apply p_nilCheck<;>rfl|apply p_eqNil<;>rfl|fail);(case hd=>rfl)|apply v_condF;(case hc=>rfl)|apply v_read;(case hop=>(apply r_load1;rfl;(apply Cell.own;(case h=>repeat exact mhd _);rfl)));(case hd=>rfl)|fail)
 refine v_ret [(lb,_)] (outsA1 rfl rfl) (List.Sublist.refl _) ?_
 exact ⟨rfl,rfl,rfl⟩
theorem whard_s {G:GH}{lb d n:Nat}{no f:Int}{H:Hd}{L:List Value}(hh:HdV G H L) (g:Good n H) (hn:n≤200):Con Tryz.prog 34 #[.pointer (some ⟨lb,0,none⟩)] G [(lb,lgO d no f L)] (fun r G' μ'=>GH.le G G'∧μ'=[(lb,lgO d no f L)]∧∃ L',r=.agg L'.toArray∧HdV G' H L'):=by
 have qc:=hClone_s hh (by have:=g.img;omega) (by have:=g.nacc;omega) (by have:=g.ncho;omega) (fun e he=>(g.acc e he).2.1) (fun e he=>(g.cho e he).2.1)
 obtain ⟨iv,av,cv,rfl,hi,ha,hcv⟩:=hh
 obtain ⟨A0,c0,rfl,-⟩:=id hi.openInt
 obtain ⟨A1,c1,rfl,-⟩:=id ha.open
 obtain ⟨A2,c2,rfl,-⟩:=id hcv.open
 unfold lgO
 (refine v_enter Tryz.func34 rfl Tryz.ntmps34 rfl ?_;intro B _)
 repeat' (first|apply v_seq|apply v_region|apply v_nil|apply v_skip|apply v_pure;(case hop=>first|apply p_move<;>rfl|apply p_fieldAddrB<;>rfl|apply p_nilCheck<;>rfl|apply p_eqNil<;>rfl|fail);(case hd=>rfl)|apply v_condF;(case hc=>rfl)|apply v_read;(case hop=>(apply r_loadNo;(case hx=>rfl);(case h=>repeat first|exact mhd _|apply mtl);(case hd=>repeat first|with_reducible exact dt_nil|apply dt_here);(case hn=>rfl)));(case hd=>rfl)|apply v_alloc;(case hz|hd=>rfl);intro b|fail)
 refine v_call (μ1:=[]) rfl qc (List.Perm.refl _) rfl ?_
 rintro _ G1 _ hle1 ⟨rfl,L',rfl,hL'⟩
 have hL1:=hL'
 obtain ⟨iv',av',cv',rfl,hi',ha',hcv'⟩:=hL'
 obtain ⟨B3,d3,rfl,-⟩:=id hi'.openInt
 obtain ⟨B4,d4,rfl,-⟩:=id ha'.open
 obtain ⟨B5,d5,rfl,-⟩:=id hcv'.open
 repeat' (first|apply v_nil|apply v_store;(case hp|hx|hc|hsz|h1=>rfl);(case hb=>repeat exact mhd _);(case hfit=>exact nle rfl);(case hov=>((repeat (first|with_reducible exact ov_nil|apply ov_cons));done));(case hu=>repeat (exact Upd.here _ _))|fail)
 refine v_retM [(lb,_)] (outsM_cell (vs:=hdL H.pr H.pn H.base (.slice B3 H.image.length d3) (.slice B4 H.acc.length d4) (.slice B5 H.cho.length d5)) (e:=27) rfl rfl (by repeat (exact mhd _)) rfl) (List.Sublist.cons _ (List.Sublist.refl _)) ?_
 exact ⟨hle1,rfl,_,rfl,hL1⟩
theorem wdirty_s {c lb d m:Nat}{G:GH}{g:Fs}{l:List Dop}{ov:Value}{ml:List (Int×Value)}{oM:Obj}{ν:OH}(h:DkM c G g l ov ml oM ν) (hc:c≤46) {no f:Int}{L:List Value} :
 Con Tryz.prog 36 #[.pointer (some ⟨lb,0,none⟩)] G ((lb,lgO d no f L)::dkB d m ov oM ν) (fun r G' μ'=>GH.le G G'∧r=.bool (decide (0<l.length))∧μ'=(lb,lgO d no f L)::dkB d m ov oM ν):=by
 have qb:=wbuf_s (d:=d) (m:=m) h hc
 have hd:=dkB_eq (d:=d) (m:=m) (ov:=ov) (oM:=oM) (ν:=ν)
 have hln:=h.len
 unfold lgO
 rw [hd]
 (refine v_enter Tryz.func36 rfl Tryz.ntmps36 rfl ?_;intro B _)
 repeat' (first|apply v_seq|apply v_region|apply v_nil|apply v_take;(case hg=>rfl)|apply v_pure;(case hop=>first|apply p_move<;>rfl|apply p_assign<;>rfl|apply p_fieldAddrB<;>rfl|apply p_nilCheck<;>rfl|apply p_neNil<;>rfl|fail);(case hd=>rfl)|apply v_read;(case hop=>(apply r_load1;rfl;(apply Cell.own;(case h=>repeat exact mhd _);rfl)));(case hd=>rfl)|fail)
 refine v_call (μ1:=(d,dkO m ov)::ν) (μ2:=[(lb,.cells (Value.pointer (some ⟨d,0,none⟩)::Value.int .i64 no::Value.int .i64 f::L).toArray 118 (0,0)),(m,oM)]) rfl qb (by apply perm_of_count;intro p;simp only [List.append_eq,List.countP_append,List.countP_cons,List.countP_nil,Nat.zero_add,Nat.add_zero];try ac_rfl) rfl ?_
 rintro v G1 _ - ⟨hle1,hs,rfl⟩
 obtain ⟨A,cA,dA,dc,rfl,-⟩:=opOpen hs
 repeat' (first|apply v_nil|apply v_take;(case hg=>rfl)|apply v_pure;(case hop=>first|apply p_gt<;>rfl|apply p_assign<;>rfl|apply p_pickT<;>rfl|apply p_lenSlice<;>rfl|fail);(case hd=>rfl)|fail)
 all_goals
  (refine v_perm (ν:=(lb,.cells (Value.pointer (some ⟨d,0,none⟩)::Value.int .i64 no::Value.int .i64 f::L).toArray 118 (0,0))::(d,dkO m ov)::(m,oM)::ν) (by apply perm_of_count;intro p;simp only [List.append_eq,List.countP_append,List.countP_cons,List.countP_nil,Nat.zero_add,Nat.add_zero];try ac_rfl) ?_
   refine v_ret ((lb,.cells (Value.pointer (some ⟨d,0,none⟩)::Value.int .i64 no::Value.int .i64 f::L).toArray 118 (0,0))::(d,dkO m ov)::(m,oM)::ν) (outsA1 rfl rfl) (List.Sublist.refl _) ⟨hle1,?_,rfl⟩)
 all_goals (congr 1;rw [dec_eq];exact decide_eq_decide.2 (by omega))
theorem wsync_s {lb d m c a:Nat}{G:GH}{past:List (Int×Hd)}{f:Int}{H:Hd}{g:Fs}{l:List Dop}{μ:OH}(h:LogX lb d m c a past f H g l G μ) (hc:c≤45) (ha:a≤45):Con Tryz.prog 29 #[.pointer (some ⟨lb,0,none⟩)] G μ (fun _ G' μ'=>GH.le G G'∧LogX lb d m c a [(f,H)] f H (gall g l) [] G' μ'):=by
 obtain ⟨no,n,xs,L,ov,ml,oM,ν,hW,rfl,hL,h1,h2,h3,rfl⟩:=h
 have hd:=hW.dk h1 h2 h3
 have hln:=hd.len
 have q:=sync_s (d:=d) (m:=m) h1 h2 (fun q hq k b hb=>by have:=(hd.sok q hq).bd k b hb;omega) h3 (by omega) (fun x hx=>by have:=(hd.ops x hx).2.1;omega) (hd.no (by omega))
 have hm:=hd.mlen
 unfold lgO
 rw [dkB_eq]
 (refine v_enter Tryz.func29 rfl Tryz.ntmps29 rfl ?_;intro B _)
 repeat' (first|apply v_seq|apply v_region|apply v_nil|apply v_pure;(case hop=>first|apply p_move<;>rfl|apply p_fieldAddrB<;>rfl|apply p_nilCheck<;>rfl|apply p_neNil<;>rfl|fail);(case hd=>rfl)|apply v_condT;(case hc=>rfl)|apply v_read;(case hop=>(apply r_load1;rfl;(apply Cell.own;(case h=>repeat exact mhd _);rfl)));(case hd=>rfl)|fail)
 refine v_call (μ1:=(d,dkO m ov)::(m,oM)::ν) (μ2:=[(lb,.cells (Value.pointer (some ⟨d,0,none⟩)::Value.int .i64 no::Value.int .i64 f::L).toArray 118 (0,0))]) rfl q (by apply perm_of_count;intro p;simp only [List.append_eq,List.countP_append,List.countP_cons,List.countP_nil,Nat.zero_add,Nat.add_zero];try ac_rfl) rfl ?_
 rintro v G1 _ - ⟨hle1,ml',oM',hM',hF',-,rfl⟩
 repeat' (first|apply v_nil)
 refine v_perm (ν:=(lb,.cells (Value.pointer (some ⟨d,0,none⟩)::Value.int .i64 no::Value.int .i64 f::L).toArray 118 (0,0))::[(d,dkO m (.slice none 0 0)),(m,oM')]) (by apply perm_of_count;intro p;simp only [List.append_eq,List.countP_append,List.countP_cons,List.countP_nil,Nat.zero_add,Nat.add_zero];try ac_rfl) ?_
 refine v_end ((lb,.cells (Value.pointer (some ⟨d,0,none⟩)::Value.int .i64 no::Value.int .i64 f::L).toArray 118 (0,0))::[(d,dkO m (.slice none 0 0)),(m,oM')]) (outsA0 rfl) (List.Sublist.refl _) ?_
 exact ⟨hle1,no,n,xs,L,.slice none 0 0,ml',oM',[],hW.sync ha,rfl,hL.le hle1,hM',hF',GrL.nil,by rw [dkB_eq];rfl⟩
set_option maxHeartbeats 1000000 in
theorem wrenew_s {lb d m c a:Nat}{G:GH}(hT:TabsG G) (hC:CrcG G) {past:List (Int×Hd)}{f:Int}{H:Hd}{μ:OH}(h:LogM lb d m c a past f H G μ) (hc:c<45) (ha:a≤40) {f':Int}{H':Hd}{L':List Value}(s:St a f' H') (hh:HdV G H' L') :
 Con Tryz.prog 27 #[.pointer (some ⟨lb,0,none⟩),.int .i64 f',.agg L'.toArray] G μ (fun r G' μ'=>GH.le G G'∧r=.int .i64 0∧LogM lb d m (c+1) a (past++[(f',H')]) f' H' G' μ'):=by
 obtain ⟨g,l,no,n,xs,L,ov,ml,oM,ν,hW,rfl,hL,h1,h2,h3,rfl⟩:=h
 obtain ⟨iv,av,cv,rfl,hi,hac,hcv⟩:=id hL
 have q:=wbegin_s (lb:=lb) (d:=d) (m:=m) hT hC (hW.base (by omega)) (by omega) ha h1 h2 h3 s hh no f (hardOf xs) iv av cv
 obtain ⟨iv',av',cv',rfl,hi',ha',hcv'⟩:=id hh
 obtain ⟨A0,c0,rfl,-⟩:=id hi'.openInt
 obtain ⟨A1,c1,rfl,-⟩:=id ha'.open
 obtain ⟨A2,c2,rfl,-⟩:=id hcv'.open
 generalize hE:hdL (hardOf xs).pr (hardOf xs).pn (hardOf xs).base iv av cv=L at *
 have e:lgO d no f L=.cells (Value.pointer (some ⟨d,0,none⟩)::Value.int .i64 no::Value.int .i64 f::L).toArray 118 (0,0):=rfl
 rw [e]
 (refine v_enter Tryz.func27 rfl Tryz.ntmps27 rfl ?_;intro B _)
 repeat' (first|apply v_box (zs:=hdL H'.pr H'.pn H'.base (.slice A0 H'.image.length c0) (.slice A1 H'.acc.length c1) (.slice A2 H'.cho.length c2));(case hx|hz|hd=>rfl);intro b|apply v_seq|apply v_region|apply v_nil|apply v_skip|apply v_pure;(case hop=>first|apply p_move<;>rfl|apply p_assign<;>rfl|apply p_eqNil<;>rfl|fail);(case hd=>rfl)|apply v_condF;(case hc=>rfl)|apply v_read;(case hop=>(apply r_loadNo;(case hx=>rfl);(case h=>repeat exact mhd _);(case hd=>repeat first|with_reducible exact dt_nil|apply dt_here);(case hn=>rfl)));(case hd=>rfl)|fail)
 revert b
 intro hb
 refine v_call (μ1:=(lb,.cells (Value.pointer (some ⟨d,0,none⟩)::Value.int .i64 no::Value.int .i64 f::L).toArray 118 (0,0))::dkB d m ov oM ν) (μ2:=[(hb,.cells (hdL H'.pr H'.pn H'.base (.slice A0 H'.image.length c0) (.slice A1 H'.acc.length c1) (.slice A2 H'.cho.length c2)).toArray 27 (0,0))]) rfl q (by apply perm_of_count;intro p;simp only [List.append_eq,List.countP_append,List.countP_cons,List.countP_nil,Nat.zero_add,Nat.add_zero];try ac_rfl) rfl ?_
 rintro _ G1 _ - ⟨hle1,rfl,no',n',xs',l',L2,ov',ν',-,-,hWI,hx,hL2,hgr,rfl⟩
 repeat' (first|apply v_nil|apply v_pure;(case hop=>(apply p_assign<;>rfl));(case hd=>rfl)|fail)
 refine v_ret ((lb,lgO d no' f' L2)::dkB d m ov' oM ν') (outsA1 rfl rfl) (List.sublist_append_left _ _) ⟨hle1,rfl,g,l',no',n',xs',L2,ov',ml,oM,ν',hWI,hx,hL2,h1,h2.up hle1,hgr,rfl⟩
def WAddR (lb d m c a:Nat) (past:List (Int×Hd)) (f:Int) (H:Hd) (x:Rc) (G:GH) (r:Value) (G':GH) (μ':OH):Prop :=
 GH.le G G'∧r=.int .i64 (errF f x)∧(if errF f x=0 then LogM lb d m (c+1) (a+1) (past++[(f,stepH H x)]) f (stepH H x) G' μ' else LogM lb d m c a past f H G' μ')
set_option maxHeartbeats 2000000 in
theorem wadd_s {lb d m c a:Nat}{G:GH}(hT:TabsG G) (hC:CrcG G) {past:List (Int×Hd)}{f:Int}{H:Hd}{μ:OH}(h:LogM lb d m c a past f H G μ) (hc:c≤45) (hq:a≤45) {x:Rc}{xv:Value}(hx:RcV G x xv) (hok:x.cmd.ok) (hsm:x.small) (hl:¬ x.large) (him:x.image.length≤300) :
 Con Tryz.prog 28 #[.pointer (some ⟨lb,0,none⟩),xv] G μ (WAddR lb d m c a past f H x G):=by
 have hlog:=h
 obtain ⟨g,l,no,n,xs,L,ov,ml,oM,ν,hW,rfl,hL,h1,h2,h3,rfl⟩:=h
 have qs:=sadd_s hT hC f hx hok hl hsm
 have hdk:=hW.dk h1 h2 h3
 have hln:=hdk.len
 obtain ⟨iv,av,cv,rfl,hi,ha,hcv⟩:=id hL
 obtain ⟨A0,c0,rfl,-⟩:=id hi.openInt
 obtain ⟨A1,c1,rfl,-⟩:=id ha.open
 obtain ⟨A2,c2,rfl,-⟩:=id hcv.open
 obtain ⟨xi,rfl,hxi⟩:=id hx
 obtain ⟨A3,c3,rfl,-,-,-,-,hwx⟩:=id hxi.openInt
 have e:lgO d no f (hdL (hardOf xs).pr (hardOf xs).pn (hardOf xs).base (.slice A0 (hardOf xs).image.length c0) (.slice A1 (hardOf xs).acc.length c1) (.slice A2 (hardOf xs).cho.length c2))=.cells (Value.pointer (some ⟨d,0,none⟩)::Value.int .i64 no::Value.int .i64 f::hdL (hardOf xs).pr (hardOf xs).pn (hardOf xs).base (.slice A0 (hardOf xs).image.length c0) (.slice A1 (hardOf xs).acc.length c1) (.slice A2 (hardOf xs).cho.length c2)).toArray 118 (0,0):=rfl
 unfold WAddR
 rw [e]
 by_cases he:errF f x=0
 ·have r:Rx f x:=⟨he,hl,hok,him,hwx⟩
  unfold AddS at qs
  simp only [he,↓reduceIte] at qs ⊢
  (refine v_enter Tryz.func28 rfl Tryz.ntmps28 rfl ?_;intro B _)
  repeat' (first|apply v_box (zs:=recL x.kind x.round x.node x.index x.cmd (.slice A3 x.image.length c3));(case hx|hz|hd=>rfl);intro xb|apply v_seq|apply v_region|apply v_nil|apply v_skip|apply v_pure;(case hop=>first|apply p_move<;>rfl|apply p_assign<;>rfl|apply p_eqNil<;>rfl|fail);(case hd=>rfl)|apply v_condF;(case hc=>rfl)|fail)
  refine d_start [(xb,.cells (recL x.kind x.round x.node x.index x.cmd (.slice A3 x.image.length c3)).toArray 42 (0,0)),(lb,.cells (Value.pointer (some ⟨d,0,none⟩)::Value.int .i64 no::Value.int .i64 f::hdL (hardOf xs).pr (hardOf xs).pn (hardOf xs).base (.slice A0 (hardOf xs).image.length c0) (.slice A1 (hardOf xs).acc.length c1) (.slice A2 (hardOf xs).cho.length c2)).toArray 118 (0,0))] (by kernel_rfl) (by kernel_rfl) (by kernel_rfl) (by intro e he;(simp only [List.mem_cons,List.not_mem_nil,or_false] at he;rcases he with rfl|rfl<;>simp;done)) ?_
  all_goals (apply dtm 0;(case hi|hx=>rfl);(case hq=>kernel_rfl);apply dtn 1;(case hi|hx=>rfl);(case hq=>kernel_rfl))
  all_goals (apply dtk 2;(case hi=>rfl);(case hop=>(apply prd;apply p_fieldAddrB<;>rfl));(case hq=>kernel_rfl);apply dtk 3;(case hi=>rfl);(case hop=>first|apply r_loadNo;(case hx=>rfl);(case h=>repeat fail);(case hd=>repeat fail);(case hn=>rfl)|apply r_load1;rfl;(apply Cell.own;(case h=>repeat first|exact mhd _|apply mtl);rfl)|apply r_loadN;rfl;(apply CellsAt.own;(case h=>repeat fail));rfl);(case hq=>kernel_rfl))
  all_goals (apply dtk 4;(case hi=>rfl);(case hop=>first|apply r_loadNo;(case hx=>rfl);(case h=>repeat exact mhd _);(case hd=>repeat first|with_reducible exact dt_nil|apply dt_here);(case hn=>rfl)|apply r_load1;rfl;(apply Cell.own;(case h=>repeat fail);rfl)|apply r_loadN;rfl;(apply CellsAt.own;(case h=>repeat fail));rfl);(case hq=>kernel_rfl))
  all_goals ((apply d_call 5 (hs:=qs) (μ1:=[]);(case hi=>rfl);(case hr=>kernel_rfl);(case ha=>rfl);(case hp=>exact List.Perm.refl _);(case hd=>rfl);(case hν'=>intro e he;simp at he;rcases he with rfl|rfl<;>simp);rintro _ G1 _ hle1 ⟨rfl,bv,rfl,hB⟩))
  all_goals (apply dtm 6;(case hi|hx=>rfl);(case hq=>kernel_rfl);apply dtk 7;(case hi=>rfl);(case hop=>(apply prd;apply p_extract0<;>rfl));(case hq=>kernel_rfl))
  all_goals (apply dtk 8;(case hi=>rfl);(case hop=>(apply prd;apply p_extract1<;>rfl));(case hq=>kernel_rfl);apply dta 9;(case hi|hx=>rfl);(case hq=>kernel_rfl))
  all_goals (apply dta 10;(case hi|hx=>rfl);(case hq=>kernel_rfl))
  all_goals (apply d_done;(case hr=>kernel_rfl))
  repeat' (first|apply v_seq|apply v_region|apply v_nil|apply v_skip|apply v_pure;(case hop=>first|apply p_move<;>rfl|apply p_nes<;>rfl|fail);(case hd=>rfl)|apply v_condF;(case hc=>rfl)|fail)
  have hB1:=hB
  obtain ⟨AB,cB,rfl,-⟩:=id hB.openInt
  have hsz:=(encF_size he him).2
  have hfb:=frB_max (encF f x)
  have hin:inNo no:=by unfold inNo;have:=hW.no;omega
  have qa:=add_s (d:=d) (m:=m) no (h3.le fun _ _ hx=>hx.le hle1) (by omega) hB1 (by omega)
  rw [if_pos hin] at qa
  rw [dkB_eq]
  refine d_start [(xb,.cells (recL x.kind x.round x.node x.index x.cmd (.slice A3 x.image.length c3)).toArray 42 (0,0)),(lb,.cells (Value.pointer (some ⟨d,0,none⟩)::Value.int .i64 no::Value.int .i64 f::hdL (hardOf xs).pr (hardOf xs).pn (hardOf xs).base (.slice A0 (hardOf xs).image.length c0) (.slice A1 (hardOf xs).acc.length c1) (.slice A2 (hardOf xs).cho.length c2)).toArray 118 (0,0))] (by kernel_rfl) (by kernel_rfl) (by kernel_rfl) (by intro e he;(simp only [List.mem_cons,List.not_mem_nil,or_false] at he;rcases he with rfl|rfl<;>simp;done)) ?_
  all_goals (apply dtm 0;(case hi|hx=>rfl);(case hq=>kernel_rfl);apply dtn 1;(case hi|hx=>rfl);(case hq=>kernel_rfl))
  all_goals (apply dtk 2;(case hi=>rfl);(case hop=>(apply prd;apply p_fieldAddrB<;>rfl));(case hq=>kernel_rfl);apply dtk 3;(case hi=>rfl);(case hop=>first|apply r_loadNo;(case hx=>rfl);(case h=>repeat fail);(case hd=>repeat fail);(case hn=>rfl)|apply r_load1;rfl;(apply Cell.own;(case h=>repeat first|exact mhd _|apply mtl);rfl)|apply r_loadN;rfl;(apply CellsAt.own;(case h=>repeat fail));rfl);(case hq=>kernel_rfl))
  all_goals (apply dtm 4;(case hi|hx=>rfl);(case hq=>kernel_rfl);apply dtn 5;(case hi|hx=>rfl);(case hq=>kernel_rfl))
  all_goals (apply dtk 6;(case hi=>rfl);(case hop=>(apply prd;apply p_fieldAddrB<;>rfl));(case hq=>kernel_rfl);apply dtk 7;(case hi=>rfl);(case hop=>first|apply r_loadNo;(case hx=>rfl);(case h=>repeat fail);(case hd=>repeat fail);(case hn=>rfl)|apply r_load1;rfl;(apply Cell.own;(case h=>repeat first|exact mhd _|apply mtl);rfl)|apply r_loadN;rfl;(apply CellsAt.own;(case h=>repeat fail));rfl);(case hq=>kernel_rfl))
  all_goals (apply dtm 8;(case hi|hx=>rfl);(case hq=>kernel_rfl))
  all_goals ((apply d_call 9 (hs:=qa) (μ1:=(d,dkO m ov)::ν) (μ2:=[(xb,.cells (recL x.kind x.round x.node x.index x.cmd (.slice A3 x.image.length c3)).toArray 42 (0,0)),(lb,.cells (Value.pointer (some ⟨d,0,none⟩)::Value.int .i64 no::Value.int .i64 f::hdL (hardOf xs).pr (hardOf xs).pn (hardOf xs).base (.slice A0 (hardOf xs).image.length c0) (.slice A1 (hardOf xs).acc.length c1) (.slice A2 (hardOf xs).cho.length c2)).toArray 118 (0,0)),(m,oM)]);(case hi=>rfl);(case hr=>kernel_rfl);(case ha=>rfl);(case hp=>exact (by apply perm_of_count;intro p;simp only [List.append_eq,List.countP_append,List.countP_cons,List.countP_nil,Nat.zero_add,Nat.add_zero];try ac_rfl));(case hd=>rfl);(case hν'=>intro e he;simp at he;rcases he with rfl|rfl<;>simp);rintro _ G2 _ hle2 ⟨-,ov2,ν2,hgr2,rfl⟩))
  all_goals (apply d_done;(case hr=>kernel_rfl))
  refine v_perm (ν:=(xb,.cells (recL x.kind x.round x.node x.index x.cmd (.slice A3 x.image.length c3)).toArray 42 (0,0))::(lb,.cells (Value.pointer (some ⟨d,0,none⟩)::Value.int .i64 no::Value.int .i64 f::hdL (hardOf xs).pr (hardOf xs).pn (hardOf xs).base (.slice A0 (hardOf xs).image.length c0) (.slice A1 (hardOf xs).acc.length c1) (.slice A2 (hardOf xs).cho.length c2)).toArray 118 (0,0))::(d,dkO m ov2)::(m,oM)::ν2) (by apply perm_of_count;intro p;simp only [List.append_eq,List.countP_append,List.countP_cons,List.countP_nil,Nat.zero_add,Nat.add_zero];try ac_rfl) ?_
  have hle02:=GH.le_trans hle1 hle2
  have qp:=hApply_s (hT.le hle02) (hL.le hle02) hW.st.good (by omega) (hx.le hle02) hok
  repeat' (first|apply v_seq)
  refine d_start [(xb,.cells (recL x.kind x.round x.node x.index x.cmd (.slice A3 x.image.length c3)).toArray 42 (0,0))] (by kernel_rfl) (by kernel_rfl) (by kernel_rfl) (by intro e he;(simp at he;simp [he];done)) ?_
  all_goals (apply dtm 0;(case hi|hx=>rfl);(case hq=>kernel_rfl);apply dtm 1;(case hi|hx=>rfl);(case hq=>kernel_rfl))
  all_goals (apply dtn 2;(case hi|hx=>rfl);(case hq=>kernel_rfl);apply dtk 3;(case hi=>rfl);(case hop=>(apply prd;apply p_fieldAddrB<;>rfl));(case hq=>kernel_rfl))
  all_goals (apply dtk 5;(case hi=>rfl);(case hop=>first|apply r_loadNo;(case hx=>rfl);(case h=>repeat exact mhd _);(case hd=>repeat first|with_reducible exact dt_nil|apply dt_here);(case hn=>rfl)|apply r_load1;rfl;(apply Cell.own;(case h=>repeat fail);rfl)|apply r_loadN;rfl;(apply CellsAt.own;(case h=>repeat fail));rfl);(case hq=>kernel_rfl))
  all_goals (apply d_keep 4 (hop:=ReadOp.move ?hop);(case hi=>rfl);(case hr=>kernel_rfl);(case hop=>(apply r_loadNo (us:=hdL (hardOf xs).pr (hardOf xs).pn (hardOf xs).base (.slice A0 (hardOf xs).image.length c0) (.slice A1 (hardOf xs).acc.length c1) (.slice A2 (hardOf xs).cho.length c2));(case hx=>rfl);(case h=>repeat first|exact mhd _|apply mtl);(case hd|hn=>rfl)));(case hd=>rfl))
  all_goals ((apply d_call 6 (hs:=qp) (μ1:=[]);(case hi=>rfl);(case hr=>kernel_rfl);(case ha=>rfl);(case hp=>exact List.Perm.refl _);(case hd=>rfl);(case hν'=>intro e he;simp at he;simp [he]);rintro _ G3 _ hle3 ⟨rfl,L4,rfl,hL4⟩;obtain ⟨iv',av',cv',rfl,hi',ha',hcv'⟩:=id hL4;obtain ⟨B3,d3,rfl,-⟩:=id hi'.openInt;obtain ⟨B4,d4,rfl,-⟩:=id ha'.open;obtain ⟨B5,d5,rfl,-⟩:=id hcv'.open))
  all_goals (apply dtn 7;(case hi|hx=>rfl);(case hq=>kernel_rfl);apply dtk 8;(case hi=>rfl);(case hop=>(apply prd;apply p_fieldAddrB<;>rfl));(case hq=>kernel_rfl))
  all_goals (apply d_store 9;(case hi=>rfl);(case hr=>kernel_rfl);(case hL=>infer_instance);(case hp|hx|hc|hsz|h1=>rfl);(case hb=>repeat first|exact mhd _|apply mtl);(case hfit=>exact nle rfl);(case hov=>((repeat (first|with_reducible exact ov_nil|apply ov_cons));done));(case hu=>repeat first|exact Upd.here _ _|apply Upd.there);(case hν'=>intro e he;simp at he;simp [he]))
  all_goals (apply d_done;(case hr=>kernel_rfl))
  all_goals repeat' (first|apply v_seq|apply v_region|apply v_nil|apply v_pure;(case hop=>(apply p_assign<;>rfl));(case hd=>rfl)|fail)
  refine v_drop (ν:=(lb,lgO d no f (hdL (stepH (hardOf xs) x).pr (stepH (hardOf xs) x).pn (stepH (hardOf xs) x).base (.slice B3 (stepH (hardOf xs) x).image.length d3) (.slice B4 (stepH (hardOf xs) x).acc.length d4) (.slice B5 (stepH (hardOf xs) x).cho.length d5)))::(d,dkO m ov2)::(m,oM)::ν2) (List.sublist_cons_self _ _) ?_
  refine v_ret ((lb,_)::(d,dkO m ov2)::(m,oM)::ν2) (outsA1 rfl rfl) (List.Sublist.refl _) ?_
  have hle03:=GH.le_trans hle02 hle3
  exact ⟨hle03,rfl,g,_,no,n,xs++[x],_,ov2,ml,oM,ν2,hW.add r hq,hardOf_snoc _ _,hL4,h1,h2.up hle03,hgr2.le fun _ _ hx=>hx.le hle3,by rw [dkB_eq]⟩
 ·simp only [if_neg he]
  unfold AddS at qs
  (refine v_enter Tryz.func28 rfl Tryz.ntmps28 rfl ?_;intro B _)
  repeat' (first|apply v_box (zs:=recL x.kind x.round x.node x.index x.cmd (.slice A3 x.image.length c3));(case hx|hz|hd=>rfl);intro xb|apply v_seq|apply v_region|apply v_nil|apply v_skip|apply v_pure;(case hop=>first|apply p_move<;>rfl|apply p_assign<;>rfl|apply p_eqNil<;>rfl|fail);(case hd=>rfl)|apply v_condF;(case hc=>rfl)|fail)
  refine d_start [(xb,.cells (recL x.kind x.round x.node x.index x.cmd (.slice A3 x.image.length c3)).toArray 42 (0,0)),(lb,.cells (Value.pointer (some ⟨d,0,none⟩)::Value.int .i64 no::Value.int .i64 f::hdL (hardOf xs).pr (hardOf xs).pn (hardOf xs).base (.slice A0 (hardOf xs).image.length c0) (.slice A1 (hardOf xs).acc.length c1) (.slice A2 (hardOf xs).cho.length c2)).toArray 118 (0,0))] (by kernel_rfl) (by kernel_rfl) (by kernel_rfl) (by intro e he;(simp only [List.mem_cons,List.not_mem_nil,or_false] at he;rcases he with rfl|rfl<;>simp;done)) ?_
  all_goals (apply dtm 0;(case hi|hx=>rfl);(case hq=>kernel_rfl);apply dtn 1;(case hi|hx=>rfl);(case hq=>kernel_rfl))
  all_goals (apply dtk 2;(case hi=>rfl);(case hop=>(apply prd;apply p_fieldAddrB<;>rfl));(case hq=>kernel_rfl);apply dtk 3;(case hi=>rfl);(case hop=>first|apply r_loadNo;(case hx=>rfl);(case h=>repeat fail);(case hd=>repeat fail);(case hn=>rfl)|apply r_load1;rfl;(apply Cell.own;(case h=>repeat first|exact mhd _|apply mtl);rfl)|apply r_loadN;rfl;(apply CellsAt.own;(case h=>repeat fail));rfl);(case hq=>kernel_rfl))
  all_goals (apply dtk 4;(case hi=>rfl);(case hop=>first|apply r_loadNo;(case hx=>rfl);(case h=>repeat exact mhd _);(case hd=>repeat first|with_reducible exact dt_nil|apply dt_here);(case hn=>rfl)|apply r_load1;rfl;(apply Cell.own;(case h=>repeat fail);rfl)|apply r_loadN;rfl;(apply CellsAt.own;(case h=>repeat fail));rfl);(case hq=>kernel_rfl))
  all_goals ((apply d_call 5 (hs:=qs) (μ1:=[]);(case hi=>rfl);(case hr=>kernel_rfl);(case ha=>rfl);(case hp=>exact List.Perm.refl _);(case hd=>rfl);(case hν'=>intro e he;simp at he;rcases he with rfl|rfl<;>simp);rintro _ G1 _ hle1 ⟨rfl,bv,rfl,hB⟩))
  all_goals (apply dtm 6;(case hi|hx=>rfl);(case hq=>kernel_rfl);apply dtk 7;(case hi=>rfl);(case hop=>(apply prd;apply p_extract0<;>rfl));(case hq=>kernel_rfl))
  all_goals (apply dtk 8;(case hi=>rfl);(case hop=>(apply prd;apply p_extract1<;>rfl));(case hq=>kernel_rfl);apply dta 9;(case hi|hx=>rfl);(case hq=>kernel_rfl))
  all_goals (apply dta 10;(case hi|hx=>rfl);(case hq=>kernel_rfl))
  all_goals (apply d_done;(case hr=>kernel_rfl))
  generalize errF f x=e0 at *
  repeat' (first|apply v_seq|apply v_region|apply v_nil|apply v_pure;(case hop=>first|apply p_move<;>rfl|apply p_ne<;>rfl|apply p_assign<;>rfl|fail);(case hd=>rfl)|apply v_cond;(case hc=>rfl);all_goals (intro h;(try simp only [reduceCtorEq,zzz] at h);try (exfalso;omega))|fail)
  refine v_ret ((lb,.cells (Value.pointer (some ⟨d,0,none⟩)::Value.int .i64 no::Value.int .i64 f::hdL (hardOf xs).pr (hardOf xs).pn (hardOf xs).base (.slice A0 (hardOf xs).image.length c0) (.slice A1 (hardOf xs).acc.length c1) (.slice A2 (hardOf xs).cho.length c2)).toArray 118 (0,0))::dkB d m ov oM ν) (outsA1 rfl rfl) (List.sublist_cons_self _ _) ?_
  exact ⟨hle1,rfl,g,l,no,n,xs,_,ov,ml,oM,ν,hW,rfl,hL.le hle1,h1,h2.up hle1,h3.le fun _ _ hx=>hx.le hle1,rfl⟩
theorem wfiles_s {c d m:Nat}{G:GH}{g:Fs}{l:List Dop}{ov:Value}{ml:List (Int×Value)}{oM:Obj}{ν:OH}(h:DkM c G g l ov ml oM ν) (hc:c≤50) :
 Con Tryz.prog 30 #[.pointer (some ⟨d,0,none⟩)] G [(d,dkO m ov),(m,oM)] (fun r G' μ'=>GH.le G G'∧∃ R,Rep R g∧Fls G' r R∧μ'=[(d,dkO m ov),(m,oM)]):=by
 have hb:=h.sok 0 (by omega)
 have hm:=h.mlen
 refine (files_s (d:=d) (m:=m) (N:=900000) h.map h.mf hb.bd (by omega) (by omega)).mono ?_
 rintro r G' μ' ⟨hle,R,hR,hs,-,rfl⟩
 exact ⟨hle,R,hR,hs,rfl⟩
theorem opens11:opensW 1 1=0:=by decide
theorem top_one {s:Fs}{no:Int}{b:List Int}(t:TopIs s no b) (h:SOK 1 s) {R:List Fl}(hR:Rep R s):R=[(1,b)]:=by
 obtain ⟨R0,rfl,h0⟩:=rep_top hR t
 have hno:=h.1 no b t.1
 have e:no=1:=by omega
 subst e
 have hz:cutS s 1=fun _=>none:=by
  funext k
  unfold cutS
  split
  ·rfl
  ·rename_i hk
   cases hs:s k with
   | none=>rfl
   | some b'=>have:=h.1 k b' hs;omega
 rw [hz] at h0
 rw [rep_ext h0 rep_zero]
 rfl
set_option maxHeartbeats 2000000 in
theorem awake21_s {G:GH}(hT:TabsG G) (hC:CrcG G):Con Tryz.prog 24 #[] G [] (Just (.bool true) G):=by
 apply Con.just
 (refine v_enter Tryz.func24 rfl Tryz.ntmps24 rfl ?_;intro B _)
 repeat' (first|apply v_seq|apply v_region|apply v_nil|apply v_pure;(case hop=>(apply p_assign<;>rfl));(case hd=>rfl)|fail)
 refine v_call (μ1:=[]) rfl dnew_s (List.Perm.refl _) rfl ?_
 rintro _ G1 _ - ⟨hG1,d,m,rfl,rfl⟩
 subst hG1
 have qo:=wopen_s (d:=d) (m:=m) hT hC wb_zero (by omega) (by omega) (ov:=.slice none 0 0) (ml:=[]) (oM:=.map #[] 0) (ν:=[]) MapB.nil (G:=G1) (fun k=>by rw [mget_no (by simp)]) GrL.nil 1
 simp only [opens11] at qo
 repeat' (first|apply v_seq|apply v_region|apply v_nil|apply v_pure;(case hop=>first|apply p_move<;>rfl|apply p_assign<;>rfl|fail);(case hd=>rfl)|fail)
 refine v_perm (ν:=dkB d m (.slice none 0 0) (.map #[] 0) []) (by rw [dkB_eq];exact List.Perm.refl _) ?_
 refine v_call (μ1:=dkB d m (.slice none 0 0) (.map #[] 0) []) (μ2:=[]) rfl qo (by apply perm_of_count;intro p;simp only [List.append_eq,List.countP_append,List.countP_cons,List.countP_nil,Nat.zero_add,Nat.add_zero];try ac_rfl) rfl ?_
 rintro _ G2 μ2 hle2 (⟨-,-,lb,L,l',rfl,hL,hl',⟨no',htop⟩,hX⟩|⟨h9,-⟩)
 ·have qs:=wsync_s hX (by omega) (by omega)
  replace hL:HdV G2 Hd.zero L:=hL
  obtain ⟨iv,av,cv,rfl,hi,ha,hcv⟩:=hL
  obtain ⟨A0,c0,rfl,-⟩:=id hi.openInt
  obtain ⟨A1,c1,rfl,-⟩:=id ha.open
  obtain ⟨A2,c2,rfl,-⟩:=id hcv.open
  repeat' (first|apply v_seq|apply v_region|apply v_nil|apply v_pure;(case hop=>first|apply p_move<;>rfl|apply p_assign<;>rfl|apply p_extract0<;>rfl|apply p_extract1<;>rfl|apply p_extract2<;>rfl|fail);(case hd=>rfl)|apply v_alloc;(case hz|hd=>rfl);intro b|apply v_store;(case hp|hx|hc|hsz|h1=>rfl);(case hb=>repeat exact mhd _);(case hfit=>exact nle rfl);(case hov=>((repeat (first|with_reducible exact ov_nil|apply ov_cons));done));(case hu=>repeat (exact Upd.here _ _))|fail)
  revert b
  intro hb
  refine v_call (μ1:=μ2) (μ2:=[(hb,.cells (hdL Hd.zero.pr Hd.zero.pn Hd.zero.base (.slice A0 Hd.zero.image.length c0) (.slice A1 Hd.zero.acc.length c1) (.slice A2 Hd.zero.cho.length c2)).toArray 27 (0,0))]) rfl qs (by apply perm_of_count;intro p;simp only [List.append_eq,List.countP_append,List.countP_cons,List.countP_nil,Nat.zero_add,Nat.add_zero];try ac_rfl) rfl ?_
  rintro _ G3 _ hle3 ⟨-,no,n,xs,L3,ov,ml,oM,ν,hW,hxz,hL3,h1,h2,h3,rfl⟩
  have hdk:=hW.dk h1 h2 h3
  have qf:=wfiles_s (d:=d) (m:=m) hdk (by omega)
  rw [dkB_eq]
  repeat' (first|apply v_seq|apply v_region|apply v_nil|apply v_pure;(case hop=>(apply p_move<;>rfl));(case hd=>rfl)|fail)
  refine v_call (μ1:=[(d,dkO m ov),(m,oM)]) (μ2:=(lb,lgO d no 1 L3)::ν++[(hb,.cells (hdL Hd.zero.pr Hd.zero.pn Hd.zero.base (.slice A0 Hd.zero.image.length c0) (.slice A1 Hd.zero.acc.length c1) (.slice A2 Hd.zero.cho.length c2)).toArray 27 (0,0))]) rfl qf (by apply perm_of_count;intro p;simp only [List.append_eq,List.countP_append,List.countP_cons,List.countP_nil,Nat.zero_add,Nat.add_zero];try ac_rfl) rfl ?_
  rintro _ G4 _ hle4 ⟨-,R,hR,hs,rfl⟩
  have hone:=top_one htop (hdk.sok 0 (by omega)) hR
  subst hone
  have h7:(fileB encF (1,Hd.zero).1 (recsOf (1,Hd.zero).2).length (recsOf (1,Hd.zero).2)).length=7:=by
   simp only [recs_zero]
   exact file_zero
  generalize fileB encF (1,Hd.zero).1 (recsOf (1,Hd.zero).2).length (recsOf (1,Hd.zero).2)=Bz at *
  obtain ⟨A,cA,dA,dc,rfl,hlc,hcm,hsome,hcl,-⟩:=flOpen hs
  simp only [maxLen] at hcm
  have hA:=hsome (by simp)
  have k0:=(hcl 0 (by simp)).cell (j:=0) rfl
  have k1:=(hcl 0 (by simp)).cell (j:=1) rfl
  simp only [List.getElem_cons_zero,h7] at k0 k1
  rw [show ([((1:Int),Bz)]:List Fl).length=1 from rfl] at hlc ⊢
  refine v_perm (ν:=(hb,.cells (hdL Hd.zero.pr Hd.zero.pn Hd.zero.base (.slice A0 Hd.zero.image.length c0) (.slice A1 Hd.zero.acc.length c1) (.slice A2 Hd.zero.cho.length c2)).toArray 27 (0,0))::(lb,lgO d no 1 L3)::dkB d m ov oM ν) (by rw [dkB_eq];exact (by apply perm_of_count;intro p;simp only [List.append_eq,List.countP_append,List.countP_cons,List.countP_nil,Nat.zero_add,Nat.add_zero];try ac_rfl)) ?_
  have hdk4:=hdk.le hle4
  have qd:=wdirty_s (lb:=lb) (d:=d) (m:=m) (no:=no) (f:=1) (L:=L3) hdk4 (by omega)
  repeat' (first|apply v_seq|apply v_region|apply v_nil|apply v_take;(case hg=>rfl)|apply v_pure;(case hop=>first|apply p_move<;>rfl|apply p_eqs<;>rfl|apply p_assign<;>rfl|apply p_pickT<;>rfl|apply p_lenSlice<;>rfl|apply p_fieldAddr<;>rfl|apply p_indexAddrS;(case hx|hi=>rfl);(case h0|h=>omega);(case hA=>assumption)|fail);(case hd=>rfl)|apply v_read;(case hop=>(apply r_load1;rfl;exact Cell.frozen k0));(case hd=>rfl)|apply v_read;(case hop=>(apply r_load1;rfl;exact Cell.frozen k1));(case hd=>rfl)|fail)
  refine v_call (μ1:=[(lb,lgO d no 1 L3)]) (μ2:=(hb,.cells (hdL Hd.zero.pr Hd.zero.pn Hd.zero.base (.slice A0 Hd.zero.image.length c0) (.slice A1 Hd.zero.acc.length c1) (.slice A2 Hd.zero.cho.length c2)).toArray 27 (0,0))::dkB d m ov oM ν) rfl (wformat_s _) (by apply perm_of_count;intro p;simp only [List.append_eq,List.countP_append,List.countP_cons,List.countP_nil,Nat.zero_add,Nat.add_zero];try ac_rfl) rfl ?_
  rintro _ G5 _ - ⟨rfl,hG5,rfl⟩
  subst hG5
  repeat' (first|apply v_take;(case hg=>rfl)|apply v_pure;(case hop=>first|apply p_move<;>rfl|apply p_eqs<;>rfl|apply p_pickT<;>rfl|fail);(case hd=>rfl)|fail)
  refine v_call (μ1:=(lb,lgO d no 1 L3)::dkB d m ov oM ν) (μ2:=[(hb,.cells (hdL Hd.zero.pr Hd.zero.pn Hd.zero.base (.slice A0 Hd.zero.image.length c0) (.slice A1 Hd.zero.acc.length c1) (.slice A2 Hd.zero.cho.length c2)).toArray 27 (0,0))]) rfl qd (by apply perm_of_count;intro p;simp only [List.append_eq,List.countP_append,List.countP_cons,List.countP_nil,Nat.zero_add,Nat.add_zero];try ac_rfl) rfl ?_
  rintro _ G6 _ - ⟨hle6,rfl,rfl⟩
  repeat' (first|apply v_nil|apply v_take;(case hg=>rfl)|apply v_pure;(case hop=>first|apply p_assign<;>rfl|apply p_pickT<;>rfl|apply p_not<;>rfl|fail);(case hd=>rfl)|fail)
  refine v_ret [] (outsA1 rfl rfl) (List.nil_sublist _) ?_
  exact ⟨rfl,rfl⟩
 ·exact absurd rfl h9
theorem opens22 {f:Int}(h:f=1∨f=2):opensW 2 f=0:=by
 rcases h with rfl|rfl<;>decide
theorem LogM.st {lb d m c a:Nat}{past:List (Int×Hd)}{f:Int}{H:Hd}{G:GH}{μ:OH}(h:LogM lb d m c a past f H G μ):St a f H:=by
 obtain ⟨g,l,no,n,xs,L,ov,ml,oM,ν,hW,rfl,-⟩:=h
 exact hW.st
theorem LogM.up {lb d m c a:Nat}{past:List (Int×Hd)}{f:Int}{H:Hd}{G G':GH}{μ:OH}(h:LogM lb d m c a past f H G μ) (hle:GH.le G G'):LogM lb d m c a past f H G' μ:=by
 obtain ⟨g,l,no,n,xs,L,ov,ml,oM,ν,hW,hx,hL,h1,h2,h3,h4⟩:=h
 exact ⟨g,l,no,n,xs,L,ov,ml,oM,ν,hW,hx,hL.le hle,h1,h2.up hle,h3.le fun _ _ hx=>hx.le hle,h4⟩
set_option maxHeartbeats 4000000 in
theorem walCrashes_main {W:World}(hT:TabsG (ghost W)) (hC:CrcG (ghost W)) {steps:List Stp}{sv:Value}(hr:Stps (ghost W) sv steps):LawCon Tryz.prog 9 #[sv] W:=by
 unfold LawCon
 generalize ghost W=G at *
 have qa:=fun G' (h:GH.le G G')=>awake21_s (hT.le h) (hC.le h)
 have ql:=sLarge_s hr
 obtain ⟨A,c,ivf,rfl,hlc,hcm,hsome,hcp,hok⟩:=stpOpen hr
 simp only [maxLen] at hcm
 (refine v_enter Tryz.func9 rfl Tryz.ntmps9 rfl ?_;intro B _)
 repeat' (first|apply v_seq|apply v_region|apply v_nil|apply v_pure;(case hop=>first|apply p_move<;>rfl|apply p_assign<;>rfl|fail);(case hd=>rfl)|fail)
 refine v_call (μ1:=[]) rfl ql (List.Perm.refl _) rfl ?_
 rintro _ G1 _ - ⟨hle1,rfl,b,rfl,hbb⟩
 cases b
 rotate_left
 ·repeat' (first|apply v_seq|apply v_region|apply v_nil|apply v_pure;(case hop=>(apply p_assign<;>rfl));(case hd=>rfl)|apply v_condT;(case hc=>rfl)|apply v_callJ (hs:=qa _ hle1);(case ha|hd=>rfl)|fail)
  all_goals
   (refine v_ret [] (outsA1 rfl rfl) (by repeat (exact List.Sublist.refl _)) ?_
    rfl)
 obtain ⟨h40,hli⟩:=hbb rfl
 clear hbb ql
 repeat' (first|apply v_seq|apply v_region|apply v_nil|apply v_skip|apply v_condF;(case hc=>rfl)|fail)
 refine v_call (μ1:=[]) rfl dnew_s (List.Perm.refl _) rfl ?_
 rintro _ G2 _ - ⟨hG2,d,m,rfl,rfl⟩
 subst hG2
 have qo:=wopen_s (d:=d) (m:=m) (hT.le hle1) (hC.le hle1) wb_zero (by omega) (by omega) (ov:=.slice none 0 0) (ml:=[]) (oM:=.map #[] 0) (ν:=[]) MapB.nil (G:=G2) (fun k=>by rw [mget_no (by simp)]) GrL.nil 2
 simp only [opens22 (.inl rfl)] at qo
 repeat' (first|apply v_seq|apply v_region|apply v_nil|apply v_pure;(case hop=>first|apply p_move<;>rfl|apply p_assign<;>rfl|fail);(case hd=>rfl)|fail)
 refine v_perm (ν:=dkB d m (.slice none 0 0) (.map #[] 0) []) (by rw [dkB_eq];exact List.Perm.refl _) ?_
 refine v_call (μ1:=dkB d m (.slice none 0 0) (.map #[] 0) []) (μ2:=[]) rfl qo (by apply perm_of_count;intro p;simp only [List.append_eq,List.countP_append,List.countP_cons,List.countP_nil,Nat.zero_add,Nat.add_zero];try ac_rfl) rfl ?_
 rintro _ G3 μ3 hle3 (⟨-,-,lb,L,l',rfl,hL,-,-,hX⟩|⟨h9,-⟩)
 rotate_left
 ·exact absurd rfl h9
 replace hX:LogX lb d m 0 0 ([(1,Hd.zero)]++[(1,Hd.zero)]) 1 Hd.zero (fun _=>none) l' G3 μ3:=hX
 replace hL:HdV G3 Hd.zero L:=hL
 obtain ⟨iv,av,cv,rfl,hi,ha,hcv⟩:=hL
 obtain ⟨A0,c0,rfl,-⟩:=id hi.openInt
 obtain ⟨A1,c1,rfl,-⟩:=id ha.open
 obtain ⟨A2,c2,rfl,-⟩:=id hcv.open
 clear qo
 repeat' (first|apply v_seq|apply v_region|apply v_nil|apply v_pure;(case hop=>first|apply p_move<;>rfl|apply p_assign<;>rfl|apply p_extract0<;>rfl|apply p_extract1<;>rfl|apply p_extract2<;>rfl|fail);(case hd=>rfl)|apply v_alloc;(case hz|hd=>rfl);intro b|apply v_store;(case hp|hx|hc|hsz|h1=>rfl);(case hb=>repeat exact mhd _);(case hfit=>exact nle rfl);(case hov=>((repeat (first|with_reducible exact ov_nil|apply ov_cons));done));(case hu=>repeat (exact Upd.here _ _))|fail)
 revert b
 intro hb
 refine v_call (μ1:=[]) rfl (pnew_s G3) (List.Perm.refl _) rfl ?_
 rintro _ G4 μ4 - ⟨hG4,pb,rfl,hP⟩
 subst hG4
 have hle04:=GH.le_trans hle1 hle3
 repeat' (first|apply v_seq|apply v_region|apply v_nil|apply v_skip|apply v_block|apply v_pure;(case hop=>first|apply p_move<;>rfl|apply p_nes<;>rfl|apply p_assign<;>rfl|fail);(case hd=>rfl)|apply v_condF;(case hc=>rfl)|fail)
 refine v_perm (ν:=(hb,.cells (hdL Hd.zero.pr Hd.zero.pn Hd.zero.base (.slice A0 Hd.zero.image.length c0) (.slice A1 Hd.zero.acc.length c1) (.slice A2 Hd.zero.cho.length c2)).toArray 27 (0,0))::(μ3++μ4)) (by apply perm_of_count;intro p;simp only [List.append_eq,List.countP_append,List.countP_cons,List.countP_nil,Nat.zero_add,Nat.add_zero];try ac_rfl) ?_
 refine v_drop (ν:=μ3++μ4) (List.sublist_cons_self _ _) ?_
 refine v_loop [8,7,4,3,0] (fun us G' μ'=>GH.le G4 G'∧∃ (k lb pb n a:Nat) (f:Int) (H:Hd) (M pre:List (Int×Hd)) (μ1 μ2:OH),k≤steps.length∧n≤k∧a≤k∧pre.length≤k∧us=[Value.int .i64 (k:Nat),.pointer (some ⟨pb,0,none⟩),.pointer (some ⟨lb,0,none⟩),.pointer (some ⟨d,0,none⟩),.slice A steps.length c]∧LogM lb d m n a M f H G' μ1∧PaM pb (pre++[(f,H)]) G' μ2∧(∀ q∈M,q∈pre++[(f,H)])∧μ'=μ1++μ2) (fun us=>steps.length-(headI us).toNat) rfl ⟨GH.le_refl _,0,lb,pb,0,0,1,Hd.zero,_,[],μ3,μ4,by omega,by omega,by omega,by simp,rfl,⟨_,_,hX⟩,hP,by simp,rfl⟩ ?_
 clear hX hP hi ha hcv
 rintro us G5 _ ⟨hle5,k,lb,pb,n,a,f,H,M,pre,μ1,μ2,hk,hn,ha,hpre,rfl,hM,hP,hsub,rfl⟩
 have hle05:=GH.le_trans hle04 hle5
 by_cases hlt:k<steps.length
 rotate_left
 ·repeat' (first|apply v_seq|apply v_region|apply v_nil|apply v_exit;(case hp=>rfl)|apply v_pure;(case hop=>first|apply p_move<;>rfl|apply p_lt<;>rfl|apply p_assign<;>rfl|apply p_lenSlice<;>rfl|fail);(case hd=>rfl)|apply v_cond;(case hc=>rfl);all_goals (intro h;(try simp only [reduceCtorEq,zzz] at h);try (exfalso;omega))|apply v_callJ (hs:=qa _ hle05);(case ha|hd=>rfl)|fail)
  all_goals
   (refine v_ret [] (outsA1 rfl rfl) (by repeat (exact List.nil_sublist _)) ?_
    rfl)
 have e1:((k:Nat):Int).toNat=k:=by omega
 have hA:=hsome (by omega)
 have hck:=(hcp k hlt).le hle05
 obtain ⟨hcok,hsm,hix⟩:=hok k hlt
 have hli':=hli _ (List.getElem_mem hlt)
 have hix:=hix.mono hle05
 generalize hsx:steps[k]=s at *
 obtain ⟨A3,c3,hive,-⟩:=id hix.openInt
 rw [hive] at hck hix
 obtain ⟨kind,sn,smm,x⟩:=s
 simp only at hck hcok hsm hix hli' hive
 have hx:RcV G5 x (.agg (recL x.kind x.round x.node x.index x.cmd (.slice A3 x.image.length c3)).toArray):=⟨_,rfl,hix⟩
 have qpl:=plast_s hP
 have hst:=hM.st
 repeat' (first|apply v_seq|apply v_region|apply v_nil|apply v_skip|apply v_block|apply v_pure;(case hop=>first|apply p_move<;>rfl|apply p_lt<;>rfl|apply p_lenSlice<;>rfl|apply p_indexAddrS;(case hx|hi=>rfl);(case h0|h=>omega);(case hA=>assumption)|fail);(case hd=>rfl)|apply v_cond;(case hc=>rfl);all_goals (intro h;(try simp only [reduceCtorEq,zzz] at h);try (exfalso;omega))|apply v_read;(case hop=>(apply r_loadN;rfl;exact CellsAt.frozen hck;rfl));(case hd=>rfl)|apply v_alloc;(case hz|hd=>rfl);intro b|apply v_store;(case hp|hx|hc|hsz|h1=>rfl);(case hb=>repeat exact mhd _);(case hfit=>exact nle rfl);(case hov=>((repeat (first|with_reducible exact ov_nil|apply ov_cons));done));(case hu=>repeat (exact Upd.here _ _))|fail)
 revert b
 intro sb
 refine v_call (μ1:=μ2) (μ2:=(sb,.cells (Value.int .i64 kind::.int .i64 sn::.int .i64 smm::recL x.kind x.round x.node x.index x.cmd (.slice A3 x.image.length c3)).toArray 80 (0,0))::μ1) rfl qpl (by apply perm_of_count;intro p;simp only [List.append_eq,List.countP_append,List.countP_cons,List.countP_nil,Nat.zero_add,Nat.add_zero];try ac_rfl) rfl ?_
 rintro _ G6 μ5 - ⟨hG6,rfl,L6,rfl,hL6⟩
 subst hG6
 have hL6':=hL6
 obtain ⟨iv6,av6,cv6,rfl,hi6,ha6,hcv6⟩:=hL6
 obtain ⟨A4,c4,rfl,-⟩:=id hi6.openInt
 obtain ⟨A5,c5,rfl,-⟩:=id ha6.open
 obtain ⟨A6,c6,rfl,-⟩:=id hcv6.open
 repeat' (first|apply v_seq|apply v_region|apply v_nil|apply v_block|apply v_pure;(case hop=>first|apply p_move<;>rfl|apply p_eq<;>rfl|apply p_assign<;>rfl|apply p_fieldAddrB<;>rfl|apply p_extract0<;>rfl|apply p_extract1<;>rfl|fail);(case hd=>rfl)|apply v_read;(case hop=>(apply r_load1;rfl;(apply Cell.own;(case h=>repeat first|exact mhd _|apply mtl|apply List.mem_append_right);rfl)));(case hd=>rfl)|apply v_alloc;(case hz|hd=>rfl);intro b|apply v_store;(case hp|hx|hc|hsz|h1=>rfl);(case hb=>repeat exact mhd _);(case hfit=>exact nle rfl);(case hov=>((repeat (first|with_reducible exact ov_nil|apply ov_cons));done));(case hu=>repeat (exact Upd.here _ _))|fail)
 revert b
 intro hb
 refine v_perm (ν:=(hb,.cells #[.int .i64 H.pr,.int .i64 H.pn,.int .i64 H.base,.slice A4 H.image.length c4,.slice A5 H.acc.length c5,.slice A6 H.cho.length c6] 27 (0,0))::(sb,.cells (Value.int .i64 kind::.int .i64 sn::.int .i64 smm::recL x.kind x.round x.node x.index x.cmd (.slice A3 x.image.length c3)).toArray 80 (0,0))::(μ1++μ5)) (by apply perm_of_count;intro p;simp only [List.append_eq,List.countP_append,List.countP_cons,List.countP_nil,Nat.zero_add,Nat.add_zero];try ac_rfl) ?_
 refine v_cut (fun σ1 G' μ'=>GH.le G6 G'∧∃ (lb' pb' n' a':Nat) (f':Int) (H':Hd) (M' pre':List (Int×Hd)) (ν1 ν2:OH) (H10:Hd) (i10 a10 c10:Value),n'≤k+1∧a'≤k+1∧pre'.length≤k+1∧LogM lb' d m n' a' M' f' H' G' ν1∧PaM pb' (pre'++[(f',H')]) G' ν2∧(∀ q∈M',q∈pre'++[(f',H')])∧(∃ rest:OH,μ'.Perm ((hb,.cells (hdL H10.pr H10.pn H10.base i10 a10 c10).toArray 27 (0,0))::(ν1++(ν2++rest))))∧EnvHas σ1 [(10,.pointer (some ⟨hb,0,none⟩)),(8,.int .i64 (k:Nat)),(7,.pointer (some ⟨pb',0,none⟩)),(4,.pointer (some ⟨lb',0,none⟩)),(3,.pointer (some ⟨d,0,none⟩)),(0,.slice A steps.length c)]) ?_ ?_
 ·intro hcut
  by_cases k1:kind=1
  ·have qadd:=wadd_s (hT.le hle05) (hC.le hle05) hM (by omega) (by omega) hx hcok hsm hli'.1 hli'.2
   have qpa:=fun G' (h:GH.le G6 G')=>padd_s (hP.le h) (by simp;omega) hst (by omega) (hx.le h) hcok hsm
   repeat' (first|apply v_seq|apply v_cond;(case hc=>rfl);all_goals (intro h;(try simp only [reduceCtorEq,zzz] at h);try (exfalso;omega))|fail)
   refine d_start [(sb,.cells (Value.int .i64 kind::.int .i64 sn::.int .i64 smm::recL x.kind x.round x.node x.index x.cmd (.slice A3 x.image.length c3)).toArray 80 (0,0))] (by kernel_rfl) (by kernel_rfl) (by kernel_rfl) (by intro e he;(simp at he;simp [he];done)) ?_
   all_goals (apply dtm 0;(case hi|hx=>rfl);(case hq=>kernel_rfl);apply dtk 1;(case hi=>rfl);(case hop=>(apply prd;apply p_fieldAddrB<;>rfl));(case hq=>kernel_rfl))
   all_goals (apply dtk 2;(case hi=>rfl);(case hop=>first|apply r_loadNo;(case hx=>rfl);(case h=>repeat exact mhd _);(case hd=>repeat first|with_reducible exact dt_nil|apply dt_here);(case hn=>rfl)|apply r_load1;rfl;(apply Cell.own;(case h=>repeat fail);rfl)|apply r_loadN;rfl;(apply CellsAt.own;(case h=>repeat fail));rfl);(case hq=>kernel_rfl);apply dtm 4;(case hi|hx=>rfl);(case hq=>kernel_rfl))
   all_goals (apply dtk 5;(case hi=>rfl);(case hop=>(apply prd;apply p_fieldAddrB<;>rfl));(case hq=>kernel_rfl);apply dtk 6;(case hi=>rfl);(case hop=>first|apply r_loadNo;(case hx=>rfl);(case h=>repeat exact mhd _);(case hd=>repeat first|with_reducible exact dt_nil|apply dt_here);(case hn=>rfl)|apply r_load1;rfl;(apply Cell.own;(case h=>repeat fail);rfl)|apply r_loadN;rfl;(apply CellsAt.own;(case h=>repeat fail));rfl);(case hq=>kernel_rfl))
   all_goals ((apply d_call 3 (hs:=qadd) (μ1:=μ1) (μ2:=(hb,.cells #[.int .i64 H.pr,.int .i64 H.pn,.int .i64 H.base,.slice A4 H.image.length c4,.slice A5 H.acc.length c5,.slice A6 H.cho.length c6] 27 (0,0))::(sb,.cells (Value.int .i64 kind::.int .i64 sn::.int .i64 smm::recL x.kind x.round x.node x.index x.cmd (.slice A3 x.image.length c3)).toArray 80 (0,0))::μ5);(case hi=>rfl);(case hr=>kernel_rfl);(case ha=>rfl);(case hp=>exact (by apply perm_of_count;intro p;simp only [List.append_eq,List.countP_append,List.countP_cons,List.countP_nil,Nat.zero_add,Nat.add_zero];try ac_rfl));(case hd=>rfl);(case hν'=>intro e he;rw [List.mem_singleton] at he;rw [he];repeat (first|exact mhd _|apply mtl));rintro _ G7 μ7 hle7 ⟨-,rfl,hM7⟩))
   all_goals ((apply d_call 7 (hs:=qpa _ hle7) (μ1:=μ5) (μ2:=μ7++[(hb,.cells #[.int .i64 H.pr,.int .i64 H.pn,.int .i64 H.base,.slice A4 H.image.length c4,.slice A5 H.acc.length c5,.slice A6 H.cho.length c6] 27 (0,0)),(sb,.cells (Value.int .i64 kind::.int .i64 sn::.int .i64 smm::recL x.kind x.round x.node x.index x.cmd (.slice A3 x.image.length c3)).toArray 80 (0,0))]);(case hi=>rfl);(case hr=>kernel_rfl);(case ha=>rfl);(case hp=>exact (by apply perm_of_count;intro p;simp only [List.append_eq,List.countP_append,List.countP_cons,List.countP_nil,Nat.zero_add,Nat.add_zero];try ac_rfl));(case hd=>rfl);(case hν'=>intro e he;rw [List.mem_singleton] at he;rw [he];repeat (first|exact mhd _|apply mtl|apply List.mem_append_right));rintro _ G8 μ8 hle8 ⟨-,rfl,hP8⟩))
   all_goals (apply dtk 8;(case hi=>rfl);(case hop=>(apply prd;apply p_nes<;>rfl));(case hq=>kernel_rfl))
   all_goals (apply d_done;(case hr=>kernel_rfl))
   refine v_perm (ν:=(sb,.cells (Value.int .i64 kind::.int .i64 sn::.int .i64 smm::recL x.kind x.round x.node x.index x.cmd (.slice A3 x.image.length c3)).toArray 80 (0,0))::(hb,.cells #[.int .i64 H.pr,.int .i64 H.pn,.int .i64 H.base,.slice A4 H.image.length c4,.slice A5 H.acc.length c5,.slice A6 H.cho.length c6] 27 (0,0))::(μ7++μ8)) (by apply perm_of_count;intro p;simp only [List.append_eq,List.countP_append,List.countP_cons,List.countP_nil,Nat.zero_add,Nat.add_zero];try ac_rfl) ?_
   refine v_drop (ν:=(hb,.cells #[.int .i64 H.pr,.int .i64 H.pn,.int .i64 H.base,.slice A4 H.image.length c4,.slice A5 H.acc.length c5,.slice A6 H.cho.length c6] 27 (0,0))::(μ7++μ8)) (List.sublist_cons_self _ _) ?_
   by_cases he:errF f x=0
   ·rw [if_pos he] at hM7 hP8
    repeat' (first|(exact hcut _ _ _ ⟨GH.le_trans hle7 hle8,lb,pb,n+1,a+1,f,_,_,pre++[(f,H)],μ7,μ8,H,_,_,_,by omega,by omega,by simp;omega,hM7.up hle8,hP8,fun q hq=>(List.mem_append.1 hq).elim (fun h=>List.mem_append_left _ (hsub q h)) (fun h=>List.mem_append_right _ h),⟨[],(by apply perm_of_count;intro p;simp only [List.append_eq,List.countP_append,List.countP_cons,List.countP_nil,Nat.zero_add,Nat.add_zero];try ac_rfl)⟩,⟨rfl,rfl,rfl,rfl,rfl,rfl,trivial⟩⟩)|apply v_skip|apply v_condF;(case hc=>rfl)|fail)
    all_goals vx_show
   ·rw [if_neg he] at hM7 hP8
    repeat' (first|(exact hcut _ _ _ ⟨GH.le_trans hle7 hle8,lb,pb,n,a,f,H,_,pre,μ7,μ8,H,_,_,_,by omega,by omega,by omega,hM7.up hle8,hP8,hsub,⟨[],(by apply perm_of_count;intro p;simp only [List.append_eq,List.countP_append,List.countP_cons,List.countP_nil,Nat.zero_add,Nat.add_zero];try ac_rfl)⟩,⟨rfl,rfl,rfl,rfl,rfl,rfl,trivial⟩⟩)|apply v_skip|apply v_condF;(case hc=>rfl)|fail)
    all_goals vx_show
  by_cases k2:kind=2
  ·obtain ⟨g5,l5,hX5⟩:=hM
   have qs:=wsync_s hX5 (by omega) (by omega)
   repeat' (first|apply v_seq|apply v_region|apply v_nil|apply v_pure;(case hop=>first|apply p_move<;>rfl|apply p_eq<;>rfl|apply p_assign<;>rfl|fail);(case hd=>rfl)|apply v_cond;(case hc=>rfl);all_goals (intro h;(try simp only [reduceCtorEq,zzz] at h);try (exfalso;omega))|fail)
   refine v_call (μ1:=μ1) (μ2:=(hb,.cells #[.int .i64 H.pr,.int .i64 H.pn,.int .i64 H.base,.slice A4 H.image.length c4,.slice A5 H.acc.length c5,.slice A6 H.cho.length c6] 27 (0,0))::(sb,.cells (Value.int .i64 kind::.int .i64 sn::.int .i64 smm::recL x.kind x.round x.node x.index x.cmd (.slice A3 x.image.length c3)).toArray 80 (0,0))::μ5) rfl qs (by apply perm_of_count;intro p;simp only [List.append_eq,List.countP_append,List.countP_cons,List.countP_nil,Nat.zero_add,Nat.add_zero];try ac_rfl) rfl ?_
   rintro _ G7 μ7 hle7 ⟨-,hX7⟩
   have qk:=pkeep_s (hP.le hle7)
   repeat' (first|apply v_region|apply v_nil|apply v_pure;(case hop=>(apply p_move<;>rfl));(case hd=>rfl)|fail)
   refine v_call (μ1:=μ5) (μ2:=μ7++[(hb,.cells #[.int .i64 H.pr,.int .i64 H.pn,.int .i64 H.base,.slice A4 H.image.length c4,.slice A5 H.acc.length c5,.slice A6 H.cho.length c6] 27 (0,0)),(sb,.cells (Value.int .i64 kind::.int .i64 sn::.int .i64 smm::recL x.kind x.round x.node x.index x.cmd (.slice A3 x.image.length c3)).toArray 80 (0,0))]) rfl qk (by apply perm_of_count;intro p;simp only [List.append_eq,List.countP_append,List.countP_cons,List.countP_nil,Nat.zero_add,Nat.add_zero];try ac_rfl) rfl ?_
   rintro _ G8 μ8 - ⟨hG8,hP8⟩
   subst hG8
   refine v_perm (ν:=(sb,.cells (Value.int .i64 kind::.int .i64 sn::.int .i64 smm::recL x.kind x.round x.node x.index x.cmd (.slice A3 x.image.length c3)).toArray 80 (0,0))::(hb,.cells #[.int .i64 H.pr,.int .i64 H.pn,.int .i64 H.base,.slice A4 H.image.length c4,.slice A5 H.acc.length c5,.slice A6 H.cho.length c6] 27 (0,0))::(μ7++μ8)) (by apply perm_of_count;intro p;simp only [List.append_eq,List.countP_append,List.countP_cons,List.countP_nil,Nat.zero_add,Nat.add_zero];try ac_rfl) ?_
   refine v_drop (ν:=(hb,.cells #[.int .i64 H.pr,.int .i64 H.pn,.int .i64 H.base,.slice A4 H.image.length c4,.slice A5 H.acc.length c5,.slice A6 H.cho.length c6] 27 (0,0))::(μ7++μ8)) (List.sublist_cons_self _ _) ?_
   repeat' (first|(exact hcut _ _ _ ⟨hle7,lb,pb,n,a,f,H,[(f,H)],[],μ7,μ8,H,_,_,_,by omega,by omega,by simp,⟨_,_,hX7⟩,hP8,fun q hq=>hq,⟨[],(by apply perm_of_count;intro p;simp only [List.append_eq,List.countP_append,List.countP_cons,List.countP_nil,Nat.zero_add,Nat.add_zero];try ac_rfl)⟩,⟨rfl,rfl,rfl,rfl,rfl,rfl,trivial⟩⟩)|apply v_nil)
  by_cases k3:kind=3
  ·have qr:=wrenew_s (hT.le hle05) (hC.le hle05) hM (by omega) (by omega) hst.two hL6'
   repeat' (first|apply v_seq|apply v_region|apply v_nil|apply v_pure;(case hop=>first|apply p_move<;>rfl|apply p_eq<;>rfl|apply p_assign<;>rfl|fail);(case hd=>rfl)|apply v_cond;(case hc=>rfl);all_goals (intro h;(try simp only [reduceCtorEq,zzz] at h);try (exfalso;omega))|apply v_read;(case hop=>(apply r_loadNo;(case hx=>rfl);(case h=>repeat exact mhd _);(case hd=>repeat first|with_reducible exact dt_nil|apply dt_here);(case hn=>rfl)));(case hd=>rfl)|fail)
   refine v_call (μ1:=μ1) (μ2:=(hb,.cells #[.int .i64 H.pr,.int .i64 H.pn,.int .i64 H.base,.slice A4 H.image.length c4,.slice A5 H.acc.length c5,.slice A6 H.cho.length c6] 27 (0,0))::(sb,.cells (Value.int .i64 kind::.int .i64 sn::.int .i64 smm::recL x.kind x.round x.node x.index x.cmd (.slice A3 x.image.length c3)).toArray 80 (0,0))::μ5) rfl qr (by apply perm_of_count;intro p;simp only [List.append_eq,List.countP_append,List.countP_cons,List.countP_nil,Nat.zero_add,Nat.add_zero];try ac_rfl) rfl ?_
   rintro _ G7 μ7 hle7 ⟨-,rfl,hM7⟩
   have qp:=pput_s (f:=2) (hP.le hle7) (by simp;omega) (hL6'.le hle7)
   repeat' (first|apply v_region|apply v_nil|apply v_skip|apply v_pure;(case hop=>first|apply p_move<;>rfl|apply p_nes<;>rfl|fail);(case hd=>rfl)|apply v_condF;(case hc=>rfl)|apply v_read;(case hop=>(apply r_loadNo;(case hx=>rfl);(case h=>repeat first|exact mhd _|apply List.mem_append_right);(case hd=>repeat first|with_reducible exact dt_nil|apply dt_here);(case hn=>rfl)));(case hd=>rfl)|fail)
   refine v_call (μ1:=μ5) (μ2:=μ7++[(hb,.cells #[.int .i64 H.pr,.int .i64 H.pn,.int .i64 H.base,.slice A4 H.image.length c4,.slice A5 H.acc.length c5,.slice A6 H.cho.length c6] 27 (0,0)),(sb,.cells (Value.int .i64 kind::.int .i64 sn::.int .i64 smm::recL x.kind x.round x.node x.index x.cmd (.slice A3 x.image.length c3)).toArray 80 (0,0))]) rfl qp (by apply perm_of_count;intro p;simp only [List.append_eq,List.countP_append,List.countP_cons,List.countP_nil,Nat.zero_add,Nat.add_zero];try ac_rfl) rfl ?_
   rintro _ G8 μ8 - ⟨hG8,hP8⟩
   subst hG8
   repeat' (first|(exact hcut _ _ _ ⟨hle7,lb,pb,n+1,a,2,H,_,pre++[(f,H)],μ7,μ8,H,_,_,_,by omega,by omega,by simp;omega,hM7,hP8,fun q hq=>(List.mem_append.1 hq).elim (fun h=>List.mem_append_left _ (hsub q h)) (fun h=>List.mem_append_right _ h),⟨[(sb,.cells (Value.int .i64 kind::.int .i64 sn::.int .i64 smm::recL x.kind x.round x.node x.index x.cmd (.slice A3 x.image.length c3)).toArray 80 (0,0))],(by apply perm_of_count;intro p;simp only [List.append_eq,List.countP_append,List.countP_cons,List.countP_nil,Nat.zero_add,Nat.add_zero];try ac_rfl)⟩,⟨rfl,rfl,rfl,rfl,rfl,rfl,trivial⟩⟩)|apply v_nil)
  by_cases k4:kind=4
  ·obtain ⟨g5,l5,no5,n5,xs5,L5,ov5,ml5,oM5,ν5,hW,hxH,hL5,h1,h2,h3,rfl⟩:=hM
   have hdk:=hW.dk h1 h2 h3
   have hln:=hdk.len
   have qcr:=crash_s (d:=d) (m:=m) sn smm h1 h2 (fun q hq k b hb=>by have:=(hdk.sok q hq).bd k b hb;omega) h3 (by omega) (fun x hx=>by have:=(hdk.ops x hx).2.1;omega) (hdk.no (by omega))
   rw [dkB_eq]
   repeat' (first|apply v_seq|apply v_region|apply v_nil|apply v_pure;(case hop=>first|apply p_move<;>rfl|apply p_eq<;>rfl|apply p_assign<;>rfl|apply p_fieldAddrB<;>rfl|fail);(case hd=>rfl)|apply v_cond;(case hc=>rfl);all_goals (intro h;(try simp only [reduceCtorEq,zzz] at h);try (exfalso;omega))|apply v_read;(case hop=>(apply r_load1;rfl;(apply Cell.own;(case h=>repeat first|exact mhd _|apply mtl);rfl)));(case hd=>rfl)|fail)
   refine v_call (μ1:=(d,dkO m ov5)::(m,oM5)::ν5) (μ2:=(hb,.cells #[.int .i64 H.pr,.int .i64 H.pn,.int .i64 H.base,.slice A4 H.image.length c4,.slice A5 H.acc.length c5,.slice A6 H.cho.length c6] 27 (0,0))::(sb,.cells (Value.int .i64 kind::.int .i64 sn::.int .i64 smm::recL x.kind x.round x.node x.index x.cmd (.slice A3 x.image.length c3)).toArray 80 (0,0))::(lb,lgO d no5 f L5)::μ5) rfl qcr (by apply perm_of_count;intro p;simp only [List.append_eq,List.countP_append,List.countP_cons,List.countP_nil,Nat.zero_add,Nat.add_zero];try ac_rfl) rfl ?_
   rintro _ G7 _ hle7 ⟨-,ml7,oM7,hM7,hF7,-,rfl⟩
   obtain ⟨p,hpM,hpk,hWB⟩:=hW.crash sn smm
   have hdk7:=hWB.dk hM7 hF7 GrL.nil
   have hle07:=GH.le_trans hle05 hle7
   have qpk:=peek_s (d:=d) (m:=m) (hT.le hle07) (hC.le hle07) hdk7 (by omega)
   refine v_perm (ν:=(hb,.cells #[.int .i64 H.pr,.int .i64 H.pn,.int .i64 H.base,.slice A4 H.image.length c4,.slice A5 H.acc.length c5,.slice A6 H.cho.length c6] 27 (0,0))::(dkB d m (.slice none 0 0) oM7 []++((sb,.cells (Value.int .i64 kind::.int .i64 sn::.int .i64 smm::recL x.kind x.round x.node x.index x.cmd (.slice A3 x.image.length c3)).toArray 80 (0,0))::(lb,lgO d no5 f L5)::μ5))) (by rw [dkB_eq];exact (by apply perm_of_count;intro p;simp only [List.append_eq,List.countP_append,List.countP_cons,List.countP_nil,Nat.zero_add,Nat.add_zero];try ac_rfl)) ?_
   repeat' (first|apply v_seq|apply v_region|apply v_nil|apply v_pure;(case hop=>(apply p_move<;>rfl));(case hd=>rfl)|fail)
   refine v_call (μ1:=dkB d m (.slice none 0 0) oM7 []) (μ2:=(hb,.cells #[.int .i64 H.pr,.int .i64 H.pn,.int .i64 H.base,.slice A4 H.image.length c4,.slice A5 H.acc.length c5,.slice A6 H.cho.length c6] 27 (0,0))::(sb,.cells (Value.int .i64 kind::.int .i64 sn::.int .i64 smm::recL x.kind x.round x.node x.index x.cmd (.slice A3 x.image.length c3)).toArray 80 (0,0))::(lb,lgO d no5 f L5)::μ5) rfl qpk (by apply perm_of_count;intro p;simp only [List.append_eq,List.countP_append,List.countP_cons,List.countP_nil,Nat.zero_add,Nat.add_zero];try ac_rfl) rfl ?_
   rintro _ G8 _ hle8 ⟨-,f8,H8,L8,rfl,hL8,hpk8,rfl⟩
   obtain rfl:=pk_eq hWB hpk8
   have hst8:=hWB.past _ hWB.mem
   have hL8':=hL8
   obtain ⟨iv8,av8,cv8,rfl,hi8,ha8,hcv8⟩:=hL8
   obtain ⟨B0,d0,rfl,-⟩:=id hi8.openInt
   obtain ⟨B1,d1,rfl,-⟩:=id ha8.open
   obtain ⟨B2,d2,rfl,-⟩:=id hcv8.open
   have hle58:=GH.le_trans hle7 hle8
   have qw:=pwas_s (hP.le hle58) (by simp;omega) (hsub _ hpM) hL8'
   repeat' (first|apply v_seq|apply v_region|apply v_nil|apply v_pure;(case hop=>first|apply p_move<;>rfl|apply p_assign<;>rfl|apply p_extract0<;>rfl|apply p_extract1<;>rfl|fail);(case hd=>rfl)|apply v_read;(case hop=>(apply r_loadNo;(case hx=>rfl);(case h=>repeat exact mhd _);(case hd=>repeat first|with_reducible exact dt_nil|apply dt_here);(case hn=>rfl)));(case hd=>rfl)|apply v_alloc;(case hz|hd=>rfl);intro b|apply v_store;(case hp|hx|hc|hsz|h1=>rfl);(case hb=>repeat exact mhd _);(case hfit=>exact nle rfl);(case hov=>((repeat (first|with_reducible exact ov_nil|apply ov_cons));done));(case hu=>repeat (exact Upd.here _ _))|fail)
   revert b
   intro xb
   refine v_call (μ1:=μ5) (μ2:=(xb,.cells #[.int .i64 H8.pr,.int .i64 H8.pn,.int .i64 H8.base,.slice B0 H8.image.length d0,.slice B1 H8.acc.length d1,.slice B2 H8.cho.length d2] 27 (0,0))::(hb,.cells #[.int .i64 H.pr,.int .i64 H.pn,.int .i64 H.base,.slice A4 H.image.length c4,.slice A5 H.acc.length c5,.slice A6 H.cho.length c6] 27 (0,0))::(sb,.cells (Value.int .i64 kind::.int .i64 sn::.int .i64 smm::recL x.kind x.round x.node x.index x.cmd (.slice A3 x.image.length c3)).toArray 80 (0,0))::(lb,lgO d no5 f L5)::dkB d m (.slice none 0 0) oM7 []) rfl qw (by apply perm_of_count;intro p;simp only [List.append_eq,List.countP_append,List.countP_cons,List.countP_nil,Nat.zero_add,Nat.add_zero];try ac_rfl) rfl ?_
   rintro _ G9 μ9 - ⟨hG9,rfl,rfl⟩
   subst hG9
   have qo:=wopen_s (d:=d) (m:=m) (hT.le (GH.le_trans hle07 hle8)) (hC.le (GH.le_trans hle07 hle8)) hWB (by omega) (by omega) (ov:=.slice none 0 0) (ml:=ml7) (oM:=oM7) (ν:=[]) hM7 (hF7.up hle8) GrL.nil 2
   have ho22:=opens22 hst8.form
   simp only [ho22] at qo
   repeat' (first|apply v_seq|apply v_region|apply v_nil|apply v_skip|apply v_pure;(case hop=>first|apply p_move<;>rfl|apply p_not<;>rfl|fail);(case hd=>rfl)|apply v_condF;(case hc=>rfl)|fail)
   refine v_call (μ1:=dkB d m (.slice none 0 0) oM7 []) (μ2:=(xb,.cells #[.int .i64 H8.pr,.int .i64 H8.pn,.int .i64 H8.base,.slice B0 H8.image.length d0,.slice B1 H8.acc.length d1,.slice B2 H8.cho.length d2] 27 (0,0))::(hb,.cells #[.int .i64 H.pr,.int .i64 H.pn,.int .i64 H.base,.slice A4 H.image.length c4,.slice A5 H.acc.length c5,.slice A6 H.cho.length c6] 27 (0,0))::(sb,.cells (Value.int .i64 kind::.int .i64 sn::.int .i64 smm::recL x.kind x.round x.node x.index x.cmd (.slice A3 x.image.length c3)).toArray 80 (0,0))::(lb,lgO d no5 f L5)::μ9) rfl qo (by apply perm_of_count;intro p;simp only [List.append_eq,List.countP_append,List.countP_cons,List.countP_nil,Nat.zero_add,Nat.add_zero];try ac_rfl) rfl ?_
   rintro _ G10 μ10 hle10 (⟨-,-,lb2,L9,l9,rfl,hL9,-,-,hX9⟩|⟨h9,-⟩)
   rotate_left
   ·exact absurd rfl h9
   replace hX9:LogX lb2 d m (n+1) a ([(f8,H8)]++[(f8,H8)]) f8 H8 _ l9 G10 μ10:=hX9
   replace hL9:HdV G10 H8 L9:=hL9
   have hL9':=hL9
   obtain ⟨iv9,av9,cv9,rfl,hi9,ha9,hcv9⟩:=hL9
   obtain ⟨C0,u0,rfl,-⟩:=id hi9.openInt
   obtain ⟨C1,u1,rfl,-⟩:=id ha9.open
   obtain ⟨C2,u2,rfl,-⟩:=id hcv9.open
   have qsm:=hSame_s (hL8'.le hle10) hL9'
   repeat' (first|apply v_seq|apply v_region|apply v_nil|apply v_take;(case hg=>rfl)|apply v_pure;(case hop=>first|apply p_move<;>rfl|apply p_nes<;>rfl|apply p_assign<;>rfl|apply p_pickF<;>rfl|apply p_not<;>rfl|apply p_extract0<;>rfl|apply p_extract1<;>rfl|apply p_extract2<;>rfl|fail);(case hd=>rfl)|apply v_callJ (hs:=qsm);(case ha|hd=>rfl)|apply v_read;(case hop=>(apply r_loadNo;(case hx=>rfl);(case h=>repeat first|exact mhd _|apply mtl|apply List.mem_append_right);(case hd=>repeat first|with_reducible exact dt_nil|apply dt_here);(case hn=>rfl)));(case hd=>rfl)|apply v_alloc;(case hz|hd=>rfl);intro b|apply v_store;(case hp|hx|hc|hsz|h1=>rfl);(case hb=>repeat exact mhd _);(case hfit=>exact nle rfl);(case hov=>((repeat (first|with_reducible exact ov_nil|apply ov_cons));done));(case hu=>repeat (exact Upd.here _ _))|fail)
   revert b
   intro yb
   apply v_condF
   (case hc=>rfl)
   repeat' (first|(rename_i lk fk;exact hcut _ _ _ ⟨GH.le_trans hle58 hle10,lb2,b,n+1,a,f8,H8,_,[],μ10,_,H8,_,_,_,by omega,by omega,by simp,⟨_,_,hX9⟩,one_past (lb:=lk) (fb:=fk) (hL8'.le hle10),fun q hq=>(by simpa using hq),⟨(yb,.cells #[.int .i64 H8.pr,.int .i64 H8.pn,.int .i64 H8.base,.slice C0 H8.image.length u0,.slice C1 H8.acc.length u1,.slice C2 H8.cho.length u2] 27 (0,0))::(xb,.cells #[.int .i64 H8.pr,.int .i64 H8.pn,.int .i64 H8.base,.slice B0 H8.image.length d0,.slice B1 H8.acc.length d1,.slice B2 H8.cho.length d2] 27 (0,0))::(sb,.cells (Value.int .i64 kind::.int .i64 sn::.int .i64 smm::recL x.kind x.round x.node x.index x.cmd (.slice A3 x.image.length c3)).toArray 80 (0,0))::(lb,lgO d no5 f L5)::μ9,(by apply perm_of_count;intro p;simp only [List.append_eq,List.countP_append,List.countP_cons,List.countP_nil,Nat.zero_add,Nat.add_zero];try ac_rfl)⟩,⟨rfl,rfl,rfl,rfl,rfl,rfl,trivial⟩⟩)|apply v_seq|apply v_region|apply v_nil|apply v_skip|apply v_pure;(case hop=>first|apply p_move<;>rfl|apply p_assign<;>rfl|apply p_build;(case hz=>rfl);(case hv=>(simp only [List.map_cons,List.map_nil];repeat (first|with_reducible exact evs_nil|apply evs_cons;(case h1=>rfl))));(case hb=>(apply bldL;repeat (first|exact bld_nil|apply bld_cons;(case hpf|hc|hs|hl=>rfl);(case ho=>((repeat (first|with_reducible exact ov_nil|apply ov_cons));done)))))|fail);(case hd=>rfl)|apply v_read;(case hop=>(apply r_loadNo;(case hx=>rfl);(case h=>repeat first|exact mhd _|apply mtl|apply List.mem_append_right);(case hd=>repeat first|with_reducible exact dt_nil|apply dt_here);(case hn=>rfl)));(case hd=>rfl)|apply v_buildSlice;(case hz|hi=>rfl);(case hv=>(simp only [List.map_cons,List.map_nil];repeat (first|with_reducible exact evs_nil|apply evs_cons;(case h1=>rfl))));(case hp=>(apply pk_cons;(case hc|hs=>rfl);(case h=>(with_reducible exact pk_nil));(case he=>((repeat (first|with_reducible exact ap_nil|apply ap_cons));done))));(case hb|hd=>rfl);intro b|apply v_box;(case hx|hz|hd=>rfl);intro b|apply v_store;(case hp|hx|hc|hsz|h1=>rfl);(case hb=>repeat first|exact mhd _|apply mtl|apply List.mem_append_right);(case hfit=>exact nle rfl);(case hov=>((repeat (first|with_reducible exact ov_nil|apply ov_cons));done));(case hu=>repeat first|exact Upd.here _ _|apply Upd.there|apply Upd.app)|fail)
  ·repeat' (first|(exact hcut _ _ _ ⟨GH.le_refl _,lb,pb,n,a,f,H,M,pre,μ1,μ5,H,_,_,_,by omega,by omega,by omega,hM,hP,hsub,⟨[(sb,.cells (Value.int .i64 kind::.int .i64 sn::.int .i64 smm::recL x.kind x.round x.node x.index x.cmd (.slice A3 x.image.length c3)).toArray 80 (0,0))],(by apply perm_of_count;intro p;simp only [List.append_eq,List.countP_append,List.countP_cons,List.countP_nil,Nat.zero_add,Nat.add_zero];try ac_rfl)⟩,⟨rfl,rfl,rfl,rfl,rfl,rfl,trivial⟩⟩)|apply v_seq|apply v_region|apply v_nil|apply v_skip|apply v_pure;(case hop=>first|apply p_eq<;>rfl|apply p_assign<;>rfl|fail);(case hd=>rfl)|apply v_cond;(case hc=>rfl);all_goals (intro h;(try simp only [reduceCtorEq,zzz] at h);try (exfalso;omega))|fail)
 rintro σ1 G7 μ' ⟨hle7,lb',pb',n',a',f',H',M',pre',ν1,ν2,H10,i10,a10,c10,hn',ha',hp',hM',hP',hsub',⟨rest,hperm⟩,hE⟩
 refine v_perm hperm ?_
 refine v_drop (ν:=(hb,.cells (hdL H10.pr H10.pn H10.base i10 a10 c10).toArray 27 (0,0))::(ν1++ν2)) (List.Sublist.cons_cons _ (List.Sublist.append_left (List.sublist_append_left _ _) _)) ?_
 refine v_has hE ?_
 clear hE
 have hM7:=hM'
 obtain ⟨g7,l7,no7,n7,xs7,L7,ov7,ml7,oM7,ν7,hW7,rfl,hL7,k1,k2,k3,rfl⟩:=hM'
 have qpl':=plast_s hP'
 have qhd:=whard_s (lb:=lb') (d:=d) (no:=no7) (f:=f') hL7 hW7.st.good (by omega)
 generalize hardOf xs7=K at *
 repeat' (first|apply v_seq|apply v_region|apply v_blk|apply v_pure;(case hop=>(apply p_move<;>rfl));(case hd=>rfl)|fail)
 refine v_call (μ1:=ν2) (μ2:=(hb,.cells (hdL H10.pr H10.pn H10.base i10 a10 c10).toArray 27 (0,0))::((lb',lgO d no7 f' L7)::dkB d m ov7 oM7 ν7)) rfl qpl' (by apply perm_of_count;intro p;simp only [List.append_eq,List.countP_append,List.countP_cons,List.countP_nil,Nat.zero_add,Nat.add_zero];try ac_rfl) rfl ?_
 rintro _ G8 ν3 - ⟨hG8,rfl,L8,rfl,hL8⟩
 subst hG8
 have hL8':=hL8
 obtain ⟨iv8,av8,cv8,rfl,hi8,ha8,hcv8⟩:=hL8
 obtain ⟨B0,d0,rfl,-⟩:=id hi8.openInt
 obtain ⟨B1,d1,rfl,-⟩:=id ha8.open
 obtain ⟨B2,d2,rfl,-⟩:=id hcv8.open
 refine v_perm (ν:=(hb,.cells (hdL H10.pr H10.pn H10.base i10 a10 c10).toArray 27 (0,0))::(lb',lgO d no7 f' L7)::(dkB d m ov7 oM7 ν7++ν3)) (by apply perm_of_count;intro p;simp only [List.append_eq,List.countP_append,List.countP_cons,List.countP_nil,Nat.zero_add,Nat.add_zero];try ac_rfl) ?_
 repeat' (first|apply v_seq|apply v_nil|apply v_pure;(case hop=>first|apply p_move<;>rfl|apply p_assign<;>rfl|apply p_extract0<;>rfl|apply p_extract1<;>rfl|fail);(case hd=>rfl)|apply v_store;(case hp|hx|hc|hsz|h1=>rfl);(case hb=>repeat exact mhd _);(case hfit=>exact nle rfl);(case hov=>((repeat (first|with_reducible exact ov_nil|apply ov_cons));done));(case hu=>repeat (exact Upd.here _ _))|fail)
 refine d_start [(hb,.cells #[.int .i64 K.pr,.int .i64 K.pn,.int .i64 K.base,.slice B0 K.image.length d0,.slice B1 K.acc.length d1,.slice B2 K.cho.length d2] 27 (0,0))] (by kernel_rfl) (by kernel_rfl) (by kernel_rfl) (by intro e he;(simp at he;simp [he];done)) ?_
 all_goals (apply dtm 0;(case hi|hx=>rfl);(case hq=>kernel_rfl);apply dtk 2;(case hi=>rfl);(case hop=>first|apply r_loadNo;(case hx=>rfl);(case h=>repeat exact mhd _);(case hd=>repeat first|with_reducible exact dt_nil|apply dt_here);(case hn=>rfl)|apply r_load1;rfl;(apply Cell.own;(case h=>repeat fail);rfl)|apply r_loadN;rfl;(apply CellsAt.own;(case h=>repeat fail));rfl);(case hq=>kernel_rfl))
 all_goals ((apply d_call 1 (hs:=qhd) (μ1:=[(lb',lgO d no7 f' L7)]) (μ2:=(hb,.cells #[.int .i64 K.pr,.int .i64 K.pn,.int .i64 K.base,.slice B0 K.image.length d0,.slice B1 K.acc.length d1,.slice B2 K.cho.length d2] 27 (0,0))::(dkB d m ov7 oM7 ν7++ν3));(case hi=>rfl);(case hr=>kernel_rfl);(case ha=>rfl);(case hp=>exact (by apply perm_of_count;intro p;simp only [List.append_eq,List.countP_append,List.countP_cons,List.countP_nil,Nat.zero_add,Nat.add_zero];try ac_rfl));(case hd=>rfl);(case hν'=>intro e he;rw [List.mem_singleton] at he;rw [he];repeat (exact mhd _));rintro _ G9 _ hle9 ⟨-,rfl,L9,rfl,hL9⟩))
 all_goals (apply d_callJ 3 (hs:=(hSame_s hL9 (hL8'.le hle9)));(case hi=>rfl);(case hr=>kernel_rfl);(case ha|hd=>rfl))
 all_goals (apply dtk 4;(case hi=>rfl);(case hop=>(apply prd;apply p_not<;>rfl));(case hq=>kernel_rfl);apply dtm 5;(case hi|hx=>rfl);(case hq=>kernel_rfl))
 all_goals (try (apply d_guardB 6;(case hi|hgd|h1|h2=>rfl);all_goals (intro h;(try simp only [reduceCtorEq,zzz] at h))))
 all_goals (apply dtg 6;(case hi|hg=>rfl);(case hop=>(apply prd;apply p_move<;>rfl));(case hq=>kernel_rfl))
 all_goals (try (apply d_guardB 8;(case hi|hgd|h1|h2=>rfl);all_goals (intro h;(try simp only [reduceCtorEq,zzz] at h))))
 all_goals (apply dtg 8;(case hi|hg=>rfl);(case hop=>(apply prd;apply p_move<;>rfl));(case hq=>kernel_rfl))
 all_goals (try (apply d_guardB 7;(case hi|hgd|h1|h2=>rfl);all_goals (intro h;(try simp only [reduceCtorEq,zzz] at h))))
 all_goals ((apply d_callG 7 (hs:=wformat_s _) (μ1:=[(lb',lgO d no7 f' L7)]) (μ2:=(hb,.cells #[.int .i64 K.pr,.int .i64 K.pn,.int .i64 K.base,.slice B0 K.image.length d0,.slice B1 K.acc.length d1,.slice B2 K.cho.length d2] 27 (0,0))::(dkB d m ov7 oM7 ν7++ν3));(case hi|hg=>rfl);(case hr=>kernel_rfl);(case ha=>rfl);(case hp=>exact (by apply perm_of_count;intro p;simp only [List.append_eq,List.countP_append,List.countP_cons,List.countP_nil,Nat.zero_add,Nat.add_zero];try ac_rfl));(case hd=>rfl);(case hν'=>intro e he;rw [List.mem_singleton] at he;rw [he];repeat (exact mhd _));rintro _ G10 _ - ⟨rfl,hG10,rfl⟩;subst hG10))
 all_goals (try (apply d_guardB 9;(case hi|hgd|h1|h2=>rfl);all_goals (intro h;(try simp only [reduceCtorEq,zzz] at h))))
 all_goals (apply dtg 9;(case hi|hg=>rfl);(case hop=>(apply prd;apply p_nes<;>rfl));(case hq=>kernel_rfl);apply dtk 10;(case hi=>rfl);(case hop=>(apply prd;apply p_pickF<;>rfl));(case hq=>kernel_rfl))
 all_goals (apply d_done;(case hr=>kernel_rfl))
 all_goals repeat' (first|apply v_region|apply v_nil|apply v_skip|apply v_blk|apply v_pure;(case hop=>first|apply p_move<;>rfl|apply p_assign<;>rfl|apply p_add;(case hx|hy=>rfl);(case h=>omega)|fail);(case hd=>rfl)|apply v_condF;(case hc=>rfl)|fail)
 all_goals
  (refine v_drop (ν:=[(lb',lgO d no7 f' L7)]++(dkB d m ov7 oM7 ν7++ν3)) (List.Sublist.append_left (List.sublist_cons_self _ _) _) ?_
   exact v_again rfl ⟨GH.le_trans hle5 (GH.le_trans hle7 hle9),k+1,lb',pb',n',a',f',K,M',pre',(lb',lgO d no7 f' L7)::dkB d m ov7 oM7 ν7,ν3,by omega,hn',ha',hp',rfl,hM7.up hle9,hP'.le hle9,hsub',rfl⟩ (by simp [headI];omega))
theorem walCrashes_law {W:World}{v0:Value}(hT:TabsG (ghost W)∧CrcG (ghost W)) (g0:∃ l,Stps (ghost W) v0 l):LawCon Tryz.prog 9 #[v0] W:=by
 obtain ⟨l,hr⟩:=g0
 exact walCrashes_main hT.1 hT.2 hr
theorem clos_laid:laidOutB Tryz.prog=true:=by kernel_rfl
theorem clos_rowed:mapsRowed Tryz.prog=true:=by kernel_rfl
theorem clos_heard:Tryz.prog.stopsHeard=true:=by kernel_rfl
theorem clos_may:Tryz.prog.mayEnter=true:=by kernel_rfl
theorem clos_lifts:(Rows.segmHeadsRow.lifted == Tryz.prog.liftsFinal)=true:=by kernel_rfl
theorem clos_make:(Tryz.prog.make == some Rows.segmHeadsRow.make)=true:=by kernel_rfl
theorem clos_plain:(Rows.segmHeadsRow.plainKeys == Tryz.prog.plainKeys)=true:=by kernel_rfl
theorem clos_main:Tryz.prog.mainIs=some (true, "ff985d4a2c195d2b053ff752d8f9403905b3d56cfab988831be32c96f38effc7".toList):=by kernel_rfl
theorem clos_looks:true=Tryz.prog.looks []:=by kernel_rfl
theorem walCrashes_own : ownKnob Tryz.prog.godebug = none := by kernel_rfl
theorem walCrashes_laidOut : laidOutB Tryz.prog = true := clos_laid
theorem walCrashes_spec : LawSpec Rows.walCrashesSpec 1 := ⟨rfl, fun H ds h => by match ds, h with | [d0], _ => rfl⟩
set_option maxRecDepth 100000 in
theorem walCrashes_lifted (os : Os) (started : os.Started) (H : Type) (enc : TypeId × Value → H) :
    ReturnsInHanded {} Tryz.checked os 9 .any (fun w args => (Rows.walCrashesSpec.pre enc Tryz.prog Tryz.f9 Rows.walCrashesRow.domain false w args ∧ laidMetH Tryz.prog tabsLaid3 w) ∧ sizedMet enc Tryz.prog Tryz.f9 (OpenSpec.ofChange Rows.walCrashesSpec) false w args)
      (Rows.walCrashesSpec.post enc Tryz.prog Tryz.f9 false true false false) := by
  refine returnsInHanded_of_change_and (C := Tryz.checked) (X := fun w _ => laidMetH Tryz.prog tabsLaid3 w) (fun _ _ _ hh h => h.of_heap hh) walCrashes_own started (by kernel_rfl) Tryz.func9
    (ChangeSpec.witness_shaped (enc := enc) (C := Tryz.checked) (os := os) (X := fun w _ => laidMetH Tryz.prog tabsLaid3 w) false (World.laidAll Tryz.prog os tabsLaid3) #[.slice none 0 0] 8 (World.laidAll_os _ _ _)
      (World.shaped_of_ZipB (by kernel_rfl) (by kernel_rfl)) (by kernel_rfl) (by kernel_rfl) (by kernel_rfl)
      (by rw [MakeChecks.laidMetH_plain _ _ _ tabs3_plain]; exact laidMet_laidAll _ (by kernel_rfl) (by kernel_rfl))) ?_
  intro W base args ds gs before hval0 hW hcnd _ hL _
  have hval : ∀ (j : Nat) t v, Tryz.f9.params[j]? = some t → args[j]? = some v → Value.okWide Tryz.prog W .any base t v := hval0
  refine law_post walCrashes_laidOut Tryz.underlying4 rfl walCrashes_spec rfl (by kernel_rfl) hW ?_
  obtain ⟨p, q, hA0, hV, rfl, hfz, hnd⟩ := hW
  have hA : DataW.TrodAll enc Tryz.prog W 0 (fun _ => true) true Tryz.f9.params.toList args.toList ds p := hA0
  rw [Tryz.params9] at hA hval
  obtain ⟨v0, vs0, d0, ds0, p0, q0, hargs, rfl, rfl, h0, r0⟩ := trodAll_cons hA
  obtain ⟨rfl, rfl, rfl⟩ := trodAll_nil r0
  obtain rfl : args = #[v0] := by cases args; simp_all
  have g0 := arg_t75 (hval 0 75 v0 rfl rfl) h0
  exact walCrashes_law (tabs3_of_laid hL) g0
theorem walCrashes_c_inPlace : (Rows.walCrashesRow.inPlace == Tryz.prog.inPlace 9) = true := by kernel_rfl
theorem walCrashes_c_unfollowed : (Rows.walCrashesRow.unfollowed == Tryz.prog.unfollowed 9) = true := by kernel_rfl
theorem walCrashes_c_recurses : (Rows.walCrashesRow.recurses == Tryz.prog.recurses 9) = true := by kernel_rfl
theorem walCrashes_c_named : (Rows.walCrashesRow.named == Tryz.prog.varsNamed 9) = true := by kernel_rfl
theorem walCrashes_c_lifted : (Rows.walCrashesRow.lifted == Tryz.prog.liftsFinal) = true := clos_lifts
theorem walCrashes_c_make : (Tryz.prog.make == some Rows.walCrashesRow.make) = true := clos_make
theorem walCrashes_c_plainKeys : (Rows.walCrashesRow.plainKeys == Tryz.prog.plainKeys) = true := clos_plain
theorem walCrashes_closed : joinedFacts Tryz.prog 9 Tryz.f9 Rows.walCrashesSpec Rows.walCrashesRow = true := by
  unfold joinedFacts
  rw [clos_laid, clos_rowed, clos_heard, clos_may, walCrashes_c_inPlace, walCrashes_c_unfollowed, walCrashes_c_recurses, walCrashes_c_named, walCrashes_c_lifted, walCrashes_c_make, walCrashes_c_plainKeys]
  kernel_rfl
theorem walCrashes_over : Rows.walCrashesRow.holds Tryz.pinned (OpenSpec.ofChange Rows.walCrashesSpec) :=
  OpenClaim.holds_of_wide 9 Tryz.f9 rfl rfl rfl rfl rfl rfl rfl ⟨rfl, rfl, rfl, rfl, rfl⟩ rfl rfl rfl rfl rfl (by kernel_rfl) Tryz.func9 walCrashes_closed
    (of_decide_eq_true (by kernel_rfl)) (by unfold Func.isWrapper; first | (rw [if_pos (by decide +kernel)]; kernel_rfl) | (rw [if_neg (by decide +kernel)]; exact ⟨rfl, rfl⟩))
    (fun os started H enc _ => walCrashes_lifted os started H enc)
theorem walCrashes_holds : Rows.WalCrashesSaid := walCrashes_over
theorem walCrashes_c_wft : Rows.walCrashesRow.wfByText (OpenSpec.ofChange Rows.walCrashesSpec) = true := by kernel_rfl
theorem walCrashes_c_func : Tryz.prog.funcNamed Rows.walCrashesRow.func = some 9 := by kernel_rfl
theorem walCrashes_c_stand : ([75].all fun u => !Tryz.prog.wantsStandIn u) = true := by kernel_rfl
theorem walCrashes_c_goes : false = Rows.walCrashesRow.goesBy Tryz.prog := by kernel_rfl
theorem walCrashesCard_holds : Rows.WalCrashesCardSaid :=
  Claim7.holds_tied_plain_at .later [] [.data, .data, .pinned] true (true, "ff985d4a2c195d2b053ff752d8f9403905b3d56cfab988831be32c96f38effc7") true walCrashes_holds (fun _ h => by cases h) walCrashes_c_wft (fun _ h => by cases h) walCrashes_row_tie rfl ⟨rfl, rfl⟩ clos_main rfl
    (fun f fn hf hfn => by
      obtain rfl : f = 9 := Option.some.inj (walCrashes_c_func.symm.trans hf) |>.symm
      obtain rfl : fn = Tryz.f9 := (Option.some.inj (Tryz.func9.symm.trans hfn)).symm
      exact ⟨clos_looks, fun j t ht => by
        rw [Tryz.params9] at ht
        have hm : t ∈ [75] := by simpa using Array.mem_of_getElem? ht
        exact (show Tryz.prog.wantsStandIn t = false by simpa using List.all_eq_true.1 walCrashes_c_stand t hm)⟩)
    walCrashes_c_goes
end Go.Proofs.YtpemabgfmnhhnaaGreatDoor
