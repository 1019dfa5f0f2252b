/-
  The library's iterators at texts: slices.AppendSeq, slices.Collect, slices.Sorted; maps.Keys of the machine's map.
-/
import Derived.Test.YtlkakbjcolgjbaaGreatDoorM3
import Derived.Test.YtlkakbjcolgjbaaGreatDoorM1
import Derived.Test.YtlkakbjcolgjbaaGreatDoorM2
import Derived.Lib.LaidU8T
import Derived.MakeChecks
import Derived.Test.YtlkakbjcolgjbaaGreatDoorRows
import Derived.WideKeyRuns
set_option linter.unusedSimpArgs false
set_option linter.unusedVariables false
namespace Go.Proofs.YtlkakbjcolgjbaaGreatDoor
open Go.Vx Go.ChangeShapes Go.WideShapes Go.ChangeAt Go.RowKit
instance keyT_str:KeyT Tryz.prog 9 keyS:=KeyT.string
theorem leftT_perm {left:List ByteArray}{a:ByteArray}(hn:left.Nodup) (ha:a∈left):left.Perm (a::left.filter fun z=>decide (z≠a)):=by
 refine (List.perm_ext_iff_of_nodup hn ?_).2 fun x=>?_
 ·rw [List.nodup_cons]
  exact ⟨by simp,hn.sublist List.filter_sublist⟩
 ·simp only [List.mem_cons,List.mem_filter,decide_eq_true_eq]
  by_cases hx:x=a
  ·subst hx;simp [ha]
  ·simp [hx]
theorem Grow.casesT {e:TypeId}{v:Value}{m:Nat}{xs:List Value}{ν:OH}(h:Grow e 1 v m xs ν):(v=.slice none 0 0∧m=0∧xs=[]∧ν=[])∨∃ b cap spare,v=.slice (some ⟨b,0,none⟩) m cap∧m≤cap∧cap≤maxLen∧ν=[(b,.cells (xs++spare).toArray e (0,0))]∧xs.length=m∧(xs++spare).length=cap:=by
 obtain ⟨hx,⟨rfl,rfl,rfl⟩|⟨b,cap,spare,rfl,rfl,h1,h2,h3⟩⟩:=h
 ·left
  exact ⟨rfl,rfl,by simpa using hx,rfl⟩
 ·right
  exact ⟨b,cap,spare,rfl,h1,h2,rfl,by simpa using hx,by simpa using h3⟩
theorem growT_of {e:TypeId}{b m cap:Nat}{xs spare:List Value}(h1:xs.length=m) (h2:m≤cap) (h3:cap≤maxLen) (h4:(xs++spare).length=cap):Grow e 1 (.slice (some ⟨b,0,none⟩) m cap) m xs [(b,.cells (xs++spare).toArray e (0,0))] :=
 ⟨by omega,.inr ⟨b,cap,spare,rfl,rfl,h2,h3,by omega⟩⟩
theorem keysT_s {G:GH}{m:Nat}:Con Tryz.prog 44 #[.map (some m)] G []
 (fun r G' μ'=>∃ b,r=.func (.func 58) #[] #[.pointer (some ⟨b,0,none⟩)]∧G'=G∧μ'=[(b,.cells [Value.map (some m)].toArray 80 (0,0))]):=by
 (refine v_enter Tryz.func44 rfl Tryz.ntmps44 rfl ?_;intro B _)
 repeat' (first|apply v_seq|apply v_region|apply v_nil|apply v_pure;(case hop=>first|apply p_assign<;>rfl|apply p_makeFunc<;>rfl);(case hd=>rfl)|apply v_box;(case hx|hz|hd=>rfl);intro b|fail)
 refine v_ret [(b,_)] (outsA1 rfl rfl) (by repeat (exact List.Sublist.refl _)) ?_
 exact ⟨b,rfl,rfl,rfl⟩
theorem keysT_seq {G:GH}{l:List (ByteArray×Value)}{m b:Nat}{oM:Obj}(hM:MapB keyS l oM):SeqCon Tryz.prog 58 [.pointer (some ⟨b,0,none⟩)] keyS (fun xs=>xs.Perm (l.map (·.1))) l.length G [(b,.cells [Value.map (some m)].toArray 80 (0,0)),(m,oM)]:=by
 intro lp J G1 ν hle hJ0 hY
 have hnd:=hM.nodup
 (refine v_enter Tryz.func58 rfl Tryz.ntmps58 rfl ?_;intro B _)
 repeat' (first|apply v_seq|apply v_region|apply v_nil|apply v_block|apply v_rangeM (hb:=(by repeat (first|exact mhd _|apply mtl))) (hM:=hM);(case hx|hd=>rfl);intro it oI hI|apply v_read;(case hop=>(apply r_load1;rfl;(apply Cell.own;(case h=>repeat exact mhd _);rfl)));(case hd=>rfl)|fail)
 refine v_loopI (ι:=List ByteArray×List ByteArray) [5,0] (fun i vs G' μ'=>GH.le G1 G'∧∃ ν' oI,IterB keyS m l i.2 oM oI∧i.2.Nodup∧(i.1++i.2).Perm (l.map (·.1))∧vs=[.pointer (some ⟨it,0,none⟩),.func (.yield lp) #[] #[]]∧J i.1 G' ν'∧μ'=(it,oI)::(b,.cells [Value.map (some m)].toArray 80 (0,0))::(m,oM)::ν') (fun i=>i.2.length) rfl ([],l.map (·.1)) ⟨GH.le_refl _,ν,oI,hI,hnd,List.Perm.refl _,rfl,hJ0,rfl⟩ ?_
 rintro ⟨pre,left⟩ vs G' _ ⟨hle',ν',oI',hI',hn,hper,rfl,hJ,rfl⟩
 simp only at hI' hn hper hJ
 have hlen:=hper.length_eq
 rw [List.length_append,List.length_map] at hlen
 repeat' (first|apply v_seq|apply v_region|apply v_nextM (k:=9) (hb:=(by repeat (first|exact mhd _|apply mtl))) (hI:=hI');(case hx=>rfl);(case hp=>exact List.Perm.refl _);(case hd=>rfl)|fail)
 ·intro h0
  subst h0
  repeat' (first|apply v_seq|apply v_nil|apply v_exit;(case hp=>rfl)|apply v_pure;(case hop=>(apply p_extract0<;>rfl));(case hd=>rfl)|apply v_condF;(case hc=>rfl)|fail)
  refine v_end ([(b,_),(m,oM)]++ν') (outsA0 rfl) (by repeat (first|exact List.Sublist.refl _|apply List.Sublist.cons)) ?_
  exact ⟨pre,ν',by simpa using hper,hJ,rfl⟩
 ·intro a u oI2 ha hau hI2 hE
  have hy:=hY pre a G' ν' hle' hJ (by
   have:0<left.length:=List.length_pos_of_mem ha
   omega)
  have hlp:=leftT_perm hn ha
  repeat' (first|apply v_seq|apply v_region|apply v_nil|apply v_skip|apply v_block|apply v_blk|apply v_pure;(case hop=>first|apply p_move<;>rfl|apply p_assign<;>rfl|apply p_not<;>rfl|apply p_extract0<;>rfl|fail);(case hd=>rfl)|apply v_condT;(case hc=>rfl)|apply v_condF;(case hc=>rfl)|apply v_read;(case hop=>apply r_entry (hE:=hE);(case hx=>rfl);(case hi=>repeat (exact mhd _));(case hb=>repeat first|exact mhd _|apply mtl));(case hd=>rfl)|apply v_yield (hs:=hy);(case hx|ha=>rfl);(case hp=>exact (List.perm_append_comm (l₁:=[(it,oI2),(b,Obj.cells [Value.map (some m)].toArray 80 (0,0)),(m,oM)]) (l₂:=ν')));(case hd=>rfl);rintro _ G2 ν2 hle2 ⟨rfl,hJ2⟩|fail)
  refine v_perm List.perm_append_comm ?_
  refine v_againI (pre++[a],left.filter fun z=>decide (z≠a)) rfl ⟨GH.le_trans hle' hle2,ν2,oI2,hI2,hn.sublist List.filter_sublist,?_,rfl,hJ2,rfl⟩ ?_
  ·refine List.Perm.trans ?_ hper
   simp only [List.append_assoc,List.singleton_append]
   exact List.Perm.append_left _ hlp.symm
  ·have:=hlp.length_eq
   simp only [List.length_cons] at this ⊢
   omega
theorem appendSeqT_s {G:GH}{gf:FuncId} [Callable Tryz.prog gf] {lb:List Value}{S:List ByteArray→Prop}{N:Nat}{μ1:OH}(hN:N≤1048576) (hseq:SeqCon Tryz.prog gf lb keyS S N G μ1) :
 Con Tryz.prog 64 #[.slice none 0 0,.func (.func gf) #[] lb.toArray] G μ1 (fun r G' μ'=>G'=G∧∃ xs ν,S xs∧Grow 9 1 r xs.length (xs.map Value.string) ν∧μ'=ν++μ1):=by
 (refine v_enter Tryz.func64 rfl Tryz.ntmps64 rfl ?_;intro B _)
 repeat' (first|apply v_seq|apply v_region|apply v_nil|apply v_block|apply v_pure;(case hop=>first|apply p_move<;>rfl|apply p_assign<;>rfl);(case hd=>rfl)|apply v_box;(case hx|hz|hd=>rfl);intro b|fail)
 refine v_rangeFunc (enc:=keyS) (N:=N) (S:=S) (μ1:=μ1) (μ2:=[(b,.cells [.slice none 0 0].toArray 86 (0,0))]) (σ':=fun x=>_) (fun pre G' ν=>G'=G∧∃ v ν1,Grow 9 1 v pre.length (pre.map Value.string) ν1∧ν=ν1++[(b,.cells [v].toArray 86 (0,0))]) rfl hseq ?_ rfl (fun x=>Assigns.region (.cons (p_assign rfl) rfl (.nil _))) rfl ⟨rfl,_,[],Grow.nil _ _,rfl⟩ ?_ ?_
 ·exact (List.perm_append_comm (l₁:=[(b,Obj.cells [Value.slice none 0 0].toArray 86 (0,0))]) (l₂:=μ1))
 ·rintro l B' _ pre x G2 _ hle ⟨rfl,v,ν1,hg,rfl⟩ hlen
  have hpl:pre.length≤1048576:=by omega
  repeat' (first|apply v_region|apply v_nil|apply v_block|apply v_blk|apply v_pure;(case hop=>(apply p_move<;>rfl));(case hd=>rfl)|apply v_append (hg:=hg) (m':=1) (us:=[keyS x]) (hp:=PickA.perm (by repeat (first|exact PickA.here _|apply PickA.cons))) (hsrc:=Src.own (e:=9) (by repeat (exact mhd _)) rfl);(case hzs=>rfl);(case hsz=>omega);(case hs|hx=>rfl);(case hb=>omega);(case hb'=>simp only [maxLen];omega);(case hd|h1=>rfl);intro v3 n3 hg3;obtain ⟨A3,c3,rfl,-,-⟩:=hg3.shape|apply v_read;(case hop=>(apply r_load1;rfl;(apply Cell.own;(case h=>repeat first|exact mhd _|apply List.mem_append_right);rfl)));(case hd=>rfl)|apply v_buildSlice;(case hz|hi=>rfl);(case hv=>(simp only [List.map_cons,List.map_nil];repeat (first|with_reducible exact evs_nil|apply evs_cons;(case h1=>rfl))));(case hp=>(apply pk_cons;(case hc|hs=>rfl);(case h=>(with_reducible exact pk_nil));(case he=>((repeat (first|with_reducible exact ap_nil|apply ap_cons));done))));(case hb|hd=>rfl);intro b|apply v_store;(case hp|hx|hc|hsz|h1=>rfl);(case hb=>repeat first|exact mhd _|apply mtl|apply List.mem_append_right);(case hfit=>exact nle rfl);(case hov=>((repeat (first|with_reducible exact ov_nil|apply ov_cons));done));(case hu=>repeat first|exact Upd.here _ _|apply Upd.there|apply Upd.app)|fail)
  refine v_endR (n3++[_]) (List.Sublist.append_left (by repeat (first|exact List.Sublist.refl _|apply List.Sublist.cons)) _) ⟨rfl,rfl,_,n3,by simpa using hg3,rfl⟩
 ·rintro B' D _ xs G2 _ hle hS ⟨rfl,v,ν1,hg,rfl⟩
  repeat' (first|apply v_seq|apply v_region|apply v_nil|apply v_blk|apply v_pure;(case hop=>(apply p_assign<;>rfl));(case hd=>rfl)|apply v_read;(case hop=>(apply r_load1;rfl;(apply Cell.own;(case h=>repeat first|exact mhd _|apply mtl|apply List.mem_append_right);rfl)));(case hd=>rfl)|fail)
  refine v_retD (Ds:=[D]) (μ1:=(ν1++μ1)++[(b,.cells [v].toArray 86 (0,0))]) (ν1++μ1) (fun ds a ha w _=>outs1 rfl rfl ds a ha) ?_ (List.sublist_append_left _ _) ⟨rfl,xs,ν1,hS,hg,rfl⟩
  exact (show List.Perm (μ1++(ν1++[(b,Obj.cells [v].toArray 86 (0,0))])) (ν1++μ1++[(b,Obj.cells [v].toArray 86 (0,0))]) from (by apply perm_of_count;intro p;simp only [List.append_eq,List.countP_append,List.countP_cons,List.countP_nil,Nat.zero_add,Nat.add_zero];try ac_rfl)).cons _
theorem collectT_s {G:GH}{gf:FuncId} [Callable Tryz.prog gf] {lb:List Value}{S:List ByteArray→Prop}{N:Nat}{μ1:OH}(hN:N≤1048576) (hseq:SeqCon Tryz.prog gf lb keyS S N G μ1) :
 Con Tryz.prog 56 #[.func (.func gf) #[] lb.toArray] G μ1 (fun r G' μ'=>G'=G∧∃ xs ν,S xs∧Grow 9 1 r xs.length (xs.map Value.string) ν∧μ'=ν++μ1):=by
 have q:=appendSeqT_s hN hseq
 (refine v_enter Tryz.func56 rfl Tryz.ntmps56 rfl ?_;intro B _)
 repeat' (first|apply v_seq|apply v_region|apply v_nil|apply v_pure;(case hop=>first|apply p_move<;>rfl|apply p_assign<;>rfl);(case hd=>rfl)|fail)
 refine v_call (μ1:=μ1) (μ2:=[]) rfl q (by simp) rfl ?_
 rintro r _ _ - ⟨rfl,xs,ν,hS,hg,rfl⟩
 repeat' (first|apply v_nil|apply v_pure;(case hop=>(apply p_assign<;>rfl));(case hd=>rfl)|fail)
 refine v_ret (ν++μ1) (outsA1 rfl rfl) (by simp) ⟨rfl,xs,ν,hS,hg,rfl⟩
theorem sortedT_s {G:GH}{gf:FuncId} [Callable Tryz.prog gf] {lb:List Value}{S:List ByteArray→Prop}{N:Nat}{μ1:OH}(hN:N≤1048576) (hS:∀ xs,S xs→xs.length≤1048576) (hseq:SeqCon Tryz.prog gf lb keyS S N G μ1) :
 Con Tryz.prog 43 #[.func (.func gf) #[] lb.toArray] G μ1 (fun r G' μ'=>G'=G∧∃ xs ν,S xs∧Grow 9 1 r xs.length ((sortT xs).map Value.string) ν∧μ'=ν++μ1):=by
 have q:=collectT_s hN hseq
 (refine v_enter Tryz.func43 rfl Tryz.ntmps43 rfl ?_;intro B _)
 repeat' (first|apply v_seq|apply v_region|apply v_nil|apply v_pure;(case hop=>first|apply p_move<;>rfl|apply p_assign<;>rfl);(case hd=>rfl)|fail)
 refine v_call (μ1:=μ1) (μ2:=[]) rfl q (by simp) rfl ?_
 rintro r G1 _ - ⟨rfl,xs,ν,hSx,hg,rfl⟩
 have hlen:=hS _ hSx
 obtain ⟨rfl,h0,h1,rfl⟩|⟨b,cap,spare,rfl,hc,hm,rfl,hxl,hcl⟩:=Grow.casesT hg
 ·have hx0:xs=[]:=List.eq_nil_of_length_eq_zero h0
  subst hx0
  repeat' (first|apply v_seq|apply v_region|apply v_nil|apply v_pure;(case hop=>first|apply p_move<;>rfl|apply p_assign<;>rfl);(case hd=>rfl)|apply v_call (hs:=sortT0_s);(case ha=>rfl);(case hp=>exact List.Perm.refl _);(case hd=>rfl);rintro _ _ _ _ ⟨rfl,rfl,rfl⟩|fail)
  refine v_ret μ1 (outsA1 rfl rfl) (by simp) ⟨rfl,[],[],hSx,by simpa [sortT] using Grow.nil _ _,rfl⟩
 ·have q2:=sortT_s (G:=G1) (zs:=xs) (b:=b) (cap:=cap) (e:=9) (spare:=spare) (by omega)
  repeat' (first|apply v_seq|apply v_region|apply v_nil|apply v_pure;(case hop=>first|apply p_move<;>rfl|apply p_assign<;>rfl);(case hd=>rfl)|fail)
  refine v_call (μ1:=[(b,_)]) (μ2:=μ1) rfl q2 (by simp) rfl ?_
  rintro _ G2 _ hle2 ⟨rfl,rfl,rfl⟩
  repeat' (first|apply v_seq|apply v_region|apply v_nil|apply v_pure;(case hop=>first|apply p_move<;>rfl|apply p_assign<;>rfl);(case hd=>rfl)|fail)
  refine v_ret ([(b,_)]++μ1) (outsA1 rfl rfl) (List.Sublist.refl _) ⟨rfl,xs,_,hSx,growT_of (by simp [(sortT_perm xs).length_eq]) hc hm (by simpa [(sortT_perm xs).length_eq] using hcl),rfl⟩
abbrev kA:ByteArray:=⟨#[97]⟩
abbrev emp:St:=⟨1,[],[]⟩
theorem keyA:keyB kA=true:=by decide +kernel
theorem sesP_nil:SesP []:=⟨fun i hi=>by simp at hi,fun x hx=>by simp at hx⟩
theorem emp_ok:StP emp:=stP_iff.2 ⟨sesP_nil,.inl rfl,⟨by simp,List.Pairwise.nil,fun x hx=>by simp at hx⟩,fun _=>rfl⟩
theorem which_nil (n q:Int):whichS [] n q=(0,zA):=by unfold whichS;rw [if_pos (show hitG ksS ([]:List Ss) n=false from rfl)]
abbrev D0:List Ls:=List.replicate 9 zLs
theorem mach0:MachR emp D0:=⟨rfl,by decide⟩
theorem map0:MapP [] (.map #[] 0):=⟨[],List.Perm.refl _,MapB.nil⟩
theorem mnew_s (G:GH):Con Tryz.prog 22 #[] G [] (fun r G' μ'=>G'=G∧∃ mb kb,r=.pointer (some ⟨mb,0,none⟩)∧μ'=[(mb,mcO kb false D0),(kb,.map #[] 0)]):=by
 (refine v_enter Tryz.func22 rfl Tryz.ntmps22 rfl ?_;intro B _)
 repeat' (first|apply v_box (d:=3) (zs:=mcV kb false D0);(case hx|hz|hd=>rfl);intro mb|apply v_seq|apply v_region|apply v_nil|apply v_pure;(case hop=>first|apply p_assign<;>rfl|apply p_build;(case hz=>rfl);(case hv=>(simp only [List.map_cons,List.map_nil];repeat (first|with_reducible exact evs_nil|apply evs_cons;(case h1=>rfl))));(case hb=>(apply bldL;repeat (first|exact bld_nil|apply bld_cons;(case hpf|hc|hs|hl=>rfl);(case ho=>((repeat (first|with_reducible exact ov_nil|apply ov_cons));done)))))|fail);(case hd=>rfl)|apply v_makeMap;(case hd=>rfl);intro kb|fail)
 exact v_ret [(mb,mcO kb false D0),(kb,.map #[] 0)] (outsA1 rfl rfl) (by repeat (exact List.Sublist.refl _)) ⟨rfl,mb,kb,rfl,rfl⟩
theorem sorted_keys {L l:List Pr}(hp:L.Perm l) (hr:RiseW ksP l) (hz:Sized l) {xs:List ByteArray}(hx:xs.Perm ((L.map prE).map (·.1))):sortT xs=l.map (·.key):=by
 rw [prE_keys] at hx
 have h1:(sortT xs).Perm (l.map (·.key)):=(sortT_perm xs).trans (hx.trans (hp.map _))
 have hzx:∀ s∈xs,s.size≤200:=fun s hs=>by
  obtain ⟨p,hp2,rfl⟩:=List.mem_map.1 ((hx.trans (hp.map _)).mem_iff.1 hs)
  exact (hz p hp2).1
 have h2:=sortT_le xs hzx
 have h3:(l.map (·.key)).Pairwise (fun a b=>kn a≤kn b):=List.pairwise_map.2 (hr.imp fun {a b} h=>by simp only [ksP] at h;omega)
 have hz1:∀ s∈sortT xs,s.size≤200:=fun s hs=>hzx s ((sortT_perm xs).mem_iff.1 hs)
 refine List.Perm.eq_of_pairwise (le:=fun a b=>kn a≤kn b) ?_ h2 h3 h1
 intro a b ha hb hab hba
 have ha2:a.size≤200:=hz1 a ha
 have hb2:b.size≤200:=hz1 b (h1.mem_iff.2 hb)
 exact (kn_inj ha2 hb2).1 (by omega)
def keyC (s:ByteArray):List Value:=[.string s]
theorem keyC_len (s:ByteArray):(keyC s).length=1:=rfl
theorem rowC_keys (l:List ByteArray):l.map Value.string=rowC keyC l:=by
 induction l with
 | nil=>rfl
 | cons x l ih=>rw [rowC_cons,List.map_cons,ih];rfl
theorem findP_at {l:List Pr}(hr:RiseW ksP l) {i:Nat}(hi:i<l.length):findP l (kn (l[i]).key)=l[i]:=by
 have hh:hitG ksP l (kn (l[i]).key)=true:=(hit_iff hr).2 ⟨_,List.getElem_mem hi,rfl⟩
 obtain ⟨h1,h2⟩:=findP_hit hr hh
 exact rise_same hr h1 (List.getElem_mem hi) h2
section
variable {P:Program}{ty:TypeId}{σ:Env}{t:TypeId}{bytes:Nat}{zero:Value}
attribute [local semireducible] PureOp
theorem p_indexN {e:TypeId}{sz len:Nat}{x i:Operand}{vs us:List Value}{k:IntKind}{m:Nat} [Ty P t (.array len e)] [Lay P e true sz bytes zero] (hx:Env.ev σ x=some (.agg vs.toArray)) (hi:Env.ev σ i=some (.int k (m:Nat))) (h:m<len) (hu:(vs.drop (m*sz)).take sz=us):PureOp P (.index t x i) ty σ (.agg us.toArray):=by
 subst hu
 intro dst pos af g ρ hρ w
 have e0:vs.toArray.extract (m*sz) (m*sz+sz)=((vs.drop (m*sz)).take sz).toArray:=by
  apply Array.ext'
  simp
 have h1:(0:Int)≤((m:Nat):Int)∧((m:Nat):Int)<(len:Nat):=by omega
 simp only [execOp,hρ _ _ hx,hρ _ _ hi,Instr.index,asIntOf,Sem.run_bind,Sem.run_pure,Result.andThen_ok,run_under (t:=t) (d:=.array len e),h1,and_self,if_true,Int.toNat_natCast,Go.Vx.run_sizeOf (P:=P) (t:=e) (agg:=true) (size:=sz) (bytes:=bytes) (zero:=zero),part,Go.Vx.run_isAgg' (P:=P) (t:=e) (agg:=true) (size:=sz) (bytes:=bytes) (zero:=zero),e0]
end
theorem sesK_len (D:List Ls):∀ k,(sesK D k).length≤k
 | 0=>Nat.le_refl _
 | k+1=>by
  have:=sesK_len D k
  rw [sesK,List.length_append]
  unfold sesOne
  split<;>simp<;>omega
theorem mcArr {G:GH}{μ:OH}{mb kb:Nat}{act:Bool}{D:List Ls}{e:TypeId}(h:D.length=9) (hb:Has μ mb (mcV kb act D) e):CellsAt G μ ⟨mb,0+2,none⟩ (rowC Ls.cells D):=by
 have:=CellsAt.ownAt (G:=G) (i:=0+2) (m:=63) hb
 have e2:((mcV kb act D).drop (0+2)).take 63=rowC Ls.cells D:=by
  show (rowC Ls.cells D).take 63=_
  exact List.take_of_length_le (by rw [rowC_length Ls.len,h];decide)
 rwa [e2] at this
set_option maxHeartbeats 4000000 in
theorem mState_s {G:GH}{mb kb:Nat}{s:St}{D:List Ls}{oM:Obj}(hs:StP s) (hm:MachR s D) (hM:MapP s.pairs oM) :
 Con Tryz.prog 23 #[.pointer (some ⟨mb,0,none⟩)] G [(mb,mcO kb (decide (s.schema=2)) D),(kb,oM)] (fun r G' μ'=>StV G' s r∧μ'=[(mb,mcO kb (decide (s.schema=2)) D),(kb,oM)]):=by
 have hw:=hs.mapW
 obtain ⟨L,hp,hMB⟩:=id hM
 have hkeys:=fun xs h=>sorted_keys (xs:=xs) hp hw.1 hw.2.1 h
 have hsch:s.schema=1∨s.schema=2:=(stP_iff.1 hs).2.1
 have q1:=keysT_s (G:=G) (m:=kb)
 have q2:=fun bk=>sortedT_s (gf:=58) (by have:=hw.2.2.1;rw [List.length_map,hp.length_eq];omega) (fun xs (h:xs.Perm ((L.map prE).map (·.1)))=>by have h1:=h.length_eq;have:=hw.2.2.1;rw [List.length_map,List.length_map,hp.length_eq] at h1;omega) (keysT_seq (G:=G) (m:=kb) (b:=bk) hMB)
 have hz:s.schema=if decide (s.schema=2)=true then 2 else 1:=by
  rcases hsch with h|h<;>rw [h]<;>rfl
 generalize ha:decide (s.schema=2)=act at *
 (refine v_enter Tryz.func23 rfl Tryz.ntmps23 rfl ?_;intro B _)
 repeat' (first|apply v_alloc (d:=2);(case hz|hd=>rfl);intro b2|apply v_alloc (d:=3);(case hz|hd=>rfl);intro b3|apply v_seq|apply v_region|apply v_nil|apply v_skip|apply v_pure;(case hop=>first|apply p_move<;>rfl|apply p_fieldAddrB<;>rfl|apply p_nilCheck<;>rfl|apply p_eqNil<;>rfl|apply p_build;(case hz=>rfl);(case hv=>(simp only [List.map_cons,List.map_nil];repeat (first|with_reducible exact evs_nil|apply evs_cons;(case h1=>rfl))));(case hb=>(apply bldL;repeat (first|exact bld_nil|apply bld_cons;(case hpf|hc|hs|hl=>rfl);(case ho=>((repeat (first|with_reducible exact ov_nil|apply ov_cons));done)))))|fail);(case hd=>rfl)|apply v_condF;(case hc=>rfl)|apply v_cond;(case hc=>rfl);all_goals (intro h;(try simp only [reduceCtorEq,zzz] at h))|apply v_read;(case hop=>(apply r_load1;rfl;(apply Cell.own;(case h=>repeat first|exact mhd _|apply mtl);rfl)));(case hd=>rfl)|apply v_store;(case hp|hx|hc|hsz|h1=>rfl);(case hb=>repeat exact mhd _);(case hfit=>exact nle rfl);(case hov=>((repeat (first|with_reducible exact ov_nil|apply ov_cons));done));(case hu=>repeat (exact Upd.here _ _))|fail)
 all_goals
  (refine v_perm (ν:=[(b3,.cells [.int .i64 s.schema,.slice none 0 0,.slice none 0 0].toArray 39 (0,0)),(b2,.cells [.int .i64 0,.slice none 0 0,.slice none 0 0].toArray 39 (0,0)),(mb,mcO kb act D),(kb,oM)]) (List.Perm.of_eq (by rw [hz];simp [*])) ?_
   refine v_call (μ1:=[]) rfl q1 (List.Perm.refl _) rfl ?_
   rintro _ G1 _ - ⟨bk,rfl,hG1,rfl⟩
   subst G1
   repeat' (fail)
   refine v_call (vs:=[.func (.func 58) #[] #[.pointer (some ⟨bk,0,none⟩)]]) (μ1:=[(bk,Obj.cells #[Value.map (some kb)] 80),(kb,oM)]) (μ2:=[(b3,.cells [.int .i64 s.schema,.slice none 0 0,.slice none 0 0].toArray 39 (0,0)),(b2,.cells [.int .i64 0,.slice none 0 0,.slice none 0 0].toArray 39 (0,0)),(mb,mcO kb act D)]) rfl (q2 bk) (by apply perm_of_count;intro p;simp only [List.append_eq,List.countP_append,List.countP_cons,List.countP_nil,Nat.zero_add,Nat.add_zero];try ac_rfl) rfl ?_
   rintro kv G1 _ - ⟨hG1,xs,ν,hx,hgr,rfl⟩
   subst G1
   have hks:=hkeys xs hx
   rw [hks] at hgr
   have hxl:xs.length=(s.pairs.map (·.key)).length:=by rw [← hks];exact (sortT_perm xs).length_eq.symm
   rw [hxl,rowC_keys] at hgr
   clear hx hks hkeys q1 q2
   refine v_frzP ν (List.Perm.of_eq (by rw [List.append_assoc])) ?_
   intro G1 hle1 hG1
   have hsl:=row_of_grow keyC_len hgr hG1
   clear hgr hG1
   obtain ⟨KA,kc,rfl,hlc,hcm,hsome,hcp⟩:=rowOpen hsl
   rw [List.length_map] at hlc hsome
   simp only [maxLen] at hcm
   simp only [List.length_map]
   repeat' (first|apply v_nil|apply v_block|apply v_pure;(case hop=>first|apply p_move<;>rfl|apply p_lenSlice<;>rfl|fail);(case hd=>rfl)|fail)
   refine v_perm (ν:=[(b3,.cells [.int .i64 s.schema,.slice none 0 0,.slice none 0 0].toArray 39 (0,0)),(b2,.cells [.int .i64 0,.slice none 0 0,.slice none 0 0].toArray 39 (0,0)),(mb,mcO kb act D),(kb,oM),(bk,Obj.cells #[Value.map (some kb)] 80)]) (by apply perm_of_count;intro p;simp only [List.append_eq,List.countP_append,List.countP_cons,List.countP_nil,Nat.zero_add,Nat.add_zero];try ac_rfl) ?_
   refine v_drop (ν:=[(b3,.cells [.int .i64 s.schema,.slice none 0 0,.slice none 0 0].toArray 39 (0,0)),(b2,.cells [.int .i64 0,.slice none 0 0,.slice none 0 0].toArray 39 (0,0)),(mb,mcO kb act D),(kb,oM)]) (by repeat (first|exact List.nil_sublist _|apply List.Sublist.cons_cons)) ?_
   refine v_loop [24,22,23,0,3,2] (fun us G' μ'=>G'=G1∧∃ (k:Nat) (pA:Option Addr) (pc:Nat) (ν:OH),k≤s.pairs.length∧us=[Value.int .i64 (k:Nat),.slice KA s.pairs.length kc,.int .i64 (s.pairs.length:Nat),.pointer (some ⟨mb,0,none⟩),.pointer (some ⟨b3,0,none⟩),.pointer (some ⟨b2,0,none⟩)]∧Grow 94 3 (.slice pA k pc) k (rowC Pr.cells (s.pairs.take k)) ν∧μ'=ν++[(b3,.cells [.int .i64 s.schema,.slice pA k pc,.slice none 0 0].toArray 39 (0,0)),(b2,.cells [.int .i64 0,.slice none 0 0,.slice none 0 0].toArray 39 (0,0)),(mb,mcO kb act D),(kb,oM)]) (fun us=>s.pairs.length-(headI us).toNat) rfl ⟨rfl,0,none,0,[],by omega,rfl,Grow.nil _ _,rfl⟩ ?_
   rintro us G' _ ⟨hG',k,pA,pc,ν2,hk,rfl,hgr,rfl⟩
   subst G'
   have e1:((k:Nat):Int).toNat=k:=by omega
   by_cases hlt:k<s.pairs.length
   ·have hA:=hsome (by omega)
    have hck:=(hcp k (by rw [List.length_map];exact hlt)).head
    rw [List.getElem_map] at hck
    have hfa:=findP_at hw.1 hlt
    have hkz:=(hw.2.1 _ (List.getElem_mem hlt)).1
    have htk:s.pairs.take (k+1)=s.pairs.take k++[s.pairs[k]]:=by rw [List.take_succ_eq_append_getElem hlt]
    generalize s.pairs[k]=f at *
    obtain ⟨fk,fv,fr⟩:=f
    simp only at hck hfa hkz
    repeat' (first|apply v_seq|apply v_region|apply v_nil|apply v_skip|apply v_block|apply v_pure;(case hop=>first|apply p_lt<;>rfl|apply p_assign<;>rfl|apply p_indexAddrS;(case hx|hi=>rfl);(case h0|h=>omega);(case hA=>assumption)|fail);(case hd=>rfl)|apply v_cond;(case hc=>rfl);all_goals (intro h;(try simp only [reduceCtorEq,zzz] at h);try (exfalso;omega))|apply v_read;(case hop=>(apply r_load1;rfl;exact Cell.frozen hck));(case hd=>rfl)|fail)
    have hkl:k≤64:=by have:=hw.2.2.1;omega
    refine v_has (σ':=[(5,.string fk),(24,.int .i64 (k:Nat)),(22,.slice KA s.pairs.length kc),(23,.int .i64 (s.pairs.length:Nat)),(0,.pointer (some ⟨mb,0,none⟩)),(3,.pointer (some ⟨b3,0,none⟩)),(2,.pointer (some ⟨b2,0,none⟩))]) ⟨rfl,rfl,rfl,rfl,rfl,rfl,rfl,trivial⟩ ?_
    refine d_start [(mb,mcO kb act D),(kb,oM)] (by kernel_rfl) (by kernel_rfl) (by kernel_rfl) (by intro e he;(simp at he;simp [he];done)) ?_
    all_goals (apply dtk 0;(case hi=>rfl);(case hop=>(apply prd;apply p_fieldAddrB<;>rfl));(case hq=>kernel_rfl);apply dtm 2;(case hi|hx=>rfl);(case hq=>kernel_rfl))
    all_goals (apply dtm 3;(case hi|hx=>rfl);(case hq=>kernel_rfl);apply dtn 4;(case hi|hx=>rfl);(case hq=>kernel_rfl))
    all_goals (apply dtk 5;(case hi=>rfl);(case hop=>(apply prd;apply p_fieldAddrB<;>rfl));(case hq=>kernel_rfl);apply dtk 6;(case hi=>rfl);(case hop=>(apply r_load1;rfl;(apply Cell.own;(case h=>repeat exact mhd _);rfl)));(case hq=>kernel_rfl))
    all_goals (apply dtm 7;(case hi|hx=>rfl);(case hq=>kernel_rfl))
    all_goals (apply dtk 8;(case hi=>rfl);(case hop=>((apply r_key fk ⟨fk,fv,fr⟩ hfa hw hM hkz;(case hb=>repeat first|exact mhd _|apply mtl);(case hx|hi=>rfl))));(case hq=>kernel_rfl))
    all_goals (apply dtk 9;(case hi=>rfl);(case hop=>(apply prd;apply p_field1<;>rfl));(case hq=>kernel_rfl);apply dtm 10;(case hi|hx=>rfl);(case hq=>kernel_rfl))
    all_goals (apply dtn 11;(case hi|hx=>rfl);(case hq=>kernel_rfl);apply dtk 12;(case hi=>rfl);(case hop=>(apply prd;apply p_fieldAddrB<;>rfl));(case hq=>kernel_rfl))
    all_goals (apply dtk 13;(case hi=>rfl);(case hop=>(apply r_load1;rfl;(apply Cell.own;(case h=>repeat exact mhd _);rfl)));(case hq=>kernel_rfl);apply dtm 14;(case hi|hx=>rfl);(case hq=>kernel_rfl))
    all_goals (apply dtk 15;(case hi=>rfl);(case hop=>((apply r_key fk ⟨fk,fv,fr⟩ hfa hw hM hkz;(case hb=>repeat first|exact mhd _|apply mtl);(case hx|hi=>rfl))));(case hq=>kernel_rfl))
    all_goals (apply dtk 16;(case hi=>rfl);(case hop=>(apply prd;apply p_field1<;>rfl));(case hq=>kernel_rfl))
    all_goals (apply dtk 17;(case hi=>rfl);(case hop=>(apply prd;apply p_build;(case hz=>rfl);(case hv=>(simp only [List.map_cons,List.map_nil];repeat (first|with_reducible exact evs_nil|apply evs_cons;(case h1=>rfl))));(case hb=>(apply bldL;repeat (first|exact bld_nil|apply bld_cons;(case hpf|hc|hs|hl=>rfl);(case ho=>((repeat (first|with_reducible exact ov_nil|apply ov_cons));done)))))));(case hq=>kernel_rfl))
    focus
     refine d_fork 1 18 (by kernel_rfl) ?_ ?_
     rotate_right
     focus
      (apply x_buildSlice 18;(case hi=>rfl);(case hT=>infer_instance);(case hL=>infer_instance);(case hz|hl=>rfl);(case hv=>(simp only [List.map_cons,List.map_nil];repeat (first|with_reducible exact evs_nil|apply evs_cons;(case h1=>rfl))));(case hp=>(apply pk_cons;(case hc|hs=>rfl);(case h=>(with_reducible exact pk_nil));(case he=>((repeat (first|with_reducible exact ap_nil|apply ap_cons));done))));(case hb|hd=>rfl);(case hν=>intro e he;(simp at he;simp [he];done));intro sb)
      all_goals (apply d_keep 1 (hop:=ReadOp.move ?hop);(case hi=>rfl);(case hr=>kernel_rfl);(case hop=>(apply r_load1;rfl;(apply Cell.own;(case h=>repeat first|exact mhd _|apply mtl|apply List.mem_append_right);rfl)));(case hd=>rfl))
      all_goals (apply d_append 19 (hg:=hgr) (q':=1) (us:=[.string fk,.string fv,.int .i64 fr]) (hp:=PickA.perm (by repeat (first|exact PickA.here _|apply PickA.cons))) (hsrc:=Src.own (e:=94) (List.Mem.head _) rfl);(case hi=>rfl);(case hr=>kernel_rfl);(case hT=>infer_instance);(case hL=>infer_instance);(case hzs=>rfl);(case hsz=>omega);(case hs|hx=>rfl);(case hb=>omega);(case hb'=>simp only [maxLen];omega);(case hd|h1=>rfl);(case hν=>intro e he;(simp at he;simp [he];done));intro v5 n5 g5;obtain ⟨A5,c5,rfl,-,-⟩:=g5.shape)
      all_goals (apply dtk 20;(case hi=>rfl);(case hop=>(apply prd;apply p_fieldAddrB<;>rfl));(case hq=>kernel_rfl))
      all_goals (apply d_store 21;(case hi=>rfl);(case hr=>kernel_rfl);(case hL=>infer_instance);(case hp|hx|hc|hsz|h1=>rfl);(case hb=>repeat first|exact mhd _|apply mtl|apply List.mem_append_right);(case hfit=>exact nle rfl);(case hov=>((repeat (first|with_reducible exact ov_nil|apply ov_cons));done));(case hu=>repeat first|exact Upd.here _ _|apply Upd.there|apply Upd.app);(case hν'=>intro e he;simp at he;simp [he]))
      all_goals (apply d_done;(case hr=>kernel_rfl))
     rotate_right
     focus
      (apply x_exec 1;(case hi=>rfl);(case hop=>exact ReadOp.move (r_load1 rfl (Cell.own (by repeat (first|exact mhd _|apply List.mem_append_right)) rfl)));(case hd=>rfl);rintro _ G0 _ ⟨rfl,hG0,rfl⟩;subst G0;refine ⟨(by intro e he;simp only [List.mem_cons,List.not_mem_nil,or_false] at he;rcases he with rfl|rfl<;>simp),?_⟩)
      all_goals (apply d_buildSlice 18;(case hi=>rfl);(case hr=>kernel_rfl);(case hT=>infer_instance);(case hL=>infer_instance);(case hz|hl=>rfl);(case hv=>(simp only [List.map_cons,List.map_nil];repeat (first|with_reducible exact evs_nil|apply evs_cons;(case h1=>rfl))));(case hp=>(apply pk_cons;(case hc|hs=>rfl);(case h=>(with_reducible exact pk_nil));(case he=>((repeat (first|with_reducible exact ap_nil|apply ap_cons));done))));(case hb|hd=>rfl);(case hν=>intro e he;(simp at he;simp [he];done));intro sb)
      all_goals (apply d_append 19 (hg:=hgr) (q':=1) (us:=[.string fk,.string fv,.int .i64 fr]) (hp:=PickA.perm (by repeat (first|exact PickA.here _|apply PickA.cons))) (hsrc:=Src.own (e:=94) (List.Mem.head _) rfl);(case hi=>rfl);(case hr=>kernel_rfl);(case hT=>infer_instance);(case hL=>infer_instance);(case hzs=>rfl);(case hsz=>omega);(case hs|hx=>rfl);(case hb=>omega);(case hb'=>simp only [maxLen];omega);(case hd|h1=>rfl);(case hν=>intro e he;(simp at he;simp [he];done));intro v5 n5 g5;obtain ⟨A5,c5,rfl,-,-⟩:=g5.shape)
      all_goals (apply dtk 20;(case hi=>rfl);(case hop=>(apply prd;apply p_fieldAddrB<;>rfl));(case hq=>kernel_rfl))
      all_goals (apply d_store 21;(case hi=>rfl);(case hr=>kernel_rfl);(case hL=>infer_instance);(case hp|hx|hc|hsz|h1=>rfl);(case hb=>repeat first|exact mhd _|apply mtl|apply List.mem_append_right);(case hfit=>exact nle rfl);(case hov=>((repeat (first|with_reducible exact ov_nil|apply ov_cons));done));(case hu=>repeat first|exact Upd.here _ _|apply Upd.there|apply Upd.app);(case hν'=>intro e he;simp at he;simp [he]))
      all_goals (apply d_done;(case hr=>kernel_rfl))
    all_goals repeat' (first|apply v_region|apply v_nil|apply v_blk|apply v_pure;(case hop=>first|apply p_move<;>rfl|apply p_add;(case hx|hy=>rfl);(case h=>omega)|fail);(case hd=>rfl)|fail)
    all_goals
     (refine v_perm (ν:=(n5++[(b3,.cells [.int .i64 s.schema,.slice A5 (k+1) c5,.slice none 0 0].toArray 39 (0,0)),(b2,.cells [.int .i64 0,.slice none 0 0,.slice none 0 0].toArray 39 (0,0)),(mb,mcO kb act D),(kb,oM)])++[(sb,.cells [.string fk,.string fv,.int .i64 fr].toArray 94)]) (by apply perm_of_count;intro p;simp only [List.append_eq,List.countP_append,List.countP_cons,List.countP_nil,Nat.zero_add,Nat.add_zero];try ac_rfl) ?_
      refine v_drop (List.sublist_append_left _ _) ?_
      exact v_again rfl ⟨rfl,k+1,A5,c5,n5,by omega,rfl,by rw [htk,rowC_append];simpa [rowC,Pr.cells] using g5,rfl⟩ (by simp [headI];omega))
   ·obtain rfl:k=s.pairs.length:=by omega
    rw [List.take_length] at hgr
    have hP:=fun (G2:GH) h=>row_of_grow Pr.len (l:=s.pairs) (G':=G2) hgr h
    clear hgr hcp hsl hsome hlt
    refine v_frzP ν2 (List.Perm.refl _) ?_
    intro G2 hle2 hG2
    have hps:=hP G2 hG2
    clear hP hG2
    repeat' (first|apply v_seq|apply v_region|apply v_nil|apply v_block|apply v_exit;(case hp=>rfl)|apply v_pure;(case hop=>first|apply p_move<;>rfl|apply p_lt<;>rfl|apply p_fieldAddrB<;>rfl|apply p_nilCheck<;>rfl|fail);(case hd=>rfl)|apply v_cond;(case hc=>rfl);all_goals (intro h;(try simp only [reduceCtorEq,zzz] at h);try (exfalso;omega))|apply v_read;(case hop=>(apply r_loadN;rfl;exact mcArr hm.len (by repeat (first|exact mhd _|apply mtl));rw [rowC_length Ls.len,hm.len]));(case hd=>rfl)|fail)
    refine v_loop [54,53,3,2] (fun us G' μ'=>G'=G2∧∃ (k:Nat) (sA:Option Addr) (sc:Nat) (ν:OH),k≤9∧us=[Value.int .i64 (k:Nat),.agg (rowC Ls.cells D).toArray,.pointer (some ⟨b3,0,none⟩),.pointer (some ⟨b2,0,none⟩)]∧Grow 66 8 (.slice sA (sesK D k).length sc) (sesK D k).length (rowC Ss.cells (sesK D k)) ν∧μ'=ν++[(b3,.cells [.int .i64 s.schema,.slice pA s.pairs.length pc,.slice sA (sesK D k).length sc].toArray 39 (0,0)),(b2,.cells [.int .i64 0,.slice none 0 0,.slice none 0 0].toArray 39 (0,0)),(mb,mcO kb act D),(kb,oM)]) (fun us=>9-(headI us).toNat) rfl ⟨rfl,0,none,0,[],by omega,rfl,Grow.nil _ _,rfl⟩ ?_
    rintro us G' _ ⟨hG',k,sA,sc,ν2,hk,rfl,hgr,rfl⟩
    subst G'
    have e1:((k:Nat):Int).toNat=k:=by omega
    by_cases hlt:k<9
    ·have hat:((rowC Ls.cells D).drop (k*7)).take 7=(dAt D k).cells:=by rw [rowC_at Ls.len D k (by rw [hm.len];exact hlt),dAt_get (by rw [hm.len];exact hlt)]
     have hsl:(sesK D k).length≤9:=by
      have:=sesK_len D k
      omega
     have hnx:sesK D (k+1)=sesK D k++sesOne D k:=rfl
     unfold sesOne at hnx
     generalize dAt D k=x at *
     obtain ⟨xq,⟨ac,aq,ae,af,av,ar⟩⟩:=x
     simp only at hnx
     have hy:0<xq→(sesK D (k+1)).length=(sesK D k).length+1∧rowC Ss.cells (sesK D (k+1))=rowC Ss.cells (sesK D k)++[.int .i64 (k:Nat),.int .i64 xq,.int .i64 ac,.int .i64 aq,.int .i64 ae,.bool af,.string av,.int .i64 ar]:=fun h=>by
      rw [hnx,if_pos h,rowC_append,List.length_append]
      exact ⟨rfl,by simp [rowC,Ss.cells,An.cells]⟩
     have hno:¬ 0<xq→sesK D (k+1)=sesK D k:=fun h=>by rw [hnx,if_neg h,List.append_nil]
     clear hnx
     generalize hS0:sesK D k=S0 at *
     repeat' (first|apply v_alloc (d:=7);(case hz|hd=>rfl);intro b7|apply v_seq|apply v_region|apply v_nil|apply v_skip|apply v_block|apply v_blk|apply v_pure;(case hop=>first|apply p_move<;>rfl|apply p_lt<;>rfl|apply p_gt<;>rfl|apply p_assign<;>rfl|apply p_fieldAddrB<;>rfl|apply p_add;(case hx|hy=>rfl);(case h=>omega)|apply p_build;(case hz=>rfl);(case hv=>(simp only [List.map_cons,List.map_nil];repeat (first|with_reducible exact evs_nil|apply evs_cons;(case h1=>rfl))));(case hb=>(apply bldL;repeat (first|exact bld_nil|apply bld_cons;(case hpf|hc|hs|hl=>rfl);(case ho=>((repeat (first|with_reducible exact ov_nil|apply ov_cons));done)))))|fail);(case hd=>rfl)|apply v_cond;(case hc=>rfl);all_goals (intro h;(try simp only [reduceCtorEq,zzz] at h);try (exfalso;omega))|apply v_pure;(case hop=>(apply p_indexN (us:=Ls.cells ⟨xq,⟨ac,aq,ae,af,av,ar⟩⟩);(case hx|hi=>rfl);(case h=>omega);(case hu=>exact hat)));(case hd=>rfl)|apply v_read;(case hop=>first|apply r_loadNo;(case hx=>rfl);(case h=>repeat exact mhd _);(case hd=>repeat first|with_reducible exact dt_nil|apply dt_here);(case hn=>rfl)|apply r_load1;rfl;(apply Cell.own;(case h=>repeat first|exact mhd _|apply mtl|apply List.mem_append_right);rfl)|fail);(case hd=>rfl)|apply v_buildSlice;(case hz|hi=>rfl);(case hv=>(simp only [List.map_cons,List.map_nil];repeat (first|with_reducible exact evs_nil|apply evs_cons;(case h1=>rfl))));(case hp=>(apply pk_cons;(case hc|hs=>rfl);(case h=>(with_reducible exact pk_nil));(case he=>((repeat (first|with_reducible exact ap_nil|apply ap_cons));done))));(case hb|hd=>rfl);intro b|apply v_store;(case hp|hx|hc|hsz|h1=>rfl);(case hb=>repeat exact mhd _);(case hfit=>exact nle rfl);(case hov=>((repeat (first|with_reducible exact ov_nil|apply ov_cons));done));(case hu=>repeat (exact Upd.here _ _))|fail)
     ·obtain ⟨y1,y2⟩:=hy (by assumption)
      repeat' (first|apply v_region|apply v_nil|apply v_blk|apply v_pure;(case hop=>first|apply p_move<;>rfl|apply p_fieldAddrB<;>rfl|apply p_add;(case hx|hy=>rfl);(case h=>omega)|fail);(case hd=>rfl)|apply v_append (hg:=hgr) (m':=1) (us:=[.int .i64 (k:Nat),.int .i64 xq,.int .i64 ac,.int .i64 aq,.int .i64 ae,.bool af,.string av,.int .i64 ar]) (hp:=PickA.perm (by repeat (first|exact PickA.here _|apply PickA.cons))) (hsrc:=Src.own (e:=66) (by repeat (exact mhd _)) rfl);(case hzs=>rfl);(case hsz=>omega);(case hs|hx=>rfl);(case hb=>omega);(case hb'=>simp only [maxLen];omega);(case hd|h1=>rfl);intro v3 n3 hg3;obtain ⟨A3,c3,rfl,-,-⟩:=hg3.shape|apply v_store;(case hp|hx|hc|hsz|h1=>rfl);(case hb=>repeat first|exact mhd _|apply mtl|apply List.mem_append_right);(case hfit=>exact nle rfl);(case hov=>((repeat (first|with_reducible exact ov_nil|apply ov_cons));done));(case hu=>repeat first|exact Upd.here _ _|apply Upd.there|apply Upd.app)|fail)
      refine v_perm (ν:=(n3++[(b3,.cells [.int .i64 s.schema,.slice pA s.pairs.length pc,.slice A3 (S0.length+1) c3].toArray 39 (0,0)),(b2,.cells [.int .i64 0,.slice none 0 0,.slice none 0 0].toArray 39 (0,0)),(mb,mcO kb act D),(kb,oM)])++[(b,_),(b7,_)]) (by apply perm_of_count;intro p;simp only [List.append_eq,List.countP_append,List.countP_cons,List.countP_nil,Nat.zero_add,Nat.add_zero];try ac_rfl) ?_
      refine v_drop (List.sublist_append_left _ _) ?_
      exact v_again rfl ⟨rfl,k+1,A3,c3,n3,by omega,rfl,by rw [y1,y2];exact hg3,by rw [y1]⟩ (by simp [headI];omega)
     ·have y:=hno (by assumption)
      refine v_perm (ν:=(ν2++[(b3,.cells [.int .i64 s.schema,.slice pA s.pairs.length pc,.slice sA S0.length sc].toArray 39 (0,0)),(b2,.cells [.int .i64 0,.slice none 0 0,.slice none 0 0].toArray 39 (0,0)),(mb,mcO kb act D),(kb,oM)])++[(b7,_)]) (by apply perm_of_count;intro p;simp only [List.append_eq,List.countP_append,List.countP_cons,List.countP_nil,Nat.zero_add,Nat.add_zero];try ac_rfl) ?_
      refine v_drop (List.sublist_append_left _ _) ?_
      exact v_again rfl ⟨rfl,k+1,sA,sc,ν2,by omega,rfl,by rw [y];exact hgr,by rw [y]⟩ (by simp [headI];omega)
    ·obtain rfl:k=9:=by omega
     rw [← hm.ses] at hgr ⊢
     have hQ:=fun (G2:GH) h=>row_of_grow Ss.len (l:=s.sess) (G':=G2) hgr h
     refine v_frzP ν2 (List.Perm.refl _) ?_
     intro G3 hle3 hG3
     have hss:=hQ G3 hG3
     repeat' (first|apply v_seq|apply v_region|apply v_nil|apply v_exit;(case hp=>rfl)|apply v_pure;(case hop=>(apply p_lt<;>rfl));(case hd=>rfl)|apply v_cond;(case hc=>rfl);all_goals (intro h;(try simp only [reduceCtorEq,zzz] at h);try (exfalso;omega))|apply v_read;(case hop=>(apply r_loadNo;(case hx=>rfl);(case h=>repeat exact mhd _);(case hd=>repeat first|with_reducible exact dt_nil|apply dt_here);(case hn=>rfl)));(case hd=>rfl)|apply v_store;(case hp|hx|hc|hsz|h1=>rfl);(case hb=>repeat first|exact mhd _|apply mtl);(case hfit=>exact nle rfl);(case hov=>((repeat (first|with_reducible exact ov_nil|apply ov_cons));done));(case hu=>repeat first|exact Upd.here _ _|apply Upd.there)|fail)
     refine v_perm (ν:=[(mb,mcO kb act D),(kb,oM),(b3,_),(b2,.cells [.int .i64 s.schema,.slice pA s.pairs.length pc,.slice sA s.sess.length sc].toArray 39 (0,0))]) (by apply perm_of_count;intro p;simp only [List.append_eq,List.countP_append,List.countP_cons,List.countP_nil,Nat.zero_add,Nat.add_zero];try ac_rfl) ?_
     refine v_retM [(mb,mcO kb act D),(kb,oM)] (outsM_cell (sz:=3) (vs:=[.int .i64 s.schema,.slice pA s.pairs.length pc,.slice sA s.sess.length sc]) (e:=39) rfl rfl (by repeat (first|exact mhd _|apply mtl)) rfl) (by repeat (first|exact List.nil_sublist _|apply List.Sublist.cons_cons)) ⟨⟨pA,pc,sA,sc,rfl,hps.mono hle3,hss⟩,rfl⟩)
end Go.Proofs.YtlkakbjcolgjbaaGreatDoor
/-
  app's law (layer 28): awake.
-/
namespace Go.Proofs.YtlkakbjcolgjbaaGreatDoor
open Go.Vx Go.ChangeShapes Go.WideShapes Go.ChangeAt Go.RowKit
theorem emp_v (G:GH):StV G emp (.agg [.int .i64 1,.slice none 0 0,.slice none 0 0].toArray):=by
 refine ⟨none,0,none,0,rfl,?_,?_⟩
 ·exact row_of_grow Pr.len (Grow.nil 94 3) (fun b o h=>by cases h)
 ·exact row_of_grow Ss.len (Grow.nil 66 8) (fun b o h=>by cases h)
section
attribute [local semireducible] Vc DVc Con PureOp ReadOp MoveOp
end
theorem madeC {G:GH}{l:List Cm}{b:Nat}(h:l.length≤200) (hb:G b=some (.cells (rowC Cm.cells l).toArray 25 (0,0))):Cms G (.slice (some ⟨b,0,none⟩) l.length l.length) l:=by
 have hg:Grow 25 7 (.slice (some ⟨b,0,none⟩) l.length l.length) l.length (rowC Cm.cells l) [(b,.cells (rowC Cm.cells l).toArray 25 (0,0))] :=
  ⟨rowC_length Cm.len l,.inr ⟨b,l.length,[],rfl,by rw [List.append_nil],Nat.le_refl _,by simp only [maxLen];omega,by rw [List.append_nil];exact rowC_length Cm.len l⟩⟩
 exact row_of_grow Cm.len hg (fun b' o h=>by simp only [List.mem_singleton] at h;cases h;exact hb)
end Go.Proofs.YtlkakbjcolgjbaaGreatDoor
/-
  spec (layer 29): Answers; awake.
-/
namespace Go.Proofs.YtlkakbjcolgjbaaGreatDoor
open Go.Vx Go.ChangeShapes Go.WideShapes Go.ChangeAt Go.RowKit
noncomputable def specA (s:St) (acc:List An):List Cm→St×List An
 | []=>(s,acc)
 | c::l=>specA (specS s c).1 (acc++[(specS s c).2]) l
theorem specA_ok:∀ (l:List Cm) {s:St}{acc:List An},StP s→StP (specA s acc l).1
 | [],_,_,h=>h
 | c::l,_,_,h=>specA_ok l (specS_ok h)
theorem specA_snoc:∀ (l:List Cm) (s:St) (acc:List An) (c:Cm),specA s acc (l++[c])=((specS (specA s acc l).1 c).1,(specA s acc l).2++[(specS (specA s acc l).1 c).2])
 | [],_,_,_=>rfl
 | x::l,s,acc,c=>specA_snoc l (specS s x).1 (acc++[(specS s x).2]) c
theorem specA_len:∀ (l:List Cm) (s:St) (acc:List An),(specA s acc l).2.length=acc.length+l.length
 | [],_,_=>rfl
 | x::l,s,acc=>by
  show (specA (specS s x).1 (acc++[(specS s x).2]) l).2.length=_
  rw [specA_len l,List.length_append,List.length_singleton,List.length_cons]
  omega
abbrev k1:ByteArray:=⟨#[49]⟩
abbrev xc1:Cm:=⟨2,1,1,kA,k1,ByteArray.empty,0⟩
abbrev xc2:Cm:=⟨3,2,1,kA,ByteArray.empty,ByteArray.empty,0⟩
theorem val1:valB k1=true:=by
 unfold valB
 have h0:k1.size=1:=rfl
 simp only [Bool.and_eq_true,decide_eq_true_eq,h0]
 refine ⟨⟨by omega,by decide +kernel⟩,fun i hi=>?_⟩
 obtain rfl:i=0:=by omega
 decide +kernel
theorem xc1_ok:cmdI xc1=0:=by
 rw [cmdI_eq]
 unfold cmdE
 simp [keyA,val1,valB_empty]
theorem xc2_ok:cmdI xc2=0:=by
 rw [cmdI_eq]
 unfold cmdE
 simp [keyA,valB_empty]
abbrev xs1:St:=⟨1,[⟨kA,k1,0⟩],[⟨1,1,⟨1,1,0,false,ByteArray.empty,0⟩⟩]⟩
theorem xrun1:specS emp xc1=(xs1,⟨1,1,0,false,ByteArray.empty,0⟩):=by
 unfold specS applyS clientS
 rw [xc1_ok]
 simp only [which_nil]
 have hP:HasP 1 2:=⟨.inl rfl,by decide,by decide,fun h=>absurd h (by decide)⟩
 simp [verS,doS,doOne,roomB,hitG,placeG,withG,sesOf,ans0,findP,zeroPr]
 exact ⟨by rw [if_pos hP],by rw [if_pos hP]⟩
theorem specS_bad {s:St}{c:Cm}(h:cmdI c≠0):specS s c=(s,zA):=by unfold specS;rw [if_pos h]
theorem specS_good {s:St}{c:Cm}(h:cmdI c=0):specS s c=((applyS s c).1,(applyS s c).2.1):=by unfold specS;rw [if_neg (by simp [h])]
set_option maxHeartbeats 4000000 in
theorem refRun29_s {G:GH}{lv:Value}{l:List Cm}(hl:Cms G lv l) (hlw:CmsW l) :
 Con Tryz.prog 9 #[lv] G [] (fun r G' μ'=>∃ v' av,r=.tuple [v',av].toArray∧StV G' (specA emp [] l).1 v'∧GrA av (specA emp [] l).2 μ'):=by
 obtain ⟨LA,lc,rfl,hlc,hcm,hsome,hcp⟩:=rowOpen hl
 simp only [maxLen] at hcm
 (refine v_enter Tryz.func9 rfl Tryz.ntmps9 rfl ?_;intro B _)
 repeat' (first|apply v_alloc (d:=2);(case hz|hd=>rfl);intro b2|apply v_alloc (d:=4);(case hz|hd=>rfl);intro b4|apply v_seq|apply v_region|apply v_nil|apply v_block|apply v_pure;(case hop=>first|apply p_assign<;>rfl|apply p_build;(case hz=>rfl);(case hv=>(simp only [List.map_cons,List.map_nil];repeat (first|with_reducible exact evs_nil|apply evs_cons;(case h1=>rfl))));(case hb=>(apply bldL;repeat (first|exact bld_nil|apply bld_cons;(case hpf|hc|hs|hl=>rfl);(case ho=>((repeat (first|with_reducible exact ov_nil|apply ov_cons));done)))))|fail);(case hd=>rfl)|apply v_store;(case hp|hx|hc|hsz|h1=>rfl);(case hb=>repeat exact mhd _);(case hfit=>exact nle rfl);(case hov=>((repeat (first|with_reducible exact ov_nil|apply ov_cons));done));(case hu=>repeat (exact Upd.here _ _))|fail)
 refine v_loop [6,0,5,4,2] (fun us G' μ'=>GH.le G G'∧∃ (k:Nat) (s1:St) (A1 A1':Option Addr) (c1 c1':Nat) (acc:List An) (av:Value) (ν:OH),k≤l.length∧us=[Value.int .i64 (k:Nat),.slice LA l.length lc,av,.pointer (some ⟨b4,0,none⟩),.pointer (some ⟨b2,0,none⟩)]∧μ'=(b4,.cells [.int .i64 s1.schema,.slice A1 s1.pairs.length c1,.slice A1' s1.sess.length c1'].toArray 39 (0,0))::(b2,.cells [.int .i64 0,.slice none 0 0,.slice none 0 0].toArray 39 (0,0))::ν∧GrA av acc ν∧StV G' s1 (.agg [.int .i64 s1.schema,.slice A1 s1.pairs.length c1,.slice A1' s1.sess.length c1'].toArray)∧StP s1∧acc.length≤k∧specA emp [] l=specA s1 acc (l.drop k)) (fun us=>l.length-(headI us).toNat) rfl ⟨GH.le_refl _,0,emp,none,none,0,0,[],.slice none 0 0,[],by omega,rfl,rfl,Grow.nil _ _,emp_v G,emp_ok,Nat.le_refl _,rfl⟩ ?_
 rintro us G' _ ⟨hle,k,s1,A1,A1',c1,c1',acc,av,ν,hk,rfl,rfl,hga,hs1,hok1,hak,hrun⟩
 have hn:=hlw.1
 by_cases hlt:k<l.length
 ·have e1:((k:Nat):Int).toNat=k:=by omega
  have hA:=hsome (by omega)
  have hck:=(rowOpen' (hl.mono hle)).2.2.2.2.2.2 k hlt
  have hck2:=fun G2 (h2:GH.le G' G2)=>(rowOpen' (hl.mono (GH.le_trans hle h2))).2.2.2.2.2.2 k hlt
  obtain ⟨hxo,hxw⟩:=hlw.2 _ (List.getElem_mem hlt)
  have hcc:=refCmdCheck_s (G:=G') (l[k]) hxo
  have hap:=fun G2 (h2:GH.le G' G2) (h0:cmdI l[k]=0)=>refApply_s (l[k]) (hs1.up h2) hok1 h0 hxw.1
  have hnx:specA emp [] l=specA (specS s1 l[k]).1 (acc++[(specS s1 l[k]).2]) (l.drop (k+1)):=by
   rw [hrun,List.drop_eq_getElem_cons hlt];rfl
  have hkp:StP (specS s1 l[k]).1:=specS_ok hok1
  have hb1:=specS_bad (s:=s1) (c:=l[k])
  have hb2:=specS_good (s:=s1) (c:=l[k])
  rw [hnx]
  clear hrun hxo hxw
  generalize specS s1 l[k]=ss at *
  generalize applyS s1 l[k]=ap at *
  obtain ⟨s5,⟨ac,aq,ae,af,av5,ar⟩,e5⟩:=ap
  generalize l[k]=x at *
  generalize cmdI x=ci at *
  obtain ⟨kind,cl,seq,key,val,old,node⟩:=x
  simp only at *
  repeat' (first|apply v_seq|apply v_region|apply v_nil|apply v_skip|apply v_block|apply v_pure;(case hop=>first|apply p_move<;>rfl|apply p_lt<;>rfl|apply p_lenSlice<;>rfl|apply p_indexAddrS;(case hx|hi=>rfl);(case h0|h=>omega);(case hA=>assumption)|fail);(case hd=>rfl)|apply v_cond;(case hc=>rfl);all_goals (intro h;(try simp only [reduceCtorEq,zzz] at h);try (exfalso;omega))|apply v_read;(case hop=>(apply r_loadN;rfl;exact CellsAt.frozen hck;rfl));(case hd=>rfl)|fail)
  refine v_call (μ1:=[]) rfl hcc (List.Perm.refl _) rfl ?_
  rintro _ G5 _ hle5 ⟨rfl,rfl⟩
  have hck5:=hck2 G5 hle5
  have hap5:=hap G5 hle5
  repeat' (first|apply v_seq|apply v_region|apply v_nil|apply v_skip|apply v_pure;(case hop=>first|apply p_move<;>rfl|apply p_ne<;>rfl|apply p_build;(case hz=>rfl);(case hv=>(simp only [List.map_cons,List.map_nil];repeat (with_reducible exact evs_nil)));(case hb=>(apply bldL;repeat (exact bld_nil)))|fail);(case hd=>rfl)|apply v_cond;(case hc=>rfl);all_goals (intro h;(try simp only [reduceCtorEq,zzz] at h))|apply v_buildSlice;(case hz|hi=>rfl);(case hv=>(simp only [List.map_cons,List.map_nil];repeat (first|with_reducible exact evs_nil|apply evs_cons;(case h1=>rfl))));(case hp=>(apply pk_cons;(case hc|hs=>rfl);(case h=>(with_reducible exact pk_nil));(case he=>((repeat (first|with_reducible exact ap_nil|apply ap_cons));done))));(case hb|hd=>rfl);intro b|fail)
  ·have hci:ci≠0:=by assumption
   have hss:=hb1 hci
   subst hss
   simp only at *
   repeat' (first|apply v_region|apply v_nil|apply v_exit;(case hp=>rfl)|apply v_pure;(case hop=>first|apply p_move<;>rfl|apply p_assign<;>rfl|apply p_add;(case hx|hy=>rfl);(case h=>omega)|fail);(case hd=>rfl)|apply v_append (hg:=hga) (m':=1) (us:=zA.cells) (hp:=PickA.perm (by repeat (first|exact PickA.last|apply PickA.cons))) (hsrc:=Src.own (e:=28) (by repeat (exact mhd _)) rfl);(case hzs=>rfl);(case hsz=>omega);(case hs|hx=>rfl);(case hb=>omega);(case hb'=>simp only [maxLen];omega);(case hd|h1=>rfl);intro v3 n3 hg3|fail)
   have hga':=GrA.snoc hg3
   refine v_perm (ν:=((b4,.cells [.int .i64 s1.schema,.slice A1 s1.pairs.length c1,.slice A1' s1.sess.length c1'].toArray 39 (0,0))::(b2,.cells [.int .i64 0,.slice none 0 0,.slice none 0 0].toArray 39 (0,0))::n3)++[(b,_)]) (by apply perm_of_count;intro p;simp only [List.append_eq,List.countP_append,List.countP_cons,List.countP_nil,Nat.zero_add,Nat.add_zero];try ac_rfl) ?_
   refine v_drop (List.sublist_append_left _ _) ?_
   exact v_again rfl ⟨GH.le_trans hle hle5,k+1,s1,A1,A1',c1,c1',_,v3,n3,by omega,rfl,rfl,hga',hs1.up hle5,hok1,by rw [List.length_append,List.length_singleton];omega,rfl⟩ (by simp [headI];omega)
  ·have hci:ci=0:=by assumption
   have hss:=hb2 hci
   subst hss
   simp only at *
   have hap6:=hap5 hci
   refine d_start [(b4,.cells [.int .i64 s1.schema,.slice A1 s1.pairs.length c1,.slice A1' s1.sess.length c1'].toArray 39 (0,0))] (by kernel_rfl) (by kernel_rfl) (by kernel_rfl) (by intro e he;(simp at he;simp [he];done)) ?_
   all_goals (apply dtk 0;(case hi=>rfl);(case hop=>(apply r_loadNo;(case hx=>rfl);(case h=>repeat exact mhd _);(case hd=>repeat first|with_reducible exact dt_nil|apply dt_here);(case hn=>rfl)));(case hq=>kernel_rfl);apply dtm 1;(case hi|hx=>rfl);(case hq=>kernel_rfl))
   all_goals (apply dtm 2;(case hi|hx=>rfl);(case hq=>kernel_rfl);apply dtk 3;(case hi=>rfl);(case hop=>(apply prd;apply p_indexAddrS;(case hx|hi=>rfl);(case h0|h=>omega);(case hA=>assumption)));(case hq=>kernel_rfl))
   all_goals (apply dtk 4;(case hi=>rfl);(case hop=>((apply r_loadN;rfl;exact CellsAt.frozen hck5;rfl)));(case hq=>kernel_rfl))
   focus
    refine d_fork3 5 9 10 (by kernel_rfl) ?_ ?_ ?_
    rotate_right
    focus
     (apply x_exec (d:=8) 10;(case hi=>rfl);(case hop=>exact m_alloc rfl);(case hd=>rfl);rintro _ G0 _ ⟨b11,rfl,hG0,rfl⟩;subst G0;refine ⟨(by intro e he;simp only [List.mem_cons,List.not_mem_nil,or_false] at he;rcases he with rfl;simp),?_⟩)
     focus
      refine d_fork 5 9 (by kernel_rfl) ?_ ?_
      rotate_right
      focus
       (apply x_exec (d:=7) 9;(case hi=>rfl);(case hop=>exact m_alloc rfl);(case hd=>rfl);rintro _ G0 _ ⟨b10,rfl,hG0,rfl⟩;subst G0;refine ⟨(by intro e he;simp only [List.mem_cons,List.not_mem_nil,or_false] at he;rcases he with rfl;simp),?_⟩)
       all_goals ((apply d_call 5 (hs:=hap6) (μ1:=[]);(case hi=>rfl);(case hr=>kernel_rfl);(case ha=>rfl);(case hp=>exact List.Perm.refl _);(case hd=>rfl);(case hν'=>intro e he;simp only [List.mem_cons,List.not_mem_nil,or_false] at he;rcases he with rfl;simp);rintro _ G6 _ hle6 ⟨-,rfl,v6,rfl,hs6⟩;obtain ⟨A6,c6,A6',c6',rfl,-,-⟩:=id hs6))
       all_goals (apply dtm 6;(case hi|hx=>rfl);(case hq=>kernel_rfl);apply dtk 7;(case hi=>rfl);(case hop=>(apply prd;apply p_extract0<;>rfl));(case hq=>kernel_rfl))
       all_goals (apply dtk 8;(case hi=>rfl);(case hop=>(apply prd;apply p_extract1<;>rfl));(case hq=>kernel_rfl))
       all_goals (apply d_store 11;(case hi=>rfl);(case hr=>kernel_rfl);(case hL=>infer_instance);(case hp|hx|hc|hsz|h1=>rfl);(case hb=>repeat exact mhd _);(case hfit=>exact nle rfl);(case hov=>((repeat (first|with_reducible exact ov_nil|apply ov_cons));done));(case hu=>repeat (exact Upd.here _ _));(case hν'=>intro e he;simp at he;simp [he]))
       all_goals (apply d_store 12;(case hi=>rfl);(case hr=>kernel_rfl);(case hL=>infer_instance);(case hp|hx|hc|hsz|h1=>rfl);(case hb=>repeat first|exact mhd _|apply mtl);(case hfit=>exact nle rfl);(case hov=>((repeat (first|with_reducible exact ov_nil|apply ov_cons));done));(case hu=>repeat first|exact Upd.here _ _|apply Upd.there);(case hν'=>intro e he;simp at he;simp [he]))
       all_goals (apply d_done;(case hr=>kernel_rfl))
      rotate_right
      focus
       (apply x_call 5 (hs:=hap6) (μ1:=[]);(case hi|ha=>rfl);(case hp=>exact List.Perm.refl _);(case hd=>rfl);(case hν'=>intro e he;simp only [List.mem_cons,List.not_mem_nil,or_false] at he;rcases he with rfl;simp);rintro _ G6 _ hle6 ⟨-,rfl,v6,rfl,hs6⟩;obtain ⟨A6,c6,A6',c6',rfl,-,-⟩:=id hs6)
       all_goals (apply dtm 6;(case hi|hx=>rfl);(case hq=>kernel_rfl);apply dtk 7;(case hi=>rfl);(case hop=>(apply prd;apply p_extract0<;>rfl));(case hq=>kernel_rfl))
       all_goals (apply dtk 8;(case hi=>rfl);(case hop=>(apply prd;apply p_extract1<;>rfl));(case hq=>kernel_rfl))
       all_goals ((apply d_exec (d:=7) 9;(case hi=>rfl);(case hr=>kernel_rfl);(case hop=>exact m_alloc rfl);(case hd=>rfl);rintro _ G0 _ ⟨b10,rfl,hG0,rfl⟩;subst G0;refine ⟨(by intro e he;simp only [List.mem_cons,List.not_mem_nil,or_false] at he;rcases he with rfl;simp),?_⟩))
       all_goals (apply d_store 11;(case hi=>rfl);(case hr=>kernel_rfl);(case hL=>infer_instance);(case hp|hx|hc|hsz|h1=>rfl);(case hb=>repeat exact mhd _);(case hfit=>exact nle rfl);(case hov=>((repeat (first|with_reducible exact ov_nil|apply ov_cons));done));(case hu=>repeat (exact Upd.here _ _));(case hν'=>intro e he;simp at he;simp [he]))
       all_goals (apply d_store 12;(case hi=>rfl);(case hr=>kernel_rfl);(case hL=>infer_instance);(case hp|hx|hc|hsz|h1=>rfl);(case hb=>repeat first|exact mhd _|apply mtl);(case hfit=>exact nle rfl);(case hov=>((repeat (first|with_reducible exact ov_nil|apply ov_cons));done));(case hu=>repeat first|exact Upd.here _ _|apply Upd.there);(case hν'=>intro e he;simp at he;simp [he]))
       all_goals (apply d_done;(case hr=>kernel_rfl))
    rotate_right
    focus
     (apply x_exec (d:=7) 9;(case hi=>rfl);(case hop=>exact m_alloc rfl);(case hd=>rfl);rintro _ G0 _ ⟨b10,rfl,hG0,rfl⟩;subst G0;refine ⟨(by intro e he;simp only [List.mem_cons,List.not_mem_nil,or_false] at he;rcases he with rfl;simp),?_⟩)
     focus
      refine d_fork 5 10 (by kernel_rfl) ?_ ?_
      rotate_right
      focus
       (apply x_exec (d:=8) 10;(case hi=>rfl);(case hop=>exact m_alloc rfl);(case hd=>rfl);rintro _ G0 _ ⟨b11,rfl,hG0,rfl⟩;subst G0;refine ⟨(by intro e he;simp only [List.mem_cons,List.not_mem_nil,or_false] at he;rcases he with rfl;simp),?_⟩)
       all_goals ((apply d_call 5 (hs:=hap6) (μ1:=[]);(case hi=>rfl);(case hr=>kernel_rfl);(case ha=>rfl);(case hp=>exact List.Perm.refl _);(case hd=>rfl);(case hν'=>intro e he;simp only [List.mem_cons,List.not_mem_nil,or_false] at he;rcases he with rfl;simp);rintro _ G6 _ hle6 ⟨-,rfl,v6,rfl,hs6⟩;obtain ⟨A6,c6,A6',c6',rfl,-,-⟩:=id hs6))
       all_goals (apply dtm 6;(case hi|hx=>rfl);(case hq=>kernel_rfl);apply dtk 7;(case hi=>rfl);(case hop=>(apply prd;apply p_extract0<;>rfl));(case hq=>kernel_rfl))
       all_goals (apply dtk 8;(case hi=>rfl);(case hop=>(apply prd;apply p_extract1<;>rfl));(case hq=>kernel_rfl))
       all_goals (apply d_store 11;(case hi=>rfl);(case hr=>kernel_rfl);(case hL=>infer_instance);(case hp|hx|hc|hsz|h1=>rfl);(case hb=>repeat first|exact mhd _|apply mtl);(case hfit=>exact nle rfl);(case hov=>((repeat (first|with_reducible exact ov_nil|apply ov_cons));done));(case hu=>repeat first|exact Upd.here _ _|apply Upd.there);(case hν'=>intro e he;simp at he;simp [he]))
       all_goals (apply d_store 12;(case hi=>rfl);(case hr=>kernel_rfl);(case hL=>infer_instance);(case hp|hx|hc|hsz|h1=>rfl);(case hb=>repeat exact mhd _);(case hfit=>exact nle rfl);(case hov=>((repeat (first|with_reducible exact ov_nil|apply ov_cons));done));(case hu=>repeat (exact Upd.here _ _));(case hν'=>intro e he;simp at he;simp [he]))
       all_goals (apply d_done;(case hr=>kernel_rfl))
      rotate_right
      focus
       (apply x_call 5 (hs:=hap6) (μ1:=[]);(case hi|ha=>rfl);(case hp=>exact List.Perm.refl _);(case hd=>rfl);(case hν'=>intro e he;simp only [List.mem_cons,List.not_mem_nil,or_false] at he;rcases he with rfl;simp);rintro _ G6 _ hle6 ⟨-,rfl,v6,rfl,hs6⟩;obtain ⟨A6,c6,A6',c6',rfl,-,-⟩:=id hs6)
       all_goals (apply dtm 6;(case hi|hx=>rfl);(case hq=>kernel_rfl);apply dtk 7;(case hi=>rfl);(case hop=>(apply prd;apply p_extract0<;>rfl));(case hq=>kernel_rfl))
       all_goals (apply dtk 8;(case hi=>rfl);(case hop=>(apply prd;apply p_extract1<;>rfl));(case hq=>kernel_rfl))
       all_goals ((apply d_exec (d:=8) 10;(case hi=>rfl);(case hr=>kernel_rfl);(case hop=>exact m_alloc rfl);(case hd=>rfl);rintro _ G0 _ ⟨b11,rfl,hG0,rfl⟩;subst G0;refine ⟨(by intro e he;simp only [List.mem_cons,List.not_mem_nil,or_false] at he;rcases he with rfl;simp),?_⟩))
       all_goals (apply d_store 11;(case hi=>rfl);(case hr=>kernel_rfl);(case hL=>infer_instance);(case hp|hx|hc|hsz|h1=>rfl);(case hb=>repeat first|exact mhd _|apply mtl);(case hfit=>exact nle rfl);(case hov=>((repeat (first|with_reducible exact ov_nil|apply ov_cons));done));(case hu=>repeat first|exact Upd.here _ _|apply Upd.there);(case hν'=>intro e he;simp at he;simp [he]))
       all_goals (apply d_store 12;(case hi=>rfl);(case hr=>kernel_rfl);(case hL=>infer_instance);(case hp|hx|hc|hsz|h1=>rfl);(case hb=>repeat exact mhd _);(case hfit=>exact nle rfl);(case hov=>((repeat (first|with_reducible exact ov_nil|apply ov_cons));done));(case hu=>repeat (exact Upd.here _ _));(case hν'=>intro e he;simp at he;simp [he]))
       all_goals (apply d_done;(case hr=>kernel_rfl))
    rotate_right
    focus
     (apply x_call 5 (hs:=hap6) (μ1:=[]);(case hi|ha=>rfl);(case hp=>exact List.Perm.refl _);(case hd=>rfl);(case hν'=>intro e he;simp only [List.mem_cons,List.not_mem_nil,or_false] at he;rcases he with rfl;simp);rintro _ G6 _ hle6 ⟨-,rfl,v6,rfl,hs6⟩;obtain ⟨A6,c6,A6',c6',rfl,-,-⟩:=id hs6)
     all_goals (apply dtm 6;(case hi|hx=>rfl);(case hq=>kernel_rfl);apply dtk 7;(case hi=>rfl);(case hop=>(apply prd;apply p_extract0<;>rfl));(case hq=>kernel_rfl))
     all_goals (apply dtk 8;(case hi=>rfl);(case hop=>(apply prd;apply p_extract1<;>rfl));(case hq=>kernel_rfl))
     focus
      refine d_fork 9 10 (by kernel_rfl) ?_ ?_
      rotate_right
      focus
       (apply x_exec (d:=8) 10;(case hi=>rfl);(case hop=>exact m_alloc rfl);(case hd=>rfl);rintro _ G0 _ ⟨b11,rfl,hG0,rfl⟩;subst G0;refine ⟨(by intro e he;simp only [List.mem_cons,List.not_mem_nil,or_false] at he;rcases he with rfl;simp),?_⟩)
       all_goals ((apply d_exec (d:=7) 9;(case hi=>rfl);(case hr=>kernel_rfl);(case hop=>exact m_alloc rfl);(case hd=>rfl);rintro _ G0 _ ⟨b10,rfl,hG0,rfl⟩;subst G0;refine ⟨(by intro e he;simp only [List.mem_cons,List.not_mem_nil,or_false] at he;rcases he with rfl;simp),?_⟩))
       all_goals (apply d_store 11;(case hi=>rfl);(case hr=>kernel_rfl);(case hL=>infer_instance);(case hp|hx|hc|hsz|h1=>rfl);(case hb=>repeat exact mhd _);(case hfit=>exact nle rfl);(case hov=>((repeat (first|with_reducible exact ov_nil|apply ov_cons));done));(case hu=>repeat (exact Upd.here _ _));(case hν'=>intro e he;simp at he;simp [he]))
       all_goals (apply d_store 12;(case hi=>rfl);(case hr=>kernel_rfl);(case hL=>infer_instance);(case hp|hx|hc|hsz|h1=>rfl);(case hb=>repeat first|exact mhd _|apply mtl);(case hfit=>exact nle rfl);(case hov=>((repeat (first|with_reducible exact ov_nil|apply ov_cons));done));(case hu=>repeat first|exact Upd.here _ _|apply Upd.there);(case hν'=>intro e he;simp at he;simp [he]))
       all_goals (apply d_done;(case hr=>kernel_rfl))
      rotate_right
      focus
       (apply x_exec (d:=7) 9;(case hi=>rfl);(case hop=>exact m_alloc rfl);(case hd=>rfl);rintro _ G0 _ ⟨b10,rfl,hG0,rfl⟩;subst G0;refine ⟨(by intro e he;simp only [List.mem_cons,List.not_mem_nil,or_false] at he;rcases he with rfl;simp),?_⟩)
       all_goals ((apply d_exec (d:=8) 10;(case hi=>rfl);(case hr=>kernel_rfl);(case hop=>exact m_alloc rfl);(case hd=>rfl);rintro _ G0 _ ⟨b11,rfl,hG0,rfl⟩;subst G0;refine ⟨(by intro e he;simp only [List.mem_cons,List.not_mem_nil,or_false] at he;rcases he with rfl;simp),?_⟩))
       all_goals (apply d_store 11;(case hi=>rfl);(case hr=>kernel_rfl);(case hL=>infer_instance);(case hp|hx|hc|hsz|h1=>rfl);(case hb=>repeat first|exact mhd _|apply mtl);(case hfit=>exact nle rfl);(case hov=>((repeat (first|with_reducible exact ov_nil|apply ov_cons));done));(case hu=>repeat first|exact Upd.here _ _|apply Upd.there);(case hν'=>intro e he;simp at he;simp [he]))
       all_goals (apply d_store 12;(case hi=>rfl);(case hr=>kernel_rfl);(case hL=>infer_instance);(case hp|hx|hc|hsz|h1=>rfl);(case hb=>repeat exact mhd _);(case hfit=>exact nle rfl);(case hov=>((repeat (first|with_reducible exact ov_nil|apply ov_cons));done));(case hu=>repeat (exact Upd.here _ _));(case hν'=>intro e he;simp at he;simp [he]))
       all_goals (apply d_done;(case hr=>kernel_rfl))
   all_goals refine v_perm (ν:=(b11,.cells [.int .i64 ac,.int .i64 aq,.int .i64 ae,.bool af,.string av5,.int .i64 ar].toArray 28 (0,0))::(b10,.cells [.int .i64 s5.schema,.slice A6 s5.pairs.length c6,.slice A6' s5.sess.length c6'].toArray 39 (0,0))::(b4,.cells [.int .i64 s1.schema,.slice A1 s1.pairs.length c1,.slice A1' s1.sess.length c1'].toArray 39 (0,0))::(b2,.cells [.int .i64 0,.slice none 0 0,.slice none 0 0].toArray 39 (0,0))::ν) (by first|exact List.Perm.refl _|exact List.Perm.swap _ _ _) ?_
   all_goals
    repeat' (first|apply v_read;(case hop=>(apply r_loadNo;(case hx=>rfl);(case h=>repeat first|exact mhd _|apply mtl);(case hd|hn=>rfl)));(case hd=>rfl)|apply v_seq|apply v_region|apply v_nil|apply v_blk|apply v_pure;(case hop=>first|apply p_move<;>rfl|apply p_assign<;>rfl|apply p_add;(case hx|hy=>rfl);(case h=>omega)|fail);(case hd=>rfl)|apply v_append (hg:=hga) (m':=1) (us:=An.cells ⟨ac,aq,ae,af,av5,ar⟩) (hp:=PickA.perm (by repeat (first|exact PickA.last|apply PickA.cons))) (hsrc:=Src.own (e:=28) (by repeat (exact mhd _)) rfl);(case hzs=>rfl);(case hsz=>omega);(case hs|hx=>rfl);(case hb=>omega);(case hb'=>simp only [maxLen];omega);(case hd|h1=>rfl);intro v3 n3 hg3|apply v_buildSlice;(case hz|hi=>rfl);(case hv=>(simp only [List.map_cons,List.map_nil];repeat (first|with_reducible exact evs_nil|apply evs_cons;(case h1=>rfl))));(case hp=>(apply pk_cons;(case hc|hs=>rfl);(case h=>(with_reducible exact pk_nil));(case he=>(rfl))));(case hb|hd=>rfl);intro b|apply v_store;(case hp|hx|hc|hsz|h1=>rfl);(case hb=>repeat first|exact mhd _|apply mtl);(case hfit=>exact nle rfl);(case hov=>(rfl));(case hu=>repeat first|exact Upd.here _ _|apply Upd.there)|fail)
   all_goals
    (have hga':=GrA.snoc hg3
     refine v_perm (ν:=((b4,.cells [.int .i64 s5.schema,.slice A6 s5.pairs.length c6,.slice A6' s5.sess.length c6'].toArray 39 (0,0))::(b2,.cells [.int .i64 0,.slice none 0 0,.slice none 0 0].toArray 39 (0,0))::n3)++[(b,_),(b11,_),(b10,_)]) (by apply perm_of_count;intro p;simp only [List.append_eq,List.countP_append,List.countP_cons,List.countP_nil,Nat.zero_add,Nat.add_zero];try ac_rfl) ?_
     refine v_drop (List.sublist_append_left _ _) ?_
     exact v_again rfl ⟨GH.le_trans hle (GH.le_trans hle5 hle6),k+1,s5,A6,A6',c6,c6',_,v3,n3,by omega,rfl,rfl,hga',hs6,hkp,by rw [List.length_append,List.length_singleton];omega,rfl⟩ (by simp [headI];omega))
 ·obtain rfl:k=l.length:=by omega
  rw [hrun,List.drop_length]
  repeat' (first|apply v_seq|apply v_region|apply v_nil|apply v_exit;(case hp=>rfl)|apply v_pure;(case hop=>first|apply p_move<;>rfl|apply p_lt<;>rfl|apply p_assign<;>rfl|apply p_lenSlice<;>rfl|fail);(case hd=>rfl)|apply v_cond;(case hc=>rfl);all_goals (intro h;(try simp only [reduceCtorEq,zzz] at h);try (exfalso;omega))|apply v_read;(case hop=>(apply r_loadNo;(case hx=>rfl);(case h=>repeat exact mhd _);(case hd=>repeat first|with_reducible exact dt_nil|apply dt_here);(case hn=>rfl)));(case hd=>rfl)|apply v_store;(case hp|hx|hc|hsz|h1=>rfl);(case hb=>repeat first|exact mhd _|apply mtl);(case hfit=>exact nle rfl);(case hov=>((repeat (first|with_reducible exact ov_nil|apply ov_cons));done));(case hu=>repeat first|exact Upd.here _ _|apply Upd.there)|fail)
  refine v_perm (ν:=ν++[(b4,.cells [.int .i64 s1.schema,.slice A1 s1.pairs.length c1,.slice A1' s1.sess.length c1'].toArray 39 (0,0)),(b2,.cells [.int .i64 s1.schema,.slice A1 s1.pairs.length c1,.slice A1' s1.sess.length c1'].toArray 39 (0,0))]) (by apply perm_of_count;intro p;simp only [List.append_eq,List.countP_append,List.countP_cons,List.countP_nil,Nat.zero_add,Nat.add_zero];try ac_rfl) ?_
  refine v_retM ν (outsM_cell_tmp (sz:=3) (vs:=[.int .i64 s1.schema,.slice A1 s1.pairs.length c1,.slice A1' s1.sess.length c1']) (e:=39) rfl rfl rfl (by repeat (first|exact mhd _|apply mtl|apply List.mem_append_right)) rfl) (List.sublist_append_left _ _) ⟨_,_,rfl,hs1,hga⟩
theorem rise_uniq {l:List Ss}(h:RiseW ksS l) {x y:Ss}(hx:x∈l) (hy:y∈l) (e:x.client=y.client):x=y:=by
 obtain ⟨i,hi,rfl⟩:=List.getElem_of_mem hx
 obtain ⟨j,hj,rfl⟩:=List.getElem_of_mem hy
 have hg:=riseG_pw.2 h
 rcases Nat.lt_trichotomy i j with hij|hij|hij
 ·have:=hg i j hj hij;simp only [ksS] at this;omega
 ·subst hij;rfl
 ·have:=hg j i hi hij;simp only [ksS] at this;omega
def lq (l:List Ss) (n:Int):Int:=(lastS l n).1
theorem lq_mem {l:List Ss}(hr:RiseW ksS l) {x:Ss}(hx:x∈l):lq l x.client=x.seq:=by
 have hh:hitG ksS l x.client=true:=(hit_iff hr).2 ⟨x,hx,rfl⟩
 obtain ⟨h1,h2⟩:=sesAt_mem hr hh
 unfold lq lastS
 rw [if_pos hh]
 rw [rise_uniq hr h1 hx h2]
theorem lq_none {l:List Ss}(hr:RiseW ksS l) {n:Int}(h:∀ x∈l,x.client≠n):lq l n=0:=by
 have hh:¬ hitG ksS l n=true:=fun e=>by
  obtain ⟨x,hx,he⟩:=(hit_iff hr).1 e
  exact h x hx he
 unfold lq lastS
 rw [if_neg hh]
theorem withG_iff {l:List Ss}{p x:Ss}:x∈withG ksS l p↔x=p∨(x∈l∧x.client≠p.client):=by
 unfold withG
 simp only [List.mem_append,List.mem_cons,List.mem_filter,decide_eq_true_eq]
 constructor
 ·rintro (⟨h1,h2⟩|rfl|⟨h1,h2⟩)
  ·exact .inr ⟨h1,by unfold ksS at h2;omega⟩
  ·exact .inl rfl
  ·exact .inr ⟨h1,by unfold ksS at h2;omega⟩
 ·rintro (rfl|⟨h1,h2⟩)
  ·exact .inr (.inl rfl)
  ·by_cases h:x.client<p.client
   ·exact .inl ⟨h1,h⟩
   ·exact .inr (.inr ⟨h1,by unfold ksS;omega⟩)
theorem lq_with {l:List Ss}(hr:RiseW ksS l) {p:Ss}(hr':RiseW ksS (withG ksS l p)) (n:Int):lq (withG ksS l p) n=if n=p.client then p.seq else lq l n:=by
 by_cases h:n=p.client
 ·subst h
  rw [if_pos rfl]
  exact lq_mem hr' (withG_iff.2 (.inl rfl))
 ·rw [if_neg h]
  by_cases hx:∃ x∈l,x.client=n
  ·obtain ⟨x,hx,rfl⟩:=hx
   rw [lq_mem hr hx]
   exact lq_mem hr' (withG_iff.2 (.inr ⟨hx,h⟩))
  ·rw [lq_none hr fun x hx' e=>hx ⟨x,hx',e⟩]
   refine lq_none hr' fun x hx' e=>?_
   rcases withG_iff.1 hx' with rfl|⟨h1,-⟩
   ·exact h e.symm
   ·exact hx ⟨x,h1,e⟩
def cntP (s:St) (c:Cm):Prop:=cmdI c=0∧(2≤c.kind∧c.kind≤5)∧lq s.sess c.client<c.seq∧HasP s.schema c.kind
theorem ses_rise {s:St}(h:StP s):RiseW ksS s.sess:=by
 obtain ⟨hses,-⟩:=stP_iff.1 h
 exact riseG_pw.1 (adjS_rise hses.1)
theorem sess_step {s:St}(h:StP s) (c:Cm):(cntP s c→∃ a:An,a.client=c.client∧a.seq=c.seq∧(specS s c).1.sess=withG ksS s.sess (sesOf a))∧(¬ cntP s c→(specS s c).1.sess=s.sess):=by
 by_cases h0:cmdI c=0
 rotate_left
 ·exact ⟨fun hc=>absurd hc.1 h0,fun _=>by rw [specS_bad h0]⟩
 rw [specS_good h0]
 unfold applyS
 rw [if_neg (by simp [h0])]
 by_cases ho:2≤c.kind∧c.kind≤5
 rotate_left
 ·rw [if_neg ho]
  refine ⟨fun hc=>absurd hc.2.1 ho,fun _=>?_⟩
  split<;>rfl
 rw [if_pos ho]
 obtain ⟨hses,hsch,-,-⟩:=stP_iff.1 h
 obtain ⟨hk,hown,hval⟩:=cmd_ok h0
 obtain ⟨hcl,hsq,hkey⟩:=hown ho
 obtain ⟨w1,w2,-⟩:=which_last hses (n:=c.client) (q:=c.seq) (by omega)
 have hv:verS s.schema=s.schema:=verS_two hsch
 have hid:=clientS_ok h h0 ho
 unfold clientS at hid ⊢
 by_cases e1:(whichS s.sess c.client c.seq).1=1
 ·rw [if_pos e1]
  refine ⟨fun hc=>?_,fun _=>rfl⟩
  have:=w1.1 e1
  have:=hc.2.2.1
  unfold lq at this
  omega
 rw [if_neg e1] at hid ⊢
 by_cases e2:(whichS s.sess c.client c.seq).1=2
 ·rw [if_pos e2]
  refine ⟨fun hc=>?_,fun _=>rfl⟩
  have:=w2.1 e2
  have:=hc.2.2.1
  unfold lq at this
  omega
 rw [if_neg e2] at hid ⊢
 rw [hv] at hid ⊢
 by_cases e3:HasP s.schema c.kind
 ·rw [if_pos e3] at hid ⊢
  refine ⟨fun _=>⟨_,hid.2.2.1,hid.2.2.2,rfl⟩,fun hn=>absurd ⟨h0,ho,?_,e3⟩ hn⟩
  have h1:¬ (0<(lastS s.sess c.client).1∧c.seq=(lastS s.sess c.client).1):=fun h=>e1 (w1.2 h)
  have h2:¬ c.seq<(lastS s.sess c.client).1:=fun h=>e2 (w2.2 h)
  unfold lq
  omega
 ·rw [if_neg e3]
  exact ⟨fun hc=>absurd hc.2.2.2 e3,fun _=>rfl⟩
theorem lq_step {s:St}(h:StP s) (c:Cm) (n:Int):(cntP s c→lq (specS s c).1.sess n=if n=c.client then c.seq else lq s.sess n)∧(¬ cntP s c→lq (specS s c).1.sess n=lq s.sess n):=by
 obtain ⟨h1,h2⟩:=sess_step h c
 have hr':=ses_rise (specS_ok (c:=c) h)
 refine ⟨fun hc=>?_,fun hc=>by rw [h2 hc]⟩
 obtain ⟨a,ha,hs,he⟩:=h1 hc
 rw [he] at hr' ⊢
 rw [lq_with (ses_rise h) hr']
 unfold sesOf
 simp only [ha,hs]
theorem sess_ne {s:St}(h:StP s) (c:Cm):s.sess=(specS s c).1.sess↔¬ cntP s c:=by
 constructor
 ·intro he hc
  have:=(lq_step h c c.client).1 hc
  rw [← he,if_pos rfl] at this
  have:=hc.2.2.1
  omega
 ·intro hc
  exact ((sess_step h c).2 hc).symm
noncomputable def stA (log:List Cm) (i:Nat):St:=(specA emp [] (log.take i)).1
theorem stA_ok (log:List Cm) (i:Nat):StP (stA log i):=specA_ok _ emp_ok
theorem stA_succ {log:List Cm}{i:Nat}(h:i<log.length):stA log (i+1)=(specS (stA log i) log[i]).1:=by
 unfold stA
 rw [List.take_succ_eq_append_getElem h,specA_snoc]
def cnt (log:List Cm) (i:Nat):Prop := ∃ h:i<log.length,cntP (stA log i) log[i]
theorem lq_mono {log:List Cm}{i:Nat}(n:Int):∀ j,i≤j→j≤log.length→lq (stA log i).sess n≤lq (stA log j).sess n
 | 0,h,_=>by rw [show i=0 by omega];omega
 | j+1,h,hj=>by
  by_cases e:i=j+1
  ·rw [e];omega
  ·have ih:=lq_mono (log:=log) (i:=i) n j (by omega) (by omega)
   rw [stA_succ (by omega)]
   obtain ⟨h1,h2⟩:=lq_step (stA_ok log j) log[j] n
   by_cases hc:cntP (stA log j) log[j]
   ·rw [h1 hc]
    split
    ·rename_i hn
     have:=hc.2.2.1
     rw [← hn] at this
     omega
    ·exact ih
   ·rw [h2 hc];exact ih
theorem cnt_once {log:List Cm}{i j:Nat}(hi:cnt log i) (hj:cnt log j) (h1:(log[i]'hi.1).client=(log[j]'hj.1).client) (h2:(log[i]'hi.1).seq=(log[j]'hj.1).seq):i=j:=by
 have key:∀ i j (hi:cnt log i) (hj:cnt log j),i<j→(log[i]'hi.1).client=(log[j]'hj.1).client→(log[i]'hi.1).seq=(log[j]'hj.1).seq→False:=fun i j hi hj hlt h1 h2=>by
  obtain ⟨li,ci⟩:=hi
  obtain ⟨lj,cj⟩:=hj
  have e:=(lq_step (stA_ok log i) log[i] log[i].client).1 ci
  rw [if_pos rfl,← stA_succ li] at e
  have m:=lq_mono (log:=log) (i:=i+1) log[i].client j (by omega) (by omega)
  have:=cj.2.2.1
  rw [← h1,← h2] at this
  omega
 rcases Nat.lt_trichotomy i j with h|h|h
 ·exact absurd (key i j hi hj h h1 h2) id
 ·exact h
 ·exact absurd (key j i hj hi h h1.symm h2.symm) id
noncomputable def plK (log:List Cm) (p:Int×Int):Nat→Nat
 | 0=>0
 | k+1=>open Classical in if ∃ h:cnt log k,(log[k]'h.1).client=p.1∧(log[k]'h.1).seq=p.2 then k+1 else plK log p k
noncomputable def pl (log:List Cm) (p:Int×Int):Nat:=plK log p log.length
theorem plK_at {log:List Cm}{p:Int×Int}{i:Nat}(h:cnt log i) (h1:(log[i]'h.1).client=p.1) (h2:(log[i]'h.1).seq=p.2):∀ k,plK log p k=if i<k then i+1 else 0
 | 0=>rfl
 | k+1=>by
  unfold plK
  by_cases hk:∃ h:cnt log k,(log[k]'h.1).client=p.1∧(log[k]'h.1).seq=p.2
  ·rw [if_pos hk]
   obtain ⟨hc,a,b⟩:=hk
   have:=cnt_once h hc (by rw [h1,a]) (by rw [h2,b])
   subst this
   rw [if_pos (by omega)]
  ·rw [if_neg hk,plK_at h h1 h2 k]
   by_cases hik:i<k
   ·rw [if_pos hik,if_pos (by omega)]
   ·rw [if_neg hik,if_neg]
    intro hlt
    obtain rfl:i=k:=by omega
    exact hk ⟨h,h1,h2⟩
theorem plK_no {log:List Cm}{p:Int×Int}(h:∀ i (hc:cnt log i),¬ ((log[i]'hc.1).client=p.1∧(log[i]'hc.1).seq=p.2)):∀ k,plK log p k=0
 | 0=>rfl
 | k+1=>by
  unfold plK
  rw [if_neg fun ⟨hc,hh⟩=>h k hc hh,plK_no h k]
theorem pl_at {log:List Cm}{i:Nat}(h:cnt log i):pl log ((log[i]'h.1).client,(log[i]'h.1).seq)=i+1:=by
 unfold pl
 rw [plK_at h rfl rfl,if_pos h.1]
theorem pl_some {log:List Cm}{p:Int×Int}{i:Nat}(h:pl log p=i+1):∃ hc:cnt log i,(log[i]'hc.1).client=p.1∧(log[i]'hc.1).seq=p.2:=by
 by_cases hx:∃ j,∃ hc:cnt log j,(log[j]'hc.1).client=p.1∧(log[j]'hc.1).seq=p.2
 ·obtain ⟨j,hc,h1,h2⟩:=hx
  unfold pl at h
  rw [plK_at hc h1 h2,if_pos hc.1] at h
  obtain rfl:j=i:=by omega
  exact ⟨hc,h1,h2⟩
 ·unfold pl at h
  rw [plK_no fun j hc hh=>hx ⟨j,hc,hh⟩] at h
  omega
def CmR (c:Cm) (cs:List Value):Prop:=cs=c.cells∧c.ok
theorem el_cm {H:Type}{enc:TypeId×Value→H}{W:World}:Elem enc Tryz.prog W 25 CmR:=by
 intro fuel cs x hf
 have h1:=el_flen (n:=7) Tryz.underlying25 (by kernel_rfl) hf
 obtain ⟨a0,h0,w0⟩:=el_fld (i:=0) (sz:=1) (by kernel_rfl) (el_int Tryz.underlying3) hf
 obtain ⟨a1,e1,w1⟩:=el_fld (i:=1) (sz:=1) (by kernel_rfl) (el_int Tryz.underlying3) hf
 obtain ⟨a2,e2,w2⟩:=el_fld (i:=2) (sz:=1) (by kernel_rfl) (el_int Tryz.underlying3) hf
 obtain ⟨a3,e3,w3⟩:=el_fld (i:=3) (sz:=1) (by kernel_rfl) (el_string Tryz.underlying9) hf
 obtain ⟨a4,e4,w4⟩:=el_fld (i:=4) (sz:=1) (by kernel_rfl) (el_string Tryz.underlying9) hf
 obtain ⟨a5,e5,w5⟩:=el_fld (i:=5) (sz:=1) (by kernel_rfl) (el_string Tryz.underlying9) hf
 obtain ⟨a6,e6,w6⟩:=el_fld (i:=6) (sz:=1) (by kernel_rfl) (el_int Tryz.underlying3) hf
 match cs,h1 with
 | [c0,c1,c2,c3,c4,c5,c6],_ =>
  simp only [List.drop_succ_cons,List.drop_zero,List.take_succ_cons,List.take_zero,List.cons.injEq,and_true] at h0 e1 e2 e3 e4 e5 e6
  exact ⟨⟨a0,a1,a2,a3,a4,a5,a6⟩,by rw [h0,e1,e2,e3,e4,e5,e6];rfl,w0,w1,w2,w3,w4,w5,w6⟩
theorem el_an {H:Type}{enc:TypeId×Value→H}{W:World}:Elem enc Tryz.prog W 28 (RowR An.cells):=by
 intro fuel cs x hf
 have h1:=el_flen (n:=6) Tryz.underlying28 (by kernel_rfl) hf
 obtain ⟨a0,e0,w0⟩:=el_fld (i:=0) (sz:=1) (by kernel_rfl) (el_int Tryz.underlying3) hf
 obtain ⟨a1,e1,w1⟩:=el_fld (i:=1) (sz:=1) (by kernel_rfl) (el_int Tryz.underlying3) hf
 obtain ⟨a2,e2,w2⟩:=el_fld (i:=2) (sz:=1) (by kernel_rfl) (el_int (k:=.i64) Tryz.underlying26) hf
 obtain ⟨a3,e3⟩:=el_fld (i:=3) (sz:=1) (by kernel_rfl) (el_bool Tryz.underlying4) hf
 obtain ⟨a4,e4,w4⟩:=el_fld (i:=4) (sz:=1) (by kernel_rfl) (el_string Tryz.underlying9) hf
 obtain ⟨a5,e5,w5⟩:=el_fld (i:=5) (sz:=1) (by kernel_rfl) (el_int Tryz.underlying3) hf
 match cs,h1 with
 | [c0,c1,c2,c3,c4,c5],_ =>
  simp only [BoolR,List.drop_succ_cons,List.drop_zero,List.take_succ_cons,List.take_zero,List.cons.injEq,and_true] at e0 e1 e2 e3 e4 e5
  exact ⟨⟨a0,a1,a2,a3,a4,a5⟩,by rw [e0,e1,e2,e3,e4,e5];rfl⟩
set_option maxRecDepth 100000 in
theorem arg_t22 {H:Type}{enc:TypeId×Value→H}{W:World}{base:Nat}{v:Value}{d:DataW H}{p:List MemPlace}(hv:Value.okWide Tryz.prog W .any base 22 v) (h:DataW.Trod enc Tryz.prog W 0 (fun _=>true) true 22 v d p):∃ l:List Cm,Sl (ghost W) 7 CmR v l :=
 arg_slice Tryz.underlying22 (by kernel_rfl) el_cm hv h
theorem cms_of {G:GH}{v:Value}{l:List Cm}(h:Sl G 7 CmR v l):Cms G v l∧∀ c∈l,c.ok:=by
 obtain ⟨A,c,rfl,h1,h2,h3,h4⟩:=h.open
 refine ⟨Sl.le h (GH.le_refl _) (fun _ _ hx=>hx.1),fun x hx=>?_⟩
 obtain ⟨i,hi,rfl⟩:=List.getElem_of_mem hx
 obtain ⟨cs,_,h5,h6⟩:=h4 i _ (List.getElem?_eq_getElem hi)
 exact h5.2
theorem firstEq:(Rows.laid_unicode_utf8_first:DataW Unit)=Lib.firstData:=by kernel_rfl
theorem acceptEq:(Rows.laid_unicode_utf8_acceptRanges:DataW Unit)=Lib.acceptData:=by kernel_rfl
abbrev tabsLaid:List (String×DataW Unit):=[("unicode/utf8.acceptRanges",Rows.laid_unicode_utf8_acceptRanges),("unicode/utf8.first",Rows.laid_unicode_utf8_first)]
theorem tabs_plain:(tabsLaid.all fun x=>x.2.handleName?.isNone)=true:=by kernel_rfl
theorem tabs_of_laid {W:World}(hL:laidMetH Tryz.prog tabsLaid W):TabsG (ghost W):=by
 rw [MakeChecks.laidMetH_plain _ _ _ tabs_plain] at hL
 have r1:=Lib.laidMet.reads hL (.tail _ (.head _))
 have r2:=Lib.laidMet.reads hL (.head _)
 rw [firstEq] at r1
 rw [acceptEq] at r2
 have hU:=utf8Tabs_of_readsT (ρ:=laysDecode_ren) { laysDecode with } ⟨by kernel_rfl,by kernel_rfl,by kernel_rfl,by kernel_rfl,by kernel_rfl,by kernel_rfl,by kernel_rfl⟩ r1 r2
 clear hL r1 r2
 intro w hw
 have lift:∀ (a:Addr) v,W.cell? a=some v→w.cell? a=some v:=by
  intro a v h
  unfold World.cell? at h ⊢
  cases hb:W.heap[a.block]? with
  | none=>rw [hb] at h;simp at h
  | some o=>rw [hw _ _ hb];rw [hb] at h;exact h
 exact ⟨fun c hc=>lift _ _ (hU.1 c hc),fun i hi=>⟨lift _ _ (hU.2 i hi).1,lift _ _ (hU.2 i hi).2⟩⟩
structure Cl where
 cmd:Cm
 b:Int
 e:Int
 ans:An
def Cl.cells (x:Cl):List Value:=x.cmd.cells++(.int .i64 x.b::.int .i64 x.e::x.ans.cells)
theorem Cl.len (x:Cl):x.cells.length=15:=rfl
theorem Cl.one (x:Cl):x.cells.all Value.oneCell'=true:=rfl
def ClR (x:Cl) (cs:List Value):Prop:=cs=x.cells∧x.cmd.ok
abbrev Cls (G:GH) (v:Value) (l:List Cl):Prop:=Sl G 15 ClR v l
theorem Cls.row {G:GH}{v:Value}{l:List Cl}(h:Cls G v l):Sl G 15 (RowR Cl.cells) v l∧∀ x∈l,x.cmd.ok:=by
 refine ⟨h.le (GH.le_refl _) fun _ _ hx=>hx.1,fun x hx=>?_⟩
 obtain ⟨A,c,rfl,h1,h2,h3,h4⟩:=h.open
 obtain ⟨i,hi,rfl⟩:=List.getElem_of_mem hx
 obtain ⟨cs,-,h5,-⟩:=h4 i _ (List.getElem?_eq_getElem hi)
 exact h5.2
theorem el_cl {H:Type}{enc:TypeId×Value→H}{W:World}:Elem enc Tryz.prog W 30 ClR:=by
 intro fuel cs x hf
 have h1:=el_flen (n:=15) Tryz.underlying30 (by kernel_rfl) hf
 obtain ⟨c,hc,ho⟩:=el_fld (i:=0) (sz:=7) (by kernel_rfl) el_cm hf
 obtain ⟨b,hb,-⟩:=el_fld (i:=1) (sz:=1) (by kernel_rfl) (el_int Tryz.underlying3) hf
 obtain ⟨e,he,-⟩:=el_fld (i:=2) (sz:=1) (by kernel_rfl) (el_int Tryz.underlying3) hf
 obtain ⟨a,ha⟩:=el_fld (i:=3) (sz:=6) (by kernel_rfl) el_an hf
 match cs,h1 with
 | [c0,c1,c2,c3,c4,c5,c6,c7,c8,c9,c10,c11,c12,c13,c14],_ =>
  simp only [RowR,An.cells,Cm.cells,List.drop_succ_cons,List.drop_zero,List.take_succ_cons,List.take_zero,List.cons.injEq,and_true] at hc hb he ha
  obtain ⟨rfl,rfl,rfl,rfl,rfl,rfl,rfl⟩:=hc
  obtain ⟨rfl,rfl,rfl,rfl,rfl,rfl⟩:=ha
  subst hb;subst he
  exact ⟨⟨c,b,e,a⟩,rfl,ho⟩
set_option maxRecDepth 100000 in
theorem arg_t23 {H:Type}{enc:TypeId×Value→H}{W:World}{base:Nat}{v:Value}{d:DataW H}{p:List MemPlace}(hv:Value.okWide Tryz.prog W .any base 23 v) (h:DataW.Trod enc Tryz.prog W 0 (fun _=>true) true 23 v d p):∃ l,Cls (ghost W) v l :=
 arg_slice Tryz.underlying23 (by kernel_rfl) el_cl hv h
set_option maxRecDepth 100000 in
theorem arg_t30 {H:Type}{enc:TypeId×Value→H}{W:World}{base:Nat}{v:Value}{d:DataW H}{p:List MemPlace}(hv:Value.okWide Tryz.prog W .any base 30 v) (h:DataW.Trod enc Tryz.prog W 0 (fun _=>true) true 30 v d p):∃ x:Cl,v=.agg x.cells.toArray∧x.cmd.ok:=by
 obtain ⟨cs,x,rfl,rfl,ho⟩:=arg_agg (by kernel_rfl) el_cl hv h
 exact ⟨x,rfl,ho⟩
noncomputable instance:DecidableEq Cm:=fun a b=>Classical.propDecidable (a=b)
theorem cm_feq (c c':Cm):FEq Tryz.prog 9999 c.cells c'.cells [⟨"Kind",3,0,false, "", "",0⟩,⟨"Client",3,1,false, "", "",8⟩,⟨"Seq",3,2,false, "", "",16⟩,⟨"Key",9,3,false, "", "",24⟩,⟨"Val",9,4,false, "", "",40⟩,⟨"Old",9,5,false, "", "",56⟩,⟨"Node",3,6,false, "", "",72⟩] (dec (c.kind=c'.kind) && (dec (c.client=c'.client) && (dec (c.seq=c'.seq) && (dec (c.key=c'.key) && (dec (c.val=c'.val) && (dec (c.old=c'.old) && (dec (c.node=c'.node) && true))))))) :=
 feq_int (k:=.i64) (bytes:=8) (zero:=.int .i64 0) (sz:=1) (nm := "Kind") (ft:=3) (off:=0) (em:=false) (tg := "") (pk := "") (bo:=0) rfl rfl rfl
  (feq_int (k:=.i64) (bytes:=8) (zero:=.int .i64 0) (sz:=1) (nm := "Client") (ft:=3) (off:=1) (em:=false) (tg := "") (pk := "") (bo:=8) rfl rfl rfl
  (feq_int (k:=.i64) (bytes:=8) (zero:=.int .i64 0) (sz:=1) (nm := "Seq") (ft:=3) (off:=2) (em:=false) (tg := "") (pk := "") (bo:=16) rfl rfl rfl
  (feq_str (bytes:=16) (zero:=.string ByteArray.empty) (sz:=1) (nm := "Key") (ft:=9) (off:=3) (em:=false) (tg := "") (pk := "") (bo:=24) rfl rfl rfl
  (feq_str (bytes:=16) (zero:=.string ByteArray.empty) (sz:=1) (nm := "Val") (ft:=9) (off:=4) (em:=false) (tg := "") (pk := "") (bo:=40) rfl rfl rfl
  (feq_str (bytes:=16) (zero:=.string ByteArray.empty) (sz:=1) (nm := "Old") (ft:=9) (off:=5) (em:=false) (tg := "") (pk := "") (bo:=56) rfl rfl rfl
  (feq_int (k:=.i64) (bytes:=8) (zero:=.int .i64 0) (sz:=1) (nm := "Node") (ft:=3) (off:=6) (em:=false) (tg := "") (pk := "") (bo:=72) rfl rfl rfl feq_nil))))))
theorem cm_dec (c c':Cm):(dec (c.kind=c'.kind) && (dec (c.client=c'.client) && (dec (c.seq=c'.seq) && (dec (c.key=c'.key) && (dec (c.val=c'.val) && (dec (c.old=c'.old) && (dec (c.node=c'.node) && true)))))))=dec (c=c'):=by
 obtain ⟨a1,a2,a3,a4,a5,a6,a7⟩:=c
 obtain ⟨b1,b2,b3,b4,b5,b6,b7⟩:=c'
 rw [Bool.eq_iff_iff]
 simp [dec_true]
theorem eqCm {σ:Env}{ty t':TypeId}{x y:Operand}{c c':Cm}(hx:Env.ev σ x=some (.agg c.cells.toArray)) (hy:Env.ev σ y=some (.agg c'.cells.toArray)):PureOp Tryz.prog (.binOp .eql 25 x y t') ty σ (.bool (dec (c=c'))):=by
 have:=p_eqStruct (P:=Tryz.prog) (ty:=ty) (t:=25) (t':=t') hx hy (cm_feq c c')
 rwa [cm_dec] at this
theorem neCm {σ:Env}{ty t':TypeId}{x y:Operand}{c c':Cm}(hx:Env.ev σ x=some (.agg c.cells.toArray)) (hy:Env.ev σ y=some (.agg c'.cells.toArray)):PureOp Tryz.prog (.binOp .neq 25 x y t') ty σ (.bool (!dec (c=c'))):=by
 have:=p_neStruct (P:=Tryz.prog) (ty:=ty) (t:=25) (t':=t') hx hy (cm_feq c c')
 rwa [cm_dec] at this
theorem an_feqI (d:Nat) (x y:An):∃ q,FEq Tryz.prog (d+1) x.cells y.cells [⟨"Client",3,0,false, "", "",0⟩,⟨"Seq",3,1,false, "", "",8⟩,⟨"Err",26,2,false, "", "",16⟩,⟨"Found",4,3,false, "", "",24⟩,⟨"Val",9,4,false, "", "",32⟩,⟨"Rev",3,5,false, "", "",48⟩] q∧(q=true↔x=y):=by
 refine ⟨_,feq_int (k:=.i64) (bytes:=8) (zero:=.int .i64 0) (sz:=1) (a:=x.client) (b:=y.client) rfl rfl rfl (feq_int (k:=.i64) (bytes:=8) (zero:=.int .i64 0) (sz:=1) (a:=x.seq) (b:=y.seq) rfl rfl rfl (feq_int (k:=.i64) (bytes:=8) (zero:=.int .i64 0) (sz:=1) (a:=x.err) (b:=y.err) rfl rfl rfl (feq_one (bytes:=1) (zero:=.bool false) (sz:=1) rfl (u:=.bool x.found) (v:=.bool y.found) rfl rfl (eqIs_bool d x.found y.found) (feq_str (bytes:=16) (zero:=.string ByteArray.empty) (sz:=1) (a:=x.val) (b:=y.val) rfl rfl rfl (feq_int (k:=.i64) (bytes:=8) (zero:=.int .i64 0) (sz:=1) (a:=x.rev) (b:=y.rev) rfl rfl rfl feq_nil))))),?_⟩
 obtain ⟨a1,a2,a3,a4,a5,a6⟩:=x
 obtain ⟨b1,b2,b3,b4,b5,b6⟩:=y
 simp [dec_true]
theorem ss_feqI (x y:Ss):∃ q,FEq Tryz.prog 9999 x.cells y.cells [⟨"Client",3,0,false, "", "",0⟩,⟨"Seq",3,1,false, "", "",8⟩,⟨"Last",28,2,false, "", "",16⟩] q∧(q=true↔x=y):=by
 obtain ⟨q,hq,hq1⟩:=an_feqI 9997 x.last y.last
 refine ⟨_,feq_int (k:=.i64) (bytes:=8) (zero:=.int .i64 0) (sz:=1) (a:=x.client) (b:=y.client) rfl rfl rfl (feq_int (k:=.i64) (bytes:=8) (zero:=.int .i64 0) (sz:=1) (a:=x.seq) (b:=y.seq) rfl rfl rfl (feq_agg (bytes:=56) (zero:=zAn) (sz:=6) (us:=x.last.cells) (vs:=y.last.cells) rfl rfl rfl hq feq_nil)),?_⟩
 obtain ⟨a1,a2,a3⟩:=x
 obtain ⟨b1,b2,b3⟩:=y
 simp only [Ss.mk.injEq] at *
 simp [dec_true,hq1]
noncomputable instance:DecidableEq An:=fun a b=>Classical.propDecidable (a=b)
noncomputable instance:DecidableEq Ss:=fun a b=>Classical.propDecidable (a=b)
theorem neAnI {σ:Env}{ty t':TypeId}{a b:Operand}{x y:An}(hx:Env.ev σ a=some (.agg x.cells.toArray)) (hy:Env.ev σ b=some (.agg y.cells.toArray)):PureOp Tryz.prog (.binOp .neq 28 a b t') ty σ (.bool (dec (¬ x=y))):=by
 obtain ⟨q,hq,h1⟩:=an_feqI 9998 x y
 have:=p_neStruct (P:=Tryz.prog) (ty:=ty) (t:=28) (t':=t') hx hy hq
 rwa [show (!q)=dec (¬ x=y) by rw [Bool.eq_iff_iff];simp [dec_true,← h1]] at this
theorem neSsI {σ:Env}{ty t':TypeId}{a b:Operand}{x y:Ss}(hx:Env.ev σ a=some (.agg x.cells.toArray)) (hy:Env.ev σ b=some (.agg y.cells.toArray)):PureOp Tryz.prog (.binOp .neq 66 a b t') ty σ (.bool (dec (¬ x=y))):=by
 obtain ⟨q,hq,h1⟩:=ss_feqI x y
 have:=p_neStruct (P:=Tryz.prog) (ty:=ty) (t:=66) (t':=t') hx hy hq
 rwa [show (!q)=dec (¬ x=y) by rw [Bool.eq_iff_iff];simp [dec_true,← h1]] at this
theorem ssEqual_s {G:GH}{a d:List Ss}{av dv:Value}(ha:Sss G av a) (hd:Sss G dv d):Con Tryz.prog 25 #[av,dv] G [] (Just (.bool (dec (a=d))) G):=by
 obtain ⟨A1,c1,rfl,hlc1,hcm1,hs1,he1⟩:=rowOpen ha
 obtain ⟨A2,c2,rfl,hlc2,hcm2,hs2,he2⟩:=rowOpen hd
 simp only [maxLen] at hcm1 hcm2
 apply Con.just
 (refine v_enter Tryz.func25 rfl Tryz.ntmps25 rfl ?_;intro B _)
 repeat' (first|apply v_seq|apply v_region|apply v_nil|apply v_skip|apply v_block|apply v_pure;(case hop=>first|apply p_move<;>rfl|apply p_ne<;>rfl|apply p_assign<;>rfl|apply p_lenSlice<;>rfl|fail);(case hd=>rfl)|apply v_cond;(case hc=>rfl);all_goals (intro h;(try simp only [reduceCtorEq,zzz] at h))|fail)
 ·refine v_ret [] (outsA1 rfl rfl) (by repeat (exact List.Sublist.refl _)) ?_
  refine ⟨?_,rfl⟩
  rw [dec_neg]
  intro e
  subst e
  omega
 ·have hll:a.length=d.length:=by omega
  refine v_loop [13,12,0,1] (fun us G' μ'=>G'=G∧∃ k:Nat,k≤a.length∧a.take k=d.take k∧us=[Value.int .i64 (k:Nat),.int .i64 (a.length:Nat),.slice A1 a.length c1,.slice A2 d.length c2]∧μ'=[]) (fun us=>a.length-(headI us).toNat) rfl ⟨rfl,0,by omega,rfl,rfl,rfl⟩ ?_
  rintro us G' _ ⟨hG',k,hk,ht,rfl,rfl⟩
  subst G'
  have e1:((k:Nat):Int).toNat=k:=by omega
  by_cases hlt:k<a.length
  ·have hA1:=hs1 (by omega)
   have hA2:=hs2 (by omega)
   have hc1:=he1 k hlt
   have hc2:=he2 k (by omega)
   have ht1:a.take (k+1)=a.take k++[a[k]]:=List.take_succ_eq_append_getElem hlt
   have ht2:d.take (k+1)=d.take k++[d[k]'(by omega)]:=List.take_succ_eq_append_getElem (by omega)
   have hne:¬ a[k]=d[k]'(by omega)→dec (a=d)=false:=fun h=>by
    rw [dec_neg]
    intro e
    subst e
    exact h rfl
   generalize a[k]=x at *
   generalize d[k]'(by omega)=y at *
   repeat' (first|apply v_seq|apply v_region|apply v_nil|apply v_skip|apply v_block|apply v_pure;(case hop=>first|apply p_move<;>rfl|apply p_lt<;>rfl|apply p_assign<;>rfl|fail);(case hd=>rfl)|apply v_cond;(case hc=>rfl);all_goals (intro h;(try simp only [reduceCtorEq,zzz] at h);try (exfalso;omega))|fail)
   refine d_start [] (by kernel_rfl) (by kernel_rfl) (by kernel_rfl) (by intro e he;exact he) ?_
   all_goals (apply dtm 0;(case hi|hx=>rfl);(case hq=>kernel_rfl);apply dtm 1;(case hi|hx=>rfl);(case hq=>kernel_rfl))
   all_goals (apply dtk 2;(case hi=>rfl);(case hop=>(apply prd;apply p_indexAddrS;(case hx|hi=>rfl);(case h0|h=>omega);(case hA=>assumption)));(case hq=>kernel_rfl);apply dtk 3;(case hi=>rfl);(case hop=>((apply r_loadN;rfl;exact CellsAt.frozen hc1;rfl)));(case hq=>kernel_rfl))
   all_goals (apply dtm 4;(case hi|hx=>rfl);(case hq=>kernel_rfl);apply dtm 5;(case hi|hx=>rfl);(case hq=>kernel_rfl))
   all_goals (apply dtk 6;(case hi=>rfl);(case hop=>(apply prd;apply p_indexAddrS;(case hx|hi=>rfl);(case h0|h=>omega);(case hA=>assumption)));(case hq=>kernel_rfl);apply dtk 7;(case hi=>rfl);(case hop=>((apply r_loadN;rfl;exact CellsAt.frozen hc2;rfl)));(case hq=>kernel_rfl))
   all_goals (apply dtk 8;(case hi=>rfl);(case hop=>((apply prd;apply neSsI (x:=x) (y:=y);(case hx|hy=>rfl))));(case hq=>kernel_rfl))
   all_goals (apply d_done;(case hr=>kernel_rfl))
   all_goals repeat' (first|apply v_seq|apply v_region|apply v_nil|apply v_skip|apply v_blk|apply v_pure;(case hop=>first|apply p_move<;>rfl|apply p_assign<;>rfl|apply p_add;(case hx|hy=>rfl);(case h=>omega)|fail);(case hd=>rfl)|apply v_cond;(case hc=>rfl);all_goals (intro h;(try simp only [reduceCtorEq,zzz] at h))|fail)
   all_goals first
    |(refine v_ret [] (outsA1 rfl rfl) (by repeat (exact List.Sublist.refl _)) ?_
      exact ⟨by rw [hne (by assumption)],rfl⟩)
    | exact v_again rfl ⟨rfl,k+1,by omega,by rw [ht1,ht2,ht,show x=y from by assumption],rfl,rfl⟩ (by simp [headI];omega)
  ·obtain rfl:k=a.length:=by omega
   rw [List.take_length,hll,List.take_length] at ht
   repeat' (first|apply v_seq|apply v_region|apply v_nil|apply v_exit;(case hp=>rfl)|apply v_pure;(case hop=>first|apply p_lt<;>rfl|apply p_assign<;>rfl|fail);(case hd=>rfl)|apply v_cond;(case hc=>rfl);all_goals (intro h;(try simp only [reduceCtorEq,zzz] at h);try (exfalso;omega))|fail)
   refine v_ret [] (outsA1 rfl rfl) (by repeat (exact List.Sublist.refl _)) ?_
   refine ⟨?_,rfl⟩
   rw [dec_pos ht]
end Go.Proofs.YtlkakbjcolgjbaaGreatDoor
/-
  VX, MAPS whose keys are two numbers.
-/
namespace Go.Vx
open Go
attribute [local semireducible] Vc DVc Con PureOp ReadOp MoveOp
abbrev keyP (p:Int×Int):Value:=.agg #[.int .i64 p.1,.int .i64 p.2]
section
variable {P:Program}{k e:TypeId}
theorem run_eqPair [hk:Ty P k (.array 2 e)] [he:Ty P e (.int .i64)] [hl:Lay P e false 1 8 (.int .i64 0)] (w:World) (a b:Int×Int):(Op.equal k (keyP a) (keyP b)).run P w=.ok (decide (a=b)) w:=by
 have hl:=run_isAgg' (P:=P) (t:=e) (agg:=false) (size:=1) (bytes:=8) (zero:=.int .i64 0)
 have hz:=run_sizeOf (P:=P) (t:=e) (agg:=false) (size:=1) (bytes:=8) (zero:=.int .i64 0)
 obtain ⟨i,hi⟩:∃ i,P.info? e=some i:=by
  have:=he.h
  unfold Program.underlying at this
  cases h:P.info? e with
  | none=>simp [h] at this
  | some i=>exact ⟨i,rfl⟩
 show (Op.equalIn (9999+1) k (keyP a) (keyP b)).run P w=_
 rw [run_equalIn_array (P:=P) (w:=w) 9999 _ _ hk.h hi]
 have hc:P.cellsOf e=1:=by
  have h1:=hz w
  have h2:=Go.run_sizeOf w hi
  rw [h2] at h1
  injection h1
 rw [hc]
 have p:∀ (xs:List Value) (j:Nat) (u:Value) (w:World),xs[j]? = some u→(part e xs.toArray j).run P w=.ok u w:=fun xs j u w h=>by simp [part,hl,h]
 have q:∀ (x y:Int) (w:World),(Op.equalIn 9999 e (.int .i64 x) (.int .i64 y)).run P w=.ok (x == y) w:=fun x y w=>run_equalIn_int w 9998 e .i64 .i64 x y he.h
 have pa0:=p [.int .i64 a.1,.int .i64 a.2] 0 _ w rfl
 have pa1:=p [.int .i64 a.1,.int .i64 a.2] 1 _ w rfl
 have pb0:=p [.int .i64 b.1,.int .i64 b.2] 0 _ w rfl
 have pb1:=p [.int .i64 b.1,.int .i64 b.2] 1 _ w rfl
 simp only [List.range,List.range.loop,Op.eqItems,Sem.run_bind,Nat.zero_mul,Nat.one_mul,pa0,pb0,Result.andThen_ok,q]
 obtain ⟨a1,a2⟩:=a
 obtain ⟨b1,b2⟩:=b
 by_cases h1:a1=b1
 ·subst h1
  simp only [beq_self_eq_true,Bool.not_true,Bool.false_eq_true,if_false,Sem.run_bind,pa1,pb1,Result.andThen_ok,q]
  by_cases h2:a2=b2
  ·subst h2;simp
  ·simp [h2]
 ·simp [h1]
theorem ask_no [hk:Ty P k (.array 2 e)] [he:Ty P e (.int .i64)] [hl:Lay P e false 1 8 (.int .i64 0)] (w:World) (a:Int×Int):∀ (L:List ((Int×Int)×Value×Nat)) (i:Nat),a∉L.map (·.1)→(Instr.findAsking k (keyP a) (L.map (mEnt keyP)) i).run P w=.ok none w
 | [],i,_=>by simp [Instr.findAsking]
 | x::L,i,h=>by
  rw [List.map_cons,List.mem_cons,not_or] at h
  simp only [List.map_cons,Instr.findAsking,mEnt,Sem.run_bind,run_eqPair (e:=e),decide_eq_false h.1,Result.andThen_ok]
  have:=ask_no w a L (i+1) h.2
  simpa using this
theorem ask_at [hk:Ty P k (.array 2 e)] [he:Ty P e (.int .i64)] [hl:Lay P e false 1 8 (.int .i64 0)] (w:World) (a:Int×Int) (v:Value) (b:Nat) (L2:List ((Int×Int)×Value×Nat)):∀ (L1:List ((Int×Int)×Value×Nat)) (i:Nat),a∉L1.map (·.1)→(Instr.findAsking k (keyP a) ((L1++(a,v,b)::L2).map (mEnt keyP)) i).run P w=.ok (some (i+L1.length,v)) w
 | [],i,_=>by simp [Instr.findAsking,mEnt,run_eqPair (e:=e)]
 | x::L,i,h=>by
  rw [List.map_cons,List.mem_cons,not_or] at h
  simp only [List.cons_append,List.map_cons,Instr.findAsking,mEnt,Sem.run_bind,run_eqPair (e:=e),decide_eq_false h.1,Result.andThen_ok]
  have:=ask_at w a v b L2 L (i+1) h.2
  rw [show i+1+L.length=i+(x::L).length by rw [List.length_cons];omega] at this
  simpa using this
theorem KeyT.pair [hk:Ty P k (.array 2 e)] [he:Ty P e (.int .i64)] [hl:Lay P e false 1 8 (.int .i64 0)]:KeyT P k keyP:=by
 have hw:(match P.underlying k with|some (.array _ _)|some (.struct _)=>true|_=>false)=true:=by rw [hk.h]
 refine ⟨_,hk.h,fun w a L h=>?_,fun w a v b L1 L2 h=>?_,fun a b h=>?_,fun w em a=>?_,fun a=>?_⟩
 ·rw [run_findKey_eq (P:=P) (w:=w) hw]
  exact ask_no (e:=e) w a L 0 h
 ·rw [run_findKey_eq (P:=P) (w:=w) hw]
  exact ask_at (e:=e) w a v b L2 L1 0 h
 ·injection h with h
  have:=congrArg Array.toList h
  simp at this
  exact Prod.ext this.1 this.2
 ·have hl:=run_isAgg' (P:=P) (t:=e) (agg:=false) (size:=1) (bytes:=8) (zero:=.int .i64 0)
  have hz:=run_sizeOf (P:=P) (t:=e) (agg:=false) (size:=1) (bytes:=8) (zero:=.int .i64 0)
  have p:∀ (xs:List Value) (j:Nat) (u:Value) (w:World),xs[j]? = some u→(part e xs.toArray j).run P w=.ok u w:=fun xs j u w h=>by simp [part,hl,h]
  have c:∀ (x:Int) (w:World),(Instr.checkKey em 9999 e (.int .i64 x)).run P w=.ok () w:=fun x w=>MapKept.run_checkKey he.h (show MapKept.IsKey (.int .i64) (.int .i64 x) from rfl) em 9998
  have pa0:=p [.int .i64 a.1,.int .i64 a.2] 0 _ w rfl
  have pa1:=p [.int .i64 a.1,.int .i64 a.2] 1 _ w rfl
  show (Instr.checkKey em (9999+1) k (keyP a)).run P w=_
  rw [Instr.checkKey]
  simp only [Sem.run_bind,run_underlying hk.h,Result.andThen_ok,Std.Legacy.Range.forIn_eq_forIn_range',Std.Legacy.Range.size,Nat.sub_zero,Nat.add_one_sub_one,Nat.div_one]
  have e2:List.range' 0 2 1=[0,1]:=rfl
  simp only [e2,List.forIn_cons,List.forIn_nil,Sem.run_bind,hz,Result.andThen_ok,Nat.zero_mul,Nat.one_mul,pa0,pa1,c,Sem.run_pure]
 ·simp [Instr.sameBits,keyP]
theorem p_pair {t e:TypeId}{σ:Env}{ty:TypeId}{x y:Operand}{a b:Int}[ht:Ty P t (.array 2 e)] [hL:Lay P t true 2 16 (.agg #[.int .i64 0,.int .i64 0])] [hl:Lay P e false 1 8 (.int .i64 0)] (hx:Env.ev σ x=some (.int .i64 a)) (hy:Env.ev σ y=some (.int .i64 b)):PureOp P (.build t #[(0,x),(1,y)]) ty σ (keyP (a,b)):=by
 intro dst pos af g ρ hρ w
 have h1:=run_zeroOf (P:=P) (t:=t) (agg:=true) (size:=2) (bytes:=16) (zero:=.agg #[.int .i64 0,.int .i64 0]) w
 have h2:=run_sizeOf (P:=P) (t:=e) (agg:=false) (size:=1) (bytes:=8) (zero:=.int .i64 0) w
 simp [execOp,Instr.build,Sem.run_bind,h1,h2,Result.andThen_ok,run_underlying ht.h,hρ _ _ hx,hρ _ _ hy,Instr.fill,Value.cells]
end
end Go.Vx
/-
  witness (layer 43): count.
-/
namespace Go.Proofs.YtlkakbjcolgjbaaGreatDoor
open Go.Vx Go.ChangeShapes Go.WideShapes Go.ChangeAt Go.RowKit
instance keyT_pairM:KeyT Tryz.prog 67 keyP:=KeyT.pair (e:=3)
noncomputable def anA (log:List Cm) (k:Nat):List An:=(specA emp [] (log.take k)).2
theorem anA_succ {log:List Cm}{k:Nat}(h:k<log.length):anA log (k+1)=anA log k++[(specS (stA log k) log[k]).2]:=by
 unfold anA stA
 rw [List.take_succ_eq_append_getElem h,specA_snoc]
theorem anA_len {log:List Cm}{k:Nat}(h:k≤log.length):(anA log k).length=k:=by
 unfold anA
 rw [specA_len,List.length_nil,List.length_take]
 omega
def PlM (log:List Cm) (k:Nat) (o:Obj):Prop := ∃ L:List ((Int×Int)×Value),MapB keyP L o∧∀ p,mget L p=if plK log p k=0 then none else some (.int .i64 (plK log p k:Nat))
theorem PlM.zero (log:List Cm):PlM log 0 (.map #[] 0):=⟨[],MapB.nil,fun p=>rfl⟩
theorem PlM.keep {log:List Cm}{k:Nat}{o:Obj}(h:PlM log k o) (hc:¬ cnt log k):PlM log (k+1) o:=by
 obtain ⟨L,h1,h2⟩:=h
 refine ⟨L,h1,fun p=>?_⟩
 have e:plK log p (k+1)=plK log p k:=by
  rw [plK,if_neg]
  exact fun ⟨h,_⟩=>hc h
 rw [e]
 exact h2 p
theorem PlM.put {log:List Cm}{k:Nat}{o:Obj}{L:List ((Int×Int)×Value)}(h2:∀ p,mget L p=if plK log p k=0 then none else some (.int .i64 (plK log p k:Nat))) (hc:cnt log k) (h1:MapB keyP (mput L ((log[k]'hc.1).client,(log[k]'hc.1).seq) (.int .i64 ((k:Nat)+1))) o):PlM log (k+1) o:=by
 refine ⟨_,h1,fun p=>?_⟩
 rw [mget_put]
 by_cases hp:p=((log[k]'hc.1).client,(log[k]'hc.1).seq)
 ·subst hp
  have e:plK log ((log[k]'hc.1).client,(log[k]'hc.1).seq) (k+1)=k+1:=by
   rw [plK,if_pos ⟨hc,rfl,rfl⟩]
  rw [e,if_pos rfl,if_neg (by omega)]
  rfl
 ·have e:plK log p (k+1)=plK log p k:=by
   rw [plK,if_neg fun ⟨h,a,b⟩=>hp (Prod.ext a.symm b.symm)]
  rw [e,if_neg hp]
  exact h2 p
abbrev ctO (pb:Nat) (av:Value):Obj:=.cells [Value.map (some pb),av].toArray 59 (0,0)
set_option maxHeartbeats 2000000 in
theorem count_s {G:GH}(hT:TabsG G) {lv:Value}{l:List Cm}(hl:Cms G lv l) (hlw:CmsW l) :
 Con Tryz.prog 12 #[lv] G [] (fun r G' μ'=>∃ xb pb av oP ν,r=.pointer (some ⟨xb,0,none⟩)∧GrA av (anA l l.length) ν∧PlM l l.length oP∧μ'=(xb,ctO pb av)::(pb,oP)::ν):=by
 have hq:=mnew_s G
 obtain ⟨LA,lc,rfl,hlc,hcm,hsome,hcp⟩:=rowOpen hl
 simp only [maxLen] at hcm
 (refine v_enter Tryz.func12 rfl Tryz.ntmps12 rfl ?_;intro B _)
 repeat' (first|apply v_box (d:=11) (zs:=[Value.map (some pb),.slice none 0 0]);(case hx|hz|hd=>rfl);intro xb|apply v_seq|apply v_region|apply v_nil|apply v_pure;(case hop=>first|apply p_assign<;>rfl|apply p_build;(case hz=>rfl);(case hv=>(simp only [List.map_cons,List.map_nil];repeat (first|with_reducible exact evs_nil|apply evs_cons;(case h1=>rfl))));(case hb=>(apply bldL;repeat (first|exact bld_nil|apply bld_cons;(case hpf|hc|hs|hl=>rfl);(case ho=>((repeat (first|with_reducible exact ov_nil|apply ov_cons));done)))))|fail);(case hd=>rfl)|apply v_makeMap;(case hd=>rfl);intro pb|fail)
 refine v_call (μ1:=[]) rfl hq (List.Perm.refl _) rfl ?_
 rintro _ G1 _ - ⟨hG1,mb,kb,rfl,rfl⟩
 subst G1
 repeat' (first|apply v_seq|apply v_region|apply v_nil|apply v_block|apply v_pure;(case hop=>first|apply p_move<;>rfl|apply p_assign<;>rfl|apply p_lenSlice<;>rfl|fail);(case hd=>rfl)|fail)
 refine v_perm (ν:=[(xb,ctO pb (.slice none 0 0)),(pb,.map #[] 0),(mb,mcO kb false D0),(kb,.map #[] 0)]) (by apply perm_of_count;intro p;simp only [List.append_eq,List.countP_append,List.countP_cons,List.countP_nil,Nat.zero_add,Nat.add_zero];try ac_rfl) ?_
 refine v_loop [15,14,13,4,3] (fun us G' μ'=>GH.le G G'∧∃ (k:Nat) (s1:St) (D:List Ls) (oM oP:Obj) (acc:List An) (av:Value) (ν:OH),k≤l.length∧us=[Value.int .i64 (k:Nat),.int .i64 (l.length:Nat),.slice LA l.length lc,.pointer (some ⟨mb,0,none⟩),.pointer (some ⟨xb,0,none⟩)]∧μ'=(xb,ctO pb av)::(pb,oP)::(mb,mcO kb (decide (s1.schema=2)) D)::(kb,oM)::ν∧GrA av acc ν∧s1=stA l k∧acc=anA l k∧MachR s1 D∧MapP s1.pairs oM∧PlM l k oP) (fun us=>l.length-(headI us).toNat) rfl ⟨GH.le_refl _,0,emp,D0,_,_,[],.slice none 0 0,[],by omega,rfl,rfl,Grow.nil _ _,rfl,rfl,mach0,map0,PlM.zero l⟩ ?_
 rintro us G' _ ⟨hle,k,s1,D,oM,oP,acc,av,ν,hk,rfl,rfl,hga,hs1,hacc,hm1,hM1,hP⟩
 have hn:=hlw.1
 have hT':=hT.up hle
 by_cases hlt:k<l.length
 ·have e1:((k:Nat):Int).toNat=k:=by omega
  have hA:=hsome (by omega)
  obtain ⟨-,-,-,-,-,-,hcp'⟩:=rowOpen' (hl.mono hle)
  have hck:=hcp' k hlt
  obtain ⟨hxo,hxw⟩:=hlw.2 _ (List.getElem_mem hlt)
  have hok1:StP s1:=hs1 ▸ stA_ok l k
  have hdo:=fun (G:GH) hT=>mdo_s (G:=G) hT (mb:=mb) (kb:=kb) (l[k]) hok1 hm1 hM1 hxo hxw.2
  have hst:=mState_s (G:=G') (mb:=mb) (kb:=kb) hok1 hm1 hM1
  have hkp:StP (specS s1 l[k]).1:=specS_ok hok1
  have hnx:(specS s1 l[k]).1=stA l (k+1):=by rw [stA_succ hlt,hs1]
  have hny:acc++[(specS s1 l[k]).2]=anA l (k+1):=by rw [anA_succ hlt,hs1,hacc]
  have hcn:s1.sess=(specS s1 l[k]).1.sess↔¬ cnt l k:=by
   rw [sess_ne hok1]
   refine not_congr ⟨fun h=>⟨hlt,hs1 ▸ h⟩,fun h=>?_⟩
   obtain ⟨_,h⟩:=h
   rw [hs1]
   exact h
  have hal:acc.length=k:=by rw [hacc,anA_len (by omega)]
  obtain ⟨PL,hPB,hPg⟩:=id hP
  have hput:∀ o,cnt l k→MapB keyP (mput PL (l[k].client,l[k].seq) (.int .i64 ((k:Nat)+1))) o→PlM l (k+1) o:=fun _ hc h1=>PlM.put hPg hc h1
  have hkeep:=fun h=>hP.keep h
  clear hxo hxw hs1 hacc
  generalize specS s1 l[k]=ap at *
  obtain ⟨s5,⟨ac,aq,ae,af,av5,ar⟩⟩:=ap
  generalize l[k]=x at *
  obtain ⟨kind,cl,seq,key,val,old,node⟩:=x
  simp only at *
  repeat' (first|apply v_read;(case hop=>(apply r_loadN;rfl;exact CellsAt.frozen hck;rfl));(case hd=>rfl)|apply v_alloc (d:=6);(case hz|hd=>rfl);intro b6|apply v_seq|apply v_region|apply v_nil|apply v_skip|apply v_block|apply v_pure;(case hop=>first|apply p_move<;>rfl|apply p_lt<;>rfl|apply p_assign<;>rfl|apply p_indexAddrS;(case hx|hi=>rfl);(case h0|h=>omega);(case hA=>assumption)|fail);(case hd=>rfl)|apply v_cond;(case hc=>rfl);all_goals (intro h;(try simp only [reduceCtorEq,zzz] at h);try (exfalso;omega))|apply v_store;(case hp|hx|hc|hsz|h1=>rfl);(case hb=>repeat exact mhd _);(case hfit=>exact nle rfl);(case hov=>((repeat (first|with_reducible exact ov_nil|apply ov_cons));done));(case hu=>repeat (exact Upd.here _ _))|fail)
  refine v_call (μ1:=[(mb,mcO kb (decide (s1.schema=2)) D),(kb,oM)]) rfl hst (PickA.perm (by repeat (first|exact PickA.here _|apply PickA.cons))) rfl ?_
  rintro _ G5 _ hle5 ⟨⟨A,c,A',c',rfl,hp5,hs5⟩,rfl⟩
  repeat' (first|apply v_read;(case hop=>(apply r_loadNo;(case hx=>rfl);(case h=>repeat first|exact mhd _|apply mtl);(case hd|hn=>rfl)));(case hd=>rfl)|apply v_seq|apply v_region|apply v_nil|apply v_pure;(case hop=>first|apply p_move<;>rfl|apply p_assign<;>rfl|apply p_field1<;>rfl|fail);(case hd=>rfl)|fail)
  refine v_call (μ1:=[(mb,mcO kb (decide (s1.schema=2)) D),(kb,oM)]) rfl (hdo _ (hT'.up hle5)) (PickA.perm (by repeat (exact PickA.here _))) rfl ?_
  rintro _ G6 _ hle6 ⟨D2,oM2,rfl,hm2,hM2,rfl⟩
  repeat' (first|apply v_alloc (d:=8);(case hz|hd=>rfl);intro b8|apply v_seq|apply v_nil|apply v_store;(case hp|hx|hc|hsz|h1=>rfl);(case hb=>repeat exact mhd _);(case hfit=>exact nle rfl);(case hov=>((repeat (first|with_reducible exact ov_nil|apply ov_cons));done));(case hu=>repeat (exact Upd.here _ _))|fail)
  refine v_perm (ν:=(b8,.cells (An.cells ⟨ac,aq,ae,af,av5,ar⟩).toArray 28 (0,0))::(b6,.cells (Cm.cells ⟨kind,cl,seq,key,val,old,node⟩).toArray 25 (0,0))::(xb,ctO pb av)::(pb,oP)::(mb,mcO kb (decide (s5.schema=2)) D2)::(kb,oM2)::ν) (by apply perm_of_count;intro p;simp only [List.append_eq,List.countP_append,List.countP_cons,List.countP_nil,Nat.zero_add,Nat.add_zero];try ac_rfl) ?_
  refine d_start [(b8,.cells (An.cells ⟨ac,aq,ae,af,av5,ar⟩).toArray 28 (0,0))] (by kernel_rfl) (by kernel_rfl) (by kernel_rfl) (by intro e he;(simp at he;simp [he];done)) ?_
  all_goals (apply dtm 0;(case hi|hx=>rfl);(case hq=>kernel_rfl);apply dtm 1;(case hi|hx=>rfl);(case hq=>kernel_rfl))
  all_goals (apply dtn 2;(case hi|hx=>rfl);(case hq=>kernel_rfl);apply dtk 3;(case hi=>rfl);(case hop=>(apply prd;apply p_fieldAddrB<;>rfl));(case hq=>kernel_rfl))
  all_goals (apply dtk 5;(case hi=>rfl);(case hop=>((apply r_loadNo;(case hx=>rfl);(case h=>repeat (exact mhd _));(case hd|hn=>rfl))));(case hq=>kernel_rfl))
  focus
   refine d_fork 4 6 (by kernel_rfl) ?_ ?_
   rotate_right
   focus
    (apply x_buildSlice 6;(case hi=>rfl);(case hT=>infer_instance);(case hL=>infer_instance);(case hz|hl=>rfl);(case hv=>(simp only [List.map_cons,List.map_nil];repeat (first|with_reducible exact evs_nil|apply evs_cons;(case h1=>rfl))));(case hp=>(apply pk_cons;(case hc|hs=>rfl);(case h=>(with_reducible exact pk_nil));(case he=>(rfl))));(case hb|hd=>rfl);(case hν=>intro e he;(simp at he;simp [he];done));intro sb)
    all_goals (apply d_keep 4 (hop:=ReadOp.move ?hop);(case hi=>rfl);(case hr=>kernel_rfl);(case hop=>(apply r_load1;rfl;(apply Cell.own;(case h=>repeat first|exact mhd _|apply mtl);rfl)));(case hd=>rfl))
    all_goals (apply d_append 7 (hg:=hga) (q':=1) (us:=An.cells ⟨ac,aq,ae,af,av5,ar⟩) (hp:=PickA.perm (by repeat (first|exact PickA.last|apply PickA.cons))) (hsrc:=Src.own (e:=28) (List.Mem.head _) rfl);(case hi=>rfl);(case hr=>kernel_rfl);(case hT=>infer_instance);(case hL=>infer_instance);(case hzs=>rfl);(case hsz=>omega);(case hs|hx=>rfl);(case hb=>omega);(case hb'=>simp only [maxLen];omega);(case hd|h1=>rfl);(case hν=>intro e he;(simp at he;simp [he];done));intro v5 n5 g5;obtain ⟨A5,c5,rfl,-,-⟩:=g5.shape)
    all_goals (apply dtn 8;(case hi|hx=>rfl);(case hq=>kernel_rfl);apply dtk 9;(case hi=>rfl);(case hop=>(apply prd;apply p_fieldAddrB<;>rfl));(case hq=>kernel_rfl))
    all_goals (apply d_store 10;(case hi=>rfl);(case hr=>kernel_rfl);(case hL=>infer_instance);(case hp|hx|hc|hsz|h1=>rfl);(case hb=>repeat first|exact mhd _|apply mtl|apply List.mem_append_right);(case hfit=>exact nle rfl);(case hov=>((repeat (first|with_reducible exact ov_nil|apply ov_cons));done));(case hu=>repeat first|exact Upd.here _ _|apply Upd.there|apply Upd.app);(case hν'=>intro e he;simp at he;simp [he]))
    all_goals (apply d_done;(case hr=>kernel_rfl))
   rotate_right
   focus
    (apply x_exec 4;(case hi=>rfl);(case hop=>exact ReadOp.move (r_load1 rfl (Cell.own (by repeat (first|exact mhd _|apply mtl)) rfl)));(case hd=>rfl);rintro _ G0 _ ⟨rfl,hG0,rfl⟩;subst G0;refine ⟨(by intro e he;simp only [List.mem_cons,List.not_mem_nil,or_false] at he;rcases he with rfl<;>simp),?_⟩)
    all_goals (apply d_buildSlice 6;(case hi=>rfl);(case hr=>kernel_rfl);(case hT=>infer_instance);(case hL=>infer_instance);(case hz|hl=>rfl);(case hv=>(simp only [List.map_cons,List.map_nil];repeat (first|with_reducible exact evs_nil|apply evs_cons;(case h1=>rfl))));(case hp=>(apply pk_cons;(case hc|hs=>rfl);(case h=>(with_reducible exact pk_nil));(case he=>(rfl))));(case hb|hd=>rfl);(case hν=>intro e he;(simp at he;simp [he];done));intro sb)
    all_goals (apply d_append 7 (hg:=hga) (q':=1) (us:=An.cells ⟨ac,aq,ae,af,av5,ar⟩) (hp:=PickA.perm (by repeat (first|exact PickA.last|apply PickA.cons))) (hsrc:=Src.own (e:=28) (List.Mem.head _) rfl);(case hi=>rfl);(case hr=>kernel_rfl);(case hT=>infer_instance);(case hL=>infer_instance);(case hzs=>rfl);(case hsz=>omega);(case hs|hx=>rfl);(case hb=>omega);(case hb'=>simp only [maxLen];omega);(case hd|h1=>rfl);(case hν=>intro e he;(simp at he;simp [he];done));intro v5 n5 g5;obtain ⟨A5,c5,rfl,-,-⟩:=g5.shape)
    all_goals (apply dtn 8;(case hi|hx=>rfl);(case hq=>kernel_rfl);apply dtk 9;(case hi=>rfl);(case hop=>(apply prd;apply p_fieldAddrB<;>rfl));(case hq=>kernel_rfl))
    all_goals (apply d_store 10;(case hi=>rfl);(case hr=>kernel_rfl);(case hL=>infer_instance);(case hp|hx|hc|hsz|h1=>rfl);(case hb=>repeat first|exact mhd _|apply mtl|apply List.mem_append_right);(case hfit=>exact nle rfl);(case hov=>((repeat (first|with_reducible exact ov_nil|apply ov_cons));done));(case hu=>repeat first|exact Upd.here _ _|apply Upd.there|apply Upd.app);(case hν'=>intro e he;simp at he;simp [he]))
    all_goals (apply d_done;(case hr=>kernel_rfl))
  all_goals
   (refine v_perm (ν:=((b6,.cells (Cm.cells ⟨kind,cl,seq,key,val,old,node⟩).toArray 25 (0,0))::(xb,ctO pb (.slice A5 (acc.length+1) c5))::(pb,oP)::(mb,mcO kb (decide (s5.schema=2)) D2)::(kb,oM2)::n5)++[(sb,_),(b8,_)]) (by apply perm_of_count;intro p;simp only [List.append_eq,List.countP_append,List.countP_cons,List.countP_nil,Nat.zero_add,Nat.add_zero];try ac_rfl) ?_
    refine v_drop (List.sublist_append_left _ _) ?_
    repeat' (first|apply v_seq|apply v_region|apply v_pure;(case hop=>(apply p_move<;>rfl));(case hd=>rfl)|fail)
    refine v_call (μ1:=[(mb,mcO kb (decide (s5.schema=2)) D2),(kb,oM2)]) rfl (mState_s hkp hm2 hM2) (PickA.perm (by repeat (first|exact PickA.here _|apply PickA.cons))) rfl ?_
    rintro _ G7 _ hle7 ⟨⟨A2,c2,A2',c2',rfl,hp7,hs7⟩,rfl⟩
    have qe:=ssEqual_s (hs5.mono (GH.le_trans hle6 hle7)) hs7
    have hle':=GH.le_trans hle (GH.le_trans hle5 (GH.le_trans hle6 hle7))
    have hga':=GrA.snoc g5
    repeat' (first|apply v_region|apply v_nil|apply v_skip|apply v_blk|apply v_pure;(case hop=>first|apply p_move<;>rfl|apply p_not<;>rfl|apply p_add;(case hx|hy=>rfl);(case h=>omega)|apply p_field1<;>rfl|fail);(case hd=>rfl)|apply v_cond;(case hc=>rfl);all_goals (intro h;(try simp only [reduceCtorEq,zzz] at h))|apply v_callJ (hs:=qe);(case ha|hd=>rfl)|fail)
    ·have hc:cnt l k:=Classical.byContradiction fun n=>(by assumption:¬ s1.sess=s5.sess) (hcn.2 n)
     refine v_perm (ν:=(b6,.cells (Cm.cells ⟨kind,cl,seq,key,val,old,node⟩).toArray 25 (0,0))::(xb,ctO pb (.slice A5 (acc.length+1) c5))::(pb,oP)::(mb,mcO kb (decide (s5.schema=2)) D2)::(kb,oM2)::n5) (by apply perm_of_count;intro p;simp only [List.append_eq,List.countP_append,List.countP_cons,List.countP_nil,Nat.zero_add,Nat.add_zero];try ac_rfl) ?_
     refine d_start [(b6,.cells (Cm.cells ⟨kind,cl,seq,key,val,old,node⟩).toArray 25 (0,0)),(xb,ctO pb (.slice A5 (acc.length+1) c5))] (by kernel_rfl) (by kernel_rfl) (by kernel_rfl) (by intro e he;(simp only [List.mem_cons,List.not_mem_nil,or_false] at he;rcases he with rfl|rfl<;>simp;done)) ?_
     all_goals (apply dtm 0;(case hi|hx=>rfl);(case hq=>kernel_rfl);apply dtn 1;(case hi|hx=>rfl);(case hq=>kernel_rfl))
     all_goals (apply dtk 2;(case hi=>rfl);(case hop=>(apply prd;apply p_fieldAddrB<;>rfl));(case hq=>kernel_rfl))
     all_goals (apply dtk 3;(case hi=>rfl);(case hop=>((apply r_load1;rfl;(apply Cell.own;(case h=>repeat first|exact mhd _|apply mtl);rfl))));(case hq=>kernel_rfl))
     all_goals (apply dtk 4;(case hi=>rfl);(case hop=>(apply prd;apply p_fieldAddrB<;>rfl));(case hq=>kernel_rfl))
     all_goals (apply dtk 5;(case hi=>rfl);(case hop=>((apply r_load1;rfl;(apply Cell.own;(case h=>repeat (exact mhd _));rfl))));(case hq=>kernel_rfl))
     all_goals (apply dtk 6;(case hi=>rfl);(case hop=>(apply prd;apply p_fieldAddrB<;>rfl));(case hq=>kernel_rfl))
     all_goals (apply dtk 7;(case hi=>rfl);(case hop=>((apply r_load1;rfl;(apply Cell.own;(case h=>repeat (exact mhd _));rfl))));(case hq=>kernel_rfl))
     all_goals (apply dtk 8;(case hi=>rfl);(case hop=>((apply prd;apply p_pair (e:=3);(case hx|hy=>rfl))));(case hq=>kernel_rfl);apply dtm 9;(case hi|hx=>rfl);(case hq=>kernel_rfl))
     all_goals (apply dtk 10;(case hi=>rfl);(case hop=>(apply prd;apply p_add;(case hx|hy=>rfl);(case h=>omega)));(case hq=>kernel_rfl))
     all_goals ((apply d_exec0 11;(case hi=>rfl);(case hr=>kernel_rfl);(case hop=>exact m_mapUpdate (k:=67) (mk:=keyP) (cl,seq) rfl rfl rfl (PickA.perm (ν:=[(pb,oP)]) (by repeat (first|exact PickA.here _|apply PickA.cons))) hPB);rintro _ G4 _ ⟨oP2,hP2,hK2,hG4,rfl⟩;subst G4;refine ⟨(by intro e he;simp only [List.mem_cons,List.not_mem_nil,or_false] at he;rcases he with rfl|rfl<;>simp),?_⟩))
     all_goals (apply d_done;(case hr=>kernel_rfl))
     repeat' (first|apply v_region|apply v_nil|apply v_blk|apply v_pure;(case hop=>first|apply p_move<;>rfl|apply p_add;(case hx|hy=>rfl);(case h=>omega)|fail);(case hd=>rfl)|fail)
     refine v_perm (ν:=((xb,ctO pb (.slice A5 (acc.length+1) c5))::(pb,oP2)::(mb,mcO kb (decide (s5.schema=2)) D2)::(kb,oM2)::n5)++[(b6,_)]) (by apply perm_of_count;intro p;simp only [List.append_eq,List.countP_append,List.countP_cons,List.countP_nil,Nat.zero_add,Nat.add_zero];try ac_rfl) ?_
     refine v_drop (List.sublist_append_left _ _) ?_
     exact v_again rfl ⟨hle',k+1,s5,D2,oM2,oP2,_,_,n5,by omega,rfl,rfl,hga',hnx,hny,hm2,hM2,hput _ hc hP2⟩ (by simp [headI];omega)
    ·have hc:¬ cnt l k:=hcn.1 (by assumption)
     refine v_perm (ν:=((xb,ctO pb (.slice A5 (acc.length+1) c5))::(pb,oP)::(mb,mcO kb (decide (s5.schema=2)) D2)::(kb,oM2)::n5)++[(b6,_)]) (by apply perm_of_count;intro p;simp only [List.append_eq,List.countP_append,List.countP_cons,List.countP_nil,Nat.zero_add,Nat.add_zero];try ac_rfl) ?_
     refine v_drop (List.sublist_append_left _ _) ?_
     exact v_again rfl ⟨hle',k+1,s5,D2,oM2,oP,_,_,n5,by omega,rfl,rfl,hga',hnx,hny,hm2,hM2,hkeep hc⟩ (by simp [headI];omega))
 ·obtain rfl:k=l.length:=by omega
  repeat' (first|apply v_seq|apply v_region|apply v_nil|apply v_exit;(case hp=>rfl)|apply v_pure;(case hop=>first|apply p_move<;>rfl|apply p_lt<;>rfl|apply p_assign<;>rfl|fail);(case hd=>rfl)|apply v_cond;(case hc=>rfl);all_goals (intro h;(try simp only [reduceCtorEq,zzz] at h);try (exfalso;omega))|fail)
  subst hacc
  refine v_ret ((xb,ctO pb av)::(pb,oP)::ν) (outsA1 rfl rfl) (by repeat (first|exact List.Sublist.refl _|apply List.Sublist.cons_cons|apply List.Sublist.cons)) ⟨xb,pb,av,oP,ν,rfl,hga,hP,rfl⟩
end Go.Proofs.YtlkakbjcolgjbaaGreatDoor
/-
  witness (layer 43): where a call counts; the small functions about calls.
-/
namespace Go.Proofs.YtlkakbjcolgjbaaGreatDoor
open Go.Vx Go.ChangeShapes Go.WideShapes Go.ChangeAt Go.RowKit
noncomputable abbrev plc (log:List Cm) (c:Cl):Nat:=pl log (c.cmd.client,c.cmd.seq)
theorem not_dec (p:Prop) [Decidable p]:(!dec p)=dec (¬ p):=by
 by_cases h:p
 ·rw [dec_pos h,dec_neg (not_not_intro h)]
  rfl
 ·rw [dec_neg h,dec_pos h]
  rfl
theorem answered_s (G:GH) (x:Cl):Con Tryz.prog 13 #[.agg x.cells.toArray] G [] (Just (.bool (dec (0<x.e))) G):=by
 apply Con.just
 (refine v_enter Tryz.func13 rfl Tryz.ntmps13 rfl ?_;intro B _)
 repeat' (first|apply v_box (d:=1) (zs:=x.cells);(case hx|hz|hd=>rfl);intro b1|apply v_seq|apply v_region|apply v_nil|apply v_pure;(case hop=>first|apply p_gt<;>rfl|apply p_assign<;>rfl|apply p_fieldAddrB<;>rfl|fail);(case hd=>rfl)|apply v_read;(case hop=>(apply r_load1;rfl;(apply Cell.own;(case h=>repeat exact mhd _);rfl)));(case hd=>rfl)|fail)
 refine v_ret [] (outsA1 rfl rfl) (by repeat (exact List.nil_sublist _)) ?_
 exact ⟨rfl,rfl⟩
theorem ends1_s (G:GH) (x:Cl):Con Tryz.prog 31 #[.agg x.cells.toArray] G [] (Just (.bool (dec (¬ 0<x.e))) G):=by
 have q:=answered_s G x
 apply Con.just
 (refine v_enter Tryz.func31 rfl Tryz.ntmps31 rfl ?_;intro B _)
 repeat' (first|apply v_box (d:=1) (zs:=x.cells);(case hx|hz|hd=>rfl);intro b1|apply v_read;(case hop=>(apply r_loadNo;(case hx=>rfl);(case h=>repeat (exact mhd _));(case hd|hn=>rfl)));(case hd=>rfl)|apply v_seq|apply v_region|apply v_nil|apply v_pure;(case hop=>first|apply p_assign<;>rfl|apply p_not<;>rfl);(case hd=>rfl)|apply v_callJ (hs:=q);(case ha|hd=>rfl)|fail)
 refine v_ret [] (outsA1 rfl rfl) (by repeat (exact List.nil_sublist _)) ?_
 exact ⟨congrArg Value.bool (not_dec _),rfl⟩
theorem ends2_s (G:GH) (x y:Cl):Con Tryz.prog 33 #[.agg x.cells.toArray,.agg y.cells.toArray] G [] (Just (.int .i64 (cmpK x.e y.e)) G):=by
 have q:=cmp_s G x.e y.e
 apply Con.just
 (refine v_enter Tryz.func33 rfl Tryz.ntmps33 rfl ?_;intro B _)
 repeat' (first|apply v_box (d:=2) (zs:=x.cells);(case hx|hz|hd=>rfl);intro b1|apply v_box (d:=3) (zs:=y.cells);(case hx|hz|hd=>rfl);intro b2|apply v_seq|apply v_region|apply v_nil|apply v_pure;(case hop=>first|apply p_assign<;>rfl|apply p_fieldAddrB<;>rfl|fail);(case hd=>rfl)|apply v_callJ (hs:=q);(case ha|hd=>rfl)|apply v_read;(case hop=>(apply r_load1;rfl;(apply Cell.own;(case h=>repeat first|exact mhd _|apply mtl);rfl)));(case hd=>rfl)|fail)
 refine v_ret [] (outsA1 rfl rfl) (by repeat (exact List.nil_sublist _)) ?_
 exact ⟨rfl,rfl⟩
theorem invoked1_s {G:GH}{cb:Nat}{c:Cm}(x:Cl):Con Tryz.prog 36 #[.agg x.cells.toArray,.pointer (some ⟨cb,0,none⟩)] G [(cb,.cells c.cells.toArray 25 (0,0))] (Keeps (.bool (dec (x.cmd=c))) G [(cb,.cells c.cells.toArray 25 (0,0))]):=by
 (refine v_enter Tryz.func36 rfl Tryz.ntmps36 rfl ?_;intro B _)
 repeat' (first|apply v_box (d:=2) (zs:=x.cells);(case hx|hz|hd=>rfl);intro b1|apply v_read;(case hop=>(apply r_loadNo;(case hx=>rfl);(case h=>repeat first|exact mhd _|apply mtl);(case hd|hn=>rfl)));(case hd=>rfl)|apply v_pure;(case hop=>apply eqCm (c:=x.cmd) (c':=c);(case hx|hy=>rfl));(case hd=>rfl)|apply v_seq|apply v_region|apply v_nil|apply v_pure;(case hop=>first|apply p_assign<;>rfl|apply p_fieldAddrB<;>rfl|fail);(case hd=>rfl)|fail)
 refine v_ret [(cb,_)] (outsA1 rfl rfl) (by repeat (first|exact List.Sublist.refl _|apply List.Sublist.cons)) ⟨rfl,rfl,rfl⟩
theorem place_s {G:GH}{xb pb:Nat}{av:Value}{oP:Obj}{log:List Cm}(hP:PlM log log.length oP) (x:Cl):Con Tryz.prog 26 #[.pointer (some ⟨xb,0,none⟩),.agg x.cells.toArray] G [(xb,ctO pb av),(pb,oP)] (Keeps (.int .i64 (plc log x:Nat)) G [(xb,ctO pb av),(pb,oP)]):=by
 obtain ⟨L,hM,hg⟩:=hP
 have hv:(mget L (x.cmd.client,x.cmd.seq)).getD (.int .i64 0)=.int .i64 (plc log x:Nat):=by
  rw [hg]
  show (if plc log x=0 then none else some (Value.int .i64 (plc log x:Nat))).getD _=_
  by_cases h:plc log x=0
  ·rw [if_pos h,h];rfl
  ·rw [if_neg h];rfl
 have hr:∀ (σ:Env) (ty:TypeId) (a b:Operand) (μ:OH),Env.ev σ a=some (.map (some pb))→Env.ev σ b=some (keyP (x.cmd.client,x.cmd.seq))→(pb,oP)∈μ→ReadOp Tryz.prog (.lookup 57 a b false) ty σ G μ (.int .i64 (plc log x:Nat)):=fun σ ty a b μ h1 h2 h3=>by
  have:=r_lookup (ty:=ty) (P:=Tryz.prog) (G:=G) (t:=57) (k:=67) (e:=3) (mk:=keyP) (x.cmd.client,x.cmd.seq) h1 h2 h3 hM
  rwa [hv] at this
 clear hv hg hM
 (refine v_enter Tryz.func26 rfl Tryz.ntmps26 rfl ?_;intro B _)
 repeat' (first|apply v_box (d:=3) (zs:=x.cells);(case hx|hz|hd=>rfl);intro b1|apply v_seq|apply v_region|apply v_nil|apply v_pure;(case hop=>(apply p_assign<;>rfl));(case hd=>rfl)|fail)
 refine d_start [(b1,.cells x.cells.toArray 30 (0,0)),(xb,ctO pb av),(pb,oP)] (by kernel_rfl) (by kernel_rfl) (by kernel_rfl) (by intro e he;exact he) ?_
 all_goals (apply dtm 0;(case hi|hx=>rfl);(case hq=>kernel_rfl);apply dtn 1;(case hi|hx=>rfl);(case hq=>kernel_rfl))
 all_goals (apply dtk 2;(case hi=>rfl);(case hop=>(apply prd;apply p_fieldAddrB<;>rfl));(case hq=>kernel_rfl);apply dtk 3;(case hi=>rfl);(case hop=>(apply r_load1;rfl;(apply Cell.own;(case h=>repeat first|exact mhd _|apply mtl);rfl)));(case hq=>kernel_rfl))
 all_goals (apply dtk 4;(case hi=>rfl);(case hop=>(apply prd;apply p_fieldAddrB<;>rfl));(case hq=>kernel_rfl);apply dtk 5;(case hi=>rfl);(case hop=>(apply prd;apply p_fieldAddrB<;>rfl));(case hq=>kernel_rfl))
 all_goals (apply dtk 6;(case hi=>rfl);(case hop=>(apply r_load1;rfl;(apply Cell.own;(case h=>repeat exact mhd _);rfl)));(case hq=>kernel_rfl);apply dtk 7;(case hi=>rfl);(case hop=>(apply prd;apply p_fieldAddrB<;>rfl));(case hq=>kernel_rfl))
 all_goals (apply dtk 8;(case hi=>rfl);(case hop=>(apply prd;apply p_fieldAddrB<;>rfl));(case hq=>kernel_rfl);apply dtk 9;(case hi=>rfl);(case hop=>(apply r_load1;rfl;(apply Cell.own;(case h=>repeat exact mhd _);rfl)));(case hq=>kernel_rfl))
 all_goals (apply dtk 10;(case hi=>rfl);(case hop=>((apply prd;apply p_pair (e:=3);(case hx|hy=>rfl))));(case hq=>kernel_rfl);apply dtk 11;(case hi=>rfl);(case hop=>((apply hr;rfl;rfl;repeat (first|exact mhd _|apply mtl))));(case hq=>kernel_rfl))
 all_goals (apply dta 12;(case hi|hx=>rfl);(case hq=>kernel_rfl))
 all_goals (apply d_done;(case hr=>kernel_rfl))
 repeat' (fail)
 refine v_ret [(xb,ctO pb av),(pb,oP)] (outsA1 rfl rfl) (by repeat (first|exact List.Sublist.refl _|apply List.Sublist.cons)) ⟨rfl,rfl,rfl⟩
theorem orders1_s {G:GH}{ab xx xb pb:Nat}{av:Value}{oP:Obj}{log:List Cm}(hP:PlM log log.length oP) (x y:Cl):Con Tryz.prog 27 #[.agg y.cells.toArray,.pointer (some ⟨ab,0,none⟩),.pointer (some ⟨xx,0,none⟩)] G [(ab,.cells x.cells.toArray 30 (0,0)),(xx,.cells [Value.pointer (some ⟨xb,0,none⟩)].toArray 45 (0,0)),(xb,ctO pb av),(pb,oP)] (Keeps (.bool (dec (x.e<y.b∧plc log y≤plc log x))) G [(ab,.cells x.cells.toArray 30 (0,0)),(xx,.cells [Value.pointer (some ⟨xb,0,none⟩)].toArray 45 (0,0)),(xb,ctO pb av),(pb,oP)]):=by
 have q1:=place_s (G:=G) (xb:=xb) (pb:=pb) (av:=av) hP x
 have q2:=place_s (G:=G) (xb:=xb) (pb:=pb) (av:=av) hP y
 (refine v_enter Tryz.func27 rfl Tryz.ntmps27 rfl ?_;intro B _)
 repeat' (first|apply v_box (d:=3) (zs:=y.cells);(case hx|hz|hd=>rfl);intro b3|apply v_seq|apply v_region|apply v_nil|apply v_pure;(case hop=>(apply p_assign<;>rfl));(case hd=>rfl)|fail)
 by_cases hlt:x.e<y.b
 ·refine d_start [(b3,.cells y.cells.toArray 30 (0,0)),(ab,.cells x.cells.toArray 30 (0,0)),(xx,.cells [Value.pointer (some ⟨xb,0,none⟩)].toArray 45 (0,0)),(xb,ctO pb av),(pb,oP)] (by kernel_rfl) (by kernel_rfl) (by kernel_rfl) (by (intro e he;exact he)) ?_
  all_goals (apply dtk 0;(case hi=>rfl);(case hop=>(apply prd;apply p_fieldAddrB<;>rfl));(case hq=>kernel_rfl);apply dtk 1;(case hi=>rfl);(case hop=>(apply r_load1;rfl;(apply Cell.own;(case h=>repeat first|exact mhd _|apply mtl);rfl)));(case hq=>kernel_rfl))
  all_goals (apply dtk 2;(case hi=>rfl);(case hop=>(apply prd;apply p_fieldAddrB<;>rfl));(case hq=>kernel_rfl);apply dtk 3;(case hi=>rfl);(case hop=>(apply r_load1;rfl;(apply Cell.own;(case h=>repeat exact mhd _);rfl)));(case hq=>kernel_rfl))
  all_goals (apply dtk 4;(case hi=>rfl);(case hop=>(apply prd;apply p_lt<;>rfl));(case hq=>kernel_rfl);apply dtm 5;(case hi|hx=>rfl);(case hq=>kernel_rfl))
  all_goals (try (apply d_guardB 6;(case hi|hgd|h1|h2=>rfl);all_goals (intro h;(try simp only [reduceCtorEq,zzz] at h);try (exfalso;omega))))
  all_goals (apply dtg 6;(case hi|hg=>rfl);(case hop=>(apply r_load1;rfl;(apply Cell.own;(case h=>repeat first|exact mhd _|apply mtl);rfl)));(case hq=>kernel_rfl))
  all_goals (try (apply d_guardB 7;(case hi|hgd|h1|h2=>rfl);all_goals (intro h;(try simp only [reduceCtorEq,zzz] at h))))
  all_goals (apply dtg 7;(case hi|hg=>rfl);(case hop=>((apply r_loadNo;(case hx=>rfl);(case h=>repeat first|exact mhd _|apply mtl);(case hd|hn=>rfl))));(case hq=>kernel_rfl))
  all_goals (try (apply d_guardB 9;(case hi|hgd|h1|h2=>rfl);all_goals (intro h;(try simp only [reduceCtorEq,zzz] at h))))
  all_goals (apply dtg 9;(case hi|hg=>rfl);(case hop=>(apply r_load1;rfl;(apply Cell.own;(case h=>repeat first|exact mhd _|apply mtl);rfl)));(case hq=>kernel_rfl))
  all_goals (try (apply d_guardB 10;(case hi|hgd|h1|h2=>rfl);all_goals (intro h;(try simp only [reduceCtorEq,zzz] at h))))
  all_goals (apply dtg 10;(case hi|hg=>rfl);(case hop=>((apply r_loadNo;(case hx=>rfl);(case h=>repeat (exact mhd _));(case hd|hn=>rfl))));(case hq=>kernel_rfl))
  all_goals (try (apply d_guardB 8;(case hi|hgd|h1|h2=>rfl);all_goals (intro h;(try simp only [reduceCtorEq,zzz] at h))))
  all_goals ((apply d_callKG 8 (hs:=q1) (hp:=PickA.perm (by repeat (first|exact PickA.last|apply PickA.cons)));(case hi|hg=>rfl);(case hr=>kernel_rfl);(case ha|hd=>rfl)))
  all_goals (try (apply d_guardB 11;(case hi|hgd|h1|h2=>rfl);all_goals (intro h;(try simp only [reduceCtorEq,zzz] at h))))
  all_goals ((apply d_callKG 11 (hs:=q2) (hp:=PickA.perm (by repeat (first|exact PickA.last|apply PickA.cons)));(case hi|hg=>rfl);(case hr=>kernel_rfl);(case ha|hd=>rfl)))
  all_goals (try (apply d_guardB 12;(case hi|hgd|h1|h2=>rfl);all_goals (intro h;(try simp only [reduceCtorEq,zzz] at h))))
  all_goals (apply dtg 12;(case hi|hg=>rfl);(case hop=>(apply prd;apply p_ge<;>rfl));(case hq=>kernel_rfl);apply dtk 13;(case hi=>rfl);(case hop=>(apply prd;apply p_pickT<;>rfl));(case hq=>kernel_rfl))
  all_goals (apply dta 14;(case hi|hx=>rfl);(case hq=>kernel_rfl))
  all_goals (apply d_done;(case hr=>kernel_rfl))
  all_goals repeat' (fail)
  all_goals refine v_ret [(ab,.cells x.cells.toArray 30 (0,0)),(xx,.cells [Value.pointer (some ⟨xb,0,none⟩)].toArray 45 (0,0)),(xb,ctO pb av),(pb,oP)] (outsA1 rfl rfl) (by repeat (first|exact List.Sublist.refl _|apply List.Sublist.cons)) ⟨?_,rfl,rfl⟩
  exact congrArg Value.bool (by rw [Bool.eq_iff_iff];simp [dec_true,hlt])
 ·refine d_start [(b3,.cells y.cells.toArray 30 (0,0)),(ab,.cells x.cells.toArray 30 (0,0)),(xx,.cells [Value.pointer (some ⟨xb,0,none⟩)].toArray 45 (0,0)),(xb,ctO pb av),(pb,oP)] (by kernel_rfl) (by kernel_rfl) (by kernel_rfl) (by (intro e he;exact he)) ?_
  all_goals (apply dtk 0;(case hi=>rfl);(case hop=>(apply prd;apply p_fieldAddrB<;>rfl));(case hq=>kernel_rfl);apply dtk 1;(case hi=>rfl);(case hop=>(apply r_load1;rfl;(apply Cell.own;(case h=>repeat first|exact mhd _|apply mtl);rfl)));(case hq=>kernel_rfl))
  all_goals (apply dtk 2;(case hi=>rfl);(case hop=>(apply prd;apply p_fieldAddrB<;>rfl));(case hq=>kernel_rfl);apply dtk 3;(case hi=>rfl);(case hop=>(apply r_load1;rfl;(apply Cell.own;(case h=>repeat exact mhd _);rfl)));(case hq=>kernel_rfl))
  all_goals (apply dtk 4;(case hi=>rfl);(case hop=>(apply prd;apply p_lt<;>rfl));(case hq=>kernel_rfl);apply dtm 5;(case hi|hx=>rfl);(case hq=>kernel_rfl))
  all_goals (try (apply d_guardB 6;(case hi|hgd|h1|h2=>rfl);all_goals (intro h;(try simp only [reduceCtorEq,zzz] at h);try (exfalso;omega))))
  all_goals (apply dpa 6;(case hi|hg|hn=>rfl);(case hq=>kernel_rfl))
  all_goals (try (apply d_guardB 7;(case hi|hgd|h1|h2=>rfl);all_goals (intro h;(try simp only [reduceCtorEq,zzz] at h))))
  all_goals (apply dpa 7;(case hi|hg|hn=>rfl);(case hq=>kernel_rfl))
  all_goals (try (apply d_guardB 9;(case hi|hgd|h1|h2=>rfl);all_goals (intro h;(try simp only [reduceCtorEq,zzz] at h))))
  all_goals (apply dpa 9;(case hi|hg|hn=>rfl);(case hq=>kernel_rfl))
  all_goals (try (apply d_guardB 10;(case hi|hgd|h1|h2=>rfl);all_goals (intro h;(try simp only [reduceCtorEq,zzz] at h))))
  all_goals (apply dpa 10;(case hi|hg|hn=>rfl);(case hq=>kernel_rfl))
  all_goals (try (apply d_guardB 8;(case hi|hgd|h1|h2=>rfl);all_goals (intro h;(try simp only [reduceCtorEq,zzz] at h))))
  all_goals (apply dpa 8;(case hi|hg|hn=>rfl);(case hq=>kernel_rfl))
  all_goals (try (apply d_guardB 11;(case hi|hgd|h1|h2=>rfl);all_goals (intro h;(try simp only [reduceCtorEq,zzz] at h))))
  all_goals (apply dpa 11;(case hi|hg|hn=>rfl);(case hq=>kernel_rfl))
  all_goals (try (apply d_guardB 12;(case hi|hgd|h1|h2=>rfl);all_goals (intro h;(try simp only [reduceCtorEq,zzz] at h))))
  all_goals (apply dpa 12;(case hi|hg|hn=>rfl);(case hq=>kernel_rfl))
  all_goals (apply dtk 13;(case hi=>rfl);(case hop=>(apply prd;apply p_pickF<;>rfl));(case hq=>kernel_rfl);apply dta 14;(case hi|hx=>rfl);(case hq=>kernel_rfl))
  all_goals (apply d_done;(case hr=>kernel_rfl))
  all_goals repeat' (fail)
  all_goals refine v_ret [(ab,.cells x.cells.toArray 30 (0,0)),(xx,.cells [Value.pointer (some ⟨xb,0,none⟩)].toArray 45 (0,0)),(xb,ctO pb av),(pb,oP)] (outsA1 rfl rfl) (by repeat (first|exact List.Sublist.refl _|apply List.Sublist.cons)) ⟨?_,rfl,rfl⟩
  exact congrArg Value.bool (by rw [dec_neg fun h=>hlt h.1])
def goodC (log:List Cm) (c:Cl):Prop := ∃ i,plc log c=i+1∧log[i]? = some c.cmd∧(anA log log.length)[i]? = some c.ans
theorem one_s {G:GH}{xb pb:Nat}{av lv:Value}{oP:Obj}{log:List Cm}(hl:Cms G lv log) (ha:Sl G 6 (RowR An.cells) av (anA log log.length)) (hP:PlM log log.length oP) (x:Cl) (hg:goodC log x):Con Tryz.prog 14 #[.pointer (some ⟨xb,0,none⟩),lv,.agg x.cells.toArray] G [(xb,ctO pb av),(pb,oP)] (Keeps (.int .i64 0) G [(xb,ctO pb av),(pb,oP)]):=by
 have q1:=place_s (G:=G) (xb:=xb) (pb:=pb) (av:=av) hP x
 obtain ⟨i,hi,h1,h2⟩:=hg
 obtain ⟨LA,lc,rfl,hlc,hcm,hsome,hcp⟩:=rowOpen hl
 obtain ⟨LB,ld,rfl,hld,hdm,hsomd,hdp⟩:=rowOpen ha
 simp only [maxLen] at hcm hdm
 obtain ⟨hil,h3⟩:=List.getElem?_eq_some_iff.1 h1
 obtain ⟨hia,h4⟩:=List.getElem?_eq_some_iff.1 h2
 have hck:=hcp i hil
 have hdk:=hdp i hia
 have hA:=hsome (by omega)
 have hB:=hsomd (by omega)
 rw [h3] at hck
 rw [h4] at hdk
 have e1:(((i+1:Nat):Int)-1).toNat=i:=by omega
 rw [hi] at q1
 (refine v_enter Tryz.func14 rfl Tryz.ntmps14 rfl ?_;intro B _)
 repeat' (first|apply v_box (d:=5) (zs:=x.cells);(case hx|hz|hd=>rfl);intro b5|apply v_read;(case hop=>(apply r_loadNo;(case hx=>rfl);(case h=>repeat (exact mhd _));(case hd|hn=>rfl)));(case hd=>rfl)|apply v_seq|apply v_region|apply v_nil|apply v_pure;(case hop=>first|apply p_move<;>rfl|apply p_assign<;>rfl|fail);(case hd=>rfl)|fail)
 refine v_call (μ1:=[(xb,ctO pb (.slice LB (anA log log.length).length ld)),(pb,oP)]) rfl q1 (PickA.perm (by repeat (first|exact PickA.last|apply PickA.cons))) rfl ?_
 rintro _ G5 _ - ⟨rfl,hG5,rfl⟩
 subst G5
 repeat' (first|apply v_seq|apply v_region|apply v_nil|apply v_block|apply v_pure;(case hop=>first|apply p_move<;>rfl|apply p_eq<;>rfl|apply p_assign<;>rfl|fail);(case hd=>rfl)|apply v_cond;(case hc=>rfl);all_goals (intro h;(try simp only [reduceCtorEq,zzz] at h);try (exfalso;omega))|fail)
 refine v_perm (ν:=[(b5,.cells x.cells.toArray 30 (0,0)),(xb,ctO pb (.slice LB (anA log log.length).length ld)),(pb,oP)]) (by apply perm_of_count;intro p;simp only [List.append_eq,List.countP_append,List.countP_cons,List.countP_nil,Nat.zero_add,Nat.add_zero];try ac_rfl) ?_
 refine d_start [(b5,.cells x.cells.toArray 30 (0,0))] (by kernel_rfl) (by kernel_rfl) (by kernel_rfl) (by intro e he;(simp at he;simp [he];done)) ?_
 all_goals (apply dtm 0;(case hi|hx=>rfl);(case hq=>kernel_rfl);apply dtm 1;(case hi|hx=>rfl);(case hq=>kernel_rfl))
 all_goals (apply dtk 2;(case hi=>rfl);(case hop=>(apply prd;apply p_sub;(case hx|hy=>rfl);(case h=>omega)));(case hq=>kernel_rfl);apply dtk 3;(case hi=>rfl);(case hop=>(apply prd;apply p_indexAddrS;(case hx|hi=>rfl);(case h0|h=>omega);(case hA=>assumption)));(case hq=>kernel_rfl))
 all_goals (apply dtk 4;(case hi=>rfl);(case hop=>((apply r_loadN;rfl;exact CellsAt.frozen (by rw [e1];exact hck);rfl)));(case hq=>kernel_rfl);apply dtk 5;(case hi=>rfl);(case hop=>(apply prd;apply p_fieldAddrB<;>rfl));(case hq=>kernel_rfl))
 all_goals (apply dtk 6;(case hi=>rfl);(case hop=>((apply r_loadNo;(case hx=>rfl);(case h=>repeat (exact mhd _));(case hd|hn=>rfl))));(case hq=>kernel_rfl))
 all_goals (apply dtk 7;(case hi=>rfl);(case hop=>((apply prd;apply neCm (c:=x.cmd) (c':=x.cmd);(case hx|hy=>rfl))));(case hq=>kernel_rfl);apply dta 8;(case hi|hx=>rfl);(case hq=>kernel_rfl))
 all_goals (apply d_done;(case hr=>kernel_rfl))
 have hne:dec (¬ x.ans=x.ans)=false:=dec_neg (not_not_intro rfl)
 have hne2:dec (x.cmd=x.cmd)=true:=dec_pos rfl
 rw [hne2]
 repeat' (first|apply v_condF;(case hc=>rfl)|fail)
 refine d_start [(b5,.cells x.cells.toArray 30 (0,0)),(xb,ctO pb (.slice LB (anA log log.length).length ld))] (by kernel_rfl) (by kernel_rfl) (by kernel_rfl) (by intro e he;(simp only [List.mem_cons,List.not_mem_nil,or_false] at he;rcases he with rfl|rfl<;>simp;done)) ?_
 all_goals (apply dtm 0;(case hi|hx=>rfl);(case hq=>kernel_rfl);apply dtn 1;(case hi|hx=>rfl);(case hq=>kernel_rfl))
 all_goals (apply dtk 2;(case hi=>rfl);(case hop=>(apply prd;apply p_fieldAddrB<;>rfl));(case hq=>kernel_rfl))
 all_goals (apply dtk 3;(case hi=>rfl);(case hop=>((apply r_load1;rfl;(apply Cell.own;(case h=>repeat first|exact mhd _|apply mtl);rfl))));(case hq=>kernel_rfl))
 all_goals (apply dtm 4;(case hi|hx=>rfl);(case hq=>kernel_rfl);apply dtk 5;(case hi=>rfl);(case hop=>(apply prd;apply p_sub;(case hx|hy=>rfl);(case h=>omega)));(case hq=>kernel_rfl))
 all_goals (apply dtk 6;(case hi=>rfl);(case hop=>(apply prd;apply p_indexAddrS;(case hx|hi=>rfl);(case h0|h=>omega);(case hA=>assumption)));(case hq=>kernel_rfl);apply dtk 7;(case hi=>rfl);(case hop=>((apply r_loadN;rfl;exact CellsAt.frozen (by rw [e1];exact hdk);rfl)));(case hq=>kernel_rfl))
 all_goals (apply dtk 8;(case hi=>rfl);(case hop=>(apply prd;apply p_fieldAddrB<;>rfl));(case hq=>kernel_rfl))
 all_goals (apply dtk 9;(case hi=>rfl);(case hop=>((apply r_loadNo;(case hx=>rfl);(case h=>repeat (exact mhd _));(case hd|hn=>rfl))));(case hq=>kernel_rfl))
 all_goals (apply dtk 10;(case hi=>rfl);(case hop=>((apply prd;apply neAnI (x:=x.ans) (y:=x.ans);(case hx|hy=>rfl))));(case hq=>kernel_rfl);apply dta 11;(case hi|hx=>rfl);(case hq=>kernel_rfl))
 all_goals (apply d_done;(case hr=>kernel_rfl))
 rw [hne]
 repeat' (first|apply v_seq|apply v_region|apply v_nil|apply v_skip|apply v_blk|apply v_pure;(case hop=>(apply p_assign<;>rfl));(case hd=>rfl)|apply v_condF;(case hc=>rfl)|fail)
 refine v_ret [(xb,ctO pb (.slice LB (anA log log.length).length ld)),(pb,oP)] (outsA1 rfl rfl) (by repeat (first|exact List.Sublist.refl _|apply List.Sublist.cons)) ⟨rfl,rfl,rfl⟩
abbrev clO (R:List Cl) (sp:List Value):Obj:=.cells (rowC Cl.cells R++sp).toArray 30 (0,0)
theorem clAt {R:List Cl}{sp:List Value}{i:Nat}(h:i<R.length):((rowC Cl.cells R++sp).drop (i*15)).take 15=R[i].cells:=by
 have hl:=rowC_length Cl.len R
 rw [List.drop_append_of_le_length (by omega),List.take_append_of_le_length (by rw [List.length_drop];omega)]
 exact rowC_at Cl.len R i h
theorem clFit {R:List Cl}{sp:List Value}{i:Nat}(h:i<R.length) (y:Cl):i*15+y.cells.length≤(rowC Cl.cells R++sp).length:=by
 rw [List.length_append,rowC_length Cl.len,Cl.len]
 omega
theorem clSet {R:List Cl}{sp:List Value}{i:Nat}(h:i<R.length) (y:Cl):over (rowC Cl.cells R++sp) (i*15) y.cells=rowC Cl.cells (R.set i y)++sp:=rowC_set Cl.len R i h y sp
theorem p_idxOwnK {P:Program}{σ:Env}{t ty:TypeId}{bytes:Nat}{zero:Value}{e:TypeId}{agg:Bool}{sz:Nat}{x i:Operand}{b l c:Nat}(k:Nat) {j:Int}{kd:IntKind} [Ty P t (.slice e)] [Lay P e agg sz bytes zero] (hx:Env.ev σ x=some (.slice (some ⟨b,0,none⟩) l c)) (hi:Env.ev σ i=some (.int kd j)) (hj:j=(k:Nat)) (h:k<l):PureOp P (.indexAddr t x i) ty σ (.pointer (some ⟨b,k*sz,none⟩)):=by
 subst hj
 have:=p_indexAddr (P:=P) (t:=t) (ty:=ty) hx hi (by omega) (by omega)
 simpa [add_mk] using this
set_option maxHeartbeats 1000000 in
theorem swapRange_s {G:GH}{db cap a b n:Nat}{R:List Cl}{sp:List Value}(cv:Value) (hc:R.length≤cap) (hm:cap≤maxLen) (ha:a+n≤R.length) (hb:b+n≤R.length) :
 Con Tryz.prog 93 #[.slice (some ⟨db,0,none⟩) R.length cap,.int .i64 (a:Nat),.int .i64 (b:Nat),.int .i64 (n:Nat),cv] G [(db,clO R sp)] (fun _ G' μ'=>G'=G∧∃ R':List Cl,R'.Perm R∧μ'=[(db,clO R' sp)]):=by
 simp only [maxLen] at hm
 (refine v_enter Tryz.func93 rfl Tryz.ntmps93 rfl ?_;intro B _)
 repeat' (first|apply v_seq|apply v_region|apply v_nil|apply v_block|apply v_pure;(case hop=>(apply p_assign<;>rfl));(case hd=>rfl)|fail)
 refine v_loop [10,3,2,1,0] (fun us G' μ'=>G'=G∧∃ (k:Nat) (R':List Cl),k≤n∧R'.Perm R∧us=[Value.int .i64 (k:Nat),.int .i64 (n:Nat),.int .i64 (b:Nat),.int .i64 (a:Nat),.slice (some ⟨db,0,none⟩) R.length cap]∧μ'=[(db,clO R' sp)]) (fun us=>n-(headI us).toNat) rfl ⟨rfl,0,R,by omega,List.Perm.refl _,rfl,rfl⟩ ?_
 rintro us G' _ ⟨rfl,k,R',hk,hp,rfl,rfl⟩
 have hl:=hp.length_eq
 by_cases hlt:k<n
 ·have h1:=clAt (sp:=sp) (R:=R') (i:=a+k) (by omega)
  have h2:=clAt (sp:=sp) (R:=R') (i:=b+k) (by omega)
  have s1:=clSet (sp:=sp) (R:=R') (i:=a+k) (by omega) (R'[b+k]'(by omega))
  have f1:=clFit (sp:=sp) (R:=R') (i:=a+k) (by omega) (R'[b+k]'(by omega))
  have s2:=clSet (sp:=sp) (R:=R'.set (a+k) (R'[b+k]'(by omega))) (i:=b+k) (by rw [List.length_set];omega) (R'[a+k]'(by omega))
  have f2:=clFit (sp:=sp) (R:=R'.set (a+k) (R'[b+k]'(by omega))) (i:=b+k) (by rw [List.length_set];omega) (R'[a+k]'(by omega))
  have hp2 := @List.set_set_perm _ R' (a+k) (b+k) (by omega) (by omega)
  repeat' (first|apply v_seq|apply v_region|apply v_nil|apply v_skip|apply v_block|apply v_pure;(case hop=>first|apply p_move<;>rfl|apply p_lt<;>rfl|fail);(case hd=>rfl)|apply v_cond;(case hc=>rfl);all_goals (intro h;(try simp only [reduceCtorEq,zzz] at h);try (exfalso;omega))|fail)
  refine d_start [] (by kernel_rfl) (by kernel_rfl) (by kernel_rfl) (by intro e he;(simp at he ⊢;try omega)) ?_
  all_goals (apply dtm 0;(case hi|hx=>rfl);(case hq=>kernel_rfl);apply dtm 1;(case hi|hx=>rfl);(case hq=>kernel_rfl))
  all_goals (apply dtm 2;(case hi|hx=>rfl);(case hq=>kernel_rfl);apply dtk 3;(case hi=>rfl);(case hop=>(apply prd;apply p_add;(case hx|hy=>rfl);(case h=>omega)));(case hq=>kernel_rfl))
  all_goals (apply dtm 4;(case hi|hx=>rfl);(case hq=>kernel_rfl);apply dtm 5;(case hi|hx=>rfl);(case hq=>kernel_rfl))
  all_goals (apply dtm 6;(case hi|hx=>rfl);(case hq=>kernel_rfl);apply dtk 7;(case hi=>rfl);(case hop=>(apply prd;apply p_add;(case hx|hy=>rfl);(case h=>omega)));(case hq=>kernel_rfl))
  all_goals (apply dtm 8;(case hi|hx=>rfl);(case hq=>kernel_rfl);apply dtm 9;(case hi|hx=>rfl);(case hq=>kernel_rfl))
  all_goals (apply dtm 10;(case hi|hx=>rfl);(case hq=>kernel_rfl);apply dtk 11;(case hi=>rfl);(case hop=>(apply prd;apply p_add;(case hx|hy=>rfl);(case h=>omega)));(case hq=>kernel_rfl))
  all_goals (apply dtk 12;(case hi=>rfl);(case hop=>((apply prd;apply p_idxOwnK (b+k);(case hx|hi=>rfl);(case hj|h=>omega))));(case hq=>kernel_rfl);apply dtm 14;(case hi|hx=>rfl);(case hq=>kernel_rfl))
  all_goals (apply dtm 15;(case hi|hx=>rfl);(case hq=>kernel_rfl);apply dtm 16;(case hi|hx=>rfl);(case hq=>kernel_rfl))
  all_goals (apply dtk 17;(case hi=>rfl);(case hop=>(apply prd;apply p_add;(case hx|hy=>rfl);(case h=>omega)));(case hq=>kernel_rfl);apply dtk 18;(case hi=>rfl);(case hop=>((apply prd;apply p_idxOwnK (a+k);(case hx|hi=>rfl);(case hj|h=>omega))));(case hq=>kernel_rfl))
  focus
   refine d_fork 13 19 (by kernel_rfl) ?_ ?_
   rotate_right
   focus
    (apply x_exec 19;(case hi=>rfl);(case hop=>exact ReadOp.move (r_loadNo rfl (by repeat (exact mhd _)) h1 (Cl.len _)));(case hd=>rfl);rintro _ G0 _ ⟨rfl,hG0,rfl⟩;subst G0;refine ⟨(by intro e he;cases he),?_⟩)
    all_goals (apply d_keep 13 (hop:=ReadOp.move ?hop);(case hi=>rfl);(case hr=>kernel_rfl);(case hop=>(apply r_loadNo;(case hx=>rfl);(case h=>repeat (exact mhd _));(case hd=>exact h2);(case hn=>exact Cl.len _)));(case hd=>rfl))
    all_goals (apply dtk 20;(case hi=>rfl);(case hop=>((apply prd;apply p_idxOwnK (a+k);(case hx|hi=>rfl);(case hj|h=>omega))));(case hq=>kernel_rfl))
    all_goals ((apply d_store 21;(case hi=>rfl);(case hr=>kernel_rfl);(case hL=>infer_instance);(case hp|hx|hc=>rfl);(case hsz=>exact Cl.len _);(case h1=>exact Cl.one _);(case hb=>repeat (exact mhd _));(case hfit=>exact f1);(case hov=>exact s1);(case hu=>exact Upd.here _ _);(case hν'=>intro e he;cases he)))
    all_goals (apply dtk 22;(case hi=>rfl);(case hop=>((apply prd;apply p_idxOwnK (b+k);(case hx|hi=>rfl);(case hj|h=>omega))));(case hq=>kernel_rfl))
    all_goals ((apply d_store 23;(case hi=>rfl);(case hr=>kernel_rfl);(case hL=>infer_instance);(case hp|hx|hc=>rfl);(case hsz=>exact Cl.len _);(case h1=>exact Cl.one _);(case hb=>repeat (exact mhd _));(case hfit=>exact f2);(case hov=>exact s2);(case hu=>exact Upd.here _ _);(case hν'=>intro e he;cases he)))
    all_goals (apply d_done;(case hr=>kernel_rfl))
   rotate_right
   focus
    (apply x_exec 13;(case hi=>rfl);(case hop=>exact ReadOp.move (r_loadNo rfl (by repeat (exact mhd _)) h2 (Cl.len _)));(case hd=>rfl);rintro _ G0 _ ⟨rfl,hG0,rfl⟩;subst G0;refine ⟨(by intro e he;cases he),?_⟩)
    all_goals (apply d_keep 19 (hop:=ReadOp.move ?hop);(case hi=>rfl);(case hr=>kernel_rfl);(case hop=>(apply r_loadNo;(case hx=>rfl);(case h=>repeat (exact mhd _));(case hd=>exact h1);(case hn=>exact Cl.len _)));(case hd=>rfl))
    all_goals (apply dtk 20;(case hi=>rfl);(case hop=>((apply prd;apply p_idxOwnK (a+k);(case hx|hi=>rfl);(case hj|h=>omega))));(case hq=>kernel_rfl))
    all_goals ((apply d_store 21;(case hi=>rfl);(case hr=>kernel_rfl);(case hL=>infer_instance);(case hp|hx|hc=>rfl);(case hsz=>exact Cl.len _);(case h1=>exact Cl.one _);(case hb=>repeat (exact mhd _));(case hfit=>exact f1);(case hov=>exact s1);(case hu=>exact Upd.here _ _);(case hν'=>intro e he;cases he)))
    all_goals (apply dtk 22;(case hi=>rfl);(case hop=>((apply prd;apply p_idxOwnK (b+k);(case hx|hi=>rfl);(case hj|h=>omega))));(case hq=>kernel_rfl))
    all_goals ((apply d_store 23;(case hi=>rfl);(case hr=>kernel_rfl);(case hL=>infer_instance);(case hp|hx|hc=>rfl);(case hsz=>exact Cl.len _);(case h1=>exact Cl.one _);(case hb=>repeat (exact mhd _));(case hfit=>exact f2);(case hov=>exact s2);(case hu=>exact Upd.here _ _);(case hν'=>intro e he;cases he)))
    all_goals (apply d_done;(case hr=>kernel_rfl))
  all_goals repeat' (first|apply v_region|apply v_nil|apply v_blk|apply v_pure;(case hop=>first|apply p_move<;>rfl|apply p_assign<;>rfl|apply p_add;(case hx|hy=>rfl);(case h=>omega)|fail);(case hd=>rfl)|fail)
  all_goals exact v_again rfl ⟨rfl,k+1,_,by omega,hp2.trans hp,rfl,rfl⟩ (by simp [headI];omega)
 ·repeat' (first|apply v_seq|apply v_region|apply v_nil|apply v_exit;(case hp=>rfl)|apply v_pure;(case hop=>first|apply p_move<;>rfl|apply p_lt<;>rfl|fail);(case hd=>rfl)|apply v_cond;(case hc=>rfl);all_goals (intro h;(try simp only [reduceCtorEq,zzz] at h);try (exfalso;omega))|fail)
  refine v_end [(db,_)] (outsA0 rfl) (List.Sublist.refl _) ⟨rfl,R',hp,rfl⟩
theorem swapRangeZ_s {G:GH}{db cap a b n:Nat}{x y z:Int}{R:List Cl}{sp:List Value}(cv:Value) (hc:R.length≤cap) (hm:cap≤maxLen) (hx:x=(a:Nat)) (hy:y=(b:Nat)) (hz:z=(n:Nat)) (ha:a+n≤R.length) (hb:b+n≤R.length) :
 Con Tryz.prog 93 #[.slice (some ⟨db,0,none⟩) R.length cap,.int .i64 x,.int .i64 y,.int .i64 z,cv] G [(db,clO R sp)] (fun _ G' μ'=>G'=G∧∃ R':List Cl,R'.Perm R∧μ'=[(db,clO R' sp)]):=by
 subst hx;subst hy;subst hz
 exact swapRange_s cv hc hm ha hb
theorem rotate_s {G:GH}{db cap a m b:Nat}{R:List Cl}{sp:List Value}(cv:Value) (hc:R.length≤cap) (hm:cap≤maxLen) (h1:a<m) (h2:m<b) (h3:b≤R.length) :
 Con Tryz.prog 71 #[.slice (some ⟨db,0,none⟩) R.length cap,.int .i64 (a:Nat),.int .i64 (m:Nat),.int .i64 (b:Nat),cv] G [(db,clO R sp)] (fun _ G' μ'=>G'=G∧∃ R':List Cl,R'.Perm R∧μ'=[(db,clO R' sp)]):=by
 have hcm:=hm
 simp only [maxLen] at hcm
 (refine v_enter Tryz.func71 rfl Tryz.ntmps71 rfl ?_;intro B _)
 repeat' (first|apply v_seq|apply v_region|apply v_nil|apply v_block|apply v_pure;(case hop=>first|apply p_move<;>rfl|apply p_assign<;>rfl|apply p_sub;(case hx|hy=>rfl);(case h=>omega)|fail);(case hd=>rfl)|fail)
 refine v_loop [10,11,4,2,0] (fun us G' μ'=>G'=G∧∃ (i j:Int) (R':List Cl),1≤i∧1≤j∧i≤m∧(m:Int)+j≤R.length∧R'.Perm R∧us=[Value.int .i64 i,.int .i64 j,cv,.int .i64 (m:Nat),.slice (some ⟨db,0,none⟩) R.length cap]∧μ'=[(db,clO R' sp)]) (fun us=>(headI us).toNat+(headI (us.drop 1)).toNat) rfl ⟨rfl,_,_,R,by omega,by omega,by omega,by omega,List.Perm.refl _,rfl,rfl⟩ ?_
 rintro us G' _ ⟨rfl,i,j,R',hi,hj,him,hjm,hp,rfl,rfl⟩
 have hl:=hp.length_eq
 have q1:=swapRangeZ_s (G:=G') (db:=db) (cap:=cap) (a:=(m-i).toNat) (b:=m) (n:=j.toNat) (x:=m-i) (y:=m) (z:=j) (R:=R') (sp:=sp) cv (by omega) hm
 have q2:=swapRangeZ_s (G:=G') (db:=db) (cap:=cap) (a:=(m-i).toNat) (b:=(m+j-i).toNat) (n:=i.toNat) (x:=m-i) (y:=m+j-i) (z:=i) (R:=R') (sp:=sp) cv (by omega) hm
 have q3:=swapRangeZ_s (G:=G') (db:=db) (cap:=cap) (a:=(m-i).toNat) (b:=m) (n:=i.toNat) (x:=m-i) (y:=m) (z:=i) (R:=R') (sp:=sp) cv (by omega) hm
 rw [hl] at q1 q2 q3
 by_cases hij:i=j
 ·repeat' (first|apply v_seq|apply v_region|apply v_nil|apply v_exit;(case hp=>rfl)|apply v_pure;(case hop=>first|apply p_move<;>rfl|apply p_ne<;>rfl|apply p_sub;(case hx|hy=>rfl);(case h=>omega)|fail);(case hd=>rfl)|apply v_cond;(case hc=>rfl);all_goals (intro h;(try simp only [reduceCtorEq,zzz] at h);try (exfalso;omega))|fail)
  refine v_call (μ1:=[(db,clO R' sp)]) (μ2:=[]) rfl (q3 (by omega) (by omega) (by omega) (by omega) (by omega)) (by apply perm_of_count;intro p;simp only [List.append_eq,List.countP_append,List.countP_cons,List.countP_nil,Nat.zero_add,Nat.add_zero];try ac_rfl) rfl ?_
  rintro _ G2 _ - ⟨hG2,R2,hp2,rfl⟩
  subst hG2
  repeat' (first|apply v_nil)
  refine v_end [(db,_)] (outsA0 rfl) (List.Sublist.refl _) ⟨rfl,R2,hp2.trans hp,rfl⟩
 ·by_cases hlt:j<i
  ·repeat' (first|apply v_seq|apply v_region|apply v_nil|apply v_skip|apply v_block|apply v_pure;(case hop=>first|apply p_move<;>rfl|apply p_gt<;>rfl|apply p_ne<;>rfl|apply p_sub;(case hx|hy=>rfl);(case h=>omega)|fail);(case hd=>rfl)|apply v_cond;(case hc=>rfl);all_goals (intro h;(try simp only [reduceCtorEq,zzz] at h);try (exfalso;omega))|fail)
   refine v_call (μ1:=[(db,clO R' sp)]) (μ2:=[]) rfl (q1 (by omega) (by omega) (by omega) (by omega) (by omega)) (by apply perm_of_count;intro p;simp only [List.append_eq,List.countP_append,List.countP_cons,List.countP_nil,Nat.zero_add,Nat.add_zero];try ac_rfl) rfl ?_
   rintro _ G2 _ - ⟨hG2,R2,hp2,rfl⟩
   subst hG2
   repeat' (first|apply v_region|apply v_nil|apply v_blk|apply v_pure;(case hop=>first|apply p_move<;>rfl|apply p_assign<;>rfl|apply p_sub;(case hx|hy=>rfl);(case h=>omega)|fail);(case hd=>rfl)|fail)
   exact v_again rfl ⟨rfl,_,_,R2,by omega,by omega,by omega,by omega,hp2.trans hp,rfl,rfl⟩ (by simp [headI];omega)
  ·repeat' (first|apply v_seq|apply v_region|apply v_nil|apply v_skip|apply v_block|apply v_pure;(case hop=>first|apply p_move<;>rfl|apply p_gt<;>rfl|apply p_ne<;>rfl|apply p_add;(case hx|hy=>rfl);(case h=>omega)|apply p_sub;(case hx|hy=>rfl);(case h=>omega)|fail);(case hd=>rfl)|apply v_cond;(case hc=>rfl);all_goals (intro h;(try simp only [reduceCtorEq,zzz] at h);try (exfalso;omega))|fail)
   refine v_call (μ1:=[(db,clO R' sp)]) (μ2:=[]) rfl (q2 (by omega) (by omega) (by omega) (by omega) (by omega)) (by apply perm_of_count;intro p;simp only [List.append_eq,List.countP_append,List.countP_cons,List.countP_nil,Nat.zero_add,Nat.add_zero];try ac_rfl) rfl ?_
   rintro _ G2 _ - ⟨hG2,R2,hp2,rfl⟩
   subst hG2
   repeat' (first|apply v_region|apply v_nil|apply v_blk|apply v_pure;(case hop=>first|apply p_move<;>rfl|apply p_assign<;>rfl|apply p_sub;(case hx|hy=>rfl);(case h=>omega)|fail);(case hd=>rfl)|fail)
   exact v_again rfl ⟨rfl,_,_,R2,by omega,by omega,by omega,by omega,hp2.trans hp,rfl,rfl⟩ (by simp [headI];omega)
def CmpC (cf:FuncId) (G:GH):Prop := ∀ x y:Cl,∃ k:Int,Con Tryz.prog cf #[.agg x.cells.toArray,.agg y.cells.toArray] G [] (Just (.int .i64 k) G)
set_option maxHeartbeats 2000000 in
theorem insertion_s {G:GH}{db cap a b:Nat}{R:List Cl}{sp:List Value}{cf:FuncId} [Callable Tryz.prog cf] (hq:CmpC cf G) (hc:R.length≤cap) (hm:cap≤maxLen) (hN:R.length≤1000) (hb:b≤R.length) (hab:a≤R.length) :
 Con Tryz.prog 62 #[.slice (some ⟨db,0,none⟩) R.length cap,.int .i64 (a:Nat),.int .i64 (b:Nat),.func (.func cf) #[] #[]] G [(db,clO R sp)] (fun _ G' μ'=>G'=G∧∃ R':List Cl,R'.Perm R∧μ'=[(db,clO R' sp)]):=by
 simp only [maxLen] at hm
 (refine v_enter Tryz.func62 rfl Tryz.ntmps62 rfl ?_;intro B _)
 repeat' (first|apply v_seq|apply v_region|apply v_nil|apply v_block|apply v_pure;(case hop=>first|apply p_move<;>rfl|apply p_assign<;>rfl|apply p_add;(case hx|hy=>rfl);(case h=>omega)|fail);(case hd=>rfl)|fail)
 refine v_loop [8,3,2,1,0] (fun us G' μ'=>G'=G∧∃ (z:Int) (i:Nat) (R':List Cl),z=(i:Nat)∧a+1≤i∧(i≤b∨i=a+1)∧R'.Perm R∧us=[Value.int .i64 z,.func (.func cf) #[] #[],.int .i64 (b:Nat),.int .i64 (a:Nat),.slice (some ⟨db,0,none⟩) R.length cap]∧μ'=[(db,clO R' sp)]) (fun us=>b-(headI us).toNat) rfl ⟨rfl,(a:Int)+1,a+1,R,by omega,by omega,.inr rfl,List.Perm.refl _,rfl,rfl⟩ ?_
 rintro us G' _ ⟨rfl,_,i,R',rfl,hi,hib,hp,rfl,rfl⟩
 by_cases hlt:i<b
 ·repeat' (first|apply v_seq|apply v_region|apply v_nil|apply v_skip|apply v_block|apply v_pure;(case hop=>first|apply p_move<;>rfl|apply p_lt<;>rfl|apply p_assign<;>rfl|fail);(case hd=>rfl)|apply v_cond;(case hc=>rfl);all_goals (intro h;(try simp only [reduceCtorEq,zzz] at h);try (exfalso;omega))|fail)
  refine v_loop [9,8,3,2,1,0] (fun us G2 μ'=>G2=G'∧∃ (z:Int) (j:Nat) (R2:List Cl),z=(j:Nat)∧a≤j∧j≤i∧R2.Perm R∧us=[Value.int .i64 z,.int .i64 (i:Nat),.func (.func cf) #[] #[],.int .i64 (b:Nat),.int .i64 (a:Nat),.slice (some ⟨db,0,none⟩) R.length cap]∧μ'=[(db,clO R2 sp)]) (fun us=>(headI us).toNat) rfl ⟨rfl,_,i,R',rfl,by omega,by omega,hp,rfl,rfl⟩ ?_
  rintro us G2 _ ⟨rfl,_,j,R2,rfl,hj1,hj2,hp2,rfl,rfl⟩
  have hl:=hp2.length_eq
  by_cases hja:a<j
  ·have h1:=clAt (sp:=sp) (R:=R2) (i:=j) (by omega)
   have h2:=clAt (sp:=sp) (R:=R2) (i:=j-1) (by omega)
   obtain ⟨k,qk⟩:=hq (R2[j]'(by omega)) (R2[j-1]'(by omega))
   have s1:=clSet (sp:=sp) (R:=R2) (i:=j) (by omega) (R2[j-1]'(by omega))
   have f1:=clFit (sp:=sp) (R:=R2) (i:=j) (by omega) (R2[j-1]'(by omega))
   have s2:=clSet (sp:=sp) (R:=R2.set j (R2[j-1]'(by omega))) (i:=j-1) (by rw [List.length_set];omega) (R2[j]'(by omega))
   have f2:=clFit (sp:=sp) (R:=R2.set j (R2[j-1]'(by omega))) (i:=j-1) (by rw [List.length_set];omega) (R2[j]'(by omega))
   have hp3 := @List.set_set_perm _ R2 j (j-1) (by omega) (by omega)
   by_cases hk:k<0
   ·repeat' (first|apply v_seq)
    refine d_start _ (by kernel_rfl) (by kernel_rfl) (by kernel_rfl) (fun _ he=>he) ?_
    all_goals (apply dtm 0;(case hi|hx=>rfl);(case hq=>kernel_rfl);apply dtm 1;(case hi|hx=>rfl);(case hq=>kernel_rfl))
    all_goals (apply dtk 2;(case hi=>rfl);(case hop=>(apply prd;apply p_gt<;>rfl));(case hq=>kernel_rfl);apply dtm 3;(case hi|hx=>rfl);(case hq=>kernel_rfl))
    all_goals (try (apply d_guardB 4;(case hi|hgd|h1|h2=>rfl);all_goals (intro h;(try simp only [reduceCtorEq,zzz] at h);try (exfalso;omega))))
    all_goals (apply dtg 4;(case hi|hg=>rfl);(case hop=>(apply prd;apply p_move<;>rfl));(case hq=>kernel_rfl))
    all_goals (try (apply d_guardB 5;(case hi|hgd|h1|h2=>rfl);all_goals (intro h;(try simp only [reduceCtorEq,zzz] at h))))
    all_goals (apply dtg 5;(case hi|hg=>rfl);(case hop=>(apply prd;apply p_move<;>rfl));(case hq=>kernel_rfl))
    all_goals (try (apply d_guardB 6;(case hi|hgd|h1|h2=>rfl);all_goals (intro h;(try simp only [reduceCtorEq,zzz] at h))))
    all_goals (apply dtg 6;(case hi|hg=>rfl);(case hop=>(apply prd;apply p_move<;>rfl));(case hq=>kernel_rfl))
    all_goals (try (apply d_guardB 7;(case hi|hgd|h1|h2=>rfl);all_goals (intro h;(try simp only [reduceCtorEq,zzz] at h))))
    all_goals (apply dtg 7;(case hi|hg=>rfl);(case hop=>((apply prd;apply p_idxOwnK j;(case hx|hi=>rfl);(case hj|h=>omega))));(case hq=>kernel_rfl))
    all_goals (try (apply d_guardB 8;(case hi|hgd|h1|h2=>rfl);all_goals (intro h;(try simp only [reduceCtorEq,zzz] at h))))
    all_goals (apply dtg 8;(case hi|hg=>rfl);(case hop=>((apply r_loadNo;(case hx=>rfl);(case h=>repeat (exact mhd _));(case hd=>exact h1);(case hn=>exact Cl.len _))));(case hq=>kernel_rfl))
    all_goals (try (apply d_guardB 9;(case hi|hgd|h1|h2=>rfl);all_goals (intro h;(try simp only [reduceCtorEq,zzz] at h))))
    all_goals (apply dtg 9;(case hi|hg=>rfl);(case hop=>(apply prd;apply p_move<;>rfl));(case hq=>kernel_rfl))
    all_goals (try (apply d_guardB 10;(case hi|hgd|h1|h2=>rfl);all_goals (intro h;(try simp only [reduceCtorEq,zzz] at h))))
    all_goals (apply dtg 10;(case hi|hg=>rfl);(case hop=>(apply prd;apply p_move<;>rfl));(case hq=>kernel_rfl))
    all_goals (try (apply d_guardB 11;(case hi|hgd|h1|h2=>rfl);all_goals (intro h;(try simp only [reduceCtorEq,zzz] at h))))
    all_goals (apply dtg 11;(case hi|hg=>rfl);(case hop=>(apply prd;apply p_sub;(case hx|hy=>rfl);(case h=>omega)));(case hq=>kernel_rfl))
    all_goals (try (apply d_guardB 12;(case hi|hgd|h1|h2=>rfl);all_goals (intro h;(try simp only [reduceCtorEq,zzz] at h))))
    all_goals (apply dtg 12;(case hi|hg=>rfl);(case hop=>((apply prd;apply p_idxOwnK (j-1);(case hx|hi=>rfl);(case hj|h=>omega))));(case hq=>kernel_rfl))
    all_goals (try (apply d_guardB 13;(case hi|hgd|h1|h2=>rfl);all_goals (intro h;(try simp only [reduceCtorEq,zzz] at h))))
    all_goals (apply dtg 13;(case hi|hg=>rfl);(case hop=>((apply r_loadNo;(case hx=>rfl);(case h=>repeat (exact mhd _));(case hd=>exact h2);(case hn=>exact Cl.len _))));(case hq=>kernel_rfl))
    all_goals (try (apply d_guardB 14;(case hi|hgd|h1|h2=>rfl);all_goals (intro h;(try simp only [reduceCtorEq,zzz] at h))))
    all_goals (apply d_callJ0G 14 (hs:=qk);(case hi|hg=>rfl);(case hr=>kernel_rfl);(case hx|ha|hd=>rfl))
    all_goals (try (apply d_guardB 15;(case hi|hgd|h1|h2=>rfl);all_goals (intro h;(try simp only [reduceCtorEq,zzz] at h))))
    all_goals (apply dtg 15;(case hi|hg=>rfl);(case hop=>(apply prd;apply p_lt<;>rfl));(case hq=>kernel_rfl);apply dtk 16;(case hi=>rfl);(case hop=>(apply prd;apply p_pickT<;>rfl));(case hq=>kernel_rfl))
    all_goals (apply d_done;(case hr=>kernel_rfl))
    repeat' (first|apply v_seq|apply v_skip|apply v_block|apply v_cond;(case hc=>rfl);all_goals (intro h;(try simp only [reduceCtorEq,zzz] at h);try (exfalso;omega))|fail)
    refine d_start [] (by kernel_rfl) (by kernel_rfl) (by kernel_rfl) (by intro e he;(simp at he ⊢;try omega)) ?_
    all_goals (apply dtm 0;(case hi|hx=>rfl);(case hq=>kernel_rfl);apply dtm 1;(case hi|hx=>rfl);(case hq=>kernel_rfl))
    all_goals (apply dtm 2;(case hi|hx=>rfl);(case hq=>kernel_rfl);apply dtm 3;(case hi|hx=>rfl);(case hq=>kernel_rfl))
    all_goals (apply dtk 4;(case hi=>rfl);(case hop=>(apply prd;apply p_sub;(case hx|hy=>rfl);(case h=>omega)));(case hq=>kernel_rfl);apply dtm 5;(case hi|hx=>rfl);(case hq=>kernel_rfl))
    all_goals (apply dtm 6;(case hi|hx=>rfl);(case hq=>kernel_rfl);apply dtk 7;(case hi=>rfl);(case hop=>(apply prd;apply p_sub;(case hx|hy=>rfl);(case h=>omega)));(case hq=>kernel_rfl))
    all_goals (apply dtk 8;(case hi=>rfl);(case hop=>((apply prd;apply p_idxOwnK (j-1);(case hx|hi=>rfl);(case hj|h=>omega))));(case hq=>kernel_rfl);apply dtm 10;(case hi|hx=>rfl);(case hq=>kernel_rfl))
    all_goals (apply dtm 11;(case hi|hx=>rfl);(case hq=>kernel_rfl);apply dtk 12;(case hi=>rfl);(case hop=>((apply prd;apply p_idxOwnK j;(case hx|hi=>rfl);(case hj|h=>omega))));(case hq=>kernel_rfl))
    focus
     refine d_fork 9 13 (by kernel_rfl) ?_ ?_
     rotate_right
     focus
      (apply x_exec 13;(case hi=>rfl);(case hop=>exact ReadOp.move (r_loadNo rfl (by repeat (exact mhd _)) h1 (Cl.len _)));(case hd=>rfl);rintro _ G0 _ ⟨rfl,hG0,rfl⟩;subst G0;refine ⟨(by intro e he;cases he),?_⟩)
      all_goals (apply d_keep 9 (hop:=ReadOp.move ?hop);(case hi=>rfl);(case hr=>kernel_rfl);(case hop=>(apply r_loadNo;(case hx=>rfl);(case h=>repeat (exact mhd _));(case hd=>exact h2);(case hn=>exact Cl.len _)));(case hd=>rfl))
      all_goals (apply dtk 14;(case hi=>rfl);(case hop=>((apply prd;apply p_idxOwnK j;(case hx|hi=>rfl);(case hj|h=>omega))));(case hq=>kernel_rfl))
      all_goals ((apply d_store 15;(case hi=>rfl);(case hr=>kernel_rfl);(case hL=>infer_instance);(case hp|hx|hc=>rfl);(case hsz=>exact Cl.len _);(case h1=>exact Cl.one _);(case hb=>repeat (exact mhd _));(case hfit=>exact f1);(case hov=>exact s1);(case hu=>exact Upd.here _ _);(case hν'=>intro e he;cases he)))
      all_goals (apply dtk 16;(case hi=>rfl);(case hop=>((apply prd;apply p_idxOwnK (j-1);(case hx|hi=>rfl);(case hj|h=>omega))));(case hq=>kernel_rfl))
      all_goals ((apply d_store 17;(case hi=>rfl);(case hr=>kernel_rfl);(case hL=>infer_instance);(case hp|hx|hc=>rfl);(case hsz=>exact Cl.len _);(case h1=>exact Cl.one _);(case hb=>repeat (exact mhd _));(case hfit=>exact f2);(case hov=>exact s2);(case hu=>exact Upd.here _ _);(case hν'=>intro e he;cases he)))
      all_goals (apply d_done;(case hr=>kernel_rfl))
     rotate_right
     focus
      (apply x_exec 9;(case hi=>rfl);(case hop=>exact ReadOp.move (r_loadNo rfl (by repeat (exact mhd _)) h2 (Cl.len _)));(case hd=>rfl);rintro _ G0 _ ⟨rfl,hG0,rfl⟩;subst G0;refine ⟨(by intro e he;cases he),?_⟩)
      all_goals (apply d_keep 13 (hop:=ReadOp.move ?hop);(case hi=>rfl);(case hr=>kernel_rfl);(case hop=>(apply r_loadNo;(case hx=>rfl);(case h=>repeat (exact mhd _));(case hd=>exact h1);(case hn=>exact Cl.len _)));(case hd=>rfl))
      all_goals (apply dtk 14;(case hi=>rfl);(case hop=>((apply prd;apply p_idxOwnK j;(case hx|hi=>rfl);(case hj|h=>omega))));(case hq=>kernel_rfl))
      all_goals ((apply d_store 15;(case hi=>rfl);(case hr=>kernel_rfl);(case hL=>infer_instance);(case hp|hx|hc=>rfl);(case hsz=>exact Cl.len _);(case h1=>exact Cl.one _);(case hb=>repeat (exact mhd _));(case hfit=>exact f1);(case hov=>exact s1);(case hu=>exact Upd.here _ _);(case hν'=>intro e he;cases he)))
      all_goals (apply dtk 16;(case hi=>rfl);(case hop=>((apply prd;apply p_idxOwnK (j-1);(case hx|hi=>rfl);(case hj|h=>omega))));(case hq=>kernel_rfl))
      all_goals ((apply d_store 17;(case hi=>rfl);(case hr=>kernel_rfl);(case hL=>infer_instance);(case hp|hx|hc=>rfl);(case hsz=>exact Cl.len _);(case h1=>exact Cl.one _);(case hb=>repeat (exact mhd _));(case hfit=>exact f2);(case hov=>exact s2);(case hu=>exact Upd.here _ _);(case hν'=>intro e he;cases he)))
      all_goals (apply d_done;(case hr=>kernel_rfl))
    all_goals repeat' (first|apply v_region|apply v_nil|apply v_blk|apply v_pure;(case hop=>first|apply p_move<;>rfl|apply p_assign<;>rfl|apply p_sub;(case hx|hy=>rfl);(case h=>omega)|fail);(case hd=>rfl)|fail)
    all_goals exact v_again rfl ⟨rfl,(j:Int)-1,j-1,_,by omega,by omega,by omega,hp3.trans hp2,rfl,rfl⟩ (by simp [headI];omega)
   ·repeat' (first|apply v_seq)
    refine d_start _ (by kernel_rfl) (by kernel_rfl) (by kernel_rfl) (fun _ he=>he) ?_
    all_goals (apply dtm 0;(case hi|hx=>rfl);(case hq=>kernel_rfl);apply dtm 1;(case hi|hx=>rfl);(case hq=>kernel_rfl))
    all_goals (apply dtk 2;(case hi=>rfl);(case hop=>(apply prd;apply p_gt<;>rfl));(case hq=>kernel_rfl);apply dtm 3;(case hi|hx=>rfl);(case hq=>kernel_rfl))
    all_goals (try (apply d_guardB 4;(case hi|hgd|h1|h2=>rfl);all_goals (intro h;(try simp only [reduceCtorEq,zzz] at h);try (exfalso;omega))))
    all_goals (apply dtg 4;(case hi|hg=>rfl);(case hop=>(apply prd;apply p_move<;>rfl));(case hq=>kernel_rfl))
    all_goals (try (apply d_guardB 5;(case hi|hgd|h1|h2=>rfl);all_goals (intro h;(try simp only [reduceCtorEq,zzz] at h))))
    all_goals (apply dtg 5;(case hi|hg=>rfl);(case hop=>(apply prd;apply p_move<;>rfl));(case hq=>kernel_rfl))
    all_goals (try (apply d_guardB 6;(case hi|hgd|h1|h2=>rfl);all_goals (intro h;(try simp only [reduceCtorEq,zzz] at h))))
    all_goals (apply dtg 6;(case hi|hg=>rfl);(case hop=>(apply prd;apply p_move<;>rfl));(case hq=>kernel_rfl))
    all_goals (try (apply d_guardB 7;(case hi|hgd|h1|h2=>rfl);all_goals (intro h;(try simp only [reduceCtorEq,zzz] at h))))
    all_goals (apply dtg 7;(case hi|hg=>rfl);(case hop=>((apply prd;apply p_idxOwnK j;(case hx|hi=>rfl);(case hj|h=>omega))));(case hq=>kernel_rfl))
    all_goals (try (apply d_guardB 8;(case hi|hgd|h1|h2=>rfl);all_goals (intro h;(try simp only [reduceCtorEq,zzz] at h))))
    all_goals (apply dtg 8;(case hi|hg=>rfl);(case hop=>((apply r_loadNo;(case hx=>rfl);(case h=>repeat (exact mhd _));(case hd=>exact h1);(case hn=>exact Cl.len _))));(case hq=>kernel_rfl))
    all_goals (try (apply d_guardB 9;(case hi|hgd|h1|h2=>rfl);all_goals (intro h;(try simp only [reduceCtorEq,zzz] at h))))
    all_goals (apply dtg 9;(case hi|hg=>rfl);(case hop=>(apply prd;apply p_move<;>rfl));(case hq=>kernel_rfl))
    all_goals (try (apply d_guardB 10;(case hi|hgd|h1|h2=>rfl);all_goals (intro h;(try simp only [reduceCtorEq,zzz] at h))))
    all_goals (apply dtg 10;(case hi|hg=>rfl);(case hop=>(apply prd;apply p_move<;>rfl));(case hq=>kernel_rfl))
    all_goals (try (apply d_guardB 11;(case hi|hgd|h1|h2=>rfl);all_goals (intro h;(try simp only [reduceCtorEq,zzz] at h))))
    all_goals (apply dtg 11;(case hi|hg=>rfl);(case hop=>(apply prd;apply p_sub;(case hx|hy=>rfl);(case h=>omega)));(case hq=>kernel_rfl))
    all_goals (try (apply d_guardB 12;(case hi|hgd|h1|h2=>rfl);all_goals (intro h;(try simp only [reduceCtorEq,zzz] at h))))
    all_goals (apply dtg 12;(case hi|hg=>rfl);(case hop=>((apply prd;apply p_idxOwnK (j-1);(case hx|hi=>rfl);(case hj|h=>omega))));(case hq=>kernel_rfl))
    all_goals (try (apply d_guardB 13;(case hi|hgd|h1|h2=>rfl);all_goals (intro h;(try simp only [reduceCtorEq,zzz] at h))))
    all_goals (apply dtg 13;(case hi|hg=>rfl);(case hop=>((apply r_loadNo;(case hx=>rfl);(case h=>repeat (exact mhd _));(case hd=>exact h2);(case hn=>exact Cl.len _))));(case hq=>kernel_rfl))
    all_goals (try (apply d_guardB 14;(case hi|hgd|h1|h2=>rfl);all_goals (intro h;(try simp only [reduceCtorEq,zzz] at h))))
    all_goals (apply d_callJ0G 14 (hs:=qk);(case hi|hg=>rfl);(case hr=>kernel_rfl);(case hx|ha|hd=>rfl))
    all_goals (try (apply d_guardB 15;(case hi|hgd|h1|h2=>rfl);all_goals (intro h;(try simp only [reduceCtorEq,zzz] at h))))
    all_goals (apply dtg 15;(case hi|hg=>rfl);(case hop=>(apply prd;apply p_lt<;>rfl));(case hq=>kernel_rfl);apply dtk 16;(case hi=>rfl);(case hop=>(apply prd;apply p_pickT<;>rfl));(case hq=>kernel_rfl))
    all_goals (apply d_done;(case hr=>kernel_rfl))
    repeat' (first|apply v_region|apply v_nil|apply v_blk|apply v_exit;(case hp=>rfl)|apply v_pure;(case hop=>first|apply p_move<;>rfl|apply p_assign<;>rfl|apply p_add;(case hx|hy=>rfl);(case h=>omega)|fail);(case hd=>rfl)|apply v_cond;(case hc=>rfl);all_goals (intro h;(try simp only [reduceCtorEq,zzz] at h);try (exfalso;omega))|fail)
    exact v_again rfl ⟨rfl,(i:Int)+1,i+1,R2,by omega,by omega,.inl (by omega),hp2,rfl,rfl⟩ (by simp [headI];omega)
  ·repeat' (first|apply v_seq)
   refine d_start _ (by kernel_rfl) (by kernel_rfl) (by kernel_rfl) (fun _ he=>he) ?_
   all_goals (apply dtm 0;(case hi|hx=>rfl);(case hq=>kernel_rfl);apply dtm 1;(case hi|hx=>rfl);(case hq=>kernel_rfl))
   all_goals (apply dtk 2;(case hi=>rfl);(case hop=>(apply prd;apply p_gt<;>rfl));(case hq=>kernel_rfl);apply dtm 3;(case hi|hx=>rfl);(case hq=>kernel_rfl))
   all_goals (try (apply d_guardB 4;(case hi|hgd|h1|h2=>rfl);all_goals (intro h;(try simp only [reduceCtorEq,zzz] at h);try (exfalso;omega))))
   all_goals (apply dpa 4;(case hi|hg|hn=>rfl);(case hq=>kernel_rfl))
   all_goals (try (apply d_guardB 5;(case hi|hgd|h1|h2=>rfl);all_goals (intro h;(try simp only [reduceCtorEq,zzz] at h))))
   all_goals (apply dpa 5;(case hi|hg|hn=>rfl);(case hq=>kernel_rfl))
   all_goals (try (apply d_guardB 6;(case hi|hgd|h1|h2=>rfl);all_goals (intro h;(try simp only [reduceCtorEq,zzz] at h))))
   all_goals (apply dpa 6;(case hi|hg|hn=>rfl);(case hq=>kernel_rfl))
   all_goals (try (apply d_guardB 7;(case hi|hgd|h1|h2=>rfl);all_goals (intro h;(try simp only [reduceCtorEq,zzz] at h))))
   all_goals (apply dpa 7;(case hi|hg|hn=>rfl);(case hq=>kernel_rfl))
   all_goals (try (apply d_guardB 8;(case hi|hgd|h1|h2=>rfl);all_goals (intro h;(try simp only [reduceCtorEq,zzz] at h))))
   all_goals (apply dpa 8;(case hi|hg|hn=>rfl);(case hq=>kernel_rfl))
   all_goals (try (apply d_guardB 9;(case hi|hgd|h1|h2=>rfl);all_goals (intro h;(try simp only [reduceCtorEq,zzz] at h))))
   all_goals (apply dpa 9;(case hi|hg|hn=>rfl);(case hq=>kernel_rfl))
   all_goals (try (apply d_guardB 10;(case hi|hgd|h1|h2=>rfl);all_goals (intro h;(try simp only [reduceCtorEq,zzz] at h))))
   all_goals (apply dpa 10;(case hi|hg|hn=>rfl);(case hq=>kernel_rfl))
   all_goals (try (apply d_guardB 11;(case hi|hgd|h1|h2=>rfl);all_goals (intro h;(try simp only [reduceCtorEq,zzz] at h))))
   all_goals (apply dpa 11;(case hi|hg|hn=>rfl);(case hq=>kernel_rfl))
   all_goals (try (apply d_guardB 12;(case hi|hgd|h1|h2=>rfl);all_goals (intro h;(try simp only [reduceCtorEq,zzz] at h))))
   all_goals (apply dpa 12;(case hi|hg|hn=>rfl);(case hq=>kernel_rfl))
   all_goals (try (apply d_guardB 13;(case hi|hgd|h1|h2=>rfl);all_goals (intro h;(try simp only [reduceCtorEq,zzz] at h))))
   all_goals (apply dpa 13;(case hi|hg|hn=>rfl);(case hq=>kernel_rfl))
   all_goals (try (apply d_guardB 14;(case hi|hgd|h1|h2=>rfl);all_goals (intro h;(try simp only [reduceCtorEq,zzz] at h))))
   all_goals (apply dpa 14;(case hi|hg|hn=>rfl);(case hq=>kernel_rfl))
   all_goals (try (apply d_guardB 15;(case hi|hgd|h1|h2=>rfl);all_goals (intro h;(try simp only [reduceCtorEq,zzz] at h))))
   all_goals (apply dpa 15;(case hi|hg|hn=>rfl);(case hq=>kernel_rfl))
   all_goals (apply dtk 16;(case hi=>rfl);(case hop=>(apply prd;apply p_pickF<;>rfl));(case hq=>kernel_rfl))
   all_goals (apply d_done;(case hr=>kernel_rfl))
   repeat' (first|apply v_region|apply v_nil|apply v_blk|apply v_exit;(case hp=>rfl)|apply v_pure;(case hop=>first|apply p_move<;>rfl|apply p_assign<;>rfl|apply p_add;(case hx|hy=>rfl);(case h=>omega)|fail);(case hd=>rfl)|apply v_condF;(case hc=>rfl)|fail)
   exact v_again rfl ⟨rfl,(i:Int)+1,i+1,R2,by omega,by omega,.inl (by omega),hp2,rfl,rfl⟩ (by simp [headI];omega)
 ·repeat' (first|apply v_seq|apply v_region|apply v_nil|apply v_exit;(case hp=>rfl)|apply v_pure;(case hop=>first|apply p_move<;>rfl|apply p_lt<;>rfl|fail);(case hd=>rfl)|apply v_cond;(case hc=>rfl);all_goals (intro h;(try simp only [reduceCtorEq,zzz] at h);try (exfalso;omega))|fail)
  refine v_end [(db,_)] (outsA0 rfl) (List.Sublist.refl _) ⟨rfl,R',hp,rfl⟩
abbrev MergeP (cf:FuncId) (G:GH) (db cap:Nat) (sp:List Value) (R:List Cl) (a m b:Nat):Prop:=Con Tryz.prog 63 #[.slice (some ⟨db,0,none⟩) R.length cap,.int .i64 (a:Nat),.int .i64 (m:Nat),.int .i64 (b:Nat),.func (.func cf) #[] #[]] G [(db,clO R sp)] (fun _ G' μ'=>G'=G∧∃ R':List Cl,R'.Perm R∧μ'=[(db,clO R' sp)])
set_option maxHeartbeats 2000000 in
theorem symA_s {G:GH}{db cap a b:Nat}{R:List Cl}{sp:List Value}{cf:FuncId} [Callable Tryz.prog cf] (hq:CmpC cf G) (hc:R.length≤cap) (hm:cap≤maxLen) (hN:R.length≤1000) (hab:a+1<b) (hb:b≤R.length):MergeP cf G db cap sp R a (a+1) b:=by
 simp only [maxLen] at hm
 (refine v_enter Tryz.func63 rfl Tryz.ntmps63 rfl ?_;intro B _)
 repeat' (first|apply v_seq|apply v_region|apply v_nil|apply v_block|apply v_pure;(case hop=>first|apply p_move<;>rfl|apply p_eq<;>rfl|apply p_assign<;>rfl|apply p_sub;(case hx|hy=>rfl);(case h=>omega)|fail);(case hd=>rfl)|apply v_cond;(case hc=>rfl);all_goals (intro h;(try simp only [reduceCtorEq,zzz] at h);try (exfalso;omega))|fail)
 refine v_loop [10,11,4,3,1,0] (fun us G' μ'=>G'=G∧∃ i j:Nat,a+1≤i∧i≤j∧j≤b∧us=[Value.int .i64 (i:Nat),.int .i64 (j:Nat),.func (.func cf) #[] #[],.int .i64 (b:Nat),.int .i64 (a:Nat),.slice (some ⟨db,0,none⟩) R.length cap]∧μ'=[(db,clO R sp)]) (fun us=>match us with | .int _ i::.int _ j::_=>(j-i).toNat|_=>0) rfl ⟨rfl,a+1,b,by omega,by omega,by omega,rfl,rfl⟩ ?_
 rintro us G' _ ⟨rfl,i,j,hi,hij,hj,rfl,rfl⟩
 by_cases hlt:i<j
 ·have h1:=clAt (sp:=sp) (R:=R) (i:=(i+j) / 2) (by omega)
  have h2:=clAt (sp:=sp) (R:=R) (i:=a) (by omega)
  obtain ⟨k,qk⟩:=hq (R[(i+j) / 2]'(by omega)) (R[a]'(by omega))
  by_cases hk:k<0
  ·repeat' (first|apply v_seq|apply v_region|apply v_nil|apply v_skip|apply v_block|apply v_pure;(case hop=>first|apply p_move<;>rfl|apply p_lt<;>rfl|apply p_assign<;>rfl|apply p_add;(case hx|hy=>rfl);(case h=>omega)|apply p_conv64;(case hx=>rfl);(case h=>omega)|fail);(case hd=>rfl)|apply v_cond;(case hc=>rfl);all_goals (intro h;(try simp only [reduceCtorEq,zzz] at h);try (exfalso;omega))|apply v_pure;(case hop=>(apply p_convE64;(case hx=>rfl);(case h=>omega)));(case hd=>rfl)|apply v_pure;(case hop=>(apply p_shr1;(case hx|hy=>rfl)));(case hd=>rfl)|fail)
   refine d_start _ (by kernel_rfl) (by kernel_rfl) (by kernel_rfl) (fun _ he=>he) ?_
   all_goals (apply dtm 0;(case hi|hx=>rfl);(case hq=>kernel_rfl);apply dtm 1;(case hi|hx=>rfl);(case hq=>kernel_rfl))
   all_goals (apply dtm 2;(case hi|hx=>rfl);(case hq=>kernel_rfl))
   all_goals (apply dtk 3;(case hi=>rfl);(case hop=>((apply prd;apply p_idxOwnK ((i+j) / 2);(case hx|hi=>rfl);(case hj|h=>omega))));(case hq=>kernel_rfl))
   all_goals (apply dtk 4;(case hi=>rfl);(case hop=>((apply r_loadNo;(case hx=>rfl);(case h=>repeat (exact mhd _));(case hd=>exact h1);(case hn=>exact Cl.len _))));(case hq=>kernel_rfl))
   all_goals (apply dtm 5;(case hi|hx=>rfl);(case hq=>kernel_rfl);apply dtm 6;(case hi|hx=>rfl);(case hq=>kernel_rfl))
   all_goals (apply dtk 7;(case hi=>rfl);(case hop=>((apply prd;apply p_idxOwnK a;(case hx|hi=>rfl);(case hj|h=>omega))));(case hq=>kernel_rfl))
   all_goals (apply dtk 8;(case hi=>rfl);(case hop=>((apply r_loadNo;(case hx=>rfl);(case h=>repeat (exact mhd _));(case hd=>exact h2);(case hn=>exact Cl.len _))));(case hq=>kernel_rfl))
   all_goals (apply d_callJ0 9 (hs:=qk);(case hi=>rfl);(case hr=>kernel_rfl);(case hx|ha|hd=>rfl))
   all_goals (apply dtk 10;(case hi=>rfl);(case hop=>(apply prd;apply p_lt<;>rfl));(case hq=>kernel_rfl))
   all_goals (apply d_done;(case hr=>kernel_rfl))
   repeat' (first|apply v_region|apply v_nil|apply v_blk|apply v_pure;(case hop=>first|apply p_move<;>rfl|apply p_assign<;>rfl|apply p_add;(case hx|hy=>rfl);(case h=>omega)|fail);(case hd=>rfl)|apply v_cond;(case hc=>rfl);all_goals (intro h;(try simp only [reduceCtorEq,zzz] at h);try (exfalso;omega))|fail)
   exact v_again rfl ⟨rfl,(i+j) / 2+1,j,by omega,by omega,by omega,rfl,rfl⟩ (by simp;omega)
  ·repeat' (first|apply v_seq|apply v_region|apply v_nil|apply v_skip|apply v_block|apply v_pure;(case hop=>first|apply p_move<;>rfl|apply p_lt<;>rfl|apply p_assign<;>rfl|apply p_add;(case hx|hy=>rfl);(case h=>omega)|apply p_conv64;(case hx=>rfl);(case h=>omega)|fail);(case hd=>rfl)|apply v_cond;(case hc=>rfl);all_goals (intro h;(try simp only [reduceCtorEq,zzz] at h);try (exfalso;omega))|apply v_pure;(case hop=>(apply p_convE64;(case hx=>rfl);(case h=>omega)));(case hd=>rfl)|apply v_pure;(case hop=>(apply p_shr1;(case hx|hy=>rfl)));(case hd=>rfl)|fail)
   refine d_start _ (by kernel_rfl) (by kernel_rfl) (by kernel_rfl) (fun _ he=>he) ?_
   all_goals (apply dtm 0;(case hi|hx=>rfl);(case hq=>kernel_rfl);apply dtm 1;(case hi|hx=>rfl);(case hq=>kernel_rfl))
   all_goals (apply dtm 2;(case hi|hx=>rfl);(case hq=>kernel_rfl))
   all_goals (apply dtk 3;(case hi=>rfl);(case hop=>((apply prd;apply p_idxOwnK ((i+j) / 2);(case hx|hi=>rfl);(case hj|h=>omega))));(case hq=>kernel_rfl))
   all_goals (apply dtk 4;(case hi=>rfl);(case hop=>((apply r_loadNo;(case hx=>rfl);(case h=>repeat (exact mhd _));(case hd=>exact h1);(case hn=>exact Cl.len _))));(case hq=>kernel_rfl))
   all_goals (apply dtm 5;(case hi|hx=>rfl);(case hq=>kernel_rfl);apply dtm 6;(case hi|hx=>rfl);(case hq=>kernel_rfl))
   all_goals (apply dtk 7;(case hi=>rfl);(case hop=>((apply prd;apply p_idxOwnK a;(case hx|hi=>rfl);(case hj|h=>omega))));(case hq=>kernel_rfl))
   all_goals (apply dtk 8;(case hi=>rfl);(case hop=>((apply r_loadNo;(case hx=>rfl);(case h=>repeat (exact mhd _));(case hd=>exact h2);(case hn=>exact Cl.len _))));(case hq=>kernel_rfl))
   all_goals (apply d_callJ0 9 (hs:=qk);(case hi=>rfl);(case hr=>kernel_rfl);(case hx|ha|hd=>rfl))
   all_goals (apply dtk 10;(case hi=>rfl);(case hop=>(apply prd;apply p_lt<;>rfl));(case hq=>kernel_rfl))
   all_goals (apply d_done;(case hr=>kernel_rfl))
   repeat' (first|apply v_region|apply v_nil|apply v_blk|apply v_pure;(case hop=>first|apply p_move<;>rfl|apply p_assign<;>rfl|fail);(case hd=>rfl)|apply v_cond;(case hc=>rfl);all_goals (intro h;(try simp only [reduceCtorEq,zzz] at h);try (exfalso;omega))|fail)
   exact v_again rfl ⟨rfl,i,(i+j) / 2,by omega,by omega,by omega,rfl,rfl⟩ (by simp;omega)
 ·repeat' (first|apply v_seq|apply v_region|apply v_nil|apply v_block|apply v_exit;(case hp=>rfl)|apply v_pure;(case hop=>first|apply p_move<;>rfl|apply p_lt<;>rfl|apply p_assign<;>rfl|fail);(case hd=>rfl)|apply v_cond;(case hc=>rfl);all_goals (intro h;(try simp only [reduceCtorEq,zzz] at h);try (exfalso;omega))|fail)
  refine v_loop [13,10,0] (fun us G2 μ'=>G2=G'∧∃ (k:Nat) (R2:List Cl),R2.Perm R∧us=[Value.int .i64 (k:Nat),.int .i64 (i:Nat),.slice (some ⟨db,0,none⟩) R.length cap]∧μ'=[(db,clO R2 sp)]) (fun us=>i-(headI us).toNat) rfl ⟨rfl,a,R,List.Perm.refl _,rfl,rfl⟩ ?_
  rintro us G2 _ ⟨rfl,k,R2,hp2,rfl,rfl⟩
  have hl:=hp2.length_eq
  by_cases hki:k+1<i
  ·have h1:=clAt (sp:=sp) (R:=R2) (i:=k) (by omega)
   have h2:=clAt (sp:=sp) (R:=R2) (i:=k+1) (by omega)
   have s1:=clSet (sp:=sp) (R:=R2) (i:=k) (by omega) (R2[k+1]'(by omega))
   have f1:=clFit (sp:=sp) (R:=R2) (i:=k) (by omega) (R2[k+1]'(by omega))
   have s2:=clSet (sp:=sp) (R:=R2.set k (R2[k+1]'(by omega))) (i:=k+1) (by rw [List.length_set];omega) (R2[k]'(by omega))
   have f2:=clFit (sp:=sp) (R:=R2.set k (R2[k+1]'(by omega))) (i:=k+1) (by rw [List.length_set];omega) (R2[k]'(by omega))
   have hp3 := @List.set_set_perm _ R2 k (k+1) (by omega) (by omega)
   repeat' (first|apply v_seq|apply v_region|apply v_nil|apply v_skip|apply v_block|apply v_pure;(case hop=>first|apply p_move<;>rfl|apply p_lt<;>rfl|apply p_sub;(case hx|hy=>rfl);(case h=>omega)|fail);(case hd=>rfl)|apply v_cond;(case hc=>rfl);all_goals (intro h;(try simp only [reduceCtorEq,zzz] at h);try (exfalso;omega))|fail)
   refine d_start [] (by kernel_rfl) (by kernel_rfl) (by kernel_rfl) (by intro e he;(simp at he ⊢;try omega)) ?_
   all_goals (apply dtm 0;(case hi|hx=>rfl);(case hq=>kernel_rfl);apply dtm 1;(case hi|hx=>rfl);(case hq=>kernel_rfl))
   all_goals (apply dtm 2;(case hi|hx=>rfl);(case hq=>kernel_rfl);apply dtm 3;(case hi|hx=>rfl);(case hq=>kernel_rfl))
   all_goals (apply dtk 4;(case hi=>rfl);(case hop=>(apply prd;apply p_add;(case hx|hy=>rfl);(case h=>omega)));(case hq=>kernel_rfl);apply dtm 5;(case hi|hx=>rfl);(case hq=>kernel_rfl))
   all_goals (apply dtm 6;(case hi|hx=>rfl);(case hq=>kernel_rfl);apply dtk 7;(case hi=>rfl);(case hop=>(apply prd;apply p_add;(case hx|hy=>rfl);(case h=>omega)));(case hq=>kernel_rfl))
   all_goals (apply dtk 8;(case hi=>rfl);(case hop=>((apply prd;apply p_idxOwnK (k+1);(case hx|hi=>rfl);(case hj|h=>omega))));(case hq=>kernel_rfl);apply dtm 10;(case hi|hx=>rfl);(case hq=>kernel_rfl))
   all_goals (apply dtm 11;(case hi|hx=>rfl);(case hq=>kernel_rfl);apply dtk 12;(case hi=>rfl);(case hop=>((apply prd;apply p_idxOwnK k;(case hx|hi=>rfl);(case hj|h=>omega))));(case hq=>kernel_rfl))
   focus
    refine d_fork 9 13 (by kernel_rfl) ?_ ?_
    rotate_right
    focus
     (apply x_exec 13;(case hi=>rfl);(case hop=>exact ReadOp.move (r_loadNo rfl (by repeat (exact mhd _)) h1 (Cl.len _)));(case hd=>rfl);rintro _ G0 _ ⟨rfl,hG0,rfl⟩;subst G0;refine ⟨(by intro e he;cases he),?_⟩)
     all_goals (apply d_keep 9 (hop:=ReadOp.move ?hop);(case hi=>rfl);(case hr=>kernel_rfl);(case hop=>(apply r_loadNo;(case hx=>rfl);(case h=>repeat (exact mhd _));(case hd=>exact h2);(case hn=>exact Cl.len _)));(case hd=>rfl))
     all_goals (apply dtk 14;(case hi=>rfl);(case hop=>((apply prd;apply p_idxOwnK k;(case hx|hi=>rfl);(case hj|h=>omega))));(case hq=>kernel_rfl))
     all_goals ((apply d_store 15;(case hi=>rfl);(case hr=>kernel_rfl);(case hL=>infer_instance);(case hp|hx|hc=>rfl);(case hsz=>exact Cl.len _);(case h1=>exact Cl.one _);(case hb=>repeat (exact mhd _));(case hfit=>exact f1);(case hov=>exact s1);(case hu=>exact Upd.here _ _);(case hν'=>intro e he;cases he)))
     all_goals (apply dtk 16;(case hi=>rfl);(case hop=>((apply prd;apply p_idxOwnK (k+1);(case hx|hi=>rfl);(case hj|h=>omega))));(case hq=>kernel_rfl))
     all_goals ((apply d_store 17;(case hi=>rfl);(case hr=>kernel_rfl);(case hL=>infer_instance);(case hp|hx|hc=>rfl);(case hsz=>exact Cl.len _);(case h1=>exact Cl.one _);(case hb=>repeat (exact mhd _));(case hfit=>exact f2);(case hov=>exact s2);(case hu=>exact Upd.here _ _);(case hν'=>intro e he;cases he)))
     all_goals (apply d_done;(case hr=>kernel_rfl))
    rotate_right
    focus
     (apply x_exec 9;(case hi=>rfl);(case hop=>exact ReadOp.move (r_loadNo rfl (by repeat (exact mhd _)) h2 (Cl.len _)));(case hd=>rfl);rintro _ G0 _ ⟨rfl,hG0,rfl⟩;subst G0;refine ⟨(by intro e he;cases he),?_⟩)
     all_goals (apply d_keep 13 (hop:=ReadOp.move ?hop);(case hi=>rfl);(case hr=>kernel_rfl);(case hop=>(apply r_loadNo;(case hx=>rfl);(case h=>repeat (exact mhd _));(case hd=>exact h1);(case hn=>exact Cl.len _)));(case hd=>rfl))
     all_goals (apply dtk 14;(case hi=>rfl);(case hop=>((apply prd;apply p_idxOwnK k;(case hx|hi=>rfl);(case hj|h=>omega))));(case hq=>kernel_rfl))
     all_goals ((apply d_store 15;(case hi=>rfl);(case hr=>kernel_rfl);(case hL=>infer_instance);(case hp|hx|hc=>rfl);(case hsz=>exact Cl.len _);(case h1=>exact Cl.one _);(case hb=>repeat (exact mhd _));(case hfit=>exact f1);(case hov=>exact s1);(case hu=>exact Upd.here _ _);(case hν'=>intro e he;cases he)))
     all_goals (apply dtk 16;(case hi=>rfl);(case hop=>((apply prd;apply p_idxOwnK (k+1);(case hx|hi=>rfl);(case hj|h=>omega))));(case hq=>kernel_rfl))
     all_goals ((apply d_store 17;(case hi=>rfl);(case hr=>kernel_rfl);(case hL=>infer_instance);(case hp|hx|hc=>rfl);(case hsz=>exact Cl.len _);(case h1=>exact Cl.one _);(case hb=>repeat (exact mhd _));(case hfit=>exact f2);(case hov=>exact s2);(case hu=>exact Upd.here _ _);(case hν'=>intro e he;cases he)))
     all_goals (apply d_done;(case hr=>kernel_rfl))
   all_goals repeat' (first|apply v_region|apply v_nil|apply v_blk|apply v_pure;(case hop=>first|apply p_move<;>rfl|apply p_assign<;>rfl|apply p_add;(case hx|hy=>rfl);(case h=>omega)|fail);(case hd=>rfl)|fail)
   all_goals exact v_again rfl ⟨rfl,k+1,_,hp3.trans hp2,rfl,rfl⟩ (by simp [headI];omega)
  ·repeat' (first|apply v_seq|apply v_region|apply v_nil|apply v_exit;(case hp=>rfl)|apply v_pure;(case hop=>first|apply p_move<;>rfl|apply p_lt<;>rfl|apply p_sub;(case hx|hy=>rfl);(case h=>omega)|fail);(case hd=>rfl)|apply v_cond;(case hc=>rfl);all_goals (intro h;(try simp only [reduceCtorEq,zzz] at h);try (exfalso;omega))|fail)
   refine v_ret [(db,_)] (outsA0 rfl) (List.Sublist.refl _) ⟨rfl,R2,hp2,rfl⟩
set_option maxHeartbeats 2000000 in
theorem symB_s {G:GH}{db cap a m b:Nat}{R:List Cl}{sp:List Value}{cf:FuncId} [Callable Tryz.prog cf] (hq:CmpC cf G) (hc:R.length≤cap) (hm:cap≤maxLen) (hN:R.length≤1000) (ham:a+1<m) (hmb:b=m+1) (hb:b≤R.length):MergeP cf G db cap sp R a m b:=by
 simp only [maxLen] at hm
 (refine v_enter Tryz.func63 rfl Tryz.ntmps63 rfl ?_;intro B _)
 repeat' (first|apply v_seq|apply v_region|apply v_nil|apply v_skip|apply v_block|apply v_pure;(case hop=>first|apply p_move<;>rfl|apply p_eq<;>rfl|apply p_assign<;>rfl|apply p_sub;(case hx|hy=>rfl);(case h=>omega)|fail);(case hd=>rfl)|apply v_cond;(case hc=>rfl);all_goals (intro h;(try simp only [reduceCtorEq,zzz] at h);try (exfalso;omega))|fail)
 refine v_loop [14,15,4,2,0] (fun us G' μ'=>G'=G∧∃ i j:Nat,a≤i∧i≤j∧j≤m∧us=[Value.int .i64 (i:Nat),.int .i64 (j:Nat),.func (.func cf) #[] #[],.int .i64 (m:Nat),.slice (some ⟨db,0,none⟩) R.length cap]∧μ'=[(db,clO R sp)]) (fun us=>match us with | .int _ i::.int _ j::_=>(j-i).toNat|_=>0) rfl ⟨rfl,a,m,by omega,by omega,by omega,rfl,rfl⟩ ?_
 rintro us G' _ ⟨rfl,i,j,hi,hij,hj,rfl,rfl⟩
 by_cases hlt:i<j
 ·have h1:=clAt (sp:=sp) (R:=R) (i:=(i+j) / 2) (by omega)
  have h2:=clAt (sp:=sp) (R:=R) (i:=m) (by omega)
  obtain ⟨k,qk⟩:=hq (R[m]'(by omega)) (R[(i+j) / 2]'(by omega))
  by_cases hk:k<0
  ·repeat' (first|apply v_seq|apply v_region|apply v_nil|apply v_skip|apply v_block|apply v_pure;(case hop=>first|apply p_move<;>rfl|apply p_lt<;>rfl|apply p_assign<;>rfl|apply p_add;(case hx|hy=>rfl);(case h=>omega)|apply p_conv64;(case hx=>rfl);(case h=>omega)|fail);(case hd=>rfl)|apply v_cond;(case hc=>rfl);all_goals (intro h;(try simp only [reduceCtorEq,zzz] at h);try (exfalso;omega))|apply v_pure;(case hop=>(apply p_convE64;(case hx=>rfl);(case h=>omega)));(case hd=>rfl)|apply v_pure;(case hop=>(apply p_shr1;(case hx|hy=>rfl)));(case hd=>rfl)|fail)
   refine d_start _ (by kernel_rfl) (by kernel_rfl) (by kernel_rfl) (fun _ he=>he) ?_
   all_goals (apply dtm 0;(case hi|hx=>rfl);(case hq=>kernel_rfl);apply dtm 1;(case hi|hx=>rfl);(case hq=>kernel_rfl))
   all_goals (apply dtm 2;(case hi|hx=>rfl);(case hq=>kernel_rfl);apply dtk 3;(case hi=>rfl);(case hop=>((apply prd;apply p_idxOwnK m;(case hx|hi=>rfl);(case hj|h=>omega))));(case hq=>kernel_rfl))
   all_goals (apply dtk 4;(case hi=>rfl);(case hop=>((apply r_loadNo;(case hx=>rfl);(case h=>repeat (exact mhd _));(case hd=>exact h2);(case hn=>exact Cl.len _))));(case hq=>kernel_rfl))
   all_goals (apply dtm 5;(case hi|hx=>rfl);(case hq=>kernel_rfl);apply dtm 6;(case hi|hx=>rfl);(case hq=>kernel_rfl))
   all_goals (apply dtk 7;(case hi=>rfl);(case hop=>((apply prd;apply p_idxOwnK ((i+j) / 2);(case hx|hi=>rfl);(case hj|h=>omega))));(case hq=>kernel_rfl))
   all_goals (apply dtk 8;(case hi=>rfl);(case hop=>((apply r_loadNo;(case hx=>rfl);(case h=>repeat (exact mhd _));(case hd=>exact h1);(case hn=>exact Cl.len _))));(case hq=>kernel_rfl))
   all_goals (apply d_callJ0 9 (hs:=qk);(case hi=>rfl);(case hr=>kernel_rfl);(case hx|ha|hd=>rfl))
   all_goals (apply dtk 10;(case hi=>rfl);(case hop=>(apply prd;apply p_lt<;>rfl));(case hq=>kernel_rfl);apply dtk 11;(case hi=>rfl);(case hop=>(apply prd;apply p_not<;>rfl));(case hq=>kernel_rfl))
   all_goals (apply d_done;(case hr=>kernel_rfl))
   repeat' (first|apply v_region|apply v_nil|apply v_blk|apply v_pure;(case hop=>first|apply p_move<;>rfl|apply p_assign<;>rfl|fail);(case hd=>rfl)|apply v_cond;(case hc=>rfl);all_goals (intro h;(try simp only [reduceCtorEq,zzz] at h);try (exfalso;omega))|fail)
   exact v_again rfl ⟨rfl,i,(i+j) / 2,by omega,by omega,by omega,rfl,rfl⟩ (by simp;omega)
  ·repeat' (first|apply v_seq|apply v_region|apply v_nil|apply v_skip|apply v_block|apply v_pure;(case hop=>first|apply p_move<;>rfl|apply p_lt<;>rfl|apply p_assign<;>rfl|apply p_add;(case hx|hy=>rfl);(case h=>omega)|apply p_conv64;(case hx=>rfl);(case h=>omega)|fail);(case hd=>rfl)|apply v_cond;(case hc=>rfl);all_goals (intro h;(try simp only [reduceCtorEq,zzz] at h);try (exfalso;omega))|apply v_pure;(case hop=>(apply p_convE64;(case hx=>rfl);(case h=>omega)));(case hd=>rfl)|apply v_pure;(case hop=>(apply p_shr1;(case hx|hy=>rfl)));(case hd=>rfl)|fail)
   refine d_start _ (by kernel_rfl) (by kernel_rfl) (by kernel_rfl) (fun _ he=>he) ?_
   all_goals (apply dtm 0;(case hi|hx=>rfl);(case hq=>kernel_rfl);apply dtm 1;(case hi|hx=>rfl);(case hq=>kernel_rfl))
   all_goals (apply dtm 2;(case hi|hx=>rfl);(case hq=>kernel_rfl);apply dtk 3;(case hi=>rfl);(case hop=>((apply prd;apply p_idxOwnK m;(case hx|hi=>rfl);(case hj|h=>omega))));(case hq=>kernel_rfl))
   all_goals (apply dtk 4;(case hi=>rfl);(case hop=>((apply r_loadNo;(case hx=>rfl);(case h=>repeat (exact mhd _));(case hd=>exact h2);(case hn=>exact Cl.len _))));(case hq=>kernel_rfl))
   all_goals (apply dtm 5;(case hi|hx=>rfl);(case hq=>kernel_rfl);apply dtm 6;(case hi|hx=>rfl);(case hq=>kernel_rfl))
   all_goals (apply dtk 7;(case hi=>rfl);(case hop=>((apply prd;apply p_idxOwnK ((i+j) / 2);(case hx|hi=>rfl);(case hj|h=>omega))));(case hq=>kernel_rfl))
   all_goals (apply dtk 8;(case hi=>rfl);(case hop=>((apply r_loadNo;(case hx=>rfl);(case h=>repeat (exact mhd _));(case hd=>exact h1);(case hn=>exact Cl.len _))));(case hq=>kernel_rfl))
   all_goals (apply d_callJ0 9 (hs:=qk);(case hi=>rfl);(case hr=>kernel_rfl);(case hx|ha|hd=>rfl))
   all_goals (apply dtk 10;(case hi=>rfl);(case hop=>(apply prd;apply p_lt<;>rfl));(case hq=>kernel_rfl);apply dtk 11;(case hi=>rfl);(case hop=>(apply prd;apply p_not<;>rfl));(case hq=>kernel_rfl))
   all_goals (apply d_done;(case hr=>kernel_rfl))
   repeat' (first|apply v_region|apply v_nil|apply v_blk|apply v_pure;(case hop=>first|apply p_move<;>rfl|apply p_assign<;>rfl|apply p_add;(case hx|hy=>rfl);(case h=>omega)|fail);(case hd=>rfl)|apply v_cond;(case hc=>rfl);all_goals (intro h;(try simp only [reduceCtorEq,zzz] at h);try (exfalso;omega))|fail)
   exact v_again rfl ⟨rfl,(i+j) / 2+1,j,by omega,by omega,by omega,rfl,rfl⟩ (by simp;omega)
 ·repeat' (first|apply v_seq|apply v_region|apply v_nil|apply v_block|apply v_exit;(case hp=>rfl)|apply v_pure;(case hop=>first|apply p_move<;>rfl|apply p_lt<;>rfl|apply p_assign<;>rfl|fail);(case hd=>rfl)|apply v_cond;(case hc=>rfl);all_goals (intro h;(try simp only [reduceCtorEq,zzz] at h);try (exfalso;omega))|fail)
  refine v_loop [17,14,0] (fun us G2 μ'=>G2=G'∧∃ (z:Int) (k:Nat) (R2:List Cl),z=(k:Nat)∧k≤m∧R2.Perm R∧us=[Value.int .i64 z,.int .i64 (i:Nat),.slice (some ⟨db,0,none⟩) R.length cap]∧μ'=[(db,clO R2 sp)]) (fun us=>(headI us).toNat) rfl ⟨rfl,_,m,R,rfl,by omega,List.Perm.refl _,rfl,rfl⟩ ?_
  rintro us G2 _ ⟨rfl,_,k,R2,rfl,hkm,hp2,rfl,rfl⟩
  have hl:=hp2.length_eq
  by_cases hki:i<k
  ·have h1:=clAt (sp:=sp) (R:=R2) (i:=k) (by omega)
   have h2:=clAt (sp:=sp) (R:=R2) (i:=k-1) (by omega)
   have s1:=clSet (sp:=sp) (R:=R2) (i:=k) (by omega) (R2[k-1]'(by omega))
   have f1:=clFit (sp:=sp) (R:=R2) (i:=k) (by omega) (R2[k-1]'(by omega))
   have s2:=clSet (sp:=sp) (R:=R2.set k (R2[k-1]'(by omega))) (i:=k-1) (by rw [List.length_set];omega) (R2[k]'(by omega))
   have f2:=clFit (sp:=sp) (R:=R2.set k (R2[k-1]'(by omega))) (i:=k-1) (by rw [List.length_set];omega) (R2[k]'(by omega))
   have hp3 := @List.set_set_perm _ R2 k (k-1) (by omega) (by omega)
   repeat' (first|apply v_seq|apply v_region|apply v_nil|apply v_skip|apply v_block|apply v_pure;(case hop=>first|apply p_move<;>rfl|apply p_gt<;>rfl|fail);(case hd=>rfl)|apply v_cond;(case hc=>rfl);all_goals (intro h;(try simp only [reduceCtorEq,zzz] at h);try (exfalso;omega))|fail)
   refine d_start [] (by kernel_rfl) (by kernel_rfl) (by kernel_rfl) (by intro e he;(simp at he ⊢;try omega)) ?_
   all_goals (apply dtm 0;(case hi|hx=>rfl);(case hq=>kernel_rfl);apply dtm 1;(case hi|hx=>rfl);(case hq=>kernel_rfl))
   all_goals (apply dtm 2;(case hi|hx=>rfl);(case hq=>kernel_rfl);apply dtm 3;(case hi|hx=>rfl);(case hq=>kernel_rfl))
   all_goals (apply dtk 4;(case hi=>rfl);(case hop=>(apply prd;apply p_sub;(case hx|hy=>rfl);(case h=>omega)));(case hq=>kernel_rfl);apply dtm 5;(case hi|hx=>rfl);(case hq=>kernel_rfl))
   all_goals (apply dtm 6;(case hi|hx=>rfl);(case hq=>kernel_rfl);apply dtk 7;(case hi=>rfl);(case hop=>(apply prd;apply p_sub;(case hx|hy=>rfl);(case h=>omega)));(case hq=>kernel_rfl))
   all_goals (apply dtk 8;(case hi=>rfl);(case hop=>((apply prd;apply p_idxOwnK (k-1);(case hx|hi=>rfl);(case hj|h=>omega))));(case hq=>kernel_rfl);apply dtm 10;(case hi|hx=>rfl);(case hq=>kernel_rfl))
   all_goals (apply dtm 11;(case hi|hx=>rfl);(case hq=>kernel_rfl);apply dtk 12;(case hi=>rfl);(case hop=>((apply prd;apply p_idxOwnK k;(case hx|hi=>rfl);(case hj|h=>omega))));(case hq=>kernel_rfl))
   focus
    refine d_fork 9 13 (by kernel_rfl) ?_ ?_
    rotate_right
    focus
     (apply x_exec 13;(case hi=>rfl);(case hop=>exact ReadOp.move (r_loadNo rfl (by repeat (exact mhd _)) h1 (Cl.len _)));(case hd=>rfl);rintro _ G0 _ ⟨rfl,hG0,rfl⟩;subst G0;refine ⟨(by intro e he;cases he),?_⟩)
     all_goals (apply d_keep 9 (hop:=ReadOp.move ?hop);(case hi=>rfl);(case hr=>kernel_rfl);(case hop=>(apply r_loadNo;(case hx=>rfl);(case h=>repeat (exact mhd _));(case hd=>exact h2);(case hn=>exact Cl.len _)));(case hd=>rfl))
     all_goals (apply dtk 14;(case hi=>rfl);(case hop=>((apply prd;apply p_idxOwnK k;(case hx|hi=>rfl);(case hj|h=>omega))));(case hq=>kernel_rfl))
     all_goals ((apply d_store 15;(case hi=>rfl);(case hr=>kernel_rfl);(case hL=>infer_instance);(case hp|hx|hc=>rfl);(case hsz=>exact Cl.len _);(case h1=>exact Cl.one _);(case hb=>repeat (exact mhd _));(case hfit=>exact f1);(case hov=>exact s1);(case hu=>exact Upd.here _ _);(case hν'=>intro e he;cases he)))
     all_goals (apply dtk 16;(case hi=>rfl);(case hop=>((apply prd;apply p_idxOwnK (k-1);(case hx|hi=>rfl);(case hj|h=>omega))));(case hq=>kernel_rfl))
     all_goals ((apply d_store 17;(case hi=>rfl);(case hr=>kernel_rfl);(case hL=>infer_instance);(case hp|hx|hc=>rfl);(case hsz=>exact Cl.len _);(case h1=>exact Cl.one _);(case hb=>repeat (exact mhd _));(case hfit=>exact f2);(case hov=>exact s2);(case hu=>exact Upd.here _ _);(case hν'=>intro e he;cases he)))
     all_goals (apply d_done;(case hr=>kernel_rfl))
    rotate_right
    focus
     (apply x_exec 9;(case hi=>rfl);(case hop=>exact ReadOp.move (r_loadNo rfl (by repeat (exact mhd _)) h2 (Cl.len _)));(case hd=>rfl);rintro _ G0 _ ⟨rfl,hG0,rfl⟩;subst G0;refine ⟨(by intro e he;cases he),?_⟩)
     all_goals (apply d_keep 13 (hop:=ReadOp.move ?hop);(case hi=>rfl);(case hr=>kernel_rfl);(case hop=>(apply r_loadNo;(case hx=>rfl);(case h=>repeat (exact mhd _));(case hd=>exact h1);(case hn=>exact Cl.len _)));(case hd=>rfl))
     all_goals (apply dtk 14;(case hi=>rfl);(case hop=>((apply prd;apply p_idxOwnK k;(case hx|hi=>rfl);(case hj|h=>omega))));(case hq=>kernel_rfl))
     all_goals ((apply d_store 15;(case hi=>rfl);(case hr=>kernel_rfl);(case hL=>infer_instance);(case hp|hx|hc=>rfl);(case hsz=>exact Cl.len _);(case h1=>exact Cl.one _);(case hb=>repeat (exact mhd _));(case hfit=>exact f1);(case hov=>exact s1);(case hu=>exact Upd.here _ _);(case hν'=>intro e he;cases he)))
     all_goals (apply dtk 16;(case hi=>rfl);(case hop=>((apply prd;apply p_idxOwnK (k-1);(case hx|hi=>rfl);(case hj|h=>omega))));(case hq=>kernel_rfl))
     all_goals ((apply d_store 17;(case hi=>rfl);(case hr=>kernel_rfl);(case hL=>infer_instance);(case hp|hx|hc=>rfl);(case hsz=>exact Cl.len _);(case h1=>exact Cl.one _);(case hb=>repeat (exact mhd _));(case hfit=>exact f2);(case hov=>exact s2);(case hu=>exact Upd.here _ _);(case hν'=>intro e he;cases he)))
     all_goals (apply d_done;(case hr=>kernel_rfl))
   all_goals repeat' (first|apply v_region|apply v_nil|apply v_blk|apply v_pure;(case hop=>first|apply p_move<;>rfl|apply p_assign<;>rfl|apply p_sub;(case hx|hy=>rfl);(case h=>omega)|fail);(case hd=>rfl)|fail)
   all_goals exact v_again rfl ⟨rfl,(k:Int)-1,k-1,_,by omega,by omega,hp3.trans hp2,rfl,rfl⟩ (by simp [headI];omega)
  ·repeat' (first|apply v_seq|apply v_region|apply v_nil|apply v_exit;(case hp=>rfl)|apply v_pure;(case hop=>first|apply p_move<;>rfl|apply p_gt<;>rfl|fail);(case hd=>rfl)|apply v_cond;(case hc=>rfl);all_goals (intro h;(try simp only [reduceCtorEq,zzz] at h);try (exfalso;omega))|fail)
   refine v_ret [(db,_)] (outsA0 rfl) (List.Sublist.refl _) ⟨rfl,R2,hp2,rfl⟩
theorem mergeZ {cf:FuncId}{G:GH}{db cap:Nat}{sp:List Value}{R:List Cl}{a m b:Nat}{x y z:Int}{l:Nat}(h:MergeP cf G db cap sp R a m b) (hl:l=R.length) (hx:x=(a:Nat)) (hy:y=(m:Nat)) (hz:z=(b:Nat)) :
 Con Tryz.prog 63 #[.slice (some ⟨db,0,none⟩) l cap,.int .i64 x,.int .i64 y,.int .i64 z,.func (.func cf) #[] #[]] G [(db,clO R sp)] (fun _ G' μ'=>G'=G∧∃ R':List Cl,R'.Perm R∧μ'=[(db,clO R' sp)]):=by
 subst hl;subst hx;subst hy;subst hz
 exact h
theorem rotateZ {G:GH}{db cap a m b:Nat}{R:List Cl}{sp:List Value}{x y z:Int}{l:Nat}(cv:Value) (hc:R.length≤cap) (hm:cap≤maxLen) (h1:a<m) (h2:m<b) (h3:b≤R.length) (hl:l=R.length) (hx:x=(a:Nat)) (hy:y=(m:Nat)) (hz:z=(b:Nat)) :
 Con Tryz.prog 71 #[.slice (some ⟨db,0,none⟩) l cap,.int .i64 x,.int .i64 y,.int .i64 z,cv] G [(db,clO R sp)] (fun _ G' μ'=>G'=G∧∃ R':List Cl,R'.Perm R∧μ'=[(db,clO R' sp)]):=by
 subst hl;subst hx;subst hy;subst hz
 exact rotate_s cv hc hm h1 h2 h3
set_option maxHeartbeats 4000000 in
theorem symC_s {G:GH}{db cap a m b:Nat}{R:List Cl}{sp:List Value}{cf:FuncId} [Callable Tryz.prog cf] (hq:CmpC cf G) (hc:R.length≤cap) (hm:cap≤maxLen) (hN:R.length≤1000) (ham:a+1<m) (hmb:m+1<b) (hb:b≤R.length)
 (ih:∀ (R':List Cl) (a' m' b':Nat),R'.length=R.length→b'-a'<b-a→a'<m'→m'<b'→b'≤R'.length→MergeP cf G db cap sp R' a' m' b'):MergeP cf G db cap sp R a m b:=by
 have hcm:=hm
 simp only [maxLen] at hcm
 have hmid1:(((a:Nat):Int)+(b:Nat)) / 2=(((a+b) / 2:Nat):Int):=by omega
 by_cases hgt:(a+b) / 2<m
 all_goals
  (refine v_enter Tryz.func63 rfl Tryz.ntmps63 rfl ?_;intro B _)
  repeat' (first|apply v_seq|apply v_region|apply v_nil|apply v_skip|apply v_block|apply v_pure;(case hop=>first|apply p_move<;>rfl|apply p_eq<;>rfl|apply p_gt<;>rfl|apply p_assign<;>rfl|apply p_add;(case hx|hy=>rfl);(case h=>omega)|apply p_sub;(case hx|hy=>rfl);(case h=>omega)|apply p_conv64;(case hx=>rfl);(case h=>omega)|fail);(case hd=>rfl)|apply v_cond;(case hc=>rfl);all_goals (intro h;(try simp only [reduceCtorEq,zzz] at h);try (exfalso;omega))|apply v_pure;(case hop=>(apply p_convE64;(case hx=>rfl);(case h=>omega)));(case hd=>rfl)|apply v_pure;(case hop=>(apply p_shr1;(case hx|hy=>rfl)));(case hd=>rfl)|fail)
  refine v_loop [20,21,22,18,19,4,3,2,1,0] (fun us G' μ'=>G'=G∧∃ (s r:Int) (Rc:List Cl),((a:Nat):Int)≤s∧s≤r∧r≤(m:Nat)∧r≤(((a:Nat):Int)+(b:Nat)) / 2∧(((a:Nat):Int)+(b:Nat)) / 2+(m:Nat)≤s+(b:Nat)∧us=[Value.int .i64 s,.int .i64 r,.int .i64 ((((a:Nat):Int)+(b:Nat)) / 2+(m:Nat)-1),.int .i64 ((((a:Nat):Int)+(b:Nat)) / 2),.int .i64 ((((a:Nat):Int)+(b:Nat)) / 2+(m:Nat)),.func (.func cf) #[] #[],.int .i64 (b:Nat),.int .i64 (m:Nat),.int .i64 (a:Nat),.slice (some ⟨db,0,none⟩) R.length cap]∧Rc.Perm R∧μ'=[(db,clO Rc sp)]) (fun us=>match us with | .int _ i::.int _ j::_=>(j-i).toNat|_=>0) rfl ⟨rfl,_,_,R,by omega,by omega,by omega,by omega,by omega,rfl,List.Perm.refl _,rfl⟩ ?_
  rintro us G' _ ⟨rfl,s,r,Rc,hs1,hsr,hr1,hr2,hsb,rfl,hpc,rfl⟩
  have hl:=hpc.length_eq
  by_cases hlt:s<r
  ·have h1:=clAt (sp:=sp) (R:=Rc) (i:=((((a:Nat):Int)+(b:Nat)) / 2+(m:Nat)-1-(s+r) / 2).toNat) (by omega)
   have h2:=clAt (sp:=sp) (R:=Rc) (i:=((s+r) / 2).toNat) (by omega)
   obtain ⟨k,qk⟩:=hq (Rc[((((a:Nat):Int)+(b:Nat)) / 2+(m:Nat)-1-(s+r) / 2).toNat]'(by omega)) (Rc[((s+r) / 2).toNat]'(by omega))
   by_cases hk:k<0
   ·repeat' (first|apply v_seq|apply v_region|apply v_nil|apply v_skip|apply v_block|apply v_pure;(case hop=>first|apply p_move<;>rfl|apply p_lt<;>rfl|apply p_assign<;>rfl|apply p_add;(case hx|hy=>rfl);(case h=>omega)|apply p_conv64;(case hx=>rfl);(case h=>omega)|fail);(case hd=>rfl)|apply v_cond;(case hc=>rfl);all_goals (intro h;(try simp only [reduceCtorEq,zzz] at h);try (exfalso;omega))|apply v_pure;(case hop=>(apply p_convE64;(case hx=>rfl);(case h=>omega)));(case hd=>rfl)|apply v_pure;(case hop=>(apply p_shr1;(case hx|hy=>rfl)));(case hd=>rfl)|fail)
    refine d_start _ (by kernel_rfl) (by kernel_rfl) (by kernel_rfl) (fun _ he=>he) ?_
    all_goals (apply dtm 0;(case hi|hx=>rfl);(case hq=>kernel_rfl);apply dtm 1;(case hi|hx=>rfl);(case hq=>kernel_rfl))
    all_goals (apply dtm 2;(case hi|hx=>rfl);(case hq=>kernel_rfl);apply dtm 3;(case hi|hx=>rfl);(case hq=>kernel_rfl))
    all_goals (apply dtk 4;(case hi=>rfl);(case hop=>(apply prd;apply p_sub;(case hx|hy=>rfl);(case h=>omega)));(case hq=>kernel_rfl))
    all_goals (apply dtk 5;(case hi=>rfl);(case hop=>((apply prd;apply p_idxOwnK (((((a:Nat):Int)+(b:Nat)) / 2+(m:Nat)-1-(s+r) / 2).toNat);(case hx|hi=>rfl);(case hj|h=>omega))));(case hq=>kernel_rfl))
    all_goals (apply dtk 6;(case hi=>rfl);(case hop=>((apply r_loadNo;(case hx=>rfl);(case h=>repeat (exact mhd _));(case hd=>exact h1);(case hn=>exact Cl.len _))));(case hq=>kernel_rfl))
    all_goals (apply dtm 7;(case hi|hx=>rfl);(case hq=>kernel_rfl);apply dtm 8;(case hi|hx=>rfl);(case hq=>kernel_rfl))
    all_goals (apply dtk 9;(case hi=>rfl);(case hop=>((apply prd;apply p_idxOwnK (((s+r) / 2).toNat);(case hx|hi=>rfl);(case hj|h=>omega))));(case hq=>kernel_rfl))
    all_goals (apply dtk 10;(case hi=>rfl);(case hop=>((apply r_loadNo;(case hx=>rfl);(case h=>repeat (exact mhd _));(case hd=>exact h2);(case hn=>exact Cl.len _))));(case hq=>kernel_rfl))
    all_goals (apply d_callJ0 11 (hs:=qk);(case hi=>rfl);(case hr=>kernel_rfl);(case hx|ha|hd=>rfl))
    all_goals (apply dtk 12;(case hi=>rfl);(case hop=>(apply prd;apply p_lt<;>rfl));(case hq=>kernel_rfl);apply dtk 13;(case hi=>rfl);(case hop=>(apply prd;apply p_not<;>rfl));(case hq=>kernel_rfl))
    all_goals (apply d_done;(case hr=>kernel_rfl))
    repeat' (first|apply v_region|apply v_nil|apply v_blk|apply v_pure;(case hop=>first|apply p_move<;>rfl|apply p_assign<;>rfl|fail);(case hd=>rfl)|apply v_cond;(case hc=>rfl);all_goals (intro h;(try simp only [reduceCtorEq,zzz] at h);try (exfalso;omega))|fail)
    exact v_again rfl ⟨rfl,_,_,Rc,by omega,by omega,by omega,by omega,by omega,rfl,hpc,rfl⟩ (by simp;omega)
   ·repeat' (first|apply v_seq|apply v_region|apply v_nil|apply v_skip|apply v_block|apply v_pure;(case hop=>first|apply p_move<;>rfl|apply p_lt<;>rfl|apply p_assign<;>rfl|apply p_add;(case hx|hy=>rfl);(case h=>omega)|apply p_conv64;(case hx=>rfl);(case h=>omega)|fail);(case hd=>rfl)|apply v_cond;(case hc=>rfl);all_goals (intro h;(try simp only [reduceCtorEq,zzz] at h);try (exfalso;omega))|apply v_pure;(case hop=>(apply p_convE64;(case hx=>rfl);(case h=>omega)));(case hd=>rfl)|apply v_pure;(case hop=>(apply p_shr1;(case hx|hy=>rfl)));(case hd=>rfl)|fail)
    refine d_start _ (by kernel_rfl) (by kernel_rfl) (by kernel_rfl) (fun _ he=>he) ?_
    all_goals (apply dtm 0;(case hi|hx=>rfl);(case hq=>kernel_rfl);apply dtm 1;(case hi|hx=>rfl);(case hq=>kernel_rfl))
    all_goals (apply dtm 2;(case hi|hx=>rfl);(case hq=>kernel_rfl);apply dtm 3;(case hi|hx=>rfl);(case hq=>kernel_rfl))
    all_goals (apply dtk 4;(case hi=>rfl);(case hop=>(apply prd;apply p_sub;(case hx|hy=>rfl);(case h=>omega)));(case hq=>kernel_rfl))
    all_goals (apply dtk 5;(case hi=>rfl);(case hop=>((apply prd;apply p_idxOwnK (((((a:Nat):Int)+(b:Nat)) / 2+(m:Nat)-1-(s+r) / 2).toNat);(case hx|hi=>rfl);(case hj|h=>omega))));(case hq=>kernel_rfl))
    all_goals (apply dtk 6;(case hi=>rfl);(case hop=>((apply r_loadNo;(case hx=>rfl);(case h=>repeat (exact mhd _));(case hd=>exact h1);(case hn=>exact Cl.len _))));(case hq=>kernel_rfl))
    all_goals (apply dtm 7;(case hi|hx=>rfl);(case hq=>kernel_rfl);apply dtm 8;(case hi|hx=>rfl);(case hq=>kernel_rfl))
    all_goals (apply dtk 9;(case hi=>rfl);(case hop=>((apply prd;apply p_idxOwnK (((s+r) / 2).toNat);(case hx|hi=>rfl);(case hj|h=>omega))));(case hq=>kernel_rfl))
    all_goals (apply dtk 10;(case hi=>rfl);(case hop=>((apply r_loadNo;(case hx=>rfl);(case h=>repeat (exact mhd _));(case hd=>exact h2);(case hn=>exact Cl.len _))));(case hq=>kernel_rfl))
    all_goals (apply d_callJ0 11 (hs:=qk);(case hi=>rfl);(case hr=>kernel_rfl);(case hx|ha|hd=>rfl))
    all_goals (apply dtk 12;(case hi=>rfl);(case hop=>(apply prd;apply p_lt<;>rfl));(case hq=>kernel_rfl);apply dtk 13;(case hi=>rfl);(case hop=>(apply prd;apply p_not<;>rfl));(case hq=>kernel_rfl))
    all_goals (apply d_done;(case hr=>kernel_rfl))
    repeat' (first|apply v_region|apply v_nil|apply v_blk|apply v_pure;(case hop=>first|apply p_move<;>rfl|apply p_assign<;>rfl|apply p_add;(case hx|hy=>rfl);(case h=>omega)|fail);(case hd=>rfl)|apply v_cond;(case hc=>rfl);all_goals (intro h;(try simp only [reduceCtorEq,zzz] at h);try (exfalso;omega))|fail)
    exact v_again rfl ⟨rfl,_,_,Rc,by omega,by omega,by omega,by omega,by omega,rfl,hpc,rfl⟩ (by simp;omega)
  ·repeat' (first|apply v_seq|apply v_region|apply v_nil|apply v_skip|apply v_exit;(case hp=>rfl)|apply v_take;(case hg=>rfl)|apply v_pass;(case hg|hn|hd=>rfl)|apply v_pure;(case hop=>first|apply p_move<;>rfl|apply p_lt<;>rfl|apply p_assign<;>rfl|apply p_pickT<;>rfl|apply p_pickF<;>rfl|apply p_sub;(case hx|hy=>rfl);(case h=>omega)|fail);(case hd=>rfl)|apply v_condF;(case hc=>rfl)|apply v_cond;(case hc=>rfl);all_goals (intro h;(try simp only [reduceCtorEq,zzz] at h);try (exfalso;omega))|apply v_guardB;(case h1|h2=>rfl);all_goals (intro h;(try simp only [reduceCtorEq,zzz] at h);try (exfalso;omega))|(refine v_call (μ1:=[(db,clO Rc sp)]) (μ2:=[]) rfl (rotateZ (a:=s.toNat) (m:=m) (b:=((((a:Nat):Int)+(b:Nat)) / 2+(m:Nat)-s).toNat) (R:=Rc) (sp:=sp) _ (by omega) hm (by omega) (by omega) (by omega) (by omega) (by omega) (by omega) (by omega)) (by apply perm_of_count;intro p;simp only [List.append_eq,List.countP_append,List.countP_cons,List.countP_nil,Nat.zero_add,Nat.add_zero];try ac_rfl) rfl ?_;rintro _ G2 _ - ⟨hG2,Rc,hp2,rfl⟩;subst hG2;have hpc:=hp2.trans hpc;have hl:=hpc.length_eq;clear hp2)|(refine v_call (μ1:=[(db,clO Rc sp)]) (μ2:=[]) rfl (mergeZ (ih Rc a s.toNat ((a+b) / 2) (by omega) (by omega) (by omega) (by omega) (by omega)) (by omega) (by omega) (by omega) (by omega)) (by apply perm_of_count;intro p;simp only [List.append_eq,List.countP_append,List.countP_cons,List.countP_nil,Nat.zero_add,Nat.add_zero];try ac_rfl) rfl ?_;rintro _ G2 _ - ⟨hG2,Rc,hp2,rfl⟩;subst hG2;have hpc:=hp2.trans hpc;have hl:=hpc.length_eq;clear hp2)|(refine v_call (μ1:=[(db,clO Rc sp)]) (μ2:=[]) rfl (mergeZ (ih Rc ((a+b) / 2) ((((a:Nat):Int)+(b:Nat)) / 2+(m:Nat)-s).toNat b (by omega) (by omega) (by omega) (by omega) (by omega)) (by omega) (by omega) (by omega) (by omega)) (by apply perm_of_count;intro p;simp only [List.append_eq,List.countP_append,List.countP_cons,List.countP_nil,Nat.zero_add,Nat.add_zero];try ac_rfl) rfl ?_;rintro _ G2 _ - ⟨hG2,Rc,hp2,rfl⟩;subst hG2;have hpc:=hp2.trans hpc;have hl:=hpc.length_eq;clear hp2)|fail)
   all_goals exact v_end [(db,clO Rc sp)] (outsA0 rfl) (List.Sublist.refl _) ⟨rfl,Rc,hpc,rfl⟩
theorem symMerge_s {G:GH}{db cap:Nat}{sp:List Value}{cf:FuncId} [Callable Tryz.prog cf] (hq:CmpC cf G) (hm:cap≤maxLen):∀ (d:Nat) (R:List Cl) (a m b:Nat),b-a≤d→R.length≤cap→R.length≤1000→a<m→m<b→b≤R.length→MergeP cf G db cap sp R a m b:=by
 intro d
 induction d with
 | zero=>intro R a m b h1 h2 h3 h4 h5 h6;omega
 | succ d ih =>
  intro R a m b h1 h2 h3 h4 h5 h6
  by_cases hA:m=a+1
  ·subst hA
   exact symA_s hq h2 hm h3 h5 h6
  ·by_cases hB:b=m+1
   ·exact symB_s hq h2 hm h3 (by omega) hB h6
   ·exact symC_s hq h2 hm h3 (by omega) (by omega) h6 fun R' a' m' b' e1 e2 e3 e4 e5=>ih R' a' m' b' (by omega) (by omega) (by omega) e3 e4 e5
theorem insertionZ {G:GH}{db cap a b:Nat}{R:List Cl}{sp:List Value}{cf:FuncId}{x y:Int}{l:Nat} [Callable Tryz.prog cf] (hq:CmpC cf G) (hc:R.length≤cap) (hm:cap≤maxLen) (hN:R.length≤1000) (hb:b≤R.length) (hab:a≤R.length) (hl:l=R.length) (hx:x=(a:Nat)) (hy:y=(b:Nat)) :
 Con Tryz.prog 62 #[.slice (some ⟨db,0,none⟩) l cap,.int .i64 x,.int .i64 y,.func (.func cf) #[] #[]] G [(db,clO R sp)] (fun _ G' μ'=>G'=G∧∃ R':List Cl,R'.Perm R∧μ'=[(db,clO R' sp)]):=by
 subst hl;subst hx;subst hy
 exact insertion_s hq hc hm hN hb hab
set_option maxHeartbeats 2000000 in
theorem stable_s {G:GH}{db cap:Nat}{R:List Cl}{sp:List Value}{cf:FuncId} [Callable Tryz.prog cf] (hq:CmpC cf G) (hc:R.length≤cap) (hm:cap≤maxLen) (hN:R.length≤1000) :
 Con Tryz.prog 47 #[.slice (some ⟨db,0,none⟩) R.length cap,.int .i64 (R.length:Nat),.func (.func cf) #[] #[]] G [(db,clO R sp)] (fun _ G' μ'=>G'=G∧∃ R':List Cl,R'.Perm R∧μ'=[(db,clO R' sp)]):=by
 have hcm:=hm
 simp only [maxLen] at hcm
 (refine v_enter Tryz.func47 rfl Tryz.ntmps47 rfl ?_;intro B _)
 repeat' (first|apply v_seq|apply v_region|apply v_nil|apply v_block|apply v_pure;(case hop=>first|apply p_move<;>rfl|apply p_assign<;>rfl|fail);(case hd=>rfl)|fail)
 refine v_loop [8,7,6,2,1,0] (fun us G' μ'=>G'=G∧∃ (a:Nat) (z y:Int) (Rc:List Cl),z=(a:Nat)+20∧y=(a:Nat)∧a≤R.length∧us=[Value.int .i64 z,.int .i64 y,.int .i64 20,.func (.func cf) #[] #[],.int .i64 (R.length:Nat),.slice (some ⟨db,0,none⟩) R.length cap]∧Rc.Perm R∧μ'=[(db,clO Rc sp)]) (fun us=>R.length+21-(headI us).toNat) rfl ⟨rfl,0,_,_,R,by omega,by omega,by omega,rfl,List.Perm.refl _,rfl⟩ ?_
 rintro us G' _ ⟨rfl,a,z,y,Rc,hz,hy,ha,rfl,hpc,rfl⟩
 have hl:=hpc.length_eq
 by_cases hlt:z≤(R.length:Nat)
 ·repeat' (first|apply v_seq|apply v_region|apply v_nil|apply v_skip|apply v_block|apply v_pure;(case hop=>first|apply p_move<;>rfl|apply p_le<;>rfl|fail);(case hd=>rfl)|apply v_cond;(case hc=>rfl);all_goals (intro h;(try simp only [reduceCtorEq,zzz] at h);try (exfalso;omega))|fail)
  refine v_call (μ1:=[(db,clO Rc sp)]) (μ2:=[]) rfl (insertionZ (a:=a) (b:=a+20) hq (by omega) hm (by omega) (by omega) (by omega) (by omega) (by omega) (by omega)) (by apply perm_of_count;intro p;simp only [List.append_eq,List.countP_append,List.countP_cons,List.countP_nil,Nat.zero_add,Nat.add_zero];try ac_rfl) rfl ?_
  rintro _ G3 _ - ⟨hG2,Rc,hp2,rfl⟩;subst hG2;have hpc:=hp2.trans hpc;have hl:=hpc.length_eq;clear hp2
  repeat' (first|apply v_seq|apply v_region|apply v_nil|apply v_blk|apply v_pure;(case hop=>first|apply p_move<;>rfl|apply p_assign<;>rfl|apply p_add;(case hx|hy=>rfl);(case h=>omega)|fail);(case hd=>rfl)|fail)
  exact v_again rfl ⟨rfl,a+20,_,_,Rc,by omega,by omega,by omega,rfl,hpc,rfl⟩ (by simp [headI];omega)
 ·repeat' (first|apply v_seq|apply v_region|apply v_nil|apply v_exit;(case hp=>rfl)|apply v_pure;(case hop=>first|apply p_move<;>rfl|apply p_le<;>rfl|fail);(case hd=>rfl)|apply v_cond;(case hc=>rfl);all_goals (intro h;(try simp only [reduceCtorEq,zzz] at h);try (exfalso;omega))|fail)
  refine v_call (μ1:=[(db,clO Rc sp)]) (μ2:=[]) rfl (insertionZ (a:=a) (b:=R.length) hq (by omega) hm (by omega) (by omega) (by omega) (by omega) (by omega) (by omega)) (by apply perm_of_count;intro p;simp only [List.append_eq,List.countP_append,List.countP_cons,List.countP_nil,Nat.zero_add,Nat.add_zero];try ac_rfl) rfl ?_
  rintro _ G3 _ - ⟨hG2,Rc,hp2,rfl⟩;subst hG2;have hpc:=hp2.trans hpc;have hl:=hpc.length_eq;clear hp2
  repeat' (first|apply v_nil|apply v_block)
  refine v_loop [6,2,1,0] (fun us G' μ'=>G'=G3∧∃ (z:Int) (Rc:List Cl),1≤z∧z≤2000∧us=[Value.int .i64 z,.func (.func cf) #[] #[],.int .i64 (R.length:Nat),.slice (some ⟨db,0,none⟩) R.length cap]∧Rc.Perm R∧μ'=[(db,clO Rc sp)]) (fun us=>R.length-(headI us).toNat) rfl ⟨rfl,_,Rc,by omega,by omega,rfl,hpc,rfl⟩ ?_
  clear hlt hpc hl hz hy
  rintro us G4 _ ⟨rfl,w,Rc,hw1,hw2,rfl,hpc,rfl⟩
  by_cases hlt:w<(R.length:Nat)
  ·repeat' (first|apply v_seq|apply v_region|apply v_nil|apply v_skip|apply v_block|apply v_pure;(case hop=>first|apply p_move<;>rfl|apply p_lt<;>rfl|apply p_assign<;>rfl|apply p_mul;(case hx|hy=>rfl);(case h=>omega));(case hd=>rfl)|apply v_cond;(case hc=>rfl);all_goals (intro h;(try simp only [reduceCtorEq,zzz] at h);try (exfalso;omega))|fail)
   refine v_loop [8,7,6,2,1,0] (fun us G' μ'=>G'=G4∧∃ (a:Nat) (z y:Int) (Rc:List Cl),z=(a:Nat)+2*w∧y=(a:Nat)∧a≤R.length∧us=[Value.int .i64 z,.int .i64 y,.int .i64 w,.func (.func cf) #[] #[],.int .i64 (R.length:Nat),.slice (some ⟨db,0,none⟩) R.length cap]∧Rc.Perm R∧μ'=[(db,clO Rc sp)]) (fun us=>8000-(headI us).toNat) rfl ⟨rfl,0,_,_,Rc,by omega,by omega,by omega,rfl,hpc,rfl⟩ ?_
   clear hpc
   rintro us G5 _ ⟨rfl,a,z,y,Rc,hz,hy,ha,rfl,hpc,rfl⟩
   have hl:=hpc.length_eq
   by_cases hlt2:z≤(R.length:Nat)
   ·repeat' (first|apply v_seq|apply v_region|apply v_nil|apply v_skip|apply v_block|apply v_pure;(case hop=>first|apply p_move<;>rfl|apply p_le<;>rfl|apply p_add;(case hx|hy=>rfl);(case h=>omega)|fail);(case hd=>rfl)|apply v_cond;(case hc=>rfl);all_goals (intro h;(try simp only [reduceCtorEq,zzz] at h);try (exfalso;omega))|fail)
    refine v_call (μ1:=[(db,clO Rc sp)]) (μ2:=[]) rfl (mergeZ (symMerge_s hq hm 1000 Rc a (a+w.toNat) (a+2*w.toNat) (by omega) (by omega) (by omega) (by omega) (by omega) (by omega)) (by omega) (by omega) (by omega) (by omega)) (by apply perm_of_count;intro p;simp only [List.append_eq,List.countP_append,List.countP_cons,List.countP_nil,Nat.zero_add,Nat.add_zero];try ac_rfl) rfl ?_
    rintro _ G3 _ - ⟨hG2,Rc,hp2,rfl⟩;subst hG2;have hpc:=hp2.trans hpc;have hl:=hpc.length_eq;clear hp2
    repeat' (first|apply v_seq|apply v_region|apply v_nil|apply v_blk|apply v_pure;(case hop=>first|apply p_move<;>rfl|apply p_assign<;>rfl|apply p_add;(case hx|hy=>rfl);(case h=>omega)|apply p_mul;(case hx|hy=>rfl);(case h=>omega));(case hd=>rfl)|fail)
    exact v_again rfl ⟨rfl,a+2*w.toNat,_,_,Rc,by omega,by omega,by omega,rfl,hpc,rfl⟩ (by simp [headI];omega)
   ·by_cases hlt3:y+w<(R.length:Nat)
    ·repeat' (first|apply v_seq|apply v_region|apply v_nil|apply v_exit;(case hp=>rfl)|apply v_pure;(case hop=>first|apply p_move<;>rfl|apply p_lt<;>rfl|apply p_le<;>rfl|apply p_assign<;>rfl|apply p_add;(case hx|hy=>rfl);(case h=>omega)|fail);(case hd=>rfl)|apply v_cond;(case hc=>rfl);all_goals (intro h;(try simp only [reduceCtorEq,zzz] at h);try (exfalso;omega))|fail)
     refine v_call (μ1:=[(db,clO Rc sp)]) (μ2:=[]) rfl (mergeZ (symMerge_s hq hm 1000 Rc a (a+w.toNat) R.length (by omega) (by omega) (by omega) (by omega) (by omega) (by omega)) (by omega) (by omega) (by omega) (by omega)) (by apply perm_of_count;intro p;simp only [List.append_eq,List.countP_append,List.countP_cons,List.countP_nil,Nat.zero_add,Nat.add_zero];try ac_rfl) rfl ?_
     rintro _ G3 _ - ⟨hG2,Rc,hp2,rfl⟩;subst hG2;have hpc:=hp2.trans hpc;have hl:=hpc.length_eq;clear hp2
     repeat' (first|apply v_region|apply v_nil|apply v_blk|apply v_pure;(case hop=>first|apply p_move<;>rfl|apply p_assign<;>rfl|apply p_mul;(case hx|hy=>rfl);(case h=>omega));(case hd=>rfl)|fail)
     exact v_again rfl ⟨rfl,_,Rc,by omega,by omega,rfl,hpc,rfl⟩ (by simp [headI];omega)
    ·repeat' (first|apply v_seq|apply v_region|apply v_nil|apply v_skip|apply v_blk|apply v_exit;(case hp=>rfl)|apply v_pure;(case hop=>first|apply p_move<;>rfl|apply p_lt<;>rfl|apply p_le<;>rfl|apply p_assign<;>rfl|apply p_add;(case hx|hy=>rfl);(case h=>omega)|apply p_mul;(case hx|hy=>rfl);(case h=>omega));(case hd=>rfl)|apply v_cond;(case hc=>rfl);all_goals (intro h;(try simp only [reduceCtorEq,zzz] at h);try (exfalso;omega))|fail)
     exact v_again rfl ⟨rfl,_,Rc,by omega,by omega,rfl,hpc,rfl⟩ (by simp [headI];omega)
  ·repeat' (first|apply v_seq|apply v_region|apply v_nil|apply v_exit;(case hp=>rfl)|apply v_pure;(case hop=>first|apply p_move<;>rfl|apply p_lt<;>rfl|fail);(case hd=>rfl)|apply v_cond;(case hc=>rfl);all_goals (intro h;(try simp only [reduceCtorEq,zzz] at h);try (exfalso;omega))|fail)
   exact v_end [(db,_)] (outsA0 rfl) (List.Sublist.refl _) ⟨rfl,Rc,hpc,rfl⟩
theorem sortStable_s {G:GH}{db cap:Nat}{R:List Cl}{sp:List Value}{cf:FuncId} [Callable Tryz.prog cf] (hq:CmpC cf G) (hc:R.length≤cap) (hm:cap≤maxLen) (hN:R.length≤1000) :
 Con Tryz.prog 32 #[.slice (some ⟨db,0,none⟩) R.length cap,.func (.func cf) #[] #[]] G [(db,clO R sp)] (fun _ G' μ'=>G'=G∧∃ R':List Cl,R'.Perm R∧μ'=[(db,clO R' sp)]):=by
 (refine v_enter Tryz.func32 rfl Tryz.ntmps32 rfl ?_;intro B _)
 repeat' (first|apply v_region|apply v_pure;(case hop=>first|apply p_move<;>rfl|apply p_lenSlice<;>rfl|fail);(case hd=>rfl)|fail)
 refine v_call (μ1:=[(db,clO R sp)]) (μ2:=[]) rfl (stable_s hq hc hm hN) (by apply perm_of_count;intro p;simp only [List.append_eq,List.countP_append,List.countP_cons,List.countP_nil,Nat.zero_add,Nat.add_zero];try ac_rfl) rfl ?_
 rintro _ G3 _ - ⟨hG2,Rc,hp2,rfl⟩
 subst hG2
 repeat' (first|apply v_nil)
 exact v_end [(db,_)] (outsA0 rfl) (List.Sublist.refl _) ⟨rfl,Rc,hp2,rfl⟩
abbrev GrC (v:Value) (l:List Cl) (ν:OH):Prop:=Grow 30 15 v l.length (rowC Cl.cells l) ν
abbrev Clr (G:GH) (v:Value) (l:List Cl):Prop:=Sl G 15 (RowR Cl.cells) v l
abbrev zCl:Cl:=⟨⟨0,0,0,ByteArray.empty,ByteArray.empty,ByteArray.empty,0⟩,0,0,⟨0,0,0,false,ByteArray.empty,0⟩⟩
abbrev zC:Value:=.agg zCl.cells.toArray
theorem zC_one (q:Nat):(Builtin.zeroCells (Value.cells zC) q).toList.all Value.oneCell'=true:=by
 rw [List.all_eq_true]
 intro v hv
 simp only [Builtin.zeroCells,Array.toList_map,List.mem_map,Array.mem_toList_iff] at hv
 obtain ⟨k,-,rfl⟩:=hv
 have hs:(Value.cells zC).size=15:=rfl
 have hk:k % (Value.cells zC).size<(Value.cells zC).size:=by rw [hs];omega
 rw [getElem!_pos (Value.cells zC) _ hk]
 have h1:(Value.cells zC).toList.all Value.oneCell'=true:=rfl
 exact List.all_eq_true.1 h1 _ (Array.getElem_mem_toList hk)
def IdxP (p:Cl→Prop) (l:List Cl) (r:Value):Prop:=(r=.int .i64 (-1)∧∀ x∈l,¬ p x)∨∃ i:Nat,∃ h:i<l.length,r=.int .i64 i∧p l[i]∧∀ x∈l.take i,¬ p x
theorem take_no {p:Cl→Prop}{l:List Cl}{k:Nat}(h:k<l.length) (h1:∀ x∈l.take k,¬ p x) (h2:¬ p l[k]):∀ x∈l.take (k+1),¬ p x:=by
 rw [List.take_succ_eq_append_getElem h]
 intro x hx
 rcases List.mem_append.1 hx with hx|hx
 ·exact h1 x hx
 ·rw [List.mem_singleton] at hx
  subst hx
  exact h2
set_option maxHeartbeats 1000000 in
theorem indexF_s {G:GH}{sv:Value}{l:List Cl}{cf:FuncId} [Callable Tryz.prog cf] {capt:List Value}{μc:OH}{p:Cl→Prop} [∀ x,Decidable (p x)] (hs:Clr G sv l) (hq:∀ x∈l,Con Tryz.prog cf (([]++[Value.agg x.cells.toArray]++capt).toArray) G μc (Keeps (.bool (dec (p x))) G μc)) :
 Con Tryz.prog 46 #[sv,.func (.func cf) #[] capt.toArray] G μc (fun r G' μ'=>G'=G∧μ'=μc∧IdxP p l r):=by
 obtain ⟨A,c,rfl,hlc,hcm,hsome,hcp⟩:=rowOpen hs
 simp only [maxLen] at hcm
 (refine v_enter Tryz.func46 rfl Tryz.ntmps46 rfl ?_;intro B _)
 repeat' (first|apply v_seq|apply v_region|apply v_nil|apply v_block|apply v_pure;(case hop=>first|apply p_move<;>rfl|apply p_assign<;>rfl|apply p_lenSlice<;>rfl|fail);(case hd=>rfl)|fail)
 refine v_loop [8,7,0,1] (fun us G' μ'=>G'=G∧μ'=μc∧∃ k:Nat,k≤l.length∧us=[Value.int .i64 (k:Nat),.int .i64 (l.length:Nat),.slice A l.length c,.func (.func cf) #[] capt.toArray]∧∀ x∈l.take k,¬ p x) (fun us=>l.length-(headI us).toNat) rfl ⟨rfl,rfl,0,by omega,rfl,by simp⟩ ?_
 rintro us G' μ' ⟨hG',hμ',k,hk,rfl,hno⟩
 subst G'
 subst μ'
 have e1:((k:Nat):Int).toNat=k:=by omega
 by_cases hlt:k<l.length
 ·have hA:=hsome (by omega)
  have hck:=hcp k hlt
  have q:=hq _ (List.getElem_mem hlt)
  have hnx:=take_no hlt hno
  have hix:p l[k]→IdxP p l (.int .i64 (k:Nat)):=fun h=>.inr ⟨k,hlt,rfl,h,hno⟩
  generalize l[k]=x at *
  repeat' (first|apply v_seq|apply v_region|apply v_nil|apply v_skip|apply v_block|apply v_blk|apply v_pure;(case hop=>first|apply p_move<;>rfl|apply p_lt<;>rfl|apply p_assign<;>rfl|apply p_add;(case hx|hy=>rfl);(case h=>omega)|apply p_indexAddrS;(case hx|hi=>rfl);(case h0|h=>omega);(case hA=>assumption)|fail);(case hd=>rfl)|apply v_cond;(case hc=>rfl);all_goals (intro h;(try simp only [reduceCtorEq,zzz] at h);try (exfalso;omega))|apply v_read;(case hop=>(apply r_loadN;rfl;exact CellsAt.frozen hck;rfl));(case hd=>rfl)|apply v_callCK (first:=[]) (captured:=capt) (hs:=q) (μ2:=[]);(case hx|ha=>rfl);(case hp=>exact List.Perm.of_eq (List.append_nil _).symm);(case hd=>rfl)|fail)
  ·refine v_ret μc (outsA1 rfl rfl) (List.Sublist.refl _) ⟨rfl,rfl,hix (by assumption)⟩
  ·exact v_again rfl ⟨rfl,rfl,k+1,by omega,rfl,hnx (by assumption)⟩ (by simp [headI];omega)
 ·obtain rfl:k=l.length:=by omega
  rw [List.take_length] at hno
  repeat' (first|apply v_seq|apply v_region|apply v_nil|apply v_exit;(case hp=>rfl)|apply v_pure;(case hop=>first|apply p_lt<;>rfl|apply p_assign<;>rfl|fail);(case hd=>rfl)|apply v_cond;(case hc=>rfl);all_goals (intro h;(try simp only [reduceCtorEq,zzz] at h);try (exfalso;omega))|fail)
  exact v_ret μc (outsA1 rfl rfl) (List.Sublist.refl _) ⟨rfl,rfl,.inl ⟨rfl,hno⟩⟩
theorem containsF_s {G:GH}{sv:Value}{l:List Cl}{cf:FuncId} [Callable Tryz.prog cf] {capt:List Value}{μc:OH}{p:Cl→Prop} [∀ x,Decidable (p x)] [Decidable (∃ x∈l,p x)] (hs:Clr G sv l) (hq:∀ x∈l,Con Tryz.prog cf (([]++[Value.agg x.cells.toArray]++capt).toArray) G μc (Keeps (.bool (dec (p x))) G μc)) :
 Con Tryz.prog 28 #[sv,.func (.func cf) #[] capt.toArray] G μc (Keeps (.bool (dec (∃ x∈l,p x))) G μc):=by
 have q:=indexF_s hs hq
 (refine v_enter Tryz.func28 rfl Tryz.ntmps28 rfl ?_;intro B _)
 repeat' (first|apply v_seq|apply v_region|apply v_nil|apply v_pure;(case hop=>first|apply p_move<;>rfl|apply p_assign<;>rfl);(case hd=>rfl)|fail)
 refine v_call (μ1:=μc) (μ2:=[]) rfl q (List.Perm.of_eq (List.append_nil _).symm) rfl ?_
 rintro _ G5 μ' - ⟨hG5,hμ',⟨rfl,hno⟩|⟨i,hi,rfl,hp,-⟩⟩
 ·subst G5
  subst μ'
  rw [List.append_nil]
  repeat' (first|apply v_nil|apply v_pure;(case hop=>first|apply p_ge<;>rfl|apply p_assign<;>rfl);(case hd=>rfl)|fail)
  refine v_ret μc (outsA1 rfl rfl) (List.Sublist.refl _) ⟨?_,rfl,rfl⟩
  exact congrArg Value.bool (by rw [dec_neg (by omega),dec_neg fun ⟨x,h1,h2⟩=>hno x h1 h2])
 ·subst G5
  subst μ'
  rw [List.append_nil]
  repeat' (first|apply v_nil|apply v_pure;(case hop=>first|apply p_ge<;>rfl|apply p_assign<;>rfl);(case hd=>rfl)|fail)
  refine v_ret μc (outsA1 rfl rfl) (List.Sublist.refl _) ⟨?_,rfl,rfl⟩
  exact congrArg Value.bool (by rw [dec_pos (by omega),dec_pos ⟨_,List.getElem_mem hi,hp⟩])
theorem clClone_s {G:GH}{l:List Cl}{sv:Value}(hs:Clr G sv l) (hn:l.length≤1000):Con Tryz.prog 30 #[sv] G [] (fun r G' μ'=>G'=G∧GrC r l μ'):=by
 obtain ⟨A,c,rfl,hlc,hcm,hsome,hcp⟩:=rowOpen hs
 simp only [maxLen] at hcm
 (refine v_enter Tryz.func30 rfl Tryz.ntmps30 rfl ?_;intro B _)
 cases A with
 | none =>
  have h0:l.length=0:=by
   by_cases h:0<l.length
   ·cases hsome h
   ·omega
  have h1:l=[]:=List.eq_nil_of_length_eq_zero h0
  subst h1
  repeat' (first|apply v_seq|apply v_region|apply v_nil|apply v_pure;(case hop=>first|apply p_move<;>rfl|apply p_assign<;>rfl|apply p_eqNilSlice<;>rfl);(case hd=>rfl)|apply v_condT;(case hc=>rfl)|fail)
  refine v_ret [] (outsA1 rfl rfl) (by repeat (exact List.Sublist.refl _)) ?_
  exact ⟨rfl,Grow.nil _ _⟩
 | some a =>
  have hsrc:=fun μ=>rowSrc (μ:=μ) (c:=c) Cl.len (by omega) hsome hcp
  repeat' (first|apply v_seq|apply v_region|apply v_nil|apply v_skip|apply v_pure;(case hop=>first|apply p_move<;>rfl|apply p_assign<;>rfl|apply p_eqNilSlice<;>rfl);(case hd=>rfl)|apply v_condF;(case hc=>rfl)|apply v_buildSlice;(case hz|hi=>rfl);(case hv=>(simp only [List.map_cons,List.map_nil];repeat (with_reducible exact evs_nil)));(case hp=>(with_reducible exact pk_nil));(case hb|hd=>rfl);intro b|fail)
  refine v_append (e:=30) (agg:=true) (sz:=15) (bytes:=152) (zero:=zC) rfl (by omega) rfl rfl Grow.empty (List.Perm.refl _) (hsrc _) (rowC_one Cl.one l) (by omega) (by simp only [maxLen];omega) rfl fun v' ν' hg=>?_
  repeat' (first|apply v_nil|apply v_pure;(case hop=>(apply p_assign<;>rfl));(case hd=>rfl)|fail)
  refine v_ret _ (outsA1 rfl rfl) (by repeat (exact List.Sublist.refl _)) ?_
  refine ⟨rfl,?_⟩
  simpa using hg
abbrev openP (x:Cl):Prop := ¬ 0<x.e
set_option maxHeartbeats 1000000 in
theorem indexO_s {G:GH}{db cap:Nat}{l:List Cl}{sp:List Value}(hc:l.length≤cap) (hm:cap≤maxLen) :
 Con Tryz.prog 46 #[.slice (some ⟨db,0,none⟩) l.length cap,.func (.func 31) #[] #[]] G [(db,clO l sp)] (fun r G' μ'=>G'=G∧μ'=[(db,clO l sp)]∧IdxP openP l r):=by
 have hq:=ends1_s G
 simp only [maxLen] at hm
 (refine v_enter Tryz.func46 rfl Tryz.ntmps46 rfl ?_;intro B _)
 repeat' (first|apply v_seq|apply v_region|apply v_nil|apply v_block|apply v_pure;(case hop=>first|apply p_move<;>rfl|apply p_assign<;>rfl|apply p_lenSlice<;>rfl|fail);(case hd=>rfl)|fail)
 refine v_loop [8,7,0,1] (fun us G' μ'=>G'=G∧μ'=[(db,clO l sp)]∧∃ k:Nat,k≤l.length∧us=[Value.int .i64 (k:Nat),.int .i64 (l.length:Nat),.slice (some ⟨db,0,none⟩) l.length cap,.func (.func 31) #[] #[]]∧∀ x∈l.take k,¬ openP x) (fun us=>l.length-(headI us).toNat) rfl ⟨rfl,rfl,0,by omega,rfl,by simp⟩ ?_
 rintro us G' _ ⟨hG',rfl,k,hk,rfl,hno⟩
 subst G'
 have e1:((k:Nat):Int).toNat=k:=by omega
 by_cases hlt:k<l.length
 ·have h1:=clAt (sp:=sp) hlt
  have q:=hq l[k]
  have hnx:=take_no hlt hno
  have hix:openP l[k]→IdxP openP l (.int .i64 (k:Nat)):=fun h=>.inr ⟨k,hlt,rfl,h,hno⟩
  generalize l[k]=x at *
  repeat' (first|apply v_pure;(case hop=>(apply p_idxOwnK k;(case hx|hi=>rfl);(case hj|h=>omega)));(case hd=>rfl)|apply v_seq|apply v_region|apply v_nil|apply v_skip|apply v_block|apply v_blk|apply v_pure;(case hop=>first|apply p_move<;>rfl|apply p_lt<;>rfl|apply p_assign<;>rfl|apply p_add;(case hx|hy=>rfl);(case h=>omega)|fail);(case hd=>rfl)|apply v_cond;(case hc=>rfl);all_goals (intro h;(try simp only [reduceCtorEq,zzz] at h);try (exfalso;omega))|apply v_read;(case hop=>(apply r_loadNo;(case hx=>rfl);(case h=>repeat (exact mhd _));(case hd=>exact h1);(case hn=>exact Cl.len _)));(case hd=>rfl)|apply v_callFJ0 (hs:=q);(case hx|ha|hd=>rfl)|fail)
  ·refine v_ret [(db,_)] (outsA1 rfl rfl) (List.Sublist.refl _) ⟨rfl,rfl,hix (by assumption)⟩
  ·exact v_again rfl ⟨rfl,rfl,k+1,by omega,rfl,hnx (not_not_intro (by assumption))⟩ (by simp [headI];omega)
 ·obtain rfl:k=l.length:=by omega
  rw [List.take_length] at hno
  repeat' (first|apply v_seq|apply v_region|apply v_nil|apply v_exit;(case hp=>rfl)|apply v_pure;(case hop=>first|apply p_lt<;>rfl|apply p_assign<;>rfl|fail);(case hd=>rfl)|apply v_cond;(case hc=>rfl);all_goals (intro h;(try simp only [reduceCtorEq,zzz] at h);try (exfalso;omega))|fail)
  exact v_ret [(db,_)] (outsA1 rfl rfl) (List.Sublist.refl _) ⟨rfl,rfl,.inl ⟨rfl,hno⟩⟩
noncomputable abbrev ansF (l:List Cl):List Cl:=l.filter fun x=>decide (0<x.e)
theorem ansF_len (l:List Cl):(ansF l).length≤l.length:=List.length_filter_le _ _
theorem ansF_yes {x:Cl}(h:0<x.e):ansF [x]=[x]:=by
 show List.filter _ _=_
 rw [List.filter_cons,if_pos (by simpa using h)]
 rfl
theorem ansF_no {x:Cl}(h:¬ 0<x.e):ansF [x]=[]:=by
 show List.filter _ _=_
 rw [List.filter_cons,if_neg (by simpa using h)]
 rfl
set_option maxHeartbeats 2000000 in
theorem delete_s {G:GH}{db cap:Nat}{l:List Cl}{sp:List Value}(hc:l.length≤cap) (hm:cap≤maxLen) (hn:l.length≤1000) (hsp:(rowC Cl.cells l++sp).length=cap*15) :
 Con Tryz.prog 29 #[.slice (some ⟨db,0,none⟩) l.length cap,.func (.func 31) #[] #[]] G [(db,clO l sp)] (fun r G' μ'=>G'=G∧∃ sp',(ansF l).length≤cap∧(rowC Cl.cells (ansF l)++sp').length=cap*15∧r=.slice (some ⟨db,0,none⟩) (ansF l).length cap∧μ'=[(db,clO (ansF l) sp')]):=by
 have hq:=ends1_s G
 have q0:=indexO_s (G:=G) (db:=db) (sp:=sp) hc hm
 simp only [maxLen] at hm
 (refine v_enter Tryz.func29 rfl Tryz.ntmps29 rfl ?_;intro B _)
 repeat' (first|apply v_seq|apply v_region|apply v_nil|apply v_pure;(case hop=>first|apply p_move<;>rfl|apply p_assign<;>rfl|fail);(case hd=>rfl)|fail)
 refine v_call (μ1:=[(db,clO l sp)]) (μ2:=[]) rfl q0 (by apply perm_of_count;intro p;simp only [List.append_eq,List.countP_append,List.countP_cons,List.countP_nil,Nat.zero_add,Nat.add_zero];try ac_rfl) rfl ?_
 rintro _ G5 _ - ⟨hG5,rfl,⟨rfl,hno⟩|⟨i0,hi0,rfl,hp0,hno⟩⟩
 ·subst G5
  have hf:ansF l=l:=List.filter_eq_self.2 fun x hx=>by simpa using hno x hx
  repeat' (first|apply v_seq|apply v_region|apply v_nil|apply v_pure;(case hop=>first|apply p_move<;>rfl|apply p_eqs<;>rfl|apply p_assign<;>rfl|fail);(case hd=>rfl)|apply v_condT;(case hc=>rfl)|fail)
  refine v_ret [(db,_)] (outsA1 rfl rfl) (List.Sublist.refl _) ⟨rfl,sp,?_,?_,?_,?_⟩
  ·rw [hf];exact hc
  ·rw [hf];exact hsp
  ·rw [hf]
  ·rw [hf]
 ·subst G5
  have hf0:ansF (l.take i0)=l.take i0:=List.filter_eq_self.2 fun x hx=>by simpa using hno x hx
  have hf1:ansF (l.take (i0+1))=l.take i0:=by
   rw [List.take_succ_eq_append_getElem hi0]
   show List.filter _ _=_
   rw [List.filter_append,show List.filter _ (l.take i0)=_ from hf0]
   have:List.filter (fun x:Cl=>decide (0<x.e)) [l[i0]]=[]:=by
    rw [List.filter_cons,if_neg (by simpa using hp0)]
    rfl
   rw [this,List.append_nil]
  repeat' (first|apply v_seq|apply v_region|apply v_nil|apply v_skip|apply v_block|apply v_pure;(case hop=>first|apply p_move<;>rfl|apply p_eq<;>rfl|apply p_assign<;>rfl|apply p_add;(case hx|hy=>rfl);(case h=>omega)|fail);(case hd=>rfl)|apply v_cond;(case hc=>rfl);all_goals (intro h;(try simp only [reduceCtorEq,zzz] at h))|fail)
  refine v_loop [5,6,0,1] (fun us G' μ'=>G'=G∧∃ (i j:Nat) (W:List Cl) (z:Int),z=(j:Nat)∧i<j∧j≤l.length∧W.length=l.length∧W.take i=ansF (l.take j)∧W.drop j=l.drop j∧us=[Value.int .i64 (i:Nat),.int .i64 z,.slice (some ⟨db,0,none⟩) l.length cap,.func (.func 31) #[] #[]]∧μ'=[(db,clO W sp)]) (fun us=>l.length-(headI (us.drop 1)).toNat) rfl ⟨rfl,i0,i0+1,l,_,by omega,by omega,by omega,rfl,hf1.symm,rfl,rfl,rfl⟩ ?_
  rintro us G' _ ⟨hG',i,j,W,_,rfl,hij,hj,hW,hti,hdj,rfl,rfl⟩
  subst G'
  by_cases hlt:j<l.length
  ·have h1:=clAt (sp:=sp) (R:=W) (i:=j) (by omega)
   have hWj:W[j]'(by omega)=l[j]:=by
    have e1:=List.drop_eq_getElem_cons (l:=W) (i:=j) (by omega)
    have e2:=List.drop_eq_getElem_cons (l:=l) (i:=j) hlt
    rw [hdj,e2] at e1
    injection e1 with e1 _
    exact e1.symm
   have hd1:W.drop (j+1)=l.drop (j+1):=by
    have:=congrArg (List.drop 1) hdj
    rwa [List.drop_drop,List.drop_drop] at this
   have hq1:=hq (W[j]'(by omega))
   have hfs:ansF (l.take (j+1))=ansF (l.take j)++ansF [l[j]]:=by
    rw [List.take_succ_eq_append_getElem hlt]
    exact List.filter_append _ _
   rw [← hWj] at hfs
   have s1:=clSet (sp:=sp) (R:=W) (i:=i) (by omega) (W[j]'(by omega))
   have f1:=clFit (sp:=sp) (R:=W) (i:=i) (by omega) (W[j]'(by omega))
   have hts:(W.set i (W[j]'(by omega))).take (i+1)=W.take i++[W[j]'(by omega)]:=by
    rw [List.take_succ_eq_append_getElem (by rw [List.length_set];omega),List.take_set_of_le (by omega),List.getElem_set_self]
   have hds:(W.set i (W[j]'(by omega))).drop (j+1)=W.drop (j+1):=List.drop_set_of_lt (by omega)
   have hls:(W.set i (W[j]'(by omega))).length=W.length:=List.length_set
   generalize W.set i (W[j]'(by omega))=W2 at *
   generalize W[j]'(by omega)=x at *
   repeat' (first|apply v_pure;(case hop=>(apply p_idxOwnK j;(case hx|hi=>rfl);(case hj|h=>omega)));(case hd=>rfl)|apply v_pure;(case hop=>(apply p_idxOwnK i;(case hx|hi=>rfl);(case hj|h=>omega)));(case hd=>rfl)|apply v_alloc (d:=7);(case hz|hd=>rfl);intro b7|apply v_seq|apply v_region|apply v_nil|apply v_skip|apply v_block|apply v_blk|apply v_pure;(case hop=>first|apply p_move<;>rfl|apply p_lt<;>rfl|apply p_assign<;>rfl|apply p_not<;>rfl|apply p_lenSlice<;>rfl|apply p_add;(case hx|hy=>rfl);(case h=>omega)|fail);(case hd=>rfl)|apply v_cond;(case hc=>rfl);all_goals (intro h;(try simp only [reduceCtorEq,zzz] at h);try (exfalso;omega))|apply v_read;(case hop=>(apply r_loadNo;(case hx=>rfl);(case h=>repeat (exact mhd _));(case hd=>exact h1);(case hn=>exact Cl.len _)));(case hd=>rfl)|apply v_callFJ0 (hs:=hq1);(case hx|ha|hd=>rfl)|apply v_store (us:=x.cells) (b:=db);(case hp|hx|hc|hsz=>rfl);(case h1=>exact Cl.one _);(case hb=>repeat first|exact mhd _|apply mtl);(case hfit=>exact f1);(case hov=>exact s1);(case hu=>repeat first|exact Upd.here _ _|apply Upd.there)|apply v_read;(case hop=>(apply r_loadNo;(case hx=>rfl);(case h=>repeat exact mhd _);(case hd=>repeat first|with_reducible exact dt_nil|apply dt_here);(case hn=>rfl)));(case hd=>rfl)|apply v_store;(case hp|hx|hc|hsz|h1=>rfl);(case hb=>repeat exact mhd _);(case hfit=>exact nle rfl);(case hov=>((repeat (first|with_reducible exact ov_nil|apply ov_cons));done));(case hu=>repeat (exact Upd.here _ _))|fail)
   ·refine v_perm (ν:=[(db,clO W2 sp)]++[(b7,_)]) (by apply perm_of_count;intro p;simp only [List.append_eq,List.countP_append,List.countP_cons,List.countP_nil,Nat.zero_add,Nat.add_zero];try ac_rfl) ?_
    refine v_drop (List.sublist_append_left _ _) ?_
    exact v_again rfl ⟨rfl,i+1,j+1,W2,_,by omega,by omega,by omega,by omega,by rw [hts,hti,hfs,ansF_yes (by assumption)],by rw [hds,hd1],rfl,rfl⟩ (by simp [headI];omega)
   ·refine v_perm (ν:=[(db,clO W sp)]++[(b7,_)]) (by apply perm_of_count;intro p;simp only [List.append_eq,List.countP_append,List.countP_cons,List.countP_nil,Nat.zero_add,Nat.add_zero];try ac_rfl) ?_
    refine v_drop (List.sublist_append_left _ _) ?_
    exact v_again rfl ⟨rfl,i,j+1,W,_,by omega,by omega,by omega,by omega,by rw [hti,hfs,ansF_no (by assumption),List.append_nil],by rw [hd1],rfl,rfl⟩ (by simp [headI];omega)
  ·obtain rfl:j=l.length:=by omega
   rw [List.take_length] at hti
   have hli:(ansF l).length=i:=by rw [← hti,List.length_take];omega
   have tl:(rowC Cl.cells (W.take i)).length=i*15:=by rw [rowC_length Cl.len,List.length_take];omega
   have dl:(rowC Cl.cells (W.drop i)).length=(l.length-i)*15:=by rw [rowC_length Cl.len,List.length_drop,hW]
   have hz:(Builtin.zeroCells (Value.cells zC) (l.length-i)).toList.length=(l.length-i)*15:=by rw [Array.length_toList,size_zeroCells];rfl
   have hsp2:rowC Cl.cells W++sp=rowC Cl.cells (W.take i)++(rowC Cl.cells (W.drop i)++sp):=by rw [← List.append_assoc,← rowC_append,List.take_append_drop]
   have hov2:over (rowC Cl.cells W++sp) (0+i*15) (Builtin.zeroCells (Value.cells zC) (l.length-i)).toList=rowC Cl.cells (W.take i)++((Builtin.zeroCells (Value.cells zC) (l.length-i)).toList++(rowC Cl.cells (W.drop i)++sp).drop (Builtin.zeroCells (Value.cells zC) (l.length-i)).toList.length):=by
    rw [hsp2,Nat.zero_add,← tl]
    exact over_end _ _ _ (by rw [hz,List.length_append,dl];omega)
   have hlw:(rowC Cl.cells W++sp).length=cap*15:=by
    rw [List.length_append,rowC_length Cl.len,hW,← rowC_length Cl.len l,← List.length_append]
    exact hsp
   repeat' (first|apply v_pure;(case hop=>(apply p_sliceB i;(case hx|hl=>rfl);(case hz|h1|h2|h3=>omega)));(case hd=>rfl)|apply v_seq|apply v_region|apply v_nil|apply v_exit;(case hp=>rfl)|apply v_pure;(case hop=>first|apply p_move<;>rfl|apply p_lt<;>rfl|apply p_lenSlice<;>rfl|fail);(case hd=>rfl)|apply v_cond;(case hc=>rfl);all_goals (intro h;(try simp only [reduceCtorEq,zzz] at h);try (exfalso;omega))|fail)
   refine v_move0 (m_clear (e:=30) (agg:=true) (sz:=15) (bytes:=152) (zero:=zC) rfl (by omega) (List.Mem.head _) rfl zC_one (by rw [hlw];omega) hov2 (Upd.here _ _)) ?_
   rintro _ _ _ ⟨-,hG2,rfl⟩
   subst hG2
   repeat' (first|apply v_pure;(case hop=>(apply p_sliceHB i;(case hx|hl=>rfl);(case hz|h1=>omega)));(case hd=>rfl)|apply v_seq|apply v_region|apply v_nil|apply v_pure;(case hop=>first|apply p_move<;>rfl|apply p_assign<;>rfl|fail);(case hd=>rfl)|fail)
   refine v_ret [(db,_)] (outsA1 rfl rfl) (List.Sublist.refl _) ⟨rfl,(Builtin.zeroCells (Value.cells zC) (l.length-i)).toList++(rowC Cl.cells (W.drop i)++sp).drop (Builtin.zeroCells (Value.cells zC) (l.length-i)).toList.length,by omega,?_,by rw [hli],by rw [hti]⟩
   rw [← hti,← hlw,hsp2]
   simp only [List.length_append,List.length_drop,tl,dl,hz]
   omega
theorem cmpC_s (G:GH):CmpC 33 G:=fun x y=>⟨_,ends2_s G x y⟩
def Nil0 (G:GH) (_:Value) (G':GH) (μ':OH):Prop:=G'=G∧μ'=[]
theorem clNil (G:GH):Clr G (.slice none 0 0) []:=row_of_grow Cl.len (l:=[]) (Grow.nil 30 15) (by intro b o h;cases h)
theorem delete0_s (G:GH):Con Tryz.prog 29 #[.slice none 0 0,.func (.func 31) #[] #[]] G [] (Just (.slice none 0 0) G):=by
 have q:=indexF_s (cf:=31) (capt:=[]) (μc:=[]) (p:=openP) (clNil G) (by intro x hx;cases hx)
 (refine v_enter Tryz.func29 rfl Tryz.ntmps29 rfl ?_;intro B _)
 repeat' (first|apply v_seq|apply v_region|apply v_nil|apply v_pure;(case hop=>first|apply p_move<;>rfl|apply p_assign<;>rfl|fail);(case hd=>rfl)|fail)
 refine v_call (μ1:=[]) rfl q (List.Perm.refl _) rfl ?_
 rintro _ G5 μ' - ⟨hG5,hμ',⟨rfl,hno⟩|⟨i,hi,rfl,hp,-⟩⟩
 ·subst G5
  subst μ'
  repeat' (first|apply v_seq|apply v_region|apply v_nil|apply v_pure;(case hop=>first|apply p_move<;>rfl|apply p_eqs<;>rfl|apply p_assign<;>rfl|fail);(case hd=>rfl)|apply v_condT;(case hc=>rfl)|fail)
  refine v_ret [] (outsA1 rfl rfl) (by repeat (exact List.Sublist.refl _)) ?_
  exact ⟨rfl,rfl,rfl⟩
 ·cases hi
theorem ins0_s (G:GH) (cv:Value):Con Tryz.prog 62 #[.slice none 0 0,.int .i64 0,.int .i64 0,cv] G [] (Nil0 G):=by
 (refine v_enter Tryz.func62 rfl Tryz.ntmps62 rfl ?_;intro B _)
 repeat' (first|apply v_seq|apply v_region|apply v_nil|apply v_block|apply v_pure;(case hop=>first|apply p_move<;>rfl|apply p_assign<;>rfl|apply p_add;(case hx|hy=>rfl);(case h=>omega)|fail);(case hd=>rfl)|fail)
 refine v_loop [8,2] (fun us G' μ'=>G'=G∧us=[Value.int .i64 1,.int .i64 0]∧μ'=[]) (fun us=>0) rfl ⟨rfl,rfl,rfl⟩ ?_
 rintro us G' _ ⟨rfl,rfl,rfl⟩
 repeat' (first|apply v_seq|apply v_region|apply v_nil|apply v_exit;(case hp=>rfl)|apply v_pure;(case hop=>first|apply p_move<;>rfl|apply p_lt<;>rfl|fail);(case hd=>rfl)|apply v_cond;(case hc=>rfl);all_goals (intro h;(try simp only [reduceCtorEq,zzz] at h);try (exfalso;omega))|fail)
 exact v_end [] (outsA0 rfl) (List.Sublist.refl _) ⟨rfl,rfl⟩
theorem stable0_s (G:GH) (cv:Value):Con Tryz.prog 47 #[.slice none 0 0,.int .i64 0,cv] G [] (Nil0 G):=by
 have q:=ins0_s G cv
 (refine v_enter Tryz.func47 rfl Tryz.ntmps47 rfl ?_;intro B _)
 repeat' (first|apply v_seq|apply v_region|apply v_nil|apply v_block|apply v_pure;(case hop=>first|apply p_move<;>rfl|apply p_assign<;>rfl|fail);(case hd=>rfl)|fail)
 refine v_loop [8,7,6,2,1,0] (fun us G' μ'=>G'=G∧us=[Value.int .i64 20,.int .i64 0,.int .i64 20,cv,.int .i64 0,.slice none 0 0]∧μ'=[]) (fun us=>0) rfl ⟨rfl,rfl,rfl⟩ ?_
 rintro us G' _ ⟨rfl,rfl,rfl⟩
 repeat' (first|apply v_seq|apply v_region|apply v_nil|apply v_exit;(case hp=>rfl)|apply v_pure;(case hop=>first|apply p_move<;>rfl|apply p_le<;>rfl|fail);(case hd=>rfl)|apply v_cond;(case hc=>rfl);all_goals (intro h;(try simp only [reduceCtorEq,zzz] at h);try (exfalso;omega))|fail)
 refine v_call (μ1:=[]) rfl q (List.Perm.refl _) rfl ?_
 rintro _ G5 μ' - ⟨hG5,hμ'⟩
 subst G5
 subst μ'
 repeat' (first|apply v_nil|apply v_block)
 refine v_loop [6,1] (fun us G2 μ'=>G2=G'∧us=[Value.int .i64 20,.int .i64 0]∧μ'=[]) (fun us=>0) rfl ⟨rfl,rfl,rfl⟩ ?_
 rintro us G2 _ ⟨rfl,rfl,rfl⟩
 repeat' (first|apply v_seq|apply v_region|apply v_nil|apply v_exit;(case hp=>rfl)|apply v_pure;(case hop=>first|apply p_move<;>rfl|apply p_lt<;>rfl|fail);(case hd=>rfl)|apply v_cond;(case hc=>rfl);all_goals (intro h;(try simp only [reduceCtorEq,zzz] at h);try (exfalso;omega))|fail)
 exact v_end [] (outsA0 rfl) (List.Sublist.refl _) ⟨rfl,rfl⟩
theorem sort0_s (G:GH) (cv:Value):Con Tryz.prog 32 #[.slice none 0 0,cv] G [] (Nil0 G):=by
 have q:=stable0_s G cv
 (refine v_enter Tryz.func32 rfl Tryz.ntmps32 rfl ?_;intro B _)
 repeat' (first|apply v_region|apply v_pure;(case hop=>first|apply p_move<;>rfl|apply p_lenSlice<;>rfl|fail);(case hd=>rfl)|fail)
 refine v_call (μ1:=[]) rfl q (List.Perm.refl _) rfl ?_
 rintro _ G5 μ' - ⟨hG5,hμ'⟩
 subst G5
 subst μ'
 repeat' (first|apply v_nil)
 exact v_end [] (outsA0 rfl) (List.Sublist.refl _) ⟨rfl,rfl⟩
theorem ends_s {G:GH}{l:List Cl}{sv:Value}(hs:Clr G sv l) (hn:l.length≤1000):Con Tryz.prog 16 #[sv] G [] (fun r G' μ'=>G'=G∧∃ R:List Cl,R.Perm (ansF l)∧GrC r R μ'):=by
 have q1:=clClone_s hs hn
 (refine v_enter Tryz.func16 rfl Tryz.ntmps16 rfl ?_;intro B _)
 repeat' (first|apply v_seq|apply v_region|apply v_nil|apply v_pure;(case hop=>first|apply p_move<;>rfl|apply p_assign<;>rfl);(case hd=>rfl)|fail)
 refine v_call (μ1:=[]) rfl q1 (List.Perm.refl _) rfl ?_
 rintro cv G5 ν - ⟨hG5,hgr⟩
 subst G5
 obtain ⟨hxl,⟨rfl,h0,rfl⟩|⟨b,cap,spare,rfl,rfl,hc1,hc2,hc3⟩⟩:=hgr
 ·have h1:l=[]:=List.eq_nil_of_length_eq_zero h0
  subst h1
  have q2:=delete0_s G
  have q3:=sort0_s G (.func (.func 33) #[] #[])
  repeat' (first|apply v_seq|apply v_region|apply v_nil|apply v_pure;(case hop=>first|apply p_move<;>rfl|apply p_assign<;>rfl);(case hd=>rfl)|apply v_callJ (hs:=q2);(case ha|hd=>rfl)|fail)
  refine v_call (μ1:=[]) rfl q3 (List.Perm.refl _) rfl ?_
  rintro _ G5 μ' - ⟨hG5,hμ'⟩
  subst G5
  subst μ'
  repeat' (first|apply v_seq|apply v_region|apply v_nil|apply v_pure;(case hop=>first|apply p_move<;>rfl|apply p_assign<;>rfl);(case hd=>rfl)|fail)
  refine v_ret [] (outsA1 rfl rfl) (by repeat (exact List.Sublist.refl _)) ?_
  exact ⟨rfl,[],List.Perm.refl _,Grow.nil _ _⟩
 ·have q2:=delete_s (G:=G) (db:=b) hc1 hc2 hn hc3
  repeat' (fail)
  refine v_call (μ1:=[(b,clO l spare)]) (μ2:=[]) rfl q2 (by apply perm_of_count;intro p;simp only [List.append_eq,List.countP_append,List.countP_cons,List.countP_nil,Nat.zero_add,Nat.add_zero];try ac_rfl) rfl ?_
  rintro _ G5 _ - ⟨hG5,sp',h1,h2,rfl,rfl⟩
  subst G5
  have q3:=sortStable_s (G:=G) (db:=b) (sp:=sp') (cmpC_s G) h1 hc2 (Nat.le_trans (ansF_len l) hn)
  repeat' (first|apply v_seq|apply v_region|apply v_nil|apply v_pure;(case hop=>first|apply p_move<;>rfl|apply p_assign<;>rfl);(case hd=>rfl)|fail)
  refine v_call (μ1:=[(b,clO (ansF l) sp')]) (μ2:=[]) rfl q3 (by apply perm_of_count;intro p;simp only [List.append_eq,List.countP_append,List.countP_cons,List.countP_nil,Nat.zero_add,Nat.add_zero];try ac_rfl) rfl ?_
  rintro _ G5 _ - ⟨hG5,R,hp,rfl⟩
  subst G5
  have hl:=hp.length_eq
  repeat' (first|apply v_seq|apply v_region|apply v_nil|apply v_pure;(case hop=>first|apply p_move<;>rfl|apply p_assign<;>rfl);(case hd=>rfl)|fail)
  refine v_ret [(b,clO R sp')] (outsA1 rfl rfl) (List.Sublist.refl _) ⟨rfl,R,hp,rowC_length Cl.len R,.inr ⟨b,cap,sp',by rw [hl],rfl,by omega,hc2,?_⟩⟩
  rw [List.length_append,rowC_length Cl.len,hl,← rowC_length Cl.len (ansF l),← List.length_append]
  exact h2
end Go.Proofs.YtlkakbjcolgjbaaGreatDoor
