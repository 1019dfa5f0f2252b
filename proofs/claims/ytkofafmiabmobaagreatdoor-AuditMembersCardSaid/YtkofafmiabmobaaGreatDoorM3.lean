/-
  kvone, kvtwo (layers 23, 24): kvtwo.Check; the place of a key, its pair; put, del.
-/
import Derived.Test.YtkofafmiabmobaaGreatDoorM2
set_option linter.unusedSimpArgs false
set_option linter.unusedVariables false
namespace Go.Proofs.YtkofafmiabmobaaGreatDoor
open Go.Vx Go.ChangeShapes Go.WideShapes Go.ChangeAt Go.RowKit
theorem sized_plain {l:List Pr}(h:Sized l):Sized (l.map plainOf):=fun x hx=>by
 obtain ⟨y,hy,rfl⟩:=List.mem_map.1 hx
 exact h y hy
theorem two_iff {l:List Pr}:TwoP l↔l.any oddP=false∧OneP (l.map plainOf):=by
 have hadj:AdjP (l.map plainOf)↔AdjP l:=by
  unfold AdjP
  constructor
  ·intro h i hi h0
   have:=h i (by rw [List.length_map];exact hi) h0
   simpa [plainOf] using this
  ·intro h i hi h0
   rw [List.length_map] at hi
   have:=h i hi h0
   simpa [plainOf] using this
 unfold TwoP OneP
 rw [hadj,List.length_map]
 constructor
 ·rintro ⟨h1,h2,h3⟩
  refine ⟨?_,h1,h2,fun x hx=>?_⟩
  ·rw [List.any_eq_false]
   intro x hx
   have:=h3 x hx
   simp only [oddP,decide_eq_true_eq]
   omega
  ·obtain ⟨y,hy,rfl⟩:=List.mem_map.1 hx
   exact ⟨(h3 y hy).1,rfl⟩
 ·rintro ⟨h0,h1,h2,h3⟩
  rw [List.any_eq_false] at h0
  refine ⟨h1,h2,fun x hx=>?_⟩
  have a:=h0 x hx
  have b:=h3 _ (List.mem_map.2 ⟨x,hx,rfl⟩)
  simp only [oddP,decide_eq_true_eq] at a
  exact ⟨b.1,by omega,by omega⟩
theorem twoCheck_s {G:GH}(hT:TabsG G) {l:List Pr}{sv:Value}(hs:Prs G sv l) (hz:Sized l) (hn:l.length≤200):Con Tryz.prog 166 #[sv] G [] (Just (.int .i64 (if TwoP l then 0 else 3)) G):=by
 have q1:=prOddHas_s hs
 have q2:=plainPr_s hs hn
 have hiff:=two_iff (l:=l)
 apply Con.just
 generalize l.any oddP=od at *
 (refine v_enter Tryz.func166 rfl Tryz.ntmps166 rfl ?_;intro B _)
 repeat' (first|refine Wa ?_|(refine Wc ⟨?_,?_⟩<;>first|exact True.intro|intro h)|refine cJ q1 ?_|fail)
 ·rw [if_neg (fun h=>by have:=(hiff.1 h).1;simp_all)]
  refine Vr ?_
  exact ⟨rfl,rfl⟩
 ·refine v_call (μ1:=[]) (μ2:=[]) rfl q2 (List.Perm.refl _) rfl ?_
  rintro r G1 ν - ⟨hG1,hg⟩
  subst hG1
  rw [List.append_nil]
  refine v_frzP ν (by rw [List.append_nil]) ?_
  intro G2 hle2 hG2
  have hg':Grow 257 3 r (l.map plainOf).length (rowC Pr.cells (l.map plainOf)) ν:=hg
  have q3:=oneCheck_s (hT.le hle2) (row_of_grow Pr.len hg' hG2) (sized_plain hz)
  have e1:(if OneP (l.map plainOf) then (0:Int) else 3)=if TwoP l then 0 else 3:=by
   by_cases h:OneP (l.map plainOf)
   ·rw [if_pos h,if_pos (hiff.2 ⟨by assumption,h⟩)]
   ·rw [if_neg h,if_neg (fun h2=>h (hiff.1 h2).2)]
  rw [e1] at q3
  repeat' (first|refine Wa ?_|(refine Wc ⟨?_,?_⟩<;>first|exact True.intro|intro h)|refine cJ q3 ?_|fail)
  refine Vr ?_
  exact ⟨rfl,rfl⟩
theorem placeP_s {G:GH}{l:List Pr}{sv:Value}(k:ByteArray) (hs:Prs G sv l) (hr:RiseG ksP l) (hz:Sized l) (hk:k.size≤200):Con Tryz.prog 297 #[sv,.string k] G [] (Just (.tuple [.int .i64 (placeG ksP l (kn k):Nat),.bool (hitG ksP l (kn k))].toArray) G):=by
 have qs:=prSearch_s k hs hr (fun x hx=>(hz x hx).1) hk
 apply Con.just
 (refine v_enter Tryz.func297 rfl Tryz.ntmps297 rfl ?_;intro B _)
 repeat' (first|refine Wa ?_|(refine Wc ⟨?_,?_⟩<;>first|exact True.intro|intro h)|refine cJ qs ?_|fail)
 refine v_ret [] (outsA2 rfl rfl rfl) sS ?_
 exact ⟨rfl,rfl⟩
theorem placeG_le {α:Type}(key:α→Int) (l:List α) (n:Int):placeG key l n≤l.length:=List.countP_le_length
theorem hitG_lt {α:Type}{key:α→Int}{l:List α}{n:Int}(h:hitG key l n=true):placeG key l n<l.length:=by
 unfold hitG at h
 split at h
 ·assumption
 ·cases h
def zeroPr:Pr:=⟨ByteArray.empty,ByteArray.empty,0⟩
def findP (l:List Pr) (n:Int):Pr:=if h:hitG ksP l n=true then l[placeG ksP l n]'(hitG_lt h) else zeroPr
theorem find_s {G:GH}{l:List Pr}{sv:Value}(k:ByteArray) (hs:Prs G sv l) (hr:RiseG ksP l) (hz:Sized l) (hk:k.size≤200):Con Tryz.prog 257 #[sv,.string k] G [] (Just (.tuple [.agg (findP l (kn k)).cells.toArray,.bool (hitG ksP l (kn k))].toArray) G):=by
 have qs:=placeP_s k hs hr hz hk
 obtain ⟨A,c,rfl,hlc,hcm,hsome,hcp⟩:=rowOpen hs
 simp only [maxLen] at hcm
 apply Con.just
 cases hh:hitG ksP l (kn k) with
 | false =>
  rw [hh] at qs
  have ef:findP l (kn k)=zeroPr:=by unfold findP;rw [dif_neg (by rw [hh];simp)]
  rw [ef]
  (refine v_enter Tryz.func257 rfl Tryz.ntmps257 rfl ?_;intro B _)
  repeat' (first|refine Wa ?_|(refine Wc ⟨?_,?_⟩<;>first|exact True.intro|intro h)|refine cJ qs ?_|refine Wr ?_|(refine Wb ?_;intro b)|fail)
  refine v_retM [] (outsM_cell_tmp (sz:=3) (vs:=zeroPr.cells) (e:=257) rfl rfl rfl aM rfl) (List.nil_sublist _) ?_
  exact ⟨rfl,rfl⟩
 | true =>
  have hlt:=hitG_lt hh
  have ef:findP l (kn k)=l[placeG ksP l (kn k)]'hlt:=by unfold findP;rw [dif_pos hh]
  rw [hh] at qs
  rw [ef]
  have hck:=hcp _ hlt
  have hA:=hsome (by omega)
  generalize l[placeG ksP l (kn k)]=x at *
  generalize placeG ksP l (kn k)=i at *
  have e1:((i:Nat):Int).toNat=i:=by omega
  (refine v_enter Tryz.func257 rfl Tryz.ntmps257 rfl ?_;intro B _)
  repeat' (first|refine Wa ?_|(refine Wc ⟨?_,?_⟩<;>first|exact True.intro|intro h)|refine cJ qs ?_|refine RN hck ?_|refine Wr ?_|(refine Wb ?_;intro b)|fail)
  refine v_retM [] (outsM_cell_tmp (sz:=3) (vs:=x.cells) (e:=257) rfl rfl rfl aM rfl) (List.nil_sublist _) ?_
  exact ⟨rfl,rfl⟩
theorem over_at (p x y t sp:List Value) (h:y.length=x.length):over (p++(x++t)++sp) p.length y=p++(y++t)++sp:=by
 unfold over
 rw [List.append_assoc p,List.take_left,← List.drop_drop,List.drop_left,h,List.append_assoc x,List.drop_left]
 simp
theorem rowC_set {α:Type}{f:α→List Value}{sz:Nat}(hf:∀ x,(f x).length=sz) (l:List α) (i:Nat) (hi:i<l.length) (y:α) (sp:List Value):over (rowC f l++sp) (i*sz) (f y)=rowC f (l.set i y)++sp:=by
 have h1:(rowC f (l.take i)).length=i*sz:=by rw [rowC_length hf,List.length_take,Nat.min_eq_left (by omega)]
 have e:rowC f l=rowC f (l.take i)++(f l[i]++rowC f (l.drop (i+1))):=by rw [← rowC_cons,← List.drop_eq_getElem_cons hi,← rowC_append,List.take_append_drop]
 have e2:l.set i y=l.take i++y::l.drop (i+1):=by
  rw [List.set_eq_take_append_cons_drop,if_pos hi]
 rw [e2,e,rowC_append,rowC_cons,← h1]
 exact over_at _ _ _ _ _ (by rw [hf,hf])
def putP (l:List Pr) (p:Pr):List Pr×Bool:=if hitG ksP l (kn p.key)=true then (l.set (placeG ksP l (kn p.key)) p,true) else if 64≤l.length then (l,false) else (l.take (placeG ksP l (kn p.key))++p::l.drop (placeG ksP l (kn p.key)),true)
def delP (l:List Pr) (n:Int):List Pr:=if hitG ksP l n=true then l.take (placeG ksP l n)++l.drop (placeG ksP l n+1) else l
theorem lendPlace {G:GH}{l:List Pr}{v:Value}{ν:OH}(k:ByteArray) (hg:GrP v l ν) (hr:RiseG ksP l) (hz:Sized l) (hk:k.size≤200):Con Tryz.prog 297 #[v,.string k] G ν (Keeps (.tuple [.int .i64 (placeG ksP l (kn k):Nat),.bool (hitG ksP l (kn k))].toArray) G ν) :=
 Con.lendJ fun G' _ h2=>placeP_s k (row_of_grow Pr.len hg h2) hr hz hk
theorem put_s {G:GH}{l:List Pr}{v:Value}{ν:OH}(p:Pr) (hg:GrP v l ν) (hr:RiseG ksP l) (hz:Sized l) (hk:p.key.size≤200) (hn:l.length≤200):Con Tryz.prog 258 #[v,.agg p.cells.toArray] G ν (fun r G' μ'=>G'=G∧∃ v',r=.tuple [v',.bool (putP l p).2].toArray∧GrP v' (putP l p).1 μ'∧((putP l p).2=false→v'=v)):=by
 have qp:=lendPlace (G:=G) p.key hg hr hz hk
 have hpl:=placeG_le ksP l (kn p.key)
 unfold putP
 cases hh:hitG ksP l (kn p.key) with
 | true =>
  have hlt:=hitG_lt hh
  rw [if_pos rfl]
  rw [hh] at qp
  obtain ⟨hxl,⟨rfl,h0,rfl⟩|⟨b,cap,spare,rfl,rfl,hc1,hc2,hc3⟩⟩:=hg
  ·omega
  have hov:=rowC_set Pr.len l _ hlt p spare
  generalize placeG ksP l (kn p.key)=i at *
  have hlen:=rowC_length Pr.len l
  (refine v_enter Tryz.func258 rfl Tryz.ntmps258 rfl ?_;intro B _)
  repeat' (first|apply v_box (zs:=p.cells);(case hx|hz|hd=>rfl);intro bp|apply v_pure;(case hop=>apply p_idxOwn2;(case hx|hi=>rfl);(case h=>omega));(case hd=>rfl)|refine Wa ?_|(refine Wc ⟨?_,?_⟩<;>first|exact True.intro|intro h)|apply v_callK (hs:=qp) (μ2:=[(bp,.cells p.cells.toArray 257 (0,0))]);(case ha=>rfl);(case hp=>exact List.Perm.swap _ _ _);(case hd=>rfl)|apply v_store (us:=p.cells);(case hp|hx|hc|hsz|h1=>rfl);(case hb=>exact aM);(case hfit=>rw [List.length_append,hlen,Pr.len];omega);(case hov=>exact hov);(case hu=>repeat first|exact Upd.here _ _|apply Upd.there)|refine Wr ?_|(refine Wb ?_;intro b)|fail)
  refine v_ret [(b,_)] (outsA2 rfl rfl rfl) (List.Sublist.cons _ (List.Sublist.refl _)) ⟨rfl,_,rfl,?_,fun h=>(by cases h)⟩
  have hsl:(l.set i p).length=l.length:=List.length_set ..
  unfold GrP
  simp only [hsl]
  exact ⟨by rw [rowC_length Pr.len,hsl],.inr ⟨b,cap,spare,rfl,rfl,hc1,hc2,by rw [List.length_append,rowC_length Pr.len,hsl];rw [List.length_append,hlen] at hc3;exact hc3⟩⟩
 | false =>
  rw [hh] at qp
  rw [if_neg (by simp)]
  obtain ⟨A,c,rfl,hA1,hA2⟩:=hg.shape
  simp only [maxLen] at hA2
  by_cases h64:64≤l.length
  ·rw [if_pos h64]
   (refine v_enter Tryz.func258 rfl Tryz.ntmps258 rfl ?_;intro B _)
   repeat' (first|apply v_box (zs:=p.cells);(case hx|hz|hd=>rfl);intro bp|refine Wa ?_|(refine Wc ⟨?_,?_⟩<;>first|exact True.intro|intro h)|apply v_callK (hs:=qp) (μ2:=[(bp,.cells p.cells.toArray 257 (0,0))]);(case ha=>rfl);(case hp=>exact (List.perm_append_comm (l₁:=[_])));(case hd=>rfl)|refine Wr ?_|(refine Wb ?_;intro b)|fail)
   refine v_ret ν (outsA2 rfl rfl rfl) (List.sublist_cons_self _ _) ⟨rfl,_,rfl,hg,fun _=>rfl⟩
  ·rw [if_neg h64]
   have hq:=fun b2=>prInsert_s (G:=G) p b2 (placeG ksP l (kn p.key)) hg hpl hn
   have hil:(l.take (placeG ksP l (kn p.key))++p::l.drop (placeG ksP l (kn p.key))).length=l.length+1:=by
    rw [List.length_append,List.length_cons,List.length_take,List.length_drop];omega
   generalize placeG ksP l (kn p.key)=i at *
   (refine v_enter Tryz.func258 rfl Tryz.ntmps258 rfl ?_;intro B _)
   repeat' (first|apply v_box (zs:=p.cells);(case hx|hz|hd=>rfl);intro bp|refine Wa ?_|(refine Wc ⟨?_,?_⟩<;>first|exact True.intro|intro h)|apply v_callK (hs:=qp) (μ2:=[(bp,.cells p.cells.toArray 257 (0,0))]);(case ha=>rfl);(case hp=>exact (List.perm_append_comm (l₁:=[_])));(case hd=>rfl)|refine Wr ?_|(refine Wb ?_;intro b)|fail)
   refine v_call (μ1:=ν++[(b,.cells p.cells.toArray 257 (0,0))]) (μ2:=[(bp,.cells p.cells.toArray 257 (0,0))]) rfl (hq b) ?_ rfl ?_
   ·exact aV
   rintro v' G1 ν1 - ⟨hG1,hg1⟩
   subst hG1
   repeat' (first|refine Wa ?_|(refine Wc ⟨?_,?_⟩<;>first|exact True.intro|intro h)|refine Wr ?_|(refine Wb ?_;intro b)|fail)
   refine v_ret ν1 (outsA2 rfl rfl rfl) (List.sublist_append_left _ _) ⟨rfl,_,rfl,?_,fun h=>(by cases h)⟩
   unfold GrP
   rw [hil]
   exact hg1
theorem del_s {G:GH}{l:List Pr}{v:Value}{ν:OH}(k:ByteArray) (hg:GrP v l ν) (hr:RiseG ksP l) (hz:Sized l) (hk:k.size≤200) (hn:l.length≤200):Con Tryz.prog 259 #[v,.string k] G ν (fun r G' μ'=>G'=G∧GrP r (delP l (kn k)) μ'):=by
 have qp:=lendPlace (G:=G) k hg hr hz hk
 unfold delP
 cases hh:hitG ksP l (kn k) with
 | true =>
  have hlt:=hitG_lt hh
  rw [if_pos rfl]
  rw [hh] at qp
  have q:=prDelete_s (G:=G) (placeG ksP l (kn k)) hg hlt hn
  generalize placeG ksP l (kn k)=i at *
  (refine v_enter Tryz.func259 rfl Tryz.ntmps259 rfl ?_;intro B _)
  repeat' (first|refine Wa ?_|(refine Wc ⟨?_,?_⟩<;>first|exact True.intro|intro h)|apply v_callK (hs:=qp) (μ2:=[]);(case ha=>rfl);(case hp=>exact List.Perm.of_eq (List.append_nil _).symm);(case hd=>rfl)|fail)
  refine v_call (μ1:=ν) (μ2:=[]) rfl q (List.Perm.of_eq (List.append_nil _).symm) rfl ?_
  rintro v' G1 ν1 - ⟨hG1,hg1⟩
  subst hG1
  repeat' (first|refine Wa ?_|(refine Wc ⟨?_,?_⟩<;>first|exact True.intro|intro h)|fail)
  exact v_ret ν1 (outsA1 rfl rfl) (List.sublist_append_left _ _) ⟨rfl,hg1⟩
 | false =>
  rw [hh] at qp
  rw [if_neg (by simp)]
  (refine v_enter Tryz.func259 rfl Tryz.ntmps259 rfl ?_;intro B _)
  repeat' (first|refine Wa ?_|(refine Wc ⟨?_,?_⟩<;>first|exact True.intro|intro h)|apply v_callK (hs:=qp) (μ2:=[]);(case ha=>rfl);(case hp=>exact List.Perm.of_eq (List.append_nil _).symm);(case hd=>rfl)|fail)
  exact v_ret ν (outsA1 rfl rfl) (List.Sublist.refl _) ⟨rfl,hg⟩
section
variable {α:Type}{key:α→Int}
abbrev RiseW (key:α→Int) (l:List α):Prop:=l.Pairwise fun a b=>key a<key b
theorem riseG_pw {l:List α}:RiseG key l↔RiseW key l:=by
 unfold RiseG RiseW
 rw [List.pairwise_iff_getElem]
 constructor
 ·intro h i j hi hj hij;exact h i j hj hij
 ·intro h i j hj hij;exact h i j (by omega) hj hij
theorem place_parts {l:List α}(h:RiseW key l) (n:Int):l.take (placeG key l n)=l.filter (fun x=>decide (key x<n))∧l.drop (placeG key l n)=l.filter (fun x=>decide (n≤key x)):=by
 induction l with
 | nil=>simp [placeG]
 | cons a l ih =>
  have h:=List.pairwise_cons.1 h
  obtain ⟨i1,i2⟩:=ih h.2
  unfold placeG at i1 i2 ⊢
  by_cases ha:key a<n
  ·have hn:¬ n≤key a:=by omega
   rw [List.countP_cons_of_pos (by simpa using ha),List.take_succ_cons,List.drop_succ_cons,i1,i2,List.filter_cons_of_pos (by simpa using ha),List.filter_cons_of_neg (by simpa using hn)]
   exact ⟨rfl,rfl⟩
  ·have h0:∀ x∈a::l,¬ key x<n:=fun x hx=>by
    rcases List.mem_cons.1 hx with rfl|hx
    ·exact ha
    ·have:=h.1 x hx;omega
   have e0:(a::l).countP (fun x=>decide (key x<n))=0:=List.countP_eq_zero.2 fun x hx=>by simpa using h0 x hx
   rw [e0,List.take_zero,List.drop_zero]
   refine ⟨(List.filter_eq_nil_iff.2 fun x hx=>by simpa using h0 x hx).symm,(List.filter_eq_self.2 fun x hx=>?_).symm⟩
   have:=h0 x hx
   simp only [decide_eq_true_eq]
   omega
def withG (key:α→Int) (l:List α) (p:α):List α:=l.filter (fun x=>decide (key x<key p))++p::l.filter (fun x=>decide (key p<key x))
theorem hit_parts {l:List α}(h:RiseW key l) (n:Int):(∃ hlt:placeG key l n<l.length,hitG key l n=true∧key (l[placeG key l n])=n∧l.drop (placeG key l n+1)=l.filter (fun x=>decide (n<key x)))∨(hitG key l n=false∧(∀ x∈l,key x≠n)∧l.drop (placeG key l n)=l.filter (fun x=>decide (n<key x))):=by
 obtain ⟨h1,h2⟩:=place_parts h n
 have hle:=placeG_le key l n
 have hall:(∀ x∈l,key x≠n)→l.filter (fun x=>decide (n≤key x))=l.filter (fun x=>decide (n<key x)):=fun hx=>List.filter_congr fun x hm=>by
  have:=hx x hm
  rw [Bool.eq_iff_iff,decide_eq_true_iff,decide_eq_true_iff]
  omega
 have hge:∀ x∈l.drop (placeG key l n),n≤key x:=fun x hx=>by
  rw [h2,List.mem_filter] at hx
  simpa using hx.2
 have hlt':∀ x∈l.take (placeG key l n),key x<n:=fun x hx=>by
  rw [h1,List.mem_filter] at hx
  simpa using hx.2
 by_cases hlt:placeG key l n<l.length
 ·have hd:=List.drop_eq_getElem_cons hlt
  have hpw:RiseW key (l.drop (placeG key l n)):=List.Pairwise.sublist (List.drop_sublist _ _) h
  rw [hd] at hpw
  have hpw:=List.pairwise_cons.1 hpw
  by_cases hk:key (l[placeG key l n])=n
  ·refine .inl ⟨hlt,?_,hk,?_⟩
   ·unfold hitG;rw [dif_pos hlt];exact decide_eq_true hk
   ·have e:l.filter (fun x=>decide (n<key x))=(l.filter (fun x=>decide (n≤key x))).filter (fun x=>decide (n<key x)):=by
     rw [List.filter_filter]
     exact List.filter_congr fun x _=>by rw [Bool.eq_iff_iff];simp;omega
    rw [e,← h2,hd,List.filter_cons_of_neg (by simp;omega)]
    exact (List.filter_eq_self.2 fun x hx=>by have:=hpw.1 x hx;simp;omega).symm
  ·have hno:∀ x∈l,key x≠n:=fun x hx=>by
    rw [← List.take_append_drop (placeG key l n) l,List.mem_append] at hx
    rcases hx with hx|hx
    ·have:=hlt' x hx;omega
    ·have a:=hge _ (by rw [hd];exact List.mem_cons_self:l[placeG key l n]∈l.drop (placeG key l n))
     rw [hd] at hx
     rcases List.mem_cons.1 hx with rfl|hx
     ·exact hk
     ·have:=hpw.1 x hx;omega
   refine .inr ⟨?_,hno,by rw [h2,hall hno]⟩
   unfold hitG;rw [dif_pos hlt];exact decide_eq_false hk
 ·have hno:∀ x∈l,key x≠n:=fun x hx=>by
   have:placeG key l n=l.length:=by omega
   rw [this,List.take_length] at hlt'
   have:=hlt' x hx
   omega
  refine .inr ⟨?_,hno,by rw [h2,hall hno]⟩
  unfold hitG;rw [dif_neg hlt]
theorem hit_iff {l:List α}(h:RiseW key l) {n:Int}:hitG key l n=true↔∃ x∈l,key x=n:=by
 rcases hit_parts h n with ⟨hlt,h1,h2,-⟩|⟨h1,h2,-⟩
 ·exact ⟨fun _=>⟨_,List.getElem_mem hlt,h2⟩,fun _=>h1⟩
 ·rw [h1]
  exact ⟨fun h=>(by cases h),fun ⟨x,hx,e⟩=>absurd e (h2 x hx)⟩
theorem ins_with {l:List α}(h:RiseW key l) (p:α):(if hitG key l (key p)=true then l.set (placeG key l (key p)) p else l.take (placeG key l (key p))++p::l.drop (placeG key l (key p)))=withG key l p:=by
 obtain ⟨h1,h2⟩:=place_parts h (key p)
 rcases hit_parts h (key p) with ⟨hlt,e1,e2,e3⟩|⟨e1,e2,e3⟩
 ·rw [if_pos e1,List.set_eq_take_append_cons_drop,if_pos hlt,h1,e3]
  rfl
 ·rw [if_neg (by rw [e1];simp),h1,e3]
  rfl
theorem del_filter {l:List α}(h:RiseW key l) (n:Int):(if hitG key l n=true then l.take (placeG key l n)++l.drop (placeG key l n+1) else l)=l.filter (fun x=>decide (key x≠n)):=by
 obtain ⟨h1,h2⟩:=place_parts h n
 rcases hit_parts h n with ⟨hlt,e1,e2,e3⟩|⟨e1,e2,e3⟩
 ·rw [if_pos e1]
  conv=>rhs;rw [← List.take_append_drop (placeG key l n) l,List.filter_append]
  congr 1
  ·exact (List.filter_eq_self.2 fun x hx=>by rw [h1,List.mem_filter] at hx;have:=hx.2;simp at this ⊢;omega).symm
  ·rw [List.drop_eq_getElem_cons hlt,List.filter_cons_of_neg (by simpa using e2)]
   exact (List.filter_eq_self.2 fun x hx=>by rw [e3,List.mem_filter] at hx;have:=hx.2;simp at this ⊢;omega).symm
 ·rw [if_neg (by rw [e1];simp)]
  exact (List.filter_eq_self.2 fun x hx=>by simpa using e2 x hx).symm
theorem withG_rise {l:List α}(h:RiseW key l) (p:α):RiseW key (withG key l p):=by
 unfold withG RiseW
 rw [List.pairwise_append,List.pairwise_cons]
 refine ⟨h.sublist List.filter_sublist,⟨fun x hx=>?_,h.sublist List.filter_sublist⟩,fun x hx y hy=>?_⟩
 ·simpa using (List.mem_filter.1 hx).2
 ·have hx2:=(List.mem_filter.1 hx).2
  simp at hx2
  rcases List.mem_cons.1 hy with rfl|hy
  ·exact hx2
  ·have hy2:=(List.mem_filter.1 hy).2
   simp at hy2
   omega
theorem withG_mem {l:List α}{p x:α}(h:x∈withG key l p):x=p∨x∈l:=by
 unfold withG at h
 rcases List.mem_append.1 h with h|h
 ·exact .inr (List.mem_filter.1 h).1
 ·rcases List.mem_cons.1 h with h|h
  ·exact .inl h
  ·exact .inr (List.mem_filter.1 h).1
theorem withG_len {l:List α}(h:RiseW key l) (p:α):(withG key l p).length=if hitG key l (key p)=true then l.length else l.length+1:=by
 rw [← ins_with h p]
 split
 ·rw [List.length_set]
 ·rw [List.length_append,List.length_cons,List.length_take,List.length_drop]
  have:=placeG_le key l (key p)
  omega
theorem withG_twice {l:List α}{p q:α}(hk:key p=key q):withG key (withG key l p) q=withG key l q:=by
 unfold withG
 have e1:¬ key p<key q:=by omega
 have e2:¬ key q<key p:=by omega
 rw [List.filter_append,List.filter_cons_of_neg (by simpa using e1),List.filter_append,List.filter_cons_of_neg (by simpa using e2)]
 simp only [List.filter_filter,hk]
 have a1:(l.filter fun a=>decide (key a<key q) && decide (key q<key a))=[]:=List.filter_eq_nil_iff.2 fun x _=>by simp;omega
 have a2:(l.filter fun a=>decide (key q<key a) && decide (key a<key q))=[]:=List.filter_eq_nil_iff.2 fun x _=>by simp;omega
 simp only [a1,a2,Bool.and_self,List.append_nil,List.nil_append]
end
def ans0 (c:Cm):An:=⟨c.client,c.seq,0,false,ByteArray.empty,0⟩
def roomB (l:List Pr) (n:Int):Bool:=hitG ksP l n || decide (l.length<64)
def doOne (l:List Pr) (c:Cm):List Pr×An :=
 if c.kind=2 then (if roomB l (kn c.key)=true then (withG ksP l ⟨c.key,c.val,0⟩,{ ans0 c with found:=hitG ksP l (kn c.key),val:=(findP l (kn c.key)).val }) else (l,{ ans0 c with err:=11 }))
 else if c.kind=3 then (l,{ ans0 c with found:=hitG ksP l (kn c.key),val:=(findP l (kn c.key)).val })
 else if c.kind=4 then (l.filter (fun x=>decide (ksP x≠kn c.key)),{ ans0 c with found:=hitG ksP l (kn c.key),val:=(findP l (kn c.key)).val })
 else (l,{ ans0 c with err:=8 })
theorem putP_eq {l:List Pr}(h:RiseW ksP l) (p:Pr):putP l p=if roomB l (kn p.key)=true then (withG ksP l p,true) else (l,false):=by
 have hw:=ins_with h p
 unfold putP roomB
 cases hh:hitG ksP l (kn p.key) with
 | true =>
  rw [hh,if_pos rfl] at hw
  rw [if_pos rfl,if_pos (by simp)]
  exact congrArg (·,true) hw
 | false =>
  rw [hh,if_neg (by simp)] at hw
  rw [if_neg (by simp)]
  by_cases h64:64≤l.length
  ·rw [if_pos h64,if_neg (by simp;omega)]
  ·rw [if_neg h64,if_pos (by simp;omega)]
   exact congrArg (·,true) hw
theorem doOne_s {G:GH}{l:List Pr}{sv:Value}(c:Cm) (hs:Prs G sv l) (hr:RiseW ksP l) (hz:Sized l) (hk:c.key.size≤200) (hn:l.length≤150) :
 Con Tryz.prog 218 #[sv,.agg c.cells.toArray] G [] (fun r G' μ'=>G'=G∧∃ v,r=.tuple [v,.agg (doOne l c).2.cells.toArray].toArray∧GrP v (doOne l c).1 μ'):=by
 have hrg:=riseG_pw.2 hr
 have q1:=prClone_s hs (by omega)
 have q2:=find_s c.key hs hrg hz hk
 have q3:=fun (v:Value) (ν:OH) (hg:GrP v l ν)=>put_s (G:=G) ⟨c.key,c.val,0⟩ hg hrg hz hk (by omega)
 have q4:=fun (v:Value) (ν:OH) (hg:GrP v l ν)=>del_s (G:=G) c.key hg hrg hz hk (by omega)
 have ed:=del_filter hr (kn c.key)
 have ep:=putP_eq hr ⟨c.key,c.val,0⟩
 unfold doOne
 unfold delP at q4
 rw [ed] at q4
 rw [ep] at q3
 simp only at q3
 generalize hitG ksP l (kn c.key)=hb at *
 generalize hfe:findP l (kn c.key)=f at *
 generalize roomB l (kn c.key)=rb at *
 generalize l.filter (fun x=>decide (ksP x≠kn c.key))=ld at *
 generalize withG ksP l ⟨c.key,c.val,0⟩=lw at *
 obtain ⟨kind,client,seq,key,val,old,node⟩:=c
 simp only at *
 clear ed ep hfe
 (refine v_enter Tryz.func218 rfl Tryz.ntmps218 rfl ?_;intro B _)
 repeat' (first|apply v_box (zs:=Cm.cells ⟨kind,client,seq,key,val,old,node⟩);(case hx|hz|hd=>rfl);intro bc|apply v_alloc (e:=66);(case hz|hd=>rfl);intro b5|refine Wa ?_|(refine Wc ⟨?_,?_⟩<;>first|exact True.intro|intro h)|refine Wr ?_|(refine Wb ?_;intro b)|fail)
 refine v_call (μ1:=[]) (μ2:=_) rfl q1 (List.Perm.refl _) rfl ?_
 rintro v1 G1 ν1 - ⟨hG1,hg1⟩
 subst hG1
 have q3:=q3 v1 ν1 hg1
 have q4:=q4 v1 ν1 hg1
 repeat' (first|apply v_alloc (e:=66);(case hz|hd=>rfl);intro b7|apply v_alloc (e:=257);(case hz|hd=>rfl);intro b8|refine Wa ?_|(refine Wc ⟨?_,?_⟩<;>first|exact True.intro|intro h)|refine cJ q2 ?_|refine Wr ?_|(refine Wb ?_;intro b)|fail)
 ·have hk2:kind=2:=by assumption
  rw [if_pos hk2]
  refine v_call (μ1:=ν1) (μ2:=(b8,.cells [.string f.key,.string f.val,.int .i64 f.rev].toArray 257 (0,0))::(b7,.cells [.int .i64 client,.int .i64 seq,.int .i64 0,.bool false,.string ByteArray.empty,.int .i64 0].toArray 66 (0,0))::[(b5,.cells [.int .i64 0,.int .i64 0,.int .i64 0,.bool false,.string ByteArray.empty,.int .i64 0].toArray 66 (0,0)),(bc,.cells (Cm.cells ⟨kind,client,seq,key,val,old,node⟩).toArray 41 (0,0))]) rfl q3 aV rfl ?_
  rintro _ G2 ν2 - ⟨hG2,v2,rfl,hg2,hv2⟩
  subst hG2
  cases rb with
  | true =>
   rw [if_pos rfl] at hg2 ⊢
   simp only [if_true]
   repeat' (first|refine Wa ?_|(refine Wc ⟨?_,?_⟩<;>first|exact True.intro|intro h)|refine Wr ?_|(refine Wb ?_;intro b)|fail)
   refine Dz [(b8,.cells [.string f.key,.string f.val,.int .i64 f.rev].toArray 257 (0,0))] ?_
   all_goals refine Dt [0,1,2,3] ?_
   all_goals ((apply d_store 4;(case hi=>rfl);(case hr=>kernel_rfl);(case hL=>infer_instance);(case hp|hx|hc|hsz|h1=>rfl);(case hb=>exact aM);(case hfit=>first|exact Nat.le_of_ble_eq_true rfl|rfl);(case hov=>(first|((repeat (first|with_reducible exact ov_nil|apply ov_cons|apply ov_there));done)|rfl));(case hu=>repeat first|exact Upd.here _ _|apply Upd.there|apply Upd.app);(case hν'=>exact aE)))
   all_goals refine Dt [5] ?_
   all_goals ((apply d_store 6;(case hi=>rfl);(case hr=>kernel_rfl);(case hL=>infer_instance);(case hp|hx|hc|hsz|h1=>rfl);(case hb=>exact aM);(case hfit=>first|exact Nat.le_of_ble_eq_true rfl|rfl);(case hov=>(first|((repeat (first|with_reducible exact ov_nil|apply ov_cons|apply ov_there));done)|rfl));(case hu=>repeat first|exact Upd.here _ _|apply Upd.there|apply Upd.app);(case hν'=>exact aE)))
   all_goals refine Dd ?_
   repeat' (first|refine Wa ?_|(refine Wc ⟨?_,?_⟩<;>first|exact True.intro|intro h)|refine Wr ?_|(refine Wb ?_;intro b)|fail)
   refine Dz [(b7,.cells [.int .i64 client,.int .i64 seq,.int .i64 0,.bool hb,.string f.val,.int .i64 0].toArray 66 (0,0))] ?_
   all_goals refine Dt [0,1,2] ?_
   all_goals ((apply d_store 3;(case hi=>rfl);(case hr=>kernel_rfl);(case hL=>infer_instance);(case hp|hx|hc|hsz|h1=>rfl);(case hb=>exact aM);(case hfit=>first|exact Nat.le_of_ble_eq_true rfl|rfl);(case hov=>(first|((repeat (first|with_reducible exact ov_nil|apply ov_cons|apply ov_there));done)|rfl));(case hu=>repeat first|exact Upd.here _ _|apply Upd.there|apply Upd.app);(case hν'=>exact aE)))
   all_goals refine Dd ?_
   repeat' (first|refine Wa ?_|(refine Wc ⟨?_,?_⟩<;>first|exact True.intro|intro h)|refine Wr ?_|(refine Wb ?_;intro b)|fail)
   refine v_retM ν2 (outsM_tc (sz1:=6) (vs1:=[.int .i64 client,.int .i64 seq,.int .i64 0,.bool hb,.string f.val,.int .i64 0]) (e1:=66) rfl rfl rfl aM rfl) (List.sublist_append_left _ _) ⟨rfl,_,rfl,hg2⟩
  | false =>
   rw [if_neg (by simp)] at hg2 hv2 ⊢
   obtain rfl:=hv2 rfl
   simp only [Bool.false_eq_true,if_false]
   repeat' (first|refine Wa ?_|(refine Wc ⟨?_,?_⟩<;>first|exact True.intro|intro h)|refine Wr ?_|(refine Wb ?_;intro b)|fail)
   refine Dz [(b7,.cells [.int .i64 client,.int .i64 seq,.int .i64 11,.bool false,.string ByteArray.empty,.int .i64 0].toArray 66 (0,0))] ?_
   all_goals refine Dt [0,1,2] ?_
   all_goals ((apply d_store 3;(case hi=>rfl);(case hr=>kernel_rfl);(case hL=>infer_instance);(case hp|hx|hc|hsz|h1=>rfl);(case hb=>exact aM);(case hfit=>first|exact Nat.le_of_ble_eq_true rfl|rfl);(case hov=>(first|((repeat (first|with_reducible exact ov_nil|apply ov_cons|apply ov_there));done)|rfl));(case hu=>repeat first|exact Upd.here _ _|apply Upd.there|apply Upd.app);(case hν'=>exact aE)))
   all_goals refine Dd ?_
   repeat' (first|refine Wa ?_|(refine Wc ⟨?_,?_⟩<;>first|exact True.intro|intro h)|refine Wr ?_|(refine Wb ?_;intro b)|fail)
   refine v_retM ν2 (outsM_tc (sz1:=6) (vs1:=[.int .i64 client,.int .i64 seq,.int .i64 11,.bool false,.string ByteArray.empty,.int .i64 0]) (e1:=66) rfl rfl rfl aM rfl) (List.sublist_append_left _ _) ⟨rfl,_,rfl,hg2⟩
 ·have hk3:kind=3:=by assumption
  rw [if_neg (by assumption),if_pos hk3]
  refine Dz [(b8,.cells [.string f.key,.string f.val,.int .i64 f.rev].toArray 257 (0,0))] ?_
  all_goals refine Dt [0,1,2,3] ?_
  all_goals ((apply d_store 4;(case hi=>rfl);(case hr=>kernel_rfl);(case hL=>infer_instance);(case hp|hx|hc|hsz|h1=>rfl);(case hb=>exact aM);(case hfit=>first|exact Nat.le_of_ble_eq_true rfl|rfl);(case hov=>(first|((repeat (first|with_reducible exact ov_nil|apply ov_cons|apply ov_there));done)|rfl));(case hu=>repeat first|exact Upd.here _ _|apply Upd.there|apply Upd.app);(case hν'=>exact aE)))
  all_goals refine Dt [5] ?_
  all_goals ((apply d_store 6;(case hi=>rfl);(case hr=>kernel_rfl);(case hL=>infer_instance);(case hp|hx|hc|hsz|h1=>rfl);(case hb=>exact aM);(case hfit=>first|exact Nat.le_of_ble_eq_true rfl|rfl);(case hov=>(first|((repeat (first|with_reducible exact ov_nil|apply ov_cons|apply ov_there));done)|rfl));(case hu=>repeat first|exact Upd.here _ _|apply Upd.there|apply Upd.app);(case hν'=>exact aE)))
  all_goals refine Dd ?_
  repeat' (first|refine Wa ?_|(refine Wc ⟨?_,?_⟩<;>first|exact True.intro|intro h)|refine Wr ?_|(refine Wb ?_;intro b)|fail)
  refine Dz [(b7,.cells [.int .i64 client,.int .i64 seq,.int .i64 0,.bool hb,.string f.val,.int .i64 0].toArray 66 (0,0))] ?_
  all_goals refine Dt [0,1,2] ?_
  all_goals ((apply d_store 3;(case hi=>rfl);(case hr=>kernel_rfl);(case hL=>infer_instance);(case hp|hx|hc|hsz|h1=>rfl);(case hb=>exact aM);(case hfit=>first|exact Nat.le_of_ble_eq_true rfl|rfl);(case hov=>(first|((repeat (first|with_reducible exact ov_nil|apply ov_cons|apply ov_there));done)|rfl));(case hu=>repeat first|exact Upd.here _ _|apply Upd.there|apply Upd.app);(case hν'=>exact aE)))
  all_goals refine Dd ?_
  repeat' (first|refine Wa ?_|(refine Wc ⟨?_,?_⟩<;>first|exact True.intro|intro h)|refine Wr ?_|(refine Wb ?_;intro b)|fail)
  refine v_retM ν1 (outsM_tc (sz1:=6) (vs1:=[.int .i64 client,.int .i64 seq,.int .i64 0,.bool hb,.string f.val,.int .i64 0]) (e1:=66) rfl rfl rfl aM rfl) (List.Sublist.cons _ (List.Sublist.cons _ (List.sublist_append_left _ _))) ⟨rfl,_,rfl,hg1⟩
 ·have hk4:kind=4:=by assumption
  rw [if_neg (by assumption),if_neg (by assumption),if_pos hk4]
  refine v_call (μ1:=ν1) (μ2:=(b8,.cells [.string f.key,.string f.val,.int .i64 f.rev].toArray 257 (0,0))::(b7,.cells [.int .i64 client,.int .i64 seq,.int .i64 0,.bool false,.string ByteArray.empty,.int .i64 0].toArray 66 (0,0))::[(b5,.cells [.int .i64 0,.int .i64 0,.int .i64 0,.bool false,.string ByteArray.empty,.int .i64 0].toArray 66 (0,0)),(bc,.cells (Cm.cells ⟨kind,client,seq,key,val,old,node⟩).toArray 41 (0,0))]) rfl q4 aV rfl ?_
  rintro v2 G2 ν2 - ⟨hG2,hg2⟩
  subst hG2
  repeat' (first|refine Wa ?_|(refine Wc ⟨?_,?_⟩<;>first|exact True.intro|intro h)|refine Wr ?_|(refine Wb ?_;intro b)|fail)
  refine Dz [(b8,.cells [.string f.key,.string f.val,.int .i64 f.rev].toArray 257 (0,0))] ?_
  all_goals refine Dt [0,1,2,3] ?_
  all_goals ((apply d_store 4;(case hi=>rfl);(case hr=>kernel_rfl);(case hL=>infer_instance);(case hp|hx|hc|hsz|h1=>rfl);(case hb=>exact aM);(case hfit=>first|exact Nat.le_of_ble_eq_true rfl|rfl);(case hov=>(first|((repeat (first|with_reducible exact ov_nil|apply ov_cons|apply ov_there));done)|rfl));(case hu=>repeat first|exact Upd.here _ _|apply Upd.there|apply Upd.app);(case hν'=>exact aE)))
  all_goals refine Dt [5] ?_
  all_goals ((apply d_store 6;(case hi=>rfl);(case hr=>kernel_rfl);(case hL=>infer_instance);(case hp|hx|hc|hsz|h1=>rfl);(case hb=>exact aM);(case hfit=>first|exact Nat.le_of_ble_eq_true rfl|rfl);(case hov=>(first|((repeat (first|with_reducible exact ov_nil|apply ov_cons|apply ov_there));done)|rfl));(case hu=>repeat first|exact Upd.here _ _|apply Upd.there|apply Upd.app);(case hν'=>exact aE)))
  all_goals refine Dd ?_
  repeat' (first|refine Wa ?_|(refine Wc ⟨?_,?_⟩<;>first|exact True.intro|intro h)|refine Wr ?_|(refine Wb ?_;intro b)|fail)
  refine Dz [(b7,.cells [.int .i64 client,.int .i64 seq,.int .i64 0,.bool hb,.string f.val,.int .i64 0].toArray 66 (0,0))] ?_
  all_goals refine Dt [0,1,2] ?_
  all_goals ((apply d_store 3;(case hi=>rfl);(case hr=>kernel_rfl);(case hL=>infer_instance);(case hp|hx|hc|hsz|h1=>rfl);(case hb=>exact aM);(case hfit=>first|exact Nat.le_of_ble_eq_true rfl|rfl);(case hov=>(first|((repeat (first|with_reducible exact ov_nil|apply ov_cons|apply ov_there));done)|rfl));(case hu=>repeat first|exact Upd.here _ _|apply Upd.there|apply Upd.app);(case hν'=>exact aE)))
  all_goals refine Dd ?_
  repeat' (first|refine Wa ?_|(refine Wc ⟨?_,?_⟩<;>first|exact True.intro|intro h)|refine Wr ?_|(refine Wb ?_;intro b)|fail)
  refine v_retM ν2 (outsM_tc (sz1:=6) (vs1:=[.int .i64 client,.int .i64 seq,.int .i64 0,.bool hb,.string f.val,.int .i64 0]) (e1:=66) rfl rfl rfl aM rfl) (List.sublist_append_left _ _) ⟨rfl,_,rfl,hg2⟩
 ·rw [if_neg (by assumption),if_neg (by assumption),if_neg (by assumption)]
  refine Dz [(b7,.cells [.int .i64 client,.int .i64 seq,.int .i64 8,.bool false,.string ByteArray.empty,.int .i64 0].toArray 66 (0,0))] ?_
  all_goals refine Dt [0,1,2] ?_
  all_goals ((apply d_store 3;(case hi=>rfl);(case hr=>kernel_rfl);(case hL=>infer_instance);(case hp|hx|hc|hsz|h1=>rfl);(case hb=>exact aM);(case hfit=>first|exact Nat.le_of_ble_eq_true rfl|rfl);(case hov=>(first|((repeat (first|with_reducible exact ov_nil|apply ov_cons|apply ov_there));done)|rfl));(case hu=>repeat first|exact Upd.here _ _|apply Upd.there|apply Upd.app);(case hν'=>exact aE)))
  all_goals refine Dd ?_
  repeat' (first|refine Wa ?_|(refine Wc ⟨?_,?_⟩<;>first|exact True.intro|intro h)|refine Wr ?_|(refine Wb ?_;intro b)|fail)
  refine v_retM ν1 (outsM_tc (sz1:=6) (vs1:=[.int .i64 client,.int .i64 seq,.int .i64 8,.bool false,.string ByteArray.empty,.int .i64 0]) (e1:=66) rfl rfl rfl aM rfl) (List.Sublist.cons _ (List.Sublist.cons _ (List.sublist_append_left _ _))) ⟨rfl,_,rfl,hg1⟩
def nextR (r:Int):Int:=min r 4294967295+1
theorem nextR_s (G:GH) (r:Int) (h:0≤r):Con Tryz.prog 262 #[.int .i64 r] G [] (Just (.int .i64 (nextR r)) G):=by
 apply Con.just
 (refine v_enter Tryz.func262 rfl Tryz.ntmps262 rfl ?_;intro B _)
 repeat' (first|refine Wa ?_|(refine Wc ⟨?_,?_⟩<;>first|exact True.intro|intro h)|fail)
 refine Vr ?_
 exact ⟨rfl,rfl⟩
theorem lendSearch2 {G:GH}{l:List Pr}{v:Value}{ν:OH}(y:Pr) (hg:GrP v l ν) (hr:RiseG ksP l) (hz:Sized l) (hk:y.key.size≤200):Con Tryz.prog 300 #[v,.agg y.cells.toArray,.func (.func 301) #[] #[]] G ν (Keeps (.tuple [.int .i64 (placeG ksP l (kn y.key):Nat),.bool (hitG ksP l (kn y.key))].toArray) G ν) :=
 Con.lendJ fun G' _ h2=>prSearch2_s y (row_of_grow Pr.len hg h2) hr (fun x hx=>(hz x hx).1) hk
theorem set_s {G:GH}{l:List Pr}{v:Value}{ν:OH}(p:Pr) (hg:GrP v l ν) (hr:RiseW ksP l) (hz:Sized l) (hk:p.key.size≤200) (hn:l.length≤200):Con Tryz.prog 261 #[v,.agg p.cells.toArray] G ν (fun r G' μ'=>G'=G∧GrP r (withG ksP l p) μ'):=by
 have hrg:=riseG_pw.2 hr
 have qp:=lendSearch2 (G:=G) p hg hrg hz hk
 have hpl:=placeG_le ksP l (kn p.key)
 have hw:=ins_with hr p
 rw [← hw]
 cases hh:hitG ksP l (kn p.key) with
 | true =>
  have hlt:=hitG_lt hh
  rw [if_pos rfl]
  rw [hh] at qp
  obtain ⟨hxl,⟨rfl,h0,rfl⟩|⟨b,cap,spare,rfl,rfl,hc1,hc2,hc3⟩⟩:=hg
  ·omega
  have hov:=rowC_set Pr.len l _ hlt p spare
  clear hw
  generalize placeG ksP l (kn p.key)=i at *
  have hlen:=rowC_length Pr.len l
  (refine v_enter Tryz.func261 rfl Tryz.ntmps261 rfl ?_;intro B _)
  repeat' (first|apply v_box (zs:=p.cells);(case hx|hz|hd=>rfl);intro bp|apply v_pure;(case hop=>apply p_idxOwn2;(case hx|hi=>rfl);(case h=>omega));(case hd=>rfl)|refine Wa ?_|(refine Wc ⟨?_,?_⟩<;>first|exact True.intro|intro h)|apply v_callK (hs:=qp) (μ2:=[(bp,.cells p.cells.toArray 257 (0,0))]);(case ha=>rfl);(case hp=>exact List.Perm.swap _ _ _);(case hd=>rfl)|apply v_store (us:=p.cells);(case hp|hx|hc|hsz|h1=>rfl);(case hb=>exact aM);(case hfit=>rw [List.length_append,hlen,Pr.len];omega);(case hov=>exact hov);(case hu=>repeat first|exact Upd.here _ _|apply Upd.there)|refine Wr ?_|(refine Wb ?_;intro b)|fail)
  refine v_ret [(b,_)] (outsA1 rfl rfl) (List.Sublist.cons _ (List.Sublist.refl _)) ⟨rfl,?_⟩
  have hsl:(l.set i p).length=l.length:=List.length_set ..
  unfold GrP
  simp only [hsl]
  exact ⟨by rw [rowC_length Pr.len,hsl],.inr ⟨b,cap,spare,rfl,rfl,hc1,hc2,by rw [List.length_append,rowC_length Pr.len,hsl];rw [List.length_append,hlen] at hc3;exact hc3⟩⟩
 | false =>
  rw [hh] at qp
  rw [if_neg (by simp)]
  obtain ⟨A,c,rfl,hA1,hA2⟩:=hg.shape
  simp only [maxLen] at hA2
  have hq:=fun b2=>prInsert_s (G:=G) p b2 (placeG ksP l (kn p.key)) hg hpl hn
  have hil:(l.take (placeG ksP l (kn p.key))++p::l.drop (placeG ksP l (kn p.key))).length=l.length+1:=by
   rw [List.length_append,List.length_cons,List.length_take,List.length_drop];omega
  clear hw
  generalize placeG ksP l (kn p.key)=i at *
  (refine v_enter Tryz.func261 rfl Tryz.ntmps261 rfl ?_;intro B _)
  repeat' (first|apply v_box (zs:=p.cells);(case hx|hz|hd=>rfl);intro bp|refine Wa ?_|(refine Wc ⟨?_,?_⟩<;>first|exact True.intro|intro h)|apply v_callK (hs:=qp) (μ2:=[(bp,.cells p.cells.toArray 257 (0,0))]);(case ha=>rfl);(case hp=>exact (List.perm_append_comm (l₁:=[_])));(case hd=>rfl)|refine Wr ?_|(refine Wb ?_;intro b)|fail)
  refine v_call (μ1:=ν++[(b,.cells p.cells.toArray 257 (0,0))]) (μ2:=[(bp,.cells p.cells.toArray 257 (0,0))]) rfl (hq b) ?_ rfl ?_
  ·exact aV
  rintro v' G1 ν1 - ⟨hG1,hg1⟩
  subst hG1
  repeat' (first|refine Wa ?_|(refine Wc ⟨?_,?_⟩<;>first|exact True.intro|intro h)|refine Wr ?_|(refine Wb ?_;intro b)|fail)
  refine v_ret ν1 (outsA1 rfl rfl) (List.sublist_append_left _ _) ⟨rfl,?_⟩
  unfold GrP
  rw [hil]
  exact hg1
theorem lendFind {G:GH}{l:List Pr}{v:Value}{ν:OH}(k:ByteArray) (hg:GrP v l ν) (hr:RiseG ksP l) (hz:Sized l) (hk:k.size≤200):Con Tryz.prog 257 #[v,.string k] G ν (Keeps (.tuple [.agg (findP l (kn k)).cells.toArray,.bool (hitG ksP l (kn k))].toArray) G ν) :=
 Con.lendJ fun G' _ h2=>find_s k (row_of_grow Pr.len hg h2) hr hz hk
theorem findP_rev {l:List Pr}(h:∀ x∈l,0≤x.rev) (n:Int):0≤(findP l n).rev:=by
 unfold findP
 split
 ·exact h _ (List.getElem_mem _)
 ·exact Int.le_refl _
noncomputable def casP (l:List Pr) (c:Cm):List Pr×An :=
 if hitG ksP l (kn c.key)=false then (l,{ ans0 c with err:=10 })
 else if (findP l (kn c.key)).val=c.old then (withG ksP l ⟨c.key,c.val,nextR (findP l (kn c.key)).rev⟩,{ ans0 c with found:=true,val:=(findP l (kn c.key)).val,rev:=nextR (findP l (kn c.key)).rev })
 else (l,{ ans0 c with err:=15,found:=true,val:=(findP l (kn c.key)).val,rev:=(findP l (kn c.key)).rev })
theorem cas_s {G:GH}{l:List Pr}{v:Value}{ν:OH}(c:Cm) (hg:GrP v l ν) (hr:RiseW ksP l) (hz:Sized l) (hk:c.key.size≤200) (hn:l.length≤200) (hrev:∀ x∈l,0≤x.rev) :
 Con Tryz.prog 260 #[v,.agg c.cells.toArray] G ν (fun r G' μ'=>G'=G∧∃ v',r=.tuple [v',.agg (casP l c).2.cells.toArray].toArray∧GrP v' (casP l c).1 μ'):=by
 have hrg:=riseG_pw.2 hr
 have q2:=lendFind (G:=G) c.key hg hrg hz hk
 have hfr:=findP_rev hrev (kn c.key)
 have qn:=nextR_s G _ hfr
 unfold casP
 generalize findP l (kn c.key)=f at *
 have q3:=set_s (G:=G) ⟨c.key,c.val,nextR f.rev⟩ hg hr hz hk hn
 generalize hitG ksP l (kn c.key)=hb at *
 generalize withG ksP l ⟨c.key,c.val,nextR f.rev⟩=lw at *
 generalize nextR f.rev=nr at *
 obtain ⟨kind,client,seq,key,val,old,node⟩:=c
 simp only at *
 have eb:dec (f.val=old)=decide (f.val=old):=dec_eq
 (refine v_enter Tryz.func260 rfl Tryz.ntmps260 rfl ?_;intro B _)
 cases hb with
 | false =>
  rw [if_pos rfl]
  repeat' (first|apply v_box (zs:=Cm.cells ⟨kind,client,seq,key,val,old,node⟩);(case hx|hz|hd=>rfl);intro bc|apply v_alloc (d:=5);(case hz|hd=>rfl);intro b5|apply v_alloc (d:=6);(case hz|hd=>rfl);intro b7|apply v_alloc (d:=7);(case hz|hd=>rfl);intro b8|refine Wa ?_|(refine Wc ⟨?_,?_⟩<;>first|exact True.intro|intro h)|apply v_callK (hs:=q2) (μ2:=[(b7,.cells [.int .i64 client,.int .i64 seq,.int .i64 0,.bool false,.string ByteArray.empty,.int .i64 0].toArray 66 (0,0)),(b5,.cells [.int .i64 0,.int .i64 0,.int .i64 0,.bool false,.string ByteArray.empty,.int .i64 0].toArray 66 (0,0)),(bc,.cells (Cm.cells ⟨kind,client,seq,key,val,old,node⟩).toArray 41 (0,0))]);(case ha=>rfl);(case hp=>exact aV);(case hd=>rfl)|refine Wr ?_|(refine Wb ?_;intro b)|fail)
  refine Dz [(b7,.cells [.int .i64 client,.int .i64 seq,.int .i64 10,.bool false,.string ByteArray.empty,.int .i64 0].toArray 66 (0,0))] ?_
  all_goals refine Dt [0,1,2] ?_
  all_goals ((apply d_store 3;(case hi=>rfl);(case hr=>kernel_rfl);(case hL=>infer_instance);(case hp|hx|hc|hsz|h1=>rfl);(case hb=>exact aM);(case hfit=>first|exact Nat.le_of_ble_eq_true rfl|rfl);(case hov=>(first|((repeat (first|with_reducible exact ov_nil|apply ov_cons|apply ov_there));done)|rfl));(case hu=>repeat first|exact Upd.here _ _|apply Upd.there|apply Upd.app);(case hν'=>exact aE)))
  all_goals refine Dd ?_
  repeat' (first|refine Wa ?_|(refine Wc ⟨?_,?_⟩<;>first|exact True.intro|intro h)|refine Wr ?_|(refine Wb ?_;intro b)|fail)
  refine v_retM ν (outsM_tc (sz1:=6) (vs1:=[.int .i64 client,.int .i64 seq,.int .i64 10,.bool false,.string ByteArray.empty,.int .i64 0]) (e1:=66) rfl rfl rfl aM rfl) (List.Sublist.cons _ (List.Sublist.cons _ (List.Sublist.cons _ (List.Sublist.cons _ (List.Sublist.refl _))))) ⟨rfl,_,rfl,hg⟩
 | true =>
  rw [if_neg (by simp)]
  repeat' (first|apply v_box (zs:=Cm.cells ⟨kind,client,seq,key,val,old,node⟩);(case hx|hz|hd=>rfl);intro bc|apply v_alloc (d:=5);(case hz|hd=>rfl);intro b5|apply v_alloc (d:=6);(case hz|hd=>rfl);intro b7|apply v_alloc (d:=7);(case hz|hd=>rfl);intro b8|refine Wa ?_|(refine Wc ⟨?_,?_⟩<;>first|exact True.intro|intro h)|apply v_callK (hs:=q2) (μ2:=[(b7,.cells [.int .i64 client,.int .i64 seq,.int .i64 0,.bool false,.string ByteArray.empty,.int .i64 0].toArray 66 (0,0)),(b5,.cells [.int .i64 0,.int .i64 0,.int .i64 0,.bool false,.string ByteArray.empty,.int .i64 0].toArray 66 (0,0)),(bc,.cells (Cm.cells ⟨kind,client,seq,key,val,old,node⟩).toArray 41 (0,0))]);(case ha=>rfl);(case hp=>exact aV);(case hd=>rfl)|refine Wr ?_|(refine Wb ?_;intro b)|fail)
  refine Dz [(b8,.cells [.string f.key,.string f.val,.int .i64 f.rev].toArray 257 (0,0))] ?_
  all_goals refine Dt [0,1,2,3,4] ?_
  all_goals ((apply d_store 5;(case hi=>rfl);(case hr=>kernel_rfl);(case hL=>infer_instance);(case hp|hx|hc|hsz|h1=>rfl);(case hb=>exact aM);(case hfit=>first|exact Nat.le_of_ble_eq_true rfl|rfl);(case hov=>(first|((repeat (first|with_reducible exact ov_nil|apply ov_cons|apply ov_there));done)|rfl));(case hu=>repeat first|exact Upd.here _ _|apply Upd.there|apply Upd.app);(case hν'=>exact aE)))
  all_goals refine Dt [6] ?_
  all_goals ((apply d_store 7;(case hi=>rfl);(case hr=>kernel_rfl);(case hL=>infer_instance);(case hp|hx|hc|hsz|h1=>rfl);(case hb=>exact aM);(case hfit=>first|exact Nat.le_of_ble_eq_true rfl|rfl);(case hov=>(first|((repeat (first|with_reducible exact ov_nil|apply ov_cons|apply ov_there));done)|rfl));(case hu=>repeat first|exact Upd.here _ _|apply Upd.there|apply Upd.app);(case hν'=>exact aE)))
  all_goals refine Dt [8] ?_
  all_goals ((apply d_store 9;(case hi=>rfl);(case hr=>kernel_rfl);(case hL=>infer_instance);(case hp|hx|hc|hsz|h1=>rfl);(case hb=>exact aM);(case hfit=>first|exact Nat.le_of_ble_eq_true rfl|rfl);(case hov=>(first|((repeat (first|with_reducible exact ov_nil|apply ov_cons|apply ov_there));done)|rfl));(case hu=>repeat first|exact Upd.here _ _|apply Upd.there|apply Upd.app);(case hν'=>exact aE)))
  all_goals refine Dd ?_
  repeat' (first|refine Wa ?_|(refine Wc ⟨?_,?_⟩<;>first|exact True.intro|intro h)|refine Wr ?_|(refine Wb ?_;intro b)|fail)
  ·rw [if_neg (by assumption)]
   refine Dz [(b7,.cells [.int .i64 client,.int .i64 seq,.int .i64 15,.bool true,.string f.val,.int .i64 f.rev].toArray 66 (0,0))] ?_
   all_goals refine Dt [0,1,2] ?_
   all_goals ((apply d_store 3;(case hi=>rfl);(case hr=>kernel_rfl);(case hL=>infer_instance);(case hp|hx|hc|hsz|h1=>rfl);(case hb=>exact aM);(case hfit=>first|exact Nat.le_of_ble_eq_true rfl|rfl);(case hov=>(first|((repeat (first|with_reducible exact ov_nil|apply ov_cons|apply ov_there));done)|rfl));(case hu=>repeat first|exact Upd.here _ _|apply Upd.there|apply Upd.app);(case hν'=>exact aE)))
   all_goals refine Dd ?_
   repeat' (first|refine Wa ?_|(refine Wc ⟨?_,?_⟩<;>first|exact True.intro|intro h)|refine Wr ?_|(refine Wb ?_;intro b)|fail)
   refine v_retM ν (outsM_tc (sz1:=6) (vs1:=[.int .i64 client,.int .i64 seq,.int .i64 15,.bool true,.string f.val,.int .i64 f.rev]) (e1:=66) rfl rfl rfl aM rfl) (List.Sublist.cons _ (List.Sublist.cons _ (List.Sublist.cons _ (List.Sublist.cons _ (List.Sublist.refl _))))) ⟨rfl,_,rfl,hg⟩
  ·rw [if_pos (by assumption)]
   repeat' (first|refine Wa ?_|(refine Wc ⟨?_,?_⟩<;>first|exact True.intro|intro h)|refine cJ qn ?_|refine Wr ?_|(refine Wb ?_;intro b)|fail)
   refine Dz [(b7,.cells [.int .i64 client,.int .i64 seq,.int .i64 0,.bool true,.string f.val,.int .i64 nr].toArray 66 (0,0)),(bc,.cells (Cm.cells ⟨kind,client,seq,key,val,old,node⟩).toArray 41 (0,0))] ?_
   all_goals refine Dt [0,1,2,3,4,5,6,7,9] ?_
   all_goals (first|((apply d_call 8 (hs:=q3) (μ1:=ν) (μ2:=[(b8,.cells [.string f.key,.string f.val,.int .i64 f.rev].toArray 257 (0,0)),(b7,.cells [.int .i64 client,.int .i64 seq,.int .i64 0,.bool true,.string f.val,.int .i64 nr].toArray 66 (0,0)),(b5,.cells [.int .i64 0,.int .i64 0,.int .i64 0,.bool false,.string ByteArray.empty,.int .i64 0].toArray 66 (0,0)),(bc,.cells (Cm.cells ⟨kind,client,seq,key,val,old,node⟩).toArray 41 (0,0))]);(case hi=>rfl);(case hr=>kernel_rfl);(case ha=>rfl);(case hp=>exact aV);(case hd=>rfl);(case hν'=>intro e he;simp only [List.mem_cons,List.not_mem_nil,or_false] at he;rcases he with rfl|rfl<;>simp);rintro v2 G2 ν2 - ⟨hG2,hg2⟩;subst hG2))|apply d_store 8;(case hi=>rfl);(case hr=>kernel_rfl);(case hL=>infer_instance);(case hp|hx|hc|hsz|h1=>rfl);(case hb=>exact aM);(case hfit=>first|exact Nat.le_of_ble_eq_true rfl|rfl);(case hov=>(first|((repeat (first|with_reducible exact ov_nil|apply ov_cons|apply ov_there));done)|rfl));(case hu=>repeat first|exact Upd.here _ _|apply Upd.there|apply Upd.app);(case hν'=>exact aE)|fail)
   all_goals refine Dt [10] ?_
   all_goals (first|((apply d_call 11 (hs:=q3) (μ1:=ν) (μ2:=[(b8,.cells [.string f.key,.string f.val,.int .i64 f.rev].toArray 257 (0,0)),(b7,.cells [.int .i64 client,.int .i64 seq,.int .i64 0,.bool true,.string f.val,.int .i64 nr].toArray 66 (0,0)),(b5,.cells [.int .i64 0,.int .i64 0,.int .i64 0,.bool false,.string ByteArray.empty,.int .i64 0].toArray 66 (0,0)),(bc,.cells (Cm.cells ⟨kind,client,seq,key,val,old,node⟩).toArray 41 (0,0))]);(case hi=>rfl);(case hr=>kernel_rfl);(case ha=>rfl);(case hp=>exact aV);(case hd=>rfl);(case hν'=>intro e he;simp only [List.mem_cons,List.not_mem_nil,or_false] at he;rcases he with rfl|rfl<;>simp);rintro v2 G2 ν2 - ⟨hG2,hg2⟩;subst hG2))|apply d_store 11;(case hi=>rfl);(case hr=>kernel_rfl);(case hL=>infer_instance);(case hp|hx|hc|hsz|h1=>rfl);(case hb=>exact aM);(case hfit=>first|exact Nat.le_of_ble_eq_true rfl|rfl);(case hov=>(first|((repeat (first|with_reducible exact ov_nil|apply ov_cons|apply ov_there));done)|rfl));(case hu=>repeat first|exact Upd.here _ _|apply Upd.there|apply Upd.app);(case hν'=>exact aE)|fail)
   all_goals refine Dd ?_
   repeat' (first|refine Wa ?_|(refine Wc ⟨?_,?_⟩<;>first|exact True.intro|intro h)|refine Wr ?_|(refine Wb ?_;intro b)|fail)
   refine v_retM ν2 (outsM_tc (sz1:=6) (vs1:=[.int .i64 client,.int .i64 seq,.int .i64 0,.bool true,.string f.val,.int .i64 nr]) (e1:=66) rfl rfl rfl aM rfl) (List.sublist_append_left _ _) ⟨rfl,_,rfl,hg2⟩
theorem doOne_rise {l:List Pr}(hr:RiseW ksP l) (c:Cm):RiseW ksP (doOne l c).1:=by
 unfold doOne
 split
 ·split
  ·exact withG_rise hr _
  ·exact hr
 ·split
  ·exact hr
  ·split
   ·exact hr.sublist List.filter_sublist
   ·exact hr
theorem doOne_mem {l:List Pr}{c:Cm}{x:Pr}(h:x∈(doOne l c).1):x=⟨c.key,c.val,0⟩∨x∈l:=by
 unfold doOne at h
 split at h
 ·split at h
  ·exact withG_mem h
  ·exact .inr h
 ·split at h
  ·exact .inr h
  ·split at h
   ·exact .inr (List.mem_filter.1 h).1
   ·exact .inr h
theorem doOne_sized {l:List Pr}(hz:Sized l) {c:Cm}(hk:c.key.size≤200) (hv:c.val.size≤200):Sized (doOne l c).1:=fun x hx=>by
 rcases doOne_mem hx with rfl|hx
 ·exact ⟨hk,hv⟩
 ·exact hz x hx
theorem doOne_len {l:List Pr}(hr:RiseW ksP l) (c:Cm):(doOne l c).1.length≤l.length+1:=by
 unfold doOne
 split
 ·split
  ·simp only
   rw [withG_len hr]
   split<;>omega
  ·simp
 ·split
  ·simp
  ·split
   ·exact Nat.le_trans (List.length_filter_le _ _) (by omega)
   ·simp
noncomputable def doTwo (l:List Pr) (c:Cm):List Pr×An :=
 if c.kind=5 then casP l c
 else if c.kind=2∧(doOne l c).2.err=0 then (withG ksP (doOne l c).1 ⟨c.key,c.val,nextR (findP l (kn c.key)).rev⟩,(doOne l c).2)
 else doOne l c
theorem lendDoOne {G:GH}{l:List Pr}{v:Value}{ν:OH}(c:Cm) (hg:GrP v l ν) (hr:RiseW ksP l) (hz:Sized l) (hk:c.key.size≤200) (hn:l.length≤150) :
 Con Tryz.prog 218 #[v,.agg c.cells.toArray] G ν (fun r G' μ'=>G'=G∧∃ μ1,(∃ v',r=.tuple [v',.agg (doOne l c).2.cells.toArray].toArray∧GrP v' (doOne l c).1 μ1)∧μ'=ν++μ1) :=
 Con.lendF fun G' _ h2=>(doOne_s c (row_of_grow Pr.len hg h2) hr hz hk hn).mono fun _ _ _ ⟨_,h⟩=>h
theorem doTwo_s {G:GH}{l:List Pr}{sv:Value}(c:Cm) (hs:Prs G sv l) (hr:RiseW ksP l) (hz:Sized l) (hk:c.key.size≤200) (hv:c.val.size≤200) (hn:l.length≤150) (hrev:∀ x∈l,0≤x.rev) :
 Con Tryz.prog 219 #[sv,.agg c.cells.toArray] G [] (fun r G' μ'=>G'=G∧∃ v,r=.tuple [v,.agg (doTwo l c).2.cells.toArray].toArray∧GrP v (doTwo l c).1 μ'):=by
 have hrg:=riseG_pw.2 hr
 have q1:=prClone_s hs (by omega)
 have q2:=fun (v:Value) (ν:OH) (hg:GrP v l ν)=>lendFind (G:=G) c.key hg hrg hz hk
 have q3:=fun (v:Value) (ν:OH) (hg:GrP v l ν)=>lendDoOne (G:=G) c hg hr hz hk hn
 have q4:=fun (v:Value) (ν:OH) (hg:GrP v l ν)=>cas_s (G:=G) c hg hr hz hk (by omega) hrev
 have hlen:=doOne_len hr c
 have q5:=fun (v:Value) (ν:OH) (hg:GrP v (doOne l c).1 ν)=>set_s (G:=G) ⟨c.key,c.val,nextR (findP l (kn c.key)).rev⟩ hg (doOne_rise hr c) (doOne_sized hz hk hv) hk (by omega)
 have qn:=nextR_s G _ (findP_rev hrev (kn c.key))
 unfold doTwo
 generalize hitG ksP l (kn c.key)=hb at *
 generalize findP l (kn c.key)=f at *
 generalize casP l c=cp at *
 generalize doOne l c=dd at *
 obtain ⟨l1,d⟩:=dd
 obtain ⟨cl,ca⟩:=cp
 generalize nextR f.rev=nr at *
 obtain ⟨kind,client,seq,key,val,old,node⟩:=c
 simp only at *
 generalize withG ksP l1 ⟨key,val,nr⟩=lw at *
 (refine v_enter Tryz.func219 rfl Tryz.ntmps219 rfl ?_;intro B _)
 repeat' (first|apply v_box (zs:=Cm.cells ⟨kind,client,seq,key,val,old,node⟩);(case hx|hz|hd=>rfl);intro bc|apply v_alloc (d:=5);(case hz|hd=>rfl);intro b5|apply v_alloc (d:=7);(case hz|hd=>rfl);intro b7|apply v_alloc (d:=10);(case hz|hd=>rfl);intro b10|refine Wa ?_|(refine Wc ⟨?_,?_⟩<;>first|exact True.intro|intro h)|refine Wr ?_|(refine Wb ?_;intro b)|fail)
 refine v_call (μ1:=[]) (μ2:=_) rfl q1 (List.Perm.refl _) rfl ?_
 rintro v1 G1 ν1 - ⟨hG1,hg1⟩
 subst hG1
 have q2:=q2 v1 ν1 hg1
 have q3:=q3 v1 ν1 hg1
 have q4:=q4 v1 ν1 hg1
 repeat' (first|apply v_read;(case hop=>(apply r_loadNo;(case hx=>rfl);(case h=>exact aM);(case hd|hn=>rfl)));(case hd=>rfl)|refine Wa ?_|(refine Wc ⟨?_,?_⟩<;>first|exact True.intro|intro h)|refine Wr ?_|(refine Wb ?_;intro b)|fail)
 ·have h5:kind=5:=by assumption
  rw [if_pos h5]
  refine v_call (μ1:=ν1) (μ2:=[(b5,.cells [.int .i64 0,.int .i64 0,.int .i64 0,.bool false,.string ByteArray.empty,.int .i64 0].toArray 66 (0,0)),(bc,.cells (Cm.cells ⟨kind,client,seq,key,val,old,node⟩).toArray 41 (0,0))]) rfl q4 (List.Perm.refl _) rfl ?_
  rintro _ G2 ν2 - ⟨hG2,v2,rfl,hg2⟩
  subst hG2
  repeat' (first|refine Wa ?_|(refine Wc ⟨?_,?_⟩<;>first|exact True.intro|intro h)|refine Wr ?_|(refine Wb ?_;intro b)|fail)
  refine v_retM ν2 (outsM_tc (sz1:=6) (vs1:=[.int .i64 ca.client,.int .i64 ca.seq,.int .i64 ca.err,.bool ca.found,.string ca.val,.int .i64 ca.rev]) (e1:=66) rfl rfl rfl aM rfl) (List.sublist_append_left _ _) ⟨rfl,_,rfl,hg2⟩
 ·rw [if_neg (by assumption)]
  repeat' (first|apply v_alloc (d:=5);(case hz|hd=>rfl);intro b5|apply v_alloc (d:=7);(case hz|hd=>rfl);intro b7|apply v_alloc (d:=10);(case hz|hd=>rfl);intro b10|apply v_read;(case hop=>(apply r_loadNo;(case hx=>rfl);(case h=>exact aM);(case hd|hn=>rfl)));(case hd=>rfl)|refine Wa ?_|(refine Wc ⟨?_,?_⟩<;>first|exact True.intro|intro h)|apply v_callK (hs:=q2) (μ2:=[(b5,.cells [.int .i64 0,.int .i64 0,.int .i64 0,.bool false,.string ByteArray.empty,.int .i64 0].toArray 66 (0,0)),(bc,.cells (Cm.cells ⟨kind,client,seq,key,val,old,node⟩).toArray 41 (0,0))]);(case ha=>rfl);(case hp=>exact List.Perm.refl _);(case hd=>rfl)|refine Wr ?_|(refine Wb ?_;intro b)|fail)
  refine v_call (μ1:=ν1) (μ2:=[(b7,.cells [.string f.key,.string f.val,.int .i64 f.rev].toArray 257 (0,0)),(b5,.cells [.int .i64 0,.int .i64 0,.int .i64 0,.bool false,.string ByteArray.empty,.int .i64 0].toArray 66 (0,0)),(bc,.cells (Cm.cells ⟨kind,client,seq,key,val,old,node⟩).toArray 41 (0,0))]) rfl q3 aV rfl ?_
  rintro _ G2 _ - ⟨hG2,ν2,⟨v2,rfl,hg2⟩,rfl⟩
  subst hG2
  have q5:=q5 v2 ν2 hg2
  refine v_perm (ν:=ν2++[(b7,.cells [.string f.key,.string f.val,.int .i64 f.rev].toArray 257 (0,0)),(b5,.cells [.int .i64 0,.int .i64 0,.int .i64 0,.bool false,.string ByteArray.empty,.int .i64 0].toArray 66 (0,0)),(bc,.cells (Cm.cells ⟨kind,client,seq,key,val,old,node⟩).toArray 41 (0,0))]++ν1) aV ?_
  refine v_drop (List.sublist_append_left _ _) ?_
  repeat' (first|apply v_alloc (d:=5);(case hz|hd=>rfl);intro b5|apply v_alloc (d:=7);(case hz|hd=>rfl);intro b7|apply v_alloc (d:=10);(case hz|hd=>rfl);intro b10|apply v_read;(case hop=>(apply r_loadNo;(case hx=>rfl);(case h=>exact aM);(case hd|hn=>rfl)));(case hd=>rfl)|refine Wa ?_|(refine Wc ⟨?_,?_⟩<;>first|exact True.intro|intro h)|refine Wr ?_|(refine Wb ?_;intro b)|fail)
  ·rw [if_pos ⟨by assumption,by assumption⟩]
   refine Dz [(b7,.cells [.string f.key,.string f.val,.int .i64 f.rev].toArray 257 (0,0)),(bc,.cells (Cm.cells ⟨kind,client,seq,key,val,old,node⟩).toArray 41 (0,0))] ?_
   all_goals refine Dt [0,1,2,3,4,5,6] ?_
   all_goals (first|((apply d_callJ 7 (hs:=qn);(case hi=>rfl);(case hr=>kernel_rfl);(case ha|hd=>rfl)))|((apply d_call 7 (hs:=q5) (μ1:=ν2) (μ2:=(b10,.cells [.int .i64 d.client,.int .i64 d.seq,.int .i64 d.err,.bool d.found,.string d.val,.int .i64 d.rev].toArray 66 (0,0))::[(b7,.cells [.string f.key,.string f.val,.int .i64 f.rev].toArray 257 (0,0)),(b5,.cells [.int .i64 0,.int .i64 0,.int .i64 0,.bool false,.string ByteArray.empty,.int .i64 0].toArray 66 (0,0)),(bc,.cells (Cm.cells ⟨kind,client,seq,key,val,old,node⟩).toArray 41 (0,0))]);(case hi=>rfl);(case hr=>kernel_rfl);(case ha=>rfl);(case hp=>exact (List.perm_append_comm_assoc [(b10,.cells [.int .i64 d.client,.int .i64 d.seq,.int .i64 d.err,.bool d.found,.string d.val,.int .i64 d.rev].toArray 66 (0,0))] ν2 [(b7,.cells [.string f.key,.string f.val,.int .i64 f.rev].toArray 257 (0,0)),(b5,.cells [.int .i64 0,.int .i64 0,.int .i64 0,.bool false,.string ByteArray.empty,.int .i64 0].toArray 66 (0,0)),(bc,.cells (Cm.cells ⟨kind,client,seq,key,val,old,node⟩).toArray 41 (0,0))]));(case hd=>rfl);(case hν'=>intro e he;simp only [List.mem_cons,List.not_mem_nil,or_false] at he;rcases he with rfl|rfl<;>simp);rintro v3 G3 ν3 - ⟨hG3,hg3⟩;subst hG3))|fail)
   all_goals refine Dt [8] ?_
   all_goals (first|((apply d_callJ 9 (hs:=qn);(case hi=>rfl);(case hr=>kernel_rfl);(case ha|hd=>rfl)))|((apply d_call 9 (hs:=q5) (μ1:=ν2) (μ2:=(b10,.cells [.int .i64 d.client,.int .i64 d.seq,.int .i64 d.err,.bool d.found,.string d.val,.int .i64 d.rev].toArray 66 (0,0))::[(b7,.cells [.string f.key,.string f.val,.int .i64 f.rev].toArray 257 (0,0)),(b5,.cells [.int .i64 0,.int .i64 0,.int .i64 0,.bool false,.string ByteArray.empty,.int .i64 0].toArray 66 (0,0)),(bc,.cells (Cm.cells ⟨kind,client,seq,key,val,old,node⟩).toArray 41 (0,0))]);(case hi=>rfl);(case hr=>kernel_rfl);(case ha=>rfl);(case hp=>exact (List.perm_append_comm_assoc [(b10,.cells [.int .i64 d.client,.int .i64 d.seq,.int .i64 d.err,.bool d.found,.string d.val,.int .i64 d.rev].toArray 66 (0,0))] ν2 [(b7,.cells [.string f.key,.string f.val,.int .i64 f.rev].toArray 257 (0,0)),(b5,.cells [.int .i64 0,.int .i64 0,.int .i64 0,.bool false,.string ByteArray.empty,.int .i64 0].toArray 66 (0,0)),(bc,.cells (Cm.cells ⟨kind,client,seq,key,val,old,node⟩).toArray 41 (0,0))]));(case hd=>rfl);(case hν'=>intro e he;simp only [List.mem_cons,List.not_mem_nil,or_false] at he;rcases he with rfl|rfl<;>simp);rintro v3 G3 ν3 - ⟨hG3,hg3⟩;subst hG3))|fail)
   all_goals refine Dt [10] ?_
   all_goals refine Dd ?_
   repeat' (first|refine Wa ?_|(refine Wc ⟨?_,?_⟩<;>first|exact True.intro|intro h)|refine Wr ?_|(refine Wb ?_;intro b)|fail)
   refine Dz [(b10,.cells [.int .i64 d.client,.int .i64 d.seq,.int .i64 d.err,.bool d.found,.string d.val,.int .i64 d.rev].toArray 66 (0,0))] ?_
   all_goals refine Dt [0,1,2] ?_
   all_goals ((apply d_store 3;(case hi=>rfl);(case hr=>kernel_rfl);(case hL=>infer_instance);(case hp|hx|hc|hsz|h1=>rfl);(case hb=>exact aM);(case hfit=>first|exact Nat.le_of_ble_eq_true rfl|rfl);(case hov=>(first|((repeat (first|with_reducible exact ov_nil|apply ov_cons|apply ov_there));done)|rfl));(case hu=>repeat first|exact Upd.here _ _|apply Upd.there|apply Upd.app);(case hν'=>exact aE)))
   all_goals refine Dd ?_
   repeat' (first|refine Wa ?_|(refine Wc ⟨?_,?_⟩<;>first|exact True.intro|intro h)|refine Wr ?_|(refine Wb ?_;intro b)|fail)
   refine v_retM ν3 (outsM_tc (sz1:=6) (vs1:=[.int .i64 d.client,.int .i64 d.seq,.int .i64 d.err,.bool d.found,.string d.val,.int .i64 d.rev]) (e1:=66) rfl rfl rfl aM rfl) (List.sublist_append_left _ _) ⟨rfl,_,rfl,hg3⟩
  ·rw [if_neg (fun h=>absurd h.2 (by assumption))]
   refine Dz [(b10,.cells [.int .i64 d.client,.int .i64 d.seq,.int .i64 d.err,.bool d.found,.string d.val,.int .i64 d.rev].toArray 66 (0,0))] ?_
   all_goals refine Dt [0,1,2] ?_
   all_goals ((apply d_store 3;(case hi=>rfl);(case hr=>kernel_rfl);(case hL=>infer_instance);(case hp|hx|hc|hsz|h1=>rfl);(case hb=>exact aM);(case hfit=>first|exact Nat.le_of_ble_eq_true rfl|rfl);(case hov=>(first|((repeat (first|with_reducible exact ov_nil|apply ov_cons|apply ov_there));done)|rfl));(case hu=>repeat first|exact Upd.here _ _|apply Upd.there|apply Upd.app);(case hν'=>exact aE)))
   all_goals refine Dd ?_
   repeat' (first|refine Wa ?_|(refine Wc ⟨?_,?_⟩<;>first|exact True.intro|intro h)|refine Wr ?_|(refine Wb ?_;intro b)|fail)
   refine v_retM ν2 (outsM_tc (sz1:=6) (vs1:=[.int .i64 d.client,.int .i64 d.seq,.int .i64 d.err,.bool d.found,.string d.val,.int .i64 d.rev]) (e1:=66) rfl rfl rfl aM rfl) (List.Sublist.cons _ (List.sublist_append_left _ _)) ⟨rfl,_,rfl,hg2⟩
  ·rw [if_neg (fun h=>absurd h.1 (by assumption))]
   refine Dz [(b10,.cells [.int .i64 d.client,.int .i64 d.seq,.int .i64 d.err,.bool d.found,.string d.val,.int .i64 d.rev].toArray 66 (0,0))] ?_
   all_goals refine Dt [0,1,2] ?_
   all_goals ((apply d_store 3;(case hi=>rfl);(case hr=>kernel_rfl);(case hL=>infer_instance);(case hp|hx|hc|hsz|h1=>rfl);(case hb=>exact aM);(case hfit=>first|exact Nat.le_of_ble_eq_true rfl|rfl);(case hov=>(first|((repeat (first|with_reducible exact ov_nil|apply ov_cons|apply ov_there));done)|rfl));(case hu=>repeat first|exact Upd.here _ _|apply Upd.there|apply Upd.app);(case hν'=>exact aE)))
   all_goals refine Dd ?_
   repeat' (first|refine Wa ?_|(refine Wc ⟨?_,?_⟩<;>first|exact True.intro|intro h)|refine Wr ?_|(refine Wb ?_;intro b)|fail)
   refine v_retM ν2 (outsM_tc (sz1:=6) (vs1:=[.int .i64 d.client,.int .i64 d.seq,.int .i64 d.err,.bool d.found,.string d.val,.int .i64 d.rev]) (e1:=66) rfl rfl rfl aM rfl) (List.Sublist.cons _ (List.sublist_append_left _ _)) ⟨rfl,_,rfl,hg2⟩
def AnNum (a:An):Prop:=(1≤a.client∧a.client≤8)∧(1≤a.seq∧a.seq≤4294967296)∧(0≤a.err∧a.err≤17)∧(0≤a.rev∧a.rev≤4294967296)
noncomputable def ansI (a:An):Int:=if (1≤a.client∧a.client≤8)∧(1≤a.seq∧a.seq≤4294967296)∧(0≤a.err∧a.err≤17)∧(0≤a.rev∧a.rev≤4294967296) then (if valB a.val=true then 0 else 7) else 6
theorem ansI_zero {a:An}:ansI a=0↔AnNum a∧valB a.val=true:=by
 unfold ansI AnNum
 by_cases h:(1≤a.client∧a.client≤8)∧(1≤a.seq∧a.seq≤4294967296)∧(0≤a.err∧a.err≤17)∧(0≤a.rev∧a.rev≤4294967296)
 ·rw [if_pos h]
  by_cases hv:valB a.val=true
  ·rw [if_pos hv];exact ⟨fun _=>⟨h,hv⟩,fun _=>rfl⟩
  ·rw [if_neg hv];exact ⟨fun e=>(by omega),fun e=>absurd e.2 hv⟩
 ·rw [if_neg h]
  exact ⟨fun e=>(by omega),fun e=>absurd e.1 h⟩
theorem within_s (G:GH) (n a b:Int):Con Tryz.prog 239 #[.int .i64 n,.int .i64 a,.int .i64 b] G [] (Just (.bool (decide (a≤n∧n≤b))) G):=by
 apply Con.just
 (refine v_enter Tryz.func239 rfl Tryz.ntmps239 rfl ?_;intro B _)
 repeat' (first|refine Wa ?_|(refine Wc ⟨?_,?_⟩<;>first|exact True.intro|intro h)|fail)
 all_goals
  (refine Vr ?_
   refine ⟨?_,rfl⟩
   congr 1
   rw [Bool.eq_iff_iff]
   simp [dec_eq]
   try omega)
theorem ansCheck_s {G:GH}(hT:TabsG G) (a:An) (hv:a.val.size≤200):Con Tryz.prog 192 #[.agg a.cells.toArray] G [] (Just (.int .i64 (ansI a)) G):=by
 have q1:=within_s G a.client 1 8
 have q2:=within_s G a.seq 1 4294967296
 have q3:=within_s G a.err 0 17
 have q4:=within_s G a.rev 0 4294967296
 have qv:=val_s (s:=a.val) hT (by omega)
 unfold ansI
 apply Con.just
 obtain ⟨client,seq,err,found,val,rev⟩:=a
 simp only at *
 generalize hvb:valB val=vb at *
 (refine v_enter Tryz.func192 rfl Tryz.ntmps192 rfl ?_;intro B _)
 repeat' (first|apply v_box (zs:=An.cells ⟨client,seq,err,found,val,rev⟩);(case hx|hz|hd=>rfl);intro b|refine Wa ?_|(refine Wc ⟨?_,?_⟩<;>first|exact True.intro|intro h)|apply v_callFJ0 (hs:=q1);(case hx|ha|hd=>rfl)|apply v_callFJ0 (hs:=q2);(case hx|ha|hd=>rfl)|apply v_callFJ0 (hs:=q3);(case hx|ha|hd=>rfl)|apply v_callFJ0 (hs:=q4);(case hx|ha|hd=>rfl)|refine cJ qv ?_|refine Wr ?_|(refine Wb ?_;intro b)|fail)
 all_goals
  (refine Vr ?_
   refine ⟨?_,rfl⟩
   (repeat' split)<;>first|rfl|(exfalso;omega)|(exfalso;simp_all;done))
def SsOk (x:Ss):Prop:=x.last.client=x.client∧x.last.seq=x.seq∧ansI x.last=0
def AdjS (l:List Ss):Prop := ∀ i (h:i<l.length) (h0:0<i),ksS (l[i-1]'(by omega))<ksS l[i]
def SesP (l:List Ss):Prop:=AdjS l∧∀ x∈l,SsOk x
noncomputable instance (l:List Ss):Decidable (SesP l):=Classical.propDecidable _
def SizedS (l:List Ss):Prop := ∀ x∈l,x.last.val.size≤200
theorem adjS_rise {l:List Ss}(h:AdjS l):RiseG ksS l:=by
 intro i j hj hij
 induction j with
 | zero=>omega
 | succ j ih =>
  have h1:=h (j+1) hj (by omega)
  simp only [Nat.add_sub_cancel] at h1
  by_cases e:i=j
  ·subst e;exact h1
  ·have:=ih (by omega) (by omega)
   omega
theorem rise_adjS {l:List Ss}(h:RiseG ksS l):AdjS l:=fun i hi h0=>h (i-1) i hi (by omega)
set_option maxHeartbeats 1000000 in
theorem sesCheck_s {G:GH}(hT:TabsG G) {l:List Ss}{sv:Value}(hs:Sss G sv l) (hz:SizedS l):Con Tryz.prog 162 #[sv] G [] (Just (.int .i64 (if SesP l then 0 else 3)) G):=by
 obtain ⟨A,c,rfl,hlc,hcm,hsome,hcp⟩:=rowOpen hs
 simp only [maxLen] at hcm
 apply Con.just
 (refine v_enter Tryz.func162 rfl Tryz.ntmps162 rfl ?_;intro B _)
 repeat' (first|refine Wa ?_|(refine Wc ⟨?_,?_⟩<;>first|exact True.intro|intro h)|refine Wr ?_|(refine Wb ?_;intro b)|fail)
 refine v_loop [7,6,5,0] (fun us G' μ'=>G'=G∧μ'=[]∧∃ k:Nat,k≤l.length∧us=[Value.int .i64 (k:Nat),.int .i64 (l.length:Nat),.slice A l.length c,.slice A l.length c]∧∀ i (h:i<l.length),i<k→(∀ h0:0<i,ksS (l[i-1]'(by omega))<ksS l[i])∧SsOk l[i]) (fun us=>l.length-(headI us).toNat) rfl ⟨rfl,rfl,0,by omega,rfl,by omega⟩ ?_
 rintro us G' _ ⟨rfl,rfl,k,hk,rfl,hno⟩
 by_cases hlt:k<l.length
 ·have e1:((k:Nat):Int).toNat=k:=by omega
  have hA:=hsome (by omega)
  have hck:=hcp k hlt
  have hz1:=hz _ (List.getElem_mem hlt)
  obtain ⟨pc,hpc,hpe⟩:∃ pc:Int,(0<k→GH.cell? G' (((adr A).add ((((k:Nat):Int)-1).toNat*8)).add 0)=some (.int .i64 pc))∧∀ h0:0<k,pc=(l[k-1]'(by omega)).client:=by
   by_cases h0:0<k
   ·have e2:(((k:Nat):Int)-1).toNat=k-1:=by omega
    exact ⟨_,fun _=>by rw [e2];exact (hcp (k-1) (by omega)).cell (j:=0) rfl,fun _=>rfl⟩
   ·exact ⟨0,fun h=>absurd h h0,fun h=>absurd h h0⟩
  have hin:∀ P:Prop,SesP l→(((∀ h0:0<k,pc<(l[k]).client)∧SsOk l[k])→P)→P:=fun P h hp=>hp ⟨fun h0=>by rw [hpe h0];exact h.1 k hlt h0,h.2 _ (List.getElem_mem hlt)⟩
  have hnx:(∀ h0:0<k,pc<(l[k]).client)→SsOk l[k]→∀ i (h:i<l.length),i<k+1→(∀ h0:0<i,ksS (l[i-1]'(by omega))<ksS l[i])∧SsOk l[i]:=fun a1 a2 i hi hik=>by
   by_cases e:i=k
   ·subst e
    exact ⟨fun h0=>by have:=a1 h0;rw [hpe h0] at this;exact this,a2⟩
   ·exact hno i hi (by omega)
  have qa:=ansCheck_s (a:=(l[k]).last) hT hz1
  clear hpe
  generalize l[k]=x at *
  obtain ⟨client,seq,⟨lc,ls,le,lf,lv,lr⟩⟩:=x
  unfold SsOk at hin hnx
  simp only at *
  generalize ansI ⟨lc,ls,le,lf,lv,lr⟩=ai at *
  repeat' (first|refine Wa ?_|(refine Wc ⟨?_,?_⟩<;>first|exact True.intro|intro h)|refine RN hck ?_|refine Wr ?_|(refine Wb ?_;intro b)|fail)
  refine Dz [(b,.cells [.int .i64 client,.int .i64 seq,.int .i64 lc,.int .i64 ls,.int .i64 le,.bool lf,.string lv,.int .i64 lr].toArray 241 (0,0))] ?_
  all_goals refine Dt [0,1,2] ?_
  all_goals (try (refine Dg 3 ⟨?_,?_⟩<;>first|exact True.intro|intro h))
  all_goals refine Dt [3] ?_
  all_goals (first|refine TvG 4 ?_ (hop:=by first|apply r_load1;rfl;exact Cell.frozen (hpc (by omega))|fail)|refine Dt [4] ?_)
  all_goals refine Dt [5,6,7,8,9] ?_
  all_goals (first|refine TvG 10 ?_ (hop:=by first|apply r_load1;rfl;exact Cell.frozen (hpc (by omega))|fail)|refine Dt [10] ?_)
  all_goals refine Dt [11,12] ?_
  all_goals refine Dd ?_
  repeat' (first|refine Wa ?_|(refine Wc ⟨?_,?_⟩<;>first|exact True.intro|intro h)|refine cJ qa ?_|refine Wr ?_|(refine Wb ?_;intro b)|fail)
  all_goals first
   |(refine v_drop (List.nil_sublist _) ?_
     refine Va rfl ⟨rfl,rfl,k+1,by omega,rfl,hnx (fun h0=>by omega) ⟨by omega,by omega,by omega⟩⟩)
   |(refine Vr ?_
     refine ⟨?_,rfl⟩
     rw [if_neg]
     intro ho
     refine hin False ho ?_
     rintro ⟨a1,a2,a3,a4⟩
     first
      | omega
      |(have a5:=a1 (by omega);omega))
 ·have hone:SesP l:=⟨fun i hi h0=>(hno i hi (by omega)).1 h0,fun x hx=>by
   obtain ⟨i,hi,rfl⟩:=List.getElem_of_mem hx
   exact (hno i hi (by omega)).2⟩
  rw [if_pos hone]
  repeat' (first|refine Wa ?_|(refine Wc ⟨?_,?_⟩<;>first|exact True.intro|intro h)|refine Wr ?_|(refine Wb ?_;intro b)|fail)
  refine Vr ?_
  exact ⟨rfl,rfl⟩
theorem placeS_s {G:GH}{l:List Ss}{sv:Value}(n:Int) (hs:Sss G sv l) (hr:RiseG ksS l):Con Tryz.prog 217 #[sv,.int .i64 n] G [] (Just (.tuple [.int .i64 (placeG ksS l n:Nat),.bool (hitG ksS l n)].toArray) G):=by
 have qs:=ssSearch_s n hs hr
 apply Con.just
 (refine v_enter Tryz.func217 rfl Tryz.ntmps217 rfl ?_;intro B _)
 repeat' (first|refine Wa ?_|(refine Wc ⟨?_,?_⟩<;>first|exact True.intro|intro h)|refine cJ qs ?_|fail)
 refine v_ret [] (outsA2 rfl rfl rfl) sS ?_
 exact ⟨rfl,rfl⟩
def zA:An:=⟨0,0,0,false,ByteArray.empty,0⟩
def zSs:Ss:=⟨0,0,zA⟩
def sesAt (l:List Ss) (n:Int):Ss:=if h:hitG ksS l n=true then l[placeG ksS l n]'(hitG_lt h) else zSs
def whichS (l:List Ss) (n seq:Int):Int×An:=if hitG ksS l n=false then (0,zA) else if (sesAt l n).seq<seq then (0,zA) else if seq=(sesAt l n).seq then (1,(sesAt l n).last) else (2,zA)
theorem which_s {G:GH}{l:List Ss}{sv:Value}(n seq:Int) (hs:Sss G sv l) (hr:RiseG ksS l):Con Tryz.prog 172 #[sv,.int .i64 n,.int .i64 seq] G [] (Just (.tuple [.int .i64 (whichS l n seq).1,.agg (whichS l n seq).2.cells.toArray].toArray) G):=by
 have qs:=placeS_s n hs hr
 obtain ⟨A,c,rfl,hlc,hcm,hsome,hcp⟩:=rowOpen hs
 simp only [maxLen] at hcm
 apply Con.just
 unfold whichS
 cases hh:hitG ksS l n with
 | false =>
  rw [hh] at qs
  rw [if_pos rfl]
  (refine v_enter Tryz.func172 rfl Tryz.ntmps172 rfl ?_;intro B _)
  repeat' (first|apply v_alloc (d:=7);(case hz|hd=>rfl);intro b7|refine Wa ?_|(refine Wc ⟨?_,?_⟩<;>first|exact True.intro|intro h)|refine cJ qs ?_|refine Wr ?_|(refine Wb ?_;intro b)|fail)
  refine v_retM [] (outsM_tc (sz1:=6) (vs1:=zA.cells) (e1:=66) rfl rfl rfl aM rfl) (List.nil_sublist _) ⟨rfl,rfl⟩
 | true =>
  have hlt:=hitG_lt hh
  have ef:sesAt l n=l[placeG ksS l n]'hlt:=by unfold sesAt;rw [dif_pos hh]
  rw [hh] at qs
  rw [ef,if_neg (by simp)]
  have hck:=hcp _ hlt
  have hA:=hsome (by omega)
  clear ef
  generalize l[placeG ksS l n]=x at *
  generalize placeG ksS l n=i at *
  have e1:((i:Nat):Int).toNat=i:=by omega
  obtain ⟨xc,xs,⟨lc,ls,le,lf,lv,lr⟩⟩:=x
  have hc1:=hck.cell (j:=1) rfl
  have hl:CellsG G (((adr A).add (i*8)).add 2) (An.cells ⟨lc,ls,le,lf,lv,lr⟩):=fun j v hv=>by
   rw [add_add]
   refine hck (2+j) v ?_
   rw [Nat.add_comm]
   exact hv
  simp only at *
  (refine v_enter Tryz.func172 rfl Tryz.ntmps172 rfl ?_;intro B _)
  repeat' (first|apply v_alloc (d:=7);(case hz|hd=>rfl);intro b7|refine Wa ?_|(refine Wc ⟨?_,?_⟩<;>first|exact True.intro|intro h)|refine cJ qs ?_|refine Rf hc1 ?_|refine Wr ?_|(refine Wb ?_;intro b)|fail)
  ·rw [if_pos (by assumption)]
   refine v_retM [] (outsM_tc (sz1:=6) (vs1:=zA.cells) (e1:=66) rfl rfl rfl aM rfl) (List.nil_sublist _) ⟨rfl,rfl⟩
  ·rw [if_neg (by assumption),if_pos (by assumption)]
   refine Dz [] ?_
   all_goals refine Dt [0,1,2,3] ?_
   all_goals (first|refine TN 4 hl ?_|refine Dt [4] ?_)
   all_goals refine Dt [5] ?_
   all_goals ((apply d_store 6;(case hi=>rfl);(case hr=>kernel_rfl);(case hL=>infer_instance);(case hp|hx|hc|hsz|h1=>rfl);(case hb=>exact aM);(case hfit=>first|exact Nat.le_of_ble_eq_true rfl|rfl);(case hov=>(first|((repeat (first|with_reducible exact ov_nil|apply ov_cons|apply ov_there));done)|rfl));(case hu=>repeat first|exact Upd.here _ _|apply Upd.there|apply Upd.app);(case hν'=>exact aE)))
   all_goals refine Dd ?_
   repeat' (first|refine Wa ?_|(refine Wc ⟨?_,?_⟩<;>first|exact True.intro|intro h)|refine Wr ?_|(refine Wb ?_;intro b)|fail)
   refine v_retM [] (outsM_tc (sz1:=6) (vs1:=An.cells ⟨lc,ls,le,lf,lv,lr⟩) (e1:=66) rfl rfl rfl aM rfl) (List.nil_sublist _) ⟨rfl,rfl⟩
  ·rw [if_neg (by assumption),if_neg (by assumption)]
   refine v_retM [] (outsM_tc (sz1:=6) (vs1:=zA.cells) (e1:=66) rfl rfl rfl aM rfl) (List.nil_sublist _) ⟨rfl,rfl⟩
def sesOf (a:An):Ss:=⟨a.client,a.seq,a⟩
theorem withS_s {G:GH}{l:List Ss}{sv:Value}(a:An) (hs:Sss G sv l) (hr:RiseW ksS l) (hn:l.length≤200):Con Tryz.prog 175 #[sv,.agg a.cells.toArray] G [] (fun r G' μ'=>G'=G∧GrS r (withG ksS l (sesOf a)) μ'):=by
 have hrg:=riseG_pw.2 hr
 have qp:=placeS_s a.client hs hrg
 have qc:=ssClone_s hs hn
 have hpl:=placeG_le ksS l a.client
 have hw:=ins_with hr (sesOf a)
 have ek:ksS (sesOf a)=a.client:=rfl
 rw [ek] at hw
 rw [← hw]
 clear hw ek
 cases hh:hitG ksS l a.client with
 | true =>
  have hlt:=hitG_lt hh
  rw [if_pos rfl]
  rw [hh] at qp
  have hov:=fun sp=>rowC_set Ss.len l _ hlt (sesOf a) sp
  generalize placeG ksS l a.client=i at *
  have hlen:=rowC_length Ss.len l
  (refine v_enter Tryz.func175 rfl Tryz.ntmps175 rfl ?_;intro B _)
  repeat' (first|apply v_box (zs:=a.cells);(case hx|hz|hd=>rfl);intro ba|apply v_alloc (d:=5);(case hz|hd=>rfl);intro b5|refine Wa ?_|(refine Wc ⟨?_,?_⟩<;>first|exact True.intro|intro h)|refine cJ qp ?_|refine Wr ?_|(refine Wb ?_;intro b)|fail)
  refine v_call (μ1:=[]) (μ2:=_) rfl qc (List.Perm.refl _) rfl ?_
  rintro v1 G1 ν1 - ⟨hG1,hg⟩
  subst hG1
  obtain ⟨hxl,⟨rfl,h0,rfl⟩|⟨b,cap,spare,rfl,rfl,hc1,hc2,hc3⟩⟩:=hg
  ·omega
  have hov:=hov spare
  repeat' (first|apply v_pure;(case hop=>apply p_idxOwn2;(case hx|hi=>rfl);(case h=>omega));(case hd=>rfl)|refine Wa ?_|(refine Wc ⟨?_,?_⟩<;>first|exact True.intro|intro h)|apply v_store (us:=(sesOf a).cells);(case hp|hx|hc|hsz|h1=>rfl);(case hb=>exact aM);(case hfit=>rw [List.length_append,hlen,Ss.len];omega);(case hov=>exact hov);(case hu=>repeat first|exact Upd.here _ _|apply Upd.there)|refine Wr ?_|(refine Wb ?_;intro b)|fail)
  refine v_ret [(b,_)] (outsA1 rfl rfl) sS ⟨rfl,?_⟩
  have hsl:(l.set i (sesOf a)).length=l.length:=List.length_set ..
  unfold GrS
  simp only [hsl]
  exact ⟨by rw [rowC_length Ss.len,hsl],.inr ⟨b,cap,spare,rfl,rfl,hc1,hc2,by rw [List.length_append,rowC_length Ss.len,hsl];rw [List.length_append,hlen] at hc3;exact hc3⟩⟩
 | false =>
  rw [hh] at qp
  rw [if_neg (by simp)]
  have hq:=fun (v:Value) (ν:OH) (hg:GrS v l ν) b2=>ssInsert_s (G:=G) (sesOf a) b2 (placeG ksS l a.client) hg hpl hn
  have hil:(l.take (placeG ksS l a.client)++sesOf a::l.drop (placeG ksS l a.client)).length=l.length+1:=by
   rw [List.length_append,List.length_cons,List.length_take,List.length_drop];omega
  generalize placeG ksS l a.client=i at *
  (refine v_enter Tryz.func175 rfl Tryz.ntmps175 rfl ?_;intro B _)
  repeat' (first|apply v_box (zs:=a.cells);(case hx|hz|hd=>rfl);intro ba|apply v_alloc (d:=5);(case hz|hd=>rfl);intro b5|refine Wa ?_|(refine Wc ⟨?_,?_⟩<;>first|exact True.intro|intro h)|refine cJ qp ?_|refine Wr ?_|(refine Wb ?_;intro b)|fail)
  refine v_call (μ1:=[]) (μ2:=_) rfl qc (List.Perm.refl _) rfl ?_
  rintro v1 G1 ν1 - ⟨hG1,hg⟩
  subst hG1
  repeat' (first|refine Wa ?_|(refine Wc ⟨?_,?_⟩<;>first|exact True.intro|intro h)|refine Wr ?_|(refine Wb ?_;intro b)|fail)
  refine v_call (μ1:=ν1++[(b,.cells (sesOf a).cells.toArray 241 (0,0))]) (μ2:=[(b5,.cells (sesOf a).cells.toArray 241 (0,0)),(ba,.cells a.cells.toArray 66 (0,0))]) rfl (hq v1 ν1 hg b) ?_ rfl ?_
  ·exact aV
  rintro v' G2 ν2 - ⟨hG2,hg2⟩
  subst hG2
  repeat' (first|refine Wa ?_|(refine Wc ⟨?_,?_⟩<;>first|exact True.intro|intro h)|refine Wr ?_|(refine Wb ?_;intro b)|fail)
  refine v_ret ν2 (outsA1 rfl rfl) (List.sublist_append_left _ _) ⟨rfl,?_⟩
  unfold GrS
  rw [hil]
  exact hg2
theorem vMay_s (v:Int) (G:GH):Con Tryz.prog 220 #[.int .i64 v] G [] (Just (.bool (decide (v=1∨v=2))) G):=by
 (refine v_enter Tryz.func220 rfl Tryz.ntmps220 rfl ?_;intro B _)
 repeat' (first|refine Wa ?_|(refine Wc ⟨?_,?_⟩<;>first|exact True.intro|intro h)|fail)
 all_goals (refine Vr ?_;refine ⟨?_,rfl,rfl⟩)
 all_goals (congr 1;(try simp only [dec_eq]);first|rfl|(rw [Bool.eq_iff_iff];simp only [decide_eq_true_eq,Bool.not_eq_true',decide_eq_false_iff_not,Bool.and_eq_true,Bool.or_eq_true,reduceCtorEq,true_iff,false_iff];omega)|(simp;done)|(simp;omega))
abbrev HasP (v k:Int):Prop:=(v=1∨v=2)∧1≤k∧k≤8∧(k=5→v=2)
theorem vHas_s (v k:Int) (G:GH):Con Tryz.prog 174 #[.int .i64 v,.int .i64 k] G [] (Just (.bool (decide (HasP v k))) G):=by
 (refine v_enter Tryz.func174 rfl Tryz.ntmps174 rfl ?_;intro B _)
 repeat' (first|refine Wa ?_|(refine Wc ⟨?_,?_⟩<;>first|exact True.intro|intro h)|refine cJ (vMay_s _ _) ?_|fail)
 all_goals (refine Vr ?_;refine ⟨?_,rfl,rfl⟩)
 all_goals (congr 1;(try simp only [dec_eq]);first|rfl|(rw [Bool.eq_iff_iff];simp only [decide_eq_true_eq,Bool.not_eq_true',decide_eq_false_iff_not,Bool.and_eq_true,Bool.or_eq_true,reduceCtorEq,true_iff,false_iff];omega)|(simp;done)|(simp;omega))
theorem refHas7_s (v k:Int) (G:GH):Con Tryz.prog 179 #[.int .i64 v,.int .i64 k] G [] (Just (.bool (decide (HasP v k))) G):=by
 (refine v_enter Tryz.func179 rfl Tryz.ntmps179 rfl ?_;intro B _)
 repeat' (first|refine Wa ?_|(refine Wc ⟨?_,?_⟩<;>first|exact True.intro|intro h)|fail)
 all_goals (refine Vr ?_;refine ⟨?_,rfl,rfl⟩)
 all_goals (congr 1;(try simp only [dec_eq]);first|rfl|(rw [Bool.eq_iff_iff];simp only [decide_eq_true_eq,Bool.not_eq_true',decide_eq_false_iff_not,Bool.and_eq_true,Bool.or_eq_true,reduceCtorEq,true_iff,false_iff];omega)|(simp;done)|(simp;omega))
structure St where
 schema:Int
 pairs:List Pr
 sess:List Ss
def StV (G:GH) (s:St) (v:Value):Prop := ∃ A c A' c',v=.agg [.int .i64 s.schema,.slice A s.pairs.length c,.slice A' s.sess.length c'].toArray∧Prs G (.slice A s.pairs.length c) s.pairs∧Sss G (.slice A' s.sess.length c') s.sess
theorem StV.up {G G':GH}(hle:GH.le G G') {s:St}{v:Value}(h:StV G s v):StV G' s v:=by
 obtain ⟨A,c,A',c',h1,h2,h3⟩:=h
 exact ⟨A,c,A',c',h1,h2.mono hle,h3.mono hle⟩
def verS (z:Int):Int:=if z=1 then 1 else 2
theorem of1_s (G:GH) (z:Int) (pv sv:Value) (h1:pv.cells=[pv].toArray) (h2:sv.cells=[sv].toArray) (hz:z=1):Con Tryz.prog 173 #[.agg [.int .i64 z,pv,sv].toArray] G [] (Just (.agg [.int .i64 1,.func (.func 218) #[] #[]].toArray) G):=by
 apply Con.just
 (refine v_enter Tryz.func173 rfl Tryz.ntmps173 rfl ?_;intro B _)
 repeat' (first|apply v_box (zs:=[.int .i64 z,pv,sv]);(case hx|hz|hd=>rfl);intro b|apply v_alloc (d:=2);(case hz|hd=>rfl);intro b2|refine Wa ?_|(refine Wc ⟨?_,?_⟩<;>first|exact True.intro|intro h)|refine Wr ?_|(refine Wb ?_;intro b)|fail)
 refine v_retM [] (outsM_cell (sz:=2) (vs:=[.int .i64 1,.func (.func 218) #[] #[]]) (e:=252) rfl rfl aM rfl) (List.nil_sublist _) ⟨rfl,rfl⟩
theorem of2_s (G:GH) (z:Int) (pv sv:Value) (h1:pv.cells=[pv].toArray) (h2:sv.cells=[sv].toArray) (hz:¬ z=1):Con Tryz.prog 173 #[.agg [.int .i64 z,pv,sv].toArray] G [] (Just (.agg [.int .i64 2,.func (.func 219) #[] #[]].toArray) G):=by
 apply Con.just
 (refine v_enter Tryz.func173 rfl Tryz.ntmps173 rfl ?_;intro B _)
 repeat' (first|apply v_box (zs:=[.int .i64 z,pv,sv]);(case hx|hz|hd=>rfl);intro b|apply v_alloc (d:=2);(case hz|hd=>rfl);intro b2|refine Wa ?_|(refine Wc ⟨?_,?_⟩<;>first|exact True.intro|intro h)|refine Wr ?_|(refine Wb ?_;intro b)|fail)
 refine v_retM [] (outsM_cell (sz:=2) (vs:=[.int .i64 2,.func (.func 219) #[] #[]]) (e:=252) rfl rfl aM rfl) (List.nil_sublist _) ⟨rfl,rfl⟩
noncomputable def doS (z:Int) (l:List Pr) (c:Cm):List Pr×An:=if z=1 then doOne l c else doTwo l c
noncomputable def clientS (s:St) (c:Cm):St×An :=
 if (whichS s.sess c.client c.seq).1=1 then (s,(whichS s.sess c.client c.seq).2)
 else if (whichS s.sess c.client c.seq).1=2 then (s,{ ans0 c with err:=15 })
 else if HasP (verS s.schema) c.kind then (⟨s.schema,(doS s.schema s.pairs c).1,withG ksS s.sess (sesOf (doS s.schema s.pairs c).2)⟩,(doS s.schema s.pairs c).2)
 else (s,{ ans0 c with err:=14 })
def StW (s:St):Prop:=RiseW ksP s.pairs∧Sized s.pairs∧s.pairs.length≤150∧(∀ x∈s.pairs,0≤x.rev)∧RiseW ksS s.sess∧s.sess.length≤200
def CmW (c:Cm):Prop:=c.key.size≤200∧c.val.size≤200
theorem client_s {G:GH}{s:St}{v:Value}(c:Cm) (hs:StV G s v) (hw:StW s) (hc:CmW c) :
 Con Tryz.prog 128 #[v,.agg c.cells.toArray] G [] (fun r G' μ'=>GH.le G G'∧μ'=[]∧∃ v',r=.tuple [v',.agg (clientS s c).2.cells.toArray].toArray∧StV G' (clientS s c).1 v'):=by
 obtain ⟨A,c0,A',c',rfl,hp,hss⟩:=id hs
 obtain ⟨w1,w2,w3,w4,w5,w6⟩:=hw
 have qw:=which_s c.client c.seq hss (riseG_pw.2 w5)
 have qh:=vHas_s (verS s.schema) c.kind G
 have qd1:=doOne_s c hp w1 w2 hc.1 w3
 have qd2:=doTwo_s c hp w1 w2 hc.1 hc.2 w3 w4
 have qs:=fun G' (hle:GH.le G G') a=>withS_s a (hss.mono hle) w5 w6
 have hd1:s.schema=1→doS s.schema s.pairs c=doOne s.pairs c:=fun h=>by unfold doS;rw [if_pos h]
 have hd2:¬ s.schema=1→doS s.schema s.pairs c=doTwo s.pairs c:=fun h=>by unfold doS;rw [if_neg h]
 have hv1:s.schema=1→verS s.schema=1:=fun h=>by unfold verS;rw [if_pos h]
 have hv2:¬ s.schema=1→verS s.schema=2:=fun h=>by unfold verS;rw [if_neg h]
 have qo1:=of1_s G s.schema (.slice A s.pairs.length c0) (.slice A' s.sess.length c') rfl rfl
 have qo2:=of2_s G s.schema (.slice A s.pairs.length c0) (.slice A' s.sess.length c') rfl rfl
 unfold clientS
 generalize whichS s.sess c.client c.seq=w at *
 obtain ⟨wk,wa⟩:=w
 generalize doS s.schema s.pairs c=dd at *
 generalize verS s.schema=vv at *
 obtain ⟨schema,lp,ls⟩:=s
 obtain ⟨kind,cl,seq,key,val,old,node⟩:=c
 simp only at *
 clear w1 w2 w4 w5 hc
 obtain ⟨l1,d⟩:=dd
 generalize hpl:lp.length=pl at *
 generalize hsl:ls.length=sl at *
 (refine v_enter Tryz.func128 rfl Tryz.ntmps128 rfl ?_;intro B _)
 by_cases hz:schema=1
 ·have qo:=qo1 hz
  have hdd:=hd1 hz
  have hvv:=hv1 hz
  subst hvv
  repeat' (first|apply v_box (d:=2) (zs:=[.int .i64 schema,.slice A pl c0,.slice A' sl c']);(case hx|hz|hd=>rfl);intro b2|apply v_box (d:=3) (zs:=(Cm.cells ⟨kind,cl,seq,key,val,old,node⟩));(case hx|hz|hd=>rfl);intro b3|apply v_alloc (d:=4);(case hz|hd=>rfl);intro b4|apply v_alloc (d:=5);(case hz|hd=>rfl);intro b5|apply v_alloc (d:=7);(case hz|hd=>rfl);intro b7|apply v_alloc (d:=8);(case hz|hd=>rfl);intro b8|apply v_alloc (d:=9);(case hz|hd=>rfl);intro b9|apply v_alloc (d:=11);(case hz|hd=>rfl);intro b11|apply v_read;(case hop=>(apply r_loadNo;(case hx=>rfl);(case h=>exact aM);(case hd|hn=>rfl)));(case hd=>rfl)|refine Wa ?_|(refine Wc ⟨?_,?_⟩<;>first|exact True.intro|intro h)|refine cJ qw ?_|refine cJ qo ?_|refine cJ qh ?_|refine Wr ?_|(refine Wb ?_;intro b)|fail)
  ·rw [if_pos (by assumption)]
   refine Dz [(b2,.cells [.int .i64 schema,.slice A pl c0,.slice A' sl c'].toArray 57 (0,0)),(b7,.cells [.int .i64 wa.client,.int .i64 wa.seq,.int .i64 wa.err,.bool wa.found,.string wa.val,.int .i64 wa.rev].toArray 66 (0,0))] ?_
   all_goals refine Dt [0,1] ?_
   all_goals ((apply d_store 2;(case hi=>rfl);(case hr=>kernel_rfl);(case hL=>infer_instance);(case hp|hx|hc|hsz|h1=>rfl);(case hb=>exact aM);(case hfit=>first|exact Nat.le_of_ble_eq_true rfl|rfl);(case hov=>(first|((repeat (first|with_reducible exact ov_nil|apply ov_cons|apply ov_there));done)|rfl));(case hu=>repeat first|exact Upd.here _ _|apply Upd.there|apply Upd.app);(case hν'=>exact aE)))
   all_goals ((apply d_store 3;(case hi=>rfl);(case hr=>kernel_rfl);(case hL=>infer_instance);(case hp|hx|hc|hsz|h1=>rfl);(case hb=>exact aM);(case hfit=>first|exact Nat.le_of_ble_eq_true rfl|rfl);(case hov=>(first|((repeat (first|with_reducible exact ov_nil|apply ov_cons|apply ov_there));done)|rfl));(case hu=>repeat first|exact Upd.here _ _|apply Upd.there|apply Upd.app);(case hν'=>exact aE)))
   all_goals refine Dd ?_
   repeat' (first|refine Wa ?_|(refine Wc ⟨?_,?_⟩<;>first|exact True.intro|intro h)|refine Wr ?_|(refine Wb ?_;intro b)|fail)
   refine v_retM [] (outsM_cc (sz0:=3) (vs0:=[.int .i64 schema,.slice A pl c0,.slice A' sl c']) (e0:=57) (sz1:=6) (vs1:=[.int .i64 wa.client,.int .i64 wa.seq,.int .i64 wa.err,.bool wa.found,.string wa.val,.int .i64 wa.rev]) (e1:=66) rfl rfl aM rfl rfl aM rfl) (List.nil_sublist _) ⟨GH.le_refl _,rfl,_,rfl,A,c0,A',c',by subst hpl hsl;rfl,by subst hpl;exact hp,by subst hsl;exact hss⟩
  ·rw [if_neg (by assumption),if_pos (by assumption)]
   refine Dz [(b2,.cells [.int .i64 schema,.slice A pl c0,.slice A' sl c'].toArray 57 (0,0)),(b8,.cells [.int .i64 cl,.int .i64 seq,.int .i64 15,.bool false,.string ByteArray.empty,.int .i64 0].toArray 66 (0,0))] ?_
   all_goals refine Dt [0,1] ?_
   all_goals ((apply d_store 2;(case hi=>rfl);(case hr=>kernel_rfl);(case hL=>infer_instance);(case hp|hx|hc|hsz|h1=>rfl);(case hb=>exact aM);(case hfit=>first|exact Nat.le_of_ble_eq_true rfl|rfl);(case hov=>(first|((repeat (first|with_reducible exact ov_nil|apply ov_cons|apply ov_there));done)|rfl));(case hu=>repeat first|exact Upd.here _ _|apply Upd.there|apply Upd.app);(case hν'=>exact aE)))
   all_goals ((apply d_store 3;(case hi=>rfl);(case hr=>kernel_rfl);(case hL=>infer_instance);(case hp|hx|hc|hsz|h1=>rfl);(case hb=>exact aM);(case hfit=>first|exact Nat.le_of_ble_eq_true rfl|rfl);(case hov=>(first|((repeat (first|with_reducible exact ov_nil|apply ov_cons|apply ov_there));done)|rfl));(case hu=>repeat first|exact Upd.here _ _|apply Upd.there|apply Upd.app);(case hν'=>exact aE)))
   all_goals refine Dd ?_
   repeat' (first|refine Wa ?_|(refine Wc ⟨?_,?_⟩<;>first|exact True.intro|intro h)|refine Wr ?_|(refine Wb ?_;intro b)|fail)
   refine v_retM [] (outsM_cc (sz0:=3) (vs0:=[.int .i64 schema,.slice A pl c0,.slice A' sl c']) (e0:=57) (sz1:=6) (vs1:=[.int .i64 cl,.int .i64 seq,.int .i64 15,.bool false,.string ByteArray.empty,.int .i64 0]) (e1:=66) rfl rfl aM rfl rfl aM rfl) (List.nil_sublist _) ⟨GH.le_refl _,rfl,_,rfl,A,c0,A',c',by subst hpl hsl;rfl,by subst hpl;exact hp,by subst hsl;exact hss⟩
  ·rw [if_neg (by assumption),if_neg (by assumption),if_neg (by assumption)]
   refine Dz [(b2,.cells [.int .i64 schema,.slice A pl c0,.slice A' sl c'].toArray 57 (0,0)),(b8,.cells [.int .i64 cl,.int .i64 seq,.int .i64 14,.bool false,.string ByteArray.empty,.int .i64 0].toArray 66 (0,0))] ?_
   all_goals refine Dt [0,1] ?_
   all_goals ((apply d_store 2;(case hi=>rfl);(case hr=>kernel_rfl);(case hL=>infer_instance);(case hp|hx|hc|hsz|h1=>rfl);(case hb=>exact aM);(case hfit=>first|exact Nat.le_of_ble_eq_true rfl|rfl);(case hov=>(first|((repeat (first|with_reducible exact ov_nil|apply ov_cons|apply ov_there));done)|rfl));(case hu=>repeat first|exact Upd.here _ _|apply Upd.there|apply Upd.app);(case hν'=>exact aE)))
   all_goals ((apply d_store 3;(case hi=>rfl);(case hr=>kernel_rfl);(case hL=>infer_instance);(case hp|hx|hc|hsz|h1=>rfl);(case hb=>exact aM);(case hfit=>first|exact Nat.le_of_ble_eq_true rfl|rfl);(case hov=>(first|((repeat (first|with_reducible exact ov_nil|apply ov_cons|apply ov_there));done)|rfl));(case hu=>repeat first|exact Upd.here _ _|apply Upd.there|apply Upd.app);(case hν'=>exact aE)))
   all_goals refine Dd ?_
   repeat' (first|refine Wa ?_|(refine Wc ⟨?_,?_⟩<;>first|exact True.intro|intro h)|refine Wr ?_|(refine Wb ?_;intro b)|fail)
   refine v_retM [] (outsM_cc (sz0:=3) (vs0:=[.int .i64 schema,.slice A pl c0,.slice A' sl c']) (e0:=57) (sz1:=6) (vs1:=[.int .i64 cl,.int .i64 seq,.int .i64 14,.bool false,.string ByteArray.empty,.int .i64 0]) (e1:=66) rfl rfl aM rfl rfl aM rfl) (List.nil_sublist _) ⟨GH.le_refl _,rfl,_,rfl,A,c0,A',c',by subst hpl hsl;rfl,by subst hpl;exact hp,by subst hsl;exact hss⟩
  ·rw [if_neg (by assumption),if_neg (by assumption),if_pos (by assumption)]
   refine v_callF0 (μ1:=[]) rfl rfl qd1 (List.Perm.refl _) rfl ?_
   rintro _ G1 ν1 - ⟨hG1,v2,rfl,hg2⟩
   subst hG1
   rw [← hdd] at hg2 ⊢
   simp only at hg2 ⊢
   refine v_frz ν1 (PickA.here _) ?_
   intro G2 hle2 hG2
   have hp2:=row_of_grow Pr.len hg2 hG2
   obtain ⟨A2,c2,rfl,-⟩:=id hp2.open
   have qs2:=qs G2 hle2 d
   generalize hlw:withG ksS ls (sesOf d)=lw at *
   repeat' (first|apply v_alloc (d:=4);(case hz|hd=>rfl);intro b4|apply v_alloc (d:=5);(case hz|hd=>rfl);intro b5|apply v_alloc (d:=7);(case hz|hd=>rfl);intro b7|apply v_alloc (d:=8);(case hz|hd=>rfl);intro b8|apply v_alloc (d:=9);(case hz|hd=>rfl);intro b9|apply v_alloc (d:=11);(case hz|hd=>rfl);intro b11|apply v_read;(case hop=>(apply r_loadNo;(case hx=>rfl);(case h=>exact aM);(case hd|hn=>rfl)));(case hd=>rfl)|refine Wa ?_|(refine Wc ⟨?_,?_⟩<;>first|exact True.intro|intro h)|refine Wr ?_|(refine Wb ?_;intro b)|fail)
   refine cQ rfl qs2 ?_
   rintro v3 G3 ν3 - ⟨hG3,hg3⟩
   subst hG3
   refine v_frz ν3 (PickA.here _) ?_
   intro G4 hle4 hG4
   have hs4:=row_of_grow Ss.len hg3 hG4
   obtain ⟨A3,c3,rfl,-⟩:=id hs4.open
   repeat' (first|apply v_read;(case hop=>(apply r_loadNo;(case hx=>rfl);(case h=>exact aM);(case hd|hn=>rfl)));(case hd=>rfl)|refine Wa ?_|(refine Wc ⟨?_,?_⟩<;>first|exact True.intro|intro h)|refine Wr ?_|(refine Wb ?_;intro b)|fail)
   refine Dz [(b2,.cells [.int .i64 schema,.slice A2 l1.length c2,.slice A3 lw.length c3].toArray 57 (0,0)),(b11,.cells [.int .i64 d.client,.int .i64 d.seq,.int .i64 d.err,.bool d.found,.string d.val,.int .i64 d.rev].toArray 66 (0,0))] ?_
   all_goals refine Dt [0,1] ?_
   all_goals ((apply d_store 2;(case hi=>rfl);(case hr=>kernel_rfl);(case hL=>infer_instance);(case hp|hx|hc|hsz|h1=>rfl);(case hb=>exact aM);(case hfit=>first|exact Nat.le_of_ble_eq_true rfl|rfl);(case hov=>(first|((repeat (first|with_reducible exact ov_nil|apply ov_cons|apply ov_there));done)|rfl));(case hu=>repeat first|exact Upd.here _ _|apply Upd.there|apply Upd.app);(case hν'=>exact aE)))
   all_goals ((apply d_store 3;(case hi=>rfl);(case hr=>kernel_rfl);(case hL=>infer_instance);(case hp|hx|hc|hsz|h1=>rfl);(case hb=>exact aM);(case hfit=>first|exact Nat.le_of_ble_eq_true rfl|rfl);(case hov=>(first|((repeat (first|with_reducible exact ov_nil|apply ov_cons|apply ov_there));done)|rfl));(case hu=>repeat first|exact Upd.here _ _|apply Upd.there|apply Upd.app);(case hν'=>exact aE)))
   all_goals refine Dd ?_
   repeat' (first|refine Wa ?_|(refine Wc ⟨?_,?_⟩<;>first|exact True.intro|intro h)|refine Wr ?_|(refine Wb ?_;intro b)|fail)
   refine v_retM [] (outsM_cc (sz0:=3) (vs0:=[.int .i64 schema,.slice A2 l1.length c2,.slice A3 lw.length c3]) (e0:=57) (sz1:=6) (vs1:=[.int .i64 d.client,.int .i64 d.seq,.int .i64 d.err,.bool d.found,.string d.val,.int .i64 d.rev]) (e1:=66) rfl rfl aM rfl rfl aM rfl) (List.nil_sublist _) ⟨GH.le_trans hle2 hle4,rfl,_,rfl,A2,c2,A3,c3,rfl,hp2.mono hle4,hs4⟩
 ·have qo:=qo2 hz
  have hdd:=hd2 hz
  have hvv:=hv2 hz
  subst hvv
  repeat' (first|apply v_box (d:=2) (zs:=[.int .i64 schema,.slice A pl c0,.slice A' sl c']);(case hx|hz|hd=>rfl);intro b2|apply v_box (d:=3) (zs:=(Cm.cells ⟨kind,cl,seq,key,val,old,node⟩));(case hx|hz|hd=>rfl);intro b3|apply v_alloc (d:=4);(case hz|hd=>rfl);intro b4|apply v_alloc (d:=5);(case hz|hd=>rfl);intro b5|apply v_alloc (d:=7);(case hz|hd=>rfl);intro b7|apply v_alloc (d:=8);(case hz|hd=>rfl);intro b8|apply v_alloc (d:=9);(case hz|hd=>rfl);intro b9|apply v_alloc (d:=11);(case hz|hd=>rfl);intro b11|apply v_read;(case hop=>(apply r_loadNo;(case hx=>rfl);(case h=>exact aM);(case hd|hn=>rfl)));(case hd=>rfl)|refine Wa ?_|(refine Wc ⟨?_,?_⟩<;>first|exact True.intro|intro h)|refine cJ qw ?_|refine cJ qo ?_|refine cJ qh ?_|refine Wr ?_|(refine Wb ?_;intro b)|fail)
  ·rw [if_pos (by assumption)]
   refine Dz [(b2,.cells [.int .i64 schema,.slice A pl c0,.slice A' sl c'].toArray 57 (0,0)),(b7,.cells [.int .i64 wa.client,.int .i64 wa.seq,.int .i64 wa.err,.bool wa.found,.string wa.val,.int .i64 wa.rev].toArray 66 (0,0))] ?_
   all_goals refine Dt [0,1] ?_
   all_goals ((apply d_store 2;(case hi=>rfl);(case hr=>kernel_rfl);(case hL=>infer_instance);(case hp|hx|hc|hsz|h1=>rfl);(case hb=>exact aM);(case hfit=>first|exact Nat.le_of_ble_eq_true rfl|rfl);(case hov=>(first|((repeat (first|with_reducible exact ov_nil|apply ov_cons|apply ov_there));done)|rfl));(case hu=>repeat first|exact Upd.here _ _|apply Upd.there|apply Upd.app);(case hν'=>exact aE)))
   all_goals ((apply d_store 3;(case hi=>rfl);(case hr=>kernel_rfl);(case hL=>infer_instance);(case hp|hx|hc|hsz|h1=>rfl);(case hb=>exact aM);(case hfit=>first|exact Nat.le_of_ble_eq_true rfl|rfl);(case hov=>(first|((repeat (first|with_reducible exact ov_nil|apply ov_cons|apply ov_there));done)|rfl));(case hu=>repeat first|exact Upd.here _ _|apply Upd.there|apply Upd.app);(case hν'=>exact aE)))
   all_goals refine Dd ?_
   repeat' (first|refine Wa ?_|(refine Wc ⟨?_,?_⟩<;>first|exact True.intro|intro h)|refine Wr ?_|(refine Wb ?_;intro b)|fail)
   refine v_retM [] (outsM_cc (sz0:=3) (vs0:=[.int .i64 schema,.slice A pl c0,.slice A' sl c']) (e0:=57) (sz1:=6) (vs1:=[.int .i64 wa.client,.int .i64 wa.seq,.int .i64 wa.err,.bool wa.found,.string wa.val,.int .i64 wa.rev]) (e1:=66) rfl rfl aM rfl rfl aM rfl) (List.nil_sublist _) ⟨GH.le_refl _,rfl,_,rfl,A,c0,A',c',by subst hpl hsl;rfl,by subst hpl;exact hp,by subst hsl;exact hss⟩
  ·rw [if_neg (by assumption),if_pos (by assumption)]
   refine Dz [(b2,.cells [.int .i64 schema,.slice A pl c0,.slice A' sl c'].toArray 57 (0,0)),(b8,.cells [.int .i64 cl,.int .i64 seq,.int .i64 15,.bool false,.string ByteArray.empty,.int .i64 0].toArray 66 (0,0))] ?_
   all_goals refine Dt [0,1] ?_
   all_goals ((apply d_store 2;(case hi=>rfl);(case hr=>kernel_rfl);(case hL=>infer_instance);(case hp|hx|hc|hsz|h1=>rfl);(case hb=>exact aM);(case hfit=>first|exact Nat.le_of_ble_eq_true rfl|rfl);(case hov=>(first|((repeat (first|with_reducible exact ov_nil|apply ov_cons|apply ov_there));done)|rfl));(case hu=>repeat first|exact Upd.here _ _|apply Upd.there|apply Upd.app);(case hν'=>exact aE)))
   all_goals ((apply d_store 3;(case hi=>rfl);(case hr=>kernel_rfl);(case hL=>infer_instance);(case hp|hx|hc|hsz|h1=>rfl);(case hb=>exact aM);(case hfit=>first|exact Nat.le_of_ble_eq_true rfl|rfl);(case hov=>(first|((repeat (first|with_reducible exact ov_nil|apply ov_cons|apply ov_there));done)|rfl));(case hu=>repeat first|exact Upd.here _ _|apply Upd.there|apply Upd.app);(case hν'=>exact aE)))
   all_goals refine Dd ?_
   repeat' (first|refine Wa ?_|(refine Wc ⟨?_,?_⟩<;>first|exact True.intro|intro h)|refine Wr ?_|(refine Wb ?_;intro b)|fail)
   refine v_retM [] (outsM_cc (sz0:=3) (vs0:=[.int .i64 schema,.slice A pl c0,.slice A' sl c']) (e0:=57) (sz1:=6) (vs1:=[.int .i64 cl,.int .i64 seq,.int .i64 15,.bool false,.string ByteArray.empty,.int .i64 0]) (e1:=66) rfl rfl aM rfl rfl aM rfl) (List.nil_sublist _) ⟨GH.le_refl _,rfl,_,rfl,A,c0,A',c',by subst hpl hsl;rfl,by subst hpl;exact hp,by subst hsl;exact hss⟩
  ·rw [if_neg (by assumption),if_neg (by assumption),if_neg (by assumption)]
   refine Dz [(b2,.cells [.int .i64 schema,.slice A pl c0,.slice A' sl c'].toArray 57 (0,0)),(b8,.cells [.int .i64 cl,.int .i64 seq,.int .i64 14,.bool false,.string ByteArray.empty,.int .i64 0].toArray 66 (0,0))] ?_
   all_goals refine Dt [0,1] ?_
   all_goals ((apply d_store 2;(case hi=>rfl);(case hr=>kernel_rfl);(case hL=>infer_instance);(case hp|hx|hc|hsz|h1=>rfl);(case hb=>exact aM);(case hfit=>first|exact Nat.le_of_ble_eq_true rfl|rfl);(case hov=>(first|((repeat (first|with_reducible exact ov_nil|apply ov_cons|apply ov_there));done)|rfl));(case hu=>repeat first|exact Upd.here _ _|apply Upd.there|apply Upd.app);(case hν'=>exact aE)))
   all_goals ((apply d_store 3;(case hi=>rfl);(case hr=>kernel_rfl);(case hL=>infer_instance);(case hp|hx|hc|hsz|h1=>rfl);(case hb=>exact aM);(case hfit=>first|exact Nat.le_of_ble_eq_true rfl|rfl);(case hov=>(first|((repeat (first|with_reducible exact ov_nil|apply ov_cons|apply ov_there));done)|rfl));(case hu=>repeat first|exact Upd.here _ _|apply Upd.there|apply Upd.app);(case hν'=>exact aE)))
   all_goals refine Dd ?_
   repeat' (first|refine Wa ?_|(refine Wc ⟨?_,?_⟩<;>first|exact True.intro|intro h)|refine Wr ?_|(refine Wb ?_;intro b)|fail)
   refine v_retM [] (outsM_cc (sz0:=3) (vs0:=[.int .i64 schema,.slice A pl c0,.slice A' sl c']) (e0:=57) (sz1:=6) (vs1:=[.int .i64 cl,.int .i64 seq,.int .i64 14,.bool false,.string ByteArray.empty,.int .i64 0]) (e1:=66) rfl rfl aM rfl rfl aM rfl) (List.nil_sublist _) ⟨GH.le_refl _,rfl,_,rfl,A,c0,A',c',by subst hpl hsl;rfl,by subst hpl;exact hp,by subst hsl;exact hss⟩
  ·rw [if_neg (by assumption),if_neg (by assumption),if_pos (by assumption)]
   refine v_callF0 (μ1:=[]) rfl rfl qd2 (List.Perm.refl _) rfl ?_
   rintro _ G1 ν1 - ⟨hG1,v2,rfl,hg2⟩
   subst hG1
   rw [← hdd] at hg2 ⊢
   simp only at hg2 ⊢
   refine v_frz ν1 (PickA.here _) ?_
   intro G2 hle2 hG2
   have hp2:=row_of_grow Pr.len hg2 hG2
   obtain ⟨A2,c2,rfl,-⟩:=id hp2.open
   have qs2:=qs G2 hle2 d
   generalize hlw:withG ksS ls (sesOf d)=lw at *
   repeat' (first|apply v_alloc (d:=4);(case hz|hd=>rfl);intro b4|apply v_alloc (d:=5);(case hz|hd=>rfl);intro b5|apply v_alloc (d:=7);(case hz|hd=>rfl);intro b7|apply v_alloc (d:=8);(case hz|hd=>rfl);intro b8|apply v_alloc (d:=9);(case hz|hd=>rfl);intro b9|apply v_alloc (d:=11);(case hz|hd=>rfl);intro b11|apply v_read;(case hop=>(apply r_loadNo;(case hx=>rfl);(case h=>exact aM);(case hd|hn=>rfl)));(case hd=>rfl)|refine Wa ?_|(refine Wc ⟨?_,?_⟩<;>first|exact True.intro|intro h)|refine Wr ?_|(refine Wb ?_;intro b)|fail)
   refine cQ rfl qs2 ?_
   rintro v3 G3 ν3 - ⟨hG3,hg3⟩
   subst hG3
   refine v_frz ν3 (PickA.here _) ?_
   intro G4 hle4 hG4
   have hs4:=row_of_grow Ss.len hg3 hG4
   obtain ⟨A3,c3,rfl,-⟩:=id hs4.open
   repeat' (first|apply v_read;(case hop=>(apply r_loadNo;(case hx=>rfl);(case h=>exact aM);(case hd|hn=>rfl)));(case hd=>rfl)|refine Wa ?_|(refine Wc ⟨?_,?_⟩<;>first|exact True.intro|intro h)|refine Wr ?_|(refine Wb ?_;intro b)|fail)
   refine Dz [(b2,.cells [.int .i64 schema,.slice A2 l1.length c2,.slice A3 lw.length c3].toArray 57 (0,0)),(b11,.cells [.int .i64 d.client,.int .i64 d.seq,.int .i64 d.err,.bool d.found,.string d.val,.int .i64 d.rev].toArray 66 (0,0))] ?_
   all_goals refine Dt [0,1] ?_
   all_goals ((apply d_store 2;(case hi=>rfl);(case hr=>kernel_rfl);(case hL=>infer_instance);(case hp|hx|hc|hsz|h1=>rfl);(case hb=>exact aM);(case hfit=>first|exact Nat.le_of_ble_eq_true rfl|rfl);(case hov=>(first|((repeat (first|with_reducible exact ov_nil|apply ov_cons|apply ov_there));done)|rfl));(case hu=>repeat first|exact Upd.here _ _|apply Upd.there|apply Upd.app);(case hν'=>exact aE)))
   all_goals ((apply d_store 3;(case hi=>rfl);(case hr=>kernel_rfl);(case hL=>infer_instance);(case hp|hx|hc|hsz|h1=>rfl);(case hb=>exact aM);(case hfit=>first|exact Nat.le_of_ble_eq_true rfl|rfl);(case hov=>(first|((repeat (first|with_reducible exact ov_nil|apply ov_cons|apply ov_there));done)|rfl));(case hu=>repeat first|exact Upd.here _ _|apply Upd.there|apply Upd.app);(case hν'=>exact aE)))
   all_goals refine Dd ?_
   repeat' (first|refine Wa ?_|(refine Wc ⟨?_,?_⟩<;>first|exact True.intro|intro h)|refine Wr ?_|(refine Wb ?_;intro b)|fail)
   refine v_retM [] (outsM_cc (sz0:=3) (vs0:=[.int .i64 schema,.slice A2 l1.length c2,.slice A3 lw.length c3]) (e0:=57) (sz1:=6) (vs1:=[.int .i64 d.client,.int .i64 d.seq,.int .i64 d.err,.bool d.found,.string d.val,.int .i64 d.rev]) (e1:=66) rfl rfl aM rfl rfl aM rfl) (List.nil_sublist _) ⟨GH.le_trans hle2 hle4,rfl,_,rfl,A2,c2,A3,c3,rfl,hp2.mono hle4,hs4⟩
def StP (s:St):Prop:=SesP s.sess∧((s.schema=1∧s.sess.any revS=false∧OneP s.pairs)∨(s.schema=2∧TwoP s.pairs))
noncomputable instance (s:St):Decidable (StP s):=Classical.propDecidable _
def StZ (s:St):Prop:=Sized s.pairs∧SizedS s.sess∧s.pairs.length≤150∧s.sess.length≤150
theorem migCheck_s {G:GH}(hT:TabsG G) {s:St}{v:Value}(hs:StV G s v) (hz:StZ s):Con Tryz.prog 112 #[v] G [] (Just (.int .i64 (if StP s then 0 else 3)) G):=by
 obtain ⟨A,c,A',c',rfl,hp,hss⟩:=id hs
 obtain ⟨z1,z2,z3,z4⟩:=hz
 have q1:=sesCheck_s hT hss z2
 have q2:=oneCheck_s hT hp z1
 have q3:=twoCheck_s hT hp z1 (by omega)
 have q4:=ssRevHas_s hss
 have hst:StP s↔SesP s.sess∧((s.schema=1∧s.sess.any revS=false∧OneP s.pairs)∨(s.schema=2∧TwoP s.pairs)):=Iff.rfl
 apply Con.just
 generalize hi:(if StP s then (0:Int) else 3)=iv
 have hyes:StP s→iv=0:=fun h=>by rw [← hi,if_pos h]
 have hnot:¬ StP s→iv=3:=fun h=>by rw [← hi,if_neg h]
 rw [hst] at hyes hnot
 clear hi hst
 obtain ⟨schema,lp,ls⟩:=s
 simp only at *
 generalize hr:ls.any revS=rb at *
 generalize lp.length=pl at *
 generalize ls.length=sl at *
 (refine v_enter Tryz.func112 rfl Tryz.ntmps112 rfl ?_;intro B _)
 by_cases h1:SesP ls
 ·rw [if_pos h1] at q1
  by_cases h2:OneP lp
  all_goals by_cases h3:TwoP lp
  all_goals
   (first|rw [if_pos h2] at q2|rw [if_neg h2] at q2)
   (first|rw [if_pos h3] at q3|rw [if_neg h3] at q3)
   repeat' (first|apply v_box (zs:=[.int .i64 schema,.slice A pl c,.slice A' sl c']);(case hx|hz|hd=>rfl);intro b|refine Wa ?_|(refine Wc ⟨?_,?_⟩<;>first|exact True.intro|intro h)|refine cJ q1 ?_|refine cJ q2 ?_|refine cJ q3 ?_|refine cJ q4 ?_|refine Wr ?_|(refine Wb ?_;intro b)|fail)
  all_goals
   (refine Vr ?_
    refine ⟨?_,rfl⟩
    first
     |(rw [hyes ⟨h1,.inl ⟨by assumption,by (first|assumption|rfl),h2⟩⟩])
     |(rw [hyes ⟨h1,.inr ⟨by assumption,h3⟩⟩])
     |(rw [hnot]
       rintro ⟨-,⟨a,b,d⟩|⟨a,d⟩⟩
       all_goals first
        | omega
        | exact h2 d
        | exact h3 d
        |(simp_all;done)))
 ·rw [if_neg h1] at q1
  rw [hnot (fun h=>h1 h.1)]
  repeat' (first|apply v_box (zs:=[.int .i64 schema,.slice A pl c,.slice A' sl c']);(case hx|hz|hd=>rfl);intro b|refine Wa ?_|(refine Wc ⟨?_,?_⟩<;>first|exact True.intro|intro h)|refine cJ q1 ?_|refine Wr ?_|(refine Wb ?_;intro b)|fail)
  refine Vr ?_
  exact ⟨rfl,rfl⟩
theorem v_copyRow {P:Program}{fn:Func}{n:Nat}{B:Base}{Φ:Value→GH→OH→Prop}{k:List It}{rest:List Oper}{all:Array Oper}{σ:Env}{G:GH}{μ μ':OH}{d:Nat}{t ty e:TypeId}{pos:String}{af:Array Edge}{agg:Bool}{sz bytes:Nat}{zero:Value}{y x:Operand}{b:Nat}{α:Type}{f:α→List Value}{l:List α}{sv:Value}{vs:List Value} [Ty P t (.slice e)] [Lay P e agg sz bytes zero]
 (hf:∀ x,(f x).length=sz) (hone:∀ x,(f x).all Value.oneCell'=true) (hsz:0<sz) (hs:Sl G sz (RowR f) sv l) (hvs:vs.length=l.length*sz)
 (hy:Env.ev σ y=some (.slice (some ⟨b,0,none⟩) l.length l.length)) (hx:Env.ev σ x=some sv) (hb:Has μ b vs e) (hu:Upd b (.cells (rowC f l).toArray e (0,0)) μ μ') (hsame:vs=rowC f l→μ'=μ) (hd:Nat.blt d n=true)
 (h:Vc P fn n B Φ (.ops all rest::k) ((d,.int .i64 l.length)::σ) G μ'):Vc P fn n B Φ (.ops all (⟨some d,.call { callee:=.builtin .copy,args:=#[y,x],argTypes:=#[t,t] },ty,pos,af,none⟩::rest)::k) σ G μ:=by
 obtain ⟨A,c,rfl,hlc,hcm,hsome,hcp⟩:=rowOpen hs
 have hl:=rowC_length hf l
 by_cases h0:l.length=0
 ·have e1:l=[]:=List.eq_nil_of_length_eq_zero h0
  subst e1
  have e2:vs=[]:=List.eq_nil_of_length_eq_zero (by rw [hvs];simp)
  rw [hsame e2] at h
  exact v_read (m_copy0 (e:=e) (agg:=agg) (sz:=sz) (bytes:=bytes) (zero:=zero) hy hx) hd h
 ·refine v_copy (e:=e) (agg:=agg) (sz:=sz) (bytes:=bytes) (zero:=zero) (q:=l.length) (us:=rowC f l) hy hx (Nat.min_self _) (by omega) (rowSrc hf hsz hsome hcp) hb ?_ ?_ ?_ hu hd h
  ·rw [List.take_of_length_le (by omega)];exact rowC_one hone l
  ·omega
  ·unfold over
   rw [List.take_of_length_le (l:=rowC f l) (by omega),List.take_zero,List.drop_of_length_le (by omega)]
   simp
theorem migClone_s {G:GH}{s:St}{v:Value}(hs:StV G s v) (h1:s.pairs.length≤200) (h2:s.sess.length≤200):Con Tryz.prog 123 #[v] G [] (fun r G' μ'=>G'=G∧∃ bp bs,r=.agg [.int .i64 s.schema,.slice (some ⟨bp,0,none⟩) s.pairs.length s.pairs.length,.slice (some ⟨bs,0,none⟩) s.sess.length s.sess.length].toArray∧μ'=[(bs,.cells (rowC Ss.cells s.sess).toArray 241 (0,0)),(bp,.cells (rowC Pr.cells s.pairs).toArray 257 (0,0))]):=by
 obtain ⟨A,c,A',c',rfl,hp,hss⟩:=id hs
 obtain ⟨schema,lp,ls⟩:=s
 simp only at *
 have z1:=rowC_length Pr.len lp
 have z2:=rowC_length Ss.len ls
 have q1:=Pr.one
 have q2:=Ss.one
 (refine v_enter Tryz.func123 rfl Tryz.ntmps123 rfl ?_;intro B _)
 repeat' (first|apply v_box (zs:=[.int .i64 schema,.slice A lp.length c,.slice A' ls.length c']);(case hx|hz|hd=>rfl);intro b|apply v_alloc (d:=2);(case hz|hd=>rfl);intro b2|refine Wa ?_|(refine Wc ⟨?_,?_⟩<;>first|exact True.intro|intro h)|apply v_makeSlice (m:=lp.length);(case hx|hy=>rfl);(case hb=>omega);(case hm=>simp only [maxLen];omega);(case hd=>rfl);intro bp vp hvp|apply v_makeSlice (m:=ls.length);(case hx|hy=>rfl);(case hb=>omega);(case hm=>simp only [maxLen];omega);(case hd=>rfl);intro bs vs hvs|apply v_copyRow (hf:=Pr.len) (hone:=Pr.one) (l:=lp);(case hsz=>omega);(case hs=>exact hp);(case hvs=>exact hvp);(case hy|hx=>rfl);(case hb=>exact aM);(case hu=>repeat first|exact Upd.here _ _|apply Upd.there);(case hsame=>intro h;rw [h]);(case hd=>rfl)|apply v_copyRow (hf:=Ss.len) (hone:=Ss.one) (l:=ls);(case hsz=>omega);(case hs=>exact hss);(case hvs=>exact hvs);(case hy|hx=>rfl);(case hb=>exact aM);(case hu=>repeat first|exact Upd.here _ _|apply Upd.there);(case hsame=>intro h;rw [h]);(case hd=>rfl)|refine Wr ?_|(refine Wb ?_;intro b)|fail)
 refine v_retM [(bs,.cells (rowC Ss.cells ls).toArray 241 (0,0)),(bp,.cells (rowC Pr.cells lp).toArray 257 (0,0))] (outsM_cell (sz:=3) (vs:=[.int .i64 schema,.slice (some ⟨bp,0,none⟩) lp.length lp.length,.slice (some ⟨bs,0,none⟩) ls.length ls.length]) (e:=57) rfl rfl aM rfl) sS ⟨rfl,bp,bs,rfl,rfl⟩
theorem madeP {l:List Pr}(b:Nat) (h:l.length≤200):GrP (.slice (some ⟨b,0,none⟩) l.length l.length) l [(b,.cells (rowC Pr.cells l).toArray 257 (0,0))] :=
 ⟨rowC_length Pr.len l,.inr ⟨b,l.length,[],rfl,by rw [List.append_nil],Nat.le_refl _,by simp only [maxLen];omega,by rw [List.append_nil];exact rowC_length Pr.len l⟩⟩
theorem madeS {l:List Ss}(b:Nat) (h:l.length≤200):GrS (.slice (some ⟨b,0,none⟩) l.length l.length) l [(b,.cells (rowC Ss.cells l).toArray 241 (0,0))] :=
 ⟨rowC_length Ss.len l,.inr ⟨b,l.length,[],rfl,by rw [List.append_nil],Nat.le_refl _,by simp only [maxLen];omega,by rw [List.append_nil];exact rowC_length Ss.len l⟩⟩
theorem StV.made {G':GH}{s:St}{bp bs:Nat}(h1:s.pairs.length≤200) (h2:s.sess.length≤200) (hp:G' bp=some (.cells (rowC Pr.cells s.pairs).toArray 257 (0,0))) (hs:G' bs=some (.cells (rowC Ss.cells s.sess).toArray 241 (0,0))) :
 StV G' s (.agg [.int .i64 s.schema,.slice (some ⟨bp,0,none⟩) s.pairs.length s.pairs.length,.slice (some ⟨bs,0,none⟩) s.sess.length s.sess.length].toArray) :=
 ⟨_,_,_,_,rfl,row_of_grow Pr.len (madeP bp h1) (fun b o h=>by simp only [List.mem_singleton] at h;cases h;exact hp),row_of_grow Ss.len (madeS bs h2) (fun b o h=>by simp only [List.mem_singleton] at h;cases h;exact hs)⟩
def revOf (r:Int) (x:Pr):Pr:={ x with rev:=r }
def revK (l:List Pr) (k:Nat):List Pr:=(l.take k).map (revOf 1)++l.drop k
theorem revK_next {l:List Pr}{k:Nat}(h:k<l.length):revK l (k+1)=(l.take k).map (revOf 1)++revOf 1 l[k]::l.drop (k+1):=by
 unfold revK
 rw [List.take_succ_eq_append_getElem h,List.map_append,List.append_assoc]
 rfl
theorem revK_at {l:List Pr}{k:Nat}(h:k<l.length):revK l k=(l.take k).map (revOf 1)++l[k]::l.drop (k+1):=by
 unfold revK
 rw [List.drop_eq_getElem_cons h]
theorem revK_len {l:List Pr}{k:Nat}(h:k≤l.length):(revK l k).length=l.length:=by
 unfold revK
 rw [List.length_append,List.length_map,List.length_take,List.length_drop];omega
theorem rev1_over (x:Pr) (p q:List Value) (n:Nat) (hp:p.length=n):over (p++(x.cells++q)) (n+2) [.int .i64 1]=p++((revOf 1 x).cells++q):=by
 subst hp
 unfold over
 rw [List.take_append,List.take_of_length_le (by omega),List.drop_append,List.drop_of_length_le (by omega)]
 rw [show p.length+2-p.length=2 by omega,show p.length+2+[Value.int IntKind.i64 1].length-p.length=3 by simp only [List.length_singleton];omega]
 simp [Pr.cells,revOf]
def upS (s:St):St:=⟨2,s.pairs.map (revOf 1),s.sess⟩
abbrev stZ:Value:=.agg #[.int .i64 0,.slice none 0 0,.slice none 0 0]
theorem migUp2_s {G:GH}(hT:TabsG G) {s:St}{v:Value}(hs:StV G s v) (hz:StZ s) (hok:StP s) (h2:s.schema=2):Con Tryz.prog 129 #[v] G [] (Just (.tuple [stZ,.int .i64 12].toArray) G):=by
 have q1:=migCheck_s hT hs hz
 rw [if_pos hok] at q1
 obtain ⟨A,c,A',c',rfl,hp,hss⟩:=id hs
 obtain ⟨schema,lp,ls⟩:=s
 simp only at *
 subst h2
 generalize lp.length=pl at *
 generalize ls.length=sl at *
 apply Con.just
 (refine v_enter Tryz.func129 rfl Tryz.ntmps129 rfl ?_;intro B _)
 repeat' (first|apply v_box (zs:=[.int .i64 2,.slice A pl c,.slice A' sl c']);(case hx|hz|hd=>rfl);intro b|apply v_alloc (d:=2);(case hz|hd=>rfl);intro b2|refine Wa ?_|(refine Wc ⟨?_,?_⟩<;>first|exact True.intro|intro h)|refine cJ q1 ?_|refine Wr ?_|(refine Wb ?_;intro b)|fail)
 refine v_retM [] (outsM_cell_tmp (sz:=3) (vs:=[.int .i64 0,.slice none 0 0,.slice none 0 0]) (e:=57) rfl rfl rfl aM rfl) (List.nil_sublist _) ⟨rfl,rfl⟩
theorem migUp1_s {G:GH}(hT:TabsG G) {s:St}{v:Value}(hs:StV G s v) (hz:StZ s) (hok:StP s) (h1:s.schema=1):Con Tryz.prog 129 #[v] G [] (fun r G' μ'=>G'=G∧∃ bp bs,r=.tuple [.agg [.int .i64 2,.slice (some ⟨bp,0,none⟩) s.pairs.length s.pairs.length,.slice (some ⟨bs,0,none⟩) s.sess.length s.sess.length].toArray,.int .i64 0].toArray∧μ'=[(bs,.cells (rowC Ss.cells s.sess).toArray 241 (0,0)),(bp,.cells (rowC Pr.cells (upS s).pairs).toArray 257 (0,0))]):=by
 have q1:=migCheck_s hT hs hz
 rw [if_pos hok] at q1
 obtain ⟨-,-,z3,z4⟩:=hz
 have q2:=migClone_s hs (by omega) (by omega)
 obtain ⟨A,c,A',c',rfl,hp,hss⟩:=id hs
 obtain ⟨schema,lp,ls⟩:=s
 unfold upS
 simp only at *
 subst h1
 (refine v_enter Tryz.func129 rfl Tryz.ntmps129 rfl ?_;intro B _)
 repeat' (first|apply v_box (zs:=[.int .i64 1,.slice A lp.length c,.slice A' ls.length c']);(case hx|hz|hd=>rfl);intro b|apply v_alloc (d:=2);(case hz|hd=>rfl);intro b2|refine Wa ?_|(refine Wc ⟨?_,?_⟩<;>first|exact True.intro|intro h)|refine cJ q1 ?_|refine Wr ?_|(refine Wb ?_;intro b)|fail)
 refine cQ rfl q2 ?_
 rintro _ G1 ν1 - ⟨hG1,bp,bs,rfl,rfl⟩
 subst hG1
 repeat' (first|apply v_alloc (d:=5);(case hz|hd=>rfl);intro b5|refine Wa ?_|(refine Wc ⟨?_,?_⟩<;>first|exact True.intro|intro h)|refine Wr ?_|(refine Wb ?_;intro b)|fail)
 refine v_perm (ν:=[(bp,.cells (rowC Pr.cells (revK lp 0)).toArray 257 (0,0)),(bs,.cells (rowC Ss.cells ls).toArray 241 (0,0)),(b5,.cells [.int .i64 2,.slice (some ⟨bp,0,none⟩) lp.length lp.length,.slice (some ⟨bs,0,none⟩) ls.length ls.length].toArray 57 (0,0)),(b2,.cells [.int .i64 0,.slice none 0 0,.slice none 0 0].toArray 57 (0,0)),(b,.cells [.int .i64 1,.slice A lp.length c,.slice A' ls.length c'].toArray 57 (0,0))]) aV ?_
 refine v_loop [23,22,5,2] (fun us G' μ'=>G'=G1∧∃ k:Nat,k≤lp.length∧us=[Value.int .i64 (k:Nat),.int .i64 (lp.length:Nat),.pointer (some ⟨b5,0,none⟩),.pointer (some ⟨b2,0,none⟩)]∧μ'=[(bp,.cells (rowC Pr.cells (revK lp k)).toArray 257 (0,0)),(bs,.cells (rowC Ss.cells ls).toArray 241 (0,0)),(b5,.cells [.int .i64 2,.slice (some ⟨bp,0,none⟩) lp.length lp.length,.slice (some ⟨bs,0,none⟩) ls.length ls.length].toArray 57 (0,0)),(b2,.cells [.int .i64 0,.slice none 0 0,.slice none 0 0].toArray 57 (0,0)),(b,.cells [.int .i64 1,.slice A lp.length c,.slice A' ls.length c'].toArray 57 (0,0))]) (fun us=>lp.length-(headI us).toNat) rfl ⟨rfl,0,by omega,rfl,rfl⟩ ?_
 rintro us G' _ ⟨hG',k,hk,rfl,rfl⟩
 subst hG'
 by_cases hlt:k<lp.length
 ·have hov:over (rowC Pr.cells (revK lp k)) (k*3+2) [.int .i64 1]=rowC Pr.cells (revK lp (k+1)):=by
   rw [revK_at hlt,revK_next hlt,rowC_append,rowC_append,rowC_cons,rowC_cons]
   exact rev1_over _ _ _ _ (by rw [rowC_length Pr.len,List.length_map,List.length_take,Nat.min_eq_left (by omega)])
  have hfit:k*3+2+1≤(rowC Pr.cells (revK lp k)).length:=by
   rw [rowC_length Pr.len,revK_len hk]
   omega
  repeat' (first|apply v_pure;(case hop=>apply p_idxOwn2;(case hx|hi=>rfl);(case h=>omega));(case hd=>rfl)|refine Wa ?_|(refine Wc ⟨?_,?_⟩<;>first|exact True.intro|intro h)|apply v_store;(case hp|hx|hc|hsz|h1=>rfl);(case hb=>exact aM);(case hfit=>exact hfit);(case hov=>exact hov);(case hu=>repeat first|exact Upd.here _ _|apply Upd.there)|refine Wr ?_|(refine Wb ?_;intro b)|fail)
  exact Va rfl ⟨rfl,k+1,by omega,rfl,rfl⟩
 ·obtain rfl:k=lp.length:=by omega
  have e1:revK lp lp.length=lp.map (revOf 1):=by unfold revK;simp
  rw [e1]
  repeat' (first|refine Wa ?_|(refine Wc ⟨?_,?_⟩<;>first|exact True.intro|intro h)|refine Wr ?_|(refine Wb ?_;intro b)|fail)
  refine v_perm (ν:=[(bs,.cells (rowC Ss.cells ls).toArray 241 (0,0)),(bp,.cells (rowC Pr.cells (lp.map (revOf 1))).toArray 257 (0,0)),(b5,.cells [.int .i64 2,.slice (some ⟨bp,0,none⟩) lp.length lp.length,.slice (some ⟨bs,0,none⟩) ls.length ls.length].toArray 57 (0,0)),(b2,.cells [.int .i64 2,.slice (some ⟨bp,0,none⟩) lp.length lp.length,.slice (some ⟨bs,0,none⟩) ls.length ls.length].toArray 57 (0,0)),(b,.cells [.int .i64 1,.slice A lp.length c,.slice A' ls.length c'].toArray 57 (0,0))]) aV ?_
  refine v_retM [(bs,.cells (rowC Ss.cells ls).toArray 241 (0,0)),(bp,.cells (rowC Pr.cells (lp.map (revOf 1))).toArray 257 (0,0))] (outsM_cell_tmp (sz:=3) (vs:=[.int .i64 2,.slice (some ⟨bp,0,none⟩) lp.length lp.length,.slice (some ⟨bs,0,none⟩) ls.length ls.length]) (e:=57) rfl rfl rfl aM rfl) sS ⟨rfl,bp,bs,rfl,rfl⟩
theorem ownB (k:Int):decide (¬ band (cmdFields k).1 1=0)=decide (2≤k∧k≤5):=by
 rw [decide_eq_decide]
 unfold cmdFields
 by_cases h1:k=1∨k=6
 ·rw [if_pos h1];exact ⟨fun h=>absurd band_0_1 h,fun h=>absurd h (by omega)⟩
 rw [if_neg h1]
 by_cases h2:k=2
 ·rw [if_pos h2];exact ⟨fun _=>by omega,fun _ h=>absurd (band_11_1.symm.trans h) (by decide)⟩
 rw [if_neg h2]
 by_cases h3:k=3∨k=4
 ·rw [if_pos h3];exact ⟨fun _=>by omega,fun _ h=>absurd (band_3_1.symm.trans h) (by decide)⟩
 rw [if_neg h3]
 by_cases h4:k=5
 ·rw [if_pos h4];exact ⟨fun _=>by omega,fun _ h=>absurd (band_15_1.symm.trans h) (by decide)⟩
 rw [if_neg h4]
 by_cases h5:k=7∨k=8
 ·rw [if_pos h5];exact ⟨fun h=>absurd band_16_1 h,fun h=>absurd h (by omega)⟩
 rw [if_neg h5];exact ⟨fun h=>absurd band_0_1 h,fun h=>absurd h (by omega)⟩
theorem cmdOwned_s (G:GH) (c:Cm):Con Tryz.prog 127 #[.agg c.cells.toArray] G [] (Just (.bool (decide (2≤c.kind∧c.kind≤5))) G):=by
 have q:=fields_s G c.kind
 have hb:=ownB c.kind
 apply Con.just
 obtain ⟨kind,client,seq,key,val,old,node⟩:=c
 simp only at *
 generalize cmdFields kind=f at *
 rw [← hb]
 (refine v_enter Tryz.func127 rfl Tryz.ntmps127 rfl ?_;intro B _)
 repeat' (first|apply v_box (zs:=Cm.cells ⟨kind,client,seq,key,val,old,node⟩);(case hx|hz|hd=>rfl);intro b|refine Wa ?_|(refine Wc ⟨?_,?_⟩<;>first|exact True.intro|intro h)|refine cJ q ?_|refine Wr ?_|(refine Wb ?_;intro b)|fail)
 all_goals
  (refine Vr ?_
   refine ⟨?_,rfl⟩
   (try simp only [dec_eq])
   first
    | rfl
    |(simp;done)
    |(simp_all;done))
def zeroSt:St:=⟨0,[],[]⟩
theorem StV.zero (G:GH):StV G zeroSt stZ:=by
 refine ⟨none,0,none,0,rfl,?_,?_⟩
 ·exact row_of_grow Pr.len (Grow.nil 257 3) (fun b o h=>by cases h)
 ·exact row_of_grow Ss.len (Grow.nil 241 8) (fun b o h=>by cases h)
theorem StP.walk {s:St}(h:StP s) (hz:StZ s):StW s:=by
 obtain ⟨h1,h2⟩:=h
 obtain ⟨z1,z2,z3,z4⟩:=hz
 refine ⟨?_,z1,z3,?_,riseG_pw.1 (adjS_rise h1.1),by omega⟩
 ·rcases h2 with ⟨-,-,h⟩|⟨-,h⟩
  ·exact riseG_pw.1 (adj_rise h.2.1)
  ·exact riseG_pw.1 (adj_rise h.2.1)
 ·intro x hx
  rcases h2 with ⟨-,-,h⟩|⟨-,h⟩
  ·have:=(h.2.2 x hx).2;omega
  ·have:=(h.2.2 x hx).2;omega
noncomputable def applyS (s:St) (c:Cm):St×An×Int :=
 if cmdI c≠0 then (zeroSt,zA,cmdI c)
 else if 2≤c.kind∧c.kind≤5 then ((clientS s c).1,(clientS s c).2,0)
 else if c.kind=6∧s.schema=1 then (upS s,zA,0)
 else (s,zA,0)
theorem TabsG.up {G G':GH}(hle:GH.le G G') (h:TabsG G):TabsG G':=fun w hw=>h w fun b o hb=>hw b o (hle b o hb)
theorem apply_s {G:GH}(hT:TabsG G) {s:St}{v:Value}(c:Cm) (hs:StV G s v) (hz:StZ s) (hok:StP s) (hc:c.ok) (hcw:CmW c) :
 Con Tryz.prog 64 #[v,.agg c.cells.toArray] G [] (fun r G' μ'=>μ'=[]∧∃ v',r=.tuple [v',.agg (applyS s c).2.1.cells.toArray,.int .i64 (applyS s c).2.2].toArray∧StV G' (applyS s c).1 v'):=by
 have qk:=migCheck_s hT hs hz
 rw [if_pos hok] at qk
 have qc:=cmdCheck_s hT c hc
 obtain ⟨A,c0,A',c',rfl,hp,hss⟩:=id hs
 have hw:=hok.walk hz
 unfold applyS
 have hcl:=fun G' v' (h:StV G' s v')=>client_s c h hw hcw
 have hcn:=fun G' v' (h:StV G' s v')=>migClone_s (G:=G') h (by have:=hz.2.2.1;omega) (by have:=hz.2.2.2;omega)
 have hu1:=fun G' (hT:TabsG G') v' (h:StV G' s v')=>migUp1_s hT h hz hok
 have hu2:=fun G' (hT:TabsG G') v' (h:StV G' s v')=>migUp2_s hT h hz hok
 have how:=fun G'=>cmdOwned_s G' c
 obtain ⟨kind,cl,seq,key,val,old,node⟩:=c
 generalize cmdI ⟨kind,cl,seq,key,val,old,node⟩=ci at *
 generalize clientS s ⟨kind,cl,seq,key,val,old,node⟩=cs at *
 simp only at *
 (refine v_enter Tryz.func64 rfl Tryz.ntmps64 rfl ?_;intro B _)
 repeat' (first|apply v_box (d:=2) (zs:=[.int .i64 s.schema,.slice A s.pairs.length c0,.slice A' s.sess.length c']);(case hx|hz|hd=>rfl);intro b2|apply v_box (d:=3) (zs:=(Cm.cells ⟨kind,cl,seq,key,val,old,node⟩));(case hx|hz|hd=>rfl);intro b3|apply v_alloc (d:=4);(case hz|hd=>rfl);intro b4|apply v_alloc (d:=5);(case hz|hd=>rfl);intro b5|apply v_alloc (d:=9);(case hz|hd=>rfl);intro b9|apply v_alloc (d:=10);(case hz|hd=>rfl);intro b10|apply v_alloc (d:=11);(case hz|hd=>rfl);intro b11|apply v_read;(case hop=>(apply r_loadNo;(case hx=>rfl);(case h=>exact aM);(case hd|hn=>rfl)));(case hd=>rfl)|refine Wa ?_|(refine Wc ⟨?_,?_⟩<;>first|exact True.intro|intro h)|refine cJ qk ?_|refine Wr ?_|(refine Wb ?_;intro b)|fail)
 refine cQ rfl qc ?_
 rintro _ G1 _ hle1 ⟨rfl,rfl⟩
 have hT1:=hT.up hle1
 by_cases hci:ci=0
 ·rw [if_neg (by simp [hci])]
  subst hci
  repeat' (first|apply v_box (d:=2) (zs:=[.int .i64 s.schema,.slice A s.pairs.length c0,.slice A' s.sess.length c']);(case hx|hz|hd=>rfl);intro b2|apply v_box (d:=3) (zs:=(Cm.cells ⟨kind,cl,seq,key,val,old,node⟩));(case hx|hz|hd=>rfl);intro b3|apply v_alloc (d:=4);(case hz|hd=>rfl);intro b4|apply v_alloc (d:=5);(case hz|hd=>rfl);intro b5|apply v_alloc (d:=9);(case hz|hd=>rfl);intro b9|apply v_alloc (d:=10);(case hz|hd=>rfl);intro b10|apply v_alloc (d:=11);(case hz|hd=>rfl);intro b11|apply v_read;(case hop=>(apply r_loadNo;(case hx=>rfl);(case h=>exact aM);(case hd|hn=>rfl)));(case hd=>rfl)|refine Wa ?_|(refine Wc ⟨?_,?_⟩<;>first|exact True.intro|intro h)|refine cJ qk ?_|refine Wr ?_|(refine Wb ?_;intro b)|fail)
  refine cQ rfl (hcn G1 _ (hs.up hle1)) ?_
  rintro _ G2 ν2 - ⟨hG2,bp,bs,rfl,rfl⟩
  subst hG2
  refine v_frz [(bs,.cells (rowC Ss.cells s.sess).toArray 241 (0,0)),(bp,.cells (rowC Pr.cells s.pairs).toArray 257 (0,0))] (PickA.here _) ?_
  intro G3 hle3 hG3
  have hs3:StV G3 s _:=StV.made (s:=s) (bp:=bp) (bs:=bs) (by have:=hz.2.2.1;omega) (by have:=hz.2.2.2;omega) (hG3 _ _ aM) (hG3 _ _ aM)
  have hT3:=hT1.up hle3
  have how3:=how G3
  repeat' (first|apply v_box (d:=2) (zs:=[.int .i64 s.schema,.slice A s.pairs.length c0,.slice A' s.sess.length c']);(case hx|hz|hd=>rfl);intro b2|apply v_box (d:=3) (zs:=(Cm.cells ⟨kind,cl,seq,key,val,old,node⟩));(case hx|hz|hd=>rfl);intro b3|apply v_alloc (d:=4);(case hz|hd=>rfl);intro b4|apply v_alloc (d:=5);(case hz|hd=>rfl);intro b5|apply v_alloc (d:=9);(case hz|hd=>rfl);intro b9|apply v_alloc (d:=10);(case hz|hd=>rfl);intro b10|apply v_alloc (d:=11);(case hz|hd=>rfl);intro b11|apply v_read;(case hop=>(apply r_loadNo;(case hx=>rfl);(case h=>exact aM);(case hd|hn=>rfl)));(case hd=>rfl)|refine Wa ?_|(refine Wc ⟨?_,?_⟩<;>first|exact True.intro|intro h)|refine cJ qk ?_|refine cJ how3 ?_|refine Wr ?_|(refine Wb ?_;intro b)|fail)
  ·rw [if_pos (by assumption)]
   refine cQ rfl (hcl G3 _ hs3) ?_
   obtain ⟨cs1,⟨ac,aq,ae,af,av,ar⟩⟩:=cs
   rintro _ G4 _ - ⟨hle4,rfl,v4,rfl,hs4⟩
   obtain ⟨A4,c4,A4',c4',rfl,-,-⟩:=id hs4
   repeat' (first|apply v_alloc (d:=9);(case hz|hd=>rfl);intro b9|apply v_alloc (d:=10);(case hz|hd=>rfl);intro b10|apply v_alloc (d:=11);(case hz|hd=>rfl);intro b11|apply v_read;(case hop=>(apply r_loadNo;(case hx=>rfl);(case h=>exact aM);(case hd|hn=>rfl)));(case hd=>rfl)|refine Wa ?_|(refine Wc ⟨?_,?_⟩<;>first|exact True.intro|intro h)|refine Wr ?_|(refine Wb ?_;intro b)|fail)
   refine Dz [(b9,.cells [.int .i64 cs1.schema,.slice A4 cs1.pairs.length c4,.slice A4' cs1.sess.length c4'].toArray 57 (0,0)),(b10,.cells [.int .i64 ac,.int .i64 aq,.int .i64 ae,.bool af,.string av,.int .i64 ar].toArray 66 (0,0))] ?_
   all_goals refine Dt [0,1] ?_
   all_goals ((apply d_store 2;(case hi=>rfl);(case hr=>kernel_rfl);(case hL=>infer_instance);(case hp|hx|hc|hsz|h1=>rfl);(case hb=>exact aM);(case hfit=>first|exact Nat.le_of_ble_eq_true rfl|rfl);(case hov=>(first|((repeat (first|with_reducible exact ov_nil|apply ov_cons|apply ov_there));done)|rfl));(case hu=>repeat first|exact Upd.here _ _|apply Upd.there|apply Upd.app);(case hν'=>exact aE)))
   all_goals ((apply d_store 3;(case hi=>rfl);(case hr=>kernel_rfl);(case hL=>infer_instance);(case hp|hx|hc|hsz|h1=>rfl);(case hb=>exact aM);(case hfit=>first|exact Nat.le_of_ble_eq_true rfl|rfl);(case hov=>(first|((repeat (first|with_reducible exact ov_nil|apply ov_cons|apply ov_there));done)|rfl));(case hu=>repeat first|exact Upd.here _ _|apply Upd.there|apply Upd.app);(case hν'=>exact aE)))
   all_goals refine Dt [4] ?_
   all_goals refine Dd ?_
   repeat' (first|refine Wa ?_|(refine Wc ⟨?_,?_⟩<;>first|exact True.intro|intro h)|refine Wr ?_|(refine Wb ?_;intro b)|fail)
   refine v_retM [] (outsM_cct (sz0:=3) (vs0:=[.int .i64 cs1.schema,.slice A4 cs1.pairs.length c4,.slice A4' cs1.sess.length c4']) (e0:=57) (sz1:=6) (vs1:=[.int .i64 ac,.int .i64 aq,.int .i64 ae,.bool af,.string av,.int .i64 ar]) (e1:=66) rfl rfl aM rfl rfl aM rfl rfl) (List.nil_sublist _) ⟨rfl,_,rfl,hs4⟩
  ·rw [if_neg (by assumption)]
   by_cases h1:s.schema=1
   ·refine cQ rfl (hu1 G3 hT3 _ hs3 h1) ?_
    rintro _ G4 ν4 - ⟨hG4,bp',bs',rfl,rfl⟩
    subst hG4
    refine v_frz [(bs',.cells (rowC Ss.cells s.sess).toArray 241 (0,0)),(bp',.cells (rowC Pr.cells (upS s).pairs).toArray 257 (0,0))] (PickA.here _) ?_
    intro G5 hle5 hG5
    have el:(upS s).pairs.length=s.pairs.length:=List.length_map ..
    have hs5:=StV.made (G':=G5) (s:=upS s) (bp:=bp') (bs:=bs') (by rw [el];have:=hz.2.2.1;omega) (by have:=hz.2.2.2;show s.sess.length≤200;omega) (hG5 _ _ aM) (hG5 _ _ aM)
    rw [el] at hs5
    have hs3':=hs3.up hle5
    repeat' (first|apply v_alloc (d:=9);(case hz|hd=>rfl);intro b9|apply v_alloc (d:=10);(case hz|hd=>rfl);intro b10|apply v_alloc (d:=11);(case hz|hd=>rfl);intro b11|apply v_read;(case hop=>(apply r_loadNo;(case hx=>rfl);(case h=>exact aM);(case hd|hn=>rfl)));(case hd=>rfl)|refine Wa ?_|(refine Wc ⟨?_,?_⟩<;>first|exact True.intro|intro h)|refine Wr ?_|(refine Wb ?_;intro b)|fail)
    ·rw [if_pos ⟨by assumption,h1⟩]
     refine v_retM [] (outsM_cct (sz0:=3) (vs0:=[.int .i64 2,.slice (some ⟨bp',0,none⟩) s.pairs.length s.pairs.length,.slice (some ⟨bs',0,none⟩) s.sess.length s.sess.length]) (e0:=57) (sz1:=6) (vs1:=zA.cells) (e1:=66) rfl rfl aM rfl rfl aM rfl rfl) (List.nil_sublist _) ⟨rfl,_,rfl,hs5⟩
    ·rw [if_neg (fun h=>absurd h.1 (by assumption))]
     refine v_retM [] (outsM_cct (sz0:=3) (vs0:=[.int .i64 s.schema,.slice (some ⟨bp,0,none⟩) s.pairs.length s.pairs.length,.slice (some ⟨bs,0,none⟩) s.sess.length s.sess.length]) (e0:=57) (sz1:=6) (vs1:=zA.cells) (e1:=66) rfl rfl aM rfl rfl aM rfl rfl) (List.nil_sublist _) ⟨rfl,_,rfl,hs3'⟩
   ·rw [if_neg (fun h=>h1 h.2)]
    have h2:s.schema=2:=by
     rcases hok.2 with h|h
     ·exact absurd h.1 h1
     ·exact h.1
    refine cQ rfl (hu2 G3 hT3 _ hs3 h2) ?_
    rintro _ G4 ν4 - ⟨rfl,hG4,rfl⟩
    try subst hG4
    repeat' (first|apply v_alloc (d:=9);(case hz|hd=>rfl);intro b9|apply v_alloc (d:=10);(case hz|hd=>rfl);intro b10|apply v_alloc (d:=11);(case hz|hd=>rfl);intro b11|apply v_read;(case hop=>(apply r_loadNo;(case hx=>rfl);(case h=>exact aM);(case hd|hn=>rfl)));(case hd=>rfl)|refine Wa ?_|(refine Wc ⟨?_,?_⟩<;>first|exact True.intro|intro h)|refine Wr ?_|(refine Wb ?_;intro b)|fail)
    all_goals
     refine v_retM [] (outsM_cct (sz0:=3) (vs0:=[.int .i64 s.schema,.slice (some ⟨bp,0,none⟩) s.pairs.length s.pairs.length,.slice (some ⟨bs,0,none⟩) s.sess.length s.sess.length]) (e0:=57) (sz1:=6) (vs1:=zA.cells) (e1:=66) rfl rfl aM rfl rfl aM rfl rfl) (List.nil_sublist _) ⟨rfl,_,rfl,hs3⟩
 ·rw [if_pos (by simp [hci])]
  repeat' (first|apply v_box (d:=2) (zs:=[.int .i64 s.schema,.slice A s.pairs.length c0,.slice A' s.sess.length c']);(case hx|hz|hd=>rfl);intro b2|apply v_box (d:=3) (zs:=(Cm.cells ⟨kind,cl,seq,key,val,old,node⟩));(case hx|hz|hd=>rfl);intro b3|apply v_alloc (d:=4);(case hz|hd=>rfl);intro b4|apply v_alloc (d:=5);(case hz|hd=>rfl);intro b5|apply v_alloc (d:=9);(case hz|hd=>rfl);intro b9|apply v_alloc (d:=10);(case hz|hd=>rfl);intro b10|apply v_alloc (d:=11);(case hz|hd=>rfl);intro b11|apply v_read;(case hop=>(apply r_loadNo;(case hx=>rfl);(case h=>exact aM);(case hd|hn=>rfl)));(case hd=>rfl)|refine Wa ?_|(refine Wc ⟨?_,?_⟩<;>first|exact True.intro|intro h)|refine cJ qk ?_|refine Wr ?_|(refine Wb ?_;intro b)|fail)
  refine v_retM [] (outsM_cct (sz0:=3) (vs0:=[.int .i64 0,.slice none 0 0,.slice none 0 0]) (e0:=57) (sz1:=6) (vs1:=zA.cells) (e1:=66) rfl rfl aM rfl rfl aM rfl rfl) (List.nil_sublist _) ⟨rfl,_,rfl,StV.zero _⟩
def RevOk (z:Int) (x:Pr):Prop:=(z=1∧x.rev=0)∨(z=2∧1≤x.rev∧x.rev≤4294967296)
def PsOk (z:Int) (l:List Pr):Prop:=l.length≤64∧RiseW ksP l∧∀ x∈l,PrOk x∧RevOk z x
theorem stP_iff {s:St}:StP s↔SesP s.sess∧(s.schema=1∨s.schema=2)∧PsOk s.schema s.pairs∧(s.schema=1→s.sess.any revS=false):=by
 obtain ⟨z,lp,ls⟩:=s
 unfold StP PsOk OneP TwoP
 simp only
 constructor
 ·rintro ⟨h1,⟨rfl,h2,h3,h4,h5⟩|⟨rfl,h3,h4,h5⟩⟩
  ·exact ⟨h1,.inl rfl,⟨h3,riseG_pw.1 (adj_rise h4),fun x hx=>⟨(h5 x hx).1,.inl ⟨rfl,(h5 x hx).2⟩⟩⟩,fun _=>h2⟩
  ·exact ⟨h1,.inr rfl,⟨h3,riseG_pw.1 (adj_rise h4),fun x hx=>⟨(h5 x hx).1,.inr ⟨rfl,(h5 x hx).2⟩⟩⟩,fun h=>absurd h (by omega)⟩
 ·rintro ⟨h1,rfl|rfl,⟨h3,h4,h5⟩,h2⟩
  ·refine ⟨h1,.inl ⟨rfl,h2 rfl,h3,rise_adj (riseG_pw.2 h4),fun x hx=>⟨(h5 x hx).1,?_⟩⟩⟩
   rcases (h5 x hx).2 with h|h
   ·exact h.2
   ·exact absurd h.1 (by omega)
  ·refine ⟨h1,.inr ⟨rfl,h3,rise_adj (riseG_pw.2 h4),fun x hx=>⟨(h5 x hx).1,?_⟩⟩⟩
   rcases (h5 x hx).2 with h|h
   ·exact absurd h.1 (by omega)
   ·exact h.2
theorem keyB_size {s:ByteArray}(h:keyB s=true):s.size≤24:=by
 unfold keyB at h
 simp only [Bool.and_eq_true,decide_eq_true_eq] at h
 exact h.1.2
theorem valB_size {s:ByteArray}(h:valB s=true):s.size≤48:=by
 unfold valB at h
 simp only [Bool.and_eq_true,decide_eq_true_eq] at h
 exact h.1.1
theorem valB_empty:valB ByteArray.empty=true:=by
 unfold valB
 have h0:ByteArray.empty.size=0:=rfl
 simp only [Bool.and_eq_true,decide_eq_true_eq,h0]
 refine ⟨⟨by omega,by unfold badR;omega⟩,fun i hi=>by omega⟩
theorem ses_few:∀ (l:List Ss) (a:Int),RiseW ksS l→(∀ x∈l,a≤x.client∧x.client≤8)→a≤9→(l.length:Int)≤9-a
 | [],a,_,_,ha=>by simp;omega
 | x::l,a,h,hx,ha=>by
  have h1:=List.pairwise_cons.1 h
  have h2:=hx x List.mem_cons_self
  have:=ses_few l (x.client+1) h1.2 (fun y hy=>⟨by have:=h1.1 y hy;simp only [ksS] at this;omega,(hx y (List.mem_cons_of_mem _ hy)).2⟩) (by omega)
  simp only [List.length_cons]
  omega
theorem sesP_few {l:List Ss}(h:SesP l):l.length≤8:=by
 have:=ses_few l 1 (riseG_pw.1 (adjS_rise h.1)) (fun x hx=>by
  obtain ⟨h1,h2,h3⟩:=h.2 x hx
  have h4:=(ansI_zero.1 h3).1.1
  omega) (by omega)
 omega
theorem StP.small {s:St}(h:StP s):StZ s:=by
 obtain ⟨h1,h2,⟨h3,h4,h5⟩,h6⟩:=stP_iff.1 h
 refine ⟨fun x hx=>?_,fun x hx=>?_,by omega,by have:=sesP_few h1;omega⟩
 ·have:=(h5 x hx).1
  have a:=keyB_size this.1
  have b:=valB_size this.2
  omega
 ·have:=valB_size (ansI_zero.1 (h1.2 x hx).2.2).2
  omega
theorem withG_ok {z:Int}{l:List Pr}{p:Pr}(h:PsOk z l) (hp:PrOk p) (hr:RevOk z p) (hroom:roomB l (kn p.key)=true):PsOk z (withG ksP l p):=by
 obtain ⟨h1,h2,h3⟩:=h
 refine ⟨?_,withG_rise h2 p,fun x hx=>?_⟩
 ·rw [withG_len h2]
  unfold roomB at hroom
  rw [Bool.or_eq_true,decide_eq_true_eq] at hroom
  split
  ·exact h1
  ·rename_i hn
   rcases hroom with h|h
   ·exact absurd h hn
   ·omega
 ·rcases withG_mem hx with rfl|hx
  ·exact ⟨hp,hr⟩
  ·exact h3 x hx
theorem filter_ok {z:Int}{l:List Pr}(f:Pr→Bool) (h:PsOk z l):PsOk z (l.filter f) :=
 ⟨Nat.le_trans (List.length_filter_le _ _) h.1,h.2.1.sublist List.filter_sublist,fun x hx=>h.2.2 x (List.mem_filter.1 hx).1⟩
theorem findP_val {z:Int}{l:List Pr}(h:PsOk z l) (n:Int):valB (findP l n).val=true∧0≤(findP l n).rev∧(findP l n).rev≤4294967296:=by
 unfold findP
 split
 ·have:=h.2.2 _ (List.getElem_mem (hitG_lt (by assumption)))
  refine ⟨this.1.2,?_⟩
  rcases this.2 with h|h<;>omega
 ·exact ⟨valB_empty,by decide,by decide⟩
def AnOk (z:Int) (c:Cm) (a:An):Prop:=a.client=c.client∧a.seq=c.seq∧(0≤a.err∧a.err≤17)∧(0≤a.rev∧a.rev≤4294967296)∧valB a.val=true∧(z=1→a.rev=0)
theorem nextR_le {r:Int}(h:0≤r):1≤nextR r∧nextR r≤4294967296:=by unfold nextR;omega
theorem doOne_an {z:Int}{l:List Pr}(c:Cm) (h:PsOk z l):AnOk z c (doOne l c).2∧(doOne l c).2.rev=0:=by
 have hf:=(findP_val h (kn c.key)).1
 unfold doOne AnOk ans0
 (repeat' split)<;>(refine ⟨⟨rfl,rfl,by simp,by simp,?_,fun _=>rfl⟩,rfl⟩;first|exact hf|exact valB_empty)
theorem doOne_ok {l:List Pr}(c:Cm) (h:PsOk 1 l) (hk:keyB c.key=true) (hv:c.kind=2→valB c.val=true):PsOk 1 (doOne l c).1:=by
 unfold doOne
 split
 ·split
  ·exact withG_ok h ⟨hk,hv (by assumption)⟩ (.inl ⟨rfl,rfl⟩) (by assumption)
  ·exact h
 ·split
  ·exact h
  ·split
   ·exact filter_ok _ h
   ·exact h
theorem room_of_hit {l:List Pr}{n:Int}(h:hitG ksP l n=true):roomB l n=true:=by unfold roomB;rw [h];rfl
theorem doTwo_ok {l:List Pr}(c:Cm) (h:PsOk 2 l) (hk:keyB c.key=true) (hv:c.kind=2∨c.kind=5→valB c.val=true):PsOk 2 (doTwo l c).1:=by
 have hf:=findP_val h (kn c.key)
 have hn:=nextR_le hf.2.1
 unfold doTwo
 split
 ·unfold casP
  split
  ·exact h
  ·rename_i h5 hh
   split
   ·exact withG_ok h ⟨hk,hv (by omega)⟩ (.inr ⟨rfl,hn⟩) (room_of_hit (by simpa using hh))
   ·exact h
 ·split
  ·rename_i h5 hc
   unfold doOne at hc ⊢
   rw [if_pos hc.1] at hc ⊢
   split
   ·simp only
    rw [withG_twice (by rfl)]
    exact withG_ok h ⟨hk,hv (by omega)⟩ (.inr ⟨rfl,hn⟩) (by assumption)
   ·rename_i hr
    rw [if_neg hr] at hc
    exact absurd hc.2 (by simp)
  ·rename_i h5 hc
   unfold doOne at hc ⊢
   split
   ·rename_i h2
    rw [if_pos h2] at hc
    split
    ·rename_i hr
     rw [if_pos hr] at hc
     exact absurd ⟨h2,rfl⟩ hc
    ·exact h
   ·split
    ·exact h
    ·split
     ·exact filter_ok _ h
     ·exact h
theorem doTwo_an {l:List Pr}(c:Cm) (h:PsOk 2 l):AnOk 2 c (doTwo l c).2:=by
 have hf:=findP_val h (kn c.key)
 have hn:=nextR_le hf.2.1
 have ho:=(doOne_an c h).1
 unfold doTwo
 split
 ·unfold casP AnOk ans0
  (repeat' split)<;>(refine ⟨rfl,rfl,by simp,?_,?_,fun h=>absurd h (by omega)⟩<;>first|exact hf.1|exact valB_empty|(simp;done)|(simp;omega)|(simp only;omega))
 ·split
  ·exact ho
  ·exact ho
theorem doS_ok {z:Int}{l:List Pr}(c:Cm) (hz:z=1∨z=2) (h:PsOk z l) (hk:keyB c.key=true) (hv:c.kind=2∨c.kind=5→valB c.val=true):PsOk z (doS z l c).1∧AnOk z c (doS z l c).2:=by
 unfold doS
 rcases hz with rfl|rfl
 ·rw [if_pos rfl]
  exact ⟨doOne_ok c h hk (fun h=>hv (.inl h)),(doOne_an c h).1⟩
 ·rw [if_neg (by omega)]
  exact ⟨doTwo_ok c h hk hv,doTwo_an c h⟩
theorem sesAt_mem {l:List Ss}{n:Int}(hr:RiseW ksS l) (h:hitG ksS l n=true):sesAt l n∈l∧(sesAt l n).client=n:=by
 rcases hit_parts hr n with ⟨hlt,h1,h2,-⟩|⟨h1,-,-⟩
 ·unfold sesAt
  rw [dif_pos h]
  exact ⟨List.getElem_mem _,h2⟩
 ·rw [h1] at h;cases h
theorem withS_ok {l:List Ss}{a:An}(h:SesP l) (ha:ansI a=0):SesP (withG ksS l (sesOf a)):=by
 refine ⟨rise_adjS (riseG_pw.2 (withG_rise (riseG_pw.1 (adjS_rise h.1)) _)),fun x hx=>?_⟩
 rcases withG_mem hx with rfl|hx
 ·exact ⟨rfl,rfl,ha⟩
 ·exact h.2 x hx
theorem anOk_ans {z:Int}{c:Cm}{a:An}(h:AnOk z c a) (h1:1≤c.client∧c.client≤8) (h2:1≤c.seq∧c.seq≤4294967296):ansI a=0:=by
 obtain ⟨e1,e2,e3,e4,e5,e6⟩:=h
 exact ansI_zero.2 ⟨⟨by rw [e1];exact h1,by rw [e2];exact h2,e3,e4⟩,e5⟩
theorem cmd_ok {c:Cm}(h:cmdI c=0):(1≤c.kind∧c.kind≤8)∧((2≤c.kind∧c.kind≤5)→(1≤c.client∧c.client≤8)∧(1≤c.seq∧c.seq≤4294967296)∧keyB c.key=true)∧(c.kind=2∨c.kind=5→valB c.val=true):=by
 rw [cmdI_eq] at h
 unfold cmdE at h
 split at h
 ·exact absurd h (by omega)
 split at h
 ·exact absurd h (by omega)
 split at h
 ·exact absurd h (by omega)
 rename_i h1 h2 h3
 refine ⟨by omega,fun ho=>⟨by omega,by omega,?_⟩,fun hk=>?_⟩
 ·cases hb:keyB c.key with
  | true=>rfl
  | false=>exact absurd (.inl ⟨ho,hb⟩) h3
 ·cases hb:valB c.val with
  | true=>rfl
  | false=>exact absurd (.inr (.inl ⟨hk,hb⟩)) h3
theorem which_ok {l:List Ss}(h:SesP l) {n q:Int}(hw:(whichS l n q).1=1):∃ x∈l,x.client=n∧x.seq=q∧(whichS l n q).2=x.last∧SsOk x:=by
 unfold whichS at hw ⊢
 split at hw
 ·exact absurd hw (by simp)
 split at hw
 ·exact absurd hw (by simp)
 split at hw
 ·rename_i h1 h2 h3
  have hm:=sesAt_mem (riseG_pw.1 (adjS_rise h.1)) (by simpa using h1)
  rw [if_neg h1,if_neg h2,if_pos h3]
  exact ⟨_,hm.1,hm.2,h3.symm,rfl,h.2 _ hm.1⟩
 ·exact absurd hw (by simp)
theorem clientS_ok {s:St}{c:Cm}(h:StP s) (hc:cmdI c=0) (ho:2≤c.kind∧c.kind≤5):StP (clientS s c).1∧ansI (clientS s c).2=0∧(clientS s c).2.client=c.client∧(clientS s c).2.seq=c.seq:=by
 obtain ⟨h1,h2,h3,h4⟩:=stP_iff.1 h
 obtain ⟨c1,c2,c3⟩:=cmd_ok hc
 obtain ⟨c4,c5,c6⟩:=c2 ho
 unfold clientS
 split
 ·rename_i hw
  obtain ⟨x,hx,e1,e2,e3,e4,e5,e6⟩:=which_ok h1 hw
  rw [e3]
  exact ⟨h,e6,e4.trans e1,e5.trans e2⟩
 split
 ·exact ⟨h,anOk_ans (z:=2) (c:=c) ⟨rfl,rfl,by simp,by simp [ans0],valB_empty,fun h=>absurd h (by omega)⟩ c4 c5,rfl,rfl⟩
 split
 ·have hd:=doS_ok c h2 h3 c6 c3
  have ha:=anOk_ans hd.2 c4 c5
  refine ⟨stP_iff.2 ⟨withS_ok h1 ha,h2,hd.1,fun hz=>?_⟩,ha,hd.2.1,hd.2.2.1⟩
  rw [List.any_eq_false]
  intro x hx
  rcases withG_mem hx with rfl|hx
  ·have:=hd.2.2.2.2.2.2 hz
   unfold revS
   rw [decide_eq_false (by simpa [sesOf] using this)]
   simp
  ·exact List.any_eq_false.1 (h4 hz) x hx
 ·exact ⟨h,anOk_ans (z:=2) (c:=c) ⟨rfl,rfl,by simp,by simp [ans0],valB_empty,fun h=>absurd h (by omega)⟩ c4 c5,rfl,rfl⟩
theorem upS_ok {s:St}(h:StP s) (h1:s.schema=1):StP (upS s):=by
 obtain ⟨h1,h2,⟨h3,h4,h5⟩,h6⟩:=stP_iff.1 h
 refine stP_iff.2 ⟨h1,.inr rfl,⟨?_,?_,?_⟩,fun hz=>absurd (show (2:Int)=1 from hz) (by omega)⟩
 ·show (s.pairs.map (revOf 1)).length≤64
  rw [List.length_map];exact h3
 ·show RiseW ksP (s.pairs.map (revOf 1))
  exact List.pairwise_map.2 h4
 ·intro x hx
  obtain ⟨y,hy,rfl⟩:=List.mem_map.1 hx
  exact ⟨(h5 y hy).1,.inr ⟨rfl,by simp [revOf],by simp [revOf]⟩⟩
theorem applyS_ok {s:St}{c:Cm}(h:StP s) (he:(applyS s c).2.2=0):StP (applyS s c).1∧cmdI c=0:=by
 unfold applyS at he ⊢
 by_cases hc:cmdI c=0
 ·refine ⟨?_,hc⟩
  rw [if_neg (by simp [hc])]
  split
  ·exact (clientS_ok h hc (by assumption)).1
  ·split
   ·rename_i h1
    exact upS_ok h h1.2
   ·exact h
 ·rw [if_pos hc] at he
  exact absurd he hc
abbrev Cms (G:GH) (v:Value) (l:List Cm):Prop:=Sl G 7 (RowR Cm.cells) v l
theorem Cm.len (x:Cm):x.cells.length=7:=rfl
abbrev zAn:Value:=.agg #[.int .i64 0,.int .i64 0,.int .i64 0,.bool false,.string ByteArray.empty,.int .i64 0]
abbrev GrA (v:Value) (l:List An) (ν:OH):Prop:=Grow 66 6 v l.length (rowC An.cells l) ν
theorem GrA.snoc {v:Value}{l:List An}{a:An}{ν:OH}(h:Grow 66 6 v (l.length+1) (rowC An.cells l++a.cells) ν):GrA v (l++[a]) ν:=by
 unfold GrA
 rw [List.length_append,List.length_singleton,rowC_append,rowC_cons,rowC_nil,List.append_nil]
 exact h
def CmsW (l:List Cm):Prop:=l.length≤100∧∀ c∈l,c.ok∧CmW c
theorem rowOpen' {α:Type}{f:α→List Value}{sz:Nat}{G:GH}{A:Option Addr}{n c:Nat}{l:List α}(h:Sl G sz (RowR f) (.slice A n c) l):True∧True∧True∧True∧True∧True∧(∀ i (h:i<l.length),CellsG G ((adr A).add (i*sz)) (f l[i])):=by
 obtain ⟨A',c',e,-,-,-,h5⟩:=rowOpen h
 cases e
 exact ⟨trivial,trivial,trivial,trivial,trivial,trivial,h5⟩
def Lg (p:Prop) (G:GH):Value→GH→OH→Prop:=fun r G' μ'=>G'=G∧μ'=[]∧∃ b,r=.bool b∧(b=false→p)
theorem lastAt {G:GH}{a:Addr}{x:Ss}(h:CellsG G a x.cells):CellsG G (a.add 2) x.last.cells:=fun j v hv=>by
 rw [add_add]
 refine h (2+j) v ?_
 rw [Nat.add_comm]
 exact hv
def CmsS (l:List Cm):Prop:=l.length≤60∧∀ c∈l,c.key.size≤200∧c.val.size≤200∧c.old.size≤200
theorem lg28_s {G:GH}{l:List Cm}{sv:Value}(hs:Cms G sv l):Con Tryz.prog 5 #[sv] G [] (Lg (CmsS l) G):=by
 obtain ⟨A,c,rfl,hlc,hcm,hsome,hcp⟩:=rowOpen hs
 simp only [maxLen] at hcm
 (refine v_enter Tryz.func5 rfl Tryz.ntmps5 rfl ?_;intro B _)
 repeat' (first|refine Wa ?_|(refine Wc ⟨?_,?_⟩<;>first|exact True.intro|intro h)|refine Wr ?_|fail)
 refine v_loop [3,0] (fun us G' μ'=>G'=G∧μ'=[]∧∃ k:Nat,k≤l.length∧us=[Value.int .i64 (k:Nat),.slice A l.length c]∧∀ i (h:i<l.length),i<k→l[i].key.size≤200∧l[i].val.size≤200∧l[i].old.size≤200) (fun us=>l.length-(headI us).toNat) rfl ⟨rfl,rfl,0,by omega,rfl,by omega⟩ ?_
 rintro us G' _ ⟨rfl,rfl,k,hk,rfl,hno⟩
 have hend:60≤k∨l.length≤k→l.length≤60→CmsS l:=fun h1 h2=>⟨h2,fun x hx=>by
  obtain ⟨i,hi,rfl⟩:=List.getElem_of_mem hx
  exact hno i hi (by omega)⟩
 by_cases hlt:k<l.length
 ·have e1:((k:Nat):Int).toNat=k:=by omega
  have hA:=hsome (by omega)
  have hc0:=(hcp k hlt).cell (j:=3) rfl
  have hc1:=(hcp k hlt).cell (j:=4) rfl
  have hc2:=(hcp k hlt).cell (j:=5) rfl
  have hnx:(l[k]).key.size≤200∧(l[k]).val.size≤200∧(l[k]).old.size≤200→∀ i (h:i<l.length),i<k+1→l[i].key.size≤200∧l[i].val.size≤200∧l[i].old.size≤200:=fun a2 i hi hik=>by
   by_cases e:i=k
   ·subst e;exact a2
   ·exact hno i hi (by omega)
  generalize (l[k]).key=x at *
  generalize (l[k]).val=y at *
  generalize (l[k]).old=z at *
  repeat' (first|refine Wa ?_|(refine Wc ⟨?_,?_⟩<;>first|exact True.intro|intro h)|refine Rf hc0 ?_|refine Rf hc1 ?_|refine Rf hc2 ?_|refine Wr ?_|fail)
  all_goals first
   |(refine Va rfl ⟨rfl,rfl,k+1,by omega,rfl,hnx (by omega)⟩)
   |(refine Vr ?_
     exact ⟨rfl,rfl,_,rfl,fun h=>by first|cases h|exact hend (by omega) (by first|omega|(rw [dec_eq,decide_eq_false_iff_not] at h;omega)|(simp at h;omega))⟩)
 ·repeat' (first|refine Wa ?_|(refine Wc ⟨?_,?_⟩<;>first|exact True.intro|intro h)|refine Wr ?_|fail)
  all_goals
   (refine Vr ?_
    exact ⟨rfl,rfl,_,rfl,fun h=>by first|cases h|exact hend (by omega) (by first|omega|(rw [dec_eq,decide_eq_false_iff_not] at h;omega)|(simp at h;omega))⟩)
theorem refPlace_s {G:GH}{l:List Pr}{sv:Value}(key:ByteArray) (hs:Prs G sv l) (hr:RiseW ksP l) (hz:Sized l) (hkz:key.size≤200):Con Tryz.prog 224 #[sv,.string key] G [] (Just (.int .i64 (if hitG ksP l (kn key)=true then (placeG ksP l (kn key):Nat) else -1)) G):=by
 obtain ⟨A,c,rfl,hlc,hcm,hsome,hcp⟩:=rowOpen hs
 simp only [maxLen] at hcm
 have hrg:=riseG_pw.2 hr
 apply Con.just
 (refine v_enter Tryz.func224 rfl Tryz.ntmps224 rfl ?_;intro B _)
 repeat' (first|refine Wa ?_|(refine Wc ⟨?_,?_⟩<;>first|exact True.intro|intro h)|refine Wr ?_|fail)
 refine v_loop [5,0,1] (fun us G' μ'=>G'=G∧μ'=[]∧∃ k:Nat,k≤l.length∧us=[Value.int .i64 (k:Nat),.slice A l.length c,.string key]∧∀ i (h:i<l.length),i<k→l[i].key≠key) (fun us=>l.length-(headI us).toNat) rfl ⟨rfl,rfl,0,by omega,rfl,by omega⟩ ?_
 rintro us G' _ ⟨rfl,rfl,k,hk,rfl,hno⟩
 by_cases hlt:k<l.length
 ·have e1:((k:Nat):Int).toNat=k:=by omega
  have hA:=hsome (by omega)
  have hc:=(hcp k hlt).cell (j:=0) rfl
  have hyes:(l[k]).key=key→hitG ksP l (kn key)=true∧placeG ksP l (kn key)=k:=fun h=>by
   have hp:placeG ksP l (kn key)=k:=placeG_eq hk (fun m hm hmk=>by have:=hrg m k hlt hmk;rw [← h];exact this) (fun m hm hkm=>by
    by_cases e:m=k
    ·subst e;rw [← h];show ¬ kn _<kn _;omega
    ·have:=hrg k m hm (by omega);rw [← h];simp only [ksP] at this ⊢;omega)
   refine ⟨?_,hp⟩
   unfold hitG
   rw [dif_pos (by rw [hp];exact hlt)]
   refine decide_eq_true ?_
   have:l[placeG ksP l (kn key)]'(by rw [hp];exact hlt)=l[k]:=by congr 1
   rw [this,← h]
  have hnx:(l[k]).key≠key→∀ i (h:i<l.length),i<k+1→l[i].key≠key:=fun a2 i hi hik=>by
   by_cases e:i=k
   ·subst e;exact a2
   ·exact hno i hi (by omega)
  generalize (l[k]).key=x at *
  by_cases hx:x=key
  ·obtain ⟨h1,h2⟩:=hyes hx
   rw [h1,h2]
   repeat' (first|refine Wa ?_|(refine Wc ⟨?_,?_⟩<;>first|exact True.intro|intro h)|refine Rf hc ?_|refine Wr ?_|fail)
   all_goals first
    |(exfalso;exact absurd hx (by assumption))
    |(refine Vr ?_
      exact ⟨rfl,rfl⟩)
  ·repeat' (first|refine Wa ?_|(refine Wc ⟨?_,?_⟩<;>first|exact True.intro|intro h)|refine Rf hc ?_|refine Wr ?_|fail)
   all_goals first
    |(exfalso;exact absurd (by assumption) hx)
    |(refine Va rfl ⟨rfl,rfl,k+1,by omega,rfl,hnx hx⟩)
 ·have hh:hitG ksP l (kn key)=false:=by
   cases hh:hitG ksP l (kn key) with
   | false=>rfl
   | true =>
    obtain ⟨x,hx,e⟩:=(hit_iff hr).1 hh
    obtain ⟨i,hi,rfl⟩:=List.getElem_of_mem hx
    exact absurd ((kn_inj (hz _ hx).1 hkz).1 e) (hno i hi (by omega))
  rw [hh]
  repeat' (first|refine Wa ?_|(refine Wc ⟨?_,?_⟩<;>first|exact True.intro|intro h)|refine Wr ?_|fail)
  refine Vr ?_
  exact ⟨rfl,rfl⟩
section
variable {α:Type}{key:α→Int}
def wK (key:α→Int) (l:List α) (p:α) (k:Nat) (d:Bool):List α:=(l.take k).filter (fun x=>decide (key x<key p))++(if d=true then p::(l.take k).filter (fun x=>decide (key p<key x)) else [])
theorem wK_zero (l:List α) (p:α):wK key l p 0 false=[]:=by unfold wK;simp
theorem wK_less {l:List α}{p:α}{k:Nat}(hk:k<l.length) (h:key l[k]<key p):wK key l p k false++[l[k]]=wK key l p (k+1) false:=by
 unfold wK
 rw [List.take_succ_eq_append_getElem hk,List.filter_append,List.filter_cons_of_pos (by simpa using h)]
 simp
theorem wK_more {l:List α}{p:α}{k:Nat}(hk:k<l.length) (h:key p<key l[k]):wK key l p k true++[l[k]]=wK key l p (k+1) true:=by
 unfold wK
 rw [List.take_succ_eq_append_getElem hk,List.filter_append,List.filter_append,List.filter_cons_of_neg (by simp;omega),List.filter_cons_of_pos (by simpa using h)]
 simp
theorem wK_same {l:List α}{p:α}{k:Nat}(hk:k<l.length) (h:key l[k]=key p):wK key l p k true=wK key l p (k+1) true:=by
 unfold wK
 rw [List.take_succ_eq_append_getElem hk,List.filter_append,List.filter_append,List.filter_cons_of_neg (by simp;omega),List.filter_cons_of_neg (by simp;omega)]
 simp
theorem wK_put {l:List α}{p:α}{k:Nat}(h:∀ i (hi:i<l.length),i<k→key l[i]<key p):wK key l p k false++[p]=wK key l p k true:=by
 unfold wK
 have e:(l.take k).filter (fun x=>decide (key p<key x))=[]:=List.filter_eq_nil_iff.2 fun x hx=>by
  obtain ⟨i,hi,rfl⟩:=List.getElem_of_mem hx
  rw [List.length_take] at hi
  rw [List.getElem_take]
  have:=h i (by omega) (by omega)
  simp;omega
 rw [e];simp
theorem wK_end (l:List α) (p:α):wK key l p l.length true=withG key l p:=by unfold wK withG;rw [List.take_length,if_pos rfl]
theorem wK_len (l:List α) (p:α) (k:Nat) (d:Bool):(wK key l p k d).length≤2*k+1:=by
 unfold wK
 have h1:=List.length_filter_le (fun x=>decide (key x<key p)) (l.take k)
 have h2:=List.length_filter_le (fun x=>decide (key p<key x)) (l.take k)
 have h3:(l.take k).length≤k:=by rw [List.length_take];omega
 rw [List.length_append]
 split
 ·rw [List.length_cons];omega
 ·rw [List.length_nil];omega
end
theorem GrP.snoc {v:Value}{l:List Pr}{a:Pr}{ν:OH}(h:Grow 257 3 v (l.length+1) (rowC Pr.cells l++a.cells) ν):GrP v (l++[a]) ν:=by
 unfold GrP
 rw [List.length_append,List.length_singleton,rowC_append,rowC_cons,rowC_nil,List.append_nil]
 exact h
theorem GrS.snoc {v:Value}{l:List Ss}{a:Ss}{ν:OH}(h:Grow 241 8 v (l.length+1) (rowC Ss.cells l++a.cells) ν):GrS v (l++[a]) ν:=by
 unfold GrS
 rw [List.length_append,List.length_singleton,rowC_append,rowC_cons,rowC_nil,List.append_nil]
 exact h
theorem refSWith_s {G:GH}{l:List Ss}{sv:Value}(a:An) (hs:Sss G sv l) (hr:RiseW ksS l) (hn:l.length≤200):Con Tryz.prog 181 #[sv,.agg a.cells.toArray] G [] (fun r G' μ'=>GH.le G G'∧μ'=[]∧Sss G' r (withG ksS l (sesOf a))):=by
 obtain ⟨A,c,rfl,hlc,hcm,hsome,hcp⟩:=rowOpen hs
 simp only [maxLen] at hcm
 have hrg:=riseG_pw.2 hr
 have hkp:ksS (sesOf a)=a.client:=rfl
 generalize hpp:sesOf a=p at *
 obtain ⟨ac,aq,ae,af,av5,ar⟩:=a
 subst hpp
 (refine v_enter Tryz.func181 rfl Tryz.ntmps181 rfl ?_;intro B _)
 repeat' (first|apply v_box (zs:=An.cells ⟨ac,aq,ae,af,av5,ar⟩);(case hx|hz|hd=>rfl);intro b3|refine Wa ?_|(refine Wc ⟨?_,?_⟩<;>first|exact True.intro|intro h)|refine Wr ?_|(refine Wb ?_;intro b)|fail)
 refine v_loop [7,0,5,6,3] (fun us G' μ'=>G'=G∧∃ (k:Nat) (d:Bool) (av:Value) (ν:OH),k≤l.length∧us=[Value.int .i64 (k:Nat),.slice A l.length c,av,.bool d,.pointer (some ⟨b3,0,none⟩)]∧μ'=[(b3,.cells [.int .i64 ac,.int .i64 aq,.int .i64 ae,.bool af,.string av5,.int .i64 ar].toArray 66 (0,0))]++ν∧GrS av (wK ksS l (sesOf ⟨ac,aq,ae,af,av5,ar⟩) k d) ν∧(d=false→∀ i (hi:i<l.length),i<k→ksS l[i]<ksS (sesOf ⟨ac,aq,ae,af,av5,ar⟩))∧(d=true→∀ i (hi:i<l.length),k≤i→ksS (sesOf ⟨ac,aq,ae,af,av5,ar⟩)<ksS l[i])) (fun us=>l.length-(headI us).toNat) rfl ⟨rfl,0,false,.slice none 0 0,[],by omega,rfl,rfl,by rw [wK_zero];exact Grow.nil _ _,fun _ i hi h=>by omega,fun h=>by cases h⟩ ?_
 rintro us G' _ ⟨hG',k,d,av,ν,hk,rfl,rfl,hga,hd0,hd1⟩
 subst hG'
 have hwl:=wK_len (key:=ksS) l (sesOf ⟨ac,aq,ae,af,av5,ar⟩) k d
 by_cases hlt:k<l.length
 ·have e1:((k:Nat):Int).toNat=k:=by omega
  have hA:=hsome (by omega)
  have hck:=hcp k hlt
  have hup:∀ i (hi:i<l.length),k+1≤i→ksS l[k]<ksS l[i]:=fun i hi h=>hrg k i hi (by omega)
  rcases Int.lt_trichotomy (ksS l[k]) (ksS (sesOf ⟨ac,aq,ae,af,av5,ar⟩)) with hlt1|heq|hgt
  ·have ew:=wK_less (key:=ksS) (l:=l) (p:=(sesOf ⟨ac,aq,ae,af,av5,ar⟩)) hlt hlt1
   have hd0':∀ i (hi:i<l.length),i<k+1→ksS l[i]<ksS (sesOf ⟨ac,aq,ae,af,av5,ar⟩):=fun i hi h=>by
    by_cases e:i=k
    ·subst e;exact hlt1
    ·cases d with
     | false=>exact hd0 rfl i hi (by omega)
     | true=>have:=hd1 rfl k hlt (Nat.le_refl _);omega
   cases d with
   | true=>have:=hd1 rfl k hlt (Nat.le_refl _);omega
   | false =>
    clear hup hd0 hd1
    generalize l[k]=x at *
    obtain ⟨xc,xs,⟨lc,ls,le,lf,lv,lr⟩⟩:=x
    have hc0:=hck.cell (j:=0) rfl
    simp only [ksS,hkp] at hlt1
    repeat' (first|refine Wa ?_|(refine Wc ⟨?_,?_⟩<;>first|exact True.intro|intro h)|refine Wr ?_|(refine Wb ?_;intro b)|fail)
    refine Dz [(b3,.cells [.int .i64 ac,.int .i64 aq,.int .i64 ae,.bool af,.string av5,.int .i64 ar].toArray 66 (0,0))] ?_
    all_goals refine Dt [0,1,2] ?_
    all_goals (try (refine Dg 3 ⟨?_,?_⟩<;>first|exact True.intro|intro h))
    all_goals refine Dt [3,4,5,6] ?_
    all_goals (first|refine T1G 7 hc0 ?_|refine Dt [7] ?_)
    all_goals refine Dt [8] ?_
    all_goals (first|refine T1G 9 hc0 ?_|refine Dt [9] ?_)
    all_goals refine Dt [10,11] ?_
    all_goals refine Dd ?_
    repeat' (first|refine Wa ?_|(refine Wc ⟨?_,?_⟩<;>first|exact True.intro|intro h)|refine Wr ?_|(refine Wb ?_;intro b)|fail)
    refine Dz [(b3,.cells [.int .i64 ac,.int .i64 aq,.int .i64 ae,.bool af,.string av5,.int .i64 ar].toArray 66 (0,0))] ?_
    all_goals refine Dt [0,1,2,3] ?_
    all_goals (first|refine T1 4 hc0 ?_|refine Dt [4] ?_)
    all_goals refine Dt [5] ?_
    all_goals (first|refine T1 6 hc0 ?_|refine Dt [6] ?_)
    all_goals refine Dt [7] ?_
    all_goals refine Dd ?_
    repeat' (first|apply v_read;(case hop=>(apply r_loadNo;(case hx=>rfl);(case h=>exact aM);(case hd|hn=>rfl)));(case hd=>rfl)|refine Wa ?_|(refine Wc ⟨?_,?_⟩<;>first|exact True.intro|intro h)|refine RN hck ?_|refine Wr ?_|(refine Wb ?_;intro b)|fail)
    have hpm:=List.perm_append_comm (l₁:=([(b,.cells (Ss.cells ⟨xc,xs,⟨lc,ls,le,lf,lv,lr⟩⟩).toArray 241 (0,0)),(b3,.cells [.int .i64 ac,.int .i64 aq,.int .i64 ae,.bool af,.string av5,.int .i64 ar].toArray 66 (0,0))]:OH)) (l₂:=ν)
    refine v_append (e:=241) (agg:=true) (sz:=8) (bytes:=72) (zero:=zS) rfl (by omega) rfl rfl hga hpm (m':=1) (us:=(Ss.cells ⟨xc,xs,⟨lc,ls,le,lf,lv,lr⟩⟩)) (Src.own (e:=241) (List.Mem.head _) rfl) rfl (by omega) (by simp only [maxLen];omega) rfl fun v' ν' hg'=>?_
    have hga':=GrS.snoc hg'
    refine v_perm (List.perm_append_comm (l₁:=ν')) ?_
    refine v_drop (ν:=[(b3,.cells [.int .i64 ac,.int .i64 aq,.int .i64 ae,.bool af,.string av5,.int .i64 ar].toArray 66 (0,0))]++ν') (List.Sublist.cons _ (List.Sublist.refl _)) ?_
    repeat' (first|refine Wa ?_|(refine Wc ⟨?_,?_⟩<;>first|exact True.intro|intro h)|refine Wr ?_|(refine Wb ?_;intro b)|fail)
    exact Va rfl ⟨rfl,k+1,false,_,_,by omega,rfl,rfl,by rw [← ew];exact hga',fun _=>hd0',(fun h=>by cases h)⟩
  ·have ew:=wK_same (key:=ksS) (l:=l) (p:=(sesOf ⟨ac,aq,ae,af,av5,ar⟩)) hlt heq
   have hd1':∀ i (hi:i<l.length),k+1≤i→ksS (sesOf ⟨ac,aq,ae,af,av5,ar⟩)<ksS l[i]:=fun i hi h=>by have:=hup i hi h;omega
   cases d with
   | true=>have:=hd1 rfl k hlt (Nat.le_refl _);omega
   | false =>
    have ep:=wK_put (hd0 rfl)
    clear hup hd0 hd1
    generalize l[k]=x at *
    obtain ⟨xc,xs,⟨lc,ls,le,lf,lv,lr⟩⟩:=x
    have hc0:=hck.cell (j:=0) rfl
    simp only [ksS,hkp] at heq
    repeat' (first|refine Wa ?_|(refine Wc ⟨?_,?_⟩<;>first|exact True.intro|intro h)|refine Wr ?_|(refine Wb ?_;intro b)|fail)
    refine Dz [(b3,.cells [.int .i64 ac,.int .i64 aq,.int .i64 ae,.bool af,.string av5,.int .i64 ar].toArray 66 (0,0))] ?_
    all_goals refine Dt [0,1,2] ?_
    all_goals (try (refine Dg 3 ⟨?_,?_⟩<;>first|exact True.intro|intro h))
    all_goals refine Dt [3,4,5,6] ?_
    all_goals (first|refine T1G 7 hc0 ?_|refine Dt [7] ?_)
    all_goals refine Dt [8] ?_
    all_goals (first|refine T1G 9 hc0 ?_|refine Dt [9] ?_)
    all_goals refine Dt [10,11] ?_
    all_goals refine Dd ?_
    repeat' (first|apply v_read;(case hop=>(apply r_loadNo;(case hx=>rfl);(case h=>exact aM);(case hd|hn=>rfl)));(case hd=>rfl)|refine Wa ?_|(refine Wc ⟨?_,?_⟩<;>first|exact True.intro|intro h)|refine RN hck ?_|refine Wr ?_|(refine Wb ?_;intro b)|fail)
    have hpm:=List.perm_append_comm (l₁:=([(b,.cells (sesOf ⟨ac,aq,ae,af,av5,ar⟩).cells.toArray 241 (0,0)),(b3,.cells [.int .i64 ac,.int .i64 aq,.int .i64 ae,.bool af,.string av5,.int .i64 ar].toArray 66 (0,0))]:OH)) (l₂:=ν)
    refine v_append (e:=241) (agg:=true) (sz:=8) (bytes:=72) (zero:=zS) rfl (by omega) rfl rfl hga hpm (m':=1) (us:=(sesOf ⟨ac,aq,ae,af,av5,ar⟩).cells) (Src.own (e:=241) (List.Mem.head _) rfl) rfl (by omega) (by simp only [maxLen];omega) rfl fun v' ν' hg'=>?_
    have hga':=GrS.snoc hg'
    refine v_perm (List.perm_append_comm (l₁:=ν')) ?_
    refine v_drop (ν:=[(b3,.cells [.int .i64 ac,.int .i64 aq,.int .i64 ae,.bool af,.string av5,.int .i64 ar].toArray 66 (0,0))]++ν') (List.Sublist.cons _ (List.Sublist.refl _)) ?_
    repeat' (first|refine Wa ?_|(refine Wc ⟨?_,?_⟩<;>first|exact True.intro|intro h)|refine Wr ?_|(refine Wb ?_;intro b)|fail)
    refine Dz [(b3,.cells [.int .i64 ac,.int .i64 aq,.int .i64 ae,.bool af,.string av5,.int .i64 ar].toArray 66 (0,0))] ?_
    all_goals refine Dt [0,1,2,3] ?_
    all_goals (first|refine T1 4 hc0 ?_|refine Dt [4] ?_)
    all_goals refine Dt [5] ?_
    all_goals (first|refine T1 6 hc0 ?_|refine Dt [6] ?_)
    all_goals refine Dt [7] ?_
    all_goals refine Dd ?_
    repeat' (first|refine Wa ?_|(refine Wc ⟨?_,?_⟩<;>first|exact True.intro|intro h)|refine Wr ?_|(refine Wb ?_;intro b)|fail)
    exact Va rfl ⟨rfl,k+1,true,_,_,by omega,rfl,rfl,by rw [← ew,← ep];exact hga',(fun h=>by cases h),fun _=>hd1'⟩
  ·have ew:=wK_more (key:=ksS) (l:=l) (p:=(sesOf ⟨ac,aq,ae,af,av5,ar⟩)) hlt hgt
   have hd1':∀ i (hi:i<l.length),k+1≤i→ksS (sesOf ⟨ac,aq,ae,af,av5,ar⟩)<ksS l[i]:=fun i hi h=>by have:=hup i hi h;omega
   cases d with
   | true =>
    clear hup hd0 hd1
    generalize l[k]=x at *
    obtain ⟨xc,xs,⟨lc,ls,le,lf,lv,lr⟩⟩:=x
    have hc0:=hck.cell (j:=0) rfl
    simp only [ksS,hkp] at hgt
    repeat' (first|refine Wa ?_|(refine Wc ⟨?_,?_⟩<;>first|exact True.intro|intro h)|refine Wr ?_|(refine Wb ?_;intro b)|fail)
    refine Dz [(b3,.cells [.int .i64 ac,.int .i64 aq,.int .i64 ae,.bool af,.string av5,.int .i64 ar].toArray 66 (0,0))] ?_
    all_goals refine Dt [0,1,2] ?_
    all_goals (try (refine Dg 3 ⟨?_,?_⟩<;>first|exact True.intro|intro h))
    all_goals refine Dt [3,4,5,6] ?_
    all_goals (first|refine T1G 7 hc0 ?_|refine Dt [7] ?_)
    all_goals refine Dt [8] ?_
    all_goals (first|refine T1G 9 hc0 ?_|refine Dt [9] ?_)
    all_goals refine Dt [10,11] ?_
    all_goals refine Dd ?_
    repeat' (first|refine Wa ?_|(refine Wc ⟨?_,?_⟩<;>first|exact True.intro|intro h)|refine Wr ?_|(refine Wb ?_;intro b)|fail)
    refine Dz [(b3,.cells [.int .i64 ac,.int .i64 aq,.int .i64 ae,.bool af,.string av5,.int .i64 ar].toArray 66 (0,0))] ?_
    all_goals refine Dt [0,1,2,3] ?_
    all_goals (first|refine T1 4 hc0 ?_|refine Dt [4] ?_)
    all_goals refine Dt [5] ?_
    all_goals (first|refine T1 6 hc0 ?_|refine Dt [6] ?_)
    all_goals refine Dt [7] ?_
    all_goals refine Dd ?_
    repeat' (first|apply v_read;(case hop=>(apply r_loadNo;(case hx=>rfl);(case h=>exact aM);(case hd|hn=>rfl)));(case hd=>rfl)|refine Wa ?_|(refine Wc ⟨?_,?_⟩<;>first|exact True.intro|intro h)|refine RN hck ?_|refine Wr ?_|(refine Wb ?_;intro b)|fail)
    have hpm:=List.perm_append_comm (l₁:=([(b,.cells (Ss.cells ⟨xc,xs,⟨lc,ls,le,lf,lv,lr⟩⟩).toArray 241 (0,0)),(b3,.cells [.int .i64 ac,.int .i64 aq,.int .i64 ae,.bool af,.string av5,.int .i64 ar].toArray 66 (0,0))]:OH)) (l₂:=ν)
    refine v_append (e:=241) (agg:=true) (sz:=8) (bytes:=72) (zero:=zS) rfl (by omega) rfl rfl hga hpm (m':=1) (us:=(Ss.cells ⟨xc,xs,⟨lc,ls,le,lf,lv,lr⟩⟩)) (Src.own (e:=241) (List.Mem.head _) rfl) rfl (by omega) (by simp only [maxLen];omega) rfl fun v' ν' hg'=>?_
    have hga':=GrS.snoc hg'
    refine v_perm (List.perm_append_comm (l₁:=ν')) ?_
    refine v_drop (ν:=[(b3,.cells [.int .i64 ac,.int .i64 aq,.int .i64 ae,.bool af,.string av5,.int .i64 ar].toArray 66 (0,0))]++ν') (List.Sublist.cons _ (List.Sublist.refl _)) ?_
    repeat' (first|refine Wa ?_|(refine Wc ⟨?_,?_⟩<;>first|exact True.intro|intro h)|refine Wr ?_|(refine Wb ?_;intro b)|fail)
    exact Va rfl ⟨rfl,k+1,true,_,_,by omega,rfl,rfl,by rw [← ew];exact hga',(fun h=>by cases h),fun _=>hd1'⟩
   | false =>
    have ep:=wK_put (hd0 rfl)
    clear hup hd0 hd1
    generalize l[k]=x at *
    obtain ⟨xc,xs,⟨lc,ls,le,lf,lv,lr⟩⟩:=x
    have hc0:=hck.cell (j:=0) rfl
    simp only [ksS,hkp] at hgt
    repeat' (first|refine Wa ?_|(refine Wc ⟨?_,?_⟩<;>first|exact True.intro|intro h)|refine Wr ?_|(refine Wb ?_;intro b)|fail)
    refine Dz [(b3,.cells [.int .i64 ac,.int .i64 aq,.int .i64 ae,.bool af,.string av5,.int .i64 ar].toArray 66 (0,0))] ?_
    all_goals refine Dt [0,1,2] ?_
    all_goals (try (refine Dg 3 ⟨?_,?_⟩<;>first|exact True.intro|intro h))
    all_goals refine Dt [3,4,5,6] ?_
    all_goals (first|refine T1G 7 hc0 ?_|refine Dt [7] ?_)
    all_goals refine Dt [8] ?_
    all_goals (first|refine T1G 9 hc0 ?_|refine Dt [9] ?_)
    all_goals refine Dt [10,11] ?_
    all_goals refine Dd ?_
    repeat' (first|apply v_read;(case hop=>(apply r_loadNo;(case hx=>rfl);(case h=>exact aM);(case hd|hn=>rfl)));(case hd=>rfl)|refine Wa ?_|(refine Wc ⟨?_,?_⟩<;>first|exact True.intro|intro h)|refine RN hck ?_|refine Wr ?_|(refine Wb ?_;intro b)|fail)
    have hpm:=List.perm_append_comm (l₁:=([(b,.cells (sesOf ⟨ac,aq,ae,af,av5,ar⟩).cells.toArray 241 (0,0)),(b3,.cells [.int .i64 ac,.int .i64 aq,.int .i64 ae,.bool af,.string av5,.int .i64 ar].toArray 66 (0,0))]:OH)) (l₂:=ν)
    refine v_append (e:=241) (agg:=true) (sz:=8) (bytes:=72) (zero:=zS) rfl (by omega) rfl rfl hga hpm (m':=1) (us:=(sesOf ⟨ac,aq,ae,af,av5,ar⟩).cells) (Src.own (e:=241) (List.Mem.head _) rfl) rfl (by omega) (by simp only [maxLen];omega) rfl fun v' ν' hg'=>?_
    have hga':=GrS.snoc hg'
    refine v_perm (List.perm_append_comm (l₁:=ν')) ?_
    refine v_drop (ν:=[(b3,.cells [.int .i64 ac,.int .i64 aq,.int .i64 ae,.bool af,.string av5,.int .i64 ar].toArray 66 (0,0))]++ν') (List.Sublist.cons _ (List.Sublist.refl _)) ?_
    repeat' (first|refine Wa ?_|(refine Wc ⟨?_,?_⟩<;>first|exact True.intro|intro h)|refine Wr ?_|(refine Wb ?_;intro b)|fail)
    refine Dz [(b3,.cells [.int .i64 ac,.int .i64 aq,.int .i64 ae,.bool af,.string av5,.int .i64 ar].toArray 66 (0,0))] ?_
    all_goals refine Dt [0,1,2,3] ?_
    all_goals (first|refine T1 4 hc0 ?_|refine Dt [4] ?_)
    all_goals refine Dt [5] ?_
    all_goals (first|refine T1 6 hc0 ?_|refine Dt [6] ?_)
    all_goals refine Dt [7] ?_
    all_goals refine Dd ?_
    repeat' (first|apply v_read;(case hop=>(apply r_loadNo;(case hx=>rfl);(case h=>exact aM);(case hd|hn=>rfl)));(case hd=>rfl)|refine Wa ?_|(refine Wc ⟨?_,?_⟩<;>first|exact True.intro|intro h)|refine RN hck ?_|refine Wr ?_|(refine Wb ?_;intro b)|fail)
    rw [ep] at hga'
    have hwl':=wK_len (key:=ksS) l (sesOf ⟨ac,aq,ae,af,av5,ar⟩) k true
    have hpm:=List.perm_append_comm (l₁:=([(b,.cells (Ss.cells ⟨xc,xs,⟨lc,ls,le,lf,lv,lr⟩⟩).toArray 241 (0,0)),(b3,.cells [.int .i64 ac,.int .i64 aq,.int .i64 ae,.bool af,.string av5,.int .i64 ar].toArray 66 (0,0))]:OH)) (l₂:=ν')
    refine v_append (e:=241) (agg:=true) (sz:=8) (bytes:=72) (zero:=zS) rfl (by omega) rfl rfl hga' hpm (m':=1) (us:=(Ss.cells ⟨xc,xs,⟨lc,ls,le,lf,lv,lr⟩⟩)) (Src.own (e:=241) (List.Mem.head _) rfl) rfl (by omega) (by simp only [maxLen];omega) rfl fun v' ν' hg'=>?_
    have hga2:=GrS.snoc hg'
    refine v_perm (List.perm_append_comm (l₁:=ν')) ?_
    refine v_drop (ν:=[(b3,.cells [.int .i64 ac,.int .i64 aq,.int .i64 ae,.bool af,.string av5,.int .i64 ar].toArray 66 (0,0))]++ν') (List.Sublist.cons _ (List.Sublist.refl _)) ?_
    repeat' (first|refine Wa ?_|(refine Wc ⟨?_,?_⟩<;>first|exact True.intro|intro h)|refine Wr ?_|(refine Wb ?_;intro b)|fail)
    exact Va rfl ⟨rfl,k+1,true,_,_,by omega,rfl,rfl,by rw [← ew];exact hga2,(fun h=>by cases h),fun _=>hd1'⟩
 ·obtain rfl:k=l.length:=by omega
  cases d with
  | true =>
   rw [wK_end] at hga
   repeat' (first|refine Wa ?_|(refine Wc ⟨?_,?_⟩<;>first|exact True.intro|intro h)|refine Wr ?_|(refine Wb ?_;intro b)|fail)
   have hpm:=List.perm_append_comm (l₁:=([(b3,.cells [.int .i64 ac,.int .i64 aq,.int .i64 ae,.bool af,.string av5,.int .i64 ar].toArray 66 (0,0))]:OH)) (l₂:=ν)
   refine v_perm hpm ?_
   refine v_frz ν (PickA.here _) ?_
   intro G2 hle2 hG2
   refine Vy rfl rfl ⟨hle2,rfl,row_of_grow Ss.len hga hG2⟩
  | false =>
   have ep:=wK_put (hd0 rfl)
   rw [wK_end] at ep
   repeat' (first|apply v_read;(case hop=>(apply r_loadNo;(case hx=>rfl);(case h=>exact aM);(case hd|hn=>rfl)));(case hd=>rfl)|refine Wa ?_|(refine Wc ⟨?_,?_⟩<;>first|exact True.intro|intro h)|refine RN hck ?_|refine Wr ?_|(refine Wb ?_;intro b)|fail)
   have hpm:=List.perm_append_comm (l₁:=([(b,.cells (sesOf ⟨ac,aq,ae,af,av5,ar⟩).cells.toArray 241 (0,0)),(b3,.cells [.int .i64 ac,.int .i64 aq,.int .i64 ae,.bool af,.string av5,.int .i64 ar].toArray 66 (0,0))]:OH)) (l₂:=ν)
   refine v_append (e:=241) (agg:=true) (sz:=8) (bytes:=72) (zero:=zS) rfl (by omega) rfl rfl hga hpm (m':=1) (us:=(sesOf ⟨ac,aq,ae,af,av5,ar⟩).cells) (Src.own (e:=241) (List.Mem.head _) rfl) rfl (by omega) (by simp only [maxLen];omega) rfl fun v' ν' hg'=>?_
   have hga':=GrS.snoc hg'
   refine v_perm (List.perm_append_comm (l₁:=ν')) ?_
   refine v_drop (ν:=[(b3,.cells [.int .i64 ac,.int .i64 aq,.int .i64 ae,.bool af,.string av5,.int .i64 ar].toArray 66 (0,0))]++ν') (List.Sublist.cons _ (List.Sublist.refl _)) ?_
   rw [ep] at hga'
   repeat' (first|refine Wa ?_|(refine Wc ⟨?_,?_⟩<;>first|exact True.intro|intro h)|refine Wr ?_|(refine Wb ?_;intro b)|fail)
   have hpm:=List.perm_append_comm (l₁:=([(b3,.cells [.int .i64 ac,.int .i64 aq,.int .i64 ae,.bool af,.string av5,.int .i64 ar].toArray 66 (0,0))]:OH)) (l₂:=ν')
   refine v_perm hpm ?_
   refine v_frz ν' (PickA.here _) ?_
   intro G2 hle2 hG2
   refine Vy rfl rfl ⟨hle2,rfl,row_of_grow Ss.len hga' hG2⟩
theorem refPWith_s {G:GH}{l:List Pr}{sv:Value}(p:Pr) (hs:Prs G sv l) (hr:RiseW ksP l) (hn:l.length≤200) (hz:Sized l) (hpz:p.key.size≤200):Con Tryz.prog 225 #[sv,.agg p.cells.toArray] G [] (fun r G' μ'=>GH.le G G'∧μ'=[]∧Prs G' r (withG ksP l p)):=by
 obtain ⟨A,c,rfl,hlc,hcm,hsome,hcp⟩:=rowOpen hs
 simp only [maxLen] at hcm
 have hrg:=riseG_pw.2 hr
 obtain ⟨pk,pv,pr⟩:=p
 simp only at hpz
 (refine v_enter Tryz.func225 rfl Tryz.ntmps225 rfl ?_;intro B _)
 repeat' (first|apply v_box (zs:=Pr.cells ⟨pk,pv,pr⟩);(case hx|hz|hd=>rfl);intro b3|refine Wa ?_|(refine Wc ⟨?_,?_⟩<;>first|exact True.intro|intro h)|refine Wr ?_|(refine Wb ?_;intro b)|fail)
 refine v_loop [7,0,5,6,3] (fun us G' μ'=>G'=G∧∃ (k:Nat) (d:Bool) (av:Value) (ν:OH),k≤l.length∧us=[Value.int .i64 (k:Nat),.slice A l.length c,av,.bool d,.pointer (some ⟨b3,0,none⟩)]∧μ'=[(b3,.cells [.string pk,.string pv,.int .i64 pr].toArray 257 (0,0))]++ν∧GrP av (wK ksP l (⟨pk,pv,pr⟩:Pr) k d) ν∧(d=false→∀ i (hi:i<l.length),i<k→ksP l[i]<ksP (⟨pk,pv,pr⟩:Pr))∧(d=true→∀ i (hi:i<l.length),k≤i→ksP (⟨pk,pv,pr⟩:Pr)<ksP l[i])) (fun us=>l.length-(headI us).toNat) rfl ⟨rfl,0,false,.slice none 0 0,[],by omega,rfl,rfl,by rw [wK_zero];exact Grow.nil _ _,fun _ i hi h=>by omega,fun h=>by cases h⟩ ?_
 rintro us G' _ ⟨hG',k,d,av,ν,hk,rfl,rfl,hga,hd0,hd1⟩
 subst hG'
 have hwl:=wK_len (key:=ksP) l (⟨pk,pv,pr⟩:Pr) k d
 by_cases hlt:k<l.length
 ·have e1:((k:Nat):Int).toNat=k:=by omega
  have hA:=hsome (by omega)
  have hck:=hcp k hlt
  have hxz:=(hz _ (List.getElem_mem hlt)).1
  have hup:∀ i (hi:i<l.length),k+1≤i→ksP l[k]<ksP l[i]:=fun i hi h=>hrg k i hi (by omega)
  rcases Int.lt_trichotomy (ksP l[k]) (ksP (⟨pk,pv,pr⟩:Pr)) with hlt1|heq|hgt
  ·have ew:=wK_less (key:=ksP) (l:=l) (p:=(⟨pk,pv,pr⟩:Pr)) hlt hlt1
   have hd0':∀ i (hi:i<l.length),i<k+1→ksP l[i]<ksP (⟨pk,pv,pr⟩:Pr):=fun i hi h=>by
    by_cases e:i=k
    ·subst e;exact hlt1
    ·cases d with
     | false=>exact hd0 rfl i hi (by omega)
     | true=>have:=hd1 rfl k hlt (Nat.le_refl _);omega
   cases d with
   | true=>have:=hd1 rfl k hlt (Nat.le_refl _);omega
   | false =>
    clear hup hd0 hd1
    generalize l[k]=x at *
    obtain ⟨xk,xv,xr⟩:=x
    simp only at hxz
    have hc0:=hck.cell (j:=0) rfl
    simp only [ksP] at hlt1
    repeat' (first|refine Wa ?_|(refine Wc ⟨?_,?_⟩<;>first|exact True.intro|intro h)|refine Wr ?_|(refine Wb ?_;intro b)|fail)
    refine Dz [(b3,.cells [.string pk,.string pv,.int .i64 pr].toArray 257 (0,0))] ?_
    all_goals refine Dt [0] ?_
    all_goals (first|refine Tv 1 ?_ (hop:=by first|apply PureOp.read;apply p_geK;(case hx|hy=>rfl);(case ha=>assumption);(case hb=>assumption)|fail)|refine Tv 1 ?_ (hop:=by first|apply PureOp.read;apply p_neK;(case hx|hy=>rfl);(case ha=>assumption);(case hb=>assumption)|fail)|refine Dt [1] ?_)
    all_goals refine Dt [2] ?_
    all_goals (try (refine Dg 3 ⟨?_,?_⟩<;>first|exact True.intro|intro h))
    all_goals refine Dt [3,4] ?_
    all_goals (first|refine TvG 5 ?_ (hop:=by first|apply PureOp.read;apply p_geK;(case hx|hy=>rfl);(case ha=>assumption);(case hb=>assumption)|fail)|refine TvG 5 ?_ (hop:=by first|apply PureOp.read;apply p_neK;(case hx|hy=>rfl);(case ha=>assumption);(case hb=>assumption)|fail)|refine Dt [5] ?_)
    all_goals (first|refine TvG 6 ?_ (hop:=by first|apply PureOp.read;apply p_geK;(case hx|hy=>rfl);(case ha=>assumption);(case hb=>assumption)|fail)|refine TvG 6 ?_ (hop:=by first|apply PureOp.read;apply p_neK;(case hx|hy=>rfl);(case ha=>assumption);(case hb=>assumption)|fail)|refine Dt [6] ?_)
    all_goals (first|refine T1G 7 hc0 ?_|refine Dt [7] ?_)
    all_goals (first|refine TvG 8 ?_ (hop:=by first|apply PureOp.read;apply p_geK;(case hx|hy=>rfl);(case ha=>assumption);(case hb=>assumption)|fail)|refine TvG 8 ?_ (hop:=by first|apply PureOp.read;apply p_neK;(case hx|hy=>rfl);(case ha=>assumption);(case hb=>assumption)|fail)|refine Dt [8] ?_)
    all_goals (first|refine T1G 9 hc0 ?_|refine Dt [9] ?_)
    all_goals (first|refine TvG 10 ?_ (hop:=by first|apply PureOp.read;apply p_geK;(case hx|hy=>rfl);(case ha=>assumption);(case hb=>assumption)|fail)|refine TvG 10 ?_ (hop:=by first|apply PureOp.read;apply p_neK;(case hx|hy=>rfl);(case ha=>assumption);(case hb=>assumption)|fail)|refine Dt [10] ?_)
    all_goals refine Dt [11] ?_
    all_goals refine Dd ?_
    repeat' (first|refine Wa ?_|(refine Wc ⟨?_,?_⟩<;>first|exact True.intro|intro h)|refine Wr ?_|(refine Wb ?_;intro b)|fail)
    refine Dz [(b3,.cells [.string pk,.string pv,.int .i64 pr].toArray 257 (0,0))] ?_
    all_goals refine Dt [0,1] ?_
    all_goals (first|refine Tv 2 ?_ (hop:=by first|apply PureOp.read;apply p_geK;(case hx|hy=>rfl);(case ha=>assumption);(case hb=>assumption)|fail)|refine Tv 2 ?_ (hop:=by first|apply PureOp.read;apply p_neK;(case hx|hy=>rfl);(case ha=>assumption);(case hb=>assumption)|fail)|refine Dt [2] ?_)
    all_goals (first|refine Tv 3 ?_ (hop:=by first|apply PureOp.read;apply p_geK;(case hx|hy=>rfl);(case ha=>assumption);(case hb=>assumption)|fail)|refine Tv 3 ?_ (hop:=by first|apply PureOp.read;apply p_neK;(case hx|hy=>rfl);(case ha=>assumption);(case hb=>assumption)|fail)|refine Dt [3] ?_)
    all_goals (first|refine T1 4 hc0 ?_|refine Dt [4] ?_)
    all_goals (first|refine Tv 5 ?_ (hop:=by first|apply PureOp.read;apply p_geK;(case hx|hy=>rfl);(case ha=>assumption);(case hb=>assumption)|fail)|refine Tv 5 ?_ (hop:=by first|apply PureOp.read;apply p_neK;(case hx|hy=>rfl);(case ha=>assumption);(case hb=>assumption)|fail)|refine Dt [5] ?_)
    all_goals (first|refine T1 6 hc0 ?_|refine Dt [6] ?_)
    all_goals (first|refine Tv 7 ?_ (hop:=by first|apply PureOp.read;apply p_geK;(case hx|hy=>rfl);(case ha=>assumption);(case hb=>assumption)|fail)|refine Tv 7 ?_ (hop:=by first|apply PureOp.read;apply p_neK;(case hx|hy=>rfl);(case ha=>assumption);(case hb=>assumption)|fail)|refine Dt [7] ?_)
    all_goals refine Dd ?_
    repeat' (first|apply v_read;(case hop=>(apply r_loadNo;(case hx=>rfl);(case h=>exact aM);(case hd|hn=>rfl)));(case hd=>rfl)|refine Wa ?_|(refine Wc ⟨?_,?_⟩<;>first|exact True.intro|intro h)|refine RN hck ?_|refine Wr ?_|(refine Wb ?_;intro b)|fail)
    have hpm:=List.perm_append_comm (l₁:=([(b,.cells (Pr.cells ⟨xk,xv,xr⟩).toArray 257 (0,0)),(b3,.cells [.string pk,.string pv,.int .i64 pr].toArray 257 (0,0))]:OH)) (l₂:=ν)
    refine v_append (e:=257) (agg:=true) (sz:=3) (bytes:=40) (zero:=zP) rfl (by omega) rfl rfl hga hpm (m':=1) (us:=(Pr.cells ⟨xk,xv,xr⟩)) (Src.own (e:=257) (List.Mem.head _) rfl) rfl (by omega) (by simp only [maxLen];omega) rfl fun v' ν' hg'=>?_
    have hga':=GrP.snoc hg'
    refine v_perm (List.perm_append_comm (l₁:=ν')) ?_
    refine v_drop (ν:=[(b3,.cells [.string pk,.string pv,.int .i64 pr].toArray 257 (0,0))]++ν') (List.Sublist.cons _ (List.Sublist.refl _)) ?_
    repeat' (first|refine Wa ?_|(refine Wc ⟨?_,?_⟩<;>first|exact True.intro|intro h)|refine Wr ?_|(refine Wb ?_;intro b)|fail)
    exact Va rfl ⟨rfl,k+1,false,_,_,by omega,rfl,rfl,by rw [← ew];exact hga',fun _=>hd0',(fun h=>by cases h)⟩
  ·have ew:=wK_same (key:=ksP) (l:=l) (p:=(⟨pk,pv,pr⟩:Pr)) hlt heq
   have hd1':∀ i (hi:i<l.length),k+1≤i→ksP (⟨pk,pv,pr⟩:Pr)<ksP l[i]:=fun i hi h=>by have:=hup i hi h;omega
   cases d with
   | true=>have:=hd1 rfl k hlt (Nat.le_refl _);omega
   | false =>
    have ep:=wK_put (hd0 rfl)
    clear hup hd0 hd1
    generalize l[k]=x at *
    obtain ⟨xk,xv,xr⟩:=x
    simp only at hxz
    have hc0:=hck.cell (j:=0) rfl
    simp only [ksP] at heq
    repeat' (first|refine Wa ?_|(refine Wc ⟨?_,?_⟩<;>first|exact True.intro|intro h)|refine Wr ?_|(refine Wb ?_;intro b)|fail)
    refine Dz [(b3,.cells [.string pk,.string pv,.int .i64 pr].toArray 257 (0,0))] ?_
    all_goals refine Dt [0] ?_
    all_goals (first|refine Tv 1 ?_ (hop:=by first|apply PureOp.read;apply p_geK;(case hx|hy=>rfl);(case ha=>assumption);(case hb=>assumption)|fail)|refine Tv 1 ?_ (hop:=by first|apply PureOp.read;apply p_neK;(case hx|hy=>rfl);(case ha=>assumption);(case hb=>assumption)|fail)|refine Dt [1] ?_)
    all_goals refine Dt [2] ?_
    all_goals (try (refine Dg 3 ⟨?_,?_⟩<;>first|exact True.intro|intro h))
    all_goals refine Dt [3,4] ?_
    all_goals (first|refine TvG 5 ?_ (hop:=by first|apply PureOp.read;apply p_geK;(case hx|hy=>rfl);(case ha=>assumption);(case hb=>assumption)|fail)|refine TvG 5 ?_ (hop:=by first|apply PureOp.read;apply p_neK;(case hx|hy=>rfl);(case ha=>assumption);(case hb=>assumption)|fail)|refine Dt [5] ?_)
    all_goals (first|refine TvG 6 ?_ (hop:=by first|apply PureOp.read;apply p_geK;(case hx|hy=>rfl);(case ha=>assumption);(case hb=>assumption)|fail)|refine TvG 6 ?_ (hop:=by first|apply PureOp.read;apply p_neK;(case hx|hy=>rfl);(case ha=>assumption);(case hb=>assumption)|fail)|refine Dt [6] ?_)
    all_goals (first|refine T1G 7 hc0 ?_|refine Dt [7] ?_)
    all_goals (first|refine TvG 8 ?_ (hop:=by first|apply PureOp.read;apply p_geK;(case hx|hy=>rfl);(case ha=>assumption);(case hb=>assumption)|fail)|refine TvG 8 ?_ (hop:=by first|apply PureOp.read;apply p_neK;(case hx|hy=>rfl);(case ha=>assumption);(case hb=>assumption)|fail)|refine Dt [8] ?_)
    all_goals (first|refine T1G 9 hc0 ?_|refine Dt [9] ?_)
    all_goals (first|refine TvG 10 ?_ (hop:=by first|apply PureOp.read;apply p_geK;(case hx|hy=>rfl);(case ha=>assumption);(case hb=>assumption)|fail)|refine TvG 10 ?_ (hop:=by first|apply PureOp.read;apply p_neK;(case hx|hy=>rfl);(case ha=>assumption);(case hb=>assumption)|fail)|refine Dt [10] ?_)
    all_goals refine Dt [11] ?_
    all_goals refine Dd ?_
    repeat' (first|apply v_read;(case hop=>(apply r_loadNo;(case hx=>rfl);(case h=>exact aM);(case hd|hn=>rfl)));(case hd=>rfl)|refine Wa ?_|(refine Wc ⟨?_,?_⟩<;>first|exact True.intro|intro h)|refine RN hck ?_|refine Wr ?_|(refine Wb ?_;intro b)|fail)
    have hpm:=List.perm_append_comm (l₁:=([(b,.cells (Pr.cells ⟨pk,pv,pr⟩).toArray 257 (0,0)),(b3,.cells [.string pk,.string pv,.int .i64 pr].toArray 257 (0,0))]:OH)) (l₂:=ν)
    refine v_append (e:=257) (agg:=true) (sz:=3) (bytes:=40) (zero:=zP) rfl (by omega) rfl rfl hga hpm (m':=1) (us:=(Pr.cells ⟨pk,pv,pr⟩)) (Src.own (e:=257) (List.Mem.head _) rfl) rfl (by omega) (by simp only [maxLen];omega) rfl fun v' ν' hg'=>?_
    have hga':=GrP.snoc hg'
    refine v_perm (List.perm_append_comm (l₁:=ν')) ?_
    refine v_drop (ν:=[(b3,.cells [.string pk,.string pv,.int .i64 pr].toArray 257 (0,0))]++ν') (List.Sublist.cons _ (List.Sublist.refl _)) ?_
    repeat' (first|refine Wa ?_|(refine Wc ⟨?_,?_⟩<;>first|exact True.intro|intro h)|refine Wr ?_|(refine Wb ?_;intro b)|fail)
    refine Dz [(b3,.cells [.string pk,.string pv,.int .i64 pr].toArray 257 (0,0))] ?_
    all_goals refine Dt [0,1] ?_
    all_goals (first|refine Tv 2 ?_ (hop:=by first|apply PureOp.read;apply p_geK;(case hx|hy=>rfl);(case ha=>assumption);(case hb=>assumption)|fail)|refine Tv 2 ?_ (hop:=by first|apply PureOp.read;apply p_neK;(case hx|hy=>rfl);(case ha=>assumption);(case hb=>assumption)|fail)|refine Dt [2] ?_)
    all_goals (first|refine Tv 3 ?_ (hop:=by first|apply PureOp.read;apply p_geK;(case hx|hy=>rfl);(case ha=>assumption);(case hb=>assumption)|fail)|refine Tv 3 ?_ (hop:=by first|apply PureOp.read;apply p_neK;(case hx|hy=>rfl);(case ha=>assumption);(case hb=>assumption)|fail)|refine Dt [3] ?_)
    all_goals (first|refine T1 4 hc0 ?_|refine Dt [4] ?_)
    all_goals (first|refine Tv 5 ?_ (hop:=by first|apply PureOp.read;apply p_geK;(case hx|hy=>rfl);(case ha=>assumption);(case hb=>assumption)|fail)|refine Tv 5 ?_ (hop:=by first|apply PureOp.read;apply p_neK;(case hx|hy=>rfl);(case ha=>assumption);(case hb=>assumption)|fail)|refine Dt [5] ?_)
    all_goals (first|refine T1 6 hc0 ?_|refine Dt [6] ?_)
    all_goals (first|refine Tv 7 ?_ (hop:=by first|apply PureOp.read;apply p_geK;(case hx|hy=>rfl);(case ha=>assumption);(case hb=>assumption)|fail)|refine Tv 7 ?_ (hop:=by first|apply PureOp.read;apply p_neK;(case hx|hy=>rfl);(case ha=>assumption);(case hb=>assumption)|fail)|refine Dt [7] ?_)
    all_goals refine Dd ?_
    repeat' (first|refine Wa ?_|(refine Wc ⟨?_,?_⟩<;>first|exact True.intro|intro h)|refine Wr ?_|(refine Wb ?_;intro b)|fail)
    exact Va rfl ⟨rfl,k+1,true,_,_,by omega,rfl,rfl,by rw [← ew,← ep];exact hga',(fun h=>by cases h),fun _=>hd1'⟩
  ·have ew:=wK_more (key:=ksP) (l:=l) (p:=(⟨pk,pv,pr⟩:Pr)) hlt hgt
   have hd1':∀ i (hi:i<l.length),k+1≤i→ksP (⟨pk,pv,pr⟩:Pr)<ksP l[i]:=fun i hi h=>by have:=hup i hi h;omega
   cases d with
   | true =>
    clear hup hd0 hd1
    generalize l[k]=x at *
    obtain ⟨xk,xv,xr⟩:=x
    simp only at hxz
    have hc0:=hck.cell (j:=0) rfl
    simp only [ksP] at hgt
    repeat' (first|refine Wa ?_|(refine Wc ⟨?_,?_⟩<;>first|exact True.intro|intro h)|refine Wr ?_|(refine Wb ?_;intro b)|fail)
    refine Dz [(b3,.cells [.string pk,.string pv,.int .i64 pr].toArray 257 (0,0))] ?_
    all_goals refine Dt [0] ?_
    all_goals (first|refine Tv 1 ?_ (hop:=by first|apply PureOp.read;apply p_geK;(case hx|hy=>rfl);(case ha=>assumption);(case hb=>assumption)|fail)|refine Tv 1 ?_ (hop:=by first|apply PureOp.read;apply p_neK;(case hx|hy=>rfl);(case ha=>assumption);(case hb=>assumption)|fail)|refine Dt [1] ?_)
    all_goals refine Dt [2] ?_
    all_goals (try (refine Dg 3 ⟨?_,?_⟩<;>first|exact True.intro|intro h))
    all_goals refine Dt [3,4] ?_
    all_goals (first|refine TvG 5 ?_ (hop:=by first|apply PureOp.read;apply p_geK;(case hx|hy=>rfl);(case ha=>assumption);(case hb=>assumption)|fail)|refine TvG 5 ?_ (hop:=by first|apply PureOp.read;apply p_neK;(case hx|hy=>rfl);(case ha=>assumption);(case hb=>assumption)|fail)|refine Dt [5] ?_)
    all_goals (first|refine TvG 6 ?_ (hop:=by first|apply PureOp.read;apply p_geK;(case hx|hy=>rfl);(case ha=>assumption);(case hb=>assumption)|fail)|refine TvG 6 ?_ (hop:=by first|apply PureOp.read;apply p_neK;(case hx|hy=>rfl);(case ha=>assumption);(case hb=>assumption)|fail)|refine Dt [6] ?_)
    all_goals (first|refine T1G 7 hc0 ?_|refine Dt [7] ?_)
    all_goals (first|refine TvG 8 ?_ (hop:=by first|apply PureOp.read;apply p_geK;(case hx|hy=>rfl);(case ha=>assumption);(case hb=>assumption)|fail)|refine TvG 8 ?_ (hop:=by first|apply PureOp.read;apply p_neK;(case hx|hy=>rfl);(case ha=>assumption);(case hb=>assumption)|fail)|refine Dt [8] ?_)
    all_goals (first|refine T1G 9 hc0 ?_|refine Dt [9] ?_)
    all_goals (first|refine TvG 10 ?_ (hop:=by first|apply PureOp.read;apply p_geK;(case hx|hy=>rfl);(case ha=>assumption);(case hb=>assumption)|fail)|refine TvG 10 ?_ (hop:=by first|apply PureOp.read;apply p_neK;(case hx|hy=>rfl);(case ha=>assumption);(case hb=>assumption)|fail)|refine Dt [10] ?_)
    all_goals refine Dt [11] ?_
    all_goals refine Dd ?_
    repeat' (first|refine Wa ?_|(refine Wc ⟨?_,?_⟩<;>first|exact True.intro|intro h)|refine Wr ?_|(refine Wb ?_;intro b)|fail)
    refine Dz [(b3,.cells [.string pk,.string pv,.int .i64 pr].toArray 257 (0,0))] ?_
    all_goals refine Dt [0,1] ?_
    all_goals (first|refine Tv 2 ?_ (hop:=by first|apply PureOp.read;apply p_geK;(case hx|hy=>rfl);(case ha=>assumption);(case hb=>assumption)|fail)|refine Tv 2 ?_ (hop:=by first|apply PureOp.read;apply p_neK;(case hx|hy=>rfl);(case ha=>assumption);(case hb=>assumption)|fail)|refine Dt [2] ?_)
    all_goals (first|refine Tv 3 ?_ (hop:=by first|apply PureOp.read;apply p_geK;(case hx|hy=>rfl);(case ha=>assumption);(case hb=>assumption)|fail)|refine Tv 3 ?_ (hop:=by first|apply PureOp.read;apply p_neK;(case hx|hy=>rfl);(case ha=>assumption);(case hb=>assumption)|fail)|refine Dt [3] ?_)
    all_goals (first|refine T1 4 hc0 ?_|refine Dt [4] ?_)
    all_goals (first|refine Tv 5 ?_ (hop:=by first|apply PureOp.read;apply p_geK;(case hx|hy=>rfl);(case ha=>assumption);(case hb=>assumption)|fail)|refine Tv 5 ?_ (hop:=by first|apply PureOp.read;apply p_neK;(case hx|hy=>rfl);(case ha=>assumption);(case hb=>assumption)|fail)|refine Dt [5] ?_)
    all_goals (first|refine T1 6 hc0 ?_|refine Dt [6] ?_)
    all_goals (first|refine Tv 7 ?_ (hop:=by first|apply PureOp.read;apply p_geK;(case hx|hy=>rfl);(case ha=>assumption);(case hb=>assumption)|fail)|refine Tv 7 ?_ (hop:=by first|apply PureOp.read;apply p_neK;(case hx|hy=>rfl);(case ha=>assumption);(case hb=>assumption)|fail)|refine Dt [7] ?_)
    all_goals refine Dd ?_
    repeat' (first|apply v_read;(case hop=>(apply r_loadNo;(case hx=>rfl);(case h=>exact aM);(case hd|hn=>rfl)));(case hd=>rfl)|refine Wa ?_|(refine Wc ⟨?_,?_⟩<;>first|exact True.intro|intro h)|refine RN hck ?_|refine Wr ?_|(refine Wb ?_;intro b)|fail)
    have hpm:=List.perm_append_comm (l₁:=([(b,.cells (Pr.cells ⟨xk,xv,xr⟩).toArray 257 (0,0)),(b3,.cells [.string pk,.string pv,.int .i64 pr].toArray 257 (0,0))]:OH)) (l₂:=ν)
    refine v_append (e:=257) (agg:=true) (sz:=3) (bytes:=40) (zero:=zP) rfl (by omega) rfl rfl hga hpm (m':=1) (us:=(Pr.cells ⟨xk,xv,xr⟩)) (Src.own (e:=257) (List.Mem.head _) rfl) rfl (by omega) (by simp only [maxLen];omega) rfl fun v' ν' hg'=>?_
    have hga':=GrP.snoc hg'
    refine v_perm (List.perm_append_comm (l₁:=ν')) ?_
    refine v_drop (ν:=[(b3,.cells [.string pk,.string pv,.int .i64 pr].toArray 257 (0,0))]++ν') (List.Sublist.cons _ (List.Sublist.refl _)) ?_
    repeat' (first|refine Wa ?_|(refine Wc ⟨?_,?_⟩<;>first|exact True.intro|intro h)|refine Wr ?_|(refine Wb ?_;intro b)|fail)
    exact Va rfl ⟨rfl,k+1,true,_,_,by omega,rfl,rfl,by rw [← ew];exact hga',(fun h=>by cases h),fun _=>hd1'⟩
   | false =>
    have ep:=wK_put (hd0 rfl)
    clear hup hd0 hd1
    generalize l[k]=x at *
    obtain ⟨xk,xv,xr⟩:=x
    simp only at hxz
    have hc0:=hck.cell (j:=0) rfl
    simp only [ksP] at hgt
    repeat' (first|refine Wa ?_|(refine Wc ⟨?_,?_⟩<;>first|exact True.intro|intro h)|refine Wr ?_|(refine Wb ?_;intro b)|fail)
    refine Dz [(b3,.cells [.string pk,.string pv,.int .i64 pr].toArray 257 (0,0))] ?_
    all_goals refine Dt [0] ?_
    all_goals (first|refine Tv 1 ?_ (hop:=by first|apply PureOp.read;apply p_geK;(case hx|hy=>rfl);(case ha=>assumption);(case hb=>assumption)|fail)|refine Tv 1 ?_ (hop:=by first|apply PureOp.read;apply p_neK;(case hx|hy=>rfl);(case ha=>assumption);(case hb=>assumption)|fail)|refine Dt [1] ?_)
    all_goals refine Dt [2] ?_
    all_goals (try (refine Dg 3 ⟨?_,?_⟩<;>first|exact True.intro|intro h))
    all_goals refine Dt [3,4] ?_
    all_goals (first|refine TvG 5 ?_ (hop:=by first|apply PureOp.read;apply p_geK;(case hx|hy=>rfl);(case ha=>assumption);(case hb=>assumption)|fail)|refine TvG 5 ?_ (hop:=by first|apply PureOp.read;apply p_neK;(case hx|hy=>rfl);(case ha=>assumption);(case hb=>assumption)|fail)|refine Dt [5] ?_)
    all_goals (first|refine TvG 6 ?_ (hop:=by first|apply PureOp.read;apply p_geK;(case hx|hy=>rfl);(case ha=>assumption);(case hb=>assumption)|fail)|refine TvG 6 ?_ (hop:=by first|apply PureOp.read;apply p_neK;(case hx|hy=>rfl);(case ha=>assumption);(case hb=>assumption)|fail)|refine Dt [6] ?_)
    all_goals (first|refine T1G 7 hc0 ?_|refine Dt [7] ?_)
    all_goals (first|refine TvG 8 ?_ (hop:=by first|apply PureOp.read;apply p_geK;(case hx|hy=>rfl);(case ha=>assumption);(case hb=>assumption)|fail)|refine TvG 8 ?_ (hop:=by first|apply PureOp.read;apply p_neK;(case hx|hy=>rfl);(case ha=>assumption);(case hb=>assumption)|fail)|refine Dt [8] ?_)
    all_goals (first|refine T1G 9 hc0 ?_|refine Dt [9] ?_)
    all_goals (first|refine TvG 10 ?_ (hop:=by first|apply PureOp.read;apply p_geK;(case hx|hy=>rfl);(case ha=>assumption);(case hb=>assumption)|fail)|refine TvG 10 ?_ (hop:=by first|apply PureOp.read;apply p_neK;(case hx|hy=>rfl);(case ha=>assumption);(case hb=>assumption)|fail)|refine Dt [10] ?_)
    all_goals refine Dt [11] ?_
    all_goals refine Dd ?_
    repeat' (first|apply v_read;(case hop=>(apply r_loadNo;(case hx=>rfl);(case h=>exact aM);(case hd|hn=>rfl)));(case hd=>rfl)|refine Wa ?_|(refine Wc ⟨?_,?_⟩<;>first|exact True.intro|intro h)|refine RN hck ?_|refine Wr ?_|(refine Wb ?_;intro b)|fail)
    have hpm:=List.perm_append_comm (l₁:=([(b,.cells (Pr.cells ⟨pk,pv,pr⟩).toArray 257 (0,0)),(b3,.cells [.string pk,.string pv,.int .i64 pr].toArray 257 (0,0))]:OH)) (l₂:=ν)
    refine v_append (e:=257) (agg:=true) (sz:=3) (bytes:=40) (zero:=zP) rfl (by omega) rfl rfl hga hpm (m':=1) (us:=(Pr.cells ⟨pk,pv,pr⟩)) (Src.own (e:=257) (List.Mem.head _) rfl) rfl (by omega) (by simp only [maxLen];omega) rfl fun v' ν' hg'=>?_
    have hga':=GrP.snoc hg'
    refine v_perm (List.perm_append_comm (l₁:=ν')) ?_
    refine v_drop (ν:=[(b3,.cells [.string pk,.string pv,.int .i64 pr].toArray 257 (0,0))]++ν') (List.Sublist.cons _ (List.Sublist.refl _)) ?_
    repeat' (first|refine Wa ?_|(refine Wc ⟨?_,?_⟩<;>first|exact True.intro|intro h)|refine Wr ?_|(refine Wb ?_;intro b)|fail)
    refine Dz [(b3,.cells [.string pk,.string pv,.int .i64 pr].toArray 257 (0,0))] ?_
    all_goals refine Dt [0,1] ?_
    all_goals (first|refine Tv 2 ?_ (hop:=by first|apply PureOp.read;apply p_geK;(case hx|hy=>rfl);(case ha=>assumption);(case hb=>assumption)|fail)|refine Tv 2 ?_ (hop:=by first|apply PureOp.read;apply p_neK;(case hx|hy=>rfl);(case ha=>assumption);(case hb=>assumption)|fail)|refine Dt [2] ?_)
    all_goals (first|refine Tv 3 ?_ (hop:=by first|apply PureOp.read;apply p_geK;(case hx|hy=>rfl);(case ha=>assumption);(case hb=>assumption)|fail)|refine Tv 3 ?_ (hop:=by first|apply PureOp.read;apply p_neK;(case hx|hy=>rfl);(case ha=>assumption);(case hb=>assumption)|fail)|refine Dt [3] ?_)
    all_goals (first|refine T1 4 hc0 ?_|refine Dt [4] ?_)
    all_goals (first|refine Tv 5 ?_ (hop:=by first|apply PureOp.read;apply p_geK;(case hx|hy=>rfl);(case ha=>assumption);(case hb=>assumption)|fail)|refine Tv 5 ?_ (hop:=by first|apply PureOp.read;apply p_neK;(case hx|hy=>rfl);(case ha=>assumption);(case hb=>assumption)|fail)|refine Dt [5] ?_)
    all_goals (first|refine T1 6 hc0 ?_|refine Dt [6] ?_)
    all_goals (first|refine Tv 7 ?_ (hop:=by first|apply PureOp.read;apply p_geK;(case hx|hy=>rfl);(case ha=>assumption);(case hb=>assumption)|fail)|refine Tv 7 ?_ (hop:=by first|apply PureOp.read;apply p_neK;(case hx|hy=>rfl);(case ha=>assumption);(case hb=>assumption)|fail)|refine Dt [7] ?_)
    all_goals refine Dd ?_
    repeat' (first|apply v_read;(case hop=>(apply r_loadNo;(case hx=>rfl);(case h=>exact aM);(case hd|hn=>rfl)));(case hd=>rfl)|refine Wa ?_|(refine Wc ⟨?_,?_⟩<;>first|exact True.intro|intro h)|refine RN hck ?_|refine Wr ?_|(refine Wb ?_;intro b)|fail)
    rw [ep] at hga'
    have hwl':=wK_len (key:=ksP) l (⟨pk,pv,pr⟩:Pr) k true
    have hpm:=List.perm_append_comm (l₁:=([(b,.cells (Pr.cells ⟨xk,xv,xr⟩).toArray 257 (0,0)),(b3,.cells [.string pk,.string pv,.int .i64 pr].toArray 257 (0,0))]:OH)) (l₂:=ν')
    refine v_append (e:=257) (agg:=true) (sz:=3) (bytes:=40) (zero:=zP) rfl (by omega) rfl rfl hga' hpm (m':=1) (us:=(Pr.cells ⟨xk,xv,xr⟩)) (Src.own (e:=257) (List.Mem.head _) rfl) rfl (by omega) (by simp only [maxLen];omega) rfl fun v' ν' hg'=>?_
    have hga2:=GrP.snoc hg'
    refine v_perm (List.perm_append_comm (l₁:=ν')) ?_
    refine v_drop (ν:=[(b3,.cells [.string pk,.string pv,.int .i64 pr].toArray 257 (0,0))]++ν') (List.Sublist.cons _ (List.Sublist.refl _)) ?_
    repeat' (first|refine Wa ?_|(refine Wc ⟨?_,?_⟩<;>first|exact True.intro|intro h)|refine Wr ?_|(refine Wb ?_;intro b)|fail)
    exact Va rfl ⟨rfl,k+1,true,_,_,by omega,rfl,rfl,by rw [← ew];exact hga2,(fun h=>by cases h),fun _=>hd1'⟩
 ·obtain rfl:k=l.length:=by omega
  cases d with
  | true =>
   rw [wK_end] at hga
   repeat' (first|refine Wa ?_|(refine Wc ⟨?_,?_⟩<;>first|exact True.intro|intro h)|refine Wr ?_|(refine Wb ?_;intro b)|fail)
   have hpm:=List.perm_append_comm (l₁:=([(b3,.cells [.string pk,.string pv,.int .i64 pr].toArray 257 (0,0))]:OH)) (l₂:=ν)
   refine v_perm hpm ?_
   refine v_frz ν (PickA.here _) ?_
   intro G2 hle2 hG2
   refine Vy rfl rfl ⟨hle2,rfl,row_of_grow Pr.len hga hG2⟩
  | false =>
   have ep:=wK_put (hd0 rfl)
   rw [wK_end] at ep
   repeat' (first|apply v_read;(case hop=>(apply r_loadNo;(case hx=>rfl);(case h=>exact aM);(case hd|hn=>rfl)));(case hd=>rfl)|refine Wa ?_|(refine Wc ⟨?_,?_⟩<;>first|exact True.intro|intro h)|refine RN hck ?_|refine Wr ?_|(refine Wb ?_;intro b)|fail)
   have hpm:=List.perm_append_comm (l₁:=([(b,.cells (Pr.cells ⟨pk,pv,pr⟩).toArray 257 (0,0)),(b3,.cells [.string pk,.string pv,.int .i64 pr].toArray 257 (0,0))]:OH)) (l₂:=ν)
   refine v_append (e:=257) (agg:=true) (sz:=3) (bytes:=40) (zero:=zP) rfl (by omega) rfl rfl hga hpm (m':=1) (us:=(Pr.cells ⟨pk,pv,pr⟩)) (Src.own (e:=257) (List.Mem.head _) rfl) rfl (by omega) (by simp only [maxLen];omega) rfl fun v' ν' hg'=>?_
   have hga':=GrP.snoc hg'
   refine v_perm (List.perm_append_comm (l₁:=ν')) ?_
   refine v_drop (ν:=[(b3,.cells [.string pk,.string pv,.int .i64 pr].toArray 257 (0,0))]++ν') (List.Sublist.cons _ (List.Sublist.refl _)) ?_
   rw [ep] at hga'
   repeat' (first|refine Wa ?_|(refine Wc ⟨?_,?_⟩<;>first|exact True.intro|intro h)|refine Wr ?_|(refine Wb ?_;intro b)|fail)
   have hpm:=List.perm_append_comm (l₁:=([(b3,.cells [.string pk,.string pv,.int .i64 pr].toArray 257 (0,0))]:OH)) (l₂:=ν')
   refine v_perm hpm ?_
   refine v_frz ν' (PickA.here _) ?_
   intro G2 hle2 hG2
   refine Vy rfl rfl ⟨hle2,rfl,row_of_grow Pr.len hga' hG2⟩
theorem refWithout_s {G:GH}{l:List Pr}{sv:Value}(key:ByteArray) (hs:Prs G sv l) (hn:l.length≤200) (hz:Sized l) (hkz:key.size≤200):Con Tryz.prog 226 #[sv,.string key] G [] (fun r G' μ'=>GH.le G G'∧μ'=[]∧Prs G' r (l.filter (fun x=>decide (ksP x≠kn key)))):=by
 obtain ⟨A,c,rfl,hlc,hcm,hsome,hcp⟩:=rowOpen hs
 simp only [maxLen] at hcm
 (refine v_enter Tryz.func226 rfl Tryz.ntmps226 rfl ?_;intro B _)
 repeat' (first|refine Wa ?_|(refine Wc ⟨?_,?_⟩<;>first|exact True.intro|intro h)|refine Wr ?_|(refine Wb ?_;intro b)|fail)
 refine v_loop [6,0,5,1] (fun us G' μ'=>G'=G∧∃ (k:Nat) (av:Value),k≤l.length∧us=[Value.int .i64 (k:Nat),.slice A l.length c,av,.string key]∧GrP av ((l.take k).filter (fun x=>decide (ksP x≠kn key))) μ') (fun us=>l.length-(headI us).toNat) rfl ⟨rfl,0,.slice none 0 0,by omega,rfl,Grow.nil _ _⟩ ?_
 rintro us G' ν ⟨hG',k,av,hk,rfl,hga⟩
 subst hG'
 have hwl:((l.take k).filter (fun x=>decide (ksP x≠kn key))).length≤k:=Nat.le_trans (List.length_filter_le _ _) (by rw [List.length_take];omega)
 by_cases hlt:k<l.length
 ·have e1:((k:Nat):Int).toNat=k:=by omega
  have hA:=hsome (by omega)
  have hck:=hcp k hlt
  have hxz:=(hz _ (List.getElem_mem hlt)).1
  by_cases he:(l[k]).key=key
  ·have ew:(l.take (k+1)).filter (fun x=>decide (ksP x≠kn key))=(l.take k).filter (fun x=>decide (ksP x≠kn key)):=by
    rw [List.take_succ_eq_append_getElem hlt,List.filter_append,List.filter_cons_of_neg (by simp [ksP,he])]
    simp
   generalize l[k]=x at *
   obtain ⟨xk,xv,xr⟩:=x
   have hc0:=hck.cell (j:=0) rfl
   simp only at he
   repeat' (first|refine Wa ?_|(refine Wc ⟨?_,?_⟩<;>first|exact True.intro|intro h)|refine Rf hc0 ?_|refine Wr ?_|(refine Wb ?_;intro b)|fail)
   all_goals first
    |(exfalso;exact absurd he (by assumption))
    | exact Va rfl ⟨rfl,k+1,_,by omega,rfl,by rw [ew];exact hga⟩
  ·have ew:(l.take (k+1)).filter (fun x=>decide (ksP x≠kn key))=(l.take k).filter (fun x=>decide (ksP x≠kn key))++[l[k]]:=by
    rw [List.take_succ_eq_append_getElem hlt,List.filter_append,List.filter_cons_of_pos (by simp only [decide_eq_true_eq];intro h;exact he ((kn_inj hxz hkz).1 h))]
    simp
   generalize l[k]=x at *
   obtain ⟨xk,xv,xr⟩:=x
   have hc0:=hck.cell (j:=0) rfl
   simp only at he
   repeat' (first|refine Wa ?_|(refine Wc ⟨?_,?_⟩<;>first|exact True.intro|intro h)|refine Rf hc0 ?_|refine RN hck ?_|refine Wr ?_|(refine Wb ?_;intro b)|fail)
   all_goals first
    |(exfalso;exact absurd (by assumption) he)
    | skip
   have hpm:=List.perm_append_comm (l₁:=([(b,.cells (Pr.cells ⟨xk,xv,xr⟩).toArray 257 (0,0))]:OH)) (l₂:=ν)
   refine v_append (e:=257) (agg:=true) (sz:=3) (bytes:=40) (zero:=zP) rfl (by omega) rfl rfl hga hpm (m':=1) (us:=(Pr.cells ⟨xk,xv,xr⟩)) (Src.own (e:=257) (List.Mem.head _) rfl) rfl (by omega) (by simp only [maxLen];omega) rfl fun v' ν' hg'=>?_
   have hga':=GrP.snoc hg'
   refine v_drop (ν:=ν') (List.sublist_append_left _ _) ?_
   repeat' (first|refine Wa ?_|(refine Wc ⟨?_,?_⟩<;>first|exact True.intro|intro h)|refine Wr ?_|(refine Wb ?_;intro b)|fail)
   exact Va rfl ⟨rfl,k+1,_,by omega,rfl,by rw [ew];exact hga'⟩
 ·obtain rfl:k=l.length:=by omega
  rw [List.take_length] at hga
  repeat' (first|refine Wa ?_|(refine Wc ⟨?_,?_⟩<;>first|exact True.intro|intro h)|refine Wr ?_|(refine Wb ?_;intro b)|fail)
  refine v_perm (ν:=ν++[]) (by rw [List.append_nil]) ?_
  refine v_frz ν (PickA.here _) ?_
  intro G2 hle2 hG2
  refine Vy rfl rfl ⟨hle2,rfl,row_of_grow Pr.len hga hG2⟩
def lastS (l:List Ss) (n:Int):Int×An:=if hitG ksS l n=true then ((sesAt l n).seq,(sesAt l n).last) else (0,zA)
theorem refLast_s {G:GH}{l:List Ss}{sv:Value}(n:Int) (hs:Sss G sv l) (hr:RiseW ksS l):Con Tryz.prog 178 #[sv,.int .i64 n] G [] (Just (.tuple [.int .i64 (lastS l n).1,.agg (lastS l n).2.cells.toArray].toArray) G):=by
 obtain ⟨A,c,rfl,hlc,hcm,hsome,hcp⟩:=rowOpen hs
 simp only [maxLen] at hcm
 have hrg:=riseG_pw.2 hr
 apply Con.just
 (refine v_enter Tryz.func178 rfl Tryz.ntmps178 rfl ?_;intro B _)
 repeat' (first|apply v_alloc (d:=5);(case hz|hd=>rfl);intro b5|refine Wa ?_|(refine Wc ⟨?_,?_⟩<;>first|exact True.intro|intro h)|refine Wr ?_|(refine Wb ?_;intro b)|fail)
 refine v_loop [6,0,1,5] (fun us G' μ'=>G'=G∧μ'=[(b5,.cells [.int .i64 0,.int .i64 0,.int .i64 0,.bool false,.string ByteArray.empty,.int .i64 0].toArray 66 (0,0))]∧∃ k:Nat,k≤l.length∧us=[Value.int .i64 (k:Nat),.slice A l.length c,.int .i64 n,.pointer (some ⟨b5,0,none⟩)]∧∀ i (h:i<l.length),i<k→l[i].client≠n) (fun us=>l.length-(headI us).toNat) rfl ⟨rfl,rfl,0,by omega,rfl,by omega⟩ ?_
 rintro us G' _ ⟨rfl,rfl,k,hk,rfl,hno⟩
 by_cases hlt:k<l.length
 ·have e1:((k:Nat):Int).toNat=k:=by omega
  have hA:=hsome (by omega)
  have hck:=hcp k hlt
  have hyes:(l[k]).client=n→lastS l n=((l[k]).seq,(l[k]).last):=fun h=>by
   have hp:placeG ksS l n=k:=placeG_eq hk (fun m hm hmk=>by have:=hrg m k hlt hmk;rw [← h];exact this) (fun m hm hkm=>by
    by_cases e:m=k
    ·subst e;show ¬ (l[m]).client<n;omega
    ·have:=hrg k m hm (by omega);rw [← h];simp only [ksS] at this ⊢;omega)
   have hh:hitG ksS l n=true:=by
    unfold hitG
    rw [dif_pos (by rw [hp];exact hlt)]
    refine decide_eq_true ?_
    have:l[placeG ksS l n]'(by rw [hp];exact hlt)=l[k]:=by congr 1
    rw [this,← h]
   have hs:sesAt l n=l[k]:=by
    unfold sesAt
    rw [dif_pos hh]
    congr 1
   unfold lastS
   rw [if_pos hh,hs]
  have hnx:(l[k]).client≠n→∀ i (h:i<l.length),i<k+1→l[i].client≠n:=fun a2 i hi hik=>by
   by_cases e:i=k
   ·subst e;exact a2
   ·exact hno i hi (by omega)
  generalize l[k]=x at *
  obtain ⟨xc,xs,⟨lc,ls,le,lf,lv,lr⟩⟩:=x
  have hl:CellsG G' (((adr A).add (k*8)).add 2) (An.cells ⟨lc,ls,le,lf,lv,lr⟩):=lastAt hck
  have hc0:=hck.cell (j:=0) rfl
  have hc1:=hck.cell (j:=1) rfl
  simp only at hyes hnx
  by_cases he:xc=n
  ·rw [hyes he]
   repeat' (first|refine Wa ?_|(refine Wc ⟨?_,?_⟩<;>first|exact True.intro|intro h)|refine Rf hc0 ?_|refine Wr ?_|(refine Wb ?_;intro b)|fail)
   refine Dz [] ?_
   all_goals refine Dt [0,1,2,3] ?_
   all_goals (first|refine T1 4 hc1 ?_|refine TN 4 hl ?_|refine Dt [4] ?_)
   all_goals refine Dt [5,6,7,8] ?_
   all_goals (first|refine T1 9 hc1 ?_|refine TN 9 hl ?_|refine Dt [9] ?_)
   all_goals refine Dt [10] ?_
   all_goals ((apply d_store 11;(case hi=>rfl);(case hr=>kernel_rfl);(case hL=>infer_instance);(case hp|hx|hc|hsz|h1=>rfl);(case hb=>exact aM);(case hfit=>first|exact Nat.le_of_ble_eq_true rfl|rfl);(case hov=>(first|((repeat (first|with_reducible exact ov_nil|apply ov_cons|apply ov_there));done)|rfl));(case hu=>repeat first|exact Upd.here _ _|apply Upd.there|apply Upd.app);(case hν'=>exact aE)))
   all_goals refine Dd ?_
   repeat' (first|refine Wa ?_|(refine Wc ⟨?_,?_⟩<;>first|exact True.intro|intro h)|refine Wr ?_|(refine Wb ?_;intro b)|fail)
   refine v_retM [] (outsM_tc (sz1:=6) (vs1:=An.cells ⟨lc,ls,le,lf,lv,lr⟩) (e1:=66) rfl rfl rfl aM rfl) (List.nil_sublist _) ⟨rfl,rfl⟩
  ·repeat' (first|refine Wa ?_|(refine Wc ⟨?_,?_⟩<;>first|exact True.intro|intro h)|refine Rf hc0 ?_|refine Wr ?_|(refine Wb ?_;intro b)|fail)
   refine Va rfl ⟨rfl,rfl,k+1,by omega,rfl,hnx he⟩
 ·have hh:hitG ksS l n=false:=by
   cases hh:hitG ksS l n with
   | false=>rfl
   | true =>
    obtain ⟨x,hx,e⟩:=(hit_iff hr).1 hh
    obtain ⟨i,hi,rfl⟩:=List.getElem_of_mem hx
    exact absurd e (hno i hi (by omega))
  have hl:lastS l n=(0,zA):=by unfold lastS;rw [hh,if_neg (by simp)]
  rw [hl]
  repeat' (first|refine Wa ?_|(refine Wc ⟨?_,?_⟩<;>first|exact True.intro|intro h)|refine Wr ?_|(refine Wb ?_;intro b)|fail)
  refine v_retM [] (outsM_tc (sz1:=6) (vs1:=zA.cells) (e1:=66) rfl rfl rfl aM rfl) (List.nil_sublist _) ⟨rfl,rfl⟩
def revsS (s:St) (z r:Int):St:=⟨z,s.pairs.map (revOf r),s.sess⟩
theorem refRevs_s {G:GH}{s:St}{v:Value}(z r:Int) (hs:StV G s v) (hn:s.pairs.length≤200):Con Tryz.prog 177 #[v,.int .i64 z,.int .i64 r] G [] (fun r' G' μ'=>GH.le G G'∧μ'=[]∧StV G' (revsS s z r) r'):=by
 obtain ⟨A,c,A',c',rfl,hp,hss⟩:=id hs
 obtain ⟨schema,lp,ls⟩:=s
 unfold revsS
 simp only at *
 obtain ⟨B0,e0,e,hlc,hcm,hsome,hcp⟩:=rowOpen hp
 cases e
 simp only [maxLen] at hcm
 (refine v_enter Tryz.func177 rfl Tryz.ntmps177 rfl ?_;intro B _)
 repeat' (first|apply v_box (zs:=[.int .i64 schema,.slice A lp.length c,.slice A' ls.length c']);(case hx|hz|hd=>rfl);intro b3|apply v_alloc (d:=6);(case hz|hd=>rfl);intro b6|apply v_alloc (d:=7);(case hz|hd=>rfl);intro b7|refine Wa ?_|(refine Wc ⟨?_,?_⟩<;>first|exact True.intro|intro h)|refine Wr ?_|(refine Wb ?_;intro b)|fail)
 refine v_perm (ν:=[(b7,.cells [.int .i64 z,.slice none 0 0,.slice A' ls.length c'].toArray 57 (0,0)),(b6,.cells [.int .i64 0,.slice none 0 0,.slice none 0 0].toArray 57 (0,0)),(b3,.cells [.int .i64 schema,.slice A lp.length c,.slice A' ls.length c'].toArray 57 (0,0))]) aV ?_
 refine v_loop [8,3,7,2,6] (fun us G' μ'=>G'=G∧∃ (k:Nat) (A2:Option Addr) (c2:Nat) (ν:OH),k≤lp.length∧us=[Value.int .i64 (k:Nat),.pointer (some ⟨b3,0,none⟩),.pointer (some ⟨b7,0,none⟩),.int .i64 r,.pointer (some ⟨b6,0,none⟩)]∧μ'=(b7,.cells [.int .i64 z,.slice A2 k c2,.slice A' ls.length c'].toArray 57 (0,0))::(b6,.cells [.int .i64 0,.slice none 0 0,.slice none 0 0].toArray 57 (0,0))::(b3,.cells [.int .i64 schema,.slice A lp.length c,.slice A' ls.length c'].toArray 57 (0,0))::ν∧GrP (.slice A2 k c2) ((lp.take k).map (revOf r)) ν) (fun us=>lp.length-(headI us).toNat) rfl ⟨rfl,0,none,0,[],by omega,rfl,rfl,Grow.nil _ _⟩ ?_
 rintro us G' _ ⟨hG',k,A2,c2,ν,hk,rfl,rfl,hga⟩
 subst hG'
 have hwl:((lp.take k).map (revOf r)).length=k:=by rw [List.length_map,List.length_take];omega
 by_cases hlt:k<lp.length
 ·have e1:((k:Nat):Int).toNat=k:=by omega
  have hA:=hsome (by omega)
  have hck:=hcp k hlt
  have ew:(lp.take (k+1)).map (revOf r)=(lp.take k).map (revOf r)++[revOf r lp[k]]:=by
   rw [List.take_succ_eq_append_getElem hlt,List.map_append];rfl
  generalize lp[k]=x at *
  obtain ⟨xk,xv,xr⟩:=x
  repeat' (first|apply v_alloc (d:=9);(case hz|hd=>rfl);intro b9|apply v_read;(case hop=>(apply r_loadNo;(case hx=>rfl);(case h=>exact aM);(case hd|hn=>rfl)));(case hd=>rfl)|refine Wa ?_|(refine Wc ⟨?_,?_⟩<;>first|exact True.intro|intro h)|refine RN hck ?_|refine Wr ?_|(refine Wb ?_;intro b)|fail)
  have hpm:=List.perm_append_comm (l₁:=([(b,.cells (Pr.cells ⟨xk,xv,r⟩).toArray 257 (0,0)),(b9,.cells (Pr.cells ⟨xk,xv,r⟩).toArray 257 (0,0)),(b7,.cells [.int .i64 z,.slice A2 k c2,.slice A' ls.length c'].toArray 57 (0,0)),(b6,.cells [.int .i64 0,.slice none 0 0,.slice none 0 0].toArray 57 (0,0)),(b3,.cells [.int .i64 schema,.slice A lp.length c,.slice A' ls.length c'].toArray 57 (0,0))]:OH)) (l₂:=ν)
  refine v_append (e:=257) (agg:=true) (sz:=3) (bytes:=40) (zero:=zP) rfl (by omega) rfl rfl (m:=k) (by unfold GrP at hga;rw [hwl] at hga;exact hga) hpm (m':=1) (us:=(Pr.cells ⟨xk,xv,r⟩)) (Src.own (e:=257) (List.Mem.head _) rfl) rfl (by omega) (by simp only [maxLen];omega) rfl fun v' ν' hg'=>?_
  have hga':GrP v' ((lp.take (k+1)).map (revOf r)) ν':=by rw [ew];exact GrP.snoc (a:=⟨xk,xv,r⟩) (by rw [hwl];exact hg')
  have hwl':((lp.take (k+1)).map (revOf r)).length=k+1:=by rw [List.length_map,List.length_take];omega
  obtain ⟨A3,c3,e3,-,-⟩:=id hga'.shape
  rw [hwl'] at e3
  subst e3
  refine v_perm (List.perm_append_comm (l₁:=ν')) ?_
  refine v_drop (ν:=[(b7,.cells [.int .i64 z,.slice A2 k c2,.slice A' ls.length c'].toArray 57 (0,0)),(b6,.cells [.int .i64 0,.slice none 0 0,.slice none 0 0].toArray 57 (0,0)),(b3,.cells [.int .i64 schema,.slice A lp.length c,.slice A' ls.length c'].toArray 57 (0,0))]++ν') (List.Sublist.cons _ (List.Sublist.cons _ (List.Sublist.refl _))) ?_
  repeat' (first|refine Wa ?_|(refine Wc ⟨?_,?_⟩<;>first|exact True.intro|intro h)|refine Wr ?_|(refine Wb ?_;intro b)|fail)
  exact Va rfl ⟨rfl,k+1,A3,c3,ν',by omega,rfl,rfl,hga'⟩
 ·obtain rfl:k=lp.length:=by omega
  rw [List.take_length] at hga
  have hl2:(lp.map (revOf r)).length=lp.length:=List.length_map ..
  repeat' (first|refine Wa ?_|(refine Wc ⟨?_,?_⟩<;>first|exact True.intro|intro h)|refine Wr ?_|(refine Wb ?_;intro b)|fail)
  have hpm:=List.perm_append_comm (l₁:=([(b7,.cells [.int .i64 z,.slice A2 lp.length c2,.slice A' ls.length c'].toArray 57 (0,0)),(b6,.cells [.int .i64 z,.slice A2 lp.length c2,.slice A' ls.length c'].toArray 57 (0,0)),(b3,.cells [.int .i64 schema,.slice A lp.length c,.slice A' ls.length c'].toArray 57 (0,0))]:OH)) (l₂:=ν)
  refine v_perm hpm ?_
  refine v_frz ν (PickA.here _) ?_
  intro G2 hle2 hG2
  have hp2:=row_of_grow Pr.len hga hG2
  refine v_retM [] (outsM_cell (sz:=3) (vs:=[.int .i64 z,.slice A2 lp.length c2,.slice A' ls.length c']) (e:=57) rfl rfl aM rfl) (List.nil_sublist _) ⟨hle2,rfl,A2,c2,A',c',by simp only [hl2],by rw [← hl2] at hp2;exact hp2,hss.mono hle2⟩
def prR (z:Int) (f:Pr):Int:=if z=2 then nextR f.rev else 0
noncomputable def doR (z:Int) (l:List Pr) (c:Cm):List Pr×An :=
 if c.kind=2 then (if hitG ksP l (kn c.key)=false∧64≤l.length then (l,{ ans0 c with err:=11 }) else (withG ksP l ⟨c.key,c.val,prR z (findP l (kn c.key))⟩,{ ans0 c with found:=hitG ksP l (kn c.key),val:=(findP l (kn c.key)).val }))
 else if c.kind=4 then (l.filter (fun x=>decide (ksP x≠kn c.key)),{ ans0 c with found:=hitG ksP l (kn c.key),val:=(findP l (kn c.key)).val })
 else if c.kind=5 then (if hitG ksP l (kn c.key)=false then (l,{ ans0 c with err:=10 }) else if (findP l (kn c.key)).val=c.old then (withG ksP l ⟨c.key,c.val,prR z (findP l (kn c.key))⟩,{ ans0 c with found:=true,val:=(findP l (kn c.key)).val,rev:=prR z (findP l (kn c.key)) }) else (l,{ ans0 c with err:=15,found:=true,val:=(findP l (kn c.key)).val,rev:=(findP l (kn c.key)).rev }))
 else (l,{ ans0 c with found:=hitG ksP l (kn c.key),val:=(findP l (kn c.key)).val })
theorem roomB_iff {l:List Pr}{n:Int}:roomB l n=true↔¬ (hitG ksP l n=false∧64≤l.length):=by
 unfold roomB
 cases hitG ksP l n<;>simp
theorem doR_eq {z:Int}{l:List Pr}(c:Cm) (hz:z=1∨z=2) (hk:2≤c.kind∧c.kind≤5) (h5:c.kind=5→z=2):doS z l c=doR z l c:=by
 have hroom:=roomB_iff (l:=l) (n:=kn c.key)
 unfold doS doR prR
 rcases hz with rfl|rfl
 ·rw [if_pos rfl]
  unfold doOne
  by_cases h2:c.kind=2
  ·rw [if_pos h2,if_pos h2]
   by_cases hr:roomB l (kn c.key)=true
   ·rw [if_pos hr,if_neg (hroom.1 hr)]
    simp
   ·rw [if_neg hr,if_pos (Classical.not_not.1 (fun h=>hr (hroom.2 h)))]
  ·rw [if_neg h2,if_neg h2]
   by_cases h3:c.kind=3
   ·rw [if_pos h3,if_neg (by omega),if_neg (by omega)]
   ·by_cases h4:c.kind=4
    ·rw [if_neg h3,if_pos h4,if_pos h4]
    ·exact absurd (h5 (by omega)) (by omega)
 ·rw [if_neg (by omega)]
  unfold doTwo
  by_cases h5:c.kind=5
  ·rw [if_pos h5,if_neg (by omega),if_neg (by omega),if_pos h5]
   unfold casP
   simp
  ·rw [if_neg h5]
   by_cases h2:c.kind=2
   ·rw [if_pos h2]
    by_cases hr:roomB l (kn c.key)=true
    ·have e:doOne l c=(withG ksP l ⟨c.key,c.val,0⟩,{ ans0 c with found:=hitG ksP l (kn c.key),val:=(findP l (kn c.key)).val }):=by
      unfold doOne;rw [if_pos h2,if_pos hr]
     rw [e,if_pos ⟨h2,rfl⟩,if_neg (hroom.1 hr)]
     simp only
     rw [withG_twice (by rfl)]
     simp
    ·have e:doOne l c=(l,{ ans0 c with err:=11 }):=by
      unfold doOne;rw [if_pos h2,if_neg hr]
     rw [e,if_neg (fun h=>absurd h.2 (by simp)),if_pos (Classical.not_not.1 (fun h=>hr (hroom.2 h)))]
   ·rw [if_neg (fun h=>h2 h.1),if_neg h2]
    unfold doOne
    rw [if_neg h2]
    by_cases h3:c.kind=3
    ·rw [if_pos h3,if_neg (by omega),if_neg h5]
    ·rw [if_neg h3,if_pos (by omega),if_pos (by omega)]
end Go.Proofs.YtkofafmiabmobaaGreatDoor
