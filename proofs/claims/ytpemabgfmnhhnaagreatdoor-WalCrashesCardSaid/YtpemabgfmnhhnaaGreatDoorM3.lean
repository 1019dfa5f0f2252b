/-
  pack, the seventh part: a reader's bytes; whether anything is left.
-/
import Derived.Test.YtpemabgfmnhhnaaGreatDoorM2
import Derived.Laws.BytesArg
import Derived.Test.YtpemabgfmnhhnaaGreatDoorM1
import Derived.Lib.AppendZerosOnto
import Derived.Lib.Overlaps
import VxDev
import Derived.Lib.AppendStr
set_option linter.unusedSimpArgs false
set_option linter.unusedVariables false
namespace Go.Proofs.YtpemabgfmnhhnaaGreatDoor
open Go.Vx Go.ChangeShapes Go.WideShapes Go.ChangeAt Go.RowKit
theorem sl_sub {G:GH}{k:IntKind}{l:List Int}{A:Option Addr}{c:Nat}{lo hi:Int}(hs:Sl G 1 (IntR k) (.slice A l.length c) l) (h0:0≤lo) (h1:lo≤hi) (h2:hi≤l.length) :
 Sl G 1 (IntR k) (.slice (if c=lo.toNat then A else A.map (·.add (lo.toNat*1))) (hi.toNat-lo.toNat) (c-lo.toNat)) ((l.take hi.toNat).drop lo.toNat):=by
 have ht:=hs.take (k:=hi.toNat) (by omega)
 have e:(l.take hi.toNat).length=hi.toNat:=by rw [List.length_take];omega
 have hd:=Sl.drop (l:=l.take hi.toNat) (A:=A) (c:=c) (k:=lo.toNat) (by rw [e];exact ht) (by rw [e];omega)
 rw [e] at hd
 exact hd
theorem sl_byte {G:GH}{l:List Int}{v:Value}(hs:Sl G 1 (IntR .u8) v l):∀ x∈l,0≤x∧x≤255:=fun x hx=>by
 obtain ⟨A,c,-,-,-,-,-,hwf⟩:=hs.openInt
 have:=hwf x hx
 simp [Lit.wf,IntKind.min,IntKind.max,IntKind.signed,IntKind.bits] at this
 omega
theorem limN_nn {r:List Int}(hw:∀ x∈r,0≤x∧x≤255):0≤limN r∧limN r≤9223372036854775807:=by
 unfold limN
 cases h:dvk 0 r with
 | none=>simp
 | some p =>
  have:=vbytes_dvk (m:=p.1) (r':=p.2) hw h
  simp only
  omega
def cntNo (most:Int) (l:List Int) (a:Nat):Int:=if limNo most (l.drop a)=0∧(l.length:Int)-limAt l a<limN (l.drop a) then 1 else limNo most (l.drop a)
theorem counted_s {G:GH}{l:List Int}{bv:Value}(rb a:Nat) (most:Int) (hs:Sl G 1 (IntR .u8) bv l) (hl:l.length≤1048576) (ha:a≤l.length) :
 Con Tryz.prog 222 #[.pointer (some ⟨rb,0,none⟩),.int .i64 most] G [(rb,rdO bv a 0)] (Keeps (.int .i64 (limN (l.drop a))) G [(rb,rdO bv (limAt l a) (cntNo most l a))]):=by
 have q:=limited_s rb a most hs hl ha
 have hat:=limAt_le l a
 have ql:=fun no=>left_s rb (limAt l a) no hs hl hat
 unfold cntNo
 generalize limNo most (l.drop a)=no' at *
 generalize limAt l a=a' at *
 generalize limN (l.drop a)=n at *
 (refine v_enter Tryz.func222 rfl Tryz.ntmps222 rfl ?_;intro B _)
 repeat' (first|apply v_seq|apply v_region|apply v_nil|apply v_skip|apply v_take;(case hg=>rfl)|apply v_pass;(case hg|hn|hd=>rfl)|apply v_pure;(case hop=>first|apply p_move<;>rfl|apply p_eq<;>rfl|apply p_assign<;>rfl|apply p_pickF<;>rfl|apply p_fieldAddrB<;>rfl|apply p_nilCheck<;>rfl|fail);(case hd=>rfl)|apply v_condF;(case hc=>rfl)|apply v_guardB;(case h1|h2=>rfl);all_goals (intro h;(try simp only [reduceCtorEq,zzz] at h))|apply v_call (hs:=q);(case ha=>rfl);(case hp=>exact (Pick.perm (by repeat (exact Pick.here _))));(case hd=>rfl);rintro _ _ _ _ ⟨rfl,rfl,rfl⟩|apply v_read;(case hop=>(apply r_load1;rfl;(apply Cell.own;(case h=>repeat exact mhd _);rfl)));(case hd=>rfl)|fail)
 repeat' (first|apply v_seq|apply v_region|apply v_nil|apply v_skip|apply v_take;(case hg=>rfl)|apply v_pure;(case hop=>first|apply p_move<;>rfl|apply p_gt<;>rfl|apply p_assign<;>rfl|apply p_pickT<;>rfl|fail);(case hd=>rfl)|apply v_cond;(case hc=>rfl);all_goals (intro h;(try simp only [reduceCtorEq,zzz] at h))|apply v_callK (hs:=ql _);(case ha=>rfl);(case hp=>exact (Pick.perm (by repeat (exact Pick.here _))));(case hd=>rfl)|apply v_call (hs:=fail_s _ rb bv a' no' 1);(case ha=>rfl);(case hp=>exact (Pick.perm (by repeat (exact Pick.here _))));(case hd=>rfl);rintro _ _ _ _ ⟨rfl,rfl,rfl⟩|fail)
 all_goals
  (refine v_ret [(rb,_)] (outsA1 rfl rfl) (by repeat (exact List.Sublist.refl _)) ?_
   refine ⟨rfl,rfl,?_⟩)
 ·rw [if_pos (by omega)]
 ·rw [if_neg (by omega)]
 ·rw [if_neg (by omega)]
def rawB (most:Int):Option (List Int)→List Int
 | none => []
 | some r=>match dvk 0 r with|none => []|some p=>if most<p.1∨(p.2.length:Int)<p.1 then [] else p.2.take p.1.toNat
def rawS (most:Int):Option (List Int)→Option (List Int)
 | none=>none
 | some r=>match dvk 0 r with|none=>none|some p=>if most<p.1∨(p.2.length:Int)<p.1 then none else some (p.2.drop p.1.toNat)
theorem cnt_ok {l:List Int}{a:Nat}{most:Int}(ha:a≤l.length) (hn0:0≤limN (l.drop a)) (h:cntNo most l a=0):limAt l a+limN (l.drop a)≤l.length∧rawB most (some (l.drop a))=(l.take (limAt l a+limN (l.drop a)).toNat).drop (limAt l a)∧rawS most (some (l.drop a))=some (l.drop (limAt l a+limN (l.drop a)).toNat):=by
 unfold cntNo at h
 have h0:limNo most (l.drop a)=0:=by
  split at h
  ·omega
  ·exact h
 rw [h0] at h
 have h1:¬ ((l.length:Int)-limAt l a<limN (l.drop a)):=fun hh=>by rw [if_pos ⟨rfl,hh⟩] at h;omega
 obtain ⟨e1,e2⟩:=lim_ok ha h0
 have hat:=limAt_le l a
 generalize limAt l a=a' at *
 generalize limN (l.drop a)=n at *
 unfold limNo at h0
 have he:=dve_none (l.drop a) 0
 cases hd:dvk 0 (l.drop a) with
 | none=>rw [hd] at h0 he;exact absurd h0 (he.1 rfl)
 | some p =>
  rw [hd] at h0
  simp only at h0
  have hm:¬ most<p.1:=fun hm=>by rw [if_pos hm] at h0;omega
  simp only [numV,numS,hd,if_neg hm,Option.some.injEq] at e1 e2
  have hlen:p.2.length=l.length-a':=by rw [e2,List.length_drop]
  have hn:¬ (most<p.1∨(p.2.length:Int)<p.1):=by omega
  simp only [rawB,rawS,hd,if_neg hn]
  refine ⟨by omega,?_,?_⟩
  ·rw [e1,e2,List.drop_take,show ((a':Int)+n).toNat-a'=n.toNat by omega]
  ·rw [e1,e2,List.drop_drop,show ((a':Int)+n).toNat=a'+n.toNat by omega]
theorem cnt_no {l:List Int}{a:Nat}{most:Int}(ha:a≤l.length) (h:cntNo most l a≠0):rawB most (some (l.drop a))=[]∧rawS most (some (l.drop a))=none:=by
 unfold cntNo at h
 by_cases h0:limNo most (l.drop a)=0
 ·rw [h0] at h
  have h1:((l.length:Int)-limAt l a<limN (l.drop a)):=by
   by_cases hh:((l.length:Int)-limAt l a<limN (l.drop a))
   ·exact hh
   ·rw [if_neg (by simp [hh])] at h;exact absurd rfl h
  obtain ⟨e1,e2⟩:=lim_ok ha h0
  have hat:=limAt_le l a
  generalize limAt l a=a' at *
  generalize limN (l.drop a)=n at *
  unfold limNo at h0
  have he:=dve_none (l.drop a) 0
  cases hd:dvk 0 (l.drop a) with
  | none=>rw [hd] at h0 he;exact absurd h0 (he.1 rfl)
  | some p =>
   rw [hd] at h0
   simp only at h0
   have hm:¬ most<p.1:=fun hm=>by rw [if_pos hm] at h0;omega
   simp only [numV,numS,hd,if_neg hm,Option.some.injEq] at e1 e2
   have hlen:p.2.length=l.length-a':=by rw [e2,List.length_drop]
   have hn:(most<p.1∨(p.2.length:Int)<p.1):=by omega
   simp only [rawB,rawS,hd,if_pos hn]
   exact ⟨trivial,trivial⟩
 ·have hz:=lim_no (r:=l.drop a) h0
  unfold limNo at h0
  cases hd:dvk 0 (l.drop a) with
  | none=>simp only [rawB,rawS,hd];exact ⟨trivial,trivial⟩
  | some p =>
   rw [hd] at h0
   simp only at h0
   have hm:most<p.1:=by
    by_cases hm:most<p.1
    ·exact hm
    ·rw [if_neg hm] at h0;exact absurd rfl h0
   simp only [rawB,rawS,hd,if_pos (Or.inl hm:most<p.1∨(p.2.length:Int)<p.1)]
   exact ⟨trivial,trivial⟩
theorem raw_s {G:GH}{l:List Int}{bv:Value}(rb a:Nat) (most:Int) (hs:Sl G 1 (IntR .u8) bv l) (hl:l.length≤1048576) (ha:a≤l.length) :
 Con Tryz.prog 199 #[.pointer (some ⟨rb,0,none⟩),.int .i64 most] G [(rb,rdO bv a 0)]
  (fun r G' μ'=>Sl G' 1 (IntR .u8) r (rawB most (some (l.drop a)))∧∃ a' no',μ'=[(rb,rdO bv (a':Nat) no')]∧RdS l a' no' (rawS most (some (l.drop a)))):=by
 have q:=counted_s rb a most hs hl ha
 have hn0:=limN_nn (r:=l.drop a) (fun x hx=>sl_byte hs x (List.mem_of_mem_drop hx))
 have hok:=cnt_ok (most:=most) ha hn0.1
 have hno:=cnt_no (most:=most) ha
 have hat:=limAt_le l a
 obtain ⟨A,c,rfl,hlc,hcm,-,-,-⟩:=hs.openInt
 simp only [maxLen] at hcm
 generalize cntNo most l a=no' at *
 generalize limAt l a=a' at *
 generalize limN (l.drop a)=n at *
 (refine v_enter Tryz.func199 rfl Tryz.ntmps199 rfl ?_;intro B _)
 by_cases h0:no'=0
 ·obtain ⟨h1,h2,h3⟩:=hok h0
  subst h0
  rw [h2,h3]
  repeat' (first|apply v_seq|apply v_region|apply v_nil|apply v_skip|apply v_pure;(case hop=>first|apply p_move<;>rfl|apply p_nes<;>rfl|apply p_assign<;>rfl|apply p_fieldAddrB<;>rfl|apply p_nilCheck<;>rfl|apply p_add;(case hx|hy=>rfl);(case h=>omega)|fail);(case hd=>rfl)|apply v_condF;(case hc=>rfl)|apply v_call (hs:=q);(case ha=>rfl);(case hp=>exact (Pick.perm (by repeat (exact Pick.here _))));(case hd=>rfl);rintro _ _ _ _ ⟨rfl,rfl,rfl⟩|apply v_read;(case hop=>(apply r_load1;rfl;(apply Cell.own;(case h=>repeat exact mhd _);rfl)));(case hd=>rfl)|apply v_store;(case hp|hx|hc|hsz|h1=>rfl);(case hb=>repeat exact mhd _);(case hfit=>exact nle rfl);(case hov=>((repeat (first|with_reducible exact ov_nil|apply ov_cons));done));(case hu=>repeat (exact Upd.here _ _))|fail)
  have hsub:=sl_sub (lo:=(a':Int)+n-n) (hi:=(a':Int)+n) hs (by omega) (by omega) (by omega)
  have hsl:((l.take ((a':Int)+n).toNat).drop ((a':Int)+n-n).toNat).length≤1048576:=by rw [List.length_drop,List.length_take];omega
  refine d_start _ (by kernel_rfl) (by kernel_rfl) (by kernel_rfl) (fun _ he=>he) ?_
  all_goals (apply dtm 0;(case hi|hx=>rfl);(case hq=>kernel_rfl);apply dtn 1;(case hi|hx=>rfl);(case hq=>kernel_rfl))
  all_goals (apply dtk 2;(case hi=>rfl);(case hop=>(apply prd;apply p_fieldAddrB<;>rfl));(case hq=>kernel_rfl);apply dtk 3;(case hi=>rfl);(case hop=>first|apply r_loadNo;(case hx=>rfl);(case h=>repeat fail);(case hd=>repeat fail);(case hn=>rfl)|apply r_load1;rfl;(apply Cell.own;(case h=>repeat exact mhd _);rfl)|apply r_loadN;rfl;(apply CellsAt.own;(case h=>repeat fail));rfl);(case hq=>kernel_rfl))
  all_goals (apply dtm 4;(case hi|hx=>rfl);(case hq=>kernel_rfl);apply dtn 5;(case hi|hx=>rfl);(case hq=>kernel_rfl))
  all_goals (apply dtk 6;(case hi=>rfl);(case hop=>(apply prd;apply p_fieldAddrB<;>rfl));(case hq=>kernel_rfl);apply dtk 7;(case hi=>rfl);(case hop=>first|apply r_loadNo;(case hx=>rfl);(case h=>repeat fail);(case hd=>repeat fail);(case hn=>rfl)|apply r_load1;rfl;(apply Cell.own;(case h=>repeat exact mhd _);rfl)|apply r_loadN;rfl;(apply CellsAt.own;(case h=>repeat fail));rfl);(case hq=>kernel_rfl))
  all_goals (apply dtm 8;(case hi|hx=>rfl);(case hq=>kernel_rfl);apply dtk 9;(case hi=>rfl);(case hop=>(apply prd;apply p_sub;(case hx|hy=>rfl);(case h=>omega)));(case hq=>kernel_rfl))
  all_goals (apply dtm 10;(case hi|hx=>rfl);(case hq=>kernel_rfl);apply dtn 11;(case hi|hx=>rfl);(case hq=>kernel_rfl))
  all_goals (apply dtk 12;(case hi=>rfl);(case hop=>(apply prd;apply p_fieldAddrB<;>rfl));(case hq=>kernel_rfl);apply dtk 13;(case hi=>rfl);(case hop=>first|apply r_loadNo;(case hx=>rfl);(case h=>repeat fail);(case hd=>repeat fail);(case hn=>rfl)|apply r_load1;rfl;(apply Cell.own;(case h=>repeat exact mhd _);rfl)|apply r_loadN;rfl;(apply CellsAt.own;(case h=>repeat fail));rfl);(case hq=>kernel_rfl))
  all_goals (apply dtk 14;(case hi=>rfl);(case hop=>(apply prd;apply p_sliceLH;(case hx|hl|hh=>rfl);all_goals omega));(case hq=>kernel_rfl))
  all_goals ((apply d_call 15 (hs:=bclone_s hsub hsl);(case hi=>rfl);(case hr=>kernel_rfl);(case ha=>rfl);(case hp=>exact List.Perm.refl _);(case hd=>rfl);(case hν'=>intro e he;simp at he;simp [he]);rintro r1 G1 ν1 - ⟨rfl,hg1⟩;obtain ⟨A1,c1,rfl,-,-⟩:=hg1.shape))
  all_goals (apply dta 16;(case hi|hx=>rfl);(case hq=>kernel_rfl))
  all_goals (apply d_done;(case hr=>kernel_rfl))
  refine v_frz ν1 (by repeat (exact PickA.here _)) ?_
  intro G2 hle2 hG2
  repeat' (fail)
  refine v_ret [(rb,_)] (outsA1 rfl rfl) (by repeat (exact List.Sublist.refl _)) ?_
  refine ⟨?_,((a':Int)+n).toNat,0,?_,by omega,.inr ⟨rfl,rfl⟩⟩
  ·have:=hg1.ints hG2 (fun x hx=>by
    have:=sl_byte hs x (List.mem_of_mem_take (List.mem_of_mem_drop hx))
    exact WalkArith.wf_u8 (by omega))
   simp only [show ((a':Int)+n-n).toNat=a' by omega] at this ⊢
   exact this
  ·rw [show ((((a':Int)+n).toNat:Nat):Int)=(a':Int)+n by omega]
 ·obtain ⟨h2,h3⟩:=hno h0
  rw [h2,h3]
  repeat' (first|apply v_seq|apply v_region|apply v_nil|apply v_pure;(case hop=>first|apply p_move<;>rfl|apply p_ne<;>rfl|apply p_assign<;>rfl|apply p_fieldAddrB<;>rfl|apply p_nilCheck<;>rfl|fail);(case hd=>rfl)|apply v_cond;(case hc=>rfl);all_goals (intro h;(try simp only [reduceCtorEq,zzz] at h);try (exfalso;omega))|apply v_call (hs:=q);(case ha=>rfl);(case hp=>exact (Pick.perm (by repeat (exact Pick.here _))));(case hd=>rfl);rintro _ _ _ _ ⟨rfl,rfl,rfl⟩|apply v_read;(case hop=>(apply r_load1;rfl;(apply Cell.own;(case h=>repeat exact mhd _);rfl)));(case hd=>rfl)|fail)
  refine v_ret [(rb,_)] (outsA1 rfl rfl) (by repeat (exact List.Sublist.refl _)) ?_
  exact ⟨Sl.nil,a',no',rfl,hat,.inl ⟨rfl,h0⟩⟩
theorem raw1_s {G:GH}{l:List Int}{bv:Value}(pb qb rb a:Nat) (most:Int) (hs:Sl G 1 (IntR .u8) bv l) (hl:l.length≤1048576) (ha:a≤l.length) :
 Con Tryz.prog 198 #[.pointer (some ⟨pb,0,none⟩),.pointer (some ⟨qb,0,none⟩)] G [(rb,rdO bv a 0),(qb,iO most),(pb,pO rb)]
  (fun r G' μ'=>Sl G' 1 (IntR .u8) r (rawB most (some (l.drop a)))∧∃ a' no',μ'=[(rb,rdO bv (a':Nat) no'),(qb,iO most),(pb,pO rb)]∧RdS l a' no' (rawS most (some (l.drop a)))):=by
 have ql:=raw_s rb a most hs hl ha
 (refine v_enter Tryz.func198 rfl Tryz.ntmps198 rfl ?_;intro B _)
 repeat' (first|apply v_seq|apply v_region|apply v_nil|apply v_pure;(case hop=>(apply p_assign<;>rfl));(case hd=>rfl)|apply v_read;(case hop=>(apply r_load1;rfl;(apply Cell.own;(case h=>repeat first|exact mhd _|apply mtl);rfl)));(case hd=>rfl)|fail)
 refine v_call (μ1:=[(rb,_)]) (μ2:=_) rfl ql (PickA.perm (by repeat (exact PickA.here _))) rfl ?_
 rintro r G1 _ hle ⟨h1,a',no',rfl,hr'⟩
 obtain ⟨A1,c1,rfl,-⟩:=h1.openInt
 repeat' (first|apply v_nil|apply v_pure;(case hop=>(apply p_assign<;>rfl));(case hd=>rfl)|fail)
 refine v_ret [(rb,_),(qb,_),(pb,_)] (outsA1 rfl rfl) (by repeat (exact List.Sublist.refl _)) ?_
 exact ⟨h1,a',no',rfl,hr'⟩
theorem rdReadB_s {G:GH}{l:List Int}{bv:Value}{s:Option (List Int)}(pb qb rb a:Nat) (no most:Int) (hs:Sl G 1 (IntR .u8) bv l) (hl:l.length≤1048576) (hr:RdS l a no s) :
 Con Tryz.prog 197 #[.pointer (some ⟨rb,0,none⟩),.func (.func 198) #[] #[.pointer (some ⟨pb,0,none⟩),.pointer (some ⟨qb,0,none⟩)]] G [(rb,rdO bv a no),(qb,iO most),(pb,pO rb)]
  (fun r G' μ'=>Sl G' 1 (IntR .u8) r (rawB most s)∧∃ a' no',μ'=[(rb,rdO bv (a':Nat) no'),(qb,iO most),(pb,pO rb)]∧RdS l a' no' (rawS most s)):=by
 obtain ⟨ha,⟨rfl,hno⟩|⟨rfl,rfl⟩⟩:=hr
 ·(refine v_enter Tryz.func197 rfl Tryz.ntmps197 rfl ?_;intro B _)
  repeat' (first|apply v_seq|apply v_region|apply v_nil|apply v_take;(case hg=>rfl)|apply v_pure;(case hop=>first|apply p_move<;>rfl|apply p_ne<;>rfl|apply p_assign<;>rfl|apply p_pickF<;>rfl|apply p_fieldAddrB<;>rfl|apply p_nilCheck<;>rfl|apply p_eqNil<;>rfl|fail);(case hd=>rfl)|apply v_cond;(case hc=>rfl);all_goals (intro h;(try simp only [reduceCtorEq,zzz] at h);try (exfalso;omega))|apply v_read;(case hop=>(apply r_load1;rfl;(apply Cell.own;(case h=>repeat exact mhd _);rfl)));(case hd=>rfl)|fail)
  refine v_ret [(rb,_),(qb,_),(pb,_)] (outsA1 rfl rfl) (by repeat (exact List.Sublist.refl _)) ?_
  exact ⟨Sl.nil,a,no,rfl,ha,.inl ⟨rfl,hno⟩⟩
 ·have q:=raw1_s pb qb rb a most hs hl ha
  have hn:rawS most (some (l.drop a))=none→rawB most (some (l.drop a))=[]:=by
   intro hh
   cases hd:dvk 0 (l.drop a) with
   | none=>simp only [rawB,hd]
   | some p =>
    simp only [rawB,rawS,hd] at hh ⊢
    split at hh
    ·rw [if_pos ‹_›]
    ·cases hh
  generalize rawB most (some (l.drop a))=rl at *
  generalize rawS most (some (l.drop a))=s' at *
  (refine v_enter Tryz.func197 rfl Tryz.ntmps197 rfl ?_;intro B _)
  repeat' (first|apply v_seq|apply v_region|apply v_nil|apply v_skip|apply v_take;(case hg=>rfl)|apply v_pure;(case hop=>first|apply p_move<;>rfl|apply p_nes<;>rfl|apply p_assign<;>rfl|apply p_pickF<;>rfl|apply p_fieldAddrB<;>rfl|apply p_nilCheck<;>rfl|apply p_eqNil<;>rfl|fail);(case hd=>rfl)|apply v_condF;(case hc=>rfl)|apply v_read;(case hop=>(apply r_load1;rfl;(apply Cell.own;(case h=>repeat exact mhd _);rfl)));(case hd=>rfl)|fail)
  refine v_callC (first:=[]) (captured:=[.pointer (some ⟨pb,0,none⟩),.pointer (some ⟨qb,0,none⟩)]) (vs:=[]) rfl rfl q (List.Perm.refl _) rfl ?_
  rintro r G1 _ hle ⟨h1,a',no',rfl,hr'⟩
  obtain ⟨A1,c1,rfl,-⟩:=h1.openInt
  obtain ⟨ha',hr2⟩:=id hr'
  repeat' (first|apply v_seq|apply v_region|apply v_nil|apply v_skip|apply v_pure;(case hop=>first|apply p_move<;>rfl|apply p_ne<;>rfl|apply p_assign<;>rfl|apply p_fieldAddrB<;>rfl|apply p_nilCheck<;>rfl|fail);(case hd=>rfl)|apply v_cond;(case hc=>rfl);all_goals (intro h;(try simp only [reduceCtorEq,zzz] at h))|apply v_read;(case hop=>(apply r_load1;rfl;(apply Cell.own;(case h=>repeat exact mhd _);rfl)));(case hd=>rfl)|fail)
  ·refine v_ret [(rb,_),(qb,_),(pb,_)] (outsA1 rfl rfl) (by repeat (exact List.Sublist.refl _)) ?_
   refine ⟨?_,a',no',rfl,hr'⟩
   obtain ⟨h2,h3⟩|⟨h2,h3⟩:=hr2
   ·rw [hn h2];exact Sl.nil
   ·exact absurd h3 ‹_›
  ·refine v_ret [(rb,_),(qb,_),(pb,_)] (outsA1 rfl rfl) (by repeat (exact List.Sublist.refl _)) ?_
   exact ⟨h1,a',no',rfl,hr'⟩
theorem rdRaw_s {G:GH}{l:List Int}{bv:Value}{s:Option (List Int)}(rb a:Nat) (no most:Int) (hs:Sl G 1 (IntR .u8) bv l) (hl:l.length≤1048576) (hr:RdS l a no s) :
 Con Tryz.prog 177 #[.pointer (some ⟨rb,0,none⟩),.int .i64 most] G [(rb,rdO bv a no)]
  (fun r G' μ'=>Sl G' 1 (IntR .u8) r (rawB most s)∧∃ a' no',μ'=[(rb,rdO bv (a':Nat) no')]∧RdS l a' no' (rawS most s)):=by
 have q:=fun pb qb=>rdReadB_s pb qb rb a no most hs hl hr
 generalize rawB most s=rl at *
 (refine v_enter Tryz.func177 rfl Tryz.ntmps177 rfl ?_;intro B _)
 repeat' (first|apply v_seq|apply v_region|apply v_nil|apply v_pure;(case hop=>first|apply p_assign<;>rfl|apply p_makeFunc<;>rfl);(case hd=>rfl)|apply v_read;(case hop=>(apply r_load1;rfl;(apply Cell.own;(case h=>repeat first|exact mhd _|apply mtl);rfl)));(case hd=>rfl)|apply v_box;(case hx|hz|hd=>rfl);intro b|fail)
 rename_i pb
 refine v_call (μ1:=[(rb,rdO bv a no),(b,iO most),(pb,pO rb)]) (μ2:=[]) rfl (q pb b) (by apply perm_of_count;intro p;simp only [List.append_eq,List.countP_append,List.countP_cons,List.countP_nil,Nat.zero_add,Nat.add_zero];try ac_rfl) rfl ?_
 rintro r G1 _ hle ⟨h1,a',no',rfl,hr'⟩
 obtain ⟨A1,c1,rfl,-⟩:=h1.openInt
 repeat' (first|apply v_nil|apply v_pure;(case hop=>(apply p_assign<;>rfl));(case hd=>rfl)|fail)
 refine v_ret [(rb,_)] (outsA1 rfl rfl) (by repeat (first|exact List.nil_sublist _|apply List.Sublist.cons_cons)) ?_
 exact ⟨h1,a',no',rfl,hr'⟩
theorem rdDone_s {G:GH}{l:List Int}{bv:Value}{s:Option (List Int)}(rb a:Nat) (no:Int) (hs:Sl G 1 (IntR .u8) bv l) (hl:l.length≤1048576) (hr:RdS l a no s) :
 Con Tryz.prog 106 #[.pointer (some ⟨rb,0,none⟩)] G [(rb,rdO bv a no)] (fun r G' μ'=>G'=G∧(∃ e:Int,r=.int .i64 e∧(e=0↔s=some []))∧μ'=[(rb,rdO bv a no)]):=by
 have qe:=rerr_s G rb bv a no
 have ql:=left_s rb a no hs hl hr.1
 obtain ⟨ha,hr2⟩:=hr
 (refine v_enter Tryz.func106 rfl Tryz.ntmps106 rfl ?_;intro B _)
 repeat' (first|apply v_seq|apply v_region|apply v_nil|apply v_skip|apply v_pure;(case hop=>first|apply p_move<;>rfl|apply p_gt<;>rfl|apply p_ne<;>rfl|apply p_assign<;>rfl|fail);(case hd=>rfl)|apply v_cond;(case hc=>rfl);all_goals (intro h;(try simp only [reduceCtorEq,zzz] at h))|apply v_callK (hs:=qe);(case ha=>rfl);(case hp=>exact (Pick.perm (by repeat (exact Pick.here _))));(case hd=>rfl)|apply v_callK (hs:=ql);(case ha=>rfl);(case hp=>exact (Pick.perm (by repeat (exact Pick.here _))));(case hd=>rfl)|fail)
 all_goals
  (refine v_ret [(rb,_)] (outsA1 rfl rfl) (by repeat (exact List.Sublist.refl _)) ?_
   refine ⟨rfl,⟨_,rfl,?_⟩,rfl⟩)
 ·obtain ⟨h1,h2⟩|⟨h1,h2⟩:=hr2
  ·rw [h1];simp only [h2,reduceCtorEq]
  ·exact absurd h2 ‹_›
 ·obtain ⟨h1,h2⟩|⟨h1,h2⟩:=hr2
  ·exact absurd ‹_› h2
  ·rw [h1]
   simp only [Option.some.injEq,List.drop_eq_nil_iff]
   omega
 ·obtain ⟨h1,h2⟩|⟨h1,h2⟩:=hr2
  ·exact absurd ‹_› h2
  ·rw [h1]
   simp only [Option.some.injEq,List.drop_eq_nil_iff,true_iff]
   omega
def strL (l:List Int):ByteArray:=⟨(l.map fun n=>UInt8.ofNat n.toNat).toArray⟩
theorem sbytes_strL {l:List Int}(h:∀ x∈l,0≤x∧x≤255):sbytes (strL l)=l:=by
 unfold sbytes strL
 simp only [List.map_map]
 conv=>rhs;rw [← List.map_id l]
 refine List.map_congr_left fun x hx=>?_
 have:=h x hx
 simp only [Function.comp,UInt8.toNat_ofNat',id]
 omega
theorem strL_sbytes (s:ByteArray):strL (sbytes s)=s:=by
 unfold sbytes strL
 simp only [List.map_map]
 have:(s.data.toList.map ((fun n:Int=>UInt8.ofNat n.toNat) ∘ fun b:UInt8=>(b.toNat:Int)))=s.data.toList:=by
  conv=>rhs;rw [← List.map_id s.data.toList]
  refine List.map_congr_left fun x hx=>?_
  simp
 rw [this]
theorem strL_size (l:List Int):(strL l).size=l.length:=by
 show (l.map fun n=>UInt8.ofNat n.toNat).toArray.size=_
 simp
attribute [local semireducible] ReadOp in
theorem r_convBS {P:Program}{ty src dst e:TypeId}{σ:Env}{G:GH}{μ:OH}{x:Operand}{A:Option Addr}{c:Nat}{l:List Int}(hS:P.underlying src=some (.slice e)) (hE:P.underlying e=some (.int .u8)) (hD:P.underlying dst=some .string) (hx:Env.ev σ x=some (.slice A l.length c)) (hs:Sl G 1 (IntR .u8) (.slice A l.length c) l) :
 ReadOp P (.convert src dst x) ty σ G μ (.string (strL l)):=by
 intro d pos af g ρ hρ w hw
 obtain ⟨A',c',hv,hlc,hcm,hsome,hel,hwf⟩:=hs.openInt
 injection hv with e1 _ e2
 subst e1;subst e2
 have key:(convert src dst (.slice A l.length c)).run P w=.ok (.string (strL l)) w:=by
  cases A with
  | none =>
   have:l=[]:=by
    cases l with
    | nil=>rfl
    | cons a l=>have:=hsome (by simp);simp at this
   subst this
   exact run_convert_bytes_nil w src e hS hE _ _ dst hD
  | some a =>
   have h:=run_convert_bytes_back (P:=P) w src dst e a c (l.map fun n=>UInt8.ofNat n.toNat) hS hE hD (fun j hj=>by
    rw [List.length_map] at hj
    have h1:=(Cell.frozen (μ:=μ) (hel j hj)) w hw
    have h2:=hwf _ (List.getElem_mem hj)
    simp [Lit.wf,IntKind.min,IntKind.max,IntKind.signed,IntKind.bits] at h2
    simp only [adr,Option.getD_some,Nat.mul_one] at h1
    rw [h1,List.getElem_map,UInt8.toNat_ofNat']
    congr 2
    omega)
   rw [List.length_map] at h
   exact h
 simp [execOp,hρ _ _ hx,key]
theorem rdText_s {G:GH}{l:List Int}{bv:Value}{s:Option (List Int)}(rb a:Nat) (no most:Int) (hs:Sl G 1 (IntR .u8) bv l) (hl:l.length≤1048576) (hr:RdS l a no s) :
 Con Tryz.prog 221 #[.pointer (some ⟨rb,0,none⟩),.int .i64 most] G [(rb,rdO bv a no)]
  (fun r G' μ'=>r=.string (strL (rawB most s))∧∃ a' no',μ'=[(rb,rdO bv (a':Nat) no')]∧RdS l a' no' (rawS most s)):=by
 have q:=rdRaw_s rb a no most hs hl hr
 generalize rawB most s=rl at *
 (refine v_enter Tryz.func221 rfl Tryz.ntmps221 rfl ?_;intro B _)
 repeat' (first|apply v_seq|apply v_region|apply v_nil|apply v_pure;(case hop=>first|apply p_move<;>rfl|apply p_assign<;>rfl|fail);(case hd=>rfl)|fail)
 refine v_call (μ1:=[(rb,rdO bv a no)]) (μ2:=[]) rfl q (List.Perm.refl _) rfl ?_
 rintro r G1 _ hle ⟨h1,a',no',rfl,hr'⟩
 obtain ⟨A1,c1,rfl,-⟩:=h1.openInt
 repeat' (first|apply v_nil|apply v_pure;(case hop=>(apply p_assign<;>rfl));(case hd=>rfl)|apply v_read;(case hop=>exact r_convBS Tryz.underlying24 Tryz.underlying5 Tryz.underlying9 rfl h1);(case hd=>rfl)|fail)
 refine v_ret [(rb,_)] (outsA1 rfl rfl) (by repeat (exact List.Sublist.refl _)) ?_
 exact ⟨rfl,a',no',rfl,hr'⟩
end Go.Proofs.YtpemabgfmnhhnaaGreatDoor
/-
  cmd (layer 8), the fourth part: what a writer puts down of a command.
-/
namespace Go.Proofs.YtpemabgfmnhhnaaGreatDoor
open Go.Vx Go.ChangeShapes Go.WideShapes Go.ChangeAt Go.RowKit
attribute [local semireducible] PureOp in
theorem p_assert1 {ty u src:TypeId}{σ:Env}{x:Operand}{v:Value}{d:TypeDesc} [Ty Tryz.prog u d] (hd:(match d with | .interface _=>false|_=>true)=true) (hx:Env.ev σ x=some (.iface u v)):PureOp Tryz.prog (.typeAssert x src u false) ty σ v:=by
 intro dst pos af g ρ hρ w
 simp only [execOp,hρ _ _ hx,Instr.typeAssert,Sem.run_bind,run_under (t:=u) (d:=d),Result.andThen_ok]
 cases d<;>simp at hd ⊢
def pbytes (c:Cm) (j:Nat):List Int:=if isNum j then vbytes (c.num j) else vbytes (c.txt j).size++sbytes (c.txt j)
theorem write_s {G:GH}{l:List Int}{sv:Value}(c:Cm) (hc:c.ok) (hk:c.key.size≤1000) (hv:c.val.size≤1000) (ho:c.old.size≤1000) (wb cb j:Nat) (hj:j<6) (hs:Sl G 1 (IntR .u8) sv l) (hl:l.length≤100000) :
 Con Tryz.prog 172 #[.agg (partL j).toArray,.pointer (some ⟨wb,0,none⟩),.pointer (some ⟨cb,0,none⟩)] G [(wb,.cells [sv].toArray 130 (0,0)),(cb,.cells c.cells.toArray 40 (0,0))]
  (fun r G' μ'=>∃ v',μ'=[(wb,.cells [v'].toArray 130 (0,0)),(cb,.cells c.cells.toArray 40 (0,0))]∧Sl G' 1 (IntR .u8) v' (l++pbytes c j)):=by
 obtain ⟨hk1,hc1,hs1,hk2,hv2,ho2,hn1⟩:=hc
 simp [Lit.wf,IntKind.min,IntKind.max,IntKind.signed,IntKind.bits] at hk1 hc1 hs1 hn1
 (refine v_enter Tryz.func172 rfl Tryz.ntmps172 rfl ?_;intro B _)
 obtain rfl|rfl|rfl|rfl|rfl|rfl:j=0∨j=1∨j=2∨j=3∨j=4∨j=5:=by omega
 all_goals
  repeat' (first|apply v_seq|apply v_region|apply v_nil|apply v_skip|apply v_pure;(case hop=>first|apply p_move<;>rfl|apply p_assign<;>rfl|apply p_fieldAddrB<;>rfl|apply p_nilCheck<;>rfl|apply p_extract0<;>rfl|apply p_extract1<;>rfl|apply p_assertOk<;>rfl|apply p_assertNo<;>rfl);(case hd=>rfl)|apply v_condT;(case hc=>rfl)|apply v_condF;(case hc=>rfl)|apply v_callFJ0 (hs:=at1_s _ cb);(case hx|ha|hd=>rfl)|apply v_callFJ0 (hs:=at2_s _ cb);(case hx|ha|hd=>rfl)|apply v_callFJ0 (hs:=at3_s _ cb);(case hx|ha|hd=>rfl)|apply v_callFJ0 (hs:=at4_s _ cb);(case hx|ha|hd=>rfl)|apply v_callFJ0 (hs:=at5_s _ cb);(case hx|ha|hd=>rfl)|apply v_callFJ0 (hs:=at6_s _ cb);(case hx|ha|hd=>rfl)|apply v_pure;(case hop=>(apply p_assert1;(case hd|hx=>rfl)));(case hd=>rfl)|apply v_read;(case hop=>(apply r_load1;rfl;(apply Cell.own;(case h=>repeat first|exact mhd _|apply mtl);rfl)));(case hd=>rfl)|apply v_box;(case hx|hz|hd=>rfl);intro b|fail)
 ·refine v_call (μ1:=[(wb,_)]) (μ2:=_) rfl (wnumber_s wb c.client hs (by omega) (by omega)) (PickA.perm (by repeat (first|exact PickA.here _|apply PickA.cons))) rfl ?_
  rintro r G1 μ1 - ⟨v',rfl,hv'⟩
  repeat' (first|apply v_nil)
  refine v_ret [(wb,_),(cb,_)] (outsA0 rfl) (by repeat (first|exact List.Sublist.refl _|apply List.Sublist.cons_cons|apply List.Sublist.cons)) ?_
  exact ⟨_,rfl,hv'⟩
 ·refine v_call (μ1:=[(wb,_)]) (μ2:=_) rfl (wnumber_s wb c.seq hs (by omega) (by omega)) (PickA.perm (by repeat (first|exact PickA.here _|apply PickA.cons))) rfl ?_
  rintro r G1 μ1 - ⟨v',rfl,hv'⟩
  repeat' (first|apply v_nil)
  refine v_ret [(wb,_),(cb,_)] (outsA0 rfl) (by repeat (first|exact List.Sublist.refl _|apply List.Sublist.cons_cons|apply List.Sublist.cons)) ?_
  exact ⟨_,rfl,hv'⟩
 ·refine v_call (μ1:=[(wb,_)]) (μ2:=_) rfl (wtext_s wb c.key hs hl (by omega)) (PickA.perm (by repeat (first|exact PickA.here _|apply PickA.cons))) rfl ?_
  rintro r G1 μ1 - ⟨v',rfl,hv'⟩
  repeat' (first|apply v_nil)
  refine v_end [(wb,_),(cb,_)] (outsA0 rfl) (by repeat (first|exact List.Sublist.refl _|apply List.Sublist.cons_cons|apply List.Sublist.cons)) ?_
  exact ⟨_,rfl,by rw [List.append_assoc] at hv';exact hv'⟩
 ·refine v_call (μ1:=[(wb,_)]) (μ2:=_) rfl (wtext_s wb c.old hs hl (by omega)) (PickA.perm (by repeat (first|exact PickA.here _|apply PickA.cons))) rfl ?_
  rintro r G1 μ1 - ⟨v',rfl,hv'⟩
  repeat' (first|apply v_nil)
  refine v_end [(wb,_),(cb,_)] (outsA0 rfl) (by repeat (first|exact List.Sublist.refl _|apply List.Sublist.cons_cons|apply List.Sublist.cons)) ?_
  exact ⟨_,rfl,by rw [List.append_assoc] at hv';exact hv'⟩
 ·refine v_call (μ1:=[(wb,_)]) (μ2:=_) rfl (wtext_s wb c.val hs hl (by omega)) (PickA.perm (by repeat (first|exact PickA.here _|apply PickA.cons))) rfl ?_
  rintro r G1 μ1 - ⟨v',rfl,hv'⟩
  repeat' (first|apply v_nil)
  refine v_end [(wb,_),(cb,_)] (outsA0 rfl) (by repeat (first|exact List.Sublist.refl _|apply List.Sublist.cons_cons|apply List.Sublist.cons)) ?_
  exact ⟨_,rfl,by rw [List.append_assoc] at hv';exact hv'⟩
 ·refine v_call (μ1:=[(wb,_)]) (μ2:=_) rfl (wnumber_s wb c.node hs (by omega) (by omega)) (PickA.perm (by repeat (first|exact PickA.here _|apply PickA.cons))) rfl ?_
  rintro r G1 μ1 - ⟨v',rfl,hv'⟩
  repeat' (first|apply v_nil)
  refine v_ret [(wb,_),(cb,_)] (outsA0 rfl) (by repeat (first|exact List.Sublist.refl _|apply List.Sublist.cons_cons|apply List.Sublist.cons)) ?_
  exact ⟨_,rfl,hv'⟩
theorem pbytes_len (c:Cm) (hk:c.key.size≤1000) (hv:c.val.size≤1000) (ho:c.old.size≤1000) (j:Nat):(pbytes c j).length≤1011:=by
 unfold pbytes
 split
 ·have:=(vbytes_len (c.num j)).1
  omega
 ·rw [List.length_append,sbytes_length]
  have:=(vbytes_len ((c.txt j).size:Nat)).1
  have:(c.txt j).size≤1000:=by unfold Cm.txt;split<;>assumption
  omega
end Go.Proofs.YtpemabgfmnhhnaaGreatDoor
/-
  cmd (layer 8), the sixth part: what a reader reads of a command.
-/
namespace Go.Proofs.YtpemabgfmnhhnaaGreatDoor
open Go.Vx Go.ChangeShapes Go.WideShapes Go.ChangeAt Go.RowKit
def Cm.setP (c:Cm) (j:Nat) (s:Option (List Int)):Cm:=match j with
 | 0 => { c with client:=numV 9223372036854775807 s }
 | 1 => { c with seq:=numV 9223372036854775807 s }
 | 2 => { c with key:=strL (rawB 1048576 s) }
 | 3 => { c with old:=strL (rawB 1048576 s) }
 | 4 => { c with val:=strL (rawB 1048576 s) }
 | _ => { c with node:=numV 9223372036854775807 s }
def partS (j:Nat) (s:Option (List Int)):Option (List Int):=if isNum j then numS 9223372036854775807 s else rawS 1048576 s
theorem read_s {G:GH}{l:List Int}{bv:Value}{s:Option (List Int)}(c:Cm) (rb cb a j:Nat) (no:Int) (hj:j<6) (hs:Sl G 1 (IntR .u8) bv l) (hl:l.length≤1048576) (hr:RdS l a no s) :
 Con Tryz.prog 196 #[.agg (partL j).toArray,.pointer (some ⟨rb,0,none⟩),.pointer (some ⟨cb,0,none⟩)] G [(rb,rdO bv a no),(cb,.cells c.cells.toArray 40 (0,0))]
  (fun r G' μ'=>∃ a' no',μ'=[(rb,rdO bv (a':Nat) no'),(cb,.cells (c.setP j s).cells.toArray 40 (0,0))]∧RdS l a' no' (partS j s)):=by
 have qn:=rdNumber_s rb a no 9223372036854775807 hs hl hr
 have qt:=rdText_s rb a no 1048576 hs hl hr
 (refine v_enter Tryz.func196 rfl Tryz.ntmps196 rfl ?_;intro B _)
 obtain rfl|rfl|rfl|rfl|rfl|rfl:j=0∨j=1∨j=2∨j=3∨j=4∨j=5:=by omega
 all_goals
  (simp only [Cm.setP,partS,isNum,Nat.reduceBEq,Bool.or_self,Bool.or_true,Bool.true_or,Bool.or_false,Bool.false_or,if_true,if_false,reduceCtorEq,Bool.false_eq_true])
 all_goals
  repeat' (first|apply v_seq|apply v_region|apply v_nil|apply v_skip|apply v_pure;(case hop=>first|apply p_move<;>rfl|apply p_assign<;>rfl|apply p_fieldAddrB<;>rfl|apply p_extract0<;>rfl|apply p_extract1<;>rfl|apply p_assertOk<;>rfl|apply p_assertNo<;>rfl);(case hd=>rfl)|apply v_condT;(case hc=>rfl)|apply v_condF;(case hc=>rfl)|apply v_callFJ0 (hs:=at1_s _ cb);(case hx|ha|hd=>rfl)|apply v_callFJ0 (hs:=at2_s _ cb);(case hx|ha|hd=>rfl)|apply v_callFJ0 (hs:=at3_s _ cb);(case hx|ha|hd=>rfl)|apply v_callFJ0 (hs:=at4_s _ cb);(case hx|ha|hd=>rfl)|apply v_callFJ0 (hs:=at5_s _ cb);(case hx|ha|hd=>rfl)|apply v_callFJ0 (hs:=at6_s _ cb);(case hx|ha|hd=>rfl)|apply v_read;(case hop=>(apply r_load1;rfl;(apply Cell.own;(case h=>repeat exact mhd _);rfl)));(case hd=>rfl)|apply v_box;(case hx|hz|hd=>rfl);intro b|fail)
 ·refine v_call (μ1:=[(rb,_)]) (μ2:=_) rfl qn (PickA.perm (by repeat (first|exact PickA.here _|apply PickA.cons))) rfl ?_
  rintro _ _ _ hle ⟨rfl,rfl,a',no',rfl,hr'⟩
  repeat' (first|apply v_nil|apply v_pure;(case hop=>(apply p_nilCheck<;>rfl));(case hd=>rfl)|apply v_store;(case hp|hx|hc|hsz|h1=>rfl);(case hb=>repeat first|exact mhd _|apply mtl);(case hfit=>exact nle rfl);(case hov=>((repeat (first|with_reducible exact ov_nil|apply ov_cons));done));(case hu=>repeat first|exact Upd.here _ _|apply Upd.there)|fail)
  refine v_ret [(rb,_),(cb,_)] (outsA0 rfl) (by repeat (first|exact List.Sublist.refl _|apply List.Sublist.cons_cons|apply List.Sublist.cons)) ?_
  exact ⟨a',no',rfl,hr'⟩
 ·refine v_call (μ1:=[(rb,_)]) (μ2:=_) rfl qn (PickA.perm (by repeat (first|exact PickA.here _|apply PickA.cons))) rfl ?_
  rintro _ _ _ hle ⟨rfl,rfl,a',no',rfl,hr'⟩
  repeat' (first|apply v_nil|apply v_pure;(case hop=>(apply p_nilCheck<;>rfl));(case hd=>rfl)|apply v_store;(case hp|hx|hc|hsz|h1=>rfl);(case hb=>repeat first|exact mhd _|apply mtl);(case hfit=>exact nle rfl);(case hov=>((repeat (first|with_reducible exact ov_nil|apply ov_cons));done));(case hu=>repeat first|exact Upd.here _ _|apply Upd.there)|fail)
  refine v_ret [(rb,_),(cb,_)] (outsA0 rfl) (by repeat (first|exact List.Sublist.refl _|apply List.Sublist.cons_cons|apply List.Sublist.cons)) ?_
  exact ⟨a',no',rfl,hr'⟩
 ·refine d_start [(b,.cells (partL 2).toArray 197 (0,0))] (by kernel_rfl) (by kernel_rfl) (by kernel_rfl) (by intro e he;(simp at he;simp [he];done)) ?_
  all_goals (apply dtk 0;(case hi=>rfl);(case hop=>(apply prd;apply p_fieldAddrB<;>rfl));(case hq=>kernel_rfl);apply dtk 1;(case hi=>rfl);(case hop=>first|apply r_loadNo;(case hx=>rfl);(case h=>repeat fail);(case hd=>repeat fail);(case hn=>rfl)|apply r_load1;rfl;(apply Cell.own;(case h=>repeat exact mhd _);rfl)|apply r_loadN;rfl;(apply CellsAt.own;(case h=>repeat fail));rfl);(case hq=>kernel_rfl))
  all_goals (apply dtm 2;(case hi|hx=>rfl);(case hq=>kernel_rfl);apply dtm 5;(case hi|hx=>rfl);(case hq=>kernel_rfl))
  all_goals (apply d_callJ0 3 (hs:=(at3_s _ cb));(case hi=>rfl);(case hr=>kernel_rfl);(case hx|ha|hd=>rfl))
  all_goals (apply dtk 4;(case hi=>rfl);(case hop=>((apply prd;apply p_assert1;(case hd|hx=>rfl))));(case hq=>kernel_rfl))
  all_goals ((apply d_call 6 (hs:=qt);(case hi=>rfl);(case hr=>kernel_rfl);(case ha=>rfl);(case hp=>exact PickA.perm (by repeat (first|exact PickA.here _|apply PickA.cons)));(case hd=>rfl);(case hν'=>intro e he;simp at he;simp [he]);rintro _ G1 _ hle ⟨rfl,a',no',rfl,hr'⟩))
  all_goals (apply dtn 7;(case hi|hx=>rfl);(case hq=>kernel_rfl))
  all_goals (apply d_store 8;(case hi=>rfl);(case hr=>kernel_rfl);(case hL=>infer_instance);(case hp|hx|hc|hsz|h1=>rfl);(case hb=>repeat first|exact mhd _|apply mtl);(case hfit=>exact nle rfl);(case hov=>((repeat (first|with_reducible exact ov_nil|apply ov_cons));done));(case hu=>repeat first|exact Upd.here _ _|apply Upd.there);(case hν'=>intro e he;simp at he;simp [he]))
  all_goals (apply d_done;(case hr=>kernel_rfl))
  repeat' (fail)
  refine v_end [(rb,_),(cb,_)] (outsA0 rfl) (by repeat (first|exact List.Sublist.refl _|apply List.Sublist.cons_cons|apply List.Sublist.cons)) ?_
  exact ⟨a',no',rfl,hr'⟩
 ·refine d_start [(b,.cells (partL 3).toArray 197 (0,0))] (by kernel_rfl) (by kernel_rfl) (by kernel_rfl) (by intro e he;(simp at he;simp [he];done)) ?_
  all_goals (apply dtk 0;(case hi=>rfl);(case hop=>(apply prd;apply p_fieldAddrB<;>rfl));(case hq=>kernel_rfl);apply dtk 1;(case hi=>rfl);(case hop=>first|apply r_loadNo;(case hx=>rfl);(case h=>repeat fail);(case hd=>repeat fail);(case hn=>rfl)|apply r_load1;rfl;(apply Cell.own;(case h=>repeat exact mhd _);rfl)|apply r_loadN;rfl;(apply CellsAt.own;(case h=>repeat fail));rfl);(case hq=>kernel_rfl))
  all_goals (apply dtm 2;(case hi|hx=>rfl);(case hq=>kernel_rfl);apply dtm 5;(case hi|hx=>rfl);(case hq=>kernel_rfl))
  all_goals (apply d_callJ0 3 (hs:=(at4_s _ cb));(case hi=>rfl);(case hr=>kernel_rfl);(case hx|ha|hd=>rfl))
  all_goals (apply dtk 4;(case hi=>rfl);(case hop=>((apply prd;apply p_assert1;(case hd|hx=>rfl))));(case hq=>kernel_rfl))
  all_goals ((apply d_call 6 (hs:=qt);(case hi=>rfl);(case hr=>kernel_rfl);(case ha=>rfl);(case hp=>exact PickA.perm (by repeat (first|exact PickA.here _|apply PickA.cons)));(case hd=>rfl);(case hν'=>intro e he;simp at he;simp [he]);rintro _ G1 _ hle ⟨rfl,a',no',rfl,hr'⟩))
  all_goals (apply dtn 7;(case hi|hx=>rfl);(case hq=>kernel_rfl))
  all_goals (apply d_store 8;(case hi=>rfl);(case hr=>kernel_rfl);(case hL=>infer_instance);(case hp|hx|hc|hsz|h1=>rfl);(case hb=>repeat first|exact mhd _|apply mtl);(case hfit=>exact nle rfl);(case hov=>((repeat (first|with_reducible exact ov_nil|apply ov_cons));done));(case hu=>repeat first|exact Upd.here _ _|apply Upd.there);(case hν'=>intro e he;simp at he;simp [he]))
  all_goals (apply d_done;(case hr=>kernel_rfl))
  repeat' (fail)
  refine v_end [(rb,_),(cb,_)] (outsA0 rfl) (by repeat (first|exact List.Sublist.refl _|apply List.Sublist.cons_cons|apply List.Sublist.cons)) ?_
  exact ⟨a',no',rfl,hr'⟩
 ·refine d_start [(b,.cells (partL 4).toArray 197 (0,0))] (by kernel_rfl) (by kernel_rfl) (by kernel_rfl) (by intro e he;(simp at he;simp [he];done)) ?_
  all_goals (apply dtk 0;(case hi=>rfl);(case hop=>(apply prd;apply p_fieldAddrB<;>rfl));(case hq=>kernel_rfl);apply dtk 1;(case hi=>rfl);(case hop=>first|apply r_loadNo;(case hx=>rfl);(case h=>repeat fail);(case hd=>repeat fail);(case hn=>rfl)|apply r_load1;rfl;(apply Cell.own;(case h=>repeat exact mhd _);rfl)|apply r_loadN;rfl;(apply CellsAt.own;(case h=>repeat fail));rfl);(case hq=>kernel_rfl))
  all_goals (apply dtm 2;(case hi|hx=>rfl);(case hq=>kernel_rfl);apply dtm 5;(case hi|hx=>rfl);(case hq=>kernel_rfl))
  all_goals (apply d_callJ0 3 (hs:=(at5_s _ cb));(case hi=>rfl);(case hr=>kernel_rfl);(case hx|ha|hd=>rfl))
  all_goals (apply dtk 4;(case hi=>rfl);(case hop=>((apply prd;apply p_assert1;(case hd|hx=>rfl))));(case hq=>kernel_rfl))
  all_goals ((apply d_call 6 (hs:=qt);(case hi=>rfl);(case hr=>kernel_rfl);(case ha=>rfl);(case hp=>exact PickA.perm (by repeat (first|exact PickA.here _|apply PickA.cons)));(case hd=>rfl);(case hν'=>intro e he;simp at he;simp [he]);rintro _ G1 _ hle ⟨rfl,a',no',rfl,hr'⟩))
  all_goals (apply dtn 7;(case hi|hx=>rfl);(case hq=>kernel_rfl))
  all_goals (apply d_store 8;(case hi=>rfl);(case hr=>kernel_rfl);(case hL=>infer_instance);(case hp|hx|hc|hsz|h1=>rfl);(case hb=>repeat first|exact mhd _|apply mtl);(case hfit=>exact nle rfl);(case hov=>((repeat (first|with_reducible exact ov_nil|apply ov_cons));done));(case hu=>repeat first|exact Upd.here _ _|apply Upd.there);(case hν'=>intro e he;simp at he;simp [he]))
  all_goals (apply d_done;(case hr=>kernel_rfl))
  repeat' (fail)
  refine v_end [(rb,_),(cb,_)] (outsA0 rfl) (by repeat (first|exact List.Sublist.refl _|apply List.Sublist.cons_cons|apply List.Sublist.cons)) ?_
  exact ⟨a',no',rfl,hr'⟩
 ·refine v_call (μ1:=[(rb,_)]) (μ2:=_) rfl qn (PickA.perm (by repeat (first|exact PickA.here _|apply PickA.cons))) rfl ?_
  rintro _ _ _ hle ⟨rfl,rfl,a',no',rfl,hr'⟩
  repeat' (first|apply v_nil|apply v_pure;(case hop=>(apply p_nilCheck<;>rfl));(case hd=>rfl)|apply v_store;(case hp|hx|hc|hsz|h1=>rfl);(case hb=>repeat first|exact mhd _|apply mtl);(case hfit=>exact nle rfl);(case hov=>((repeat (first|with_reducible exact ov_nil|apply ov_cons));done));(case hu=>repeat first|exact Upd.here _ _|apply Upd.there)|fail)
  refine v_ret [(rb,_),(cb,_)] (outsA0 rfl) (by repeat (first|exact List.Sublist.refl _|apply List.Sublist.cons_cons|apply List.Sublist.cons)) ?_
  exact ⟨a',no',rfl,hr'⟩
def wantB (v kind:Int) (j:Nat):Bool:=if v=1 then decide (hasOf j≠4) else decide (band (cmdFields kind).1 (hasOf j)≠0)
theorem wantedV_s (G:GH) (v kind:Int) (j:Nat) (hj:j<6):Con Tryz.prog 171 #[.agg (partL j).toArray,.int .i64 v,.int .i64 kind] G [] (Just (.bool (wantB v kind j)) G):=by
 have qf:=fields_s G kind
 apply Con.just
 unfold wantB
 (refine v_enter Tryz.func171 rfl Tryz.ntmps171 rfl ?_;intro B _)
 obtain rfl|rfl|rfl|rfl|rfl|rfl:j=0∨j=1∨j=2∨j=3∨j=4∨j=5:=by omega
 all_goals
  repeat' (first|apply v_seq|apply v_region|apply v_nil|apply v_skip|apply v_pure;(case hop=>first|apply p_move<;>rfl|apply p_nes<;>rfl|apply p_eq<;>rfl|apply p_ne<;>rfl|apply p_assign<;>rfl|apply p_fieldAddrB<;>rfl|apply p_extract0<;>rfl|apply p_extract1<;>rfl|apply p_and64<;>rfl|fail);(case hd=>rfl)|apply v_cond;(case hc=>rfl);all_goals (intro h;(try simp only [reduceCtorEq,zzz] at h))|apply v_callJ (hs:=qf);(case ha|hd=>rfl)|apply v_read;(case hop=>(apply r_load1;rfl;(apply Cell.own;(case h=>repeat exact mhd _);rfl)));(case hd=>rfl)|apply v_box;(case hx|hz|hd=>rfl);intro b|fail)
 all_goals
  (refine v_ret [] (outsA1 rfl rfl) (by repeat (exact List.nil_sublist _)) ?_
   refine ⟨?_,rfl⟩
   simp [hasOf,dec_eq, *])
def putW (w:Nat→Bool) (c:Cm):Nat→List Int
 | 0 => []
 | k+1=>putW w c k++(if w k then pbytes c k else [])
theorem putW_len (w:Nat→Bool) (c:Cm) (hk:c.key.size≤1000) (hv:c.val.size≤1000) (ho:c.old.size≤1000):∀ k,(putW w c k).length≤1011*k
 | 0=>by simp [putW]
 | k+1=>by
  rw [putW,List.length_append]
  have h1:=putW_len w c hk hv ho k
  have h2:=pbytes_len c hk hv ho k
  split
  ·omega
  ·simp;omega
theorem cputV_s {G:GH}{l:List Int}{sv:Value}(v:Int) (c:Cm) (hc:c.ok) (hk:c.key.size≤1000) (hv:c.val.size≤1000) (ho:c.old.size≤1000) (wb:Nat) (hs:Sl G 1 (IntR .u8) sv l) (hl:l.length≤90000) :
 Con Tryz.prog 135 #[.pointer (some ⟨wb,0,none⟩),.int .i64 v,.agg c.cells.toArray] G [(wb,.cells [sv].toArray 130 (0,0))]
  (fun r G' μ'=>∃ v',μ'=[(wb,.cells [v'].toArray 130 (0,0))]∧Sl G' 1 (IntR .u8) v' (l++vbytes c.kind++putW (wantB v c.kind) c 6)):=by
 have hkw:=hc.1
 simp [Lit.wf,IntKind.min,IntKind.max,IntKind.signed,IntKind.bits] at hkw
 (refine v_enter Tryz.func135 rfl Tryz.ntmps135 rfl ?_;intro B _)
 repeat' (first|apply v_seq|apply v_region|apply v_nil|apply v_pure;(case hop=>first|apply p_move<;>rfl|apply p_fieldAddrB<;>rfl|fail);(case hd=>rfl)|apply v_box (zs:=c.cells);(case hx|hz|hd=>rfl);intro cb|apply v_read;(case hop=>(apply r_load1;rfl;(apply Cell.own;(case h=>repeat exact mhd _);rfl)));(case hd=>rfl)|fail)
 refine v_call (μ1:=[(wb,_)]) (μ2:=_) rfl (wnumber_s wb c.kind hs (by omega) (by omega)) (PickA.perm (by repeat (first|exact PickA.last|apply PickA.cons))) rfl ?_
 rintro r0 G0 μ0 - ⟨v0,rfl,hv0⟩
 repeat' (first|apply v_seq|apply v_region|apply v_nil)
 refine v_call (μ1:=[]) (μ2:=_) rfl (parts_s G0) (List.Perm.refl _) rfl ?_
 rintro r G' μ1 - ⟨rfl,pb,rfl,rfl⟩
 refine v_frz [(pb,_)] (by repeat (exact PickA.here _)) ?_
 intro G1 hle1 hG1
 have hpb:=hG1 pb _ (List.Mem.head _)
 have hv1:=hv0.mono hle1
 have hl1:(l++vbytes c.kind).length≤90011:=by
  rw [List.length_append]
  have:=(vbytes_len c.kind).1
  omega
 generalize l++vbytes c.kind=l1 at *
 repeat' (first|apply v_nil|apply v_block|apply v_pure;(case hop=>first|apply p_move<;>rfl|apply p_lenSlice<;>rfl|fail);(case hd=>rfl)|fail)
 refine v_loop [14,13,12,0,1,5] (fun us G' μ'=>GH.le G1 G'∧∃ (k:Nat) (w:Value),k≤6∧us=[Value.int .i64 (k:Int),.int .i64 6,.slice (some ⟨pb,0,none⟩) 6 6,.pointer (some ⟨wb,0,none⟩),.int .i64 v,.pointer (some ⟨cb,0,none⟩)]∧μ'=[(wb,.cells [w].toArray 130 (0,0)),(cb,.cells c.cells.toArray 40 (0,0))]∧Sl G' 1 (IntR .u8) w (l1++putW (wantB v c.kind) c k)) (fun us=>7-(headI us).toNat) rfl ⟨GH.le_refl _,0,_,by omega,rfl,rfl,by simpa [putW] using hv1⟩ ?_
 rintro us G2 μ' ⟨hle2,k,w,hk6,rfl,rfl,hw⟩
 by_cases hlt:k<6
 ·have hpk:=partsG (hle2 _ _ hpb) hlt
  have hwt:=wantedV_s G2 v c.kind k hlt
  have hlen:(l1++putW (wantB v c.kind) c k).length≤100000:=by
   rw [List.length_append]
   have:=putW_len (wantB v c.kind) c hk hv ho k
   omega
  have hwr:=write_s c hc hk hv ho wb cb k hlt hw hlen
  have e1:putW (wantB v c.kind) c (k+1)=putW (wantB v c.kind) c k++(if wantB v c.kind k then pbytes c k else []):=rfl
  generalize pbytes c k=pb1 at *
  have hbl:∃ L,L=partL k:=⟨_,rfl⟩
  obtain ⟨L,hL⟩:=hbl
  cases hwb:wantB v c.kind k
  all_goals
   rw [hwb] at hwt e1
   obtain rfl|rfl|rfl|rfl|rfl|rfl:k=0∨k=1∨k=2∨k=3∨k=4∨k=5:=by omega
  all_goals
   (simp only [if_true,if_false,List.append_nil,Bool.false_eq_true] at e1
    repeat' (first|apply v_seq|apply v_region|apply v_nil|apply v_skip|apply v_block|apply v_blk|apply v_pure;(case hop=>first|apply p_move<;>rfl|apply p_lt<;>rfl|apply p_fieldAddrB<;>rfl|apply p_add;(case hx|hy=>rfl);(case h=>omega)|apply p_indexAddr;(case hx|hi=>rfl);(case h0|h=>omega)|fail);(case hd=>rfl)|apply v_condT;(case hc=>rfl)|apply v_condF;(case hc=>rfl)|apply v_cond;(case hc=>rfl);all_goals (intro h;(try simp only [reduceCtorEq,zzz] at h);try (exfalso;omega))|apply v_read;(case hop=>(apply r_loadN;rfl;exact CellsAt.frozen hpk;rfl));(case hd=>rfl)|apply v_callJ (hs:=hwt);(case ha|hd=>rfl)|apply v_read;(case hop=>first|apply r_loadNo;(case hx=>rfl);(case h=>repeat exact mhd _);(case hd=>repeat first|with_reducible exact dt_nil|apply dt_here);(case hn=>rfl)|apply r_load1;rfl;(apply Cell.own;(case h=>repeat first|exact mhd _|apply mtl);rfl)|fail);(case hd=>rfl)|apply v_alloc;(case hz|hd=>rfl);intro b|apply v_store;(case hp|hx|hc|hsz|h1=>rfl);(case hb=>repeat exact mhd _);(case hfit=>exact nle rfl);(case hov=>((repeat (first|with_reducible exact ov_nil|apply ov_cons));done));(case hu=>repeat (exact Upd.here _ _))|fail))
  all_goals first
   |(refine v_call (μ1:=[(wb,_),(cb,_)]) (μ2:=_) rfl hwr (PickA.perm (by repeat (first|exact PickA.last|apply PickA.cons))) rfl ?_
     rintro r3 G3 μ3 hle3 ⟨w3,rfl,hw3⟩
     repeat' (first|apply v_region|apply v_nil|apply v_blk|apply v_pure;(case hop=>first|apply p_move<;>rfl|apply p_add;(case hx|hy=>rfl);(case h=>omega)|fail);(case hd=>rfl)|fail)
     refine v_only [(wb,_),(cb,_)] (by repeat (exact PickA.here _)) ?_
     first
      | exact v_again rfl ⟨fun b o h=>hle3 b o (hle2 b o h),0+1,w3,by omega,rfl,rfl,by rw [e1,← List.append_assoc];exact hw3⟩ (by simp [headI])
      | exact v_again rfl ⟨fun b o h=>hle3 b o (hle2 b o h),1+1,w3,by omega,rfl,rfl,by rw [e1,← List.append_assoc];exact hw3⟩ (by simp [headI])
      | exact v_again rfl ⟨fun b o h=>hle3 b o (hle2 b o h),2+1,w3,by omega,rfl,rfl,by rw [e1,← List.append_assoc];exact hw3⟩ (by simp [headI])
      | exact v_again rfl ⟨fun b o h=>hle3 b o (hle2 b o h),3+1,w3,by omega,rfl,rfl,by rw [e1,← List.append_assoc];exact hw3⟩ (by simp [headI])
      | exact v_again rfl ⟨fun b o h=>hle3 b o (hle2 b o h),4+1,w3,by omega,rfl,rfl,by rw [e1,← List.append_assoc];exact hw3⟩ (by simp [headI])
      | exact v_again rfl ⟨fun b o h=>hle3 b o (hle2 b o h),5+1,w3,by omega,rfl,rfl,by rw [e1,← List.append_assoc];exact hw3⟩ (by simp [headI]))
   |(refine v_only [(wb,_),(cb,_)] (by repeat (first|exact PickA.last|apply PickA.cons)) ?_
     first
      | exact v_again rfl ⟨hle2,0+1,w,by omega,rfl,rfl,by rw [e1];exact hw⟩ (by simp [headI])
      | exact v_again rfl ⟨hle2,1+1,w,by omega,rfl,rfl,by rw [e1];exact hw⟩ (by simp [headI])
      | exact v_again rfl ⟨hle2,2+1,w,by omega,rfl,rfl,by rw [e1];exact hw⟩ (by simp [headI])
      | exact v_again rfl ⟨hle2,3+1,w,by omega,rfl,rfl,by rw [e1];exact hw⟩ (by simp [headI])
      | exact v_again rfl ⟨hle2,4+1,w,by omega,rfl,rfl,by rw [e1];exact hw⟩ (by simp [headI])
      | exact v_again rfl ⟨hle2,5+1,w,by omega,rfl,rfl,by rw [e1];exact hw⟩ (by simp [headI]))
 ·obtain rfl:k=6:=by omega
  repeat' (first|apply v_seq|apply v_region|apply v_nil|apply v_exit;(case hp=>rfl)|apply v_pure;(case hop=>(apply p_lt<;>rfl));(case hd=>rfl)|apply v_cond;(case hc=>rfl);all_goals (intro h;(try simp only [reduceCtorEq,zzz] at h);try (exfalso;omega))|fail)
  refine v_end [(wb,_)] (outsA0 rfl) (by repeat (first|exact List.nil_sublist _|apply List.Sublist.cons_cons)) ?_
  exact ⟨_,rfl,hw⟩
def putL (c:Cm) (k:Nat):List Int:=putW (wantB 1 c.kind) c k
theorem putL_len (c:Cm) (hk:c.key.size≤1000) (hv:c.val.size≤1000) (ho:c.old.size≤1000) (k:Nat):(putL c k).length≤1011*k:=putW_len _ c hk hv ho k
theorem cput_s {G:GH}{l:List Int}{sv:Value}(c:Cm) (hc:c.ok) (hk:c.key.size≤1000) (hv:c.val.size≤1000) (ho:c.old.size≤1000) (wb:Nat) (hs:Sl G 1 (IntR .u8) sv l) (hl:l.length≤1000) :
 Con Tryz.prog 135 #[.pointer (some ⟨wb,0,none⟩),.int .i64 1,.agg c.cells.toArray] G [(wb,.cells [sv].toArray 130 (0,0))]
  (fun r G' μ'=>∃ v',μ'=[(wb,.cells [v'].toArray 130 (0,0))]∧Sl G' 1 (IntR .u8) v' (l++vbytes c.kind++putL c 6)):=cputV_s 1 c hc hk hv ho wb hs (by omega)
def headL (x:Rc):List Int:=[]++vbytes x.kind++vbytes x.round++vbytes x.node++vbytes x.index
def encL (x:Rc):List Int:=if x.kind=2∨x.kind=3 then headL x++vbytes x.cmd.kind++putL x.cmd 6 else if x.kind=4 then headL x++vbytes x.image.length++x.image else headL x
theorem headL_len (x:Rc):(headL x).length≤44:=by
 unfold headL
 simp only [List.length_append,List.length_nil]
 have h1:=(vbytes_len x.kind).1
 have h2:=(vbytes_len x.round).1
 have h3:=(vbytes_len x.node).1
 have h4:=(vbytes_len x.index).1
 omega
def EncR (x:Rc) (r:Value) (G':GH) (μ':OH):Prop:=μ'=[]∧∃ v,r=.tuple [v,.int .i64 (olderI x)].toArray∧Sl G' 1 (IntR .u8) v (if olderI x=0 then encL x else [])
theorem encode_s {G:GH}(hT:TabsG G) {x:Rc}{xv:Value}(hx:RcV G x xv) (hc:x.cmd.ok) (hl:¬ x.large) (hw:x.small):Con Tryz.prog 97 #[xv] G [] (EncR x):=by
 have qo:=older_s hT hx hc
 have hhl:=headL_len x
 by_cases h0:olderI x=0
 rotate_left
 ·obtain ⟨iv,rfl,hi⟩:=hx
  unfold EncR
  rw [if_neg h0]
  generalize olderI x=o at *
  (refine v_enter Tryz.func97 rfl Tryz.ntmps97 rfl ?_;intro B _)
  repeat' (first|apply v_seq|apply v_region|apply v_nil|apply v_pure;(case hop=>first|apply p_move<;>rfl|apply p_ne<;>rfl|apply p_assign<;>rfl|fail);(case hd=>rfl)|apply v_cond;(case hc=>rfl);all_goals (intro h;(try simp only [reduceCtorEq,zzz] at h);try (exfalso;omega))|apply v_box (zs:=recL x.kind x.round x.node x.index x.cmd iv);(case hx|hz|hd=>rfl);intro rb|apply v_callJ (hs:=qo);(case ha|hd=>rfl)|apply v_read;(case hop=>(apply r_loadNo;(case hx=>rfl);(case h=>repeat exact mhd _);(case hd=>repeat first|with_reducible exact dt_nil|apply dt_here);(case hn=>rfl)));(case hd=>rfl)|fail)
  refine v_ret [] (outsA2 rfl rfl rfl) (by repeat (exact List.nil_sublist _)) ?_
  exact ⟨rfl,_,rfl,Sl.nil⟩
 rw [h0] at qo
 have hk:1≤x.kind∧x.kind≤4:=by
  by_cases h:x.kind<1∨4<x.kind
  ·have:recI x.kind x.round x.node x.index x.cmd x.image.length=5:=by rw [recI,if_pos h]
   rw [olderI,this] at h0
   simp at h0
  ·omega
 have qf:=fun G'=>rfields_s G' x.kind
 simp only [decide_eq_true hk] at qf
 unfold Rc.large at hl
 unfold EncR
 rw [if_pos h0,h0]
 obtain ⟨hw1,hw2,hw3,hw4⟩:=hw
 obtain ⟨iv,rfl,hi⟩:=hx
 have hiv:=hi
 obtain ⟨A,c,rfl,-⟩:=hi.openInt
 (refine v_enter Tryz.func97 rfl Tryz.ntmps97 rfl ?_;intro B _)
 repeat' (first|apply v_seq|apply v_region|apply v_nil|apply v_skip|apply v_pure;(case hop=>first|apply p_move<;>rfl|apply p_nes<;>rfl|apply p_assign<;>rfl|apply p_fieldAddrB<;>rfl|apply p_build;(case hz=>rfl);(case hv=>(simp only [List.map_cons,List.map_nil];repeat (with_reducible exact evs_nil)));(case hb=>(apply bldL;repeat (exact bld_nil)))|fail);(case hd=>rfl)|apply v_condF;(case hc=>rfl)|apply v_box (zs:=recL x.kind x.round x.node x.index x.cmd (.slice A x.image.length c));(case hx|hz|hd=>rfl);intro rb|apply v_box (zs:=[.slice none 0 0]);(case hx|hz|hd=>rfl);intro wb|apply v_callJ (hs:=qo);(case ha|hd=>rfl)|apply v_read;(case hop=>first|apply r_loadNo;(case hx=>rfl);(case h=>repeat exact mhd _);(case hd=>repeat first|with_reducible exact dt_nil|apply dt_here);(case hn=>rfl)|apply r_load1;rfl;(apply Cell.own;(case h=>repeat first|exact mhd _|apply mtl);rfl)|fail);(case hd=>rfl)|fail)
 refine v_call (μ1:=[(wb,_)]) (μ2:=_) rfl (wnumber_s wb x.kind Sl.nil (by simp) (by omega)) (List.Perm.refl _) rfl ?_
 rintro r1 G1 _ hle1 ⟨v1,rfl,h1⟩
 repeat' (first|apply v_seq|apply v_region|apply v_nil|apply v_pure;(case hop=>first|apply p_move<;>rfl|apply p_fieldAddrB<;>rfl|fail);(case hd=>rfl)|apply v_read;(case hop=>(apply r_load1;rfl;(apply Cell.own;(case h=>repeat first|exact mhd _|apply mtl);rfl)));(case hd=>rfl)|fail)
 refine v_call (μ1:=[(wb,_)]) (μ2:=_) rfl (wnumber_s wb x.round h1 (by have:=(vbytes_len x.kind).1;simp;omega) (by omega)) (List.Perm.refl _) rfl ?_
 rintro r2 G2 _ hle2 ⟨v2,rfl,h2⟩
 repeat' (first|apply v_seq|apply v_region|apply v_nil|apply v_pure;(case hop=>first|apply p_move<;>rfl|apply p_fieldAddrB<;>rfl|fail);(case hd=>rfl)|apply v_read;(case hop=>(apply r_load1;rfl;(apply Cell.own;(case h=>repeat first|exact mhd _|apply mtl);rfl)));(case hd=>rfl)|fail)
 refine v_call (μ1:=[(wb,_)]) (μ2:=_) rfl (wnumber_s wb x.node h2 (by have:=(vbytes_len x.kind).1;have:=(vbytes_len x.round).1;simp;omega) (by omega)) (List.Perm.refl _) rfl ?_
 rintro r3 G3 _ hle3 ⟨v3,rfl,h3⟩
 repeat' (first|apply v_seq|apply v_region|apply v_nil|apply v_pure;(case hop=>first|apply p_move<;>rfl|apply p_fieldAddrB<;>rfl|fail);(case hd=>rfl)|apply v_read;(case hop=>(apply r_load1;rfl;(apply Cell.own;(case h=>repeat first|exact mhd _|apply mtl);rfl)));(case hd=>rfl)|fail)
 refine v_call (μ1:=[(wb,_)]) (μ2:=_) rfl (wnumber_s wb x.index h3 (by have:=(vbytes_len x.kind).1;have:=(vbytes_len x.round).1;have:=(vbytes_len x.node).1;simp;omega) (by omega)) (List.Perm.refl _) rfl ?_
 rintro r4 G4 _ hle4 ⟨v4,rfl,h4⟩
 have hi4:=(((hiv.mono hle1).mono hle2).mono hle3).mono hle4
 have hh4:Sl G4 1 (IntR .u8) v4 (headL x):=h4
 clear h1 h2 h3 h4
 obtain h|h|h|h:x.kind=1∨x.kind=2∨x.kind=3∨x.kind=4:=by omega
 ·have e:hasL x.kind=hasL 1:=by rw [h]
  simp only [e] at qf
  have ee:encL x=headL x:=by rw [encL,if_neg (by omega),if_neg (by omega)]
  rw [ee]
  repeat' (first|apply v_seq|apply v_region|apply v_nil|apply v_skip|apply v_block|apply v_blk|apply v_pure;(case hop=>first|apply p_move<;>rfl|apply p_assign<;>rfl|apply p_fieldAddrB<;>rfl|apply p_extract0<;>rfl|apply p_extract1<;>rfl|fail);(case hd=>rfl)|apply v_condF;(case hc=>rfl)|apply v_callJ (hs:=qf _);(case ha|hd=>rfl)|apply v_read;(case hop=>(apply r_load1;rfl;(apply Cell.own;(case h=>repeat first|exact mhd _|apply mtl);rfl)));(case hd=>rfl)|apply v_alloc;(case hz|hd=>rfl);intro b|apply v_store;(case hp|hx|hc|hsz|h1=>rfl);(case hb=>repeat exact mhd _);(case hfit=>exact nle rfl);(case hov=>((repeat (first|with_reducible exact ov_nil|apply ov_cons));done));(case hu=>repeat (exact Upd.here _ _))|fail)
  refine v_call (μ2:=_) rfl (wbytes_s wb hh4 (by omega)) (PickA.perm (by repeat (first|exact PickA.here _|apply PickA.cons))) rfl ?_
  rintro r5 G5 _ hle5 ⟨rfl,h5⟩
  repeat' (first|apply v_nil|apply v_pure;(case hop=>(apply p_assign<;>rfl));(case hd=>rfl)|fail)
  refine v_ret [] (outsA2 rfl rfl rfl) (by repeat (exact List.nil_sublist _)) ?_
  exact ⟨rfl,_,rfl,h5⟩
 ·have e:hasL x.kind=hasL 2:=by rw [h]
  simp only [e] at qf
  have ee:encL x=headL x++vbytes x.cmd.kind++putL x.cmd 6:=by rw [encL,if_pos (by omega)]
  rw [ee]
  have hlen:(headL x++vbytes x.cmd.kind++putL x.cmd 6).length≤1048000:=by
   rw [List.length_append,List.length_append]
   have:=(vbytes_len x.cmd.kind).1
   have:=putL_len x.cmd (by omega) (by omega) (by omega) 6
   omega
  repeat' (first|apply v_seq|apply v_region|apply v_nil|apply v_block|apply v_pure;(case hop=>first|apply p_move<;>rfl|apply p_assign<;>rfl|apply p_fieldAddrB<;>rfl|apply p_extract0<;>rfl|apply p_extract1<;>rfl|fail);(case hd=>rfl)|apply v_condT;(case hc=>rfl)|apply v_callJ (hs:=qf _);(case ha|hd=>rfl)|apply v_read;(case hop=>first|apply r_loadNo;(case hx=>rfl);(case h=>repeat first|exact mhd _|apply mtl);(case hd=>repeat first|with_reducible exact dt_nil|apply dt_here);(case hn=>rfl)|apply r_load1;rfl;(apply Cell.own;(case h=>repeat first|exact mhd _|apply mtl);rfl)|fail);(case hd=>rfl)|apply v_alloc;(case hz|hd=>rfl);intro b|apply v_store;(case hp|hx|hc|hsz|h1=>rfl);(case hb=>repeat exact mhd _);(case hfit=>exact nle rfl);(case hov=>((repeat (first|with_reducible exact ov_nil|apply ov_cons));done));(case hu=>repeat (exact Upd.here _ _))|fail)
  refine v_call (μ1:=[(wb,_)]) (μ2:=_) rfl (cput_s x.cmd hc (by omega) (by omega) (by omega) wb hh4 (by omega)) (PickA.perm (by repeat (first|exact PickA.here _|apply PickA.cons))) rfl ?_
  rintro r5 G5 _ hle5 ⟨v5,rfl,h5⟩
  repeat' (first|apply v_seq|apply v_region|apply v_nil|apply v_blk|apply v_pure;(case hop=>(apply p_move<;>rfl));(case hd=>rfl)|fail)
  refine v_call (μ2:=_) rfl (wbytes_s wb h5 hlen) (PickA.perm (by repeat (exact PickA.here _))) rfl ?_
  rintro r6 G6 _ hle6 ⟨rfl,h6⟩
  repeat' (first|apply v_nil|apply v_pure;(case hop=>(apply p_assign<;>rfl));(case hd=>rfl)|fail)
  refine v_ret [] (outsA2 rfl rfl rfl) (by repeat (exact List.nil_sublist _)) ?_
  exact ⟨rfl,_,rfl,h6⟩
 ·have e:hasL x.kind=hasL 3:=by rw [h]
  simp only [e] at qf
  have ee:encL x=headL x++vbytes x.cmd.kind++putL x.cmd 6:=by rw [encL,if_pos (by omega)]
  rw [ee]
  have hlen:(headL x++vbytes x.cmd.kind++putL x.cmd 6).length≤1048000:=by
   rw [List.length_append,List.length_append]
   have:=(vbytes_len x.cmd.kind).1
   have:=putL_len x.cmd (by omega) (by omega) (by omega) 6
   omega
  repeat' (first|apply v_seq|apply v_region|apply v_nil|apply v_block|apply v_pure;(case hop=>first|apply p_move<;>rfl|apply p_assign<;>rfl|apply p_fieldAddrB<;>rfl|apply p_extract0<;>rfl|apply p_extract1<;>rfl|fail);(case hd=>rfl)|apply v_condT;(case hc=>rfl)|apply v_callJ (hs:=qf _);(case ha|hd=>rfl)|apply v_read;(case hop=>first|apply r_loadNo;(case hx=>rfl);(case h=>repeat first|exact mhd _|apply mtl);(case hd=>repeat first|with_reducible exact dt_nil|apply dt_here);(case hn=>rfl)|apply r_load1;rfl;(apply Cell.own;(case h=>repeat first|exact mhd _|apply mtl);rfl)|fail);(case hd=>rfl)|apply v_alloc;(case hz|hd=>rfl);intro b|apply v_store;(case hp|hx|hc|hsz|h1=>rfl);(case hb=>repeat exact mhd _);(case hfit=>exact nle rfl);(case hov=>((repeat (first|with_reducible exact ov_nil|apply ov_cons));done));(case hu=>repeat (exact Upd.here _ _))|fail)
  refine v_call (μ1:=[(wb,_)]) (μ2:=_) rfl (cput_s x.cmd hc (by omega) (by omega) (by omega) wb hh4 (by omega)) (PickA.perm (by repeat (first|exact PickA.here _|apply PickA.cons))) rfl ?_
  rintro r5 G5 _ hle5 ⟨v5,rfl,h5⟩
  repeat' (first|apply v_seq|apply v_region|apply v_nil|apply v_blk|apply v_pure;(case hop=>(apply p_move<;>rfl));(case hd=>rfl)|fail)
  refine v_call (μ2:=_) rfl (wbytes_s wb h5 hlen) (PickA.perm (by repeat (exact PickA.here _))) rfl ?_
  rintro r6 G6 _ hle6 ⟨rfl,h6⟩
  repeat' (first|apply v_nil|apply v_pure;(case hop=>(apply p_assign<;>rfl));(case hd=>rfl)|fail)
  refine v_ret [] (outsA2 rfl rfl rfl) (by repeat (exact List.nil_sublist _)) ?_
  exact ⟨rfl,_,rfl,h6⟩
 ·have e:hasL x.kind=hasL 4:=by rw [h]
  simp only [e] at qf
  have ee:encL x=headL x++vbytes x.image.length++x.image:=by rw [encL,if_neg (by omega),if_pos (by omega)]
  rw [ee]
  have hlen:(headL x++vbytes x.image.length++x.image).length≤1048000:=by
   rw [List.length_append,List.length_append]
   have:=(vbytes_len (x.image.length:Nat)).1
   omega
  repeat' (first|apply v_seq|apply v_region|apply v_nil|apply v_block|apply v_pure;(case hop=>first|apply p_move<;>rfl|apply p_assign<;>rfl|apply p_fieldAddrB<;>rfl|apply p_extract0<;>rfl|apply p_extract1<;>rfl|fail);(case hd=>rfl)|apply v_condT;(case hc=>rfl)|apply v_condF;(case hc=>rfl)|apply v_callJ (hs:=qf _);(case ha|hd=>rfl)|apply v_read;(case hop=>(apply r_load1;rfl;(apply Cell.own;(case h=>repeat first|exact mhd _|apply mtl);rfl)));(case hd=>rfl)|apply v_alloc;(case hz|hd=>rfl);intro b|apply v_store;(case hp|hx|hc|hsz|h1=>rfl);(case hb=>repeat exact mhd _);(case hfit=>exact nle rfl);(case hov=>((repeat (first|with_reducible exact ov_nil|apply ov_cons));done));(case hu=>repeat (exact Upd.here _ _))|fail)
  refine v_call (μ1:=[(wb,_)]) (μ2:=_) rfl (wraw_s wb hh4 hi4 (by omega) (by omega)) (PickA.perm (by repeat (first|exact PickA.here _|apply PickA.cons))) rfl ?_
  rintro r5 G5 _ hle5 ⟨v5,rfl,h5⟩
  repeat' (first|apply v_seq|apply v_region|apply v_nil|apply v_blk|apply v_pure;(case hop=>(apply p_move<;>rfl));(case hd=>rfl)|fail)
  refine v_call (μ2:=_) rfl (wbytes_s wb h5 hlen) (PickA.perm (by repeat (exact PickA.here _))) rfl ?_
  rintro r6 G6 _ hle6 ⟨rfl,h6⟩
  repeat' (first|apply v_nil|apply v_pure;(case hop=>(apply p_assign<;>rfl));(case hd=>rfl)|fail)
  refine v_ret [] (outsA2 rfl rfl rfl) (by repeat (exact List.nil_sublist _)) ?_
  exact ⟨rfl,_,rfl,h6⟩
section
attribute [local semireducible] PureOp
variable {P:Program}{ty:TypeId}{σ:Env}{t t' u:TypeId}
theorem p_byteR {x:Operand}{v:Nat}{k k'':IntKind} [Ty P t (.int k'')] [Ty P u (.int .u8)] (hx:Env.ev σ x=some (.int k (v:Nat))):PureOp P (.convert t u x) ty σ (.int .u8 ((v % 256:Nat):Int)):=by
 have h:=p_conv (P:=P) (ty:=ty) (t:=t) (u:=u) hx
 rw [IntKind.wrap_u8,show ((v:Nat):Int) % 256=((v % 256:Nat):Int) by omega] at h
 exact h
theorem ofNatR {x:Operand}{v:Nat}(hv:v<4294967296) (hx:Env.ev σ x=some (.int .u32 (v:Nat))):Env.ev σ x=some (rv (BitVec.ofNat 32 v)):=by
 rw [hx]
 show _=some (Value.int .u32 ((BitVec.ofNat 32 v).toNat:Int))
 rw [BitVec.toNat_ofNat,Nat.mod_eq_of_lt (show v<2 ^ 32 by omega)]
theorem p_shr32 {x y:Operand}{v n:Nat}{k:IntKind}(hv:v<4294967296) (hx:Env.ev σ x=some (.int .u32 (v:Nat))) (hy:Env.ev σ y=some (.int k (n:Nat))) (hn:n<32):PureOp P (.binOp .shr t x y t') ty σ (.int .u32 ((v / 2 ^ n:Nat):Int)):=by
 have h:=p_shrR (P:=P) (ty:=ty) (t:=t) (t':=t') (a:=BitVec.ofNat 32 v) (n:=n) (ofNatR hv hx) hy hn
 have e:(BitVec.ofNat 32 v >>> n).toNat=v / 2 ^ n:=by rw [BitVec.toNat_ushiftRight,Nat.shiftRight_eq_div_pow,BitVec.toNat_ofNat,Nat.mod_eq_of_lt (show v<2 ^ 32 by omega)]
 have e2:rv (BitVec.ofNat 32 v >>> n)=.int .u32 ((v / 2 ^ n:Nat):Int):=by
  show Value.int .u32 ((BitVec.ofNat 32 v >>> n).toNat:Int)=_
  rw [e]
 rw [e2] at h
 exact h
end
theorem fmay_s (G:GH) (n:Nat):Con Tryz.prog 99 #[.int .i64 (n:Nat)] G [] (Just (.int .i64 (if n=0 then 3 else if 65536<n then 2 else 0)) G):=by
 apply Con.just
 (refine v_enter Tryz.func99 rfl Tryz.ntmps99 rfl ?_;intro B _)
 repeat' (first|apply v_seq|apply v_region|apply v_nil|apply v_skip|apply v_block|apply v_blk|apply v_pure;(case hop=>first|apply p_move<;>rfl|apply p_gt<;>rfl|apply p_le<;>rfl|apply p_assign<;>rfl);(case hd=>rfl)|apply v_cond;(case hc=>rfl);all_goals (intro h;(try simp only [reduceCtorEq,zzz] at h))|fail)
 all_goals
  (refine v_ret [] (outsA1 rfl rfl) (by repeat (exact List.Sublist.refl _)) ?_
   refine ⟨?_,rfl⟩)
 ·rw [if_pos (by omega)]
 ·rw [if_neg (by omega),if_pos (by omega)]
 ·rw [if_neg (by omega),if_neg (by omega)]
theorem fsum_s {G:GH}(hC:CrcG G) {l:List Int}{sv:Value}(hs:Sl G 1 (IntR .u8) sv l):Con Tryz.prog 102 #[sv] G [] (fun r G' μ'=>G'=G∧Grow 5 1 r (sumB l).length ((sumB l).map (.int .u8 ·)) μ'):=by
 have q:=csum_s hC hs
 have hv:=crcN_lt l
 generalize hc:crcN l=v at *
 have hS:sumB l=[((v % 256:Nat):Int),((v / 2 ^ 8 % 256:Nat):Int),((v / 2 ^ 16 % 256:Nat):Int),((v / 2 ^ 24 % 256:Nat):Int)]:=by
  unfold sumB
  rw [hc]
 (refine v_enter Tryz.func102 rfl Tryz.ntmps102 rfl ?_;intro B _)
 repeat' (first|apply v_pure;(case hop=>(apply p_byteR;(case hx=>rfl)));(case hd=>rfl)|apply v_pure;(case hop=>(apply p_shr32 (n:=8);(case hv=>exact hv);(case hx|hy=>rfl);(case hn=>omega)));(case hd=>rfl)|apply v_pure;(case hop=>(apply p_shr32 (n:=16);(case hv=>exact hv);(case hx|hy=>rfl);(case hn=>omega)));(case hd=>rfl)|apply v_pure;(case hop=>(apply p_shr32 (n:=24);(case hv=>exact hv);(case hx|hy=>rfl);(case hn=>omega)));(case hd=>rfl)|apply v_seq|apply v_region|apply v_nil|apply v_pure;(case hop=>first|apply p_move<;>rfl|apply p_assign<;>rfl|fail);(case hd=>rfl)|apply v_callJ (hs:=q);(case ha|hd=>rfl)|apply v_buildSlice;(case hz|hi=>rfl);(case hv=>(simp only [List.map_cons,List.map_nil];repeat (first|with_reducible exact evs_nil|apply evs_cons;(case h1=>rfl))));(case hp=>(apply pk_cons;(case hc|hs=>rfl);(case h=>(apply pk_cons;(case hc|hs=>rfl);(case h=>(apply pk_cons;(case hc|hs=>rfl);(case h=>(apply pk_cons;(case hc|hs=>rfl);(case h=>(with_reducible exact pk_nil));(case he=>((repeat (first|with_reducible exact ap_nil|apply ap_cons));done))));(case he=>((repeat (first|with_reducible exact ap_nil|apply ap_cons));done))));(case he=>((repeat (first|with_reducible exact ap_nil|apply ap_cons));done))));(case he=>((repeat (first|with_reducible exact ap_nil|apply ap_cons));done))));(case hb|hd=>rfl);intro b|fail)
 refine v_ret [(b,_)] (outsA1 rfl rfl) (by repeat (exact List.Sublist.refl _)) ?_
 refine ⟨rfl,?_⟩
 rw [hS]
 exact Grow.lit rfl (by simp only [maxLen];omega)
end Go.Proofs.YtpemabgfmnhhnaaGreatDoor
/-
  A file that is cut off anywhere, in plain Lean.
-/
namespace Go.Proofs.YtpemabgfmnhhnaaGreatDoor
theorem vbytes_byte {n:Int}(h:n≤9223372036854775807):byteL (vbytes n):=fun x hx=>by
 have:=vbytes_wf h x hx
 simp [Lit.wf,IntKind.min,IntKind.max,IntKind.signed,IntKind.bits] at this
 omega
theorem frB_byte {b:List Int}(h:byteL b) (hl:okF b):byteL (frB b) :=
 ((vbytes_byte (by have:=hl.2;omega)).app h).app (sumB_wf b)
section
variable {α:Type}(enc:α→List Int) (dec:List Int→Option α)
def flatF (xs:List α):List Int:=(xs.map (fun x=>frB (enc x))).flatten
theorem flatF_cons (x:α) (xs:List α):flatF enc (x::xs)=frB (enc x)++flatF enc xs:=rfl
theorem flatF_nil:flatF enc []=[]:=rfl
theorem flatF_app (xs ys:List α):flatF enc (xs++ys)=flatF enc xs++flatF enc ys:=by simp [flatF]
theorem flatF_len_take (xs:List α) (i:Nat):(flatF enc (xs.take i)).length≤(flatF enc xs).length:=by
 have:=flatF_app enc (xs.take i) (xs.drop i)
 rw [List.take_append_drop] at this
 rw [this,List.length_append]
 omega
theorem flatF_many (xs:List α):5*xs.length≤(flatF enc xs).length:=by
 induction xs with
 | nil=>simp [flatF]
 | cons x xs ih =>
  rw [flatF_cons,List.length_append,List.length_cons]
  have:=frB_pos (enc x)
  omega
def wholeN:List α→Nat→Nat
 | [],_=>0
 | x::xs,m=>if (frB (enc x)).length≤m then wholeN xs (m-(frB (enc x)).length)+1 else 0
theorem wholeN_le:∀ (xs:List α) (m:Nat),wholeN enc xs m≤xs.length
 | [],m=>Nat.le_refl 0
 | x::xs,m=>by
  unfold wholeN
  split
  ·have:=wholeN_le xs (m-(frB (enc x)).length)
   rw [List.length_cons];omega
  ·omega
theorem wholeN_fits:∀ (xs:List α) (m:Nat),(flatF enc (xs.take (wholeN enc xs m))).length≤m
 | [],m=>by simp [flatF]
 | x::xs,m=>by
  unfold wholeN
  split
  ·have:=wholeN_fits xs (m-(frB (enc x)).length)
   rw [List.take_succ_cons,flatF_cons,List.length_append];omega
  ·simp [flatF]
theorem wholeN_most:∀ (xs:List α) (m i:Nat),i≤xs.length→(flatF enc (xs.take i)).length≤m→i≤wholeN enc xs m
 | [],m,i,h,_=>by
  have:i=0:=by simpa using h
  omega
 | x::xs,m,0,_,_=>Nat.zero_le _
 | x::xs,m,i+1,h,h2=>by
  rw [List.take_succ_cons,flatF_cons,List.length_append] at h2
  unfold wholeN
  rw [if_pos (by omega)]
  have:=wholeN_most xs (m-(frB (enc x)).length) i (by simpa using h) (by omega)
  omega
def okC (x:α):Prop:=okF (enc x)∧dec (enc x)=some x∧byteL (enc x)
theorem flatF_byte {xs:List α}(h:∀ x∈xs,okC enc dec x):byteL (flatF enc xs):=by
 induction xs with
 | nil=>intro y hy;simp [flatF] at hy
 | cons x xs ih =>
  rw [flatF_cons]
  have:=h x (List.mem_cons_self)
  exact (frB_byte this.2.2 this.1).app (ih fun y hy=>h y (List.mem_cons_of_mem _ hy))
theorem cut_recs:∀ (xs:List α) (m f:Nat),(∀ x∈xs,okC enc dec x)→xs.length≤f→m≤(flatF enc xs).length →
 recsF dec f ((flatF enc xs).take m)=(xs.take (wholeN enc xs m),((flatF enc xs).take m).drop (flatF enc (xs.take (wholeN enc xs m))).length)
 | [],m,f,h,hf,hm=>by
  rw [flatF_nil,List.take_nil,recsF_none dec nextF_nil]
  simp
 | x::xs,m,0,h,hf,hm=>by simp at hf
 | x::xs,m,f+1,h,hf,hm=>by
  have hx:=h x (List.mem_cons_self)
  have hb:=flatF_byte enc dec h
  rw [flatF_cons] at hb hm ⊢
  unfold wholeN
  by_cases hc:(frB (enc x)).length≤m
  ·rw [if_pos hc]
   have e:(frB (enc x)++flatF enc xs).take m=frB (enc x)++(flatF enc xs).take (m-(frB (enc x)).length):=by
    rw [List.take_append,List.take_of_length_le hc]
   rw [e,recsF_some dec (nextF_fr _ hx.1) hx.2.1,cut_recs xs (m-(frB (enc x)).length) f (fun y hy=>h y (List.mem_cons_of_mem _ hy)) (by simpa using hf) (by rw [List.length_append] at hm;omega)]
   rw [List.take_succ_cons,flatF_cons,List.length_append,← List.drop_drop,List.drop_left]
  ·rw [if_neg hc,recsF_none dec (nextF_cut hx.1 hb (by omega))]
   simp [flatF]
theorem cut_recs' {xs:List α}{m f:Nat}(h:∀ x∈xs,okC enc dec x) (hm:m≤(flatF enc xs).length) (hf:m≤f) :
 recsF dec f ((flatF enc xs).take m)=(xs.take (wholeN enc xs m),((flatF enc xs).take m).drop (flatF enc (xs.take (wholeN enc xs m))).length):=by
 have hb:byteL ((flatF enc xs).take m):=(flatF_byte enc dec h).take m
 have hl:((flatF enc xs).take m).length≤m:=by rw [List.length_take];omega
 rw [recsF_fuel dec f (m+xs.length) _ hb (by omega) (by omega)]
 exact cut_recs enc dec xs m (m+xs.length) h (by omega) hm
end
end Go.Proofs.YtpemabgfmnhhnaaGreatDoor
/-
  VX: copy, append of zeros, slices.overlaps.
-/
namespace Go.Vx
attribute [local semireducible] Vc MoveOp PureOp ReadOp DVc Con
open Go Go.Lib
section
variable {P:Program}{fn:Func}{n:Nat}{B:Base}{Φ:Value→GH→OH→Prop}{k:List It}{rest:List Oper}{all:Array Oper}{σ:Env}{G:GH}{μ:OH}{d:Nat}{t ty:TypeId}{pos:String}{af:Array Edge}{bytes:Nat}{zero:Value}
theorem m_copy {e:TypeId}{agg:Bool}{sz:Nat}{y x:Operand}{b o m c m' q:Nat}{u:Value}{vs us vs':List Value}{μ':OH} [Ty P t (.slice e)] [Lay P e agg sz bytes zero] (hy:Env.ev σ y=some (.slice (some ⟨b,o,none⟩) m c)) (hx:Env.ev σ x=some u) (hq:Nat.min m' m=q) (hm:0<m') (hsrc:Src G μ u m' sz us)
 (hb:Has μ b vs e) (h1:(us.take (q*sz)).all Value.oneCell'=true) (hfit:o+q*sz≤vs.length) (hov:over vs o (us.take (q*sz))=vs') (hu:Upd b (.cells vs'.toArray e (0,0)) μ μ') :
 MoveOp P (.call { callee:=.builtin .copy,args:=#[y,x],argTypes:=#[t,t] }) ty σ G μ (fun v' G' μ''=>v'=.int .i64 q∧G'=G∧μ''=μ'):=by
 intro dst pos af g ρ hρ w hw a K Q hK
 obtain ⟨i,hi,hi1,hi2,hi3⟩:=Lay.infoEx (P:=P) (t:=e) (agg:=agg) (size:=sz) (bytes:=bytes) (zero:=zero) inferInstance
 have ht:P.underlying t=some (.slice e):=Ty.h
 obtain ⟨hus,A,c',rfl,hA⟩:=hsrc
 obtain ⟨ad,rfl,hcs⟩:=hA hm
 have hqm:q≤m':=by rw [← hq];exact Nat.min_le_left _ _
 have hlen:(us.take (q*sz)).length=q*sz:=by
  rw [List.length_take,hus]
  exact Nat.min_eq_left (Nat.mul_le_mul_right _ hqm)
 have hl:=run_firstCells_some (P:=P) w i.size q ad m' c' (us.take (q*sz)) (by rw [hlen,hi1]) (fun j v hv=>by
  rw [List.getElem?_take] at hv
  split at hv
  ·exact hcs j v hv w hw.sees
  ·cases hv)
 have hst:=run_storeCells_at P b o e (us.take (q*sz)) 0 vs.toArray w (hw.own b _ hb) (by simp only [Nat.add_zero,List.size_toArray,hlen];exact hfit) (fun v hv=>List.all_eq_true.1 h1 v hv)
 simp only [Nat.add_zero] at hst
 have hov':(vs.toArray.toList.take o++us.take (q*sz)++vs.toArray.toList.drop (o+(us.take (q*sz)).length))=vs':=by rw [← hov];rfl
 rw [hov'] at hst
 have hr:(Builtin.copy_ #[t,t] ty #[.slice (some ⟨b,o,none⟩) m c,.slice (some ad) m' c']).run P w=.ok (.int .i64 q) (w.setRow b vs'.toArray):=by
  simp [Builtin.copy_,run_underlying ht,Builtin.lenOf,sizeOf,typeInfo,hi,hq,hl,hst,goInt]
 have hex:(execOp ρ ⟨dst,.call { callee:=.builtin .copy,args:=#[y,x],argTypes:=#[t,t] },ty,pos,af,g⟩).run P w=.ok (.value (.int .i64 q)) (w.setRow b vs'.toArray):=by
  simp only [execOp,resolve,invoke,builtin,Sem.run_bind,Sem.run_pure,Result.andThen_ok,List.map_toArray,List.map_cons,List.map_nil,hρ _ _ hy,hρ _ _ hx,hr]
 rw [hex]
 exact hK _ _ G _ (Step.row hw hb hu) ⟨rfl,rfl,rfl⟩
theorem v_copy {e:TypeId}{agg:Bool}{sz:Nat}{y x:Operand}{b o m c m' q:Nat}{u:Value}{vs us vs':List Value}{μ':OH} [Ty P t (.slice e)] [Lay P e agg sz bytes zero] (hy:Env.ev σ y=some (.slice (some ⟨b,o,none⟩) m c)) (hx:Env.ev σ x=some u) (hq:Nat.min m' m=q) (hm:0<m') (hsrc:Src G μ u m' sz us)
 (hb:Has μ b vs e) (h1:(us.take (q*sz)).all Value.oneCell'=true) (hfit:o+q*sz≤vs.length) (hov:over vs o (us.take (q*sz))=vs') (hu:Upd b (.cells vs'.toArray e (0,0)) μ μ') (hd:Nat.blt d n=true)
 (h:Vc P fn n B Φ (.ops all rest::k) ((d,.int .i64 q)::σ) G μ'):Vc P fn n B Φ (.ops all (⟨some d,.call { callee:=.builtin .copy,args:=#[y,x],argTypes:=#[t,t] },ty,pos,af,none⟩::rest)::k) σ G μ :=
 v_move (m_copy hy hx hq hm hsrc hb h1 hfit hov hu) hd fun _ _ _ ⟨h1,h2,h3⟩=>by rw [h1,h2,h3];exact h
theorem Src.ownAt {e:TypeId}{b o m sz c:Nat}{vs us:List Value}(h:Has μ b vs e) (hus:(vs.drop o).take (m*sz)=us) (hl:us.length=m*sz):Src G μ (.slice (some ⟨b,o,none⟩) m c) m sz us:=⟨hl,_,_,rfl,fun _=>⟨_,rfl,by rw [← hus];exact CellsAt.ownAt h⟩⟩
theorem m_appendZ {e:TypeId}{agg:Bool}{sz:Nat}{s x:Operand}{A:Option Addr}{m c q:Nat}{xs:List Value}{tn:TypeId} [Ty P t (.slice e)] [Ty P tn (.int .i64)] [Lay P e agg sz bytes zero] (hzs:zero.cells.size=sz) (hsz:0<sz) (hs:Env.ev σ s=some (.slice A m c)) {z:Int}(hx:Env.ev σ x=some (.int .i64 z)) (hz:z=(q:Nat)) (hsrc:Src G μ (.slice A m c) m sz xs) (hq:0<q) (hroom:c<m+q)
 (hb:(m+q)*bytes≤140737488355328) (hb':m+q≤maxLen) :
 MoveOp P (.call { callee:=.builtin .append,args:=#[s,x],argTypes:=#[t,tn] }) ty σ G μ (fun v' G' μ'=>∃ b c' spare,v'=.slice (some ⟨b,0,none⟩) (m+q) c'∧m+q≤c'∧c'≤maxLen∧(xs++(Builtin.zeroCells zero.cells q).toList++spare).length=c'*sz∧G'=G∧μ'=(b,.cells (xs++(Builtin.zeroCells zero.cells q).toList++spare).toArray e (0,0))::μ):=by
 subst hz
 intro dst pos af g ρ hρ w hw a K Q hK
 obtain ⟨i,hi,hi1,hi2,hi3⟩:=Lay.infoEx (P:=P) (t:=e) (agg:=agg) (size:=sz) (bytes:=bytes) (zero:=zero) inferInstance
 have ht:P.underlying t=some (.slice e):=Ty.h
 have htn:P.underlying tn=some (.int .i64):=Ty.h
 obtain ⟨hus,A',c',he,hA⟩:=hsrc
 cases he
 have hold:(Builtin.firstCells i.size m (.slice A m c)).run P w.drew=.ok xs.toArray w.drew:=by
  by_cases hm:0<m
  ·obtain ⟨ad,rfl,hcs⟩:=hA hm
   exact run_firstCells_some (P:=P) w.drew i.size m ad m c xs (by rw [hus,hi1]) (fun j v hv=>hcs j v hv w hw.sees)
  ·obtain rfl:m=0:=by omega
   have hx0:xs=[]:=List.eq_nil_of_length_eq_zero (by simpa using hus)
   subst hx0
   cases A<;>simp [Builtin.firstCells,loadCells,loadCellsFrom]
 have hr:=run_append_grow_zeros (P:=P) w t tn ty e i zero .i64 .i64 ht htn hi hi3 A m c xs hold q hq (by omega) hroom (by simp only [maxLen] at hb';omega)
  (by rw [hi2];have:=Nat.mul_le_mul_right bytes (show q≤m+q by omega);omega) (growslice_fits (by omega) (by rw [hi2];exact hb))
 have hex:(execOp ρ ⟨dst,.call { callee:=.builtin .append,args:=#[s,x],argTypes:=#[t,tn] },ty,pos,af,g⟩).run P w=.ok (.value (.slice (some ⟨w.heap.size,0,none⟩) (m+q) (grownCap w (m+q) c e)))
  (w.drew.alloc (.cells (xs.toArray++Builtin.zeroCells zero.cells q++Builtin.zeroCells zero.cells (grownCap w (m+q) c e-(m+q))) e)):=by
  simp only [execOp,resolve,invoke,builtin,Sem.run_bind,Sem.run_pure,Result.andThen_ok,List.map_toArray,List.map_cons,List.map_nil,hρ _ _ hs,hρ _ _ hx,hr]
 rw [hex]
 have hge:=grownCap_ge w (m+q) c e
 have hst:=(Step.drew hw 1).trans (Step.alloc (Step.drew hw 1).mem (.cells (xs.toArray++Builtin.zeroCells zero.cells q++Builtin.zeroCells zero.cells (grownCap w (m+q) c e-(m+q))) e (0,0)))
 refine hK _ _ G _ hst ⟨w.heap.size,grownCap w (m+q) c e,(Builtin.zeroCells zero.cells (grownCap w (m+q) c e-(m+q))).toList,rfl,hge,grownCap_le_maxLen w (m+q) c e hb',?_,rfl,?_⟩
 ·simp only [List.length_append,Array.length_toList,size_zeroCells,hzs,hus,← Nat.add_mul]
  congr 1
  omega
 ·simp [World.drewN]
theorem v_appendZ {e:TypeId}{agg:Bool}{sz:Nat}{s x:Operand}{A:Option Addr}{m c q:Nat}{xs:List Value}{tn:TypeId} [Ty P t (.slice e)] [Ty P tn (.int .i64)] [Lay P e agg sz bytes zero] (hzs:zero.cells.size=sz) (hsz:0<sz) (hs:Env.ev σ s=some (.slice A m c)) {z:Int}(hx:Env.ev σ x=some (.int .i64 z)) (hz:z=(q:Nat)) (hsrc:Src G μ (.slice A m c) m sz xs) (hq:0<q) (hroom:c<m+q)
 (hb:(m+q)*bytes≤140737488355328) (hb':m+q≤maxLen) (hd:Nat.blt d n=true)
 (h:∀ b c' spare,m+q≤c'→c'≤maxLen→(xs++(Builtin.zeroCells zero.cells q).toList++spare).length=c'*sz→Vc P fn n B Φ (.ops all rest::k) ((d,.slice (some ⟨b,0,none⟩) (m+q) c')::σ) G ((b,.cells (xs++(Builtin.zeroCells zero.cells q).toList++spare).toArray e (0,0))::μ)) :
 Vc P fn n B Φ (.ops all (⟨some d,.call { callee:=.builtin .append,args:=#[s,x],argTypes:=#[t,tn] },ty,pos,af,none⟩::rest)::k) σ G μ :=
 v_move (m_appendZ hzs hsz hs hx hz hsrc hq hroom hb hb') hd fun _ _ _ ⟨b,c',sp,h1,h2,h3,h4,h5,h6⟩=>by rw [h1,h5,h6];exact h b c' sp h2 h3 h4
class Overl (P:Program) (f:FuncId) (e:outParam TypeId) (tR:outParam TypeId):Prop where
 h:∃ ts,P.underlying ts=some (.slice e)∧∀ args w,(callFunc f args).run P w=((Extern.SlicesOverlaps.overlaps #[ts,ts] #[tR] args).run P w).andThen fun v w'=>.ok (.value v) w'
theorem m_apart {f:FuncId}{e tR:TypeId}[ho:Overl P f e tR] {agg:Bool}{sz:Nat} [Lay P e agg sz bytes zero] {x y:Operand}{ts:Array TypeId}{b1 o1 m1 c1 b2 o2 m2 c2:Nat}{vs1 vs2:List Value}{e1 e2:TypeId}(hx:Env.ev σ x=some (.slice (some ⟨b1,o1,none⟩) m1 c1)) (hy:Env.ev σ y=some (.slice (some ⟨b2,o2,none⟩) m2 c2))
 (h1:Has μ b1 vs1 e1) (h2:Has μ b2 vs2 e2) (hne:b1≠b2) (h0:vs2≠[]) :
 MoveOp P (.call { callee:=.value (.func f),args:=#[x,y],argTypes:=ts }) ty σ G μ (fun v' G' μ'=>v'=.bool false∧G'=G∧μ'=μ):=by
 intro dst pos af g ρ hρ w hw a K Q hK
 obtain ⟨T,hT,hc⟩:=ho.h
 have w1:=hw.own _ _ h1
 have w2:=hw.own _ _ h2
 have hr:=run_overlaps_apart (P:=P) w T tR e hT sz (fun w=>run_sizeOf (P:=P) (t:=e) (agg:=agg) (size:=sz) (bytes:=bytes) (zero:=zero) w) ⟨b1,o1,none⟩ ⟨b2,o2,none⟩ m1 c1 m2 c2 hne e1 e2 vs1.length vs2.length
  (by simp [World.shape?,w1]) (by simp [World.shape?,w2]) (by simpa using h0) (by simp [World.frozen?,w1]) (by simp [World.frozen?,w1])
 have hf:ρ (.func f)=.func (.func f) #[] #[]:=hρ _ _ rfl
 have hex:(execOp ρ ⟨dst,.call { callee:=.value (.func f),args:=#[x,y],argTypes:=ts },ty,pos,af,g⟩).run P w=.ok (.value (.bool false)) w:=by
  simp [execOp,resolve,hf,Deferred.ofValue,invoke,hρ _ _ hx,hρ _ _ hy,hc,hr]
 rw [hex]
 exact hK _ _ G μ (Step.refl hw) ⟨rfl,rfl,rfl⟩
theorem v_ne {is:List It}{b b':Nat}{o:Obj}{r:OH}(hm:b'∈r.map (·.1)) (h:b'≠b→Vc P fn n B Φ is σ G ((b,o)::r)):Vc P fn n B Φ is σ G ((b,o)::r):=by
 intro w hw a ha
 refine h (fun e=>?_) w hw a ha
 have:=hw.mem.nodup
 rw [List.map_cons,List.nodup_cons] at this
 exact this.1 (e ▸ hm)
theorem v_apart {f:FuncId}{e tR:TypeId}[ho:Overl P f e tR] {agg:Bool}{sz:Nat} [Lay P e agg sz bytes zero] {x y:Operand}{ts:Array TypeId}{b1 o1 m1 c1 b2 o2 m2 c2:Nat}{vs1 vs2:List Value}{e1 e2:TypeId}(hx:Env.ev σ x=some (.slice (some ⟨b1,o1,none⟩) m1 c1)) (hy:Env.ev σ y=some (.slice (some ⟨b2,o2,none⟩) m2 c2))
 (h1:Has μ b1 vs1 e1) (h2:Has μ b2 vs2 e2) (hne:b1≠b2) (h0:vs2≠[]) (hd:Nat.blt d n=true)
 (h:Vc P fn n B Φ (.ops all rest::k) ((d,.bool false)::σ) G μ):Vc P fn n B Φ (.ops all (⟨some d,.call { callee:=.value (.func f),args:=#[x,y],argTypes:=ts },ty,pos,af,none⟩::rest)::k) σ G μ :=
 v_move (m_apart (sz:=sz) (agg:=agg) (bytes:=bytes) (zero:=zero) hx hy h1 h2 hne h0) hd fun _ _ _ ⟨h1,h2,h3⟩=>by rw [h1,h2,h3];exact h
theorem d_copy {ν μ':OH}{G0:GH}{m0:Nat}{listed:Array Bool}(i:Nat) {e:TypeId}{agg:Bool}{sz:Nat}{y x:Operand}{b o m c m' q:Nat}{u:Value}{vs us vs':List Value}(hi:all[i]? = some ⟨some d,.call { callee:=.builtin .copy,args:=#[y,x],argTypes:=#[t,t] },ty,pos,af,none⟩) (hT:Ty P t (.slice e)) (hL:Lay P e agg sz bytes zero) (hr:Region.ready .any all listed=[i])
 (hy:Env.ev σ y=some (.slice (some ⟨b,o,none⟩) m c)) (hx:Env.ev σ x=some u) (hq:Nat.min m' m=q) (hm:0<m') (hsrc:Src G μ u m' sz us)
 (hb:Has μ b vs e) (h1:(us.take (q*sz)).all Value.oneCell'=true) (hfit:o+q*sz≤vs.length) (hov:over vs o (us.take (q*sz))=vs') (hu:Upd b (.cells vs'.toArray e (0,0)) μ μ') (hd:Nat.blt d n=true) (hν':∀ e∈ν,e∈μ')
 (h:DVc P fn n B Φ all G0 ν m0 (listed.setIfInBounds i true) k ((d,.int .i64 q)::σ) G μ'):DVc P fn n B Φ all G0 ν (m0+1) listed k σ G μ :=
 d_exec i hi hr (m_copy hy hx hq hm hsrc hb h1 hfit hov hu) hd fun _ _ _ ⟨h1,h2,h3⟩=>by rw [h1,h2,h3];exact ⟨hν',h⟩
end
end Go.Vx
/-
  slices.Grow of bytes that are none, slices.Concat of two and of three lists of bytes.
-/
namespace Go.Proofs.YtpemabgfmnhhnaaGreatDoor
open Go.Vx Go.ChangeShapes Go.WideShapes Go.ChangeAt Go.RowKit
theorem bgrow0_s {G:GH}{n:Nat}(hn:n≤1048576):Con Tryz.prog 142 #[.slice none 0 0,.int .i64 (n:Nat)] G [] (fun r G' μ'=>G'=G∧Grow 5 1 r 0 [] μ'):=by
 (refine v_enter Tryz.func142 rfl Tryz.ntmps142 rfl ?_;intro B _)
 repeat' (first|apply v_seq|apply v_region|apply v_nil|apply v_skip|apply v_pure;(case hop=>first|apply p_move<;>rfl|apply p_lt<;>rfl|apply p_gt<;>rfl|apply p_assign<;>rfl|apply p_lenSlice<;>rfl|apply p_sub;(case hx|hy=>rfl);(case h=>omega)|apply p_capSlice<;>rfl|apply p_sliceH;(case hx|hh=>rfl);all_goals omega|fail);(case hd=>rfl)|apply v_cond;(case hc=>rfl);all_goals (intro h;(try simp only [reduceCtorEq,zzz] at h);try (exfalso;omega))|fail)
 ·refine v_appendZ (e:=5) (agg:=false) (sz:=1) (bytes:=1) (zero:=.int .u8 0) (q:=n) (m:=0) (xs:=[]) rfl (by omega) rfl rfl (by omega) (Src.ints (k:=.u8) (l:=[]) Sl.nil) (by omega) (by omega) (by omega) (by simp only [maxLen];omega) rfl fun b3 c3 sp3 hd1 hd2 hd3=>?_
  simp only [maxLen] at hd2
  repeat' (first|apply v_seq|apply v_region|apply v_nil|apply v_pure;(case hop=>first|apply p_move<;>rfl|apply p_assign<;>rfl|apply p_lenSlice<;>rfl|apply p_sliceH;(case hx|hh=>rfl);all_goals omega|fail);(case hd=>rfl)|fail)
  refine v_ret [(b3,_)] (outsA1 rfl rfl) (by repeat (exact List.Sublist.refl _)) ?_
  exact ⟨rfl,by simp,.inr ⟨b3,c3,(Builtin.zeroCells (Value.int IntKind.u8 0).cells n).toList++sp3,rfl,rfl,by omega,by simp only [maxLen];omega,hd3⟩⟩
 ·refine v_ret [] (outsA1 rfl rfl) (by repeat (exact List.Sublist.refl _)) ?_
  exact ⟨rfl,Grow.nil _ _⟩
def pre2 (a d:List Int) (k:Nat):List Int:=if k=0 then [] else if k=1 then a else a++d
theorem concat2_s {G:GH}{a d:List Int}{av dv:Value}{sb:Nat}(ha:Sl G 1 (IntR .u8) av a) (hd:Sl G 1 (IntR .u8) dv d) (hl:a.length+d.length≤1000000) :
 Con Tryz.prog 100 #[.slice (some ⟨sb,0,none⟩) 2 2] G [(sb,.cells [av,dv].toArray 24 (0,0))] (fun r G' μ'=>G'=G∧∃ ν,Grow 5 1 r (a++d).length ((a++d).map (.int .u8 ·)) ν∧μ'=ν++[(sb,.cells [av,dv].toArray 24 (0,0))]):=by
 have qg:=bgrow0_s (G:=G) (n:=a.length+d.length) (by omega)
 obtain ⟨A1,c1,rfl,hlc1,hcm1,-,-,-⟩:=id ha.openInt
 obtain ⟨A2,c2,rfl,hlc2,hcm2,-,-,-⟩:=id hd.openInt
 simp only [maxLen] at hcm1 hcm2
 have hsa:=fun μ=>Src.ints (μ:=μ) ha
 have hsd:=fun μ=>Src.ints (μ:=μ) hd
 (refine v_enter Tryz.func100 rfl Tryz.ntmps100 rfl ?_;intro B _)
 repeat' (first|apply v_seq|apply v_region|apply v_nil|apply v_block|apply v_pure;(case hop=>first|apply p_move<;>rfl|apply p_assign<;>rfl|apply p_lenSlice<;>rfl|fail);(case hd=>rfl)|fail)
 refine v_loop [11,3,9,10,0] (fun us G' μ'=>G'=G∧∃ k:Nat,k≤2∧us=[Value.int .i64 (k:Nat),.int .i64 ((pre2 a d k).length:Nat),.slice (some ⟨sb,0,none⟩) 2 2,.int .i64 (2:Nat),.slice (some ⟨sb,0,none⟩) 2 2]∧μ'=[(sb,.cells [Value.slice A1 a.length c1,Value.slice A2 d.length c2].toArray 24 (0,0))]) (fun us=>2-(headI us).toNat) rfl ⟨rfl,0,by omega,rfl,rfl⟩ ?_
 rintro us G' _ ⟨hG',k,hk,rfl,rfl⟩
 subst G'
 obtain rfl|rfl|rfl:k=0∨k=1∨k=2:=by omega
 ·have e0:(pre2 a d 0).length=0:=rfl
  rw [e0]
  repeat' (first|apply v_seq|apply v_region|apply v_nil|apply v_skip|apply v_block|apply v_blk|apply v_pure;(case hop=>first|apply p_move<;>rfl|apply p_lt<;>rfl|apply p_assign<;>rfl|apply p_lenSlice<;>rfl|apply p_add;(case hx|hy=>rfl);(case h=>omega)|apply p_indexAddr;(case hx|hi=>rfl);(case h0|h=>omega)|fail);(case hd=>rfl)|apply v_cond;(case hc=>rfl);all_goals (intro h;(try simp only [reduceCtorEq,zzz] at h);try (exfalso;omega))|apply v_read;(case hop=>(apply r_load1;rfl;(apply Cell.own;(case h=>repeat exact mhd _);rfl)));(case hd=>rfl)|fail)
  refine v_again rfl ⟨rfl,1,by omega,?_,rfl⟩ (by simp [headI])
  simp [pre2]
 ·have e0:(pre2 a d 1).length=a.length:=rfl
  rw [e0]
  repeat' (first|apply v_seq|apply v_region|apply v_nil|apply v_skip|apply v_block|apply v_blk|apply v_pure;(case hop=>first|apply p_move<;>rfl|apply p_lt<;>rfl|apply p_assign<;>rfl|apply p_lenSlice<;>rfl|apply p_add;(case hx|hy=>rfl);(case h=>omega)|apply p_indexAddr;(case hx|hi=>rfl);(case h0|h=>omega)|fail);(case hd=>rfl)|apply v_cond;(case hc=>rfl);all_goals (intro h;(try simp only [reduceCtorEq,zzz] at h);try (exfalso;omega))|apply v_read;(case hop=>(apply r_load1;rfl;(apply Cell.own;(case h=>repeat exact mhd _);rfl)));(case hd=>rfl)|fail)
  refine v_again rfl ⟨rfl,2,by omega,?_,rfl⟩ (by simp [headI])
  simp [pre2]
 ·have e0:(pre2 a d 2).length=a.length+d.length:=by simp [pre2]
  rw [e0]
  repeat' (first|apply v_seq|apply v_region|apply v_nil|apply v_exit;(case hp=>rfl)|apply v_pure;(case hop=>first|apply p_move<;>rfl|apply p_lt<;>rfl|fail);(case hd=>rfl)|apply v_cond;(case hc=>rfl);all_goals (intro h;(try simp only [reduceCtorEq,zzz] at h);try (exfalso;omega))|fail)
  refine v_call (μ1:=[]) (μ2:=[(sb,_)]) rfl qg (List.Perm.refl _) rfl ?_
  rintro r3 G3 ν3 - ⟨hG3,hg3⟩
  subst G3
  repeat' (first|apply v_seq|apply v_region|apply v_nil|apply v_block|apply v_pure;(case hop=>first|apply p_move<;>rfl|apply p_assign<;>rfl|apply p_lenSlice<;>rfl|fail);(case hd=>rfl)|fail)
  refine v_loop [27,6,25,26] (fun us G' μ'=>G'=G∧∃ (k:Nat) (v:Value) (ν:OH),k≤2∧us=[Value.int .i64 (k:Nat),v,.slice (some ⟨sb,0,none⟩) 2 2,.int .i64 (2:Nat)]∧Grow 5 1 v (pre2 a d k).length ((pre2 a d k).map (.int .u8 ·)) ν∧μ'=ν++[(sb,.cells [Value.slice A1 a.length c1,Value.slice A2 d.length c2].toArray 24 (0,0))]) (fun us=>2-(headI us).toNat) rfl ⟨rfl,0,_,_,by omega,rfl,hg3,rfl⟩ ?_
  rintro us G' _ ⟨hG',k,v,ν,hk,rfl,hg,rfl⟩
  subst G'
  obtain rfl|rfl|rfl:k=0∨k=1∨k=2:=by omega
  ·have e0:(pre2 a d 0)=[]:=rfl
   rw [e0] at hg
   repeat' (first|apply v_seq|apply v_region|apply v_nil|apply v_skip|apply v_block|apply v_blk|apply v_pure;(case hop=>first|apply p_move<;>rfl|apply p_lt<;>rfl|apply p_assign<;>rfl|apply p_add;(case hx|hy=>rfl);(case h=>omega)|apply p_indexAddr;(case hx|hi=>rfl);(case h0|h=>omega)|fail);(case hd=>rfl)|apply v_cond;(case hc=>rfl);all_goals (intro h;(try simp only [reduceCtorEq,zzz] at h);try (exfalso;omega))|apply v_append (hg:=hg) (m':=a.length) (us:=a.map (.int .u8 ·)) (hp:=List.Perm.refl _) (hsrc:=hsa _);(case hzs=>rfl);(case hsz=>omega);(case hs|hx=>rfl);(case hb=>simp only [List.length_nil];omega);(case hb'=>simp only [maxLen,List.length_nil];omega);(case hd=>rfl);(case h1=>exact allOne_ints a);intro v4 n4 hg4|apply v_read;(case hop=>(apply r_load1;rfl;(apply Cell.own;(case h=>repeat first|exact mhd _|apply List.mem_append_right);rfl)));(case hd=>rfl)|fail)
   refine v_again rfl ⟨rfl,1,v4,n4,by omega,rfl,?_,rfl⟩ (by simp [headI])
   simpa [pre2] using hg4
  ·have e0:(pre2 a d 1)=a:=rfl
   rw [e0] at hg
   repeat' (first|apply v_seq|apply v_region|apply v_nil|apply v_skip|apply v_block|apply v_blk|apply v_pure;(case hop=>first|apply p_move<;>rfl|apply p_lt<;>rfl|apply p_assign<;>rfl|apply p_add;(case hx|hy=>rfl);(case h=>omega)|apply p_indexAddr;(case hx|hi=>rfl);(case h0|h=>omega)|fail);(case hd=>rfl)|apply v_cond;(case hc=>rfl);all_goals (intro h;(try simp only [reduceCtorEq,zzz] at h);try (exfalso;omega))|apply v_append (hg:=hg) (m':=d.length) (us:=d.map (.int .u8 ·)) (hp:=List.Perm.refl _) (hsrc:=hsd _);(case hzs=>rfl);(case hsz=>omega);(case hs|hx=>rfl);(case hb=>omega);(case hb'=>simp only [maxLen];omega);(case hd=>rfl);(case h1=>exact allOne_ints d);intro v4 n4 hg4|apply v_read;(case hop=>(apply r_load1;rfl;(apply Cell.own;(case h=>repeat first|exact mhd _|apply List.mem_append_right);rfl)));(case hd=>rfl)|fail)
   refine v_again rfl ⟨rfl,2,v4,n4,by omega,rfl,?_,rfl⟩ (by simp [headI])
   simpa [pre2] using hg4
  ·have e0:(pre2 a d 2)=a++d:=rfl
   rw [e0] at hg
   repeat' (first|apply v_seq|apply v_region|apply v_nil|apply v_exit;(case hp=>rfl)|apply v_pure;(case hop=>first|apply p_move<;>rfl|apply p_lt<;>rfl|apply p_assign<;>rfl|fail);(case hd=>rfl)|apply v_cond;(case hc=>rfl);all_goals (intro h;(try simp only [reduceCtorEq,zzz] at h);try (exfalso;omega))|fail)
   refine v_ret (ν++[(sb,_)]) (outsA1 rfl rfl) (List.Sublist.refl _) ⟨rfl,ν,hg,rfl⟩
def pre3 (a d e:List Int) (k:Nat):List Int:=if k=0 then [] else if k=1 then a else if k=2 then a++d else a++d++e
theorem concat3_s {G:GH}{a d f:List Int}{av dv fv:Value}{sb:Nat}(ha:Sl G 1 (IntR .u8) av a) (hd:Sl G 1 (IntR .u8) dv d) (hf:Sl G 1 (IntR .u8) fv f) (hla:a.length≤100000) (hld:d.length≤100000) (hlf:f.length≤100000) :
 Con Tryz.prog 100 #[.slice (some ⟨sb,0,none⟩) 3 3] G [(sb,.cells [av,dv,fv].toArray 24 (0,0))] (fun r G' μ'=>G'=G∧∃ ν,Grow 5 1 r (a++d++f).length ((a++d++f).map (.int .u8 ·)) ν∧μ'=ν++[(sb,.cells [av,dv,fv].toArray 24 (0,0))]):=by
 have qg:=bgrow0_s (G:=G) (n:=a.length+d.length+f.length) (by omega)
 obtain ⟨A1,c1,rfl,hlc1,hcm1,-,-,-⟩:=id ha.openInt
 obtain ⟨A2,c2,rfl,hlc2,hcm2,-,-,-⟩:=id hd.openInt
 obtain ⟨A3,c3,rfl,hlc3,hcm3,-,-,-⟩:=id hf.openInt
 simp only [maxLen] at hcm1 hcm2 hcm3
 have hsa:=fun μ=>Src.ints (μ:=μ) ha
 have hsd:=fun μ=>Src.ints (μ:=μ) hd
 have hsf:=fun μ=>Src.ints (μ:=μ) hf
 have p0:pre3 a d f 0=[]:=rfl
 have p1:pre3 a d f 1=a:=rfl
 have p2:pre3 a d f 2=a++d:=rfl
 have p3:pre3 a d f 3=a++d++f:=rfl
 have l2:(a++d).length=a.length+d.length:=List.length_append
 have l3:(a++d++f).length=a.length+d.length+f.length:=by rw [List.length_append,List.length_append]
 (refine v_enter Tryz.func100 rfl Tryz.ntmps100 rfl ?_;intro B _)
 repeat' (first|apply v_seq|apply v_region|apply v_nil|apply v_block|apply v_pure;(case hop=>first|apply p_move<;>rfl|apply p_assign<;>rfl|apply p_lenSlice<;>rfl|fail);(case hd=>rfl)|fail)
 refine v_loop [11,3,9,10,0] (fun us G' μ'=>G'=G∧∃ k:Nat,k≤3∧us=[Value.int .i64 (k:Nat),.int .i64 ((pre3 a d f k).length:Nat),.slice (some ⟨sb,0,none⟩) 3 3,.int .i64 (3:Nat),.slice (some ⟨sb,0,none⟩) 3 3]∧μ'=[(sb,.cells [Value.slice A1 a.length c1,Value.slice A2 d.length c2,Value.slice A3 f.length c3].toArray 24 (0,0))]) (fun us=>3-(headI us).toNat) rfl ⟨rfl,0,by omega,rfl,rfl⟩ ?_
 rintro us G' _ ⟨hG',k,hk,rfl,rfl⟩
 subst G'
 obtain rfl|rfl|rfl|rfl:k=0∨k=1∨k=2∨k=3:=by omega
 ·rw [p0,show ([]:List Int).length=0 from rfl]
  repeat' (first|apply v_seq|apply v_region|apply v_nil|apply v_skip|apply v_block|apply v_blk|apply v_pure;(case hop=>first|apply p_move<;>rfl|apply p_lt<;>rfl|apply p_assign<;>rfl|apply p_lenSlice<;>rfl|apply p_add;(case hx|hy=>rfl);(case h=>omega)|apply p_indexAddr;(case hx|hi=>rfl);(case h0|h=>omega)|fail);(case hd=>rfl)|apply v_cond;(case hc=>rfl);all_goals (intro h;(try simp only [reduceCtorEq,zzz] at h);try (exfalso;omega))|apply v_read;(case hop=>(apply r_load1;rfl;(apply Cell.own;(case h=>repeat exact mhd _);rfl)));(case hd=>rfl)|fail)
  refine v_again rfl ⟨rfl,1,by omega,?_,rfl⟩ (by simp [headI])
  rw [p1]
  simp
 ·rw [p1]
  repeat' (first|apply v_seq|apply v_region|apply v_nil|apply v_skip|apply v_block|apply v_blk|apply v_pure;(case hop=>first|apply p_move<;>rfl|apply p_lt<;>rfl|apply p_assign<;>rfl|apply p_lenSlice<;>rfl|apply p_add;(case hx|hy=>rfl);(case h=>omega)|apply p_indexAddr;(case hx|hi=>rfl);(case h0|h=>omega)|fail);(case hd=>rfl)|apply v_cond;(case hc=>rfl);all_goals (intro h;(try simp only [reduceCtorEq,zzz] at h);try (exfalso;omega))|apply v_read;(case hop=>(apply r_load1;rfl;(apply Cell.own;(case h=>repeat exact mhd _);rfl)));(case hd=>rfl)|fail)
  refine v_again rfl ⟨rfl,2,by omega,?_,rfl⟩ (by simp [headI])
  rw [p2]
  simp
 ·rw [p2,l2]
  repeat' (first|apply v_seq|apply v_region|apply v_nil|apply v_skip|apply v_block|apply v_blk|apply v_pure;(case hop=>first|apply p_move<;>rfl|apply p_lt<;>rfl|apply p_assign<;>rfl|apply p_lenSlice<;>rfl|apply p_add;(case hx|hy=>rfl);(case h=>omega)|apply p_indexAddr;(case hx|hi=>rfl);(case h0|h=>omega)|fail);(case hd=>rfl)|apply v_cond;(case hc=>rfl);all_goals (intro h;(try simp only [reduceCtorEq,zzz] at h);try (exfalso;omega))|apply v_read;(case hop=>(apply r_load1;rfl;(apply Cell.own;(case h=>repeat exact mhd _);rfl)));(case hd=>rfl)|fail)
  refine v_again rfl ⟨rfl,3,by omega,?_,rfl⟩ (by simp [headI])
  rw [p3]
  simp [Int.add_assoc]
 ·rw [p3,l3]
  repeat' (first|apply v_seq|apply v_region|apply v_nil|apply v_exit;(case hp=>rfl)|apply v_pure;(case hop=>first|apply p_move<;>rfl|apply p_lt<;>rfl|fail);(case hd=>rfl)|apply v_cond;(case hc=>rfl);all_goals (intro h;(try simp only [reduceCtorEq,zzz] at h);try (exfalso;omega))|fail)
  refine v_call (μ1:=[]) (μ2:=[(sb,_)]) rfl qg (List.Perm.refl _) rfl ?_
  rintro r3 G3 ν3 - ⟨hG3,hg3⟩
  subst hG3
  repeat' (first|apply v_seq|apply v_region|apply v_nil|apply v_block|apply v_pure;(case hop=>first|apply p_move<;>rfl|apply p_assign<;>rfl|apply p_lenSlice<;>rfl|fail);(case hd=>rfl)|fail)
  refine v_loop [27,6,25,26] (fun us G' μ'=>G'=G3∧∃ (k:Nat) (v:Value) (ν:OH),k≤3∧us=[Value.int .i64 (k:Nat),v,.slice (some ⟨sb,0,none⟩) 3 3,.int .i64 (3:Nat)]∧Grow 5 1 v (pre3 a d f k).length ((pre3 a d f k).map (.int .u8 ·)) ν∧μ'=ν++[(sb,.cells [Value.slice A1 a.length c1,Value.slice A2 d.length c2,Value.slice A3 f.length c3].toArray 24 (0,0))]) (fun us=>3-(headI us).toNat) rfl ⟨rfl,0,_,_,by omega,rfl,hg3,rfl⟩ ?_
  rintro us G' _ ⟨hG',k,v,ν,hk,rfl,hg,rfl⟩
  subst hG'
  obtain rfl|rfl|rfl|rfl:k=0∨k=1∨k=2∨k=3:=by omega
  ·rw [p0] at hg
   repeat' (first|apply v_seq|apply v_region|apply v_nil|apply v_skip|apply v_block|apply v_blk|apply v_pure;(case hop=>first|apply p_move<;>rfl|apply p_lt<;>rfl|apply p_assign<;>rfl|apply p_add;(case hx|hy=>rfl);(case h=>omega)|apply p_indexAddr;(case hx|hi=>rfl);(case h0|h=>omega)|fail);(case hd=>rfl)|apply v_cond;(case hc=>rfl);all_goals (intro h;(try simp only [reduceCtorEq,zzz] at h);try (exfalso;omega))|apply v_append (hg:=hg) (m':=a.length) (us:=a.map (.int .u8 ·)) (hp:=List.Perm.refl _) (hsrc:=hsa _);(case hzs=>rfl);(case hsz=>omega);(case hs|hx=>rfl);(case hb=>simp only [List.length_nil];omega);(case hb'=>simp only [maxLen,List.length_nil];omega);(case hd=>rfl);(case h1=>exact allOne_ints a);intro v4 n4 hg4|apply v_read;(case hop=>(apply r_load1;rfl;(apply Cell.own;(case h=>repeat first|exact mhd _|apply List.mem_append_right);rfl)));(case hd=>rfl)|fail)
   refine v_again rfl ⟨rfl,1,v4,n4,by omega,rfl,?_,rfl⟩ (by simp [headI])
   rw [p1]
   simpa using hg4
  ·rw [p1] at hg
   repeat' (first|apply v_seq|apply v_region|apply v_nil|apply v_skip|apply v_block|apply v_blk|apply v_pure;(case hop=>first|apply p_move<;>rfl|apply p_lt<;>rfl|apply p_assign<;>rfl|apply p_add;(case hx|hy=>rfl);(case h=>omega)|apply p_indexAddr;(case hx|hi=>rfl);(case h0|h=>omega)|fail);(case hd=>rfl)|apply v_cond;(case hc=>rfl);all_goals (intro h;(try simp only [reduceCtorEq,zzz] at h);try (exfalso;omega))|apply v_append (hg:=hg) (m':=d.length) (us:=d.map (.int .u8 ·)) (hp:=List.Perm.refl _) (hsrc:=hsd _);(case hzs=>rfl);(case hsz=>omega);(case hs|hx=>rfl);(case hb=>omega);(case hb'=>simp only [maxLen];omega);(case hd=>rfl);(case h1=>exact allOne_ints d);intro v4 n4 hg4|apply v_read;(case hop=>(apply r_load1;rfl;(apply Cell.own;(case h=>repeat first|exact mhd _|apply List.mem_append_right);rfl)));(case hd=>rfl)|fail)
   refine v_again rfl ⟨rfl,2,v4,n4,by omega,rfl,?_,rfl⟩ (by simp [headI])
   rw [p2]
   simpa using hg4
  ·rw [p2] at hg
   repeat' (first|apply v_seq|apply v_region|apply v_nil|apply v_skip|apply v_block|apply v_blk|apply v_pure;(case hop=>first|apply p_move<;>rfl|apply p_lt<;>rfl|apply p_assign<;>rfl|apply p_add;(case hx|hy=>rfl);(case h=>omega)|apply p_indexAddr;(case hx|hi=>rfl);(case h0|h=>omega)|fail);(case hd=>rfl)|apply v_cond;(case hc=>rfl);all_goals (intro h;(try simp only [reduceCtorEq,zzz] at h);try (exfalso;omega))|apply v_append (hg:=hg) (m':=f.length) (us:=f.map (.int .u8 ·)) (hp:=List.Perm.refl _) (hsrc:=hsf _);(case hzs=>rfl);(case hsz=>omega);(case hs|hx=>rfl);(case hb=>omega);(case hb'=>simp only [maxLen];omega);(case hd=>rfl);(case h1=>exact allOne_ints f);intro v4 n4 hg4|apply v_read;(case hop=>(apply r_load1;rfl;(apply Cell.own;(case h=>repeat first|exact mhd _|apply List.mem_append_right);rfl)));(case hd=>rfl)|fail)
   refine v_again rfl ⟨rfl,3,v4,n4,by omega,rfl,?_,rfl⟩ (by simp [headI])
   have hl:(a++d++f).length=(a++d).length+f.length:=List.length_append
   have hm:(a++d++f).map (Value.int .u8 ·)=(a++d).map (Value.int .u8 ·)++f.map (Value.int .u8 ·):=List.map_append
   rw [p3,hl,hm]
   exact hg4
  ·rw [p3,l3] at hg
   repeat' (first|apply v_seq|apply v_region|apply v_nil|apply v_exit;(case hp=>rfl)|apply v_pure;(case hop=>first|apply p_move<;>rfl|apply p_lt<;>rfl|apply p_assign<;>rfl|fail);(case hd=>rfl)|apply v_cond;(case hc=>rfl);all_goals (intro h;(try simp only [reduceCtorEq,zzz] at h);try (exfalso;omega))|fail)
   refine v_ret (ν++[(sb,_)]) (outsA1 rfl rfl) (List.Sublist.refl _) ⟨rfl,ν,hg,rfl⟩
end Go.Proofs.YtpemabgfmnhhnaaGreatDoor
/-
  frame.Add: a frame alone.
-/
namespace Go.Proofs.YtpemabgfmnhhnaaGreatDoor
open Go.Vx Go.ChangeShapes Go.WideShapes Go.ChangeAt Go.RowKit
def wfL (l:List Int):Prop := ∀ x∈l,(Lit.int .u8 x).wf=true
theorem byteL.wf {l:List Int}(h:byteL l):wfL l:=fun x hx=>by
 have:=h x hx
 simp [Lit.wf,IntKind.min,IntKind.max,IntKind.signed,IntKind.bits]
 omega
theorem wfL.byte {l:List Int}(h:wfL l):byteL l:=fun x hx=>by
 have:=h x hx
 simp [Lit.wf,IntKind.min,IntKind.max,IntKind.signed,IntKind.bits] at this
 omega
def addNo (n:Nat):Int:=if n=0 then 3 else if 65536<n then 2 else 0
theorem addNo0 {n:Nat}:addNo n=0↔1≤n∧n≤65536:=by
 unfold addNo
 split
 ·constructor<;>intro h<;>omega
 ·split<;>constructor<;>intro h<;>omega
def AddF (l:List Int) (r:Value) (G':GH) (μ':OH):Prop:=μ'=[]∧∃ v,r=.tuple [v,.int .i64 (addNo l.length)].toArray∧Sl G' 1 (IntR .u8) v (if addNo l.length=0 then frB l else [])
theorem fadd_s {G:GH}(hC:CrcG G) {l:List Int}{bv:Value}(hs:Sl G 1 (IntR .u8) bv l) (hl:l.length≤100000):Con Tryz.prog 60 #[.slice none 0 0,bv] G [] (AddF l):=by
 have qm:Con Tryz.prog 99 #[.int .i64 (l.length:Nat)] G [] (Just (.int .i64 (addNo l.length)) G):=fmay_s G l.length
 have q1:=put_s (G:=G) (l:=[]) (sv:=.slice none 0 0) (l.length:Nat) Sl.nil (by simp) (by omega)
 have q2:=fsum_s hC hs
 have hvl:=(vbytes_len (l.length:Nat)).1
 obtain ⟨A,c,rfl,hlc,hcm,hsome,hel,hwf⟩:=id hs.openInt
 simp only [maxLen] at hcm
 unfold AddF
 generalize hno:addNo l.length=no at *
 (refine v_enter Tryz.func60 rfl Tryz.ntmps60 rfl ?_;intro B _)
 repeat' (first|apply v_seq|apply v_region|apply v_nil|apply v_skip|apply v_pure;(case hop=>first|apply p_move<;>rfl|apply p_ne<;>rfl|apply p_assign<;>rfl|apply p_lenSlice<;>rfl|fail);(case hd=>rfl)|apply v_cond;(case hc=>rfl);all_goals (intro h;(try simp only [reduceCtorEq,zzz] at h))|apply v_callJ (hs:=qm);(case ha|hd=>rfl)|fail)
 ·refine v_ret [] (outsA2 rfl rfl rfl) (by repeat (exact List.Sublist.refl _)) ?_
  exact ⟨rfl,_,rfl,by rw [if_neg (by assumption)];exact Sl.nil⟩
 ·refine v_call (μ1:=[]) rfl q1 (List.Perm.refl _) rfl ?_
  rintro r1 G1 ν1 - ⟨hG1,hg1⟩
  subst hG1
  obtain ⟨A1,c1,rfl,-,-⟩:=hg1.shape
  repeat' (first|apply v_pure;(case hop=>(apply p_move<;>rfl));(case hd=>rfl)|fail)
  refine v_call (μ1:=[]) rfl q2 (List.Perm.refl _) rfl ?_
  rintro r2 G2 ν2 - ⟨hG2,hg2⟩
  subst hG2
  obtain ⟨A2,c2,rfl,-,-⟩:=hg2.shape
  refine v_frzP (r:=[]) (ν2++ν1) (List.Perm.of_eq (by simp)) ?_
  intro G3 hle3 hG3
  have s1:Sl G3 1 (IntR .u8) (.slice A1 (vbytes (l.length:Nat)).length c1) (vbytes (l.length:Nat)):=hg1.ints (l:=[]++vbytes (l.length:Nat)) (fun b o hb=>hG3 b o (List.mem_append_right _ hb)) (vbytes_wf (by omega))
  have s2:Sl G3 1 (IntR .u8) (.slice A2 (sumB l).length c2) (sumB l):=hg2.ints (fun b o hb=>hG3 b o (List.mem_append_left _ hb)) (byteL.wf (sumB_wf l))
  clear hg1 hg2 hG3 q1 q2
  repeat' (first|apply v_buildSlice;(case hz|hi=>rfl);(case hv=>(simp only [List.map_cons,List.map_nil];repeat (first|with_reducible exact evs_nil|apply evs_cons;(case h1=>rfl))));(case hp=>(apply pk_cons;(case hc|hs=>rfl);(case h=>(apply pk_cons;(case hc|hs=>rfl);(case h=>(apply pk_cons;(case hc|hs=>rfl);(case h=>(with_reducible exact pk_nil));(case he=>((repeat (first|with_reducible exact ap_nil|apply ap_cons));done))));(case he=>((repeat (first|with_reducible exact ap_nil|apply ap_cons));done))));(case he=>((repeat (first|with_reducible exact ap_nil|apply ap_cons));done))));(case hb|hd=>rfl);intro b|fail)
  refine v_call (μ1:=[(b,_)]) rfl (concat3_s s1 (hs.mono hle3) s2 (by omega) (by omega) (by rw [sumB_len];omega)) (List.Perm.refl _) rfl ?_
  rintro r4 G4 _ - ⟨hG4,ν4,hg4,rfl⟩
  subst hG4
  obtain ⟨A4,c4,rfl,-,-⟩:=hg4.shape
  refine v_drop (ν:=ν4) ?_ ?_
  ·simp
  refine v_frzP ν4 (List.Perm.of_eq (List.append_nil _).symm) ?_
  intro G5 hle5 hG5
  have s4:=hg4.ints hG5 (byteL.wf (((vbytes_byte (by omega)).app (wfL.byte hwf)).app (sumB_wf l)))
  repeat' (first|apply v_nil|apply v_pure;(case hop=>(apply p_assign<;>rfl));(case hd=>rfl)|fail)
  refine v_ret [] (outsA2 rfl rfl rfl) (by repeat (exact List.Sublist.refl _)) ?_
  exact ⟨rfl,_,by rw [show no=0 from by assumption],by rw [if_pos (by assumption)];exact s4⟩
theorem faddO_s {G:GH}(hC:CrcG G) {l:List Int}{bv:Value}(hs:Sl G 1 (IntR .u8) bv l) (hl:l.length≤100000) (hno:addNo l.length=0):Con Tryz.prog 60 #[.slice none 0 0,bv] G [] (fun r G' μ'=>∃ v,r=.tuple [v,.int .i64 0].toArray∧Grow 5 1 v (frB l).length ((frB l).map (.int .u8 ·)) μ'):=by
 have qm:Con Tryz.prog 99 #[.int .i64 (l.length:Nat)] G [] (Just (.int .i64 (addNo l.length)) G):=fmay_s G l.length
 have q1:=put_s (G:=G) (l:=[]) (sv:=.slice none 0 0) (l.length:Nat) Sl.nil (by simp) (by omega)
 have q2:=fsum_s hC hs
 have hvl:=(vbytes_len (l.length:Nat)).1
 obtain ⟨A,c,rfl,hlc,hcm,hsome,hel,hwf⟩:=id hs.openInt
 simp only [maxLen] at hcm
 rw [hno] at qm
 (refine v_enter Tryz.func60 rfl Tryz.ntmps60 rfl ?_;intro B _)
 repeat' (first|apply v_seq|apply v_region|apply v_nil|apply v_skip|apply v_pure;(case hop=>first|apply p_move<;>rfl|apply p_nes<;>rfl|apply p_assign<;>rfl|apply p_lenSlice<;>rfl|fail);(case hd=>rfl)|apply v_condF;(case hc=>rfl)|apply v_callJ (hs:=qm);(case ha|hd=>rfl)|fail)
 ·refine v_call (μ1:=[]) rfl q1 (List.Perm.refl _) rfl ?_
  rintro r1 G1 ν1 - ⟨hG1,hg1⟩
  subst hG1
  obtain ⟨A1,c1,rfl,-,-⟩:=hg1.shape
  repeat' (first|apply v_pure;(case hop=>(apply p_move<;>rfl));(case hd=>rfl)|fail)
  refine v_call (μ1:=[]) rfl q2 (List.Perm.refl _) rfl ?_
  rintro r2 G2 ν2 - ⟨hG2,hg2⟩
  subst hG2
  obtain ⟨A2,c2,rfl,-,-⟩:=hg2.shape
  refine v_frzP (r:=[]) (ν2++ν1) (List.Perm.of_eq (by simp)) ?_
  intro G3 hle3 hG3
  have s1:Sl G3 1 (IntR .u8) (.slice A1 (vbytes (l.length:Nat)).length c1) (vbytes (l.length:Nat)):=hg1.ints (l:=[]++vbytes (l.length:Nat)) (fun b o hb=>hG3 b o (List.mem_append_right _ hb)) (vbytes_wf (by omega))
  have s2:Sl G3 1 (IntR .u8) (.slice A2 (sumB l).length c2) (sumB l):=hg2.ints (fun b o hb=>hG3 b o (List.mem_append_left _ hb)) (byteL.wf (sumB_wf l))
  clear hg1 hg2 hG3 q1 q2
  repeat' (first|apply v_buildSlice;(case hz|hi=>rfl);(case hv=>(simp only [List.map_cons,List.map_nil];repeat (first|with_reducible exact evs_nil|apply evs_cons;(case h1=>rfl))));(case hp=>(apply pk_cons;(case hc|hs=>rfl);(case h=>(apply pk_cons;(case hc|hs=>rfl);(case h=>(apply pk_cons;(case hc|hs=>rfl);(case h=>(with_reducible exact pk_nil));(case he=>((repeat (first|with_reducible exact ap_nil|apply ap_cons));done))));(case he=>((repeat (first|with_reducible exact ap_nil|apply ap_cons));done))));(case he=>((repeat (first|with_reducible exact ap_nil|apply ap_cons));done))));(case hb|hd=>rfl);intro b|fail)
  refine v_call (μ1:=[(b,_)]) rfl (concat3_s s1 (hs.mono hle3) s2 (by omega) (by omega) (by rw [sumB_len];omega)) (List.Perm.refl _) rfl ?_
  rintro r4 G4 _ - ⟨hG4,ν4,hg4,rfl⟩
  subst hG4
  obtain ⟨A4,c4,rfl,-,-⟩:=hg4.shape
  refine v_drop (ν:=ν4) ?_ ?_
  ·simp
  have hg5:Grow 5 1 (.slice A4 (frB l).length c4) (frB l).length ((frB l).map (.int .u8 ·)) ν4:=hg4
  repeat' (first|apply v_nil|apply v_pure;(case hop=>(apply p_assign<;>rfl));(case hd=>rfl)|fail)
  refine v_ret ν4 (outsA2 rfl rfl rfl) (List.Sublist.refl _) ⟨_,rfl,hg5⟩
theorem Mem.lent {G:GH}{μ ν:OH}{w:World}(h:Mem G (ν++μ) w):Mem (GH.put G ν) μ w:=by
 have hs:=(Step.refl h).freeze
 exact hs.mem
theorem Con.lend {P:Program}{f:FuncId}{args:Array Value}{G:GH}{ν μ:OH}{Ψ:Value→OH→Prop}
 (h:∀ G',GH.le G G'→(∀ b o,(b,o)∈ν→G' b=some o)→Con P f args G' μ (fun v _ μ'=>Ψ v μ')) :
 Con P f args G (ν++μ) (fun v G' μ'=>G'=G∧∃ μ1,Ψ v μ1∧μ'=ν++μ1):=by
 unfold Con at h ⊢
 intro w hw
 have hn:=hw.nodup
 rw [List.map_append,List.nodup_append] at hn
 have hin:∀ b o,(b,o)∈ν→GH.put G ν b=some o:=fun b o hb=>GH.put_mem hn.1 (hw.apart b o (List.mem_append_left _ hb)) hb
 refine (h (GH.put G ν) (GH.le_put _ _) hin w (Mem.lent hw)).mono ?_
 rintro v w' ⟨G2,μ1,hs,hΨ⟩
 refine ⟨G,ν++μ1,⟨⟨fun b o hb=>hs.mem.g b o (hs.le b o (GH.le_put G ν b o hb)),fun b o hb=>?_,?_,fun b o hb=>?_⟩,GH.le_refl _,hs.os,hs.tape,hs.output,hs.size,fun b hb hno=>hs.same b hb fun o ho=>hno o (List.mem_append_right _ ho),fun b o hb=>?_,fun b o hb=>.inl ⟨o,hb⟩⟩,rfl,μ1,hΨ,rfl⟩
 ·rcases List.mem_append.1 hb with hb|hb
  ·exact hs.mem.g b o (hs.le b o (hin b o hb))
  ·exact hs.mem.own b o hb
 ·rw [List.map_append,List.nodup_append]
  refine ⟨hn.1,hs.mem.nodup,fun a ha b hb e=>?_⟩
  subst e
  obtain ⟨⟨a1,o1⟩,h1,rfl⟩:=List.mem_map.1 ha
  obtain ⟨⟨a2,o2⟩,h2,e2⟩:=List.mem_map.1 hb
  simp only at e2
  subst e2
  have:=hs.mem.apart _ _ h2
  rw [hs.le _ _ (hin _ _ h1)] at this
  cases this
 ·rcases List.mem_append.1 hb with hb|hb
  ·exact hw.apart b o (List.mem_append_left _ hb)
  ·have:=hs.mem.apart b o hb
   cases hg:G b with
   | none=>rfl
   | some o' =>
    rw [hs.le _ _ (GH.le_put G ν b o' hg)] at this
    cases this
 ·rcases List.mem_append.1 hb with hb|hb
  ·exact .inl ⟨o,List.mem_append_left _ hb⟩
  ·rcases hs.mine b o hb with ⟨o',h'⟩|h'
   ·exact .inl ⟨o',List.mem_append_right _ h'⟩
   ·exact .inr h'
theorem Con.lendJ {P:Program}{f:FuncId}{args:Array Value}{G:GH}{ν:OH}{v:Value}
 (h:∀ G',GH.le G G'→(∀ b o,(b,o)∈ν→G' b=some o)→Con P f args G' [] (Just v G')):Con P f args G ν (Keeps v G ν):=by
 have:=Con.lend (G:=G) (ν:=ν) (μ:=[]) (Ψ:=fun u μ'=>u=v∧μ'=[]) fun G' h1 h2=>(h G' h1 h2).mono fun _ _ _ h=>⟨h.1,h.2.2⟩
 rw [List.append_nil] at this
 exact this.mono fun u G' μ' ⟨h1,μ1,⟨h2,h3⟩,h4⟩=>⟨h2,h1,by rw [h4,h3,List.append_nil]⟩
section
variable {P:Program}{σ:Env}{G:GH}{μ:OH}{t ty:TypeId}{bytes:Nat}{zero:Value}
end
theorem bequal_s {G:GH}{a d:List Int}{av dv:Value}(ha:Sl G 1 (IntR .u8) av a) (hd:Sl G 1 (IntR .u8) dv d):Con Tryz.prog 145 #[av,dv] G [] (Just (.bool (decide (a=d))) G):=by
 obtain ⟨A1,c1,rfl,hlc1,hcm1,hs1,he1,-⟩:=ha.openInt
 obtain ⟨A2,c2,rfl,hlc2,hcm2,hs2,he2,-⟩:=hd.openInt
 simp only [maxLen] at hcm1 hcm2
 apply Con.just
 (refine v_enter Tryz.func145 rfl Tryz.ntmps145 rfl ?_;intro B _)
 repeat' (first|apply v_seq|apply v_region|apply v_nil|apply v_skip|apply v_block|apply v_pure;(case hop=>first|apply p_move<;>rfl|apply p_ne<;>rfl|apply p_assign<;>rfl|apply p_lenSlice<;>rfl|fail);(case hd=>rfl)|apply v_cond;(case hc=>rfl);all_goals (intro h;(try simp only [reduceCtorEq,zzz] at h))|fail)
 ·refine v_ret [] (outsA1 rfl rfl) (by repeat (exact List.Sublist.refl _)) ?_
  refine ⟨?_,rfl⟩
  rw [decide_eq_false]
  intro e
  subst e
  omega
 ·have hll:a.length=d.length:=by omega
  refine v_loop [13,12,0,1] (fun us G' μ'=>G'=G∧∃ k:Nat,k≤a.length∧a.take k=d.take k∧us=[Value.int .i64 (k:Nat),.int .i64 (a.length:Nat),.slice A1 a.length c1,.slice A2 d.length c2]∧μ'=[]) (fun us=>a.length-(headI us).toNat) rfl ⟨rfl,0,by omega,rfl,rfl,rfl⟩ ?_
  rintro us G' _ ⟨hG',k,hk,ht,rfl,rfl⟩
  subst G'
  have e1:((k:Nat):Int).toNat=k:=by omega
  by_cases hlt:k<a.length
  ·have hA1:=hs1 (by omega)
   have hA2:=hs2 (by omega)
   have hc1:=he1 k hlt
   have hc2:=he2 k (by omega)
   have ht1:a.take (k+1)=a.take k++[a[k]]:=List.take_succ_eq_append_getElem hlt
   have ht2:d.take (k+1)=d.take k++[d[k]'(by omega)]:=List.take_succ_eq_append_getElem (by omega)
   have hne:¬ a[k]=d[k]'(by omega)→decide (a=d)=false:=fun h=>by
    rw [decide_eq_false]
    intro e
    subst e
    exact h rfl
   generalize a[k]=x at *
   generalize d[k]'(by omega)=y at *
   repeat' (first|apply v_seq|apply v_region|apply v_nil|apply v_skip|apply v_block|apply v_pure;(case hop=>first|apply p_move<;>rfl|apply p_lt<;>rfl|apply p_assign<;>rfl|fail);(case hd=>rfl)|apply v_cond;(case hc=>rfl);all_goals (intro h;(try simp only [reduceCtorEq,zzz] at h);try (exfalso;omega))|fail)
   refine d_start [] (by kernel_rfl) (by kernel_rfl) (by kernel_rfl) (by intro e he;exact he) ?_
   all_goals (apply dtm 0;(case hi|hx=>rfl);(case hq=>kernel_rfl);apply dtm 1;(case hi|hx=>rfl);(case hq=>kernel_rfl))
   all_goals (apply dtk 2;(case hi=>rfl);(case hop=>(apply prd;apply p_indexAddrS;(case hx|hi=>rfl);(case h0|h=>omega);(case hA=>assumption)));(case hq=>kernel_rfl);apply dtk 3;(case hi=>rfl);(case hop=>((apply r_load1;rfl;exact Cell.frozen hc1)));(case hq=>kernel_rfl))
   all_goals (apply dtm 4;(case hi|hx=>rfl);(case hq=>kernel_rfl);apply dtm 5;(case hi|hx=>rfl);(case hq=>kernel_rfl))
   all_goals (apply dtk 6;(case hi=>rfl);(case hop=>(apply prd;apply p_indexAddrS;(case hx|hi=>rfl);(case h0|h=>omega);(case hA=>assumption)));(case hq=>kernel_rfl);apply dtk 7;(case hi=>rfl);(case hop=>((apply r_load1;rfl;exact Cell.frozen hc2)));(case hq=>kernel_rfl))
   all_goals (apply dtk 8;(case hi=>rfl);(case hop=>(apply prd;apply p_ne<;>rfl));(case hq=>kernel_rfl))
   all_goals (apply d_done;(case hr=>kernel_rfl))
   all_goals repeat' (first|apply v_seq|apply v_region|apply v_nil|apply v_skip|apply v_blk|apply v_pure;(case hop=>first|apply p_move<;>rfl|apply p_assign<;>rfl|apply p_add;(case hx|hy=>rfl);(case h=>omega)|fail);(case hd=>rfl)|apply v_cond;(case hc=>rfl);all_goals (intro h;(try simp only [reduceCtorEq,zzz] at h))|fail)
   all_goals first
    |(refine v_ret [] (outsA1 rfl rfl) (by repeat (exact List.Sublist.refl _)) ?_
      exact ⟨by rw [hne (by assumption)],rfl⟩)
    | exact v_again rfl ⟨rfl,k+1,by omega,by rw [ht1,ht2,ht,show x=y from by assumption],rfl,rfl⟩ (by simp [headI];omega)
    | skip
   all_goals vx_show
  ·obtain rfl:k=a.length:=by omega
   rw [List.take_length,hll,List.take_length] at ht
   repeat' (first|apply v_seq|apply v_region|apply v_nil|apply v_exit;(case hp=>rfl)|apply v_pure;(case hop=>first|apply p_lt<;>rfl|apply p_assign<;>rfl|fail);(case hd=>rfl)|apply v_cond;(case hc=>rfl);all_goals (intro h;(try simp only [reduceCtorEq,zzz] at h);try (exfalso;omega))|fail)
   refine v_ret [] (outsA1 rfl rfl) (by repeat (exact List.Sublist.refl _)) ?_
   refine ⟨?_,rfl⟩
   rw [decide_eq_true ht]
def NextR (l:List Int) (at_:Nat) (r:Value) (G':GH) (μ':OH):Prop:=μ'=[]∧∃ v z e,r=.tuple [v,.int .i64 z,.int .i64 e].toArray∧((∃ b t,nextF (l.drop at_)=some (b,t)∧Sl G' 1 (IntR .u8) v b∧z=(l.length-t.length:Nat)∧e=0)∨(nextF (l.drop at_)=none∧e≠0∧v=.slice none 0 0∧z=0))
theorem nextF_dvk {l r:List Int}{m:Nat}(h:dvk 0 l=some (((m:Nat):Int),r)):nextF l=if 1≤m∧m≤65536∧m+4≤r.length∧(r.drop m).take 4=sumB (r.take m) then some (r.take m,r.drop (m+4)) else none:=by
 unfold nextF
 rw [h]
 simp only [Int.toNat_natCast]
 have e:(1≤((m:Nat):Int)∧((m:Nat):Int)≤65536∧((m:Nat):Int)+4≤r.length∧(r.drop m).take 4=sumB (r.take m))↔(1≤m∧m≤65536∧m+4≤r.length∧(r.drop m).take 4=sumB (r.take m)):=by
  constructor
  ·rintro ⟨h1,h2,h3,h4⟩;exact ⟨by omega,by omega,by omega,h4⟩
  ·rintro ⟨h1,h2,h3,h4⟩;exact ⟨by omega,by omega,by omega,h4⟩
 simp only [e]
theorem fnext_s {G:GH}(hC:CrcG G) {l:List Int}{sv:Value}(at_:Nat) (hs:Sl G 1 (IntR .u8) sv l) (hl:l.length≤1048576) (ha:at_≤l.length):Con Tryz.prog 103 #[sv,.int .i64 (at_:Nat)] G [] (NextR l at_):=by
 have q1:=vget_s at_ hs hl ha
 obtain ⟨A,c,rfl,hlc,hcm,hsome,hel,hwf⟩:=id hs.openInt
 simp only [maxLen] at hcm
 unfold GetV at q1
 unfold NextR
 cases hd:dvk 0 (l.drop at_) with
 | none =>
  rw [hd] at q1
  have hn:nextF (l.drop at_)=none:=by unfold nextF;rw [hd]
  have he:=(dve_none (l.drop at_) 0).1 hd
  generalize dve 0 (l.drop at_)=ev at *
  (refine v_enter Tryz.func103 rfl Tryz.ntmps103 rfl ?_;intro B _)
  repeat' (first|apply v_seq|apply v_region|apply v_nil|apply v_skip|apply v_block|apply v_blk|apply v_exit;(case hp=>rfl)|apply v_take;(case hg=>rfl)|apply v_pass;(case hg|hn|hd=>rfl)|apply v_passN;(case hg|hn|hd=>rfl)|apply v_pure;(case hop=>first|apply p_move<;>rfl|apply p_nes<;>rfl|apply p_neBs<;>rfl|apply p_lt<;>rfl|apply p_ne<;>rfl|apply p_assign<;>rfl|apply p_not<;>rfl|apply p_lenSlice<;>rfl|apply p_extract0<;>rfl|apply p_extract1<;>rfl|apply p_extract2<;>rfl|apply p_extract<;>rfl|apply p_add;(case hx|hy=>rfl);(case h=>omega)|apply p_sub;(case hx|hy=>rfl);(case h=>omega)|apply p_lenString<;>rfl|apply p_neB<;>rfl|apply p_neNil<;>rfl|apply p_sliceL;(case hx|hl=>rfl);all_goals omega|apply p_sliceH;(case hx|hh=>rfl);all_goals omega|apply p_sliceLH;(case hx|hl|hh=>rfl);all_goals omega|apply p_slice3;(case hx|hh|hq=>rfl);all_goals omega|apply p_sliceStrL;(case hx|hl=>rfl);all_goals omega|apply p_sliceStrH;(case hx|hh=>rfl);all_goals omega|apply p_neS<;>rfl|apply p_neNilSlice<;>rfl);(case hd=>rfl)|apply v_condT;(case hc=>rfl)|apply v_condF;(case hc=>rfl)|apply v_cond;(case hc=>rfl);all_goals (intro h;(try simp only [reduceCtorEq,zzz] at h);first|done|(exfalso;omega)|(exfalso;exact h (by with_reducible assumption))|(exfalso;revert h;rw [imp_false];with_reducible assumption)|skip)|apply v_guardB;(case h1|h2=>rfl);all_goals (intro h;(try simp only [reduceCtorEq,zzz] at h);first|done|(exfalso;omega)|(exfalso;exact h (by with_reducible assumption))|(exfalso;revert h;rw [imp_false];with_reducible assumption)|skip)|apply v_callJ (hs:=q1);(case ha|hd=>rfl)|fail)
  all_goals first
   |(exfalso;omega)
   |(refine v_ret [] (outsA3 rfl rfl rfl rfl) (by repeat (first|exact List.Sublist.refl _|exact List.nil_sublist _|apply List.Sublist.cons_cons|apply List.Sublist.cons|exact List.sublist_append_left _ _|apply List.sublist_append_of_sublist_right)) ?_
     exact ⟨rfl,_,_,_,rfl,.inr ⟨hn,he,rfl,rfl⟩⟩)
   | skip
  all_goals vx_show
 | some p =>
  obtain ⟨m',r'⟩:=p
  rw [hd] at q1
  obtain ⟨h0,h1,hr⟩:=vbytes_dvk (fun x hx=>(wfL.byte hwf) x (List.mem_of_mem_drop hx)) hd
  obtain ⟨m,rfl⟩:∃ m:Nat,m'=(m:Nat):=⟨m'.toNat,by omega⟩
  have hN:=nextF_dvk hd
  obtain ⟨hlt,hdr⟩:=dvk_len _ _ _ _ hd
  rw [List.length_drop] at hlt hdr
  obtain ⟨f,hf⟩:∃ f,f=l.length-r'.length:=⟨_,rfl⟩
  have hr':r'=l.drop f:=by
   have h:=hdr
   rw [List.drop_drop,show at_+(l.length-at_-r'.length)=f by omega] at h
   exact h
  have hfl:f≤l.length:=by omega
  have hrl:r'.length=l.length-f:=by omega
  have qm:Con Tryz.prog 99 #[.int .i64 (m:Nat)] G [] (Just (.int .i64 (addNo m)) G):=fmay_s G m
  have ham:=addNo0 (n:=m)
  generalize addNo m=no at *
  simp only [← hf] at q1
  (refine v_enter Tryz.func103 rfl Tryz.ntmps103 rfl ?_;intro B _)
  repeat' (first|apply v_seq|apply v_region|apply v_nil|apply v_skip|apply v_block|apply v_blk|apply v_exit;(case hp=>rfl)|apply v_take;(case hg=>rfl)|apply v_pass;(case hg|hn|hd=>rfl)|apply v_passN;(case hg|hn|hd=>rfl)|apply v_pure;(case hop=>first|apply p_move<;>rfl|apply p_nes<;>rfl|apply p_neBs<;>rfl|apply p_lt<;>rfl|apply p_ne<;>rfl|apply p_assign<;>rfl|apply p_not<;>rfl|apply p_lenSlice<;>rfl|apply p_extract0<;>rfl|apply p_extract1<;>rfl|apply p_extract2<;>rfl|apply p_extract<;>rfl|apply p_add;(case hx|hy=>rfl);(case h=>omega)|apply p_sub;(case hx|hy=>rfl);(case h=>omega)|apply p_lenString<;>rfl|apply p_neB<;>rfl|apply p_neNil<;>rfl|apply p_sliceL;(case hx|hl=>rfl);all_goals omega|apply p_sliceH;(case hx|hh=>rfl);all_goals omega|apply p_sliceLH;(case hx|hl|hh=>rfl);all_goals omega|apply p_slice3;(case hx|hh|hq=>rfl);all_goals omega|apply p_sliceStrL;(case hx|hl=>rfl);all_goals omega|apply p_sliceStrH;(case hx|hh=>rfl);all_goals omega|apply p_neS<;>rfl|apply p_neNilSlice<;>rfl);(case hd=>rfl)|apply v_condT;(case hc=>rfl)|apply v_condF;(case hc=>rfl)|apply v_cond;(case hc=>rfl);all_goals (intro h;(try simp only [reduceCtorEq,zzz] at h);first|done|(exfalso;omega)|(exfalso;exact h (by with_reducible assumption))|(exfalso;revert h;rw [imp_false];with_reducible assumption)|skip)|apply v_guardB;(case h1|h2=>rfl);all_goals (intro h;(try simp only [reduceCtorEq,zzz] at h);first|done|(exfalso;omega)|(exfalso;exact h (by with_reducible assumption))|(exfalso;revert h;rw [imp_false];with_reducible assumption)|skip)|apply v_callJ (hs:=q1);(case ha|hd=>rfl)|apply v_callJ (hs:=qm);(case ha|hd=>rfl)|fail)
  all_goals first
   |(refine v_ret [] (outsA3 rfl rfl rfl rfl) (by repeat (first|exact List.Sublist.refl _|exact List.nil_sublist _|apply List.Sublist.cons_cons|apply List.Sublist.cons|exact List.sublist_append_left _ _|apply List.sublist_append_of_sublist_right)) ?_
     refine ⟨rfl,_,_,_,rfl,.inr ⟨?_,by first|assumption|decide,rfl,rfl⟩⟩
     rw [hN,if_neg]
     rintro ⟨g1,g2,g3,-⟩
     omega)
   | skip
  have hle4:m+4≤r'.length:=by omega
  have hB:(l.take (((f:Nat):Int)+(m:Nat)).toNat).drop ((f:Nat):Int).toNat=r'.take m:=by
   rw [hr',List.drop_take]
   congr 1
   omega
  have hTl:(l.take (((f:Nat):Int)+(m:Nat)+4).toNat).drop (((f:Nat):Int)+(m:Nat)).toNat=(r'.drop m).take 4:=by
   rw [hr',List.drop_take,List.drop_drop]
   congr 1
   omega
  have sB:=sl_sub hs (lo:=((f:Nat):Int)) (hi:=((f:Nat):Int)+(m:Nat)) (by omega) (by omega) (by omega)
  have sT:=sl_sub hs (lo:=((f:Nat):Int)+(m:Nat)) (hi:=((f:Nat):Int)+(m:Nat)+4) (by omega) (by omega) (by omega)
  rw [hB] at sB
  rw [hTl] at sT
  have hbl:(r'.take m).length=m:=by rw [List.length_take];omega
  have q2:=fsum_s hC sB
  have q3:=bclone_s sB (by omega)
  have hwb:wfL (r'.take m):=fun x hx=>hwf x (by
   rw [hr'] at hx
   exact List.mem_of_mem_drop (List.mem_of_mem_take hx))
  refine d_start [] (by kernel_rfl) (by kernel_rfl) (by kernel_rfl) (by intro e he;first|exact he|(simp at he;simp [he];done)|(simp only [List.mem_cons,List.not_mem_nil,or_false] at he;rcases he with rfl|rfl<;>simp;done)|(simp only [List.mem_cons,List.not_mem_nil,or_false] at he;rcases he with rfl|rfl|rfl<;>simp;done)|(simp at he ⊢;try omega)) ?_
  all_goals (apply dtm 0;(case hi|hx=>rfl);(case hq=>kernel_rfl);apply dtm 1;(case hi|hx=>rfl);(case hq=>kernel_rfl))
  all_goals (apply dtm 2;(case hi|hx=>rfl);(case hq=>kernel_rfl);apply dtk 3;(case hi=>rfl);(case hop=>(apply prd;apply p_add;(case hx|hy=>rfl);(case h=>omega)));(case hq=>kernel_rfl))
  all_goals (apply dtm 4;(case hi|hx=>rfl);(case hq=>kernel_rfl);apply dtk 5;(case hi=>rfl);(case hop=>first|apply prd;apply p_sliceL;(case hx|hl=>rfl);all_goals omega|apply prd;apply p_sliceH;(case hx|hh=>rfl);all_goals omega|apply prd;apply p_sliceLH;(case hx|hl|hh=>rfl);all_goals omega|apply prd;apply p_slice3;(case hx|hh|hq=>rfl);all_goals omega|apply prd;apply p_sliceStrL;(case hx|hl=>rfl);all_goals omega|apply prd;apply p_sliceStrH;(case hx|hh=>rfl);all_goals omega);(case hq=>kernel_rfl))
  all_goals (apply dtm 6;(case hi|hx=>rfl);(case hq=>kernel_rfl))
  all_goals (first|((apply d_call 7 (hs:=q2) (μ1:=[]);(case hi=>rfl);(case hr=>kernel_rfl);(case ha=>rfl);(case hp=>exact List.Perm.refl _);(case hd=>rfl);(case hν'=>exact fun e he=>he);rintro _ G5 ν2 - ⟨hG5,hg2⟩;subst hG5;obtain ⟨A5,c5,rfl,-,-⟩:=hg2.shape))|((apply d_callK 7 (μ1:=ν2) (μ2:=[]) (hs:=Con.lendJ (v:=.bool (decide ((r'.drop m).take 4=sumB (r'.take m)))) fun G3 h1 h2=>bequal_s (sT.mono h1) (hg2.ints h2 (byteL.wf (sumB_wf _))));(case hi=>rfl);(case hr=>kernel_rfl);(case ha=>rfl);(case hp=>exact List.Perm.refl _);(case hd=>rfl)))|fail)
  all_goals (first|((apply d_call 8 (hs:=q2) (μ1:=[]);(case hi=>rfl);(case hr=>kernel_rfl);(case ha=>rfl);(case hp=>exact List.Perm.refl _);(case hd=>rfl);(case hν'=>exact fun e he=>he);rintro _ G5 ν2 - ⟨hG5,hg2⟩;subst hG5;obtain ⟨A5,c5,rfl,-,-⟩:=hg2.shape))|((apply d_callK 8 (μ1:=ν2) (μ2:=[]) (hs:=Con.lendJ (v:=.bool (decide ((r'.drop m).take 4=sumB (r'.take m)))) fun G3 h1 h2=>bequal_s (sT.mono h1) (hg2.ints h2 (byteL.wf (sumB_wf _))));(case hi=>rfl);(case hr=>kernel_rfl);(case ha=>rfl);(case hp=>exact List.Perm.refl _);(case hd=>rfl)))|fail)
  all_goals (apply dtk 9;(case hi=>rfl);(case hop=>(apply prd;apply p_not<;>rfl));(case hq=>kernel_rfl))
  all_goals (apply d_done;(case hr=>kernel_rfl))
  all_goals
   generalize hq:decide ((r'.drop m).take 4=sumB (r'.take m))=bq at *
   repeat' (first|apply v_seq|apply v_region|apply v_nil|apply v_skip|apply v_block|apply v_blk|apply v_exit;(case hp=>rfl)|apply v_take;(case hg=>rfl)|apply v_pass;(case hg|hn|hd=>rfl)|apply v_passN;(case hg|hn|hd=>rfl)|apply v_pure;(case hop=>first|apply p_move<;>rfl|apply p_nes<;>rfl|apply p_neBs<;>rfl|apply p_lt<;>rfl|apply p_ne<;>rfl|apply p_assign<;>rfl|apply p_not<;>rfl|apply p_lenSlice<;>rfl|apply p_extract0<;>rfl|apply p_extract1<;>rfl|apply p_extract2<;>rfl|apply p_extract<;>rfl|apply p_add;(case hx|hy=>rfl);(case h=>omega)|apply p_sub;(case hx|hy=>rfl);(case h=>omega)|apply p_lenString<;>rfl|apply p_neB<;>rfl|apply p_neNil<;>rfl|apply p_sliceL;(case hx|hl=>rfl);all_goals omega|apply p_sliceH;(case hx|hh=>rfl);all_goals omega|apply p_sliceLH;(case hx|hl|hh=>rfl);all_goals omega|apply p_slice3;(case hx|hh|hq=>rfl);all_goals omega|apply p_sliceStrL;(case hx|hl=>rfl);all_goals omega|apply p_sliceStrH;(case hx|hh=>rfl);all_goals omega|apply p_neS<;>rfl|apply p_neNilSlice<;>rfl);(case hd=>rfl)|apply v_condT;(case hc=>rfl)|apply v_condF;(case hc=>rfl)|apply v_cond;(case hc=>rfl);all_goals (intro h;(try simp only [reduceCtorEq,zzz] at h);first|done|(exfalso;omega)|(exfalso;exact h (by with_reducible assumption))|(exfalso;revert h;rw [imp_false];with_reducible assumption)|skip)|apply v_guardB;(case h1|h2=>rfl);all_goals (intro h;(try simp only [reduceCtorEq,zzz] at h);first|done|(exfalso;omega)|(exfalso;exact h (by with_reducible assumption))|(exfalso;revert h;rw [imp_false];with_reducible assumption)|skip)|fail)
  all_goals first
   |(refine v_ret [] (outsA3 rfl rfl rfl rfl) (List.nil_sublist _) ?_
     refine ⟨rfl,_,_,_,rfl,.inr ⟨?_,by decide,rfl,rfl⟩⟩
     rw [hN,if_neg]
     rintro ⟨-,-,-,g4⟩
     rw [decide_eq_true g4] at hq
     subst hq
     contradiction)
   |(refine v_call (μ1:=[]) rfl q3 (List.Perm.refl _) rfl ?_
     rintro r6 G6 ν6 - ⟨hG6,hg6⟩
     subst hG6
     obtain ⟨A6,c6,rfl,-,-⟩:=hg6.shape
     refine v_drop (List.sublist_append_left _ _) ?_
     refine v_frzP (r:=[]) ν6 (List.Perm.of_eq (by simp)) ?_
     intro G7 hle7 hG7
     have s7:=hg6.ints hG7 hwb
     repeat' (first|apply v_seq|apply v_region|apply v_nil|apply v_skip|apply v_block|apply v_blk|apply v_exit;(case hp=>rfl)|apply v_take;(case hg=>rfl)|apply v_pass;(case hg|hn|hd=>rfl)|apply v_passN;(case hg|hn|hd=>rfl)|apply v_pure;(case hop=>first|apply p_move<;>rfl|apply p_nes<;>rfl|apply p_neBs<;>rfl|apply p_lt<;>rfl|apply p_ne<;>rfl|apply p_assign<;>rfl|apply p_not<;>rfl|apply p_lenSlice<;>rfl|apply p_extract0<;>rfl|apply p_extract1<;>rfl|apply p_extract2<;>rfl|apply p_extract<;>rfl|apply p_add;(case hx|hy=>rfl);(case h=>omega)|apply p_sub;(case hx|hy=>rfl);(case h=>omega)|apply p_lenString<;>rfl|apply p_neB<;>rfl|apply p_neNil<;>rfl|apply p_sliceL;(case hx|hl=>rfl);all_goals omega|apply p_sliceH;(case hx|hh=>rfl);all_goals omega|apply p_sliceLH;(case hx|hl|hh=>rfl);all_goals omega|apply p_slice3;(case hx|hh|hq=>rfl);all_goals omega|apply p_sliceStrL;(case hx|hl=>rfl);all_goals omega|apply p_sliceStrH;(case hx|hh=>rfl);all_goals omega|apply p_neS<;>rfl|apply p_neNilSlice<;>rfl);(case hd=>rfl)|apply v_condT;(case hc=>rfl)|apply v_condF;(case hc=>rfl)|apply v_cond;(case hc=>rfl);all_goals (intro h;(try simp only [reduceCtorEq,zzz] at h);first|done|(exfalso;omega)|(exfalso;exact h (by with_reducible assumption))|(exfalso;revert h;rw [imp_false];with_reducible assumption)|skip)|apply v_guardB;(case h1|h2=>rfl);all_goals (intro h;(try simp only [reduceCtorEq,zzz] at h);first|done|(exfalso;omega)|(exfalso;exact h (by with_reducible assumption))|(exfalso;revert h;rw [imp_false];with_reducible assumption)|skip)|fail)
     refine v_ret [] (outsA3 rfl rfl rfl rfl) (List.nil_sublist _) ?_
     have heq:=of_decide_eq_true (hq.trans (by assumption))
     refine ⟨rfl,_,_,_,rfl,.inl ⟨r'.take m,r'.drop (m+4),?_,s7,?_,rfl⟩⟩
     ·rw [hN,if_pos ⟨by omega,by omega,hle4,heq⟩]
     ·rw [List.length_drop]
      omega)
   | skip
  all_goals vx_show
def byteS (s:Option (List Int)):Prop := ∀ r,s=some r→∀ x∈r,0≤x∧x≤255
theorem numV_b {s:Option (List Int)}(h:byteS s) (most:Int):0≤numV most s∧numV most s≤9223372036854775807:=by
 unfold numV
 cases s with
 | none=>simp
 | some r =>
  simp only
  cases hd:dvk 0 r with
  | none=>simp
  | some p =>
   have:=vbytes_dvk (m:=p.1) (r':=p.2) (h r rfl) hd
   simp only
   split<;>omega
theorem dvk_sub {r:List Int}{m:Int}{r':List Int}(h:dvk 0 r=some (m,r')):∀ x∈r',x∈r:=fun x hx=>by
 obtain ⟨-,h2⟩:=dvk_len r 0 m r' h
 rw [h2] at hx
 exact List.mem_of_mem_drop hx
theorem numS_b {s:Option (List Int)}(h:byteS s) (most:Int):byteS (numS most s):=by
 unfold numS
 cases s with
 | none=>exact h
 | some r =>
  simp only
  cases hd:dvk 0 r with
  | none=>intro r h;cases h
  | some p =>
   simp only
   split
   ·intro r h;cases h
   ·intro r2 h2 x hx
    cases h2
    exact h r rfl x (dvk_sub (m:=p.1) (r':=p.2) hd x hx)
theorem rawS_b {s:Option (List Int)}(h:byteS s) (most:Int):byteS (rawS most s):=by
 unfold rawS
 cases s with
 | none=>exact h
 | some r =>
  simp only
  cases hd:dvk 0 r with
  | none=>intro r h;cases h
  | some p =>
   simp only
   split
   ·intro r h;cases h
   ·intro r2 h2 x hx
    cases h2
    exact h r rfl x (dvk_sub (m:=p.1) (r':=p.2) hd x (List.mem_of_mem_drop hx))
theorem rawB_len (s:Option (List Int)) (most:Nat):(rawB most s).length≤most:=by
 unfold rawB
 cases s with
 | none=>simp
 | some r =>
  simp only
  cases hd:dvk 0 r with
  | none=>simp
  | some p =>
   simp only
   split
   ·simp
   ·rw [List.length_take];omega
theorem txt_len (s:Option (List Int)):(strL (rawB 1048576 s)).size≤maxLen:=by
 rw [strL_size]
 have:=rawB_len s 1048576
 simp only [maxLen]
 exact Nat.le_trans this (by decide)
abbrev nV (s:Option (List Int)):Int:=numV 9223372036854775807 s
abbrev nS (s:Option (List Int)):Option (List Int):=numS 9223372036854775807 s
theorem num_v {m:Int}(r:List Int) (h0:0≤m) (h1:m≤9223372036854775807):nV (some (vbytes m++r))=m∧nS (some (vbytes m++r))=some r:=by
 simp only [nV,nS,numV,numS,dvk_vbytes r h0 h1]
 rw [if_neg (by omega),if_neg (by omega)]
 exact ⟨rfl,rfl⟩
theorem raw_v {most:Int}(bl r:List Int) (h:(bl.length:Int)≤most) (hm:bl.length≤1048576):rawB most (some (vbytes bl.length++bl++r))=bl∧rawS most (some (vbytes bl.length++bl++r))=some r:=by
 rw [List.append_assoc]
 simp only [rawB,rawS,dvk_vbytes (m:=bl.length) (bl++r) (by omega) (by omega),List.length_append]
 have e:¬ (most<(bl.length:Int)∨((bl.length+r.length:Nat):Int)<bl.length):=by omega
 rw [if_neg e,if_neg e]
 simp
theorem num_inv {s:Option (List Int)}(hb:byteS s) {r':List Int}(h:nS s=some r'):s=some (vbytes (nV s)++r'):=by
 cases s with
 | none=>cases h
 | some r =>
  simp only [nS,nV,numS,numV] at h ⊢
  cases hd:dvk 0 r with
  | none=>rw [hd] at h;cases h
  | some p =>
   rw [hd] at h
   have:=vbytes_dvk (m:=p.1) (r':=p.2) (hb r rfl) hd
   simp only at h ⊢
   rw [if_neg (by omega)] at h ⊢
   cases h
   rw [← this.2.2]
theorem raw_inv {s:Option (List Int)}(hb:byteS s) {most:Int}{r':List Int}(h:rawS most s=some r'):s=some (vbytes (rawB most s).length++rawB most s++r'):=by
 cases s with
 | none=>cases h
 | some r =>
  simp only [rawS,rawB] at h ⊢
  cases hd:dvk 0 r with
  | none=>rw [hd] at h;cases h
  | some p =>
   rw [hd] at h
   have:=vbytes_dvk (m:=p.1) (r':=p.2) (hb r rfl) hd
   simp only at h ⊢
   by_cases hc:most<p.1∨(p.2.length:Int)<p.1
   ·rw [if_pos hc] at h;cases h
   ·rw [if_neg hc] at h ⊢
    cases h
    have e:((p.2.take p.1.toNat).length:Int)=p.1:=by rw [List.length_take];omega
    rw [e,List.append_assoc,List.take_append_drop,← this.2.2]
theorem raw_byte {s:Option (List Int)}(hb:byteS s) (most:Int):∀ x∈rawB most s,0≤x∧x≤255:=by
 intro x hx
 cases s with
 | none=>cases hx
 | some r =>
  simp only [rawB] at hx
  cases hd:dvk 0 r with
  | none=>rw [hd] at hx;cases hx
  | some p =>
   rw [hd] at hx
   simp only at hx
   split at hx
   ·cases hx
   ·exact hb r rfl x (dvk_sub (m:=p.1) (r':=p.2) hd x (List.mem_of_mem_take hx))
end Go.Proofs.YtpemabgfmnhhnaaGreatDoor
/-
  What is read of a file, in plain Lean: of one that is cut off, and of what was read again.
-/
namespace Go.Proofs.YtpemabgfmnhhnaaGreatDoor
section
variable {α:Type}(enc:Int→α→List Int) (dec:Int→List Int→Option α)
def headF (most:Int) (hd:List Int):Int×Int×Bool:=(numV 2 (some hd),numV most (numS 2 (some hd)),decide (numS most (numS 2 (some hd))=some []))
noncomputable def readF (B:List Int):Option (Int×List α×Nat) :=
 match nextF B with
 | none=>none
 | some (hd,r) =>
  if (headF B.length hd).2.2=true∧((headF B.length hd).1=1∨(headF B.length hd).1=2)∧(headF B.length hd).2.1≤(recsF (dec (headF B.length hd).1) B.length r).1.length then
   some ((headF B.length hd).1,(recsF (dec (headF B.length hd).1) B.length r).1,B.length-(recsF (dec (headF B.length hd).1) B.length r).2.length)
  else none
theorem readF_none {B:List Int}(h:nextF B=none):readF dec B=none:=by
 unfold readF;rw [h]
theorem readF_some {B hd r:List Int}(h:nextF B=some (hd,r)):readF dec B =
 if (headF B.length hd).2.2=true∧((headF B.length hd).1=1∨(headF B.length hd).1=2)∧(headF B.length hd).2.1≤(recsF (dec (headF B.length hd).1) B.length r).1.length then
  some ((headF B.length hd).1,(recsF (dec (headF B.length hd).1) B.length r).1,B.length-(recsF (dec (headF B.length hd).1) B.length r).2.length)
 else none:=by
 conv=>lhs;unfold readF
 rw [h]
def fileB (f:Int) (n:Nat) (xs:List α):List Int:=frB (vbytes f++vbytes (n:Nat))++flatF (enc f) xs
theorem headB_ok {f:Int}{n:Nat}:okF (vbytes f++vbytes (n:Nat)):=by
 have h1:=vbytes_len f
 have h2:=vbytes_len (n:Nat)
 unfold okF
 rw [List.length_append]
 omega
theorem headF_of {f:Int}{n:Nat}{m:Int}(hf:f=1∨f=2) (hn:(n:Int)≤9223372036854775807) (hm:(n:Int)≤m):headF m (vbytes f++vbytes (n:Nat))=(f,(n:Int),true):=by
 have d1:dvk 0 (vbytes f++vbytes (n:Nat))=some (f,vbytes (n:Nat)):=dvk_vbytes _ (by omega) (by omega)
 have d2:dvk 0 (vbytes (n:Nat))=some ((n:Int),[]):=by
  have:=dvk_vbytes (m:=(n:Int)) [] (by omega) hn
  rwa [List.append_nil] at this
 unfold headF numS numV
 simp only [d1]
 rw [if_neg (by omega),if_neg (by omega)]
 simp only [d2]
 rw [if_neg (by omega),if_neg (by omega)]
 simp
theorem headF_over {f:Int}{n:Nat}{m:Int}(hf:f=1∨f=2) (hn:(n:Int)≤9223372036854775807) (hm:m<(n:Int)):(headF m (vbytes f++vbytes (n:Nat))).2.2=false:=by
 have d1:dvk 0 (vbytes f++vbytes (n:Nat))=some (f,vbytes (n:Nat)):=dvk_vbytes _ (by omega) (by omega)
 have d2:dvk 0 (vbytes (n:Nat))=some ((n:Int),[]):=by
  have:=dvk_vbytes (m:=(n:Int)) [] (by omega) hn
  rwa [List.append_nil] at this
 unfold headF numS numV
 simp only [d1]
 rw [if_neg (by omega)]
 simp only [d2]
 rw [if_pos (by omega)]
 simp
def endN (f:Int) (n:Nat) (xs:List α) (i:Nat):Nat:=(frB (vbytes f++vbytes (n:Nat))).length+(flatF (enc f) (xs.take i)).length
theorem readF_cut {f:Int}{n m:Nat}{xs:List α}(hf:f=1∨f=2) (hn:n≤xs.length) (hx:∀ x∈xs,okC (enc f) (dec f) x) (hbig:(xs.length:Int)≤9223372036854775807) (hm:m≤(fileB enc f n xs).length) :
 (m<endN enc f n xs n→readF dec ((fileB enc f n xs).take m)=none) ∧
 (¬ m<endN enc f n xs n→∃ K,n≤K∧K≤xs.length∧endN enc f n xs K≤m∧(∀ i,i≤xs.length→endN enc f n xs i≤m→i≤K)∧readF dec ((fileB enc f n xs).take m)=some (f,xs.take K,endN enc f n xs K)):=by
 have hb:byteL (fileB enc f n xs):=(frB_byte ((vbytes_byte (by omega)).app (vbytes_byte (by omega))) headB_ok).app (flatF_byte _ _ hx)
 have hT:(fileB enc f n xs).length=(frB (vbytes f++vbytes (n:Nat))).length+(flatF (enc f) xs).length:=by unfold fileB;rw [List.length_append]
 by_cases hc:m<(frB (vbytes f++vbytes (n:Nat))).length
 ·have hno:nextF ((fileB enc f n xs).take m)=none:=nextF_cut headB_ok hb hc
  refine ⟨fun _=>readF_none dec hno,fun h=>absurd ?_ h⟩
  unfold endN
  omega
 ·have ht:(fileB enc f n xs).take m=frB (vbytes f++vbytes (n:Nat))++(flatF (enc f) xs).take (m-(frB (vbytes f++vbytes (n:Nat))).length):=by
   unfold fileB
   rw [List.take_append,List.take_of_length_le (by omega)]
  have hl:((fileB enc f n xs).take m).length=m:=by rw [List.length_take];omega
  have hnx:nextF ((fileB enc f n xs).take m)=some (vbytes f++vbytes (n:Nat),(flatF (enc f) xs).take (m-(frB (vbytes f++vbytes (n:Nat))).length)):=by rw [ht];exact nextF_fr _ headB_ok
  have hr:=cut_recs' (enc f) (dec f) (xs:=xs) (m:=m-(frB (vbytes f++vbytes (n:Nat))).length) (f:=m) hx (by omega) (by omega)
  have w1:=wholeN_le (enc f) xs (m-(frB (vbytes f++vbytes (n:Nat))).length)
  have w2:=wholeN_fits (enc f) xs (m-(frB (vbytes f++vbytes (n:Nat))).length)
  have w3:=wholeN_most (enc f) xs (m-(frB (vbytes f++vbytes (n:Nat))).length)
  generalize hK:wholeN (enc f) xs (m-(frB (vbytes f++vbytes (n:Nat))).length)=K at *
  have hmono:∀ i,i≤K→(flatF (enc f) (xs.take i)).length≤(flatF (enc f) (xs.take K)).length:=fun i hi=>by
   have:=flatF_len_take (enc f) (xs.take K) i
   rwa [List.take_take,Nat.min_eq_left hi] at this
  have hmn:=flatF_many (enc f) (xs.take n)
  rw [List.length_take,Nat.min_eq_left hn] at hmn
  constructor
  ·intro h
   rw [readF_some dec hnx,hl]
   by_cases hmn2:(n:Int)≤(m:Int)
   ·rw [headF_of hf (by omega) hmn2]
    simp only
    rw [hr,if_neg]
    rintro ⟨-,-,h3⟩
    rw [List.length_take] at h3
    have:=hmono n (by omega)
    unfold endN at h
    omega
   ·rw [if_neg]
    rintro ⟨h1,-,-⟩
    rw [headF_over hf (by omega) (by omega)] at h1
    cases h1
  ·intro h
   unfold endN at h
   have hnK:n≤K:=w3 n hn (by omega)
   refine ⟨K,hnK,w1,by unfold endN;omega,fun i hi h2=>w3 i hi (by unfold endN at h2;omega),?_⟩
   rw [readF_some dec hnx,hl,headF_of hf (by omega) (by omega)]
   simp only
   rw [hr,if_pos ⟨trivial,hf,by rw [List.length_take];omega⟩]
   simp only [Option.some.injEq,Prod.mk.injEq,true_and]
   rw [List.length_drop,List.length_take]
   unfold endN
   omega
end
end Go.Proofs.YtpemabgfmnhhnaaGreatDoor
/-
  rectwo (layer 17), the first part: Encode.
-/
namespace Go.Proofs.YtpemabgfmnhhnaaGreatDoor
open Go.Vx Go.ChangeShapes Go.WideShapes Go.ChangeAt Go.RowKit
abbrev twoW (wb pb xb:Nat) (sv:Value) (k r n i:Int) (c:Cm) (iv:Value):OH:=[(wb,.cells [sv].toArray 130 (0,0)),(pb,.cells [.pointer (some ⟨wb,0,none⟩)].toArray 128 (0,0)),(xb,.cells (recL k r n i c iv).toArray 42 (0,0))]
def PutsW (G0:GH) (f:FuncId) (wb pb xb:Nat) (k r n i:Int) (c:Cm) (iv:Value) (add:List Int):Prop := ∀ (G:GH) (sv:Value) (l:List Int),GH.le G0 G→Sl G 1 (IntR .u8) sv l→l.length≤50000 →
 Con Tryz.prog f #[.pointer (some ⟨pb,0,none⟩),.pointer (some ⟨xb,0,none⟩)] G (twoW wb pb xb sv k r n i c iv) (fun r' G' μ'=>∃ v',μ'=twoW wb pb xb v' k r n i c iv∧Sl G' 1 (IntR .u8) v' (l++add))
theorem enc1_s (G0:GH) (wb pb xb:Nat) (k r n i:Int) (c:Cm) (iv:Value) (hr:r≤9223372036854775807) (hn:n≤9223372036854775807):PutsW G0 138 wb pb xb k r n i c iv (vbytes r++vbytes n):=by
 intro G sv l hle hs hl
 (refine v_enter Tryz.func138 rfl Tryz.ntmps138 rfl ?_;intro B _)
 repeat' (first|apply v_seq|apply v_region|apply v_pure;(case hop=>(apply p_fieldAddrB<;>rfl));(case hd=>rfl)|apply v_read;(case hop=>(apply r_load1;rfl;(apply Cell.own;(case h=>repeat first|exact mhd _|apply mtl);rfl)));(case hd=>rfl)|fail)
 refine v_call (μ1:=[(wb,_)]) (μ2:=_) rfl (wnumber_s wb r hs (by omega) hr) (PickA.perm (by repeat (exact PickA.here _))) rfl ?_
 rintro r1 G1 _ hle1 ⟨v1,rfl,h1⟩
 repeat' (first|apply v_region|apply v_nil|apply v_pure;(case hop=>(apply p_fieldAddrB<;>rfl));(case hd=>rfl)|apply v_read;(case hop=>(apply r_load1;rfl;(apply Cell.own;(case h=>repeat first|exact mhd _|apply mtl);rfl)));(case hd=>rfl)|fail)
 refine v_call (μ1:=[(wb,_)]) (μ2:=_) rfl (wnumber_s wb n h1 (by have:=(vbytes_len r).1;simp;omega) hn) (PickA.perm (by repeat (exact PickA.here _))) rfl ?_
 rintro r2 G2 _ hle2 ⟨v2,rfl,h2⟩
 repeat' (first|apply v_nil)
 refine v_end [(wb,_),(pb,_),(xb,_)] (outsA0 rfl) (by repeat (exact List.Sublist.refl _)) ?_
 exact ⟨v2,rfl,by rw [List.append_assoc] at h2;exact h2⟩
theorem enc2_s (G0:GH) (wb pb xb:Nat) (k r n i:Int) (c:Cm) (iv:Value) (hi:i≤9223372036854775807):PutsW G0 139 wb pb xb k r n i c iv (vbytes i):=by
 intro G sv l hle hs hl
 (refine v_enter Tryz.func139 rfl Tryz.ntmps139 rfl ?_;intro B _)
 repeat' (first|apply v_region|apply v_pure;(case hop=>(apply p_fieldAddrB<;>rfl));(case hd=>rfl)|apply v_read;(case hop=>(apply r_load1;rfl;(apply Cell.own;(case h=>repeat first|exact mhd _|apply mtl);rfl)));(case hd=>rfl)|fail)
 refine v_call (μ1:=[(wb,_)]) (μ2:=_) rfl (wnumber_s wb i hs (by omega) hi) (PickA.perm (by repeat (exact PickA.here _))) rfl ?_
 rintro r1 G1 _ hle1 ⟨v1,rfl,h1⟩
 repeat' (first|apply v_nil)
 refine v_end [(wb,_),(pb,_),(xb,_)] (outsA0 rfl) (by repeat (exact List.Sublist.refl _)) ?_
 exact ⟨v1,rfl,h1⟩
theorem enc3_s (G0:GH) (wb pb xb:Nat) (k r n i:Int) (c:Cm) (iv:Value) (hc:c.ok) (hk:c.key.size≤1000) (hv:c.val.size≤1000) (ho:c.old.size≤1000):PutsW G0 140 wb pb xb k r n i c iv (vbytes c.kind++putW (wantB 2 c.kind) c 6):=by
 intro G sv l hle hs hl
 (refine v_enter Tryz.func140 rfl Tryz.ntmps140 rfl ?_;intro B _)
 repeat' (first|apply v_region|apply v_pure;(case hop=>(apply p_fieldAddrB<;>rfl));(case hd=>rfl)|apply v_read;(case hop=>first|apply r_loadNo;(case hx=>rfl);(case h=>repeat first|exact mhd _|apply mtl);(case hd=>repeat first|with_reducible exact dt_nil|apply dt_here);(case hn=>rfl)|apply r_load1;rfl;(apply Cell.own;(case h=>repeat first|exact mhd _|apply mtl);rfl)|fail);(case hd=>rfl)|fail)
 refine v_call (μ1:=[(wb,_)]) (μ2:=_) rfl (cputV_s 2 c hc hk hv ho wb hs (by omega)) (PickA.perm (by repeat (exact PickA.here _))) rfl ?_
 rintro r1 G1 _ hle1 ⟨v1,rfl,h1⟩
 repeat' (first|apply v_nil)
 refine v_end [(wb,_),(pb,_),(xb,_)] (outsA0 rfl) (by repeat (exact List.Sublist.refl _)) ?_
 exact ⟨v1,rfl,by rw [List.append_assoc] at h1;exact h1⟩
theorem enc4_s {G0:GH}(wb pb xb:Nat) (k r n i:Int) (c:Cm) {A:Option Addr}{cp:Nat}{im:List Int}(hi:Sl G0 1 (IntR .u8) (.slice A im.length cp) im) (hm:im.length≤40000):PutsW G0 141 wb pb xb k r n i c (.slice A im.length cp) (vbytes im.length++im):=by
 intro G sv l hle hs hl
 (refine v_enter Tryz.func141 rfl Tryz.ntmps141 rfl ?_;intro B _)
 repeat' (first|apply v_region|apply v_pure;(case hop=>(apply p_fieldAddrB<;>rfl));(case hd=>rfl)|apply v_read;(case hop=>(apply r_load1;rfl;(apply Cell.own;(case h=>repeat first|exact mhd _|apply mtl);rfl)));(case hd=>rfl)|fail)
 refine v_call (μ1:=[(wb,_)]) (μ2:=_) rfl (wraw_s wb hs (hi.mono hle) (by omega) (by omega)) (PickA.perm (by repeat (exact PickA.here _))) rfl ?_
 rintro r1 G1 _ hle1 ⟨v1,rfl,h1⟩
 repeat' (first|apply v_nil)
 refine v_end [(wb,_),(pb,_),(xb,_)] (outsA0 rfl) (by repeat (exact List.Sublist.refl _)) ?_
 exact ⟨v1,rfl,by rw [List.append_assoc] at h1;exact h1⟩
theorem whenW_s {G0:GH}{f:FuncId} [Callable Tryz.prog f] {wb pb xb:Nat}{k r n i:Int}{c:Cm}{iv:Value}{add:List Int}(hf:PutsW G0 f wb pb xb k r n i c iv add) (b:Bool) {G:GH}{sv:Value}{l:List Int}(hle:GH.le G0 G) (hs:Sl G 1 (IntR .u8) sv l) (hl:l.length≤50000) :
 Con Tryz.prog 173 #[.bool b,.func (.func f) #[] #[.pointer (some ⟨pb,0,none⟩),.pointer (some ⟨xb,0,none⟩)]] G (twoW wb pb xb sv k r n i c iv) (fun r' G' μ'=>∃ v',μ'=twoW wb pb xb v' k r n i c iv∧Sl G' 1 (IntR .u8) v' (l++(if b then add else []))):=by
 have q:=hf G sv l hle hs hl
 (refine v_enter Tryz.func173 rfl Tryz.ntmps173 rfl ?_;intro B _)
 cases b
 ·repeat' (first|apply v_seq|apply v_region|apply v_nil|apply v_skip|apply v_pure;(case hop=>(apply p_move<;>rfl));(case hd=>rfl)|apply v_condF;(case hc=>rfl)|fail)
  refine v_end [(wb,_),(pb,_),(xb,_)] (outsA0 rfl) (by repeat (exact List.Sublist.refl _)) ?_
  exact ⟨sv,rfl,by simpa using hs⟩
 ·repeat' (first|apply v_seq|apply v_region|apply v_nil|apply v_pure;(case hop=>(apply p_move<;>rfl));(case hd=>rfl)|apply v_condT;(case hc=>rfl)|fail)
  refine v_callC (first:=[]) (captured:=[.pointer (some ⟨pb,0,none⟩),.pointer (some ⟨xb,0,none⟩)]) (vs:=[]) rfl rfl q (List.Perm.refl _) rfl ?_
  rintro r1 G1 _ hle1 ⟨v1,rfl,h1⟩
  repeat' (first|apply v_nil)
  refine v_end [(wb,_),(pb,_),(xb,_)] (outsA0 rfl) (by repeat (exact List.Sublist.refl _)) ?_
  exact ⟨v1,rfl,by simpa using h1⟩
def tailT (x:Rc):List Int:=(if x.kind=1∨x.kind=2 then vbytes x.round++vbytes x.node else [])++(if x.kind=1 then [] else vbytes x.index)++(if x.kind=2∨x.kind=3 then vbytes x.cmd.kind++putW (wantB 2 x.cmd.kind) x.cmd 6 else [])++(if x.kind=4 then vbytes x.image.length++x.image else [])
def encT (x:Rc):List Int:=vbytes (x.kind+16)++tailT x
abbrev clo (f:FuncId) (pb xb:Nat):Value:=.func (.func f) #[] #[.pointer (some ⟨pb,0,none⟩),.pointer (some ⟨xb,0,none⟩)]
theorem lenIf {b:Bool}{l a:List Int}{m p:Nat}(h:l.length≤m) (h2:a.length≤p):(l++(if b=true then a else [])).length≤m+p:=by
 rw [List.length_append]
 cases b<;>simp<;>omega
def walkL (k:Int) (a1 a2 a3 a4:List Int):List Int:=(((if k=1∨k=2 then a1 else [])++(if k=1 then [] else a2))++(if k=2∨k=3 then a3 else []))++(if k=4 then a4 else [])
theorem walkW_s {G0:GH}{wb pb xb:Nat}{k k' r n i:Int}{c:Cm}{iv:Value}{a1 a2 a3 a4:List Int}(hk:k=1∨k=2∨k=3∨k=4) (h1:PutsW G0 138 wb pb xb k' r n i c iv a1) (h2:PutsW G0 139 wb pb xb k' r n i c iv a2) (h3:PutsW G0 140 wb pb xb k' r n i c iv a3) (h4:PutsW G0 141 wb pb xb k' r n i c iv a4)
 (l1:a1.length≤100) (l2:a2.length≤100) (l3:a3.length≤10000) {G:GH} {sv:Value} {l:List Int} (hle:GH.le G0 G) (hs:Sl G 1 (IntR .u8) sv l) (hl:l.length≤1000) :
 Con Tryz.prog 137 #[.int .i64 k,clo 138 pb xb,clo 139 pb xb,clo 140 pb xb,clo 141 pb xb] G (twoW wb pb xb sv k' r n i c iv) (fun r' G' μ'=>∃ v',μ'=twoW wb pb xb v' k' r n i c iv∧Sl G' 1 (IntR .u8) v' (l++walkL k a1 a2 a3 a4)):=by
 (refine v_enter Tryz.func137 rfl Tryz.ntmps137 rfl ?_;intro B _)
 obtain rfl|rfl|rfl|rfl:=hk
 all_goals
  (repeat' (first|apply v_seq|apply v_region|apply v_take;(case hg=>rfl)|apply v_pass;(case hg|hn|hd=>rfl)|apply v_pure;(case hop=>first|apply p_move<;>rfl|apply p_eqs<;>rfl|apply p_eq<;>rfl|apply p_pickT<;>rfl|apply p_pickF<;>rfl|fail);(case hd=>rfl)|apply v_guardB;(case h1|h2=>rfl);all_goals (intro h;(try simp only [reduceCtorEq,zzz] at h);try (exfalso;omega))|fail)
   refine v_call (μ1:=twoW wb pb xb sv k' r n i c iv) (μ2:=[]) rfl (whenW_s h1 _ hle hs (by omega)) (by simp) rfl ?_
   rintro r1 G1 _ hle1 ⟨v1,rfl,s1⟩
   repeat' (first|apply v_seq|apply v_region|apply v_nil|apply v_pure;(case hop=>first|apply p_move<;>rfl|apply p_nes<;>rfl|apply p_ne<;>rfl|fail);(case hd=>rfl)|fail)
   refine v_call (μ1:=twoW wb pb xb v1 k' r n i c iv) (μ2:=[]) rfl (whenW_s h2 _ (GH.le_trans hle hle1) s1 (Nat.le_trans (lenIf hl l1) (by decide))) (by simp) rfl ?_
   rintro r2 G2 _ hle2 ⟨v2,rfl,s2⟩
   repeat' (first|apply v_seq|apply v_region|apply v_nil|apply v_take;(case hg=>rfl)|apply v_pass;(case hg|hn|hd=>rfl)|apply v_pure;(case hop=>first|apply p_move<;>rfl|apply p_eqs<;>rfl|apply p_eq<;>rfl|apply p_pickT<;>rfl|apply p_pickF<;>rfl|fail);(case hd=>rfl)|apply v_guardB;(case h1|h2=>rfl);all_goals (intro h;(try simp only [reduceCtorEq,zzz] at h);try (exfalso;omega))|fail)
   refine v_call (μ1:=twoW wb pb xb v2 k' r n i c iv) (μ2:=[]) rfl (whenW_s h3 _ (GH.le_trans (GH.le_trans hle hle1) hle2) s2 (Nat.le_trans (lenIf (lenIf hl l1) l2) (by decide))) (by simp) rfl ?_
   rintro r3 G3 _ hle3 ⟨v3,rfl,s3⟩
   repeat' (first|apply v_region|apply v_nil|apply v_pure;(case hop=>first|apply p_move<;>rfl|apply p_eqs<;>rfl|apply p_eq<;>rfl|fail);(case hd=>rfl)|fail)
   refine v_call (μ1:=twoW wb pb xb v3 k' r n i c iv) (μ2:=[]) rfl (whenW_s h4 _ (GH.le_trans (GH.le_trans (GH.le_trans hle hle1) hle2) hle3) s3 (Nat.le_trans (lenIf (lenIf (lenIf hl l1) l2) l3) (by decide))) (by simp) rfl ?_
   rintro r4 G4 _ hle4 ⟨v4,rfl,s4⟩
   repeat' (first|apply v_nil)
   refine v_end (twoW wb pb xb v4 k' r n i c iv) (outsA0 rfl) (by simp) ?_
   refine ⟨v4,rfl,?_⟩
   simpa [dec_eq,walkL] using s4)
def zeroC:Cm:=⟨0,0,0,.empty,.empty,.empty,0⟩
theorem setP_kind (c:Cm) (j:Nat) (s:Option (List Int)):(c.setP j s).kind=c.kind:=by unfold Cm.setP;split<;>rfl
def getW (w:Nat→Bool) (s:Option (List Int)):Nat→Cm×Option (List Int)
 | 0=>({ zeroC with kind:=numV 9223372036854775807 s },numS 9223372036854775807 s)
 | k+1=>if w k then ((getW w s k).1.setP k (getW w s k).2,partS k (getW w s k).2) else getW w s k
theorem getW_kind (w:Nat→Bool) (s:Option (List Int)):∀ k,(getW w s k).1.kind=numV 9223372036854775807 s
 | 0=>rfl
 | k+1=>by
  rw [getW]
  split
  ·rw [setP_kind];exact getW_kind w s k
  ·exact getW_kind w s k
theorem cgetV_s {G:GH}{l:List Int}{bv:Value}{s:Option (List Int)}(v:Int) (rb a:Nat) (no:Int) (hs:Sl G 1 (IntR .u8) bv l) (hl:l.length≤1048576) (hr:RdS l a no s) :
 Con Tryz.prog 176 #[.pointer (some ⟨rb,0,none⟩),.int .i64 v] G [(rb,rdO bv a no)]
  (fun r G' μ'=>r=.agg (getW (wantB v (nV s)) s 6).1.cells.toArray∧∃ a' no',μ'=[(rb,rdO bv (a':Nat) no')]∧RdS l a' no' (getW (wantB v (nV s)) s 6).2):=by
 have qn:=rdNumber_s rb a no 9223372036854775807 hs hl hr
 have hk0:=getW_kind (wantB v (nV s)) s
 have e0:getW (wantB v (nV s)) s 0=({ zeroC with kind:=numV 9223372036854775807 s },numS 9223372036854775807 s):=rfl
 unfold nV at *
 generalize numV 9223372036854775807 s=kd at *
 generalize hw:wantB v kd=wf at *
 (refine v_enter Tryz.func176 rfl Tryz.ntmps176 rfl ?_;intro B _)
 repeat' (first|apply v_seq|apply v_region|apply v_nil|apply v_pure;(case hop=>(apply p_move<;>rfl));(case hd=>rfl)|apply v_alloc;(case hz|hd=>rfl);intro b|fail)
 rename Nat=>ob
 refine v_call (μ1:=[(rb,_)]) (μ2:=_) rfl qn (PickA.perm (by repeat (first|exact PickA.last|apply PickA.cons))) rfl ?_
 rintro _ _ _ hle0 ⟨rfl,rfl,a0,no0,rfl,hr0⟩
 repeat' (first|apply v_seq|apply v_region|apply v_nil|apply v_pure;(case hop=>(apply p_build;(case hz=>rfl);(case hv=>(simp only [List.map_cons,List.map_nil];repeat (first|with_reducible exact evs_nil|apply evs_cons;(case h1=>rfl))));(case hb=>(apply bldL;repeat (first|exact bld_nil|apply bld_cons;(case hpf|hc|hs|hl=>rfl);(case ho=>((repeat (first|with_reducible exact ov_nil|apply ov_cons));done)))))));(case hd=>rfl)|apply v_alloc;(case hz|hd=>rfl);intro b|apply v_store;(case hp|hx|hc|hsz|h1=>rfl);(case hb=>repeat exact mhd _);(case hfit=>exact nle rfl);(case hov=>((repeat (first|with_reducible exact ov_nil|apply ov_cons));done));(case hu=>repeat (exact Upd.here _ _))|fail)
 rename Nat=>cb
 refine v_call (μ1:=[]) (μ2:=_) rfl (parts_s _) (List.Perm.refl _) rfl ?_
 rintro r G' μ1 - ⟨rfl,pb,rfl,rfl⟩
 refine v_frz [(pb,_)] (by repeat (exact PickA.here _)) ?_
 intro G1 hle1 hG1
 have hpb:=hG1 pb _ (List.Mem.head _)
 repeat' (first|apply v_nil|apply v_block|apply v_pure;(case hop=>first|apply p_move<;>rfl|apply p_lenSlice<;>rfl|fail);(case hd=>rfl)|fail)
 refine v_perm (ν:=[(rb,rdO bv a0 no0),(cb,.cells ({ zeroC with kind:=kd }:Cm).cells.toArray 40 (0,0)),(ob,.cells zeroC.cells.toArray 40 (0,0))]) (by apply perm_of_count;intro p;simp only [List.append_eq,List.countP_append,List.countP_cons,List.countP_nil,Nat.zero_add,Nat.add_zero];try ac_rfl) ?_
 refine v_loop [13,12,11,0,1,5,4] (fun us G' μ'=>GH.le G1 G'∧∃ (k a':Nat) (no':Int),k≤6∧us=[Value.int .i64 (k:Int),.int .i64 6,.slice (some ⟨pb,0,none⟩) 6 6,.pointer (some ⟨rb,0,none⟩),.int .i64 v,.pointer (some ⟨cb,0,none⟩),.pointer (some ⟨ob,0,none⟩)]∧μ'=[(rb,rdO bv a' no'),(cb,.cells (getW wf s k).1.cells.toArray 40 (0,0)),(ob,.cells zeroC.cells.toArray 40 (0,0))]∧RdS l a' no' (getW wf s k).2) (fun us=>7-(headI us).toNat) rfl ⟨GH.le_refl _,0,a0,no0,by omega,rfl,by rw [e0],by rw [e0];exact hr0⟩ ?_
 rintro us G2 μ' ⟨hle2,k,a2,no2,hk6,rfl,rfl,hr2⟩
 by_cases hlt:k<6
 ·have hpk:=partsG (hle2 _ _ hpb) hlt
  have hwt:=wantedV_s G2 v kd k hlt
  rw [hw] at hwt
  have hrd:=read_s (getW wf s k).1 rb cb a2 k no2 hlt ((hs.mono hle1).mono hle2) hl hr2
  have e1:getW wf s (k+1)=if wf k then ((getW wf s k).1.setP k (getW wf s k).2,partS k (getW wf s k).2) else getW wf s k:=rfl
  have ek:=hk0 k
  generalize getW wf s k=gk at *
  obtain ⟨gc,gs⟩:=gk
  simp only at ek
  subst ek
  cases hwb:wf k
  all_goals
   rw [hwb] at hwt e1
   obtain rfl|rfl|rfl|rfl|rfl|rfl:k=0∨k=1∨k=2∨k=3∨k=4∨k=5:=by omega
  all_goals
   (simp only [if_true,if_false,Bool.false_eq_true] at e1
    repeat' (first|apply v_seq|apply v_region|apply v_nil|apply v_skip|apply v_block|apply v_blk|apply v_pure;(case hop=>first|apply p_move<;>rfl|apply p_lt<;>rfl|apply p_fieldAddrB<;>rfl|apply p_add;(case hx|hy=>rfl);(case h=>omega)|apply p_indexAddr;(case hx|hi=>rfl);(case h0|h=>omega)|fail);(case hd=>rfl)|apply v_condT;(case hc=>rfl)|apply v_condF;(case hc=>rfl)|apply v_cond;(case hc=>rfl);all_goals (intro h;(try simp only [reduceCtorEq,zzz] at h);try (exfalso;omega))|apply v_read;(case hop=>(apply r_loadN;rfl;exact CellsAt.frozen hpk;rfl));(case hd=>rfl)|apply v_callJ (hs:=hwt);(case ha|hd=>rfl)|apply v_read;(case hop=>first|apply r_loadNo;(case hx=>rfl);(case h=>repeat exact mhd _);(case hd=>repeat first|with_reducible exact dt_nil|apply dt_here);(case hn=>rfl)|apply r_load1;rfl;(apply Cell.own;(case h=>repeat first|exact mhd _|apply mtl);rfl)|fail);(case hd=>rfl)|apply v_alloc;(case hz|hd=>rfl);intro b|apply v_store;(case hp|hx|hc|hsz|h1=>rfl);(case hb=>repeat exact mhd _);(case hfit=>exact nle rfl);(case hov=>((repeat (first|with_reducible exact ov_nil|apply ov_cons));done));(case hu=>repeat (exact Upd.here _ _))|fail))
  all_goals first
   |(refine v_call (μ1:=[(rb,_),(cb,_)]) (μ2:=_) rfl hrd (PickA.perm (by repeat (first|exact PickA.last|exact PickA.here _|apply PickA.cons))) rfl ?_
     rintro r3 G3 _ hle3 ⟨a3,no3,rfl,hr3⟩
     repeat' (first|apply v_region|apply v_nil|apply v_blk|apply v_pure;(case hop=>first|apply p_move<;>rfl|apply p_add;(case hx|hy=>rfl);(case h=>omega)|fail);(case hd=>rfl)|fail)
     refine v_drop (ν:=[(rb,_),(cb,_),(ob,_)]) (by repeat (first|exact List.Sublist.refl _|apply List.Sublist.cons_cons|apply List.Sublist.cons)) ?_
     first
      | exact v_again rfl ⟨fun b o h=>hle3 b o (hle2 b o h),0+1,a3,no3,by omega,rfl,by rw [e1],by rw [e1];exact hr3⟩ (by simp [headI])
      | exact v_again rfl ⟨fun b o h=>hle3 b o (hle2 b o h),1+1,a3,no3,by omega,rfl,by rw [e1],by rw [e1];exact hr3⟩ (by simp [headI])
      | exact v_again rfl ⟨fun b o h=>hle3 b o (hle2 b o h),2+1,a3,no3,by omega,rfl,by rw [e1],by rw [e1];exact hr3⟩ (by simp [headI])
      | exact v_again rfl ⟨fun b o h=>hle3 b o (hle2 b o h),3+1,a3,no3,by omega,rfl,by rw [e1],by rw [e1];exact hr3⟩ (by simp [headI])
      | exact v_again rfl ⟨fun b o h=>hle3 b o (hle2 b o h),4+1,a3,no3,by omega,rfl,by rw [e1],by rw [e1];exact hr3⟩ (by simp [headI])
      | exact v_again rfl ⟨fun b o h=>hle3 b o (hle2 b o h),5+1,a3,no3,by omega,rfl,by rw [e1],by rw [e1];exact hr3⟩ (by simp [headI]))
   |(refine v_drop (ν:=[(rb,_),(cb,_),(ob,_)]) (by repeat (first|exact List.Sublist.refl _|apply List.Sublist.cons)) ?_
     first
      | exact v_again rfl ⟨hle2,0+1,a2,no2,by omega,rfl,by rw [e1],by rw [e1];exact hr2⟩ (by simp [headI])
      | exact v_again rfl ⟨hle2,1+1,a2,no2,by omega,rfl,by rw [e1],by rw [e1];exact hr2⟩ (by simp [headI])
      | exact v_again rfl ⟨hle2,2+1,a2,no2,by omega,rfl,by rw [e1],by rw [e1];exact hr2⟩ (by simp [headI])
      | exact v_again rfl ⟨hle2,3+1,a2,no2,by omega,rfl,by rw [e1],by rw [e1];exact hr2⟩ (by simp [headI])
      | exact v_again rfl ⟨hle2,4+1,a2,no2,by omega,rfl,by rw [e1],by rw [e1];exact hr2⟩ (by simp [headI])
      | exact v_again rfl ⟨hle2,5+1,a2,no2,by omega,rfl,by rw [e1],by rw [e1];exact hr2⟩ (by simp [headI]))
 ·obtain rfl:k=6:=by omega
  repeat' (first|apply v_seq|apply v_region|apply v_nil|apply v_exit;(case hp=>rfl)|apply v_pure;(case hop=>(apply p_lt<;>rfl));(case hd=>rfl)|apply v_cond;(case hc=>rfl);all_goals (intro h;(try simp only [reduceCtorEq,zzz] at h);try (exfalso;omega))|apply v_read;(case hop=>(apply r_loadNo;(case hx=>rfl);(case h=>repeat first|exact mhd _|apply mtl);(case hd=>repeat first|with_reducible exact dt_nil|apply dt_here);(case hn=>rfl)));(case hd=>rfl)|apply v_store;(case hp|hx|hc|hsz|h1=>rfl);(case hb=>repeat first|exact mhd _|apply mtl);(case hfit=>exact nle rfl);(case hov=>((repeat (first|with_reducible exact ov_nil|apply ov_cons));done));(case hu=>repeat first|exact Upd.here _ _|apply Upd.there)|fail)
  refine v_retM [(rb,_)] (outsM_cell (vs:=(getW wf s 6).1.cells) (e:=40) rfl rfl ?_ rfl) (by repeat (first|exact List.nil_sublist _|apply List.Sublist.cons_cons)) ?_
  ·exact .tail _ (.tail _ (.head _))
  ·exact ⟨rfl,a2,no2,rfl,hr2⟩
abbrev getK (s:Option (List Int)) (k:Nat):Cm×Option (List Int):=getW (wantB 1 (nV s)) s k
theorem partS_b {s:Option (List Int)}(h:byteS s) (j:Nat):byteS (partS j s):=by
 unfold partS
 split
 ·exact numS_b h _
 ·exact rawS_b h _
theorem setP_ok {c:Cm}(hc:c.ok) {s:Option (List Int)}(h:byteS s) (j:Nat):(c.setP j s).ok:=by
 obtain ⟨h1,h2,h3,h4,h5,h6,h7⟩:=hc
 have hn:=wf64 (numV_b h 9223372036854775807)
 have ht:=txt_len s
 unfold Cm.setP
 split<;>exact ⟨by assumption,by assumption,by assumption,by assumption,by assumption,by assumption,by assumption⟩
theorem zeroC_ok:zeroC.ok:=⟨by decide,by decide,by decide,by decide,by decide,by decide,by decide⟩
theorem getW_ok (w:Nat→Bool) {s:Option (List Int)}(h:byteS s):∀ k,(getW w s k).1.ok∧byteS (getW w s k).2
 | 0=>⟨⟨wf64 (numV_b h _),zeroC_ok.2⟩,numS_b h _⟩
 | k+1=>by
  obtain ⟨h1,h2⟩:=getW_ok w h k
  rw [getW]
  split
  ·exact ⟨setP_ok h1 h2 k,partS_b h2 k⟩
  ·exact ⟨h1,h2⟩
theorem part_num {c:Cm}{j:Nat}(hj:isNum j=true) (h0:0≤c.num j) (h1:c.num j≤9223372036854775807) (r:List Int):partS j (some (pbytes c j++r))=some r∧nV (some (pbytes c j++r))=c.num j:=by
 have:=num_v r h0 h1
 unfold partS pbytes
 rw [if_pos hj,if_pos hj]
 exact ⟨this.2,this.1⟩
theorem part_txt {c:Cm}{j:Nat}(hj:isNum j=false) (h1:(c.txt j).size≤1000) (r:List Int):partS j (some (pbytes c j++r))=some r∧strL (rawB 1048576 (some (pbytes c j++r)))=c.txt j:=by
 have:=raw_v (most:=1048576) (sbytes (c.txt j)) r (by rw [sbytes_length];omega) (by rw [sbytes_length];omega)
 rw [sbytes_length] at this
 unfold partS pbytes
 rw [if_neg (by rw [hj];decide),if_neg (by rw [hj];decide),this.1,this.2,strL_sbytes]
 exact ⟨rfl,rfl⟩
def cutC (c:Cm) (k:Nat):Cm:=⟨c.kind,if 0<k then c.client else 0,if 1<k then c.seq else 0,if 2<k then c.key else .empty,if 4<k then c.val else .empty,if 3<k then c.old else .empty,if 5<k then c.node else 0⟩
def fitP (w:Nat→Bool) (c:Cm) (k:Nat):Prop:=if isNum k then (w k=false→c.num k=0)∧0≤c.num k∧c.num k≤9223372036854775807 else (w k=false→c.txt k=.empty)∧(c.txt k).size≤1000
theorem cut_step {w:Nat→Bool}{c:Cm}{k:Nat}(hk:k<6) (hf:fitP w c k) {s:Option (List Int)}{t:List Int}(h:getW w s k=(cutC c k,some ((if w k then pbytes c k else [])++t))):getW w s (k+1)=(cutC c (k+1),some t):=by
 rw [getW,h]
 unfold fitP at hf
 cases hw:w k
 ·rw [hw] at hf
  simp only [if_false,Bool.false_eq_true,List.nil_append,Prod.mk.injEq,and_true]
  obtain rfl|rfl|rfl|rfl|rfl|rfl:k=0∨k=1∨k=2∨k=3∨k=4∨k=5:=by omega
  all_goals
   (simp [isNum,Cm.num,Cm.txt] at hf
    simp [cutC,hf])
 ·rw [hw] at hf
  simp only [if_true]
  obtain rfl|rfl|rfl|rfl|rfl|rfl:k=0∨k=1∨k=2∨k=3∨k=4∨k=5:=by omega
  ·have:=part_num (c:=c) (j:=0) rfl hf.2.1 hf.2.2 t
   rw [this.1];simp only [Cm.setP,this.2,cutC];rfl
  ·have:=part_num (c:=c) (j:=1) rfl hf.2.1 hf.2.2 t
   rw [this.1];simp only [Cm.setP,this.2,cutC];rfl
  ·have:=part_txt (c:=c) (j:=2) rfl hf.2 t
   rw [this.1];simp only [Cm.setP,this.2,cutC];rfl
  ·have:=part_txt (c:=c) (j:=3) rfl hf.2 t
   rw [this.1];simp only [Cm.setP,this.2,cutC];rfl
  ·have:=part_txt (c:=c) (j:=4) rfl hf.2 t
   rw [this.1];simp only [Cm.setP,this.2,cutC];rfl
  ·have:=part_num (c:=c) (j:=5) rfl hf.2.1 hf.2.2 t
   rw [this.1];simp only [Cm.setP,this.2,cutC];rfl
theorem getW_put {w:Nat→Bool}{c:Cm}(hk:0≤c.kind∧c.kind≤9223372036854775807) (hf:∀ k<6,fitP w c k) (r:List Int):getW w (some (vbytes c.kind++putW w c 6++r)) 6=(c,some r):=by
 have e:vbytes c.kind++putW w c 6++r=vbytes c.kind++((if w 0 then pbytes c 0 else [])++((if w 1 then pbytes c 1 else [])++((if w 2 then pbytes c 2 else [])++((if w 3 then pbytes c 3 else [])++((if w 4 then pbytes c 4 else [])++((if w 5 then pbytes c 5 else [])++r)))))):=by simp [putW]
 rw [e]
 have k0:=num_v ((if w 0 then pbytes c 0 else [])++((if w 1 then pbytes c 1 else [])++((if w 2 then pbytes c 2 else [])++((if w 3 then pbytes c 3 else [])++((if w 4 then pbytes c 4 else [])++((if w 5 then pbytes c 5 else [])++r)))))) hk.1 hk.2
 have s0:getW w (some (vbytes c.kind++((if w 0 then pbytes c 0 else [])++((if w 1 then pbytes c 1 else [])++((if w 2 then pbytes c 2 else [])++((if w 3 then pbytes c 3 else [])++((if w 4 then pbytes c 4 else [])++((if w 5 then pbytes c 5 else [])++r)))))))) 0=(cutC c 0,some ((if w 0 then pbytes c 0 else [])++((if w 1 then pbytes c 1 else [])++((if w 2 then pbytes c 2 else [])++((if w 3 then pbytes c 3 else [])++((if w 4 then pbytes c 4 else [])++((if w 5 then pbytes c 5 else [])++r))))))):=by
  rw [getW]
  simp only [nV,nS] at k0
  rw [k0.1,k0.2]
  rfl
 have s6:=cut_step (by omega) (hf 5 (by omega)) (cut_step (by omega) (hf 4 (by omega)) (cut_step (by omega) (hf 3 (by omega)) (cut_step (by omega) (hf 2 (by omega)) (cut_step (by omega) (hf 1 (by omega)) (cut_step (by omega) (hf 0 (by omega)) s0)))))
 rw [s6]
 rfl
theorem pnum_inv {s:Option (List Int)}(hb:byteS s) {c:Cm}{j:Nat}(hj:isNum j=true) (hc:c.num j=nV s) {r':List Int}(h:partS j s=some r'):s=some (pbytes c j++r'):=by
 unfold partS at h
 rw [if_pos hj] at h
 unfold pbytes
 rw [if_pos hj,hc]
 exact num_inv hb h
theorem ptxt_inv {s:Option (List Int)}(hb:byteS s) {c:Cm}{j:Nat}(hj:isNum j=false) (hc:c.txt j=strL (rawB 1048576 s)) {r':List Int}(h:partS j s=some r'):s=some (pbytes c j++r'):=by
 unfold partS at h
 rw [if_neg (by rw [hj];decide)] at h
 unfold pbytes
 rw [if_neg (by rw [hj];decide),hc,sbytes_strL (raw_byte hb _),strL_size]
 exact raw_inv hb h
theorem part_inv {s:Option (List Int)}(hb:byteS s) (c:Cm) {j:Nat}(hj:j<6) {r':List Int}(h:partS j s=some r'):s=some (pbytes (c.setP j s) j++r'):=by
 obtain rfl|rfl|rfl|rfl|rfl|rfl:j=0∨j=1∨j=2∨j=3∨j=4∨j=5:=by omega
 ·exact pnum_inv hb rfl rfl h
 ·exact pnum_inv hb rfl rfl h
 ·exact ptxt_inv hb rfl rfl h
 ·exact ptxt_inv hb rfl rfl h
 ·exact ptxt_inv hb rfl rfl h
 ·exact pnum_inv hb rfl rfl h
theorem pbytes_setP (c:Cm) {j k:Nat}(hjk:j<k) (hk:k<6) (s:Option (List Int)):pbytes (c.setP k s) j=pbytes c j:=by
 obtain rfl|rfl|rfl|rfl|rfl|rfl:k=0∨k=1∨k=2∨k=3∨k=4∨k=5:=by omega
 all_goals
  (obtain rfl|rfl|rfl|rfl|rfl:j=0∨j=1∨j=2∨j=3∨j=4:=by omega)<;>first|rfl|omega
theorem putW_setP (w:Nat→Bool) (c:Cm) {k:Nat}(hk:k<6) (s:Option (List Int)):∀ j,j≤k→putW w (c.setP k s) j=putW w c j
 | 0,_=>rfl
 | j+1,h=>by rw [putW,putW,putW_setP w c hk s j (by omega),pbytes_setP c (by omega) hk s]
theorem getW_inv (w:Nat→Bool) {s:Option (List Int)}(hb:byteS s):∀ (k:Nat) (t:List Int),k≤6→(getW w s k).2=some t→nS s=some (putW w (getW w s k).1 k++t)
 | 0,t,_,h=>h
 | k+1,t,hk,h=>by
  rw [getW] at h ⊢
  cases hw:w k
  ·rw [hw] at h
   simp only [if_false,Bool.false_eq_true] at h ⊢
   rw [putW,hw,if_neg (by decide),List.append_nil]
   exact getW_inv w hb k t (by omega) h
  ·rw [hw] at h
   simp only [if_true] at h ⊢
   have hp:=part_inv (getW_ok w hb k).2 (getW w s k).1 (by omega) h
   have ih:=getW_inv w hb k _ (by omega) hp
   rw [ih,putW,hw,if_pos rfl,putW_setP w _ (by omega) _ k (Nat.le_refl _),List.append_assoc]
theorem getW_all (w:Nat→Bool) {s:Option (List Int)}(hb:byteS s) {t:List Int}(h:(getW w s 6).2=some t):s=some (vbytes (getW w s 6).1.kind++putW w (getW w s 6).1 6++t):=by
 have h1:=getW_inv w hb 6 t (by omega) h
 have h2:=num_inv hb h1
 rw [getW_kind,List.append_assoc]
 exact h2
theorem cmd0 {c:Cm}(h:cmdI c=0):(1≤c.kind∧c.kind≤8)∧(0≤c.client∧c.client≤8)∧(0≤c.seq∧c.seq≤4294967296)∧(0≤c.node∧c.node≤9)∧(c.kind≠5→c.old=.empty):=by
 rw [cmdI_eq] at h
 unfold cmdE at h
 obtain ⟨h1,h⟩:=ite0 (by decide) h
 obtain ⟨h2,h⟩:=ite0 (by decide) h
 obtain ⟨h3,h⟩:=ite0 (by decide) h
 obtain ⟨h4,h⟩:=ite0 (by decide) h
 clear h3
 refine ⟨by omega,by omega,by omega,by omega,fun hk=>?_⟩
 exact nil_iff.2 (by omega)
set_option maxHeartbeats 4000000 in
theorem cmdFit {v:Int}{c:Cm}(h:cmdI c=0) (hv:(v=1∧c.kind≠5)∨v=2) (hs:c.key.size≤1000∧c.val.size≤1000∧c.old.size≤1000):∀ k<6,fitP (wantB v c.kind) c k:=by
 obtain ⟨c1,c2,c3,c4,c5⟩:=cmd0 h
 obtain ⟨hs1,hs2,hs3⟩:=hs
 rw [cmdI_eq] at h
 unfold cmdE at h
 obtain ⟨-,h⟩:=ite0 (by decide) h
 obtain ⟨-,h⟩:=ite0 (by decide) h
 obtain ⟨-,h⟩:=ite0 (by decide) h
 obtain ⟨h4,-⟩:=ite0 (by decide) h
 obtain ⟨kind,client,seq,key,val,old,node⟩:=c
 simp only at *
 have nk:key.size=0→key=.empty:=fun e=>nil_iff.2 e
 have nv:val.size=0→val=.empty:=fun e=>nil_iff.2 e
 have no:old.size=0→old=.empty:=fun e=>nil_iff.2 e
 intro k hk
 obtain ⟨rfl,hk5⟩|rfl:=hv
 ·obtain rfl|rfl|rfl|rfl|rfl|rfl:k=0∨k=1∨k=2∨k=3∨k=4∨k=5:=by omega
  all_goals
   (simp [fitP,isNum,wantB,hasOf,Cm.num,Cm.txt]
    first|omega|exact ⟨no (by omega),hs3⟩)
 ·obtain rfl|rfl|rfl|rfl|rfl|rfl|rfl|rfl:kind=1∨kind=2∨kind=3∨kind=4∨kind=5∨kind=6∨kind=7∨kind=8:=by omega
  all_goals
   (obtain rfl|rfl|rfl|rfl|rfl|rfl:k=0∨k=1∨k=2∨k=3∨k=4∨k=5:=by omega)
  all_goals
   (simp [fitP,isNum,wantB,cmdFields,hasOf,Cm.num,Cm.txt,band_0_1,band_0_2,band_0_4,band_0_8,band_0_16,band_3_1,band_3_2,band_3_4,band_3_8,band_3_16,band_11_1,band_11_2,band_11_4,band_11_8,band_11_16,band_15_1,band_15_2,band_15_4,band_15_8,band_15_16,band_16_1,band_16_2,band_16_4,band_16_8,band_16_16]
    first|omega|exact ⟨no (by omega),by omega⟩|exact ⟨nv (by omega),by omega⟩|exact ⟨nk (by omega),by omega⟩)
theorem getV_put {v:Int}{c:Cm}(h:cmdI c=0) (hv:(v=1∧c.kind≠5)∨v=2) (hs:c.key.size≤1000∧c.val.size≤1000∧c.old.size≤1000) (r:List Int) :
 getW (wantB v (nV (some (vbytes c.kind++putW (wantB v c.kind) c 6++r)))) (some (vbytes c.kind++putW (wantB v c.kind) c 6++r)) 6=(c,some r):=by
 obtain ⟨c1,c2,c3,c4,c5⟩:=cmd0 h
 have e:=(num_v (m:=c.kind) (putW (wantB v c.kind) c 6++r) (by omega) (by omega)).1
 rw [← List.append_assoc] at e
 rw [e]
 exact getW_put (by omega) (cmdFit h hv hs) r
theorem sbytes_wf (s:ByteArray):∀ x∈sbytes s,(Lit.int .u8 x).wf=true:=by
 intro x hx
 simp only [sbytes,List.mem_map] at hx
 obtain ⟨b,_,rfl⟩:=hx
 have:=b.toNat_lt
 exact WalkArith.wf_u8 (by omega)
theorem tbytes_wf (s:ByteArray) (hz:s.size≤100000):∀ x∈vbytes s.size++sbytes s,(Lit.int .u8 x).wf=true:=fun x hx=>by
 rcases List.mem_append.1 hx with hx|hx
 ·exact vbytes_wf (by omega) x hx
 ·exact sbytes_wf s x hx
theorem memwf {a b:List Int}(ha:∀ x∈a,(Lit.int .u8 x).wf=true) (hb:∀ x∈b,(Lit.int .u8 x).wf=true):∀ x∈a++b,(Lit.int .u8 x).wf=true:=fun x hx=>by
 rcases List.mem_append.1 hx with h|h
 ·exact ha x h
 ·exact hb x h
def decX (s:Option (List Int)):Rc :=
 if nV s=2∨nV s=3 then ⟨nV s,nV (nS s),nV (nS (nS s)),nV (nS (nS (nS s))),(getK (nS (nS (nS (nS s)))) 6).1,[]⟩
 else if nV s=4 then ⟨nV s,nV (nS s),nV (nS (nS s)),nV (nS (nS (nS s))),zeroC,rawB 32768 (nS (nS (nS (nS s))))⟩
 else ⟨nV s,nV (nS s),nV (nS (nS s)),nV (nS (nS (nS s))),zeroC,[]⟩
def decS (s:Option (List Int)):Option (List Int) :=
 if nV s=2∨nV s=3 then (getK (nS (nS (nS (nS s)))) 6).2
 else if nV s=4 then rawS 32768 (nS (nS (nS (nS s))))
 else nS (nS (nS (nS s)))
theorem decX_ok {s:Option (List Int)}(h:byteS s):(decX s).cmd.ok:=by
 have h4:=numS_b (numS_b (numS_b (numS_b h 9223372036854775807) 9223372036854775807) 9223372036854775807) 9223372036854775807
 unfold decX
 split
 ·exact (getW_ok _ h4 6).1
 ·split<;>exact zeroC_ok
theorem older0 {x:Rc}(h:olderI x=0):recI x.kind x.round x.node x.index x.cmd x.image.length=0∧((x.kind=2∨x.kind=3)→HasV 1 x.cmd.kind):=by
 unfold olderI at h
 by_cases h0:recI x.kind x.round x.node x.index x.cmd x.image.length=0
 ·rw [if_neg (by rw [h0];decide)] at h
  obtain ⟨h1,-⟩:=ite0 (by decide) h
  refine ⟨h0,fun hk=>?_⟩
  exact Decidable.not_not.1 fun hn=>h1 ⟨hk,hn⟩
 ·rw [if_pos h0] at h;exact absurd h h0
theorem dec_enc {x:Rc}(h:olderI x=0) (hl:¬ x.large):decX (some (encL x))=x∧decS (some (encL x))=some []:=by
 obtain ⟨h0,hv⟩:=older0 h
 obtain ⟨hk,hr,hi,hc,ho⟩:=rec0 h0
 unfold Rc.large at hl
 obtain ⟨k,r,n,i,c,im⟩:=x
 simp only at hk hr hi hc ho hv hl
 unfold ranP mayP at hr
 have hcz:¬ (k=2∨k=3)→c=zeroCm:=fun hh=>Decidable.not_not.1 fun hn=>ho (.inr (.inr (.inl ⟨hh,hn⟩)))
 have hr0:0≤r∧r≤4294967296:=by unfold othP at ho;omega
 have hn0:0≤n∧n≤9:=by unfold othP at ho;omega
 have hi0:0≤i∧i≤4294967296:=by unfold othP at ho;omega
 have him:k≠4→im=[]:=fun hh=>by
  have:im.length=0:=by unfold othP at ho;omega
  exact List.eq_nil_of_length_eq_zero this
 have q1:=fun t=>num_v (m:=k) t (by omega) (by omega)
 have q2:=fun t=>num_v (m:=r) t (by omega) (by omega)
 have q3:=fun t=>num_v (m:=n) t (by omega) (by omega)
 have q4:=fun t=>num_v (m:=i) t (by omega) (by omega)
 by_cases h23:k=2∨k=3
 ·have e:encL ⟨k,r,n,i,c,im⟩=vbytes k++(vbytes r++(vbytes n++(vbytes i++(vbytes c.kind++putW (wantB 1 c.kind) c 6++[])))):=by
   rw [encL,if_pos h23];simp [headL,putL]
  obtain ⟨c1,c2,c3,c4,c5⟩:=cmd0 (hc h23)
  have c6:=hv h23
  unfold HasV at c6
  have qk:=getV_put (v:=1) (c:=c) (hc h23) (.inl ⟨rfl,by omega⟩) (by omega) []
  rw [e]
  unfold decX decS
  simp only [q1,q2,q3,q4,qk]
  rw [if_pos h23,if_pos h23,him (by omega)]
  exact ⟨rfl,rfl⟩
 ·rw [hcz h23]
  by_cases h4:k=4
  ·have e:encL ⟨k,r,n,i,zeroCm,im⟩=vbytes k++(vbytes r++(vbytes n++(vbytes i++(vbytes im.length++im++[])))):=by
    rw [encL,if_neg h23,if_pos h4];simp [headL]
   have qk:=raw_v (most:=32768) im [] (by omega) (by omega)
   rw [e]
   unfold decX decS
   simp only [q1,q2,q3,q4,qk]
   rw [if_neg h23,if_pos h4,if_neg h23,if_pos h4]
   exact ⟨rfl,rfl⟩
  ·have e:encL ⟨k,r,n,i,zeroCm,im⟩=vbytes k++(vbytes r++(vbytes n++(vbytes i++[]))):=by
    rw [encL,if_neg h23,if_neg h4];simp [headL]
   rw [e]
   unfold decX decS
   simp only [q1,q2,q3,q4]
   rw [if_neg h23,if_neg h4,if_neg h23,if_neg h4,him h4]
   exact ⟨rfl,rfl⟩
theorem walkL_tail (x:Rc):walkL x.kind (vbytes x.round++vbytes x.node) (vbytes x.index) (vbytes x.cmd.kind++putW (wantB 2 x.cmd.kind) x.cmd 6) (vbytes x.image.length++x.image)=tailT x:=rfl
theorem tailT_len {x:Rc}(h:x.fits):(tailT x).length≤40000:=by
 unfold Rc.fits at h
 have h1:=(vbytes_len x.round).1
 have h2:=(vbytes_len x.node).1
 have h3:=(vbytes_len x.index).1
 have h4:=(vbytes_len x.cmd.kind).1
 have h5:=putW_len (wantB 2 x.cmd.kind) x.cmd (by omega) (by omega) (by omega) 6
 have h6:=(vbytes_len (x.image.length:Nat)).1
 have hif:∀ (p:Prop) [Decidable p] (a b:List Int) (m:Nat),a.length≤m→b.length≤m→(if p then a else b).length≤m:=fun p _ a b m ha hb=>by split<;>assumption
 unfold tailT
 rw [List.length_append,List.length_append,List.length_append]
 have e1:=hif (x.kind=1∨x.kind=2) (vbytes x.round++vbytes x.node) [] 22 (by rw [List.length_append];omega) (by simp)
 have e2:=hif (x.kind=1) [] (vbytes x.index) 11 (by simp) (by omega)
 have e3:=hif (x.kind=2∨x.kind=3) (vbytes x.cmd.kind++putW (wantB 2 x.cmd.kind) x.cmd 6) [] 6077 (by rw [List.length_append];omega) (by simp)
 have e4:=hif (x.kind=4) (vbytes x.image.length++x.image) [] 32791 (by rw [List.length_append];omega) (by simp)
 omega
def EncT (x:Rc) (r:Value) (G':GH) (μ':OH):Prop:=μ'=[]∧∃ v,r=.tuple [v,.int .i64 (chkI x)].toArray∧Sl G' 1 (IntR .u8) v (if chkI x=0 then encT x else [])
theorem encodeT_s {G:GH}(hT:TabsG G) {x:Rc}{xv:Value}(hx:RcV G x xv) (hc:x.cmd.ok):Con Tryz.prog 98 #[xv] G [] (EncT x):=by
 obtain ⟨iv,rfl,hi⟩:=hx
 obtain ⟨A,cp,rfl,hlc,hcm,-⟩:=id hi.openInt
 simp only [maxLen] at hcm
 have qc:=recCheck_s hT x.kind x.round x.node x.index x.cmd hc A x.image.length cp (by omega)
 unfold EncT
 by_cases h0:chkI x=0
 rotate_left
 ·rw [if_neg h0]
  unfold chkI at h0 ⊢
  generalize recI x.kind x.round x.node x.index x.cmd x.image.length=o at *
  (refine v_enter Tryz.func98 rfl Tryz.ntmps98 rfl ?_;intro B _)
  repeat' (first|apply v_seq|apply v_region|apply v_nil|apply v_pure;(case hop=>first|apply p_move<;>rfl|apply p_ne<;>rfl|apply p_assign<;>rfl|fail);(case hd=>rfl)|apply v_cond;(case hc=>rfl);all_goals (intro h;(try simp only [reduceCtorEq,zzz] at h);try (exfalso;omega))|apply v_box (zs:=recL x.kind x.round x.node x.index x.cmd (.slice A x.image.length cp));(case hx|hz|hd=>rfl);intro xb|apply v_callJ (hs:=qc);(case ha|hd=>rfl)|apply v_read;(case hop=>(apply r_loadNo;(case hx=>rfl);(case h=>repeat exact mhd _);(case hd=>repeat first|with_reducible exact dt_nil|apply dt_here);(case hn=>rfl)));(case hd=>rfl)|fail)
  refine v_ret [] (outsA2 rfl rfl rfl) (by repeat (exact List.nil_sublist _)) ?_
  exact ⟨rfl,_,rfl,Sl.nil⟩
 ·rw [if_pos h0]
  have h0':recI x.kind x.round x.node x.index x.cmd x.image.length=0:=h0
  have hf:=fits0 h0'
  obtain ⟨hfit,hsm,him,hsz⟩:=hf
  have hk:=(rec0 h0').1
  have htl:=tailT_len hfit
  unfold Rc.small at hsm
  rw [h0'] at qc
  rw [h0]
  (refine v_enter Tryz.func98 rfl Tryz.ntmps98 rfl ?_;intro B _)
  repeat' (first|apply v_seq|apply v_region|apply v_nil|apply v_skip|apply v_pure;(case hop=>first|apply p_move<;>rfl|apply p_nes<;>rfl|apply p_assign<;>rfl|apply p_fieldAddrB<;>rfl|apply p_add;(case hx|hy=>rfl);(case h=>omega)|apply p_build;(case hz=>rfl);(case hv=>(simp only [List.map_cons,List.map_nil];repeat (with_reducible exact evs_nil)));(case hb=>(apply bldL;repeat (exact bld_nil)))|fail);(case hd=>rfl)|apply v_condF;(case hc=>rfl)|apply v_box (zs:=recL x.kind x.round x.node x.index x.cmd (.slice A x.image.length cp));(case hx|hz|hd=>rfl);intro xb|apply v_box (zs:=[.slice none 0 0]);(case hx|hz|hd=>rfl);intro wb|apply v_callJ (hs:=qc);(case ha|hd=>rfl)|apply v_read;(case hop=>first|apply r_loadNo;(case hx=>rfl);(case h=>repeat exact mhd _);(case hd=>repeat first|with_reducible exact dt_nil|apply dt_here);(case hn=>rfl)|apply r_load1;rfl;(apply Cell.own;(case h=>repeat first|exact mhd _|apply mtl);rfl)|fail);(case hd=>rfl)|apply v_alloc;(case hz|hd=>rfl);intro b|apply v_store;(case hp|hx|hc|hsz|h1=>rfl);(case hb=>repeat exact mhd _);(case hfit=>exact nle rfl);(case hov=>((repeat (first|with_reducible exact ov_nil|apply ov_cons));done));(case hu=>repeat (exact Upd.here _ _))|fail)
  rename Nat=>pb
  refine v_call (μ1:=[(wb,_)]) (μ2:=_) rfl (wnumber_s wb (x.kind+16) Sl.nil (by simp) (by omega)) (PickA.perm (by repeat (first|exact PickA.here _|apply PickA.cons))) rfl ?_
  rintro r1 G1 _ hle1 ⟨v1,rfl,s1⟩
  repeat' (first|apply v_seq|apply v_region|apply v_nil|apply v_pure;(case hop=>first|apply p_fieldAddrB<;>rfl|apply p_makeFunc<;>rfl|fail);(case hd=>rfl)|apply v_read;(case hop=>(apply r_load1;rfl;(apply Cell.own;(case h=>repeat first|exact mhd _|apply mtl);rfl)));(case hd=>rfl)|fail)
  have e1:=enc1_s G wb pb xb x.kind x.round x.node x.index x.cmd (.slice A x.image.length cp) (by omega) (by omega)
  have e2:=enc2_s G wb pb xb x.kind x.round x.node x.index x.cmd (.slice A x.image.length cp) (by omega)
  have e3:=enc3_s G wb pb xb x.kind x.round x.node x.index x.cmd (.slice A x.image.length cp) hc (by omega) (by omega) (by omega)
  have e4:=enc4_s wb pb xb x.kind x.round x.node x.index x.cmd hi (by omega)
  have qk:=walkW_s (k:=x.kind) (by omega) e1 e2 e3 e4 (by have:=(vbytes_len x.round).1;have:=(vbytes_len x.node).1;rw [List.length_append];omega) (by have:=(vbytes_len x.index).1;omega) (by have:=(vbytes_len x.cmd.kind).1;have:=putW_len (wantB 2 x.cmd.kind) x.cmd (by omega) (by omega) (by omega) 6;rw [List.length_append];omega) hle1 s1 (by have:=(vbytes_len (x.kind+16)).1;simp;omega)
  rw [walkL_tail] at qk
  refine v_call (μ1:=twoW wb pb xb v1 x.kind x.round x.node x.index x.cmd (.slice A x.image.length cp)) (μ2:=[]) rfl qk (by apply perm_of_count;intro p;simp only [List.append_eq,List.countP_append,List.countP_cons,List.countP_nil,Nat.zero_add,Nat.add_zero];try ac_rfl) rfl ?_
  rintro r2 G2 _ hle2 ⟨v2,rfl,s2⟩
  repeat' (first|apply v_seq|apply v_region|apply v_nil|apply v_read;(case hop=>(apply r_load1;rfl;(apply Cell.own;(case h=>repeat first|exact mhd _|apply mtl);rfl)));(case hd=>rfl)|fail)
  refine v_call (μ1:=[(wb,_)]) (μ2:=_) rfl (wbytes_s wb s2 (by have:=(vbytes_len (x.kind+16)).1;rw [List.length_append,List.length_append];simp;omega)) (PickA.perm (by repeat (exact PickA.here _))) rfl ?_
  rintro r3 G3 _ hle3 ⟨rfl,s3⟩
  repeat' (first|apply v_nil|apply v_pure;(case hop=>(apply p_assign<;>rfl));(case hd=>rfl)|fail)
  refine v_ret [] (outsA2 rfl rfl rfl) (by repeat (exact List.nil_sublist _)) ?_
  exact ⟨rfl,_,rfl,s3⟩
def zeroRc:Rc:=⟨0,0,0,0,zeroC,[]⟩
def zeroRL:List Value:=recL 0 0 0 0 zeroC (.slice none 0 0)
def decOk (s:Option (List Int)):Prop:=decS s=some []∧(1≤nV s∧nV s≤4)∧olderI (decX s)=0
def DecR (s:Option (List Int)) (r:Value) (G':GH) (μ':OH):Prop:=μ'=[]∧∃ x v e,r=.tuple [v,.int .i64 e].toArray∧RcV G' x v∧((decOk s∧x=decX s∧e=0)∨(¬ decOk s∧x=zeroRc∧e≠0))
set_option maxHeartbeats 4000000 in
theorem rdecode_s {G:GH}(hT:TabsG G) {l:List Int}{bv:Value}(hs:Sl G 1 (IntR .u8) bv l) (hl:l.length≤1048000):Con Tryz.prog 151 #[bv] G [] (DecR (some l)):=by
 have hby:byteS (some l):=fun r hr x hx=>by cases hr;exact sl_byte hs x hx
 have hok:=decX_ok hby
 have hb4:byteS (numS 9223372036854775807 (numS 9223372036854775807 (numS 9223372036854775807 (numS 9223372036854775807 (some l))))):=numS_b (numS_b (numS_b (numS_b hby _) _) _) _
 have eX:decX (some l)=if numV 9223372036854775807 (some l)=2∨numV 9223372036854775807 (some l)=3 then ⟨numV 9223372036854775807 (some l),numV 9223372036854775807 (numS 9223372036854775807 (some l)),numV 9223372036854775807 (numS 9223372036854775807 (numS 9223372036854775807 (some l))),numV 9223372036854775807 (numS 9223372036854775807 (numS 9223372036854775807 (numS 9223372036854775807 (some l)))),(getK (numS 9223372036854775807 (numS 9223372036854775807 (numS 9223372036854775807 (numS 9223372036854775807 (some l))))) 6).1,[]⟩ else if numV 9223372036854775807 (some l)=4 then ⟨numV 9223372036854775807 (some l),numV 9223372036854775807 (numS 9223372036854775807 (some l)),numV 9223372036854775807 (numS 9223372036854775807 (numS 9223372036854775807 (some l))),numV 9223372036854775807 (numS 9223372036854775807 (numS 9223372036854775807 (numS 9223372036854775807 (some l)))),zeroC,rawB 32768 (numS 9223372036854775807 (numS 9223372036854775807 (numS 9223372036854775807 (numS 9223372036854775807 (some l)))))⟩ else ⟨numV 9223372036854775807 (some l),numV 9223372036854775807 (numS 9223372036854775807 (some l)),numV 9223372036854775807 (numS 9223372036854775807 (numS 9223372036854775807 (some l))),numV 9223372036854775807 (numS 9223372036854775807 (numS 9223372036854775807 (numS 9223372036854775807 (some l)))),zeroC,[]⟩:=rfl
 have eS:decS (some l)=if numV 9223372036854775807 (some l)=2∨numV 9223372036854775807 (some l)=3 then (getK (numS 9223372036854775807 (numS 9223372036854775807 (numS 9223372036854775807 (numS 9223372036854775807 (some l))))) 6).2 else if numV 9223372036854775807 (some l)=4 then rawS 32768 (numS 9223372036854775807 (numS 9223372036854775807 (numS 9223372036854775807 (numS 9223372036854775807 (some l))))) else numS 9223372036854775807 (numS 9223372036854775807 (numS 9223372036854775807 (numS 9223372036854775807 (some l)))):=rfl
 have eO:decOk (some l)↔(decS (some l)=some []∧(1≤numV 9223372036854775807 (some l)∧numV 9223372036854775807 (some l)≤4)∧olderI (decX (some l))=0):=Iff.rfl
 unfold DecR
 generalize decX (some l)=X at *
 generalize decS (some l)=S at *
 generalize decOk (some l)=OK at *
 (refine v_enter Tryz.func151 rfl Tryz.ntmps151 rfl ?_;intro B _)
 repeat' (first|apply v_seq|apply v_region|apply v_nil|apply v_pure;(case hop=>first|apply p_move<;>rfl|apply p_assign<;>rfl|fail);(case hd=>rfl)|apply v_alloc;(case hz|hd=>rfl);intro b|fail)
 refine v_call (μ1:=[]) (μ2:=_) rfl (newReader_s hs hl) (List.Perm.refl _) rfl ?_
 rintro _ G1 _ - ⟨hle1,rb,bv1,rfl,rfl,hs1⟩
 have hr0:RdS l 0 0 (some l):=⟨by omega,.inr ⟨by simp,rfl⟩⟩
 repeat' (first|apply v_seq|apply v_region|apply v_nil|apply v_pure;(case hop=>first|apply p_move<;>rfl|apply p_assign<;>rfl|fail);(case hd=>rfl)|fail)
 refine v_call (μ1:=[(rb,_)]) (μ2:=_) rfl (rdNumber_s rb _ _ 9223372036854775807 hs1 (by omega) hr0) (PickA.perm (by repeat (exact PickA.here _))) rfl ?_
 rintro _ _ _ - ⟨rfl,rfl,a1,no1,rfl,hr1⟩
 repeat' (first|apply v_seq|apply v_region|apply v_nil|apply v_pure;(case hop=>first|apply p_move<;>rfl|apply p_build;(case hz=>rfl);(case hv=>(simp only [List.map_cons,List.map_nil];repeat (first|with_reducible exact evs_nil|apply evs_cons;(case h1=>rfl))));(case hb=>(apply bldL;repeat (first|exact bld_nil|apply bld_cons;(case hpf|hc|hs|hl=>rfl);(case ho=>((repeat (first|with_reducible exact ov_nil|apply ov_cons));done)))))|fail);(case hd=>rfl)|apply v_alloc;(case hz|hd=>rfl);intro b|apply v_store;(case hp|hx|hc|hsz|h1=>rfl);(case hb=>repeat exact mhd _);(case hfit=>exact nle rfl);(case hov=>((repeat (first|with_reducible exact ov_nil|apply ov_cons));done));(case hu=>repeat (exact Upd.here _ _))|fail)
 refine v_call (μ1:=[(rb,_)]) (μ2:=_) rfl (rdNumber_s rb _ _ 9223372036854775807 hs1 (by omega) hr1) (PickA.perm (by repeat (first|exact PickA.here _|apply PickA.cons))) rfl ?_
 rintro _ _ _ - ⟨rfl,rfl,a2,no2,rfl,hr2⟩
 repeat' (first|apply v_seq|apply v_region|apply v_nil|apply v_pure;(case hop=>first|apply p_move<;>rfl|apply p_fieldAddrB<;>rfl|fail);(case hd=>rfl)|apply v_store;(case hp|hx|hc|hsz|h1=>rfl);(case hb=>repeat first|exact mhd _|apply mtl);(case hfit=>exact nle rfl);(case hov=>((repeat (first|with_reducible exact ov_nil|apply ov_cons));done));(case hu=>repeat first|exact Upd.here _ _|apply Upd.there)|fail)
 refine v_call (μ1:=[(rb,_)]) (μ2:=_) rfl (rdNumber_s rb _ _ 9223372036854775807 hs1 (by omega) hr2) (PickA.perm (by repeat (exact PickA.here _))) rfl ?_
 rintro _ _ _ - ⟨rfl,rfl,a3,no3,rfl,hr3⟩
 repeat' (first|apply v_seq|apply v_region|apply v_nil|apply v_pure;(case hop=>first|apply p_move<;>rfl|apply p_fieldAddrB<;>rfl|fail);(case hd=>rfl)|apply v_store;(case hp|hx|hc|hsz|h1=>rfl);(case hb=>repeat first|exact mhd _|apply mtl);(case hfit=>exact nle rfl);(case hov=>((repeat (first|with_reducible exact ov_nil|apply ov_cons));done));(case hu=>repeat first|exact Upd.here _ _|apply Upd.there)|fail)
 refine v_call (μ1:=[(rb,_)]) (μ2:=_) rfl (rdNumber_s rb _ _ 9223372036854775807 hs1 (by omega) hr3) (PickA.perm (by repeat (exact PickA.here _))) rfl ?_
 rintro _ _ _ - ⟨rfl,rfl,a4,no4,rfl,hr4⟩
 repeat' (first|apply v_seq|apply v_region|apply v_nil|apply v_pure;(case hop=>(apply p_fieldAddrB<;>rfl));(case hd=>rfl)|apply v_read;(case hop=>(apply r_load1;rfl;(apply Cell.own;(case h=>repeat first|exact mhd _|apply mtl);rfl)));(case hd=>rfl)|apply v_store;(case hp|hx|hc|hsz|h1=>rfl);(case hb=>repeat first|exact mhd _|apply mtl);(case hfit=>exact nle rfl);(case hov=>((repeat (first|with_reducible exact ov_nil|apply ov_cons));done));(case hu=>repeat first|exact Upd.here _ _|apply Upd.there)|fail)
 clear hr0 hr1 hr2 hr3
 generalize numS 9223372036854775807 (numS 9223372036854775807 (numS 9223372036854775807 (numS 9223372036854775807 (some l))))=s4 at *
 generalize numV 9223372036854775807 (numS 9223372036854775807 (numS 9223372036854775807 (numS 9223372036854775807 (some l))))=ix at *
 generalize numV 9223372036854775807 (numS 9223372036854775807 (numS 9223372036854775807 (some l)))=nd at *
 generalize numV 9223372036854775807 (numS 9223372036854775807 (some l))=rd at *
 generalize numV 9223372036854775807 (some l)=kd at *
 have qf:=fun G=>rfields_s G kd
 have qe:=fun G no a=>rerr_s G rb bv1 a no
 by_cases h23:kd=2∨kd=3
 ·rw [if_pos h23] at eX eS
  have e:hasL kd=[.bool (decide (kd=2)),.bool true,.bool true,.bool false]:=by
   obtain rfl|rfl:=h23<;>rfl
  simp only [e,decide_eq_true (show 1≤kd∧kd≤4 by omega)] at qf
  repeat' (first|apply v_seq|apply v_region|apply v_nil|apply v_pure;(case hop=>first|apply p_move<;>rfl|apply p_assign<;>rfl|apply p_fieldAddrB<;>rfl|apply p_extract0<;>rfl|apply p_extract1<;>rfl|fail);(case hd=>rfl)|apply v_condT;(case hc=>rfl)|apply v_callJ (hs:=qf _);(case ha|hd=>rfl)|apply v_read;(case hop=>(apply r_load1;rfl;(apply Cell.own;(case h=>repeat exact mhd _);rfl)));(case hd=>rfl)|apply v_alloc;(case hz|hd=>rfl);intro b|apply v_store;(case hp|hx|hc|hsz|h1=>rfl);(case hb=>repeat exact mhd _);(case hfit=>exact nle rfl);(case hov=>((repeat (first|with_reducible exact ov_nil|apply ov_cons));done));(case hu=>repeat (exact Upd.here _ _))|fail)
  refine v_call (μ1:=[(rb,_)]) (μ2:=_) rfl (cgetV_s 1 rb _ _ hs1 (by omega) hr4) (PickA.perm (by repeat (first|exact PickA.here _|apply PickA.cons))) rfl ?_
  rintro _ G2 _ hle2 ⟨rfl,a5,no5,rfl,hr5⟩
  have qo:=older_s (x:=X) (xv:=.agg (recL kd rd nd ix (getK s4 6).1 (.slice none 0 0)).toArray) (hT.le (GH.le_trans hle1 hle2)) (by rw [eX];exact ⟨_,rfl,Sl.nil⟩) hok
  generalize olderI X=o at *
  repeat' (first|apply v_seq|apply v_region|apply v_nil|apply v_skip|apply v_take;(case hg=>rfl)|apply v_pass;(case hg|hn|hd=>rfl)|apply v_pure;(case hop=>first|apply p_move<;>rfl|apply p_eq<;>rfl|apply p_ne<;>rfl|apply p_assign<;>rfl|apply p_pickT<;>rfl|apply p_pickF<;>rfl|apply p_not<;>rfl|apply p_fieldAddrB<;>rfl|apply p_build;(case hz=>rfl);(case hv=>(simp only [List.map_cons,List.map_nil];repeat (with_reducible exact evs_nil)));(case hb=>(apply bldL;repeat (exact bld_nil)))|fail);(case hd=>rfl)|apply v_condF;(case hc=>rfl)|apply v_cond;(case hc=>rfl);all_goals (intro h;(try simp only [reduceCtorEq,zzz] at h);try (exfalso;omega))|apply v_guardB;(case h1|h2=>rfl);all_goals (intro h;(try simp only [reduceCtorEq,zzz] at h))|apply v_callK (hs:=qe _ _ _);(case ha=>rfl);(case hp=>exact (Pick.perm (by repeat (exact Pick.here _))));(case hd=>rfl)|apply v_read;(case hop=>(apply r_load1;rfl;(apply Cell.own;(case h=>repeat first|exact mhd _|apply mtl);rfl)));(case hd=>rfl)|apply v_store;(case hp|hx|hc|hsz|h1=>rfl);(case hb=>repeat first|exact mhd _|apply mtl);(case hfit=>exact nle rfl);(case hov=>((repeat (first|with_reducible exact ov_nil|apply ov_cons));done));(case hu=>repeat first|exact Upd.here _ _|apply Upd.there)|fail)
  ·refine v_call (μ1:=[(rb,_)]) (μ2:=_) rfl (rdDone_s rb _ _ (hs1.mono hle2) (by omega) hr5) (PickA.perm (by repeat (exact PickA.here _))) rfl ?_
   rintro _ _ _ - ⟨rfl,⟨ed,rfl,hed⟩,rfl⟩
   repeat' (first|apply v_seq|apply v_region|apply v_nil|apply v_skip|apply v_pure;(case hop=>first|apply p_move<;>rfl|apply p_eq<;>rfl|apply p_ne<;>rfl|apply p_assign<;>rfl|apply p_build;(case hz=>rfl);(case hv=>(simp only [List.map_cons,List.map_nil];repeat (with_reducible exact evs_nil)));(case hb=>(apply bldL;repeat (exact bld_nil)))|fail);(case hd=>rfl)|apply v_cond;(case hc=>rfl);all_goals (intro h;(try simp only [reduceCtorEq,zzz] at h);try (exfalso;omega))|apply v_callJ (hs:=qo);(case ha|hd=>rfl)|apply v_read;(case hop=>(apply r_loadNo;(case hx=>rfl);(case h=>repeat first|exact mhd _|apply mtl);(case hd=>repeat first|with_reducible exact dt_nil|apply dt_here);(case hn=>rfl)));(case hd=>rfl)|apply v_store;(case hp|hx|hc|hsz|h1=>rfl);(case hb=>repeat first|exact mhd _|apply mtl);(case hfit=>exact nle rfl);(case hov=>((repeat (first|with_reducible exact ov_nil|apply ov_cons));done));(case hu=>repeat first|exact Upd.here _ _|apply Upd.there)|fail)
   ·refine v_retM [] (outsM_cell_tmp (vs:=zeroRL) (e:=42) rfl rfl rfl (by repeat (first|exact mhd _|apply mtl)) rfl) (by repeat (exact List.nil_sublist _)) ?_
    exact ⟨rfl,_,_,_,rfl,⟨_,rfl,Sl.nil⟩,.inr ⟨fun hh=>absurd (eO.1 hh).2.2 ‹_›,rfl,‹_›⟩⟩
   ·refine v_retM [] (outsM_cell_tmp (vs:=recL kd rd nd ix (getK s4 6).1 (.slice none 0 0)) (e:=42) rfl rfl rfl (by repeat (first|exact mhd _|apply mtl)) rfl) (by repeat (exact List.nil_sublist _)) ?_
    exact ⟨rfl,_,_,_,rfl,⟨_,rfl,Sl.nil⟩,.inl ⟨eO.2 ⟨by rw [eS];exact hed.1 ‹_›,by omega,‹_›⟩,eX.symm,rfl⟩⟩
   ·refine v_retM [] (outsM_cell_tmp (vs:=zeroRL) (e:=42) rfl rfl rfl (by repeat (first|exact mhd _|apply mtl)) rfl) (by repeat (exact List.nil_sublist _)) ?_
    exact ⟨rfl,_,_,_,rfl,⟨_,rfl,Sl.nil⟩,.inr ⟨fun hh=>absurd (hed.2 (by rw [← eS];exact (eO.1 hh).1)) ‹_›,rfl,‹_›⟩⟩
  ·refine v_retM [] (outsM_cell_tmp (vs:=zeroRL) (e:=42) rfl rfl rfl (by repeat (first|exact mhd _|apply mtl)) rfl) (by repeat (exact List.nil_sublist _)) ?_
   refine ⟨rfl,_,_,_,rfl,⟨_,rfl,Sl.nil⟩,.inr ⟨fun hh=>?_,rfl,‹_›⟩⟩
   have h1:=(eO.1 hh).1
   rw [eS] at h1
   obtain ⟨-,⟨h2,-⟩|⟨-,h2⟩⟩:=hr5
   ·rw [h2] at h1;cases h1
   ·exact absurd h2 ‹_›
 ·rw [if_neg h23] at eX eS
  by_cases h4:kd=4
  ·rw [if_pos h4] at eX eS
   have e:hasL kd=[.bool false,.bool true,.bool false,.bool true]:=by rw [h4];rfl
   simp only [e,decide_eq_true (show 1≤kd∧kd≤4 by omega)] at qf
   repeat' (first|apply v_seq|apply v_region|apply v_nil|apply v_skip|apply v_pure;(case hop=>first|apply p_move<;>rfl|apply p_assign<;>rfl|apply p_fieldAddrB<;>rfl|apply p_extract0<;>rfl|apply p_extract1<;>rfl|fail);(case hd=>rfl)|apply v_condT;(case hc=>rfl)|apply v_condF;(case hc=>rfl)|apply v_callJ (hs:=qf _);(case ha|hd=>rfl)|apply v_read;(case hop=>(apply r_load1;rfl;(apply Cell.own;(case h=>repeat exact mhd _);rfl)));(case hd=>rfl)|apply v_alloc;(case hz|hd=>rfl);intro b|apply v_store;(case hp|hx|hc|hsz|h1=>rfl);(case hb=>repeat exact mhd _);(case hfit=>exact nle rfl);(case hov=>((repeat (first|with_reducible exact ov_nil|apply ov_cons));done));(case hu=>repeat (exact Upd.here _ _))|fail)
   refine v_call (μ1:=[(rb,_)]) (μ2:=_) rfl (rdRaw_s rb _ _ 32768 hs1 (by omega) hr4) (PickA.perm (by repeat (first|exact PickA.here _|apply PickA.cons))) rfl ?_
   rintro _ G2 _ hle2 ⟨hraw,a5,no5,rfl,hr5⟩
   obtain ⟨A1,c1,rfl,-⟩:=hraw.openInt
   have qo:=older_s (x:=X) (xv:=.agg (recL kd rd nd ix zeroC (.slice A1 (rawB 32768 s4).length c1)).toArray) (hT.le (GH.le_trans hle1 hle2)) (by rw [eX];exact ⟨_,rfl,hraw⟩) hok
   generalize olderI X=o at *
   repeat' (first|apply v_seq|apply v_region|apply v_nil|apply v_skip|apply v_take;(case hg=>rfl)|apply v_pass;(case hg|hn|hd=>rfl)|apply v_pure;(case hop=>first|apply p_move<;>rfl|apply p_eq<;>rfl|apply p_ne<;>rfl|apply p_assign<;>rfl|apply p_pickT<;>rfl|apply p_pickF<;>rfl|apply p_not<;>rfl|apply p_fieldAddrB<;>rfl|apply p_build;(case hz=>rfl);(case hv=>(simp only [List.map_cons,List.map_nil];repeat (with_reducible exact evs_nil)));(case hb=>(apply bldL;repeat (exact bld_nil)))|fail);(case hd=>rfl)|apply v_condF;(case hc=>rfl)|apply v_cond;(case hc=>rfl);all_goals (intro h;(try simp only [reduceCtorEq,zzz] at h);try (exfalso;omega))|apply v_guardB;(case h1|h2=>rfl);all_goals (intro h;(try simp only [reduceCtorEq,zzz] at h))|apply v_callK (hs:=qe _ _ _);(case ha=>rfl);(case hp=>exact (Pick.perm (by repeat (exact Pick.here _))));(case hd=>rfl)|apply v_store;(case hp|hx|hc|hsz|h1=>rfl);(case hb=>repeat first|exact mhd _|apply mtl);(case hfit=>exact nle rfl);(case hov=>((repeat (first|with_reducible exact ov_nil|apply ov_cons));done));(case hu=>repeat first|exact Upd.here _ _|apply Upd.there)|fail)
   ·refine v_call (μ1:=[(rb,_)]) (μ2:=_) rfl (rdDone_s rb _ _ (hs1.mono hle2) (by omega) hr5) (PickA.perm (by repeat (exact PickA.here _))) rfl ?_
    rintro _ _ _ - ⟨rfl,⟨ed,rfl,hed⟩,rfl⟩
    repeat' (first|apply v_seq|apply v_region|apply v_nil|apply v_skip|apply v_pure;(case hop=>first|apply p_move<;>rfl|apply p_eq<;>rfl|apply p_ne<;>rfl|apply p_assign<;>rfl|apply p_build;(case hz=>rfl);(case hv=>(simp only [List.map_cons,List.map_nil];repeat (with_reducible exact evs_nil)));(case hb=>(apply bldL;repeat (exact bld_nil)))|fail);(case hd=>rfl)|apply v_cond;(case hc=>rfl);all_goals (intro h;(try simp only [reduceCtorEq,zzz] at h);try (exfalso;omega))|apply v_callJ (hs:=qo);(case ha|hd=>rfl)|apply v_read;(case hop=>(apply r_loadNo;(case hx=>rfl);(case h=>repeat first|exact mhd _|apply mtl);(case hd=>repeat first|with_reducible exact dt_nil|apply dt_here);(case hn=>rfl)));(case hd=>rfl)|apply v_store;(case hp|hx|hc|hsz|h1=>rfl);(case hb=>repeat first|exact mhd _|apply mtl);(case hfit=>exact nle rfl);(case hov=>((repeat (first|with_reducible exact ov_nil|apply ov_cons));done));(case hu=>repeat first|exact Upd.here _ _|apply Upd.there)|fail)
    ·refine v_retM [] (outsM_cell_tmp (vs:=zeroRL) (e:=42) rfl rfl rfl (by repeat (first|exact mhd _|apply mtl)) rfl) (by repeat (exact List.nil_sublist _)) ?_
     exact ⟨rfl,_,_,_,rfl,⟨_,rfl,Sl.nil⟩,.inr ⟨fun hh=>absurd (eO.1 hh).2.2 ‹_›,rfl,‹_›⟩⟩
    ·refine v_retM [] (outsM_cell_tmp (vs:=recL kd rd nd ix zeroC (.slice A1 (rawB 32768 s4).length c1)) (e:=42) rfl rfl rfl (by repeat (first|exact mhd _|apply mtl)) rfl) (by repeat (exact List.nil_sublist _)) ?_
     exact ⟨rfl,_,_,_,rfl,⟨_,rfl,hraw⟩,.inl ⟨eO.2 ⟨by rw [eS];exact hed.1 ‹_›,by omega,‹_›⟩,eX.symm,rfl⟩⟩
    ·refine v_retM [] (outsM_cell_tmp (vs:=zeroRL) (e:=42) rfl rfl rfl (by repeat (first|exact mhd _|apply mtl)) rfl) (by repeat (exact List.nil_sublist _)) ?_
     exact ⟨rfl,_,_,_,rfl,⟨_,rfl,Sl.nil⟩,.inr ⟨fun hh=>absurd (hed.2 (by rw [← eS];exact (eO.1 hh).1)) ‹_›,rfl,‹_›⟩⟩
   ·refine v_retM [] (outsM_cell_tmp (vs:=zeroRL) (e:=42) rfl rfl rfl (by repeat (first|exact mhd _|apply mtl)) rfl) (by repeat (exact List.nil_sublist _)) ?_
    refine ⟨rfl,_,_,_,rfl,⟨_,rfl,Sl.nil⟩,.inr ⟨fun hh=>?_,rfl,‹_›⟩⟩
    have h1:=(eO.1 hh).1
    rw [eS] at h1
    obtain ⟨-,⟨h2,-⟩|⟨-,h2⟩⟩:=hr5
    ·rw [h2] at h1;cases h1
    ·exact absurd h2 ‹_›
  ·rw [if_neg h4] at eX eS
   by_cases h1:kd=1
   ·have e:hasL kd=[.bool true,.bool false,.bool false,.bool false]:=by rw [h1];rfl
    simp only [e,decide_eq_true (show 1≤kd∧kd≤4 by omega)] at qf
    repeat' (first|apply v_seq|apply v_region|apply v_nil|apply v_skip|apply v_pure;(case hop=>first|apply p_move<;>rfl|apply p_assign<;>rfl|apply p_fieldAddrB<;>rfl|apply p_extract0<;>rfl|apply p_extract1<;>rfl|fail);(case hd=>rfl)|apply v_condF;(case hc=>rfl)|apply v_callJ (hs:=qf _);(case ha|hd=>rfl)|apply v_read;(case hop=>(apply r_load1;rfl;(apply Cell.own;(case h=>repeat exact mhd _);rfl)));(case hd=>rfl)|apply v_alloc;(case hz|hd=>rfl);intro b|apply v_store;(case hp|hx|hc|hsz|h1=>rfl);(case hb=>repeat exact mhd _);(case hfit=>exact nle rfl);(case hov=>((repeat (first|with_reducible exact ov_nil|apply ov_cons));done));(case hu=>repeat (exact Upd.here _ _))|fail)
    have qo:=older_s (x:=X) (xv:=.agg (recL kd rd nd ix zeroC (.slice none 0 0)).toArray) (hT.le hle1) (by rw [eX];exact ⟨_,rfl,Sl.nil⟩) hok
    generalize olderI X=o at *
    repeat' (first|apply v_seq|apply v_region|apply v_nil|apply v_skip|apply v_take;(case hg=>rfl)|apply v_pass;(case hg|hn|hd=>rfl)|apply v_pure;(case hop=>first|apply p_move<;>rfl|apply p_eq<;>rfl|apply p_ne<;>rfl|apply p_assign<;>rfl|apply p_pickT<;>rfl|apply p_pickF<;>rfl|apply p_not<;>rfl|apply p_build;(case hz=>rfl);(case hv=>(simp only [List.map_cons,List.map_nil];repeat (with_reducible exact evs_nil)));(case hb=>(apply bldL;repeat (exact bld_nil)))|fail);(case hd=>rfl)|apply v_condF;(case hc=>rfl)|apply v_cond;(case hc=>rfl);all_goals (intro h;(try simp only [reduceCtorEq,zzz] at h);try (exfalso;omega))|apply v_guardB;(case h1|h2=>rfl);all_goals (intro h;(try simp only [reduceCtorEq,zzz] at h))|apply v_callK (hs:=qe _ _ _);(case ha=>rfl);(case hp=>first|exact (Pick.perm (by repeat (first|exact Pick.here _|apply Pick.there)))|fail);(case hd=>rfl)|apply v_store;(case hp|hx|hc|hsz|h1=>rfl);(case hb=>repeat first|exact mhd _|apply mtl);(case hfit=>exact nle rfl);(case hov=>((repeat (first|with_reducible exact ov_nil|apply ov_cons));done));(case hu=>repeat first|exact Upd.here _ _|apply Upd.there)|fail)
    ·refine v_call (μ1:=[(rb,_)]) (μ2:=_) rfl (rdDone_s rb _ _ hs1 (by omega) hr4) (PickA.perm (by repeat (first|exact PickA.here _|apply PickA.cons))) rfl ?_
     rintro _ _ _ - ⟨rfl,⟨ed,rfl,hed⟩,rfl⟩
     repeat' (first|apply v_seq|apply v_region|apply v_nil|apply v_skip|apply v_pure;(case hop=>first|apply p_move<;>rfl|apply p_eq<;>rfl|apply p_ne<;>rfl|apply p_assign<;>rfl|apply p_build;(case hz=>rfl);(case hv=>(simp only [List.map_cons,List.map_nil];repeat (with_reducible exact evs_nil)));(case hb=>(apply bldL;repeat (exact bld_nil)))|fail);(case hd=>rfl)|apply v_cond;(case hc=>rfl);all_goals (intro h;(try simp only [reduceCtorEq,zzz] at h);try (exfalso;omega))|apply v_callJ (hs:=qo);(case ha|hd=>rfl)|apply v_read;(case hop=>(apply r_loadNo;(case hx=>rfl);(case h=>repeat first|exact mhd _|apply mtl);(case hd=>repeat first|with_reducible exact dt_nil|apply dt_here);(case hn=>rfl)));(case hd=>rfl)|apply v_store;(case hp|hx|hc|hsz|h1=>rfl);(case hb=>repeat first|exact mhd _|apply mtl);(case hfit=>exact nle rfl);(case hov=>((repeat (first|with_reducible exact ov_nil|apply ov_cons));done));(case hu=>repeat first|exact Upd.here _ _|apply Upd.there)|fail)
     ·refine v_retM [] (outsM_cell_tmp (vs:=zeroRL) (e:=42) rfl rfl rfl (by repeat (first|exact mhd _|apply mtl)) rfl) (by repeat (exact List.nil_sublist _)) ?_
      exact ⟨rfl,_,_,_,rfl,⟨_,rfl,Sl.nil⟩,.inr ⟨fun hh=>absurd (eO.1 hh).2.2 ‹_›,rfl,‹_›⟩⟩
     ·refine v_retM [] (outsM_cell_tmp (vs:=recL kd rd nd ix zeroC (.slice none 0 0)) (e:=42) rfl rfl rfl (by repeat (first|exact mhd _|apply mtl)) rfl) (by repeat (exact List.nil_sublist _)) ?_
      exact ⟨rfl,_,_,_,rfl,⟨_,rfl,Sl.nil⟩,.inl ⟨eO.2 ⟨by rw [eS];exact hed.1 ‹_›,by omega,‹_›⟩,eX.symm,rfl⟩⟩
     ·refine v_retM [] (outsM_cell_tmp (vs:=zeroRL) (e:=42) rfl rfl rfl (by repeat (first|exact mhd _|apply mtl)) rfl) (by repeat (exact List.nil_sublist _)) ?_
      exact ⟨rfl,_,_,_,rfl,⟨_,rfl,Sl.nil⟩,.inr ⟨fun hh=>absurd (hed.2 (by rw [← eS];exact (eO.1 hh).1)) ‹_›,rfl,‹_›⟩⟩
    ·refine v_retM [] (outsM_cell_tmp (vs:=zeroRL) (e:=42) rfl rfl rfl (by repeat (first|exact mhd _|apply mtl)) rfl) (by repeat (exact List.nil_sublist _)) ?_
     refine ⟨rfl,_,_,_,rfl,⟨_,rfl,Sl.nil⟩,.inr ⟨fun hh=>?_,rfl,‹_›⟩⟩
     have h1:=(eO.1 hh).1
     rw [eS] at h1
     obtain ⟨-,⟨h2,-⟩|⟨-,h2⟩⟩:=hr4
     ·rw [h2] at h1;cases h1
     ·exact absurd h2 ‹_›
   ·have e:hasL kd=[.bool false,.bool false,.bool false,.bool false]:=by unfold hasL;rw [if_neg (by omega),if_neg (by omega),if_neg (by omega),if_neg (by omega)]
    simp only [e,decide_eq_false (show ¬ (1≤kd∧kd≤4) by omega)] at qf
    repeat' (first|apply v_seq|apply v_region|apply v_nil|apply v_skip|apply v_take;(case hg=>rfl)|apply v_pass;(case hg|hn|hd=>rfl)|apply v_pure;(case hop=>first|apply p_move<;>rfl|apply p_eq<;>rfl|apply p_ne<;>rfl|apply p_assign<;>rfl|apply p_pickT<;>rfl|apply p_pickF<;>rfl|apply p_not<;>rfl|apply p_fieldAddrB<;>rfl|apply p_extract0<;>rfl|apply p_extract1<;>rfl|apply p_build;(case hz=>rfl);(case hv=>(simp only [List.map_cons,List.map_nil];repeat (with_reducible exact evs_nil)));(case hb=>(apply bldL;repeat (exact bld_nil)))|fail);(case hd=>rfl)|apply v_condT;(case hc=>rfl)|apply v_condF;(case hc=>rfl)|apply v_cond;(case hc=>rfl);all_goals (intro h;(try simp only [reduceCtorEq,zzz] at h);try (exfalso;omega))|apply v_guardB;(case h1|h2=>rfl);all_goals (intro h;(try simp only [reduceCtorEq,zzz] at h))|apply v_callJ (hs:=qf _);(case ha|hd=>rfl)|apply v_callK (hs:=qe _ _ _);(case ha=>rfl);(case hp=>first|exact (Pick.perm (by repeat (first|exact Pick.here _|apply Pick.there)))|fail);(case hd=>rfl)|apply v_read;(case hop=>(apply r_load1;rfl;(apply Cell.own;(case h=>repeat exact mhd _);rfl)));(case hd=>rfl)|apply v_alloc;(case hz|hd=>rfl);intro b|apply v_store;(case hp|hx|hc|hsz|h1=>rfl);(case hb=>repeat first|exact mhd _|apply mtl);(case hfit=>exact nle rfl);(case hov=>((repeat (first|with_reducible exact ov_nil|apply ov_cons));done));(case hu=>repeat first|exact Upd.here _ _|apply Upd.there)|fail)
    ·refine v_retM [] (outsM_cell_tmp (vs:=zeroRL) (e:=42) rfl rfl rfl (by repeat (first|exact mhd _|apply mtl)) rfl) (by repeat (exact List.nil_sublist _)) ?_
     exact ⟨rfl,_,_,_,rfl,⟨_,rfl,Sl.nil⟩,.inr ⟨fun hh=>by have:=(eO.1 hh).2.1;omega,rfl,by decide⟩⟩
    ·refine v_retM [] (outsM_cell_tmp (vs:=zeroRL) (e:=42) rfl rfl rfl (by repeat (first|exact mhd _|apply mtl)) rfl) (by repeat (exact List.nil_sublist _)) ?_
     exact ⟨rfl,_,_,_,rfl,⟨_,rfl,Sl.nil⟩,.inr ⟨fun hh=>by have:=(eO.1 hh).2.1;omega,rfl,‹_›⟩⟩
abbrev twoR (rb pb xb:Nat) (bv:Value) (a:Nat) (no:Int) (k r n i:Int) (c:Cm) (iv:Value):OH:=[(rb,rdO bv (a:Nat) no),(pb,pO rb),(xb,.cells (recL k r n i c iv).toArray 42 (0,0))]
section
variable {G:GH}{l:List Int}{bv:Value}{s:Option (List Int)}{rb pb xb a:Nat}{no k r n i:Int}{c:Cm}{iv:Value}
theorem rd1_s (hs:Sl G 1 (IntR .u8) bv l) (hl:l.length≤1048576) (hr:RdS l a no s):Con Tryz.prog 200 #[.pointer (some ⟨pb,0,none⟩),.pointer (some ⟨xb,0,none⟩)] G (twoR rb pb xb bv a no k r n i c iv)
 (fun _ G' μ'=>G'=G∧∃ a' no',μ'=twoR rb pb xb bv a' no' k (nV s) (nV (nS s)) i c iv∧RdS l a' no' (nS (nS s))):=by
 (refine v_enter Tryz.func200 rfl Tryz.ntmps200 rfl ?_;intro B _)
 repeat' (first|apply v_seq|apply v_region|apply v_read;(case hop=>(apply r_load1;rfl;(apply Cell.own;(case h=>repeat first|exact mhd _|apply mtl);rfl)));(case hd=>rfl)|fail)
 refine v_call (μ1:=[(rb,_)]) (μ2:=_) rfl (rdNumber_s rb _ _ 9223372036854775807 hs hl hr) (PickA.perm (by repeat (exact PickA.here _))) rfl ?_
 rintro _ _ _ - ⟨rfl,rfl,a1,no1,rfl,hr1⟩
 repeat' (first|apply v_region|apply v_nil|apply v_pure;(case hop=>(apply p_fieldAddrB<;>rfl));(case hd=>rfl)|apply v_read;(case hop=>(apply r_load1;rfl;(apply Cell.own;(case h=>repeat first|exact mhd _|apply mtl);rfl)));(case hd=>rfl)|apply v_store;(case hp|hx|hc|hsz|h1=>rfl);(case hb=>repeat first|exact mhd _|apply mtl);(case hfit=>exact nle rfl);(case hov=>((repeat (first|with_reducible exact ov_nil|apply ov_cons));done));(case hu=>repeat first|exact Upd.here _ _|apply Upd.there)|fail)
 refine v_call (μ1:=[(rb,_)]) (μ2:=_) rfl (rdNumber_s rb _ _ 9223372036854775807 hs hl hr1) (PickA.perm (by repeat (exact PickA.here _))) rfl ?_
 rintro _ _ _ - ⟨rfl,rfl,a2,no2,rfl,hr2⟩
 repeat' (first|apply v_nil|apply v_pure;(case hop=>(apply p_fieldAddrB<;>rfl));(case hd=>rfl)|apply v_store;(case hp|hx|hc|hsz|h1=>rfl);(case hb=>repeat first|exact mhd _|apply mtl);(case hfit=>exact nle rfl);(case hov=>((repeat (first|with_reducible exact ov_nil|apply ov_cons));done));(case hu=>repeat first|exact Upd.here _ _|apply Upd.there)|fail)
 refine v_end [(rb,_),(pb,_),(xb,_)] (outsA0 rfl) (by repeat (exact List.Sublist.refl _)) ?_
 exact ⟨rfl,a2,no2,rfl,hr2⟩
theorem rd2_s (hs:Sl G 1 (IntR .u8) bv l) (hl:l.length≤1048576) (hr:RdS l a no s):Con Tryz.prog 201 #[.pointer (some ⟨pb,0,none⟩),.pointer (some ⟨xb,0,none⟩)] G (twoR rb pb xb bv a no k r n i c iv)
 (fun _ G' μ'=>G'=G∧∃ a' no',μ'=twoR rb pb xb bv a' no' k r n (nV s) c iv∧RdS l a' no' (nS s)):=by
 (refine v_enter Tryz.func201 rfl Tryz.ntmps201 rfl ?_;intro B _)
 repeat' (first|apply v_region|apply v_read;(case hop=>(apply r_load1;rfl;(apply Cell.own;(case h=>repeat first|exact mhd _|apply mtl);rfl)));(case hd=>rfl)|fail)
 refine v_call (μ1:=[(rb,_)]) (μ2:=_) rfl (rdNumber_s rb _ _ 9223372036854775807 hs hl hr) (PickA.perm (by repeat (exact PickA.here _))) rfl ?_
 rintro _ _ _ - ⟨rfl,rfl,a1,no1,rfl,hr1⟩
 repeat' (first|apply v_nil|apply v_pure;(case hop=>(apply p_fieldAddrB<;>rfl));(case hd=>rfl)|apply v_store;(case hp|hx|hc|hsz|h1=>rfl);(case hb=>repeat first|exact mhd _|apply mtl);(case hfit=>exact nle rfl);(case hov=>((repeat (first|with_reducible exact ov_nil|apply ov_cons));done));(case hu=>repeat first|exact Upd.here _ _|apply Upd.there)|fail)
 refine v_end [(rb,_),(pb,_),(xb,_)] (outsA0 rfl) (by repeat (exact List.Sublist.refl _)) ?_
 exact ⟨rfl,a1,no1,rfl,hr1⟩
abbrev getT (s:Option (List Int)):Cm×Option (List Int):=getW (wantB 2 (nV s)) s 6
theorem rd3_s (hs:Sl G 1 (IntR .u8) bv l) (hl:l.length≤1048576) (hr:RdS l a no s):Con Tryz.prog 202 #[.pointer (some ⟨pb,0,none⟩),.pointer (some ⟨xb,0,none⟩)] G (twoR rb pb xb bv a no k r n i c iv)
 (fun _ G' μ'=>∃ a' no',μ'=twoR rb pb xb bv a' no' k r n i (getT s).1 iv∧RdS l a' no' (getT s).2):=by
 have q:=cgetV_s 2 rb _ _ hs hl hr
 have eg:getW (wantB 2 (nV s)) s 6=getT s:=rfl
 rw [eg] at q
 generalize getT s=g at *
 obtain ⟨gc,gs⟩:=g
 (refine v_enter Tryz.func202 rfl Tryz.ntmps202 rfl ?_;intro B _)
 repeat' (first|apply v_region|apply v_read;(case hop=>(apply r_load1;rfl;(apply Cell.own;(case h=>repeat first|exact mhd _|apply mtl);rfl)));(case hd=>rfl)|fail)
 refine v_call (μ1:=[(rb,_)]) (μ2:=_) rfl q (PickA.perm (by repeat (exact PickA.here _))) rfl ?_
 rintro _ G1 _ hle ⟨rfl,a1,no1,rfl,hr1⟩
 repeat' (first|apply v_nil|apply v_pure;(case hop=>(apply p_fieldAddrB<;>rfl));(case hd=>rfl)|apply v_store;(case hp|hx|hc|hsz|h1=>rfl);(case hb=>repeat first|exact mhd _|apply mtl);(case hfit=>exact nle rfl);(case hov=>((repeat (first|with_reducible exact ov_nil|apply ov_cons));done));(case hu=>repeat first|exact Upd.here _ _|apply Upd.there)|fail)
 refine v_end [(rb,_),(pb,_),(xb,_)] (outsA0 rfl) (by repeat (exact List.Sublist.refl _)) ?_
 exact ⟨a1,no1,rfl,hr1⟩
theorem rd4_s (hs:Sl G 1 (IntR .u8) bv l) (hl:l.length≤1048576) (hr:RdS l a no s):Con Tryz.prog 203 #[.pointer (some ⟨pb,0,none⟩),.pointer (some ⟨xb,0,none⟩)] G (twoR rb pb xb bv a no k r n i c iv)
 (fun _ G' μ'=>∃ a' no' jv,μ'=twoR rb pb xb bv a' no' k r n i c jv∧Sl G' 1 (IntR .u8) jv (rawB 32768 s)∧RdS l a' no' (rawS 32768 s)):=by
 have q:=rdRaw_s rb _ _ 32768 hs hl hr
 generalize rawB 32768 s=rl at *
 (refine v_enter Tryz.func203 rfl Tryz.ntmps203 rfl ?_;intro B _)
 repeat' (first|apply v_region|apply v_read;(case hop=>(apply r_load1;rfl;(apply Cell.own;(case h=>repeat first|exact mhd _|apply mtl);rfl)));(case hd=>rfl)|fail)
 refine v_call (μ1:=[(rb,_)]) (μ2:=_) rfl q (PickA.perm (by repeat (exact PickA.here _))) rfl ?_
 rintro _ G1 _ hle ⟨h1,a1,no1,rfl,hr1⟩
 obtain ⟨A1,c1,rfl,-⟩:=h1.openInt
 repeat' (first|apply v_nil|apply v_pure;(case hop=>(apply p_fieldAddrB<;>rfl));(case hd=>rfl)|apply v_store;(case hp|hx|hc|hsz|h1=>rfl);(case hb=>repeat first|exact mhd _|apply mtl);(case hfit=>exact nle rfl);(case hov=>((repeat (first|with_reducible exact ov_nil|apply ov_cons));done));(case hu=>repeat first|exact Upd.here _ _|apply Upd.there)|fail)
 refine v_end [(rb,_),(pb,_),(xb,_)] (outsA0 rfl) (by repeat (exact List.Sublist.refl _)) ?_
 exact ⟨a1,no1,_,rfl,h1,hr1⟩
end
theorem whenR_s {f:FuncId} [Callable Tryz.prog f] {pb xb:Nat}(b:Bool) {G:GH}{μ:OH}{Ψ:GH→OH→Prop}(q:Con Tryz.prog f #[.pointer (some ⟨pb,0,none⟩),.pointer (some ⟨xb,0,none⟩)] G μ (fun _ G' μ'=>Ψ G' μ')) :
 Con Tryz.prog 173 #[.bool b,clo f pb xb] G μ (fun _ G' μ'=>(b=true∧Ψ G' μ')∨(b=false∧G'=G∧μ'=μ)):=by
 (refine v_enter Tryz.func173 rfl Tryz.ntmps173 rfl ?_;intro B _)
 cases b
 ·repeat' (first|apply v_seq|apply v_region|apply v_nil|apply v_skip|apply v_pure;(case hop=>(apply p_move<;>rfl));(case hd=>rfl)|apply v_condF;(case hc=>rfl)|fail)
  refine v_end μ (outsA0 rfl) (List.Sublist.refl _) ?_
  exact .inr ⟨rfl,rfl,rfl⟩
 ·repeat' (first|apply v_seq|apply v_region|apply v_nil|apply v_pure;(case hop=>(apply p_move<;>rfl));(case hd=>rfl)|apply v_condT;(case hc=>rfl)|fail)
  refine v_callC (μ1:=μ) (μ2:=[]) (first:=[]) (captured:=[.pointer (some ⟨pb,0,none⟩),.pointer (some ⟨xb,0,none⟩)]) (vs:=[]) rfl rfl q (by simp) rfl ?_
  rintro r1 G1 μ1 hle1 h1
  repeat' (first|apply v_nil)
  refine v_end μ1 (outsA0 rfl) (by simp) ?_
  exact .inl ⟨rfl,h1⟩
def rdX (k:Int) (s:Option (List Int)):Rc×Option (List Int) :=
 if k=1 then (⟨k,nV s,nV (nS s),0,zeroC,[]⟩,nS (nS s))
 else if k=2 then (⟨k,nV s,nV (nS s),nV (nS (nS s)),(getT (nS (nS (nS s)))).1,[]⟩,(getT (nS (nS (nS s)))).2)
 else if k=3 then (⟨k,0,0,nV s,(getT (nS s)).1,[]⟩,(getT (nS s)).2)
 else (⟨k,0,0,nV s,zeroC,rawB 32768 (nS s)⟩,rawS 32768 (nS s))
theorem walkR_s {G:GH}{l:List Int}{bv:Value}{s:Option (List Int)}{rb pb xb a:Nat}{no k:Int}(hk:k=1∨k=2∨k=3∨k=4) (hs:Sl G 1 (IntR .u8) bv l) (hl:l.length≤1048576) (hr:RdS l a no s) :
 Con Tryz.prog 137 #[.int .i64 k,clo 200 pb xb,clo 201 pb xb,clo 202 pb xb,clo 203 pb xb] G (twoR rb pb xb bv a no k 0 0 0 zeroC (.slice none 0 0))
 (fun _ G' μ'=>∃ a' no' iv,μ'=twoR rb pb xb bv a' no' k (rdX k s).1.round (rdX k s).1.node (rdX k s).1.index (rdX k s).1.cmd iv∧Sl G' 1 (IntR .u8) iv (rdX k s).1.image∧RdS l a' no' (rdX k s).2):=by
 (refine v_enter Tryz.func137 rfl Tryz.ntmps137 rfl ?_;intro B _)
 obtain rfl|rfl|rfl|rfl:=hk
 ·repeat' (first|apply v_seq|apply v_region|apply v_pass;(case hg|hn|hd=>rfl)|apply v_pure;(case hop=>first|apply p_move<;>rfl|apply p_eqs<;>rfl|apply p_pickT<;>rfl|fail);(case hd=>rfl)|fail)
  refine v_call (μ1:=twoR rb pb xb bv a no 1 0 0 0 zeroC (.slice none 0 0)) (μ2:=[]) rfl (whenR_s _ (rd1_s hs hl hr)) (by simp) rfl ?_
  rintro _ G1 _ hle1 (⟨hb,rfl,a1,no1,rfl,hr1⟩|⟨hb,rfl,rfl⟩)
  rotate_left
  ·(exfalso;revert hb;simp [dec_eq])
  repeat' (first|apply v_seq|apply v_region|apply v_nil|apply v_pure;(case hop=>first|apply p_move<;>rfl|apply p_nes<;>rfl|fail);(case hd=>rfl)|fail)
  refine v_call (μ1:=twoR rb pb xb bv a1 no1 1 (nV s) (nV (nS s)) 0 zeroC (.slice none 0 0)) (μ2:=[]) rfl (whenR_s _ (rd2_s hs hl hr1)) (by simp) rfl ?_
  rintro _ G2 _ hle2 (⟨hb,rfl,a2,no2,rfl,hr2⟩|⟨hb,rfl,rfl⟩)
  ·(exfalso;revert hb;simp [dec_eq])
  repeat' (first|apply v_seq|apply v_region|apply v_nil|apply v_take;(case hg=>rfl)|apply v_pure;(case hop=>first|apply p_move<;>rfl|apply p_eq<;>rfl|apply p_pickF<;>rfl|fail);(case hd=>rfl)|apply v_guardB;(case h1|h2=>rfl);all_goals (intro h;(try simp only [reduceCtorEq,zzz] at h);try (exfalso;omega))|fail)
  refine v_call (μ1:=twoR rb pb xb bv a1 no1 1 (nV s) (nV (nS s)) 0 zeroC (.slice none 0 0)) (μ2:=[]) rfl (whenR_s _ (rd3_s hs hl hr1)) (by simp) rfl ?_
  rintro _ G3 _ hle3 (⟨hb,a3,no3,rfl,hr3⟩|⟨hb,rfl,rfl⟩)
  ·(exfalso;revert hb;simp [dec_eq])
  repeat' (first|apply v_region|apply v_nil|apply v_pure;(case hop=>first|apply p_move<;>rfl|apply p_eq<;>rfl|fail);(case hd=>rfl)|fail)
  refine v_call (μ1:=twoR rb pb xb bv a1 no1 1 (nV s) (nV (nS s)) 0 zeroC (.slice none 0 0)) (μ2:=[]) rfl (whenR_s _ (rd4_s hs hl hr1)) (by simp) rfl ?_
  rintro _ G4 _ hle4 (⟨hb,a4,no4,jv,rfl,hj,hr4⟩|⟨hb,rfl,rfl⟩)
  ·(exfalso;revert hb;simp [dec_eq])
  repeat' (first|apply v_nil)
  refine v_end (twoR rb pb xb bv a1 no1 1 (nV s) (nV (nS s)) 0 zeroC (.slice none 0 0)) (outsA0 rfl) (by simp) ?_
  exact ⟨a1,no1,_,rfl,Sl.nil,hr1⟩
 ·repeat' (first|apply v_seq|apply v_region|apply v_take;(case hg=>rfl)|apply v_pure;(case hop=>first|apply p_move<;>rfl|apply p_eqs<;>rfl|apply p_eq<;>rfl|apply p_pickF<;>rfl|fail);(case hd=>rfl)|apply v_guardB;(case h1|h2=>rfl);all_goals (intro h;(try simp only [reduceCtorEq,zzz] at h);try (exfalso;omega))|fail)
  refine v_call (μ1:=twoR rb pb xb bv a no 2 0 0 0 zeroC (.slice none 0 0)) (μ2:=[]) rfl (whenR_s _ (rd1_s hs hl hr)) (by simp) rfl ?_
  rintro _ G1 _ hle1 (⟨hb,rfl,a1,no1,rfl,hr1⟩|⟨hb,rfl,rfl⟩)
  rotate_left
  ·(exfalso;revert hb;simp [dec_eq])
  repeat' (first|apply v_seq|apply v_region|apply v_nil|apply v_pure;(case hop=>first|apply p_move<;>rfl|apply p_ne<;>rfl|fail);(case hd=>rfl)|fail)
  refine v_call (μ1:=twoR rb pb xb bv a1 no1 2 (nV s) (nV (nS s)) 0 zeroC (.slice none 0 0)) (μ2:=[]) rfl (whenR_s _ (rd2_s hs hl hr1)) (by simp) rfl ?_
  rintro _ G2 _ hle2 (⟨hb,rfl,a2,no2,rfl,hr2⟩|⟨hb,rfl,rfl⟩)
  rotate_left
  ·(exfalso;revert hb;simp [dec_eq])
  repeat' (first|apply v_seq|apply v_region|apply v_nil|apply v_pass;(case hg|hn|hd=>rfl)|apply v_pure;(case hop=>first|apply p_move<;>rfl|apply p_eqs<;>rfl|apply p_pickT<;>rfl|fail);(case hd=>rfl)|fail)
  refine v_call (μ1:=twoR rb pb xb bv a2 no2 2 (nV s) (nV (nS s)) (nV (nS (nS s))) zeroC (.slice none 0 0)) (μ2:=[]) rfl (whenR_s _ (rd3_s hs hl hr2)) (by simp) rfl ?_
  rintro _ G3 _ hle3 (⟨hb,a3,no3,rfl,hr3⟩|⟨hb,rfl,rfl⟩)
  rotate_left
  ·(exfalso;revert hb;simp [dec_eq])
  repeat' (first|apply v_region|apply v_nil|apply v_pure;(case hop=>first|apply p_move<;>rfl|apply p_eq<;>rfl|fail);(case hd=>rfl)|fail)
  refine v_call (μ1:=twoR rb pb xb bv a3 no3 2 (nV s) (nV (nS s)) (nV (nS (nS s))) (getT (nS (nS (nS s)))).1 (.slice none 0 0)) (μ2:=[]) rfl (whenR_s _ (rd4_s (hs.mono hle3) hl hr3)) (by simp) rfl ?_
  rintro _ G4 _ hle4 (⟨hb,a4,no4,jv,rfl,hj,hr4⟩|⟨hb,rfl,rfl⟩)
  ·(exfalso;revert hb;simp [dec_eq])
  repeat' (first|apply v_nil)
  refine v_end (twoR rb pb xb bv a3 no3 2 (nV s) (nV (nS s)) (nV (nS (nS s))) (getT (nS (nS (nS s)))).1 (.slice none 0 0)) (outsA0 rfl) (by simp) ?_
  exact ⟨a3,no3,_,rfl,Sl.nil,hr3⟩
 ·repeat' (first|apply v_seq|apply v_region|apply v_take;(case hg=>rfl)|apply v_pure;(case hop=>first|apply p_move<;>rfl|apply p_eq<;>rfl|apply p_pickF<;>rfl|fail);(case hd=>rfl)|apply v_guardB;(case h1|h2=>rfl);all_goals (intro h;(try simp only [reduceCtorEq,zzz] at h);try (exfalso;omega))|fail)
  refine v_call (μ1:=twoR rb pb xb bv a no 3 0 0 0 zeroC (.slice none 0 0)) (μ2:=[]) rfl (whenR_s _ (rd1_s hs hl hr)) (by simp) rfl ?_
  rintro _ G1 _ hle1 (⟨hb,rfl,a1,no1,rfl,hr1⟩|⟨hb,rfl,rfl⟩)
  ·(exfalso;revert hb;simp [dec_eq])
  repeat' (first|apply v_seq|apply v_region|apply v_nil|apply v_pure;(case hop=>first|apply p_move<;>rfl|apply p_ne<;>rfl|fail);(case hd=>rfl)|fail)
  refine v_call (μ1:=twoR rb pb xb bv a no 3 0 0 0 zeroC (.slice none 0 0)) (μ2:=[]) rfl (whenR_s _ (rd2_s hs hl hr)) (by simp) rfl ?_
  rintro _ G2 _ hle2 (⟨hb,rfl,a2,no2,rfl,hr2⟩|⟨hb,rfl,rfl⟩)
  rotate_left
  ·(exfalso;revert hb;simp [dec_eq])
  repeat' (first|apply v_seq|apply v_region|apply v_nil|apply v_take;(case hg=>rfl)|apply v_pure;(case hop=>first|apply p_move<;>rfl|apply p_eqs<;>rfl|apply p_eq<;>rfl|apply p_pickF<;>rfl|fail);(case hd=>rfl)|apply v_guardB;(case h1|h2=>rfl);all_goals (intro h;(try simp only [reduceCtorEq,zzz] at h);try (exfalso;omega))|fail)
  refine v_call (μ1:=twoR rb pb xb bv a2 no2 3 0 0 (nV s) zeroC (.slice none 0 0)) (μ2:=[]) rfl (whenR_s _ (rd3_s hs hl hr2)) (by simp) rfl ?_
  rintro _ G3 _ hle3 (⟨hb,a3,no3,rfl,hr3⟩|⟨hb,rfl,rfl⟩)
  rotate_left
  ·(exfalso;revert hb;simp [dec_eq])
  repeat' (first|apply v_region|apply v_nil|apply v_pure;(case hop=>first|apply p_move<;>rfl|apply p_eq<;>rfl|fail);(case hd=>rfl)|fail)
  refine v_call (μ1:=twoR rb pb xb bv a3 no3 3 0 0 (nV s) (getT (nS s)).1 (.slice none 0 0)) (μ2:=[]) rfl (whenR_s _ (rd4_s (hs.mono hle3) hl hr3)) (by simp) rfl ?_
  rintro _ G4 _ hle4 (⟨hb,a4,no4,jv,rfl,hj,hr4⟩|⟨hb,rfl,rfl⟩)
  ·(exfalso;revert hb;simp [dec_eq])
  repeat' (first|apply v_nil)
  refine v_end (twoR rb pb xb bv a3 no3 3 0 0 (nV s) (getT (nS s)).1 (.slice none 0 0)) (outsA0 rfl) (by simp) ?_
  exact ⟨a3,no3,_,rfl,Sl.nil,hr3⟩
 ·repeat' (first|apply v_seq|apply v_region|apply v_take;(case hg=>rfl)|apply v_pure;(case hop=>first|apply p_move<;>rfl|apply p_eq<;>rfl|apply p_pickF<;>rfl|fail);(case hd=>rfl)|apply v_guardB;(case h1|h2=>rfl);all_goals (intro h;(try simp only [reduceCtorEq,zzz] at h);try (exfalso;omega))|fail)
  refine v_call (μ1:=twoR rb pb xb bv a no 4 0 0 0 zeroC (.slice none 0 0)) (μ2:=[]) rfl (whenR_s _ (rd1_s hs hl hr)) (by simp) rfl ?_
  rintro _ G1 _ hle1 (⟨hb,rfl,a1,no1,rfl,hr1⟩|⟨hb,rfl,rfl⟩)
  ·(exfalso;revert hb;simp [dec_eq])
  repeat' (first|apply v_seq|apply v_region|apply v_nil|apply v_pure;(case hop=>first|apply p_move<;>rfl|apply p_ne<;>rfl|fail);(case hd=>rfl)|fail)
  refine v_call (μ1:=twoR rb pb xb bv a no 4 0 0 0 zeroC (.slice none 0 0)) (μ2:=[]) rfl (whenR_s _ (rd2_s hs hl hr)) (by simp) rfl ?_
  rintro _ G2 _ hle2 (⟨hb,rfl,a2,no2,rfl,hr2⟩|⟨hb,rfl,rfl⟩)
  rotate_left
  ·(exfalso;revert hb;simp [dec_eq])
  repeat' (first|apply v_seq|apply v_region|apply v_nil|apply v_take;(case hg=>rfl)|apply v_pure;(case hop=>first|apply p_move<;>rfl|apply p_eq<;>rfl|apply p_pickF<;>rfl|fail);(case hd=>rfl)|apply v_guardB;(case h1|h2=>rfl);all_goals (intro h;(try simp only [reduceCtorEq,zzz] at h);try (exfalso;omega))|fail)
  refine v_call (μ1:=twoR rb pb xb bv a2 no2 4 0 0 (nV s) zeroC (.slice none 0 0)) (μ2:=[]) rfl (whenR_s _ (rd3_s hs hl hr2)) (by simp) rfl ?_
  rintro _ G3 _ hle3 (⟨hb,a3,no3,rfl,hr3⟩|⟨hb,rfl,rfl⟩)
  ·(exfalso;revert hb;simp [dec_eq])
  repeat' (first|apply v_region|apply v_nil|apply v_pure;(case hop=>first|apply p_move<;>rfl|apply p_eqs<;>rfl|fail);(case hd=>rfl)|fail)
  refine v_call (μ1:=twoR rb pb xb bv a2 no2 4 0 0 (nV s) zeroC (.slice none 0 0)) (μ2:=[]) rfl (whenR_s _ (rd4_s hs hl hr2)) (by simp) rfl ?_
  rintro _ G4 _ hle4 (⟨hb,a4,no4,jv,rfl,hj,hr4⟩|⟨hb,rfl,rfl⟩)
  rotate_left
  ·(exfalso;revert hb;simp [dec_eq])
  repeat' (first|apply v_nil)
  refine v_end (twoR rb pb xb bv a4 no4 4 0 0 (nV s) zeroC jv) (outsA0 rfl) (by simp) ?_
  exact ⟨a4,no4,_,rfl,hj,hr4⟩
theorem tread_s {G:GH}{l:List Int}{bv:Value}{s:Option (List Int)}{rb a:Nat}{no k:Int}(hk:k=1∨k=2∨k=3∨k=4) (hs:Sl G 1 (IntR .u8) bv l) (hl:l.length≤1048576) (hr:RdS l a no s) :
 Con Tryz.prog 178 #[.pointer (some ⟨rb,0,none⟩),.int .i64 k] G [(rb,rdO bv a no)] (fun r' G' μ'=>RcV G' (rdX k s).1 r'∧∃ a' no',μ'=[(rb,rdO bv (a':Nat) no')]∧RdS l a' no' (rdX k s).2):=by
 have ek:(rdX k s).1.kind=k:=by unfold rdX;(repeat' split)<;>rfl
 have q:=fun pb xb=>walkR_s (rb:=rb) (pb:=pb) (xb:=xb) hk hs hl hr
 generalize rdX k s=X at *
 obtain ⟨x,s'⟩:=X
 simp only at ek q ⊢
 (refine v_enter Tryz.func178 rfl Tryz.ntmps178 rfl ?_;intro B _)
 repeat' (first|apply v_seq|apply v_region|apply v_nil|apply v_pure;(case hop=>first|apply p_move<;>rfl|apply p_makeFunc<;>rfl|apply p_build;(case hz=>rfl);(case hv=>(simp only [List.map_cons,List.map_nil];repeat (first|with_reducible exact evs_nil|apply evs_cons;(case h1=>rfl))));(case hb=>(apply bldL;repeat (first|exact bld_nil|apply bld_cons;(case hpf|hc|hs|hl=>rfl);(case ho=>((repeat (first|with_reducible exact ov_nil|apply ov_cons));done))))));(case hd=>rfl)|apply v_alloc;(case hz|hd=>rfl);intro b|apply v_box;(case hx|hz|hd=>rfl);intro b|apply v_store;(case hp|hx|hc|hsz|h1=>rfl);(case hb=>repeat exact mhd _);(case hfit=>exact nle rfl);(case hov=>((repeat (first|with_reducible exact ov_nil|apply ov_cons));done));(case hu=>repeat (exact Upd.here _ _))|fail)
 rename_i pb ob
 refine v_call (μ1:=twoR rb pb b bv a no k 0 0 0 zeroC (.slice none 0 0)) (μ2:=[(ob,.cells (recL 0 0 0 0 zeroC (.slice none 0 0)).toArray 42 (0,0))]) rfl (q pb b) (by apply perm_of_count;intro p;simp only [List.append_eq,List.countP_append,List.countP_cons,List.countP_nil,Nat.zero_add,Nat.add_zero];try ac_rfl) rfl ?_
 rintro _ G1 _ hle ⟨a',no',iv,rfl,hi,hr'⟩
 obtain ⟨A1,c1,rfl,-⟩:=hi.openInt
 repeat' (first|apply v_seq|apply v_region|apply v_nil|apply v_read;(case hop=>(apply r_loadNo;(case hx=>rfl);(case h=>repeat first|exact mhd _|apply mtl);(case hd=>repeat first|with_reducible exact dt_nil|apply dt_here);(case hn=>rfl)));(case hd=>rfl)|apply v_store;(case hp|hx|hc|hsz|h1=>rfl);(case hb=>repeat first|exact mhd _|apply mtl);(case hfit=>exact nle rfl);(case hov=>((repeat (first|with_reducible exact ov_nil|apply ov_cons));done));(case hu=>repeat first|exact Upd.here _ _|apply Upd.there)|fail)
 refine v_retM [(rb,_)] (outsM_cell (vs:=recL k x.round x.node x.index x.cmd (.slice A1 x.image.length c1)) (e:=42) rfl rfl (by repeat (first|exact mhd _|apply mtl)) rfl) (by repeat (first|exact List.nil_sublist _|apply List.Sublist.cons_cons)) ?_
 exact ⟨⟨_,by rw [ek],hi⟩,a',no',rfl,hr'⟩
def decT (s:Option (List Int)):Rc×Option (List Int):=rdX (nV s-16) (nS s)
def decTOk (s:Option (List Int)):Prop:=nS s≠none∧(17≤nV s∧nV s≤20)∧(decT s).2=some []∧chkI (decT s).1=0
theorem rdX_ok {k:Int}{s:Option (List Int)}(h:byteS s):(rdX k s).1.cmd.ok:=by
 have h1:=numS_b h 9223372036854775807
 have h2:=numS_b h1 9223372036854775807
 have h3:=numS_b h2 9223372036854775807
 unfold rdX
 split
 ·exact zeroC_ok
 ·split
  ·exact (getW_ok _ h3 6).1
  ·split
   ·exact (getW_ok _ h1 6).1
   ·exact zeroC_ok
def DecT (s:Option (List Int)) (r:Value) (G':GH) (μ':OH):Prop:=μ'=[]∧∃ x v e,r=.tuple [v,.int .i64 e].toArray∧RcV G' x v∧((decTOk s∧x=(decT s).1∧e=0)∨(¬ decTOk s∧x=zeroRc∧e≠0))
theorem tdecode_s {G:GH}(hT:TabsG G) {l:List Int}{bv:Value}(hs:Sl G 1 (IntR .u8) bv l) (hl:l.length≤1048000):Con Tryz.prog 152 #[bv] G [] (DecT (some l)):=by
 have hby:byteS (some l):=fun r hr x hx=>by cases hr;exact sl_byte hs x hx
 have hok:(decT (some l)).1.cmd.ok:=rdX_ok (numS_b hby _)
 have eT:decT (some l)=rdX (numV 9223372036854775807 (some l)-16) (numS 9223372036854775807 (some l)):=rfl
 have eO:decTOk (some l)↔(numS 9223372036854775807 (some l)≠none∧(17≤numV 9223372036854775807 (some l)∧numV 9223372036854775807 (some l)≤20)∧(decT (some l)).2=some []∧chkI (decT (some l)).1=0):=Iff.rfl
 have hnb:=numV_b hby 9223372036854775807
 unfold DecT
 generalize decT (some l)=X at *
 generalize decTOk (some l)=OK at *
 obtain ⟨x,s'⟩:=X
 simp only at hok eO ⊢
 (refine v_enter Tryz.func152 rfl Tryz.ntmps152 rfl ?_;intro B _)
 repeat' (first|apply v_seq|apply v_region|apply v_nil|apply v_pure;(case hop=>first|apply p_move<;>rfl|apply p_assign<;>rfl|fail);(case hd=>rfl)|apply v_alloc;(case hz|hd=>rfl);intro b|fail)
 refine v_call (μ1:=[]) (μ2:=_) rfl (newReader_s hs hl) (List.Perm.refl _) rfl ?_
 rintro _ G1 _ - ⟨hle1,rb,bv1,rfl,rfl,hs1⟩
 have hr0:RdS l 0 0 (some l):=⟨by omega,.inr ⟨by simp,rfl⟩⟩
 repeat' (first|apply v_seq|apply v_region|apply v_nil|apply v_pure;(case hop=>first|apply p_move<;>rfl|apply p_assign<;>rfl|fail);(case hd=>rfl)|fail)
 refine v_call (μ1:=[(rb,_)]) (μ2:=_) rfl (rdNumber_s rb _ _ 9223372036854775807 hs1 (by omega) hr0) (PickA.perm (by repeat (exact PickA.here _))) rfl ?_
 rintro _ _ _ - ⟨rfl,rfl,a1,no1,rfl,hr1⟩
 generalize numS 9223372036854775807 (some l)=s1 at *
 generalize numV 9223372036854775807 (some l)=fn at *
 have qe:=fun G no a=>rerr_s G rb bv1 a no
 repeat' (first|apply v_seq|apply v_region|apply v_nil|apply v_skip|apply v_take;(case hg=>rfl)|apply v_pass;(case hg|hn|hd=>rfl)|apply v_pure;(case hop=>first|apply p_move<;>rfl|apply p_gt<;>rfl|apply p_ne<;>rfl|apply p_le<;>rfl|apply p_assign<;>rfl|apply p_pickT<;>rfl|apply p_pickF<;>rfl|apply p_sub;(case hx|hy=>rfl);(case h=>omega)|apply p_build;(case hz=>rfl);(case hv=>(simp only [List.map_cons,List.map_nil];repeat (with_reducible exact evs_nil)));(case hb=>(apply bldL;repeat (exact bld_nil)))|fail);(case hd=>rfl)|apply v_condT;(case hc=>rfl)|apply v_cond;(case hc=>rfl);all_goals (intro h;(try simp only [reduceCtorEq,zzz] at h))|apply v_guardB;(case h1|h2=>rfl);all_goals (intro h;(try simp only [reduceCtorEq,zzz] at h))|apply v_callK (hs:=qe _ _ _);(case ha=>rfl);(case hp=>exact (Pick.perm (by repeat (exact Pick.here _))));(case hd=>rfl)|apply v_store;(case hp|hx|hc|hsz|h1=>rfl);(case hb=>repeat first|exact mhd _|apply mtl);(case hfit=>exact nle rfl);(case hov=>((repeat (first|with_reducible exact ov_nil|apply ov_cons));done));(case hu=>repeat first|exact Upd.here _ _|apply Upd.there)|fail)
 ·refine v_retM [] (outsM_cell_tmp (vs:=zeroRL) (e:=42) rfl rfl rfl (by repeat (first|exact mhd _|apply mtl)) rfl) (by repeat (exact List.nil_sublist _)) ?_
  obtain ⟨-,⟨h2,-⟩|⟨-,h2⟩⟩:=hr1
  ·exact ⟨rfl,_,_,_,rfl,⟨_,rfl,Sl.nil⟩,.inr ⟨fun hh=>(eO.1 hh).1 h2,rfl,‹_›⟩⟩
  ·exact absurd h2 ‹_›
 ·refine v_retM [] (outsM_cell_tmp (vs:=zeroRL) (e:=42) rfl rfl rfl (by repeat (first|exact mhd _|apply mtl)) rfl) (by repeat (exact List.nil_sublist _)) ?_
  exact ⟨rfl,_,_,_,rfl,⟨_,rfl,Sl.nil⟩,.inr ⟨fun hh=>by have:=(eO.1 hh).2.1;omega,rfl,by decide⟩⟩
 ·refine v_retM [] (outsM_cell_tmp (vs:=zeroRL) (e:=42) rfl rfl rfl (by repeat (first|exact mhd _|apply mtl)) rfl) (by repeat (exact List.nil_sublist _)) ?_
  exact ⟨rfl,_,_,_,rfl,⟨_,rfl,Sl.nil⟩,.inr ⟨fun hh=>by have:=(eO.1 hh).2.1;omega,rfl,by decide⟩⟩
 ·have qr:=tread_s (rb:=rb) (k:=fn-16) (by omega) hs1 (by omega) hr1
  rw [← eT] at qr
  simp only at qr
  refine v_call (μ1:=[(rb,_)]) (μ2:=_) rfl qr (PickA.perm (by repeat (exact PickA.here _))) rfl ?_
  rintro r2 G2 _ hle2 ⟨hx,a2,no2,rfl,hr2⟩
  obtain ⟨iv,rfl,hi⟩:=id hx
  obtain ⟨A1,c1,rfl,hlc1,hcm1,-⟩:=id hi.openInt
  simp only [maxLen] at hcm1
  have qc:=recCheck_s (hT.le (GH.le_trans hle1 hle2)) x.kind x.round x.node x.index x.cmd hok A1 x.image.length c1 (by omega)
  have hne:s1≠none:=by
   obtain ⟨-,⟨h2,h3⟩|⟨h2,-⟩⟩:=hr1
   ·exact absurd ‹no1=0› h3
   ·rw [h2];simp
  unfold chkI at eO
  generalize recI x.kind x.round x.node x.index x.cmd x.image.length=o at *
  unfold recL
  repeat' (first|apply v_seq|apply v_region|apply v_nil|apply v_pure;(case hop=>(apply p_move<;>rfl));(case hd=>rfl)|apply v_alloc;(case hz|hd=>rfl);intro b|apply v_store;(case hp|hx|hc|hsz|h1=>rfl);(case hb=>repeat exact mhd _);(case hfit=>exact nle rfl);(case hov=>((repeat (first|with_reducible exact ov_nil|apply ov_cons));done));(case hu=>repeat (exact Upd.here _ _))|fail)
  refine v_call (μ1:=[(rb,_)]) (μ2:=_) rfl (rdDone_s rb _ _ (hs1.mono hle2) (by omega) hr2) (PickA.perm (by repeat (first|exact PickA.here _|apply PickA.cons))) rfl ?_
  rintro _ _ _ - ⟨rfl,⟨ed,rfl,hed⟩,rfl⟩
  repeat' (first|apply v_seq|apply v_region|apply v_nil|apply v_skip|apply v_pure;(case hop=>first|apply p_move<;>rfl|apply p_eq<;>rfl|apply p_ne<;>rfl|apply p_assign<;>rfl|apply p_build;(case hz=>rfl);(case hv=>(simp only [List.map_cons,List.map_nil];repeat (with_reducible exact evs_nil)));(case hb=>(apply bldL;repeat (exact bld_nil)))|fail);(case hd=>rfl)|apply v_cond;(case hc=>rfl);all_goals (intro h;(try simp only [reduceCtorEq,zzz] at h);try (exfalso;omega))|apply v_callJ (hs:=qc);(case ha|hd=>rfl)|apply v_read;(case hop=>(apply r_loadNo;(case hx=>rfl);(case h=>repeat first|exact mhd _|apply mtl);(case hd=>repeat first|with_reducible exact dt_nil|apply dt_here);(case hn=>rfl)));(case hd=>rfl)|apply v_store;(case hp|hx|hc|hsz|h1=>rfl);(case hb=>repeat first|exact mhd _|apply mtl);(case hfit=>exact nle rfl);(case hov=>((repeat (first|with_reducible exact ov_nil|apply ov_cons));done));(case hu=>repeat first|exact Upd.here _ _|apply Upd.there)|fail)
  ·refine v_retM [] (outsM_cell_tmp (vs:=zeroRL) (e:=42) rfl rfl rfl (by repeat (first|exact mhd _|apply mtl)) rfl) (by repeat (exact List.nil_sublist _)) ?_
   exact ⟨rfl,_,_,_,rfl,⟨_,rfl,Sl.nil⟩,.inr ⟨fun hh=>absurd (eO.1 hh).2.2.2 ‹_›,rfl,‹_›⟩⟩
  ·refine v_retM [] (outsM_cell_tmp (vs:=recL x.kind x.round x.node x.index x.cmd (.slice A1 x.image.length c1)) (e:=42) rfl rfl rfl (by repeat (first|exact mhd _|apply mtl)) rfl) (by repeat (exact List.nil_sublist _)) ?_
   exact ⟨rfl,_,_,_,rfl,hx,.inl ⟨eO.2 ⟨hne,by omega,hed.1 ‹_›,‹_›⟩,rfl,rfl⟩⟩
  ·refine v_retM [] (outsM_cell_tmp (vs:=zeroRL) (e:=42) rfl rfl rfl (by repeat (first|exact mhd _|apply mtl)) rfl) (by repeat (exact List.nil_sublist _)) ?_
   exact ⟨rfl,_,_,_,rfl,⟨_,rfl,Sl.nil⟩,.inr ⟨fun hh=>absurd (hed.2 (eO.1 hh).2.2.1) ‹_›,rfl,‹_›⟩⟩
theorem enc_dec {l:List Int}(hb:byteS (some l)) (h:decOk (some l)):encL (decX (some l))=l:=by
 obtain ⟨h1,h2,h3⟩:=h
 have b1:=numS_b hb 9223372036854775807
 have b2:=numS_b b1 9223372036854775807
 have b3:=numS_b b2 9223372036854775807
 have b4:=numS_b b3 9223372036854775807
 have key:∀ t,nS (nS (nS (nS (some l))))=some t→l=vbytes (nV (some l))++(vbytes (nV (nS (some l)))++(vbytes (nV (nS (nS (some l))))++(vbytes (nV (nS (nS (nS (some l)))))++t))):=fun t ht=>by
  have q3:=num_inv b3 ht
  have q2:=num_inv b2 q3
  have q1:=num_inv b1 q2
  have q0:=num_inv hb q1
  exact Option.some.inj q0
 unfold decS at h1
 unfold decX encL headL
 by_cases h23:nV (some l)=2∨nV (some l)=3
 ·rw [if_pos h23] at h1 ⊢
  have:=key _ (getW_all _ b4 h1)
  have hk:putL (getK (nS (nS (nS (nS (some l))))) 6).1 6=putW (wantB 1 (nV (nS (nS (nS (nS (some l))))))) (getK (nS (nS (nS (nS (some l))))) 6).1 6:=by unfold putL;rw [getW_kind]
  rw [if_pos h23,hk]
  simp only [List.append_nil,List.nil_append,List.append_assoc] at this ⊢
  exact this.symm
 ·rw [if_neg h23] at h1 ⊢
  by_cases h4:nV (some l)=4
  ·rw [if_pos h4] at h1 ⊢
   have:=key _ (raw_inv b4 h1)
   rw [if_neg h23,if_pos h4]
   simp only [List.append_nil,List.nil_append,List.append_assoc] at this ⊢
   exact this.symm
  ·rw [if_neg h4] at h1 ⊢
   have:=key _ h1
   rw [if_neg h23,if_neg h4]
   simp only [List.append_nil,List.nil_append,List.append_assoc] at this ⊢
   exact this.symm
theorem decX_kind (s:Option (List Int)):(decX s).kind=nV s:=by
 unfold decX
 split
 ·rfl
 ·split<;>rfl
theorem decOk_enc {x:Rc}(h:olderI x=0) (hl:¬ x.large):decOk (some (encL x)):=by
 obtain ⟨h1,h2⟩:=dec_enc h hl
 have hk:=decX_kind (some (encL x))
 rw [h1] at hk
 obtain ⟨h3,-⟩:=older0 h
 obtain ⟨h4,-⟩:=rec0 h3
 exact ⟨h2,by rw [← hk];exact h4,by rw [h1];exact h⟩
end Go.Proofs.YtpemabgfmnhhnaaGreatDoor
