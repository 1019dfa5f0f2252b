/-
  pack, the sixth part: a reader's numbers.
-/
import Derived.Test.YtpemabgfmnhhnaaGreatDoorM3
import Derived.Laws.BytesArg
import Derived.Test.YtpemabgfmnhhnaaGreatDoorM2
import Derived.Lib.LaidU8T
import Derived.MakeChecks
import Derived.Test.YtpemabgfmnhhnaaGreatDoorRows
import Derived.Test.YtpemabgfmnhhnaaGreatDoorM1
import Derived.Maps.RangeRun
import Derived.Maps.Keyed
import Derived.RangeFuncOwn
set_option linter.unusedSimpArgs false
set_option linter.unusedVariables false
namespace Go.Proofs.YtpemabgfmnhhnaaGreatDoor
open Go.Vx Go.ChangeShapes Go.WideShapes Go.ChangeAt Go.RowKit
def limN (r:List Int):Int:=match dvk 0 r with|some p=>p.1|none=>0
def limAt (l:List Int) (a:Nat):Nat:=match dvk 0 (l.drop a) with|some p=>l.length - p.2.length|none=>0
def limNo (most:Int) (r:List Int):Int:=match dvk 0 r with|some p=>if most < p.1 then 2 else 0|none=>dve 0 r
theorem fail_s (G:GH) (rb:Nat) (bv:Value) (a:Nat) (no e:Int):Con Tryz.prog 175 #[.pointer (some ⟨rb,0,none⟩),.int .i64 e] G [(rb,rdO bv a no)] (Keeps (.tuple #[]) G [(rb,rdO bv a e)]):=by
  (refine v_enter Tryz.func175 rfl Tryz.ntmps175 rfl ?_;intro B _)
  repeat' (first|apply v_region|apply v_nil|(apply v_pure;(case hop=>first|(apply p_move <;> rfl)|(apply p_fieldAddrB <;> rfl)|(apply p_nilCheck <;> rfl));(case hd=>rfl))|(apply v_store;(case hp=>rfl);(case hx=>rfl);(case hc=>rfl);(case hsz=>rfl);(case h1=>rfl);(case hb=>(repeat (exact mhd _)));(case hfit=>exact nle rfl);(case hov=>((repeat (first|with_reducible exact ov_nil|apply ov_cons));done));(case hu=>repeat (exact Upd.here _ _)))|fail)
  refine v_end [(rb,_)] (outsA0 rfl) (by repeat (exact List.Sublist.refl _)) ?_
  exact ⟨rfl,rfl,rfl⟩
theorem left_s {G:GH} {l:List Int} {bv:Value} (rb a:Nat) (no:Int) (hs:Sl G 1 (IntR .u8) bv l) (hl:l.length ≤ 1048576) (ha:a ≤ l.length):Con Tryz.prog 150 #[.pointer (some ⟨rb,0,none⟩)] G [(rb,rdO bv a no)] (Keeps (.int .i64 ((l.length:Nat) - (a:Nat))) G [(rb,rdO bv a no)]):=by
  obtain ⟨A,c,rfl,hlc,hcm,-,-,-⟩:=hs.openInt
  apply Con.keeps
  (refine v_enter Tryz.func150 rfl Tryz.ntmps150 rfl ?_;intro B _)
  repeat' (first|apply v_seq|apply v_region|apply v_nil|(apply v_pure;(case hop=>(apply p_assign <;> rfl));(case hd=>rfl))|fail)
  refine d_start _ (by kernel_rfl) (by kernel_rfl) (by kernel_rfl) (fun _ he=>he) ?_
  all_goals (apply dtk 0;(case hi=>rfl);(case hop=>(apply prd;apply p_move <;> rfl));(case hq=>kernel_rfl))
  all_goals (apply dtk 1;(case hi=>rfl);(case hop=>(apply prd;apply p_nilCheck <;> rfl));(case hq=>kernel_rfl))
  all_goals (apply dtk 2;(case hi=>rfl);(case hop=>(apply prd;apply p_fieldAddrB <;> rfl));(case hq=>kernel_rfl))
  all_goals (apply dtk 3;(case hi=>rfl);(case hop=>first|(apply r_loadNo;(case hx=>rfl);(case h=>(repeat (fail)));(case hd=>(repeat (fail)));(case hn=>rfl))|(apply r_load1;rfl;(apply Cell.own;(case h=>(repeat (exact mhd _)));rfl))|(apply r_loadN;rfl;(apply CellsAt.own;(case h=>(repeat (fail))));rfl));(case hq=>kernel_rfl))
  all_goals (apply dtk 4;(case hi=>rfl);(case hop=>(apply prd;apply p_lenSlice <;> rfl));(case hq=>kernel_rfl))
  all_goals (apply dtk 5;(case hi=>rfl);(case hop=>(apply prd;apply p_move <;> rfl));(case hq=>kernel_rfl))
  all_goals (apply dtk 6;(case hi=>rfl);(case hop=>(apply prd;apply p_nilCheck <;> rfl));(case hq=>kernel_rfl))
  all_goals (apply dtk 7;(case hi=>rfl);(case hop=>(apply prd;apply p_fieldAddrB <;> rfl));(case hq=>kernel_rfl))
  all_goals (apply dtk 8;(case hi=>rfl);(case hop=>first|(apply r_loadNo;(case hx=>rfl);(case h=>(repeat (fail)));(case hd=>(repeat (fail)));(case hn=>rfl))|(apply r_load1;rfl;(apply Cell.own;(case h=>(repeat (exact mhd _)));rfl))|(apply r_loadN;rfl;(apply CellsAt.own;(case h=>(repeat (fail))));rfl));(case hq=>kernel_rfl))
  all_goals (apply dtk 9;(case hi=>rfl);(case hop=>(apply prd;apply p_sub;(case hx=>rfl);(case hy=>rfl);(case h=>omega)));(case hq=>kernel_rfl))
  all_goals (apply dtk 10;(case hi=>rfl);(case hop=>(apply prd;apply p_assign <;> rfl));(case hq=>kernel_rfl))
  all_goals (apply d_done;(case hr=>kernel_rfl))
  repeat' (fail)
  refine v_ret [(rb,_)] (outsA1 rfl rfl) (by repeat (exact List.Sublist.refl _)) ?_
  exact ⟨rfl,rfl⟩
theorem limited_s {G:GH} {l:List Int} {bv:Value} (rb a:Nat) (most:Int) (hs:Sl G 1 (IntR .u8) bv l) (hl:l.length ≤ 1048576) (ha:a ≤ l.length) :
    Con Tryz.prog 148 #[.pointer (some ⟨rb,0,none⟩),.int .i64 most] G [(rb,rdO bv a 0)] (Keeps (.int .i64 (limN (l.drop a))) G [(rb,rdO bv (limAt l a) (limNo most (l.drop a)))]):=by
  have qg:=vget_s a hs hl ha
  obtain ⟨A,c,rfl,hlc,hcm,-,-,-⟩:=hs.openInt
  unfold GetV at qg
  unfold limN limAt limNo
  have he:=dve_none (l.drop a) 0
  cases h:dvk 0 (l.drop a) with
  | none =>
    rw [h] at qg
    rw [h] at he
    simp only at qg ⊢
    have he':=he.1 rfl
    generalize dve 0 (l.drop a) = e at *
    (refine v_enter Tryz.func148 rfl Tryz.ntmps148 rfl ?_;intro B _)
    repeat' (first|apply v_seq|apply v_region|apply v_nil|(apply v_pure;(case hop=>(apply p_assign <;> rfl));(case hd=>rfl))|fail)
    refine d_start _ (by kernel_rfl) (by kernel_rfl) (by kernel_rfl) (fun _ he=>he) ?_
    all_goals (apply dtk 0;(case hi=>rfl);(case hop=>(apply prd;apply p_move <;> rfl));(case hq=>kernel_rfl))
    all_goals (apply dtk 1;(case hi=>rfl);(case hop=>(apply prd;apply p_nilCheck <;> rfl));(case hq=>kernel_rfl))
    all_goals (apply dtk 2;(case hi=>rfl);(case hop=>(apply prd;apply p_fieldAddrB <;> rfl));(case hq=>kernel_rfl))
    all_goals (apply dtk 3;(case hi=>rfl);(case hop=>first|(apply r_loadNo;(case hx=>rfl);(case h=>(repeat (fail)));(case hd=>(repeat (fail)));(case hn=>rfl))|(apply r_load1;rfl;(apply Cell.own;(case h=>(repeat (exact mhd _)));rfl))|(apply r_loadN;rfl;(apply CellsAt.own;(case h=>(repeat (fail))));rfl));(case hq=>kernel_rfl))
    all_goals (apply dtk 4;(case hi=>rfl);(case hop=>(apply prd;apply p_move <;> rfl));(case hq=>kernel_rfl))
    all_goals (apply dtk 5;(case hi=>rfl);(case hop=>(apply prd;apply p_nilCheck <;> rfl));(case hq=>kernel_rfl))
    all_goals (apply dtk 6;(case hi=>rfl);(case hop=>(apply prd;apply p_fieldAddrB <;> rfl));(case hq=>kernel_rfl))
    all_goals (apply dtk 7;(case hi=>rfl);(case hop=>first|(apply r_loadNo;(case hx=>rfl);(case h=>(repeat (fail)));(case hd=>(repeat (fail)));(case hn=>rfl))|(apply r_load1;rfl;(apply Cell.own;(case h=>(repeat (exact mhd _)));rfl))|(apply r_loadN;rfl;(apply CellsAt.own;(case h=>(repeat (fail))));rfl));(case hq=>kernel_rfl))
    all_goals (apply d_callJ 8 (hs:=qg);(case hi=>rfl);(case hr=>kernel_rfl);(case ha=>rfl);(case hd=>rfl))
    all_goals (apply dtk 9;(case hi=>rfl);(case hop=>(apply prd;apply p_move <;> rfl));(case hq=>kernel_rfl))
    all_goals (apply dtk 10;(case hi=>rfl);(case hop=>(apply prd;apply p_extract0 <;> rfl));(case hq=>kernel_rfl))
    all_goals (apply dtk 11;(case hi=>rfl);(case hop=>(apply prd;apply p_extract1 <;> rfl));(case hq=>kernel_rfl))
    all_goals (apply dtk 12;(case hi=>rfl);(case hop=>(apply prd;apply p_extract2 <;> rfl));(case hq=>kernel_rfl))
    all_goals (apply dtk 13;(case hi=>rfl);(case hop=>(apply prd;apply p_assign <;> rfl));(case hq=>kernel_rfl))
    all_goals (apply dtk 14;(case hi=>rfl);(case hop=>(apply prd;apply p_assign <;> rfl));(case hq=>kernel_rfl))
    all_goals (apply dtk 15;(case hi=>rfl);(case hop=>(apply prd;apply p_assign <;> rfl));(case hq=>kernel_rfl))
    all_goals (apply d_done;(case hr=>kernel_rfl))
    repeat' (first|apply v_seq|apply v_region|apply v_nil|apply v_block|apply v_blk|(apply v_pure;(case hop=>first|(apply p_move <;> rfl)|(apply p_ne <;> rfl)|(apply p_assign <;> rfl)|(apply p_fieldAddrB <;> rfl)|(apply p_nilCheck <;> rfl)|fail);(case hd=>rfl))|(apply v_cond;(case hc=>rfl);all_goals (intro h;(try simp only [reduceCtorEq,zzz] at h);first|(exfalso;omega)|skip))|(apply v_call (hs:=fail_s G rb (.slice A l.length c) a 0 e);(case ha=>rfl);(case hp=>exact (Pick.perm (by repeat (exact Pick.here _))));(case hd=>rfl);rintro _ _ _ _ ⟨rfl,rfl,rfl⟩)|(apply v_store;(case hp=>rfl);(case hx=>rfl);(case hc=>rfl);(case hsz=>rfl);(case h1=>rfl);(case hb=>(repeat (exact mhd _)));(case hfit=>exact nle rfl);(case hov=>((repeat (first|with_reducible exact ov_nil|apply ov_cons));done));(case hu=>repeat (exact Upd.here _ _)))|fail)
    refine v_ret [(rb,_)] (outsA1 rfl rfl) (by repeat (exact List.Sublist.refl _)) ?_
    exact ⟨rfl,rfl,rfl⟩
  | some p =>
    obtain ⟨m,r'⟩:=p
    rw [h] at qg
    simp only at qg ⊢
    (refine v_enter Tryz.func148 rfl Tryz.ntmps148 rfl ?_;intro B _)
    repeat' (first|apply v_seq|apply v_region|apply v_nil|(apply v_pure;(case hop=>(apply p_assign <;> rfl));(case hd=>rfl))|fail)
    refine d_start _ (by kernel_rfl) (by kernel_rfl) (by kernel_rfl) (fun _ he=>he) ?_
    all_goals (apply dtk 0;(case hi=>rfl);(case hop=>(apply prd;apply p_move <;> rfl));(case hq=>kernel_rfl))
    all_goals (apply dtk 1;(case hi=>rfl);(case hop=>(apply prd;apply p_nilCheck <;> rfl));(case hq=>kernel_rfl))
    all_goals (apply dtk 2;(case hi=>rfl);(case hop=>(apply prd;apply p_fieldAddrB <;> rfl));(case hq=>kernel_rfl))
    all_goals (apply dtk 3;(case hi=>rfl);(case hop=>first|(apply r_loadNo;(case hx=>rfl);(case h=>(repeat (fail)));(case hd=>(repeat (fail)));(case hn=>rfl))|(apply r_load1;rfl;(apply Cell.own;(case h=>(repeat (exact mhd _)));rfl))|(apply r_loadN;rfl;(apply CellsAt.own;(case h=>(repeat (fail))));rfl));(case hq=>kernel_rfl))
    all_goals (apply dtk 4;(case hi=>rfl);(case hop=>(apply prd;apply p_move <;> rfl));(case hq=>kernel_rfl))
    all_goals (apply dtk 5;(case hi=>rfl);(case hop=>(apply prd;apply p_nilCheck <;> rfl));(case hq=>kernel_rfl))
    all_goals (apply dtk 6;(case hi=>rfl);(case hop=>(apply prd;apply p_fieldAddrB <;> rfl));(case hq=>kernel_rfl))
    all_goals (apply dtk 7;(case hi=>rfl);(case hop=>first|(apply r_loadNo;(case hx=>rfl);(case h=>(repeat (fail)));(case hd=>(repeat (fail)));(case hn=>rfl))|(apply r_load1;rfl;(apply Cell.own;(case h=>(repeat (exact mhd _)));rfl))|(apply r_loadN;rfl;(apply CellsAt.own;(case h=>(repeat (fail))));rfl));(case hq=>kernel_rfl))
    all_goals (apply d_callJ 8 (hs:=qg);(case hi=>rfl);(case hr=>kernel_rfl);(case ha=>rfl);(case hd=>rfl))
    all_goals (apply dtk 9;(case hi=>rfl);(case hop=>(apply prd;apply p_move <;> rfl));(case hq=>kernel_rfl))
    all_goals (apply dtk 10;(case hi=>rfl);(case hop=>(apply prd;apply p_extract0 <;> rfl));(case hq=>kernel_rfl))
    all_goals (apply dtk 11;(case hi=>rfl);(case hop=>(apply prd;apply p_extract1 <;> rfl));(case hq=>kernel_rfl))
    all_goals (apply dtk 12;(case hi=>rfl);(case hop=>(apply prd;apply p_extract2 <;> rfl));(case hq=>kernel_rfl))
    all_goals (apply dtk 13;(case hi=>rfl);(case hop=>(apply prd;apply p_assign <;> rfl));(case hq=>kernel_rfl))
    all_goals (apply dtk 14;(case hi=>rfl);(case hop=>(apply prd;apply p_assign <;> rfl));(case hq=>kernel_rfl))
    all_goals (apply dtk 15;(case hi=>rfl);(case hop=>(apply prd;apply p_assign <;> rfl));(case hq=>kernel_rfl))
    all_goals (apply d_done;(case hr=>kernel_rfl))
    repeat' (first|apply v_seq|apply v_region|apply v_nil|apply v_skip|apply v_block|apply v_blk|(apply v_pure;(case hop=>first|(apply p_move <;> rfl)|(apply p_nes <;> rfl)|(apply p_gt <;> rfl)|(apply p_assign <;> rfl)|(apply p_fieldAddrB <;> rfl)|(apply p_nilCheck <;> rfl)|fail);(case hd=>rfl))|(apply v_condF;(case hc=>rfl))|(apply v_cond;(case hc=>rfl);all_goals (intro h;(try simp only [reduceCtorEq,zzz] at h)))|(apply v_call (hs:=fail_s G rb (.slice A l.length c) a 0 2);(case ha=>rfl);(case hp=>exact (Pick.perm (by repeat (exact Pick.here _))));(case hd=>rfl);rintro _ _ _ _ ⟨rfl,rfl,rfl⟩)|(apply v_store;(case hp=>rfl);(case hx=>rfl);(case hc=>rfl);(case hsz=>rfl);(case h1=>rfl);(case hb=>(repeat (exact mhd _)));(case hfit=>exact nle rfl);(case hov=>((repeat (first|with_reducible exact ov_nil|apply ov_cons));done));(case hu=>repeat (exact Upd.here _ _)))|fail)
    · refine v_ret [(rb,_)] (outsA1 rfl rfl) (by repeat (exact List.Sublist.refl _)) ?_
      exact ⟨rfl,rfl,by rw [if_pos (by omega)]⟩
    · refine v_ret [(rb,_)] (outsA1 rfl rfl) (by repeat (exact List.Sublist.refl _)) ?_
      exact ⟨rfl,rfl,by rw [if_neg (by omega)]⟩
abbrev pO (rb:Nat):Obj:=.cells [.pointer (some ⟨rb,0,none⟩)].toArray 145 (0,0)
abbrev iO (n:Int):Obj:=.cells [.int .i64 n].toArray 3 (0,0)
theorem rdNumber1_s {G:GH} {l:List Int} {bv:Value} (pb qb rb a:Nat) (most:Int) (hs:Sl G 1 (IntR .u8) bv l) (hl:l.length ≤ 1048576) (ha:a ≤ l.length) :
    Con Tryz.prog 147 #[.pointer (some ⟨pb,0,none⟩),.pointer (some ⟨qb,0,none⟩)] G [(rb,rdO bv a 0),(qb,iO most),(pb,pO rb)] (Keeps (.int .i64 (limN (l.drop a))) G [(rb,rdO bv (limAt l a) (limNo most (l.drop a))),(qb,iO most),(pb,pO rb)]):=by
  have ql:=limited_s rb a most hs hl ha
  (refine v_enter Tryz.func147 rfl Tryz.ntmps147 rfl ?_;intro B _)
  repeat' (first|apply v_seq|apply v_region|apply v_nil|(apply v_pure;(case hop=>(apply p_assign <;> rfl));(case hd=>rfl))|(apply v_call (hs:=ql);(case ha=>rfl);(case hp=>exact (Pick.perm (by repeat (exact Pick.here _))));(case hd=>rfl);rintro _ _ _ _ ⟨rfl,rfl,rfl⟩)|(apply v_read;(case hop=>(apply r_load1;rfl;(apply Cell.own;(case h=>(repeat (first|exact mhd _|apply mtl)));rfl)));(case hd=>rfl))|fail)
  refine v_ret [(rb,_),(qb,_),(pb,_)] (outsA1 rfl rfl) (by repeat (exact List.Sublist.refl _)) ?_
  exact ⟨rfl,rfl,rfl⟩
def RdS (l:List Int) (a:Nat) (no:Int) (s:Option (List Int)):Prop:=a ≤ l.length ∧ ((s = none ∧ no ≠ 0) ∨ (s = some (l.drop a) ∧ no = 0))
def numV (most:Int):Option (List Int) → Int
  | none=>0
  | some r=>match dvk 0 r with|none=>0|some p=>if most < p.1 then 0 else p.1
def numS (most:Int):Option (List Int) → Option (List Int)
  | none=>none
  | some r=>match dvk 0 r with|none=>none|some p=>if most < p.1 then none else some p.2
theorem dvk_len:∀ (r:List Int) (k:Nat) (m:Int) (r':List Int),dvk k r = some (m,r') → r'.length < r.length ∧ r' = r.drop (r.length - r'.length)
  | [],k,m,r',h=>by rw [dvk_nil] at h;cases h
  | c :: r,k,m,r',h=>by
    rw [dvk_cons] at h
    split at h
    · cases h
    · split at h
      · cases h
        refine ⟨by simp,?_⟩
        rw [List.length_cons,show r.length + 1 - r.length = 0 + 1 by omega,List.drop_succ_cons,List.drop_zero]
      · obtain ⟨p,hp,he⟩:=Option.map_eq_some_iff.1 h
        obtain ⟨m',r2⟩:=p
        cases he
        obtain ⟨h1,h2⟩:=dvk_len r (k + 1) m' r2 hp
        simp only at *
        refine ⟨by simp only [List.length_cons];omega,?_⟩
        rw [List.length_cons,show r.length + 1 - r2.length = (r.length - r2.length) + 1 by omega,List.drop_succ_cons]
        exact h2
theorem limAt_le (l:List Int) (a:Nat):limAt l a ≤ l.length:=by
  unfold limAt
  split <;> omega
theorem lim_ok {l:List Int} {a:Nat} {most:Int} (ha:a ≤ l.length) (h:limNo most (l.drop a) = 0):numV most (some (l.drop a)) = limN (l.drop a) ∧ numS most (some (l.drop a)) = some (l.drop (limAt l a)):=by
  unfold limNo at h
  unfold limN limAt
  have he:=dve_none (l.drop a) 0
  cases hd:dvk 0 (l.drop a) with
  | none=>rw [hd] at h he;exact absurd h (he.1 rfl)
  | some p =>
    rw [hd] at h
    simp only at h ⊢
    have hm:¬ most < p.1:=fun hm=>by rw [if_pos hm] at h;omega
    obtain ⟨h1,h2⟩:=dvk_len _ _ p.1 p.2 hd
    simp only [numV,numS,hd,if_neg hm]
    refine ⟨trivial,?_⟩
    rw [List.length_drop] at h1 h2
    rw [List.drop_drop] at h2
    rw [show l.length - p.2.length = a + (l.length - a - p.2.length) by omega,← h2]
theorem lim_no {r:List Int} {most:Int} (h:limNo most r ≠ 0):numV most (some r) = 0 ∧ numS most (some r) = none:=by
  unfold limNo at h
  cases hd:dvk 0 r with
  | none=>simp only [numV,numS,hd];exact ⟨trivial,trivial⟩
  | some p =>
    rw [hd] at h
    simp only at h ⊢
    have hm:most < p.1:=by
      by_cases hm:most < p.1
      · exact hm
      · rw [if_neg hm] at h;exact absurd rfl h
    simp only [numV,numS,hd,if_pos hm]
    exact ⟨trivial,trivial⟩
theorem rdReadI_s {G:GH} {l:List Int} {bv:Value} {s:Option (List Int)} (pb qb rb a:Nat) (no most:Int) (hs:Sl G 1 (IntR .u8) bv l) (hl:l.length ≤ 1048576) (hr:RdS l a no s) :
    Con Tryz.prog 146 #[.pointer (some ⟨rb,0,none⟩),.func (.func 147) #[] #[.pointer (some ⟨pb,0,none⟩),.pointer (some ⟨qb,0,none⟩)]] G [(rb,rdO bv a no),(qb,iO most),(pb,pO rb)]
      (fun r G' μ'=>G' = G ∧ r = .int .i64 (numV most s) ∧ ∃ a' no',μ' = [(rb,rdO bv (a':Nat) no'),(qb,iO most),(pb,pO rb)] ∧ RdS l a' no' (numS most s)):=by
  obtain ⟨ha,⟨rfl,hno⟩|⟨rfl,rfl⟩⟩:=hr
  · (refine v_enter Tryz.func146 rfl Tryz.ntmps146 rfl ?_;intro B _)
    repeat' (first|apply v_seq|apply v_region|apply v_nil|(apply v_take;(case hg=>rfl))|(apply v_pure;(case hop=>first|(apply p_move <;> rfl)|(apply p_ne <;> rfl)|(apply p_assign <;> rfl)|(apply p_pickF <;> rfl)|(apply p_fieldAddrB <;> rfl)|(apply p_nilCheck <;> rfl)|(apply p_eqNil <;> rfl)|fail);(case hd=>rfl))|(apply v_cond;(case hc=>rfl);all_goals (intro h;(try simp only [reduceCtorEq,zzz] at h);first|(exfalso;omega)|skip))|(apply v_read;(case hop=>(apply r_load1;rfl;(apply Cell.own;(case h=>(repeat (exact mhd _)));rfl)));(case hd=>rfl))|fail)
    refine v_ret [(rb,_),(qb,_),(pb,_)] (outsA1 rfl rfl) (by repeat (exact List.Sublist.refl _)) ?_
    exact ⟨rfl,rfl,a,no,rfl,ha,.inl ⟨rfl,hno⟩⟩
  · have q:=rdNumber1_s pb qb rb a most hs hl ha
    have hk:=lim_ok (most:=most) ha
    have hn:=lim_no (r:=l.drop a) (most:=most)
    have hat:=limAt_le l a
    generalize limNo most (l.drop a) = no' at *
    generalize limAt l a = a' at *
    generalize limN (l.drop a) = n at *
    (refine v_enter Tryz.func146 rfl Tryz.ntmps146 rfl ?_;intro B _)
    repeat' (first|apply v_seq|apply v_region|apply v_nil|apply v_skip|(apply v_take;(case hg=>rfl))|(apply v_pure;(case hop=>first|(apply p_move <;> rfl)|(apply p_nes <;> rfl)|(apply p_assign <;> rfl)|(apply p_pickF <;> rfl)|(apply p_fieldAddrB <;> rfl)|(apply p_nilCheck <;> rfl)|(apply p_eqNil <;> rfl)|fail);(case hd=>rfl))|(apply v_condF;(case hc=>rfl))|(apply v_read;(case hop=>(apply r_load1;rfl;(apply Cell.own;(case h=>(repeat (exact mhd _)));rfl)));(case hd=>rfl))|fail)
    refine v_callC (first:=[]) (captured:=[.pointer (some ⟨pb,0,none⟩),.pointer (some ⟨qb,0,none⟩)]) (vs:=[]) rfl rfl q (List.Perm.refl _) rfl ?_
    rintro _ _ _ _ ⟨rfl,rfl,rfl⟩
    repeat' (first|apply v_seq|apply v_region|apply v_nil|apply v_skip|(apply v_pure;(case hop=>first|(apply p_move <;> rfl)|(apply p_ne <;> rfl)|(apply p_assign <;> rfl)|(apply p_fieldAddrB <;> rfl)|(apply p_nilCheck <;> rfl)|fail);(case hd=>rfl))|(apply v_cond;(case hc=>rfl);all_goals (intro h;(try simp only [reduceCtorEq,zzz] at h)))|(apply v_read;(case hop=>(apply r_load1;rfl;(apply Cell.own;(case h=>(repeat (exact mhd _)));rfl)));(case hd=>rfl))|fail)
    · refine v_ret [(rb,_),(qb,_),(pb,_)] (outsA1 rfl rfl) (by repeat (exact List.Sublist.refl _)) ?_
      exact ⟨rfl,by rw [(hn ‹_›).1],a',no',rfl,hat,.inl ⟨(hn ‹_›).2,‹_›⟩⟩
    · refine v_ret [(rb,_),(qb,_),(pb,_)] (outsA1 rfl rfl) (by repeat (exact List.Sublist.refl _)) ?_
      exact ⟨rfl,by rw [(hk ‹_›).1],a',no',rfl,hat,.inr ⟨(hk ‹_›).2,‹_›⟩⟩
theorem rdNumber_s {G:GH} {l:List Int} {bv:Value} {s:Option (List Int)} (rb a:Nat) (no most:Int) (hs:Sl G 1 (IntR .u8) bv l) (hl:l.length ≤ 1048576) (hr:RdS l a no s) :
    Con Tryz.prog 105 #[.pointer (some ⟨rb,0,none⟩),.int .i64 most] G [(rb,rdO bv a no)]
      (fun r G' μ'=>G' = G ∧ r = .int .i64 (numV most s) ∧ ∃ a' no',μ' = [(rb,rdO bv (a':Nat) no')] ∧ RdS l a' no' (numS most s)):=by
  have q:=fun pb qb=>rdReadI_s pb qb rb a no most hs hl hr
  generalize numV most s = n at *
  (refine v_enter Tryz.func105 rfl Tryz.ntmps105 rfl ?_;intro B _)
  repeat' (first|apply v_seq|apply v_region|apply v_nil|(apply v_pure;(case hop=>first|(apply p_assign <;> rfl)|(apply p_makeFunc <;> rfl));(case hd=>rfl))|(apply v_read;(case hop=>(apply r_load1;rfl;(apply Cell.own;(case h=>(repeat (first|exact mhd _|apply mtl)));rfl)));(case hd=>rfl))|(apply v_box;(case hx=>rfl);(case hz=>rfl);(case hd=>rfl);intro b)|fail)
  rename_i pb
  refine v_call (μ1:=[(rb,rdO bv a no),(b,iO most),(pb,pO rb)]) (μ2:=[]) rfl (q pb b) (by apply perm_of_count;intro p;simp only [List.append_eq,List.countP_append,List.countP_cons,List.countP_nil,Nat.zero_add,Nat.add_zero];try ac_rfl) rfl ?_
  rintro _ _ _ _ ⟨rfl,rfl,a',no',rfl,hr'⟩
  repeat' (first|apply v_nil|(apply v_pure;(case hop=>(apply p_assign <;> rfl));(case hd=>rfl))|fail)
  refine v_ret [(rb,_)] (outsA1 rfl rfl) (by repeat (first|exact List.nil_sublist _|apply List.Sublist.cons_cons)) ?_
  exact ⟨rfl,rfl,a',no',rfl,hr'⟩
theorem sl_sub {G:GH} {k:IntKind} {l:List Int} {A:Option Addr} {c:Nat} {lo hi:Int} (hs:Sl G 1 (IntR k) (.slice A l.length c) l) (h0:0 ≤ lo) (h1:lo ≤ hi) (h2:hi ≤ l.length) :
    Sl G 1 (IntR k) (.slice (if c = lo.toNat then A else A.map (·.add (lo.toNat * 1))) (hi.toNat - lo.toNat) (c - lo.toNat)) ((l.take hi.toNat).drop lo.toNat):=by
  have ht:=hs.take (k:=hi.toNat) (by omega)
  have e:(l.take hi.toNat).length = hi.toNat:=by rw [List.length_take];omega
  have hd:=Sl.drop (l:=l.take hi.toNat) (A:=A) (c:=c) (k:=lo.toNat) (by rw [e];exact ht) (by rw [e];omega)
  rw [e] at hd
  exact hd
theorem sl_byte {G:GH} {l:List Int} {v:Value} (hs:Sl G 1 (IntR .u8) v l):∀ x ∈ l,0 ≤ x ∧ x ≤ 255:=fun x hx=>by
  obtain ⟨A,c,-,-,-,-,-,hwf⟩:=hs.openInt
  have:=hwf x hx
  simp [Lit.wf,IntKind.min,IntKind.max,IntKind.signed,IntKind.bits] at this
  omega
theorem limN_nn {r:List Int} (hw:∀ x ∈ r,0 ≤ x ∧ x ≤ 255):0 ≤ limN r ∧ limN r ≤ 9223372036854775807:=by
  unfold limN
  cases h:dvk 0 r with
  | none=>simp
  | some p =>
    have:=vbytes_dvk (m:=p.1) (r':=p.2) hw h
    simp only
    omega
def cntNo (most:Int) (l:List Int) (a:Nat):Int:=if limNo most (l.drop a) = 0 ∧ (l.length:Int) - limAt l a < limN (l.drop a) then 1 else limNo most (l.drop a)
theorem counted_s {G:GH} {l:List Int} {bv:Value} (rb a:Nat) (most:Int) (hs:Sl G 1 (IntR .u8) bv l) (hl:l.length ≤ 1048576) (ha:a ≤ l.length) :
    Con Tryz.prog 222 #[.pointer (some ⟨rb,0,none⟩),.int .i64 most] G [(rb,rdO bv a 0)] (Keeps (.int .i64 (limN (l.drop a))) G [(rb,rdO bv (limAt l a) (cntNo most l a))]):=by
  have q:=limited_s rb a most hs hl ha
  have hat:=limAt_le l a
  have ql:=fun no=>left_s rb (limAt l a) no hs hl hat
  unfold cntNo
  generalize limNo most (l.drop a) = no' at *
  generalize limAt l a = a' at *
  generalize limN (l.drop a) = n at *
  (refine v_enter Tryz.func222 rfl Tryz.ntmps222 rfl ?_;intro B _)
  repeat' (first|apply v_seq|apply v_region|apply v_nil|apply v_skip|(apply v_take;(case hg=>rfl))|(apply v_pass;(case hg=>rfl);(case hn=>rfl);(case hd=>rfl))|(apply v_pure;(case hop=>first|(apply p_move <;> rfl)|(apply p_eq <;> rfl)|(apply p_assign <;> rfl)|(apply p_pickF <;> rfl)|(apply p_fieldAddrB <;> rfl)|(apply p_nilCheck <;> rfl)|fail);(case hd=>rfl))|(apply v_condF;(case hc=>rfl))|(apply v_guardB;(case h1=>rfl);(case h2=>rfl);all_goals (intro h;(try simp only [reduceCtorEq,zzz] at h)))|(apply v_call (hs:=q);(case ha=>rfl);(case hp=>exact (Pick.perm (by repeat (exact Pick.here _))));(case hd=>rfl);rintro _ _ _ _ ⟨rfl,rfl,rfl⟩)|(apply v_read;(case hop=>(apply r_load1;rfl;(apply Cell.own;(case h=>(repeat (exact mhd _)));rfl)));(case hd=>rfl))|fail)
  repeat' (first|apply v_seq|apply v_region|apply v_nil|apply v_skip|(apply v_take;(case hg=>rfl))|(apply v_pure;(case hop=>first|(apply p_move <;> rfl)|(apply p_gt <;> rfl)|(apply p_assign <;> rfl)|(apply p_pickT <;> rfl)|fail);(case hd=>rfl))|(apply v_cond;(case hc=>rfl);all_goals (intro h;(try simp only [reduceCtorEq,zzz] at h)))|(apply v_callK (hs:=ql _);(case ha=>rfl);(case hp=>exact (Pick.perm (by repeat (exact Pick.here _))));(case hd=>rfl))|(apply v_call (hs:=fail_s _ rb bv a' no' 1);(case ha=>rfl);(case hp=>exact (Pick.perm (by repeat (exact Pick.here _))));(case hd=>rfl);rintro _ _ _ _ ⟨rfl,rfl,rfl⟩)|fail)
  all_goals
    (refine v_ret [(rb,_)] (outsA1 rfl rfl) (by repeat (exact List.Sublist.refl _)) ?_
     refine ⟨rfl,rfl,?_⟩)
  · rw [if_pos (by omega)]
  · rw [if_neg (by omega)]
  · rw [if_neg (by omega)]
def rawB (most:Int):Option (List Int) → List Int
  | none => []
  | some r=>match dvk 0 r with|none => []|some p=>if most < p.1 ∨ (p.2.length:Int) < p.1 then [] else p.2.take p.1.toNat
def rawS (most:Int):Option (List Int) → Option (List Int)
  | none=>none
  | some r=>match dvk 0 r with|none=>none|some p=>if most < p.1 ∨ (p.2.length:Int) < p.1 then none else some (p.2.drop p.1.toNat)
theorem cnt_ok {l:List Int} {a:Nat} {most:Int} (ha:a ≤ l.length) (hn0:0 ≤ limN (l.drop a)) (h:cntNo most l a = 0):limAt l a + limN (l.drop a) ≤ l.length ∧ rawB most (some (l.drop a)) = (l.take (limAt l a + limN (l.drop a)).toNat).drop (limAt l a) ∧ rawS most (some (l.drop a)) = some (l.drop (limAt l a + limN (l.drop a)).toNat):=by
  unfold cntNo at h
  have h0:limNo most (l.drop a) = 0:=by
    split at h
    · omega
    · exact h
  rw [h0] at h
  have h1:¬ ((l.length:Int) - limAt l a < limN (l.drop a)):=fun hh=>by rw [if_pos ⟨rfl,hh⟩] at h;omega
  obtain ⟨e1,e2⟩:=lim_ok ha h0
  have hat:=limAt_le l a
  generalize limAt l a = a' at *
  generalize limN (l.drop a) = n at *
  unfold limNo at h0
  have he:=dve_none (l.drop a) 0
  cases hd:dvk 0 (l.drop a) with
  | none=>rw [hd] at h0 he;exact absurd h0 (he.1 rfl)
  | some p =>
    rw [hd] at h0
    simp only at h0
    have hm:¬ most < p.1:=fun hm=>by rw [if_pos hm] at h0;omega
    simp only [numV,numS,hd,if_neg hm,Option.some.injEq] at e1 e2
    have hlen:p.2.length = l.length - a':=by rw [e2,List.length_drop]
    have hn:¬ (most < p.1 ∨ (p.2.length:Int) < p.1):=by omega
    simp only [rawB,rawS,hd,if_neg hn]
    refine ⟨by omega,?_,?_⟩
    · rw [e1,e2,List.drop_take,show ((a':Int) + n).toNat - a' = n.toNat by omega]
    · rw [e1,e2,List.drop_drop,show ((a':Int) + n).toNat = a' + n.toNat by omega]
theorem cnt_no {l:List Int} {a:Nat} {most:Int} (ha:a ≤ l.length) (h:cntNo most l a ≠ 0):rawB most (some (l.drop a)) = [] ∧ rawS most (some (l.drop a)) = none:=by
  unfold cntNo at h
  by_cases h0:limNo most (l.drop a) = 0
  · rw [h0] at h
    have h1:((l.length:Int) - limAt l a < limN (l.drop a)):=by
      by_cases hh:((l.length:Int) - limAt l a < limN (l.drop a))
      · exact hh
      · rw [if_neg (by simp [hh])] at h;exact absurd rfl h
    obtain ⟨e1,e2⟩:=lim_ok ha h0
    have hat:=limAt_le l a
    generalize limAt l a = a' at *
    generalize limN (l.drop a) = n at *
    unfold limNo at h0
    have he:=dve_none (l.drop a) 0
    cases hd:dvk 0 (l.drop a) with
    | none=>rw [hd] at h0 he;exact absurd h0 (he.1 rfl)
    | some p =>
      rw [hd] at h0
      simp only at h0
      have hm:¬ most < p.1:=fun hm=>by rw [if_pos hm] at h0;omega
      simp only [numV,numS,hd,if_neg hm,Option.some.injEq] at e1 e2
      have hlen:p.2.length = l.length - a':=by rw [e2,List.length_drop]
      have hn:(most < p.1 ∨ (p.2.length:Int) < p.1):=by omega
      simp only [rawB,rawS,hd,if_pos hn]
      exact ⟨trivial,trivial⟩
  · have hz:=lim_no (r:=l.drop a) h0
    unfold limNo at h0
    cases hd:dvk 0 (l.drop a) with
    | none=>simp only [rawB,rawS,hd];exact ⟨trivial,trivial⟩
    | some p =>
      rw [hd] at h0
      simp only at h0
      have hm:most < p.1:=by
        by_cases hm:most < p.1
        · exact hm
        · rw [if_neg hm] at h0;exact absurd rfl h0
      simp only [rawB,rawS,hd,if_pos (Or.inl hm:most < p.1 ∨ (p.2.length:Int) < p.1)]
      exact ⟨trivial,trivial⟩
theorem raw_s {G:GH} {l:List Int} {bv:Value} (rb a:Nat) (most:Int) (hs:Sl G 1 (IntR .u8) bv l) (hl:l.length ≤ 1048576) (ha:a ≤ l.length) :
    Con Tryz.prog 199 #[.pointer (some ⟨rb,0,none⟩),.int .i64 most] G [(rb,rdO bv a 0)]
      (fun r G' μ'=>Sl G' 1 (IntR .u8) r (rawB most (some (l.drop a))) ∧ ∃ a' no',μ' = [(rb,rdO bv (a':Nat) no')] ∧ RdS l a' no' (rawS most (some (l.drop a)))):=by
  have q:=counted_s rb a most hs hl ha
  have hn0:=limN_nn (r:=l.drop a) (fun x hx=>sl_byte hs x (List.mem_of_mem_drop hx))
  have hok:=cnt_ok (most:=most) ha hn0.1
  have hno:=cnt_no (most:=most) ha
  have hat:=limAt_le l a
  obtain ⟨A,c,rfl,hlc,hcm,-,-,-⟩:=hs.openInt
  simp only [maxLen] at hcm
  generalize cntNo most l a = no' at *
  generalize limAt l a = a' at *
  generalize limN (l.drop a) = n at *
  (refine v_enter Tryz.func199 rfl Tryz.ntmps199 rfl ?_;intro B _)
  by_cases h0:no' = 0
  · obtain ⟨h1,h2,h3⟩:=hok h0
    subst h0
    rw [h2,h3]
    repeat' (first|apply v_seq|apply v_region|apply v_nil|apply v_skip|(apply v_pure;(case hop=>first|(apply p_move <;> rfl)|(apply p_nes <;> rfl)|(apply p_assign <;> rfl)|(apply p_fieldAddrB <;> rfl)|(apply p_nilCheck <;> rfl)|(apply p_add;(case hx=>rfl);(case hy=>rfl);(case h=>omega))|fail);(case hd=>rfl))|(apply v_condF;(case hc=>rfl))|(apply v_call (hs:=q);(case ha=>rfl);(case hp=>exact (Pick.perm (by repeat (exact Pick.here _))));(case hd=>rfl);rintro _ _ _ _ ⟨rfl,rfl,rfl⟩)|(apply v_read;(case hop=>(apply r_load1;rfl;(apply Cell.own;(case h=>(repeat (exact mhd _)));rfl)));(case hd=>rfl))|(apply v_store;(case hp=>rfl);(case hx=>rfl);(case hc=>rfl);(case hsz=>rfl);(case h1=>rfl);(case hb=>(repeat (exact mhd _)));(case hfit=>exact nle rfl);(case hov=>((repeat (first|with_reducible exact ov_nil|apply ov_cons));done));(case hu=>repeat (exact Upd.here _ _)))|fail)
    have hsub:=sl_sub (lo:=(a':Int) + n - n) (hi:=(a':Int) + n) hs (by omega) (by omega) (by omega)
    have hsl:((l.take ((a':Int) + n).toNat).drop ((a':Int) + n - n).toNat).length ≤ 1048576:=by rw [List.length_drop,List.length_take];omega
    refine d_start _ (by kernel_rfl) (by kernel_rfl) (by kernel_rfl) (fun _ he=>he) ?_
    all_goals (apply dtk 0;(case hi=>rfl);(case hop=>(apply prd;apply p_move <;> rfl));(case hq=>kernel_rfl))
    all_goals (apply dtk 1;(case hi=>rfl);(case hop=>(apply prd;apply p_nilCheck <;> rfl));(case hq=>kernel_rfl))
    all_goals (apply dtk 2;(case hi=>rfl);(case hop=>(apply prd;apply p_fieldAddrB <;> rfl));(case hq=>kernel_rfl))
    all_goals (apply dtk 3;(case hi=>rfl);(case hop=>first|(apply r_loadNo;(case hx=>rfl);(case h=>(repeat (fail)));(case hd=>(repeat (fail)));(case hn=>rfl))|(apply r_load1;rfl;(apply Cell.own;(case h=>(repeat (exact mhd _)));rfl))|(apply r_loadN;rfl;(apply CellsAt.own;(case h=>(repeat (fail))));rfl));(case hq=>kernel_rfl))
    all_goals (apply dtk 4;(case hi=>rfl);(case hop=>(apply prd;apply p_move <;> rfl));(case hq=>kernel_rfl))
    all_goals (apply dtk 5;(case hi=>rfl);(case hop=>(apply prd;apply p_nilCheck <;> rfl));(case hq=>kernel_rfl))
    all_goals (apply dtk 6;(case hi=>rfl);(case hop=>(apply prd;apply p_fieldAddrB <;> rfl));(case hq=>kernel_rfl))
    all_goals (apply dtk 7;(case hi=>rfl);(case hop=>first|(apply r_loadNo;(case hx=>rfl);(case h=>(repeat (fail)));(case hd=>(repeat (fail)));(case hn=>rfl))|(apply r_load1;rfl;(apply Cell.own;(case h=>(repeat (exact mhd _)));rfl))|(apply r_loadN;rfl;(apply CellsAt.own;(case h=>(repeat (fail))));rfl));(case hq=>kernel_rfl))
    all_goals (apply dtk 8;(case hi=>rfl);(case hop=>(apply prd;apply p_move <;> rfl));(case hq=>kernel_rfl))
    all_goals (apply dtk 9;(case hi=>rfl);(case hop=>(apply prd;apply p_sub;(case hx=>rfl);(case hy=>rfl);(case h=>omega)));(case hq=>kernel_rfl))
    all_goals (apply dtk 10;(case hi=>rfl);(case hop=>(apply prd;apply p_move <;> rfl));(case hq=>kernel_rfl))
    all_goals (apply dtk 11;(case hi=>rfl);(case hop=>(apply prd;apply p_nilCheck <;> rfl));(case hq=>kernel_rfl))
    all_goals (apply dtk 12;(case hi=>rfl);(case hop=>(apply prd;apply p_fieldAddrB <;> rfl));(case hq=>kernel_rfl))
    all_goals (apply dtk 13;(case hi=>rfl);(case hop=>first|(apply r_loadNo;(case hx=>rfl);(case h=>(repeat (fail)));(case hd=>(repeat (fail)));(case hn=>rfl))|(apply r_load1;rfl;(apply Cell.own;(case h=>(repeat (exact mhd _)));rfl))|(apply r_loadN;rfl;(apply CellsAt.own;(case h=>(repeat (fail))));rfl));(case hq=>kernel_rfl))
    all_goals (apply dtk 14;(case hi=>rfl);(case hop=>(apply prd;apply p_sliceLH;(case hx=>rfl);(case hl=>rfl);(case hh=>rfl);all_goals omega));(case hq=>kernel_rfl))
    all_goals ((apply d_call 15 (hs:=bclone_s hsub hsl);(case hi=>rfl);(case hr=>kernel_rfl);  (case ha=>rfl);(case hp=>exact List.Perm.refl _);(case hd=>rfl);(case hν'=>intro e he;simp at he;simp [he]);rintro r1 G1 ν1 - ⟨rfl,hg1⟩;obtain ⟨A1,c1,rfl,-,-⟩:=hg1.shape))
    all_goals (apply dtk 16;(case hi=>rfl);(case hop=>(apply prd;apply p_assign <;> rfl));(case hq=>kernel_rfl))
    all_goals (apply d_done;(case hr=>kernel_rfl))
    refine v_frz ν1 (by repeat (exact PickA.here _)) ?_
    intro G2 hle2 hG2
    repeat' (fail)
    refine v_ret [(rb,_)] (outsA1 rfl rfl) (by repeat (exact List.Sublist.refl _)) ?_
    refine ⟨?_,((a':Int) + n).toNat,0,?_,by omega,.inr ⟨rfl,rfl⟩⟩
    · have:=hg1.ints hG2 (fun x hx=>by
        have:=sl_byte hs x (List.mem_of_mem_take (List.mem_of_mem_drop hx))
        exact WalkArith.wf_u8 (by omega))
      simp only [show ((a':Int) + n - n).toNat = a' by omega] at this ⊢
      exact this
    · rw [show ((((a':Int) + n).toNat:Nat):Int) = (a':Int) + n by omega]
  · obtain ⟨h2,h3⟩:=hno h0
    rw [h2,h3]
    repeat' (first|apply v_seq|apply v_region|apply v_nil|(apply v_pure;(case hop=>first|(apply p_move <;> rfl)|(apply p_ne <;> rfl)|(apply p_assign <;> rfl)|(apply p_fieldAddrB <;> rfl)|(apply p_nilCheck <;> rfl)|fail);(case hd=>rfl))|(apply v_cond;(case hc=>rfl);all_goals (intro h;(try simp only [reduceCtorEq,zzz] at h);first|(exfalso;omega)|skip))|(apply v_call (hs:=q);(case ha=>rfl);(case hp=>exact (Pick.perm (by repeat (exact Pick.here _))));(case hd=>rfl);rintro _ _ _ _ ⟨rfl,rfl,rfl⟩)|(apply v_read;(case hop=>(apply r_load1;rfl;(apply Cell.own;(case h=>(repeat (exact mhd _)));rfl)));(case hd=>rfl))|fail)
    refine v_ret [(rb,_)] (outsA1 rfl rfl) (by repeat (exact List.Sublist.refl _)) ?_
    exact ⟨Sl.nil,a',no',rfl,hat,.inl ⟨rfl,h0⟩⟩
theorem raw1_s {G:GH} {l:List Int} {bv:Value} (pb qb rb a:Nat) (most:Int) (hs:Sl G 1 (IntR .u8) bv l) (hl:l.length ≤ 1048576) (ha:a ≤ l.length) :
    Con Tryz.prog 198 #[.pointer (some ⟨pb,0,none⟩),.pointer (some ⟨qb,0,none⟩)] G [(rb,rdO bv a 0),(qb,iO most),(pb,pO rb)]
      (fun r G' μ'=>Sl G' 1 (IntR .u8) r (rawB most (some (l.drop a))) ∧ ∃ a' no',μ' = [(rb,rdO bv (a':Nat) no'),(qb,iO most),(pb,pO rb)] ∧ RdS l a' no' (rawS most (some (l.drop a)))):=by
  have ql:=raw_s rb a most hs hl ha
  (refine v_enter Tryz.func198 rfl Tryz.ntmps198 rfl ?_;intro B _)
  repeat' (first|apply v_seq|apply v_region|apply v_nil|(apply v_pure;(case hop=>(apply p_assign <;> rfl));(case hd=>rfl))|(apply v_read;(case hop=>(apply r_load1;rfl;(apply Cell.own;(case h=>(repeat (first|exact mhd _|apply mtl)));rfl)));(case hd=>rfl))|fail)
  refine v_call (μ1:=[(rb,_)]) (μ2:=_) rfl ql (PickA.perm (by repeat (exact PickA.here _))) rfl ?_
  rintro r G1 _ hle ⟨h1,a',no',rfl,hr'⟩
  obtain ⟨A1,c1,rfl,-⟩:=h1.openInt
  repeat' (first|apply v_nil|(apply v_pure;(case hop=>(apply p_assign <;> rfl));(case hd=>rfl))|fail)
  refine v_ret [(rb,_),(qb,_),(pb,_)] (outsA1 rfl rfl) (by repeat (exact List.Sublist.refl _)) ?_
  exact ⟨h1,a',no',rfl,hr'⟩
theorem rdReadB_s {G:GH} {l:List Int} {bv:Value} {s:Option (List Int)} (pb qb rb a:Nat) (no most:Int) (hs:Sl G 1 (IntR .u8) bv l) (hl:l.length ≤ 1048576) (hr:RdS l a no s) :
    Con Tryz.prog 197 #[.pointer (some ⟨rb,0,none⟩),.func (.func 198) #[] #[.pointer (some ⟨pb,0,none⟩),.pointer (some ⟨qb,0,none⟩)]] G [(rb,rdO bv a no),(qb,iO most),(pb,pO rb)]
      (fun r G' μ'=>Sl G' 1 (IntR .u8) r (rawB most s) ∧ ∃ a' no',μ' = [(rb,rdO bv (a':Nat) no'),(qb,iO most),(pb,pO rb)] ∧ RdS l a' no' (rawS most s)):=by
  obtain ⟨ha,⟨rfl,hno⟩|⟨rfl,rfl⟩⟩:=hr
  · (refine v_enter Tryz.func197 rfl Tryz.ntmps197 rfl ?_;intro B _)
    repeat' (first|apply v_seq|apply v_region|apply v_nil|(apply v_take;(case hg=>rfl))|(apply v_pure;(case hop=>first|(apply p_move <;> rfl)|(apply p_ne <;> rfl)|(apply p_assign <;> rfl)|(apply p_pickF <;> rfl)|(apply p_fieldAddrB <;> rfl)|(apply p_nilCheck <;> rfl)|(apply p_eqNil <;> rfl)|fail);(case hd=>rfl))|(apply v_cond;(case hc=>rfl);all_goals (intro h;(try simp only [reduceCtorEq,zzz] at h);first|(exfalso;omega)|skip))|(apply v_read;(case hop=>(apply r_load1;rfl;(apply Cell.own;(case h=>(repeat (exact mhd _)));rfl)));(case hd=>rfl))|fail)
    refine v_ret [(rb,_),(qb,_),(pb,_)] (outsA1 rfl rfl) (by repeat (exact List.Sublist.refl _)) ?_
    exact ⟨Sl.nil,a,no,rfl,ha,.inl ⟨rfl,hno⟩⟩
  · have q:=raw1_s pb qb rb a most hs hl ha
    have hn:rawS most (some (l.drop a)) = none → rawB most (some (l.drop a)) = []:=by
      intro hh
      cases hd:dvk 0 (l.drop a) with
      | none=>simp only [rawB,hd]
      | some p =>
        simp only [rawB,rawS,hd] at hh ⊢
        split at hh
        · rw [if_pos ‹_›]
        · cases hh
    generalize rawB most (some (l.drop a)) = rl at *
    generalize rawS most (some (l.drop a)) = s' at *
    (refine v_enter Tryz.func197 rfl Tryz.ntmps197 rfl ?_;intro B _)
    repeat' (first|apply v_seq|apply v_region|apply v_nil|apply v_skip|(apply v_take;(case hg=>rfl))|(apply v_pure;(case hop=>first|(apply p_move <;> rfl)|(apply p_nes <;> rfl)|(apply p_assign <;> rfl)|(apply p_pickF <;> rfl)|(apply p_fieldAddrB <;> rfl)|(apply p_nilCheck <;> rfl)|(apply p_eqNil <;> rfl)|fail);(case hd=>rfl))|(apply v_condF;(case hc=>rfl))|(apply v_read;(case hop=>(apply r_load1;rfl;(apply Cell.own;(case h=>(repeat (exact mhd _)));rfl)));(case hd=>rfl))|fail)
    refine v_callC (first:=[]) (captured:=[.pointer (some ⟨pb,0,none⟩),.pointer (some ⟨qb,0,none⟩)]) (vs:=[]) rfl rfl q (List.Perm.refl _) rfl ?_
    rintro r G1 _ hle ⟨h1,a',no',rfl,hr'⟩
    obtain ⟨A1,c1,rfl,-⟩:=h1.openInt
    obtain ⟨ha',hr2⟩:=id hr'
    repeat' (first|apply v_seq|apply v_region|apply v_nil|apply v_skip|(apply v_pure;(case hop=>first|(apply p_move <;> rfl)|(apply p_ne <;> rfl)|(apply p_assign <;> rfl)|(apply p_fieldAddrB <;> rfl)|(apply p_nilCheck <;> rfl)|fail);(case hd=>rfl))|(apply v_cond;(case hc=>rfl);all_goals (intro h;(try simp only [reduceCtorEq,zzz] at h)))|(apply v_read;(case hop=>(apply r_load1;rfl;(apply Cell.own;(case h=>(repeat (exact mhd _)));rfl)));(case hd=>rfl))|fail)
    · refine v_ret [(rb,_),(qb,_),(pb,_)] (outsA1 rfl rfl) (by repeat (exact List.Sublist.refl _)) ?_
      refine ⟨?_,a',no',rfl,hr'⟩
      obtain ⟨h2,h3⟩|⟨h2,h3⟩:=hr2
      · rw [hn h2];exact Sl.nil
      · exact absurd h3 ‹_›
    · refine v_ret [(rb,_),(qb,_),(pb,_)] (outsA1 rfl rfl) (by repeat (exact List.Sublist.refl _)) ?_
      exact ⟨h1,a',no',rfl,hr'⟩
theorem rdRaw_s {G:GH} {l:List Int} {bv:Value} {s:Option (List Int)} (rb a:Nat) (no most:Int) (hs:Sl G 1 (IntR .u8) bv l) (hl:l.length ≤ 1048576) (hr:RdS l a no s) :
    Con Tryz.prog 177 #[.pointer (some ⟨rb,0,none⟩),.int .i64 most] G [(rb,rdO bv a no)]
      (fun r G' μ'=>Sl G' 1 (IntR .u8) r (rawB most s) ∧ ∃ a' no',μ' = [(rb,rdO bv (a':Nat) no')] ∧ RdS l a' no' (rawS most s)):=by
  have q:=fun pb qb=>rdReadB_s pb qb rb a no most hs hl hr
  generalize rawB most s = rl at *
  (refine v_enter Tryz.func177 rfl Tryz.ntmps177 rfl ?_;intro B _)
  repeat' (first|apply v_seq|apply v_region|apply v_nil|(apply v_pure;(case hop=>first|(apply p_assign <;> rfl)|(apply p_makeFunc <;> rfl));(case hd=>rfl))|(apply v_read;(case hop=>(apply r_load1;rfl;(apply Cell.own;(case h=>(repeat (first|exact mhd _|apply mtl)));rfl)));(case hd=>rfl))|(apply v_box;(case hx=>rfl);(case hz=>rfl);(case hd=>rfl);intro b)|fail)
  rename_i pb
  refine v_call (μ1:=[(rb,rdO bv a no),(b,iO most),(pb,pO rb)]) (μ2:=[]) rfl (q pb b) (by apply perm_of_count;intro p;simp only [List.append_eq,List.countP_append,List.countP_cons,List.countP_nil,Nat.zero_add,Nat.add_zero];try ac_rfl) rfl ?_
  rintro r G1 _ hle ⟨h1,a',no',rfl,hr'⟩
  obtain ⟨A1,c1,rfl,-⟩:=h1.openInt
  repeat' (first|apply v_nil|(apply v_pure;(case hop=>(apply p_assign <;> rfl));(case hd=>rfl))|fail)
  refine v_ret [(rb,_)] (outsA1 rfl rfl) (by repeat (first|exact List.nil_sublist _|apply List.Sublist.cons_cons)) ?_
  exact ⟨h1,a',no',rfl,hr'⟩
theorem rdDone_s {G:GH} {l:List Int} {bv:Value} {s:Option (List Int)} (rb a:Nat) (no:Int) (hs:Sl G 1 (IntR .u8) bv l) (hl:l.length ≤ 1048576) (hr:RdS l a no s) :
    Con Tryz.prog 106 #[.pointer (some ⟨rb,0,none⟩)] G [(rb,rdO bv a no)] (fun r G' μ'=>G' = G ∧ (∃ e:Int,r = .int .i64 e ∧ (e = 0 ↔ s = some [])) ∧ μ' = [(rb,rdO bv a no)]):=by
  have qe:=rerr_s G rb bv a no
  have ql:=left_s rb a no hs hl hr.1
  obtain ⟨ha,hr2⟩:=hr
  (refine v_enter Tryz.func106 rfl Tryz.ntmps106 rfl ?_;intro B _)
  repeat' (first|apply v_seq|apply v_region|apply v_nil|apply v_skip|(apply v_pure;(case hop=>first|(apply p_move <;> rfl)|(apply p_gt <;> rfl)|(apply p_ne <;> rfl)|(apply p_assign <;> rfl)|fail);(case hd=>rfl))|(apply v_cond;(case hc=>rfl);all_goals (intro h;(try simp only [reduceCtorEq,zzz] at h)))|(apply v_callK (hs:=qe);(case ha=>rfl);(case hp=>exact (Pick.perm (by repeat (exact Pick.here _))));(case hd=>rfl))|(apply v_callK (hs:=ql);(case ha=>rfl);(case hp=>exact (Pick.perm (by repeat (exact Pick.here _))));(case hd=>rfl))|fail)
  all_goals
    (refine v_ret [(rb,_)] (outsA1 rfl rfl) (by repeat (exact List.Sublist.refl _)) ?_
     refine ⟨rfl,⟨_,rfl,?_⟩,rfl⟩)
  · obtain ⟨h1,h2⟩|⟨h1,h2⟩:=hr2
    · rw [h1];simp only [h2,reduceCtorEq]
    · exact absurd h2 ‹_›
  · obtain ⟨h1,h2⟩|⟨h1,h2⟩:=hr2
    · exact absurd ‹_› h2
    · rw [h1]
      simp only [Option.some.injEq,List.drop_eq_nil_iff]
      omega
  · obtain ⟨h1,h2⟩|⟨h1,h2⟩:=hr2
    · exact absurd ‹_› h2
    · rw [h1]
      simp only [Option.some.injEq,List.drop_eq_nil_iff,true_iff]
      omega
def strL (l:List Int):ByteArray:=⟨(l.map fun n=>UInt8.ofNat n.toNat).toArray⟩
theorem sbytes_strL {l:List Int} (h:∀ x ∈ l,0 ≤ x ∧ x ≤ 255):sbytes (strL l) = l:=by
  unfold sbytes strL
  simp only [List.map_map]
  conv=>rhs;rw [← List.map_id l]
  refine List.map_congr_left fun x hx=>?_
  have:=h x hx
  simp only [Function.comp,UInt8.toNat_ofNat',id]
  omega
theorem strL_sbytes (s:ByteArray):strL (sbytes s) = s:=by
  unfold sbytes strL
  simp only [List.map_map]
  have:(s.data.toList.map ((fun n:Int=>UInt8.ofNat n.toNat) ∘ fun b:UInt8=>(b.toNat:Int))) = s.data.toList:=by
    conv=>rhs;rw [← List.map_id s.data.toList]
    refine List.map_congr_left fun x hx=>?_
    simp
  rw [this]
theorem strL_size (l:List Int):(strL l).size = l.length:=by
  show (l.map fun n=>UInt8.ofNat n.toNat).toArray.size = _
  simp
attribute [local semireducible] ReadOp in
theorem r_convBS {P:Program} {ty src dst e:TypeId} {σ:Env} {G:GH} {μ:OH} {x:Operand} {A:Option Addr} {c:Nat} {l:List Int} (hS:P.underlying src = some (.slice e)) (hE:P.underlying e = some (.int .u8)) (hD:P.underlying dst = some .string) (hx:Env.ev σ x = some (.slice A l.length c)) (hs:Sl G 1 (IntR .u8) (.slice A l.length c) l) :
    ReadOp P (.convert src dst x) ty σ G μ (.string (strL l)):=by
  intro d pos af g ρ hρ w hw
  obtain ⟨A',c',hv,hlc,hcm,hsome,hel,hwf⟩:=hs.openInt
  injection hv with e1 _ e2
  subst e1;subst e2
  have key:(convert src dst (.slice A l.length c)).run P w = .ok (.string (strL l)) w:=by
    cases A with
    | none =>
      have:l = []:=by
        cases l with
        | nil=>rfl
        | cons a l=>have:=hsome (by simp);simp at this
      subst this
      exact run_convert_bytes_nil w src e hS hE _ _ dst hD
    | some a =>
      have h:=run_convert_bytes_back (P:=P) w src dst e a c (l.map fun n=>UInt8.ofNat n.toNat) hS hE hD (fun j hj=>by
        rw [List.length_map] at hj
        have h1:=(Cell.frozen (μ:=μ) (hel j hj)) w hw
        have h2:=hwf _ (List.getElem_mem hj)
        simp [Lit.wf,IntKind.min,IntKind.max,IntKind.signed,IntKind.bits] at h2
        simp only [adr,Option.getD_some,Nat.mul_one] at h1
        rw [h1,List.getElem_map,UInt8.toNat_ofNat']
        congr 2
        omega)
      rw [List.length_map] at h
      exact h
  simp [execOp,hρ _ _ hx,key]
theorem rdText_s {G:GH} {l:List Int} {bv:Value} {s:Option (List Int)} (rb a:Nat) (no most:Int) (hs:Sl G 1 (IntR .u8) bv l) (hl:l.length ≤ 1048576) (hr:RdS l a no s) :
    Con Tryz.prog 221 #[.pointer (some ⟨rb,0,none⟩),.int .i64 most] G [(rb,rdO bv a no)]
      (fun r G' μ'=>r = .string (strL (rawB most s)) ∧ ∃ a' no',μ' = [(rb,rdO bv (a':Nat) no')] ∧ RdS l a' no' (rawS most s)):=by
  have q:=rdRaw_s rb a no most hs hl hr
  generalize rawB most s = rl at *
  (refine v_enter Tryz.func221 rfl Tryz.ntmps221 rfl ?_;intro B _)
  repeat' (first|apply v_seq|apply v_region|apply v_nil|(apply v_pure;(case hop=>first|(apply p_move <;> rfl)|(apply p_assign <;> rfl)|fail);(case hd=>rfl))|fail)
  refine v_call (μ1:=[(rb,rdO bv a no)]) (μ2:=[]) rfl q (List.Perm.refl _) rfl ?_
  rintro r G1 _ hle ⟨h1,a',no',rfl,hr'⟩
  obtain ⟨A1,c1,rfl,-⟩:=h1.openInt
  repeat' (first|apply v_nil|(apply v_pure;(case hop=>(apply p_assign <;> rfl));(case hd=>rfl))|(apply v_read;(case hop=>exact r_convBS Tryz.underlying24 Tryz.underlying5 Tryz.underlying9 rfl h1);(case hd=>rfl))|fail)
  refine v_ret [(rb,_)] (outsA1 rfl rfl) (by repeat (exact List.Sublist.refl _)) ?_
  exact ⟨rfl,a',no',rfl,hr'⟩
end Go.Proofs.YtpemabgfmnhhnaaGreatDoor
/-
  cmd (layer 8), the fourth part: what a writer puts down of a command.
-/
set_option linter.unusedSimpArgs false
set_option linter.unusedVariables false
namespace Go.Proofs.YtpemabgfmnhhnaaGreatDoor
open Go.Vx Go.ChangeShapes Go.WideShapes Go.ChangeAt Go.RowKit
attribute [local semireducible] PureOp in
theorem p_assert1 {ty u src:TypeId} {σ:Env} {x:Operand} {v:Value} {d:TypeDesc} [Ty Tryz.prog u d] (hd:(match d with | .interface _=>false|_=>true) = true) (hx:Env.ev σ x = some (.iface u v)):PureOp Tryz.prog (.typeAssert x src u false) ty σ v:=by
  intro dst pos af g ρ hρ w
  simp only [execOp,hρ _ _ hx,Instr.typeAssert,Sem.run_bind,run_under (t:=u) (d:=d),Result.andThen_ok]
  cases d <;> simp at hd ⊢
def pbytes (c:Cm) (j:Nat):List Int:=if isNum j then vbytes (c.num j) else vbytes (c.txt j).size ++ sbytes (c.txt j)
theorem write_s {G:GH} {l:List Int} {sv:Value} (c:Cm) (hc:c.ok) (hk:c.key.size ≤ 1000) (hv:c.val.size ≤ 1000) (ho:c.old.size ≤ 1000) (wb cb j:Nat) (hj:j < 6) (hs:Sl G 1 (IntR .u8) sv l) (hl:l.length ≤ 100000) :
    Con Tryz.prog 172 #[.agg (partL j).toArray,.pointer (some ⟨wb,0,none⟩),.pointer (some ⟨cb,0,none⟩)] G [(wb,.cells [sv].toArray 130 (0,0)),(cb,.cells c.cells.toArray 40 (0,0))]
      (fun r G' μ'=>∃ v',μ' = [(wb,.cells [v'].toArray 130 (0,0)),(cb,.cells c.cells.toArray 40 (0,0))] ∧ Sl G' 1 (IntR .u8) v' (l ++ pbytes c j)):=by
  obtain ⟨hk1,hc1,hs1,hk2,hv2,ho2,hn1⟩:=hc
  simp [Lit.wf,IntKind.min,IntKind.max,IntKind.signed,IntKind.bits] at hk1 hc1 hs1 hn1
  (refine v_enter Tryz.func172 rfl Tryz.ntmps172 rfl ?_;intro B _)
  obtain rfl|rfl|rfl|rfl|rfl|rfl:j = 0 ∨ j = 1 ∨ j = 2 ∨ j = 3 ∨ j = 4 ∨ j = 5:=by omega
  all_goals
    repeat' (first|apply v_seq|apply v_region|apply v_nil|apply v_skip|(apply v_pure;(case hop=>first|(apply p_move <;> rfl)|(apply p_assign <;> rfl)|(apply p_fieldAddrB <;> rfl)|(apply p_nilCheck <;> rfl)|(apply p_extract0 <;> rfl)|(apply p_extract1 <;> rfl)|(apply p_assertOk <;> rfl)|(apply p_assertNo <;> rfl));(case hd=>rfl))|(apply v_condT;(case hc=>rfl))|(apply v_condF;(case hc=>rfl))|(apply v_callFJ0 (hs:=at1_s _ cb);(case hx=>rfl);(case ha=>rfl);(case hd=>rfl))|(apply v_callFJ0 (hs:=at2_s _ cb);(case hx=>rfl);(case ha=>rfl);(case hd=>rfl))|(apply v_callFJ0 (hs:=at3_s _ cb);(case hx=>rfl);(case ha=>rfl);(case hd=>rfl))|(apply v_callFJ0 (hs:=at4_s _ cb);(case hx=>rfl);(case ha=>rfl);(case hd=>rfl))|(apply v_callFJ0 (hs:=at5_s _ cb);(case hx=>rfl);(case ha=>rfl);(case hd=>rfl))|(apply v_callFJ0 (hs:=at6_s _ cb);(case hx=>rfl);(case ha=>rfl);(case hd=>rfl))|(apply v_pure;(case hop=>(apply p_assert1;(case hd=>rfl);(case hx=>rfl)));(case hd=>rfl))|(apply v_read;(case hop=>(apply r_load1;rfl;(apply Cell.own;(case h=>(repeat (first|exact mhd _|apply mtl)));rfl)));(case hd=>rfl))|(apply v_box;(case hx=>rfl);(case hz=>rfl);(case hd=>rfl);intro b)|fail)
  · refine v_call (μ1:=[(wb,_)]) (μ2:=_) rfl (wnumber_s wb c.client hs (by omega) (by omega)) (PickA.perm (by repeat (first|exact PickA.here _|apply PickA.cons))) rfl ?_
    rintro r G1 μ1 - ⟨v',rfl,hv'⟩
    repeat' (first|apply v_nil)
    refine v_ret [(wb,_),(cb,_)] (outsA0 rfl) (by repeat (first|exact List.Sublist.refl _|apply List.Sublist.cons_cons|apply List.Sublist.cons)) ?_
    exact ⟨_,rfl,hv'⟩
  · refine v_call (μ1:=[(wb,_)]) (μ2:=_) rfl (wnumber_s wb c.seq hs (by omega) (by omega)) (PickA.perm (by repeat (first|exact PickA.here _|apply PickA.cons))) rfl ?_
    rintro r G1 μ1 - ⟨v',rfl,hv'⟩
    repeat' (first|apply v_nil)
    refine v_ret [(wb,_),(cb,_)] (outsA0 rfl) (by repeat (first|exact List.Sublist.refl _|apply List.Sublist.cons_cons|apply List.Sublist.cons)) ?_
    exact ⟨_,rfl,hv'⟩
  · refine v_call (μ1:=[(wb,_)]) (μ2:=_) rfl (wtext_s wb c.key hs hl (by omega)) (PickA.perm (by repeat (first|exact PickA.here _|apply PickA.cons))) rfl ?_
    rintro r G1 μ1 - ⟨v',rfl,hv'⟩
    repeat' (first|apply v_nil)
    refine v_end [(wb,_),(cb,_)] (outsA0 rfl) (by repeat (first|exact List.Sublist.refl _|apply List.Sublist.cons_cons|apply List.Sublist.cons)) ?_
    exact ⟨_,rfl,by rw [List.append_assoc] at hv';exact hv'⟩
  · refine v_call (μ1:=[(wb,_)]) (μ2:=_) rfl (wtext_s wb c.old hs hl (by omega)) (PickA.perm (by repeat (first|exact PickA.here _|apply PickA.cons))) rfl ?_
    rintro r G1 μ1 - ⟨v',rfl,hv'⟩
    repeat' (first|apply v_nil)
    refine v_end [(wb,_),(cb,_)] (outsA0 rfl) (by repeat (first|exact List.Sublist.refl _|apply List.Sublist.cons_cons|apply List.Sublist.cons)) ?_
    exact ⟨_,rfl,by rw [List.append_assoc] at hv';exact hv'⟩
  · refine v_call (μ1:=[(wb,_)]) (μ2:=_) rfl (wtext_s wb c.val hs hl (by omega)) (PickA.perm (by repeat (first|exact PickA.here _|apply PickA.cons))) rfl ?_
    rintro r G1 μ1 - ⟨v',rfl,hv'⟩
    repeat' (first|apply v_nil)
    refine v_end [(wb,_),(cb,_)] (outsA0 rfl) (by repeat (first|exact List.Sublist.refl _|apply List.Sublist.cons_cons|apply List.Sublist.cons)) ?_
    exact ⟨_,rfl,by rw [List.append_assoc] at hv';exact hv'⟩
  · refine v_call (μ1:=[(wb,_)]) (μ2:=_) rfl (wnumber_s wb c.node hs (by omega) (by omega)) (PickA.perm (by repeat (first|exact PickA.here _|apply PickA.cons))) rfl ?_
    rintro r G1 μ1 - ⟨v',rfl,hv'⟩
    repeat' (first|apply v_nil)
    refine v_ret [(wb,_),(cb,_)] (outsA0 rfl) (by repeat (first|exact List.Sublist.refl _|apply List.Sublist.cons_cons|apply List.Sublist.cons)) ?_
    exact ⟨_,rfl,hv'⟩
theorem pbytes_len (c:Cm) (hk:c.key.size ≤ 1000) (hv:c.val.size ≤ 1000) (ho:c.old.size ≤ 1000) (j:Nat):(pbytes c j).length ≤ 1011:=by
  unfold pbytes
  split
  · have:=(vbytes_len (c.num j)).1
    omega
  · rw [List.length_append,sbytes_length]
    have:=(vbytes_len ((c.txt j).size:Nat)).1
    have:(c.txt j).size ≤ 1000:=by unfold Cm.txt;split <;> assumption
    omega
end Go.Proofs.YtpemabgfmnhhnaaGreatDoor
/-
  cmd (layer 8), the sixth part: what a reader reads of a command.
-/
set_option linter.unusedSimpArgs false
set_option linter.unusedVariables false
namespace Go.Proofs.YtpemabgfmnhhnaaGreatDoor
open Go.Vx Go.ChangeShapes Go.WideShapes Go.ChangeAt Go.RowKit
def Cm.setP (c:Cm) (j:Nat) (s:Option (List Int)):Cm:=match j with
  | 0 => { c with client:=numV 9223372036854775807 s }
  | 1 => { c with seq:=numV 9223372036854775807 s }
  | 2 => { c with key:=strL (rawB 1048576 s) }
  | 3 => { c with old:=strL (rawB 1048576 s) }
  | 4 => { c with val:=strL (rawB 1048576 s) }
  | _ => { c with node:=numV 9223372036854775807 s }
def partS (j:Nat) (s:Option (List Int)):Option (List Int):=if isNum j then numS 9223372036854775807 s else rawS 1048576 s
theorem read_s {G:GH} {l:List Int} {bv:Value} {s:Option (List Int)} (c:Cm) (rb cb a j:Nat) (no:Int) (hj:j < 6) (hs:Sl G 1 (IntR .u8) bv l) (hl:l.length ≤ 1048576) (hr:RdS l a no s) :
    Con Tryz.prog 196 #[.agg (partL j).toArray,.pointer (some ⟨rb,0,none⟩),.pointer (some ⟨cb,0,none⟩)] G [(rb,rdO bv a no),(cb,.cells c.cells.toArray 40 (0,0))]
      (fun r G' μ'=>∃ a' no',μ' = [(rb,rdO bv (a':Nat) no'),(cb,.cells (c.setP j s).cells.toArray 40 (0,0))] ∧ RdS l a' no' (partS j s)):=by
  have qn:=rdNumber_s rb a no 9223372036854775807 hs hl hr
  have qt:=rdText_s rb a no 1048576 hs hl hr
  (refine v_enter Tryz.func196 rfl Tryz.ntmps196 rfl ?_;intro B _)
  obtain rfl|rfl|rfl|rfl|rfl|rfl:j = 0 ∨ j = 1 ∨ j = 2 ∨ j = 3 ∨ j = 4 ∨ j = 5:=by omega
  all_goals
    (simp only [Cm.setP,partS,isNum,Nat.reduceBEq,Bool.or_self,Bool.or_true,Bool.true_or,Bool.or_false,Bool.false_or,if_true,if_false,reduceCtorEq,Bool.false_eq_true])
  all_goals
    repeat' (first|apply v_seq|apply v_region|apply v_nil|apply v_skip|(apply v_pure;(case hop=>first|(apply p_move <;> rfl)|(apply p_assign <;> rfl)|(apply p_fieldAddrB <;> rfl)|(apply p_extract0 <;> rfl)|(apply p_extract1 <;> rfl)|(apply p_assertOk <;> rfl)|(apply p_assertNo <;> rfl));(case hd=>rfl))|(apply v_condT;(case hc=>rfl))|(apply v_condF;(case hc=>rfl))|(apply v_callFJ0 (hs:=at1_s _ cb);(case hx=>rfl);(case ha=>rfl);(case hd=>rfl))|(apply v_callFJ0 (hs:=at2_s _ cb);(case hx=>rfl);(case ha=>rfl);(case hd=>rfl))|(apply v_callFJ0 (hs:=at3_s _ cb);(case hx=>rfl);(case ha=>rfl);(case hd=>rfl))|(apply v_callFJ0 (hs:=at4_s _ cb);(case hx=>rfl);(case ha=>rfl);(case hd=>rfl))|(apply v_callFJ0 (hs:=at5_s _ cb);(case hx=>rfl);(case ha=>rfl);(case hd=>rfl))|(apply v_callFJ0 (hs:=at6_s _ cb);(case hx=>rfl);(case ha=>rfl);(case hd=>rfl))|(apply v_read;(case hop=>(apply r_load1;rfl;(apply Cell.own;(case h=>(repeat (exact mhd _)));rfl)));(case hd=>rfl))|(apply v_box;(case hx=>rfl);(case hz=>rfl);(case hd=>rfl);intro b)|fail)
  · refine v_call (μ1:=[(rb,_)]) (μ2:=_) rfl qn (PickA.perm (by repeat (first|exact PickA.here _|apply PickA.cons))) rfl ?_
    rintro _ _ _ hle ⟨rfl,rfl,a',no',rfl,hr'⟩
    repeat' (first|apply v_nil|(apply v_pure;(case hop=>(apply p_nilCheck <;> rfl));(case hd=>rfl))|(apply v_store;(case hp=>rfl);(case hx=>rfl);(case hc=>rfl);(case hsz=>rfl);(case h1=>rfl);(case hb=>(repeat (first|exact mhd _|apply mtl)));(case hfit=>exact nle rfl);(case hov=>((repeat (first|with_reducible exact ov_nil|apply ov_cons));done));(case hu=>repeat (first|exact Upd.here _ _|apply Upd.there)))|fail)
    refine v_ret [(rb,_),(cb,_)] (outsA0 rfl) (by repeat (first|exact List.Sublist.refl _|apply List.Sublist.cons_cons|apply List.Sublist.cons)) ?_
    exact ⟨a',no',rfl,hr'⟩
  · refine v_call (μ1:=[(rb,_)]) (μ2:=_) rfl qn (PickA.perm (by repeat (first|exact PickA.here _|apply PickA.cons))) rfl ?_
    rintro _ _ _ hle ⟨rfl,rfl,a',no',rfl,hr'⟩
    repeat' (first|apply v_nil|(apply v_pure;(case hop=>(apply p_nilCheck <;> rfl));(case hd=>rfl))|(apply v_store;(case hp=>rfl);(case hx=>rfl);(case hc=>rfl);(case hsz=>rfl);(case h1=>rfl);(case hb=>(repeat (first|exact mhd _|apply mtl)));(case hfit=>exact nle rfl);(case hov=>((repeat (first|with_reducible exact ov_nil|apply ov_cons));done));(case hu=>repeat (first|exact Upd.here _ _|apply Upd.there)))|fail)
    refine v_ret [(rb,_),(cb,_)] (outsA0 rfl) (by repeat (first|exact List.Sublist.refl _|apply List.Sublist.cons_cons|apply List.Sublist.cons)) ?_
    exact ⟨a',no',rfl,hr'⟩
  · refine d_start [(b,.cells (partL 2).toArray 197 (0,0))] (by kernel_rfl) (by kernel_rfl) (by kernel_rfl) (by intro e he;(simp at he;simp [he];done)) ?_
    all_goals (apply dtk 0;(case hi=>rfl);(case hop=>(apply prd;apply p_fieldAddrB <;> rfl));(case hq=>kernel_rfl))
    all_goals (apply dtk 1;(case hi=>rfl);(case hop=>first|(apply r_loadNo;(case hx=>rfl);(case h=>(repeat (fail)));(case hd=>(repeat (fail)));(case hn=>rfl))|(apply r_load1;rfl;(apply Cell.own;(case h=>(repeat (exact mhd _)));rfl))|(apply r_loadN;rfl;(apply CellsAt.own;(case h=>(repeat (fail))));rfl));(case hq=>kernel_rfl))
    all_goals (apply dtk 2;(case hi=>rfl);(case hop=>(apply prd;apply p_move <;> rfl));(case hq=>kernel_rfl))
    all_goals (apply dtk 5;(case hi=>rfl);(case hop=>(apply prd;apply p_move <;> rfl));(case hq=>kernel_rfl))
    all_goals (apply d_callJ0 3 (hs:=(at3_s _ cb));(case hi=>rfl);(case hr=>kernel_rfl);(case hx=>rfl);(case ha=>rfl);(case hd=>rfl))
    all_goals (apply dtk 4;(case hi=>rfl);(case hop=>((apply prd;apply p_assert1;(case hd=>rfl);(case hx=>rfl))));(case hq=>kernel_rfl))
    all_goals ((apply d_call 6 (hs:=qt);(case hi=>rfl);(case hr=>kernel_rfl);  (case ha=>rfl);(case hp=>exact PickA.perm (by repeat (first|exact PickA.here _|apply PickA.cons)));(case hd=>rfl);(case hν'=>intro e he;simp at he;simp [he]);rintro _ G1 _ hle ⟨rfl,a',no',rfl,hr'⟩))
    all_goals (apply dtk 7;(case hi=>rfl);(case hop=>(apply prd;apply p_nilCheck <;> rfl));(case hq=>kernel_rfl))
    all_goals (apply d_store 8;(case hi=>rfl);(case hr=>kernel_rfl);(case hL=>infer_instance);(case hp=>rfl);(case hx=>rfl);(case hc=>rfl);(case hsz=>rfl);(case h1=>rfl);(case hb=>(repeat (first|exact mhd _|apply mtl)));(case hfit=>exact nle rfl);(case hov=>((repeat (first|with_reducible exact ov_nil|apply ov_cons));done));(case hu=>repeat (first|exact Upd.here _ _|apply Upd.there));(case hν'=>intro e he;(simp at he;simp [he];done)))
    all_goals (apply d_done;(case hr=>kernel_rfl))
    repeat' (fail)
    refine v_end [(rb,_),(cb,_)] (outsA0 rfl) (by repeat (first|exact List.Sublist.refl _|apply List.Sublist.cons_cons|apply List.Sublist.cons)) ?_
    exact ⟨a',no',rfl,hr'⟩
  · refine d_start [(b,.cells (partL 3).toArray 197 (0,0))] (by kernel_rfl) (by kernel_rfl) (by kernel_rfl) (by intro e he;(simp at he;simp [he];done)) ?_
    all_goals (apply dtk 0;(case hi=>rfl);(case hop=>(apply prd;apply p_fieldAddrB <;> rfl));(case hq=>kernel_rfl))
    all_goals (apply dtk 1;(case hi=>rfl);(case hop=>first|(apply r_loadNo;(case hx=>rfl);(case h=>(repeat (fail)));(case hd=>(repeat (fail)));(case hn=>rfl))|(apply r_load1;rfl;(apply Cell.own;(case h=>(repeat (exact mhd _)));rfl))|(apply r_loadN;rfl;(apply CellsAt.own;(case h=>(repeat (fail))));rfl));(case hq=>kernel_rfl))
    all_goals (apply dtk 2;(case hi=>rfl);(case hop=>(apply prd;apply p_move <;> rfl));(case hq=>kernel_rfl))
    all_goals (apply dtk 5;(case hi=>rfl);(case hop=>(apply prd;apply p_move <;> rfl));(case hq=>kernel_rfl))
    all_goals (apply d_callJ0 3 (hs:=(at4_s _ cb));(case hi=>rfl);(case hr=>kernel_rfl);(case hx=>rfl);(case ha=>rfl);(case hd=>rfl))
    all_goals (apply dtk 4;(case hi=>rfl);(case hop=>((apply prd;apply p_assert1;(case hd=>rfl);(case hx=>rfl))));(case hq=>kernel_rfl))
    all_goals ((apply d_call 6 (hs:=qt);(case hi=>rfl);(case hr=>kernel_rfl);  (case ha=>rfl);(case hp=>exact PickA.perm (by repeat (first|exact PickA.here _|apply PickA.cons)));(case hd=>rfl);(case hν'=>intro e he;simp at he;simp [he]);rintro _ G1 _ hle ⟨rfl,a',no',rfl,hr'⟩))
    all_goals (apply dtk 7;(case hi=>rfl);(case hop=>(apply prd;apply p_nilCheck <;> rfl));(case hq=>kernel_rfl))
    all_goals (apply d_store 8;(case hi=>rfl);(case hr=>kernel_rfl);(case hL=>infer_instance);(case hp=>rfl);(case hx=>rfl);(case hc=>rfl);(case hsz=>rfl);(case h1=>rfl);(case hb=>(repeat (first|exact mhd _|apply mtl)));(case hfit=>exact nle rfl);(case hov=>((repeat (first|with_reducible exact ov_nil|apply ov_cons));done));(case hu=>repeat (first|exact Upd.here _ _|apply Upd.there));(case hν'=>intro e he;(simp at he;simp [he];done)))
    all_goals (apply d_done;(case hr=>kernel_rfl))
    repeat' (fail)
    refine v_end [(rb,_),(cb,_)] (outsA0 rfl) (by repeat (first|exact List.Sublist.refl _|apply List.Sublist.cons_cons|apply List.Sublist.cons)) ?_
    exact ⟨a',no',rfl,hr'⟩
  · refine d_start [(b,.cells (partL 4).toArray 197 (0,0))] (by kernel_rfl) (by kernel_rfl) (by kernel_rfl) (by intro e he;(simp at he;simp [he];done)) ?_
    all_goals (apply dtk 0;(case hi=>rfl);(case hop=>(apply prd;apply p_fieldAddrB <;> rfl));(case hq=>kernel_rfl))
    all_goals (apply dtk 1;(case hi=>rfl);(case hop=>first|(apply r_loadNo;(case hx=>rfl);(case h=>(repeat (fail)));(case hd=>(repeat (fail)));(case hn=>rfl))|(apply r_load1;rfl;(apply Cell.own;(case h=>(repeat (exact mhd _)));rfl))|(apply r_loadN;rfl;(apply CellsAt.own;(case h=>(repeat (fail))));rfl));(case hq=>kernel_rfl))
    all_goals (apply dtk 2;(case hi=>rfl);(case hop=>(apply prd;apply p_move <;> rfl));(case hq=>kernel_rfl))
    all_goals (apply dtk 5;(case hi=>rfl);(case hop=>(apply prd;apply p_move <;> rfl));(case hq=>kernel_rfl))
    all_goals (apply d_callJ0 3 (hs:=(at5_s _ cb));(case hi=>rfl);(case hr=>kernel_rfl);(case hx=>rfl);(case ha=>rfl);(case hd=>rfl))
    all_goals (apply dtk 4;(case hi=>rfl);(case hop=>((apply prd;apply p_assert1;(case hd=>rfl);(case hx=>rfl))));(case hq=>kernel_rfl))
    all_goals ((apply d_call 6 (hs:=qt);(case hi=>rfl);(case hr=>kernel_rfl);  (case ha=>rfl);(case hp=>exact PickA.perm (by repeat (first|exact PickA.here _|apply PickA.cons)));(case hd=>rfl);(case hν'=>intro e he;simp at he;simp [he]);rintro _ G1 _ hle ⟨rfl,a',no',rfl,hr'⟩))
    all_goals (apply dtk 7;(case hi=>rfl);(case hop=>(apply prd;apply p_nilCheck <;> rfl));(case hq=>kernel_rfl))
    all_goals (apply d_store 8;(case hi=>rfl);(case hr=>kernel_rfl);(case hL=>infer_instance);(case hp=>rfl);(case hx=>rfl);(case hc=>rfl);(case hsz=>rfl);(case h1=>rfl);(case hb=>(repeat (first|exact mhd _|apply mtl)));(case hfit=>exact nle rfl);(case hov=>((repeat (first|with_reducible exact ov_nil|apply ov_cons));done));(case hu=>repeat (first|exact Upd.here _ _|apply Upd.there));(case hν'=>intro e he;(simp at he;simp [he];done)))
    all_goals (apply d_done;(case hr=>kernel_rfl))
    repeat' (fail)
    refine v_end [(rb,_),(cb,_)] (outsA0 rfl) (by repeat (first|exact List.Sublist.refl _|apply List.Sublist.cons_cons|apply List.Sublist.cons)) ?_
    exact ⟨a',no',rfl,hr'⟩
  · refine v_call (μ1:=[(rb,_)]) (μ2:=_) rfl qn (PickA.perm (by repeat (first|exact PickA.here _|apply PickA.cons))) rfl ?_
    rintro _ _ _ hle ⟨rfl,rfl,a',no',rfl,hr'⟩
    repeat' (first|apply v_nil|(apply v_pure;(case hop=>(apply p_nilCheck <;> rfl));(case hd=>rfl))|(apply v_store;(case hp=>rfl);(case hx=>rfl);(case hc=>rfl);(case hsz=>rfl);(case h1=>rfl);(case hb=>(repeat (first|exact mhd _|apply mtl)));(case hfit=>exact nle rfl);(case hov=>((repeat (first|with_reducible exact ov_nil|apply ov_cons));done));(case hu=>repeat (first|exact Upd.here _ _|apply Upd.there)))|fail)
    refine v_ret [(rb,_),(cb,_)] (outsA0 rfl) (by repeat (first|exact List.Sublist.refl _|apply List.Sublist.cons_cons|apply List.Sublist.cons)) ?_
    exact ⟨a',no',rfl,hr'⟩
def wantB (v kind:Int) (j:Nat):Bool:=if v = 1 then decide (hasOf j ≠ 4) else decide (band (cmdFields kind).1 (hasOf j) ≠ 0)
theorem wantedV_s (G:GH) (v kind:Int) (j:Nat) (hj:j < 6):Con Tryz.prog 171 #[.agg (partL j).toArray,.int .i64 v,.int .i64 kind] G [] (Just (.bool (wantB v kind j)) G):=by
  have qf:=fields_s G kind
  apply Con.just
  unfold wantB
  (refine v_enter Tryz.func171 rfl Tryz.ntmps171 rfl ?_;intro B _)
  obtain rfl|rfl|rfl|rfl|rfl|rfl:j = 0 ∨ j = 1 ∨ j = 2 ∨ j = 3 ∨ j = 4 ∨ j = 5:=by omega
  all_goals
    repeat' (first|apply v_seq|apply v_region|apply v_nil|apply v_skip|(apply v_pure;(case hop=>first|(apply p_move <;> rfl)|(apply p_nes <;> rfl)|(apply p_eq <;> rfl)|(apply p_ne <;> rfl)|(apply p_assign <;> rfl)|(apply p_fieldAddrB <;> rfl)|(apply p_extract0 <;> rfl)|(apply p_extract1 <;> rfl)|(apply p_and64 <;> rfl)|fail);(case hd=>rfl))|(apply v_cond;(case hc=>rfl);all_goals (intro h;(try simp only [reduceCtorEq,zzz] at h)))|(apply v_callJ (hs:=qf);(case ha=>rfl);(case hd=>rfl))|(apply v_read;(case hop=>(apply r_load1;rfl;(apply Cell.own;(case h=>(repeat (exact mhd _)));rfl)));(case hd=>rfl))|(apply v_box;(case hx=>rfl);(case hz=>rfl);(case hd=>rfl);intro b)|fail)
  all_goals
    (refine v_ret [] (outsA1 rfl rfl) (by repeat (exact List.nil_sublist _)) ?_
     refine ⟨?_,rfl⟩
     simp [hasOf,dec_eq, *])
def putW (w:Nat → Bool) (c:Cm):Nat → List Int
  | 0 => []
  | k + 1=>putW w c k ++ (if w k then pbytes c k else [])
theorem putW_len (w:Nat → Bool) (c:Cm) (hk:c.key.size ≤ 1000) (hv:c.val.size ≤ 1000) (ho:c.old.size ≤ 1000):∀ k,(putW w c k).length ≤ 1011 * k
  | 0=>by simp [putW]
  | k + 1=>by
    rw [putW,List.length_append]
    have h1:=putW_len w c hk hv ho k
    have h2:=pbytes_len c hk hv ho k
    split
    · omega
    · simp;omega
theorem cputV_s {G:GH} {l:List Int} {sv:Value} (v:Int) (c:Cm) (hc:c.ok) (hk:c.key.size ≤ 1000) (hv:c.val.size ≤ 1000) (ho:c.old.size ≤ 1000) (wb:Nat) (hs:Sl G 1 (IntR .u8) sv l) (hl:l.length ≤ 90000) :
    Con Tryz.prog 135 #[.pointer (some ⟨wb,0,none⟩),.int .i64 v,.agg c.cells.toArray] G [(wb,.cells [sv].toArray 130 (0,0))]
      (fun r G' μ'=>∃ v',μ' = [(wb,.cells [v'].toArray 130 (0,0))] ∧ Sl G' 1 (IntR .u8) v' (l ++ vbytes c.kind ++ putW (wantB v c.kind) c 6)):=by
  have hkw:=hc.1
  simp [Lit.wf,IntKind.min,IntKind.max,IntKind.signed,IntKind.bits] at hkw
  (refine v_enter Tryz.func135 rfl Tryz.ntmps135 rfl ?_;intro B _)
  repeat' (first|apply v_seq|apply v_region|apply v_nil|(apply v_pure;(case hop=>first|(apply p_move <;> rfl)|(apply p_fieldAddrB <;> rfl)|fail);(case hd=>rfl))|(apply v_box (zs:=c.cells);(case hx=>rfl);(case hz=>rfl);(case hd=>rfl);intro cb)|(apply v_read;(case hop=>(apply r_load1;rfl;(apply Cell.own;(case h=>(repeat (exact mhd _)));rfl)));(case hd=>rfl))|fail)
  refine v_call (μ1:=[(wb,_)]) (μ2:=_) rfl (wnumber_s wb c.kind hs (by omega) (by omega)) (PickA.perm (by repeat (first|exact PickA.last|apply PickA.cons))) rfl ?_
  rintro r0 G0 μ0 - ⟨v0,rfl,hv0⟩
  repeat' (first|apply v_seq|apply v_region|apply v_nil)
  refine v_call (μ1:=[]) (μ2:=_) rfl (parts_s G0) (List.Perm.refl _) rfl ?_
  rintro r G' μ1 - ⟨rfl,pb,rfl,rfl⟩
  refine v_frz [(pb,_)] (by repeat (exact PickA.here _)) ?_
  intro G1 hle1 hG1
  have hpb:=hG1 pb _ (List.Mem.head _)
  have hv1:=hv0.mono hle1
  have hl1:(l ++ vbytes c.kind).length ≤ 90011:=by
    rw [List.length_append]
    have:=(vbytes_len c.kind).1
    omega
  generalize l ++ vbytes c.kind = l1 at *
  repeat' (first|apply v_nil|apply v_block|(apply v_pure;(case hop=>first|(apply p_move <;> rfl)|(apply p_lenSlice <;> rfl)|fail);(case hd=>rfl))|fail)
  refine v_loop [14,13,12,0,1,5] (fun us G' μ'=>GH.le G1 G' ∧ ∃ (k:Nat) (w:Value),k ≤ 6 ∧ us = [Value.int .i64 (k:Int),.int .i64 6,.slice (some ⟨pb,0,none⟩) 6 6,.pointer (some ⟨wb,0,none⟩),.int .i64 v,.pointer (some ⟨cb,0,none⟩)] ∧ μ' = [(wb,.cells [w].toArray 130 (0,0)),(cb,.cells c.cells.toArray 40 (0,0))] ∧ Sl G' 1 (IntR .u8) w (l1 ++ putW (wantB v c.kind) c k)) (fun us=>7 - (headI us).toNat) rfl ⟨GH.le_refl _,0,_,by omega,rfl,rfl,by simpa [putW] using hv1⟩ ?_
  rintro us G2 μ' ⟨hle2,k,w,hk6,rfl,rfl,hw⟩
  by_cases hlt:k < 6
  · have hpk:=partsG (hle2 _ _ hpb) hlt
    have hwt:=wantedV_s G2 v c.kind k hlt
    have hlen:(l1 ++ putW (wantB v c.kind) c k).length ≤ 100000:=by
      rw [List.length_append]
      have:=putW_len (wantB v c.kind) c hk hv ho k
      omega
    have hwr:=write_s c hc hk hv ho wb cb k hlt hw hlen
    have e1:putW (wantB v c.kind) c (k + 1) = putW (wantB v c.kind) c k ++ (if wantB v c.kind k then pbytes c k else []):=rfl
    generalize pbytes c k = pb1 at *
    have hbl:∃ L,L = partL k:=⟨_,rfl⟩
    obtain ⟨L,hL⟩:=hbl
    cases hwb:wantB v c.kind k
    all_goals
      rw [hwb] at hwt e1
      obtain rfl|rfl|rfl|rfl|rfl|rfl:k = 0 ∨ k = 1 ∨ k = 2 ∨ k = 3 ∨ k = 4 ∨ k = 5:=by omega
    all_goals
      (simp only [if_true,if_false,List.append_nil,Bool.false_eq_true] at e1
       repeat' (first|apply v_seq|apply v_region|apply v_nil|apply v_skip|apply v_block|apply v_blk|(apply v_pure;(case hop=>first|(apply p_move <;> rfl)|(apply p_lt <;> rfl)|(apply p_fieldAddrB <;> rfl)|(apply p_add;(case hx=>rfl);(case hy=>rfl);(case h=>omega))|(apply p_indexAddr;(case hx=>rfl);(case hi=>rfl);(case h0=>omega);(case h=>omega))|fail);(case hd=>rfl))|(apply v_condT;(case hc=>rfl))|(apply v_condF;(case hc=>rfl))|(apply v_cond;(case hc=>rfl);all_goals (intro h;(try simp only [reduceCtorEq,zzz] at h);first|(exfalso;omega)|skip))|(apply v_read;(case hop=>(apply r_loadN;rfl;exact CellsAt.frozen hpk;rfl));(case hd=>rfl))|(apply v_callJ (hs:=hwt);(case ha=>rfl);(case hd=>rfl))|(apply v_read;(case hop=>first|(apply r_loadNo;(case hx=>rfl);(case h=>(repeat (exact mhd _)));(case hd=>(repeat (first|with_reducible exact dt_nil|apply dt_here)));(case hn=>rfl))|(apply r_load1;rfl;(apply Cell.own;(case h=>(repeat (first|exact mhd _|apply mtl)));rfl))|fail);(case hd=>rfl))|(apply v_alloc;(case hz=>rfl);(case hd=>rfl);intro b)|(apply v_store;(case hp=>rfl);(case hx=>rfl);(case hc=>rfl);(case hsz=>rfl);(case h1=>rfl);(case hb=>(repeat (exact mhd _)));(case hfit=>exact nle rfl);(case hov=>((repeat (first|with_reducible exact ov_nil|apply ov_cons));done));(case hu=>repeat (exact Upd.here _ _)))|fail))
    all_goals first
      | (refine v_call (μ1:=[(wb,_),(cb,_)]) (μ2:=_) rfl hwr (PickA.perm (by repeat (first|exact PickA.last|apply PickA.cons))) rfl ?_
         rintro r3 G3 μ3 hle3 ⟨w3,rfl,hw3⟩
         repeat' (first|apply v_region|apply v_nil|apply v_blk|(apply v_pure;(case hop=>first|(apply p_move <;> rfl)|(apply p_add;(case hx=>rfl);(case hy=>rfl);(case h=>omega))|fail);(case hd=>rfl))|fail)
         refine v_only [(wb,_),(cb,_)] (by repeat (exact PickA.here _)) ?_
         first
           | exact v_again rfl ⟨fun b o h=>hle3 b o (hle2 b o h),0 + 1,w3,by omega,rfl,rfl,by rw [e1,← List.append_assoc];exact hw3⟩ (by simp [headI])
           | exact v_again rfl ⟨fun b o h=>hle3 b o (hle2 b o h),1 + 1,w3,by omega,rfl,rfl,by rw [e1,← List.append_assoc];exact hw3⟩ (by simp [headI])
           | exact v_again rfl ⟨fun b o h=>hle3 b o (hle2 b o h),2 + 1,w3,by omega,rfl,rfl,by rw [e1,← List.append_assoc];exact hw3⟩ (by simp [headI])
           | exact v_again rfl ⟨fun b o h=>hle3 b o (hle2 b o h),3 + 1,w3,by omega,rfl,rfl,by rw [e1,← List.append_assoc];exact hw3⟩ (by simp [headI])
           | exact v_again rfl ⟨fun b o h=>hle3 b o (hle2 b o h),4 + 1,w3,by omega,rfl,rfl,by rw [e1,← List.append_assoc];exact hw3⟩ (by simp [headI])
           | exact v_again rfl ⟨fun b o h=>hle3 b o (hle2 b o h),5 + 1,w3,by omega,rfl,rfl,by rw [e1,← List.append_assoc];exact hw3⟩ (by simp [headI]))
      | (refine v_only [(wb,_),(cb,_)] (by repeat (first|exact PickA.last|apply PickA.cons)) ?_
         first
           | exact v_again rfl ⟨hle2,0 + 1,w,by omega,rfl,rfl,by rw [e1];exact hw⟩ (by simp [headI])
           | exact v_again rfl ⟨hle2,1 + 1,w,by omega,rfl,rfl,by rw [e1];exact hw⟩ (by simp [headI])
           | exact v_again rfl ⟨hle2,2 + 1,w,by omega,rfl,rfl,by rw [e1];exact hw⟩ (by simp [headI])
           | exact v_again rfl ⟨hle2,3 + 1,w,by omega,rfl,rfl,by rw [e1];exact hw⟩ (by simp [headI])
           | exact v_again rfl ⟨hle2,4 + 1,w,by omega,rfl,rfl,by rw [e1];exact hw⟩ (by simp [headI])
           | exact v_again rfl ⟨hle2,5 + 1,w,by omega,rfl,rfl,by rw [e1];exact hw⟩ (by simp [headI]))
  · obtain rfl:k = 6:=by omega
    repeat' (first|apply v_seq|apply v_region|apply v_nil|(apply v_exit;(case hp=>rfl))|(apply v_pure;(case hop=>(apply p_lt <;> rfl));(case hd=>rfl))|(apply v_cond;(case hc=>rfl);all_goals (intro h;(try simp only [reduceCtorEq,zzz] at h);first|(exfalso;omega)|skip))|fail)
    refine v_end [(wb,_)] (outsA0 rfl) (by repeat (first|exact List.nil_sublist _|apply List.Sublist.cons_cons)) ?_
    exact ⟨_,rfl,hw⟩
def putL (c:Cm) (k:Nat):List Int:=putW (wantB 1 c.kind) c k
theorem putL_len (c:Cm) (hk:c.key.size ≤ 1000) (hv:c.val.size ≤ 1000) (ho:c.old.size ≤ 1000) (k:Nat):(putL c k).length ≤ 1011 * k:=putW_len _ c hk hv ho k
theorem cput_s {G:GH} {l:List Int} {sv:Value} (c:Cm) (hc:c.ok) (hk:c.key.size ≤ 1000) (hv:c.val.size ≤ 1000) (ho:c.old.size ≤ 1000) (wb:Nat) (hs:Sl G 1 (IntR .u8) sv l) (hl:l.length ≤ 1000) :
    Con Tryz.prog 135 #[.pointer (some ⟨wb,0,none⟩),.int .i64 1,.agg c.cells.toArray] G [(wb,.cells [sv].toArray 130 (0,0))]
      (fun r G' μ'=>∃ v',μ' = [(wb,.cells [v'].toArray 130 (0,0))] ∧ Sl G' 1 (IntR .u8) v' (l ++ vbytes c.kind ++ putL c 6)):=cputV_s 1 c hc hk hv ho wb hs (by omega)
def headL (x:Rc):List Int:=[] ++ vbytes x.kind ++ vbytes x.round ++ vbytes x.node ++ vbytes x.index
def encL (x:Rc):List Int:=if x.kind = 2 ∨ x.kind = 3 then headL x ++ vbytes x.cmd.kind ++ putL x.cmd 6 else if x.kind = 4 then headL x ++ vbytes x.image.length ++ x.image else headL x
theorem headL_len (x:Rc):(headL x).length ≤ 44:=by
  unfold headL
  simp only [List.length_append,List.length_nil]
  have h1:=(vbytes_len x.kind).1
  have h2:=(vbytes_len x.round).1
  have h3:=(vbytes_len x.node).1
  have h4:=(vbytes_len x.index).1
  omega
def EncR (x:Rc) (r:Value) (G':GH) (μ':OH):Prop:=μ' = [] ∧ ∃ v,r = .tuple [v,.int .i64 (olderI x)].toArray ∧ Sl G' 1 (IntR .u8) v (if olderI x = 0 then encL x else [])
theorem encode_s {G:GH} (hT:TabsG G) {x:Rc} {xv:Value} (hx:RcV G x xv) (hc:x.cmd.ok) (hl:¬ x.large) (hw:x.small):Con Tryz.prog 97 #[xv] G [] (EncR x):=by
  have qo:=older_s hT hx hc
  have hhl:=headL_len x
  by_cases h0:olderI x = 0
  rotate_left
  · obtain ⟨iv,rfl,hi⟩:=hx
    unfold EncR
    rw [if_neg h0]
    generalize olderI x = o at *
    (refine v_enter Tryz.func97 rfl Tryz.ntmps97 rfl ?_;intro B _)
    repeat' (first|apply v_seq|apply v_region|apply v_nil|(apply v_pure;(case hop=>first|(apply p_move <;> rfl)|(apply p_ne <;> rfl)|(apply p_assign <;> rfl)|fail);(case hd=>rfl))|(apply v_cond;(case hc=>rfl);all_goals (intro h;(try simp only [reduceCtorEq,zzz] at h);first|(exfalso;omega)|skip))|(apply v_box (zs:=recL x.kind x.round x.node x.index x.cmd iv);(case hx=>rfl);(case hz=>rfl);(case hd=>rfl);intro rb)|(apply v_callJ (hs:=qo);(case ha=>rfl);(case hd=>rfl))|(apply v_read;(case hop=>(apply r_loadNo;(case hx=>rfl);(case h=>(repeat (exact mhd _)));(case hd=>(repeat (first|with_reducible exact dt_nil|apply dt_here)));(case hn=>rfl)));(case hd=>rfl))|fail)
    refine v_ret [] (outsA2 rfl rfl rfl) (by repeat (exact List.nil_sublist _)) ?_
    exact ⟨rfl,_,rfl,Sl.nil⟩
  rw [h0] at qo
  have hk:1 ≤ x.kind ∧ x.kind ≤ 4:=by
    by_cases h:x.kind < 1 ∨ 4 < x.kind
    · have:recI x.kind x.round x.node x.index x.cmd x.image.length = 5:=by rw [recI,if_pos h]
      rw [olderI,this] at h0
      simp at h0
    · omega
  have qf:=fun G'=>rfields_s G' x.kind
  simp only [decide_eq_true hk] at qf
  unfold Rc.large at hl
  unfold EncR
  rw [if_pos h0,h0]
  obtain ⟨hw1,hw2,hw3,hw4⟩:=hw
  obtain ⟨iv,rfl,hi⟩:=hx
  have hiv:=hi
  obtain ⟨A,c,rfl,-⟩:=hi.openInt
  (refine v_enter Tryz.func97 rfl Tryz.ntmps97 rfl ?_;intro B _)
  repeat' (first|apply v_seq|apply v_region|apply v_nil|apply v_skip|(apply v_pure;(case hop=>first|(apply p_move <;> rfl)|(apply p_nes <;> rfl)|(apply p_assign <;> rfl)|(apply p_fieldAddrB <;> rfl)|(apply p_build;(case hz=>rfl);(case hv=>(simp only [List.map_cons,List.map_nil];repeat (with_reducible exact evs_nil)));(case hb=>(apply bldL;repeat (exact bld_nil))))|fail);(case hd=>rfl))|(apply v_condF;(case hc=>rfl))|(apply v_box (zs:=recL x.kind x.round x.node x.index x.cmd (.slice A x.image.length c));(case hx=>rfl);(case hz=>rfl);(case hd=>rfl);intro rb)|(apply v_box (zs:=[.slice none 0 0]);(case hx=>rfl);(case hz=>rfl);(case hd=>rfl);intro wb)|(apply v_callJ (hs:=qo);(case ha=>rfl);(case hd=>rfl))|(apply v_read;(case hop=>first|(apply r_loadNo;(case hx=>rfl);(case h=>(repeat (exact mhd _)));(case hd=>(repeat (first|with_reducible exact dt_nil|apply dt_here)));(case hn=>rfl))|(apply r_load1;rfl;(apply Cell.own;(case h=>(repeat (first|exact mhd _|apply mtl)));rfl))|fail);(case hd=>rfl))|fail)
  refine v_call (μ1:=[(wb,_)]) (μ2:=_) rfl (wnumber_s wb x.kind Sl.nil (by simp) (by omega)) (List.Perm.refl _) rfl ?_
  rintro r1 G1 _ hle1 ⟨v1,rfl,h1⟩
  repeat' (first|apply v_seq|apply v_region|apply v_nil|(apply v_pure;(case hop=>first|(apply p_move <;> rfl)|(apply p_fieldAddrB <;> rfl)|fail);(case hd=>rfl))|(apply v_read;(case hop=>(apply r_load1;rfl;(apply Cell.own;(case h=>(repeat (first|exact mhd _|apply mtl)));rfl)));(case hd=>rfl))|fail)
  refine v_call (μ1:=[(wb,_)]) (μ2:=_) rfl (wnumber_s wb x.round h1 (by have:=(vbytes_len x.kind).1;simp;omega) (by omega)) (List.Perm.refl _) rfl ?_
  rintro r2 G2 _ hle2 ⟨v2,rfl,h2⟩
  repeat' (first|apply v_seq|apply v_region|apply v_nil|(apply v_pure;(case hop=>first|(apply p_move <;> rfl)|(apply p_fieldAddrB <;> rfl)|fail);(case hd=>rfl))|(apply v_read;(case hop=>(apply r_load1;rfl;(apply Cell.own;(case h=>(repeat (first|exact mhd _|apply mtl)));rfl)));(case hd=>rfl))|fail)
  refine v_call (μ1:=[(wb,_)]) (μ2:=_) rfl (wnumber_s wb x.node h2 (by have:=(vbytes_len x.kind).1;have:=(vbytes_len x.round).1;simp;omega) (by omega)) (List.Perm.refl _) rfl ?_
  rintro r3 G3 _ hle3 ⟨v3,rfl,h3⟩
  repeat' (first|apply v_seq|apply v_region|apply v_nil|(apply v_pure;(case hop=>first|(apply p_move <;> rfl)|(apply p_fieldAddrB <;> rfl)|fail);(case hd=>rfl))|(apply v_read;(case hop=>(apply r_load1;rfl;(apply Cell.own;(case h=>(repeat (first|exact mhd _|apply mtl)));rfl)));(case hd=>rfl))|fail)
  refine v_call (μ1:=[(wb,_)]) (μ2:=_) rfl (wnumber_s wb x.index h3 (by have:=(vbytes_len x.kind).1;have:=(vbytes_len x.round).1;have:=(vbytes_len x.node).1;simp;omega) (by omega)) (List.Perm.refl _) rfl ?_
  rintro r4 G4 _ hle4 ⟨v4,rfl,h4⟩
  have hi4:=(((hiv.mono hle1).mono hle2).mono hle3).mono hle4
  have hh4:Sl G4 1 (IntR .u8) v4 (headL x):=h4
  clear h1 h2 h3 h4
  obtain h|h|h|h:x.kind = 1 ∨ x.kind = 2 ∨ x.kind = 3 ∨ x.kind = 4:=by omega
  · have e:hasL x.kind = hasL 1:=by rw [h]
    simp only [e] at qf
    have ee:encL x = headL x:=by rw [encL,if_neg (by omega),if_neg (by omega)]
    rw [ee]
    repeat' (first|apply v_seq|apply v_region|apply v_nil|apply v_skip|apply v_block|apply v_blk|(apply v_pure;(case hop=>first|(apply p_move <;> rfl)|(apply p_assign <;> rfl)|(apply p_fieldAddrB <;> rfl)|(apply p_extract0 <;> rfl)|(apply p_extract1 <;> rfl)|fail);(case hd=>rfl))|(apply v_condF;(case hc=>rfl))|(apply v_callJ (hs:=qf _);(case ha=>rfl);(case hd=>rfl))|(apply v_read;(case hop=>(apply r_load1;rfl;(apply Cell.own;(case h=>(repeat (first|exact mhd _|apply mtl)));rfl)));(case hd=>rfl))|(apply v_alloc;(case hz=>rfl);(case hd=>rfl);intro b)|(apply v_store;(case hp=>rfl);(case hx=>rfl);(case hc=>rfl);(case hsz=>rfl);(case h1=>rfl);(case hb=>(repeat (exact mhd _)));(case hfit=>exact nle rfl);(case hov=>((repeat (first|with_reducible exact ov_nil|apply ov_cons));done));(case hu=>repeat (exact Upd.here _ _)))|fail)
    refine v_call (μ2:=_) rfl (wbytes_s wb hh4 (by omega)) (PickA.perm (by repeat (first|exact PickA.here _|apply PickA.cons))) rfl ?_
    rintro r5 G5 _ hle5 ⟨rfl,h5⟩
    repeat' (first|apply v_nil|(apply v_pure;(case hop=>(apply p_assign <;> rfl));(case hd=>rfl))|fail)
    refine v_ret [] (outsA2 rfl rfl rfl) (by repeat (exact List.nil_sublist _)) ?_
    exact ⟨rfl,_,rfl,h5⟩
  · have e:hasL x.kind = hasL 2:=by rw [h]
    simp only [e] at qf
    have ee:encL x = headL x ++ vbytes x.cmd.kind ++ putL x.cmd 6:=by rw [encL,if_pos (by omega)]
    rw [ee]
    have hlen:(headL x ++ vbytes x.cmd.kind ++ putL x.cmd 6).length ≤ 1048000:=by
      rw [List.length_append,List.length_append]
      have:=(vbytes_len x.cmd.kind).1
      have:=putL_len x.cmd (by omega) (by omega) (by omega) 6
      omega
    repeat' (first|apply v_seq|apply v_region|apply v_nil|apply v_block|(apply v_pure;(case hop=>first|(apply p_move <;> rfl)|(apply p_assign <;> rfl)|(apply p_fieldAddrB <;> rfl)|(apply p_extract0 <;> rfl)|(apply p_extract1 <;> rfl)|fail);(case hd=>rfl))|(apply v_condT;(case hc=>rfl))|(apply v_callJ (hs:=qf _);(case ha=>rfl);(case hd=>rfl))|(apply v_read;(case hop=>first|(apply r_loadNo;(case hx=>rfl);(case h=>(repeat (first|exact mhd _|apply mtl)));(case hd=>(repeat (first|with_reducible exact dt_nil|apply dt_here)));(case hn=>rfl))|(apply r_load1;rfl;(apply Cell.own;(case h=>(repeat (first|exact mhd _|apply mtl)));rfl))|fail);(case hd=>rfl))|(apply v_alloc;(case hz=>rfl);(case hd=>rfl);intro b)|(apply v_store;(case hp=>rfl);(case hx=>rfl);(case hc=>rfl);(case hsz=>rfl);(case h1=>rfl);(case hb=>(repeat (exact mhd _)));(case hfit=>exact nle rfl);(case hov=>((repeat (first|with_reducible exact ov_nil|apply ov_cons));done));(case hu=>repeat (exact Upd.here _ _)))|fail)
    refine v_call (μ1:=[(wb,_)]) (μ2:=_) rfl (cput_s x.cmd hc (by omega) (by omega) (by omega) wb hh4 (by omega)) (PickA.perm (by repeat (first|exact PickA.here _|apply PickA.cons))) rfl ?_
    rintro r5 G5 _ hle5 ⟨v5,rfl,h5⟩
    repeat' (first|apply v_seq|apply v_region|apply v_nil|apply v_blk|(apply v_pure;(case hop=>(apply p_move <;> rfl));(case hd=>rfl))|fail)
    refine v_call (μ2:=_) rfl (wbytes_s wb h5 hlen) (PickA.perm (by repeat (exact PickA.here _))) rfl ?_
    rintro r6 G6 _ hle6 ⟨rfl,h6⟩
    repeat' (first|apply v_nil|(apply v_pure;(case hop=>(apply p_assign <;> rfl));(case hd=>rfl))|fail)
    refine v_ret [] (outsA2 rfl rfl rfl) (by repeat (exact List.nil_sublist _)) ?_
    exact ⟨rfl,_,rfl,h6⟩
  · have e:hasL x.kind = hasL 3:=by rw [h]
    simp only [e] at qf
    have ee:encL x = headL x ++ vbytes x.cmd.kind ++ putL x.cmd 6:=by rw [encL,if_pos (by omega)]
    rw [ee]
    have hlen:(headL x ++ vbytes x.cmd.kind ++ putL x.cmd 6).length ≤ 1048000:=by
      rw [List.length_append,List.length_append]
      have:=(vbytes_len x.cmd.kind).1
      have:=putL_len x.cmd (by omega) (by omega) (by omega) 6
      omega
    repeat' (first|apply v_seq|apply v_region|apply v_nil|apply v_block|(apply v_pure;(case hop=>first|(apply p_move <;> rfl)|(apply p_assign <;> rfl)|(apply p_fieldAddrB <;> rfl)|(apply p_extract0 <;> rfl)|(apply p_extract1 <;> rfl)|fail);(case hd=>rfl))|(apply v_condT;(case hc=>rfl))|(apply v_callJ (hs:=qf _);(case ha=>rfl);(case hd=>rfl))|(apply v_read;(case hop=>first|(apply r_loadNo;(case hx=>rfl);(case h=>(repeat (first|exact mhd _|apply mtl)));(case hd=>(repeat (first|with_reducible exact dt_nil|apply dt_here)));(case hn=>rfl))|(apply r_load1;rfl;(apply Cell.own;(case h=>(repeat (first|exact mhd _|apply mtl)));rfl))|fail);(case hd=>rfl))|(apply v_alloc;(case hz=>rfl);(case hd=>rfl);intro b)|(apply v_store;(case hp=>rfl);(case hx=>rfl);(case hc=>rfl);(case hsz=>rfl);(case h1=>rfl);(case hb=>(repeat (exact mhd _)));(case hfit=>exact nle rfl);(case hov=>((repeat (first|with_reducible exact ov_nil|apply ov_cons));done));(case hu=>repeat (exact Upd.here _ _)))|fail)
    refine v_call (μ1:=[(wb,_)]) (μ2:=_) rfl (cput_s x.cmd hc (by omega) (by omega) (by omega) wb hh4 (by omega)) (PickA.perm (by repeat (first|exact PickA.here _|apply PickA.cons))) rfl ?_
    rintro r5 G5 _ hle5 ⟨v5,rfl,h5⟩
    repeat' (first|apply v_seq|apply v_region|apply v_nil|apply v_blk|(apply v_pure;(case hop=>(apply p_move <;> rfl));(case hd=>rfl))|fail)
    refine v_call (μ2:=_) rfl (wbytes_s wb h5 hlen) (PickA.perm (by repeat (exact PickA.here _))) rfl ?_
    rintro r6 G6 _ hle6 ⟨rfl,h6⟩
    repeat' (first|apply v_nil|(apply v_pure;(case hop=>(apply p_assign <;> rfl));(case hd=>rfl))|fail)
    refine v_ret [] (outsA2 rfl rfl rfl) (by repeat (exact List.nil_sublist _)) ?_
    exact ⟨rfl,_,rfl,h6⟩
  · have e:hasL x.kind = hasL 4:=by rw [h]
    simp only [e] at qf
    have ee:encL x = headL x ++ vbytes x.image.length ++ x.image:=by rw [encL,if_neg (by omega),if_pos (by omega)]
    rw [ee]
    have hlen:(headL x ++ vbytes x.image.length ++ x.image).length ≤ 1048000:=by
      rw [List.length_append,List.length_append]
      have:=(vbytes_len (x.image.length:Nat)).1
      omega
    repeat' (first|apply v_seq|apply v_region|apply v_nil|apply v_block|(apply v_pure;(case hop=>first|(apply p_move <;> rfl)|(apply p_assign <;> rfl)|(apply p_fieldAddrB <;> rfl)|(apply p_extract0 <;> rfl)|(apply p_extract1 <;> rfl)|fail);(case hd=>rfl))|(apply v_condT;(case hc=>rfl))|(apply v_condF;(case hc=>rfl))|(apply v_callJ (hs:=qf _);(case ha=>rfl);(case hd=>rfl))|(apply v_read;(case hop=>(apply r_load1;rfl;(apply Cell.own;(case h=>(repeat (first|exact mhd _|apply mtl)));rfl)));(case hd=>rfl))|(apply v_alloc;(case hz=>rfl);(case hd=>rfl);intro b)|(apply v_store;(case hp=>rfl);(case hx=>rfl);(case hc=>rfl);(case hsz=>rfl);(case h1=>rfl);(case hb=>(repeat (exact mhd _)));(case hfit=>exact nle rfl);(case hov=>((repeat (first|with_reducible exact ov_nil|apply ov_cons));done));(case hu=>repeat (exact Upd.here _ _)))|fail)
    refine v_call (μ1:=[(wb,_)]) (μ2:=_) rfl (wraw_s wb hh4 hi4 (by omega) (by omega)) (PickA.perm (by repeat (first|exact PickA.here _|apply PickA.cons))) rfl ?_
    rintro r5 G5 _ hle5 ⟨v5,rfl,h5⟩
    repeat' (first|apply v_seq|apply v_region|apply v_nil|apply v_blk|(apply v_pure;(case hop=>(apply p_move <;> rfl));(case hd=>rfl))|fail)
    refine v_call (μ2:=_) rfl (wbytes_s wb h5 hlen) (PickA.perm (by repeat (exact PickA.here _))) rfl ?_
    rintro r6 G6 _ hle6 ⟨rfl,h6⟩
    repeat' (first|apply v_nil|(apply v_pure;(case hop=>(apply p_assign <;> rfl));(case hd=>rfl))|fail)
    refine v_ret [] (outsA2 rfl rfl rfl) (by repeat (exact List.nil_sublist _)) ?_
    exact ⟨rfl,_,rfl,h6⟩
def CmR (c:Cm) (cs:List Value):Prop:=cs = c.cells ∧ c.ok
theorem el_cm {H:Type} {enc:TypeId × Value → H} {W:World}:Elem enc Tryz.prog W 40 CmR:=by
  intro fuel cs x hf
  have h1:=el_flen (n:=7) Tryz.underlying40 (by kernel_rfl) hf
  obtain ⟨a0,h0,w0⟩:=el_fld (i:=0) (sz:=1) (by kernel_rfl) (el_int Tryz.underlying3) hf
  obtain ⟨a1,e1,w1⟩:=el_fld (i:=1) (sz:=1) (by kernel_rfl) (el_int Tryz.underlying3) hf
  obtain ⟨a2,e2,w2⟩:=el_fld (i:=2) (sz:=1) (by kernel_rfl) (el_int Tryz.underlying3) hf
  obtain ⟨a3,e3,w3⟩:=el_fld (i:=3) (sz:=1) (by kernel_rfl) (el_string Tryz.underlying9) hf
  obtain ⟨a4,e4,w4⟩:=el_fld (i:=4) (sz:=1) (by kernel_rfl) (el_string Tryz.underlying9) hf
  obtain ⟨a5,e5,w5⟩:=el_fld (i:=5) (sz:=1) (by kernel_rfl) (el_string Tryz.underlying9) hf
  obtain ⟨a6,e6,w6⟩:=el_fld (i:=6) (sz:=1) (by kernel_rfl) (el_int Tryz.underlying3) hf
  match cs,h1 with
  | [c0,c1,c2,c3,c4,c5,c6],_ =>
    simp only [List.drop_succ_cons,List.drop_zero,List.take_succ_cons,List.take_zero,List.cons.injEq,and_true] at h0 e1 e2 e3 e4 e5 e6
    exact ⟨⟨a0,a1,a2,a3,a4,a5,a6⟩,by rw [h0,e1,e2,e3,e4,e5,e6];rfl,w0,w1,w2,w3,w4,w5,w6⟩
theorem el_rcb {H:Type} {enc:TypeId × Value → H} {W:World} {fuel:Nat} {cs:List Value} {x:DataW H × List MemPlace} (hf:DataW.trod enc Tryz.prog W 0 (fun _=>true) true fuel 42 cs = some x):∃ y:Rc,RcV (ghost W) y (.agg cs.toArray) ∧ y.cmd.ok ∧ y.small:=by
  have h1:=el_flen (n:=12) Tryz.underlying42 (by kernel_rfl) hf
  have top:∀ {n:Int},(Lit.int .i64 n).wf = true → n ≤ 9223372036854775807:=fun {n} h=>by
    simp [Lit.wf,IntKind.min,IntKind.max,IntKind.signed,IntKind.bits] at h
    omega
  obtain ⟨k,hk,wk⟩:=el_fld (i:=0) (sz:=1) (by kernel_rfl) (el_int Tryz.underlying3) hf
  have hb:Elem enc Tryz.prog W 23 (fun (p:Int × Int) cs=>cs = [.int .i64 p.1,.int .i64 p.2] ∧ (Lit.int .i64 p.1).wf = true ∧ (Lit.int .i64 p.2).wf = true):=by
    intro fuel cs x hf
    have h1:=el_flen (n:=2) Tryz.underlying23 (by kernel_rfl) hf
    obtain ⟨a,ha,wa⟩:=el_fld (i:=0) (sz:=1) (by kernel_rfl) (el_int Tryz.underlying3) hf
    obtain ⟨b,hb,wb⟩:=el_fld (i:=1) (sz:=1) (by kernel_rfl) (el_int Tryz.underlying3) hf
    match cs,h1 with
    | [c0,c1],_ =>
      simp only [List.drop_succ_cons,List.drop_zero,List.take_succ_cons,List.take_zero,List.cons.injEq,and_true] at ha hb
      exact ⟨(a,b),by rw [ha,hb],wa,wb⟩
  obtain ⟨⟨r,n⟩,hr,wr,wn⟩:=el_fld (i:=1) (sz:=2) (by kernel_rfl) hb hf
  obtain ⟨i,hi,wi⟩:=el_fld (i:=2) (sz:=1) (by kernel_rfl) (el_int Tryz.underlying3) hf
  obtain ⟨c,hc,ho⟩:=el_fld (i:=3) (sz:=7) (by kernel_rfl) el_cm hf
  obtain ⟨im,v,hv,hl⟩:=el_fld (i:=4) (sz:=1) (by kernel_rfl) (el_slice (sz:=1) Tryz.underlying24 (by kernel_rfl) (el_int Tryz.underlying5)) hf
  match cs,h1 with
  | [c0,c1,c2,c3,c4,c5,c6,c7,c8,c9,c10,c11],_ =>
    simp only [Cm.cells,List.drop_succ_cons,List.drop_zero,List.take_succ_cons,List.take_zero,List.cons.injEq,and_true] at hk hr hi hc hv
    obtain ⟨rfl,rfl⟩:=hr
    obtain ⟨rfl,rfl,rfl,rfl,rfl,rfl,rfl⟩:=hc
    subst hk;subst hi;subst hv
    exact ⟨⟨k,r,n,i,c,im⟩,⟨_,rfl,hl⟩,ho,top wk,top wr,top wn,top wi⟩
theorem firstEq:(Rows.laid_unicode_utf8_first:DataW Unit) = Lib.firstData:=by kernel_rfl
theorem acceptEq:(Rows.laid_unicode_utf8_acceptRanges:DataW Unit) = Lib.acceptData:=by kernel_rfl
def byteS (s:Option (List Int)):Prop := ∀ r,s = some r → ∀ x ∈ r,0 ≤ x ∧ x ≤ 255
theorem numV_b {s:Option (List Int)} (h:byteS s) (most:Int):0 ≤ numV most s ∧ numV most s ≤ 9223372036854775807:=by
  unfold numV
  cases s with
  | none=>simp
  | some r =>
    simp only
    cases hd:dvk 0 r with
    | none=>simp
    | some p =>
      have:=vbytes_dvk (m:=p.1) (r':=p.2) (h r rfl) hd
      simp only
      split <;> omega
theorem dvk_sub {r:List Int} {m:Int} {r':List Int} (h:dvk 0 r = some (m,r')):∀ x ∈ r',x ∈ r:=fun x hx=>by
  obtain ⟨-,h2⟩:=dvk_len r 0 m r' h
  rw [h2] at hx
  exact List.mem_of_mem_drop hx
theorem numS_b {s:Option (List Int)} (h:byteS s) (most:Int):byteS (numS most s):=by
  unfold numS
  cases s with
  | none=>exact h
  | some r =>
    simp only
    cases hd:dvk 0 r with
    | none=>intro r h;cases h
    | some p =>
      simp only
      split
      · intro r h;cases h
      · intro r2 h2 x hx
        cases h2
        exact h r rfl x (dvk_sub (m:=p.1) (r':=p.2) hd x hx)
theorem rawS_b {s:Option (List Int)} (h:byteS s) (most:Int):byteS (rawS most s):=by
  unfold rawS
  cases s with
  | none=>exact h
  | some r =>
    simp only
    cases hd:dvk 0 r with
    | none=>intro r h;cases h
    | some p =>
      simp only
      split
      · intro r h;cases h
      · intro r2 h2 x hx
        cases h2
        exact h r rfl x (dvk_sub (m:=p.1) (r':=p.2) hd x (List.mem_of_mem_drop hx))
theorem rawB_len (s:Option (List Int)) (most:Nat):(rawB most s).length ≤ most:=by
  unfold rawB
  cases s with
  | none=>simp
  | some r =>
    simp only
    cases hd:dvk 0 r with
    | none=>simp
    | some p =>
      simp only
      split
      · simp
      · rw [List.length_take];omega
theorem txt_len (s:Option (List Int)):(strL (rawB 1048576 s)).size ≤ maxLen:=by
  rw [strL_size]
  have:=rawB_len s 1048576
  simp only [maxLen]
  exact Nat.le_trans this (by decide)
abbrev nV (s:Option (List Int)):Int:=numV 9223372036854775807 s
abbrev nS (s:Option (List Int)):Option (List Int):=numS 9223372036854775807 s
theorem num_v {m:Int} (r:List Int) (h0:0 ≤ m) (h1:m ≤ 9223372036854775807):nV (some (vbytes m ++ r)) = m ∧ nS (some (vbytes m ++ r)) = some r:=by
  simp only [nV,nS,numV,numS,dvk_vbytes r h0 h1]
  rw [if_neg (by omega),if_neg (by omega)]
  exact ⟨rfl,rfl⟩
theorem raw_v {most:Int} (bl r:List Int) (h:(bl.length:Int) ≤ most) (hm:bl.length ≤ 1048576):rawB most (some (vbytes bl.length ++ bl ++ r)) = bl ∧ rawS most (some (vbytes bl.length ++ bl ++ r)) = some r:=by
  rw [List.append_assoc]
  simp only [rawB,rawS,dvk_vbytes (m:=bl.length) (bl ++ r) (by omega) (by omega),List.length_append]
  have e:¬ (most < (bl.length:Int) ∨ ((bl.length + r.length:Nat):Int) < bl.length):=by omega
  rw [if_neg e,if_neg e]
  simp
theorem num_inv {s:Option (List Int)} (hb:byteS s) {r':List Int} (h:nS s = some r'):s = some (vbytes (nV s) ++ r'):=by
  cases s with
  | none=>cases h
  | some r =>
    simp only [nS,nV,numS,numV] at h ⊢
    cases hd:dvk 0 r with
    | none=>rw [hd] at h;cases h
    | some p =>
      rw [hd] at h
      have:=vbytes_dvk (m:=p.1) (r':=p.2) (hb r rfl) hd
      simp only at h ⊢
      rw [if_neg (by omega)] at h ⊢
      cases h
      rw [← this.2.2]
theorem raw_inv {s:Option (List Int)} (hb:byteS s) {most:Int} {r':List Int} (h:rawS most s = some r'):s = some (vbytes (rawB most s).length ++ rawB most s ++ r'):=by
  cases s with
  | none=>cases h
  | some r =>
    simp only [rawS,rawB] at h ⊢
    cases hd:dvk 0 r with
    | none=>rw [hd] at h;cases h
    | some p =>
      rw [hd] at h
      have:=vbytes_dvk (m:=p.1) (r':=p.2) (hb r rfl) hd
      simp only at h ⊢
      by_cases hc:most < p.1 ∨ (p.2.length:Int) < p.1
      · rw [if_pos hc] at h;cases h
      · rw [if_neg hc] at h ⊢
        cases h
        have e:((p.2.take p.1.toNat).length:Int) = p.1:=by rw [List.length_take];omega
        rw [e,List.append_assoc,List.take_append_drop,← this.2.2]
theorem raw_byte {s:Option (List Int)} (hb:byteS s) (most:Int):∀ x ∈ rawB most s,0 ≤ x ∧ x ≤ 255:=by
  intro x hx
  cases s with
  | none=>cases hx
  | some r =>
    simp only [rawB] at hx
    cases hd:dvk 0 r with
    | none=>rw [hd] at hx;cases hx
    | some p =>
      rw [hd] at hx
      simp only at hx
      split at hx
      · cases hx
      · exact hb r rfl x (dvk_sub (m:=p.1) (r':=p.2) hd x (List.mem_of_mem_take hx))
def zeroC:Cm:=⟨0,0,0,.empty,.empty,.empty,0⟩
theorem setP_kind (c:Cm) (j:Nat) (s:Option (List Int)):(c.setP j s).kind = c.kind:=by unfold Cm.setP;split <;> rfl
def getW (w:Nat → Bool) (s:Option (List Int)):Nat → Cm × Option (List Int)
  | 0=>({ zeroC with kind:=numV 9223372036854775807 s },numS 9223372036854775807 s)
  | k + 1=>if w k then ((getW w s k).1.setP k (getW w s k).2,partS k (getW w s k).2) else getW w s k
theorem getW_kind (w:Nat → Bool) (s:Option (List Int)):∀ k,(getW w s k).1.kind = numV 9223372036854775807 s
  | 0=>rfl
  | k + 1=>by
    rw [getW]
    split
    · rw [setP_kind];exact getW_kind w s k
    · exact getW_kind w s k
theorem cgetV_s {G:GH} {l:List Int} {bv:Value} {s:Option (List Int)} (v:Int) (rb a:Nat) (no:Int) (hs:Sl G 1 (IntR .u8) bv l) (hl:l.length ≤ 1048576) (hr:RdS l a no s) :
    Con Tryz.prog 176 #[.pointer (some ⟨rb,0,none⟩),.int .i64 v] G [(rb,rdO bv a no)]
      (fun r G' μ'=>r = .agg (getW (wantB v (nV s)) s 6).1.cells.toArray ∧ ∃ a' no',μ' = [(rb,rdO bv (a':Nat) no')] ∧ RdS l a' no' (getW (wantB v (nV s)) s 6).2):=by
  have qn:=rdNumber_s rb a no 9223372036854775807 hs hl hr
  have hk0:=getW_kind (wantB v (nV s)) s
  have e0:getW (wantB v (nV s)) s 0 = ({ zeroC with kind:=numV 9223372036854775807 s },numS 9223372036854775807 s):=rfl
  unfold nV at *
  generalize numV 9223372036854775807 s = kd at *
  generalize hw:wantB v kd = wf at *
  (refine v_enter Tryz.func176 rfl Tryz.ntmps176 rfl ?_;intro B _)
  repeat' (first|apply v_seq|apply v_region|apply v_nil|(apply v_pure;(case hop=>(apply p_move <;> rfl));(case hd=>rfl))|(apply v_alloc;(case hz=>rfl);(case hd=>rfl);intro b)|fail)
  rename Nat=>ob
  refine v_call (μ1:=[(rb,_)]) (μ2:=_) rfl qn (PickA.perm (by repeat (first|exact PickA.last|apply PickA.cons))) rfl ?_
  rintro _ _ _ hle0 ⟨rfl,rfl,a0,no0,rfl,hr0⟩
  repeat' (first|apply v_seq|apply v_region|apply v_nil|(apply v_pure;(case hop=>(apply p_build;(case hz=>rfl);(case hv=>(simp only [List.map_cons,List.map_nil];repeat (first|with_reducible exact evs_nil|(apply evs_cons;(case h1=>rfl)))));(case hb=>(apply bldL;repeat (first|exact bld_nil|(apply bld_cons;(case hpf=>rfl);(case hc=>rfl);(case hs=>rfl);(case hl=>rfl);(case ho=>((repeat (first|with_reducible exact ov_nil|apply ov_cons));done))))))));(case hd=>rfl))|(apply v_alloc;(case hz=>rfl);(case hd=>rfl);intro b)|(apply v_store;(case hp=>rfl);(case hx=>rfl);(case hc=>rfl);(case hsz=>rfl);(case h1=>rfl);(case hb=>(repeat (exact mhd _)));(case hfit=>exact nle rfl);(case hov=>((repeat (first|with_reducible exact ov_nil|apply ov_cons));done));(case hu=>repeat (exact Upd.here _ _)))|fail)
  rename Nat=>cb
  refine v_call (μ1:=[]) (μ2:=_) rfl (parts_s _) (List.Perm.refl _) rfl ?_
  rintro r G' μ1 - ⟨rfl,pb,rfl,rfl⟩
  refine v_frz [(pb,_)] (by repeat (exact PickA.here _)) ?_
  intro G1 hle1 hG1
  have hpb:=hG1 pb _ (List.Mem.head _)
  repeat' (first|apply v_nil|apply v_block|(apply v_pure;(case hop=>first|(apply p_move <;> rfl)|(apply p_lenSlice <;> rfl)|fail);(case hd=>rfl))|fail)
  refine v_perm (ν:=[(rb,rdO bv a0 no0),(cb,.cells ({ zeroC with kind:=kd }:Cm).cells.toArray 40 (0,0)),(ob,.cells zeroC.cells.toArray 40 (0,0))]) (by apply perm_of_count;intro p;simp only [List.append_eq,List.countP_append,List.countP_cons,List.countP_nil,Nat.zero_add,Nat.add_zero];try ac_rfl) ?_
  refine v_loop [13,12,11,0,1,5,4] (fun us G' μ'=>GH.le G1 G' ∧ ∃ (k a':Nat) (no':Int),k ≤ 6 ∧ us = [Value.int .i64 (k:Int),.int .i64 6,.slice (some ⟨pb,0,none⟩) 6 6,.pointer (some ⟨rb,0,none⟩),.int .i64 v,.pointer (some ⟨cb,0,none⟩),.pointer (some ⟨ob,0,none⟩)] ∧ μ' = [(rb,rdO bv a' no'),(cb,.cells (getW wf s k).1.cells.toArray 40 (0,0)),(ob,.cells zeroC.cells.toArray 40 (0,0))] ∧ RdS l a' no' (getW wf s k).2) (fun us=>7 - (headI us).toNat) rfl ⟨GH.le_refl _,0,a0,no0,by omega,rfl,by rw [e0],by rw [e0];exact hr0⟩ ?_
  rintro us G2 μ' ⟨hle2,k,a2,no2,hk6,rfl,rfl,hr2⟩
  by_cases hlt:k < 6
  · have hpk:=partsG (hle2 _ _ hpb) hlt
    have hwt:=wantedV_s G2 v kd k hlt
    rw [hw] at hwt
    have hrd:=read_s (getW wf s k).1 rb cb a2 k no2 hlt ((hs.mono hle1).mono hle2) hl hr2
    have e1:getW wf s (k + 1) = if wf k then ((getW wf s k).1.setP k (getW wf s k).2,partS k (getW wf s k).2) else getW wf s k:=rfl
    have ek:=hk0 k
    generalize getW wf s k = gk at *
    obtain ⟨gc,gs⟩:=gk
    simp only at ek
    subst ek
    cases hwb:wf k
    all_goals
      rw [hwb] at hwt e1
      obtain rfl|rfl|rfl|rfl|rfl|rfl:k = 0 ∨ k = 1 ∨ k = 2 ∨ k = 3 ∨ k = 4 ∨ k = 5:=by omega
    all_goals
      (simp only [if_true,if_false,Bool.false_eq_true] at e1
       repeat' (first|apply v_seq|apply v_region|apply v_nil|apply v_skip|apply v_block|apply v_blk|(apply v_pure;(case hop=>first|(apply p_move <;> rfl)|(apply p_lt <;> rfl)|(apply p_fieldAddrB <;> rfl)|(apply p_add;(case hx=>rfl);(case hy=>rfl);(case h=>omega))|(apply p_indexAddr;(case hx=>rfl);(case hi=>rfl);(case h0=>omega);(case h=>omega))|fail);(case hd=>rfl))|(apply v_condT;(case hc=>rfl))|(apply v_condF;(case hc=>rfl))|(apply v_cond;(case hc=>rfl);all_goals (intro h;(try simp only [reduceCtorEq,zzz] at h);first|(exfalso;omega)|skip))|(apply v_read;(case hop=>(apply r_loadN;rfl;exact CellsAt.frozen hpk;rfl));(case hd=>rfl))|(apply v_callJ (hs:=hwt);(case ha=>rfl);(case hd=>rfl))|(apply v_read;(case hop=>first|(apply r_loadNo;(case hx=>rfl);(case h=>(repeat (exact mhd _)));(case hd=>(repeat (first|with_reducible exact dt_nil|apply dt_here)));(case hn=>rfl))|(apply r_load1;rfl;(apply Cell.own;(case h=>(repeat (first|exact mhd _|apply mtl)));rfl))|fail);(case hd=>rfl))|(apply v_alloc;(case hz=>rfl);(case hd=>rfl);intro b)|(apply v_store;(case hp=>rfl);(case hx=>rfl);(case hc=>rfl);(case hsz=>rfl);(case h1=>rfl);(case hb=>(repeat (exact mhd _)));(case hfit=>exact nle rfl);(case hov=>((repeat (first|with_reducible exact ov_nil|apply ov_cons));done));(case hu=>repeat (exact Upd.here _ _)))|fail))
    all_goals first
      | (refine v_call (μ1:=[(rb,_),(cb,_)]) (μ2:=_) rfl hrd (PickA.perm (by repeat (first|exact PickA.last|exact PickA.here _|apply PickA.cons))) rfl ?_
         rintro r3 G3 _ hle3 ⟨a3,no3,rfl,hr3⟩
         repeat' (first|apply v_region|apply v_nil|apply v_blk|(apply v_pure;(case hop=>first|(apply p_move <;> rfl)|(apply p_add;(case hx=>rfl);(case hy=>rfl);(case h=>omega))|fail);(case hd=>rfl))|fail)
         refine v_drop (ν:=[(rb,_),(cb,_),(ob,_)]) (by repeat (first|exact List.Sublist.refl _|apply List.Sublist.cons_cons|apply List.Sublist.cons)) ?_
         first
           | exact v_again rfl ⟨fun b o h=>hle3 b o (hle2 b o h),0 + 1,a3,no3,by omega,rfl,by rw [e1],by rw [e1];exact hr3⟩ (by simp [headI])
           | exact v_again rfl ⟨fun b o h=>hle3 b o (hle2 b o h),1 + 1,a3,no3,by omega,rfl,by rw [e1],by rw [e1];exact hr3⟩ (by simp [headI])
           | exact v_again rfl ⟨fun b o h=>hle3 b o (hle2 b o h),2 + 1,a3,no3,by omega,rfl,by rw [e1],by rw [e1];exact hr3⟩ (by simp [headI])
           | exact v_again rfl ⟨fun b o h=>hle3 b o (hle2 b o h),3 + 1,a3,no3,by omega,rfl,by rw [e1],by rw [e1];exact hr3⟩ (by simp [headI])
           | exact v_again rfl ⟨fun b o h=>hle3 b o (hle2 b o h),4 + 1,a3,no3,by omega,rfl,by rw [e1],by rw [e1];exact hr3⟩ (by simp [headI])
           | exact v_again rfl ⟨fun b o h=>hle3 b o (hle2 b o h),5 + 1,a3,no3,by omega,rfl,by rw [e1],by rw [e1];exact hr3⟩ (by simp [headI]))
      | (refine v_drop (ν:=[(rb,_),(cb,_),(ob,_)]) (by repeat (first|exact List.Sublist.refl _|apply List.Sublist.cons)) ?_
         first
           | exact v_again rfl ⟨hle2,0 + 1,a2,no2,by omega,rfl,by rw [e1],by rw [e1];exact hr2⟩ (by simp [headI])
           | exact v_again rfl ⟨hle2,1 + 1,a2,no2,by omega,rfl,by rw [e1],by rw [e1];exact hr2⟩ (by simp [headI])
           | exact v_again rfl ⟨hle2,2 + 1,a2,no2,by omega,rfl,by rw [e1],by rw [e1];exact hr2⟩ (by simp [headI])
           | exact v_again rfl ⟨hle2,3 + 1,a2,no2,by omega,rfl,by rw [e1],by rw [e1];exact hr2⟩ (by simp [headI])
           | exact v_again rfl ⟨hle2,4 + 1,a2,no2,by omega,rfl,by rw [e1],by rw [e1];exact hr2⟩ (by simp [headI])
           | exact v_again rfl ⟨hle2,5 + 1,a2,no2,by omega,rfl,by rw [e1],by rw [e1];exact hr2⟩ (by simp [headI]))
  · obtain rfl:k = 6:=by omega
    repeat' (first|apply v_seq|apply v_region|apply v_nil|(apply v_exit;(case hp=>rfl))|(apply v_pure;(case hop=>(apply p_lt <;> rfl));(case hd=>rfl))|(apply v_cond;(case hc=>rfl);all_goals (intro h;(try simp only [reduceCtorEq,zzz] at h);first|(exfalso;omega)|skip))|(apply v_read;(case hop=>(apply r_loadNo;(case hx=>rfl);(case h=>(repeat (first|exact mhd _|apply mtl)));(case hd=>(repeat (first|with_reducible exact dt_nil|apply dt_here)));(case hn=>rfl)));(case hd=>rfl))|(apply v_store;(case hp=>rfl);(case hx=>rfl);(case hc=>rfl);(case hsz=>rfl);(case h1=>rfl);(case hb=>(repeat (first|exact mhd _|apply mtl)));(case hfit=>exact nle rfl);(case hov=>((repeat (first|with_reducible exact ov_nil|apply ov_cons));done));(case hu=>repeat (first|exact Upd.here _ _|apply Upd.there)))|fail)
    refine v_retM [(rb,_)] (outsM_cell (vs:=(getW wf s 6).1.cells) (e:=40) rfl rfl ?_ rfl) (by repeat (first|exact List.nil_sublist _|apply List.Sublist.cons_cons)) ?_
    · exact .tail _ (.tail _ (.head _))
    · exact ⟨rfl,a2,no2,rfl,hr2⟩
abbrev getK (s:Option (List Int)) (k:Nat):Cm × Option (List Int):=getW (wantB 1 (nV s)) s k
theorem partS_b {s:Option (List Int)} (h:byteS s) (j:Nat):byteS (partS j s):=by
  unfold partS
  split
  · exact numS_b h _
  · exact rawS_b h _
theorem setP_ok {c:Cm} (hc:c.ok) {s:Option (List Int)} (h:byteS s) (j:Nat):(c.setP j s).ok:=by
  obtain ⟨h1,h2,h3,h4,h5,h6,h7⟩:=hc
  have hn:=wf64 (numV_b h 9223372036854775807)
  have ht:=txt_len s
  unfold Cm.setP
  split <;> exact ⟨by assumption,by assumption,by assumption,by assumption,by assumption,by assumption,by assumption⟩
theorem zeroC_ok:zeroC.ok:=⟨by decide,by decide,by decide,by decide,by decide,by decide,by decide⟩
theorem getW_ok (w:Nat → Bool) {s:Option (List Int)} (h:byteS s):∀ k,(getW w s k).1.ok ∧ byteS (getW w s k).2
  | 0=>⟨⟨wf64 (numV_b h _),zeroC_ok.2⟩,numS_b h _⟩
  | k + 1=>by
    obtain ⟨h1,h2⟩:=getW_ok w h k
    rw [getW]
    split
    · exact ⟨setP_ok h1 h2 k,partS_b h2 k⟩
    · exact ⟨h1,h2⟩
theorem part_num {c:Cm} {j:Nat} (hj:isNum j = true) (h0:0 ≤ c.num j) (h1:c.num j ≤ 9223372036854775807) (r:List Int):partS j (some (pbytes c j ++ r)) = some r ∧ nV (some (pbytes c j ++ r)) = c.num j:=by
  have:=num_v r h0 h1
  unfold partS pbytes
  rw [if_pos hj,if_pos hj]
  exact ⟨this.2,this.1⟩
theorem part_txt {c:Cm} {j:Nat} (hj:isNum j = false) (h1:(c.txt j).size ≤ 1000) (r:List Int):partS j (some (pbytes c j ++ r)) = some r ∧ strL (rawB 1048576 (some (pbytes c j ++ r))) = c.txt j:=by
  have:=raw_v (most:=1048576) (sbytes (c.txt j)) r (by rw [sbytes_length];omega) (by rw [sbytes_length];omega)
  rw [sbytes_length] at this
  unfold partS pbytes
  rw [if_neg (by rw [hj];decide),if_neg (by rw [hj];decide),this.1,this.2,strL_sbytes]
  exact ⟨rfl,rfl⟩
def cutC (c:Cm) (k:Nat):Cm:=⟨c.kind,if 0 < k then c.client else 0,if 1 < k then c.seq else 0,if 2 < k then c.key else .empty,if 4 < k then c.val else .empty,if 3 < k then c.old else .empty,if 5 < k then c.node else 0⟩
def fitP (w:Nat → Bool) (c:Cm) (k:Nat):Prop:=if isNum k then (w k = false → c.num k = 0) ∧ 0 ≤ c.num k ∧ c.num k ≤ 9223372036854775807 else (w k = false → c.txt k = .empty) ∧ (c.txt k).size ≤ 1000
theorem cut_step {w:Nat → Bool} {c:Cm} {k:Nat} (hk:k < 6) (hf:fitP w c k) {s:Option (List Int)} {t:List Int} (h:getW w s k = (cutC c k,some ((if w k then pbytes c k else []) ++ t))):getW w s (k + 1) = (cutC c (k + 1),some t):=by
  rw [getW,h]
  unfold fitP at hf
  cases hw:w k
  · rw [hw] at hf
    simp only [if_false,Bool.false_eq_true,List.nil_append,Prod.mk.injEq,and_true]
    obtain rfl|rfl|rfl|rfl|rfl|rfl:k = 0 ∨ k = 1 ∨ k = 2 ∨ k = 3 ∨ k = 4 ∨ k = 5:=by omega
    all_goals
      (simp [isNum,Cm.num,Cm.txt] at hf
       simp [cutC,hf])
  · rw [hw] at hf
    simp only [if_true]
    obtain rfl|rfl|rfl|rfl|rfl|rfl:k = 0 ∨ k = 1 ∨ k = 2 ∨ k = 3 ∨ k = 4 ∨ k = 5:=by omega
    · have:=part_num (c:=c) (j:=0) rfl hf.2.1 hf.2.2 t
      rw [this.1];simp only [Cm.setP,this.2,cutC];rfl
    · have:=part_num (c:=c) (j:=1) rfl hf.2.1 hf.2.2 t
      rw [this.1];simp only [Cm.setP,this.2,cutC];rfl
    · have:=part_txt (c:=c) (j:=2) rfl hf.2 t
      rw [this.1];simp only [Cm.setP,this.2,cutC];rfl
    · have:=part_txt (c:=c) (j:=3) rfl hf.2 t
      rw [this.1];simp only [Cm.setP,this.2,cutC];rfl
    · have:=part_txt (c:=c) (j:=4) rfl hf.2 t
      rw [this.1];simp only [Cm.setP,this.2,cutC];rfl
    · have:=part_num (c:=c) (j:=5) rfl hf.2.1 hf.2.2 t
      rw [this.1];simp only [Cm.setP,this.2,cutC];rfl
theorem getW_put {w:Nat → Bool} {c:Cm} (hk:0 ≤ c.kind ∧ c.kind ≤ 9223372036854775807) (hf:∀ k < 6,fitP w c k) (r:List Int):getW w (some (vbytes c.kind ++ putW w c 6 ++ r)) 6 = (c,some r):=by
  have e:vbytes c.kind ++ putW w c 6 ++ r = vbytes c.kind ++ ((if w 0 then pbytes c 0 else []) ++ ((if w 1 then pbytes c 1 else []) ++ ((if w 2 then pbytes c 2 else []) ++ ((if w 3 then pbytes c 3 else []) ++ ((if w 4 then pbytes c 4 else []) ++ ((if w 5 then pbytes c 5 else []) ++ r)))))):=by simp [putW]
  rw [e]
  have k0:=num_v ((if w 0 then pbytes c 0 else []) ++ ((if w 1 then pbytes c 1 else []) ++ ((if w 2 then pbytes c 2 else []) ++ ((if w 3 then pbytes c 3 else []) ++ ((if w 4 then pbytes c 4 else []) ++ ((if w 5 then pbytes c 5 else []) ++ r)))))) hk.1 hk.2
  have s0:getW w (some (vbytes c.kind ++ ((if w 0 then pbytes c 0 else []) ++ ((if w 1 then pbytes c 1 else []) ++ ((if w 2 then pbytes c 2 else []) ++ ((if w 3 then pbytes c 3 else []) ++ ((if w 4 then pbytes c 4 else []) ++ ((if w 5 then pbytes c 5 else []) ++ r)))))))) 0 = (cutC c 0,some ((if w 0 then pbytes c 0 else []) ++ ((if w 1 then pbytes c 1 else []) ++ ((if w 2 then pbytes c 2 else []) ++ ((if w 3 then pbytes c 3 else []) ++ ((if w 4 then pbytes c 4 else []) ++ ((if w 5 then pbytes c 5 else []) ++ r))))))):=by
    rw [getW]
    simp only [nV,nS] at k0
    rw [k0.1,k0.2]
    rfl
  have s6:=cut_step (by omega) (hf 5 (by omega)) (cut_step (by omega) (hf 4 (by omega)) (cut_step (by omega) (hf 3 (by omega)) (cut_step (by omega) (hf 2 (by omega)) (cut_step (by omega) (hf 1 (by omega)) (cut_step (by omega) (hf 0 (by omega)) s0)))))
  rw [s6]
  rfl
theorem pnum_inv {s:Option (List Int)} (hb:byteS s) {c:Cm} {j:Nat} (hj:isNum j = true) (hc:c.num j = nV s) {r':List Int} (h:partS j s = some r'):s = some (pbytes c j ++ r'):=by
  unfold partS at h
  rw [if_pos hj] at h
  unfold pbytes
  rw [if_pos hj,hc]
  exact num_inv hb h
theorem ptxt_inv {s:Option (List Int)} (hb:byteS s) {c:Cm} {j:Nat} (hj:isNum j = false) (hc:c.txt j = strL (rawB 1048576 s)) {r':List Int} (h:partS j s = some r'):s = some (pbytes c j ++ r'):=by
  unfold partS at h
  rw [if_neg (by rw [hj];decide)] at h
  unfold pbytes
  rw [if_neg (by rw [hj];decide),hc,sbytes_strL (raw_byte hb _),strL_size]
  exact raw_inv hb h
theorem part_inv {s:Option (List Int)} (hb:byteS s) (c:Cm) {j:Nat} (hj:j < 6) {r':List Int} (h:partS j s = some r'):s = some (pbytes (c.setP j s) j ++ r'):=by
  obtain rfl|rfl|rfl|rfl|rfl|rfl:j = 0 ∨ j = 1 ∨ j = 2 ∨ j = 3 ∨ j = 4 ∨ j = 5:=by omega
  · exact pnum_inv hb rfl rfl h
  · exact pnum_inv hb rfl rfl h
  · exact ptxt_inv hb rfl rfl h
  · exact ptxt_inv hb rfl rfl h
  · exact ptxt_inv hb rfl rfl h
  · exact pnum_inv hb rfl rfl h
theorem pbytes_setP (c:Cm) {j k:Nat} (hjk:j < k) (hk:k < 6) (s:Option (List Int)):pbytes (c.setP k s) j = pbytes c j:=by
  obtain rfl|rfl|rfl|rfl|rfl|rfl:k = 0 ∨ k = 1 ∨ k = 2 ∨ k = 3 ∨ k = 4 ∨ k = 5:=by omega
  all_goals
    (obtain rfl|rfl|rfl|rfl|rfl:j = 0 ∨ j = 1 ∨ j = 2 ∨ j = 3 ∨ j = 4:=by omega) <;> first|rfl|omega
theorem putW_setP (w:Nat → Bool) (c:Cm) {k:Nat} (hk:k < 6) (s:Option (List Int)):∀ j,j ≤ k → putW w (c.setP k s) j = putW w c j
  | 0,_=>rfl
  | j + 1,h=>by rw [putW,putW,putW_setP w c hk s j (by omega),pbytes_setP c (by omega) hk s]
theorem getW_inv (w:Nat → Bool) {s:Option (List Int)} (hb:byteS s):∀ (k:Nat) (t:List Int),k ≤ 6 → (getW w s k).2 = some t → nS s = some (putW w (getW w s k).1 k ++ t)
  | 0,t,_,h=>h
  | k + 1,t,hk,h=>by
    rw [getW] at h ⊢
    cases hw:w k
    · rw [hw] at h
      simp only [if_false,Bool.false_eq_true] at h ⊢
      rw [putW,hw,if_neg (by decide),List.append_nil]
      exact getW_inv w hb k t (by omega) h
    · rw [hw] at h
      simp only [if_true] at h ⊢
      have hp:=part_inv (getW_ok w hb k).2 (getW w s k).1 (by omega) h
      have ih:=getW_inv w hb k _ (by omega) hp
      rw [ih,putW,hw,if_pos rfl,putW_setP w _ (by omega) _ k (Nat.le_refl _),List.append_assoc]
theorem getW_all (w:Nat → Bool) {s:Option (List Int)} (hb:byteS s) {t:List Int} (h:(getW w s 6).2 = some t):s = some (vbytes (getW w s 6).1.kind ++ putW w (getW w s 6).1 6 ++ t):=by
  have h1:=getW_inv w hb 6 t (by omega) h
  have h2:=num_inv hb h1
  rw [getW_kind,List.append_assoc]
  exact h2
theorem cmd0 {c:Cm} (h:cmdI c = 0):(1 ≤ c.kind ∧ c.kind ≤ 8) ∧ (0 ≤ c.client ∧ c.client ≤ 8) ∧ (0 ≤ c.seq ∧ c.seq ≤ 4294967296) ∧ (0 ≤ c.node ∧ c.node ≤ 9) ∧ (c.kind ≠ 5 → c.old = .empty):=by
  rw [cmdI_eq] at h
  unfold cmdE at h
  obtain ⟨h1,h⟩:=ite0 (by decide) h
  obtain ⟨h2,h⟩:=ite0 (by decide) h
  obtain ⟨h3,h⟩:=ite0 (by decide) h
  obtain ⟨h4,h⟩:=ite0 (by decide) h
  clear h3
  refine ⟨by omega,by omega,by omega,by omega,fun hk=>?_⟩
  exact nil_iff.2 (by omega)
set_option maxHeartbeats 4000000 in
theorem cmdFit {v:Int} {c:Cm} (h:cmdI c = 0) (hv:(v = 1 ∧ c.kind ≠ 5) ∨ v = 2) (hs:c.key.size ≤ 1000 ∧ c.val.size ≤ 1000 ∧ c.old.size ≤ 1000):∀ k < 6,fitP (wantB v c.kind) c k:=by
  obtain ⟨c1,c2,c3,c4,c5⟩:=cmd0 h
  obtain ⟨hs1,hs2,hs3⟩:=hs
  rw [cmdI_eq] at h
  unfold cmdE at h
  obtain ⟨-,h⟩:=ite0 (by decide) h
  obtain ⟨-,h⟩:=ite0 (by decide) h
  obtain ⟨-,h⟩:=ite0 (by decide) h
  obtain ⟨h4,-⟩:=ite0 (by decide) h
  obtain ⟨kind,client,seq,key,val,old,node⟩:=c
  simp only at *
  have nk:key.size = 0 → key = .empty:=fun e=>nil_iff.2 e
  have nv:val.size = 0 → val = .empty:=fun e=>nil_iff.2 e
  have no:old.size = 0 → old = .empty:=fun e=>nil_iff.2 e
  intro k hk
  obtain ⟨rfl,hk5⟩|rfl:=hv
  · obtain rfl|rfl|rfl|rfl|rfl|rfl:k = 0 ∨ k = 1 ∨ k = 2 ∨ k = 3 ∨ k = 4 ∨ k = 5:=by omega
    all_goals
      (simp [fitP,isNum,wantB,hasOf,Cm.num,Cm.txt]
       first|omega|exact ⟨no (by omega),hs3⟩)
  · obtain rfl|rfl|rfl|rfl|rfl|rfl|rfl|rfl:kind = 1 ∨ kind = 2 ∨ kind = 3 ∨ kind = 4 ∨ kind = 5 ∨ kind = 6 ∨ kind = 7 ∨ kind = 8:=by omega
    all_goals
      (obtain rfl|rfl|rfl|rfl|rfl|rfl:k = 0 ∨ k = 1 ∨ k = 2 ∨ k = 3 ∨ k = 4 ∨ k = 5:=by omega)
    all_goals
      (simp [fitP,isNum,wantB,cmdFields,hasOf,Cm.num,Cm.txt,band_0_1,band_0_2,band_0_4,band_0_8,band_0_16,band_3_1,band_3_2,band_3_4,band_3_8,band_3_16,band_11_1,band_11_2,band_11_4,band_11_8,band_11_16,band_15_1,band_15_2,band_15_4,band_15_8,band_15_16,band_16_1,band_16_2,band_16_4,band_16_8,band_16_16]
       first|omega|exact ⟨no (by omega),by omega⟩|exact ⟨nv (by omega),by omega⟩|exact ⟨nk (by omega),by omega⟩)
theorem getV_put {v:Int} {c:Cm} (h:cmdI c = 0) (hv:(v = 1 ∧ c.kind ≠ 5) ∨ v = 2) (hs:c.key.size ≤ 1000 ∧ c.val.size ≤ 1000 ∧ c.old.size ≤ 1000) (r:List Int) :
    getW (wantB v (nV (some (vbytes c.kind ++ putW (wantB v c.kind) c 6 ++ r)))) (some (vbytes c.kind ++ putW (wantB v c.kind) c 6 ++ r)) 6 = (c,some r):=by
  obtain ⟨c1,c2,c3,c4,c5⟩:=cmd0 h
  have e:=(num_v (m:=c.kind) (putW (wantB v c.kind) c 6 ++ r) (by omega) (by omega)).1
  rw [← List.append_assoc] at e
  rw [e]
  exact getW_put (by omega) (cmdFit h hv hs) r
theorem hard_eq {l:List Rc} (hc:∀ x ∈ l,x.cmd.ok):(⟨(l.foldl r1 Hd.zero).pr,(l.foldl r1 Hd.zero).pn,(l.foldl r1 Hd.zero).base,(l.foldl r1 Hd.zero).image,l.foldl (accS (l.foldl r1 Hd.zero).base) [],l.foldl (choS (l.foldl r1 Hd.zero).base) []⟩:Hd) = hardOf l:=by
  have i:=hard_inv hc
  rw [i.pr,i.pn,i.base,i.image,← i.acc,← i.cho]
end Go.Proofs.YtpemabgfmnhhnaaGreatDoor
/-
  VX, A CUT: what is left is shown once, whichever way led there.
-/
set_option linter.unusedVariables false
set_option linter.unusedSimpArgs false
namespace Go.Vx
open Go
attribute [local semireducible] Vc DVc
def EnvHas (σ:Env):Env → Prop
  | []=>True
  | (i,v) :: σ'=>Env.get σ i = some v ∧ EnvHas σ σ'
theorem EnvHas.get {σ:Env}:∀ {σ':Env},EnvHas σ σ' → ∀ i v,Env.get σ' i = some v → Env.get σ i = some v
  | [],_,i,v,h=>by simp [Env.get] at h
  | (j,u) :: σ',hh,i,v,h=>by
    obtain ⟨h1,h2⟩:=hh
    simp only [Env.get] at h
    cases hb:Nat.beq j i with
    | true =>
      rw [hb] at h
      simp only [cond_true,Option.some.injEq] at h
      subst h
      have:=Nat.eq_of_beq_eq_true hb
      subst this
      exact h1
    | false =>
      rw [hb] at h
      exact EnvHas.get h2 i v h
section
variable {P:Program} {fn:Func} {n:Nat} {B:Base} {Φ:Value → GH → OH → Prop} {k:List It} {σ σ':Env} {G G0:GH} {μ:OH}
theorem v_has (h:EnvHas σ σ') (hv:Vc P fn n B Φ k σ' G μ):Vc P fn n B Φ k σ G μ:=fun w hw a ha=>hv w hw a (ha.sub h.get)
theorem v_cut {it:It} (R:Env → GH → OH → Prop) (h2:(∀ σ G μ,R σ G μ → Vc P fn n B Φ k σ G μ) → Vc P fn n B Φ (it :: k) σ G μ) (h1:∀ σ G μ,R σ G μ → Vc P fn n B Φ k σ G μ):Vc P fn n B Φ (it :: k) σ G μ:=h2 h1
end
section
variable {P:Program} {fn:Func} {n:Nat} {B:Base} {Φ:Value → GH → OH → Prop} {k:List It} {σ:Env} {G G0:GH} {μ:OH} {all:Array Oper} {m:Nat} {listed:Array Bool} {d:Nat} {op:Op} {ty:TypeId} {pos:String} {af:Array Edge} {t:TypeId} {bytes:Nat} {zero:Value} {ν:OH}
theorem x_buildSlice (i:Nat) {e:TypeId} {agg:Bool} {sz len:Nat} {ps:List (Nat × Operand)} {vs zs cs:List Value} (hi:all[i]? = some ⟨some d,.buildSlice t len ps.toArray,ty,pos,af,none⟩) (hT:Ty P t (.slice e)) (hL:Lay P e agg sz bytes zero)
    (hz:zero.cells = zs.toArray) (hl:ps.map (·.1) = List.range len) (hv:Env.evs σ (ps.map (·.2)) = some vs) (hp:packL sz vs = some cs) (hb:Nat.ble (len * sz) 16777216 = true) (hd:Nat.blt d n = true) (hν:∀ e ∈ ν,e ∈ μ)
    (h:∀ b,DVc P fn n B Φ all G0 ν m (listed.setIfInBounds i true) k ((d,.slice (some ⟨b,0,none⟩) len len) :: σ) G ((b,.cells cs.toArray e (0,0)) :: μ)):DX P fn n B Φ all G0 ν m listed k σ G μ i :=
  x_exec i hi (m_buildSlice hz hl hv hp hb) hd fun _ _ _ ⟨b,h1,h2,h3⟩=>by rw [h1,h2,h3];exact ⟨fun e he=>List.mem_cons_of_mem _ (hν e he),h b⟩
theorem x_call (i:Nat) {f:FuncId} [Callable P f] {args:List Operand} {ts:Array TypeId} {vs:List Value} {μ1 μ2:OH} {Ψ:Value → GH → OH → Prop} (hi:all[i]? = some ⟨some d,.call { callee:=.value (.func f),args:=args.toArray,argTypes:=ts },ty,pos,af,none⟩)
    (ha:Env.evs σ args = some vs) (hs:Con P f vs.toArray G μ1 Ψ) (hp:μ.Perm (μ1 ++ μ2)) (hd:Nat.blt d n = true) (hν':∀ e ∈ ν,e ∈ μ2) (h:∀ v G' μ1',GH.le G G' → Ψ v G' μ1' → DVc P fn n B Φ all G0 ν m (listed.setIfInBounds i true) k ((d,v) :: σ) G' (μ1' ++ μ2)):DX P fn n B Φ all G0 ν m listed k σ G μ i :=
  x_exec i hi (m_callF ha hs hp) hd (fun _ _ _ ⟨_,hle,h1,h2⟩=>by rw [h2];exact ⟨fun e he=>List.mem_append_right _ (hν' e he),h _ _ _ hle h1⟩)
theorem d_frz (κ:OH) {r:OH} (hp:PickA κ μ r) (hν:∀ e ∈ ν,e ∈ r) (h:∀ G',GH.le G G' → (∀ b o,(b,o) ∈ κ → G' b = some o) → DVc P fn n B Φ all G0 ν m listed k σ G' r):DVc P fn n B Φ all G0 ν m listed k σ G μ:=by
  intro hsel hle _ w hw a ha
  have hw':=hw.perm hp.perm
  have hn:=hw'.mem.nodup
  rw [List.map_append,List.nodup_append] at hn
  exact h (GH.put G κ) (GH.le_put _ _) (fun b o hb=>GH.put_mem hn.1 (hw'.mem.apart b o (List.mem_append_left _ hb)) hb) hsel (GH.le_trans hle (GH.le_put _ _)) hν w hw'.freeze a ha
end
end Go.Vx
/-
  hard (layer 19), the fourteenth part: records that are appended; the law HardApplies.
-/
set_option linter.unusedSimpArgs false
set_option linter.unusedVariables false
namespace Go.Proofs.YtpemabgfmnhhnaaGreatDoor
open Go.Vx Go.ChangeShapes Go.WideShapes Go.ChangeAt Go.RowKit
theorem flat_get {sz:Nat}:∀ {css:List (List Value)} {j:Nat} {u:Value},(∀ c ∈ css,c.length = sz) → css.flatten[j]? = some u → ∃ i r cs,j = i * sz + r ∧ css[i]? = some cs ∧ cs[r]? = some u
  | [],j,u,_,h=>by simp at h
  | c :: css,j,u,hs,h=>by
    rw [List.flatten_cons] at h
    have hc:=hs c (by simp)
    by_cases hj:j < c.length
    · rw [List.getElem?_append_left hj] at h
      exact ⟨0,j,c,by rw [Nat.zero_mul,Nat.zero_add],rfl,h⟩
    · rw [List.getElem?_append_right (by omega)] at h
      obtain ⟨i,r,cs,h1,h2,h3⟩:=flat_get (fun x hx=>hs x (List.mem_cons_of_mem _ hx)) h
      refine ⟨i + 1,r,cs,?_,h2,h3⟩
      rw [Nat.add_mul,Nat.one_mul]
      omega
theorem flat_len {sz:Nat}:∀ {css:List (List Value)},(∀ c ∈ css,c.length = sz) → css.flatten.length = css.length * sz
  | [],_=>by simp
  | c :: css,hs=>by
    rw [List.flatten_cons,List.length_append,hs c (by simp),flat_len fun x hx=>hs x (List.mem_cons_of_mem _ hx),List.length_cons,Nat.add_mul]
    omega
theorem rec_one {G:GH} {x:Rc} {cs:List Value} (h:RcR G x cs):cs.length = 12 ∧ cs.all Value.oneCell' = true:=by
  obtain ⟨iv,rfl,-,-,hi⟩:=h
  obtain ⟨A,c,rfl,-⟩:=hi.openInt
  exact ⟨rfl,rfl⟩
theorem rsFlat {G:GH} {v:Value} {l:List Rc} (hs:Rs G v l):∃ css:List (List Value),css.length = l.length ∧ (∀ (i:Nat) x cs,l[i]? = some x → css[i]? = some cs → RcR G x cs) ∧ (∀ μ,Go.Vx.Src G μ v l.length 12 css.flatten) ∧ css.flatten.all Value.oneCell' = true:=by
  obtain ⟨A,c,rfl,h1,h2,h3,h4⟩:=hs.open
  have key:∀ i,∃ cs:List Value,∀ x,l[i]? = some x → cs.length = 12 ∧ RcR G x cs ∧ CellsG G ((adr A).add (i * 12)) cs:=fun i=>by
    cases hx:l[i]? with
    | none=>exact ⟨[],fun x h=>by cases h⟩
    | some y =>
      obtain ⟨cs,k1,k2,k3⟩:=h4 i y hx
      exact ⟨cs,fun x h=>by cases h;exact ⟨k1,k2,k3⟩⟩
  let f:=fun i=>Classical.choose (key i)
  have hf:∀ i x,l[i]? = some x → (f i).length = 12 ∧ RcR G x (f i) ∧ CellsG G ((adr A).add (i * 12)) (f i):=fun i=>Classical.choose_spec (key i)
  have hget:∀ i cs,((List.range l.length).map f)[i]? = some cs → ∃ x,l[i]? = some x ∧ cs = f i:=fun i cs hc=>by
    rw [List.getElem?_map] at hc
    obtain ⟨j,hj,rfl⟩:=Option.map_eq_some_iff.1 hc
    obtain ⟨hj1,hj2⟩:=List.getElem?_eq_some_iff.1 hj
    rw [List.length_range] at hj1
    rw [List.getElem_range] at hj2
    subst hj2
    exact ⟨_,List.getElem?_eq_getElem hj1,rfl⟩
  have hlen:∀ cs ∈ (List.range l.length).map f,cs.length = 12:=fun cs hc=>by
    obtain ⟨i,hi,rfl⟩:=List.getElem_of_mem hc
    obtain ⟨x,hx,he⟩:=hget i _ (List.getElem?_eq_getElem hi)
    rw [he]
    exact (hf i x hx).1
  refine ⟨(List.range l.length).map f,by simp,fun i x cs hx hc=>?_,fun μ=>?_,?_⟩
  · obtain ⟨y,hy,rfl⟩:=hget i cs hc
    exact (hf i x hx).2.1
  · refine ⟨by rw [flat_len hlen];simp,A,c,rfl,fun h0=>?_⟩
    have hA:=h3 h0
    obtain ⟨a,rfl⟩:=Option.isSome_iff_exists.1 hA
    refine ⟨a,rfl,CellsAt.frozen fun j u hu=>?_⟩
    obtain ⟨i,r,cs,rfl,hi,hr⟩:=flat_get hlen hu
    obtain ⟨y,hy,rfl⟩:=hget i cs hi
    have:=(hf i y hy).2.2 r u hr
    rw [add_add] at this
    exact this
  · rw [List.all_eq_true]
    intro u hu
    obtain ⟨cs,hcs,hu⟩:=List.mem_flatten.1 hu
    obtain ⟨i,hi,rfl⟩:=List.getElem_of_mem hcs
    obtain ⟨x,hx,he⟩:=hget i _ (List.getElem?_eq_getElem hi)
    rw [he] at hu
    exact List.all_eq_true.1 (rec_one (hf i x hx).2.1).2 u hu
end Go.Proofs.YtpemabgfmnhhnaaGreatDoor
/-
  hard (layer 19): what a log may have; Check, decided.
-/
set_option linter.unusedSimpArgs false
set_option linter.unusedVariables false
namespace Go.Proofs.YtpemabgfmnhhnaaGreatDoor
open Go.Vx Go.ChangeShapes Go.WideShapes Go.ChangeAt Go.RowKit
theorem zeroCm_okV:zeroCm.ok:=⟨by decide,by decide,by decide,by decide,by decide,by decide,by decide⟩
theorem chk_one {l:List Ent} (h:chkK l 0 = 0):∀ e ∈ l,oneI e = 0:=fun e he=>by
  obtain ⟨i,hi,rfl⟩:=List.getElem_of_mem he
  exact chk_all (l.length - 0) 0 rfl h i hi (by omega)
def CheckP (H:Hd):Prop:=mayP H.pr H.pn ∧ (0 ≤ H.base ∧ H.base ≤ 4294967296) ∧ H.image.length ≤ 32768 ∧ (0 < H.base ↔ 0 < H.image.length) ∧ chkK H.acc 0 = 0 ∧ chkK H.cho 0 = 0 ∧ (∀ e ∈ H.acc,H.base < e.index ∧ e.round ≠ 0 ∧ ¬ lessP H.pr H.pn e.round e.node) ∧ (∀ e ∈ H.cho,H.base < e.index ∧ e.round = 0)
noncomputable instance (H:Hd):Decidable (CheckP H):=Classical.propDecidable _
theorem one_parts {e:Ent} (h:oneI e = 0):1 ≤ e.index ∧ e.index ≤ 4294967296 ∧ mayP e.round e.node ∧ cmdI e.cmd = 0:=by
  unfold oneI at h
  split at h
  · omega
  · rename_i hc
    have h1:¬ e.index < 1:=fun hh=>hc (.inl hh)
    have h2:¬ 4294967296 < e.index:=fun hh=>hc (.inr (.inl hh))
    have h3:mayP e.round e.node:=Decidable.not_not.1 fun hh=>hc (.inr (.inr hh))
    exact ⟨by omega,by omega,h3,h⟩
theorem good_check {H:Hd} (h:CheckP H) {n:Nat} (ha:H.acc.length ≤ n) (hc:H.cho.length ≤ n) (oa:∀ e ∈ H.acc,e.ok) (oc:∀ e ∈ H.cho,e.ok):Good n H:=by
  obtain ⟨h1,h2,h3,h4,h5,h6,h7,h8⟩:=h
  refine ⟨h1,h2,⟨h3,h4⟩,chk_rise h5,chk_rise h6,ha,hc,fun e he=>?_,fun e he=>?_⟩
  · obtain ⟨a1,a2,a3⟩:=h7 e he
    exact ⟨chk_one h5 e he,oa e he,a1,a2,a3⟩
  · obtain ⟨a1,a2⟩:=h8 e he
    have hm:=(one_parts (chk_one h6 e he)).2.2.1
    refine ⟨chk_one h6 e he,oc e he,a1,a2,?_⟩
    unfold mayP at hm
    omega
def imgRec (b:Int) (im:List Int):Rc:=⟨4,0,0,b,zeroCm,im⟩
theorem img_ok {b:Int} {im:List Int} (hb:1 ≤ b ∧ b ≤ 4294967296) (hl:0 < im.length ∧ im.length ≤ 32768):chkI (imgRec b im) = 0:=by
  show recI 4 0 0 b zeroCm im.length = 0
  unfold recI ranP
  rw [if_neg (by omega),if_neg (fun hh=>hh ⟨fun h=>by omega,fun _=>hb⟩),if_neg (by omega),if_neg (by omega),if_neg]
  unfold othP
  rintro (⟨_,h⟩|⟨h,_⟩|⟨_,h⟩|h)
  · exact h ⟨rfl,rfl⟩
  · omega
  · exact h rfl
  · exact h ⟨fun _=>hl.1,fun _=>rfl⟩
theorem idx_s {G:GH} {l:List Ent} {sv:Value} (hs:Es G sv l) (f:FuncId) [Callable Tryz.prog f] (cap:List Value) (μ1:OH) (p:Ent → Bool) (hf:∀ e ∈ l,Con Tryz.prog f ([] ++ [Value.agg e.cells.toArray] ++ cap).toArray G μ1 (Keeps (.bool (p e)) G μ1)) :
    Con Tryz.prog 128 #[sv,.func (.func f) #[] cap.toArray] G μ1 (fun r G' μ'=>G' = G ∧ μ' = μ1 ∧ ∃ z,r = .int .i64 z ∧ (0 ≤ z ↔ l.any p = true) ∧ -1 ≤ z):=by
  obtain ⟨A,c,rfl,hlc,hcm,hsome,hcp,-,-,hok⟩:=esOpen hs
  simp only [maxLen] at hcm
  (refine v_enter Tryz.func128 rfl Tryz.ntmps128 rfl ?_;intro B _)
  repeat' (first|apply v_seq|apply v_region|apply v_nil|apply v_block|(apply v_pure;(case hop=>first|(apply p_move <;> rfl)|(apply p_assign <;> rfl)|(apply p_lenSlice <;> rfl)|fail);(case hd=>rfl))|fail)
  refine v_loop [8,7,0,1] (fun us G' μ'=>G' = G ∧ μ' = μ1 ∧ ∃ k,k ≤ l.length ∧ us = [Value.int .i64 (k:Nat),.int .i64 (l.length:Nat),.slice A l.length c,.func (.func f) #[] cap.toArray] ∧ ∀ i (h:i < l.length),i < k → p l[i] = false) (fun us=>l.length - (headI us).toNat) rfl ⟨rfl,rfl,0,by omega,rfl,by omega⟩ ?_
  rintro us G' μ' ⟨rfl,rfl,k,hk,rfl,hno⟩
  have e1:((k:Nat):Int).toNat = k:=by omega
  by_cases hlt:k < l.length
  · have kc:=hcp k hlt
    have hfk:=hf _ (List.getElem_mem hlt)
    cases hpe:p l[k]
    · rw [hpe] at hfk
      repeat' (first|apply v_seq|apply v_region|apply v_nil|apply v_skip|apply v_block|apply v_blk|(apply v_pure;(case hop=>first|(apply p_move <;> rfl)|(apply p_lt <;> rfl)|(apply p_assign <;> rfl)|(apply p_add;(case hx=>rfl);(case hy=>rfl);(case h=>omega))|(apply p_indexAddrS;(case hx=>rfl);(case hi=>rfl);(case h0=>omega);(case h=>omega);(case hA=>(apply_assumption;omega)))|fail);(case hd=>rfl))|(apply v_condF;(case hc=>rfl))|(apply v_cond;(case hc=>rfl);all_goals (intro h;(try simp only [reduceCtorEq,zzz] at h);first|(exfalso;omega)|skip))|(apply v_read;(case hop=>(apply r_loadN;rfl;exact CellsAt.frozen kc;rfl));(case hd=>rfl))|(apply v_callCK (first:=[]) (captured:=cap) (hs:=hfk) (hx:=rfl) (ha:=rfl) (hp:=(by simp:List.Perm _ (_ ++ [])));  (case hd=>rfl))|fail)
      refine v_again rfl ⟨rfl,rfl,k + 1,by omega,rfl,fun i h hi=>?_⟩ (by simp [headI];omega)
      by_cases hik:i = k
      · subst hik;exact hpe
      · exact hno i h (by omega)
    · rw [hpe] at hfk
      repeat' (first|apply v_seq|apply v_region|apply v_nil|apply v_skip|apply v_block|(apply v_pure;(case hop=>first|(apply p_move <;> rfl)|(apply p_lt <;> rfl)|(apply p_assign <;> rfl)|(apply p_indexAddrS;(case hx=>rfl);(case hi=>rfl);(case h0=>omega);(case h=>omega);(case hA=>(apply_assumption;omega)))|fail);(case hd=>rfl))|(apply v_condT;(case hc=>rfl))|(apply v_cond;(case hc=>rfl);all_goals (intro h;(try simp only [reduceCtorEq,zzz] at h);first|(exfalso;omega)|skip))|(apply v_read;(case hop=>(apply r_loadN;rfl;exact CellsAt.frozen kc;rfl));(case hd=>rfl))|(apply v_callCK (first:=[]) (captured:=cap) (hs:=hfk) (hx:=rfl) (ha:=rfl) (hp:=(by simp:List.Perm _ (_ ++ [])));  (case hd=>rfl))|fail)
      refine v_ret μ' (outsA1 rfl rfl) (List.Sublist.refl _) ?_
      refine ⟨rfl,rfl,_,rfl,⟨fun _=>?_,fun _=>by omega⟩,by omega⟩
      rw [List.any_eq_true]
      exact ⟨_,List.getElem_mem hlt,hpe⟩
  · repeat' (first|apply v_seq|apply v_region|apply v_nil|(apply v_exit;(case hp=>rfl))|(apply v_pure;(case hop=>first|(apply p_lt <;> rfl)|(apply p_assign <;> rfl)|fail);(case hd=>rfl))|(apply v_cond;(case hc=>rfl);all_goals (intro h;(try simp only [reduceCtorEq,zzz] at h);first|(exfalso;omega)|skip))|fail)
    refine v_ret μ' (outsA1 rfl rfl) (List.Sublist.refl _) ?_
    refine ⟨rfl,rfl,_,rfl,⟨fun h=>by omega,fun h=>?_⟩,by omega⟩
    rw [List.any_eq_true] at h
    obtain ⟨e,he,h⟩:=h
    obtain ⟨i,hi,rfl⟩:=List.getElem_of_mem he
    rw [hno i hi (by omega)] at h
    cases h
theorem has_s {G:GH} {l:List Ent} {sv:Value} (hs:Es G sv l) (f:FuncId) [Callable Tryz.prog f] (cap:List Value) (μ1:OH) (p:Ent → Bool) (hf:∀ e ∈ l,Con Tryz.prog f ([] ++ [Value.agg e.cells.toArray] ++ cap).toArray G μ1 (Keeps (.bool (p e)) G μ1)) :
    Con Tryz.prog 85 #[sv,.func (.func f) #[] cap.toArray] G μ1 (Keeps (.bool (l.any p)) G μ1):=by
  have q:=idx_s hs f cap μ1 p hf
  apply Con.keeps
  (refine v_enter Tryz.func85 rfl Tryz.ntmps85 rfl ?_;intro B _)
  repeat' (first|apply v_seq|apply v_region|apply v_nil|(apply v_pure;(case hop=>first|(apply p_move <;> rfl)|(apply p_assign <;> rfl));(case hd=>rfl))|fail)
  refine v_call (μ1:=μ1) (μ2:=[]) rfl q (by simp) rfl ?_
  rintro _ G1 μ1 - ⟨rfl,rfl,z,rfl,hz,-⟩
  repeat' (first|apply v_nil|(apply v_pure;(case hop=>first|(apply p_ge <;> rfl)|(apply p_assign <;> rfl));(case hd=>rfl))|fail)
  refine v_ret μ1 (outsA1 rfl rfl) (List.sublist_append_left _ _) ?_
  refine ⟨?_,rfl⟩
  rw [dec_eq]
  congr 1
  rw [Bool.eq_iff_iff,decide_eq_true_iff,hz]
def accBad (H:Hd) (e:Ent):Bool:=decide (e.index ≤ H.base ∨ (e.round = 0 ∧ e.node = 0) ∨ lessP H.pr H.pn e.round e.node)
def choBad (H:Hd) (e:Ent):Bool:=decide (e.index ≤ H.base ∨ ¬ (e.round = 0 ∧ e.node = 0))
theorem acc1_s (G:GH) (hb:Nat) (H:Hd) (iv av cv:Value) (x:Ent):Con Tryz.prog 82 #[.agg x.cells.toArray,.pointer (some ⟨hb,0,none⟩)] G [(hb,hardO (hdL H.pr H.pn H.base iv av cv))] (Keeps (.bool (accBad H x)) G [(hb,hardO (hdL H.pr H.pn H.base iv av cv))]):=by
  have ql:=less_s G H.pr H.pn x.round x.node
  unfold accBad
  generalize hlb:decide (lessP H.pr H.pn x.round x.node) = lb at *
  apply Con.keeps
  (refine v_enter Tryz.func82 rfl Tryz.ntmps82 rfl ?_;intro B _)
  repeat' (first|(apply v_pure;(case hop=>(apply eqBal;(case hx=>rfl);(case hy=>rfl)));(case hd=>rfl))|apply v_seq|apply v_region|apply v_nil|(apply v_take;(case hg=>rfl))|(apply v_pass;(case hg=>rfl);(case hn=>rfl);(case hd=>rfl))|(apply v_pure;(case hop=>first|(apply p_move <;> rfl)|(apply p_le <;> rfl)|(apply p_assign <;> rfl)|(apply p_pickT <;> rfl)|(apply p_pickF <;> rfl)|(apply p_fieldAddrB <;> rfl)|(apply p_build;(case hz=>rfl);(case hv=>(simp only [List.map_cons,List.map_nil];repeat (with_reducible exact evs_nil)));(case hb=>(apply bldL;repeat (exact bld_nil))))|fail);(case hd=>rfl))|(apply v_guardB;(case h1=>rfl);(case h2=>rfl);all_goals (intro h;(try simp only [reduceCtorEq,zzz] at h)))|(apply v_box (zs:=x.cells);(case hx=>rfl);(case hz=>rfl);(case hd=>rfl);intro b)|(apply v_callJ (hs:=ql);(case ha=>rfl);(case hd=>rfl))|(apply v_read;(case hop=>first|(apply r_loadNo;(case hx=>rfl);(case h=>(repeat (first|exact mhd _|apply mtl)));(case hd=>(repeat (first|with_reducible exact dt_nil|apply dt_here)));(case hn=>rfl))|(apply r_load1;rfl;(apply Cell.own;(case h=>(repeat (first|exact mhd _|apply mtl)));rfl))|fail);(case hd=>rfl))|fail)
  all_goals
    (refine v_ret [(hb,_)] (outsA1 rfl rfl) (by repeat (first|exact List.Sublist.refl _|apply List.Sublist.cons)) ?_
     refine ⟨?_,rfl⟩)
  · rw [decide_eq_true (.inl h)]
  · rw [decide_eq_true (.inr (.inl h))]
  · subst hlb
    congr 1
    rw [decide_eq_decide]
    exact ⟨fun hh=>.inr (.inr hh),fun hh=>by
      obtain hh|hh|hh:=hh
      · contradiction
      · contradiction
      · exact hh⟩
theorem cho1_s (G:GH) (hb:Nat) (H:Hd) (iv av cv:Value) (x:Ent):Con Tryz.prog 84 #[.agg x.cells.toArray,.pointer (some ⟨hb,0,none⟩)] G [(hb,hardO (hdL H.pr H.pn H.base iv av cv))] (Keeps (.bool (choBad H x)) G [(hb,hardO (hdL H.pr H.pn H.base iv av cv))]):=by
  unfold choBad
  apply Con.keeps
  (refine v_enter Tryz.func84 rfl Tryz.ntmps84 rfl ?_;intro B _)
  repeat' (first|(apply v_pure;(case hop=>(apply neBal;(case hx=>rfl);(case hy=>rfl)));(case hd=>rfl))|apply v_seq|apply v_region|apply v_nil|(apply v_take;(case hg=>rfl))|(apply v_pass;(case hg=>rfl);(case hn=>rfl);(case hd=>rfl))|(apply v_pure;(case hop=>first|(apply p_move <;> rfl)|(apply p_le <;> rfl)|(apply p_assign <;> rfl)|(apply p_pickT <;> rfl)|(apply p_pickF <;> rfl)|(apply p_fieldAddrB <;> rfl)|(apply p_build;(case hz=>rfl);(case hv=>(simp only [List.map_cons,List.map_nil];repeat (with_reducible exact evs_nil)));(case hb=>(apply bldL;repeat (exact bld_nil))))|fail);(case hd=>rfl))|(apply v_guardB;(case h1=>rfl);(case h2=>rfl);all_goals (intro h;(try simp only [reduceCtorEq,zzz] at h)))|(apply v_box (zs:=x.cells);(case hx=>rfl);(case hz=>rfl);(case hd=>rfl);intro b)|(apply v_read;(case hop=>first|(apply r_loadNo;(case hx=>rfl);(case h=>(repeat (exact mhd _)));(case hd=>(repeat (first|with_reducible exact dt_nil|apply dt_here)));(case hn=>rfl))|(apply r_load1;rfl;(apply Cell.own;(case h=>(repeat (first|exact mhd _|apply mtl)));rfl))|fail);(case hd=>rfl))|fail)
  all_goals
    (refine v_ret [(hb,_)] (outsA1 rfl rfl) (by repeat (first|exact List.Sublist.refl _|apply List.Sublist.cons)) ?_
     refine ⟨?_,rfl⟩)
  · rw [decide_eq_true (.inl h)]
  · congr 1
    rw [dec_eq,← decide_not,decide_eq_decide]
    exact ⟨fun hh=>.inr hh,fun hh=>by
      obtain hh|hh:=hh
      · contradiction
      · exact hh⟩
theorem chk_iff (H:Hd):CheckP H ↔ mayP H.pr H.pn ∧ ¬ H.base < 0 ∧ ¬ (H.base = 0 ∧ 0 < H.image.length) ∧ (0 < H.base → recI 4 0 0 H.base zeroCm H.image.length = 0) ∧ chkK H.acc 0 = 0 ∧ chkK H.cho 0 = 0 ∧ H.acc.any (accBad H) = false ∧ H.cho.any (choBad H) = false:=by
  constructor
  · rintro ⟨h1,h2,h3,h4,h5,h6,h7,h8⟩
    refine ⟨h1,by omega,by omega,fun hb=>img_ok (b:=H.base) (im:=H.image) (by omega) (by omega),h5,h6,?_,?_⟩
    · rw [List.any_eq_false]
      intro e he
      obtain ⟨a1,a2,a3⟩:=h7 e he
      unfold accBad
      rw [decide_eq_true_iff]
      rintro (h|h|h)
      · omega
      · exact a2 h.1
      · exact a3 h
    · rw [List.any_eq_false]
      intro e he
      obtain ⟨a1,a2⟩:=h8 e he
      have hm:=(one_parts (chk_one h6 e he)).2.2.1
      unfold mayP at hm
      unfold choBad
      rw [decide_eq_true_iff]
      omega
  · rintro ⟨h1,h2,h3,h4,h5,h6,h7,h8⟩
    have hb:H.base ≤ 4294967296 ∧ H.image.length ≤ 32768 ∧ (0 < H.base ↔ 0 < H.image.length):=by
      by_cases h0:0 < H.base
      · obtain ⟨-,r2,r3,-,r5⟩:=rec0 (h4 h0)
        have r2':=r2.2 (.inr (.inr rfl))
        have r6:(4:Int) = 4 ↔ 0 < H.image.length:=Decidable.not_not.1 fun hh=>r5 (.inr (.inr (.inr hh)))
        have:=r6.1 rfl
        omega
      · omega
    refine ⟨h1,by omega,hb.2.1,hb.2.2,h5,h6,fun e he=>?_,fun e he=>?_⟩
    · have ha:=List.any_eq_false.1 h7 e he
      have hm:=(one_parts (chk_one h5 e he)).2.2.1
      unfold accBad at ha
      rw [decide_eq_true_iff] at ha
      unfold mayP at hm
      exact ⟨by omega,by omega,fun h=>ha (.inr (.inr h))⟩
    · have ha:=List.any_eq_false.1 h8 e he
      unfold choBad at ha
      rw [decide_eq_true_iff] at ha
      omega
theorem hChk_s {G:GH} (hT:TabsG G) {H:Hd} {L:List Value} (hh:HdV G H L):Con Tryz.prog 48 #[.agg L.toArray] G [] (Just (.int .i64 (if CheckP H then 0 else 3)) G):=by
  obtain ⟨iv,av,cv,rfl,hi,ha,hc⟩:=hh
  obtain ⟨A0,c0,rfl,hl0,hm0,-⟩:=hi.openInt
  simp only [maxLen] at hm0
  have qm:=may_s G H.pr H.pn
  have qr:=recCheck_s hT 4 0 0 H.base zeroCm zeroCm_okV A0 H.image.length c0 (by omega)
  have qa:=entCheck_s hT ha
  have qc:=entCheck_s hT hc
  have qA:=fun hb=>has_s ha 82 [.pointer (some ⟨hb,0,none⟩)] [(hb,hardO (hdL H.pr H.pn H.base (.slice A0 H.image.length c0) av cv))] (accBad H) (fun e _=>acc1_s G hb H (.slice A0 H.image.length c0) av cv e)
  have qC:=fun hb=>has_s hc 84 [.pointer (some ⟨hb,0,none⟩)] [(hb,hardO (hdL H.pr H.pn H.base (.slice A0 H.image.length c0) av cv))] (choBad H) (fun e _=>cho1_s G hb H (.slice A0 H.image.length c0) av cv e)
  have hiff:=chk_iff H
  obtain ⟨A1,c1,rfl,-⟩:=ha.open
  obtain ⟨A2,c2,rfl,-⟩:=hc.open
  generalize hb1:decide (mayP H.pr H.pn) = b1 at *
  generalize recI 4 0 0 H.base zeroCm H.image.length = I1 at *
  generalize chkK H.acc 0 = I2 at *
  generalize chkK H.cho 0 = I3 at *
  generalize hb4:H.acc.any (accBad H) = b4 at *
  generalize hb5:H.cho.any (choBad H) = b5 at *
  apply Con.just
  (refine v_enter Tryz.func48 rfl Tryz.ntmps48 rfl ?_;intro B _)
  repeat' (first|apply v_seq|apply v_region|apply v_nil|apply v_skip|(apply v_take;(case hg=>rfl))|(apply v_pass;(case hg=>rfl);(case hn=>rfl);(case hd=>rfl))|(apply v_passN;(case hg=>rfl);(case hn=>rfl);(case hd=>rfl))|(apply v_pure;(case hop=>first|(apply p_move <;> rfl)|(apply p_eq <;> rfl)|(apply p_lt <;> rfl)|(apply p_gt <;> rfl)|(apply p_ne <;> rfl)|(apply p_assign <;> rfl)|(apply p_pickT <;> rfl)|(apply p_pickF <;> rfl)|(apply p_not <;> rfl)|(apply p_lenSlice <;> rfl)|(apply p_fieldAddrB <;> rfl)|(apply p_makeFunc <;> rfl)|(apply p_build;(case hz=>rfl);(case hv=>(simp only [List.map_cons,List.map_nil];repeat (first|with_reducible exact evs_nil|(apply evs_cons;(case h1=>rfl)))));(case hb=>(apply bldL;repeat (first|exact bld_nil|(apply bld_cons;(case hpf=>rfl);(case hc=>rfl);(case hs=>rfl);(case hl=>rfl);(case ho=>((repeat (first|with_reducible exact ov_nil|apply ov_cons));done)))))))|fail);(case hd=>rfl))|(apply v_condT;(case hc=>rfl))|(apply v_condF;(case hc=>rfl))|(apply v_cond;(case hc=>rfl);all_goals (intro h;(try simp only [reduceCtorEq,zzz] at h)))|(apply v_guardB;(case h1=>rfl);(case h2=>rfl);all_goals (intro h;(try simp only [reduceCtorEq,zzz] at h);first|(exfalso;omega)|skip))|(apply v_callJ (hs:=qm);(case ha=>rfl);(case hd=>rfl))|(apply v_callJ (hs:=qr);(case ha=>rfl);(case hd=>rfl))|(apply v_callJ (hs:=qa);(case ha=>rfl);(case hd=>rfl))|(apply v_callJ (hs:=qc);(case ha=>rfl);(case hd=>rfl))|(apply v_callK (hs:=qA _);(case ha=>rfl);(case hp=>exact (Pick.perm (by repeat (exact Pick.here _))));(case hd=>rfl))|(apply v_callK (hs:=qC _);(case ha=>rfl);(case hp=>exact (Pick.perm (by repeat (exact Pick.here _))));(case hd=>rfl))|(apply v_read;(case hop=>first|(apply r_loadNo;(case hx=>rfl);(case h=>(repeat (exact mhd _)));(case hd=>(repeat (first|with_reducible exact dt_nil|apply dt_here)));(case hn=>rfl))|(apply r_load1;rfl;(apply Cell.own;(case h=>(repeat (exact mhd _)));rfl))|fail);(case hd=>rfl))|(apply v_box;(case hx=>rfl);(case hz=>rfl);(case hd=>rfl);intro b)|fail)
  all_goals
    (refine v_ret [] (outsA1 rfl rfl) (by repeat (exact List.nil_sublist _)) ?_
     refine ⟨?_,rfl⟩
     first
       | (rw [if_pos (hiff.2 ⟨of_decide_eq_true (hb1.trans (by assumption)),by omega,by omega,fun _=>by omega,by assumption,by assumption,by assumption,by assumption⟩)];done)
       | (rw [if_neg (fun hh=>by
            obtain ⟨z1,z2,z3,z4,z5,z6,z7,z8⟩:=hiff.1 hh
            first
              | omega
              | exact absurd ((decide_eq_true z1).symm.trans (hb1.trans ‹b1 = false›)) (by decide)
              | exact absurd (z7.symm.trans ‹b4 = true›) (by decide)
              | exact absurd (z8.symm.trans ‹b5 = true›) (by decide))];done)
       | skip)
def promRec (r n:Int):Rc:=⟨1,r,n,0,zeroC,[]⟩
def accRec (e:Ent):Rc:=⟨2,e.round,e.node,e.index,e.cmd,[]⟩
def choRec (e:Ent):Rc:=⟨3,0,0,e.index,e.cmd,[]⟩
def recsOf (H:Hd):List Rc:=(if 0 < H.base then [imgRec H.base H.image] else []) ++ ((if H.pr = 0 ∧ H.pn = 0 then [] else [promRec H.pr H.pn]) ++ (H.acc.map accRec ++ H.cho.map choRec))
theorem recs_len {H:Hd}:(recsOf H).length ≤ 2 + H.acc.length + H.cho.length:=by
  unfold recsOf
  simp only [List.length_append,List.length_map]
  split <;> split <;> simp <;> omega
theorem recs_ok {H:Hd} {n:Nat} (g:Good n H):∀ x ∈ recsOf H,x.cmd.ok ∧ x.small:=by
  have hm:=g.may
  have hb:=g.base
  unfold mayP at hm
  intro x hx
  unfold recsOf at hx
  simp only [List.mem_append,List.mem_map] at hx
  obtain hx|hx|⟨e,he,rfl⟩|⟨e,he,rfl⟩:=hx
  · split at hx
    · rw [List.mem_singleton] at hx
      subst hx
      refine ⟨zeroC_ok,?_⟩
      unfold Rc.small imgRec
      simp only
      omega
    · simp at hx
  · split at hx
    · simp at hx
    · rw [List.mem_singleton] at hx
      subst hx
      refine ⟨zeroC_ok,?_⟩
      unfold Rc.small promRec
      simp only
      omega
  · obtain ⟨a1,a2,a3,a4,a5⟩:=g.acc e he
    obtain ⟨b1,b2,b3,b4⟩:=one_parts a1
    unfold mayP at b3
    refine ⟨a2.2.2.2,?_⟩
    unfold Rc.small accRec
    simp only
    omega
  · obtain ⟨a1,a2,a3,a4,a5⟩:=g.cho e he
    obtain ⟨b1,b2,b3,b4⟩:=one_parts a1
    refine ⟨a2.2.2.2,?_⟩
    unfold Rc.small choRec
    simp only
    omega
theorem heavy_s {G:GH} {H:Hd} {L:List Value} (hh:HdV G H L):Con Tryz.prog 10 #[.agg L.toArray] G [] (fun r G' μ'=>G' = G ∧ μ' = [] ∧ ∃ b,r = .bool b ∧ (b = false → H.image.length ≤ 300 ∧ H.acc.length ≤ 40 ∧ H.cho.length ≤ 40)):=by
  obtain ⟨iv,av,cv,rfl,hi,ha,hc⟩:=hh
  have q1:=entLargeB_s ha
  have q2:=entLargeB_s hc
  obtain ⟨A0,c0,rfl,-,hm0,-⟩:=hi.openInt
  obtain ⟨A1,c1,rfl,-⟩:=ha.open
  obtain ⟨A2,c2,rfl,-⟩:=hc.open
  simp only [maxLen] at hm0
  (refine v_enter Tryz.func10 rfl Tryz.ntmps10 rfl ?_;intro B _)
  repeat' (first|apply v_seq|apply v_region|apply v_nil|(apply v_take;(case hg=>rfl))|(apply v_pass;(case hg=>rfl);(case hn=>rfl);(case hd=>rfl))|(apply v_pure;(case hop=>first|(apply p_move <;> rfl)|(apply p_gt <;> rfl)|(apply p_assign <;> rfl)|(apply p_pickT <;> rfl)|(apply p_lenSlice <;> rfl)|(apply p_fieldAddrB <;> rfl)|fail);(case hd=>rfl))|(apply v_guardB;(case h1=>rfl);(case h2=>rfl);all_goals (intro h;(try simp only [reduceCtorEq,zzz] at h)))|(apply v_read;(case hop=>(apply r_load1;rfl;(apply Cell.own;(case h=>(repeat (exact mhd _)));rfl)));(case hd=>rfl))|(apply v_box;(case hx=>rfl);(case hz=>rfl);(case hd=>rfl);intro b)|fail)
  · refine v_ret [] (outsA1 rfl rfl) (by repeat (exact List.nil_sublist _)) ?_
    exact ⟨rfl,rfl,_,rfl,fun h=>by cases h⟩
  refine v_call (μ1:=[]) (μ2:=_) rfl q1 (List.Perm.refl _) rfl ?_
  rintro _ G1 _ - ⟨rfl,rfl,b1,rfl,hb1⟩
  cases b1
  · repeat' (first|(apply v_take;(case hg=>rfl))|(apply v_pure;(case hop=>first|(apply p_move <;> rfl)|(apply p_pickF <;> rfl)|(apply p_fieldAddrB <;> rfl)|fail);(case hd=>rfl))|(apply v_read;(case hop=>(apply r_load1;rfl;(apply Cell.own;(case h=>(repeat (exact mhd _)));rfl)));(case hd=>rfl))|fail)
    refine v_call (μ1:=[]) (μ2:=_) rfl q2 (List.Perm.refl _) rfl ?_
    rintro _ G2 _ - ⟨rfl,rfl,b2,rfl,hb2⟩
    cases b2
    · repeat' (first|apply v_nil|(apply v_pure;(case hop=>first|(apply p_assign <;> rfl)|(apply p_pickF <;> rfl)|fail);(case hd=>rfl))|fail)
      refine v_ret [] (outsA1 rfl rfl) (by repeat (exact List.nil_sublist _)) ?_
      exact ⟨rfl,rfl,_,rfl,fun _=>⟨by omega,hb1 rfl,hb2 rfl⟩⟩
    · repeat' (first|apply v_nil|(apply v_pure;(case hop=>first|(apply p_assign <;> rfl)|(apply p_pickF <;> rfl)|fail);(case hd=>rfl))|fail)
      refine v_ret [] (outsA1 rfl rfl) (by repeat (exact List.nil_sublist _)) ?_
      exact ⟨rfl,rfl,_,rfl,fun h=>by cases h⟩
  · repeat' (first|apply v_nil|(apply v_pass;(case hg=>rfl);(case hn=>rfl);(case hd=>rfl))|(apply v_pure;(case hop=>first|(apply p_move <;> rfl)|(apply p_assign <;> rfl)|(apply p_pickT <;> rfl)|(apply p_pickF <;> rfl)|fail);(case hd=>rfl))|fail)
    refine v_ret [] (outsA1 rfl rfl) (by repeat (exact List.nil_sublist _)) ?_
    exact ⟨rfl,rfl,_,rfl,fun h=>by cases h⟩
def GrowR (G:GH) (v:Value) (l:List Rc) (ν:OH):Prop := ∃ css:List (List Value),css.length = l.length ∧ (∀ (i:Nat) y cs,l[i]? = some y → css[i]? = some cs → RcR G y cs) ∧ Grow 42 12 v l.length css.flatten ν
theorem GrowR.none (G:GH):GrowR G (.slice none 0 0) [] []:=⟨[],rfl,fun i y cs h=>by simp at h,Grow.nil _ _⟩
theorem GrowR.le {G G':GH} (hle:GH.le G G') {v:Value} {l:List Rc} {ν:OH} (h:GrowR G v l ν):GrowR G' v l ν:=by
  obtain ⟨css,h1,h2,h3⟩:=h
  exact ⟨css,h1,fun i y cs hy hc=>(h2 i y cs hy hc).le hle,h3⟩
theorem GrowR.snoc {G:GH} {v':Value} {l:List Rc} {x:Rc} {rx:List Value} {ν':OH} {css:List (List Value)} (h1:css.length = l.length) (h2:∀ (i:Nat) y cs,l[i]? = some y → css[i]? = some cs → RcR G y cs) (h:Grow 42 12 v' (l.length + 1) (css.flatten ++ rx) ν') (hx:RcR G x rx):GrowR G v' (l ++ [x]) ν':=by
  refine ⟨css ++ [rx],by simp [h1],fun i y cs hy hc=>?_,by simpa using h⟩
  by_cases hi:i < l.length
  · rw [List.getElem?_append_left hi] at hy
    rw [List.getElem?_append_left (by omega)] at hc
    exact h2 i y cs hy hc
  · rw [List.getElem?_append_right (by omega)] at hy hc
    obtain ⟨k1,k2⟩:=List.getElem?_eq_some_iff.1 hy
    have e:i = l.length:=by simp at k1;omega
    subst e
    rw [Nat.sub_self] at hy
    rw [h1,Nat.sub_self] at hc
    simp only [List.getElem?_cons_zero,Option.some.injEq] at hy hc
    subst hy hc
    exact hx
theorem GrowR.rs {G G':GH} {v:Value} {l:List Rc} {ν:OH} (h:GrowR G v l ν) (hle:GH.le G G') (hG:∀ b o,(b,o) ∈ ν → G' b = some o):Rs G' v l:=by
  obtain ⟨css,h1,h2,h3⟩:=h
  refine Grow.sl h3 hG h1 fun i y cs hy hc=>?_
  have:=(h2 i y cs hy hc).le hle
  exact ⟨(rec_one this).1,this⟩
theorem rcR_nil {G:GH} {x:Rc} (h:x.image = []) (hc:x.cmd.ok) (hs:x.small):RcR G x (recL x.kind x.round x.node x.index x.cmd (.slice none 0 0)):=⟨_,rfl,hc,hs,by rw [h];exact Sl.nil⟩
def part1 (H:Hd):List Rc:=if 0 < H.base then [imgRec H.base H.image] else []
def part2 (H:Hd):List Rc:=part1 H ++ (if H.pr = 0 ∧ H.pn = 0 then [] else [promRec H.pr H.pn])
theorem recsOf_parts (H:Hd):recsOf H = part2 H ++ H.acc.map accRec ++ H.cho.map choRec:=by
  unfold recsOf part2 part1
  simp only [List.append_assoc]
theorem img_rcR {G:GH} {b:Int} {im:List Int} {iv:Value} (h:Sl G 1 (IntR .u8) iv im) (hs:(imgRec b im).small):RcR G (imgRec b im) (recL 4 0 0 b zeroC iv):=⟨iv,rfl,zeroC_ok,hs,h⟩
theorem records_s {G:GH} {H:Hd} {L:List Value} {n:Nat} (hh:HdV G H L) (g:Good n H) (hn:n ≤ 40) :
    Con Tryz.prog 49 #[.agg L.toArray] G [] (fun r G' μ'=>μ' = [] ∧ Rs G' r (recsOf H)):=by
  have hrok:=recs_ok g
  obtain ⟨iv,av,cv,rfl,hi,ha,hc⟩:=hh
  have him:=g.img
  have hbs:=g.base
  have hnacc:=g.nacc
  have hncho:=g.ncho
  have qb:=bclone_s hi (by omega)
  obtain ⟨A0,c0,rfl,hl0,hm0,-,-,hwx⟩:=id hi.openInt
  obtain ⟨A1,c1,rfl,hl1,hm1,hs1,hcp1,hcb1,hcc1,-⟩:=esOpen ha
  obtain ⟨A2,c2,rfl,hl2,hm2,hs2,hcp2,hcb2,hcc2,-⟩:=esOpen hc
  simp only [maxLen] at hm0 hm1 hm2
  rw [recsOf_parts] at hrok ⊢
  have hp1:(part1 H).length ≤ 1:=by unfold part1;split <;> simp
  have hp2:(part2 H).length ≤ 2:=by
    unfold part2
    rw [List.length_append]
    split <;> simp <;> omega
  have hp1o:∀ x ∈ part1 H,x.cmd.ok ∧ x.small:=fun x hx=>hrok x (by unfold part2;simp [hx])
  have hp2o:∀ x ∈ part2 H,x.cmd.ok ∧ x.small:=fun x hx=>hrok x (by simp [hx])
  (refine v_enter Tryz.func49 rfl Tryz.ntmps49 rfl ?_;intro B _)
  repeat' (first|apply v_seq|apply v_region|apply v_nil|(apply v_pure;(case hop=>first|(apply p_gt <;> rfl)|(apply p_assign <;> rfl)|(apply p_fieldAddrB <;> rfl)|fail);(case hd=>rfl))|(apply v_read;(case hop=>(apply r_load1;rfl;(apply Cell.own;(case h=>(repeat (exact mhd _)));rfl)));(case hd=>rfl))|(apply v_box;(case hx=>rfl);(case hz=>rfl);(case hd=>rfl);intro b)|fail)
  rename Nat=>hb
  refine v_cut (fun σ1 G' μ'=>GH.le G G' ∧ ∃ v ν,EnvHas σ1 [(3,v),(1,.pointer (some ⟨hb,0,none⟩))] ∧ GrowR G' v (part1 H) ν ∧ List.Sublist (ν ++ [(hb,hardO (hdL H.pr H.pn H.base (.slice A0 H.image.length c0) (.slice A1 H.acc.length c1) (.slice A2 H.cho.length c2)))]) μ') ?_ ?_
  · intro hcut
    refine v_cond rfl (fun h=>?_) (fun h=>?_)
    · rw [dec_true] at h
      have e1:part1 H = [imgRec H.base H.image]:=by unfold part1;rw [if_pos h]
      have hio:=hp1o _ (by rw [e1];exact List.mem_singleton.2 rfl)
      repeat' (fail)
      refine d_start _ (by kernel_rfl) (by kernel_rfl) (by kernel_rfl) (fun _ he=>he) ?_
      all_goals (apply dtk 0;(case hi=>rfl);(case hop=>(apply prd;apply p_move <;> rfl));(case hq=>kernel_rfl))
      all_goals (apply dtk 1;(case hi=>rfl);(case hop=>(apply prd;apply p_fieldAddrB <;> rfl));(case hq=>kernel_rfl))
      all_goals (apply dtk 2;(case hi=>rfl);(case hop=>first|(apply r_loadNo;(case hx=>rfl);(case h=>(repeat (fail)));(case hd=>(repeat (fail)));(case hn=>rfl))|(apply r_load1;rfl;(apply Cell.own;(case h=>(repeat (exact mhd _)));rfl))|(apply r_loadN;rfl;(apply CellsAt.own;(case h=>(repeat (fail))));rfl));(case hq=>kernel_rfl))
      all_goals (apply dtk 3;(case hi=>rfl);(case hop=>(apply prd;apply p_fieldAddrB <;> rfl));(case hq=>kernel_rfl))
      all_goals (apply dtk 4;(case hi=>rfl);(case hop=>first|(apply r_loadNo;(case hx=>rfl);(case h=>(repeat (fail)));(case hd=>(repeat (fail)));(case hn=>rfl))|(apply r_load1;rfl;(apply Cell.own;(case h=>(repeat (exact mhd _)));rfl))|(apply r_loadN;rfl;(apply CellsAt.own;(case h=>(repeat (fail))));rfl));(case hq=>kernel_rfl))
      all_goals ((apply d_call 5 (hs:=qb);(case hi=>rfl);(case hr=>kernel_rfl);  (case ha=>rfl);(case hp=>exact List.Perm.refl _);(case hd=>rfl);(case hν'=>intro e he;simp at he;simp [he]);rintro r1 _ ν1 - ⟨rfl,hg1⟩;obtain ⟨A4,c4,rfl,-,-⟩:=hg1.shape;refine d_frz ν1 (by repeat (exact PickA.here _)) (by intro e he;simp at he;simp [he]) ?_;intro G2 hle2 hG2;have k1:=img_rcR (b:=H.base) (im:=H.image) (hg1.ints hG2 hwx) hio.2))
      all_goals (apply dtk 6;(case hi=>rfl);(case hop=>(apply prd;apply p_build;(case hz=>rfl);(case hv=>(simp only [List.map_cons,List.map_nil];repeat (first|with_reducible exact evs_nil|(apply evs_cons;(case h1=>rfl)))));(case hb=>(apply bldL;repeat (first|exact bld_nil|(apply bld_cons;(case hpf=>rfl);(case hc=>rfl);(case hs=>rfl);(case hl=>rfl);(case ho=>((repeat (first|with_reducible exact ov_nil|apply ov_cons));done))))))));(case hq=>kernel_rfl))
      all_goals (apply d_buildSlice 7;(case hi=>rfl);(case hr=>kernel_rfl);(case hT=>infer_instance);(case hL=>infer_instance);(case hz=>rfl);(case hl=>rfl);(case hv=>(simp only [List.map_cons,List.map_nil];repeat (first|with_reducible exact evs_nil|(apply evs_cons;(case h1=>rfl)))));(case hp=>(apply pk_cons;(case hc=>rfl);(case hs=>rfl);(case h=>(with_reducible exact pk_nil));(case he=>((repeat (first|with_reducible exact ap_nil|apply ap_cons));done))));(case hb=>rfl);(case hd=>rfl);(case hν=>intro e he;exact he);intro bb)
      all_goals (apply d_append 8 (hg:=Grow.nil 42 12) (q':=1) (us:=recL 4 0 0 H.base zeroC (.slice A4 H.image.length c4)) (hp:=PickA.perm (by repeat (exact PickA.here _))) (hsrc:=Src.own (e:=42) (by repeat (exact mhd _)) rfl);(case hi=>rfl);(case hr=>kernel_rfl);(case hT=>infer_instance);(case hL=>infer_instance);(case hzs=>rfl);(case hsz=>omega);(case hs=>rfl);(case hx=>rfl);(case hb=>omega);(case hb'=>simp only [maxLen];omega);(case hd=>rfl);(case h1=>rfl);(case hν=>intro e he;(simp at he;simp [he];done));intro v3 n3 hg3)
      all_goals (apply dtk 9;(case hi=>rfl);(case hop=>(apply prd;apply p_assign <;> rfl));(case hq=>kernel_rfl))
      all_goals (apply d_done;(case hr=>kernel_rfl))
      rw [e1] at hcut
      refine hcut _ _ _ ⟨hle2,v3,n3,⟨rfl,rfl,trivial⟩,?_,(List.Sublist.append_left (by repeat (first|exact List.Sublist.refl _|apply List.Sublist.cons)) _)⟩
      exact GrowR.snoc (css:=[]) (l:=[]) rfl (fun i y cs h=>by simp at h) hg3 k1
    · rw [dec_false] at h
      have e1:part1 H = []:=by unfold part1;rw [if_neg h]
      rw [e1] at hcut
      apply v_skip
      exact hcut _ _ _ ⟨GH.le_refl _,.slice none 0 0,[],⟨rfl,rfl,trivial⟩,GrowR.none _,(by repeat (exact List.Sublist.refl _))⟩
  rintro σ1 G1 μ1 ⟨hle1,v1,ν1,hE,hg1,hμ⟩
  refine v_drop hμ (v_has hE ?_)
  clear hE hμ
  repeat' (first|apply v_seq|apply v_region|apply v_nil|(apply v_pure;(case hop=>first|(apply p_fieldAddrB <;> rfl)|(apply p_build;(case hz=>rfl);(case hv=>(simp only [List.map_cons,List.map_nil];repeat (with_reducible exact evs_nil)));(case hb=>(apply bldL;repeat (exact bld_nil))))|fail);(case hd=>rfl))|(apply v_pure;(case hop=>(apply neBal;(case hx=>rfl);(case hy=>rfl)));(case hd=>rfl))|(apply v_read;(case hop=>(apply r_loadNo;(case hx=>rfl);(case h=>(repeat (first|exact mhd _|apply List.mem_append_right)));(case hd=>(repeat (first|with_reducible exact dt_nil|apply dt_here)));(case hn=>rfl)));(case hd=>rfl))|fail)
  refine v_cut (fun σ1 G' μ'=>GH.le G1 G' ∧ ∃ v ν,EnvHas σ1 [(3,v),(1,.pointer (some ⟨hb,0,none⟩))] ∧ GrowR G' v (part2 H) ν ∧ List.Sublist (ν ++ [(hb,hardO (hdL H.pr H.pn H.base (.slice A0 H.image.length c0) (.slice A1 H.acc.length c1) (.slice A2 H.cho.length c2)))]) μ') ?_ ?_
  · intro hcut
    refine v_cond rfl (fun h=>?_) (fun h=>?_)
    · have h':¬ (H.pr = 0 ∧ H.pn = 0):=fun hh=>by rw [dec_pos hh] at h;cases h
      have e2:part2 H = part1 H ++ [promRec H.pr H.pn]:=by unfold part2;rw [if_neg h']
      have hio:=hp2o _ (by rw [e2];exact List.mem_append_right _ (List.mem_singleton.2 rfl))
      obtain ⟨css,hcl,hcr,hgr⟩:=id hg1
      repeat' (first|(refine hcut _ _ _ ?_;exact ⟨GH.le_refl _,_,_,⟨rfl,rfl,trivial⟩,by rw [e2];exact GrowR.snoc hcl hcr (by assumption) (rcR_nil rfl hio.1 hio.2),(List.Sublist.append_left (by repeat (first|exact List.Sublist.refl _|apply List.Sublist.cons)) _)⟩)|apply v_region|apply v_nil|(apply v_pure;(case hop=>first|(apply p_move <;> rfl)|(apply p_assign <;> rfl)|(apply p_fieldAddrB <;> rfl)|(apply p_build;(case hz=>rfl);(case hv=>(simp only [List.map_cons,List.map_nil];repeat (first|with_reducible exact evs_nil|(apply evs_cons;(case h1=>rfl)))));(case hb=>(apply bldL;repeat (first|exact bld_nil|(apply bld_cons;(case hpf=>rfl);(case hc=>rfl);(case hs=>rfl);(case hl=>rfl);(case ho=>((repeat (first|with_reducible exact ov_nil|apply ov_cons));done)))))))|fail);(case hd=>rfl))|(apply v_append (hg:=hgr) (m':=1) (us:=recL 1 H.pr H.pn 0 zeroC (.slice none 0 0)) (hp:=PickA.perm (by repeat (first|exact PickA.here _|apply PickA.cons))) (hsrc:=Src.own (e:=42) (by repeat (exact mhd _)) rfl);(case hzs=>rfl);(case hsz=>omega);(case hs=>rfl);(case hx=>rfl);(case hb=>omega);(case hb'=>simp only [maxLen];omega);(case hd=>rfl);(case h1=>rfl);intro v3 n3 hg3)|(apply v_read;(case hop=>(apply r_loadNo;(case hx=>rfl);(case h=>(repeat (first|exact mhd _|apply List.mem_append_right)));(case hd=>(repeat (first|with_reducible exact dt_nil|apply dt_here)));(case hn=>rfl)));(case hd=>rfl))|(apply v_buildSlice;(case hz=>rfl);(case hi=>rfl);(case hv=>(simp only [List.map_cons,List.map_nil];repeat (first|with_reducible exact evs_nil|(apply evs_cons;(case h1=>rfl)))));(case hp=>(apply pk_cons;(case hc=>rfl);(case hs=>rfl);(case h=>(with_reducible exact pk_nil));(case he=>((repeat (first|with_reducible exact ap_nil|apply ap_cons));done))));(case hb=>rfl);(case hd=>rfl);intro b)|fail)
    · have h':H.pr = 0 ∧ H.pn = 0:=Decidable.byContradiction fun hh=>by rw [dec_neg hh] at h;cases h
      have e2:part2 H = part1 H:=by unfold part2;rw [if_pos h',List.append_nil]
      apply v_skip
      refine hcut _ _ _ ?_
      exact ⟨GH.le_refl _,v1,ν1,⟨rfl,rfl,trivial⟩,by rw [e2];exact hg1,List.Sublist.refl _⟩
  rintro σ2 G2 μ2 ⟨hle2,v2,ν2,hE,hg2,hμ⟩
  refine v_drop hμ (v_has hE ?_)
  clear hE hμ
  have hle:=GH.le_trans hle1 hle2
  have hcp1':=fun i h=>(hcp1 i h).le hle
  have hcp2':=fun i h=>(hcp2 i h).le hle
  clear hcp1 hcp2
  repeat' (first|apply v_seq|apply v_region|apply v_nil|apply v_block|(apply v_pure;(case hop=>first|(apply p_move <;> rfl)|(apply p_lenSlice <;> rfl)|(apply p_fieldAddrB <;> rfl)|fail);(case hd=>rfl))|(apply v_read;(case hop=>(apply r_load1;rfl;(apply Cell.own;(case h=>(repeat (first|exact mhd _|apply List.mem_append_right)));rfl)));(case hd=>rfl))|fail)
  refine v_loop [33,3,31,32,1] (fun us G' μ'=>G' = G2 ∧ ∃ k v ν,k ≤ H.acc.length ∧ us = [Value.int .i64 (k:Nat),v,.slice A1 H.acc.length c1,.int .i64 (H.acc.length:Nat),.pointer (some ⟨hb,0,none⟩)] ∧ GrowR G2 v (part2 H ++ (H.acc.take k).map accRec) ν ∧ μ' = ν ++ [(hb,hardO (hdL H.pr H.pn H.base (.slice A0 H.image.length c0) (.slice A1 H.acc.length c1) (.slice A2 H.cho.length c2)))]) (fun us=>H.acc.length - (headI us).toNat) rfl ⟨rfl,0,v2,ν2,by omega,rfl,by simpa using hg2,rfl⟩ ?_
  rintro us G' _ ⟨rfl,k,v,ν,hk,rfl,hgk,rfl⟩
  by_cases hlt:k < H.acc.length
  · have e1:((k:Nat):Int).toNat = k:=by omega
    have kc:=hcp1' k hlt
    have hA:=hs1 (by omega)
    have htk:part2 H ++ (H.acc.take (k + 1)).map accRec = (part2 H ++ (H.acc.take k).map accRec) ++ [accRec H.acc[k]]:=by
      rw [List.take_succ_eq_append_getElem hlt,List.map_append,← List.append_assoc]
      rfl
    have hio:=hrok (accRec H.acc[k]) (by
      simp only [List.mem_append,List.mem_map]
      exact .inl (.inr ⟨_,List.getElem_mem hlt,rfl⟩))
    have hln:(part2 H ++ (H.acc.take k).map accRec).length ≤ 100:=by
      rw [List.length_append,List.length_map,List.length_take]
      omega
    obtain ⟨css,hcl,hcr,hgr⟩:=id hgk
    generalize hxe:H.acc[k] = e at *
    generalize part2 H ++ (H.acc.take k).map accRec = l0 at *
    repeat' (first|apply v_seq|apply v_region|apply v_nil|apply v_skip|apply v_block|apply v_blk|(apply v_pure;(case hop=>first|(apply p_move <;> rfl)|(apply p_lt <;> rfl)|(apply p_assign <;> rfl)|(apply p_fieldAddrB <;> rfl)|(apply p_add;(case hx=>rfl);(case hy=>rfl);(case h=>omega))|(apply p_indexAddrS;(case hx=>rfl);(case hi=>rfl);(case h0=>omega);(case h=>omega);(case hA=>assumption))|(apply p_build;(case hz=>rfl);(case hv=>(simp only [List.map_cons,List.map_nil];repeat (first|with_reducible exact evs_nil|(apply evs_cons;(case h1=>rfl)))));(case hb=>(apply bldL;repeat (first|exact bld_nil|(apply bld_cons;(case hpf=>rfl);(case hc=>rfl);(case hs=>rfl);(case hl=>rfl);(case ho=>((repeat (first|with_reducible exact ov_nil|apply ov_cons));done)))))))|fail);(case hd=>rfl))|(apply v_cond;(case hc=>rfl);all_goals (intro h;(try simp only [reduceCtorEq,zzz] at h);first|(exfalso;omega)|skip))|(apply v_read;(case hop=>(apply r_loadN;rfl;exact CellsAt.frozen kc;rfl));(case hd=>rfl))|(apply v_append (hg:=hgr) (m':=1) (us:=recL 2 e.round e.node e.index e.cmd (.slice none 0 0)) (hp:=PickA.perm (by repeat (first|exact PickA.here _|apply PickA.cons))) (hsrc:=Src.own (e:=42) (by repeat (exact mhd _)) rfl);(case hzs=>rfl);(case hsz=>omega);(case hs=>rfl);(case hx=>rfl);(case hb=>omega);(case hb'=>simp only [maxLen];omega);(case hd=>rfl);(case h1=>rfl);intro v3 n3 hg3)|(apply v_read;(case hop=>first|(apply r_loadNo;(case hx=>rfl);(case h=>(repeat (exact mhd _)));(case hd=>(repeat (first|with_reducible exact dt_nil|apply dt_here)));(case hn=>rfl))|(apply r_load1;rfl;(apply Cell.own;(case h=>(repeat (exact mhd _)));rfl))|fail);(case hd=>rfl))|(apply v_buildSlice;(case hz=>rfl);(case hi=>rfl);(case hv=>(simp only [List.map_cons,List.map_nil];repeat (first|with_reducible exact evs_nil|(apply evs_cons;(case h1=>rfl)))));(case hp=>(apply pk_cons;(case hc=>rfl);(case hs=>rfl);(case h=>(with_reducible exact pk_nil));(case he=>((repeat (first|with_reducible exact ap_nil|apply ap_cons));done))));(case hb=>rfl);(case hd=>rfl);intro b)|(apply v_alloc;(case hz=>rfl);(case hd=>rfl);intro b)|(apply v_store;(case hp=>rfl);(case hx=>rfl);(case hc=>rfl);(case hsz=>rfl);(case h1=>rfl);(case hb=>(repeat (exact mhd _)));(case hfit=>exact nle rfl);(case hov=>((repeat (first|with_reducible exact ov_nil|apply ov_cons));done));(case hu=>repeat (first|exact Upd.here _ _|fail)))|fail)
    refine v_drop (ν:=n3 ++ [(hb,hardO (hdL H.pr H.pn H.base (.slice A0 H.image.length c0) (.slice A1 H.acc.length c1) (.slice A2 H.cho.length c2)))]) (List.Sublist.append_left (by repeat (first|exact List.Sublist.refl _|apply List.Sublist.cons)) _) ?_
    refine v_again rfl ⟨rfl,k + 1,v3,n3,by omega,rfl,?_,rfl⟩ (by simp [headI];omega)
    rw [htk]
    exact GrowR.snoc hcl hcr hg3 (rcR_nil rfl hio.1 hio.2)
  · have htk:part2 H ++ (H.acc.take k).map accRec = part2 H ++ H.acc.map accRec:=by rw [List.take_of_length_le (by omega)]
    rw [htk] at hgk
    repeat' (first|apply v_seq|apply v_region|apply v_nil|apply v_block|(apply v_exit;(case hp=>rfl))|(apply v_pure;(case hop=>first|(apply p_move <;> rfl)|(apply p_lt <;> rfl)|(apply p_lenSlice <;> rfl)|(apply p_fieldAddrB <;> rfl)|fail);(case hd=>rfl))|(apply v_cond;(case hc=>rfl);all_goals (intro h;(try simp only [reduceCtorEq,zzz] at h);first|(exfalso;omega)|skip))|(apply v_read;(case hop=>(apply r_load1;rfl;(apply Cell.own;(case h=>(repeat (first|exact mhd _|apply List.mem_append_right)));rfl)));(case hd=>rfl))|fail)
    clear htk hk hlt
    refine v_loop [51,3,49,50,1] (fun us G2 μ'=>G2 = G' ∧ ∃ k v ν,k ≤ H.cho.length ∧ us = [Value.int .i64 (k:Nat),v,.slice A2 H.cho.length c2,.int .i64 (H.cho.length:Nat),.pointer (some ⟨hb,0,none⟩)] ∧ GrowR G' v (part2 H ++ H.acc.map accRec ++ (H.cho.take k).map choRec) ν ∧ μ' = ν ++ [(hb,hardO (hdL H.pr H.pn H.base (.slice A0 H.image.length c0) (.slice A1 H.acc.length c1) (.slice A2 H.cho.length c2)))]) (fun us=>H.cho.length - (headI us).toNat) rfl ⟨rfl,0,v,ν,by omega,rfl,by simpa using hgk,rfl⟩ ?_
    rintro us _ _ ⟨rfl,k,v,ν,hk,rfl,hgk,rfl⟩
    by_cases hlt:k < H.cho.length
    · have e1:((k:Nat):Int).toNat = k:=by omega
      have kc:=hcp2' k hlt
      have hA:=hs2 (by omega)
      have htk:part2 H ++ H.acc.map accRec ++ (H.cho.take (k + 1)).map choRec = (part2 H ++ H.acc.map accRec ++ (H.cho.take k).map choRec) ++ [choRec H.cho[k]]:=by
        rw [List.take_succ_eq_append_getElem hlt,List.map_append,← List.append_assoc]
        rfl
      have hio:=hrok (choRec H.cho[k]) (by
        simp only [List.mem_append,List.mem_map]
        exact .inr ⟨_,List.getElem_mem hlt,rfl⟩)
      have hln:(part2 H ++ H.acc.map accRec ++ (H.cho.take k).map choRec).length ≤ 100:=by
        rw [List.length_append,List.length_append,List.length_map,List.length_map,List.length_take]
        omega
      obtain ⟨css,hcl,hcr,hgr⟩:=id hgk
      generalize hxe:H.cho[k] = e at *
      generalize part2 H ++ H.acc.map accRec ++ (H.cho.take k).map choRec = l0 at *
      repeat' (first|apply v_seq|apply v_region|apply v_nil|apply v_skip|apply v_block|apply v_blk|(apply v_pure;(case hop=>first|(apply p_move <;> rfl)|(apply p_lt <;> rfl)|(apply p_assign <;> rfl)|(apply p_fieldAddrB <;> rfl)|(apply p_add;(case hx=>rfl);(case hy=>rfl);(case h=>omega))|(apply p_indexAddrS;(case hx=>rfl);(case hi=>rfl);(case h0=>omega);(case h=>omega);(case hA=>assumption))|(apply p_build;(case hz=>rfl);(case hv=>(simp only [List.map_cons,List.map_nil];repeat (first|with_reducible exact evs_nil|(apply evs_cons;(case h1=>rfl)))));(case hb=>(apply bldL;repeat (first|exact bld_nil|(apply bld_cons;(case hpf=>rfl);(case hc=>rfl);(case hs=>rfl);(case hl=>rfl);(case ho=>((repeat (first|with_reducible exact ov_nil|apply ov_cons));done)))))))|fail);(case hd=>rfl))|(apply v_cond;(case hc=>rfl);all_goals (intro h;(try simp only [reduceCtorEq,zzz] at h);first|(exfalso;omega)|skip))|(apply v_read;(case hop=>(apply r_loadN;rfl;exact CellsAt.frozen kc;rfl));(case hd=>rfl))|(apply v_append (hg:=hgr) (m':=1) (us:=recL 3 0 0 e.index e.cmd (.slice none 0 0)) (hp:=PickA.perm (by repeat (first|exact PickA.here _|apply PickA.cons))) (hsrc:=Src.own (e:=42) (by repeat (exact mhd _)) rfl);(case hzs=>rfl);(case hsz=>omega);(case hs=>rfl);(case hx=>rfl);(case hb=>omega);(case hb'=>simp only [maxLen];omega);(case hd=>rfl);(case h1=>rfl);intro v3 n3 hg3)|(apply v_read;(case hop=>first|(apply r_loadNo;(case hx=>rfl);(case h=>(repeat (exact mhd _)));(case hd=>(repeat (first|with_reducible exact dt_nil|apply dt_here)));(case hn=>rfl))|(apply r_load1;rfl;(apply Cell.own;(case h=>(repeat (exact mhd _)));rfl))|fail);(case hd=>rfl))|(apply v_buildSlice;(case hz=>rfl);(case hi=>rfl);(case hv=>(simp only [List.map_cons,List.map_nil];repeat (first|with_reducible exact evs_nil|(apply evs_cons;(case h1=>rfl)))));(case hp=>(apply pk_cons;(case hc=>rfl);(case hs=>rfl);(case h=>(with_reducible exact pk_nil));(case he=>((repeat (first|with_reducible exact ap_nil|apply ap_cons));done))));(case hb=>rfl);(case hd=>rfl);intro b)|(apply v_alloc;(case hz=>rfl);(case hd=>rfl);intro b)|(apply v_store;(case hp=>rfl);(case hx=>rfl);(case hc=>rfl);(case hsz=>rfl);(case h1=>rfl);(case hb=>(repeat (exact mhd _)));(case hfit=>exact nle rfl);(case hov=>((repeat (first|with_reducible exact ov_nil|apply ov_cons));done));(case hu=>repeat (first|exact Upd.here _ _|fail)))|fail)
      refine v_drop (ν:=n3 ++ [(hb,hardO (hdL H.pr H.pn H.base (.slice A0 H.image.length c0) (.slice A1 H.acc.length c1) (.slice A2 H.cho.length c2)))]) (List.Sublist.append_left (by repeat (first|exact List.Sublist.refl _|apply List.Sublist.cons)) _) ?_
      refine v_again rfl ⟨rfl,k + 1,v3,n3,by omega,rfl,?_,rfl⟩ (by simp [headI];omega)
      rw [htk]
      exact GrowR.snoc hcl hcr hg3 (rcR_nil rfl hio.1 hio.2)
    · have htk:part2 H ++ H.acc.map accRec ++ (H.cho.take k).map choRec = part2 H ++ H.acc.map accRec ++ H.cho.map choRec:=by rw [List.take_of_length_le (by omega)]
      rw [htk] at hgk
      repeat' (first|apply v_seq|apply v_region|apply v_nil|(apply v_exit;(case hp=>rfl))|(apply v_pure;(case hop=>first|(apply p_move <;> rfl)|(apply p_lt <;> rfl)|(apply p_assign <;> rfl)|fail);(case hd=>rfl))|(apply v_cond;(case hc=>rfl);all_goals (intro h;(try simp only [reduceCtorEq,zzz] at h);first|(exfalso;omega)|skip))|fail)
      refine v_frz ν (by repeat (exact PickA.here _)) ?_
      intro G3 hle3 hG3
      refine v_ret [] (outsA1 rfl rfl) (by repeat (exact List.nil_sublist _)) ?_
      exact ⟨rfl,hgk.rs hle3 hG3⟩
theorem records20_s {G:GH} {H:Hd} {L:List Value} {n:Nat} (hh:HdV G H L) (g:Good n H) (hn:n ≤ 40) :
    Con Tryz.prog 15 #[.agg L.toArray] G [] (fun r G' μ'=>GrowR G' r (recsOf H) μ'):=by
  have hrok:=recs_ok g
  obtain ⟨iv,av,cv,rfl,hi,ha,hc⟩:=hh
  have him:=g.img
  have hbs:=g.base
  have hnacc:=g.nacc
  have hncho:=g.ncho
  have hmay:(H.pr = 0 ∧ H.pn = 0) ↔ ¬ 0 < H.pr:=by
    have:=g.may
    unfold mayP at this
    omega
  obtain ⟨A0,c0,rfl,hl0,hm0,-,-,hwx⟩:=id hi.openInt
  obtain ⟨A1,c1,rfl,hl1,hm1,hs1,hcp1,hcb1,hcc1,-⟩:=esOpen ha
  obtain ⟨A2,c2,rfl,hl2,hm2,hs2,hcp2,hcb2,hcc2,-⟩:=esOpen hc
  simp only [maxLen] at hm0 hm1 hm2
  rw [recsOf_parts] at hrok ⊢
  have hp1:(part1 H).length ≤ 1:=by unfold part1;split <;> simp
  have hp2:(part2 H).length ≤ 2:=by
    unfold part2
    rw [List.length_append]
    split <;> simp <;> omega
  have hp1o:∀ x ∈ part1 H,x.cmd.ok ∧ x.small:=fun x hx=>hrok x (by unfold part2;simp [hx])
  have hp2o:∀ x ∈ part2 H,x.cmd.ok ∧ x.small:=fun x hx=>hrok x (by simp [hx])
  (refine v_enter Tryz.func15 rfl Tryz.ntmps15 rfl ?_;intro B _)
  repeat' (first|apply v_seq|apply v_region|apply v_nil|(apply v_pure;(case hop=>first|(apply p_gt <;> rfl)|(apply p_assign <;> rfl)|(apply p_fieldAddrB <;> rfl)|fail);(case hd=>rfl))|(apply v_read;(case hop=>(apply r_load1;rfl;(apply Cell.own;(case h=>(repeat (exact mhd _)));rfl)));(case hd=>rfl))|(apply v_box;(case hx=>rfl);(case hz=>rfl);(case hd=>rfl);intro b)|fail)
  rename Nat=>hb
  refine v_cut (fun σ1 G' μ'=>GH.le G G' ∧ ∃ v ν,EnvHas σ1 [(3,v),(1,.pointer (some ⟨hb,0,none⟩))] ∧ GrowR G' v (part1 H) ν ∧ List.Sublist (ν ++ [(hb,hardO (hdL H.pr H.pn H.base (.slice A0 H.image.length c0) (.slice A1 H.acc.length c1) (.slice A2 H.cho.length c2)))]) μ') ?_ ?_
  · intro hcut
    refine v_cond rfl (fun h=>?_) (fun h=>?_)
    · rw [dec_true] at h
      have e1:part1 H = [imgRec H.base H.image]:=by unfold part1;rw [if_pos h]
      have hio:=hp1o _ (by rw [e1];exact List.mem_singleton.2 rfl)
      have k1:=img_rcR (b:=H.base) (im:=H.image) hi hio.2
      repeat' (first|(refine hcut _ _ _ ?_;exact ⟨GH.le_refl _,_,_,⟨rfl,rfl,trivial⟩,by rw [e1];exact GrowR.snoc (css:=[]) (l:=[]) rfl (fun i y cs h=>by simp at h) (by assumption) k1,(List.Sublist.append_left (by repeat (first|exact List.Sublist.refl _|apply List.Sublist.cons)) _)⟩)|apply v_region|apply v_nil|(apply v_pure;(case hop=>first|(apply p_move <;> rfl)|(apply p_assign <;> rfl)|(apply p_fieldAddrB <;> rfl)|(apply p_build;(case hz=>rfl);(case hv=>(simp only [List.map_cons,List.map_nil];repeat (first|with_reducible exact evs_nil|(apply evs_cons;(case h1=>rfl)))));(case hb=>(apply bldL;repeat (first|exact bld_nil|(apply bld_cons;(case hpf=>rfl);(case hc=>rfl);(case hs=>rfl);(case hl=>rfl);(case ho=>((repeat (first|with_reducible exact ov_nil|apply ov_cons));done))))))));(case hd=>rfl))|(apply v_append (hg:=Grow.nil 42 12) (m':=1) (us:=recL 4 0 0 H.base zeroC (.slice A0 H.image.length c0)) (hp:=PickA.perm (by repeat (exact PickA.here _))) (hsrc:=Src.own (e:=42) (by repeat (exact mhd _)) rfl);(case hzs=>rfl);(case hsz=>omega);(case hs=>rfl);(case hx=>rfl);(case hb=>omega);(case hb'=>simp only [maxLen];omega);(case hd=>rfl);(case h1=>rfl);intro v3 n3 hg3)|(apply v_read;(case hop=>(apply r_load1;rfl;(apply Cell.own;(case h=>(repeat (exact mhd _)));rfl)));(case hd=>rfl))|(apply v_buildSlice;(case hz=>rfl);(case hi=>rfl);(case hv=>(simp only [List.map_cons,List.map_nil];repeat (first|with_reducible exact evs_nil|(apply evs_cons;(case h1=>rfl)))));(case hp=>(apply pk_cons;(case hc=>rfl);(case hs=>rfl);(case h=>(with_reducible exact pk_nil));(case he=>((repeat (first|with_reducible exact ap_nil|apply ap_cons));done))));(case hb=>rfl);(case hd=>rfl);intro b)|fail)
    · rw [dec_false] at h
      have e1:part1 H = []:=by unfold part1;rw [if_neg h]
      rw [e1] at hcut
      apply v_skip
      exact hcut _ _ _ ⟨GH.le_refl _,.slice none 0 0,[],⟨rfl,rfl,trivial⟩,GrowR.none _,(by repeat (exact List.Sublist.refl _))⟩
  rintro σ1 G1 μ1 ⟨hle1,v1,ν1,hE,hg1,hμ⟩
  refine v_drop hμ (v_has hE ?_)
  clear hE hμ
  repeat' (first|apply v_seq|apply v_region|apply v_nil|(apply v_pure;(case hop=>first|(apply p_gt <;> rfl)|(apply p_fieldAddrB <;> rfl)|fail);(case hd=>rfl))|(apply v_read;(case hop=>(apply r_load1;rfl;(apply Cell.own;(case h=>(repeat (first|exact mhd _|apply List.mem_append_right)));rfl)));(case hd=>rfl))|fail)
  refine v_cut (fun σ1 G' μ'=>GH.le G1 G' ∧ ∃ v ν,EnvHas σ1 [(3,v),(1,.pointer (some ⟨hb,0,none⟩))] ∧ GrowR G' v (part2 H) ν ∧ List.Sublist (ν ++ [(hb,hardO (hdL H.pr H.pn H.base (.slice A0 H.image.length c0) (.slice A1 H.acc.length c1) (.slice A2 H.cho.length c2)))]) μ') ?_ ?_
  · intro hcut
    refine v_cond rfl (fun h=>?_) (fun h=>?_)
    · rw [dec_true] at h
      have h':¬ (H.pr = 0 ∧ H.pn = 0):=fun hh=>hmay.1 hh h
      have e2:part2 H = part1 H ++ [promRec H.pr H.pn]:=by unfold part2;rw [if_neg h']
      have hio:=hp2o _ (by rw [e2];exact List.mem_append_right _ (List.mem_singleton.2 rfl))
      obtain ⟨css,hcl,hcr,hgr⟩:=id hg1
      repeat' (first|(refine hcut _ _ _ ?_;exact ⟨GH.le_refl _,_,_,⟨rfl,rfl,trivial⟩,by rw [e2];exact GrowR.snoc hcl hcr (by assumption) (rcR_nil rfl hio.1 hio.2),(List.Sublist.append_left (by repeat (first|exact List.Sublist.refl _|apply List.Sublist.cons)) _)⟩)|apply v_region|apply v_nil|(apply v_pure;(case hop=>first|(apply p_move <;> rfl)|(apply p_assign <;> rfl)|(apply p_fieldAddrB <;> rfl)|(apply p_build;(case hz=>rfl);(case hv=>(simp only [List.map_cons,List.map_nil];repeat (first|with_reducible exact evs_nil|(apply evs_cons;(case h1=>rfl)))));(case hb=>(apply bldL;repeat (first|exact bld_nil|(apply bld_cons;(case hpf=>rfl);(case hc=>rfl);(case hs=>rfl);(case hl=>rfl);(case ho=>((repeat (first|with_reducible exact ov_nil|apply ov_cons));done))))))));(case hd=>rfl))|(apply v_append (hg:=hgr) (m':=1) (us:=recL 1 H.pr H.pn 0 zeroC (.slice none 0 0)) (hp:=PickA.perm (by repeat (first|exact PickA.here _|apply PickA.cons))) (hsrc:=Src.own (e:=42) (by repeat (exact mhd _)) rfl);(case hzs=>rfl);(case hsz=>omega);(case hs=>rfl);(case hx=>rfl);(case hb=>omega);(case hb'=>simp only [maxLen];omega);(case hd=>rfl);(case h1=>rfl);intro v3 n3 hg3)|(apply v_read;(case hop=>(apply r_loadNo;(case hx=>rfl);(case h=>(repeat (first|exact mhd _|apply List.mem_append_right)));(case hd=>(repeat (first|with_reducible exact dt_nil|apply dt_here)));(case hn=>rfl)));(case hd=>rfl))|(apply v_buildSlice;(case hz=>rfl);(case hi=>rfl);(case hv=>(simp only [List.map_cons,List.map_nil];repeat (first|with_reducible exact evs_nil|(apply evs_cons;(case h1=>rfl)))));(case hp=>(apply pk_cons;(case hc=>rfl);(case hs=>rfl);(case h=>(with_reducible exact pk_nil));(case he=>((repeat (first|with_reducible exact ap_nil|apply ap_cons));done))));(case hb=>rfl);(case hd=>rfl);intro b)|fail)
    · rw [dec_false] at h
      have e2:part2 H = part1 H:=by unfold part2;rw [if_pos (hmay.2 h),List.append_nil]
      apply v_skip
      refine hcut _ _ _ ?_
      exact ⟨GH.le_refl _,v1,ν1,⟨rfl,rfl,trivial⟩,by rw [e2];exact hg1,List.Sublist.refl _⟩
  rintro σ2 G2 μ2 ⟨hle2,v2,ν2,hE,hg2,hμ⟩
  refine v_drop hμ (v_has hE ?_)
  clear hE hμ
  have hle:=GH.le_trans hle1 hle2
  have hcp1':=fun i h=>(hcp1 i h).le hle
  have hcp2':=fun i h=>(hcp2 i h).le hle
  have hcb1':=fun i h=>(hcb1 i h).le hle
  have hcb2':=fun i h=>(hcb2 i h).le hle
  have hcc1':=fun i h=>(hcc1 i h).le hle
  have hcc2':=fun i h=>(hcc2 i h).le hle
  clear hcp1 hcp2 hcb1 hcb2 hcc1 hcc2
  repeat' (first|apply v_seq|apply v_region|apply v_nil|apply v_block|(apply v_pure;(case hop=>(apply p_assign <;> rfl));(case hd=>rfl))|fail)
  refine v_loop [4,3,1] (fun us G' μ'=>G' = G2 ∧ ∃ k v ν,k ≤ H.acc.length ∧ us = [Value.int .i64 (k:Nat),v,.pointer (some ⟨hb,0,none⟩)] ∧ GrowR G2 v (part2 H ++ (H.acc.take k).map accRec) ν ∧ μ' = ν ++ [(hb,hardO (hdL H.pr H.pn H.base (.slice A0 H.image.length c0) (.slice A1 H.acc.length c1) (.slice A2 H.cho.length c2)))]) (fun us=>H.acc.length - (headI us).toNat) rfl ⟨rfl,0,v2,ν2,by omega,rfl,by simpa using hg2,rfl⟩ ?_
  rintro us G' _ ⟨rfl,k,v,ν,hk,rfl,hgk,rfl⟩
  by_cases hlt:k < H.acc.length
  · have e1:((k:Nat):Int).toNat = k:=by omega
    have kc0:GH.cell? G' (((adr A1).add (k * 10)).add 0) = some (.int .i64 (H.acc[k]).index):=(hcp1' k hlt).cell (j:=0) rfl
    have kc1:=hcb1' k hlt
    have kc3:=hcc1' k hlt
    have hA:=hs1 (by omega)
    have htk:part2 H ++ (H.acc.take (k + 1)).map accRec = (part2 H ++ (H.acc.take k).map accRec) ++ [accRec H.acc[k]]:=by
      rw [List.take_succ_eq_append_getElem hlt,List.map_append,← List.append_assoc]
      rfl
    have hio:=hrok (accRec H.acc[k]) (by
      simp only [List.mem_append,List.mem_map]
      exact .inl (.inr ⟨_,List.getElem_mem hlt,rfl⟩))
    have hln:(part2 H ++ (H.acc.take k).map accRec).length ≤ 100:=by
      rw [List.length_append,List.length_map,List.length_take]
      omega
    obtain ⟨css,hcl,hcr,hgr⟩:=id hgk
    obtain ⟨Ag,cg,rfl,-,-⟩:=hgr.shape
    generalize hxe:H.acc[k] = e at *
    generalize part2 H ++ (H.acc.take k).map accRec = l0 at *
    repeat' (first|apply v_seq|apply v_region|apply v_nil|apply v_skip|apply v_block|(apply v_pure;(case hop=>first|(apply p_move <;> rfl)|(apply p_lt <;> rfl)|(apply p_lenSlice <;> rfl)|(apply p_fieldAddrB <;> rfl)|fail);(case hd=>rfl))|(apply v_cond;(case hc=>rfl);all_goals (intro h;(try simp only [reduceCtorEq,zzz] at h);first|(exfalso;omega)|skip))|(apply v_read;(case hop=>(apply r_load1;rfl;(apply Cell.own;(case h=>(repeat (first|exact mhd _|apply List.mem_append_right)));rfl)));(case hd=>rfl))|fail)
    refine d_start [(hb,hardO (hdL H.pr H.pn H.base (.slice A0 H.image.length c0) (.slice A1 H.acc.length c1) (.slice A2 H.cho.length c2)))] (by kernel_rfl) (by kernel_rfl) (by kernel_rfl) (by intro e he;(simp at he;simp [he];done)) ?_
    all_goals (apply dtk 0;(case hi=>rfl);(case hop=>(apply prd;apply p_move <;> rfl));(case hq=>kernel_rfl))
    all_goals (apply dtk 1;(case hi=>rfl);(case hop=>(apply prd;apply p_fieldAddrB <;> rfl));(case hq=>kernel_rfl))
    all_goals (apply dtk 2;(case hi=>rfl);(case hop=>(apply r_load1;rfl;(apply Cell.own;(case h=>(repeat (exact mhd _)));rfl)));(case hq=>kernel_rfl))
    all_goals (apply dtk 3;(case hi=>rfl);(case hop=>(apply prd;apply p_move <;> rfl));(case hq=>kernel_rfl))
    all_goals (apply dtk 4;(case hi=>rfl);(case hop=>(apply prd;apply p_indexAddrS;(case hx=>rfl);(case hi=>rfl);(case h0=>omega);(case h=>omega);(case hA=>assumption)));(case hq=>kernel_rfl))
    all_goals (apply dtk 5;(case hi=>rfl);(case hop=>(apply prd;apply p_fieldAddr <;> rfl));(case hq=>kernel_rfl))
    all_goals (apply dtk 6;(case hi=>rfl);(case hop=>((apply r_loadN;rfl;exact CellsAt.frozen kc1;rfl)));(case hq=>kernel_rfl))
    all_goals (apply dtk 7;(case hi=>rfl);(case hop=>(apply prd;apply p_fieldAddrB <;> rfl));(case hq=>kernel_rfl))
    all_goals (apply dtk 8;(case hi=>rfl);(case hop=>(apply r_load1;rfl;(apply Cell.own;(case h=>(repeat (exact mhd _)));rfl)));(case hq=>kernel_rfl))
    all_goals (apply dtk 9;(case hi=>rfl);(case hop=>(apply prd;apply p_move <;> rfl));(case hq=>kernel_rfl))
    all_goals (apply dtk 10;(case hi=>rfl);(case hop=>(apply prd;apply p_indexAddrS;(case hx=>rfl);(case hi=>rfl);(case h0=>omega);(case h=>omega);(case hA=>assumption)));(case hq=>kernel_rfl))
    all_goals (apply dtk 11;(case hi=>rfl);(case hop=>(apply prd;apply p_fieldAddr <;> rfl));(case hq=>kernel_rfl))
    all_goals (apply dtk 12;(case hi=>rfl);(case hop=>((apply r_load1;rfl;exact Cell.frozen kc0)));(case hq=>kernel_rfl))
    all_goals (apply dtk 13;(case hi=>rfl);(case hop=>(apply prd;apply p_fieldAddrB <;> rfl));(case hq=>kernel_rfl))
    all_goals (apply dtk 14;(case hi=>rfl);(case hop=>(apply r_load1;rfl;(apply Cell.own;(case h=>(repeat (exact mhd _)));rfl)));(case hq=>kernel_rfl))
    all_goals (apply dtk 15;(case hi=>rfl);(case hop=>(apply prd;apply p_move <;> rfl));(case hq=>kernel_rfl))
    all_goals (apply dtk 16;(case hi=>rfl);(case hop=>(apply prd;apply p_indexAddrS;(case hx=>rfl);(case hi=>rfl);(case h0=>omega);(case h=>omega);(case hA=>assumption)));(case hq=>kernel_rfl))
    all_goals (apply dtk 17;(case hi=>rfl);(case hop=>(apply prd;apply p_fieldAddr <;> rfl));(case hq=>kernel_rfl))
    all_goals (apply dtk 18;(case hi=>rfl);(case hop=>((apply r_loadN;rfl;exact CellsAt.frozen kc3;rfl)));(case hq=>kernel_rfl))
    all_goals (apply dtk 19;(case hi=>rfl);(case hop=>(apply prd;apply p_build;(case hz=>rfl);(case hv=>(simp only [List.map_cons,List.map_nil];repeat (first|with_reducible exact evs_nil|(apply evs_cons;(case h1=>rfl)))));(case hb=>(apply bldL;repeat (first|exact bld_nil|(apply bld_cons;(case hpf=>rfl);(case hc=>rfl);(case hs=>rfl);(case hl=>rfl);(case ho=>((repeat (first|with_reducible exact ov_nil|apply ov_cons));done))))))));(case hq=>kernel_rfl))
    all_goals (apply d_buildSlice 20;(case hi=>rfl);(case hr=>kernel_rfl);(case hT=>infer_instance);(case hL=>infer_instance);(case hz=>rfl);(case hl=>rfl);(case hv=>(simp only [List.map_cons,List.map_nil];repeat (first|with_reducible exact evs_nil|(apply evs_cons;(case h1=>rfl)))));(case hp=>(apply pk_cons;(case hc=>rfl);(case hs=>rfl);(case h=>(with_reducible exact pk_nil));(case he=>((repeat (first|with_reducible exact ap_nil|apply ap_cons));done))));(case hb=>rfl);(case hd=>rfl);(case hν=>intro e he;(simp at he;simp [he];done));intro bb)
    all_goals (apply d_append 21 (hg:=hgr) (q':=1) (us:=recL 2 e.round e.node e.index e.cmd (.slice none 0 0)) (hp:=PickA.perm (by repeat (first|exact PickA.here _|apply PickA.cons))) (hsrc:=Src.own (e:=42) (by repeat (exact mhd _)) rfl);(case hi=>rfl);(case hr=>kernel_rfl);(case hT=>infer_instance);(case hL=>infer_instance);(case hzs=>rfl);(case hsz=>omega);(case hs=>rfl);(case hx=>rfl);(case hb=>omega);(case hb'=>simp only [maxLen];omega);(case hd=>rfl);(case h1=>rfl);(case hν=>intro e he;(simp at he;simp [he];done));intro v3 n3 hg3)
    all_goals (apply dtk 22;(case hi=>rfl);(case hop=>(apply prd;apply p_assign <;> rfl));(case hq=>kernel_rfl))
    all_goals (apply d_done;(case hr=>kernel_rfl))
    repeat' (first|apply v_region|apply v_nil|apply v_blk|(apply v_pure;(case hop=>first|(apply p_move <;> rfl)|(apply p_assign <;> rfl)|(apply p_add;(case hx=>rfl);(case hy=>rfl);(case h=>omega))|fail);(case hd=>rfl))|fail)
    refine v_drop (ν:=n3 ++ [(hb,hardO (hdL H.pr H.pn H.base (.slice A0 H.image.length c0) (.slice A1 H.acc.length c1) (.slice A2 H.cho.length c2)))]) (List.Sublist.append_left (by repeat (first|exact List.Sublist.refl _|apply List.Sublist.cons)) _) ?_
    refine v_again rfl ⟨rfl,k + 1,v3,n3,by omega,rfl,?_,rfl⟩ (by simp [headI];omega)
    rw [htk]
    exact GrowR.snoc hcl hcr hg3 (rcR_nil rfl hio.1 hio.2)
  · have htk:part2 H ++ (H.acc.take k).map accRec = part2 H ++ H.acc.map accRec:=by rw [List.take_of_length_le (by omega)]
    rw [htk] at hgk
    repeat' (first|apply v_seq|apply v_region|apply v_nil|apply v_block|(apply v_exit;(case hp=>rfl))|(apply v_pure;(case hop=>first|(apply p_move <;> rfl)|(apply p_lt <;> rfl)|(apply p_assign <;> rfl)|(apply p_lenSlice <;> rfl)|(apply p_fieldAddrB <;> rfl)|fail);(case hd=>rfl))|(apply v_cond;(case hc=>rfl);all_goals (intro h;(try simp only [reduceCtorEq,zzz] at h);first|(exfalso;omega)|skip))|(apply v_read;(case hop=>(apply r_load1;rfl;(apply Cell.own;(case h=>(repeat (first|exact mhd _|apply List.mem_append_right)));rfl)));(case hd=>rfl))|fail)
    clear htk hk hlt
    refine v_loop [5,3,1] (fun us G2 μ'=>G2 = G' ∧ ∃ k v ν,k ≤ H.cho.length ∧ us = [Value.int .i64 (k:Nat),v,.pointer (some ⟨hb,0,none⟩)] ∧ GrowR G' v (part2 H ++ H.acc.map accRec ++ (H.cho.take k).map choRec) ν ∧ μ' = ν ++ [(hb,hardO (hdL H.pr H.pn H.base (.slice A0 H.image.length c0) (.slice A1 H.acc.length c1) (.slice A2 H.cho.length c2)))]) (fun us=>H.cho.length - (headI us).toNat) rfl ⟨rfl,0,v,ν,by omega,rfl,by simpa using hgk,rfl⟩ ?_
    rintro us G3 _ ⟨hG3,k,v,ν,hk,rfl,hgk,rfl⟩
    subst hG3
    by_cases hlt:k < H.cho.length
    · have e1:((k:Nat):Int).toNat = k:=by omega
      have kc0:GH.cell? G3 (((adr A2).add (k * 10)).add 0) = some (.int .i64 (H.cho[k]).index):=(hcp2' k hlt).cell (j:=0) rfl
      have kc3:=hcc2' k hlt
      have hA:=hs2 (by omega)
      have htk:part2 H ++ H.acc.map accRec ++ (H.cho.take (k + 1)).map choRec = (part2 H ++ H.acc.map accRec ++ (H.cho.take k).map choRec) ++ [choRec H.cho[k]]:=by
        rw [List.take_succ_eq_append_getElem hlt,List.map_append,← List.append_assoc]
        rfl
      have hio:=hrok (choRec H.cho[k]) (by
        simp only [List.mem_append,List.mem_map]
        exact .inr ⟨_,List.getElem_mem hlt,rfl⟩)
      have hln:(part2 H ++ H.acc.map accRec ++ (H.cho.take k).map choRec).length ≤ 100:=by
        rw [List.length_append,List.length_append,List.length_map,List.length_map,List.length_take]
        omega
      obtain ⟨css,hcl,hcr,hgr⟩:=id hgk
      obtain ⟨Ag,cg,rfl,-,-⟩:=hgr.shape
      generalize hxe:H.cho[k] = e at *
      generalize part2 H ++ H.acc.map accRec ++ (H.cho.take k).map choRec = l0 at *
      repeat' (first|apply v_seq|apply v_region|apply v_nil|apply v_skip|apply v_block|(apply v_pure;(case hop=>first|(apply p_move <;> rfl)|(apply p_lt <;> rfl)|(apply p_lenSlice <;> rfl)|(apply p_fieldAddrB <;> rfl)|fail);(case hd=>rfl))|(apply v_cond;(case hc=>rfl);all_goals (intro h;(try simp only [reduceCtorEq,zzz] at h);first|(exfalso;omega)|skip))|(apply v_read;(case hop=>(apply r_load1;rfl;(apply Cell.own;(case h=>(repeat (first|exact mhd _|apply List.mem_append_right)));rfl)));(case hd=>rfl))|fail)
      refine d_start [(hb,hardO (hdL H.pr H.pn H.base (.slice A0 H.image.length c0) (.slice A1 H.acc.length c1) (.slice A2 H.cho.length c2)))] (by kernel_rfl) (by kernel_rfl) (by kernel_rfl) (by intro e he;(simp at he;simp [he];done)) ?_
      all_goals (apply dtk 0;(case hi=>rfl);(case hop=>(apply prd;apply p_move <;> rfl));(case hq=>kernel_rfl))
      all_goals (apply dtk 1;(case hi=>rfl);(case hop=>(apply prd;apply p_fieldAddrB <;> rfl));(case hq=>kernel_rfl))
      all_goals (apply dtk 2;(case hi=>rfl);(case hop=>(apply r_load1;rfl;(apply Cell.own;(case h=>(repeat (exact mhd _)));rfl)));(case hq=>kernel_rfl))
      all_goals (apply dtk 3;(case hi=>rfl);(case hop=>(apply prd;apply p_move <;> rfl));(case hq=>kernel_rfl))
      all_goals (apply dtk 4;(case hi=>rfl);(case hop=>(apply prd;apply p_indexAddrS;(case hx=>rfl);(case hi=>rfl);(case h0=>omega);(case h=>omega);(case hA=>assumption)));(case hq=>kernel_rfl))
      all_goals (apply dtk 5;(case hi=>rfl);(case hop=>(apply prd;apply p_fieldAddr <;> rfl));(case hq=>kernel_rfl))
      all_goals (apply dtk 6;(case hi=>rfl);(case hop=>((apply r_load1;rfl;exact Cell.frozen kc0)));(case hq=>kernel_rfl))
      all_goals (apply dtk 7;(case hi=>rfl);(case hop=>(apply prd;apply p_fieldAddrB <;> rfl));(case hq=>kernel_rfl))
      all_goals (apply dtk 8;(case hi=>rfl);(case hop=>(apply r_load1;rfl;(apply Cell.own;(case h=>(repeat (exact mhd _)));rfl)));(case hq=>kernel_rfl))
      all_goals (apply dtk 9;(case hi=>rfl);(case hop=>(apply prd;apply p_move <;> rfl));(case hq=>kernel_rfl))
      all_goals (apply dtk 10;(case hi=>rfl);(case hop=>(apply prd;apply p_indexAddrS;(case hx=>rfl);(case hi=>rfl);(case h0=>omega);(case h=>omega);(case hA=>assumption)));(case hq=>kernel_rfl))
      all_goals (apply dtk 11;(case hi=>rfl);(case hop=>(apply prd;apply p_fieldAddr <;> rfl));(case hq=>kernel_rfl))
      all_goals (apply dtk 12;(case hi=>rfl);(case hop=>((apply r_loadN;rfl;exact CellsAt.frozen kc3;rfl)));(case hq=>kernel_rfl))
      all_goals (apply dtk 13;(case hi=>rfl);(case hop=>(apply prd;apply p_build;(case hz=>rfl);(case hv=>(simp only [List.map_cons,List.map_nil];repeat (first|with_reducible exact evs_nil|(apply evs_cons;(case h1=>rfl)))));(case hb=>(apply bldL;repeat (first|exact bld_nil|(apply bld_cons;(case hpf=>rfl);(case hc=>rfl);(case hs=>rfl);(case hl=>rfl);(case ho=>((repeat (first|with_reducible exact ov_nil|apply ov_cons));done))))))));(case hq=>kernel_rfl))
      all_goals (apply d_buildSlice 14;(case hi=>rfl);(case hr=>kernel_rfl);(case hT=>infer_instance);(case hL=>infer_instance);(case hz=>rfl);(case hl=>rfl);(case hv=>(simp only [List.map_cons,List.map_nil];repeat (first|with_reducible exact evs_nil|(apply evs_cons;(case h1=>rfl)))));(case hp=>(apply pk_cons;(case hc=>rfl);(case hs=>rfl);(case h=>(with_reducible exact pk_nil));(case he=>((repeat (first|with_reducible exact ap_nil|apply ap_cons));done))));(case hb=>rfl);(case hd=>rfl);(case hν=>intro e he;(simp at he;simp [he];done));intro bb)
      all_goals (apply d_append 15 (hg:=hgr) (q':=1) (us:=recL 3 0 0 e.index e.cmd (.slice none 0 0)) (hp:=PickA.perm (by repeat (first|exact PickA.here _|apply PickA.cons))) (hsrc:=Src.own (e:=42) (by repeat (exact mhd _)) rfl);(case hi=>rfl);(case hr=>kernel_rfl);(case hT=>infer_instance);(case hL=>infer_instance);(case hzs=>rfl);(case hsz=>omega);(case hs=>rfl);(case hx=>rfl);(case hb=>omega);(case hb'=>simp only [maxLen];omega);(case hd=>rfl);(case h1=>rfl);(case hν=>intro e he;(simp at he;simp [he];done));intro v3 n3 hg3)
      all_goals (apply dtk 16;(case hi=>rfl);(case hop=>(apply prd;apply p_assign <;> rfl));(case hq=>kernel_rfl))
      all_goals (apply d_done;(case hr=>kernel_rfl))
      repeat' (first|apply v_region|apply v_nil|apply v_blk|(apply v_pure;(case hop=>first|(apply p_move <;> rfl)|(apply p_assign <;> rfl)|(apply p_add;(case hx=>rfl);(case hy=>rfl);(case h=>omega))|fail);(case hd=>rfl))|fail)
      refine v_drop (ν:=n3 ++ [(hb,hardO (hdL H.pr H.pn H.base (.slice A0 H.image.length c0) (.slice A1 H.acc.length c1) (.slice A2 H.cho.length c2)))]) (List.Sublist.append_left (by repeat (first|exact List.Sublist.refl _|apply List.Sublist.cons)) _) ?_
      refine v_again rfl ⟨rfl,k + 1,v3,n3,by omega,rfl,?_,rfl⟩ (by simp [headI];omega)
      rw [htk]
      exact GrowR.snoc hcl hcr hg3 (rcR_nil rfl hio.1 hio.2)
    · have htk:part2 H ++ H.acc.map accRec ++ (H.cho.take k).map choRec = part2 H ++ H.acc.map accRec ++ H.cho.map choRec:=by rw [List.take_of_length_le (by omega)]
      rw [htk] at hgk
      repeat' (first|apply v_seq|apply v_region|apply v_nil|(apply v_exit;(case hp=>rfl))|(apply v_pure;(case hop=>first|(apply p_move <;> rfl)|(apply p_lt <;> rfl)|(apply p_assign <;> rfl)|(apply p_lenSlice <;> rfl)|(apply p_fieldAddrB <;> rfl)|fail);(case hd=>rfl))|(apply v_cond;(case hc=>rfl);all_goals (intro h;(try simp only [reduceCtorEq,zzz] at h);first|(exfalso;omega)|skip))|(apply v_read;(case hop=>(apply r_load1;rfl;(apply Cell.own;(case h=>(repeat (first|exact mhd _|apply List.mem_append_right)));rfl)));(case hd=>rfl))|fail)
      exact v_ret ν (outsA1 rfl rfl) (List.sublist_append_left _ _) hgk
end Go.Proofs.YtpemabgfmnhhnaaGreatDoor
/-
  crc, in plain Lean: four bits at a time is bit by bit.
-/
set_option linter.unusedVariables false
namespace Go.Proofs.YtpemabgfmnhhnaaGreatDoor
abbrev R32:=BitVec 32
def poly:R32:=0xedb88320#32
def bit1 (r:R32):R32:=(r >>> 1) ^^^ (if r.getLsbD 0 then poly else 0#32)
def tabL:List Nat:=[0x00000000,0x1db71064,0x3b6e20c8,0x26d930ac,0x76dc4190,0x6b6b51f4,0x4db26158,0x5005713c,0xedb88320,0xf00f9344,0xd6d6a3e8,0xcb61b38c,0x9b64c2b0,0x86d3d2d4,0xa00ae278,0xbdbdf21c]
def tab (i:Nat):R32:=BitVec.ofNat 32 (tabL.getD i 0)
def quad (r:R32):R32:=(r >>> 4) ^^^ tab (r &&& 15#32).toNat
theorem bit1_xor (a b:R32):bit1 (a ^^^ b) = bit1 a ^^^ bit1 b:=by
  unfold bit1
  rw [BitVec.ushiftRight_xor_distrib,BitVec.getLsbD_xor]
  generalize a >>> 1 = x
  generalize b >>> 1 = y
  have e:(if (a.getLsbD 0 ^^ b.getLsbD 0) = true then poly else 0#32) = (if a.getLsbD 0 = true then poly else 0#32) ^^^ (if b.getLsbD 0 = true then poly else 0#32):=by
    cases a.getLsbD 0 <;> cases b.getLsbD 0 <;> simp
  rw [e]
  apply BitVec.eq_of_getLsbD_eq
  intro i hi
  simp only [BitVec.getLsbD_xor]
  generalize x.getLsbD i = p
  generalize y.getLsbD i = q
  generalize BitVec.getLsbD (if a.getLsbD 0 = true then poly else 0#32) i = s
  generalize BitVec.getLsbD (if b.getLsbD 0 = true then poly else 0#32) i = t
  cases p <;> cases q <;> cases s <;> cases t <;> rfl
theorem bit1_even {a:R32} (h:a.getLsbD 0 = false):bit1 a = a >>> 1:=by
  unfold bit1
  rw [h]
  simp
def bit4 (r:R32):R32:=bit1 (bit1 (bit1 (bit1 r)))
theorem bit4_xor (a b:R32):bit4 (a ^^^ b) = bit4 a ^^^ bit4 b:=by
  unfold bit4
  rw [bit1_xor,bit1_xor,bit1_xor,bit1_xor]
theorem bit4_low:∀ i:Fin 16,bit4 (BitVec.ofNat 32 i.val) = tab i.val:=by decide +kernel
theorem bit4_high (x:R32):bit4 ((x >>> 4) <<< 4) = x >>> 4:=by
  unfold bit4
  have h1:((x >>> 4) <<< 4:R32).getLsbD 0 = false:=by simp
  rw [bit1_even h1]
  have h2:(((x >>> 4) <<< 4:R32) >>> 1).getLsbD 0 = false:=by simp
  rw [bit1_even h2]
  have h3:((((x >>> 4) <<< 4:R32) >>> 1) >>> 1).getLsbD 0 = false:=by simp
  rw [bit1_even h3]
  have h4:(((((x >>> 4) <<< 4:R32) >>> 1) >>> 1) >>> 1).getLsbD 0 = false:=by simp
  rw [bit1_even h4]
  apply BitVec.eq_of_getLsbD_eq
  intro i hi
  simp only [BitVec.getLsbD_ushiftRight,BitVec.getLsbD_shiftLeft]
  by_cases h:4 + i < 32
  · simp [show 1 + (1 + (1 + (1 + i))) < 32 by omega,show ¬ 1 + (1 + (1 + (1 + i))) < 4 by omega,show 4 + (1 + (1 + (1 + (1 + i))) - 4) = 4 + i by omega]
  · have e:x.getLsbD (4 + i) = false:=BitVec.getLsbD_of_ge _ _ (by omega)
    simp [e,show 4 + (1 + (1 + (1 + (1 + i))) - 4) = 4 + i by omega]
theorem split4 (x:R32):x = ((x >>> 4) <<< 4) ^^^ (x &&& 15#32):=by
  apply BitVec.eq_of_getLsbD_eq
  intro i hi
  have k15:∀ j:Fin 32,(15#32).getLsbD j.val = decide (j.val < 4):=by decide
  have:=k15 ⟨i,hi⟩
  simp only at this
  simp only [BitVec.getLsbD_xor,BitVec.getLsbD_shiftLeft,BitVec.getLsbD_ushiftRight,BitVec.getLsbD_and,this]
  by_cases h:i < 4
  · simp [h]
  · simp [h,hi,show 4 + (i - 4) = i by omega]
theorem quad_eq (x:R32):bit4 x = quad x:=by
  have h15:(x &&& 15#32).toNat < 16:=by
    have:(x &&& 15#32).toNat ≤ 15:=by
      rw [BitVec.toNat_and]
      exact Nat.and_le_right
    omega
  have hl:=bit4_low ⟨_,h15⟩
  simp only [BitVec.ofNat_toNat,BitVec.setWidth_eq] at hl
  conv=>lhs;rw [split4 x]
  rw [bit4_xor,bit4_high,hl]
  rfl
def turnR (r:R32) (c:Int):R32:=quad (quad (r ^^^ BitVec.ofInt 32 c))
def bit8 (r:R32):R32:=bit4 (bit4 r)
theorem turn_eq (r:R32) (c:Int):turnR r c = bit8 (r ^^^ BitVec.ofInt 32 c):=by
  unfold turnR bit8
  rw [quad_eq,quad_eq]
def crcR (l:List Int):R32:=l.foldl turnR (BitVec.allOnes 32)
def crcN (l:List Int):Nat:=(~~~ crcR l).toNat
theorem crcN_lt (l:List Int):crcN l < 4294967296:=(~~~ crcR l).isLt
def sumB (l:List Int):List Int:=[((crcN l % 256:Nat):Int),((crcN l / 256 % 256:Nat):Int),((crcN l / 65536 % 256:Nat):Int),((crcN l / 16777216 % 256:Nat):Int)]
theorem sumB_len (l:List Int):(sumB l).length = 4:=rfl
theorem sumB_wf (l:List Int):∀ x ∈ sumB l,0 ≤ x ∧ x ≤ 255:=by
  intro x hx
  simp only [sumB,List.mem_cons,List.not_mem_nil,or_false] at hx
  rcases hx with rfl|rfl|rfl|rfl <;> omega
end Go.Proofs.YtpemabgfmnhhnaaGreatDoor
/-
  VX, MAPS: a block of ours that is a map, as a list of keys and values; reads, writes, deletions; loops over it.
-/
set_option linter.unusedVariables false
set_option linter.unusedSimpArgs false
set_option linter.unusedSectionVars false
namespace Go.Vx
open Go
open Go.ChangeMaps (setBlock)
attribute [local semireducible] Vc DVc Con PureOp ReadOp MoveOp
structure KeyD (P:Program) (k:TypeId) {α:Type} [DecidableEq α] (mk:α → Value) (d:TypeDesc):Prop where
  und:P.underlying k = some d
  same:∀ a b,Instr.sameNow d (mk a) (mk b) = some (decide (a = b))
  check:∀ (w:World) e a,(Instr.checkKey e 10000 k (mk a)).run P w = .ok () w
  bits:∀ a,Instr.sameBits 10000 (mk a) (mk a) = true
class KeyT (P:Program) (k:TypeId) {α:Type} [DecidableEq α] (mk:α → Value):Prop where
  h:∃ d,KeyD P k mk d
section
variable {α:Type} [DecidableEq α] {mk:α → Value} {P:Program}
end
section
variable {α:Type} [DecidableEq α] {mk:α → Value} {P:Program} {ty:TypeId} {σ:Env} {G:GH} {μ r:OH} {t k e:TypeId} {bytes sz:Nat} {agg:Bool} {zero:Value}
end
section
variable {α:Type} [DecidableEq α] {mk:α → Value} {P:Program} {fn:Func} {n:Nat} {B:Base} {Φ:Value → GH → OH → Prop} {kk:List It} {σ:Env} {G:GH} {μ r:OH} {all:Array Oper} {rest:List Oper} {d:Nat} {ty:TypeId} {pos:String} {af:Array Edge} {t k e:TypeId} {bytes sz:Nat} {agg:Bool} {zero:Value}
end
end Go.Vx
/-
  VX, LOOPS OVER A FUNCTION: what an iterator gives, and the statement 'for x := range seq'.
-/
set_option linter.unusedVariables false
set_option linter.unusedSimpArgs false
set_option linter.unusedSectionVars false
namespace Go.Vx
open Go
attribute [local semireducible] Vc DVc Con PureOp ReadOp MoveOp
section
variable {P:Program} {fn:Func} {n:Nat} {B:Base} {Φ:Value → GH → OH → Prop} {k:List It} {σ:Env} {G:GH} {μ:OH} {all:Array Oper} {rest:List Oper} {d:Nat} {ty:TypeId} {pos:String} {af:Array Edge}
end
end Go.Vx
/-
  VX, BITS of numbers of 64 bits without sign, as natural numbers; what the program's text asks of maps beside.
-/
set_option linter.unusedVariables false
set_option linter.unusedSimpArgs false
namespace Go.Vx
open Go
attribute [local semireducible] Vc DVc Con PureOp ReadOp MoveOp
abbrev uv (x:Nat):Value:=.int .u64 (x:Nat)
theorem wrap_uv {x:Nat} (h:x < 2 ^ 64):IntKind.u64.wrap (x:Nat) = (x:Nat):=by
  have e:IntKind.u64.wrap (x:Nat) = ((x:Nat):Int) % (2 ^ 64:Int):=by
    simp [IntKind.wrap,IntKind.signed,IntKind.bits]
  rw [e]
  omega
section
variable {P:Program} {ty:TypeId} {σ:Env} {t t':TypeId}
theorem p_orU {x y:Operand} {a b:Nat} (hx:Env.ev σ x = some (uv a)) (hy:Env.ev σ y = some (uv b)) (ha:a < 2 ^ 64) (hb:b < 2 ^ 64):PureOp P (.binOp .or t x y t') ty σ (uv (a ||| b)):=by
  have h:=p_or (P:=P) (ty:=ty) (t:=t) (t':=t') hx hy
  have e:(BitVec.ofInt IntKind.u64.bits (a:Nat) ||| BitVec.ofInt IntKind.u64.bits (b:Nat)).toNat = a ||| b:=by
    rw [BitVec.toNat_or]
    simp only [BitVec.toNat_ofInt,IntKind.bits]
    congr 1 <;> omega
  rw [e,wrap_uv (Nat.or_lt_two_pow ha hb)] at h
  exact h
theorem p_shlU {x y:Operand} {a n:Nat} {k:IntKind} (hx:Env.ev σ x = some (uv a)) (hy:Env.ev σ y = some (.int k (n:Nat))) (hn:n < 64) (h:a * 2 ^ n < 2 ^ 64):PureOp P (.binOp .shl t x y t') ty σ (uv (a * 2 ^ n)):=by
  have e:IntKind.u64.wrap ((a:Nat) * 2 ^ n) = (a * 2 ^ n:Nat):=by
    have:=wrap_uv h
    rwa [Int.natCast_mul,Int.natCast_pow] at this
  intro dst pos af g ρ hρ w
  have e1:min n IntKind.u64.bits = n:=Nat.min_eq_left (by simp [IntKind.bits];omega)
  have e2:¬ ((n:Nat):Int) < 0:=by omega
  simp [execOp,hρ _ _ hx,hρ _ _ hy,eqGuard,binOp,Op.shift,e2,e1]
  exact e
end
end Go.Vx
/-
  Numbers of 32 bits without sign, as bit vectors.
-/
set_option linter.unusedSimpArgs false
set_option linter.unusedVariables false
namespace Go.Proofs.YtpemabgfmnhhnaaGreatDoor
open Go Go.Vx
abbrev rv (r:R32):Value:=.int .u32 (r.toNat:Int)
theorem wrap32 (r:R32):IntKind.u32.wrap (r.toNat:Int) = (r.toNat:Int):=by
  have e:IntKind.u32.wrap (r.toNat:Int) = ((r.toNat:Int)) % (2 ^ 32:Int):=by
    simp [IntKind.wrap,IntKind.signed,IntKind.bits]
  rw [e]
  have:=r.isLt
  omega
theorem ofInt32 (r:R32):BitVec.ofInt IntKind.u32.bits (r.toNat:Int) = r:=by
  apply BitVec.eq_of_toNat_eq
  have h:=r.isLt
  simp [IntKind.bits]
section
attribute [local semireducible] PureOp
variable {P:Program} {ty:TypeId} {σ:Env} {t t':TypeId}
theorem p_xorR {x y:Operand} {a b:R32} (hx:Env.ev σ x = some (rv a)) (hy:Env.ev σ y = some (rv b)):PureOp P (.binOp .xor t x y t') ty σ (rv (a ^^^ b)):=by
  have h:=p_xor (P:=P) (ty:=ty) (t:=t) (t':=t') hx hy
  have e:IntKind.u32.wrap ((BitVec.ofInt IntKind.u32.bits (a.toNat:Int) ^^^ BitVec.ofInt IntKind.u32.bits (b.toNat:Int)).toNat:Int) = ((a ^^^ b).toNat:Int):=by
    rw [ofInt32,ofInt32]
    exact wrap32 (a ^^^ b)
  rw [e] at h
  exact h
theorem p_andR {x y:Operand} {a b:R32} (hx:Env.ev σ x = some (rv a)) (hy:Env.ev σ y = some (rv b)):PureOp P (.binOp .and t x y t') ty σ (rv (a &&& b)):=by
  have h:=p_and (P:=P) (ty:=ty) (t:=t) (t':=t') hx hy
  have e:IntKind.u32.wrap ((BitVec.ofInt IntKind.u32.bits (a.toNat:Int) &&& BitVec.ofInt IntKind.u32.bits (b.toNat:Int)).toNat:Int) = ((a &&& b).toNat:Int):=by
    rw [ofInt32,ofInt32]
    exact wrap32 (a &&& b)
  rw [e] at h
  exact h
theorem p_shrR {x y:Operand} {a:R32} {k:IntKind} {n:Nat} (hx:Env.ev σ x = some (rv a)) (hy:Env.ev σ y = some (.int k (n:Nat))) (hn:n < 32):PureOp P (.binOp .shr t x y t') ty σ (rv (a >>> n)):=by
  intro dst pos af g ρ hρ w
  have e1:min n IntKind.u32.bits = n:=Nat.min_eq_left (by simp [IntKind.bits];omega)
  have e2:¬ ((n:Nat):Int) < 0:=by omega
  have e3:((a.toNat:Nat):Int).fdiv (2 ^ n) = ((a >>> n).toNat:Int):=by
    rw [BitVec.toNat_ushiftRight,Nat.shiftRight_eq_div_pow,Int.natCast_ediv,Int.natCast_pow]
    exact Int.fdiv_eq_ediv_of_nonneg _ (by rw [show (2:Int) ^ n = ((2 ^ n:Nat):Int) by simp];exact Int.natCast_nonneg _)
  simp [execOp,hρ _ _ hx,hρ _ _ hy,eqGuard,binOp,Op.shift,e2,e1]
  exact (Int.shiftRight_eq_div_pow _ _).symm
theorem p_convR {x:Operand} {k k'':IntKind} {c:Int} {u:TypeId} [Ty P t (.int k'')] [Ty P u (.int .u32)] (hx:Env.ev σ x = some (.int k c)):PureOp P (.convert t u x) ty σ (rv (BitVec.ofInt 32 c)):=by
  have h:=p_conv (P:=P) (ty:=ty) (t:=t) (u:=u) hx
  have e:IntKind.u32.wrap c = ((BitVec.ofInt 32 c).toNat:Int):=by
    have e:IntKind.u32.wrap c = c % (2 ^ 32:Int):=by
      simp [IntKind.wrap,IntKind.signed,IntKind.bits]
    rw [e,BitVec.toNat_ofInt]
    omega
  rw [e] at h
  exact h
theorem p_cplR {x:Operand} {a:R32} (hx:Env.ev σ x = some (rv a)):PureOp P (.unOp .xor t x) ty σ (rv (~~~ a)):=by
  intro dst pos af g ρ hρ w
  have e:(((if IntKind.u32.signed = true then -1 else IntKind.u32.max) % 2 ^ IntKind.u32.bits).toNat ^^^ a.toNat % 2 ^ IntKind.u32.bits) = (~~~ a).toNat:=by
    have h1:(~~~ a) = BitVec.allOnes 32 ^^^ a:=(BitVec.allOnes_xor).symm
    rw [h1,BitVec.toNat_xor]
    congr 1
    exact Nat.mod_eq_of_lt a.isLt
  have e2:=wrap32 (~~~ a)
  rw [← e] at e2
  simp [execOp,hρ _ _ hx,Op.unary,Op.intBits]
  rw [e2,e,BitVec.toNat_not]
theorem p_quoR {x y:Operand} {a:R32} {b:Nat} (hx:Env.ev σ x = some (rv a)) (hy:Env.ev σ y = some (.int .u32 (b:Nat))) (hb:0 < b):PureOp P (.binOp .quo t x y t') ty σ (.int .u32 ((a.toNat / b:Nat):Int)):=by
  have h:=p_quow (P:=P) (ty:=ty) (t:=t) (t':=t') hx hy (by omega)
  have e1:((a.toNat:Nat):Int).tdiv (b:Nat) = ((a.toNat / b:Nat):Int):=by
    rw [Int.tdiv_eq_ediv_of_nonneg (Int.natCast_nonneg _),Int.natCast_ediv]
  have e2:IntKind.u32.wrap ((a.toNat / b:Nat):Int) = ((a.toNat / b:Nat):Int):=by
    have e:IntKind.u32.wrap ((a.toNat / b:Nat):Int) = ((a.toNat / b:Nat):Int) % (2 ^ 32:Int):=by
      simp [IntKind.wrap,IntKind.signed,IntKind.bits]
    rw [e]
    have h1:=a.isLt
    have h2:a.toNat / b ≤ a.toNat:=Nat.div_le_self _ _
    generalize a.toNat / b = q at *
    omega
  rw [e1,e2] at h
  exact h
end
end Go.Proofs.YtpemabgfmnhhnaaGreatDoor
/-
  crc (layer 2): turn, Add, Sum; the reference's sum.
-/
set_option linter.unusedSimpArgs false
set_option linter.unusedVariables false
namespace Go.Proofs.YtpemabgfmnhhnaaGreatDoor
open Go.Vx Go.ChangeShapes Go.WideShapes Go.ChangeAt Go.RowKit
def CrcG (G:GH):Prop := ∀ i,i < 16 → GH.cell? G ⟨0,i,none⟩ = some (rv (tab i))
theorem CrcG.le {G G':GH} (h:CrcG G) (hle:GH.le G G'):CrcG G':=fun i hi=>GH.cell_le hle (h i hi)
theorem and15 (x:R32):(x &&& 15#32).toNat < 16:=by
  have:(x &&& 15#32).toNat ≤ 15:=by
    rw [BitVec.toNat_and]
    exact Nat.and_le_right
  omega
theorem crc_at {G:GH} (hC:CrcG G) (x:R32):GH.cell? G ⟨0,0 + (((x &&& 15#32).toNat:Nat):Int).toNat * 1,none⟩ = some (rv (tab (x &&& 15#32).toNat)):=by
  rw [Nat.zero_add,Nat.mul_one,Int.toNat_natCast]
  exact hC _ (and15 x)
theorem turn_s {G:GH} (hC:CrcG G) (r:R32) (c:Int):Con Tryz.prog 195 #[rv r,.int .u8 c] G [] (Just (rv (turnR r c)) G):=by
  apply Con.just
  (refine v_enter Tryz.func195 rfl Tryz.ntmps195 rfl ?_;intro B _)
  repeat' (first|(apply v_pure;(case hop=>(apply p_convR;(case hx=>rfl)));(case hd=>rfl))|(apply v_pure;(case hop=>(apply p_xorR;(case hx=>rfl);(case hy=>rfl)));(case hd=>rfl))|(apply v_pure;(case hop=>(apply p_andR (b:=15#32);(case hx=>rfl);(case hy=>rfl)));(case hd=>rfl))|(apply v_pure;(case hop=>(apply p_shrR (n:=4);(case hx=>rfl);(case hy=>rfl);(case hn=>omega)));(case hd=>rfl))|(apply v_pure;(case hop=>(apply p_indexAddrB;(case hx=>rfl);(case hi=>rfl);(case h0=>exact Int.natCast_nonneg _);(case h=>exact Int.ofNat_lt.2 (and15 _))));(case hd=>rfl))|(apply v_read;(case hop=>(apply r_load1;rfl;exact Cell.frozen (crc_at hC _)));(case hd=>rfl))|apply v_seq|apply v_region|apply v_nil|(apply v_pure;(case hop=>first|(apply p_move <;> rfl)|(apply p_assign <;> rfl)|fail);(case hd=>rfl))|fail)
  refine v_ret [] (outsA1 rfl rfl) (by repeat (exact List.Sublist.refl _)) ?_
  exact ⟨rfl,rfl⟩
theorem take_snoc {l:List Int} {k:Nat} (h:k < l.length) {β:Type} (f:β → Int → β) (b:β):(l.take (k + 1)).foldl f b = f ((l.take k).foldl f b) l[k]:=by
  rw [List.take_succ_eq_append_getElem h,List.foldl_append]
  rfl
theorem cadd_s {G:GH} (hC:CrcG G) {l:List Int} {sv:Value} (hs:Sl G 1 (IntR .u8) sv l):Con Tryz.prog 174 #[rv 0#32,sv] G [] (Just (.int .u32 (crcN l:Nat)) G):=by
  obtain ⟨A,c,rfl,hlc,hcm,hsome,hel,hwf⟩:=hs.openInt
  simp only [maxLen] at hcm
  apply Con.just
  (refine v_enter Tryz.func174 rfl Tryz.ntmps174 rfl ?_;intro B _)
  repeat' (first|(apply v_pure;(case hop=>(apply p_cplR;(case hx=>rfl)));(case hd=>rfl))|apply v_seq|apply v_region|apply v_nil|apply v_block|(apply v_pure;(case hop=>first|(apply p_move <;> rfl)|(apply p_assign <;> rfl)|(apply p_lenSlice <;> rfl)|fail);(case hd=>rfl))|fail)
  refine v_loop [12,5,10,11] (fun us G' μ'=>G' = G ∧ ∃ k:Nat,k ≤ l.length ∧ us = [Value.int .i64 (k:Nat),rv ((l.take k).foldl turnR (BitVec.allOnes 32)),.slice A l.length c,.int .i64 (l.length:Nat)] ∧ μ' = []) (fun us=>l.length - (headI us).toNat) rfl ⟨rfl,0,by omega,rfl,rfl⟩ ?_
  rintro us G' _ ⟨hG',k,hk,rfl,rfl⟩
  subst G'
  have e1:((k:Nat):Int).toNat = k:=by omega
  by_cases hlt:k < l.length
  · have hA:=hsome (by omega)
    have hc:=hel k hlt
    have qt:=fun r=>turn_s hC r l[k]
    have ht:=take_snoc hlt turnR (BitVec.allOnes 32)
    repeat' (first|apply v_seq|apply v_region|apply v_nil|apply v_skip|apply v_block|apply v_blk|(apply v_pure;(case hop=>first|(apply p_move <;> rfl)|(apply p_lt <;> rfl)|(apply p_assign <;> rfl)|(apply p_add;(case hx=>rfl);(case hy=>rfl);(case h=>omega))|(apply p_indexAddrS;(case hx=>rfl);(case hi=>rfl);(case h0=>omega);(case h=>omega);(case hA=>assumption))|fail);(case hd=>rfl))|(apply v_cond;(case hc=>rfl);all_goals (intro h;(try simp only [reduceCtorEq,zzz] at h);first|(exfalso;omega)|skip))|(apply v_read;(case hop=>(apply r_load1;rfl;exact Cell.frozen hc));(case hd=>rfl))|(apply v_callJ (hs:=(qt _));(case ha=>rfl);(case hd=>rfl))|fail)
    exact v_again rfl ⟨rfl,k + 1,by omega,by rw [ht];rfl,rfl⟩ (by simp [headI];omega)
  · obtain rfl:k = l.length:=by omega
    rw [List.take_length]
    repeat' (first|(apply v_pure;(case hop=>(apply p_cplR;(case hx=>rfl)));(case hd=>rfl))|apply v_seq|apply v_region|apply v_nil|(apply v_exit;(case hp=>rfl))|(apply v_pure;(case hop=>first|(apply p_move <;> rfl)|(apply p_lt <;> rfl)|(apply p_assign <;> rfl)|fail);(case hd=>rfl))|(apply v_cond;(case hc=>rfl);all_goals (intro h;(try simp only [reduceCtorEq,zzz] at h);first|(exfalso;omega)|skip))|fail)
    refine v_ret [] (outsA1 rfl rfl) (by repeat (exact List.Sublist.refl _)) ?_
    exact ⟨rfl,rfl⟩
theorem csum_s {G:GH} (hC:CrcG G) {l:List Int} {sv:Value} (hs:Sl G 1 (IntR .u8) sv l):Con Tryz.prog 143 #[sv] G [] (Just (.int .u32 (crcN l:Nat)) G):=by
  have q:=cadd_s hC hs
  apply Con.just
  (refine v_enter Tryz.func143 rfl Tryz.ntmps143 rfl ?_;intro B _)
  repeat' (first|apply v_seq|apply v_region|apply v_nil|(apply v_pure;(case hop=>first|(apply p_move <;> rfl)|(apply p_assign <;> rfl));(case hd=>rfl))|(apply v_callJ (hs:=q);(case ha=>rfl);(case hd=>rfl))|fail)
  refine v_ret [] (outsA1 rfl rfl) (by repeat (exact List.Sublist.refl _)) ?_
  exact ⟨rfl,rfl⟩
def bitsK:Nat → R32 → R32
  | 0,r=>r
  | k + 1,r=>bit1 (bitsK k r)
theorem lsb_odd (r:R32):r.getLsbD 0 = decide (r.toNat % 2 = 1):=by
  rw [BitVec.getLsbD,Nat.testBit_zero]
theorem bit1_odd {r:R32} (h:((r.toNat:Nat):Int) % 2 = 1):bit1 r = (r >>> 1) ^^^ poly:=by
  unfold bit1
  rw [lsb_odd,if_pos (by simp;omega)]
theorem bit1_ev {r:R32} (h:¬ ((r.toNat:Nat):Int) % 2 = 1):bit1 r = r >>> 1:=by
  unfold bit1
  rw [lsb_odd,if_neg (by simp;omega),BitVec.xor_zero]
section
attribute [local semireducible] PureOp
variable {P:Program} {ty:TypeId} {σ:Env} {t t':TypeId}
theorem p_halfR {x y:Operand} {a:R32} (hx:Env.ev σ x = some (rv a)) (hy:Env.ev σ y = some (.int .u32 2)):PureOp P (.binOp .quo t x y t') ty σ (rv (a >>> 1)):=by
  have h:=p_quoR (P:=P) (ty:=ty) (t:=t) (t':=t') (b:=2) hx hy (by omega)
  have e:(a >>> 1).toNat = a.toNat / 2:=by rw [BitVec.toNat_ushiftRight,Nat.shiftRight_eq_div_pow]
  rw [← e] at h
  exact h
theorem p_oddR {x y:Operand} {a:R32} (hx:Env.ev σ x = some (rv a)) (hy:Env.ev σ y = some (.int .u32 2)):PureOp P (.binOp .rem t x y t') ty σ (.int .u32 (((a.toNat:Nat):Int) % 2)):=p_rem0 hx hy (Int.natCast_nonneg _) (by omega)
theorem p_subR {x y:Operand} {a:R32} (hx:Env.ev σ x = some (.int .u32 4294967295)) (hy:Env.ev σ y = some (rv a)):PureOp P (.binOp .sub t x y t') ty σ (rv (~~~ a)):=by
  have h:=p_subw (P:=P) (ty:=ty) (t:=t) (t':=t') hx hy
  have e:IntKind.u32.wrap (4294967295 - (a.toNat:Int)) = ((~~~ a).toNat:Int):=by
    have e0:IntKind.u32.wrap (4294967295 - (a.toNat:Int)) = (4294967295 - (a.toNat:Int)) % (2 ^ 32:Int):=by
      simp [IntKind.wrap,IntKind.signed,IntKind.bits]
    rw [e0,BitVec.toNat_not]
    have:=a.isLt
    omega
  rw [e] at h
  exact h
end
theorem rsum_s {G:GH} {l:List Int} {sv:Value} (hs:Sl G 1 (IntR .u8) sv l):Con Tryz.prog 92 #[sv] G [] (Just (.int .u32 (crcN l:Nat)) G):=by
  obtain ⟨A,c,rfl,hlc,hcm,hsome,hel,hwf⟩:=hs.openInt
  simp only [maxLen] at hcm
  apply Con.just
  (refine v_enter Tryz.func92 rfl Tryz.ntmps92 rfl ?_;intro B _)
  repeat' (first|apply v_seq|apply v_region|apply v_nil|apply v_block|(apply v_pure;(case hop=>(apply p_assign <;> rfl));(case hd=>rfl))|fail)
  refine v_loop [4,3,0] (fun us G' μ'=>G' = G ∧ ∃ k:Nat,k ≤ l.length ∧ us = [Value.int .i64 (k:Nat),rv ((l.take k).foldl turnR (BitVec.allOnes 32)),.slice A l.length c] ∧ μ' = []) (fun us=>l.length - (headI us).toNat) rfl ⟨rfl,0,by omega,rfl,rfl⟩ ?_
  rintro us G' _ ⟨hG',k,hk,rfl,rfl⟩
  subst G'
  have e1:((k:Nat):Int).toNat = k:=by omega
  by_cases hlt:k < l.length
  · have hA:=hsome (by omega)
    have hc:=hel k hlt
    have ht:=take_snoc hlt turnR (BitVec.allOnes 32)
    generalize (l.take k).foldl turnR (BitVec.allOnes 32) = r at *
    rw [turn_eq] at ht
    generalize hcv:l[k] = cv at *
    repeat' (first|(apply v_pure;(case hop=>(apply p_convR;(case hx=>rfl)));(case hd=>rfl))|(apply v_pure;(case hop=>(apply p_xorR;(case hx=>rfl);(case hy=>rfl)));(case hd=>rfl))|apply v_seq|apply v_region|apply v_nil|apply v_skip|apply v_block|(apply v_pure;(case hop=>first|(apply p_move <;> rfl)|(apply p_lt <;> rfl)|(apply p_assign <;> rfl)|(apply p_lenSlice <;> rfl)|(apply p_indexAddrS;(case hx=>rfl);(case hi=>rfl);(case h0=>omega);(case h=>omega);(case hA=>assumption))|fail);(case hd=>rfl))|(apply v_cond;(case hc=>rfl);all_goals (intro h;(try simp only [reduceCtorEq,zzz] at h);first|(exfalso;omega)|skip))|(apply v_read;(case hop=>(apply r_load1;rfl;exact Cell.frozen hc));(case hd=>rfl))|fail)
    refine v_loop [5,3,4,0] (fun us G' μ'=>G' = G ∧ ∃ j:Nat,j ≤ 8 ∧ us = [Value.int .i64 (j:Nat),rv (bitsK j (r ^^^ BitVec.ofInt 32 cv)),.int .i64 (k:Nat),.slice A l.length c] ∧ μ' = []) (fun us=>8 - (headI us).toNat) rfl ⟨rfl,0,by omega,rfl,rfl⟩ ?_
    rintro us G' _ ⟨hG',j,hj,rfl,rfl⟩
    subst G'
    have e2:((j:Nat):Int).toNat = j:=by omega
    by_cases hj8:j < 8
    · have eb:bitsK (j + 1) (r ^^^ BitVec.ofInt 32 cv) = bit1 (bitsK j (r ^^^ BitVec.ofInt 32 cv)):=rfl
      generalize bitsK j (r ^^^ BitVec.ofInt 32 cv) = x at *
      repeat' (first|(apply v_pure;(case hop=>(apply p_halfR;(case hx=>rfl);(case hy=>rfl)));(case hd=>rfl))|(apply v_pure;(case hop=>(apply p_oddR;(case hx=>rfl);(case hy=>rfl)));(case hd=>rfl))|(apply v_pure;(case hop=>(apply p_xorR (b:=poly);(case hx=>rfl);(case hy=>rfl)));(case hd=>rfl))|apply v_seq|apply v_region|apply v_nil|apply v_skip|apply v_block|apply v_blk|(apply v_pure;(case hop=>first|(apply p_move <;> rfl)|(apply p_eq <;> rfl)|(apply p_lt <;> rfl)|(apply p_assign <;> rfl)|(apply p_add;(case hx=>rfl);(case hy=>rfl);(case h=>omega))|fail);(case hd=>rfl))|(apply v_cond;(case hc=>rfl);all_goals (intro h;(try simp only [reduceCtorEq,zzz] at h);first|(exfalso;omega)|skip))|fail)
      · exact v_again rfl ⟨rfl,j + 1,by omega,by rw [eb,bit1_odd (by assumption)];rfl,rfl⟩ (by simp [headI];omega)
      · exact v_again rfl ⟨rfl,j + 1,by omega,by rw [eb,bit1_ev (by assumption)];rfl,rfl⟩ (by simp [headI];omega)
    · obtain rfl:j = 8:=by omega
      have eb:bitsK 8 (r ^^^ BitVec.ofInt 32 cv) = bit8 (r ^^^ BitVec.ofInt 32 cv):=rfl
      rw [eb,← ht]
      repeat' (first|apply v_seq|apply v_region|apply v_nil|apply v_blk|(apply v_exit;(case hp=>rfl))|(apply v_pure;(case hop=>first|(apply p_move <;> rfl)|(apply p_lt <;> rfl)|(apply p_assign <;> rfl)|(apply p_add;(case hx=>rfl);(case hy=>rfl);(case h=>omega))|fail);(case hd=>rfl))|(apply v_cond;(case hc=>rfl);all_goals (intro h;(try simp only [reduceCtorEq,zzz] at h);first|(exfalso;omega)|skip))|fail)
      exact v_again rfl ⟨rfl,k + 1,by omega,rfl,rfl⟩ (by simp [headI];omega)
  · obtain rfl:k = l.length:=by omega
    rw [List.take_length]
    repeat' (first|(apply v_pure;(case hop=>(apply p_subR;(case hx=>rfl);(case hy=>rfl)));(case hd=>rfl))|apply v_seq|apply v_region|apply v_nil|(apply v_exit;(case hp=>rfl))|(apply v_pure;(case hop=>first|(apply p_move <;> rfl)|(apply p_lt <;> rfl)|(apply p_assign <;> rfl)|(apply p_lenSlice <;> rfl)|fail);(case hd=>rfl))|(apply v_cond;(case hc=>rfl);all_goals (intro h;(try simp only [reduceCtorEq,zzz] at h);first|(exfalso;omega)|skip))|fail)
    refine v_ret [] (outsA1 rfl rfl) (by repeat (exact List.Sublist.refl _)) ?_
    exact ⟨rfl,rfl⟩
end Go.Proofs.YtpemabgfmnhhnaaGreatDoor
/-
  Frames, and a file of them, in plain Lean.
-/
set_option linter.unusedSimpArgs false
set_option linter.unusedVariables false
namespace Go.Proofs.YtpemabgfmnhhnaaGreatDoor
def byteL (l:List Int):Prop := ∀ x ∈ l,0 ≤ x ∧ x ≤ 255
theorem byteL.app {a b:List Int} (ha:byteL a) (hb:byteL b):byteL (a ++ b):=fun x hx=>(List.mem_append.1 hx).elim (ha x) (hb x)
theorem byteL.take {a:List Int} (h:byteL a) (n:Nat):byteL (a.take n):=fun x hx=>h x (List.mem_of_mem_take hx)
def frB (b:List Int):List Int:=vbytes b.length ++ b ++ sumB b
theorem frB_len (b:List Int):(frB b).length = (vbytes b.length).length + b.length + 4:=by
  unfold frB
  rw [List.length_append,List.length_append,sumB_len]
theorem frB_pos (b:List Int):5 ≤ (frB b).length:=by
  have:=(vbytes_len (b.length:Int)).2
  rw [frB_len];omega
def okF (b:List Int):Prop:=1 ≤ b.length ∧ b.length ≤ 65536
noncomputable def nextF (l:List Int):Option (List Int × List Int) :=
  match dvk 0 l with
  | none=>none
  | some p=>if 1 ≤ p.1 ∧ p.1 ≤ 65536 ∧ p.1 + 4 ≤ p.2.length ∧ (p.2.drop p.1.toNat).take 4 = sumB (p.2.take p.1.toNat) then some (p.2.take p.1.toNat,p.2.drop (p.1.toNat + 4)) else none
theorem nextF_fr {b:List Int} (r:List Int) (h:okF b):nextF (frB b ++ r) = some (b,r):=by
  obtain ⟨h1,h2⟩:=h
  have e:frB b ++ r = vbytes b.length ++ (b ++ sumB b ++ r):=by simp [frB]
  have hd:dvk 0 (frB b ++ r) = some ((b.length:Int),b ++ sumB b ++ r):=by rw [e];exact dvk_vbytes _ (by omega) (by omega)
  have t1:(b ++ sumB b ++ r).take b.length = b:=by rw [List.append_assoc,List.take_left]
  have t2:((b ++ sumB b ++ r).drop b.length).take 4 = sumB b:=by
    rw [List.append_assoc,List.drop_left]
    have:=List.take_left (l₁:=sumB b) (l₂:=r)
    rwa [sumB_len] at this
  have t3:(b ++ sumB b ++ r).drop (b.length + 4) = r:=by
    have:b.length + 4 = (b ++ sumB b).length:=by rw [List.length_append,sumB_len]
    rw [this,List.drop_left]
  unfold nextF
  rw [hd]
  simp only [Int.toNat_natCast]
  rw [t1,t2,t3,if_pos]
  refine ⟨by omega,by omega,?_,rfl⟩
  rw [List.length_append,List.length_append,sumB_len]
  omega
theorem nextF_inv {l b r:List Int} (hw:byteL l) (h:nextF l = some (b,r)):l = frB b ++ r ∧ okF b:=by
  unfold nextF at h
  cases hd:dvk 0 l with
  | none=>rw [hd] at h;cases h
  | some p =>
    obtain ⟨n,s⟩:=p
    rw [hd] at h
    simp only at h
    split at h
    · rename_i hc
      obtain ⟨h1,h2,h3,h4⟩:=hc
      simp only [Option.some.injEq,Prod.mk.injEq] at h
      obtain ⟨rfl,rfl⟩:=h
      obtain ⟨-,-,rfl⟩:=vbytes_dvk hw hd
      have hl:(s.take n.toNat).length = n.toNat:=by rw [List.length_take];omega
      refine ⟨?_,by unfold okF;rw [hl];omega⟩
      unfold frB
      rw [hl,← h4,show ((n.toNat:Nat):Int) = n by omega,List.append_assoc,List.append_assoc,List.append_cancel_left_eq,← List.drop_drop,List.take_append_drop,List.take_append_drop]
    · cases h
theorem nextF_nil:nextF [] = none:=by
  unfold nextF
  rw [dvk_nil]
theorem nextF_cut {b:List Int} {r:List Int} {k:Nat} (h:okF b) (hb:byteL (frB b ++ r)) (hk:k < (frB b).length):nextF ((frB b ++ r).take k) = none:=by
  cases hn:nextF ((frB b ++ r).take k) with
  | none=>rfl
  | some p =>
    obtain ⟨b',r'⟩:=p
    obtain ⟨e,hok⟩:=nextF_inv (hb.take k) hn
    have e2:frB b ++ r = frB b' ++ (r' ++ (frB b ++ r).drop k):=by
      rw [← List.append_assoc,← e,List.take_append_drop]
    have h1:=nextF_fr r h
    rw [e2,nextF_fr _ hok] at h1
    simp only [Option.some.injEq,Prod.mk.injEq] at h1
    have h2:=congrArg List.length e
    rw [List.length_take,List.length_append,List.length_append,h1.1] at h2
    omega
section
variable {α:Type} (dec:List Int → Option α)
noncomputable def recsF:Nat → List Int → List α × List Int
  | 0,l=>([],l)
  | f + 1,l =>
    match nextF l with
    | none=>([],l)
    | some (b,r) =>
      match dec b with
      | none=>([],l)
      | some x=>(x :: (recsF f r).1,(recsF f r).2)
theorem recsF_none {f:Nat} {l:List Int} (h:nextF l = none):recsF dec f l = ([],l):=by
  cases f with
  | zero=>rfl
  | succ f=>unfold recsF;rw [h]
theorem recsF_bad {f:Nat} {l b r:List Int} (h:nextF l = some (b,r)) (hd:dec b = none):recsF dec f l = ([],l):=by
  cases f with
  | zero=>rfl
  | succ f=>unfold recsF;rw [h];simp only [hd]
theorem recsF_some {f:Nat} {l b r:List Int} {x:α} (h:nextF l = some (b,r)) (hd:dec b = some x):recsF dec (f + 1) l = (x :: (recsF dec f r).1,(recsF dec f r).2):=by
  conv=>lhs;unfold recsF
  rw [h]
  simp only [hd]
theorem recsF_fuel:∀ (f g:Nat) (l:List Int),byteL l → l.length ≤ f → l.length ≤ g → recsF dec f l = recsF dec g l
  | 0,g,l,hw,h1,h2=>by
    have:l = []:=List.length_eq_zero_iff.1 (by omega)
    subst this
    rw [recsF_none dec nextF_nil,recsF_none dec nextF_nil]
  | f + 1,0,l,hw,h1,h2=>by
    have:l = []:=List.length_eq_zero_iff.1 (by omega)
    subst this
    rw [recsF_none dec nextF_nil,recsF_none dec nextF_nil]
  | f + 1,g + 1,l,hw,h1,h2=>by
    cases hn:nextF l with
    | none=>rw [recsF_none dec hn,recsF_none dec hn]
    | some p =>
      obtain ⟨b,r⟩:=p
      obtain ⟨e,hok⟩:=nextF_inv hw hn
      have hl:=congrArg List.length e
      rw [List.length_append] at hl
      have h5:=frB_pos b
      cases hd:dec b with
      | none=>rw [recsF_bad dec hn hd,recsF_bad dec hn hd]
      | some x =>
        have hr:byteL r:=fun y hy=>hw y (by rw [e];exact List.mem_append_right _ hy)
        rw [recsF_some dec hn hd,recsF_some dec hn hd,recsF_fuel f g r hr (by omega) (by omega)]
end
end Go.Proofs.YtpemabgfmnhhnaaGreatDoor
/-
  recone (layer 16), the tenth part: the bytes of a number, by the reference.
-/
set_option linter.unusedSimpArgs false
set_option linter.unusedVariables false
namespace Go.Proofs.YtpemabgfmnhhnaaGreatDoor
open Go.Vx Go.ChangeShapes Go.WideShapes Go.ChangeAt Go.RowKit
theorem rnum_s (G:GH) (n:Int) (hn:n ≤ 9223372036854775807):Con Tryz.prog 56 #[.int .i64 n] G [] (fun r G' μ'=>G' = G ∧ Grow 5 1 r (vbytes n).length ((vbytes n).map (.int .u8 ·)) μ'):=by
  (refine v_enter Tryz.func56 rfl Tryz.ntmps56 rfl ?_;intro B _)
  repeat' (first|apply v_seq|apply v_region|apply v_nil|apply v_skip|apply v_block|(apply v_pure;(case hop=>first|(apply p_move <;> rfl)|(apply p_lt <;> rfl)|(apply p_assign <;> rfl)|fail);(case hd=>rfl))|(apply v_cond;(case hc=>rfl);all_goals (intro h;(try simp only [reduceCtorEq,zzz] at h)))|fail)
  · have hv0:vbytes n = vb 10 0:=by rw [vbytes,show max n 0 = 0 by omega]
    have hp:(0:Int) < 128 ^ (10 + 1):=by have:=p128 n hn;omega
    refine v_loopI (ι:=Nat × Int × List Int) [3,0] (fun x us G2 μ'=>G2 = G ∧ ∃ v,us = [v,Value.int .i64 x.2.1] ∧ Grow 5 1 v x.2.2.length (x.2.2.map (.int .u8 ·)) μ' ∧ 0 ≤ x.2.1 ∧ x.2.1 < 128 ^ (x.1 + 1) ∧ x.2.1 ≤ 9223372036854775807 ∧ x.1 ≤ 10 ∧ x.2.2.length ≤ 10 - x.1 ∧ vbytes n = x.2.2 ++ vb x.1 x.2.1) (fun x=>x.1) rfl (10,0,[]) ⟨rfl,_,rfl,Grow.nil _ _,by simp only;omega,hp,by simp only;omega,by simp,by simp,hv0⟩ ?_
    clear hv0 hp
    rintro ⟨f,m,xs⟩ us G2 μ' ⟨rfl,v,rfl,hg2,h0,hlt,hm,hf,hx,he⟩
    simp only at hg2 h0 hlt hm hf hx he
    try dsimp only
    repeat' (first|(apply v_pure;(case hop=>(apply p_convU8;(case hx=>rfl)));(case hd=>rfl))|apply v_seq|apply v_region|apply v_nil|apply v_skip|apply v_block|(apply v_exit;(case hp=>rfl))|(apply v_pure;(case hop=>first|(apply p_move <;> rfl)|(apply p_gt <;> rfl)|(apply p_add;(case hx=>rfl);(case hy=>rfl);(case h=>omega))|(apply p_rem0;(case hx=>rfl);(case hy=>rfl);all_goals omega));(case hd=>rfl))|(apply v_cond;(case hc=>rfl);all_goals (intro h;(try simp only [reduceCtorEq,zzz] at h)))|(apply v_buildSlice;(case hz=>rfl);(case hi=>rfl);(case hv=>(simp only [List.map_cons,List.map_nil];repeat (first|with_reducible exact evs_nil|(apply evs_cons;(case h1=>rfl)))));(case hp=>(apply pk_cons;(case hc=>rfl);(case hs=>rfl);(case h=>(with_reducible exact pk_nil));(case he=>((repeat (first|with_reducible exact ap_nil|apply ap_cons));done))));(case hb=>rfl);(case hd=>rfl);intro b)|fail)
    · obtain ⟨f',rfl⟩:∃ f',f = f' + 1:=by
        cases f with
        | zero=>simp at hlt;omega
        | succ f'=>exact ⟨f',rfl⟩
      have hvb:vb (f' + 1) m = (m % 128 + 128) :: vb f' (m / 128):=by rw [vb_succ,if_neg (by omega)]
      refine v_append (e:=5) (sz:=1) (zero:=.int .u8 0) (m':=1) (us:=[.int .u8 ((128 + m % 128) % 256)]) rfl (by omega) rfl rfl hg2 (PickA.perm (by repeat (first|exact PickA.last|apply PickA.cons))) (Src.own (List.Mem.head _) rfl) rfl (by omega) (by simp only [maxLen];omega) rfl ?_
      intro v' ν' hg'
      repeat' (first|apply v_region|apply v_nil|apply v_blk|(apply v_pure;(case hop=>first|(apply p_move <;> rfl)|(apply p_assign <;> rfl)|(apply p_quo;(case hx=>rfl);(case hy=>rfl);all_goals omega)|fail);(case hd=>rfl))|fail)
      refine v_only ν' (by repeat (exact PickA.here _)) ?_
      refine v_againI (f',m / 128,xs ++ [m % 128 + 128]) rfl ⟨rfl,v',rfl,?_,by simp only;omega,?_,by simp only;omega,by simp only;omega,by simp;omega,?_⟩ (by simp)
      · simp only
        rw [show (128 + m % 128) % 256 = m % 128 + 128 by omega] at hg'
        simpa using hg'
      · simp only
        have:(128:Int) ^ (f' + 1 + 1) = 128 * 128 ^ (f' + 1):=by rw [Int.pow_succ,Int.mul_comm]
        omega
      · simp only
        rw [he,hvb];simp
    · have hvb:vb f m = [m]:=by
        cases f with
        | zero=>rfl
        | succ f=>rw [vb_succ,if_pos (by omega)]
      refine v_append (e:=5) (sz:=1) (zero:=.int .u8 0) (m':=1) (us:=[.int .u8 (m % 256)]) rfl (by omega) rfl rfl hg2 (PickA.perm (by repeat (first|exact PickA.last|apply PickA.cons))) (Src.own (List.Mem.head _) rfl) rfl (by omega) (by simp only [maxLen];omega) rfl ?_
      intro v' ν' hg'
      repeat' (first|apply v_nil|(apply v_pure;(case hop=>(apply p_assign <;> rfl));(case hd=>rfl))|fail)
      refine v_ret ν' (outsA1 rfl rfl) (by repeat (exact List.sublist_append_left _ _)) ?_
      refine ⟨rfl,?_⟩
      rw [he,hvb]
      rw [show m % 256 = m by omega] at hg'
      simpa using hg'
  · have hv0:vbytes n = vb 10 n:=by rw [vbytes,show max n 0 = n by omega]
    have hp:(n:Int) < 128 ^ (10 + 1):=by have:=p128 n hn;omega
    refine v_loopI (ι:=Nat × Int × List Int) [3,0] (fun x us G2 μ'=>G2 = G ∧ ∃ v,us = [v,Value.int .i64 x.2.1] ∧ Grow 5 1 v x.2.2.length (x.2.2.map (.int .u8 ·)) μ' ∧ 0 ≤ x.2.1 ∧ x.2.1 < 128 ^ (x.1 + 1) ∧ x.2.1 ≤ 9223372036854775807 ∧ x.1 ≤ 10 ∧ x.2.2.length ≤ 10 - x.1 ∧ vbytes n = x.2.2 ++ vb x.1 x.2.1) (fun x=>x.1) rfl (10,n,[]) ⟨rfl,_,rfl,Grow.nil _ _,by simp only;omega,hp,by simp only;omega,by simp,by simp,hv0⟩ ?_
    clear hv0 hp
    rintro ⟨f,m,xs⟩ us G2 μ' ⟨rfl,v,rfl,hg2,h0,hlt,hm,hf,hx,he⟩
    simp only at hg2 h0 hlt hm hf hx he
    try dsimp only
    repeat' (first|(apply v_pure;(case hop=>(apply p_convU8;(case hx=>rfl)));(case hd=>rfl))|apply v_seq|apply v_region|apply v_nil|apply v_skip|apply v_block|(apply v_exit;(case hp=>rfl))|(apply v_pure;(case hop=>first|(apply p_move <;> rfl)|(apply p_gt <;> rfl)|(apply p_add;(case hx=>rfl);(case hy=>rfl);(case h=>omega))|(apply p_rem0;(case hx=>rfl);(case hy=>rfl);all_goals omega));(case hd=>rfl))|(apply v_cond;(case hc=>rfl);all_goals (intro h;(try simp only [reduceCtorEq,zzz] at h)))|(apply v_buildSlice;(case hz=>rfl);(case hi=>rfl);(case hv=>(simp only [List.map_cons,List.map_nil];repeat (first|with_reducible exact evs_nil|(apply evs_cons;(case h1=>rfl)))));(case hp=>(apply pk_cons;(case hc=>rfl);(case hs=>rfl);(case h=>(with_reducible exact pk_nil));(case he=>((repeat (first|with_reducible exact ap_nil|apply ap_cons));done))));(case hb=>rfl);(case hd=>rfl);intro b)|fail)
    · obtain ⟨f',rfl⟩:∃ f',f = f' + 1:=by
        cases f with
        | zero=>simp at hlt;omega
        | succ f'=>exact ⟨f',rfl⟩
      have hvb:vb (f' + 1) m = (m % 128 + 128) :: vb f' (m / 128):=by rw [vb_succ,if_neg (by omega)]
      refine v_append (e:=5) (sz:=1) (zero:=.int .u8 0) (m':=1) (us:=[.int .u8 ((128 + m % 128) % 256)]) rfl (by omega) rfl rfl hg2 (PickA.perm (by repeat (first|exact PickA.last|apply PickA.cons))) (Src.own (List.Mem.head _) rfl) rfl (by omega) (by simp only [maxLen];omega) rfl ?_
      intro v' ν' hg'
      repeat' (first|apply v_region|apply v_nil|apply v_blk|(apply v_pure;(case hop=>first|(apply p_move <;> rfl)|(apply p_assign <;> rfl)|(apply p_quo;(case hx=>rfl);(case hy=>rfl);all_goals omega)|fail);(case hd=>rfl))|fail)
      refine v_only ν' (by repeat (exact PickA.here _)) ?_
      refine v_againI (f',m / 128,xs ++ [m % 128 + 128]) rfl ⟨rfl,v',rfl,?_,by simp only;omega,?_,by simp only;omega,by simp only;omega,by simp;omega,?_⟩ (by simp)
      · simp only
        rw [show (128 + m % 128) % 256 = m % 128 + 128 by omega] at hg'
        simpa using hg'
      · simp only
        have:(128:Int) ^ (f' + 1 + 1) = 128 * 128 ^ (f' + 1):=by rw [Int.pow_succ,Int.mul_comm]
        omega
      · simp only
        rw [he,hvb];simp
    · have hvb:vb f m = [m]:=by
        cases f with
        | zero=>rfl
        | succ f=>rw [vb_succ,if_pos (by omega)]
      refine v_append (e:=5) (sz:=1) (zero:=.int .u8 0) (m':=1) (us:=[.int .u8 (m % 256)]) rfl (by omega) rfl rfl hg2 (PickA.perm (by repeat (first|exact PickA.last|apply PickA.cons))) (Src.own (List.Mem.head _) rfl) rfl (by omega) (by simp only [maxLen];omega) rfl ?_
      intro v' ν' hg'
      repeat' (first|apply v_nil|(apply v_pure;(case hop=>(apply p_assign <;> rfl));(case hd=>rfl))|fail)
      refine v_ret ν' (outsA1 rfl rfl) (by repeat (exact List.sublist_append_left _ _)) ?_
      refine ⟨rfl,?_⟩
      rw [he,hvb]
      rw [show m % 256 = m by omega] at hg'
      simpa using hg'
end Go.Proofs.YtpemabgfmnhhnaaGreatDoor
