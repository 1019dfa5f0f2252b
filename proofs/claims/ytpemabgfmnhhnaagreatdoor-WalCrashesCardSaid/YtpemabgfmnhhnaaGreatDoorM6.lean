/-
  The library's iterators at numbers: slices.Values; slices.AppendSeq, slices.Collect over whatever iterator.
-/
import Derived.Test.YtpemabgfmnhhnaaGreatDoorM5
import Derived.Test.YtpemabgfmnhhnaaGreatDoorM1
import Derived.Test.YtpemabgfmnhhnaaGreatDoorM2
import Derived.Test.YtpemabgfmnhhnaaGreatDoorM3
import Derived.Shelf.SlMaps.Clone
import Derived.Laws.MakeOwn
set_option linter.unusedSimpArgs false
set_option linter.unusedVariables false
set_option linter.unusedSectionVars false
namespace Go.Proofs.YtpemabgfmnhhnaaGreatDoor
open Go.Vx Go.ChangeShapes Go.WideShapes Go.ChangeAt Go.RowKit
theorem values_s {G:GH}{A:Option Addr}{n c:Nat}:Con Tryz.prog 116 #[.slice A n c] G []
 (fun r G' μ'=>∃ b,r=.func (.func 157) #[] #[.pointer (some ⟨b,0,none⟩)]∧G'=G∧μ'=[(b,.cells [.slice A n c].toArray 47 (0,0))]):=by
 (refine v_enter Tryz.func116 rfl Tryz.ntmps116 rfl ?_;intro B _)
 repeat' (first|apply v_seq|apply v_region|apply v_nil|apply v_pure;(case hop=>first|apply p_assign<;>rfl|apply p_makeFunc<;>rfl);(case hd=>rfl)|apply v_box;(case hx|hz|hd=>rfl);intro b|fail)
 refine v_ret [(b,_)] (outsA1 rfl rfl) (by repeat (exact List.Sublist.refl _)) ?_
 exact ⟨b,rfl,rfl,rfl⟩
theorem vals_seq {G:GH}{l:List Int}{A:Option Addr}{n c b:Nat}(hs:Sl G 1 (IntR .i64) (.slice A n c) l) (hl:l.length≤1048576):SeqCon Tryz.prog 157 [.pointer (some ⟨b,0,none⟩)] keyI (fun xs=>xs=l) l.length G [(b,.cells [.slice A n c].toArray 47 (0,0))]:=by
 intro lp J G1 ν hle hJ0 hY
 obtain ⟨A',c',e0,hlc,hcm,hsome,hel,-⟩:=(hs.mono hle).openInt
 cases e0
 simp only [maxLen] at hcm
 (refine v_enter Tryz.func157 rfl Tryz.ntmps157 rfl ?_;intro B _)
 repeat' (first|apply v_seq|apply v_region|apply v_nil|apply v_block|apply v_pure;(case hop=>first|apply p_move<;>rfl|apply p_lenSlice<;>rfl|fail);(case hd=>rfl)|apply v_read;(case hop=>(apply r_load1;rfl;(apply Cell.own;(case h=>repeat exact mhd _);rfl)));(case hd=>rfl)|fail)
 refine v_loopI (ι:=Nat) [7,5,6,0] (fun k vs G' μ'=>GH.le G1 G'∧∃ ν',k≤l.length∧vs=[Value.int .i64 (k:Nat),.slice A l.length c,.int .i64 (l.length:Nat),.func (.yield lp) #[] #[]]∧J (l.take k) G' ν'∧μ'=(b,.cells [.slice A l.length c].toArray 47 (0,0))::ν') (fun k=>l.length-k) rfl 0 ⟨GH.le_refl _,ν,by omega,rfl,hJ0,rfl⟩ ?_
 rintro k vs G' _ ⟨hle',ν',hk,rfl,hJ,rfl⟩
 by_cases hlt:k<l.length
 ·have e1:((k:Nat):Int).toNat=k:=by omega
  have hc:=GH.cell_le hle' (hel k hlt)
  have hA:=hsome (by omega)
  have hy:=hY (l.take k) l[k] G' ν' hle' hJ (by rw [List.length_take];omega)
  rw [← List.take_succ_eq_append_getElem hlt] at hy
  generalize l[k]=x at *
  repeat' (first|apply v_seq|apply v_region|apply v_nil|apply v_skip|apply v_block|apply v_blk|apply v_pure;(case hop=>first|apply p_move<;>rfl|apply p_lt<;>rfl|apply p_assign<;>rfl|apply p_not<;>rfl|apply p_add;(case hx|hy=>rfl);(case h=>omega)|apply p_indexAddrS;(case hx|hi=>rfl);(case h0|h=>omega);(case hA=>assumption)|fail);(case hd=>rfl)|apply v_condF;(case hc=>rfl)|apply v_cond;(case hc=>rfl);all_goals (intro h;(try simp only [reduceCtorEq,zzz] at h);try (exfalso;omega))|apply v_read;(case hop=>(apply r_load1;rfl;exact Cell.frozen hc));(case hd=>rfl)|apply v_yield (hs:=hy);(case hx|ha=>rfl);(case hp=>exact (List.perm_append_comm (l₁:=[(b,Obj.cells [Value.slice A l.length c].toArray 47 (0,0))]) (l₂:=ν')));(case hd=>rfl);rintro _ G2 ν2 hle2 ⟨rfl,hJ2⟩|fail)
  refine v_perm List.perm_append_comm ?_
  refine v_againI (k+1) rfl ⟨GH.le_trans hle' hle2,ν2,by omega,rfl,hJ2,rfl⟩ (by omega)
 ·repeat' (first|apply v_seq|apply v_region|apply v_nil|apply v_exit;(case hp=>rfl)|apply v_pure;(case hop=>(apply p_lt<;>rfl));(case hd=>rfl)|apply v_cond;(case hc=>rfl);all_goals (intro h;(try simp only [reduceCtorEq,zzz] at h);try (exfalso;omega))|fail)
  refine v_end _ (outsA0 rfl) (List.Sublist.refl _) ?_
  rw [List.take_of_length_le (by omega)] at hJ
  exact ⟨l,ν',rfl,hJ,rfl⟩
theorem appendSeq_s {G:GH}{gf:FuncId} [Callable Tryz.prog gf] {lb:List Value}{S:List Int→Prop}{N:Nat}{μ1:OH}(hN:N≤1048576) (hseq:SeqCon Tryz.prog gf lb keyI S N G μ1) :
 Con Tryz.prog 183 #[.slice none 0 0,.func (.func gf) #[] lb.toArray] G μ1 (fun r G' μ'=>G'=G∧∃ xs ν,S xs∧Grow 3 1 r xs.length (xs.map (Value.int .i64 ·)) ν∧μ'=ν++μ1):=by
 (refine v_enter Tryz.func183 rfl Tryz.ntmps183 rfl ?_;intro B _)
 repeat' (first|apply v_seq|apply v_region|apply v_nil|apply v_block|apply v_pure;(case hop=>first|apply p_move<;>rfl|apply p_assign<;>rfl);(case hd=>rfl)|apply v_box;(case hx|hz|hd=>rfl);intro b|fail)
 refine v_rangeFunc (enc:=keyI) (N:=N) (S:=S) (μ1:=μ1) (μ2:=[(b,.cells [.slice none 0 0].toArray 47 (0,0))]) (σ':=fun x=>_) (fun pre G' ν=>G'=G∧∃ v ν1,Grow 3 1 v pre.length (pre.map (Value.int .i64 ·)) ν1∧ν=ν1++[(b,.cells [v].toArray 47 (0,0))]) rfl hseq ?_ rfl (fun x=>Assigns.region (.cons (p_assign rfl) rfl (.nil _))) rfl ⟨rfl,_,[],Grow.nil _ _,rfl⟩ ?_ ?_
 ·exact (List.perm_append_comm (l₁:=[(b,Obj.cells [Value.slice none 0 0].toArray 47 (0,0))]) (l₂:=μ1))
 ·rintro l B' _ pre x G2 _ hle ⟨rfl,v,ν1,hg,rfl⟩ hlen
  have hpl:pre.length≤1048576:=by omega
  repeat' (first|apply v_region|apply v_nil|apply v_block|apply v_blk|apply v_pure;(case hop=>(apply p_move<;>rfl));(case hd=>rfl)|apply v_append (hg:=hg) (m':=1) (us:=[keyI x]) (hp:=PickA.perm (by repeat (first|exact PickA.here _|apply PickA.cons))) (hsrc:=Src.own (e:=3) (by repeat (exact mhd _)) rfl);(case hzs=>rfl);(case hsz=>omega);(case hs|hx=>rfl);(case hb=>omega);(case hb'=>simp only [maxLen];omega);(case hd|h1=>rfl);intro v3 n3 hg3;obtain ⟨A3,c3,rfl,-,-⟩:=hg3.shape|apply v_read;(case hop=>(apply r_load1;rfl;(apply Cell.own;(case h=>repeat first|exact mhd _|apply List.mem_append_right);rfl)));(case hd=>rfl)|apply v_buildSlice;(case hz|hi=>rfl);(case hv=>(simp only [List.map_cons,List.map_nil];repeat (first|with_reducible exact evs_nil|apply evs_cons;(case h1=>rfl))));(case hp=>(apply pk_cons;(case hc|hs=>rfl);(case h=>(with_reducible exact pk_nil));(case he=>((repeat (first|with_reducible exact ap_nil|apply ap_cons));done))));(case hb|hd=>rfl);intro b|apply v_store;(case hp|hx|hc|hsz|h1=>rfl);(case hb=>repeat first|exact mhd _|apply mtl|apply List.mem_append_right);(case hfit=>exact nle rfl);(case hov=>((repeat (first|with_reducible exact ov_nil|apply ov_cons));done));(case hu=>repeat first|exact Upd.here _ _|apply Upd.there|apply Upd.app)|fail)
  refine v_endR (n3++[_]) (List.Sublist.append_left (by repeat (first|exact List.Sublist.refl _|apply List.Sublist.cons)) _) ⟨rfl,rfl,_,n3,by simpa using hg3,rfl⟩
 ·rintro B' D _ xs G2 _ hle hS ⟨rfl,v,ν1,hg,rfl⟩
  repeat' (first|apply v_seq|apply v_region|apply v_nil|apply v_blk|apply v_pure;(case hop=>(apply p_assign<;>rfl));(case hd=>rfl)|apply v_read;(case hop=>(apply r_load1;rfl;(apply Cell.own;(case h=>repeat first|exact mhd _|apply mtl|apply List.mem_append_right);rfl)));(case hd=>rfl)|fail)
  refine v_retD (Ds:=[D]) (μ1:=(ν1++μ1)++[(b,.cells [v].toArray 47 (0,0))]) (ν1++μ1) (fun ds a ha w _=>outs1 rfl rfl ds a ha) ?_ (List.sublist_append_left _ _) ⟨rfl,xs,ν1,hS,hg,rfl⟩
  exact (show List.Perm (μ1++(ν1++[(b,Obj.cells [v].toArray 47 (0,0))])) (ν1++μ1++[(b,Obj.cells [v].toArray 47 (0,0))]) from (by apply perm_of_count;intro p;simp only [List.append_eq,List.countP_append,List.countP_cons,List.countP_nil,Nat.zero_add,Nat.add_zero];try ac_rfl)).cons _
theorem collect_s {G:GH}{gf:FuncId} [Callable Tryz.prog gf] {lb:List Value}{S:List Int→Prop}{N:Nat}{μ1:OH}(hN:N≤1048576) (hseq:SeqCon Tryz.prog gf lb keyI S N G μ1) :
 Con Tryz.prog 158 #[.func (.func gf) #[] lb.toArray] G μ1 (fun r G' μ'=>G'=G∧∃ xs ν,S xs∧Grow 3 1 r xs.length (xs.map (Value.int .i64 ·)) ν∧μ'=ν++μ1):=by
 have q:=appendSeq_s hN hseq
 (refine v_enter Tryz.func158 rfl Tryz.ntmps158 rfl ?_;intro B _)
 repeat' (first|apply v_seq|apply v_region|apply v_nil|apply v_pure;(case hop=>first|apply p_move<;>rfl|apply p_assign<;>rfl);(case hd=>rfl)|fail)
 refine v_call (μ1:=μ1) (μ2:=[]) rfl q (by simp) rfl ?_
 rintro r _ _ - ⟨rfl,xs,ν,hS,hg,rfl⟩
 repeat' (first|apply v_nil|apply v_pure;(case hop=>(apply p_assign<;>rfl));(case hd=>rfl)|fail)
 refine v_ret (ν++μ1) (outsA1 rfl rfl) (by simp) ⟨rfl,xs,ν,hS,hg,rfl⟩
theorem Grow.cases {e:TypeId}{v:Value}{m:Nat}{xs:List Value}{ν:OH}(h:Grow e 1 v m xs ν):(v=.slice none 0 0∧m=0∧xs=[]∧ν=[])∨∃ b cap spare,v=.slice (some ⟨b,0,none⟩) m cap∧m≤cap∧cap≤maxLen∧ν=[(b,.cells (xs++spare).toArray e (0,0))]∧xs.length=m∧(xs++spare).length=cap:=by
 obtain ⟨hx,⟨rfl,rfl,rfl⟩|⟨b,cap,spare,rfl,rfl,h1,h2,h3⟩⟩:=h
 ·left
  exact ⟨rfl,rfl,by simpa using hx,rfl⟩
 ·right
  exact ⟨b,cap,spare,rfl,h1,h2,rfl,by simpa using hx,by simpa using h3⟩
theorem grow_of {e:TypeId}{b m cap:Nat}{xs spare:List Value}(h1:xs.length=m) (h2:m≤cap) (h3:cap≤maxLen) (h4:(xs++spare).length=cap):Grow e 1 (.slice (some ⟨b,0,none⟩) m cap) m xs [(b,.cells (xs++spare).toArray e (0,0))] :=
 ⟨by omega,.inr ⟨b,cap,spare,rfl,rfl,h2,h3,by omega⟩⟩
theorem sorted_s {G:GH}{gf:FuncId} [Callable Tryz.prog gf] {lb:List Value}{S:List Int→Prop}{N:Nat}{μ1:OH}(hN:N≤1048576) (hS:∀ xs,S xs→xs.length≤1048576) (hseq:SeqCon Tryz.prog gf lb keyI S N G μ1) :
 Con Tryz.prog 117 #[.func (.func gf) #[] lb.toArray] G μ1 (fun r G' μ'=>G'=G∧∃ xs ν,S xs∧Grow 3 1 r xs.length ((sortL xs).map (Value.int .i64 ·)) ν∧μ'=ν++μ1):=by
 have q:=collect_s hN hseq
 (refine v_enter Tryz.func117 rfl Tryz.ntmps117 rfl ?_;intro B _)
 repeat' (first|apply v_seq|apply v_region|apply v_nil|apply v_pure;(case hop=>first|apply p_move<;>rfl|apply p_assign<;>rfl);(case hd=>rfl)|fail)
 refine v_call (μ1:=μ1) (μ2:=[]) rfl q (by simp) rfl ?_
 rintro r G1 _ - ⟨rfl,xs,ν,hSx,hg,rfl⟩
 have hlen:=hS _ hSx
 obtain ⟨rfl,h0,h1,rfl⟩|⟨b,cap,spare,rfl,hc,hm,rfl,hxl,hcl⟩:=Grow.cases hg
 ·have hx0:xs=[]:=List.eq_nil_of_length_eq_zero h0
  subst hx0
  repeat' (first|apply v_seq|apply v_region|apply v_nil|apply v_pure;(case hop=>first|apply p_move<;>rfl|apply p_assign<;>rfl);(case hd=>rfl)|apply v_call (hs:=sort0_s);(case ha=>rfl);(case hp=>exact List.Perm.refl _);(case hd=>rfl);rintro _ _ _ _ ⟨rfl,rfl,rfl⟩|fail)
  refine v_ret μ1 (outsA1 rfl rfl) (by simp) ⟨rfl,[],[],hSx,by simpa [sortL] using Grow.nil _ _,rfl⟩
 ·have q2:=sort_s (G:=G1) (zs:=xs) (b:=b) (cap:=cap) (e:=3) (spare:=spare) (by omega)
  repeat' (first|apply v_seq|apply v_region|apply v_nil|apply v_pure;(case hop=>first|apply p_move<;>rfl|apply p_assign<;>rfl);(case hd=>rfl)|fail)
  refine v_call (μ1:=[(b,_)]) (μ2:=μ1) rfl q2 (by simp) rfl ?_
  rintro _ G2 _ hle2 ⟨rfl,rfl,rfl⟩
  repeat' (first|apply v_seq|apply v_region|apply v_nil|apply v_pure;(case hop=>first|apply p_move<;>rfl|apply p_assign<;>rfl);(case hd=>rfl)|fail)
  refine v_ret ([(b,_)]++μ1) (outsA1 rfl rfl) (List.Sublist.refl _) ⟨rfl,xs,_,hSx,grow_of (by simp [(sortL_perm xs).length_eq]) hc hm (by simpa [(sortL_perm xs).length_eq] using hcl),rfl⟩
theorem ltD_ext:∀ {l l':List Int},l.Pairwise (· < ·)→l'.Pairwise (· < ·)→(∀ x,x∈l↔x∈l')→l=l'
 | [],[],_,_,_=>rfl
 | [],b::l',_,_,h=>absurd ((h b).2 (by simp)) (by simp)
 | a::l,[],_,_,h=>absurd ((h a).1 (by simp)) (by simp)
 | a::l,b::l',h1,h2,h=>by
  rw [List.pairwise_cons] at h1 h2
  have hab:a=b:=by
   have ha:=(h a).1 (by simp)
   have hb:=(h b).2 (by simp)
   rw [List.mem_cons] at ha hb
   rcases ha with ha|ha
   ·exact ha
   ·rcases hb with hb|hb
    ·exact hb.symm
    ·have:=h1.1 b hb
     have:=h2.1 a ha
     omega
  subst hab
  rw [ltD_ext h1.2 h2.2 fun x=>?_]
  constructor
  ·intro hx
   have:=(h x).1 (List.mem_cons_of_mem _ hx)
   rw [List.mem_cons] at this
   rcases this with rfl|h3
   ·have:=h1.1 x hx;omega
   ·exact h3
  ·intro hx
   have:=(h x).2 (List.mem_cons_of_mem _ hx)
   rw [List.mem_cons] at this
   rcases this with rfl|h3
   ·have:=h2.1 x hx;omega
   ·exact h3
abbrev Fl:=Int×List Int
structure Dop where
 kind:Int
 no:Int
 data:List Int
abbrev Fs:=Int→Option (List Int)
def gdo (g:Fs) (x:Dop):Fs:=fun k =>
 if k≠x.no then g k else if x.kind=1 then some ((g k).getD []) else if x.kind=2 then (g k).map (· ++ x.data) else if x.kind=3 then none else g k
def gall (g:Fs) (l:List Dop):Fs:=l.foldl gdo g
def rget (R:List Fl) (k:Int):Option (List Int):=(R.find? fun f=>decide (f.1=k)).map (·.2)
theorem rget_nil (k:Int):rget [] k=none:=rfl
theorem rget_cons (f:Fl) (R:List Fl) (k:Int):rget (f::R) k=if f.1=k then some f.2 else rget R k:=by
 unfold rget
 rw [List.find?_cons]
 by_cases h:f.1=k
 ·simp [h]
 ·simp [h]
def Ris (R:List Fl):Prop:=R.Pairwise fun a b=>a.1<b.1
def Rep (R:List Fl) (g:Fs):Prop:=Ris R∧∀ k,rget R k=g k
theorem rget_none {R:List Fl}{k:Int}:rget R k=none↔k∉R.map (·.1):=by
 induction R with
 | nil=>simp [rget_nil]
 | cons f R ih =>
  rw [rget_cons,List.map_cons,List.mem_cons,not_or]
  by_cases h:f.1=k
  ·subst h;simp
  ·rw [if_neg h,ih]
   exact ⟨fun h2=>⟨fun e=>h e.symm,h2⟩,fun h2=>h2.2⟩
theorem rget_mem {R:List Fl}(h:Ris R) {f:Fl}(hf:f∈R):rget R f.1=some f.2:=by
 induction R with
 | nil=>cases hf
 | cons a R ih =>
  unfold Ris at h
  rw [List.pairwise_cons] at h
  rw [rget_cons]
  rcases List.mem_cons.1 hf with rfl|hf
  ·rw [if_pos rfl]
  ·have:=h.1 f hf
   rw [if_neg (by omega)]
   exact ih h.2 hf
theorem Ris.keys {R:List Fl}(h:Ris R):(R.map (·.1)).Pairwise (· < ·):=List.pairwise_map.2 h
theorem Ris.self {R:List Fl}(h:Ris R):(R.map (·.1)).map (fun k=>(k,(rget R k).getD []))=R:=by
 rw [List.map_map]
 conv=>rhs;rw [← List.map_id R]
 apply List.map_congr_left
 intro f hf
 simp only [Function.comp,id,rget_mem h hf,Option.getD_some]
theorem rep_ext {R R':List Fl}{g:Fs}(h:Rep R g) (h':Rep R' g):R=R':=by
 have hk:R.map (·.1)=R'.map (·.1):=ltD_ext h.1.keys h'.1.keys fun x=>by
  have a:=rget_none (R:=R) (k:=x)
  have b:=rget_none (R:=R') (k:=x)
  rw [h.2] at a
  rw [h'.2] at b
  by_cases hx:x∈R.map (·.1)
  ·simp only [hx,not_true_eq_false,iff_false] at a
   exact ⟨fun _=>Decidable.byContradiction fun hn=>a (b.2 hn),fun _=>hx⟩
  ·simp only [hx,not_false_eq_true,iff_true] at a
   exact ⟨fun h=>absurd h hx,fun h=>absurd h (b.1 a)⟩
 rw [← h.1.self,← h'.1.self,hk]
 apply List.map_congr_left
 intro k _
 rw [h.2,h'.2]
def kp (x:Dop) (f:Fl):List Fl:=if f.1≠x.no then [f] else if x.kind=2 then [(x.no,f.2++x.data)] else if x.kind=1 then [f] else []
def doneL (x:Dop):List Fl→Bool→List Fl
 | [],ins=>if ins=true then [(x.no,[])] else []
 | f::R,ins=>if ins=true∧x.no<f.1 then (x.no,[])::(kp x f++doneL x R false) else kp x f++doneL x R ins
def insB (x:Dop) (R:List Fl):Bool:=decide (x.kind=1∧x.no∉R.map (·.1))
def doneR (R:List Fl) (x:Dop):List Fl:=doneL x R (insB x R)
theorem kp_key {x:Dop}{f a:Fl}(h:a∈kp x f):a.1=f.1:=by
 unfold kp at h
 split at h
 ·rw [List.mem_singleton] at h;rw [h]
 ·rename_i hn
  split at h
  ·rw [List.mem_singleton] at h;rw [h];simp at hn;exact hn.symm
  ·split at h
   ·rw [List.mem_singleton] at h;rw [h]
   ·cases h
theorem doneL_keys {x:Dop}:∀ {R:List Fl}{ins:Bool}{a:Fl},a∈doneL x R ins→a.1∈R.map (·.1)∨(ins=true∧a.1=x.no)
 | [],ins,a,h=>by
  unfold doneL at h
  split at h
  ·rw [List.mem_singleton] at h
   exact .inr ⟨by assumption,by rw [h]⟩
  ·cases h
 | f::R,ins,a,h=>by
  unfold doneL at h
  split at h
  ·rename_i hc
   rcases List.mem_cons.1 h with rfl|h
   ·exact .inr ⟨hc.1,rfl⟩
   ·rcases List.mem_append.1 h with h|h
    ·exact .inl (by rw [kp_key h];simp)
    ·rcases doneL_keys h with h|h
     ·exact .inl (List.mem_cons_of_mem _ h)
     ·exact absurd h.1 (by simp)
  ·rcases List.mem_append.1 h with h|h
   ·exact .inl (by rw [kp_key h];simp)
   ·rcases doneL_keys h with h|h
    ·exact .inl (List.mem_cons_of_mem _ h)
    ·exact .inr h
theorem kp_len {x:Dop}{f:Fl}:(kp x f).Pairwise fun a b=>a.1<b.1:=by
 unfold kp
 split
 ·exact List.pairwise_singleton _ _
 ·split
  ·exact List.pairwise_singleton _ _
  ·split
   ·exact List.pairwise_singleton _ _
   ·exact List.Pairwise.nil
theorem doneL_ris {x:Dop}:∀ {R:List Fl}{ins:Bool},Ris R→(ins=true→x.no∉R.map (·.1))→Ris (doneL x R ins)
 | [],ins,h,hi=>by
  unfold doneL
  split
  ·exact List.pairwise_singleton _ _
  ·exact List.Pairwise.nil
 | f::R,ins,h,hi=>by
  have h0:=h
  unfold Ris at h
  rw [List.pairwise_cons] at h
  have key:∀ ins',(ins'=true→x.no∉R.map (·.1)∧¬ x.no<f.1∧x.no≠f.1)→Ris (kp x f++doneL x R ins'):=fun ins' hc=>by
   unfold Ris
   rw [List.pairwise_append]
   refine ⟨kp_len,doneL_ris h.2 fun e=>(hc e).1,fun a ha b hb=>?_⟩
   rw [kp_key ha]
   rcases doneL_keys hb with hb|hb
   ·obtain ⟨c,hc2,e⟩:=List.mem_map.1 hb
    have:=h.1 c hc2
    omega
   ·have:=hc hb.1
    omega
  unfold doneL
  split
  ·rename_i hc
   have k2:=key false (fun e=>by cases e)
   unfold Ris at k2 ⊢
   rw [List.pairwise_cons]
   refine ⟨fun b hb=>?_,k2⟩
   show x.no<b.1
   rcases List.mem_append.1 hb with hb|hb
   ·rw [kp_key hb];exact hc.2
   ·rcases doneL_keys hb with hb|hb
    ·obtain ⟨c,hc2,e⟩:=List.mem_map.1 hb
     have:=h.1 c hc2
     omega
    ·exact absurd hb.1 (by simp)
  ·rename_i hc
   refine key ins fun e=>?_
   have:=hi e
   rw [List.map_cons,List.mem_cons,not_or] at this
   exact ⟨this.2,fun h2=>hc ⟨e,h2⟩,this.1⟩
theorem rget_app {R R':List Fl}{k:Int}:rget (R++R') k=(rget R k).or (rget R' k):=by
 unfold rget
 rw [List.find?_append]
 cases R.find? fun f=>decide (f.1=k)<;>simp
theorem kp_get {x:Dop}{f:Fl}{k:Int}:rget (kp x f) k=if f.1≠k then none else if k≠x.no then some f.2 else if x.kind=2 then some (f.2++x.data) else if x.kind=1 then some f.2 else none:=by
 unfold kp
 by_cases h1:f.1=k
 ·subst h1
  by_cases h2:f.1=x.no
  ·by_cases h3:x.kind=2
   ·simp [h2,h3,rget_cons]
   ·by_cases h4:x.kind=1
    ·simp [h2,h3,h4,rget_cons]
    ·simp [h2,h3,h4,rget_nil]
  ·simp [h2,rget_cons]
 ·by_cases h2:f.1=x.no
  ·have h5:x.no≠k:=h2 ▸ h1
   by_cases h3:x.kind=2
   ·simp [h2,h3,rget_cons,h5,rget_nil]
   ·by_cases h4:x.kind=1
    ·simp [h2,h3,h4,rget_cons,h5,rget_nil]
    ·simp [h2,h3,h4,rget_nil,h5]
  ·simp [h2,h1,rget_cons,rget_nil]
theorem doneL_get {x:Dop}(hk:1≤x.kind∧x.kind≤3):∀ {R:List Fl}{ins:Bool},Ris R→(ins=true→x.kind=1∧x.no∉R.map (·.1))→∀ k,rget (doneL x R ins) k=if k≠x.no then rget R k else if ins=true then some [] else if x.kind=1 then rget R k else if x.kind=2 then (rget R k).map (· ++ x.data) else none
 | [],ins,h,hi,k=>by
  unfold doneL
  cases ins with
  | true =>
   simp only [if_true,rget_cons,rget_nil]
   by_cases h:x.no=k
   ·simp [h]
   ·have:k≠x.no:=fun e=>h e.symm
    simp [h,this]
  | false=>simp [rget_nil]
 | f::R,ins,h,hi,k=>by
  have h0:=h
  unfold Ris at h
  rw [List.pairwise_cons] at h
  have hnf:f.1∉R.map (·.1):=fun hm=>by
   obtain ⟨c,hc,e⟩:=List.mem_map.1 hm
   have:=h.1 c hc
   omega
  have hrf:=rget_none.2 hnf
  have ihF:=doneL_get hk (R:=R) (ins:=false) h.2 (fun e=>by cases e) k
  unfold doneL
  split
  ·rename_i hc
   obtain ⟨h1,h2⟩:=hi hc.1
   rw [rget_cons,rget_app,kp_get,ihF,rget_cons]
   by_cases e:k=x.no
   ·subst e
    simp [hc.1]
   ·have e':¬ x.no=k:=fun h=>e h.symm
    by_cases e2:f.1=k
    ·simp [e,e',e2]
    ·simp [e,e',e2]
  ·rename_i hc
   have ih:=doneL_get hk (R:=R) (ins:=ins) h.2 (fun e=>⟨(hi e).1,fun hm=>(hi e).2 (List.mem_cons_of_mem _ hm)⟩) k
   rw [rget_app,kp_get,ih,rget_cons]
   by_cases e2:f.1=k
   ·subst e2
    by_cases e:f.1=x.no
    ·cases ins with
     | true=>exact absurd (by rw [← e];simp) (hi rfl).2
     | false =>
      rw [e] at hrf
      by_cases h3:x.kind=2
      ·simp [e,h3]
      ·by_cases h4:x.kind=1
       ·simp [e,h3,h4]
       ·simp [e,h3,h4]
    ·simp [e]
   ·simp [e2]
theorem rep_done {R:List Fl}{g:Fs}{x:Dop}(hk:1≤x.kind∧x.kind≤3) (h:Rep R g):Rep (doneR R x) (gdo g x):=by
 unfold doneR
 refine ⟨doneL_ris h.1 fun e=>(of_decide_eq_true e).2,fun k=>?_⟩
 rw [doneL_get (ins:=insB x R) hk h.1 (fun e=>of_decide_eq_true e) k,h.2]
 unfold gdo
 by_cases e:k=x.no
 ·subst e
  have hn:=rget_none (R:=R) (k:=x.no)
  rw [h.2] at hn
  unfold insB
  by_cases h1:x.kind=1
  ·by_cases h2:x.no∈R.map (·.1)
   ·have:g x.no≠none:=fun e=>(hn.1 e) h2
    obtain ⟨b,hb⟩:=Option.ne_none_iff_exists'.1 this
    simp [h1,h2,hb]
   ·have:=hn.2 h2
    simp [h1,h2,this]
  ·by_cases h2:x.kind=2
   ·simp [h1,h2]
   ·have:x.kind=3:=by omega
    simp [h1,h2,this]
 ·simp [e]
theorem rep_zero:Rep [] (fun _=>none):=⟨List.Pairwise.nil,fun k=>rfl⟩
def laysClone_ren:Go.Shelf.Ren:=⟨fun|5=>119|7=>161|n=>n,fun|3=>24|4=>4|20=>20|23=>113|25=>3|n=>n,fun n=>n⟩
theorem laysClone:SlLaysW.n5 Tryz.prog laysClone_ren where
 mixed:=by kernel_rfl
 f5:=⟨"maps.Clone[map[int][]byte,int,[]byte]",by decide,Tryz.func119.trans (congrArg some (by kernel_rfl))⟩
 f7:=Tryz.func161.trans (congrArg some (by kernel_rfl))
 t4:=Tryz.underlying4
 a4:=Tryz.isAgg4
 z4:=Tryz.sizeOf4
 v4:=Tryz.zeroValue4
 t20:=Tryz.underlying20
 a20:=Tryz.isAgg20
 z20:=Tryz.sizeOf20
 v20:=Tryz.zeroValue20
 t23:=Tryz.underlying113
 a23:=Tryz.isAgg113
 z23:=Tryz.sizeOf113
 v23:=Tryz.zeroValue113
theorem cloneM_s {G:GH}{l:List (Int×Value)}{m:Nat}{oM:Obj}(hM:MapB keyI l oM):Con Tryz.prog 119 #[.map (some m)] G [(m,oM)] (fun r G' μ'=>G'=G∧∃ b,r=.map (some b)∧μ'=[(b,oM),(m,oM)]):=by
 obtain ⟨L,clock,rfl,hok⟩:=hM
 refine Con.ofCallsS fun w hw=>?_
 refine (AnyW.maps_Clone laysClone m _ clock w (hw.own _ _ (List.Mem.head _))).mono ?_
 rintro e w' ⟨rfl,rfl⟩
 exact ⟨_,rfl,G,_,Step.alloc hw _,rfl,_,rfl,rfl⟩
instance keyT_intD:KeyT Tryz.prog 3 keyI:=KeyT.int
theorem leftD_perm {left:List Int}{a:Int}(hn:left.Nodup) (ha:a∈left):left.Perm (a::left.filter fun z=>decide (z≠a)):=by
 refine perm_of_mem hn ?_ fun x=>?_
 ·rw [List.nodup_cons]
  exact ⟨by simp,hn.sublist List.filter_sublist⟩
 ·simp only [List.mem_cons,List.mem_filter,decide_eq_true_eq]
  by_cases hx:x=a
  ·subst hx;simp [ha]
  ·simp [hx]
theorem keysB_s {G:GH}{m:Nat}:Con Tryz.prog 118 #[.map (some m)] G []
 (fun r G' μ'=>∃ b,r=.func (.func 160) #[] #[.pointer (some ⟨b,0,none⟩)]∧G'=G∧μ'=[(b,.cells [Value.map (some m)].toArray 113 (0,0))]):=by
 (refine v_enter Tryz.func118 rfl Tryz.ntmps118 rfl ?_;intro B _)
 repeat' (first|apply v_seq|apply v_region|apply v_nil|apply v_pure;(case hop=>first|apply p_assign<;>rfl|apply p_makeFunc<;>rfl);(case hd=>rfl)|apply v_box;(case hx|hz|hd=>rfl);intro b|fail)
 refine v_ret [(b,_)] (outsA1 rfl rfl) (by repeat (exact List.Sublist.refl _)) ?_
 exact ⟨b,rfl,rfl,rfl⟩
theorem keysB_seq {G:GH}{l:List (Int×Value)}{m b:Nat}{oM:Obj}(hM:MapB keyI l oM):SeqCon Tryz.prog 160 [.pointer (some ⟨b,0,none⟩)] keyI (fun xs=>xs.Perm (l.map (·.1))) l.length G [(b,.cells [Value.map (some m)].toArray 113 (0,0)),(m,oM)]:=by
 intro lp J G1 ν hle hJ0 hY
 have hnd:=hM.nodup
 (refine v_enter Tryz.func160 rfl Tryz.ntmps160 rfl ?_;intro B _)
 repeat' (first|apply v_seq|apply v_region|apply v_nil|apply v_block|apply v_rangeM (hb:=(by repeat (first|exact mhd _|apply mtl))) (hM:=hM);(case hx|hd=>rfl);intro it oI hI|apply v_read;(case hop=>(apply r_load1;rfl;(apply Cell.own;(case h=>repeat exact mhd _);rfl)));(case hd=>rfl)|fail)
 refine v_loopI (ι:=List Int×List Int) [5,0] (fun i vs G' μ'=>GH.le G1 G'∧∃ ν' oI,IterB keyI m l i.2 oM oI∧i.2.Nodup∧(i.1++i.2).Perm (l.map (·.1))∧vs=[.pointer (some ⟨it,0,none⟩),.func (.yield lp) #[] #[]]∧J i.1 G' ν'∧μ'=(it,oI)::(b,.cells [Value.map (some m)].toArray 113 (0,0))::(m,oM)::ν') (fun i=>i.2.length) rfl ([],l.map (·.1)) ⟨GH.le_refl _,ν,oI,hI,hnd,List.Perm.refl _,rfl,hJ0,rfl⟩ ?_
 rintro ⟨pre,left⟩ vs G' _ ⟨hle',ν',oI',hI',hn,hper,rfl,hJ,rfl⟩
 simp only at hI' hn hper hJ
 have hlen:=hper.length_eq
 rw [List.length_append,List.length_map] at hlen
 repeat' (first|apply v_seq|apply v_region|apply v_nextM (k:=3) (hb:=(by repeat (first|exact mhd _|apply mtl))) (hI:=hI');(case hx=>rfl);(case hp=>exact List.Perm.refl _);(case hd=>rfl)|fail)
 ·intro h0
  subst h0
  repeat' (first|apply v_seq|apply v_nil|apply v_exit;(case hp=>rfl)|apply v_pure;(case hop=>(apply p_extract0<;>rfl));(case hd=>rfl)|apply v_condF;(case hc=>rfl)|fail)
  refine v_end ([(b,_),(m,oM)]++ν') (outsA0 rfl) (by repeat (first|exact List.Sublist.refl _|apply List.Sublist.cons)) ?_
  exact ⟨pre,ν',by simpa using hper,hJ,rfl⟩
 ·intro a u oI2 ha hau hI2 hE
  have hy:=hY pre a G' ν' hle' hJ (by
   have:0<left.length:=List.length_pos_of_mem ha
   omega)
  have hlp:=leftD_perm hn ha
  repeat' (first|apply v_seq|apply v_region|apply v_nil|apply v_skip|apply v_block|apply v_blk|apply v_pure;(case hop=>first|apply p_move<;>rfl|apply p_assign<;>rfl|apply p_not<;>rfl|apply p_extract0<;>rfl|fail);(case hd=>rfl)|apply v_condT;(case hc=>rfl)|apply v_condF;(case hc=>rfl)|apply v_read;(case hop=>apply r_entry (hE:=hE);(case hx=>rfl);(case hi=>repeat (exact mhd _));(case hb=>repeat first|exact mhd _|apply mtl));(case hd=>rfl)|apply v_yield (hs:=hy);(case hx|ha=>rfl);(case hp=>exact (List.perm_append_comm (l₁:=[(it,oI2),(b,Obj.cells [Value.map (some m)].toArray 113 (0,0)),(m,oM)]) (l₂:=ν')));(case hd=>rfl);rintro _ G2 ν2 hle2 ⟨rfl,hJ2⟩|fail)
  refine v_perm List.perm_append_comm ?_
  refine v_againI (pre++[a],left.filter fun z=>decide (z≠a)) rfl ⟨GH.le_trans hle' hle2,ν2,oI2,hI2,hn.sublist List.filter_sublist,?_,rfl,hJ2,rfl⟩ ?_
  ·refine List.Perm.trans ?_ hper
   simp only [List.append_assoc,List.singleton_append]
   exact List.Perm.append_left _ hlp.symm
  ·have:=hlp.length_eq
   simp only [List.length_cons] at this ⊢
   omega
abbrev Bs (G:GH) (v:Value) (l:List Int):Prop:=Sl G 1 (IntR .u8) v l
def OpR (G:GH) (x:Dop) (cs:List Value):Prop := ∃ A c,cs=[.int .i64 x.kind,.int .i64 x.no,.slice A x.data.length c]∧Bs G (.slice A x.data.length c) x.data
def FlR (G:GH) (f:Fl) (cs:List Value):Prop := ∃ A c,cs=[.int .i64 f.1,.slice A f.2.length c]∧Bs G (.slice A f.2.length c) f.2
theorem OpR.le {G G':GH}(h:GH.le G G') {x:Dop}{cs:List Value}(hx:OpR G x cs):OpR G' x cs:=let ⟨A,c,h1,h2⟩:=hx;⟨A,c,h1,h2.mono h⟩
theorem FlR.le {G G':GH}(h:GH.le G G') {x:Fl}{cs:List Value}(hx:FlR G x cs):FlR G' x cs:=let ⟨A,c,h1,h2⟩:=hx;⟨A,c,h1,h2.mono h⟩
abbrev Ops (G:GH) (v:Value) (l:List Dop):Prop:=Sl G 3 (OpR G) v l
abbrev Fls (G:GH) (v:Value) (R:List Fl):Prop:=Sl G 2 (FlR G) v R
theorem opOpen {G:GH}{v:Value}{l:List Dop}(h:Ops G v l):∃ A c,∃ dA:Nat→Option Addr,∃ dc:Nat→Nat,v=.slice A l.length c∧l.length≤c∧c≤maxLen∧(0<l.length→A.isSome=true) ∧
 (∀ i (h:i<l.length),CellsG G ((adr A).add (i*3)) [.int .i64 l[i].kind,.int .i64 l[i].no,.slice (dA i) l[i].data.length (dc i)])∧(∀ i (h:i<l.length),Bs G (.slice (dA i) l[i].data.length (dc i)) l[i].data):=by
 obtain ⟨A,c,rfl,h1,h2,h3,h4⟩:=h.open
 have hk:∀ i,∃ p:Option Addr×Nat,∀ h:i<l.length,CellsG G ((adr A).add (i*3)) [.int .i64 l[i].kind,.int .i64 l[i].no,.slice p.1 l[i].data.length p.2]∧Bs G (.slice p.1 l[i].data.length p.2) l[i].data:=fun i=>by
  by_cases hi:i<l.length
  ·obtain ⟨cs,_,⟨B,d,rfl,h6⟩,h5⟩:=h4 i _ (List.getElem?_eq_getElem hi)
   exact ⟨(B,d),fun _=>⟨h5,h6⟩⟩
  ·exact ⟨(none,0),fun h=>absurd h hi⟩
 refine ⟨A,c,fun i=>(Classical.choose (hk i)).1,fun i=>(Classical.choose (hk i)).2,rfl,h1,h2,h3,fun i hi=>?_,fun i hi=>?_⟩
 ·exact (Classical.choose_spec (hk i) hi).1
 ·exact (Classical.choose_spec (hk i) hi).2
theorem flOpen {G:GH}{v:Value}{l:List Fl}(h:Fls G v l):∃ A c,∃ dA:Nat→Option Addr,∃ dc:Nat→Nat,v=.slice A l.length c∧l.length≤c∧c≤maxLen∧(0<l.length→A.isSome=true) ∧
 (∀ i (h:i<l.length),CellsG G ((adr A).add (i*2)) [.int .i64 l[i].1,.slice (dA i) l[i].2.length (dc i)])∧(∀ i (h:i<l.length),Bs G (.slice (dA i) l[i].2.length (dc i)) l[i].2):=by
 obtain ⟨A,c,rfl,h1,h2,h3,h4⟩:=h.open
 have hk:∀ i,∃ p:Option Addr×Nat,∀ h:i<l.length,CellsG G ((adr A).add (i*2)) [.int .i64 l[i].1,.slice p.1 l[i].2.length p.2]∧Bs G (.slice p.1 l[i].2.length p.2) l[i].2:=fun i=>by
  by_cases hi:i<l.length
  ·obtain ⟨cs,_,⟨B,d,rfl,h6⟩,h5⟩:=h4 i _ (List.getElem?_eq_getElem hi)
   exact ⟨(B,d),fun _=>⟨h5,h6⟩⟩
  ·exact ⟨(none,0),fun h=>absurd h hi⟩
 refine ⟨A,c,fun i=>(Classical.choose (hk i)).1,fun i=>(Classical.choose (hk i)).2,rfl,h1,h2,h3,fun i hi=>?_,fun i hi=>?_⟩
 ·exact (Classical.choose_spec (hk i) hi).1
 ·exact (Classical.choose_spec (hk i) hi).2
def inNo (no:Int):Prop:=1≤no∧no≤4294967296
instance (no:Int):Decidable (inNo no):=by unfold inNo;infer_instance
def MF (G:GH) (l:List (Int×Value)) (g:Fs):Prop := ∀ k,match mget l k with|none=>g k=none|some v=>∃ A c b,v=.slice A b.length c∧g k=some b∧Bs G v b∧inNo k
theorem MF.up {G G':GH}(hle:GH.le G G') {l:List (Int×Value)}{g:Fs}(h:MF G l g):MF G' l g:=fun k=>by
 have:=h k
 revert this
 cases mget l k with
 | none=>exact id
 | some v=>exact fun ⟨A,c,b,h0,h1,h2,h3⟩=>⟨A,c,b,h0,h1,h2.mono hle,h3⟩
theorem flat_drop {sz:Nat}{sp:List Value}:∀ {css:List (List Value)},(∀ cs∈css,cs.length=sz)→∀ i (h:i<css.length),((css.flatten++sp).drop (i*sz)).take sz=css[i]
 | [],_,i,h=>absurd h (by simp)
 | cs::css,hl,0,h=>by
  have:=hl cs (by simp)
  rw [Nat.zero_mul,List.drop_zero,List.flatten_cons,List.append_assoc,← this,List.take_left]
  rfl
 | cs::css,hl,i+1,h=>by
  have h1:=hl cs (by simp)
  have ih:=flat_drop (sz:=sz) (sp:=sp) (css:=css) (fun c hc=>hl c (List.mem_cons_of_mem _ hc)) i (by simpa using h)
  rw [List.flatten_cons,List.append_assoc,Nat.add_mul,Nat.one_mul,Nat.add_comm,← List.drop_drop,← h1,List.drop_left,h1,ih]
  rfl
def OpsC (G:GH) (cells:List Value) (l:List Dop) (dA:Nat→Option Addr) (dc:Nat→Nat):Prop:=(∀ i (h:i<l.length),(cells.drop (i*3)).take 3=[.int .i64 l[i].kind,.int .i64 l[i].no,.slice (dA i) l[i].data.length (dc i)])∧∀ i (h:i<l.length),Bs G (.slice (dA i) l[i].data.length (dc i)) l[i].data
theorem opsCases {G:GH}{e:TypeId}{v:Value}{l:List Dop}{ν:OH}(h:GrL e 3 (OpR G) v l ν):(v=.slice none 0 0∧l=[]∧ν=[])∨∃ b cap cells dA dc,v=.slice (some ⟨b,0,none⟩) l.length cap∧l.length≤cap∧cap≤maxLen∧ν=[(b,.cells cells.toArray e (0,0))]∧OpsC G cells l dA dc:=by
 obtain ⟨css,h1,h2,h3⟩:=h
 obtain ⟨hl,⟨rfl,h4,rfl⟩|⟨b,cap,spare,rfl,rfl,h5,h6,h7⟩⟩:=h3
 ·exact .inl ⟨rfl,List.eq_nil_of_length_eq_zero h4,rfl⟩
 ·have hlen:∀ cs∈css,cs.length=3:=fun cs hc=>by
   obtain ⟨i,hi,rfl⟩:=List.getElem_of_mem hc
   exact (h2 i _ _ (List.getElem?_eq_getElem (by omega)) (List.getElem?_eq_getElem hi)).1
  have hk:∀ i,∃ p:Option Addr×Nat,∀ h:i<l.length,css[i]'(by omega)=[.int .i64 l[i].kind,.int .i64 l[i].no,.slice p.1 l[i].data.length p.2]∧Bs G (.slice p.1 l[i].data.length p.2) l[i].data:=fun i=>by
   by_cases hi:i<l.length
   ·obtain ⟨_,A,c,e1,e2⟩:=h2 i _ _ (List.getElem?_eq_getElem hi) (List.getElem?_eq_getElem (show i<css.length by omega))
    exact ⟨(A,c),fun _=>⟨e1,e2⟩⟩
   ·exact ⟨(none,0),fun h=>absurd h hi⟩
  refine .inr ⟨b,cap,css.flatten++spare,fun i=>(Classical.choose (hk i)).1,fun i=>(Classical.choose (hk i)).2,rfl,h5,h6,rfl,fun i hi=>?_,fun i hi=>(Classical.choose_spec (hk i) hi).2⟩
  rw [flat_drop hlen i (by omega)]
  exact (Classical.choose_spec (hk i) hi).1
def Bd (g:Fs) (N:Nat):Prop := ∀ k b,g k=some b→b.length≤N
theorem mf_none {G:GH}{l:List (Int×Value)}{g:Fs}(h:MF G l g) {k:Int}(hk:mget l k=none):g k=none:=by
 have:=h k
 rw [hk] at this
 exact this
theorem mf_put {G:GH}{l:List (Int×Value)}{g g':Fs}(h:MF G l g) {k:Int}{A:Option Addr}{c:Nat}{b:List Int}(hb:Bs G (.slice A b.length c) b) (hno:inNo k) (hg:∀ k',g' k'=if k'=k then some b else g k'):MF G (mput l k (.slice A b.length c)) g':=fun k'=>by
 rw [mget_put,hg]
 by_cases e:k'=k
 ·rw [if_pos e,if_pos e]
  subst e
  exact ⟨A,c,b,rfl,rfl,hb,hno⟩
 ·rw [if_neg e,if_neg e]
  exact h k'
theorem mf_del {G:GH}{l:List (Int×Value)}{g g':Fs}(h:MF G l g) {k:Int}(hg:∀ k',g' k'=if k'=k then none else g k'):MF G (mdel l k) g':=fun k'=>by
 rw [mget_del,hg]
 by_cases e:k'=k
 ·rw [if_pos e,if_pos e]
 ·rw [if_neg e,if_neg e]
  exact h k'
theorem mput_len {l:List (Int×Value)}{k:Int}{v:Value}:(mput l k v).length≤l.length+1:=by
 unfold mput
 split<;>simp
theorem mdel_len {l:List (Int×Value)}{k:Int}:(mdel l k).length≤l.length:=List.length_filter_le _ _
theorem p_idxOwn {P:Program}{σ:Env}{t ty:TypeId}{bytes:Nat}{zero:Value}{e:TypeId}{agg:Bool}{sz:Nat}{x i:Operand}{b l c k:Nat}{kd:IntKind} [Ty P t (.slice e)] [Lay P e agg sz bytes zero] (hx:Env.ev σ x=some (.slice (some ⟨b,0,none⟩) l c)) (hi:Env.ev σ i=some (.int kd (k:Nat))) (h:k<l):PureOp P (.indexAddr t x i) ty σ (.pointer (some ⟨b,k*sz,none⟩)):=by
 have:=p_indexAddr (P:=P) (t:=t) (ty:=ty) hx hi (by omega) (by omega)
 simpa [add_mk] using this
theorem do_s {G:GH}{l:List Dop}{g:Fs}{ml:List (Int×Value)}{m ob cap n:Nat}{oM:Obj}{cells:List Value}{dA:Nat→Option Addr}{dc:Nat→Nat}
 (hM:MapB keyI ml oM) (hF:MF G ml g) (hB:∀ q,q≤n→Bd (gall g (l.take q)) 1000000) (hC:OpsC G cells l dA dc) (hn:n≤l.length) (hl:l.length≤10000) (hx:∀ x∈l,x.data.length≤1000000) (hno:∀ x∈l,inNo x.no) (hcap:n≤cap) :
 Con Tryz.prog 78 #[.map (some m),.slice (some ⟨ob,0,none⟩) n cap] G [(m,oM),(ob,.cells cells.toArray 124 (0,0))]
  (fun r G' μ'=>GH.le G G'∧∃ ml' oM',MapB keyI ml' oM'∧MF G' ml' (gall g (l.take n))∧ml'.length≤ml.length+n∧μ'=[(m,oM'),(ob,.cells cells.toArray 124 (0,0))]):=by
 (refine v_enter Tryz.func78 rfl Tryz.ntmps78 rfl ?_;intro B _)
 repeat' (first|apply v_seq|apply v_region|apply v_nil|apply v_block|apply v_pure;(case hop=>first|apply p_move<;>rfl|apply p_lenSlice<;>rfl|fail);(case hd=>rfl)|fail)
 refine v_loop [10,9,8,0] (fun us G' μ'=>GH.le G G'∧∃ (k:Nat) (ml':List (Int×Value)) (oM':Obj),k≤n∧us=[Value.int .i64 (k:Nat),.int .i64 (n:Nat),.slice (some ⟨ob,0,none⟩) n cap,.map (some m)]∧MapB keyI ml' oM'∧MF G' ml' (gall g (l.take k))∧ml'.length≤ml.length+k∧μ'=[(m,oM'),(ob,.cells cells.toArray 124 (0,0))]) (fun us=>n-(headI us).toNat) rfl ⟨GH.le_refl _,0,ml,oM,by omega,rfl,hM,hF,by omega,rfl⟩ ?_
 rintro us G' _ ⟨hle,k,ml1,oM1,hk,rfl,hM1,hF1,hl1,rfl⟩
 by_cases hlt:k<n
 ·have e1:((k:Nat):Int).toNat=k:=by omega
  have hkl:k<l.length:=by omega
  have hcd:=hC.1 k hkl
  have hdat:=(hC.2 k hkl).mono hle
  have hxl:=hx _ (List.getElem_mem hkl)
  have hnl:=hno _ (List.getElem_mem hkl)
  have hnx:gall g (l.take (k+1))=gdo (gall g (l.take k)) l[k]:=by
   unfold gall
   rw [List.take_succ_eq_append_getElem hkl,List.foldl_append]
   rfl
  have hN3:=hB (k+1) (by omega)
  rw [hnx] at hN3
  generalize gall g (l.take k)=g1 at *
  generalize hxe:l[k]=x at *
  obtain ⟨kind,no,data⟩:=x
  simp only at *
  have hrd:=fun (σ:Env) (μ:OH) (ty:TypeId) (xo i:Operand) (hb:(m,oM1)∈μ) (h1:Env.ev σ xo=some (.map (some m))) (h2:Env.ev σ i=some (keyI no))=>r_lookupOk (P:=Tryz.prog) (σ:=σ) (G:=G') (μ:=μ) (ty:=ty) (t:=113) (k:=3) (e:=24) (mk:=keyI) no h1 h2 hb hM1
  have hFk:=hF1 no
  have hl2:=mput_len (l:=ml1) (k:=no) (v:=.slice none 0 0)
  have hl3:=mdel_len (l:=ml1) (k:=no)
  have hd3:kind=3→MF G' (mdel ml1 no) (gdo g1 ⟨kind,no,data⟩):=fun h3=>mf_del hF1 fun k'=>by
   unfold gdo
   by_cases e:k'=no
   ·simp [e,h3]
   ·simp [e]
  have hoth:¬ kind=1→¬ kind=2→¬ kind=3→gdo g1 ⟨kind,no,data⟩=g1:=fun h1 h2 h3=>by
   funext k'
   unfold gdo
   by_cases e:k'=no
   ·simp [e,h1,h2,h3]
   ·simp [e]
  have hsame:gdo g1 ⟨kind,no,data⟩=g1→MF G' ml1 (gdo g1 ⟨kind,no,data⟩):=fun e=>by rw [e];exact hF1
  clear hF hM
  rw [← hnx] at hd3 hoth hsame
  cases hmg:mget ml1 no with
  | none =>
   have hg0:=mf_none hF1 hmg
   have hd1:kind=1→MF G' (mput ml1 no (.slice none 0 0)) (gdo g1 ⟨kind,no,data⟩):=fun h1=>mf_put (A:=none) (c:=0) (b:=[]) hF1 Sl.nil hnl fun k'=>by
    unfold gdo
    by_cases e:k'=no
    ·simp [e,h1,hg0]
    ·simp [e]
   have h2no:kind=2→gdo g1 ⟨kind,no,data⟩=g1:=fun h2=>by
    funext k'
    unfold gdo
    by_cases e:k'=no
    ·simp [e,h2,hg0]
    ·simp [e]
   rw [← hnx] at hd1 h2no
   simp only [hmg,Option.getD_none,Option.isSome_none] at hrd
   repeat' (first|apply v_pure;(case hop=>apply p_idxOwn;(case hx|hi=>rfl);(case h=>omega));(case hd=>rfl)|apply v_seq|apply v_region|apply v_nil|apply v_skip|apply v_block|apply v_blk|apply v_take;(case hg=>rfl)|apply v_pass;(case hg|hn|hd=>rfl)|apply v_pure;(case hop=>first|apply p_move<;>rfl|apply p_eq<;>rfl|apply p_lt<;>rfl|apply p_assign<;>rfl|apply p_pickT<;>rfl|apply p_pickF<;>rfl|apply p_not<;>rfl|apply p_fieldAddrB<;>rfl|apply p_extract0<;>rfl|apply p_extract1<;>rfl|apply p_add;(case hx|hy=>rfl);(case h=>omega)|fail);(case hd=>rfl)|apply v_condT;(case hc=>rfl)|apply v_condF;(case hc=>rfl)|apply v_cond;(case hc=>rfl);all_goals (intro h;(try simp only [reduceCtorEq,zzz] at h);try (exfalso;omega))|apply v_guardB;(case h1|h2=>rfl);all_goals (intro h;(try simp only [reduceCtorEq,zzz] at h))|apply v_read;(case hop=>(apply r_loadNo;(case hx=>rfl);(case h=>repeat first|exact mhd _|apply mtl);(case hd=>exact hcd);(case hn=>rfl)));(case hd=>rfl)|apply v_read;(case hop=>apply hrd;(case hb=>repeat first|exact mhd _|apply mtl);all_goals rfl);(case hd=>rfl)|apply v_mapUpdate (k:=3) (mk:=keyI) no (hM:=hM1);(case hx|hi|hy=>rfl);(case hp=>exact PickA.perm (ν:=[(m,oM1)]) (by repeat (first|exact PickA.here _|apply PickA.cons)));intro oM2 hM2 hK2|apply v_delete0 (k:=3) (mk:=keyI) no (hM:=hM1);(case hx|hi=>rfl);(case hp=>exact PickA.perm (ν:=[(m,oM1)]) (by repeat (first|exact PickA.here _|apply PickA.cons)));intro oM2 hM2 hK2|apply v_read;(case hop=>(apply r_load1;rfl;(apply Cell.own;(case h=>repeat exact mhd _);rfl)));(case hd=>rfl)|apply v_alloc;(case hz|hd=>rfl);intro b|apply v_store;(case hp|hx|hc|hsz|h1=>rfl);(case hb=>repeat exact mhd _);(case hfit=>exact nle rfl);(case hov=>((repeat (first|with_reducible exact ov_nil|apply ov_cons));done));(case hu=>repeat (exact Upd.here _ _))|fail)
   all_goals first
    |(refine v_drop (ν:=[(m,oM2),(ob,_)]) (by repeat (first|exact List.Sublist.refl _|apply List.Sublist.cons_cons|apply List.Sublist.cons)) ?_
      refine v_again rfl ⟨hle,k+1,_,oM2,by omega,rfl,hM2,hd1 (by assumption),by omega,rfl⟩ (by simp [headI];omega))
    |(refine v_drop (ν:=[(m,oM2),(ob,_)]) (by repeat (first|exact List.Sublist.refl _|apply List.Sublist.cons_cons|apply List.Sublist.cons)) ?_
      refine v_again rfl ⟨hle,k+1,_,oM2,by omega,rfl,hM2,hd3 (by assumption),by omega,rfl⟩ (by simp [headI];omega))
    |(refine v_drop (ν:=[(m,oM1),(ob,_)]) (by repeat (first|exact List.Sublist.refl _|apply List.Sublist.cons)) ?_
      refine v_again rfl ⟨hle,k+1,_,oM1,by omega,rfl,hM1,hsame (by first|exact h2no (by assumption)|exact hoth (by assumption) (by assumption) (by assumption)),by omega,rfl⟩ (by simp [headI];omega))
  | some w =>
   rw [hmg] at hFk
   obtain ⟨A9,c9,bb,rfl,hgb,hbs,-⟩:=hFk
   have h1no:kind=1→gdo g1 ⟨kind,no,data⟩=g1:=fun h1=>by
    funext k'
    unfold gdo
    by_cases e:k'=no
    ·simp [e,h1,hgb]
    ·simp [e]
   rw [← hnx] at h1no
   simp only [hmg,Option.getD_some,Option.isSome_some] at hrd
   repeat' (first|apply v_pure;(case hop=>apply p_idxOwn;(case hx|hi=>rfl);(case h=>omega));(case hd=>rfl)|apply v_seq|apply v_region|apply v_nil|apply v_skip|apply v_block|apply v_blk|apply v_take;(case hg=>rfl)|apply v_pass;(case hg|hn|hd=>rfl)|apply v_pure;(case hop=>first|apply p_move<;>rfl|apply p_eq<;>rfl|apply p_lt<;>rfl|apply p_assign<;>rfl|apply p_pickT<;>rfl|apply p_pickF<;>rfl|apply p_not<;>rfl|apply p_fieldAddrB<;>rfl|apply p_extract0<;>rfl|apply p_extract1<;>rfl|apply p_add;(case hx|hy=>rfl);(case h=>omega)|fail);(case hd=>rfl)|apply v_condT;(case hc=>rfl)|apply v_condF;(case hc=>rfl)|apply v_cond;(case hc=>rfl);all_goals (intro h;(try simp only [reduceCtorEq,zzz] at h);try (exfalso;omega))|apply v_guardB;(case h1|h2=>rfl);all_goals (intro h;(try simp only [reduceCtorEq,zzz] at h);try (exfalso;omega))|apply v_read;(case hop=>(apply r_loadNo;(case hx=>rfl);(case h=>repeat first|exact mhd _|apply mtl);(case hd=>exact hcd);(case hn=>rfl)));(case hd=>rfl)|apply v_read;(case hop=>apply hrd;(case hb=>repeat first|exact mhd _|apply mtl);all_goals rfl);(case hd=>rfl)|apply v_delete0 (k:=3) (mk:=keyI) no (hM:=hM1);(case hx|hi=>rfl);(case hp=>exact PickA.perm (ν:=[(m,oM1)]) (by repeat (first|exact PickA.here _|apply PickA.cons)));intro oM2 hM2 hK2|apply v_read;(case hop=>(apply r_load1;rfl;(apply Cell.own;(case h=>repeat exact mhd _);rfl)));(case hd=>rfl)|apply v_alloc;(case hz|hd=>rfl);intro b|apply v_store;(case hp|hx|hc|hsz|h1=>rfl);(case hb=>repeat exact mhd _);(case hfit=>exact nle rfl);(case hov=>((repeat (first|with_reducible exact ov_nil|apply ov_cons));done));(case hu=>repeat (exact Upd.here _ _))|fail)
   all_goals try
    (refine v_drop (ν:=[(m,oM2),(ob,_)]) (by repeat (first|exact List.Sublist.refl _|apply List.Sublist.cons_cons|apply List.Sublist.cons)) ?_
     refine v_again rfl ⟨hle,k+1,_,oM2,by omega,rfl,hM2,hd3 (by assumption),by omega,rfl⟩ (by simp [headI];omega)
     done)
   all_goals try
    (refine v_drop (ν:=[(m,oM1),(ob,_)]) (by repeat (first|exact List.Sublist.refl _|apply List.Sublist.cons)) ?_
     refine v_again rfl ⟨hle,k+1,_,oM1,by omega,rfl,hM1,hsame (by first|exact h1no (by assumption)|exact hoth (by assumption) (by assumption) (by assumption)),by omega,rfl⟩ (by simp [headI];omega)
     done)
   have hbl:bb.length+data.length≤1000000:=by
    have:=hN3 no (bb++data) (by unfold gdo;simp [hgb,show kind=2 by assumption])
    rwa [List.length_append] at this
   obtain ⟨_,_,_,_,_,_,_,hw1⟩:=hbs.openInt
   obtain ⟨_,_,_,_,_,_,_,hw2⟩:=hdat.openInt
   refine d_start [(b,.cells [Value.int .i64 kind,.int .i64 no,.slice (dA k) data.length (dc k)].toArray 124 (0,0))] (by kernel_rfl) (by kernel_rfl) (by kernel_rfl) (by intro e he;(simp at he;simp [he];done)) ?_
   all_goals (apply dtm 0;(case hi|hx=>rfl);(case hq=>kernel_rfl);apply dtk 1;(case hi=>rfl);(case hop=>(apply prd;apply p_fieldAddrB<;>rfl));(case hq=>kernel_rfl))
   all_goals (apply dtk 2;(case hi=>rfl);(case hop=>first|apply r_loadNo;(case hx=>rfl);(case h=>repeat fail);(case hd=>repeat fail);(case hn=>rfl)|apply r_load1;rfl;(apply Cell.own;(case h=>repeat exact mhd _);rfl)|apply r_loadN;rfl;(apply CellsAt.own;(case h=>repeat fail));rfl);(case hq=>kernel_rfl);apply dtm 3;(case hi|hx=>rfl);(case hq=>kernel_rfl))
   all_goals (apply dtk 4;(case hi=>rfl);(case hop=>(apply prd;apply p_fieldAddrB<;>rfl));(case hq=>kernel_rfl);apply dtk 5;(case hi=>rfl);(case hop=>first|apply r_loadNo;(case hx=>rfl);(case h=>repeat fail);(case hd=>repeat fail);(case hn=>rfl)|apply r_load1;rfl;(apply Cell.own;(case h=>repeat exact mhd _);rfl)|apply r_loadN;rfl;(apply CellsAt.own;(case h=>repeat fail));rfl);(case hq=>kernel_rfl))
   all_goals (apply d_buildSlice 6;(case hi=>rfl);(case hr=>kernel_rfl);(case hT=>infer_instance);(case hL=>infer_instance);(case hz|hl=>rfl);(case hv=>(simp only [List.map_cons,List.map_nil];repeat (first|with_reducible exact evs_nil|apply evs_cons;(case h1=>rfl))));(case hp=>(apply pk_cons;(case hc|hs=>rfl);(case h=>(apply pk_cons;(case hc|hs=>rfl);(case h=>(with_reducible exact pk_nil));(case he=>((repeat (first|with_reducible exact ap_nil|apply ap_cons));done))));(case he=>((repeat (first|with_reducible exact ap_nil|apply ap_cons));done))));(case hb|hd=>rfl);(case hν=>intro e he;(simp at he;simp [he];done));intro sb)
   all_goals ((apply d_call 7 (hs:=concat2_s (sb:=sb) hbs hdat (by omega)) (μ1:=[(sb,_)]) (μ2:=[(b,.cells [Value.int .i64 kind,.int .i64 no,.slice (dA k) data.length (dc k)].toArray 124 (0,0)),(m,oM1),(ob,.cells cells.toArray 124 (0,0))]);(case hi=>rfl);(case hr=>kernel_rfl);(case ha=>rfl);(case hp=>exact List.Perm.refl _);(case hd=>rfl);(case hν'=>intro e he;rw [List.mem_singleton] at he;rw [he];exact mhd _);rintro r4 G4 _ - ⟨hG4,n4,hg4,rfl⟩;subst G4;obtain ⟨A4,c4,rfl,-,-⟩:=hg4.shape))
   all_goals ((apply d_exec0 8;(case hi=>rfl);(case hr=>kernel_rfl);(case hop=>exact m_mapUpdate (k:=3) (mk:=keyI) no rfl rfl rfl (PickA.perm (ν:=[(m,oM1)]) (PickA.app _ (PickA.cons _ (PickA.one _)))) hM1);rintro _ G4 _ ⟨oM2,hM2,hK2,hG4,rfl⟩;subst G4;refine ⟨(by intro e he;rw [List.mem_singleton] at he;rw [he];exact List.Mem.tail _ (List.mem_append_right (n4++[(sb,_)]) (List.Mem.head _))),?_⟩))
   all_goals (apply d_done;(case hr=>kernel_rfl))
   repeat' (first|apply v_region|apply v_nil|apply v_blk|apply v_pure;(case hop=>first|apply p_move<;>rfl|apply p_add;(case hx|hy=>rfl);(case h=>omega)|fail);(case hd=>rfl)|fail)
   rw [List.append_assoc]
   refine v_frz n4 (PickA.cons _ (PickA.here _)) ?_
   intro G5 hle5 hG5
   have hbs4:=hg4.ints hG5 (by
    intro y hy
    rcases List.mem_append.1 hy with hy|hy
    ·exact hw1 y hy
    ·exact hw2 y hy)
   have hl5:=mput_len (l:=ml1) (k:=no) (v:=.slice A4 (bb++data).length c4)
   refine v_drop (ν:=[(m,oM2),(ob,_)]) (List.Sublist.cons_cons _ (List.Sublist.cons _ (List.Sublist.cons _ (List.Sublist.refl _)))) ?_
   refine v_again rfl ⟨GH.le_trans hle hle5,k+1,_,oM2,by omega,rfl,hM2,mf_put (hF1.up hle5) hbs4 hnl (fun k'=>?_),by omega,rfl⟩ (by simp [headI];omega)
   rw [hnx]
   unfold gdo
   by_cases e:k'=no
   ·have:kind=2:=by assumption
    simp [e,this,hgb]
   ·simp [e]
 ·obtain rfl:k=n:=by omega
  repeat' (first|apply v_seq|apply v_region|apply v_nil|apply v_exit;(case hp=>rfl)|apply v_pure;(case hop=>(apply p_lt<;>rfl));(case hd=>rfl)|apply v_cond;(case hc=>rfl);all_goals (intro h;(try simp only [reduceCtorEq,zzz] at h);try (exfalso;omega))|fail)
  refine v_end [(m,_),(ob,_)] (outsA0 rfl) (by repeat (exact List.Sublist.refl _)) ?_
  exact ⟨hle,ml1,oM1,hM1,hF1,hl1,rfl⟩
def dkO (m:Nat) (ov:Value):Obj:=.cells [.map (some m),ov].toArray 115 (0,0)
theorem doPre_s {G:GH}{l:List Dop}{g:Fs}{ml:List (Int×Value)}{m n:Nat}{oM:Obj}{A:Option Addr}{c:Nat}{ν:OH}
 (hM:MapB keyI ml oM) (hF:MF G ml g) (hB:∀ q,q≤n→Bd (gall g (l.take q)) 1000000) (hg:GrL 124 3 (OpR G) (.slice A l.length c) l ν) (hn:n≤l.length) (hl:l.length≤10000) (hx:∀ x∈l,x.data.length≤1000000) (hno:∀ x∈l,inNo x.no) :
 Con Tryz.prog 78 #[.map (some m),.slice A n c] G ((m,oM)::ν)
  (fun r G' μ'=>GH.le G G'∧∃ ml' oM',MapB keyI ml' oM'∧MF G' ml' (gall g (l.take n))∧ml'.length≤ml.length+n∧μ'=(m,oM')::ν):=by
 rcases opsCases hg with ⟨he,rfl,rfl⟩|⟨b,cap,cells,dA,dc,he,h1,h2,rfl,hC⟩
 ·injection he with ea _ ec
  subst ea;subst ec
  obtain rfl:n=0:=by simpa using hn
  (refine v_enter Tryz.func78 rfl Tryz.ntmps78 rfl ?_;intro B _)
  repeat' (first|apply v_seq|apply v_region|apply v_nil|apply v_block|apply v_pure;(case hop=>first|apply p_move<;>rfl|apply p_lenSlice<;>rfl|fail);(case hd=>rfl)|fail)
  refine v_loop [10,9] (fun us G' μ'=>G'=G∧us=[Value.int .i64 (0:Nat),.int .i64 (0:Nat)]∧μ'=[(m,oM)]) (fun us=>0) rfl ⟨rfl,rfl,rfl⟩ ?_
  rintro us G' _ ⟨rfl,rfl,rfl⟩
  repeat' (first|apply v_seq|apply v_region|apply v_nil|apply v_exit;(case hp=>rfl)|apply v_pure;(case hop=>(apply p_lt<;>rfl));(case hd=>rfl)|apply v_cond;(case hc=>rfl);all_goals (intro h;(try simp only [reduceCtorEq,zzz] at h);try (exfalso;omega))|fail)
  refine v_end [(m,_)] (outsA0 rfl) (by repeat (exact List.Sublist.refl _)) ?_
  exact ⟨GH.le_refl _,ml,oM,hM,hF,by omega,rfl⟩
 ·injection he with ea _ ec
  subst ea;subst ec
  exact do_s hM hF hB hC hn hl hx hno (by omega)
theorem gall_snoc {g:Fs}{l:List Dop}{x:Dop}:gall g (l++[x])=gdo (gall g l) x:=by
 unfold gall
 rw [List.foldl_append]
 rfl
theorem dput_s {G:GH}{l:List Dop}{d m:Nat}{ov:Value}{ν:OH}(kind no:Int) {b:List Int}{bv:Value}(hg:GrL 124 3 (OpR G) ov l ν) (hl:l.length≤10000) (hb:Bs G bv b) (hbl:b.length≤1000000) :
 Con Tryz.prog 115 #[.pointer (some ⟨d,0,none⟩),.int .i64 kind,.int .i64 no,bv] G ((d,dkO m ov)::ν)
  (fun _ G' μ'=>GH.le G G'∧∃ ov' ν',GrL 124 3 (OpR G') ov' (if 1≤no∧no≤4294967296 then l++[⟨kind,no,b⟩] else l) ν'∧μ'=(d,dkO m ov')::ν'):=by
 obtain ⟨css,hc1,hc2,hgr⟩:=id hg
 obtain ⟨A,c,rfl,hA,hA2⟩:=hgr.shape
 simp only [maxLen] at hA2
 have qc:=bclone_s hb (by omega)
 obtain ⟨_,_,_,_,_,_,_,hwb⟩:=hb.openInt
 (refine v_enter Tryz.func115 rfl Tryz.ntmps115 rfl ?_;intro B _)
 by_cases hno:1≤no∧no≤4294967296
 ·rw [if_pos hno]
  repeat' (first|apply v_seq|apply v_region|apply v_nil|apply v_skip|apply v_take;(case hg=>rfl)|apply v_pure;(case hop=>first|apply p_move<;>rfl|apply p_lt<;>rfl|apply p_gt<;>rfl|apply p_pickF<;>rfl|apply p_eqNil<;>rfl|fail);(case hd=>rfl)|apply v_cond;(case hc=>rfl);all_goals (intro h;(try simp only [reduceCtorEq,zzz] at h);try (exfalso;omega))|apply v_guardB;(case h1|h2=>rfl);all_goals (intro h;(try simp only [reduceCtorEq,zzz] at h);try (exfalso;omega))|fail)
  refine d_start [] (by kernel_rfl) (by kernel_rfl) (by kernel_rfl) (by intro e he;(simp at he ⊢;try omega)) ?_
  all_goals (apply dtm 0;(case hi|hx=>rfl);(case hq=>kernel_rfl);apply dtm 1;(case hi|hx=>rfl);(case hq=>kernel_rfl))
  all_goals (apply dtn 2;(case hi|hx=>rfl);(case hq=>kernel_rfl);apply dtk 3;(case hi=>rfl);(case hop=>(apply prd;apply p_fieldAddrB<;>rfl));(case hq=>kernel_rfl))
  all_goals (apply dtm 5;(case hi|hx=>rfl);(case hq=>kernel_rfl);apply dtm 6;(case hi|hx=>rfl);(case hq=>kernel_rfl))
  all_goals (apply dtm 7;(case hi|hx=>rfl);(case hq=>kernel_rfl))
  focus
   refine d_fork 4 8 (by kernel_rfl) ?_ ?_
   rotate_right
   focus
    (apply x_call 8 (hs:=qc) (μ1:=[]);(case hi|ha=>rfl);(case hp=>exact List.Perm.refl _);(case hd=>rfl);(case hν'=>intro e he;cases he);rintro r4 G4 n4 - ⟨hG4,hg4⟩;subst G4;obtain ⟨A4,c4,rfl,-,-⟩:=hg4.shape)
    all_goals (apply dtk 9;(case hi=>rfl);(case hop=>(apply prd;apply p_build;(case hz=>rfl);(case hv=>(simp only [List.map_cons,List.map_nil];repeat (first|with_reducible exact evs_nil|apply evs_cons;(case h1=>rfl))));(case hb=>(apply bldL;repeat (first|exact bld_nil|apply bld_cons;(case hpf|hc|hs|hl=>rfl);(case ho=>((repeat (first|with_reducible exact ov_nil|apply ov_cons));done)))))));(case hq=>kernel_rfl))
    focus
     refine d_fork 4 10 (by kernel_rfl) ?_ ?_
     rotate_right
     focus
      (apply x_buildSlice 10;(case hi=>rfl);(case hT=>infer_instance);(case hL=>infer_instance);(case hz|hl=>rfl);(case hv=>(simp only [List.map_cons,List.map_nil];repeat (first|with_reducible exact evs_nil|apply evs_cons;(case h1=>rfl))));(case hp=>(apply pk_cons;(case hc|hs=>rfl);(case h=>(with_reducible exact pk_nil));(case he=>((repeat (first|with_reducible exact ap_nil|apply ap_cons));done))));(case hb|hd=>rfl);(case hν=>intro e he;(cases he;done));intro sb)
      all_goals (apply d_keep 4 (hop:=ReadOp.move ?hop);(case hi=>rfl);(case hr=>kernel_rfl);(case hop=>(apply r_load1;rfl;(apply Cell.own;(case h=>repeat first|exact mhd _|apply mtl|apply List.mem_append_right);rfl)));(case hd=>rfl))
      all_goals (apply d_append 11 (hg:=hgr) (q':=1) (us:=[.int .i64 kind,.int .i64 no,.slice A4 b.length c4]) (hp:=PickA.perm (PickA.cons _ (PickA.app _ (PickA.cons _ PickA.last)))) (hsrc:=Src.own (e:=124) (List.Mem.head _) rfl);(case hi=>rfl);(case hr=>kernel_rfl);(case hT=>infer_instance);(case hL=>infer_instance);(case hzs=>rfl);(case hsz=>omega);(case hs|hx=>rfl);(case hb=>omega);(case hb'=>simp only [maxLen];omega);(case hd|h1=>rfl);(case hν=>intro e he;(cases he;done));intro v5 n5 g5;obtain ⟨A5,c5,rfl,-,-⟩:=g5.shape)
      all_goals (apply dtn 12;(case hi|hx=>rfl);(case hq=>kernel_rfl);apply dtk 13;(case hi=>rfl);(case hop=>(apply prd;apply p_fieldAddrB<;>rfl));(case hq=>kernel_rfl))
      all_goals (apply d_store 14;(case hi=>rfl);(case hr=>kernel_rfl);(case hL=>infer_instance);(case hp|hx|hc|hsz|h1=>rfl);(case hb=>repeat first|exact mhd _|apply mtl|apply List.mem_append_right);(case hfit=>exact nle rfl);(case hov=>((repeat (first|with_reducible exact ov_nil|apply ov_cons));done));(case hu=>repeat first|exact Upd.here _ _|apply Upd.there|apply Upd.app);(case hν'=>intro e he;(cases he;done)))
      all_goals (apply d_done;(case hr=>kernel_rfl))
     rotate_right
     focus
      (apply x_exec 4;(case hi=>rfl);(case hop=>exact ReadOp.move (r_load1 rfl (Cell.own (by repeat (first|exact mhd _|apply List.mem_append_right)) rfl)));(case hd=>rfl);rintro _ G0 _ ⟨rfl,hG0,rfl⟩;subst G0;refine ⟨(by intro e he;cases he),?_⟩)
      all_goals (apply d_buildSlice 10;(case hi=>rfl);(case hr=>kernel_rfl);(case hT=>infer_instance);(case hL=>infer_instance);(case hz|hl=>rfl);(case hv=>(simp only [List.map_cons,List.map_nil];repeat (first|with_reducible exact evs_nil|apply evs_cons;(case h1=>rfl))));(case hp=>(apply pk_cons;(case hc|hs=>rfl);(case h=>(with_reducible exact pk_nil));(case he=>((repeat (first|with_reducible exact ap_nil|apply ap_cons));done))));(case hb|hd=>rfl);(case hν=>intro e he;(cases he;done));intro sb)
      all_goals (apply d_append 11 (hg:=hgr) (q':=1) (us:=[.int .i64 kind,.int .i64 no,.slice A4 b.length c4]) (hp:=PickA.perm (PickA.cons _ (PickA.app _ (PickA.cons _ PickA.last)))) (hsrc:=Src.own (e:=124) (List.Mem.head _) rfl);(case hi=>rfl);(case hr=>kernel_rfl);(case hT=>infer_instance);(case hL=>infer_instance);(case hzs=>rfl);(case hsz=>omega);(case hs|hx=>rfl);(case hb=>omega);(case hb'=>simp only [maxLen];omega);(case hd|h1=>rfl);(case hν=>intro e he;(cases he;done));intro v5 n5 g5;obtain ⟨A5,c5,rfl,-,-⟩:=g5.shape)
      all_goals (apply dtn 12;(case hi|hx=>rfl);(case hq=>kernel_rfl);apply dtk 13;(case hi=>rfl);(case hop=>(apply prd;apply p_fieldAddrB<;>rfl));(case hq=>kernel_rfl))
      all_goals (apply d_store 14;(case hi=>rfl);(case hr=>kernel_rfl);(case hL=>infer_instance);(case hp|hx|hc|hsz|h1=>rfl);(case hb=>repeat first|exact mhd _|apply mtl|apply List.mem_append_right);(case hfit=>exact nle rfl);(case hov=>((repeat (first|with_reducible exact ov_nil|apply ov_cons));done));(case hu=>repeat first|exact Upd.here _ _|apply Upd.there|apply Upd.app);(case hν'=>intro e he;(cases he;done)))
      all_goals (apply d_done;(case hr=>kernel_rfl))
   rotate_right
   focus
    (apply x_exec 4;(case hi=>rfl);(case hop=>exact ReadOp.move (r_load1 rfl (Cell.own (by repeat (exact mhd _)) rfl)));(case hd=>rfl);rintro _ G0 _ ⟨rfl,hG0,rfl⟩;subst G0;refine ⟨(by intro e he;cases he),?_⟩)
    all_goals ((apply d_call 8 (hs:=qc) (μ1:=[]);(case hi=>rfl);(case hr=>kernel_rfl);(case ha=>rfl);(case hp=>exact List.Perm.refl _);(case hd=>rfl);(case hν'=>intro e he;cases he);rintro r4 G4 n4 - ⟨hG4,hg4⟩;subst G4;obtain ⟨A4,c4,rfl,-,-⟩:=hg4.shape))
    all_goals (apply dtk 9;(case hi=>rfl);(case hop=>(apply prd;apply p_build;(case hz=>rfl);(case hv=>(simp only [List.map_cons,List.map_nil];repeat (first|with_reducible exact evs_nil|apply evs_cons;(case h1=>rfl))));(case hb=>(apply bldL;repeat (first|exact bld_nil|apply bld_cons;(case hpf|hc|hs|hl=>rfl);(case ho=>((repeat (first|with_reducible exact ov_nil|apply ov_cons));done)))))));(case hq=>kernel_rfl))
    all_goals (apply d_buildSlice 10;(case hi=>rfl);(case hr=>kernel_rfl);(case hT=>infer_instance);(case hL=>infer_instance);(case hz|hl=>rfl);(case hv=>(simp only [List.map_cons,List.map_nil];repeat (first|with_reducible exact evs_nil|apply evs_cons;(case h1=>rfl))));(case hp=>(apply pk_cons;(case hc|hs=>rfl);(case h=>(with_reducible exact pk_nil));(case he=>((repeat (first|with_reducible exact ap_nil|apply ap_cons));done))));(case hb|hd=>rfl);(case hν=>intro e he;(cases he;done));intro sb)
    all_goals (apply d_append 11 (hg:=hgr) (q':=1) (us:=[.int .i64 kind,.int .i64 no,.slice A4 b.length c4]) (hp:=PickA.perm (PickA.cons _ (PickA.app _ (PickA.cons _ PickA.last)))) (hsrc:=Src.own (e:=124) (List.Mem.head _) rfl);(case hi=>rfl);(case hr=>kernel_rfl);(case hT=>infer_instance);(case hL=>infer_instance);(case hzs=>rfl);(case hsz=>omega);(case hs|hx=>rfl);(case hb=>omega);(case hb'=>simp only [maxLen];omega);(case hd|h1=>rfl);(case hν=>intro e he;(cases he;done));intro v5 n5 g5;obtain ⟨A5,c5,rfl,-,-⟩:=g5.shape)
    all_goals (apply dtn 12;(case hi|hx=>rfl);(case hq=>kernel_rfl);apply dtk 13;(case hi=>rfl);(case hop=>(apply prd;apply p_fieldAddrB<;>rfl));(case hq=>kernel_rfl))
    all_goals (apply d_store 14;(case hi=>rfl);(case hr=>kernel_rfl);(case hL=>infer_instance);(case hp|hx|hc|hsz|h1=>rfl);(case hb=>repeat first|exact mhd _|apply mtl|apply List.mem_append_right);(case hfit=>exact nle rfl);(case hov=>((repeat (first|with_reducible exact ov_nil|apply ov_cons));done));(case hu=>repeat first|exact Upd.here _ _|apply Upd.there|apply Upd.app);(case hν'=>intro e he;(cases he;done)))
    all_goals (apply d_done;(case hr=>kernel_rfl))
  all_goals repeat' (fail)
  all_goals
   (refine v_frz n4 (PickA.app _ (PickA.cons _ (PickA.here _))) ?_
    intro G5 hle5 hG5
    have hbs:=hg4.ints hG5 hwb
    refine v_perm List.perm_middle ?_
    refine v_drop (List.sublist_cons_self _ _) ?_
    refine v_perm List.perm_append_comm ?_
    refine v_end ((d,dkO m (.slice A5 (l.length+1) c5))::n5) (outsA0 rfl) (List.Sublist.refl _) ?_
    exact ⟨hle5,_,n5,GrL.snoc (R:=OpR G5) (x:=⟨kind,no,b⟩) hc1 (fun i y cs hy hc=>⟨(hc2 i y cs hy hc).1,(hc2 i y cs hy hc).2.le hle5⟩) g5 rfl ⟨A4,c4,rfl,hbs⟩,rfl⟩)
 ·rw [if_neg hno]
  repeat' (first|apply v_seq|apply v_region|apply v_nil|apply v_take;(case hg=>rfl)|apply v_pass;(case hg|hn|hd=>rfl)|apply v_pure;(case hop=>first|apply p_move<;>rfl|apply p_lt<;>rfl|apply p_gt<;>rfl|apply p_pickT<;>rfl|apply p_pickF<;>rfl|apply p_eqNil<;>rfl|fail);(case hd=>rfl)|apply v_condT;(case hc=>rfl)|apply v_cond;(case hc=>rfl);all_goals (intro h;(try simp only [reduceCtorEq,zzz] at h);try (exfalso;omega))|apply v_guardB;(case h1|h2=>rfl);all_goals (intro h;(try simp only [reduceCtorEq,zzz] at h))|fail)
  all_goals (refine v_ret ((d,_)::ν) (outsA0 rfl) (List.Sublist.refl _) ?_;exact ⟨GH.le_refl _,_,ν,hg,rfl⟩)
theorem dnew_s {G:GH}:Con Tryz.prog 25 #[] G [] (fun v G' μ'=>G'=G∧∃ d m,v=.pointer (some ⟨d,0,none⟩)∧μ'=[(d,dkO m (.slice none 0 0)),(m,.map #[] 0)]):=by
 (refine v_enter Tryz.func25 rfl Tryz.ntmps25 rfl ?_;intro B _)
 repeat' (first|apply v_seq|apply v_region|apply v_nil|apply v_pure;(case hop=>first|apply p_assign<;>rfl|apply p_build;(case hz=>rfl);(case hv=>(simp only [List.map_cons,List.map_nil];repeat (first|with_reducible exact evs_nil|apply evs_cons;(case h1=>rfl))));(case hb=>(apply bldL;repeat (first|exact bld_nil|apply bld_cons;(case hpf|hc|hs|hl=>rfl);(case ho=>((repeat (first|with_reducible exact ov_nil|apply ov_cons));done)))))|fail);(case hd=>rfl)|apply v_makeMap;(case hd=>rfl);intro m|apply v_box;(case hx|hz|hd=>rfl);intro b|fail)
 refine v_ret [(b,_),(m,_)] (outsA1 rfl rfl) (by repeat (exact List.Sublist.refl _)) ⟨rfl,b,m,rfl,rfl⟩
def PutP (m:Nat) (d:Nat) (G:GH) (l':List Dop) (G':GH) (μ':OH):Prop:=GH.le G G'∧∃ ov' ν',GrL 124 3 (OpR G') ov' l' ν'∧μ'=(d,dkO m ov')::ν'
theorem make_s {G:GH}{l:List Dop}{d m:Nat}{ov:Value}{ν:OH}(no:Int) (hg:GrL 124 3 (OpR G) ov l ν) (hl:l.length≤10000) :
 Con Tryz.prog 112 #[.pointer (some ⟨d,0,none⟩),.int .i64 no] G ((d,dkO m ov)::ν) (fun _=>PutP m d G (if inNo no then l++[⟨1,no,[]⟩] else l)):=by
 have q:=dput_s (d:=d) (m:=m) 1 no (b:=[]) (bv:=.slice none 0 0) hg hl Sl.nil (by simp)
 (refine v_enter Tryz.func112 rfl Tryz.ntmps112 rfl ?_;intro B _)
 repeat' (first|apply v_region|apply v_pure;(case hop=>(apply p_move<;>rfl));(case hd=>rfl)|fail)
 refine v_call (μ1:=(d,dkO m ov)::ν) (μ2:=[]) rfl q (by simp) rfl ?_
 rintro _ G1 _ - ⟨hle,ov',ν',hg',rfl⟩
 rw [List.append_nil]
 repeat' (first|apply v_nil)
 refine v_end ((d,_)::ν') (outsA0 rfl) (List.Sublist.refl _) ?_
 exact ⟨hle,ov',ν',hg',rfl⟩
theorem add_s {G:GH}{l:List Dop}{d m:Nat}{ov:Value}{ν:OH}(no:Int) {b:List Int}{bv:Value}(hg:GrL 124 3 (OpR G) ov l ν) (hl:l.length≤10000) (hb:Bs G bv b) (hbl:b.length≤1000000) :
 Con Tryz.prog 71 #[.pointer (some ⟨d,0,none⟩),.int .i64 no,bv] G ((d,dkO m ov)::ν) (fun _=>PutP m d G (if inNo no then l++[⟨2,no,b⟩] else l)):=by
 have q:=dput_s (d:=d) (m:=m) 2 no hg hl hb hbl
 (refine v_enter Tryz.func71 rfl Tryz.ntmps71 rfl ?_;intro B _)
 repeat' (first|apply v_region|apply v_pure;(case hop=>(apply p_move<;>rfl));(case hd=>rfl)|fail)
 refine v_call (μ1:=(d,dkO m ov)::ν) (μ2:=[]) rfl q (by simp) rfl ?_
 rintro _ G1 _ - ⟨hle,ov',ν',hg',rfl⟩
 rw [List.append_nil]
 repeat' (first|apply v_nil)
 refine v_end ((d,_)::ν') (outsA0 rfl) (List.Sublist.refl _) ?_
 exact ⟨hle,ov',ν',hg',rfl⟩
theorem ddrop_s {G:GH}{l:List Dop}{d m:Nat}{ov:Value}{ν:OH}(no:Int) (hg:GrL 124 3 (OpR G) ov l ν) (hl:l.length≤10000) :
 Con Tryz.prog 113 #[.pointer (some ⟨d,0,none⟩),.int .i64 no] G ((d,dkO m ov)::ν) (fun _=>PutP m d G (if inNo no then l++[⟨3,no,[]⟩] else l)):=by
 have q:=dput_s (d:=d) (m:=m) 3 no (b:=[]) (bv:=.slice none 0 0) hg hl Sl.nil (by simp)
 (refine v_enter Tryz.func113 rfl Tryz.ntmps113 rfl ?_;intro B _)
 repeat' (first|apply v_region|apply v_pure;(case hop=>(apply p_move<;>rfl));(case hd=>rfl)|fail)
 refine v_call (μ1:=(d,dkO m ov)::ν) (μ2:=[]) rfl q (by simp) rfl ?_
 rintro _ G1 _ - ⟨hle,ov',ν',hg',rfl⟩
 rw [List.append_nil]
 repeat' (first|apply v_nil)
 refine v_end ((d,_)::ν') (outsA0 rfl) (List.Sublist.refl _) ?_
 exact ⟨hle,ov',ν',hg',rfl⟩
def Emptied (m d:Nat) (G:GH) (ml:List (Int×Value)) (L:Nat) (g':Fs) (G':GH) (μ':OH):Prop:=GH.le G G'∧∃ ml' oM',MapB keyI ml' oM'∧MF G' ml' g'∧ml'.length≤ml.length+L∧μ'=[(d,dkO m (.slice none 0 0)),(m,oM')]
theorem sync_s {G:GH}{l:List Dop}{g:Fs}{ml:List (Int×Value)}{d m:Nat}{oM:Obj}{ov:Value}{ν:OH}
 (hM:MapB keyI ml oM) (hF:MF G ml g) (hB:∀ q,q≤l.length→Bd (gall g (l.take q)) 1000000) (hg:GrL 124 3 (OpR G) ov l ν) (hl:l.length≤5000) (hx:∀ x∈l,x.data.length≤1000000) (hno:∀ x∈l,inNo x.no) :
 Con Tryz.prog 73 #[.pointer (some ⟨d,0,none⟩)] G ((d,dkO m ov)::(m,oM)::ν) (fun _=>Emptied m d G ml l.length (gall g l)):=by
 obtain ⟨css,hc1,hc2,hgr⟩:=id hg
 obtain ⟨A,c,rfl,hA,hA2⟩:=hgr.shape
 have q:=doPre_s (m:=m) (n:=l.length) hM hF hB hg (Nat.le_refl _) (by omega) hx hno
 rw [List.take_length] at q
 unfold dkO
 (refine v_enter Tryz.func73 rfl Tryz.ntmps73 rfl ?_;intro B _)
 repeat' (first|apply v_seq|apply v_region|apply v_nil|apply v_pure;(case hop=>first|apply p_move<;>rfl|apply p_neNil<;>rfl|fail);(case hd=>rfl)|apply v_condT;(case hc=>rfl)|fail)
 refine d_start [(d,.cells [.map (some m),.slice A l.length c].toArray 115 (0,0))] (by kernel_rfl) (by kernel_rfl) (by kernel_rfl) (by intro e he;(simp at he;simp [he];done)) ?_
 all_goals (apply dtm 0;(case hi|hx=>rfl);(case hq=>kernel_rfl);apply dtn 1;(case hi|hx=>rfl);(case hq=>kernel_rfl))
 all_goals (apply dtk 2;(case hi=>rfl);(case hop=>(apply prd;apply p_fieldAddrB<;>rfl));(case hq=>kernel_rfl);apply dtk 3;(case hi=>rfl);(case hop=>first|apply r_loadNo;(case hx=>rfl);(case h=>repeat fail);(case hd=>repeat fail);(case hn=>rfl)|apply r_load1;rfl;(apply Cell.own;(case h=>repeat exact mhd _);rfl)|apply r_loadN;rfl;(apply CellsAt.own;(case h=>repeat fail));rfl);(case hq=>kernel_rfl))
 all_goals (apply dtm 4;(case hi|hx=>rfl);(case hq=>kernel_rfl);apply dtn 5;(case hi|hx=>rfl);(case hq=>kernel_rfl))
 all_goals (apply dtk 6;(case hi=>rfl);(case hop=>(apply prd;apply p_fieldAddrB<;>rfl));(case hq=>kernel_rfl);apply dtk 7;(case hi=>rfl);(case hop=>first|apply r_loadNo;(case hx=>rfl);(case h=>repeat fail);(case hd=>repeat fail);(case hn=>rfl)|apply r_load1;rfl;(apply Cell.own;(case h=>repeat exact mhd _);rfl)|apply r_loadN;rfl;(apply CellsAt.own;(case h=>repeat fail));rfl);(case hq=>kernel_rfl))
 all_goals ((apply d_call 8 (hs:=q) (μ1:=(m,oM)::ν) (μ2:=[(d,.cells [.map (some m),.slice A l.length c].toArray 115 (0,0))]);(case hi=>rfl);(case hr=>kernel_rfl);(case ha=>rfl);(case hp=>exact List.perm_append_comm (l₁:=[(d,_)]));(case hd=>rfl);(case hν'=>exact fun _ h=>h);rintro _ G4 _ hle4 ⟨-,ml',oM',hM',hF',hl',rfl⟩))
 all_goals (apply d_done;(case hr=>kernel_rfl))
 repeat' (first|apply v_region|apply v_nil|apply v_pure;(case hop=>first|apply p_move<;>rfl|apply p_fieldAddrB<;>rfl|apply p_nilCheck<;>rfl|fail);(case hd=>rfl)|apply v_store;(case hp|hx|hc|hsz|h1=>rfl);(case hb=>repeat first|exact mhd _|apply mtl|apply List.mem_append_right);(case hfit=>exact nle rfl);(case hov=>((repeat (first|with_reducible exact ov_nil|apply ov_cons));done));(case hu=>repeat first|exact Upd.here _ _|apply Upd.there|apply Upd.app)|fail)
 refine v_drop (ν:=[(m,oM'),(d,dkO m (.slice none 0 0))]) (List.Sublist.cons_cons _ (List.sublist_append_right ν _)) ?_
 refine v_perm (List.Perm.swap _ _ _) ?_
 refine v_end [(d,_),(m,_)] (outsA0 rfl) (List.Sublist.refl _) ?_
 exact ⟨hle4,ml',oM',hM',hF',hl',rfl⟩
def clip (k:Int) (n:Nat):Nat:=(max 0 (min k n)).toNat
theorem clip_le (k:Int) (n:Nat):clip k n≤n:=by unfold clip;omega
theorem clip_eq (k:Int) (n:Nat):max 0 (min k (n:Nat))=((clip k n:Nat):Int):=by unfold clip;omega
def gcrash (g:Fs) (l:List Dop) (keep torn:Int):Fs :=
 if h:clip keep l.length<l.length then
  if (l[clip keep l.length]).kind=2 then gdo (gall g (l.take (clip keep l.length))) { l[clip keep l.length] with data:=(l[clip keep l.length]).data.take (clip torn (l[clip keep l.length]).data.length) } else gall g (l.take (clip keep l.length))
 else gall g l
theorem ops_cell {cells:List Value}{i:Nat}{a b c:Value}(h:(cells.drop i).take 3=[a,b,c]):cells[i+0]? = some a:=by
 have:((cells.drop i).take 3)[0]? = some a:=by rw [h];rfl
 rw [List.getElem?_take,List.getElem?_drop] at this
 simpa using this
theorem crash_s {G:GH}{l:List Dop}{g:Fs}{ml:List (Int×Value)}{d m:Nat}{oM:Obj}{ov:Value}{ν:OH}(keep torn:Int)
 (hM:MapB keyI ml oM) (hF:MF G ml g) (hB:∀ q,q≤l.length→Bd (gall g (l.take q)) 1000000) (hg:GrL 124 3 (OpR G) ov l ν) (hl:l.length≤5000) (hx:∀ x∈l,x.data.length≤1000000) (hno:∀ x∈l,inNo x.no) :
 Con Tryz.prog 44 #[.pointer (some ⟨d,0,none⟩),.int .i64 keep,.int .i64 torn] G ((d,dkO m ov)::(m,oM)::ν) (fun _=>Emptied m d G ml l.length (gcrash g l keep torn)):=by
 have hcl:=clip_le keep l.length
 have hce:=clip_eq keep l.length
 unfold gcrash
 generalize clip keep l.length=q at *
 have hq:=fun A c (hg:GrL 124 3 (OpR G) (.slice A l.length c) l ν)=>doPre_s (m:=m) (n:=q) hM hF (fun j hj=>hB j (by omega)) hg (by omega) (by omega) hx hno
 obtain ⟨css,hc1,hc2,hgr⟩:=id hg
 obtain ⟨A,c,rfl,hA,hA2⟩:=hgr.shape
 have hq2:=hq _ _ hg
 simp only [maxLen] at hA2
 unfold dkO
 (refine v_enter Tryz.func44 rfl Tryz.ntmps44 rfl ?_;intro B _)
 repeat' (first|apply v_seq|apply v_region|apply v_nil|apply v_skip|apply v_pure;(case hop=>first|apply p_move<;>rfl|apply p_assign<;>rfl|apply p_lenSlice<;>rfl|apply p_fieldAddrB<;>rfl|apply p_nilCheck<;>rfl|apply p_max<;>rfl|apply p_min<;>rfl|apply p_eqNil<;>rfl|fail);(case hd=>rfl)|apply v_condF;(case hc=>rfl)|apply v_read;(case hop=>(apply r_load1;rfl;(apply Cell.own;(case h=>repeat exact mhd _);rfl)));(case hd=>rfl)|fail)
 rw [hce]
 refine d_start [(d,.cells [.map (some m),.slice A l.length c].toArray 115 (0,0))] (by kernel_rfl) (by kernel_rfl) (by kernel_rfl) (by intro e he;(simp at he;simp [he];done)) ?_
 all_goals (apply dtm 0;(case hi|hx=>rfl);(case hq=>kernel_rfl);apply dtn 1;(case hi|hx=>rfl);(case hq=>kernel_rfl))
 all_goals (apply dtk 2;(case hi=>rfl);(case hop=>(apply prd;apply p_fieldAddrB<;>rfl));(case hq=>kernel_rfl);apply dtk 3;(case hi=>rfl);(case hop=>first|apply r_loadNo;(case hx=>rfl);(case h=>repeat fail);(case hd=>repeat fail);(case hn=>rfl)|apply r_load1;rfl;(apply Cell.own;(case h=>repeat exact mhd _);rfl)|apply r_loadN;rfl;(apply CellsAt.own;(case h=>repeat fail));rfl);(case hq=>kernel_rfl))
 all_goals (apply dtm 4;(case hi|hx=>rfl);(case hq=>kernel_rfl);apply dtn 5;(case hi|hx=>rfl);(case hq=>kernel_rfl))
 all_goals (apply dtk 6;(case hi=>rfl);(case hop=>(apply prd;apply p_fieldAddrB<;>rfl));(case hq=>kernel_rfl);apply dtk 7;(case hi=>rfl);(case hop=>first|apply r_loadNo;(case hx=>rfl);(case h=>repeat fail);(case hd=>repeat fail);(case hn=>rfl)|apply r_load1;rfl;(apply Cell.own;(case h=>repeat exact mhd _);rfl)|apply r_loadN;rfl;(apply CellsAt.own;(case h=>repeat fail));rfl);(case hq=>kernel_rfl))
 all_goals (apply dtm 8;(case hi|hx=>rfl);(case hq=>kernel_rfl);apply dtk 9;(case hi=>rfl);(case hop=>(apply prd;apply p_sliceH;(case hx|hh=>rfl);all_goals omega));(case hq=>kernel_rfl))
 all_goals ((apply d_call 10 (hs:=hq2) (μ1:=(m,oM)::ν) (μ2:=[(d,.cells [.map (some m),.slice A l.length c].toArray 115 (0,0))]);(case hi=>rfl);(case hr=>kernel_rfl);(case ha=>rfl);(case hp=>exact List.perm_append_comm (l₁:=[(d,_)]));(case hd=>rfl);(case hν'=>exact fun _ h=>h);rintro _ G4 _ hle4 ⟨-,ml',oM',hM',hF',hl',rfl⟩))
 all_goals (apply d_done;(case hr=>kernel_rfl))
 repeat' (first|apply v_seq|apply v_region|apply v_nil|apply v_skip|apply v_take;(case hg=>rfl)|apply v_pass;(case hg|hn|hd=>rfl)|apply v_pure;(case hop=>first|apply p_move<;>rfl|apply p_lt<;>rfl|apply p_pickF<;>rfl|apply p_lenSlice<;>rfl|apply p_fieldAddrB<;>rfl|apply p_nilCheck<;>rfl|fail);(case hd=>rfl)|apply v_condF;(case hc=>rfl)|apply v_guardB;(case h1|h2=>rfl);all_goals (intro h;(try simp only [reduceCtorEq,zzz] at h))|apply v_read;(case hop=>(apply r_load1;rfl;(apply Cell.own;(case h=>repeat first|exact mhd _|apply mtl|apply List.mem_append_right);rfl)));(case hd=>rfl)|apply v_store;(case hp|hx|hc|hsz|h1=>rfl);(case hb=>repeat first|exact mhd _|apply mtl|apply List.mem_append_right);(case hfit=>exact nle rfl);(case hov=>((repeat (first|with_reducible exact ov_nil|apply ov_cons));done));(case hu=>repeat first|exact Upd.here _ _|apply Upd.there|apply Upd.app)|fail)
 rotate_left
 ·have hqe:¬ q<l.length:=by omega
  rw [dif_neg hqe]
  have hql:l.take q=l:=List.take_of_length_le (by omega)
  rw [hql] at hF'
  refine v_drop (ν:=[(m,oM'),(d,dkO m (.slice none 0 0))]) (List.Sublist.cons_cons _ (List.sublist_append_right ν _)) ?_
  refine v_perm (List.Perm.swap _ _ _) ?_
  refine v_end [(d,_),(m,_)] (outsA0 rfl) (List.Sublist.refl _) ?_
  exact ⟨hle4,ml',oM',hM',hF',by omega,rfl⟩
 have hqe:q<l.length:=by omega
 rw [dif_pos hqe]
 rcases opsCases hg with ⟨he,rfl,rfl⟩|⟨ob,cap,cells,dA,dc,he,h1,h2,rfl,hC⟩
 ·exact absurd hqe (by simp)
 injection he with ea _ ec
 subst ea;subst ec
 have hcd:=hC.1 q hqe
 have hdat:=(hC.2 q hqe).mono hle4
 have hkc:=ops_cell hcd
 have hxl:=hx _ (List.getElem_mem hqe)
 have hnl:=hno _ (List.getElem_mem hqe)
 have hB1:=hB q (by omega)
 have hB2:=hB (q+1) (by omega)
 rw [List.take_succ_eq_append_getElem hqe,gall_snoc] at hB2
 generalize gall g (l.take q)=g1 at *
 generalize hxe:l[q]=x at *
 obtain ⟨kind,no,data⟩:=x
 simp only at *
 have hdc:data.length≤dc q∧dc q≤maxLen:=by
  obtain ⟨A9,c9,he9,hl9,hm9,-,-,-⟩:=hdat.openInt
  injection he9 with ea9 _ ec9
  subst ec9
  exact ⟨hl9,hm9⟩
 have hdc2:=hdc.1
 have hdc3:=hdc.2
 simp only [maxLen] at hdc3
 have htake:=hdat.take (k:=clip torn data.length) (clip_le _ _)
 repeat' (first|apply v_pure;(case hop=>apply p_idxOwn;(case hx|hi=>rfl);(case h=>omega));(case hd=>rfl)|apply v_seq|apply v_region|apply v_nil|apply v_skip|apply v_take;(case hg=>rfl)|apply v_pure;(case hop=>first|apply p_move<;>rfl|apply p_eq<;>rfl|apply p_pickT<;>rfl|apply p_lenSlice<;>rfl|apply p_fieldAddrB<;>rfl|apply p_nilCheck<;>rfl|apply p_max<;>rfl|apply p_min<;>rfl|apply p_sliceH;(case hx|hh=>rfl);all_goals omega|fail);(case hd=>rfl)|apply v_cond;(case hc=>rfl);all_goals (intro h;(try simp only [reduceCtorEq,zzz] at h))|apply v_read;(case hop=>first|apply r_load1;rfl;exact Cell.own (by repeat (first|exact mhd _|apply mtl)) hkc|apply r_loadNo;(case hx=>rfl);(case h=>repeat first|exact mhd _|apply mtl);(case hd=>exact hcd);(case hn=>rfl));(case hd=>rfl)|apply v_read;(case hop=>(apply r_load1;rfl;(apply Cell.own;(case h=>repeat first|exact mhd _|apply mtl);rfl)));(case hd=>rfl)|apply v_alloc;(case hz|hd=>rfl);intro b|apply v_store;(case hp|hx|hc|hsz|h1=>rfl);(case hb=>repeat first|exact mhd _|apply mtl);(case hfit=>exact nle rfl);(case hov=>((repeat (first|with_reducible exact ov_nil|apply ov_cons));done));(case hu=>repeat first|exact Upd.here _ _|apply Upd.there)|fail)
 ·have hk2:kind=2:=by assumption
  have htl:(data.take (clip torn data.length)).length=clip torn data.length:=by rw [List.length_take];have:=clip_le torn data.length;omega
  have hC2:OpsC G4 [.int .i64 kind,.int .i64 no,.slice (dA q) (clip torn data.length) (dc q)] [⟨kind,no,data.take (clip torn data.length)⟩] (fun _=>dA q) (fun _=>dc q):=by
   refine ⟨fun i hi=>?_,fun i hi=>?_⟩
   ·obtain rfl:i=0:=by simpa using hi
    simp [htl]
   ·obtain rfl:i=0:=by simpa using hi
    simp only [List.getElem_cons_zero,htl]
    exact htake
  have hB3:∀ j,j≤1→Bd (gall g1 (([⟨kind,no,data.take (clip torn data.length)⟩]:List Dop).take j)) 1000000:=fun j hj=>by
   obtain rfl|rfl:j=0∨j=1:=by omega
   ·exact hB1
   ·intro k' b' hb'
    have hb2:gdo g1 ⟨kind,no,data.take (clip torn data.length)⟩ k'=some b':=hb'
    unfold gdo at hb2
    by_cases e:k'=no
    ·subst e
     simp [hk2] at hb2
     obtain ⟨b0,h0,rfl⟩:=hb2
     have:=hB2 k' (b0++data) (by unfold gdo;simp [hk2,h0])
     have h9:=clip_le torn data.length
     rw [List.length_append] at this ⊢
     omega
    ·simp [e] at hb2
     exact hB1 k' b' hb2
  have q3:=fun sb=>do_s (m:=m) (ob:=sb) (cap:=1) (n:=1) hM' hF' hB3 hC2 (by simp) (by simp) (by intro y hy;rw [List.mem_singleton] at hy;subst hy;simp only [htl];have:=clip_le torn data.length;omega) (by intro y hy;rw [List.mem_singleton] at hy;subst hy;exact hnl) (by omega)
  refine v_perm ((List.perm_append_comm (l₁:=[(b,Obj.cells [Value.int .i64 kind,.int .i64 no,.slice (dA q) (clip torn data.length) (dc q)].toArray 124 (0,0))]) (l₂:=[(m,oM'),(ob,Obj.cells cells.toArray 124 (0,0))])).append_right [(d,Obj.cells [Value.map (some m),.slice (some ⟨ob,0,none⟩) l.length c].toArray 115 (0,0))]) ?_
  refine d_start [(b,.cells [.int .i64 kind,.int .i64 no,.slice (dA q) (clip torn data.length) (dc q)].toArray 124 (0,0)),(d,.cells [.map (some m),.slice (some ⟨ob,0,none⟩) l.length c].toArray 115 (0,0))] (by kernel_rfl) (by kernel_rfl) (by kernel_rfl) (by intro e he;(simp at he;simp [he];done)) ?_
  all_goals (apply dtm 0;(case hi|hx=>rfl);(case hq=>kernel_rfl);apply dtn 1;(case hi|hx=>rfl);(case hq=>kernel_rfl))
  all_goals (apply dtk 2;(case hi=>rfl);(case hop=>(apply prd;apply p_fieldAddrB<;>rfl));(case hq=>kernel_rfl);apply dtk 3;(case hi=>rfl);(case hop=>first|apply r_loadNo;(case hx=>rfl);(case h=>repeat fail);(case hd=>repeat fail);(case hn=>rfl)|apply r_load1;rfl;(apply Cell.own;(case h=>repeat first|exact mhd _|apply mtl);rfl)|apply r_loadN;rfl;(apply CellsAt.own;(case h=>repeat fail));rfl);(case hq=>kernel_rfl))
  all_goals (apply dtk 4;(case hi=>rfl);(case hop=>first|apply r_loadNo;(case hx=>rfl);(case h=>repeat exact mhd _);(case hd=>repeat first|with_reducible exact dt_nil|apply dt_here);(case hn=>rfl)|apply r_load1;rfl;(apply Cell.own;(case h=>repeat fail);rfl)|apply r_loadN;rfl;(apply CellsAt.own;(case h=>repeat fail));rfl);(case hq=>kernel_rfl))
  all_goals (apply d_buildSlice 5;(case hi=>rfl);(case hr=>kernel_rfl);(case hT=>infer_instance);(case hL=>infer_instance);(case hz|hl=>rfl);(case hv=>(simp only [List.map_cons,List.map_nil];repeat (first|with_reducible exact evs_nil|apply evs_cons;(case h1=>rfl))));(case hp=>(apply pk_cons;(case hc|hs=>rfl);(case h=>(with_reducible exact pk_nil));(case he=>((repeat (first|with_reducible exact ap_nil|apply ap_cons));done))));(case hb|hd=>rfl);(case hν=>intro e he;(simp at he;simp [he];done));intro sb)
  all_goals ((apply d_call 6 (hs:=q3 sb) (μ1:=[(m,oM'),(sb,.cells [.int .i64 kind,.int .i64 no,.slice (dA q) (clip torn data.length) (dc q)].toArray 124 (0,0))]) (μ2:=[(ob,.cells cells.toArray 124 (0,0)),(b,.cells [.int .i64 kind,.int .i64 no,.slice (dA q) (clip torn data.length) (dc q)].toArray 124 (0,0)),(d,.cells [.map (some m),.slice (some ⟨ob,0,none⟩) l.length c].toArray 115 (0,0))]);(case hi=>rfl);(case hr=>kernel_rfl);(case ha=>rfl);(case hp=>exact List.Perm.swap _ _ _);(case hd=>rfl);(case hν'=>exact fun e he=>List.Mem.tail _ he);rintro _ G5 _ hle5 ⟨-,ml2,oM2,hM2,hF2,hl2,rfl⟩))
  all_goals (apply d_done;(case hr=>kernel_rfl))
  repeat' (first|apply v_region|apply v_nil|apply v_pure;(case hop=>first|apply p_move<;>rfl|apply p_fieldAddrB<;>rfl|apply p_nilCheck<;>rfl|fail);(case hd=>rfl)|apply v_store;(case hp|hx|hc|hsz|h1=>rfl);(case hb=>repeat first|exact mhd _|apply mtl);(case hfit=>exact nle rfl);(case hov=>((repeat (first|with_reducible exact ov_nil|apply ov_cons));done));(case hu=>repeat first|exact Upd.here _ _|apply Upd.there)|fail)
  refine v_drop (ν:=[(m,oM2),(d,dkO m (.slice none 0 0))]) (List.Sublist.cons_cons _ (List.Sublist.cons _ (List.Sublist.cons _ (List.Sublist.cons _ (List.Sublist.refl _))))) ?_
  refine v_perm (List.Perm.swap _ _ _) ?_
  refine v_end [(d,_),(m,_)] (outsA0 rfl) (List.Sublist.refl _) ?_
  rw [if_pos hk2]
  exact ⟨GH.le_trans hle4 hle5,ml2,oM2,hM2,hF2,by omega,rfl⟩
 ·have hk2:¬ kind=2:=by assumption
  rw [if_neg hk2]
  refine v_drop (ν:=[(m,oM'),(d,dkO m (.slice none 0 0))]) (List.Sublist.cons_cons _ (List.Sublist.cons _ (List.Sublist.refl _))) ?_
  refine v_perm (List.Perm.swap _ _ _) ?_
  refine v_end [(d,_),(m,_)] (outsA0 rfl) (List.Sublist.refl _) ?_
  exact ⟨hle4,ml',oM',hM',hF',by omega,rfl⟩
theorem withL_mem {l:List Ent}{x z:Ent}(h:z∈withL l x):z=x∨z∈l:=by
 by_cases hh:hitB l x.index=true
 ·rw [withL_hit hh] at h
  rcases List.mem_or_eq_of_mem_set h with h|h
  ·exact .inr h
  ·exact .inl h
 ·rw [withL_no hh] at h
  rcases List.mem_append.1 h with h|h
  ·exact .inr (List.mem_of_mem_take h)
  ·rcases List.mem_cons.1 h with h|h
   ·exact .inl h
   ·exact .inr (List.mem_of_mem_drop h)
theorem errF_kind {f:Int}(hf:f=1∨f=2) {x:Rc}:errF f x=0↔chkI x=0∧((x.kind=2∨x.kind=3)→HasV f x.cmd.kind):=by
 unfold errF
 rw [if_pos hf]
 unfold hasI chkI
 by_cases h0:recI x.kind x.round x.node x.index x.cmd x.image.length=0
 ·rw [if_neg (by rw [h0];simp)]
  simp only [h0,true_and]
  by_cases h1:(x.kind=2∨x.kind=3)∧¬ HasV f x.cmd.kind
  ·rw [if_pos h1]
   constructor
   ·intro h;omega
   ·intro h;exact absurd (h h1.1) h1.2
  ·rw [if_neg h1]
   constructor
   ·intro _ hk;exact Decidable.byContradiction fun hn=>h1 ⟨hk,hn⟩
   ·intro _;rfl
 ·rw [if_pos h0]
  constructor
  ·intro h;exact absurd h h0
  ·intro h;exact absurd h.1 h0
theorem chg_parts (H:Hd) (x:Rc):((chg H x).image=H.image∨(chg H x).image=x.image)∧(∀ e∈(chg H x).acc,e∈H.acc∨(x.kind=2∧e.cmd=x.cmd))∧∀ e∈(chg H x).cho,e∈H.cho∨(x.kind=3∧e.cmd=x.cmd):=by
 obtain ⟨-,p2,p3,p4⟩:=prom_base H x
 unfold chg
 by_cases k1:x.kind=1
 ·rw [if_pos k1,p2,p3,p4]
  exact ⟨.inl rfl,fun e he=>.inl he,fun e he=>.inl he⟩
 rw [if_neg k1]
 by_cases k2:x.kind=2
 ·rw [if_pos k2]
  split
  ·simp only [p2,p3,p4]
   refine ⟨.inl (by trivial),fun e he=>?_,fun e he=>.inl he⟩
   rcases withL_mem he with rfl|he
   ·exact .inr ⟨k2,rfl⟩
   ·exact .inl he
  ·rw [p2,p3,p4]
   exact ⟨.inl rfl,fun e he=>.inl he,fun e he=>.inl he⟩
 rw [if_neg k2]
 by_cases k3:x.kind=3
 ·rw [if_pos k3]
  split
  ·refine ⟨.inl rfl,fun e he=>.inl he,fun e he=>?_⟩
   rcases withL_mem he with rfl|he
   ·exact .inr ⟨k3,rfl⟩
   ·exact .inl he
  ·exact ⟨.inl rfl,fun e he=>.inl he,fun e he=>.inl he⟩
 rw [if_neg k3]
 split
 ·exact ⟨.inl rfl,fun e he=>.inl he,fun e he=>.inl he⟩
 ·exact ⟨.inr rfl,fun e he=>.inl (List.mem_of_mem_drop he),fun e he=>.inl (List.mem_of_mem_drop he)⟩
structure St (c:Nat) (f:Int) (H:Hd):Prop where
 form:f=1∨f=2
 good:Good c H
 img:H.image.length≤300
 wf:wfL H.image
 acc:∀ e∈H.acc,HasV f e.cmd.kind
 cho:∀ e∈H.cho,HasV f e.cmd.kind
structure Rx (f:Int) (x:Rc):Prop where
 err:errF f x=0
 light:¬ x.large
 ok:x.cmd.ok
 img:x.image.length≤300
 wf:wfL x.image
theorem Rx.okC {f:Int}{x:Rc}(h:Rx f x):okC (encF f) (decF f) x:=encF_okC h.err h.light h.ok h.wf
theorem Rx.okF {f:Int}{x:Rc}(h:Rx f x):OkF f x:=⟨h.err,h.img⟩
theorem St.more {c d:Nat}{f:Int}{H:Hd}(h:St c f H) (hd:c≤d):St d f H:=⟨h.form,h.good.more hd,h.img,h.wf,h.acc,h.cho⟩
theorem St.zero {f:Int}(hf:f=1∨f=2):St 0 f Hd.zero:=⟨hf,good_zero,by simp [Hd.zero],fun x hx=>by simp [Hd.zero] at hx,fun e he=>by simp [Hd.zero] at he,fun e he=>by simp [Hd.zero] at he⟩
theorem hasV_two {f k:Int}(h:HasV f k):HasV 2 k:=by
 unfold HasV at *
 omega
theorem St.two {c:Nat}{f:Int}{H:Hd}(h:St c f H):St c 2 H:=⟨.inr rfl,h.good,h.img,h.wf,fun e he=>hasV_two (h.acc e he),fun e he=>hasV_two (h.cho e he)⟩
theorem St.step {c:Nat}{f:Int}{H:Hd}(h:St c f H) {x:Rc}(r:Rx f x):St (c+1) f (stepH H x):=by
 obtain ⟨h0,hk⟩:=(errF_kind h.form).1 r.err
 obtain ⟨p1,p2,p3⟩:=chg_parts H x
 have g:=good_step h.good r.ok
 unfold stepH at g ⊢
 rw [if_pos h0] at g ⊢
 refine ⟨h.form,g,?_,?_,fun e he=>?_,fun e he=>?_⟩
 ·rcases p1 with p|p<;>rw [p]
  ·exact h.img
  ·exact r.img
 ·rcases p1 with p|p<;>rw [p]
  ·exact h.wf
  ·exact r.wf
 ·rcases p2 e he with p|⟨p,q⟩
  ·exact h.acc e p
  ·rw [q];exact hk (.inl p)
 ·rcases p3 e he with p|⟨p,q⟩
  ·exact h.cho e p
  ·rw [q];exact hk (.inr p)
theorem good_chk {n:Nat}{H:Hd}(g:Good n H):CheckP H :=
 ⟨g.may,g.base,g.img.1,g.img.2,chk_of (fun e he=>(g.acc e he).1) g.racc _ 0 rfl,chk_of (fun e he=>(g.cho e he).1) g.rcho _ 0 rfl,fun e he=>⟨(g.acc e he).2.2.1,(g.acc e he).2.2.2.1,(g.acc e he).2.2.2.2⟩,fun e he=>⟨(g.cho e he).2.2.1,(g.cho e he).2.2.2.1⟩⟩
theorem errsF_zero {f:Int}:∀ {l:List Rc},(∀ x∈l,errF f x=0)→errsF f l=0
 | [],_=>rfl
 | x::l,h=>by
  unfold errsF
  rw [if_pos (h x List.mem_cons_self)]
  exact errsF_zero fun y hy=>h y (List.mem_cons_of_mem _ hy)
theorem St.recs {c:Nat}{f:Int}{H:Hd}(h:St c f H):∀ x∈recsOf H,Rx f x:=by
 intro x hx
 have h1:=recs_light (good_chk h.good) h.img x hx
 have h2:=recs_ok h.good x hx
 have hw0:wfL []:=fun y hy=>by simp at hy
 have h3:errF f x=0∧wfL x.image:=by
  unfold recsOf at hx
  rcases List.mem_append.1 hx with hx|hx
  ·split at hx
   ·rename_i hb
    rw [List.mem_singleton] at hx
    subst hx
    exact ⟨(errF_kind h.form).2 ⟨img_ok ⟨by omega,h.good.base.2⟩ ⟨h.good.img.2.1 hb,h.good.img.1⟩,fun hk=>by rcases hk with hk|hk<;>simp [imgRec] at hk⟩,h.wf⟩
   ·simp at hx
  rcases List.mem_append.1 hx with hx|hx
  ·split at hx
   ·simp at hx
   ·rename_i hb
    rw [List.mem_singleton] at hx
    subst hx
    exact ⟨(errF_kind h.form).2 ⟨promRec_ok h.good.may hb,fun hk=>by rcases hk with hk|hk<;>simp [promRec] at hk⟩,hw0⟩
  rcases List.mem_append.1 hx with hx|hx
  ·obtain ⟨e,he,rfl⟩:=List.mem_map.1 hx
   exact ⟨(errF_kind h.form).2 ⟨accRec_ok (h.good.acc e he).1 (h.good.acc e he).2.2.2.1,fun _=>h.acc e he⟩,hw0⟩
  ·obtain ⟨e,he,rfl⟩:=List.mem_map.1 hx
   exact ⟨(errF_kind h.form).2 ⟨choRec_ok (h.good.cho e he).1,fun _=>h.cho e he⟩,hw0⟩
 exact ⟨h3.1,h1.1,h2.1,h1.2,h3.2⟩
theorem St.head {c:Nat}{f:Int}{H:Hd}(h:St c f H):headNo f H=0:=by
 unfold headNo
 rw [if_pos h.form,if_pos (good_chk h.good)]
 exact errsF_zero fun x hx=>(h.recs x hx).err
theorem St.len {c:Nat}{f:Int}{H:Hd}(h:St c f H):(recsOf H).length≤2+2*c:=by
 have:=recs_len (H:=H)
 have:=h.good.nacc
 have:=h.good.ncho
 omega
theorem St.back {c:Nat}{f:Int}{H:Hd}(h:St c f H):hardOf (recsOf H)=H:=hardOf_recs (good_chk h.good) h.good
def TopIs (s:Fs) (no:Int) (b:List Int):Prop:=s no=some b∧∀ k,s k≠none→k≤no
def cutS (s:Fs) (no:Int):Fs:=fun k=>if k=no then none else s k
theorem rep_top {R:List Fl}{s:Fs}{no:Int}{b:List Int}(h:Rep R s) (t:TopIs s no b):∃ R0,R=R0++[(no,b)]∧Rep R0 (cutS s no):=by
 rcases List.eq_nil_or_concat R with rfl|⟨R0,⟨k,d⟩,rfl⟩
 ·have:=h.2 no
  rw [t.1,rget_nil] at this
  cases this
 rw [List.concat_eq_append] at h ⊢
 have hm:rget (R0++[(k,d)]) k=some d:=rget_mem h.1 (f:=(k,d)) (by simp)
 have hk:k≤no:=t.2 k (by rw [← h.2,hm];simp)
 have hr:=h.1
 unfold Ris at hr
 rw [List.pairwise_append] at hr
 have hlt:∀ f∈R0,f.1<k:=fun f hf=>hr.2.2 f hf (k,d) (by simp)
 have hno:no∈(R0++[(k,d)]).map (·.1):=Decidable.byContradiction fun hn=>by
  have:=h.2 no
  rw [rget_none.2 hn,t.1] at this
  cases this
 have e:k=no:=by
  rw [List.map_append,List.mem_append] at hno
  rcases hno with hno|hno
  ·obtain ⟨f,hf,e⟩:=List.mem_map.1 hno
   have:=hlt f hf
   omega
  ·simp at hno
   exact hno.symm
 subst e
 have hb:d=b:=by
  have:=h.2 k
  rw [hm,t.1] at this
  exact Option.some.inj this
 subst hb
 refine ⟨R0,rfl,hr.1,fun j=>?_⟩
 have h2:=h.2 j
 rw [rget_app,rget_cons,rget_nil] at h2
 unfold cutS
 by_cases hj:j=k
 ·subst hj
  rw [if_pos rfl]
  rw [rget_none]
  intro hm'
  obtain ⟨f,hf,e⟩:=List.mem_map.1 hm'
  have:=hlt f hf
  omega
 ·rw [if_neg hj,← h2]
  have hj':¬ k=j:=fun e=>hj e.symm
  simp [hj']
noncomputable def pk1 (a:Int×Hd) (b:List Int):Int×Hd:=match readF decF b with|some (f,xs,_)=>(f,hardOf xs)|none=>a
noncomputable def peekL (R:List Fl):Int×Hd:=R.foldl (fun a f=>pk1 a f.2) (1,Hd.zero)
def PK (s:Fs) (p:Int×Hd):Prop := ∀ R,Rep R s→peekL R=p
theorem peek_snoc (R:List Fl) (no:Int) (b:List Int):peekL (R++[(no,b)])=pk1 (peekL R) b:=by
 unfold peekL
 rw [List.foldl_append]
 rfl
theorem pk_top {s:Fs}{no:Int}{b:List Int}{f:Int}{xs:List Rc}{k:Nat}(t:TopIs s no b) (h:readF decF b=some (f,xs,k)):PK s (f,hardOf xs):=fun R hR=>by
 obtain ⟨R0,rfl,-⟩:=rep_top hR t
 rw [peek_snoc]
 unfold pk1
 rw [h]
theorem pk_same {s s0:Fs}{no:Int}{b:List Int}{p:Int×Hd}(t:TopIs s no b) (h:readF decF b=none) (h0:PK s0 p) (he:s0=cutS s no):PK s p:=fun R hR=>by
 obtain ⟨R0,rfl,hR0⟩:=rep_top hR t
 rw [peek_snoc]
 unfold pk1
 rw [h]
 subst he
 exact h0 R0 hR0
theorem pk_none:PK (fun _=>none) (1,Hd.zero):=fun R hR=>by
 rw [rep_ext hR rep_zero]
 rfl
def gcr (g:Fs):List Dop→Nat→Nat→Fs
 | [],_,_=>g
 | x::l,0,t=>if x.kind=2 then gdo g { x with data:=x.data.take t } else g
 | x::l,q+1,t=>gcr (gdo g x) l q t
def CS (g:Fs) (l:List Dop) (s:Fs):Prop := ∃ q t,s=gcr g l q t
theorem gcr_eq:∀ (l:List Dop) (g:Fs) (q t:Nat),gcr g l q t=if h:q<l.length then (if (l[q]).kind=2 then gdo (gall g (l.take q)) { l[q] with data:=(l[q]).data.take t } else gall g (l.take q)) else gall g l
 | [],g,q,t=>by simp [gcr,gall]
 | x::l,g,0,t=>by
  rw [dif_pos (by simp)]
  rfl
 | x::l,g,q+1,t=>by
  unfold gcr
  rw [gcr_eq l (gdo g x) q t]
  by_cases h:q<l.length
  ·rw [dif_pos h,dif_pos (by simp;omega)]
   rfl
  ·rw [dif_neg h,dif_neg (by simp;omega)]
   rfl
theorem cs_crash (g:Fs) (l:List Dop) (N M:Int):CS g l (gcrash g l N M):=by
 unfold gcrash
 by_cases h:clip N l.length<l.length
 ·rw [dif_pos h]
  refine ⟨clip N l.length,clip M (l[clip N l.length]).data.length,?_⟩
  rw [gcr_eq,dif_pos h]
 ·rw [dif_neg h]
  refine ⟨l.length,0,?_⟩
  rw [gcr_eq,dif_neg (by omega)]
theorem cs_all (g:Fs) (l:List Dop):CS g l (gall g l):=⟨l.length,0,by rw [gcr_eq,dif_neg (by omega)]⟩
theorem gdo_nil {g:Fs}{x:Dop}(h:x.kind=2):gdo g { x with data:=x.data.take 0 }=g:=by
 funext k
 unfold gdo
 by_cases e:k=x.no
 ·simp [e,h]
 ·simp [e]
theorem cs_pre (g:Fs) (l:List Dop) (q:Nat):CS g l (gall g (l.take q)):=by
 by_cases h:q<l.length
 ·refine ⟨q,0,?_⟩
  rw [gcr_eq,dif_pos h]
  split
  ·rename_i hk
   rw [gdo_nil hk]
  ·rfl
 ·rw [List.take_of_length_le (by omega)]
  exact cs_all g l
theorem cs_nil {g s:Fs}(h:CS g [] s):s=g:=by
 obtain ⟨q,t,rfl⟩:=h
 rfl
theorem cs_cons {g s:Fs}{x:Dop}{l:List Dop}(h:CS g (x::l) s):(x.kind≠2∧s=g)∨(x.kind=2∧∃ t,s=gdo g { x with data:=x.data.take t })∨CS (gdo g x) l s:=by
 obtain ⟨q,t,rfl⟩:=h
 cases q with
 | zero =>
  unfold gcr
  split
  ·rename_i hk
   exact .inr (.inl ⟨hk,t,rfl⟩)
  ·rename_i hk
   exact .inl ⟨hk,rfl⟩
 | succ q=>exact .inr (.inr ⟨q,t,rfl⟩)
theorem cs_app {l':List Dop}{s:Fs}:∀ {l:List Dop}{g:Fs},CS g (l++l') s→CS g l s∨CS (gall g l) l' s
 | [],g,h=>.inr h
 | x::l,g,h=>by
  obtain ⟨q,t,rfl⟩:=h
  cases q with
  | zero=>exact .inl ⟨0,t,rfl⟩
  | succ q =>
   rcases cs_app (l:=l) (g:=gdo g x) ⟨q,t,rfl⟩ with ⟨q',t',h⟩|h
   ·exact .inl ⟨q'+1,t',h⟩
   ·exact .inr h
theorem gall_app {g:Fs}{l l':List Dop}:gall g (l++l')=gall (gall g l) l':=by
 unfold gall
 rw [List.foldl_append]
def filesOf (g:Fs) (l:List Int):List Fl:=l.map fun k=>(k,(g k).getD [])
theorem rget_filesOf {g:Fs}{l:List Int}{k:Int}:rget (filesOf g l) k=if k∈l then some ((g k).getD []) else none:=by
 induction l with
 | nil=>rfl
 | cons a l ih =>
  show rget ((a,(g a).getD [])::filesOf g l) k=_
  rw [rget_cons,ih]
  by_cases h:a=k
  ·subst h;simp
  ·have:¬ k=a:=fun e=>h e.symm
   simp [h,this]
theorem mf_key {G:GH}{ml:List (Int×Value)}{g:Fs}(hF:MF G ml g) {k:Int}:k∈ml.map (·.1)↔g k≠none:=by
 have h1:=hF k
 by_cases hk:k∈ml.map (·.1)
 ·obtain ⟨L1,v,L2,e,h2⟩:∃ L1 v L2,ml=L1++(k,v)::L2∧k∉L1.map (·.1):=by
   clear h1 hF
   induction ml with
   | nil=>simp at hk
   | cons x ml ih =>
    obtain ⟨a,v⟩:=x
    by_cases e:k=a
    ·subst e;exact ⟨[],v,ml,rfl,by simp⟩
    ·simp only [List.map_cons,List.mem_cons] at hk
     obtain ⟨L1,v',L2,rfl,h2⟩:=ih (hk.resolve_left e)
     exact ⟨(a,v)::L1,v',L2,rfl,by simp only [List.map_cons,List.mem_cons,not_or];exact ⟨e,h2⟩⟩
  have h3:mget ml k=some v:=by rw [e,mget_at h2]
  rw [h3] at h1
  obtain ⟨A,c,b,-,h4,-⟩:=h1
  simp [hk,h4]
 ·rw [mget_no hk] at h1
  simp only at h1
  simp [hk,h1]
theorem mf_no {G:GH}{ml:List (Int×Value)}{g:Fs}(hF:MF G ml g) {k:Int}(hk:k∈ml.map (·.1)):inNo k:=by
 have h1:=hF k
 have h2:=(mf_key hF).1 hk
 cases hm:mget ml k with
 | none=>rw [hm] at h1;exact absurd h1 h2
 | some v=>rw [hm] at h1;obtain ⟨_,_,_,_,_,_,h⟩:=h1;exact h
theorem mf_get {G:GH}{ml:List (Int×Value)}{g:Fs}(hF:MF G ml g) (k:Int):∃ A c,(mget ml k).getD (.slice none 0 0)=.slice A ((g k).getD []).length c∧Bs G (.slice A ((g k).getD []).length c) ((g k).getD []):=by
 have h1:=hF k
 cases hm:mget ml k with
 | none=>rw [hm] at h1;simp only at h1;rw [h1];exact ⟨none,0,rfl,Sl.nil⟩
 | some v =>
  rw [hm] at h1
  obtain ⟨A,c,b,h2,h3,h4,-⟩:=h1
  rw [h3]
  exact ⟨A,c,h2,by rw [h2] at h4;exact h4⟩
theorem rep_files {G:GH}{ml:List (Int×Value)}{g:Fs}{xs:List Int}(hF:MF G ml g) (hn:(ml.map (·.1)).Nodup) (hp:xs.Perm (ml.map (·.1))):Rep (filesOf g (sortL xs)) g:=by
 have hp2:=(sortL_perm xs).trans hp
 have hlt:(sortL xs).Pairwise (· < ·):=by
  have h1:=sortL_le xs
  have h2:(sortL xs).Nodup:=hp2.nodup_iff.2 hn
  exact (h1.and h2).imp fun h=>by omega
 refine ⟨?_,fun k=>?_⟩
 ·unfold Ris filesOf
  rw [List.pairwise_map]
  exact hlt
 ·rw [rget_filesOf]
  have hk:=mf_key hF (k:=k)
  by_cases h:k∈sortL xs
  ·rw [if_pos h]
   have h2:=hk.1 (hp2.mem_iff.1 h)
   obtain ⟨b,hb⟩:=Option.ne_none_iff_exists'.1 h2
   rw [hb];rfl
  ·rw [if_neg h]
   have:k∉ml.map (·.1):=fun e=>h (hp2.mem_iff.2 e)
   rw [hk] at this
   exact (Decidable.not_not.1 this).symm
theorem list_s {G:GH}{g:Fs}{ml:List (Int×Value)}{m N:Nat}{oM:Obj}(hM:MapB keyI ml oM) (hF:MF G ml g) (hN:Bd g N) (hN2:N≤1000000) (hl:ml.length≤100000) :
 Con Tryz.prog 74 #[.map (some m)] G [(m,oM)] (fun r G' μ'=>GH.le G G'∧∃ R,Rep R g∧Fls G' r R∧R.length=ml.length∧μ'=[(m,oM)]):=by
 have q1:=keysB_s (G:=G) (m:=m)
 have hnd:=hM.nodup
 (refine v_enter Tryz.func74 rfl Tryz.ntmps74 rfl ?_;intro B _)
 repeat' (first|apply v_seq|apply v_region|apply v_nil|apply v_pure;(case hop=>(apply p_assign<;>rfl));(case hd=>rfl)|apply v_read;(case hop=>(apply r_load1;rfl;(apply Cell.own;(case h=>repeat first|exact mhd _|apply mtl);rfl)));(case hd=>rfl)|apply v_alloc;(case hz|hd=>rfl);intro b|apply v_box;(case hx|hz|hd=>rfl);intro b|fail)
 rename_i bx
 refine v_call (μ1:=[]) (μ2:=[(b,.cells [.slice none 0 0].toArray 64 (0,0)),(bx,.cells [Value.map (some m)].toArray 113 (0,0)),(m,oM)]) rfl q1 (List.Perm.refl _) rfl ?_
 rintro _ G1 _ - ⟨b3,rfl,hG1,rfl⟩
 subst G1
 have q2:=sorted_s (N:=ml.length) (by omega) (fun xs h=>by rw [h.length_eq,List.length_map];omega) (keysB_seq (G:=G) (m:=m) (b:=b3) hM)
 repeat' (fail)
 refine v_call (μ1:=[(b3,.cells [Value.map (some m)].toArray 113 (0,0)),(m,oM)]) (μ2:=[(b,.cells [.slice none 0 0].toArray 64 (0,0)),(bx,.cells [Value.map (some m)].toArray 113 (0,0))]) rfl q2 (by apply perm_of_count;intro p;simp only [List.append_eq,List.countP_append,List.countP_cons,List.countP_nil,Nat.zero_add,Nat.add_zero];try ac_rfl) rfl ?_
 rintro v2 G2 _ - ⟨hG2,xs,ν,hp,hg,rfl⟩
 subst G2
 refine v_frzP ν (List.Perm.of_eq (List.append_assoc _ _ _)) ?_
 intro G2 hle2 hG2
 have hrep:=rep_files hF hnd hp
 have hwf:∀ x∈sortL xs,(Lit.int .i64 x).wf=true:=fun x hx=>by
  have h1:=mf_no hF (hp.mem_iff.1 ((sortL_perm xs).mem_iff.1 hx))
  unfold inNo at h1
  exact WalkArith.wf_i64 (by omega)
 have hlen:(sortL xs).length=ml.length:=by rw [(sortL_perm xs).length_eq,hp.length_eq,List.length_map]
 rw [← (sortL_perm xs).length_eq] at hg
 have hs:=hg.ints hG2 hwf
 obtain ⟨A2,c2,rfl,-⟩:=id hs.openInt
 generalize sortL xs=ks at *
 repeat' (fail)
 refine v_call (μ1:=[]) (μ2:=_) rfl values_s (List.Perm.refl _) rfl ?_
 rintro _ G3 _ - ⟨b4,rfl,hG3,rfl⟩
 subst G3
 have hseq:=vals_seq (b:=b4) hs (by omega)
 repeat' (first|apply v_nil|apply v_block)
 refine v_rangeFunc (enc:=keyI) (N:=ks.length) (S:=fun xs'=>xs'=ks) (μ1:=[(b4,.cells [.slice A2 ks.length c2].toArray 47 (0,0))]) (μ2:=[(b3,.cells [Value.map (some m)].toArray 113 (0,0)),(b,.cells [.slice none 0 0].toArray 64 (0,0)),(m,oM),(bx,.cells [Value.map (some m)].toArray 113 (0,0))]) (σ':=fun x=>_) (fun pre G' ν=>GH.le G2 G'∧∃ ov ν1,GrL 112 2 (FlR G') ov (filesOf g pre) ν1∧ν=ν1++[(b3,.cells [Value.map (some m)].toArray 113 (0,0)),(b,.cells [ov].toArray 64 (0,0)),(m,oM),(bx,.cells [Value.map (some m)].toArray 113 (0,0))]) rfl hseq (by apply perm_of_count;intro p;simp only [List.append_eq,List.countP_append,List.countP_cons,List.countP_nil,Nat.zero_add,Nat.add_zero];try ac_rfl) rfl (fun x=>Assigns.region (.cons (p_assign rfl) rfl (.nil _))) rfl ⟨GH.le_refl _,_,[],GrL.nil,rfl⟩ ?_ ?_
 ·rintro l B' _ pre x G4 _ hle4 ⟨hle5',ov,ν1,hg1,rfl⟩ hpl
  obtain ⟨A5,c5,h5,h6⟩:=mf_get (hF.up (GH.le_trans hle2 hle4)) x
  have hbl:((g x).getD []).length≤N:=by
   cases hgx:g x with
   | none=>simp
   | some b=>exact hN x b hgx
  have qc:=bclone_s h6 (by omega)
  obtain ⟨css,hc1,hc2,hgr⟩:=id hg1
  obtain ⟨A6,c6,rfl,hA1,hA2⟩:=hgr.shape
  have hpn:(filesOf g pre).length=pre.length:=by unfold filesOf;rw [List.length_map]
  have hrd:=fun (σ:Env) (μ:OH) (ty:TypeId) (xo i:Operand) (hb:(m,oM)∈μ) (h1:Env.ev σ xo=some (.map (some m))) (h2:Env.ev σ i=some (keyI x))=>r_lookup (P:=Tryz.prog) (σ:=σ) (G:=G4) (μ:=μ) (ty:=ty) (t:=113) (k:=3) (e:=24) (mk:=keyI) x h1 h2 hb hM
  rw [h5] at hrd
  obtain ⟨_,_,_,_,_,_,_,hwb⟩:=h6.openInt
  repeat' (first|apply v_block)
  refine d_start [(m,oM),(bx,.cells [Value.map (some m)].toArray 113 (0,0))] (by kernel_rfl) (by kernel_rfl) (by kernel_rfl) (by intro e he;(simp at he;simp [he];done)) ?_
  all_goals (apply dtm 1;(case hi|hx=>rfl);(case hq=>kernel_rfl);apply dtk 2;(case hi=>rfl);(case hop=>(apply r_load1;rfl;(apply Cell.own;(case h=>repeat first|exact mhd _|apply mtl);rfl)));(case hq=>kernel_rfl))
  all_goals (apply dtm 3;(case hi|hx=>rfl);(case hq=>kernel_rfl))
  all_goals (apply dtk 4;(case hi=>rfl);(case hop=>((exact hrd _ _ _ _ _ (by repeat (exact mhd _)) rfl rfl)));(case hq=>kernel_rfl))
  focus
   refine d_fork 0 5 (by kernel_rfl) ?_ ?_
   rotate_right
   focus
    (apply x_call 5 (hs:=qc) (μ1:=[]);(case hi|ha=>rfl);(case hp=>exact List.Perm.refl _);(case hd=>rfl);(case hν'=>intro e he;simp only [List.mem_cons,List.not_mem_nil,or_false] at he;rcases he with rfl|rfl<;>simp);rintro r7 G7 n7 - ⟨hG7,hg7⟩;subst G7;obtain ⟨A7,c7,rfl,-,-⟩:=hg7.shape)
    all_goals (apply dtk 6;(case hi=>rfl);(case hop=>(apply prd;apply p_build;(case hz=>rfl);(case hv=>(simp only [List.map_cons,List.map_nil];repeat (first|with_reducible exact evs_nil|apply evs_cons;(case h1=>rfl))));(case hb=>(apply bldL;repeat (first|exact bld_nil|apply bld_cons;(case hpf|hc|hs|hl=>rfl);(case ho=>((repeat (first|with_reducible exact ov_nil|apply ov_cons));done)))))));(case hq=>kernel_rfl))
    focus
     refine d_fork 0 7 (by kernel_rfl) ?_ ?_
     rotate_right
     focus
      (apply x_buildSlice 7;(case hi=>rfl);(case hT=>infer_instance);(case hL=>infer_instance);(case hz|hl=>rfl);(case hv=>(simp only [List.map_cons,List.map_nil];repeat (first|with_reducible exact evs_nil|apply evs_cons;(case h1=>rfl))));(case hp=>(apply pk_cons;(case hc|hs=>rfl);(case h=>(with_reducible exact pk_nil));(case he=>((repeat (first|with_reducible exact ap_nil|apply ap_cons));done))));(case hb|hd=>rfl);(case hν=>intro e he;(simp at he;simp [he];done));intro sb)
      all_goals (apply d_keep 0 (hop:=ReadOp.move ?hop);(case hi=>rfl);(case hr=>kernel_rfl);(case hop=>(apply r_load1;rfl;(apply Cell.own;(case h=>repeat first|exact mhd _|apply mtl|apply List.mem_append_right);rfl)));(case hd=>rfl))
      all_goals (apply d_append 8 (hg:=hgr) (q':=1) (us:=[.int .i64 x,.slice A7 ((g x).getD []).length c7]) (hp:=PickA.perm (PickA.cons _ (PickA.app _ (PickA.here _)))) (hsrc:=Src.own (e:=112) (List.Mem.head _) rfl);(case hi=>rfl);(case hr=>kernel_rfl);(case hT=>infer_instance);(case hL=>infer_instance);(case hzs=>rfl);(case hsz=>omega);(case hs|hx=>rfl);(case hb=>omega);(case hb'=>simp only [maxLen];omega);(case hd|h1=>rfl);(case hν=>intro e he;(simp at he;simp [he];done));intro v8 n8 g8;obtain ⟨A8,c8,rfl,-,-⟩:=g8.shape)
      all_goals (apply d_store 9;(case hi=>rfl);(case hr=>kernel_rfl);(case hL=>infer_instance);(case hp|hx|hc|hsz|h1=>rfl);(case hb=>repeat first|exact mhd _|apply mtl|apply List.mem_append_right);(case hfit=>exact nle rfl);(case hov=>((repeat (first|with_reducible exact ov_nil|apply ov_cons));done));(case hu=>repeat first|exact Upd.here _ _|apply Upd.there|apply Upd.app);(case hν'=>intro e he;simp at he;simp [he]))
      all_goals (apply d_done;(case hr=>kernel_rfl))
     rotate_right
     focus
      (apply x_exec 0;(case hi=>rfl);(case hop=>exact ReadOp.move (r_load1 rfl (Cell.own (by repeat (first|exact mhd _|apply mtl|apply List.mem_append_right)) rfl)));(case hd=>rfl);rintro _ G0 _ ⟨rfl,hG0,rfl⟩;subst G0;refine ⟨(by intro e he;simp only [List.mem_cons,List.not_mem_nil,or_false] at he;rcases he with rfl|rfl<;>simp),?_⟩)
      all_goals (apply d_buildSlice 7;(case hi=>rfl);(case hr=>kernel_rfl);(case hT=>infer_instance);(case hL=>infer_instance);(case hz|hl=>rfl);(case hv=>(simp only [List.map_cons,List.map_nil];repeat (first|with_reducible exact evs_nil|apply evs_cons;(case h1=>rfl))));(case hp=>(apply pk_cons;(case hc|hs=>rfl);(case h=>(with_reducible exact pk_nil));(case he=>((repeat (first|with_reducible exact ap_nil|apply ap_cons));done))));(case hb|hd=>rfl);(case hν=>intro e he;(simp at he;simp [he];done));intro sb)
      all_goals (apply d_append 8 (hg:=hgr) (q':=1) (us:=[.int .i64 x,.slice A7 ((g x).getD []).length c7]) (hp:=PickA.perm (PickA.cons _ (PickA.app _ (PickA.here _)))) (hsrc:=Src.own (e:=112) (List.Mem.head _) rfl);(case hi=>rfl);(case hr=>kernel_rfl);(case hT=>infer_instance);(case hL=>infer_instance);(case hzs=>rfl);(case hsz=>omega);(case hs|hx=>rfl);(case hb=>omega);(case hb'=>simp only [maxLen];omega);(case hd|h1=>rfl);(case hν=>intro e he;(simp at he;simp [he];done));intro v8 n8 g8;obtain ⟨A8,c8,rfl,-,-⟩:=g8.shape)
      all_goals (apply d_store 9;(case hi=>rfl);(case hr=>kernel_rfl);(case hL=>infer_instance);(case hp|hx|hc|hsz|h1=>rfl);(case hb=>repeat first|exact mhd _|apply mtl|apply List.mem_append_right);(case hfit=>exact nle rfl);(case hov=>((repeat (first|with_reducible exact ov_nil|apply ov_cons));done));(case hu=>repeat first|exact Upd.here _ _|apply Upd.there|apply Upd.app);(case hν'=>intro e he;simp at he;simp [he]))
      all_goals (apply d_done;(case hr=>kernel_rfl))
   rotate_right
   focus
    (apply x_exec 0;(case hi=>rfl);(case hop=>exact ReadOp.move (r_load1 rfl (Cell.own (by repeat (first|exact mhd _|apply mtl|apply List.mem_append_right)) rfl)));(case hd=>rfl);rintro _ G0 _ ⟨rfl,hG0,rfl⟩;subst G0;refine ⟨(by intro e he;simp only [List.mem_cons,List.not_mem_nil,or_false] at he;rcases he with rfl|rfl<;>simp),?_⟩)
    all_goals ((apply d_call 5 (hs:=qc) (μ1:=[]);(case hi=>rfl);(case hr=>kernel_rfl);(case ha=>rfl);(case hp=>exact List.Perm.refl _);(case hd=>rfl);(case hν'=>intro e he;simp only [List.mem_cons,List.not_mem_nil,or_false] at he;rcases he with rfl|rfl<;>simp);rintro r7 G7 n7 - ⟨hG7,hg7⟩;subst G7;obtain ⟨A7,c7,rfl,-,-⟩:=hg7.shape))
    all_goals (apply dtk 6;(case hi=>rfl);(case hop=>(apply prd;apply p_build;(case hz=>rfl);(case hv=>(simp only [List.map_cons,List.map_nil];repeat (first|with_reducible exact evs_nil|apply evs_cons;(case h1=>rfl))));(case hb=>(apply bldL;repeat (first|exact bld_nil|apply bld_cons;(case hpf|hc|hs|hl=>rfl);(case ho=>((repeat (first|with_reducible exact ov_nil|apply ov_cons));done)))))));(case hq=>kernel_rfl))
    all_goals (apply d_buildSlice 7;(case hi=>rfl);(case hr=>kernel_rfl);(case hT=>infer_instance);(case hL=>infer_instance);(case hz|hl=>rfl);(case hv=>(simp only [List.map_cons,List.map_nil];repeat (first|with_reducible exact evs_nil|apply evs_cons;(case h1=>rfl))));(case hp=>(apply pk_cons;(case hc|hs=>rfl);(case h=>(with_reducible exact pk_nil));(case he=>((repeat (first|with_reducible exact ap_nil|apply ap_cons));done))));(case hb|hd=>rfl);(case hν=>intro e he;(simp at he;simp [he];done));intro sb)
    all_goals (apply d_append 8 (hg:=hgr) (q':=1) (us:=[.int .i64 x,.slice A7 ((g x).getD []).length c7]) (hp:=PickA.perm (PickA.cons _ (PickA.app _ (PickA.here _)))) (hsrc:=Src.own (e:=112) (List.Mem.head _) rfl);(case hi=>rfl);(case hr=>kernel_rfl);(case hT=>infer_instance);(case hL=>infer_instance);(case hzs=>rfl);(case hsz=>omega);(case hs|hx=>rfl);(case hb=>omega);(case hb'=>simp only [maxLen];omega);(case hd|h1=>rfl);(case hν=>intro e he;(simp at he;simp [he];done));intro v8 n8 g8;obtain ⟨A8,c8,rfl,-,-⟩:=g8.shape)
    all_goals (apply d_store 9;(case hi=>rfl);(case hr=>kernel_rfl);(case hL=>infer_instance);(case hp|hx|hc|hsz|h1=>rfl);(case hb=>repeat first|exact mhd _|apply mtl|apply List.mem_append_right);(case hfit=>exact nle rfl);(case hov=>((repeat (first|with_reducible exact ov_nil|apply ov_cons));done));(case hu=>repeat first|exact Upd.here _ _|apply Upd.there|apply Upd.app);(case hν'=>intro e he;simp at he;simp [he]))
    all_goals (apply d_done;(case hr=>kernel_rfl))
  all_goals repeat' (first|apply v_blk)
  all_goals
   (refine v_frz n7 (PickA.app _ (PickA.cons _ (PickA.here _))) ?_
    intro G5 hle5 hG5
    have hbs:=hg7.ints hG5 hwb
    refine v_perm List.perm_middle ?_
    refine v_drop (List.sublist_cons_self _ _) ?_
    refine v_endR (n8++[(b3,.cells [Value.map (some m)].toArray 113 (0,0)),(b,_),(m,oM),(bx,.cells [Value.map (some m)].toArray 113 (0,0))]) (List.Sublist.refl _) ⟨rfl,GH.le_trans hle5' hle5,_,n8,?_,rfl⟩
    have e9:filesOf g (pre++[x])=filesOf g pre++[(x,(g x).getD [])]:=by unfold filesOf;rw [List.map_append];rfl
    rw [e9]
    exact GrL.snoc (R:=FlR G5) (x:=(x,(g x).getD [])) hc1 (fun i y cs hy hc=>⟨(hc2 i y cs hy hc).1,(hc2 i y cs hy hc).2.le hle5⟩) g8 rfl ⟨A7,c7,rfl,hbs⟩)
 ·rintro B' D _ xs' G4 _ hle4 rfl ⟨hle5,ov,ν1,hg1,rfl⟩
  repeat' (first|apply v_seq|apply v_region|apply v_nil|apply v_blk|apply v_pure;(case hop=>(apply p_assign<;>rfl));(case hd=>rfl)|apply v_read;(case hop=>(apply r_load1;rfl;(apply Cell.own;(case h=>repeat first|exact mhd _|apply mtl|apply List.mem_append_right);rfl)));(case hd=>rfl)|fail)
  refine v_frz ν1 (PickA.cons _ (PickA.cons _ (PickA.here _))) ?_
  intro G5 hle5' hG5
  refine v_retD (Ds:=[D]) [(m,oM)] (fun ds a ha w _=>outs1 rfl rfl ds a ha) (List.Perm.refl _) ?_ ?_
  ·exact List.Sublist.cons _ (List.Sublist.cons _ (List.Sublist.cons _ (List.Sublist.cons_cons _ (List.nil_sublist _))))
  refine ⟨GH.le_trans hle2 (GH.le_trans hle4 hle5'),_,hrep,?_,?_,rfl⟩
  ·exact (hg1.le fun _ _ h=>h.le hle5').sl hG5
  ·unfold filesOf;rw [List.length_map,hlen]
theorem files_s {G:GH}{g:Fs}{ml:List (Int×Value)}{d m N:Nat}{oM:Obj}{ov:Value}(hM:MapB keyI ml oM) (hF:MF G ml g) (hN:Bd g N) (hN2:N≤1000000) (hl:ml.length≤100000) :
 Con Tryz.prog 30 #[.pointer (some ⟨d,0,none⟩)] G [(d,dkO m ov),(m,oM)] (fun r G' μ'=>GH.le G G'∧∃ R,Rep R g∧Fls G' r R∧R.length=ml.length∧μ'=[(d,dkO m ov),(m,oM)]):=by
 have q:=list_s (m:=m) hM hF hN hN2 hl
 unfold dkO
 (refine v_enter Tryz.func30 rfl Tryz.ntmps30 rfl ?_;intro B _)
 repeat' (first|apply v_seq|apply v_region|apply v_nil|apply v_skip|apply v_pure;(case hop=>first|apply p_move<;>rfl|apply p_assign<;>rfl|apply p_fieldAddrB<;>rfl|apply p_nilCheck<;>rfl|apply p_eqNil<;>rfl|fail);(case hd=>rfl)|apply v_condF;(case hc=>rfl)|apply v_read;(case hop=>(apply r_load1;rfl;(apply Cell.own;(case h=>repeat exact mhd _);rfl)));(case hd=>rfl)|fail)
 refine v_call (μ1:=[(m,oM)]) (μ2:=[(d,.cells [.map (some m),ov].toArray 115 (0,0))]) rfl q (List.Perm.swap _ _ _) rfl ?_
 rintro r G1 _ - ⟨hle,R,hR,hs,hn,rfl⟩
 repeat' (first|apply v_nil|apply v_pure;(case hop=>(apply p_assign<;>rfl));(case hd=>rfl)|fail)
 refine v_perm (List.Perm.swap _ _ _) ?_
 refine v_ret [(d,_),(m,oM)] (outsA1 rfl rfl) (List.Sublist.refl _) ⟨hle,R,hR,hs,hn,rfl⟩
theorem view_s {G:GH}{l:List Dop}{g:Fs}{ml:List (Int×Value)}{d m:Nat}{oM:Obj}{ov:Value}{ν:OH}
 (hM:MapB keyI ml oM) (hF:MF G ml g) (hB:∀ q,q≤l.length→Bd (gall g (l.take q)) 1000000) (hg:GrL 124 3 (OpR G) ov l ν) (hl:l.length≤5000) (hx:∀ x∈l,x.data.length≤1000000) (hno:∀ x∈l,inNo x.no) (hml:ml.length≤50000) :
 Con Tryz.prog 77 #[.pointer (some ⟨d,0,none⟩)] G ((d,dkO m ov)::(m,oM)::ν) (fun r G' μ'=>GH.le G G'∧∃ R,Rep R (gall g l)∧Fls G' r R∧R.length≤ml.length+l.length∧μ'=(d,dkO m ov)::(m,oM)::ν):=by
 obtain ⟨css,hc1,hc2,hgr⟩:=id hg
 obtain ⟨A,c,rfl,hA,hA2⟩:=hgr.shape
 have q1:=cloneM_s (G:=G) (m:=m) hM
 unfold dkO
 (refine v_enter Tryz.func77 rfl Tryz.ntmps77 rfl ?_;intro B _)
 repeat' (first|apply v_seq|apply v_region|apply v_nil|apply v_skip|apply v_pure;(case hop=>first|apply p_move<;>rfl|apply p_assign<;>rfl|apply p_fieldAddrB<;>rfl|apply p_nilCheck<;>rfl|apply p_eqNil<;>rfl|fail);(case hd=>rfl)|apply v_condF;(case hc=>rfl)|apply v_read;(case hop=>(apply r_load1;rfl;(apply Cell.own;(case h=>repeat exact mhd _);rfl)));(case hd=>rfl)|fail)
 refine v_call (μ1:=[(m,oM)]) (μ2:=(d,.cells [.map (some m),.slice A l.length c].toArray 115 (0,0))::ν) rfl q1 (List.Perm.swap _ _ _) rfl ?_
 rintro _ G1 _ - ⟨hG1,cb,rfl,rfl⟩
 subst G1
 have q:=doPre_s (m:=cb) (n:=l.length) hM hF hB hg (Nat.le_refl _) (by omega) hx hno
 rw [List.take_length] at q
 repeat' (first|apply v_seq|apply v_region|apply v_nil|apply v_pure;(case hop=>first|apply p_move<;>rfl|apply p_assign<;>rfl|apply p_fieldAddrB<;>rfl|apply p_nilCheck<;>rfl|fail);(case hd=>rfl)|apply v_read;(case hop=>(apply r_load1;rfl;(apply Cell.own;(case h=>repeat first|exact mhd _|apply mtl);rfl)));(case hd=>rfl)|fail)
 refine v_call (μ1:=(cb,oM)::ν) (μ2:=[(m,oM),(d,.cells [.map (some m),.slice A l.length c].toArray 115 (0,0))]) rfl q ?_ rfl ?_
 ·exact (by apply perm_of_count;intro p;simp only [List.append_eq,List.countP_append,List.countP_cons,List.countP_nil,Nat.zero_add,Nat.add_zero];try ac_rfl)
 rintro _ G2 _ - ⟨hle2,ml',oM',hM',hF',hl',rfl⟩
 have q3:=list_s (m:=cb) hM' hF' (by have:=hB l.length (Nat.le_refl _);rwa [List.take_length] at this) (by omega) (by omega)
 repeat' (first|apply v_seq|apply v_region|apply v_nil|apply v_pure;(case hop=>(apply p_move<;>rfl));(case hd=>rfl)|fail)
 refine v_call (μ1:=[(cb,oM')]) (μ2:=ν++[(m,oM),(d,.cells [.map (some m),.slice A l.length c].toArray 115 (0,0))]) rfl q3 (List.Perm.refl _) rfl ?_
 rintro r G3 _ - ⟨hle3,R,hR,hs,hn,rfl⟩
 repeat' (first|apply v_nil|apply v_pure;(case hop=>(apply p_assign<;>rfl));(case hd=>rfl)|fail)
 refine v_drop (ν:=ν++[(m,oM),(d,.cells [.map (some m),.slice A l.length c].toArray 115 (0,0))]) (List.sublist_cons_self _ _) ?_
 refine v_perm (ν:=(d,.cells [.map (some m),.slice A l.length c].toArray 115 (0,0))::(m,oM)::ν) ?_ ?_
 ·exact (List.perm_append_comm (l₁:=ν)).trans (List.Perm.swap _ _ _)
 refine v_ret ((d,_)::(m,oM)::ν) (outsA1 rfl rfl) (List.Sublist.refl _) ⟨GH.le_trans hle2 hle3,R,hR,hs,by omega,rfl⟩
theorem buffered_s {G:GH}{l:List Dop}{d m:Nat}{ov:Value}{ν:OH}(hg:GrL 124 3 (OpR G) ov l ν) (hl:l.length≤5000) (hx:∀ x∈l,x.data.length≤1000000) :
 Con Tryz.prog 33 #[.pointer (some ⟨d,0,none⟩)] G ((d,dkO m ov)::ν) (fun r G' μ'=>GH.le G G'∧Ops G' r l∧μ'=(d,dkO m ov)::ν):=by
 unfold dkO
 rcases opsCases hg with ⟨rfl,rfl,rfl⟩|⟨ob,cap,cells,dA,dc,rfl,h1,h2,rfl,hC⟩
 ·(refine v_enter Tryz.func33 rfl Tryz.ntmps33 rfl ?_;intro B _)
  repeat' (first|apply v_seq|apply v_region|apply v_nil|apply v_skip|apply v_block|apply v_pure;(case hop=>first|apply p_move<;>rfl|apply p_assign<;>rfl|apply p_lenSlice<;>rfl|apply p_fieldAddrB<;>rfl|apply p_nilCheck<;>rfl|apply p_eqNil<;>rfl|fail);(case hd=>rfl)|apply v_condF;(case hc=>rfl)|apply v_read;(case hop=>(apply r_load1;rfl;(apply Cell.own;(case h=>repeat exact mhd _);rfl)));(case hd=>rfl)|fail)
  refine v_loop [13,12,3] (fun us G' μ'=>G'=G∧us=[Value.int .i64 (0:Nat),.int .i64 (0:Nat),.slice none 0 0]∧μ'=[(d,.cells [.map (some m),.slice none 0 0].toArray 115 (0,0))]) (fun us=>0) rfl ⟨rfl,rfl,rfl⟩ ?_
  rintro us G' _ ⟨rfl,rfl,rfl⟩
  repeat' (first|apply v_seq|apply v_region|apply v_nil|apply v_exit;(case hp=>rfl)|apply v_pure;(case hop=>first|apply p_move<;>rfl|apply p_lt<;>rfl|apply p_assign<;>rfl|fail);(case hd=>rfl)|apply v_cond;(case hc=>rfl);all_goals (intro h;(try simp only [reduceCtorEq,zzz] at h);try (exfalso;omega))|fail)
  refine v_ret [(d,_)] (outsA1 rfl rfl) (by repeat (exact List.Sublist.refl _)) ?_
  exact ⟨GH.le_refl _,Sl.nil,rfl⟩
 ·simp only [maxLen] at h2
  (refine v_enter Tryz.func33 rfl Tryz.ntmps33 rfl ?_;intro B _)
  repeat' (first|apply v_seq|apply v_region|apply v_nil|apply v_skip|apply v_block|apply v_pure;(case hop=>first|apply p_move<;>rfl|apply p_assign<;>rfl|apply p_lenSlice<;>rfl|apply p_fieldAddrB<;>rfl|apply p_nilCheck<;>rfl|apply p_eqNil<;>rfl|fail);(case hd=>rfl)|apply v_condF;(case hc=>rfl)|apply v_read;(case hop=>(apply r_load1;rfl;(apply Cell.own;(case h=>repeat exact mhd _);rfl)));(case hd=>rfl)|fail)
  refine v_loop [13,3,12,11] (fun us G' μ'=>GH.le G G'∧∃ (k:Nat) (v:Value) (ν':OH),k≤l.length∧us=[Value.int .i64 (k:Nat),v,.int .i64 (l.length:Nat),.slice (some ⟨ob,0,none⟩) l.length cap]∧GrL 124 3 (OpR G') v (l.take k) ν'∧μ'=ν'++[(d,.cells [.map (some m),.slice (some ⟨ob,0,none⟩) l.length cap].toArray 115 (0,0)),(ob,.cells cells.toArray 124 (0,0))]) (fun us=>l.length-(headI us).toNat) rfl ⟨GH.le_refl _,0,_,[],by omega,rfl,GrL.nil,rfl⟩ ?_
  rintro us G' _ ⟨hle,k,v,ν',hk,rfl,hg',rfl⟩
  by_cases hlt:k<l.length
  ·have e1:((k:Nat):Int).toNat=k:=by omega
   have hcd:=hC.1 k hlt
   have hdat:=(hC.2 k hlt).mono hle
   have hxl:=hx _ (List.getElem_mem hlt)
   have htk:(l.take (k+1))=l.take k++[l[k]]:=List.take_succ_eq_append_getElem hlt
   have hkl:(l.take k).length=k:=by rw [List.length_take];omega
   generalize hxe:l[k]=x at *
   obtain ⟨kind,no,data⟩:=x
   simp only at *
   have qc:=bclone_s hdat (by omega)
   obtain ⟨css,hc1,hc2,hgr⟩:=id hg'
   obtain ⟨A6,c6,rfl,hA1,hA2⟩:=hgr.shape
   obtain ⟨_,_,_,_,_,_,_,hwb⟩:=hdat.openInt
   repeat' (first|apply v_pure;(case hop=>apply p_idxOwn;(case hx|hi=>rfl);(case h=>omega));(case hd=>rfl)|apply v_seq|apply v_region|apply v_nil|apply v_skip|apply v_block|apply v_pure;(case hop=>first|apply p_lt<;>rfl|apply p_fieldAddrB<;>rfl|fail);(case hd=>rfl)|apply v_cond;(case hc=>rfl);all_goals (intro h;(try simp only [reduceCtorEq,zzz] at h);try (exfalso;omega))|apply v_read;(case hop=>(apply r_loadNo;(case hx=>rfl);(case h=>repeat first|exact mhd _|apply mtl|apply List.mem_append_right);(case hd=>exact hcd);(case hn=>rfl)));(case hd=>rfl)|apply v_read;(case hop=>(apply r_load1;rfl;(apply Cell.own;(case h=>repeat exact mhd _);rfl)));(case hd=>rfl)|apply v_alloc;(case hz|hd=>rfl);intro b|apply v_store;(case hp|hx|hc|hsz|h1=>rfl);(case hb=>repeat exact mhd _);(case hfit=>exact nle rfl);(case hov=>((repeat (first|with_reducible exact ov_nil|apply ov_cons));done));(case hu=>repeat (exact Upd.here _ _))|fail)
   refine v_call (μ1:=[]) (μ2:=_) rfl qc (List.Perm.refl _) rfl ?_
   rintro r7 G7 n7 - ⟨hG7,hg7⟩
   subst G7
   obtain ⟨A7,c7,rfl,-,-⟩:=hg7.shape
   repeat' (first|apply v_region|apply v_nil|apply v_blk|apply v_pure;(case hop=>first|apply p_move<;>rfl|apply p_assign<;>rfl|apply p_fieldAddrB<;>rfl|apply p_add;(case hx|hy=>rfl);(case h=>omega)|fail);(case hd=>rfl)|apply v_append (hg:=hgr) (m':=1) (us:=[.int .i64 kind,.int .i64 no,.slice A7 data.length c7]) (hp:=PickA.perm (by repeat (first|exact PickA.here _|apply PickA.cons|apply PickA.app))) (hsrc:=Src.own (e:=124) (by repeat (exact mhd _)) rfl);(case hzs=>rfl);(case hsz=>omega);(case hs|hx=>rfl);(case hb=>omega);(case hb'=>simp only [maxLen];omega);(case hd|h1=>rfl);intro v8 n8 hg8;obtain ⟨A8,c8,rfl,-,-⟩:=hg8.shape|apply v_read;(case hop=>(apply r_loadNo;(case hx=>rfl);(case h=>repeat first|exact mhd _|apply List.mem_append_right);(case hd=>repeat first|with_reducible exact dt_nil|apply dt_here);(case hn=>rfl)));(case hd=>rfl)|apply v_buildSlice;(case hz|hi=>rfl);(case hv=>(simp only [List.map_cons,List.map_nil];repeat (first|with_reducible exact evs_nil|apply evs_cons;(case h1=>rfl))));(case hp=>(apply pk_cons;(case hc|hs=>rfl);(case h=>(with_reducible exact pk_nil));(case he=>((repeat (first|with_reducible exact ap_nil|apply ap_cons));done))));(case hb|hd=>rfl);intro b|apply v_store;(case hp|hx|hc|hsz|h1=>rfl);(case hb=>repeat first|exact mhd _|apply List.mem_append_right);(case hfit=>exact nle rfl);(case hov=>((repeat (first|with_reducible exact ov_nil|apply ov_cons));done));(case hu=>repeat first|exact Upd.here _ _|apply Upd.app)|fail)
   refine v_frz n7 (PickA.app _ (PickA.cons _ (PickA.here _))) ?_
   intro G5 hle5 hG5
   have hbs:=hg7.ints hG5 hwb
   refine v_drop (ν:=n8++[(d,.cells [.map (some m),.slice (some ⟨ob,0,none⟩) l.length cap].toArray 115 (0,0)),(ob,.cells cells.toArray 124 (0,0))]) (List.Sublist.append_left (List.Sublist.cons _ (List.Sublist.cons _ (List.Sublist.refl _))) _) ?_
   refine v_again rfl ⟨GH.le_trans hle hle5,k+1,_,n8,by omega,rfl,?_,rfl⟩ (by simp [headI];omega)
   rw [htk]
   exact GrL.snoc (R:=OpR G5) (x:=⟨kind,no,data⟩) hc1 (fun i y cs hy hc=>⟨(hc2 i y cs hy hc).1,(hc2 i y cs hy hc).2.le hle5⟩) hg8 rfl ⟨A7,c7,rfl,hbs⟩
  ·obtain rfl:k=l.length:=by omega
   rw [List.take_length] at hg'
   repeat' (first|apply v_seq|apply v_region|apply v_nil|apply v_exit;(case hp=>rfl)|apply v_pure;(case hop=>first|apply p_move<;>rfl|apply p_lt<;>rfl|apply p_assign<;>rfl|fail);(case hd=>rfl)|apply v_cond;(case hc=>rfl);all_goals (intro h;(try simp only [reduceCtorEq,zzz] at h);try (exfalso;omega))|fail)
   refine v_frz ν' (PickA.here _) ?_
   intro G5 hle5 hG5
   refine v_ret [(d,_),(ob,_)] (outsA1 rfl rfl) (List.Sublist.refl _) ⟨GH.le_trans hle hle5,?_,rfl⟩
   exact (hg'.le fun _ _ h=>h.le hle5).sl hG5
theorem doneL_len0 {x:Dop}:∀ {R:List Fl},(doneL x R false).length≤R.length
 | []=>by simp [doneL]
 | f::R=>by
  have hk:(kp x f).length≤1:=by
   unfold kp
   split
   ·simp
   ·split
    ·simp
    ·split<;>simp
  have i1:=doneL_len0 (x:=x) (R:=R)
  unfold doneL
  split
  ·rename_i h;cases h.1
  ·simp only [List.length_cons,List.length_append];omega
theorem doneL_len {x:Dop}:∀ {R:List Fl}{ins:Bool},(doneL x R ins).length≤R.length+1
 | [],ins=>by
  unfold doneL
  split<;>simp
 | f::R,ins=>by
  have hk:(kp x f).length≤1:=by
   unfold kp
   split
   ·simp
   ·split
    ·simp
    ·split<;>simp
  have i1:=doneL_len (x:=x) (R:=R) (ins:=false)
  have i2:=doneL_len (x:=x) (R:=R) (ins:=ins)
  have i3:(doneL x R false).length≤R.length:=doneL_len0
  unfold doneL
  split
  ·simp only [List.length_cons,List.length_append];omega
  ·simp only [List.length_cons,List.length_append];omega
theorem endN_file {f:Int}{n:Nat}{xs:List Rc}{i:Nat}:endN encF f n xs i=(fileB encF f n (xs.take i)).length:=by
 unfold endN fileB
 rw [List.length_append]
theorem rs_wf {G:GH}{v:Value}{l:List Rc}(h:Rs G v l):∀ x∈l,x.cmd.ok∧x.small∧wfL x.image:=by
 obtain ⟨A,c,ivf,rfl,hlc,hcm,hsome,hcp,him,hok⟩:=rsOpen h
 intro x hx
 obtain ⟨i,hi,rfl⟩:=List.getElem_of_mem hx
 obtain ⟨-,-,-,-,-,-,-,hw⟩:=(him i hi).openInt
 exact ⟨(hok _ (List.getElem_mem hi)).1,(hok _ (List.getElem_mem hi)).2,hw⟩
theorem behind_s {G:GH}{H:Hd}{L:List Value}{n:Nat}(hh:HdV G H L) (g:Good n H) (hn:n≤40) {more:List Rc}{mv:Value}(hm:Rs G mv more) (hlen:(recsOf H).length+more.length≤200) :
 Con Tryz.prog 23 #[.agg L.toArray,mv] G [] (fun r G' μ'=>μ'=[]∧∃ L',r=.agg L'.toArray∧HdV G' (hardOf (recsOf H++more)) L'):=by
 have qr:=records20_s hh g hn
 obtain ⟨iv,av,cv,rfl,hi,ha,hcv⟩:=id hh
 obtain ⟨A0,c0,rfl,hl0,hm0,-⟩:=hi.openInt
 obtain ⟨A1,c1,rfl,-⟩:=ha.open
 obtain ⟨A2,c2,rfl,-⟩:=hcv.open
 obtain ⟨Am,cm,rfl,hml,hmm,-⟩:=id hm.open
 generalize recsOf H=l at *
 (refine v_enter Tryz.func23 rfl Tryz.ntmps23 rfl ?_;intro B _)
 repeat' (first|apply v_seq|apply v_region|apply v_nil|apply v_read;(case hop=>(apply r_loadNo;(case hx=>rfl);(case h=>repeat first|exact mhd _|apply mtl);(case hd=>repeat first|with_reducible exact dt_nil|apply dt_here);(case hn=>rfl)));(case hd=>rfl)|apply v_alloc;(case hz|hd=>rfl);intro b|apply v_box;(case hx|hz|hd=>rfl);intro b|fail)
 revert b
 intro rb
 rename Nat=>hb
 refine v_call (μ1:=[]) rfl qr (List.Perm.refl _) rfl ?_
 rintro v1 G1 ν1 hle1 ⟨css,hcl,hcr,hgr⟩
 obtain ⟨Ag,cg,rfl,-,-⟩:=hgr.shape
 obtain ⟨cssM,hcl2,hcr2,hsM,hallM⟩:=rsFlat (Rs.le' hle1 hm)
 repeat' (first|apply v_seq|apply v_region|apply v_nil|apply v_pure;(case hop=>first|apply p_move<;>rfl|apply p_assign<;>rfl);(case hd=>rfl)|apply v_append (hg:=hgr) (m':=more.length) (us:=cssM.flatten) (hp:=PickA.perm (by repeat (exact PickA.here _))) (hsrc:=hsM _);(case hzs=>rfl);(case hsz=>omega);(case hs|hx=>rfl);(case hb=>omega);(case hb'=>simp only [maxLen];omega);(case hd=>rfl);(case h1=>exact hallM);intro v8 n8 hg8|fail)
 refine v_frzP n8 (List.Perm.refl _) ?_
 intro G7 hle7 hG7
 have hrs:=(GrowR.app hcl hcr hcl2 hcr2 hg8).rs hle7 hG7
 have qo:=rOf_s hrs (by rw [List.length_append];omega)
 rw [hard_eq fun x hx=>(rs_wf hrs x hx).1] at qo
 generalize hardOf (l++more)=K at *
 refine v_call (μ1:=[]) rfl qo (List.Perm.refl _) rfl ?_
 rintro _ G9 _ hle9 ⟨rfl,L',rfl,hL⟩
 obtain ⟨iv',av',cv',rfl,hi',ha',hc'⟩:=hL
 obtain ⟨B0,d0,rfl,-⟩:=id hi'.openInt
 obtain ⟨B1,d1,rfl,-⟩:=id ha'.open
 obtain ⟨B2,d2,rfl,-⟩:=id hc'.open
 repeat' (first|apply v_nil|apply v_store;(case hp|hx|hc|hsz|h1=>rfl);(case hb=>repeat exact mhd _);(case hfit=>exact nle rfl);(case hov=>((repeat (first|with_reducible exact ov_nil|apply ov_cons));done));(case hu=>repeat (exact Upd.here _ _))|fail)
 refine v_retM [] (outsM_cell (vs:=hdL K.pr K.pn K.base (.slice B0 K.image.length d0) (.slice B1 K.acc.length d1) (.slice B2 K.cho.length d2)) (e:=27) rfl rfl (by repeat (exact mhd _)) rfl) (by repeat (exact List.nil_sublist _)) ?_
 exact ⟨rfl,_,rfl,_,_,_,rfl,hi',ha',hc'⟩
theorem flatF_size {f:Int}:∀ {xs:List Rc},(∀ x∈xs,OkF f x)→(flatF (encF f) xs).length≤xs.length*7100
 | [],_=>by simp [flatF]
 | x::xs,h=>by
  have h1:=flatF_size (xs:=xs) fun y hy=>h y (List.mem_cons_of_mem _ hy)
  have h2:=h x List.mem_cons_self
  have h3:=(encF_size h2.err h2.img).2
  have h4:=frB_max (encF f x)
  have e:flatF (encF f) (x::xs)=frB (encF f x)++flatF (encF f) xs:=by simp [flatF]
  rw [e,List.length_append,List.length_cons]
  omega
theorem fileB_size {f:Int}{n:Nat}{xs:List Rc}(h:∀ x∈xs,OkF f x):(fileB encF f n xs).length≤100+xs.length*7100:=by
 have h1:=flatF_size h
 have h2:=(headB_size f n).2
 unfold fileB
 rw [List.length_append]
 omega
theorem endN_mono {f:Int}{n:Nat}{xs:List Rc}{i j:Nat}(h:i≤j):endN encF f n xs i≤endN encF f n xs j:=by
 have:=flatF_len_take (encF f) (xs.take j) i
 rw [List.take_take,Nat.min_eq_left h] at this
 unfold endN
 omega
def Nice (b:List Int):Prop:=b.length≤900000∧∀ f xs k,readF decF b=some (f,xs,k)→xs.length≤200
def SOK (c:Nat) (s:Fs):Prop:=(∀ k b,s k=some b→1≤k∧k≤c∧Nice b)∧∃ R,Rep R s∧R.length≤c
theorem SOK.more {c d:Nat}{s:Fs}(h:SOK c s) (hd:c≤d):SOK d s:=⟨fun k b hk=>by have:=h.1 k b hk;exact ⟨this.1,by omega,this.2.2⟩,let ⟨R,h1,h2⟩:=h.2;⟨R,h1,by omega⟩⟩
theorem SOK.len {c:Nat}{s:Fs}(h:SOK c s) {R:List Fl}(hR:Rep R s):R.length≤c:=by
 obtain ⟨R',h1,h2⟩:=h.2
 rw [rep_ext hR h1]
 exact h2
theorem SOK.bd {c:Nat}{s:Fs}(h:SOK c s):Bd s 900000:=fun k b hk=>(h.1 k b hk).2.2.1
def OpsOk (c:Nat) (l:List Dop):Prop := ∀ x∈l,(1≤x.no∧x.no≤c)∧x.data.length≤900000∧(1≤x.kind∧x.kind≤3)
theorem OpsOk.more {c d:Nat}{l:List Dop}(h:OpsOk c l) (hd:c≤d):OpsOk d l:=fun x hx=>by
 have:=h x hx
 exact ⟨⟨this.1.1,by omega⟩,this.2⟩
structure WB (c a:Nat) (g:Fs) (l:List Dop) (past:List (Int×Hd)) (p:Int×Hd):Prop where
 cs:∀ s,CS g l s→SOK c s∧∃ q∈past,PK s q
 all:PK (gall g l) p
 mem:p∈past
 past:∀ q∈past,St a q.1 q.2
 ops:OpsOk c l
 len:l.length≤50*c
structure WI (c a:Nat) (g:Fs) (l:List Dop) (past:List (Int×Hd)) (no f:Int) (n:Nat) (xs:List Rc):Prop where
 cs:∀ s,CS g l s→SOK (c+1) s∧∃ q∈past,PK s q
 top:TopIs (gall g l) no (fileB encF f n xs)
 n:n≤xs.length
 size:xs.length≤2+2*a
 rx:∀ x∈xs,Rx f x
 st:St a f (hardOf xs)
 mem:(f,hardOf xs)∈past
 past:∀ q∈past,St a q.1 q.2
 ops:OpsOk (c+1) l
 len:l.length≤50*(c+1)
 no:1≤no∧no≤c+1
theorem file_read {f:Int}{n:Nat}{xs:List Rc}(hf:f=1∨f=2) (hn:n≤xs.length) (hx:∀ x∈xs,Rx f x) (hl:xs.length≤100):readF decF (fileB encF f n xs)=some (f,xs,(fileB encF f n xs).length) :=
 readF_file hf hn (fun x h=>(hx x h).okC) (by omega)
theorem file_size {f:Int}{n:Nat}{xs:List Rc}(hx:∀ x∈xs,Rx f x):(fileB encF f n xs).length≤100+xs.length*7100:=fileB_size fun x h=>(hx x h).okF
theorem file_nice {f:Int}{n:Nat}{xs:List Rc}(hf:f=1∨f=2) (hn:n≤xs.length) (hx:∀ x∈xs,Rx f x) (hl:xs.length≤100) (t:Nat):Nice ((fileB encF f n xs).take t):=by
 have hs:=file_size (n:=n) hx
 refine ⟨by rw [List.length_take];omega,fun f' xs' k h=>?_⟩
 have ht:(fileB encF f n xs).take t=(fileB encF f n xs).take (min t (fileB encF f n xs).length):=by
  rw [List.take_eq_take_iff]
  omega
 rw [ht] at h
 obtain ⟨c1,c2⟩:=readF_cut encF decF hf hn (fun x h=>(hx x h).okC) (by omega) (m:=min t (fileB encF f n xs).length) (by omega)
 by_cases hc:min t (fileB encF f n xs).length<endN encF f n xs n
 ·rw [c1 hc] at h;cases h
 ·obtain ⟨K,-,h2,-,-,h5⟩:=c2 hc
  rw [h5] at h
  cases h
  rw [List.length_take]
  omega
theorem head_cut {f:Int}{xs:List Rc}(hf:f=1∨f=2) (hx:∀ x∈xs,Rx f x) (hl:xs.length≤100) (t:Nat):readF decF ((fileB encF f xs.length xs).take t)=none∨(fileB encF f xs.length xs).take t=fileB encF f xs.length xs:=by
 by_cases ht:t<(fileB encF f xs.length xs).length
 ·obtain ⟨c1,-⟩:=readF_cut encF decF hf (Nat.le_refl xs.length) (fun x h=>(hx x h).okC) (by omega) (m:=t) (by omega)
  refine .inl (c1 ?_)
  rw [endN_file,List.take_length]
  exact ht
 ·exact .inr (List.take_of_length_le (by omega))
theorem file_app {f:Int}{n:Nat}{xs:List Rc}{x:Rc}:fileB encF f n (xs++[x])=fileB encF f n xs++frB (encF f x):=by
 unfold fileB
 rw [flatF_app,flatF_cons,flatF_nil,List.append_nil,List.append_assoc]
theorem add_cut {f:Int}{n:Nat}{xs:List Rc}{x:Rc}(hf:f=1∨f=2) (hn:n≤xs.length) (hx:∀ y∈xs++[x],Rx f y) (hl:xs.length≤100) (t:Nat):∃ k,readF decF (fileB encF f n xs++(frB (encF f x)).take t)=some (f,xs,k)∨readF decF (fileB encF f n xs++(frB (encF f x)).take t)=some (f,xs++[x],k):=by
 have e:=file_app (f:=f) (n:=n) (xs:=xs) (x:=x)
 have hxl:(xs++[x]).length=xs.length+1:=by simp
 have ht:fileB encF f n xs++(frB (encF f x)).take t=(fileB encF f n (xs++[x])).take (min ((fileB encF f n xs).length+t) (fileB encF f n (xs++[x])).length):=by
  rw [e,List.take_append,List.take_of_length_le (l:=fileB encF f n xs) (by rw [List.length_append];omega)]
  congr 1
  rw [List.take_eq_take_iff,List.length_append]
  omega
 rw [ht]
 have hlen:(fileB encF f n xs).length≤(fileB encF f n (xs++[x])).length:=by rw [e,List.length_append];omega
 obtain ⟨-,c2⟩:=readF_cut encF decF hf (n:=n) (xs:=xs++[x]) (by omega) (fun y h=>(hx y h).okC) (by omega) (m:=min ((fileB encF f n xs).length+t) (fileB encF f n (xs++[x])).length) (by omega)
 have h1:endN encF f n (xs++[x]) xs.length=(fileB encF f n xs).length:=by rw [endN_file,List.take_left]
 have h0:=endN_mono (f:=f) (n:=n) (xs:=xs++[x]) hn
 obtain ⟨K,k1,k2,k3,k4,k5⟩:=c2 (by omega)
 have hK:=k4 xs.length (by omega) (by omega)
 refine ⟨endN encF f n (xs++[x]) K,?_⟩
 rw [k5]
 by_cases hk:K=xs.length
 ·left
  rw [hk,List.take_left]
 ·right
  rw [List.take_of_length_le (by omega)]
theorem WI.base {c a:Nat}{g:Fs}{l:List Dop}{past:List (Int×Hd)}{no f:Int}{n:Nat}{xs:List Rc}(h:WI c a g l past no f n xs) (ha:a≤45):WB (c+1) a g l past (f,hardOf xs) :=
 ⟨h.cs,pk_top h.top (file_read h.st.form h.n h.rx (by have:=h.size;omega)),h.mem,h.past,h.ops,h.len⟩
theorem wb_zero:WB 0 0 (fun _=>none) [] [(1,Hd.zero)] (1,Hd.zero):=by
 refine ⟨fun s hs=>?_,pk_none,by simp,fun q hq=>?_,fun x hx=>by simp at hx,by simp⟩
 ·rw [cs_nil hs]
  exact ⟨⟨fun k b hk=>by simp at hk,[],rep_zero,by simp⟩,(1,Hd.zero),by simp,pk_none⟩
 ·rw [List.mem_singleton] at hq
  subst hq
  exact St.zero (.inl rfl)
theorem WI.sync {c a:Nat}{g:Fs}{l:List Dop}{past:List (Int×Hd)}{no f:Int}{n:Nat}{xs:List Rc}(h:WI c a g l past no f n xs) (ha:a≤45):WI c a (gall g l) [] [(f,hardOf xs)] no f n xs:=by
 have hs:=h.cs _ (cs_all g l)
 refine ⟨fun s h'=>?_,h.top,h.n,h.size,h.rx,h.st,by simp,fun q hq=>by rw [List.mem_singleton] at hq;subst hq;exact h.st,fun x hx=>by simp at hx,by simp,h.no⟩
 rw [cs_nil h']
 exact ⟨hs.1,_,by simp,pk_top h.top (file_read h.st.form h.n h.rx (by have:=h.size;omega))⟩
theorem top_add {s:Fs}{no:Int}{b e:List Int}(t:TopIs s no b):TopIs (gdo s ⟨2,no,e⟩) no (b++e):=by
 constructor
 ·unfold gdo
  simp [t.1]
 ·intro k hk
  unfold gdo at hk
  by_cases h:k=no
  ·omega
  ·simp [h] at hk
   exact t.2 k hk
theorem top_drop {s:Fs}{no k:Int}{b:List Int}(t:TopIs s no b) (hk:k≠no):TopIs (gdo s ⟨3,k,[]⟩) no b:=by
 have hk':no≠k:=fun e=>hk e.symm
 constructor
 ·unfold gdo
  simp [hk',t.1]
 ·intro j hj
  unfold gdo at hj
  by_cases h:j=k
  ·simp [h] at hj
  ·simp [h] at hj
   exact t.2 j hj
theorem insB_no {x:Dop}{R:List Fl}(h:x.kind≠1):insB x R=false:=by
 unfold insB
 simp [h]
theorem sok_add {d:Nat}{s:Fs}{no:Int}{b e:List Int}(h:SOK d s) (t:TopIs s no b) (hn:Nice (b++e)):SOK d (gdo s ⟨2,no,e⟩):=by
 obtain ⟨h1,R,hR,hl⟩:=h
 have hno:=h1 no b t.1
 refine ⟨fun k b' hk=>?_,doneR R ⟨2,no,e⟩,rep_done (by simp) hR,?_⟩
 ·unfold gdo at hk
  by_cases hkn:k=no
  ·subst hkn
   simp [t.1] at hk
   subst hk
   exact ⟨hno.1,hno.2.1,hn⟩
  ·simp [hkn] at hk
   exact h1 k b' hk
 ·unfold doneR
  rw [insB_no (by simp)]
  exact Nat.le_trans doneL_len0 hl
theorem sok_drop {d:Nat}{s:Fs}{no:Int}(h:SOK d s):SOK d (gdo s ⟨3,no,[]⟩):=by
 obtain ⟨h1,R,hR,hl⟩:=h
 refine ⟨fun k b' hk=>?_,doneR R ⟨3,no,[]⟩,rep_done (by simp) hR,?_⟩
 ·unfold gdo at hk
  by_cases hkn:k=no
  ·simp [hkn] at hk
  ·simp [hkn] at hk
   exact h1 k b' hk
 ·unfold doneR
  rw [insB_no (by simp)]
  exact Nat.le_trans doneL_len0 hl
theorem cs_drops {d:Nat}{no:Int}{b:List Int}{s':Fs}:∀ {R:List Fl}{s:Fs},TopIs s no b→SOK d s→(∀ r∈R,r.1≠no)→CS s (R.map fun r=>⟨3,r.1,[]⟩) s'→TopIs s' no b∧SOK d s'
 | [],s,t,h,_,hc=>by
  rw [cs_nil hc]
  exact ⟨t,h⟩
 | r::R,s,t,h,hn,hc=>by
  rw [List.map_cons] at hc
  rcases cs_cons hc with ⟨-,rfl⟩|⟨h2,-⟩|hc
  ·exact ⟨t,h⟩
  ·simp at h2
  ·exact cs_drops (top_drop t (hn r List.mem_cons_self)) (sok_drop h) (fun q hq=>hn q (List.mem_cons_of_mem _ hq)) hc
theorem add_take {f:Int}{n:Nat}{xs:List Rc}{x:Rc}(t:Nat):fileB encF f n xs++(frB (encF f x)).take t=(fileB encF f n (xs++[x])).take ((fileB encF f n xs).length+t):=by
 rw [file_app,List.take_append,List.take_of_length_le (l:=fileB encF f n xs) (by omega)]
 congr 2
 omega
theorem WI.add {c a:Nat}{g:Fs}{l:List Dop}{past:List (Int×Hd)}{no f:Int}{n:Nat}{xs:List Rc}(h:WI c a g l past no f n xs) {x:Rc}(r:Rx f x) (ha:a≤45) :
 WI (c+1) (a+1) g (l++[⟨2,no,frB (encF f x)⟩]) (past++[(f,stepH (hardOf xs) x)]) no f n (xs++[x]):=by
 have hsz:=h.size
 have hrx:∀ y∈xs++[x],Rx f y:=fun y hy=>by
  rcases List.mem_append.1 hy with hy|hy
  ·exact h.rx y hy
  ·rw [List.mem_singleton] at hy;subst hy;exact r
 have hl1:(xs++[x]).length=xs.length+1:=by simp
 have hb:=(h.cs _ (cs_all g l)).1
 have hst:=h.st.step r
 have key:∀ t,SOK (c+1) (gdo (gall g l) ⟨2,no,(frB (encF f x)).take t⟩)∧∃ q∈past++[(f,stepH (hardOf xs) x)],PK (gdo (gall g l) ⟨2,no,(frB (encF f x)).take t⟩) q:=fun t=>by
  have ht:=top_add (e:=(frB (encF f x)).take t) h.top
  refine ⟨sok_add hb h.top ?_,?_⟩
  ·rw [add_take]
   exact file_nice h.st.form (by have:=h.n;omega) hrx (by omega) _
  ·obtain ⟨k,hk|hk⟩:=add_cut h.st.form h.n hrx (by omega) t
   ·exact ⟨_,List.mem_append_left _ h.mem,pk_top ht hk⟩
   ·refine ⟨(f,stepH (hardOf xs) x),List.mem_append_right _ (by simp),?_⟩
    have:=pk_top ht hk
    rw [hardOf_snoc] at this
    exact this
 refine ⟨fun s hs=>?_,?_,by have:=h.n;omega,by omega,hrx,?_,?_,fun q hq=>?_,fun y hy=>?_,?_,by have:=h.no;omega⟩
 ·rcases cs_app hs with hs|hs
  ·obtain ⟨a,q,hq,hp⟩:=h.cs s hs
   exact ⟨a.more (by omega),q,List.mem_append_left _ hq,hp⟩
  rcases cs_cons hs with ⟨h2,-⟩|⟨-,t,rfl⟩|hs
  ·exact absurd rfl h2
  ·exact ⟨(key t).1.more (by omega),(key t).2⟩
  ·rw [cs_nil hs]
   have:=key (frB (encF f x)).length
   rw [List.take_length] at this
   exact ⟨this.1.more (by omega),this.2⟩
 ·rw [gall_app,file_app]
  exact top_add h.top
 ·rw [hardOf_snoc];exact hst
 ·rw [hardOf_snoc];exact List.mem_append_right _ (by simp)
 ·rcases List.mem_append.1 hq with hq|hq
  ·exact (h.past q hq).more (by omega)
  ·rw [List.mem_singleton] at hq;subst hq;exact hst
 ·rcases List.mem_append.1 hy with hy|hy
  ·exact h.ops.more (by omega) y hy
  ·rw [List.mem_singleton] at hy
   subst hy
   have h1:=(encF_size r.err r.img).2
   have h2:=frB_max (encF f x)
   have:=h.no
   exact ⟨⟨this.1,by simp only;omega⟩,by simp only;omega,by simp⟩
 ·have:=h.len
  simp
  omega
def beginOps (no:Int) (B:List Int) (R:List Fl):List Dop:=⟨1,no,[]⟩::⟨2,no,B⟩::R.map fun r=>⟨3,r.1,[]⟩
theorem WB.begin {c a:Nat}{g:Fs}{l:List Dop}{past:List (Int×Hd)}{p:Int×Hd}(h:WB c a g l past p) {f:Int}{H:Hd}(s:St a f H) {R:List Fl}(hR:Rep R (gall g l)) {gr:Int}(hg0:0≤gr) (hgc:gr≤c) (hk:∀ k,gall g l k≠none→k≤gr) (hc:c≤45) (ha:a≤45) :
 WI c a g (l++beginOps (gr+1) (fileB encF f (recsOf H).length (recsOf H)) R) (past++[(f,H)]) (gr+1) f (recsOf H).length (recsOf H):=by
 have hsz:=s.len
 have hrx:=s.recs
 have hb:=(h.cs _ (cs_all g l)).1
 have hbs:=file_size (n:=(recsOf H).length) hrx
 have hRl:=hb.len hR
 have hno:∀ r∈R,r.1≤gr:=fun r hr=>hk r.1 (by rw [← hR.2,rget_mem hR.1 hr];simp)
 have hno1:∀ r∈R,1≤r.1:=fun r hr=>by
  have e:gall g l r.1=some r.2:=by rw [← hR.2,rget_mem hR.1 hr]
  exact (hb.1 _ _ e).1
 have hz:gall g l (gr+1)=none:=Decidable.byContradiction fun hn=>by have:=hk _ hn;omega
 have hcut:=head_cut s.form hrx (by omega)
 have hnice:=fun t=>file_nice s.form (Nat.le_refl _) hrx (by omega) t
 have hread:=file_read s.form (Nat.le_refl _) hrx (by omega)
 generalize hbe:gall g l=b at *
 have t1:TopIs (gdo b ⟨1,gr+1,[]⟩) (gr+1) []:=by
  constructor
  ·unfold gdo
   simp [hz]
  ·intro k hk'
   unfold gdo at hk'
   by_cases e:k=gr+1
   ·omega
   ·simp [e] at hk'
    have:=hk k hk'
    omega
 have s1:SOK (c+1) (gdo b ⟨1,gr+1,[]⟩):=by
  refine ⟨fun k b' hk'=>?_,doneR R ⟨1,gr+1,[]⟩,rep_done (by simp) hR,?_⟩
  ·unfold gdo at hk'
   by_cases e:k=gr+1
   ·simp [e,hz] at hk'
    subst hk'
    refine ⟨by omega,by omega,by simp,fun f' xs' k' h'=>?_⟩
    rw [readF_none decF nextF_nil] at h'
    cases h'
   ·simp [e] at hk'
    have:=hb.1 k b' hk'
    exact ⟨this.1,by omega,this.2.2⟩
  ·unfold doneR
   have:=doneL_len (x:=⟨1,gr+1,[]⟩) (R:=R) (ins:=insB ⟨1,gr+1,[]⟩ R)
   omega
 have c0:∀ e,b=cutS (gdo (gdo b ⟨1,gr+1,[]⟩) ⟨2,gr+1,e⟩) (gr+1):=fun e=>by
  funext k
  unfold cutS gdo
  by_cases e:k=gr+1
  ·rw [e,hz];simp
  ·simp [e]
 have c1:b=cutS (gdo b ⟨1,gr+1,[]⟩) (gr+1):=by
  funext k
  unfold cutS gdo
  by_cases e:k=gr+1
  ·rw [e,hz];simp
  ·simp [e]
 have t2:=fun e=>top_add (e:=e) t1
 simp only [List.nil_append] at t2
 have s2:=fun e (he:Nice e)=>sok_add (e:=e) s1 t1 (by simpa using he)
 have hnB:Nice (fileB encF f (recsOf H).length (recsOf H)):=by have:=hnice (fileB encF f (recsOf H).length (recsOf H)).length;rwa [List.take_length] at this
 have tail:∀ s',CS (gdo (gdo b ⟨1,gr+1,[]⟩) ⟨2,gr+1,fileB encF f (recsOf H).length (recsOf H)⟩) (R.map fun r=>⟨3,r.1,[]⟩) s'→TopIs s' (gr+1) (fileB encF f (recsOf H).length (recsOf H))∧SOK (c+1) s':=fun s' hs'=>cs_drops (t2 _) (s2 _ hnB) (fun r hr=>by have:=hno r hr;omega) hs'
 have hH:(f,H)=(f,hardOf (recsOf H)):=by rw [s.back]
 refine ⟨fun s' hs=>?_,?_,Nat.le_refl _,by omega,hrx,?_,?_,fun q hq=>?_,fun y hy=>?_,?_,by omega⟩
 ·rcases cs_app hs with hs|hs
  ·obtain ⟨a,q,hq,hp⟩:=h.cs s' hs
   exact ⟨a.more (by omega),q,List.mem_append_left _ hq,hp⟩
  rw [hbe] at hs
  unfold beginOps at hs
  have hall:=h.all
  rw [hbe] at hall
  rcases cs_cons hs with ⟨-,rfl⟩|⟨h2,-⟩|hs
  ·exact ⟨hb.more (by omega),p,List.mem_append_left _ h.mem,hall⟩
  ·simp at h2
  rcases cs_cons hs with ⟨h2,-⟩|⟨-,t,rfl⟩|hs
  ·exact absurd rfl h2
  ·refine ⟨s2 _ (hnice t),?_⟩
   rcases hcut t with h3|h3
   ·exact ⟨p,List.mem_append_left _ h.mem,pk_same (t2 _) h3 hall (c0 _)⟩
   ·simp only [h3]
    refine ⟨(f,H),List.mem_append_right _ (by simp),?_⟩
    rw [hH]
    exact pk_top (t2 _) hread
  ·obtain ⟨a,b'⟩:=tail s' hs
   refine ⟨b',(f,H),List.mem_append_right _ (by simp),?_⟩
   rw [hH]
   exact pk_top a hread
 ·rw [gall_app,hbe]
  exact (tail _ (cs_all _ _)).1
 ·rw [s.back];exact s
 ·rw [s.back];exact List.mem_append_right _ (by simp)
 ·rcases List.mem_append.1 hq with hq|hq
  ·exact h.past q hq
  ·rw [List.mem_singleton] at hq;subst hq;exact s
 ·rcases List.mem_append.1 hy with hy|hy
  ·exact h.ops.more (by omega) y hy
  unfold beginOps at hy
  rcases List.mem_cons.1 hy with rfl|hy
  ·exact ⟨⟨by simp only;omega,by simp only;omega⟩,by simp,by simp⟩
  rcases List.mem_cons.1 hy with rfl|hy
  ·exact ⟨⟨by simp only;omega,by simp only;omega⟩,by simp only;omega,by simp⟩
  obtain ⟨r,hr,rfl⟩:=List.mem_map.1 hy
  have:=hno r hr
  have:=hno1 r hr
  exact ⟨⟨by simp only;omega,by simp only;omega⟩,by simp,by simp⟩
 ·have:=h.len
  unfold beginOps
  simp
  omega
theorem WI.crash {c a:Nat}{g:Fs}{l:List Dop}{past:List (Int×Hd)}{no f:Int}{n:Nat}{xs:List Rc}(h:WI c a g l past no f n xs) (N M:Int):∃ p∈past,PK (gcrash g l N M) p∧WB (c+1) a (gcrash g l N M) [] [p] p:=by
 obtain ⟨a,p,hp,hk⟩:=h.cs _ (cs_crash g l N M)
 refine ⟨p,hp,hk,fun s hs=>?_,hk,by simp,fun q hq=>?_,fun x hx=>by simp at hx,by simp⟩
 ·rw [cs_nil hs]
  exact ⟨a,p,by simp,hk⟩
 ·rw [List.mem_singleton] at hq;subst hq
  exact h.past _ hp
end Go.Proofs.YtpemabgfmnhhnaaGreatDoor
/-
  VX: make of a slice; copy of nothing; clear of a row's end; results that lie in memory, of several shapes.
-/
namespace Go.Vx
open Go
section
attribute [local semireducible] MoveOp ReadOp PureOp
variable {P:Program}{fn:Func}{n:Nat}{B:Base}{Φ:Value→GH→OH→Prop}{k:List It}{rest:List Oper}{all:Array Oper}{σ:Env}{G:GH}{μ:OH}{d:Nat}{t ty:TypeId}{pos:String}{af:Array Edge}{bytes:Nat}{zero:Value}
end
section
variable {P:Program}{fn:Func}{n:Nat}{σ:Env}{G:GH}{μ:OH}
theorem outsM_tc {u0:Nat}{x0:Value}{a1 b1 sz1 bytes1:Nat}{zero1:Value}{vs1:List Value}{t1 e1:TypeId} [Lay P t1 true sz1 bytes1 zero1] (hr:fn.results = #[.tmp u0,.cell a1 t1]) (hu0:Env.get σ u0=some x0) (ha1:Env.get σ a1=some (.pointer (some ⟨b1,0,none⟩))) (hb1:Has μ b1 vs1 e1) (hl1:vs1.length=sz1):OutsM P fn n σ G μ (.tuple [x0,.agg vs1.toArray].toArray):=by
 intro w hw ds a' ha'
 have h0:=ha'.get _ _ hu0
 subst hl1
 have h1:=ha'.get _ _ ha1
 have g1:(loadCells ⟨b1,0,none⟩ vs1.length).run P w=.ok vs1.toArray w:=run_loadCells_list w _ vs1 (fun j v hv=>CellsAt.own hb1 j v hv w hw)
 simp only [Array.getD_eq_getD_getElem?] at h0 h1
 simp [results,hr,asAddr,loadVar,h0,h1,run_isAgg' (P:=P) (t:=t1) (agg:=true) (size:=vs1.length) (bytes:=bytes1) (zero:=zero1),run_sizeOf (P:=P) (t:=t1) (agg:=true) (size:=vs1.length) (bytes:=bytes1) (zero:=zero1),g1]
theorem outsM_tct {u0:Nat}{x0:Value}{a1 b1 sz1 bytes1:Nat}{zero1:Value}{vs1:List Value}{t1 e1:TypeId} [Lay P t1 true sz1 bytes1 zero1] {u2:Nat}{x2:Value}(hr:fn.results = #[.tmp u0,.cell a1 t1,.tmp u2]) (hu0:Env.get σ u0=some x0) (ha1:Env.get σ a1=some (.pointer (some ⟨b1,0,none⟩))) (hb1:Has μ b1 vs1 e1) (hl1:vs1.length=sz1) (hu2:Env.get σ u2=some x2):OutsM P fn n σ G μ (.tuple [x0,.agg vs1.toArray,x2].toArray):=by
 intro w hw ds a' ha'
 have h0:=ha'.get _ _ hu0
 subst hl1
 have h1:=ha'.get _ _ ha1
 have g1:(loadCells ⟨b1,0,none⟩ vs1.length).run P w=.ok vs1.toArray w:=run_loadCells_list w _ vs1 (fun j v hv=>CellsAt.own hb1 j v hv w hw)
 have h2:=ha'.get _ _ hu2
 simp only [Array.getD_eq_getD_getElem?] at h0 h1 h2
 simp [results,hr,asAddr,loadVar,h0,h1,run_isAgg' (P:=P) (t:=t1) (agg:=true) (size:=vs1.length) (bytes:=bytes1) (zero:=zero1),run_sizeOf (P:=P) (t:=t1) (agg:=true) (size:=vs1.length) (bytes:=bytes1) (zero:=zero1),g1,h2]
end
end Go.Vx
/-
  wal (layer 21): Peek, greatest.
-/
namespace Go.Proofs.YtpemabgfmnhhnaaGreatDoor
open Go.Vx Go.ChangeShapes Go.WideShapes Go.ChangeAt Go.RowKit
structure DkM (c:Nat) (G:GH) (g:Fs) (l:List Dop) (ov:Value) (ml:List (Int×Value)) (oM:Obj) (ν:OH):Prop where
 map:MapB keyI ml oM
 mf:MF G ml g
 gr:GrL 124 3 (OpR G) ov l ν
 ops:OpsOk c l
 len:l.length≤50*c
 sok:∀ q,q≤l.length→SOK c (gall g (l.take q))
@[irreducible] def dkB (d m:Nat) (ov:Value) (oM:Obj) (ν:OH):OH:=(d,dkO m ov)::(m,oM)::ν
theorem dkB_eq {d m:Nat}{ov:Value}{oM:Obj}{ν:OH}:dkB d m ov oM ν=(d,dkO m ov)::(m,oM)::ν:=by unfold dkB;rfl
theorem DkM.le {c:Nat}{G G':GH}{g:Fs}{l:List Dop}{ov:Value}{ml:List (Int×Value)}{oM:Obj}{ν:OH}(h:DkM c G g l ov ml oM ν) (hle:GH.le G G'):DkM c G' g l ov ml oM ν :=
 ⟨h.map,h.mf.up hle,h.gr.le fun _ _ hx=>hx.le hle,h.ops,h.len,h.sok⟩
theorem DkM.mlen {c:Nat}{G:GH}{g:Fs}{l:List Dop}{ov:Value}{ml:List (Int×Value)}{oM:Obj}{ν:OH}(h:DkM c G g l ov ml oM ν):ml.length≤c:=by
 have h1:=rep_files h.mf h.map.nodup (List.Perm.refl _)
 have h2:=(h.sok 0 (by omega)).len h1
 unfold filesOf at h2
 rw [List.length_map,(sortL_perm _).length_eq,List.length_map] at h2
 exact h2
theorem DkM.no {c:Nat}{G:GH}{g:Fs}{l:List Dop}{ov:Value}{ml:List (Int×Value)}{oM:Obj}{ν:OH}(h:DkM c G g l ov ml oM ν) (hc:c≤46):∀ x∈l,inNo x.no:=fun x hx=>by
 have:=(h.ops x hx).1
 unfold inNo
 omega
theorem wview_s {c:Nat}{G:GH}{g:Fs}{l:List Dop}{d m:Nat}{ov:Value}{ml:List (Int×Value)}{oM:Obj}{ν:OH}(h:DkM c G g l ov ml oM ν) (hc:c≤46) :
 Con Tryz.prog 77 #[.pointer (some ⟨d,0,none⟩)] G (dkB d m ov oM ν) (fun r G' μ'=>GH.le G G'∧∃ R,Rep R (gall g l)∧Fls G' r R∧R.length≤c∧(∀ r∈R,(1≤r.1∧r.1≤c)∧Nice r.2)∧μ'=dkB d m ov oM ν):=by
 have h1:=h.mlen
 have h2:=h.len
 have q:=view_s (d:=d) (m:=m) h.map h.mf (fun q hq k b hb=>by have:=(h.sok q hq).bd k b hb;omega) h.gr (by omega) (fun x hx=>by have:=(h.ops x hx).2.1;omega) (h.no hc) (by omega)
 unfold dkB
 refine q.mono ?_
 rintro r G' μ' ⟨hle,R,hR,hs,-,rfl⟩
 have hk:=h.sok l.length (Nat.le_refl _)
 rw [List.take_length] at hk
 refine ⟨hle,R,hR,hs,hk.len hR,fun r hr=>?_,rfl⟩
 have:=hk.1 r.1 r.2 (by rw [← hR.2,rget_mem hR.1 hr])
 exact ⟨⟨this.1,this.2.1⟩,this.2.2⟩
def PeekR (g:Fs) (l:List Dop) (D:OH) (G:GH) (r:Value) (G':GH) (μ':OH):Prop:=GH.le G G'∧∃ f H L,r=.tuple [.int .i64 f,.agg L.toArray].toArray∧HdV G' H L∧PK (gall g l) (f,H)∧μ'=D
theorem peek_take {R:List Fl}{k:Nat}(h:k<R.length):peekL (R.take (k+1))=pk1 (peekL (R.take k)) R[k].2:=by
 rw [List.take_succ_eq_append_getElem h]
 exact peek_snoc _ _ _
theorem peek_s {c d m:Nat}{G:GH}(hT:TabsG G) (hC:CrcG G) {g:Fs}{l:List Dop}{ov:Value}{ml:List (Int×Value)}{oM:Obj}{ν:OH}(h:DkM c G g l ov ml oM ν) (hc:c≤46) :
 Con Tryz.prog 37 #[.pointer (some ⟨d,0,none⟩)] G (dkB d m ov oM ν) (PeekR g l (dkB d m ov oM ν) G):=by
 have qv:=wview_s (d:=d) (m:=m) h hc
 (refine v_enter Tryz.func37 rfl Tryz.ntmps37 rfl ?_;intro B _)
 repeat' (first|apply v_seq|apply v_region|apply v_nil|apply v_pure;(case hop=>first|apply p_move<;>rfl|apply p_assign<;>rfl|apply p_build;(case hz=>rfl);(case hv=>(simp only [List.map_cons,List.map_nil];repeat (with_reducible exact evs_nil)));(case hb=>(apply bldL;repeat (exact bld_nil)))|fail);(case hd=>rfl)|apply v_alloc;(case hz|hd=>rfl);intro b|apply v_store;(case hp|hx|hc|hsz|h1=>rfl);(case hb=>repeat exact mhd _);(case hfit=>exact nle rfl);(case hov=>((repeat (first|with_reducible exact ov_nil|apply ov_cons));done));(case hu=>repeat (exact Upd.here _ _))|fail)
 rename_i rb
 revert b
 intro hb
 refine v_call (μ1:=(dkB d m ov oM ν)) (μ2:=[(hb,.cells (hdL 0 0 0 (.slice none 0 0) (.slice none 0 0) (.slice none 0 0)).toArray 27 (0,0)),(rb,.cells (hdL 0 0 0 (.slice none 0 0) (.slice none 0 0) (.slice none 0 0)).toArray 27 (0,0))]) rfl qv (List.perm_append_comm (l₁:=[_,_])) rfl ?_
 rintro v G1 _ hle1 ⟨-,R,hR,hs,hRl,hRn,rfl⟩
 obtain ⟨A,cA,dA,dc,rfl,hlc,hcm,hsome,hcl,hbs⟩:=flOpen hs
 simp only [maxLen] at hcm
 refine v_perm (ν:=(hb,.cells (hdL 0 0 0 (.slice none 0 0) (.slice none 0 0) (.slice none 0 0)).toArray 27 (0,0))::(rb,.cells (hdL 0 0 0 (.slice none 0 0) (.slice none 0 0) (.slice none 0 0)).toArray 27 (0,0))::dkB d m ov oM ν) (by apply perm_of_count;intro p;simp only [List.append_eq,List.countP_append,List.countP_cons,List.countP_nil,Nat.zero_add,Nat.add_zero];try ac_rfl) ?_
 repeat' (first|apply v_nil|apply v_block|apply v_pure;(case hop=>first|apply p_move<;>rfl|apply p_lenSlice<;>rfl|fail);(case hd=>rfl)|fail)
 refine v_loop [14,13,12,5,4,3] (fun us G' μ'=>GH.le G1 G'∧∃ (k:Nat) (f:Int) (H:Hd) (L:List Value),k≤R.length∧us=[Value.int .i64 (k:Nat),.int .i64 (R.length:Nat),.slice A R.length cA,.pointer (some ⟨hb,0,none⟩),.int .i64 f,.pointer (some ⟨rb,0,none⟩)]∧HdV G' H L∧peekL (R.take k)=(f,H)∧μ'=(hb,.cells L.toArray 27 (0,0))::(rb,.cells (hdL 0 0 0 (.slice none 0 0) (.slice none 0 0) (.slice none 0 0)).toArray 27 (0,0))::dkB d m ov oM ν) (fun us=>R.length-(headI us).toNat) rfl ⟨GH.le_refl _,0,1,Hd.zero,_,by omega,rfl,hd_zero _,rfl,rfl⟩ ?_
 rintro us G' _ ⟨hle,k,f,H,L,hk,rfl,hL,hp,rfl⟩
 have hL0:=hL
 obtain ⟨iv,av,cv,rfl,hi,ha,hcv⟩:=hL
 obtain ⟨B0,d0,rfl,-⟩:=id hi.openInt
 obtain ⟨B1,d1,rfl,-⟩:=id ha.open
 obtain ⟨B2,d2,rfl,-⟩:=id hcv.open
 by_cases hlt:k<R.length
 ·have e1:((k:Nat):Int).toNat=k:=by omega
  have hA:=hsome (by omega)
  have hck:=(hcl k hlt).le hle
  have hbk:=(hbs k hlt).mono hle
  have hn:=(hRn _ (List.getElem_mem hlt)).2
  have hpt:=peek_take hlt
  rw [hp] at hpt
  have qr:=sread_s (hT.le (GH.le_trans hle1 hle)) (hC.le (GH.le_trans hle1 hle)) hbk (by have:=hn.1;omega) hn.2
  generalize R[k]=x at *
  repeat' (first|apply v_seq|apply v_region|apply v_nil|apply v_skip|apply v_block|apply v_pure;(case hop=>first|apply p_lt<;>rfl|apply p_fieldAddrB<;>rfl|apply p_indexAddrS;(case hx|hi=>rfl);(case h0|h=>omega);(case hA=>assumption)|fail);(case hd=>rfl)|apply v_cond;(case hc=>rfl);all_goals (intro h;(try simp only [reduceCtorEq,zzz] at h);try (exfalso;omega))|apply v_read;(case hop=>(apply r_loadN;rfl;exact CellsAt.frozen hck;rfl));(case hd=>rfl)|apply v_read;(case hop=>(apply r_load1;rfl;(apply Cell.own;(case h=>repeat exact mhd _);rfl)));(case hd=>rfl)|apply v_alloc;(case hz|hd=>rfl);intro b|apply v_store;(case hp|hx|hc|hsz|h1=>rfl);(case hb=>repeat exact mhd _);(case hfit=>exact nle rfl);(case hov=>((repeat (first|with_reducible exact ov_nil|apply ov_cons));done));(case hu=>repeat (exact Upd.here _ _))|fail)
  revert b
  intro fb
  refine v_call (μ1:=[]) rfl qr (List.Perm.refl _) rfl ?_
  rintro _ G2 _ hle2 ⟨rfl,⟨hR0,rfl⟩|⟨f',xs,k',L',hR',rfl,hL'⟩⟩
  ·unfold pk1 at hpt
   rw [hR0] at hpt
   simp only at hpt
   repeat' (first|apply v_seq|apply v_region|apply v_nil|apply v_skip|apply v_blk|apply v_pure;(case hop=>first|apply p_move<;>rfl|apply p_eq<;>rfl|apply p_assign<;>rfl|apply p_extract0<;>rfl|apply p_extract1<;>rfl|apply p_add;(case hx|hy=>rfl);(case h=>omega)|fail);(case hd=>rfl)|apply v_cond;(case hc=>rfl);all_goals (intro h;(try simp only [reduceCtorEq,zzz] at h);try (exfalso;omega))|apply v_alloc;(case hz|hd=>rfl);intro b|apply v_store;(case hp|hx|hc|hsz|h1=>rfl);(case hb=>repeat exact mhd _);(case hfit=>exact nle rfl);(case hov=>((repeat (first|with_reducible exact ov_nil|apply ov_cons));done));(case hu=>repeat (exact Upd.here _ _))|fail)
   refine v_drop (ν:=(hb,.cells (hdL H.pr H.pn H.base (.slice B0 H.image.length d0) (.slice B1 H.acc.length d1) (.slice B2 H.cho.length d2)).toArray 27 (0,0))::(rb,.cells (hdL 0 0 0 (.slice none 0 0) (.slice none 0 0) (.slice none 0 0)).toArray 27 (0,0))::dkB d m ov oM ν) (List.Sublist.cons _ (List.Sublist.cons _ (List.Sublist.refl _))) ?_
   refine v_again rfl ⟨GH.le_trans hle hle2,k+1,f,H,_,by omega,rfl,hL0.le hle2,hpt,rfl⟩ (by simp [headI];omega)
  ·unfold pk1 at hpt
   rw [hR'] at hpt
   simp only at hpt
   have hL1:=hL'
   obtain ⟨iv',av',cv',rfl,hi',ha',hcv'⟩:=hL'
   obtain ⟨B3,d3,rfl,-⟩:=id hi'.openInt
   obtain ⟨B4,d4,rfl,-⟩:=id ha'.open
   obtain ⟨B5,d5,rfl,-⟩:=id hcv'.open
   generalize hardOf xs=H' at *
   repeat' (first|apply v_seq|apply v_region|apply v_nil|apply v_pure;(case hop=>first|apply p_move<;>rfl|apply p_eqs<;>rfl|apply p_assign<;>rfl|apply p_extract0<;>rfl|apply p_extract1<;>rfl|fail);(case hd=>rfl)|apply v_condT;(case hc=>rfl)|apply v_alloc;(case hz|hd=>rfl);intro b|apply v_store;(case hp|hx|hc|hsz|h1=>rfl);(case hb=>repeat exact mhd _);(case hfit=>exact nle rfl);(case hov=>((repeat (first|with_reducible exact ov_nil|apply ov_cons));done));(case hu=>repeat (exact Upd.here _ _))|fail)
   refine d_start [(b,.cells #[.int .i64 f',.int .i64 H'.pr,.int .i64 H'.pn,.int .i64 H'.base,.slice B3 H'.image.length d3,.slice B4 H'.acc.length d4,.slice B5 H'.cho.length d5,.int .i64 (xs.length:Nat),.int .i64 (k':Nat)] 50 (0,0))] (by kernel_rfl) (by kernel_rfl) (by kernel_rfl) (by intro e he;(simp at he;simp [he];done)) ?_
   all_goals (apply dtk 0;(case hi=>rfl);(case hop=>(apply prd;apply p_fieldAddrB<;>rfl));(case hq=>kernel_rfl);apply dtk 1;(case hi=>rfl);(case hop=>first|apply r_loadNo;(case hx=>rfl);(case h=>repeat fail);(case hd=>repeat fail);(case hn=>rfl)|apply r_load1;rfl;(apply Cell.own;(case h=>repeat exact mhd _);rfl)|apply r_loadN;rfl;(apply CellsAt.own;(case h=>repeat fail));rfl);(case hq=>kernel_rfl))
   all_goals (apply dtk 2;(case hi=>rfl);(case hop=>(apply prd;apply p_fieldAddrB<;>rfl));(case hq=>kernel_rfl);apply dtk 3;(case hi=>rfl);(case hop=>first|apply r_loadNo;(case hx=>rfl);(case h=>repeat exact mhd _);(case hd=>repeat first|with_reducible exact dt_nil|apply dt_here);(case hn=>rfl)|apply r_load1;rfl;(apply Cell.own;(case h=>repeat fail);rfl)|apply r_loadN;rfl;(apply CellsAt.own;(case h=>repeat fail));rfl);(case hq=>kernel_rfl))
   all_goals (apply dta 4;(case hi|hx=>rfl);(case hq=>kernel_rfl))
   all_goals (apply d_store 5;(case hi=>rfl);(case hr=>kernel_rfl);(case hL=>infer_instance);(case hp|hx|hc|hsz|h1=>rfl);(case hb=>repeat first|exact mhd _|apply mtl);(case hfit=>exact nle rfl);(case hov=>((repeat (first|with_reducible exact ov_nil|apply ov_cons));done));(case hu=>repeat first|exact Upd.here _ _|apply Upd.there);(case hν'=>intro e he;simp at he;simp [he]))
   all_goals (apply d_done;(case hr=>kernel_rfl))
   all_goals repeat' (first|apply v_region|apply v_nil|apply v_blk|apply v_pure;(case hop=>first|apply p_move<;>rfl|apply p_add;(case hx|hy=>rfl);(case h=>omega)|fail);(case hd=>rfl)|fail)
   all_goals
    (refine v_drop (ν:=(hb,.cells (hdL H'.pr H'.pn H'.base (.slice B3 H'.image.length d3) (.slice B4 H'.acc.length d4) (.slice B5 H'.cho.length d5)).toArray 27 (0,0))::(rb,.cells (hdL 0 0 0 (.slice none 0 0) (.slice none 0 0) (.slice none 0 0)).toArray 27 (0,0))::dkB d m ov oM ν) (List.Sublist.cons _ (List.Sublist.cons _ (List.Sublist.refl _))) ?_
     exact v_again rfl ⟨GH.le_trans hle hle2,k+1,f',H',_,by omega,rfl,hL1,hpt,rfl⟩ (by simp [headI];omega))
 ·obtain rfl:k=R.length:=by omega
  rw [List.take_length] at hp
  repeat' (first|apply v_seq|apply v_region|apply v_nil|apply v_exit;(case hp=>rfl)|apply v_pure;(case hop=>(apply p_lt<;>rfl));(case hd=>rfl)|apply v_cond;(case hc=>rfl);all_goals (intro h;(try simp only [reduceCtorEq,zzz] at h);try (exfalso;omega))|fail)
  refine d_start [(hb,.cells (hdL H.pr H.pn H.base (.slice B0 H.image.length d0) (.slice B1 H.acc.length d1) (.slice B2 H.cho.length d2)).toArray 27 (0,0))] (by kernel_rfl) (by kernel_rfl) (by kernel_rfl) (by intro e he;(simp at he;simp [he];done)) ?_
  all_goals (apply dtm 0;(case hi|hx=>rfl);(case hq=>kernel_rfl);apply dtk 1;(case hi=>rfl);(case hop=>first|apply r_loadNo;(case hx=>rfl);(case h=>repeat exact mhd _);(case hd=>repeat first|with_reducible exact dt_nil|apply dt_here);(case hn=>rfl)|apply r_load1;rfl;(apply Cell.own;(case h=>repeat fail);rfl)|apply r_loadN;rfl;(apply CellsAt.own;(case h=>repeat fail));rfl);(case hq=>kernel_rfl))
  all_goals (apply dta 2;(case hi|hx=>rfl);(case hq=>kernel_rfl))
  all_goals (apply d_store 3;(case hi=>rfl);(case hr=>kernel_rfl);(case hL=>infer_instance);(case hp|hx|hc|hsz|h1=>rfl);(case hb=>repeat first|exact mhd _|apply mtl);(case hfit=>exact nle rfl);(case hov=>((repeat (first|with_reducible exact ov_nil|apply ov_cons));done));(case hu=>repeat first|exact Upd.here _ _|apply Upd.there);(case hν'=>intro e he;simp at he;simp [he]))
  all_goals (apply d_done;(case hr=>kernel_rfl))
  all_goals repeat' (fail)
  all_goals
   (refine v_retM (dkB d m ov oM ν) (outsM_tc (sz1:=6) (vs1:=hdL H.pr H.pn H.base (.slice B0 H.image.length d0) (.slice B1 H.acc.length d1) (.slice B2 H.cho.length d2)) (e1:=27) rfl rfl rfl (by repeat (first|exact mhd _|apply mtl)) rfl) (List.Sublist.cons _ (List.Sublist.cons _ (List.Sublist.refl _))) ?_
    exact ⟨GH.le_trans hle1 hle,f,H,_,rfl,hL0,fun R' hR'=>by rw [rep_ext hR' hR];exact hp,rfl⟩)
end Go.Proofs.YtpemabgfmnhhnaaGreatDoor
/-
  wal (layer 21): greatest; what is buffered.
-/
namespace Go.Proofs.YtpemabgfmnhhnaaGreatDoor
open Go.Vx Go.ChangeShapes Go.WideShapes Go.ChangeAt Go.RowKit
theorem wbuf_s {c d m:Nat}{G:GH}{g:Fs}{l:List Dop}{ov:Value}{ml:List (Int×Value)}{oM:Obj}{ν:OH}(h:DkM c G g l ov ml oM ν) (hc:c≤46) :
 Con Tryz.prog 33 #[.pointer (some ⟨d,0,none⟩)] G ((d,dkO m ov)::ν) (fun r G' μ'=>GH.le G G'∧Ops G' r l∧μ'=(d,dkO m ov)::ν):=by
 have h2:=h.len
 exact buffered_s h.gr (by omega) fun x hx=>by have:=(h.ops x hx).2.1;omega
set_option maxHeartbeats 1000000 in
theorem greatest_s {c d m:Nat}{G:GH}{g:Fs}{l:List Dop}{ov:Value}{ml:List (Int×Value)}{oM:Obj}{ν:OH}(h:DkM c G g l ov ml oM ν) (hc:c≤46) :
 Con Tryz.prog 111 #[.pointer (some ⟨d,0,none⟩)] G (dkB d m ov oM ν) (fun r G' μ'=>GH.le G G'∧∃ gr:Int,r=.int .i64 gr∧0≤gr∧gr≤c∧(∀ k,gall g l k≠none→k≤gr)∧μ'=dkB d m ov oM ν):=by
 have qb:=wbuf_s (d:=d) (m:=m) h hc
 have qv:=fun G' (hl:GH.le G G')=>wview_s (d:=d) (m:=m) (h.le hl) hc
 (refine v_enter Tryz.func111 rfl Tryz.ntmps111 rfl ?_;intro B _)
 repeat' (first|apply v_seq|apply v_region|apply v_nil|apply v_pure;(case hop=>first|apply p_move<;>rfl|apply p_assign<;>rfl|fail);(case hd=>rfl)|fail)
 unfold dkB
 refine v_call (μ1:=(d,dkO m ov)::ν) (μ2:=[(m,oM)]) rfl qb (by apply perm_of_count;intro p;simp only [List.append_eq,List.countP_append,List.countP_cons,List.countP_nil,Nat.zero_add,Nat.add_zero];try ac_rfl) rfl ?_
 rintro v G1 _ - ⟨hle1,hs,rfl⟩
 refine v_perm (ν:=dkB d m ov oM ν) (by rw [dkB_eq];exact (by apply perm_of_count;intro p;simp only [List.append_eq,List.countP_append,List.countP_cons,List.countP_nil,Nat.zero_add,Nat.add_zero];try ac_rfl)) ?_
 obtain ⟨A,cA,dA,dc,rfl,hlc,hcm,hsome,hcl,-⟩:=opOpen hs
 simp only [maxLen] at hcm
 have hln:=h.len
 repeat' (first|apply v_nil|apply v_block|apply v_pure;(case hop=>first|apply p_move<;>rfl|apply p_lenSlice<;>rfl|fail);(case hd=>rfl)|fail)
 refine v_loop [11,10,9,3,0] (fun us G' μ'=>GH.le G1 G'∧∃ (k:Nat) (n:Int),k≤l.length∧0≤n∧n≤c∧us=[Value.int .i64 (k:Nat),.int .i64 (l.length:Nat),.slice A l.length cA,.int .i64 n,.pointer (some ⟨d,0,none⟩)]∧μ'=(dkB d m ov oM ν)) (fun us=>l.length-(headI us).toNat) rfl ⟨GH.le_refl _,0,0,by omega,by omega,by omega,rfl,rfl⟩ ?_
 rintro us G2 _ ⟨hle2,k,n,hk,hn0,hnc,rfl,rfl⟩
 by_cases hlt:k<l.length
 ·have e1:((k:Nat):Int).toNat=k:=by omega
  have hA:=hsome (by omega)
  have hck:=(hcl k hlt).le hle2
  have hno:=(h.ops _ (List.getElem_mem hlt)).1
  generalize l[k]=x at *
  repeat' (first|apply v_seq|apply v_region|apply v_nil|apply v_skip|apply v_block|apply v_blk|apply v_pure;(case hop=>first|apply p_move<;>rfl|apply p_lt<;>rfl|apply p_assign<;>rfl|apply p_fieldAddrB<;>rfl|apply p_add;(case hx|hy=>rfl);(case h=>omega)|apply p_max<;>rfl|apply p_indexAddrS;(case hx|hi=>rfl);(case h0|h=>omega);(case hA=>assumption)|fail);(case hd=>rfl)|apply v_cond;(case hc=>rfl);all_goals (intro h;(try simp only [reduceCtorEq,zzz] at h);try (exfalso;omega))|apply v_read;(case hop=>(apply r_loadN;rfl;exact CellsAt.frozen hck;rfl));(case hd=>rfl)|apply v_read;(case hop=>(apply r_load1;rfl;(apply Cell.own;(case h=>repeat exact mhd _);rfl)));(case hd=>rfl)|apply v_alloc;(case hz|hd=>rfl);intro b|apply v_store;(case hp|hx|hc|hsz|h1=>rfl);(case hb=>repeat exact mhd _);(case hfit=>exact nle rfl);(case hov=>((repeat (first|with_reducible exact ov_nil|apply ov_cons));done));(case hu=>repeat (exact Upd.here _ _))|fail)
  refine v_drop (ν:=(dkB d m ov oM ν)) (List.sublist_cons_self _ _) ?_
  refine v_again rfl ⟨hle2,k+1,max n x.no,by omega,by omega,by omega,rfl,rfl⟩ (by simp [headI];omega)
 ·obtain rfl:k=l.length:=by omega
  clear hk hlt hcl hsome hs
  repeat' (first|apply v_seq|apply v_region|apply v_nil|apply v_exit;(case hp=>rfl)|apply v_pure;(case hop=>first|apply p_move<;>rfl|apply p_lt<;>rfl|fail);(case hd=>rfl)|apply v_cond;(case hc=>rfl);all_goals (intro h;(try simp only [reduceCtorEq,zzz] at h);try (exfalso;omega))|fail)
  refine v_call (μ1:=(dkB d m ov oM ν)) (μ2:=[]) rfl (qv _ (GH.le_trans hle1 hle2)) (by apply perm_of_count;intro p;simp only [List.append_eq,List.countP_append,List.countP_cons,List.countP_nil,Nat.zero_add,Nat.add_zero];try ac_rfl) rfl ?_
  rintro v G3 _ hle3 ⟨-,R,hR,hs,hRl,hRn,rfl⟩
  obtain ⟨A,cA,dA,dc,rfl,hlc,hcm,hsome,hcl,-⟩:=flOpen hs
  simp only [maxLen] at hcm
  repeat' (first|apply v_nil|apply v_block|apply v_pure;(case hop=>first|apply p_move<;>rfl|apply p_lenSlice<;>rfl|fail);(case hd=>rfl)|fail)
  refine v_loop [23,22,21,3] (fun us G' μ'=>GH.le G3 G'∧∃ (k:Nat) (n:Int),k≤R.length∧0≤n∧n≤c∧(∀ i (h:i<R.length),i<k→R[i].1≤n)∧us=[Value.int .i64 (k:Nat),.int .i64 (R.length:Nat),.slice A R.length cA,.int .i64 n]∧μ'=(dkB d m ov oM ν)) (fun us=>R.length-(headI us).toNat) rfl ⟨GH.le_refl _,0,n,by omega,hn0,hnc,fun i h hi=>by omega,rfl,by simp⟩ ?_
  rintro us G4 _ ⟨hle4,k,n,hk,hn0,hnc,hmx,rfl,rfl⟩
  by_cases hlt:k<R.length
  ·have e1:((k:Nat):Int).toNat=k:=by omega
   have hA:=hsome (by omega)
   have hck:=(hcl k hlt).le hle4
   have hno:=(hRn _ (List.getElem_mem hlt)).1
   generalize hx:R[k]=x at *
   repeat' (first|apply v_seq|apply v_region|apply v_nil|apply v_skip|apply v_block|apply v_blk|apply v_pure;(case hop=>first|apply p_move<;>rfl|apply p_lt<;>rfl|apply p_assign<;>rfl|apply p_fieldAddrB<;>rfl|apply p_add;(case hx|hy=>rfl);(case h=>omega)|apply p_max<;>rfl|apply p_indexAddrS;(case hx|hi=>rfl);(case h0|h=>omega);(case hA=>assumption)|fail);(case hd=>rfl)|apply v_cond;(case hc=>rfl);all_goals (intro h;(try simp only [reduceCtorEq,zzz] at h);try (exfalso;omega))|apply v_read;(case hop=>(apply r_loadN;rfl;exact CellsAt.frozen hck;rfl));(case hd=>rfl)|apply v_read;(case hop=>(apply r_load1;rfl;(apply Cell.own;(case h=>repeat exact mhd _);rfl)));(case hd=>rfl)|apply v_alloc;(case hz|hd=>rfl);intro b|apply v_store;(case hp|hx|hc|hsz|h1=>rfl);(case hb=>repeat exact mhd _);(case hfit=>exact nle rfl);(case hov=>((repeat (first|with_reducible exact ov_nil|apply ov_cons));done));(case hu=>repeat (exact Upd.here _ _))|fail)
   refine v_drop (ν:=(dkB d m ov oM ν)) (List.sublist_cons_self _ _) ?_
   refine v_again rfl ⟨hle4,k+1,max n x.1,by omega,by omega,by omega,fun i hi hik=>?_,rfl,rfl⟩ (by simp [headI];omega)
   by_cases e:i=k
   ·subst e;rw [hx];omega
   ·have:=hmx i hi (by omega);omega
  ·obtain rfl:k=R.length:=by omega
   repeat' (first|apply v_seq|apply v_region|apply v_nil|apply v_exit;(case hp=>rfl)|apply v_pure;(case hop=>first|apply p_move<;>rfl|apply p_lt<;>rfl|apply p_assign<;>rfl|fail);(case hd=>rfl)|apply v_cond;(case hc=>rfl);all_goals (intro h;(try simp only [reduceCtorEq,zzz] at h);try (exfalso;omega))|fail)
   refine v_ret (dkB d m ov oM ν) (outsA1 rfl rfl) (List.Sublist.refl _) ?_
   refine ⟨GH.le_trans hle1 (GH.le_trans hle2 (GH.le_trans hle3 hle4)),n,rfl,hn0,hnc,fun k' hk'=>?_,dkB_eq⟩
   rw [← hR.2] at hk'
   have hm:k'∈R.map (·.1):=Decidable.byContradiction fun hn=>hk' (rget_none.2 hn)
   obtain ⟨f,hf,rfl⟩:=List.mem_map.1 hm
   obtain ⟨i,hi,rfl⟩:=List.getElem_of_mem hf
   exact hmx i hi hi
theorem WB.dk {c a:Nat}{g:Fs}{l:List Dop}{past:List (Int×Hd)}{p:Int×Hd}(h:WB c a g l past p) {G:GH}{ov:Value}{ml:List (Int×Value)}{oM:Obj}{ν:OH}(h1:MapB keyI ml oM) (h2:MF G ml g) (h3:GrL 124 3 (OpR G) ov l ν):DkM c G g l ov ml oM ν :=
 ⟨h1,h2,h3,h.ops,h.len,fun q _=>(h.cs _ (cs_pre g l q)).1⟩
theorem WI.dk {c a:Nat}{g:Fs}{l:List Dop}{past:List (Int×Hd)}{no f:Int}{n:Nat}{xs:List Rc}(h:WI c a g l past no f n xs) {G:GH}{ov:Value}{ml:List (Int×Value)}{oM:Obj}{ν:OH}(h1:MapB keyI ml oM) (h2:MF G ml g) (h3:GrL 124 3 (OpR G) ov l ν):DkM (c+1) G g l ov ml oM ν :=
 ⟨h1,h2,h3,h.ops,h.len,fun q _=>(h.cs _ (cs_pre g l q)).1⟩
def lgO (d:Nat) (no f:Int) (L:List Value):Obj:=.cells (.pointer (some ⟨d,0,none⟩)::.int .i64 no::.int .i64 f::L).toArray 118 (0,0)
def WBegR (lb d m c a:Nat) (g:Fs) (past:List (Int×Hd)) (oM:Obj) (f:Int) (H:Hd) (G:GH) (r:Value) (G':GH) (μ':OH):Prop :=
 GH.le G G'∧r=.int .i64 0∧∃ no n xs l L ov ν,l≠[]∧TopIs (gall g l) no (fileB encF f (recsOf H).length (recsOf H))∧WI c a g l (past++[(f,H)]) no f n xs∧hardOf xs=H∧HdV G' H L∧GrL 124 3 (OpR G') ov l ν∧μ'=(lb,lgO d no f L)::dkB d m ov oM ν
set_option maxHeartbeats 2000000 in
theorem wbegin_s {lb d m c a:Nat}{G:GH}(hT:TabsG G) (hC:CrcG G) {g:Fs}{l:List Dop}{past:List (Int×Hd)}{p:Int×Hd}(h:WB c a g l past p) (hc:c≤45) (ha:a≤40) {ov:Value}{ml:List (Int×Value)}{oM:Obj}{ν:OH}(h1:MapB keyI ml oM) (h2:MF G ml g) (h3:GrL 124 3 (OpR G) ov l ν)
 {f:Int} {H:Hd} (s:St a f H) {L:List Value} (hL:HdV G H L) (no0 f0:Int) (H0:Hd) (iv0 av0 cv0:Value) :
 Con Tryz.prog 69 #[.pointer (some ⟨lb,0,none⟩),.int .i64 f,.agg L.toArray] G ((lb,.cells (.pointer (some ⟨d,0,none⟩)::.int .i64 no0::.int .i64 f0::hdL H0.pr H0.pn H0.base iv0 av0 cv0).toArray 118 (0,0))::dkB d m ov oM ν) (WBegR lb d m c a g past oM f H G):=by
 have hWB:=h
 have hd:=h.dk h1 h2 h3
 have qh:=head_s hT hC f hL (fun _=>s.good) ha (by have:=s.form;omega) (by have:=s.len;omega) (fun _ x hx=>(s.recs x hx).light)
 rw [s.head,if_pos rfl] at qh
 have qv:=fun G' (hl:GH.le G G')=>wview_s (d:=d) (m:=m) (hd.le hl) (by omega)
 have qg:=fun G' (hl:GH.le G G')=>greatest_s (d:=d) (m:=m) (hd.le hl) (by omega)
 have hsz:=file_size (n:=(recsOf H).length) s.recs
 have hrl:=s.len
 obtain ⟨iv,av,cv,rfl,hi,hac,hcv⟩:=id hL
 obtain ⟨A0,c0,rfl,-⟩:=id hi.openInt
 obtain ⟨A1,c1,rfl,-⟩:=id hac.open
 obtain ⟨A2,c2,rfl,-⟩:=id hcv.open
 have hf:=s.form
 (refine v_enter Tryz.func69 rfl Tryz.ntmps69 rfl ?_;intro B _)
 repeat' (first|apply v_box (zs:=hdL H.pr H.pn H.base (.slice A0 H.image.length c0) (.slice A1 H.acc.length c1) (.slice A2 H.cho.length c2));(case hx|hz|hd=>rfl);intro b|apply v_seq|apply v_region|apply v_nil|apply v_pure;(case hop=>first|apply p_move<;>rfl|apply p_assign<;>rfl|fail);(case hd=>rfl)|apply v_read;(case hop=>(apply r_loadNo;(case hx=>rfl);(case h=>repeat exact mhd _);(case hd=>repeat first|with_reducible exact dt_nil|apply dt_here);(case hn=>rfl)));(case hd=>rfl)|fail)
 revert b
 intro hb
 refine v_call (μ1:=[]) rfl qh (List.Perm.refl _) rfl ?_
 rintro _ G1 _ hle1 ⟨rfl,vB,rfl,hB⟩
 repeat' (first|apply v_seq|apply v_region|apply v_nil|apply v_skip|apply v_pure;(case hop=>first|apply p_move<;>rfl|apply p_nes<;>rfl|apply p_assign<;>rfl|apply p_fieldAddrB<;>rfl|apply p_nilCheck<;>rfl|apply p_extract0<;>rfl|apply p_extract1<;>rfl|fail);(case hd=>rfl)|apply v_condF;(case hc=>rfl)|apply v_read;(case hop=>(apply r_load1;rfl;(apply Cell.own;(case h=>repeat first|exact mhd _|apply mtl);rfl)));(case hd=>rfl)|fail)
 refine v_call (μ1:=(dkB d m ov oM ν)) (μ2:=[(hb,.cells (hdL H.pr H.pn H.base (.slice A0 H.image.length c0) (.slice A1 H.acc.length c1) (.slice A2 H.cho.length c2)).toArray 27 (0,0)),(lb,.cells (.pointer (some ⟨d,0,none⟩)::.int .i64 no0::.int .i64 f0::hdL H0.pr H0.pn H0.base iv0 av0 cv0).toArray 118 (0,0))]) rfl (qv _ hle1) (by apply perm_of_count;intro p;simp only [List.append_eq,List.countP_append,List.countP_cons,List.countP_nil,Nat.zero_add,Nat.add_zero];try ac_rfl) rfl ?_
 rintro v G2 _ hle2 ⟨-,R,hR,hs,hRl,hRn,rfl⟩
 obtain ⟨A,cA,dA,dc,rfl,hlc,hcm,hsome,hcl,-⟩:=flOpen hs
 simp only [maxLen] at hcm
 repeat' (first|apply v_seq|apply v_region|apply v_nil|apply v_pure;(case hop=>first|apply p_move<;>rfl|apply p_assign<;>rfl|apply p_fieldAddrB<;>rfl|apply p_nilCheck<;>rfl|fail);(case hd=>rfl)|apply v_read;(case hop=>(apply r_load1;rfl;(apply Cell.own;(case h=>repeat first|exact mhd _|apply mtl|apply List.mem_append_right);rfl)));(case hd=>rfl)|fail)
 refine v_call (μ1:=(dkB d m ov oM ν)) (μ2:=[(hb,.cells (hdL H.pr H.pn H.base (.slice A0 H.image.length c0) (.slice A1 H.acc.length c1) (.slice A2 H.cho.length c2)).toArray 27 (0,0)),(lb,.cells (.pointer (some ⟨d,0,none⟩)::.int .i64 no0::.int .i64 f0::hdL H0.pr H0.pn H0.base iv0 av0 cv0).toArray 118 (0,0))]) rfl (qg _ (GH.le_trans hle1 hle2)) (by apply perm_of_count;intro p;simp only [List.append_eq,List.countP_append,List.countP_cons,List.countP_nil,Nat.zero_add,Nat.add_zero];try ac_rfl) rfl ?_
 rintro _ G3 _ hle3 ⟨-,gr,rfl,hg0,hgc,hgk,rfl⟩
 refine v_perm (ν:=(lb,.cells (.pointer (some ⟨d,0,none⟩)::.int .i64 no0::.int .i64 f0::hdL H0.pr H0.pn H0.base iv0 av0 cv0).toArray 118 (0,0))::(hb,.cells (hdL H.pr H.pn H.base (.slice A0 H.image.length c0) (.slice A1 H.acc.length c1) (.slice A2 H.cho.length c2)).toArray 27 (0,0))::dkB d m ov oM ν) (by apply perm_of_count;intro p;simp only [List.append_eq,List.countP_append,List.countP_cons,List.countP_nil,Nat.zero_add,Nat.add_zero];try ac_rfl) ?_
 have hln:=h.len
 have hin:inNo (gr+1):=by unfold inNo;omega
 have hle03:=GH.le_trans hle1 (GH.le_trans hle2 hle3)
 have qm:=make_s (d:=d) (m:=m) (gr+1) (hd.le hle03).gr (by omega)
 rw [if_pos hin] at qm
 rw [dkB_eq]
 generalize hBe:fileB encF f (recsOf H).length (recsOf H)=B at *
 have hB3:=hB.mono (GH.le_trans hle2 hle3)
 obtain ⟨AB,cB,rfl,-⟩:=id hB.openInt
 repeat' (first|apply v_seq|apply v_nil|apply v_pure;(case hop=>first|apply p_fieldAddrB<;>rfl|apply p_nilCheck<;>rfl|apply p_add;(case hx|hy=>rfl);(case h=>omega)|fail);(case hd=>rfl)|apply v_store;(case hp|hx|hc|hsz|h1=>rfl);(case hb=>repeat exact mhd _);(case hfit=>exact nle rfl);(case hov=>((repeat (first|with_reducible exact ov_nil|apply ov_cons));done));(case hu=>repeat (exact Upd.here _ _))|fail)
 refine d_start [(lb,.cells (.pointer (some ⟨d,0,none⟩)::.int .i64 (gr+1)::.int .i64 f0::hdL H0.pr H0.pn H0.base iv0 av0 cv0).toArray 118 (0,0))] (by kernel_rfl) (by kernel_rfl) (by kernel_rfl) (by intro e he;(simp at he;simp [he];done)) ?_
 all_goals (apply dtm 0;(case hi|hx=>rfl);(case hq=>kernel_rfl);apply dtn 1;(case hi|hx=>rfl);(case hq=>kernel_rfl))
 all_goals (apply dtk 2;(case hi=>rfl);(case hop=>(apply prd;apply p_fieldAddrB<;>rfl));(case hq=>kernel_rfl);apply dtk 3;(case hi=>rfl);(case hop=>first|apply r_loadNo;(case hx=>rfl);(case h=>repeat fail);(case hd=>repeat fail);(case hn=>rfl)|apply r_load1;rfl;(apply Cell.own;(case h=>repeat exact mhd _);rfl)|apply r_loadN;rfl;(apply CellsAt.own;(case h=>repeat fail));rfl);(case hq=>kernel_rfl))
 all_goals (apply dtm 4;(case hi|hx=>rfl);(case hq=>kernel_rfl);apply dtn 5;(case hi|hx=>rfl);(case hq=>kernel_rfl))
 all_goals (apply dtk 6;(case hi=>rfl);(case hop=>(apply prd;apply p_fieldAddrB<;>rfl));(case hq=>kernel_rfl);apply dtk 7;(case hi=>rfl);(case hop=>first|apply r_loadNo;(case hx=>rfl);(case h=>repeat fail);(case hd=>repeat fail);(case hn=>rfl)|apply r_load1;rfl;(apply Cell.own;(case h=>repeat exact mhd _);rfl)|apply r_loadN;rfl;(apply CellsAt.own;(case h=>repeat fail));rfl);(case hq=>kernel_rfl))
 all_goals ((apply d_call 8 (hs:=qm) (μ1:=(d,dkO m ov)::ν) (μ2:=[(lb,.cells (.pointer (some ⟨d,0,none⟩)::.int .i64 (gr+1)::.int .i64 f0::hdL H0.pr H0.pn H0.base iv0 av0 cv0).toArray 118 (0,0)),(hb,.cells (hdL H.pr H.pn H.base (.slice A0 H.image.length c0) (.slice A1 H.acc.length c1) (.slice A2 H.cho.length c2)).toArray 27 (0,0)),(m,oM)]);(case hi=>rfl);(case hr=>kernel_rfl);(case ha=>rfl);(case hp=>exact (by apply perm_of_count;intro p;simp only [List.append_eq,List.countP_append,List.countP_cons,List.countP_nil,Nat.zero_add,Nat.add_zero];try ac_rfl));(case hd=>rfl);(case hν'=>intro e he;simp at he;simp [he]);rintro _ G4 _ hle4 ⟨-,ov1,ν1,hgr1,rfl⟩))
 all_goals (apply d_done;(case hr=>kernel_rfl))
 have qa:=add_s (d:=d) (m:=m) (gr+1) hgr1 (by simp;omega) (hB3.mono hle4) (by omega)
 rw [if_pos hin,List.append_assoc] at qa
 repeat' (first|apply v_seq)
 refine d_start [(lb,.cells (.pointer (some ⟨d,0,none⟩)::.int .i64 (gr+1)::.int .i64 f0::hdL H0.pr H0.pn H0.base iv0 av0 cv0).toArray 118 (0,0))] (by kernel_rfl) (by kernel_rfl) (by kernel_rfl) (by intro e he;(simp at he;simp [he];done)) ?_
 all_goals (apply dtm 0;(case hi|hx=>rfl);(case hq=>kernel_rfl);apply dtn 1;(case hi|hx=>rfl);(case hq=>kernel_rfl))
 all_goals (apply dtk 2;(case hi=>rfl);(case hop=>(apply prd;apply p_fieldAddrB<;>rfl));(case hq=>kernel_rfl);apply dtk 3;(case hi=>rfl);(case hop=>first|apply r_loadNo;(case hx=>rfl);(case h=>repeat fail);(case hd=>repeat fail);(case hn=>rfl)|apply r_load1;rfl;(apply Cell.own;(case h=>repeat exact mhd _);rfl)|apply r_loadN;rfl;(apply CellsAt.own;(case h=>repeat fail));rfl);(case hq=>kernel_rfl))
 all_goals (apply dtm 4;(case hi|hx=>rfl);(case hq=>kernel_rfl);apply dtn 5;(case hi|hx=>rfl);(case hq=>kernel_rfl))
 all_goals (apply dtk 6;(case hi=>rfl);(case hop=>(apply prd;apply p_fieldAddrB<;>rfl));(case hq=>kernel_rfl);apply dtk 7;(case hi=>rfl);(case hop=>first|apply r_loadNo;(case hx=>rfl);(case h=>repeat fail);(case hd=>repeat fail);(case hn=>rfl)|apply r_load1;rfl;(apply Cell.own;(case h=>repeat exact mhd _);rfl)|apply r_loadN;rfl;(apply CellsAt.own;(case h=>repeat fail));rfl);(case hq=>kernel_rfl))
 all_goals (apply dtm 8;(case hi|hx=>rfl);(case hq=>kernel_rfl))
 all_goals ((apply d_call 9 (hs:=qa) (μ1:=(d,dkO m ov1)::ν1) (μ2:=[(lb,.cells (.pointer (some ⟨d,0,none⟩)::.int .i64 (gr+1)::.int .i64 f0::hdL H0.pr H0.pn H0.base iv0 av0 cv0).toArray 118 (0,0)),(hb,.cells (hdL H.pr H.pn H.base (.slice A0 H.image.length c0) (.slice A1 H.acc.length c1) (.slice A2 H.cho.length c2)).toArray 27 (0,0)),(m,oM)]);(case hi=>rfl);(case hr=>kernel_rfl);(case ha=>rfl);(case hp=>exact (by apply perm_of_count;intro p;simp only [List.append_eq,List.countP_append,List.countP_cons,List.countP_nil,Nat.zero_add,Nat.add_zero];try ac_rfl));(case hd=>rfl);(case hν'=>intro e he;simp at he;simp [he]);rintro _ G5 _ hle5 ⟨-,ov2,ν2,hgr2,rfl⟩))
 all_goals (apply d_done;(case hr=>kernel_rfl))
 refine v_perm (ν:=(lb,.cells (.pointer (some ⟨d,0,none⟩)::.int .i64 (gr+1)::.int .i64 f0::hdL H0.pr H0.pn H0.base iv0 av0 cv0).toArray 118 (0,0))::(hb,.cells (hdL H.pr H.pn H.base (.slice A0 H.image.length c0) (.slice A1 H.acc.length c1) (.slice A2 H.cho.length c2)).toArray 27 (0,0))::(d,dkO m ov2)::(m,oM)::ν2) (by apply perm_of_count;intro p;simp only [List.append_eq,List.countP_append,List.countP_cons,List.countP_nil,Nat.zero_add,Nat.add_zero];try ac_rfl) ?_
 repeat' (first|apply v_seq|apply v_region|apply v_nil|apply v_block|apply v_pure;(case hop=>first|apply p_move<;>rfl|apply p_lenSlice<;>rfl|fail);(case hd=>rfl)|fail)
 have hle25:=GH.le_trans hle3 (GH.le_trans hle4 hle5)
 have hgr20:GrL 124 3 (OpR G5) ov2 (l++(⟨1,gr+1,[]⟩::⟨2,gr+1,B⟩::(R.take 0).map fun r=>⟨3,r.1,[]⟩)) ν2:=by simpa using hgr2
 refine v_loop [56,55,54,5,1,0] (fun us G' μ'=>GH.le G5 G'∧∃ (k:Nat) (ov3:Value) (ν3:OH),k≤R.length∧us=[Value.int .i64 (k:Nat),.int .i64 (R.length:Nat),.slice A R.length cA,.pointer (some ⟨hb,0,none⟩),.int .i64 f,.pointer (some ⟨lb,0,none⟩)]∧GrL 124 3 (OpR G') ov3 (l++(⟨1,gr+1,[]⟩::⟨2,gr+1,B⟩::(R.take k).map fun r=>⟨3,r.1,[]⟩)) ν3∧μ'=(lb,.cells (.pointer (some ⟨d,0,none⟩)::.int .i64 (gr+1)::.int .i64 f0::hdL H0.pr H0.pn H0.base iv0 av0 cv0).toArray 118 (0,0))::(hb,.cells (hdL H.pr H.pn H.base (.slice A0 H.image.length c0) (.slice A1 H.acc.length c1) (.slice A2 H.cho.length c2)).toArray 27 (0,0))::(d,dkO m ov3)::(m,oM)::ν3) (fun us=>R.length-(headI us).toNat) rfl ⟨GH.le_refl _,0,ov2,ν2,by omega,rfl,hgr20,rfl⟩ ?_
 rintro us G6 _ ⟨hle6,k,ov3,ν3,hk,rfl,hgr3,rfl⟩
 by_cases hlt:k<R.length
 ·have e1:((k:Nat):Int).toNat=k:=by omega
  have hA:=hsome (by omega)
  have hck:=(hcl k hlt).le (GH.le_trans hle25 hle6)
  have hno:=(hRn _ (List.getElem_mem hlt)).1
  have hin3:inNo R[k].1:=by unfold inNo;omega
  have hmap:(l++(⟨1,gr+1,[]⟩::⟨2,gr+1,B⟩::(R.take k).map fun r=>⟨3,r.1,[]⟩))++[⟨3,R[k].1,[]⟩]=l++(⟨1,gr+1,[]⟩::⟨2,gr+1,B⟩::(R.take (k+1)).map fun r=>(⟨3,r.1,[]⟩:Dop)):=by
   rw [List.take_succ_eq_append_getElem hlt,List.map_append]
   simp
  have qd:=ddrop_s (d:=d) (m:=m) R[k].1 hgr3 (by simp;omega)
  rw [if_pos hin3,hmap] at qd
  generalize R[k]=x at *
  repeat' (first|apply v_seq|apply v_region|apply v_nil|apply v_skip|apply v_block|apply v_pure;(case hop=>first|apply p_lt<;>rfl|apply p_indexAddrS;(case hx|hi=>rfl);(case h0|h=>omega);(case hA=>assumption)|fail);(case hd=>rfl)|apply v_cond;(case hc=>rfl);all_goals (intro h;(try simp only [reduceCtorEq,zzz] at h);try (exfalso;omega))|apply v_read;(case hop=>(apply r_loadN;rfl;exact CellsAt.frozen hck;rfl));(case hd=>rfl)|apply v_alloc;(case hz|hd=>rfl);intro b|apply v_store;(case hp|hx|hc|hsz|h1=>rfl);(case hb=>repeat exact mhd _);(case hfit=>exact nle rfl);(case hov=>((repeat (first|with_reducible exact ov_nil|apply ov_cons));done));(case hu=>repeat (exact Upd.here _ _))|fail)
  refine d_start [(b,.cells [.int .i64 x.1,.slice (dA k) x.2.length (dc k)].toArray 112 (0,0)),(lb,.cells (.pointer (some ⟨d,0,none⟩)::.int .i64 (gr+1)::.int .i64 f0::hdL H0.pr H0.pn H0.base iv0 av0 cv0).toArray 118 (0,0))] (by kernel_rfl) (by kernel_rfl) (by kernel_rfl) (by intro e he;(simp only [List.mem_cons,List.not_mem_nil,or_false] at he;rcases he with rfl|rfl<;>simp;done)) ?_
  all_goals (apply dtm 0;(case hi|hx=>rfl);(case hq=>kernel_rfl);apply dtn 1;(case hi|hx=>rfl);(case hq=>kernel_rfl))
  all_goals (apply dtk 2;(case hi=>rfl);(case hop=>(apply prd;apply p_fieldAddrB<;>rfl));(case hq=>kernel_rfl);apply dtk 3;(case hi=>rfl);(case hop=>first|apply r_loadNo;(case hx=>rfl);(case h=>repeat fail);(case hd=>repeat fail);(case hn=>rfl)|apply r_load1;rfl;(apply Cell.own;(case h=>repeat first|exact mhd _|apply mtl);rfl)|apply r_loadN;rfl;(apply CellsAt.own;(case h=>repeat fail));rfl);(case hq=>kernel_rfl))
  all_goals (apply dtk 4;(case hi=>rfl);(case hop=>(apply prd;apply p_fieldAddrB<;>rfl));(case hq=>kernel_rfl);apply dtk 5;(case hi=>rfl);(case hop=>first|apply r_loadNo;(case hx=>rfl);(case h=>repeat fail);(case hd=>repeat fail);(case hn=>rfl)|apply r_load1;rfl;(apply Cell.own;(case h=>repeat exact mhd _);rfl)|apply r_loadN;rfl;(apply CellsAt.own;(case h=>repeat fail));rfl);(case hq=>kernel_rfl))
  all_goals ((apply d_call 6 (hs:=qd) (μ1:=(d,dkO m ov3)::ν3) (μ2:=[(b,.cells [.int .i64 x.1,.slice (dA k) x.2.length (dc k)].toArray 112 (0,0)),(lb,.cells (.pointer (some ⟨d,0,none⟩)::.int .i64 (gr+1)::.int .i64 f0::hdL H0.pr H0.pn H0.base iv0 av0 cv0).toArray 118 (0,0)),(hb,.cells (hdL H.pr H.pn H.base (.slice A0 H.image.length c0) (.slice A1 H.acc.length c1) (.slice A2 H.cho.length c2)).toArray 27 (0,0)),(m,oM)]);(case hi=>rfl);(case hr=>kernel_rfl);(case ha=>rfl);(case hp=>exact (by apply perm_of_count;intro p;simp only [List.append_eq,List.countP_append,List.countP_cons,List.countP_nil,Nat.zero_add,Nat.add_zero];try ac_rfl));(case hd=>rfl);(case hν'=>intro e he;simp at he;rcases he with rfl|rfl<;>simp);rintro _ G7 _ hle7 ⟨-,ov4,ν4,hgr4,rfl⟩))
  all_goals (apply d_done;(case hr=>kernel_rfl))
  repeat' (first|apply v_region|apply v_nil|apply v_blk|apply v_pure;(case hop=>first|apply p_move<;>rfl|apply p_add;(case hx|hy=>rfl);(case h=>omega)|fail);(case hd=>rfl)|fail)
  refine v_perm (ν:=(b,.cells [.int .i64 x.1,.slice (dA k) x.2.length (dc k)].toArray 112 (0,0))::(lb,.cells (.pointer (some ⟨d,0,none⟩)::.int .i64 (gr+1)::.int .i64 f0::hdL H0.pr H0.pn H0.base iv0 av0 cv0).toArray 118 (0,0))::(hb,.cells (hdL H.pr H.pn H.base (.slice A0 H.image.length c0) (.slice A1 H.acc.length c1) (.slice A2 H.cho.length c2)).toArray 27 (0,0))::(d,dkO m ov4)::(m,oM)::ν4) (by apply perm_of_count;intro p;simp only [List.append_eq,List.countP_append,List.countP_cons,List.countP_nil,Nat.zero_add,Nat.add_zero];try ac_rfl) ?_
  refine v_drop (ν:=(lb,.cells (.pointer (some ⟨d,0,none⟩)::.int .i64 (gr+1)::.int .i64 f0::hdL H0.pr H0.pn H0.base iv0 av0 cv0).toArray 118 (0,0))::(hb,.cells (hdL H.pr H.pn H.base (.slice A0 H.image.length c0) (.slice A1 H.acc.length c1) (.slice A2 H.cho.length c2)).toArray 27 (0,0))::(d,dkO m ov4)::(m,oM)::ν4) (List.sublist_cons_self _ _) ?_
  exact v_again rfl ⟨GH.le_trans hle6 hle7,k+1,ov4,ν4,by omega,rfl,hgr4,rfl⟩ (by simp [headI];omega)
 ·obtain rfl:k=R.length:=by omega
  rw [List.take_length] at hgr3
  have hL6:=hL.le (GH.le_trans hle1 (GH.le_trans hle2 (GH.le_trans hle25 hle6)))
  have qc:=hClone_s hL6 (by have:=s.img;omega) (by have:=s.good.nacc;omega) (by have:=s.good.ncho;omega) (fun e he=>(s.good.acc e he).2.1) (fun e he=>(s.good.cho e he).2.1)
  repeat' (first|apply v_seq|apply v_region|apply v_nil|apply v_exit;(case hp=>rfl)|apply v_pure;(case hop=>first|apply p_move<;>rfl|apply p_lt<;>rfl|fail);(case hd=>rfl)|apply v_cond;(case hc=>rfl);all_goals (intro h;(try simp only [reduceCtorEq,zzz] at h);try (exfalso;omega))|apply v_read;(case hop=>(apply r_loadNo;(case hx=>rfl);(case h=>repeat first|exact mhd _|apply mtl);(case hd=>repeat first|with_reducible exact dt_nil|apply dt_here);(case hn=>rfl)));(case hd=>rfl)|fail)
  refine v_call (μ1:=[]) rfl qc (List.Perm.refl _) rfl ?_
  rintro _ G7 _ hle7 ⟨rfl,L',rfl,hL'⟩
  have hL7:=hL'
  obtain ⟨iv',av',cv',rfl,hi',ha',hcv'⟩:=hL'
  obtain ⟨B3,d3,rfl,-⟩:=id hi'.openInt
  obtain ⟨B4,d4,rfl,-⟩:=id ha'.open
  obtain ⟨B5,d5,rfl,-⟩:=id hcv'.open
  repeat' (first|apply v_seq|apply v_region|apply v_nil|apply v_pure;(case hop=>first|apply p_assign<;>rfl|apply p_fieldAddrB<;>rfl|apply p_nilCheck<;>rfl|fail);(case hd=>rfl)|apply v_store;(case hp|hx|hc|hsz|h1=>rfl);(case hb=>repeat exact mhd _);(case hfit=>exact nle rfl);(case hov=>((repeat (first|with_reducible exact ov_nil|apply ov_cons));done));(case hu=>repeat (exact Upd.here _ _))|fail)
  subst hBe
  refine v_ret ((lb,lgO d (gr+1) f (hdL H.pr H.pn H.base (.slice B3 H.image.length d3) (.slice B4 H.acc.length d4) (.slice B5 H.cho.length d5)))::dkB d m ov3 oM ν3) (outsA1 rfl rfl) ?_ ?_
  ·rw [dkB_eq]
   exact List.Sublist.cons_cons _ (List.Sublist.cons _ (List.Sublist.refl _))
  ·exact ⟨GH.le_trans hle1 (GH.le_trans hle2 (GH.le_trans hle25 (GH.le_trans hle6 hle7))),rfl,gr+1,_,_,_,_,ov3,ν3,by unfold beginOps;simp,(hWB.begin s hR hg0 hgc hgk (by omega) (by omega)).top,hWB.begin s hR hg0 hgc hgk (by omega) (by omega),s.back,hL7,hgr3.le fun _ _ hx=>hx.le hle7,rfl⟩
theorem wmay_s (v:Int) (G:GH):Con Tryz.prog 47 #[.int .i64 v] G [] (Just (.bool (decide (v=1∨v=2))) G):=by
 (refine v_enter Tryz.func47 rfl Tryz.ntmps47 rfl ?_;intro B _)
 repeat' (first|apply v_seq|apply v_region|apply v_nil|apply v_skip|apply v_block|apply v_blk|apply v_exit;(case hp=>rfl)|apply v_pure;(case hop=>first|apply p_move<;>rfl|apply p_eq<;>rfl|apply p_assign<;>rfl|fail);(case hd=>rfl)|apply v_cond;(case hc=>rfl);all_goals (intro h;(try simp only [reduceCtorEq,zzz] at h))|fail)
 all_goals (refine v_ret [] (outsA1 rfl rfl) (List.nil_sublist _) ?_;refine ⟨?_,rfl,rfl⟩)
 all_goals (congr 1;(simp;omega))
def opensW (v f:Int):Int:=if (v<1∨2<v)∨f<1∨2<f then 8 else if v<f then 9 else 0
theorem wopens_s (v f:Int) (G:GH):Con Tryz.prog 68 #[.int .i64 v,.int .i64 f] G [] (Just (.int .i64 (opensW v f)) G):=by
 (refine v_enter Tryz.func68 rfl Tryz.ntmps68 rfl ?_;intro B _)
 repeat' (first|apply v_seq|apply v_region|apply v_nil|apply v_skip|apply v_block|apply v_blk|apply v_pure;(case hop=>first|apply p_move<;>rfl|apply p_gt<;>rfl|apply p_assign<;>rfl|apply p_not<;>rfl);(case hd=>rfl)|apply v_cond;(case hc=>rfl);all_goals (intro h;(try simp only [reduceCtorEq,zzz] at h);try (exfalso;omega))|apply v_callJ (hs:=wmay_s _ _);(case ha|hd=>rfl)|fail)
 all_goals (refine v_ret [] (outsA1 rfl rfl) (List.nil_sublist _) ?_;refine ⟨?_,rfl,rfl⟩)
 all_goals (congr 1;unfold opensW;split<;>(try split)<;>omega)
theorem none_s (e:Int) (G:GH):Con Tryz.prog 67 #[.int .i64 e] G [] (Just (.tuple [.pointer none,.agg (hdL 0 0 0 (.slice none 0 0) (.slice none 0 0) (.slice none 0 0)).toArray,.int .i64 e].toArray) G):=by
 (refine v_enter Tryz.func67 rfl Tryz.ntmps67 rfl ?_;intro B _)
 repeat' (first|apply v_seq|apply v_region|apply v_nil|apply v_pure;(case hop=>first|apply p_move<;>rfl|apply p_assign<;>rfl|apply p_build;(case hz=>rfl);(case hv=>(simp only [List.map_cons,List.map_nil];repeat (with_reducible exact evs_nil)));(case hb=>(apply bldL;repeat (exact bld_nil))));(case hd=>rfl)|apply v_alloc;(case hz|hd=>rfl);intro b|apply v_store;(case hp|hx|hc|hsz|h1=>rfl);(case hb=>repeat exact mhd _);(case hfit=>exact nle rfl);(case hov=>((repeat (first|with_reducible exact ov_nil|apply ov_cons));done));(case hu=>repeat (exact Upd.here _ _))|fail)
 refine v_retM [] (outsM_tct (sz1:=6) (vs1:=hdL 0 0 0 (.slice none 0 0) (.slice none 0 0) (.slice none 0 0)) (e1:=27) rfl rfl rfl (by repeat (exact mhd _)) rfl rfl) (List.nil_sublist _) ?_
 exact ⟨rfl,rfl,rfl⟩
def LogX (lb d m c a:Nat) (past:List (Int×Hd)) (f:Int) (H:Hd) (g:Fs) (l:List Dop) (G:GH) (μ:OH):Prop :=
 ∃ no n xs L ov ml oM ν,WI c a g l past no f n xs∧hardOf xs=H∧HdV G H L∧MapB keyI ml oM∧MF G ml g∧GrL 124 3 (OpR G) ov l ν∧μ=(lb,lgO d no f L)::dkB d m ov oM ν
def LogM (lb d m c a:Nat) (past:List (Int×Hd)) (f:Int) (H:Hd) (G:GH) (μ:OH):Prop := ∃ g l,LogX lb d m c a past f H g l G μ
def WOpenR (d m c a:Nat) (past:List (Int×Hd)) (p:Int×Hd) (g:Fs) (G:GH) (r:Value) (G':GH) (μ':OH):Prop :=
 GH.le G G'∧∃ lb L l',r=.tuple [.pointer (some ⟨lb,0,none⟩),.agg L.toArray,.int .i64 0].toArray∧HdV G' p.2 L∧l'≠[]∧(∃ no,TopIs (gall g l') no (fileB encF p.1 (recsOf p.2).length (recsOf p.2)))∧LogX lb d m c a (past++[p]) p.1 p.2 g l' G' μ'
def WOpenN (e:Int) (D:OH) (G:GH) (r:Value) (G':GH) (μ':OH):Prop :=
 GH.le G G'∧r=.tuple [.pointer none,.agg (hdL 0 0 0 (.slice none 0 0) (.slice none 0 0) (.slice none 0 0)).toArray,.int .i64 e].toArray∧μ'=D
theorem pk_eq {c a:Nat}{g:Fs}{l:List Dop}{past:List (Int×Hd)}{p q:Int×Hd}(h:WB c a g l past p) (hq:PK (gall g l) q):q=p:=by
 obtain ⟨R,hR,-⟩:=(h.cs _ (cs_all g l)).1.2
 rw [← hq R hR,h.all R hR]
set_option maxHeartbeats 2000000 in
theorem wopen_s {d m c a:Nat}{G:GH}(hT:TabsG G) (hC:CrcG G) {g:Fs}{l:List Dop}{past:List (Int×Hd)}{p:Int×Hd}(h:WB c a g l past p) (hc:c≤45) (ha:a≤40) {ov:Value}{ml:List (Int×Value)}{oM:Obj}{ν:OH}(h1:MapB keyI ml oM) (h2:MF G ml g) (h3:GrL 124 3 (OpR G) ov l ν) (v:Int) :
 Con Tryz.prog 26 #[.pointer (some ⟨d,0,none⟩),.int .i64 v] G (dkB d m ov oM ν) (fun r G' μ'=>(opensW v p.1=0∧WOpenR d m c a past p g G r G' μ')∨(opensW v p.1≠0∧WOpenN (opensW v p.1) (dkB d m ov oM ν) G r G' μ')):=by
 have hWB:=h
 have hd:=h.dk h1 h2 h3
 have qp:=peek_s (d:=d) (m:=m) hT hC hd (by omega)
 have st:=h.past _ h.mem
 (refine v_enter Tryz.func26 rfl Tryz.ntmps26 rfl ?_;intro B _)
 repeat' (first|apply v_seq|apply v_region|apply v_nil|apply v_skip|apply v_pure;(case hop=>first|apply p_move<;>rfl|apply p_assign<;>rfl|apply p_eqNil<;>rfl|fail);(case hd=>rfl)|apply v_condF;(case hc=>rfl)|apply v_alloc;(case hz|hd=>rfl);intro b|fail)
 revert b
 intro rb
 refine v_call (μ1:=dkB d m ov oM ν) (μ2:=[(rb,.cells (hdL 0 0 0 (.slice none 0 0) (.slice none 0 0) (.slice none 0 0)).toArray 27 (0,0))]) rfl qp (List.perm_append_comm (l₁:=[_])) rfl ?_
 rintro _ G1 _ hle1 ⟨-,f,H,L,rfl,hL,hpk,rfl⟩
 obtain rfl:=pk_eq hWB hpk
 simp only at st ⊢
 have qo:=wopens_s v f G1
 have hL1:=hL
 obtain ⟨iv,av,cv,rfl,hi,hac,hcv⟩:=hL
 obtain ⟨A0,c0,rfl,-⟩:=id hi.openInt
 obtain ⟨A1,c1,rfl,-⟩:=id hac.open
 obtain ⟨A2,c2,rfl,-⟩:=id hcv.open
 refine v_perm (ν:=(rb,.cells (hdL 0 0 0 (.slice none 0 0) (.slice none 0 0) (.slice none 0 0)).toArray 27 (0,0))::dkB d m ov oM ν) (by apply perm_of_count;intro p;simp only [List.append_eq,List.countP_append,List.countP_cons,List.countP_nil,Nat.zero_add,Nat.add_zero];try ac_rfl) ?_
 by_cases ho:opensW v f=0
 ·rw [ho] at qo
  have qb:=fun lb=>wbegin_s (lb:=lb) (d:=d) (m:=m) (hT.le hle1) (hC.le hle1) hWB hc ha h1 (h2.up hle1) (h3.le fun _ _ hx=>hx.le hle1) st hL1 0 0 Hd.zero (.slice none 0 0) (.slice none 0 0) (.slice none 0 0)
  simp only [Hd.zero] at qb
  have qc:=fun G' (hle:GH.le G1 G')=>hClone_s (hL1.le hle) (by have:=st.img;omega) (by have:=st.good.nacc;omega) (by have:=st.good.ncho;omega) (fun e he=>(st.good.acc e he).2.1) (fun e he=>(st.good.cho e he).2.1)
  repeat' (first|apply v_seq|apply v_region|apply v_nil|apply v_skip|apply v_pure;(case hop=>first|apply p_move<;>rfl|apply p_nes<;>rfl|apply p_assign<;>rfl|apply p_extract0<;>rfl|apply p_extract1<;>rfl|apply p_build;(case hz=>rfl);(case hv=>(simp only [List.map_cons,List.map_nil];repeat (first|with_reducible exact evs_nil|apply evs_cons;(case h1=>rfl))));(case hb=>(apply bldL;repeat (first|exact bld_nil|apply bld_cons;(case hpf|hc|hs|hl=>rfl);(case ho=>((repeat (first|with_reducible exact ov_nil|apply ov_cons));done)))))|fail);(case hd=>rfl)|apply v_condF;(case hc=>rfl)|apply v_callJ (hs:=qo);(case ha|hd=>rfl)|apply v_read;(case hop=>(apply r_loadNo;(case hx=>rfl);(case h=>repeat first|exact mhd _|apply mtl);(case hd=>repeat first|with_reducible exact dt_nil|apply dt_here);(case hn=>rfl)));(case hd=>rfl)|apply v_alloc;(case hz|hd=>rfl);intro b|apply v_box;(case hx|hz|hd=>rfl);intro b|apply v_store;(case hp|hx|hc|hsz|h1=>rfl);(case hb=>repeat exact mhd _);(case hfit=>exact nle rfl);(case hov=>((repeat (first|with_reducible exact ov_nil|apply ov_cons));done));(case hu=>repeat (exact Upd.here _ _))|fail)
  revert b
  intro lb
  revert b
  intro hb
  refine v_call (μ1:=(lb,.cells (Value.pointer (some ⟨d,0,none⟩)::Value.int .i64 0::Value.int .i64 0::hdL 0 0 0 (.slice none 0 0) (.slice none 0 0) (.slice none 0 0)).toArray 118 (0,0))::dkB d m ov oM ν) (μ2:=[(hb,.cells (hdL H.pr H.pn H.base (.slice A0 H.image.length c0) (.slice A1 H.acc.length c1) (.slice A2 H.cho.length c2)).toArray 27 (0,0)),(rb,.cells (hdL 0 0 0 (.slice none 0 0) (.slice none 0 0) (.slice none 0 0)).toArray 27 (0,0))]) rfl (qb lb) (by apply perm_of_count;intro p;simp only [List.append_eq,List.countP_append,List.countP_cons,List.countP_nil,Nat.zero_add,Nat.add_zero];try ac_rfl) rfl ?_
  rintro _ G2 _ hle2 ⟨-,rfl,no,n,xs,l',L2,ov',ν',hl',htop,hWI,hx,hL2,hgr,rfl⟩
  refine v_perm (ν:=(hb,.cells (hdL H.pr H.pn H.base (.slice A0 H.image.length c0) (.slice A1 H.acc.length c1) (.slice A2 H.cho.length c2)).toArray 27 (0,0))::(rb,.cells (hdL 0 0 0 (.slice none 0 0) (.slice none 0 0) (.slice none 0 0)).toArray 27 (0,0))::(lb,lgO d no f L2)::dkB d m ov' oM ν') (by apply perm_of_count;intro p;simp only [List.append_eq,List.countP_append,List.countP_cons,List.countP_nil,Nat.zero_add,Nat.add_zero];try ac_rfl) ?_
  repeat' (first|apply v_seq|apply v_region|apply v_nil|apply v_skip|apply v_pure;(case hop=>first|apply p_move<;>rfl|apply p_nes<;>rfl|apply p_assign<;>rfl|fail);(case hd=>rfl)|apply v_condF;(case hc=>rfl)|apply v_read;(case hop=>(apply r_loadNo;(case hx=>rfl);(case h=>repeat exact mhd _);(case hd=>repeat first|with_reducible exact dt_nil|apply dt_here);(case hn=>rfl)));(case hd=>rfl)|fail)
  refine v_call (μ1:=[]) rfl (qc _ hle2) (List.Perm.refl _) rfl ?_
  rintro _ G3 _ hle3 ⟨rfl,L3,rfl,hL3⟩
  have hL4:=hL3
  obtain ⟨iv',av',cv',rfl,hi',ha',hcv'⟩:=hL3
  obtain ⟨B3,d3,rfl,-⟩:=id hi'.openInt
  obtain ⟨B4,d4,rfl,-⟩:=id ha'.open
  obtain ⟨B5,d5,rfl,-⟩:=id hcv'.open
  repeat' (first|apply v_nil|apply v_pure;(case hop=>(apply p_assign<;>rfl));(case hd=>rfl)|apply v_store;(case hp|hx|hc|hsz|h1=>rfl);(case hb=>repeat first|exact mhd _|apply mtl);(case hfit=>exact nle rfl);(case hov=>((repeat (first|with_reducible exact ov_nil|apply ov_cons));done));(case hu=>repeat first|exact Upd.here _ _|apply Upd.there)|fail)
  refine v_retM ((lb,lgO d no f L2)::dkB d m ov' oM ν') (outsM_tct (sz1:=6) (vs1:=hdL H.pr H.pn H.base (.slice B3 H.image.length d3) (.slice B4 H.acc.length d4) (.slice B5 H.cho.length d5)) (e1:=27) rfl rfl rfl (by repeat (first|exact mhd _|apply mtl)) rfl rfl) (List.Sublist.cons _ (List.Sublist.cons _ (List.Sublist.refl _))) ?_
  refine .inl ⟨ho,GH.le_trans hle1 (GH.le_trans hle2 hle3),lb,_,l',rfl,hL4,hl',⟨no,htop⟩,no,n,xs,L2,ov',ml,oM,ν',hWI,hx,hL2.le hle3,h1,h2.up (GH.le_trans hle1 (GH.le_trans hle2 hle3)),hgr.le fun _ _ hx=>hx.le hle3,rfl⟩
 ·have qn:=none_s (opensW v f) G1
  generalize opensW v f=e at *
  repeat' (first|apply v_seq|apply v_region|apply v_nil|apply v_pure;(case hop=>first|apply p_move<;>rfl|apply p_ne<;>rfl|apply p_assign<;>rfl|apply p_extract0<;>rfl|apply p_extract1<;>rfl|apply p_extract2<;>rfl|fail);(case hd=>rfl)|apply v_cond;(case hc=>rfl);all_goals (intro h;(try simp only [reduceCtorEq,zzz] at h);try (exfalso;omega))|apply v_callJ (hs:=qo);(case ha|hd=>rfl)|apply v_callFJ0 (hs:=qn);(case hx|ha|hd=>rfl)|apply v_alloc;(case hz|hd=>rfl);intro b|apply v_store;(case hp|hx|hc|hsz|h1=>rfl);(case hb=>repeat first|exact mhd _|apply mtl);(case hfit=>exact nle rfl);(case hov=>((repeat (first|with_reducible exact ov_nil|apply ov_cons));done));(case hu=>repeat first|exact Upd.here _ _|apply Upd.there)|fail)
  refine v_retM (dkB d m ov oM ν) (outsM_tct (sz1:=6) (vs1:=hdL 0 0 0 (.slice none 0 0) (.slice none 0 0) (.slice none 0 0)) (e1:=27) rfl rfl rfl (by repeat (first|exact mhd _|apply mtl)) rfl rfl) (List.Sublist.cons _ (List.Sublist.cons _ (List.Sublist.refl _))) ?_
  exact .inr ⟨ho,hle1,rfl,rfl⟩
def PaM (pb:Nat) (past:List (Int×Hd)) (G:GH) (μ:OH):Prop :=
 ∃ Lv Fv νL νF,GrL 27 6 (HdV G) Lv (past.map (·.2)) νL∧Grow 3 1 Fv past.length ((past.map (·.1)).map (Value.int .i64 ·)) νF∧μ=(pb,.cells [Lv,Fv].toArray 88 (0,0))::(νL++νF)
theorem PaM.le {pb:Nat}{past:List (Int×Hd)}{G G':GH}{μ:OH}(h:PaM pb past G μ) (hle:GH.le G G'):PaM pb past G' μ:=by
 obtain ⟨Lv,Fv,νL,νF,h1,h2,h3⟩:=h
 exact ⟨Lv,Fv,νL,νF,h1.le fun _ _ hx=>hx.le hle,h2,h3⟩
theorem p_idxOwnJ {P:Program}{σ:Env}{t ty:TypeId}{bytes:Nat}{zero:Value}{e:TypeId}{agg:Bool}{sz:Nat}{x i:Operand}{b l c:Nat}(k:Nat) {j:Int}{kd:IntKind} [Ty P t (.slice e)] [Lay P e agg sz bytes zero] (hx:Env.ev σ x=some (.slice (some ⟨b,0,none⟩) l c)) (hi:Env.ev σ i=some (.int kd j)) (hj:j=(k:Nat)) (h:k<l):PureOp P (.indexAddr t x i) ty σ (.pointer (some ⟨b,k*sz,none⟩)):=by
 subst hj
 exact p_idxOwn hx hi h
theorem hdCases {G:GH}{v:Value}{l:List Hd}{ν:OH}(h:GrL 27 6 (HdV G) v l ν) (hne:l≠[]):∃ (b cap:Nat) (cells:List Value),v=.slice (some ⟨b,0,none⟩) l.length cap∧l.length≤cap∧cap≤maxLen∧ν=[(b,.cells cells.toArray 27 (0,0))]∧∀ i (hi:i<l.length),∃ cs,(cells.drop (i*6)).take 6=cs∧HdV G l[i] cs:=by
 obtain ⟨css,h1,h2,h3⟩:=h
 obtain ⟨hl,⟨rfl,h4,rfl⟩|⟨b,cap,spare,rfl,rfl,h5,h6,h7⟩⟩:=h3
 ·exact absurd (List.eq_nil_of_length_eq_zero h4) hne
 ·have hlen:∀ cs∈css,cs.length=6:=fun cs hc=>by
   obtain ⟨i,hi,rfl⟩:=List.getElem_of_mem hc
   exact (h2 i _ _ (List.getElem?_eq_getElem (by omega)) (List.getElem?_eq_getElem hi)).1
  refine ⟨b,cap,css.flatten++spare,rfl,h5,h6,rfl,fun i hi=>?_⟩
  have:=flat_drop (sp:=spare) hlen i (by omega)
  exact ⟨css[i],this,(h2 i _ _ (List.getElem?_eq_getElem hi) (List.getElem?_eq_getElem (by omega))).2⟩
theorem inCases {v:Value}{l:List Int}{n:Nat}{ν:OH}(h:Grow 3 1 v n (l.map (Value.int .i64 ·)) ν) (hne:n≠0):∃ (b cap:Nat) (cells:List Value),v=.slice (some ⟨b,0,none⟩) n cap∧n≤cap∧cap≤maxLen∧ν=[(b,.cells cells.toArray 3 (0,0))]∧∀ i (hi:i<l.length),cells[i*1+0]? = some (.int .i64 l[i]):=by
 obtain ⟨hl,⟨rfl,h4,rfl⟩|⟨b,cap,spare,rfl,rfl,h5,h6,h7⟩⟩:=h
 ·exact absurd h4 hne
 ·refine ⟨b,cap,_,rfl,h5,h6,rfl,fun i hi=>?_⟩
  rw [List.getElem?_append_left (by simp;omega)]
  simp [List.getElem?_eq_getElem hi]
theorem paAt {pb:Nat}{past:List (Int×Hd)}{G:GH}{μ:OH}(h:PaM pb past G μ) (hne:past≠[]):∃ (Lb capL:Nat) (cellsL:List Value) (Fb capF:Nat) (cellsF:List Value),past.length≤capL∧capL≤maxLen∧past.length≤capF∧capF≤maxLen ∧
 (∀ i (hi:i<past.length),(∃ L,(cellsL.drop (i*6)).take 6=L∧HdV G past[i].2 L)∧cellsF[i*1+0]? = some (.int .i64 past[i].1)) ∧
 μ=[(pb,.cells [Value.slice (some ⟨Lb,0,none⟩) past.length capL,.slice (some ⟨Fb,0,none⟩) past.length capF].toArray 88 (0,0)),(Lb,.cells cellsL.toArray 27 (0,0)),(Fb,.cells cellsF.toArray 3 (0,0))]:=by
 obtain ⟨Lv,Fv,νL,νF,h1,h2,rfl⟩:=h
 obtain ⟨Lb,capL,cellsL,rfl,a1,a2,rfl,a3⟩:=hdCases h1 (by simpa using hne)
 obtain ⟨Fb,capF,cellsF,rfl,b1,b2,rfl,b3⟩:=inCases h2 (by simpa using hne)
 rw [List.length_map] at a1
 refine ⟨Lb,capL,cellsL,Fb,capF,cellsF,a1,a2,b1,b2,fun i hi=>⟨?_,?_⟩,by rw [List.length_map];rfl⟩
 ·have:=a3 i (by simpa using hi)
  simpa using this
 ·have:=b3 i (by simpa using hi)
  simpa using this
def PLastR (μ:OH) (f:Int) (H:Hd) (G:GH) (r:Value) (G':GH) (μ':OH):Prop:=G'=G∧μ'=μ∧∃ L,r=.tuple [.agg L.toArray,.int .i64 f].toArray∧HdV G H L
theorem plast_s {pb:Nat}{pre:List (Int×Hd)}{f:Int}{H:Hd}{G:GH}{μ:OH}(h:PaM pb (pre++[(f,H)]) G μ):Con Tryz.prog 40 #[.pointer (some ⟨pb,0,none⟩)] G μ (PLastR μ f H G):=by
 obtain ⟨Lb,capL,cellsL,Fb,capF,cellsF,a1,a2,b1,b2,hat,rfl⟩:=paAt h (by simp)
 obtain ⟨⟨L,hcd,hL⟩,hcf⟩:=hat pre.length (by simp)
 have hpl:(pre++[(f,H)]).length=pre.length+1:=by simp
 simp only [hpl,List.getElem_append_right (Nat.le_refl pre.length),Nat.sub_self,List.getElem_cons_zero] at a1 b1 hL hcf ⊢
 clear h hat
 simp only [maxLen] at a2 b2
 have hL0:=hL
 obtain ⟨iv,av,cv,rfl,hi,ha,hcv⟩:=hL
 obtain ⟨A0,c0,rfl,-⟩:=id hi.openInt
 obtain ⟨A1,c1,rfl,-⟩:=id ha.open
 obtain ⟨A2,c2,rfl,-⟩:=id hcv.open
 (refine v_enter Tryz.func40 rfl Tryz.ntmps40 rfl ?_;intro B _)
 repeat' (first|apply v_seq|apply v_region|apply v_nil|apply v_pure;(case hop=>(apply p_assign<;>rfl));(case hd=>rfl)|apply v_alloc;(case hz|hd=>rfl);intro b|fail)
 refine d_start [(pb,.cells [Value.slice (some ⟨Lb,0,none⟩) (pre.length+1) capL,.slice (some ⟨Fb,0,none⟩) (pre.length+1) capF].toArray 88 (0,0)),(Lb,.cells cellsL.toArray 27 (0,0)),(Fb,.cells cellsF.toArray 3 (0,0))] (by kernel_rfl) (by kernel_rfl) (by kernel_rfl) (by intro e he;(simp at he;simp [he];done)) ?_
 all_goals (apply dtm 0;(case hi|hx=>rfl);(case hq=>kernel_rfl);apply dtn 1;(case hi|hx=>rfl);(case hq=>kernel_rfl))
 all_goals (apply dtk 2;(case hi=>rfl);(case hop=>(apply prd;apply p_fieldAddrB<;>rfl));(case hq=>kernel_rfl);apply dtk 3;(case hi=>rfl);(case hop=>(apply r_load1;rfl;(apply Cell.own;(case h=>repeat exact mhd _);rfl)));(case hq=>kernel_rfl))
 all_goals (apply dtm 4;(case hi|hx=>rfl);(case hq=>kernel_rfl);apply dtn 5;(case hi|hx=>rfl);(case hq=>kernel_rfl))
 all_goals (apply dtk 6;(case hi=>rfl);(case hop=>(apply prd;apply p_fieldAddrB<;>rfl));(case hq=>kernel_rfl);apply dtk 7;(case hi=>rfl);(case hop=>(apply r_load1;rfl;(apply Cell.own;(case h=>repeat exact mhd _);rfl)));(case hq=>kernel_rfl))
 all_goals (apply dtk 8;(case hi=>rfl);(case hop=>(apply prd;apply p_lenSlice<;>rfl));(case hq=>kernel_rfl);apply dtk 9;(case hi=>rfl);(case hop=>(apply prd;apply p_sub;(case hx|hy=>rfl);(case h=>omega)));(case hq=>kernel_rfl))
 all_goals (apply dtk 10;(case hi=>rfl);(case hop=>((apply prd;apply p_idxOwnJ pre.length;(case hx|hi=>rfl);(case hj|h=>omega))));(case hq=>kernel_rfl))
 all_goals (apply dtk 11;(case hi=>rfl);(case hop=>((apply r_loadNo;(case hx=>rfl);(case h=>repeat first|exact mhd _|apply mtl);(case hd=>exact hcd);(case hn=>rfl))));(case hq=>kernel_rfl))
 all_goals (apply dtm 12;(case hi|hx=>rfl);(case hq=>kernel_rfl);apply dtn 13;(case hi|hx=>rfl);(case hq=>kernel_rfl))
 all_goals (apply dtk 14;(case hi=>rfl);(case hop=>(apply prd;apply p_fieldAddrB<;>rfl));(case hq=>kernel_rfl);apply dtk 15;(case hi=>rfl);(case hop=>(apply r_load1;rfl;(apply Cell.own;(case h=>repeat exact mhd _);rfl)));(case hq=>kernel_rfl))
 all_goals (apply dtm 16;(case hi|hx=>rfl);(case hq=>kernel_rfl);apply dtn 17;(case hi|hx=>rfl);(case hq=>kernel_rfl))
 all_goals (apply dtk 18;(case hi=>rfl);(case hop=>(apply prd;apply p_fieldAddrB<;>rfl));(case hq=>kernel_rfl);apply dtk 19;(case hi=>rfl);(case hop=>(apply r_load1;rfl;(apply Cell.own;(case h=>repeat exact mhd _);rfl)));(case hq=>kernel_rfl))
 all_goals (apply dtk 20;(case hi=>rfl);(case hop=>(apply prd;apply p_lenSlice<;>rfl));(case hq=>kernel_rfl);apply dtk 21;(case hi=>rfl);(case hop=>(apply prd;apply p_sub;(case hx|hy=>rfl);(case h=>omega)));(case hq=>kernel_rfl))
 all_goals (apply dtk 22;(case hi=>rfl);(case hop=>((apply prd;apply p_idxOwnJ pre.length;(case hx|hi=>rfl);(case hj|h=>omega))));(case hq=>kernel_rfl))
 all_goals (apply dtk 23;(case hi=>rfl);(case hop=>((apply r_load1;rfl;exact Cell.own (by repeat (first|exact mhd _|apply mtl)) hcf)));(case hq=>kernel_rfl))
 all_goals (apply d_store 24;(case hi=>rfl);(case hr=>kernel_rfl);(case hL=>infer_instance);(case hp|hx|hc|hsz|h1=>rfl);(case hb=>repeat exact mhd _);(case hfit=>exact nle rfl);(case hov=>((repeat (first|with_reducible exact ov_nil|apply ov_cons));done));(case hu=>repeat (exact Upd.here _ _));(case hν'=>intro e he;simp at he;simp [he]))
 all_goals (apply dta 25;(case hi|hx=>rfl);(case hq=>kernel_rfl))
 all_goals (apply d_done;(case hr=>kernel_rfl))
 repeat' (fail)
 refine v_retM [(pb,.cells [Value.slice (some ⟨Lb,0,none⟩) (pre.length+1) capL,.slice (some ⟨Fb,0,none⟩) (pre.length+1) capF].toArray 88 (0,0)),(Lb,.cells cellsL.toArray 27 (0,0)),(Fb,.cells cellsF.toArray 3 (0,0))] (outsM_cell_tmp (vs:=hdL H.pr H.pn H.base (.slice A0 H.image.length c0) (.slice A1 H.acc.length c1) (.slice A2 H.cho.length c2)) (e:=27) rfl rfl rfl (by repeat (exact mhd _)) rfl) (List.sublist_cons_self _ _) ?_
 exact ⟨rfl,rfl,_,rfl,hL0⟩
set_option maxHeartbeats 1000000 in
theorem pput_s {pb:Nat}{past:List (Int×Hd)}{f:Int}{H:Hd}{L:List Value}{G:GH}{μ:OH}(h:PaM pb past G μ) (hlen:past.length≤1000) (hL:HdV G H L) :
 Con Tryz.prog 43 #[.pointer (some ⟨pb,0,none⟩),.agg L.toArray,.int .i64 f] G μ (fun _ G' μ'=>G'=G∧PaM pb (past++[(f,H)]) G μ'):=by
 obtain ⟨Lv,Fv,νL,νF,hgL,hgF,rfl⟩:=h
 obtain ⟨css,hc1,hc2,hgr⟩:=id hgL
 rw [List.length_map] at hgr hc1
 obtain ⟨AL,cL,rfl,hA,hA2⟩:=hgr.shape
 obtain ⟨AF,cF,rfl,hB,hB2⟩:=hgF.shape
 simp only [maxLen] at hA2 hB2
 have hL0:=hL
 obtain ⟨iv,av,cv,rfl,hi,ha,hcv⟩:=hL
 obtain ⟨A0,c0,rfl,-⟩:=id hi.openInt
 obtain ⟨A1,c1,rfl,-⟩:=id ha.open
 obtain ⟨A2,c2,rfl,-⟩:=id hcv.open
 generalize hn:past.length=n at *
 (refine v_enter Tryz.func43 rfl Tryz.ntmps43 rfl ?_;intro B _)
 repeat' (first|apply v_box (zs:=hdL H.pr H.pn H.base (.slice A0 H.image.length c0) (.slice A1 H.acc.length c1) (.slice A2 H.cho.length c2));(case hx|hz|hd=>rfl);intro b|apply v_seq|apply v_region|apply v_nil)
 revert b
 intro hb
 refine d_start [(hb,.cells (hdL H.pr H.pn H.base (.slice A0 H.image.length c0) (.slice A1 H.acc.length c1) (.slice A2 H.cho.length c2)).toArray 27 (0,0))] (by kernel_rfl) (by kernel_rfl) (by kernel_rfl) (by intro e he;(simp at he;simp [he];done)) ?_
 all_goals (apply dtm 0;(case hi|hx=>rfl);(case hq=>kernel_rfl);apply dtm 1;(case hi|hx=>rfl);(case hq=>kernel_rfl))
 all_goals (apply dtn 2;(case hi|hx=>rfl);(case hq=>kernel_rfl);apply dtk 3;(case hi=>rfl);(case hop=>(apply prd;apply p_fieldAddrB<;>rfl));(case hq=>kernel_rfl))
 all_goals (apply dtk 5;(case hi=>rfl);(case hop=>first|apply r_loadNo;(case hx=>rfl);(case h=>repeat exact mhd _);(case hd=>repeat first|with_reducible exact dt_nil|apply dt_here);(case hn=>rfl)|apply r_load1;rfl;(apply Cell.own;(case h=>repeat fail);rfl)|apply r_loadN;rfl;(apply CellsAt.own;(case h=>repeat fail));rfl);(case hq=>kernel_rfl))
 focus
  refine d_fork 4 6 (by kernel_rfl) ?_ ?_
  rotate_right
  focus
   (apply x_buildSlice 6;(case hi=>rfl);(case hT=>infer_instance);(case hL=>infer_instance);(case hz|hl=>rfl);(case hv=>(simp only [List.map_cons,List.map_nil];repeat (first|with_reducible exact evs_nil|apply evs_cons;(case h1=>rfl))));(case hp=>(apply pk_cons;(case hc|hs=>rfl);(case h=>(with_reducible exact pk_nil));(case he=>((repeat (first|with_reducible exact ap_nil|apply ap_cons));done))));(case hb|hd=>rfl);(case hν=>intro e he;(simp at he;simp [he];done));intro sb)
   all_goals (apply d_keep 4 (hop:=ReadOp.move ?hop);(case hi=>rfl);(case hr=>kernel_rfl);(case hop=>(apply r_load1;rfl;(apply Cell.own;(case h=>repeat first|exact mhd _|apply mtl);rfl)));(case hd=>rfl))
   all_goals (apply d_append 7 (hg:=hgr) (q':=1) (us:=hdL H.pr H.pn H.base (.slice A0 H.image.length c0) (.slice A1 H.acc.length c1) (.slice A2 H.cho.length c2)) (hp:=PickA.perm (by repeat (first|exact PickA.here _|apply PickA.cons))) (hsrc:=Src.own (e:=27) (by repeat (exact mhd _)) rfl);(case hi=>rfl);(case hr=>kernel_rfl);(case hT=>infer_instance);(case hL=>infer_instance);(case hzs=>rfl);(case hsz=>omega);(case hs|hx=>rfl);(case hb=>omega);(case hb'=>simp only [maxLen];omega);(case hd|h1=>rfl);(case hν=>intro e he;(simp at he;simp [he];done));intro v5 n5 g5;obtain ⟨A5,c5,rfl,-,-⟩:=g5.shape)
   all_goals (apply dtn 8;(case hi|hx=>rfl);(case hq=>kernel_rfl);apply dtk 9;(case hi=>rfl);(case hop=>(apply prd;apply p_fieldAddrB<;>rfl));(case hq=>kernel_rfl))
   all_goals (apply d_store 10;(case hi=>rfl);(case hr=>kernel_rfl);(case hL=>infer_instance);(case hp|hx|hc|hsz|h1=>rfl);(case hb=>repeat first|exact mhd _|apply mtl|apply List.mem_append_right);(case hfit=>exact nle rfl);(case hov=>((repeat (first|with_reducible exact ov_nil|apply ov_cons));done));(case hu=>repeat first|exact Upd.here _ _|apply Upd.there|apply Upd.app);(case hν'=>intro e he;simp at he;simp [he]))
   all_goals (apply d_done;(case hr=>kernel_rfl))
  rotate_right
  focus
   (apply x_exec 4;(case hi=>rfl);(case hop=>exact ReadOp.move (r_load1 rfl (Cell.own (by repeat (first|exact mhd _|apply mtl)) rfl)));(case hd=>rfl);rintro _ G0 _ ⟨rfl,hG0,rfl⟩;subst G0;refine ⟨(by intro e he;rw [List.mem_singleton] at he;rw [he];repeat (exact mhd _)),?_⟩)
   all_goals (apply d_buildSlice 6;(case hi=>rfl);(case hr=>kernel_rfl);(case hT=>infer_instance);(case hL=>infer_instance);(case hz|hl=>rfl);(case hv=>(simp only [List.map_cons,List.map_nil];repeat (first|with_reducible exact evs_nil|apply evs_cons;(case h1=>rfl))));(case hp=>(apply pk_cons;(case hc|hs=>rfl);(case h=>(with_reducible exact pk_nil));(case he=>((repeat (first|with_reducible exact ap_nil|apply ap_cons));done))));(case hb|hd=>rfl);(case hν=>intro e he;(simp at he;simp [he];done));intro sb)
   all_goals (apply d_append 7 (hg:=hgr) (q':=1) (us:=hdL H.pr H.pn H.base (.slice A0 H.image.length c0) (.slice A1 H.acc.length c1) (.slice A2 H.cho.length c2)) (hp:=PickA.perm (by repeat (first|exact PickA.here _|apply PickA.cons))) (hsrc:=Src.own (e:=27) (by repeat (exact mhd _)) rfl);(case hi=>rfl);(case hr=>kernel_rfl);(case hT=>infer_instance);(case hL=>infer_instance);(case hzs=>rfl);(case hsz=>omega);(case hs|hx=>rfl);(case hb=>omega);(case hb'=>simp only [maxLen];omega);(case hd|h1=>rfl);(case hν=>intro e he;(simp at he;simp [he];done));intro v5 n5 g5;obtain ⟨A5,c5,rfl,-,-⟩:=g5.shape)
   all_goals (apply dtn 8;(case hi|hx=>rfl);(case hq=>kernel_rfl);apply dtk 9;(case hi=>rfl);(case hop=>(apply prd;apply p_fieldAddrB<;>rfl));(case hq=>kernel_rfl))
   all_goals (apply d_store 10;(case hi=>rfl);(case hr=>kernel_rfl);(case hL=>infer_instance);(case hp|hx|hc|hsz|h1=>rfl);(case hb=>repeat first|exact mhd _|apply mtl|apply List.mem_append_right);(case hfit=>exact nle rfl);(case hov=>((repeat (first|with_reducible exact ov_nil|apply ov_cons));done));(case hu=>repeat first|exact Upd.here _ _|apply Upd.there|apply Upd.app);(case hν'=>intro e he;simp at he;simp [he]))
   all_goals (apply d_done;(case hr=>kernel_rfl))
 all_goals
  (refine v_drop (ν:=n5++(pb,.cells [Value.slice A5 (n+1) c5,.slice AF n cF].toArray 88 (0,0))::νF) (List.Sublist.append_left (List.Sublist.cons _ (List.Sublist.cons _ (List.Sublist.refl _))) _) ?_)
 all_goals repeat' (first|apply v_region|apply v_nil|apply v_pure;(case hop=>first|apply p_move<;>rfl|apply p_fieldAddrB<;>rfl|apply p_nilCheck<;>rfl);(case hd=>rfl)|apply v_append (hg:=hgF) (m':=1) (us:=[.int .i64 f]) (hp:=PickA.perm (by repeat (first|exact PickA.last|apply PickA.cons|apply PickA.app))) (hsrc:=Src.own (e:=3) (by repeat (exact mhd _)) rfl);(case hzs=>rfl);(case hsz=>omega);(case hs|hx=>rfl);(case hb=>omega);(case hb'=>simp only [maxLen];omega);(case hd|h1=>rfl);intro v6 n6 g6;obtain ⟨A6,c6,rfl,-,-⟩:=g6.shape|apply v_read;(case hop=>(apply r_load1;rfl;(apply Cell.own;(case h=>repeat first|exact mhd _|apply List.mem_append_right);rfl)));(case hd=>rfl)|apply v_buildSlice;(case hz|hi=>rfl);(case hv=>(simp only [List.map_cons,List.map_nil];repeat (first|with_reducible exact evs_nil|apply evs_cons;(case h1=>rfl))));(case hp=>(apply pk_cons;(case hc|hs=>rfl);(case h=>(with_reducible exact pk_nil));(case he=>((repeat (first|with_reducible exact ap_nil|apply ap_cons));done))));(case hb|hd=>rfl);intro b|apply v_store;(case hp|hx|hc|hsz|h1=>rfl);(case hb=>repeat first|exact mhd _|apply mtl|apply List.mem_append_right);(case hfit=>exact nle rfl);(case hov=>((repeat (first|with_reducible exact ov_nil|apply ov_cons));done));(case hu=>repeat first|exact Upd.here _ _|apply Upd.there|apply Upd.app)|fail)
 all_goals
  (refine v_perm (ν:=(b,.cells #[.int .i64 f] 3 (0,0))::(pb,.cells #[Value.slice A5 (n+1) c5,.slice A6 (n+1) c6] 88 (0,0))::(n5++n6)) (by apply perm_of_count;intro p;simp only [List.append_eq,List.countP_append,List.countP_cons,List.countP_nil,Nat.zero_add,Nat.add_zero];try ac_rfl) ?_
   refine v_drop (ν:=(pb,.cells #[Value.slice A5 (n+1) c5,.slice A6 (n+1) c6] 88 (0,0))::(n5++n6)) (List.sublist_cons_self _ _) ?_
   refine v_end ((pb,.cells #[Value.slice A5 (n+1) c5,.slice A6 (n+1) c6] 88 (0,0))::(n5++n6)) (outsA0 rfl) (List.Sublist.refl _) ?_
   refine ⟨rfl,_,_,n5,n6,?_,?_,rfl⟩)
 all_goals first
  |(rw [List.map_append]
    exact GrL.snoc (R:=HdV G) (x:=H) (by rw [List.length_map,hn];exact hc1) hc2 (by rw [List.length_map,hn];exact g5) rfl hL0)
  |(rw [List.map_append,List.map_append,List.length_append,hn]
    exact g6)
theorem one_past {pb lb fb:Nat}{G:GH}{f:Int}{H:Hd}{L:List Value}(hL:HdV G H L):PaM pb [(f,H)] G [(pb,.cells [Value.slice (some ⟨lb,0,none⟩) 1 1,.slice (some ⟨fb,0,none⟩) 1 1].toArray 88 (0,0)),(lb,.cells L.toArray 27 (0,0)),(fb,.cells [Value.int .i64 f].toArray 3 (0,0))]:=by
 have hL0:=hL
 obtain ⟨iv,av,cv,rfl,hi,ha,hcv⟩:=hL
 obtain ⟨A0,c0,rfl,-⟩:=id hi.openInt
 obtain ⟨A1,c1,rfl,-⟩:=id ha.open
 obtain ⟨A2,c2,rfl,-⟩:=id hcv.open
 refine ⟨.slice (some ⟨lb,0,none⟩) 1 1,.slice (some ⟨fb,0,none⟩) 1 1,[(lb,_)],[(fb,_)],⟨[hdL H.pr H.pn H.base (.slice A0 H.image.length c0) (.slice A1 H.acc.length c1) (.slice A2 H.cho.length c2)],rfl,?_,⟨rfl,.inr ⟨lb,1,[],rfl,rfl,Nat.le_refl _,by simp [maxLen],rfl⟩⟩⟩,⟨rfl,.inr ⟨fb,1,[],rfl,rfl,Nat.le_refl _,by simp [maxLen],rfl⟩⟩,rfl⟩
 intro i x cs hx hc
 cases i with
 | zero =>
  simp at hx hc
  subst hx;subst hc
  exact ⟨rfl,hL0⟩
 | succ i=>simp at hx
theorem pnew_s (G:GH):Con Tryz.prog 39 #[] G [] (fun r G' μ'=>G'=G∧∃ pb,r=.pointer (some ⟨pb,0,none⟩)∧PaM pb [(1,Hd.zero)] G μ'):=by
 (refine v_enter Tryz.func39 rfl Tryz.ntmps39 rfl ?_;intro B _)
 repeat' (first|apply v_seq|apply v_region|apply v_nil|apply v_pure;(case hop=>first|apply p_assign<;>rfl|apply p_build;(case hz=>rfl);(case hv=>(simp only [List.map_cons,List.map_nil];repeat (first|with_reducible exact evs_nil|apply evs_cons;(case h1=>rfl))));(case hb=>(apply bldL;repeat (first|exact bld_nil|apply bld_cons;(case hpf|hc|hs|hl=>rfl);(case ho=>((repeat (first|with_reducible exact ov_nil|apply ov_cons));done))))));(case hd=>rfl)|apply v_buildSlice;(case hz|hi=>rfl);(case hv=>(simp only [List.map_cons,List.map_nil];repeat (first|with_reducible exact evs_nil|apply evs_cons;(case h1=>rfl))));(case hp=>(apply pk_cons;(case hc|hs=>rfl);(case h=>(with_reducible exact pk_nil));(case he=>((repeat (first|with_reducible exact ap_nil|apply ap_cons));done))));(case hb|hd=>rfl);intro b|apply v_box;(case hx|hz|hd=>rfl);intro b|fail)
 revert b
 intro pb
 revert b
 intro fb
 revert b
 intro lb
 refine v_perm (ν:=[(pb,.cells [Value.slice (some ⟨lb,0,none⟩) 1 1,.slice (some ⟨fb,0,none⟩) 1 1].toArray 88 (0,0)),(lb,.cells (hdL 0 0 0 (.slice none 0 0) (.slice none 0 0) (.slice none 0 0)).toArray 27 (0,0)),(fb,.cells [Value.int .i64 1].toArray 3 (0,0))]) (by apply perm_of_count;intro p;simp only [List.append_eq,List.countP_append,List.countP_cons,List.countP_nil,Nat.zero_add,Nat.add_zero];try ac_rfl) ?_
 refine v_ret [(pb,_),(lb,_),(fb,_)] (outsA1 rfl rfl) (List.Sublist.refl _) ⟨rfl,pb,rfl,one_past (hd_zero _)⟩
theorem pkeep_s {pb:Nat}{pre:List (Int×Hd)}{f:Int}{H:Hd}{G:GH}{μ:OH}(h:PaM pb (pre++[(f,H)]) G μ):Con Tryz.prog 42 #[.pointer (some ⟨pb,0,none⟩)] G μ (fun _ G' μ'=>G'=G∧PaM pb [(f,H)] G μ'):=by
 have ql:=plast_s h
 obtain ⟨Lv,Fv,νL,νF,hgL,hgF,rfl⟩:=h
 obtain ⟨css,hc1,hc2,hgr⟩:=id hgL
 obtain ⟨AL,cL,rfl,hA,hA2⟩:=hgr.shape
 obtain ⟨AF,cF,rfl,hB,hB2⟩:=hgF.shape
 (refine v_enter Tryz.func42 rfl Tryz.ntmps42 rfl ?_;intro B _)
 repeat' (first|apply v_seq|apply v_region|apply v_pure;(case hop=>(apply p_move<;>rfl));(case hd=>rfl)|fail)
 refine v_call (μ1:=_) (μ2:=[]) rfl ql (by rw [List.append_nil]) rfl ?_
 rintro _ G1 _ - ⟨hG1,rfl,L,rfl,hL⟩
 subst hG1
 have hL0:=hL
 obtain ⟨iv,av,cv,rfl,hi,ha,hcv⟩:=hL
 obtain ⟨A0,c0,rfl,-⟩:=id hi.openInt
 obtain ⟨A1,c1,rfl,-⟩:=id ha.open
 obtain ⟨A2,c2,rfl,-⟩:=id hcv.open
 repeat' (first|apply v_seq|apply v_region|apply v_nil|apply v_pure;(case hop=>first|apply p_move<;>rfl|apply p_assign<;>rfl|apply p_fieldAddrB<;>rfl|apply p_nilCheck<;>rfl|apply p_extract0<;>rfl|apply p_extract1<;>rfl|fail);(case hd=>rfl)|apply v_read;(case hop=>(apply r_loadNo;(case hx=>rfl);(case h=>repeat exact mhd _);(case hd=>repeat first|with_reducible exact dt_nil|apply dt_here);(case hn=>rfl)));(case hd=>rfl)|apply v_buildSlice;(case hz|hi=>rfl);(case hv=>(simp only [List.map_cons,List.map_nil];repeat (first|with_reducible exact evs_nil|apply evs_cons;(case h1=>rfl))));(case hp=>(apply pk_cons;(case hc|hs=>rfl);(case h=>(with_reducible exact pk_nil));(case he=>((repeat (first|with_reducible exact ap_nil|apply ap_cons));done))));(case hb|hd=>rfl);intro b|apply v_alloc;(case hz|hd=>rfl);intro b|apply v_store;(case hp|hx|hc|hsz|h1=>rfl);(case hb=>repeat first|exact mhd _|apply mtl);(case hfit=>exact nle rfl);(case hov=>((repeat (first|with_reducible exact ov_nil|apply ov_cons));done));(case hu=>repeat first|exact Upd.here _ _|apply Upd.there)|fail)
 revert b
 intro fb
 revert b
 intro lb
 revert b
 intro hb
 refine v_drop (ν:=[(fb,.cells #[.int .i64 f] 3 (0,0)),(lb,.cells (hdL H.pr H.pn H.base (.slice A0 H.image.length c0) (.slice A1 H.acc.length c1) (.slice A2 H.cho.length c2)).toArray 27 (0,0)),(pb,.cells #[.slice (some ⟨lb,0,none⟩) 1 1,.slice (some ⟨fb,0,none⟩) 1 1] 88 (0,0))]) (List.Sublist.cons_cons _ (List.Sublist.cons_cons _ (List.Sublist.cons _ (List.Sublist.cons_cons _ (List.nil_sublist _))))) ?_
 refine v_perm (ν:=[(pb,.cells #[.slice (some ⟨lb,0,none⟩) 1 1,.slice (some ⟨fb,0,none⟩) 1 1] 88 (0,0)),(lb,.cells (hdL H.pr H.pn H.base (.slice A0 H.image.length c0) (.slice A1 H.acc.length c1) (.slice A2 H.cho.length c2)).toArray 27 (0,0)),(fb,.cells #[.int .i64 f] 3 (0,0))]) (by apply perm_of_count;intro p;simp only [List.append_eq,List.countP_append,List.countP_cons,List.countP_nil,Nat.zero_add,Nat.add_zero];try ac_rfl) ?_
 refine v_end [(pb,_),(lb,_),(fb,_)] (outsA0 rfl) (List.Sublist.refl _) ⟨rfl,one_past hL0⟩
structure Stp where
 kind:Int
 n:Int
 m:Int
 x:Rc
def StpR (G:GH) (s:Stp) (cs:List Value):Prop := ∃ iv,cs=.int .i64 s.kind::.int .i64 s.n::.int .i64 s.m::recL s.x.kind s.x.round s.x.node s.x.index s.x.cmd iv∧s.x.cmd.ok∧s.x.small∧Sl G 1 (IntR .u8) iv s.x.image
abbrev Stps (G:GH) (v:Value) (l:List Stp):Prop:=Sl G 15 (StpR G) v l
theorem stpOpen {G:GH}{v:Value}{l:List Stp}(h:Stps G v l):∃ A c,∃ (iv:Nat→Value),v=.slice A l.length c∧l.length≤c∧c≤maxLen∧(0<l.length→A.isSome=true) ∧
 (∀ i (h:i<l.length),CellsG G ((adr A).add (i*15)) (.int .i64 l[i].kind::.int .i64 l[i].n::.int .i64 l[i].m::recL l[i].x.kind l[i].x.round l[i].x.node l[i].x.index l[i].x.cmd (iv i))) ∧
 (∀ i (h:i<l.length),l[i].x.cmd.ok∧l[i].x.small∧Sl G 1 (IntR .u8) (iv i) l[i].x.image):=by
 obtain ⟨A,c,rfl,h1,h2,h3,h4⟩:=h.open
 have hk:∀ i,∃ p:Value,∀ h:i<l.length,CellsG G ((adr A).add (i*15)) (.int .i64 l[i].kind::.int .i64 l[i].n::.int .i64 l[i].m::recL l[i].x.kind l[i].x.round l[i].x.node l[i].x.index l[i].x.cmd p)∧l[i].x.cmd.ok∧l[i].x.small∧Sl G 1 (IntR .u8) p l[i].x.image:=fun i=>by
  by_cases hi:i<l.length
  ·obtain ⟨cs,_,⟨iv,rfl,q⟩,h5⟩:=h4 i _ (List.getElem?_eq_getElem hi)
   exact ⟨iv,fun _=>⟨h5,q⟩⟩
  ·exact ⟨.slice none 0 0,fun h=>absurd h hi⟩
 exact ⟨A,c,fun i=>Classical.choose (hk i),rfl,h1,h2,h3,fun i h=>(Classical.choose_spec (hk i) h).1,fun i h=>(Classical.choose_spec (hk i) h).2⟩
theorem el_stp {H:Type}{enc:TypeId×Value→H}{W:World}:Elem enc Tryz.prog W 80 (StpR (ghost W)):=by
 intro fuel cs x hf
 have h1:=el_flen (n:=15) Tryz.underlying80 (by kernel_rfl) hf
 obtain ⟨k,hk,wk⟩:=el_fld (i:=0) (sz:=1) (by kernel_rfl) (el_int Tryz.underlying3) hf
 obtain ⟨n,hn,wn⟩:=el_fld (i:=1) (sz:=1) (by kernel_rfl) (el_int Tryz.underlying3) hf
 obtain ⟨m,hm,wm⟩:=el_fld (i:=2) (sz:=1) (by kernel_rfl) (el_int Tryz.underlying3) hf
 obtain ⟨y,iv,hy,ho,hs,hi⟩:=el_fld (i:=3) (sz:=12) (by kernel_rfl) el_rec hf
 match cs,h1 with
 | [c0,c1,c2,c3,c4,c5,c6,c7,c8,c9,c10,c11,c12,c13,c14],_ =>
  simp only [List.drop_succ_cons,List.drop_zero,List.take_succ_cons,List.take_zero,List.cons.injEq,and_true] at hk hn hm hy
  subst hk;subst hn;subst hm
  exact ⟨⟨k,n,m,y⟩,iv,by rw [← hy],ho,hs,hi⟩
set_option maxRecDepth 100000 in
theorem arg_t75 {H:Type}{enc:TypeId×Value→H}{W:World}{base:Nat}{v:Value}{d:DataW H}{p:List MemPlace}(hv:Value.okWide Tryz.prog W .any base 75 v) (h:DataW.Trod enc Tryz.prog W 0 (fun _=>true) true 75 v d p):∃ l,Stps (ghost W) v l :=
 arg_slice Tryz.underlying75 (by kernel_rfl) el_stp hv h
end Go.Proofs.YtpemabgfmnhhnaaGreatDoor
