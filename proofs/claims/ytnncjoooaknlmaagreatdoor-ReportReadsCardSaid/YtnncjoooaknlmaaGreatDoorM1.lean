/-
  VX, THE CORE: a calculus of steps over the kit's 'Code.wp': what a function's temporaries hold is a list of pairs (slot, value), and what is left to be done is a list of items.
-/
import Derived.WalkKit
import Derived.Deep.Draws
import Derived.RangeFuncRecord
import Derived.TacticsIn
import Derived.OrdersIn
import Derived.WalkSpells
import Derived.WalkLawsBesides
import Derived.OrdersHeld
import Derived.IntWalk
import Derived.Laws.StructEq
import Derived.Deep.Slices
import Derived.ProofKit
import Derived.OpenShut
import Derived.ShutString
import Derived.ChangeOld
import Derived.Below
import Derived.Scope
import Derived.Maps.RangeRun
import Derived.Maps.Keyed
import Derived.RangeFuncOwn
import Derived.Lib.AppendZerosOnto
import Derived.Lib.Overlaps
import Derived.Laws.MakeOwn
import Derived.WideKeyRuns
set_option linter.unusedVariables false
set_option linter.unusedSimpArgs false
set_option linter.unusedSectionVars false
namespace Go.Vx
open Go
abbrev Env:=List (Nat×Value)
def Env.get:Env→Nat→Option Value
 | [],_=>none
 |(j,v)::σ,i=>bif Nat.beq j i then some v else Env.get σ i
def Env.ev (σ:Env):Operand→Option Value
 | .tmp t=>Env.get σ t
 | .const v=>some v
 | .global g=>some (.pointer (some ⟨g,0,none⟩))
 | .func f=>some (.func (.func f) #[] #[])
def Env.gets (σ:Env):List Nat→Option (List Value)
 | []=>some []
 | t::ts=>(Env.get σ t).bind fun v=>(Env.gets σ ts).map fun vs=>v::vs
def Env.evs (σ:Env):List Operand→Option (List Value)
 | []=>some []
 | t::ts=>(Env.ev σ t).bind fun v=>(Env.evs σ ts).map fun vs=>v::vs
def Env.init:Nat→List Value→Env
 | _,[] => []
 | i,v::vs=>(i,v)::Env.init (i+1) vs
structure Holds (ds:List Deferred) (n:Nat) (σ:Env) (a:Act):Prop where
 defers:a.defers=ds
 size:a.tmps.size=n
 get:∀ i v,Env.get σ i=some v→a.tmps.getD i undef=v
theorem nbeq_false {i j:Nat}(h:¬ i=j):Nat.beq i j=false:=by
 cases hb:Nat.beq i j with
 | false=>rfl
 | true=>exact absurd (Nat.eq_of_beq_eq_true hb) h
theorem Env.get_cons (j:Nat) (v:Value) (σ:Env) (i:Nat):Env.get ((j,v)::σ) i=if j=i then some v else Env.get σ i:=by
 simp only [Env.get]
 by_cases h:j=i
 ·subst h;simp
 ·rw [nbeq_false h];simp [h]
section
variable {ds:List Deferred}{n:Nat}{σ σ':Env}{a:Act}
theorem Holds.put (h:Holds ds n σ a) {d:Nat}(hd:d<n) (v:Value):Holds ds n ((d,v)::σ) (a.put (some d) v):=by
 obtain ⟨h1,h2,h3⟩:=h
 refine ⟨h1,by simp [Act.put,h2],fun i u hi=>?_⟩
 rw [Env.get_cons] at hi
 by_cases hdi:d=i
 ·subst hdi
  simp at hi
  subst hi
  simp [Act.put,h2,hd]
 ·rw [if_neg hdi] at hi
  have:=h3 i u hi
  simp only [Act.put]
  rw [← this]
  simp [Array.getD_eq_getD_getElem?,Array.getElem?_setIfInBounds_ne hdi]
theorem Holds.putNone (h:Holds ds n σ a) (v:Value):Holds ds n σ (a.put none v):=h
theorem Holds.ev (h:Holds ds n σ a) {x:Operand}{v:Value}(hx:Env.ev σ x=some v):a.eval x=v:=by
 cases x with
 | tmp t=>exact h.get t v hx
 | const c=>simpa [Env.ev,Act.eval] using hx
 | global g=>simpa [Env.ev,Act.eval] using hx
 | func f=>simpa [Env.ev,Act.eval] using hx
theorem Holds.sub (h:Holds ds n σ a) (hs:∀ i v,Env.get σ' i=some v→Env.get σ i=some v):Holds ds n σ' a:=⟨h.defers,h.size,fun i v hi=>h.get i v (hs i v hi)⟩
theorem gets_zip:∀ {S:List Nat}{vs:List Value},Env.gets σ S=some vs→∀ i v,Env.get (S.zip vs) i=some v→Env.get σ i=some v
 | [],vs,_,i,v,hi=>by simp [Env.get] at hi
 | t::S,vs,h,i,v,hi=>by
  simp only [Env.gets] at h
  cases h1:Env.get σ t with
  | none=>simp [h1] at h
  | some u =>
   cases h2:Env.gets σ S with
   | none=>simp [h1,h2] at h
   | some us =>
    simp only [h1,h2,Option.bind_some,Option.map_some,Option.some.injEq] at h
    subst h
    simp only [List.zip_cons_cons] at hi
    rw [Env.get_cons] at hi
    by_cases hti:t=i
    ·subst hti;simpa [h1] using hi
    ·rw [if_neg hti] at hi;exact gets_zip h2 i v hi
theorem Holds.init (args:Array Value) (m:Nat) (h:args.size≤m):Holds [] m (Env.init 0 args.toList) { tmps:=args++Array.replicate (m-args.size) undef,defers:=[] }:=by
 have key:∀ (l:List Value) (k i:Nat) (v:Value),Env.get (Env.init k l) i=some v→k≤i∧l[i-k]? = some v:=by
  intro l
  induction l with
  | nil=>intro k i v h;simp [Env.init,Env.get] at h
  | cons x l ih =>
   intro k i v h
   rw [Env.init,Env.get_cons] at h
   by_cases hki:k=i
   ·subst hki;simp at h;simp [h]
   ·rw [if_neg hki] at h
    obtain ⟨h1,h2⟩:=ih (k+1) i v h
    refine ⟨by omega,?_⟩
    have:i-k=(i-(k+1))+1:=by omega
    rw [this];simpa using h2
 refine ⟨rfl,by simp;omega,fun i v hi=>?_⟩
 obtain ⟨_,h2⟩:=key _ _ _ _ hi
 simp only [Nat.sub_zero] at h2
 have hlt:i<args.size:=by
  rcases Nat.lt_or_ge i args.size with h'|h'
  ·exact h'
  ·rw [List.getElem?_eq_none (by simpa using h')] at h2;cases h2
 have hv:args[i]? = some v:=by simpa using h2
 have hv':args[i]=v:=by rw [Array.getElem?_eq_getElem hlt] at hv;simpa using hv
 simp [Array.getElem?_append,hlt,hv']
end
inductive It where
 | code (c:Code)
 | ops (all:Array Oper) (l:List Oper)
 | blk (id:Nat)
 | again (S:List Nat) (I:List Value→World→Prop)
def Back (V:Value→World→Prop) (e:Ending) (w:World):Prop := ∃ v,e=.returned v∧V v w
def Ret (P:Program) (f:FuncId) (args:Array Value) (w:World) (V:Value→World→Prop):Prop:=Calls P f args w (Back V)
theorem Ret.mono {P:Program}{f:FuncId}{args:Array Value}{w:World}{V V':Value→World→Prop}(h:Ret P f args w V) (hv:∀ v w',V v w'→V' v w'):Ret P f args w V' :=
 Calls.mono h fun _ _ ⟨v,he,hV⟩=>⟨v,he,hv _ _ hV⟩
def RF (r:Option Nat):Fence:={ Fence.wide with round:=r }
theorem calls_RF {r:Option Nat}{P:Program}{f:FuncId}{args:Array Value}{w:World}{R:Ending→World→Prop}{m:Nat}:CallsIn (RF r) m P f args w R↔Calls P f args w R:=callsIn_wide (n:=m)
theorem fn_RF {r:Option Nat}{P:Program}{o:Oper}{w:World}{ρ:Operand→Value}:∀ f,o.about P w ρ=some f→(RF r).fn f:=fun _ _=>trivial
structure RK where
 r:Option Nat
 ds:List Deferred
 post:(Value→World→Prop)→Exit→Act→World→Prop
 noPanic:∀ V c a w,¬ post V (.panic c) a w
 noGoto:∀ V l a w,¬ post V (.goto l) a w
 noOut:∀ V a w,¬ post V .outgrown a w
def mark (D:Nat):Deferred:={ target:=.collected D,args:=#[] }
def fnPost (P:Program) (fn:Func) (V:Value→World→Prop):Exit→Act→World→Prop
 | .normal,a,w | .ret,a,w=>LeavesInM (RF none) 0 P fn a.tmps (Back V) a.defers .returning w
 | _,_,_=>False
def RK.fn (P:Program) (fn:Func) (Ds:List Nat):RK:=⟨none,Ds.map mark,fnPost P fn,fun _ _ _ _ h=>h,fun _ _ _ _ h=>h,fun _ _ _ h=>h⟩
def roundEnd (V:Value→World→Prop):Exit→Act→World→Prop
 | .normal,_,w=>V (.bool true) w
 | .ret,_,w=>V (.bool false) w
 | .exit id,_,w=>V (.int .i64 (id:Nat)) w
 | _,_,_=>False
def RK.round (l:Nat):RK:=⟨some l,[],roundEnd,fun _ _ _ _ h=>h,fun _ _ _ _ h=>h,fun _ _ _ h=>h⟩
section
variable (P:Program) (K:RK) (n:Nat) (V:Value→World→Prop)
def Kont:List It→Exit→Act→World→Prop
 | [],e,a,w=>K.post V e a w
 | .code c::k,.normal,a,w=>c.wpIn (RF K.r) 0 P (Kont k) a w
 | .ops all l::k,.normal,a,w=>wpListIn (RF K.r) 0 P all (Kont k) l a w
 | .blk _::k,.normal,a,w=>Kont k .normal a w
 | .blk id::k,.exit id',a,w=>if id'=id then Kont k .normal a w else Kont k (.exit id') a w
 | .again S I::_,.normal,a,w=>∃ vs,Holds K.ds n (S.zip vs) a∧vs.length=S.length∧I vs w
 | _::k,e,a,w=>Kont k e a w
end
def Run (P:Program) (K:RK) (n:Nat) (V:Value→World→Prop) (k:List It) (σ:Env) (w:World):Prop :=
 ∀ a:Act,Holds K.ds n σ a→Kont P K n V k .normal a w
def popTo (id:Nat):List It→Option (List It)
 | []=>none
 | .blk id'::k=>bif Nat.beq id' id then some k else popTo id k
 | _::k=>popTo id k
section rules
variable {P:Program}{K:RK}{n:Nat}{V:Value→World→Prop}{k k':List It}{σ σ':Env}{w:World}
theorem Run.weaken (hs:∀ i v,Env.get σ' i=some v→Env.get σ i=some v) (h:Run P K n V k σ' w):Run P K n V k σ w:=fun a ha=>h a (ha.sub hs)
theorem enter {fn:Func}{f:FuncId}{c:Code}{args:Array Value}(hf:P.funcs[f]? = some fn) (hb:fn.body=some c) (hn:fn.ntmps=n) (hm:Nat.ble args.size n=true)
 (h:Run P (RK.fn P fn []) n V [.code c] (Env.init 0 args.toList) w):Ret P f args w V:=by
 have hm':args.size≤n:=Nat.le_of_ble_eq_true hm
 refine (calls_RF (r:=none) (m:=0)).1 (callsIn_of_wp_marks hf hb trivial ?_ rfl)
 rw [hn]
 have h0:c.wpIn (RF none) 0 P (Kont P (RK.fn P fn []) n V []) _ w:=h _ (Holds.init args n hm')
 refine wpIn_mono h0 fun e a w hq=>?_
 cases e with
 | normal=>exact hq
 | ret=>exact hq
 | _=>exact hq.elim
theorem run_seq {x y:Code}(h:Run P K n V (.code x::.code y::k) σ w):Run P K n V (.code (.seq x y)::k) σ w:=by
 intro a ha
 refine wpIn_seq (wpIn_mono (h a ha) fun e a w hq=>?_)
 cases e<;>simpa [Kont,Exit.then] using hq
theorem run_skip (h:Run P K n V k σ w):Run P K n V (.code .skip::k) σ w:=fun a ha=>wpIn_skip (h a ha)
theorem run_block {id:Nat}{c:Code}(h:Run P K n V (.code c::.blk id::k) σ w):Run P K n V (.code (.block id c)::k) σ w:=by
 intro a ha
 refine wpIn_block (wpIn_mono (h a ha) fun e a w hq=>?_)
 cases e<;>simpa [Kont,Exit.inBlock] using hq
theorem run_blk {id:Nat}(h:Run P K n V k σ w):Run P K n V (.blk id::k) σ w:=fun a ha=>h a ha
theorem kont_pop {id:Nat}:∀ {k k':List It},popTo id k=some k'→∀ a w,Kont P K n V k' .normal a w→Kont P K n V k (.exit id) a w
 | [],k',h,a,w,_=>by simp [popTo] at h
 | .code c::k,k',h,a,w,hk=>by simp only [popTo] at h;exact kont_pop h a w hk
 | .ops all l::k,k',h,a,w,hk=>by simp only [popTo] at h;exact kont_pop h a w hk
 | .again S I::k,k',h,a,w,hk=>by simp only [popTo] at h;exact kont_pop h a w hk
 | .blk id'::k,k',h,a,w,hk=>by
  simp only [popTo] at h
  by_cases hid:id'=id
  ·subst hid
   simp at h
   subst h
   simpa [Kont] using hk
  ·rw [nbeq_false hid] at h
   have hne:¬ id=id':=fun e=>hid e.symm
   simp only [Kont,hne,if_false]
   exact kont_pop h a w hk
theorem run_exit {id:Nat}(hp:popTo id k=some k') (h:Run P K n V k' σ w):Run P K n V (.code (.exit id)::k) σ w :=
 fun a ha=>wpIn_exit (kont_pop hp a w (h a ha))
theorem kont_ret:∀ {k:List It}(a:Act) (w:World),K.post V .ret a w→Kont P K n V k .ret a w
 | [],a,w,h=>h
 | .code c::k,a,w,h=>by simp only [Kont];exact kont_ret a w h
 | .ops all l::k,a,w,h=>by simp only [Kont];exact kont_ret a w h
 | .again S I::k,a,w,h=>by simp only [Kont];exact kont_ret a w h
 | .blk id'::k,a,w,h=>by simp only [Kont];exact kont_ret a w h
theorem kont_panic {c:List PanicEntry}:∀ {k:List It}(a:Act) (w:World),Kont P K n V k (.panic c) a w→False
 | [],a,w,h=>K.noPanic _ _ _ _ h
 | .code c::k,a,w,h=>by simp only [Kont] at h;exact kont_panic a w h
 | .ops all l::k,a,w,h=>by simp only [Kont] at h;exact kont_panic a w h
 | .again S I::k,a,w,h=>by simp only [Kont] at h;exact kont_panic a w h
 | .blk id'::k,a,w,h=>by simp only [Kont] at h;exact kont_panic a w h
theorem kont_out:∀ {k:List It}(a:Act) (w:World),Kont P K n V k .outgrown a w→False
 | [],a,w,h=>K.noOut _ _ _ h
 | .code c::k,a,w,h=>by simp only [Kont] at h;exact kont_out a w h
 | .ops all l::k,a,w,h=>by simp only [Kont] at h;exact kont_out a w h
 | .again S I::k,a,w,h=>by simp only [Kont] at h;exact kont_out a w h
 | .blk id'::k,a,w,h=>by simp only [Kont] at h;exact kont_out a w h
def Outs (P:Program) (fn:Func) (n:Nat) (σ:Env) (w:World) (v:Value):Prop := ∀ ds (a:Act),Holds ds n σ a→(results fn a.tmps).run P w=.ok v w
section
variable {fn:Func}
theorem outs0 (hr:fn.results = #[]):Outs P fn n σ w (.tuple #[]):=fun _ a _=>results_none hr a.tmps P w
theorem outs1 {t:Nat}{v:Value}(hr:fn.results = #[.tmp t]) (hv:Env.get σ t=some v):Outs P fn n σ w v:=fun _ a ha=>by
 rw [results_tmp hr,ha.get _ _ hv]
theorem outs2 {t u:Nat}{v x:Value}(hr:fn.results = #[.tmp t,.tmp u]) (hv:Env.get σ t=some v) (hx:Env.get σ u=some x):Outs P fn n σ w (.tuple #[v,x]):=fun _ a ha=>by
 rw [results_tmp2 hr,ha.get _ _ hv,ha.get _ _ hx]
theorem outs3 {t u s:Nat}{v x y:Value}(hr:fn.results = #[.tmp t,.tmp u,.tmp s]) (hv:Env.get σ t=some v) (hx:Env.get σ u=some x) (hy:Env.get σ s=some y):Outs P fn n σ w (.tuple #[v,x,y]):=fun _ a ha=>by
 have h1:=ha.get _ _ hv
 have h2:=ha.get _ _ hx
 have h3:=ha.get _ _ hy
 simp only [Array.getD_eq_getD_getElem?] at h1 h2 h3
 simp [results,hr,h1,h2,h3]
end
theorem run_condT {c:Operand}{x y:Code}(hc:Env.ev σ c=some (.bool true)) (h:Run P K n V (.code x::k) σ w):Run P K n V (.code (.cond c x y)::k) σ w :=
 fun a ha=>wpIn_cond_true (ha.ev hc) (h a ha)
theorem run_condF {c:Operand}{x y:Code}(hc:Env.ev σ c=some (.bool false)) (h:Run P K n V (.code y::k) σ w):Run P K n V (.code (.cond c x y)::k) σ w :=
 fun a ha=>wpIn_cond_false (ha.ev hc) (h a ha)
theorem run_cond {c:Operand}{x y:Code}{b:Bool}(hc:Env.ev σ c=some (.bool b)) (ht:b=true→Run P K n V (.code x::k) σ w) (hf:b=false→Run P K n V (.code y::k) σ w):Run P K n V (.code (.cond c x y)::k) σ w :=
 fun a ha=>wpIn_cond_split (ha.ev hc) (fun h=>ht h a ha) (fun h=>hf h a ha)
theorem run_region {id:Nat}{l:List Oper}(h:Run P K n V (.ops l.toArray l::k) σ w):Run P K n V (.code (.region id l.toArray false)::k) σ w :=
 fun a ha=>wpIn_region_lit (h a ha)
theorem run_nil {all:Array Oper}(h:Run P K n V k σ w):Run P K n V (.ops all []::k) σ w:=fun a ha=>wpListIn_nil (h a ha)
theorem run_again {S:List Nat}{I:List Value→World→Prop}{vs:List Value}(hg:Env.gets σ S=some vs) (hI:I vs w):Run P K n V (.again S I::k) σ w:=by
 intro a ha
 refine ⟨vs,ha.sub (gets_zip hg),?_,hI⟩
 have:∀ {S:List Nat} {vs:List Value},Env.gets σ S=some vs→vs.length=S.length:=by
  intro S
  induction S with
  | nil=>intro vs h;simp [Env.gets] at h;simp [h]
  | cons t S ih =>
   intro vs h
   simp only [Env.gets] at h
   cases h1:Env.get σ t with
   | none=>simp [h1] at h
   | some u =>
    cases h2:Env.gets σ S with
    | none=>simp [h1,h2] at h
    | some us=>simp only [h1,h2,Option.bind_some,Option.map_some,Option.some.injEq] at h;subst h;simp [ih h2]
 exact this hg
theorem least {p:Nat→Prop}(h:∃ n,p n):∃ n,p n∧∀ m,p m→n≤m:=by
 obtain ⟨n,hn⟩:=h
 induction n using Nat.strongRecOn with
 | _ n ih =>
  by_cases hx:∃ m,m<n∧p m
  ·obtain ⟨m,hm,hp⟩:=hx
   exact ih m hm hp
  ·exact ⟨n,hn,fun m hp=>Nat.le_of_not_lt fun hlt=>hx ⟨m,hlt,hp⟩⟩
open Classical in
theorem wp_loop_fam {F:Fence}{m:Nat}{ι:Type}{c:Code}{Q:Exit→Act→World→Prop}(J:ι→Act→World→Prop) (μ:ι→Nat) {i0:ι}{a:Act}{w:World}(h0:J i0 a w)
 (round:∀ i a w,J i a w→c.wpIn F m P (Exit.then (fun a' w'=>∃ j,J j a' w'∧μ j<μ i) Q) a w):(Code.loop c).wpIn F m P Q a w:=by
 let E:Act→World→Prop:=fun a w=>∃ x,∃ i,J i a w∧μ i=x
 let f:Act→World→Nat:=fun a w=>if h:E a w then Classical.choose (least h) else 0
 have fe:∀ a w (h:E a w),f a w=Classical.choose (least h):=fun a w h=>by simp only [f];rw [dif_pos h]
 refine wpIn_loop E f ⟨_,i0,h0,rfl⟩ ?_
 intro a w hE
 have hs:=Classical.choose_spec (least hE)
 rw [← fe a w hE] at hs
 obtain ⟨⟨i,hi,hm⟩,-⟩:=hs
 refine wpIn_mono (round i a w hi) fun e a' w' hq=>?_
 cases e with
 | normal =>
  obtain ⟨j,hj,hlt⟩:=hq
  have hE':E a' w':=⟨_,j,hj,rfl⟩
  have hs':=(Classical.choose_spec (least hE')).2 _ ⟨j,hj,rfl⟩
  rw [← fe a' w' hE'] at hs'
  exact ⟨hE',by omega⟩
 | _=>exact hq
theorem run_loop (S:List Nat) (I:List Value→World→Prop) (μ:List Value→World→Nat) {body:Code}{vs:List Value}(hg:Env.gets σ S=some vs) (h0:I vs w)
 (hr:∀ vs w,I vs w→Run P K n V (.code body::.again S (fun vs' w'=>I vs' w'∧μ vs' w'<μ vs w)::k) (S.zip vs) w):Run P K n V (.code (.loop body)::k) σ w:=by
 intro a ha
 refine wp_loop_fam (ι:=List Value×World) (fun i a w=>Holds K.ds n (S.zip i.1) a∧w=i.2∧I i.1 w) (fun i=>μ i.1 i.2) (i0:=(vs,w)) ⟨ha.sub (gets_zip hg),rfl,h0⟩ ?_
 rintro ⟨us,wr⟩ a' w' ⟨hh,hw,hI⟩
 simp only at hw
 subst hw
 refine wpIn_mono (hr us w' hI a' hh) fun e a'' w'' hq=>?_
 cases e with
 | normal =>
  obtain ⟨us',hh',_,hI',hlt⟩:=hq
  exact ⟨(us',w''),⟨hh',rfl,hI'⟩,hlt⟩
 | _=>simpa [Kont,Exit.then] using hq
end rules
end Go.Vx
/-
  VX, THE STATE: memory as a walk sees it: G, what is frozen from here on (block by block); μ, the blocks that are ours, with what they hold. No world is named in a walk's goals.
-/
namespace Go.Vx
open Go
abbrev GH:=Nat→Option Obj
abbrev OH:=List (Nat×Obj)
def GH.le (G G':GH):Prop := ∀ b o,G b=some o→G' b=some o
theorem GH.le_refl (G:GH):GH.le G G:=fun _ _ h=>h
theorem GH.le_trans {G G' G'':GH}(h:GH.le G G') (h':GH.le G' G''):GH.le G G'':=fun b o hb=>h' b o (h b o hb)
structure Mem (G:GH) (μ:OH) (w:World):Prop where
 g:∀ b o,G b=some o→w.heap[b]? = some o
 own:∀ b o,(b,o)∈μ→w.heap[b]? = some o
 nodup:(μ.map (·.1)).Nodup
 apart:∀ b o,(b,o)∈μ→G b=none
structure Sees (G:GH) (μ:OH) (w:World):Prop where
 g:∀ b o,G b=some o→w.heap[b]? = some o
 own:∀ b o,(b,o)∈μ→w.heap[b]? = some o
theorem Mem.sees {G:GH}{μ:OH}{w:World}(h:Mem G μ w):Sees G μ w:=⟨h.g,h.own⟩
theorem Mem.seesOf {G G0:GH}{μ ν:OH}{w:World}(h:Mem G μ w) (hle:GH.le G0 G) (hs:∀ e∈ν,e∈μ):Sees G0 ν w :=
 ⟨fun b o hb=>h.g b o (hle b o hb),fun b o hb=>h.own b o (hs _ hb)⟩
structure Step (G:GH) (μ:OH) (w:World) (G':GH) (μ':OH) (w':World):Prop where
 mem:Mem G' μ' w'
 le:GH.le G G'
 os:w'.os=w.os
 tape:w'.tape=w.tape
 output:w'.output=w.output
 size:w.heap.size≤w'.heap.size
 same:∀ b,b<w.heap.size→(∀ o,(b,o)∉μ)→w'.heap[b]? = w.heap[b]?
 mine:∀ b o,(b,o)∈μ'→(∃ o',(b,o')∈μ)∨w.heap.size≤b
 ours:∀ b o,G' b=some o→(∃ o',G b=some o')∨(∃ o',(b,o')∈μ)∨w.heap.size≤b
theorem lt_of_heap {w:World}{b:Nat}{o:Obj}(h:w.heap[b]? = some o):b<w.heap.size:=by
 rcases Nat.lt_or_ge b w.heap.size with h'|h'
 ·exact h'
 ·rw [Array.getElem?_eq_none h'] at h;cases h
theorem Step.refl {G:GH}{μ:OH}{w:World}(h:Mem G μ w):Step G μ w G μ w :=
 ⟨h,GH.le_refl _,rfl,rfl,rfl,Nat.le_refl _,fun _ _ _=>rfl,fun _ o h=>.inl ⟨o,h⟩,fun _ o h=>.inl ⟨o,h⟩⟩
theorem Step.trans {G G' G'':GH}{μ μ' μ'':OH}{w w' w'':World}(h:Step G μ w G' μ' w') (k:Step G' μ' w' G'' μ'' w''):Step G μ w G'' μ'' w'' where
 mem:=k.mem
 le:=GH.le_trans h.le k.le
 os:=k.os.trans h.os
 tape:=k.tape.trans h.tape
 output:=k.output.trans h.output
 size:=Nat.le_trans h.size k.size
 same:=fun b hb hn=>by
  refine (k.same b (Nat.lt_of_lt_of_le hb h.size) fun o ho=>?_).trans (h.same b hb hn)
  rcases h.mine b o ho with ⟨o',h'⟩|h'
  ·exact hn o' h'
  ·omega
 mine:=fun b o ho=>by
  rcases k.mine b o ho with ⟨o',h'⟩|h'
  ·exact h.mine b o' h'
  ·exact .inr (Nat.le_trans h.size h')
 ours:=fun b o ho=>by
  rcases k.ours b o ho with ⟨o',h'⟩|⟨o',h'⟩|h'
  ·exact h.ours b o' h'
  ·rcases h.mine b o' h' with h2|h2
   ·exact .inr (.inl h2)
   ·exact .inr (.inr h2)
  ·exact .inr (.inr (Nat.le_trans h.size h'))
theorem Step.drop {G G':GH}{μ μ' μ'':OH}{w w':World}(h:Step G μ w G' μ' w') (hs:List.Sublist μ'' μ'):Step G μ w G' μ'' w' where
 mem:=⟨h.mem.g,fun b o ho=>h.mem.own b o (hs.subset ho),h.mem.nodup.sublist (hs.map _),fun b o ho=>h.mem.apart b o (hs.subset ho)⟩
 le:=h.le
 os:=h.os
 tape:=h.tape
 output:=h.output
 size:=h.size
 same:=h.same
 mine:=fun b o ho=>h.mine b o (hs.subset ho)
 ours:=h.ours
theorem Mem.perm {G:GH}{μ μ':OH}{w:World}(h:Mem G μ w) (hp:μ.Perm μ'):Mem G μ' w :=
 ⟨h.g,fun b o ho=>h.own b o (hp.mem_iff.2 ho),(hp.map _).nodup_iff.1 h.nodup,fun b o ho=>h.apart b o (hp.mem_iff.2 ho)⟩
theorem Step.perm {G G':GH}{μ μ' μ'':OH}{w w':World}(h:Step G μ w G' μ' w') (hp:μ'.Perm μ''):Step G μ w G' μ'' w' where
 mem:=h.mem.perm hp
 le:=h.le
 os:=h.os
 tape:=h.tape
 output:=h.output
 size:=h.size
 same:=h.same
 mine:=fun b o ho=>h.mine b o (hp.mem_iff.2 ho)
 ours:=h.ours
theorem Step.permL {G G':GH}{μ μ' ν:OH}{w w':World}(h:Step G μ w G' μ' w') (hp:μ.Perm ν):Step G ν w G' μ' w' where
 mem:=h.mem
 le:=h.le
 os:=h.os
 tape:=h.tape
 output:=h.output
 size:=h.size
 same:=fun b hb hn=>h.same b hb fun o ho=>hn o (hp.mem_iff.1 ho)
 mine:=fun b o ho=>by
  rcases h.mine b o ho with ⟨o',h'⟩|h'
  ·exact .inl ⟨o',hp.mem_iff.1 h'⟩
  ·exact .inr h'
 ours:=fun b o ho=>by
  rcases h.ours b o ho with h'|⟨o',h'⟩|h'
  ·exact .inl h'
  ·exact .inr (.inl ⟨o',hp.mem_iff.1 h'⟩)
  ·exact .inr (.inr h')
theorem Mem.split {G:GH}{μ ν:OH}{w:World}(h:Mem G (μ++ν) w):Mem G μ w∧Mem G ν w:=by
 obtain ⟨hg,ho,hn,ha⟩:=h
 rw [List.map_append,List.nodup_append] at hn
 exact ⟨⟨hg,fun b o hb=>ho b o (List.mem_append_left _ hb),hn.1,fun b o hb=>ha b o (List.mem_append_left _ hb)⟩,
  ⟨hg,fun b o hb=>ho b o (List.mem_append_right _ hb),hn.2.1,fun b o hb=>ha b o (List.mem_append_right _ hb)⟩⟩
theorem Step.frame {G G':GH}{μ μ' ν:OH}{w w':World}(h:Step G μ w G' μ' w') (hm:Mem G (μ++ν) w):Step G (μ++ν) w G' (μ'++ν) w':=by
 obtain ⟨hμ,hν⟩:=hm.split
 have hn:=hm.nodup
 rw [List.map_append,List.nodup_append] at hn
 have notin:∀ b o,(b,o)∈ν→∀ o',(b,o')∉μ:=fun b o hb o' hb' =>
  hn.2.2 b (List.mem_map.2 ⟨_,hb',rfl⟩) b (List.mem_map.2 ⟨_,hb,rfl⟩) rfl
 have hlt:∀ b o,(b,o)∈ν→b<w.heap.size:=fun b o hb=>lt_of_heap (hν.own b o hb)
 refine ⟨⟨h.mem.g,fun b o hb=>?_,?_,fun b o hb=>?_⟩,h.le,h.os,h.tape,h.output,h.size,fun b hb hno=>h.same b hb fun o ho=>hno o (List.mem_append_left _ ho),fun b o hb=>?_,fun b o hb=>?_⟩
 ·rcases List.mem_append.1 hb with hb|hb
  ·exact h.mem.own b o hb
  ·rw [h.same b (hlt b o hb) (notin b o hb)];exact hν.own b o hb
 ·rw [List.map_append,List.nodup_append]
  refine ⟨h.mem.nodup,hn.2.1,fun x hx y hy hxy=>?_⟩
  subst hxy
  obtain ⟨⟨b,o⟩,hb,rfl⟩:=List.mem_map.1 hx
  obtain ⟨⟨b',o'⟩,hb',he⟩:=List.mem_map.1 hy
  simp only at he
  subst he
  rcases h.mine _ _ hb with ⟨o2,h2⟩|h2
  ·exact notin _ _ hb' _ h2
  ·have:=hlt _ _ hb';omega
 ·rcases List.mem_append.1 hb with hb|hb
  ·exact h.mem.apart b o hb
  ·cases hg:G' b with
   | none=>rfl
   | some o2 =>
    rcases h.ours b o2 hg with ⟨o3,h3⟩|⟨o3,h3⟩|h3
    ·rw [hν.apart b o hb] at h3;cases h3
    ·exact absurd h3 (notin b o hb o3)
    ·have:=hlt b o hb;omega
 ·rcases List.mem_append.1 hb with hb|hb
  ·rcases h.mine b o hb with ⟨o',h'⟩|h'
   ·exact .inl ⟨o',List.mem_append_left _ h'⟩
   ·exact .inr h'
  ·exact .inl ⟨o,List.mem_append_right _ hb⟩
 ·rcases h.ours b o hb with h'|⟨o',h'⟩|h'
  ·exact .inl h'
  ·exact .inr (.inl ⟨o',List.mem_append_left _ h'⟩)
  ·exact .inr (.inr h')
theorem Step.alloc {G:GH}{μ:OH}{w:World}(h:Mem G μ w) (o:Obj):Step G μ w G ((w.heap.size,o)::μ) (w.alloc o):=by
 have hold:∀ b,b<w.heap.size→(w.alloc o).heap[b]? = w.heap[b]? := fun b hb=>RowKit.Below.heap_alloc w o b hb
 have hnew:(w.alloc o).heap[w.heap.size]? = some o:=by show (w.heap.push o)[w.heap.size]? = _;simp
 refine ⟨⟨fun b o' hb=>?_,fun b o' hb=>?_,?_,fun b o' hb=>?_⟩,GH.le_refl _,rfl,rfl,rfl,by rw [World.size_alloc];omega,fun b hb _=>hold b hb,fun b o' hb=>?_,fun b o' hb=>.inl ⟨o',hb⟩⟩
 ·rw [hold b (lt_of_heap (h.g b o' hb))];exact h.g b o' hb
 ·rcases List.mem_cons.1 hb with he|hb
  ·cases he;exact hnew
  ·rw [hold b (lt_of_heap (h.own b o' hb))];exact h.own b o' hb
 ·rw [List.map_cons,List.nodup_cons]
  refine ⟨fun hm=>?_,h.nodup⟩
  obtain ⟨⟨b,o'⟩,hb,he⟩:=List.mem_map.1 hm
  simp only at he
  have:=lt_of_heap (h.own b o' hb);omega
 ·rcases List.mem_cons.1 hb with he|hb
  ·cases he
   cases hg:G w.heap.size with
   | none=>rfl
   | some o2=>have:=lt_of_heap (h.g _ _ hg);omega
  ·exact h.apart b o' hb
 ·rcases List.mem_cons.1 hb with he|hb
  ·cases he;exact .inr (Nat.le_refl _)
  ·exact .inl ⟨o',hb⟩
theorem Step.drew {G:GH}{μ:OH}{w:World}(h:Mem G μ w) (n:Nat):Step G μ w G μ (w.drewN n) :=
 ⟨⟨h.g,h.own,h.nodup,h.apart⟩,GH.le_refl _,rfl,rfl,rfl,Nat.le_refl _,fun _ _ _=>rfl,fun _ o h=>.inl ⟨o,h⟩,fun _ o h=>.inl ⟨o,h⟩⟩
inductive Upd (b:Nat) (o':Obj):OH→OH→Prop
 | here (o:Obj) (μ:OH):Upd b o' ((b,o)::μ) ((b,o')::μ)
 | there (e:Nat×Obj) {μ μ':OH} (h:Upd b o' μ μ'):Upd b o' (e::μ) (e::μ')
theorem Upd.app {b:Nat}{o':Obj}{μ μ':OH}(ν:OH) (h:Upd b o' μ μ'):Upd b o' (ν++μ) (ν++μ'):=by
 induction ν with
 | nil=>exact h
 | cons e ν ih=>exact .there e ih
theorem Upd.keys {b:Nat}{o':Obj}{μ μ':OH}(h:Upd b o' μ μ'):μ'.map (·.1)=μ.map (·.1):=by
 induction h with
 | here o μ=>rfl
 | there e h ih=>simp [ih]
theorem Upd.mem {b:Nat}{o':Obj}{μ μ':OH}(h:Upd b o' μ μ') (hn:(μ.map (·.1)).Nodup) {c:Nat}{o:Obj}(hc:(c,o)∈μ'):(c=b∧o=o')∨(c≠b∧(c,o)∈μ):=by
 induction h with
 | here o2 μ =>
  rcases List.mem_cons.1 hc with he|hm
  ·cases he;exact .inl ⟨rfl,rfl⟩
  ·rw [List.map_cons,List.nodup_cons] at hn
   refine .inr ⟨fun e=>?_,List.mem_cons_of_mem _ hm⟩
   subst e
   exact hn.1 (List.mem_map.2 ⟨_,hm,rfl⟩)
 | there e h ih =>
  rw [List.map_cons,List.nodup_cons] at hn
  rcases List.mem_cons.1 hc with he|hc
  ·subst he
   by_cases hb:c=b
   ·subst hb
    exfalso
    refine hn.1 ?_
    clear ih hc hn
    induction h with
    | here o2 μ=>simp
    | there e h ih=>exact List.mem_cons_of_mem _ ih
   ·exact .inr ⟨hb,List.mem_cons_self ..⟩
  ·rcases ih hn.2 hc with h1|h1
   ·exact .inl h1
   ·exact .inr ⟨h1.1,List.mem_cons_of_mem _ h1.2⟩
theorem Upd.was {b:Nat}{o':Obj}{μ μ':OH}(h:Upd b o' μ μ'):∃ o,(b,o)∈μ:=by
 induction h with
 | here o μ=>exact ⟨o,List.mem_cons_self ..⟩
 | there e h ih=>exact ⟨ih.choose,List.mem_cons_of_mem _ ih.choose_spec⟩
theorem Step.upd {G:GH}{μ μ':OH}{w w':World}{b:Nat}{o':Obj}(h:Mem G μ w) (hu:Upd b o' μ μ') (hos:w'.os=w.os) (ht:w'.tape=w.tape) (hout:w'.output=w.output)
 (hsz:w'.heap.size=w.heap.size) (hb:w'.heap[b]? = some o') (hother:∀ c,c≠b→w'.heap[c]? = w.heap[c]?):Step G μ w G μ' w':=by
 obtain ⟨o0,h0⟩:=hu.was
 refine ⟨⟨fun c o hc=>?_,fun c o hc=>?_,by rw [hu.keys];exact h.nodup,fun c o hc=>?_⟩,GH.le_refl _,hos,ht,hout,by omega,fun c hc hno=>?_,fun c o hc=>?_,fun c o hc=>.inl ⟨o,hc⟩⟩
 ·rw [hother c fun e=>by subst e;rw [h.apart _ _ h0] at hc;cases hc];exact h.g c o hc
 ·rcases hu.mem h.nodup hc with ⟨rfl,rfl⟩|⟨hne,hm⟩
  ·exact hb
  ·rw [hother c hne];exact h.own c o hm
 ·rcases hu.mem h.nodup hc with ⟨rfl,rfl⟩|⟨hne,hm⟩
  ·exact h.apart _ _ h0
  ·exact h.apart _ _ hm
 ·exact hother c fun e=>by subst e;exact hno _ h0
 ·rcases hu.mem h.nodup hc with ⟨rfl,rfl⟩|⟨hne,hm⟩
  ·exact .inl ⟨_,h0⟩
  ·exact .inl ⟨_,hm⟩
def GH.put (G:GH) (ν:OH):GH:=fun b=>match G b with|some o=>some o|none=>(ν.find? fun e=>e.1 == b).map (·.2)
theorem GH.le_put (G:GH) (ν:OH):GH.le G (GH.put G ν):=fun b o h=>by simp [GH.put,h]
theorem GH.put_mem {G:GH}{ν:OH}{b:Nat}{o:Obj}(hn:(ν.map (·.1)).Nodup) (ha:G b=none) (h:(b,o)∈ν):GH.put G ν b=some o:=by
 simp only [GH.put,ha]
 induction ν with
 | nil=>cases h
 | cons e ν ih =>
  rw [List.map_cons,List.nodup_cons] at hn
  rcases List.mem_cons.1 h with he|hm
  ·subst he;simp
  ·have hne:e.1≠b:=fun he=>hn.1 (he ▸ List.mem_map.2 ⟨_,hm,rfl⟩)
   simp only [List.find?_cons]
   have:(e.1 == b)=false:=by simpa using hne
   rw [this]
   exact ih hn.2 hm
theorem GH.put_some {G:GH}{ν:OH}{b:Nat}{o:Obj}(h:GH.put G ν b=some o):G b=some o∨(b,o)∈ν:=by
 simp only [GH.put] at h
 cases hg:G b with
 | some o'=>rw [hg] at h;exact .inl h
 | none =>
  rw [hg] at h
  simp only [Option.map_eq_some_iff] at h
  obtain ⟨e,he,rfl⟩:=h
  have h1:=List.mem_of_find?_eq_some he
  have h2:=List.find?_some he
  simp only [beq_iff_eq] at h2
  subst h2
  exact .inr h1
theorem Step.freeze {G G':GH}{μ μ' ν:OH}{w w':World}(h:Step G μ w G' (ν++μ') w'):Step G μ w (GH.put G' ν) μ' w':=by
 have hn:=h.mem.nodup
 rw [List.map_append,List.nodup_append] at hn
 refine ⟨⟨fun b o hb=>?_,fun b o hb=>h.mem.own b o (List.mem_append_right _ hb),hn.2.1,fun b o hb=>?_⟩,GH.le_trans h.le (GH.le_put _ _),h.os,h.tape,h.output,h.size,h.same,fun b o hb=>h.mine b o (List.mem_append_right _ hb),fun b o hb=>?_⟩
 ·rcases GH.put_some hb with hb|hb
  ·exact h.mem.g b o hb
  ·exact h.mem.own b o (List.mem_append_left _ hb)
 ·cases hg:GH.put G' ν b with
  | none=>rfl
  | some o2 =>
   rcases GH.put_some hg with h2|h2
   ·rw [h.mem.apart b o (List.mem_append_right _ hb)] at h2;cases h2
   ·exact absurd rfl (hn.2.2 b (List.mem_map.2 ⟨_,h2,rfl⟩) b (List.mem_map.2 ⟨_,hb,rfl⟩))
 ·rcases GH.put_some hb with hb|hb
  ·exact h.ours b o hb
  ·rcases h.mine b o (List.mem_append_left _ hb) with h1|h1
   ·exact .inr (.inl h1)
   ·exact .inr (.inr h1)
def Con (P:Program) (f:FuncId) (args:Array Value) (G:GH) (μ:OH) (Φ:Value→GH→OH→Prop):Prop :=
 ∀ w,Mem G μ w→Ret P f args w fun v w'=>∃ G' μ',Step G μ w G' μ' w'∧Φ v G' μ'
theorem Con.mono {P:Program}{f:FuncId}{args:Array Value}{G:GH}{μ:OH}{Φ Φ':Value→GH→OH→Prop}(h:Con P f args G μ Φ) (hv:∀ v G' μ',Φ v G' μ'→Φ' v G' μ'):Con P f args G μ Φ' :=
 fun w hw=>(h w hw).mono fun _ _ ⟨G',μ',hs,hΦ⟩=>⟨G',μ',hs,hv _ _ _ hΦ⟩
structure Base where
 G:GH
 μ:OH
 w:World
 rk:RK
class FnB (P:Program) (fn:Func) (B:Base) (Ds:outParam (List Nat)):Prop where
 h:B.rk=RK.fn P fn Ds
class RdB (B:Base) (l:outParam Nat):Prop where
 h:B.rk=RK.round l
def Fin (B:Base) (Φ:Value→GH→OH→Prop) (v:Value) (w:World):Prop := ∃ G μ,Step B.G B.μ B.w G μ w∧Φ v G μ
def Vc (P:Program) (fn:Func) (n:Nat) (B:Base) (Φ:Value→GH→OH→Prop) (k:List It) (σ:Env) (G:GH) (μ:OH):Prop :=
 ∀ w,Step B.G B.μ B.w G μ w→Run P B.rk n (Fin B Φ) k σ w
section
variable {P:Program}{fn:Func}{n:Nat}{B:Base}{Φ:Value→GH→OH→Prop}{k k':List It}{σ σ':Env}{G:GH}{μ:OH}
theorem v_enter {f:FuncId}{c:Code}{args:Array Value}(hf:P.funcs[f]? = some fn) (hb:fn.body=some c) (hn:fn.ntmps=n) (hm:Nat.ble args.size n=true)
 (h:∀ (B:Base) [FnB P fn B []],Vc P fn n B Φ [.code c] (Env.init 0 args.toList) G μ):Con P f args G μ Φ :=
 fun w hw=>enter hf hb hn hm (@h ⟨G,μ,w,RK.fn P fn []⟩ ⟨rfl⟩ w (Step.refl hw))
theorem v_seq {x y:Code}(h:Vc P fn n B Φ (.code x::.code y::k) σ G μ):Vc P fn n B Φ (.code (.seq x y)::k) σ G μ:=fun w hw=>run_seq (h w hw)
theorem v_skip (h:Vc P fn n B Φ k σ G μ):Vc P fn n B Φ (.code .skip::k) σ G μ:=fun w hw=>run_skip (h w hw)
theorem v_block {id:Nat}{c:Code}(h:Vc P fn n B Φ (.code c::.blk id::k) σ G μ):Vc P fn n B Φ (.code (.block id c)::k) σ G μ:=fun w hw=>run_block (h w hw)
theorem v_blk {id:Nat}(h:Vc P fn n B Φ k σ G μ):Vc P fn n B Φ (.blk id::k) σ G μ:=fun w hw=>run_blk (h w hw)
theorem v_exit {id:Nat}(hp:popTo id k=some k') (h:Vc P fn n B Φ k' σ G μ):Vc P fn n B Φ (.code (.exit id)::k) σ G μ:=fun w hw=>run_exit hp (h w hw)
theorem v_condT {c:Operand}{x y:Code}(hc:Env.ev σ c=some (.bool true)) (h:Vc P fn n B Φ (.code x::k) σ G μ):Vc P fn n B Φ (.code (.cond c x y)::k) σ G μ:=fun w hw=>run_condT hc (h w hw)
theorem v_condF {c:Operand}{x y:Code}(hc:Env.ev σ c=some (.bool false)) (h:Vc P fn n B Φ (.code y::k) σ G μ):Vc P fn n B Φ (.code (.cond c x y)::k) σ G μ:=fun w hw=>run_condF hc (h w hw)
theorem v_cond {c:Operand}{x y:Code}{b:Bool}(hc:Env.ev σ c=some (.bool b)) (ht:b=true→Vc P fn n B Φ (.code x::k) σ G μ) (hf:b=false→Vc P fn n B Φ (.code y::k) σ G μ):Vc P fn n B Φ (.code (.cond c x y)::k) σ G μ :=
 fun w hw=>run_cond hc (fun hb=>ht hb w hw) (fun hb=>hf hb w hw)
theorem v_region {id:Nat}{l:List Oper}(h:Vc P fn n B Φ (.ops l.toArray l::k) σ G μ):Vc P fn n B Φ (.code (.region id l.toArray false)::k) σ G μ:=fun w hw=>run_region (h w hw)
theorem v_nil {all:Array Oper}(h:Vc P fn n B Φ k σ G μ):Vc P fn n B Φ (.ops all []::k) σ G μ:=fun w hw=>run_nil (h w hw)
def OutsA (P:Program) (fn:Func) (n:Nat) (σ:Env) (v:Value):Prop := ∀ w,Outs P fn n σ w v
theorem outsA0 (hr:fn.results = #[]):OutsA P fn n σ (.tuple #[]):=fun _=>outs0 hr
theorem outsA1 {t:Nat}{v:Value}(hr:fn.results = #[.tmp t]) (hv:Env.get σ t=some v):OutsA P fn n σ v:=fun _=>outs1 hr hv
theorem outsA2 {t u:Nat}{v x:Value}(hr:fn.results = #[.tmp t,.tmp u]) (hv:Env.get σ t=some v) (hx:Env.get σ u=some x):OutsA P fn n σ (.tuple #[v,x]):=fun _=>outs2 hr hv hx
theorem outsA3 {t u s:Nat}{v x y:Value}(hr:fn.results = #[.tmp t,.tmp u,.tmp s]) (hv:Env.get σ t=some v) (hx:Env.get σ u=some x) (hy:Env.get σ s=some y):OutsA P fn n σ (.tuple #[v,x,y]):=fun _=>outs3 hr hv hx hy
def dO (D:Nat):Nat×Obj:=(D,.deferred (some []))
theorem leaves {tmps:Array Value}{G0:GH}{μ0:OH}{w0:World}{v:Value}{Φ:Value→GH→OH→Prop}{G:GH}:∀ (Ds:List Nat) {w:World}{μ1 ν:OH},Step G0 μ0 w0 G (Ds.map dO++μ1) w→(∀ w',Sees G μ1 w'→(results fn tmps).run P w'=.ok v w')→List.Sublist ν μ1→Φ v G ν →
 LeavesInM (RF none) 0 P fn tmps (Back fun v w=>∃ G μ,Step G0 μ0 w0 G μ w∧Φ v G μ) (Ds.map mark) .returning w
 | [],w,μ1,ν,hst,ho,hs,hΦ=>⟨v,ho w (by have:=hst.mem.sees;simpa using this),v,rfl,G,ν,(by simpa using hst:Step G0 μ0 w0 G μ1 w).drop hs,hΦ⟩
 | D::Ds,w,μ1,ν,hst,ho,hs,hΦ=>by
  have hD:w.heap[D]? = some (.deferred (some [])):=hst.mem.own D _ (by simp [dO])
  have hlt:=lt_of_heap hD
  have hst2:Step G0 μ0 w0 G ((D,.deferred none)::(Ds.map dO++μ1)) (w.putObj D (.deferred none)) :=
   hst.trans (Step.upd hst.mem (Upd.here _ _) rfl rfl rfl (by simp) (World.putObj_heap_same hlt) (fun c hc=>World.putObj_heap_other hc))
  exact ⟨by simp,.inl ⟨D,_,rfl,run_takeDeferred hD,leaves Ds (hst2.drop (List.sublist_cons_self _ _)) ho hs hΦ⟩⟩
theorem fn_post {Ds:List Nat}[hB:FnB P fn B Ds] {v:Value}{μ1 ν:OH}{a:Act}{w:World}(hw:Step B.G B.μ B.w G μ w) (ha:Holds B.rk.ds n σ a) (ho:∀ w',Sees G μ1 w'→(results fn a.tmps).run P w'=.ok v w') (hp:μ.Perm (Ds.map dO++μ1)) (hs:List.Sublist ν μ1) (h:Φ v G ν) :
 fnPost P fn (Fin B Φ) .ret a w:=by
 have hd:a.defers=Ds.map mark:=by rw [ha.defers,hB.h];rfl
 show LeavesInM _ _ _ _ _ _ a.defers _ _
 rw [hd]
 exact leaves Ds (hw.perm hp) ho hs h
theorem v_retD {Ds:List Nat}[hB:FnB P fn B Ds] {v:Value}{μ1:OH}(ν:OH) (ho:∀ ds (a:Act),Holds ds n σ a→∀ w,Sees G μ1 w→(results fn a.tmps).run P w=.ok v w) (hp:μ.Perm (Ds.map dO++μ1)) (hs:List.Sublist ν μ1) (h:Φ v G ν):Vc P fn n B Φ (.code .ret::k) σ G μ :=
 fun w hw a ha=>wpIn_ret (kont_ret a w (by
  have:=fn_post (P:=P) (fn:=fn) (Φ:=Φ) hw ha (ho _ a ha) hp hs h
  rw [hB.h]
  exact this))
theorem v_endD {Ds:List Nat}[hB:FnB P fn B Ds] {v:Value}{μ1:OH}(ν:OH) (ho:∀ ds (a:Act),Holds ds n σ a→∀ w,Sees G μ1 w→(results fn a.tmps).run P w=.ok v w) (hp:μ.Perm (Ds.map dO++μ1)) (hs:List.Sublist ν μ1) (h:Φ v G ν):Vc P fn n B Φ [] σ G μ :=
 fun w hw a ha=>by
  have:fnPost P fn (Fin B Φ) .ret a w:=fn_post (P:=P) (fn:=fn) (Φ:=Φ) hw ha (ho _ a ha) hp hs h
  show B.rk.post (Fin B Φ) .normal a w
  rw [hB.h]
  exact this
theorem v_ret [hB:FnB P fn B []] {v:Value}(ν:OH) (ho:OutsA P fn n σ v) (hs:List.Sublist ν μ) (h:Φ v G ν):Vc P fn n B Φ (.code .ret::k) σ G μ :=
 v_retD (Ds:=[]) ν (fun ds a ha w _=>ho w ds a ha) (List.Perm.refl _) hs h
theorem v_end [hB:FnB P fn B []] {v:Value}(ν:OH) (ho:OutsA P fn n σ v) (hs:List.Sublist ν μ) (h:Φ v G ν):Vc P fn n B Φ [] σ G μ :=
 v_endD (Ds:=[]) ν (fun ds a ha w _=>ho w ds a ha) (List.Perm.refl _) hs h
theorem v_endR {l:Nat}[hB:RdB B l] (ν:OH) (hs:List.Sublist ν μ) (h:Φ (.bool true) G ν):Vc P fn n B Φ [] σ G μ :=
 fun w hw a ha=>by
  show B.rk.post (Fin B Φ) .normal a w
  rw [hB.h]
  exact ⟨G,ν,hw.drop hs,h⟩
theorem v_loop (S:List Nat) (J:List Value→GH→OH→Prop) (m:List Value→Nat) {body:Code}{vs:List Value}(hg:Env.gets σ S=some vs) (h0:J vs G μ)
 (hr:∀ vs G μ,J vs G μ→Vc P fn n B Φ (.code body::.again S (fun vs' w'=>(∃ G' μ',J vs' G' μ'∧Step B.G B.μ B.w G' μ' w')∧m vs'<m vs)::k) (S.zip vs) G μ):Vc P fn n B Φ (.code (.loop body)::k) σ G μ:=by
 intro w hw
 refine run_loop S (fun vs w=>∃ G μ,J vs G μ∧Step B.G B.μ B.w G μ w) (fun vs _=>m vs) hg ⟨G,μ,h0,hw⟩ ?_
 rintro us wr ⟨G',μ',hJ,hS⟩
 exact hr us G' μ' hJ wr hS
theorem v_again {S:List Nat}{J:List Value→GH→OH→Prop}{m:List Value→Nat}{N:Nat}{vs:List Value}(hg:Env.gets σ S=some vs) (hJ:J vs G μ) (hm:m vs<N) :
 Vc P fn n B Φ (.again S (fun vs' w'=>(∃ G' μ',J vs' G' μ'∧Step B.G B.μ B.w G' μ' w')∧m vs'<N)::k) σ G μ :=
 fun _ hw=>run_again hg ⟨⟨G,μ,hJ,hw⟩,hm⟩
theorem v_perm {ν:OH}(hp:μ.Perm ν) (h:Vc P fn n B Φ k σ G ν):Vc P fn n B Φ k σ G μ:=fun w hw=>h w (hw.perm hp)
theorem v_drop {ν:OH}(hs:List.Sublist ν μ) (h:Vc P fn n B Φ k σ G ν):Vc P fn n B Φ k σ G μ:=fun w hw=>h w (hw.drop hs)
theorem v_freeze {ν:OH}(h:∀ G',GH.le G G'→(∀ b o,(b,o)∈ν→G' b=some o)→Vc P fn n B Φ k σ G' μ):Vc P fn n B Φ k σ G (ν++μ):=fun w hw=>by
 have hn:=hw.mem.nodup
 rw [List.map_append,List.nodup_append] at hn
 exact h (GH.put G ν) (GH.le_put _ _) (fun b o hb=>GH.put_mem hn.1 (hw.mem.apart b o (List.mem_append_left _ hb)) hb) w hw.freeze
theorem v_weaken (hs:∀ i v,Env.get σ' i=some v→Env.get σ i=some v) (h:Vc P fn n B Φ k σ' G μ):Vc P fn n B Φ k σ G μ:=fun w hw=>(h w hw).weaken hs
end
attribute [irreducible] Vc Con
end Go.Vx
/-
  VX, THE OPERATIONS THAT TOUCH NO MEMORY.
-/
namespace Go.Vx
open Go
attribute [local semireducible] Vc Con
def Agree (σ:Env) (ρ:Operand→Value):Prop := ∀ x v,Env.ev σ x=some v→ρ x=v
theorem Holds.agree {ds:List Deferred}{n:Nat}{σ:Env}{a:Act}(h:Holds ds n σ a):Agree σ a.eval:=fun _ _ hx=>h.ev hx
def PureOp (P:Program) (op:Op) (ty:TypeId) (σ:Env) (v:Value):Prop :=
 ∀ dst pos af g ρ,Agree σ ρ→∀ w,(execOp ρ ⟨dst,op,ty,pos,af,g⟩).run P w=.ok (.value v) w
def ReadOp (P:Program) (op:Op) (ty:TypeId) (σ:Env) (G:GH) (μ:OH) (v:Value):Prop :=
 ∀ dst pos af g ρ,Agree σ ρ→∀ w,Sees G μ w→(execOp ρ ⟨dst,op,ty,pos,af,g⟩).run P w=.ok (.value v) w
def MoveOp (P:Program) (op:Op) (ty:TypeId) (σ:Env) (G:GH) (μ:OH) (Ψ:Value→GH→OH→Prop):Prop :=
 ∀ dst pos af g ρ,Agree σ ρ→∀ w,Mem G μ w→∀ (a:Act) (K:Act→World→Prop) (Q:Exit→Act→World→Prop),
  (∀ v w' G' μ',Step G μ w G' μ' w'→Ψ v G' μ'→K (a.put dst v) w')→Oper.upon P ⟨dst,op,ty,pos,af,g⟩ a K Q ((execOp ρ ⟨dst,op,ty,pos,af,g⟩).run P w)
def dec (p:Prop) [Decidable p]:Bool:=decide p
theorem dec_true {p:Prop} [Decidable p]:dec p=true↔p:=decide_eq_true_iff
theorem dec_false {p:Prop} [Decidable p]:dec p=false↔¬ p:=decide_eq_false_iff_not
theorem dec_pos {p:Prop} [Decidable p] (h:p):dec p=true:=decide_eq_true h
theorem dec_neg {p:Prop} [Decidable p] (h:¬ p):dec p=false:=decide_eq_false h
theorem PureOp.read {P:Program}{op:Op}{ty:TypeId}{σ:Env}{G:GH}{μ:OH}{v:Value}(h:PureOp P op ty σ v):ReadOp P op ty σ G μ v:=fun d p af g ρ hρ w _=>h d p af g ρ hρ w
theorem ReadOp.move {P:Program}{op:Op}{ty:TypeId}{σ:Env}{G:GH}{μ:OH}{v:Value}(h:ReadOp P op ty σ G μ v):MoveOp P op ty σ G μ (fun u G' μ'=>u=v∧G'=G∧μ'=μ):=by
 intro dst pos af g ρ hρ w hw a K Q hK
 rw [h dst pos af g ρ hρ w hw.sees]
 exact hK v w G μ (Step.refl hw) ⟨rfl,rfl,rfl⟩
section
variable {P:Program}{fn:Func}{n:Nat}{B:Base}{Φ:Value→GH→OH→Prop}{k:List It}{σ:Env}{G:GH}{μ:OH}{all:Array Oper}{rest:List Oper}{d:Nat}{op:Op}{ty:TypeId}{pos:String}{af:Array Edge}{v:Value}
theorem MoveOp.noDefer {Ψ:Value→GH→OH→Prop}(hop:MoveOp P op ty σ G μ Ψ) {a:Act}{w:World}(ha:Agree σ a.eval) (hw:Mem G μ w):∀ c,op≠.defer c:=by
 rintro c rfl
 have h:=hop none "" #[] none a.eval ha w hw a (fun a' _=>a'.defers=a.defers) (fun _ _ _=>False) (fun v w' G' μ' _ _=>rfl)
 have e:(execOp a.eval ⟨none,.defer c,ty, "",#[],none⟩).run P w=((resolve a.eval c ty).run P w).andThen fun d w'=>.ok (.defer d) w':=by
  simp only [execOp,Sem.run_bind]
  rfl
 rw [e] at h
 cases hr:(resolve a.eval c ty).run P w with
 | ok d w' =>
  rw [hr] at h
  have:d::a.defers=a.defers:=h
  exact absurd (congrArg List.length this) (by simp)
 | halt x w' =>
  rw [hr] at h
  cases x<;>exact h
theorem op_in {r:Option Nat}{o:Oper}{a:Act}{w:World}{K:Act→World→Prop}{Q:Exit→Act→World→Prop}(hnd:∀ c,o.op≠.defer c) (h:o.upon P a K Q ((execOp a.eval o).run P w)):o.wpIn (RF r) 0 P a w K Q:=by
 refine ⟨fn_RF,?_⟩
 rw [Oper.semAt_eq _ _ _ hnd]
 generalize (execOp a.eval o).run P w=R at h
 have hdep:(RF r).depth.isSome=true→1≤0:=fun hh=>by cases hh
 cases R with
 | ok x w' =>
  cases x<;>first|exact h|exact ⟨hdep,calls_RF.2 h⟩|exact ⟨hdep,fun c cs _=>by obtain ⟨v,w2,hR,hs⟩:=h c cs;exact ⟨v,w2,hR,stepsIn_wide.2 hs⟩⟩|exact h.elim
 | halt x w'=>cases x<;>exact h
theorem list_move {r:Option Nat}{Q:Exit→Act→World→Prop}{a:Act}{w:World}{dst:Option Nat}{Ψ:Value→GH→OH→Prop}(hop:MoveOp P op ty σ G μ Ψ) (ha:Agree σ a.eval) (hw:Mem G μ w)
 (h:∀ v w' G' μ',Step G μ w G' μ' w'→Ψ v G' μ'→wpListIn (RF r) 0 P all Q rest (a.put dst v) w'):wpListIn (RF r) 0 P all Q (⟨dst,op,ty,pos,af,none⟩::rest) a w :=
 wpListIn_plain rfl fun K hK=>op_in (hop.noDefer ha hw) (hop _ pos af none a.eval ha w hw a K _ fun v w' G' μ' hs hΨ=>hK _ _ (h v w' G' μ' hs hΨ))
theorem v_move {Ψ:Value→GH→OH→Prop}(hop:MoveOp P op ty σ G μ Ψ) (hd:Nat.blt d n=true) (h:∀ v G' μ',Ψ v G' μ'→Vc P fn n B Φ (.ops all rest::k) ((d,v)::σ) G' μ') :
 Vc P fn n B Φ (.ops all (⟨some d,op,ty,pos,af,none⟩::rest)::k) σ G μ:=by
 intro w hw a ha
 have hd':d<n:=by simpa [Nat.blt_eq] using hd
 exact list_move hop ha.agree hw.mem fun v w' G' μ' hs hΨ=>h v G' μ' hΨ w' (hw.trans hs) _ (ha.put hd' v)
theorem v_move0 {Ψ:Value→GH→OH→Prop}(hop:MoveOp P op ty σ G μ Ψ) (h:∀ v G' μ',Ψ v G' μ'→Vc P fn n B Φ (.ops all rest::k) σ G' μ') :
 Vc P fn n B Φ (.ops all (⟨none,op,ty,pos,af,none⟩::rest)::k) σ G μ:=by
 intro w hw a ha
 exact list_move hop ha.agree hw.mem fun v w' G' μ' hs hΨ=>h v G' μ' hΨ w' (hw.trans hs) _ (ha.putNone v)
theorem v_read (hop:ReadOp P op ty σ G μ v) (hd:Nat.blt d n=true) (h:Vc P fn n B Φ (.ops all rest::k) ((d,v)::σ) G μ) :
 Vc P fn n B Φ (.ops all (⟨some d,op,ty,pos,af,none⟩::rest)::k) σ G μ :=
 v_move hop.move hd fun _ _ _ ⟨h1,h2,h3⟩=>by rw [h1,h2,h3];exact h
theorem v_pure (hop:PureOp P op ty σ v) (hd:Nat.blt d n=true) (h:Vc P fn n B Φ (.ops all rest::k) ((d,v)::σ) G μ) :
 Vc P fn n B Φ (.ops all (⟨some d,op,ty,pos,af,none⟩::rest)::k) σ G μ:=v_read hop.read hd h
def guardVal (all:Array Oper) (σ:Env) (j:Nat):Option Bool :=
 ((all[j]?).bind (·.dst)).bind fun t=>(Env.get σ t).bind fun | .bool b=>some b|_=>none
theorem yielded_of {ds:List Deferred}{a:Act}(ha:Holds ds n σ a) {j:Nat}{b:Bool}(hg:guardVal all σ j=some b):yielded all a.tmps j=some b:=by
 unfold guardVal at hg
 unfold yielded
 cases h1:(all[j]?).bind (·.dst) with
 | none=>rw [h1] at hg;cases hg
 | some t =>
  rw [h1] at hg
  simp only [Option.bind_some] at hg
  cases h2:Env.get σ t with
  | none=>rw [h2] at hg;cases hg
  | some v =>
   rw [h2] at hg
   have h3:=ha.get t v h2
   cases v<;>simp at hg
   subst hg
   simp only [Array.getD_eq_getD_getElem?] at h3
   cases h4:a.tmps[t]? with
   | none=>rw [h4] at h3;cases h3
   | some u=>rw [h4] at h3;simp only [Option.getD_some] at h3;subst h3;simp [h4]
theorem v_take {dst:Option Nat}{j:Nat}{b:Bool}(hg:guardVal all σ j=some b) (h:Vc P fn n B Φ (.ops all (⟨dst,op,ty,pos,af,none⟩::rest)::k) σ G μ) :
 Vc P fn n B Φ (.ops all (⟨dst,op,ty,pos,af,some (j,b)⟩::rest)::k) σ G μ:=by
 intro w hw a ha
 have hy:=yielded_of ha hg
 have hh:=h w hw a ha
 simp only [Kont] at hh ⊢
 unfold wpListIn at hh ⊢
 simp only [Region.wanted,hy,beq_self_eq_true,if_true] at hh ⊢
 exact hh
theorem v_pass {j:Nat}{b c:Bool}(hg:guardVal all σ j=some b) (hn:(b == c)=false) (hd:Nat.blt d n=true) (h:Vc P fn n B Φ (.ops all rest::k) ((d,undef)::σ) G μ) :
 Vc P fn n B Φ (.ops all (⟨some d,op,ty,pos,af,some (j,c)⟩::rest)::k) σ G μ:=by
 intro w hw a ha
 have hd':d<n:=by simpa [Nat.blt_eq] using hd
 have hy:=yielded_of ha hg
 have hne:¬ b=c:=by intro e;subst e;simp at hn
 have hh:=h w hw _ (ha.put hd' undef)
 simp only [Kont] at hh ⊢
 unfold wpListIn
 simp only [Region.wanted,hy]
 have:(some b == some c)=false:=by simpa using hne
 rw [this]
 exact ⟨fn_RF,hh⟩
end
def notBool:Value→Bool
 | .bool _=>false
 | _=>true
def guardRaw (all:Array Oper) (σ:Env) (j:Nat):Option Value:=((all[j]?).bind (·.dst)).bind fun t=>Env.get σ t
theorem yielded_none {ds:List Deferred}{n:Nat}{σ:Env}{all:Array Oper}{a:Act}(ha:Holds ds n σ a) {j:Nat}{v:Value}(hg:guardRaw all σ j=some v) (hv:notBool v=true):yielded all a.tmps j=none:=by
 unfold guardRaw at hg
 unfold yielded
 cases h1:(all[j]?).bind (·.dst) with
 | none=>rw [h1] at hg;cases hg
 | some t =>
  rw [h1] at hg
  simp only [Option.bind_some] at hg
  have h3:=ha.get t v hg
  simp only [Array.getD_eq_getD_getElem?] at h3
  cases h4:a.tmps[t]? with
  | none=>simp [h4]
  | some u =>
   rw [h4] at h3
   simp only [Option.getD_some] at h3
   subst h3
   cases u<;>simp [notBool] at hv<;>simp [h4]
section
variable {P:Program}{fn:Func}{n:Nat}{B:Base}{Φ:Value→GH→OH→Prop}{k:List It}{σ:Env}{G:GH}{μ:OH}{all:Array Oper}{rest:List Oper}{d:Nat}{op:Op}{ty:TypeId}{pos:String}{af:Array Edge}{v:Value}
theorem v_passN {j:Nat}{c:Bool}(hg:guardRaw all σ j=some v) (hn:notBool v=true) (hd:Nat.blt d n=true) (h:Vc P fn n B Φ (.ops all rest::k) ((d,undef)::σ) G μ) :
 Vc P fn n B Φ (.ops all (⟨some d,op,ty,pos,af,some (j,c)⟩::rest)::k) σ G μ:=by
 intro w hw a ha
 have hd':d<n:=by simpa [Nat.blt_eq] using hd
 have hy:=yielded_none ha hg hn
 have hh:=h w hw _ (ha.put hd' undef)
 simp only [Kont] at hh ⊢
 unfold wpListIn
 simp only [Region.wanted,hy]
 exact ⟨fn_RF,hh⟩
end
class Ty (P:Program) (t:TypeId) (d:outParam TypeDesc):Prop where
 h:P.underlying t=some d
def descAgg:TypeDesc→Bool
 | .struct _ | .array _ _=>true
 | _=>false
class Lay (P:Program) (t:TypeId) (agg:outParam Bool) (size bytes:outParam Nat) (zero:outParam Value):Prop where
 isAgg:(P.underlying t).map descAgg=some agg
 info:(P.info? t).map (fun i=>(i.size,i.bytes,i.zero))=some (size,bytes,some zero)
section
variable {P:Program}{t:TypeId}{agg:Bool}{size bytes:Nat}{zero:Value}(w:World)
theorem Lay.infoEx (h:Lay P t agg size bytes zero):∃ i,P.info? t=some i∧i.size=size∧i.bytes=bytes∧i.zero=some zero:=by
 have h':=h.info
 cases hi:P.info? t with
 | none=>rw [hi] at h';cases h'
 | some i=>rw [hi] at h';simp only [Option.map_some,Option.some.injEq,Prod.mk.injEq] at h';exact ⟨i,rfl,h'.1,h'.2.1,h'.2.2⟩
theorem run_sizeOf [h:Lay P t agg size bytes zero]:(sizeOf t).run P w=.ok size w:=by
 obtain ⟨i,hi,h1,_⟩:=h.infoEx
 simp [sizeOf,typeInfo,hi,h1]
theorem run_zeroOf [h:Lay P t agg size bytes zero]:(zeroValue t).run P w=.ok zero w:=by
 obtain ⟨i,hi,_,_,h1⟩:=h.infoEx
 simp [zeroValue,typeInfo,hi,h1]
theorem run_isAgg' [h:Lay P t agg size bytes zero]:(isAgg t).run P w=.ok agg w:=by
 have h':=h.isAgg
 cases hu:P.underlying t with
 | none=>rw [hu] at h';cases h'
 | some d =>
  rw [hu] at h'
  simp only [Option.map_some,Option.some.injEq] at h'
  subst h'
  cases d<;>simp [isAgg,run_underlying hu,descAgg]
theorem run_under {d:TypeDesc}[h:Ty P t d]:(underlying t).run P w=.ok d w:=run_underlying h.h ..
end
section ops
variable {P:Program}{ty:TypeId}{σ:Env}
theorem p_move {x:Operand}{v:Value}(hx:Env.ev σ x=some v):PureOp P (.move x) ty σ v:=by
 intro dst pos af g ρ hρ w;simp [execOp,hρ _ _ hx]
theorem p_assign {x:Operand}{v:Value}(hx:Env.ev σ x=some v):PureOp P (.assign x) ty σ v:=by
 intro dst pos af g ρ hρ w;simp [execOp,hρ _ _ hx]
theorem p_pickT {c x y:Operand}{v:Value}(hc:Env.ev σ c=some (.bool true)) (hx:Env.ev σ x=some v):PureOp P (.pick c x y) ty σ v:=by
 intro dst pos af g ρ hρ w;simp [execOp,hρ _ _ hx,hρ _ _ hc,asBool]
theorem p_pickF {c x y:Operand}{v:Value}(hc:Env.ev σ c=some (.bool false)) (hy:Env.ev σ y=some v):PureOp P (.pick c x y) ty σ v:=by
 intro dst pos af g ρ hρ w;simp [execOp,hρ _ _ hy,hρ _ _ hc,asBool]
section ints
variable {x y:Operand}{k:IntKind}{a b:Int}{t t':TypeId}(hx:Env.ev σ x=some (.int k a)) (hy:Env.ev σ y=some (.int k b))
include hx hy
theorem p_addw:PureOp P (.binOp .add t x y t') ty σ (.int k (k.wrap (a+b))):=by
 intro dst pos af g ρ hρ w;simp [execOp,hρ _ _ hx,hρ _ _ hy,eqGuard,binOp,Op.intArith]
theorem p_subw:PureOp P (.binOp .sub t x y t') ty σ (.int k (k.wrap (a-b))):=by
 intro dst pos af g ρ hρ w;simp [execOp,hρ _ _ hx,hρ _ _ hy,eqGuard,binOp,Op.intArith]
theorem p_mulw:PureOp P (.binOp .mul t x y t') ty σ (.int k (k.wrap (a*b))):=by
 intro dst pos af g ρ hρ w;simp [execOp,hρ _ _ hx,hρ _ _ hy,eqGuard,binOp,Op.intArith]
theorem p_quow (h0:b≠0):PureOp P (.binOp .quo t x y t') ty σ (.int k (k.wrap (a.tdiv b))):=by
 intro dst pos af g ρ hρ w;simp [execOp,hρ _ _ hx,hρ _ _ hy,eqGuard,binOp,Op.intDiv,h0]
theorem p_rem (h0:b≠0):PureOp P (.binOp .rem t x y t') ty σ (.int k (a.tmod b)):=by
 intro dst pos af g ρ hρ w;simp [execOp,hρ _ _ hx,hρ _ _ hy,eqGuard,binOp,Op.intDiv,h0]
theorem p_eq:PureOp P (.binOp .eql t x y t') ty σ (.bool (dec (a=b))):=by
 intro dst pos af g ρ hρ w;simp [dec,execOp,hρ _ _ hx,hρ _ _ hy,eqGuard,binOp,Op.intCmp,BEq.beq]
theorem p_ne:PureOp P (.binOp .neq t x y t') ty σ (.bool (!dec (a=b))):=by
 intro dst pos af g ρ hρ w;simp [dec,execOp,hρ _ _ hx,hρ _ _ hy,eqGuard,binOp,Op.intCmp,bne,BEq.beq]
theorem p_lt:PureOp P (.binOp .lss t x y t') ty σ (.bool (dec (a<b))):=by
 intro dst pos af g ρ hρ w;simp [dec,execOp,hρ _ _ hx,hρ _ _ hy,eqGuard,binOp,Op.intCmp]
theorem p_le:PureOp P (.binOp .leq t x y t') ty σ (.bool (dec (a≤b))):=by
 intro dst pos af g ρ hρ w;simp [dec,execOp,hρ _ _ hx,hρ _ _ hy,eqGuard,binOp,Op.intCmp]
theorem p_gt:PureOp P (.binOp .gtr t x y t') ty σ (.bool (dec (b<a))):=by
 intro dst pos af g ρ hρ w;simp [dec,execOp,hρ _ _ hx,hρ _ _ hy,eqGuard,binOp,Op.intCmp]
theorem p_ge:PureOp P (.binOp .geq t x y t') ty σ (.bool (dec (b≤a))):=by
 intro dst pos af g ρ hρ w;simp [dec,execOp,hρ _ _ hx,hρ _ _ hy,eqGuard,binOp,Op.intCmp]
theorem p_and:PureOp P (.binOp .and t x y t') ty σ (.int k (k.wrap (BitVec.ofInt k.bits a &&& BitVec.ofInt k.bits b).toNat)):=by
 intro dst pos af g ρ hρ w;simp [execOp,hρ _ _ hx,hρ _ _ hy,eqGuard,binOp,Op.intBits]
theorem p_or:PureOp P (.binOp .or t x y t') ty σ (.int k (k.wrap (BitVec.ofInt k.bits a ||| BitVec.ofInt k.bits b).toNat)):=by
 intro dst pos af g ρ hρ w;simp [execOp,hρ _ _ hx,hρ _ _ hy,eqGuard,binOp,Op.intBits]
theorem p_xor:PureOp P (.binOp .xor t x y t') ty σ (.int k (k.wrap (BitVec.ofInt k.bits a ^^^ BitVec.ofInt k.bits b).toNat)):=by
 intro dst pos af g ρ hρ w;simp [execOp,hρ _ _ hx,hρ _ _ hy,eqGuard,binOp,Op.intBits]
end ints
section ints64
variable {x y:Operand}{a b:Int}{t t':TypeId}(hx:Env.ev σ x=some (.int .i64 a)) (hy:Env.ev σ y=some (.int .i64 b))
include hx hy
theorem p_add (h : -9223372036854775808≤a+b∧a+b≤9223372036854775807):PureOp P (.binOp .add t x y t') ty σ (.int .i64 (a+b)):=by
 have e:IntKind.i64.wrap (a+b)=a+b:=IntWalk.i64_in _ (by omega)
 have:=p_addw (P:=P) (ty:=ty) (t:=t) (t':=t') hx hy
 rwa [e] at this
theorem p_sub (h : -9223372036854775808≤a-b∧a-b≤9223372036854775807):PureOp P (.binOp .sub t x y t') ty σ (.int .i64 (a-b)):=by
 have e:IntKind.i64.wrap (a-b)=a-b:=IntWalk.i64_in _ (by omega)
 have:=p_subw (P:=P) (ty:=ty) (t:=t) (t':=t') hx hy
 rwa [e] at this
theorem p_mul (h : -9223372036854775808≤a*b∧a*b≤9223372036854775807):PureOp P (.binOp .mul t x y t') ty σ (.int .i64 (a*b)):=by
 have e:IntKind.i64.wrap (a*b)=a*b:=IntWalk.i64_in _ (by omega)
 have:=p_mulw (P:=P) (ty:=ty) (t:=t) (t':=t') hx hy
 rwa [e] at this
end ints64
theorem p_not {x:Operand}{b:Bool}{t:TypeId}(hx:Env.ev σ x=some (.bool b)):PureOp P (.unOp .not t x) ty σ (.bool (!b)):=by
 intro dst pos af g ρ hρ w;simp [execOp,hρ _ _ hx,Op.unary]
theorem p_neg {x:Operand}{k:IntKind}{a:Int}{t:TypeId}(hx:Env.ev σ x=some (.int k a)):PureOp P (.unOp .neg t x) ty σ (.int k (k.wrap (0-a))):=by
 intro dst pos af g ρ hρ w;simp [execOp,hρ _ _ hx,Op.unary,Op.intArith]
theorem equal_eq (t:TypeId) (x y:Value):Op.equal t x y=Op.equalIn (9999+1) t x y:=rfl
def EqIs (P:Program) (m:Nat) (t:TypeId) (x y:Value) (b:Bool):Prop := ∀ w,(Op.equalIn m t x y).run P w=.ok b w
theorem eqIs_bool {t:TypeId} [Ty P t .bool] (m:Nat) (a b:Bool):EqIs P (m+1) t (.bool a) (.bool b) (a == b):=by
 intro w;simp [Op.equalIn,run_under (d:=.bool)]
theorem eqIs_int {t:TypeId}{k':IntKind} [Ty P t (.int k')] (m:Nat) (k:IntKind) (a b:Int):EqIs P (m+1) t (.int k a) (.int k b) (decide (a=b)):=by
 intro w;simp [Op.equalIn,run_under (d:=.int k'),BEq.beq]
theorem ba_list (a b:ByteArray):(a.toList == b.toList)=decide (a=b):=by
 rw [ByteArray.toList_eq,ByteArray.toList_eq]
 obtain ⟨⟨x⟩⟩:=a
 obtain ⟨⟨y⟩⟩:=b
 by_cases h:x=y
 ·subst h;simp
 ·have h1:(x == y)=false:=by simpa using h
  have h2:¬ (⟨⟨x⟩⟩:ByteArray)=⟨⟨y⟩⟩:=fun e=>h (by injection e with e;injection e)
  rw [h1];simp [h]
theorem ba_beq (a b:ByteArray):(a == b)=decide (a=b):=by rw [beq_toListBytes,ba_list]
theorem eqIs_string {t:TypeId} [Ty P t .string] (m:Nat) (a b:ByteArray):EqIs P (m+1) t (.string a) (.string b) (decide (a=b)):=by
 intro w;simp [Op.equalIn,run_under (d:=.string),ba_beq]
theorem p_eqV {x y:Operand}{u v:Value}{b:Bool}{t t':TypeId}(hx:Env.ev σ x=some u) (hy:Env.ev σ y=some v) (hb:∀ w,(do eqGuard .eql t x y u v;binOp .eql t u v).run P w=.ok (.bool b) w):PureOp P (.binOp .eql t x y t') ty σ (.bool b):=by
 intro dst pos af g ρ hρ w
 have:=hb w
 simp only [execOp,hρ _ _ hx,hρ _ _ hy]
 rw [Sem.run_bind,this]
 rfl
theorem p_neV {x y:Operand}{u v:Value}{b:Bool}{t t':TypeId}(hx:Env.ev σ x=some u) (hy:Env.ev σ y=some v) (hb:∀ w,(do eqGuard .neq t x y u v;binOp .neq t u v).run P w=.ok (.bool b) w):PureOp P (.binOp .neq t x y t') ty σ (.bool b):=by
 intro dst pos af g ρ hρ w
 have:=hb w
 simp only [execOp,hρ _ _ hx,hρ _ _ hy]
 rw [Sem.run_bind,this]
 rfl
theorem p_eqB {x y:Operand}{a b:Bool}{t t':TypeId} [Ty P t .bool] (hx:Env.ev σ x=some (.bool a)) (hy:Env.ev σ y=some (.bool b)):PureOp P (.binOp .eql t x y t') ty σ (.bool (a == b)) :=
 p_eqV hx hy fun w=>by simp [eqGuard,binOp,equal_eq,eqIs_bool (P:=P) (t:=t) 9999 a b w]
theorem p_neB {x y:Operand}{a b:Bool}{t t':TypeId} [Ty P t .bool] (hx:Env.ev σ x=some (.bool a)) (hy:Env.ev σ y=some (.bool b)):PureOp P (.binOp .neq t x y t') ty σ (.bool (!(a == b))) :=
 p_neV hx hy fun w=>by simp [eqGuard,binOp,equal_eq,eqIs_bool (P:=P) (t:=t) 9999 a b w]
theorem p_eqS {x y:Operand}{a b:ByteArray}{t t':TypeId}(hx:Env.ev σ x=some (.string a)) (hy:Env.ev σ y=some (.string b)):PureOp P (.binOp .eql t x y t') ty σ (.bool (dec (a=b))) :=
 p_eqV hx hy fun w=>by simp only [dec,eqGuard,binOp,Op.stringOp,ba_list];rfl
theorem p_neS {x y:Operand}{a b:ByteArray}{t t':TypeId}(hx:Env.ev σ x=some (.string a)) (hy:Env.ev σ y=some (.string b)):PureOp P (.binOp .neq t x y t') ty σ (.bool (!dec (a=b))) :=
 p_neV hx hy fun w=>by simp only [dec,eqGuard,binOp,Op.stringOp,ba_list];rfl
theorem p_eqNil {x y:Operand}{a:Option Addr}{t t' e:TypeId} [Ty P t (.pointer e)] (hx:Env.ev σ x=some (.pointer a)) (hy:Env.ev σ y=some (.pointer none)):PureOp P (.binOp .eql t x y t') ty σ (.bool a.isNone) :=
 p_eqV hx hy fun w=>by
  have:∀ m,EqIs P (m+1) t (.pointer a) (.pointer none) a.isNone:=by
   intro m w;cases a<;>simp [Op.equalIn,run_under (d:=.pointer e)]
  simp [eqGuard,binOp,equal_eq,this 9999 w]
theorem p_neNil {x y:Operand}{a:Option Addr}{t t' e:TypeId} [Ty P t (.pointer e)] (hx:Env.ev σ x=some (.pointer a)) (hy:Env.ev σ y=some (.pointer none)):PureOp P (.binOp .neq t x y t') ty σ (.bool (!a.isNone)) :=
 p_neV hx hy fun w=>by
  have:∀ m,EqIs P (m+1) t (.pointer a) (.pointer none) a.isNone:=by
   intro m w;cases a<;>simp [Op.equalIn,run_under (d:=.pointer e)]
  simp [eqGuard,binOp,equal_eq,this 9999 w]
theorem p_eqNilSlice {x y:Operand}{a:Option Addr}{l c l' c':Nat}{t t' e:TypeId} [Ty P t (.slice e)] (hx:Env.ev σ x=some (.slice a l c)) (hy:Env.ev σ y=some (.slice none l' c')):PureOp P (.binOp .eql t x y t') ty σ (.bool a.isNone) :=
 p_eqV hx hy fun w=>by
  have:∀ m,EqIs P (m+1) t (.slice a l c) (.slice none l' c') a.isNone:=by
   intro m w;cases a<;>simp [Op.equalIn,run_under (d:=.slice e)]
  simp [eqGuard,binOp,equal_eq,this 9999 w]
theorem p_neNilSlice {x y:Operand}{a:Option Addr}{l c l' c':Nat}{t t' e:TypeId} [Ty P t (.slice e)] (hx:Env.ev σ x=some (.slice a l c)) (hy:Env.ev σ y=some (.slice none l' c')):PureOp P (.binOp .neq t x y t') ty σ (.bool (!a.isNone)) :=
 p_neV hx hy fun w=>by
  have:∀ m,EqIs P (m+1) t (.slice a l c) (.slice none l' c') a.isNone:=by
   intro m w;cases a<;>simp [Op.equalIn,run_under (d:=.slice e)]
  simp [eqGuard,binOp,equal_eq,this 9999 w]
theorem p_conv {x:Operand}{k k' k'':IntKind}{a:Int}{t u:TypeId} [Ty P t (.int k'')] [Ty P u (.int k')] (hx:Env.ev σ x=some (.int k a)):PureOp P (.convert t u x) ty σ (.int k' (k'.wrap a)):=by
 intro dst pos af g ρ hρ w;simp [execOp,hρ _ _ hx,convert,run_under (t:=t) (d:=.int k''),run_under (t:=u) (d:=.int k'),Conv.intToInt]
theorem p_convS {x:Operand}{s:ByteArray}{t u:TypeId} [Ty P t .string] [Ty P u .string] (hx:Env.ev σ x=some (.string s)):PureOp P (.convert t u x) ty σ (.string s):=by
 intro dst pos af g ρ hρ w;simp [execOp,hρ _ _ hx,convert,run_under (t:=t) (d:=.string),run_under (t:=u) (d:=.string)]
theorem p_nilCheck {x:Operand}{a:Addr}(hx:Env.ev σ x=some (.pointer (some a))):PureOp P (.nilCheck x) ty σ (.pointer (some a)):=by
 intro dst pos af g ρ hρ w;simp [execOp,hρ _ _ hx]
theorem p_extract {x:Operand}{vs:Array Value}{v:Value}{i:Nat}(hx:Env.ev σ x=some (.tuple vs)) (hv:vs[i]? = some v):PureOp P (.extract x i) ty σ v:=by
 intro dst pos af g ρ hρ w;simp [execOp,hρ _ _ hx,Instr.extract,hv]
theorem p_makeFunc {f:Fn}{xs ys:List Operand}{us vs:List Value}(hx:Env.evs σ xs=some us) (hy:Env.evs σ ys=some vs):PureOp P (.makeFunc f xs.toArray ys.toArray) ty σ (.func f us.toArray vs.toArray):=by
 intro dst pos af g ρ hρ w
 have key:∀ {xs:List Operand} {us:List Value},Env.evs σ xs=some us→xs.map ρ=us:=by
  intro xs
  induction xs with
  | nil=>intro us h;simpa [Env.evs] using h
  | cons x xs ih =>
   intro us h
   simp only [Env.evs] at h
   cases h1:Env.ev σ x with
   | none=>simp [h1] at h
   | some v =>
    cases h2:Env.evs σ xs with
    | none=>simp [h1,h2] at h
    | some us'=>simp only [h1,h2,Option.bind_some,Option.map_some,Option.some.injEq] at h;subst h;simp [hρ _ _ h1,ih h2]
 simp [execOp,Instr.makeFunc,key hx,key hy]
theorem p_iface {x:Operand}{v:Value}{t:TypeId}{d:TypeDesc} [Ty P t d] (hd:(match d with | .interface _=>false|_=>true)=true) (hx:Env.ev σ x=some v):PureOp P (.makeInterface t x) ty σ (.iface t v):=by
 intro dst pos af g ρ hρ w
 simp only [execOp,hρ _ _ hx,Instr.makeInterface,Sem.run_bind,run_under (t:=t) (d:=d),Result.andThen_ok]
 cases d<;>simp at hd ⊢
theorem p_lenSlice {x:Operand}{a:Option Addr}{l c:Nat}{t e:TypeId} [Ty P t (.slice e)] (hx:Env.ev σ x=some (.slice a l c)):PureOp P (.call { callee:=.builtin .len,args:=#[x],argTypes:=#[t] }) ty σ (.int .i64 l):=by
 intro dst pos af g ρ hρ w
 simp [execOp,resolve,invoke,builtin,Builtin.len_,hρ _ _ hx,run_under (t:=t) (d:=.slice e),goInt]
theorem p_lenString {x:Operand}{s:ByteArray}{t:TypeId} [Ty P t .string] (hx:Env.ev σ x=some (.string s)):PureOp P (.call { callee:=.builtin .len,args:=#[x],argTypes:=#[t] }) ty σ (.int .i64 s.size):=by
 intro dst pos af g ρ hρ w
 simp [execOp,resolve,invoke,builtin,Builtin.len_,hρ _ _ hx,run_under (t:=t) (d:=.string),goInt]
theorem p_capSlice {x:Operand}{a:Option Addr}{l c:Nat}{t e:TypeId} [Ty P t (.slice e)] (hx:Env.ev σ x=some (.slice a l c)):PureOp P (.call { callee:=.builtin .cap,args:=#[x],argTypes:=#[t] }) ty σ (.int .i64 c):=by
 intro dst pos af g ρ hρ w
 simp [execOp,resolve,invoke,builtin,Builtin.cap_,hρ _ _ hx,run_under (t:=t) (d:=.slice e),goInt]
theorem p_max {x y:Operand}{k:IntKind}{a b:Int}{ts:Array TypeId}(hx:Env.ev σ x=some (.int k a)) (hy:Env.ev σ y=some (.int k b)):PureOp P (.call { callee:=.builtin .max,args:=#[x,y],argTypes:=ts }) ty σ (.int k (max a b)):=by
 intro dst pos af g ρ hρ w
 have:(if b>a then b else a)=max a b:=by split<;>omega
 simp [execOp,resolve,invoke,builtin,Builtin.max_,Builtin.max2,hρ _ _ hx,hρ _ _ hy,this]
theorem p_min {x y:Operand}{k:IntKind}{a b:Int}{ts:Array TypeId}(hx:Env.ev σ x=some (.int k a)) (hy:Env.ev σ y=some (.int k b)):PureOp P (.call { callee:=.builtin .min,args:=#[x,y],argTypes:=ts }) ty σ (.int k (min a b)):=by
 intro dst pos af g ρ hρ w
 have:(if b<a then b else a)=min a b:=by split<;>omega
 simp [execOp,resolve,invoke,builtin,Builtin.min_,Builtin.min2,hρ _ _ hx,hρ _ _ hy,this]
theorem p_indexS {x i:Operand}{s:ByteArray}{k:IntKind}{m:Int}{t:TypeId} [Ty P t .string] (hx:Env.ev σ x=some (.string s)) (hi:Env.ev σ i=some (.int k m)) (h0:0≤m) (h:m.toNat<s.size):PureOp P (.index t x i) ty σ (.int .u8 (s[m.toNat]'h).toNat):=by
 intro dst pos af g ρ hρ w
 simp [execOp,Instr.index,asIntOf,hρ _ _ hx,hρ _ _ hi,run_under (t:=t) (d:=.string),h0,h]
end ops
attribute [irreducible] PureOp ReadOp MoveOp dec
end Go.Vx
/-
  VX, THE OPERATIONS THAT TOUCH MEMORY, and calls.
-/
namespace Go.Vx
open Go
attribute [local semireducible] Vc Con PureOp ReadOp MoveOp
def Cell (G:GH) (μ:OH) (a:Addr) (v:Value):Prop := ∀ w,Sees G μ w→w.cell? a=some v
def GH.cell? (G:GH) (a:Addr):Option Value :=
 match G a.block with
 | some (.cells c _ _)=>if a.spot.isSome then none else c[a.off]?
 | _=>none
theorem GH.cell_le {G G':GH}(h:GH.le G G') {a:Addr}{v:Value}(hc:GH.cell? G a=some v):GH.cell? G' a=some v:=by
 unfold GH.cell? at hc ⊢
 cases hg:G a.block with
 | none=>rw [hg] at hc;cases hc
 | some o=>rw [hg] at hc;rw [h _ _ hg];exact hc
theorem Cell.frozen {G:GH}{μ:OH}{a:Addr}{v:Value}(h:GH.cell? G a=some v):Cell G μ a v:=by
 intro w hw
 unfold GH.cell? at h
 cases hg:G a.block with
 | none=>rw [hg] at h;cases h
 | some o =>
  rw [hg] at h
  have:=hw.g _ _ hg
  unfold World.cell?
  rw [this]
  exact h
def Has (μ:OH) (b:Nat) (vs:List Value) (e:TypeId):Prop:=(b,Obj.cells vs.toArray e (0,0))∈μ
theorem Cell.own {G:GH}{μ:OH}{b i:Nat}{vs:List Value}{e:TypeId}{v:Value}(h:Has μ b vs e) (hv:vs[i]? = some v):Cell G μ ⟨b,i,none⟩ v:=by
 intro w hw
 have:=hw.own _ _ h
 unfold World.cell?
 simp only [this]
 simpa using hv
def CellsAt (G:GH) (μ:OH) (a:Addr) (vs:List Value):Prop := ∀ j v,vs[j]? = some v→Cell G μ (a.add j) v
theorem add_mk (b o j:Nat):(⟨b,o,none⟩:Addr).add j=⟨b,o+j,none⟩:=by
 unfold Addr.add;split
 ·next h=>subst h;rfl
 ·rfl
theorem add_add (a:Addr) (i j:Nat):(a.add i).add j=a.add (i+j):=by
 unfold Addr.add
 by_cases hi:i=0<;>by_cases hj:j=0<;>simp [hi,hj,Nat.add_assoc]
theorem CellsAt.own {G:GH}{μ:OH}{b:Nat}{vs:List Value}{e:TypeId}(h:Has μ b vs e):CellsAt G μ ⟨b,0,none⟩ vs:=by
 intro j v hv
 rw [add_mk,Nat.zero_add]
 exact Cell.own h hv
theorem CellsAt.ownAt {G:GH}{μ:OH}{b i m:Nat}{vs:List Value}{e:TypeId}(h:Has μ b vs e):CellsAt G μ ⟨b,i,none⟩ ((vs.drop i).take m):=by
 intro j v hv
 rw [add_mk]
 refine Cell.own h ?_
 rw [List.getElem?_take] at hv
 split at hv
 ·rw [List.getElem?_drop] at hv;exact hv
 ·cases hv
def CellsG (G:GH) (a:Addr) (vs:List Value):Prop := ∀ j v,vs[j]? = some v→GH.cell? G (a.add j)=some v
theorem CellsG.le {G G':GH}(h:GH.le G G') {a:Addr}{vs:List Value}(hc:CellsG G a vs):CellsG G' a vs:=fun j v hv=>GH.cell_le h (hc j v hv)
theorem CellsAt.frozen {G:GH}{μ:OH}{a:Addr}{vs:List Value}(h:CellsG G a vs):CellsAt G μ a vs:=fun j v hv=>Cell.frozen (h j v hv)
theorem CellsG.cell {G:GH}{a:Addr}{vs:List Value}(h:CellsG G a vs) {j:Nat}{v:Value}(hv:vs[j]? = some v):GH.cell? G (a.add j)=some v:=h j v hv
section
variable {P:Program}{ty:TypeId}{σ:Env}{G:GH}{μ:OH}{t:TypeId}{bytes:Nat}{zero:Value}
theorem r_load1 {x:Operand}{a:Addr}{v:Value}{sz:Nat} [Lay P t false sz bytes zero] (hx:Env.ev σ x=some (.pointer (some a))) (hc:Cell G μ a v):ReadOp P (.load t x) ty σ G μ v:=by
 intro dst pos af g ρ hρ w hw
 have h0:=hc w hw
 simp [execOp,hρ _ _ hx,Instr.loadAt,Instr.sureAddr,loadVar,run_isAgg' (P:=P) (t:=t) (agg:=false) (size:=sz) (bytes:=bytes) (zero:=zero),h0]
theorem r_loadN {x:Operand}{a:Addr}{vs:List Value}{sz:Nat} [Lay P t true sz bytes zero] (hx:Env.ev σ x=some (.pointer (some a))) (hc:CellsAt G μ a vs) (hn:vs.length=sz):ReadOp P (.load t x) ty σ G μ (.agg vs.toArray):=by
 intro dst pos af g ρ hρ w hw
 subst hn
 have hl:(loadCells a vs.length).run P w=.ok vs.toArray w:=run_loadCells_list w a vs (fun j v hv=>hc j v hv w hw)
 simp [execOp,hρ _ _ hx,Instr.loadAt,Instr.sureAddr,loadVar,run_isAgg' (P:=P) (t:=t) (agg:=true) (size:=vs.length) (bytes:=bytes) (zero:=zero),run_sizeOf (P:=P) (t:=t) (agg:=true) (size:=vs.length) (bytes:=bytes) (zero:=zero),hl]
def fieldOff (P:Program) (s:TypeId) (i:Nat):Option (Nat×TypeId) :=
 match P.underlying s with
 | some (.struct fs) =>
  match fs[i]? with
  | some f=>match P.info? f.type with
   | some inf=>if inf.size=0 then none else some (f.offset,f.type)
   | none=>none
  | none=>none
 | _=>none
class Fld (P:Program) (s:TypeId) (i:Nat) (off:outParam Nat) (ft:outParam TypeId):Prop where
 h:fieldOff P s i=some (off,ft)
theorem Fld.ex {s:TypeId}{i off:Nat}{ft:TypeId}(h:Fld P s i off ft):∃ fs f inf,P.underlying s=some (.struct fs)∧fs[i]? = some f∧f.offset=off∧f.type=ft∧P.info? ft=some inf∧inf.size≠0:=by
 have h':=h.h
 unfold fieldOff at h'
 split at h'
 ·rename_i fs hu
  split at h'
  ·rename_i f hf
   split at h'
   ·rename_i inf hi
    split at h'
    ·cases h'
    ·rename_i hne
     simp only [Option.some.injEq,Prod.mk.injEq] at h'
     obtain ⟨h1,h2⟩:=h'
     exact ⟨fs,f,inf,hu,hf,h1,h2,h2 ▸ hi,hne⟩
   ·cases h'
  ·cases h'
 ·cases h'
theorem p_fieldAddr {s:TypeId}{x:Operand}{a:Addr}{i off:Nat}{ft:TypeId}[h:Fld P s i off ft] (hx:Env.ev σ x=some (.pointer (some a))):PureOp P (.fieldAddr s x i) ty σ (.pointer (some (a.add off))):=by
 obtain ⟨fs,f,inf,hu,hf,h1,h2,h3,h4⟩:=h.ex
 subst h2
 intro dst pos af g ρ hρ w
 simp [execOp,hρ _ _ hx,Instr.fieldAt,run_underlying hu,hf,Instr.sureAddr,fieldPlace,sizeOf,typeInfo,h3,h4,h1]
theorem p_fieldAddrB {s:TypeId}{x:Operand}{b o:Nat}{i off:Nat}{ft:TypeId}[h:Fld P s i off ft] (hx:Env.ev σ x=some (.pointer (some ⟨b,o,none⟩))):PureOp P (.fieldAddr s x i) ty σ (.pointer (some ⟨b,o+off,none⟩)):=by
 have:=p_fieldAddr (P:=P) (ty:=ty) (s:=s) (i:=i) (ft:=ft) hx
 rwa [add_mk] at this
theorem p_field1 {s:TypeId}{x:Operand}{vs:List Value}{v:Value}{i off sz:Nat}{ft:TypeId}[h:Fld P s i off ft] [Lay P ft false sz bytes zero] (hx:Env.ev σ x=some (.agg vs.toArray)) (hv:vs[off]? = some v):PureOp P (.field s x i) ty σ v:=by
 obtain ⟨fs,f,inf,hu,hf,h1,h2,h3,h4⟩:=h.ex
 subst h2
 intro dst pos af g ρ hρ w
 simp [execOp,hρ _ _ hx,Instr.field,run_underlying hu,hf,asAgg,part,run_isAgg' (P:=P) (t:=f.type) (agg:=false) (size:=sz) (bytes:=bytes) (zero:=zero),h1,hv]
theorem p_fieldN {s:TypeId}{x:Operand}{vs:List Value}{i off sz:Nat}{ft:TypeId}[h:Fld P s i off ft] [Lay P ft true sz bytes zero] (hx:Env.ev σ x=some (.agg vs.toArray)):PureOp P (.field s x i) ty σ (.agg ((vs.drop off).take sz).toArray):=by
 obtain ⟨fs,f,inf,hu,hf,h1,h2,h3,h4⟩:=h.ex
 subst h2
 intro dst pos af g ρ hρ w
 have e:vs.toArray.extract off (off+sz)=((vs.drop off).take sz).toArray:=by
  apply Array.ext'
  simp
 simp only [execOp,hρ _ _ hx,Instr.field,run_underlying hu,hf,asAgg,part,Sem.run_bind,Result.andThen_ok,run_isAgg' (P:=P) (t:=f.type) (agg:=true) (size:=sz) (bytes:=bytes) (zero:=zero),run_sizeOf (P:=P) (t:=f.type) (agg:=true) (size:=sz) (bytes:=bytes) (zero:=zero),h1,if_true,Sem.run_pure,e]
theorem p_indexAddr {e:TypeId}{agg:Bool}{sz:Nat}{x i:Operand}{a:Addr}{l c:Nat}{k:IntKind}{m:Int} [Ty P t (.slice e)] [Lay P e agg sz bytes zero] (hx:Env.ev σ x=some (.slice (some a) l c)) (hi:Env.ev σ i=some (.int k m))
 (h0:0≤m) (h:m<l):PureOp P (.indexAddr t x i) ty σ (.pointer (some (a.add (m.toNat*sz)))):=by
 intro dst pos af g ρ hρ w
 simp [execOp,hρ _ _ hx,hρ _ _ hi,Instr.indexAt,asIntOf,run_under (P:=P) (t:=t) (d:=.slice e),h0,h,run_sizeOf (P:=P) (t:=e) (agg:=agg) (size:=sz) (bytes:=bytes) (zero:=zero)]
theorem p_indexAddrA {e:TypeId}{agg:Bool}{sz len:Nat}{x i:Operand}{a:Addr}{k:IntKind}{m:Int} [Ty P t (.array len e)] [Lay P e agg sz bytes zero] (hx:Env.ev σ x=some (.pointer (some a))) (hi:Env.ev σ i=some (.int k m))
 (h0:0≤m) (h:m<len):PureOp P (.indexAddr t x i) ty σ (.pointer (some (a.add (m.toNat*sz)))):=by
 intro dst pos af g ρ hρ w
 simp [execOp,hρ _ _ hx,hρ _ _ hi,Instr.indexAt,asIntOf,Instr.sureAddr,run_under (P:=P) (t:=t) (d:=.array len e),h0,h,run_sizeOf (P:=P) (t:=e) (agg:=agg) (size:=sz) (bytes:=bytes) (zero:=zero)]
theorem p_indexAddrB {e:TypeId}{agg:Bool}{sz len:Nat}{x i:Operand}{b o:Nat}{k:IntKind}{m:Int} [Ty P t (.array len e)] [Lay P e agg sz bytes zero] (hx:Env.ev σ x=some (.pointer (some ⟨b,o,none⟩))) (hi:Env.ev σ i=some (.int k m))
 (h0:0≤m) (h:m<len):PureOp P (.indexAddr t x i) ty σ (.pointer (some ⟨b,o+m.toNat*sz,none⟩)):=by
 have:=p_indexAddrA (P:=P) (ty:=ty) (t:=t) (e:=e) hx hi h0 h
 rwa [add_mk] at this
end
section
variable {P:Program}{fn:Func}{n:Nat}{B:Base}{Φ:Value→GH→OH→Prop}{k:List It}{σ:Env}{G:GH}{μ:OH}{all:Array Oper}{rest:List Oper}{d:Nat}{ty:TypeId}{pos:String}{af:Array Edge}
theorem m_alloc {e:TypeId}{agg:Bool}{sz bytes:Nat}{zero:Value}{zs:List Value} [Lay P e agg sz bytes zero] (hz:zero.cells=zs.toArray) :
 MoveOp P (.alloc e) ty σ G μ (fun v G' μ'=>∃ b,v=.pointer (some ⟨b,0,none⟩)∧G'=G∧μ'=(b,.cells zs.toArray e (0,0))::μ):=by
 intro dst pos af g ρ hρ w hw a K Q hK
 have hr:(execOp ρ ⟨dst,.alloc e,ty,pos,af,g⟩).run P w=.ok (.value (.pointer (some ⟨w.heap.size,0,none⟩))) (w.alloc (.cells zs.toArray e (0,0))):=by
  simp [execOp,Instr.alloc,run_zeroOf (P:=P) (t:=e) (agg:=agg) (size:=sz) (bytes:=bytes) (zero:=zero),newVar,newRow,hz]
 rw [hr]
 exact hK _ _ _ _ (Step.alloc hw _) ⟨_,rfl,rfl,rfl⟩
theorem v_alloc {e:TypeId}{agg:Bool}{sz bytes:Nat}{zero:Value}{zs:List Value} [Lay P e agg sz bytes zero] (hz:zero.cells=zs.toArray) (hd:Nat.blt d n=true)
 (h:∀ b,Vc P fn n B Φ (.ops all rest::k) ((d,.pointer (some ⟨b,0,none⟩))::σ) G ((b,.cells zs.toArray e (0,0))::μ)):Vc P fn n B Φ (.ops all (⟨some d,.alloc e,ty,pos,af,none⟩::rest)::k) σ G μ :=
 v_move (m_alloc hz) hd fun _ _ _ ⟨b,h1,h2,h3⟩=>by rw [h1,h2,h3];exact h b
theorem m_box {e:TypeId}{x:Operand}{v:Value}{zs:List Value}(hx:Env.ev σ x=some v) (hz:v.cells=zs.toArray) :
 MoveOp P (.box e x) ty σ G μ (fun v G' μ'=>∃ b,v=.pointer (some ⟨b,0,none⟩)∧G'=G∧μ'=(b,.cells zs.toArray e (0,0))::μ):=by
 intro dst pos af g ρ hρ w hw a K Q hK
 have hr:(execOp ρ ⟨dst,.box e x,ty,pos,af,g⟩).run P w=.ok (.value (.pointer (some ⟨w.heap.size,0,none⟩))) (w.alloc (.cells zs.toArray e (0,0))):=by
  simp [execOp,hρ _ _ hx,Instr.box,newVar,newRow,hz]
 rw [hr]
 exact hK _ _ _ _ (Step.alloc hw _) ⟨_,rfl,rfl,rfl⟩
theorem v_box {e:TypeId}{x:Operand}{v:Value}{zs:List Value}(hx:Env.ev σ x=some v) (hz:v.cells=zs.toArray) (hd:Nat.blt d n=true)
 (h:∀ b,Vc P fn n B Φ (.ops all rest::k) ((d,.pointer (some ⟨b,0,none⟩))::σ) G ((b,.cells zs.toArray e (0,0))::μ)):Vc P fn n B Φ (.ops all (⟨some d,.box e x,ty,pos,af,none⟩::rest)::k) σ G μ :=
 v_move (m_box hx hz) hd fun _ _ _ ⟨b,h1,h2,h3⟩=>by rw [h1,h2,h3];exact h b
def over (vs:List Value) (i:Nat) (us:List Value):List Value:=vs.take i++us++vs.drop (i+us.length)
theorem over_length {vs us:List Value}{i:Nat}(h:i+us.length≤vs.length):(over vs i us).length=vs.length:=by
 simp [over];omega
theorem over_set {vs:List Value}{i:Nat}{u:Value}(h:i<vs.length):over vs i [u]=vs.set i u:=by
 simp only [over,List.length_singleton]
 rw [List.set_eq_take_append_cons_drop,if_pos h]
 simp
theorem run_storeVar {t:TypeId}{agg:Bool}{sz bytes:Nat}{zero u:Value}{w:World}{b i:Nat}{e:TypeId}{us vs:List Value} [Lay P t agg sz bytes zero] (hc:u.cells=us.toArray) (hsz:us.length=sz) (h1:us.all Value.oneCell'=true)
 (hg:w.heap[b]? = some (.cells vs.toArray e (0,0))) (hfit:i+us.length≤vs.length):(storeVar t ⟨b,i,none⟩ u).run P w=.ok () (w.setRow b (over vs i us).toArray):=by
 subst hsz
 have hst:=run_storeCells_at P b i e us 0 vs.toArray w hg (by simpa using hfit) (fun v hv=>by have:=List.all_eq_true.1 h1 v hv;simpa using this)
 simp only [Nat.add_zero] at hst
 simp only [storeVar,hc,Sem.run_bind,run_sizeOf (P:=P) (t:=t) (agg:=agg) (size:=us.length) (bytes:=bytes) (zero:=zero),Result.andThen_ok,List.size_toArray,ne_eq,not_true_eq_false,if_false]
 simpa [over] using hst
theorem Step.row {μ':OH}{w:World}{b:Nat}{e:TypeId}{vs vs':List Value}(hw:Mem G μ w) (hb:Has μ b vs e) (hu:Upd b (.cells vs'.toArray e (0,0)) μ μ'):Step G μ w G μ' (w.setRow b vs'.toArray) :=
 Step.upd hw hu rfl rfl rfl (by simp) (setRow_heap w b _ _ e _ (hw.own _ _ hb)) (fun c hc=>setRow_other w b c _ hc)
theorem m_store {t:TypeId}{agg:Bool}{sz bytes:Nat}{zero u:Value}{p x:Operand}{b i:Nat}{e:TypeId}{us vs vs':List Value}{μ':OH} [Lay P t agg sz bytes zero] (hp:Env.ev σ p=some (.pointer (some ⟨b,i,none⟩))) (hx:Env.ev σ x=some u)
 (hc:u.cells=us.toArray) (hsz:us.length=sz) (h1:us.all Value.oneCell'=true) (hb:Has μ b vs e) (hfit:i+us.length≤vs.length) (hov:over vs i us=vs') (hu:Upd b (.cells vs'.toArray e (0,0)) μ μ') :
 MoveOp P (.store t p x) ty σ G μ (fun _ G' μ''=>G'=G∧μ''=μ'):=by
 intro dst pos af g ρ hρ w hw a K Q hK
 have hr:(execOp ρ ⟨dst,.store t p x,ty,pos,af,g⟩).run P w=.ok .skip (w.setRow b vs'.toArray):=by
  have:=run_storeVar (P:=P) (t:=t) (agg:=agg) (bytes:=bytes) (zero:=zero) hc hsz h1 (hw.own _ _ hb) hfit
  rw [hov] at this
  simp [execOp,hρ _ _ hp,hρ _ _ hx,Instr.storeAt,Instr.sureAddr,this]
 rw [hr]
 exact hK _ _ _ _ (Step.row hw hb hu) ⟨rfl,rfl⟩
theorem v_store {t:TypeId}{agg:Bool}{sz bytes:Nat}{zero u:Value}{p x:Operand}{b i:Nat}{e:TypeId}{us vs vs':List Value}{μ':OH} [Lay P t agg sz bytes zero] (hp:Env.ev σ p=some (.pointer (some ⟨b,i,none⟩))) (hx:Env.ev σ x=some u)
 (hc:u.cells=us.toArray) (hsz:us.length=sz) (h1:us.all Value.oneCell'=true) (hb:Has μ b vs e) (hfit:i+us.length≤vs.length) (hov:over vs i us=vs') (hu:Upd b (.cells vs'.toArray e (0,0)) μ μ')
 (h:Vc P fn n B Φ (.ops all rest::k) σ G μ'):Vc P fn n B Φ (.ops all (⟨none,.store t p x,ty,pos,af,none⟩::rest)::k) σ G μ :=
 v_move0 (m_store hp hx hc hsz h1 hb hfit hov hu) fun _ _ _ ⟨h1,h2⟩=>by rw [h1,h2];exact h
class Callable (P:Program) (f:FuncId):Prop where
 h:∀ args w,(callFunc f args).run P w=.ok (.enter f args) w
theorem callable_of {f:FuncId}{fn:Func}(hf:P.funcs[f]? = some fn) (hn:(fn.name == "runtime.NumGoroutine")=false) (hb:fn.body.isNone=false):Callable P f :=
 ⟨fun args w=>by
  have hn':¬ fn.name = "runtime.NumGoroutine" := by simpa using hn
  have hb':¬ fn.body=none:=by intro e;rw [e] at hb;cases hb
  simp [callFunc,hf,hn',hb']⟩
theorem agree_evs {σ:Env}{ρ:Operand→Value}(hρ:Agree σ ρ):∀ {xs:List Operand}{us:List Value},Env.evs σ xs=some us→xs.map ρ=us
 | [],us,h=>by simpa [Env.evs] using h
 | x::xs,us,h=>by
  simp only [Env.evs] at h
  cases h1:Env.ev σ x with
  | none=>simp [h1] at h
  | some v =>
   cases h2:Env.evs σ xs with
   | none=>simp [h1,h2] at h
   | some us'=>simp only [h1,h2,Option.bind_some,Option.map_some,Option.some.injEq] at h;subst h;simp [hρ _ _ h1,agree_evs hρ h2]
theorem m_enter {op:Op}{f:FuncId}{args:Array Value}{μ1 μ2:OH}{Ψ:Value→GH→OH→Prop}(hs:Con P f args G μ1 Ψ) (hp:μ.Perm (μ1++μ2))
 (hr:∀ dst pos af g ρ,Agree σ ρ→∀ w,(execOp ρ ⟨dst,op,ty,pos,af,g⟩).run P w=.ok (.enter f args) w) :
 MoveOp P op ty σ G μ (fun v G' μ'=>∃ μ1',GH.le G G'∧Ψ v G' μ1'∧μ'=μ1'++μ2):=by
 intro dst pos af g ρ hρ w hw a K Q hK
 rw [hr dst pos af g ρ hρ w]
 have hw':=hw.perm hp
 refine Calls.mono (hs w hw'.split.1) ?_
 rintro e w' ⟨v,rfl,G',μ1',hst,hΨ⟩
 exact hK v w' G' (μ1'++μ2) ((hst.frame hw').permL hp.symm) ⟨μ1',hst.le,hΨ,rfl⟩
theorem run_callF {f:FuncId}[hc:Callable P f] {args:List Operand}{ts:Array TypeId}{vs:List Value}(ha:Env.evs σ args=some vs) :
 ∀ dst pos af g ρ,Agree σ ρ→∀ w,(execOp ρ ⟨dst,.call { callee:=.value (.func f),args:=args.toArray,argTypes:=ts },ty,pos,af,g⟩).run P w=.ok (.enter f vs.toArray) w:=by
 intro dst pos af g ρ hρ w
 have hf:ρ (.func f)=.func (.func f) #[] #[]:=hρ _ _ rfl
 simp [execOp,resolve,hf,Deferred.ofValue,invoke,agree_evs hρ ha,hc.h]
theorem run_callC {x:Operand}{f:FuncId}[hc:Callable P f] {first captured:List Value}{args:List Operand}{ts:Array TypeId}{vs:List Value}(hx:Env.ev σ x=some (.func (.func f) first.toArray captured.toArray)) (ha:Env.evs σ args=some vs) :
 ∀ dst pos af g ρ,Agree σ ρ→∀ w,(execOp ρ ⟨dst,.call { callee:=.value x,args:=args.toArray,argTypes:=ts },ty,pos,af,g⟩).run P w=.ok (.enter f (first++vs++captured).toArray) w:=by
 intro dst pos af g ρ hρ w
 simp [execOp,resolve,hρ _ _ hx,Deferred.ofValue,invoke,agree_evs hρ ha,hc.h]
theorem v_call {f:FuncId} [Callable P f] {args:List Operand}{ts:Array TypeId}{vs:List Value}{μ1 μ2:OH}{Ψ:Value→GH→OH→Prop}(ha:Env.evs σ args=some vs) (hs:Con P f vs.toArray G μ1 Ψ) (hp:μ.Perm (μ1++μ2)) (hd:Nat.blt d n=true)
 (h:∀ v G' μ1',GH.le G G'→Ψ v G' μ1'→Vc P fn n B Φ (.ops all rest::k) ((d,v)::σ) G' (μ1'++μ2)) :
 Vc P fn n B Φ (.ops all (⟨some d,.call { callee:=.value (.func f),args:=args.toArray,argTypes:=ts },ty,pos,af,none⟩::rest)::k) σ G μ :=
 v_move (m_enter hs hp (run_callF ha)) hd fun _ _ _ ⟨_,hle,h1,h2⟩=>by rw [h2];exact h _ _ _ hle h1
theorem v_callC {x:Operand}{f:FuncId} [Callable P f] {first captured:List Value}{args:List Operand}{ts:Array TypeId}{vs:List Value}{μ1 μ2:OH}{Ψ:Value→GH→OH→Prop}(hx:Env.ev σ x=some (.func (.func f) first.toArray captured.toArray)) (ha:Env.evs σ args=some vs) (hs:Con P f (first++vs++captured).toArray G μ1 Ψ) (hp:μ.Perm (μ1++μ2)) (hd:Nat.blt d n=true)
 (h:∀ v G' μ1',GH.le G G'→Ψ v G' μ1'→Vc P fn n B Φ (.ops all rest::k) ((d,v)::σ) G' (μ1'++μ2)) :
 Vc P fn n B Φ (.ops all (⟨some d,.call { callee:=.value x,args:=args.toArray,argTypes:=ts },ty,pos,af,none⟩::rest)::k) σ G μ :=
 v_move (m_enter hs hp (run_callC hx ha)) hd fun _ _ _ ⟨_,hle,h1,h2⟩=>by rw [h2];exact h _ _ _ hle h1
def Just (v:Value) (G:GH) (u:Value) (G':GH) (μ':OH):Prop:=u=v∧G'=G∧μ'=[]
theorem v_callJ {f:FuncId} [Callable P f] {args:List Operand}{ts:Array TypeId}{vs:List Value}{v:Value}(ha:Env.evs σ args=some vs) (hs:Con P f vs.toArray G [] (Just v G)) (hd:Nat.blt d n=true)
 (h:Vc P fn n B Φ (.ops all rest::k) ((d,v)::σ) G μ) :
 Vc P fn n B Φ (.ops all (⟨some d,.call { callee:=.value (.func f),args:=args.toArray,argTypes:=ts },ty,pos,af,none⟩::rest)::k) σ G μ :=
 v_call (μ1:=[]) (μ2:=μ) ha hs (List.Perm.refl _) hd fun _ _ _ _ ⟨h1,h2,h3⟩=>by rw [h1,h2,h3];exact h
theorem v_callCJ {x:Operand}{f:FuncId} [Callable P f] {first captured:List Value}{args:List Operand}{ts:Array TypeId}{vs:List Value}{v:Value}(hx:Env.ev σ x=some (.func (.func f) first.toArray captured.toArray)) (ha:Env.evs σ args=some vs) (hs:Con P f (first++vs++captured).toArray G [] (Just v G)) (hd:Nat.blt d n=true)
 (h:Vc P fn n B Φ (.ops all rest::k) ((d,v)::σ) G μ) :
 Vc P fn n B Φ (.ops all (⟨some d,.call { callee:=.value x,args:=args.toArray,argTypes:=ts },ty,pos,af,none⟩::rest)::k) σ G μ :=
 v_callC (μ1:=[]) (μ2:=μ) hx ha hs (List.Perm.refl _) hd fun _ _ _ _ ⟨h1,h2,h3⟩=>by rw [h1,h2,h3];exact h
def Keeps (v:Value) (G:GH) (μ:OH) (u:Value) (G':GH) (μ':OH):Prop:=u=v∧G'=G∧μ'=μ
theorem v_callK {f:FuncId} [Callable P f] {args:List Operand}{ts:Array TypeId}{vs:List Value}{v:Value}{μ1 μ2:OH}(ha:Env.evs σ args=some vs) (hs:Con P f vs.toArray G μ1 (Keeps v G μ1)) (hp:μ.Perm (μ1++μ2)) (hd:Nat.blt d n=true)
 (h:Vc P fn n B Φ (.ops all rest::k) ((d,v)::σ) G μ) :
 Vc P fn n B Φ (.ops all (⟨some d,.call { callee:=.value (.func f),args:=args.toArray,argTypes:=ts },ty,pos,af,none⟩::rest)::k) σ G μ :=
 v_call ha hs hp hd fun _ _ _ _ ⟨h1,h2,h3⟩=>by rw [h1,h2,h3];exact v_perm hp.symm h
theorem m_keep {op:Op}{f:FuncId}{args:Array Value}{μ1 μ2:OH}{v:Value}(hs:Con P f args G μ1 (Keeps v G μ1)) (hp:μ.Perm (μ1++μ2))
 (hr:∀ dst pos af g ρ,Agree σ ρ→∀ w,(execOp ρ ⟨dst,op,ty,pos,af,g⟩).run P w=.ok (.enter f args) w) :
 MoveOp P op ty σ G μ (fun u G' μ'=>u=v∧G'=G∧μ'=μ):=by
 intro dst pos af g ρ hρ w hw a K Q hK
 rw [hr dst pos af g ρ hρ w]
 have hw':=hw.perm hp
 refine Calls.mono (hs w hw'.split.1) ?_
 rintro e w' ⟨u,rfl,G',μ1',hst,h1,h2,h3⟩
 subst h1;subst h2;subst h3
 exact hK _ w' _ μ (((hst.frame hw').permL hp.symm).perm hp.symm) ⟨rfl,rfl,rfl⟩
theorem m_callFK {f:FuncId} [Callable P f] {args:List Operand}{ts:Array TypeId}{vs:List Value}{v:Value}{μ1 μ2:OH}(ha:Env.evs σ args=some vs) (hs:Con P f vs.toArray G μ1 (Keeps v G μ1)) (hp:μ.Perm (μ1++μ2)) :
 MoveOp P (.call { callee:=.value (.func f),args:=args.toArray,argTypes:=ts }) ty σ G μ (fun u G' μ'=>u=v∧G'=G∧μ'=μ):=m_keep hs hp (run_callF ha)
theorem m_callFJ {f:FuncId} [Callable P f] {args:List Operand}{ts:Array TypeId}{vs:List Value}{v:Value}(ha:Env.evs σ args=some vs) (hs:Con P f vs.toArray G [] (Just v G)) :
 MoveOp P (.call { callee:=.value (.func f),args:=args.toArray,argTypes:=ts }) ty σ G μ (fun u G' μ'=>u=v∧G'=G∧μ'=μ):=m_keep (μ1:=[]) (μ2:=μ) hs (List.Perm.refl _) (run_callF ha)
theorem m_callF {f:FuncId} [Callable P f] {args:List Operand}{ts:Array TypeId}{vs:List Value}{μ1 μ2:OH}{Ψ:Value→GH→OH→Prop}(ha:Env.evs σ args=some vs) (hs:Con P f vs.toArray G μ1 Ψ) (hp:μ.Perm (μ1++μ2)) :
 MoveOp P (.call { callee:=.value (.func f),args:=args.toArray,argTypes:=ts }) ty σ G μ (fun v G' μ'=>∃ μ1',GH.le G G'∧Ψ v G' μ1'∧μ'=μ1'++μ2):=m_enter hs hp (run_callF ha)
inductive Pick (e:Nat×Obj):OH→OH→Prop
 | here (μ:OH):Pick e (e::μ) μ
 | there (x:Nat×Obj) {μ ν:OH} (h:Pick e μ ν):Pick e (x::μ) (x::ν)
theorem Pick.app {e:Nat×Obj}{μ μ':OH}(ν:OH) (h:Pick e μ μ'):Pick e (ν++μ) (ν++μ'):=by
 induction ν with
 | nil=>exact h
 | cons x ν ih=>exact .there x ih
theorem Pick.perm {e:Nat×Obj}{μ ν:OH}(h:Pick e μ ν):μ.Perm ([e]++ν):=by
 induction h with
 | here μ=>exact List.Perm.refl _
 | there x h ih=>exact (List.Perm.cons x ih).trans (List.Perm.swap e x _)
end
end Go.Vx
/-
  VX, STEPS THAT PART: a comparison is decided at once, by what is known or into two ways.
-/
namespace Go.Vx
open Go
attribute [local semireducible] Vc
section
variable {P:Program}{fn:Func}{n:Nat}{B:Base}{Φ:Value→GH→OH→Prop}{k:List It}{σ:Env}{G:GH}{μ:OH}{all:Array Oper}{rest:List Oper}{d:Nat}{op:Op}{ty:TypeId}{pos:String}{af:Array Edge}
theorem v_guardB {dst:Option Nat}{j t:Nat}{c b:Bool}(h1:(all[j]?).bind (·.dst)=some t) (h2:Env.get σ t=some (.bool b))
 (ht:b=true→Vc P fn n B Φ (.ops all (⟨dst,op,ty,pos,af,some (j,c)⟩::rest)::k) ((t,.bool true)::σ) G μ) (hf:b=false→Vc P fn n B Φ (.ops all (⟨dst,op,ty,pos,af,some (j,c)⟩::rest)::k) ((t,.bool false)::σ) G μ) :
 Vc P fn n B Φ (.ops all (⟨dst,op,ty,pos,af,some (j,c)⟩::rest)::k) σ G μ:=by
 have key:∀ x,b=x→∀ i v,Env.get ((t,.bool x)::σ) i=some v→Env.get σ i=some v:=by
  intro x hx i v hi
  rw [Env.get_cons] at hi
  by_cases hti:t=i
  ·subst hti;rw [if_pos rfl] at hi;rw [h2,hx];exact hi
  ·rwa [if_neg hti] at hi
 cases hb:b
 ·exact v_weaken (key false hb) (hf hb)
 ·exact v_weaken (key true hb) (ht hb)
end
section
variable {P:Program}{ty:TypeId}{σ:Env}
theorem p_eqBs {x y:Operand}{b:Bool}{t t':TypeId} [Ty P t .bool] (hx:Env.ev σ x=some (.bool b)) (hy:Env.ev σ y=some (.bool b)):PureOp P (.binOp .eql t x y t') ty σ (.bool true):=by
 have:=p_eqB (P:=P) (ty:=ty) (t:=t) (t':=t') hx hy
 simpa using this
theorem p_neBs {x y:Operand}{b:Bool}{t t':TypeId} [Ty P t .bool] (hx:Env.ev σ x=some (.bool b)) (hy:Env.ev σ y=some (.bool b)):PureOp P (.binOp .neq t x y t') ty σ (.bool false):=by
 have:=p_neB (P:=P) (ty:=ty) (t:=t) (t':=t') hx hy
 simpa using this
theorem p_eqs {x y:Operand}{k:IntKind}{a:Int}{t t':TypeId}(hx:Env.ev σ x=some (.int k a)) (hy:Env.ev σ y=some (.int k a)):PureOp P (.binOp .eql t x y t') ty σ (.bool true):=by
 have:=p_eq (P:=P) (ty:=ty) (t:=t) (t':=t') hx hy
 rwa [dec_pos rfl] at this
theorem p_nes {x y:Operand}{k:IntKind}{a:Int}{t t':TypeId}(hx:Env.ev σ x=some (.int k a)) (hy:Env.ev σ y=some (.int k a)):PureOp P (.binOp .neq t x y t') ty σ (.bool false):=by
 have:=p_ne (P:=P) (ty:=ty) (t:=t) (t':=t') hx hy
 rwa [dec_pos rfl] at this
end
end Go.Vx
/-
  VX, A REGION THAT DRAWS ITS ORDER: what hangs on the temporaries, on what is frozen, and on blocks of ours that the region leaves alone, is taken first; what is left comes one by one.
-/
namespace Go.Vx
open Go
attribute [local semireducible] Vc Con PureOp ReadOp MoveOp
theorem wpOp_in {r:Option Nat}{P:Program}{ops:Array Oper}{Q:Exit→Act→World→Prop}(hQ:¬ LetsOut Q) (hnd:∀ (i:Nat) (o:Oper),ops[i]? = some o→∀ c,o.op≠.defer c) {i:Nat}{K:Act→World→Prop}{a:Act}{w:World}(h:wpOp P ops Q i K a w):wpOpIn (RF r) 0 P ops Q i K a w:=by
 unfold wpOp at h
 unfold wpOpIn
 cases ho:ops[i]? with
 | none=>rw [ho] at h;exact h
 | some o =>
  rw [ho] at h
  simp only at h ⊢
  split at h
  ·rename_i hw
   rw [if_pos hw]
   rcases h with h|⟨_,h⟩
   ·exact op_in (hnd i o ho) h
   ·exact absurd h hQ
  ·rename_i hw
   rw [if_neg hw]
   exact ⟨fn_RF,h⟩
theorem wpAny_in {r:Option Nat}{P:Program}{md:Region.Mode}{ops:Array Oper}{Q:Exit→Act→World→Prop}(hQ:¬ LetsOut Q) (hnd:∀ (i:Nat) (o:Oper),ops[i]? = some o→∀ c,o.op≠.defer c):∀ (fuel:Nat) (listed:Array Bool) (a:Act) (w:World),wpAny P md ops Q fuel listed a w→wpAnyIn (RF r) 0 P md ops Q fuel listed a w
 | 0,_,_,_,h=>h
 | fuel+1,listed,a,w,h=>⟨h.1,fun i hi=>wpOp_in hQ hnd (wpOp_mono (fun a' w' h'=>wpAny_in hQ hnd fuel _ a' w' h') (h.2 i hi))⟩
def noDef:Op→Bool
 | .defer _=>false
 | _=>true
theorem noDef_of {l:List Oper}(h:l.all (fun o=>noDef o.op)=true):∀ (i:Nat) (o:Oper),l.toArray[i]? = some o→∀ c,o.op≠.defer c:=by
 intro i o ho c hc
 have hm:o∈l:=by
  rw [List.getElem?_toArray] at ho
  exact List.mem_of_getElem? ho
 have:=List.all_eq_true.1 h o hm
 rw [hc] at this
 cases this
theorem Holds.sub' {ds:List Deferred}{n:Nat}{σ:Env}{a:Act}{t:Nat}{b x:Bool}(h:Holds ds n σ a) (hk:∀ i v,Env.get ((t,.bool x)::σ) i=some v→Env.get σ i=some v) (_hb:b=x) (_h2:Env.get σ t=some (.bool b)):Holds ds n ((t,.bool x)::σ) a:=h.sub hk
def DVc (P:Program) (fn:Func) (n:Nat) (B:Base) (Φ:Value→GH→OH→Prop) (all:Array Oper) (G0:GH) (ν:OH) (m:Nat) (listed:Array Bool) (k:List It) (σ:Env) (G:GH) (μ:OH):Prop :=
 Region.noSelect all=true→GH.le G0 G→(∀ e∈ν,e∈μ)→∀ w,Step B.G B.μ B.w G μ w→∀ a,Holds B.rk.ds n σ a→wpAnyH P .any all (Kont P B.rk n (Fin B Φ) k) (Sees G0 ν) m listed a w
section
variable {P:Program}{fn:Func}{n:Nat}{B:Base}{Φ:Value→GH→OH→Prop}{k:List It}{σ:Env}{G G0:GH}{μ:OH}{all:Array Oper}{m:Nat}{listed:Array Bool}{d:Nat}{op:Op}{ty:TypeId}{pos:String}{af:Array Edge}{v:Value}
theorem d_start (ν:OH) {id:Nat}{l:List Oper}(hm:P.follows .mixedOrders=true) (hsel:Region.noSelect l.toArray=true) (hnd:l.all (fun o=>noDef o.op)=true) (hν:∀ e∈ν,e∈μ) (h:DVc P fn n B Φ l.toArray G ν l.length (Array.replicate l.length false) k σ G μ) :
 Vc P fn n B Φ (.code (.region id l.toArray true)::k) σ G μ:=by
 intro w hw a ha
 have h1:=h hsel (GH.le_refl _) hν (w.drewN 1) (hw.trans (Step.drew hw.mem 1)) a ha
 have h2:=wpAny_of_held _ _ _ _ h1
 exact wpIn_region_any hm (wpAny_in (fun ⟨_,_,hh⟩=>kont_out _ _ hh) (noDef_of hnd) _ _ _ _ (by simp only [List.size_toArray];exact h2))
theorem d_done (hr:Region.ready .any all listed=[]) (h:Vc P fn n B Φ k σ G μ) {ν:OH}:DVc P fn n B Φ all G0 ν m listed k σ G μ :=
 fun _ _ _ w hw a ha=>wpAnyH_done hr (h w hw a ha) m
theorem d_take {ν:OH}(i:Nat) (hi:all[i]? = some ⟨some d,op,ty,pos,af,none⟩) (hf:Region.free .any all listed i=true) (hr:(Region.ready .any all listed).contains i=true) (hop:ReadOp P op ty σ G0 ν v) (hd:Nat.blt d n=true)
 (h:DVc P fn n B Φ all G0 ν m (listed.setIfInBounds i true) k ((d,v)::σ) G μ):DVc P fn n B Φ all G0 ν (m+1) listed k σ G μ:=by
 intro hsel hle hν w hw a ha
 have hd':d<n:=by simpa [Nat.blt_eq] using hd
 refine wpAnyH_take hi hsel hf hr (fun c a w hq=>(kont_panic _ _ hq).elim) (v:=v) (.inl ⟨by simp [Region.wanted],fun w' hS=>hop _ pos af none a.eval ha.agree w' hS⟩) (hw.mem.seesOf hle hν) ?_
 exact h hsel hle hν w hw _ (ha.put hd' v)
theorem d_takeG {ν:OH}(i:Nat) {j:Nat}{b:Bool}(hi:all[i]? = some ⟨some d,op,ty,pos,af,some (j,b)⟩) (hg:guardVal all σ j=some b) (hf:Region.free .any all listed i=true) (hr:(Region.ready .any all listed).contains i=true) (hop:ReadOp P op ty σ G0 ν v) (hd:Nat.blt d n=true)
 (h:DVc P fn n B Φ all G0 ν m (listed.setIfInBounds i true) k ((d,v)::σ) G μ):DVc P fn n B Φ all G0 ν (m+1) listed k σ G μ:=by
 intro hsel hle hν w hw a ha
 have hd':d<n:=by simpa [Nat.blt_eq] using hd
 have hy:=yielded_of ha hg
 refine wpAnyH_take hi hsel hf hr (fun c a w hq=>(kont_panic _ _ hq).elim) (v:=v) (.inl ⟨by simp [Region.wanted,hy],fun w' hS=>hop _ pos af _ a.eval ha.agree w' hS⟩) (hw.mem.seesOf hle hν) ?_
 exact h hsel hle hν w hw _ (ha.put hd' v)
theorem d_pass {ν:OH}(i:Nat) {j:Nat}{b c:Bool}(hi:all[i]? = some ⟨some d,op,ty,pos,af,some (j,c)⟩) (hg:guardVal all σ j=some b) (hn:(b == c)=false) (hf:Region.free .any all listed i=true) (hr:(Region.ready .any all listed).contains i=true) (hd:Nat.blt d n=true)
 (h:DVc P fn n B Φ all G0 ν m (listed.setIfInBounds i true) k ((d,undef)::σ) G μ):DVc P fn n B Φ all G0 ν (m+1) listed k σ G μ:=by
 intro hsel hle hν w hw a ha
 have hd':d<n:=by simpa [Nat.blt_eq] using hd
 have hy:=yielded_of ha hg
 have hne:¬ b=c:=by intro e;subst e;simp at hn
 refine wpAnyH_take hi hsel hf hr (fun c a w hq=>(kont_panic _ _ hq).elim) (v:=undef) (.inr ⟨by simpa [Region.wanted,hy] using hne,rfl⟩) (hw.mem.seesOf hle hν) ?_
 exact h hsel hle hν w hw _ (ha.put hd' undef)
theorem d_passN {ν:OH}(i:Nat) {j:Nat}{c:Bool}(hi:all[i]? = some ⟨some d,op,ty,pos,af,some (j,c)⟩) (hg:guardRaw all σ j=some v) (hn:notBool v=true) (hf:Region.free .any all listed i=true) (hr:(Region.ready .any all listed).contains i=true) (hd:Nat.blt d n=true)
 (h:DVc P fn n B Φ all G0 ν m (listed.setIfInBounds i true) k ((d,undef)::σ) G μ):DVc P fn n B Φ all G0 ν (m+1) listed k σ G μ:=by
 intro hsel hle hν w hw a ha
 have hd':d<n:=by simpa [Nat.blt_eq] using hd
 have hy:=yielded_none ha hg hn
 refine wpAnyH_take hi hsel hf hr (fun c a w hq=>(kont_panic _ _ hq).elim) (v:=undef) (.inr ⟨by simp [Region.wanted,hy],rfl⟩) (hw.mem.seesOf hle hν) ?_
 exact h hsel hle hν w hw _ (ha.put hd' undef)
theorem d_exec {ν:OH}(i:Nat) {Ψ:Value→GH→OH→Prop}(hi:all[i]? = some ⟨some d,op,ty,pos,af,none⟩) (hr:Region.ready .any all listed=[i]) (hop:MoveOp P op ty σ G μ Ψ) (hd:Nat.blt d n=true)
 (h:∀ v G' μ',Ψ v G' μ'→(∀ e∈ν,e∈μ')∧DVc P fn n B Φ all G0 ν m (listed.setIfInBounds i true) k ((d,v)::σ) G' μ'):DVc P fn n B Φ all G0 ν (m+1) listed k σ G μ:=by
 intro hsel hle hν w hw a ha
 have hd':d<n:=by simpa [Nat.blt_eq] using hd
 refine wpAnyH_all hr (by simp) fun j hj=>?_
 simp only [List.mem_singleton] at hj
 subst hj
 unfold wpOp
 simp only [hi,Region.wanted,if_true]
 refine .inl (hop _ pos af none a.eval ha.agree w hw.mem a _ _ fun v w' G' μ' hs hΨ=>?_)
 obtain ⟨hν',hd⟩:=h v G' μ' hΨ
 have hle':=GH.le_trans hle hs.le
 exact ⟨hs.mem.seesOf hle' hν',hd hsel hle' hν' w' (hw.trans hs) _ (ha.put hd' v)⟩
theorem d_exec0 {ν:OH}(i:Nat) {Ψ:Value→GH→OH→Prop}(hi:all[i]? = some ⟨none,op,ty,pos,af,none⟩) (hr:Region.ready .any all listed=[i]) (hop:MoveOp P op ty σ G μ Ψ)
 (h:∀ v G' μ',Ψ v G' μ'→(∀ e∈ν,e∈μ')∧DVc P fn n B Φ all G0 ν m (listed.setIfInBounds i true) k σ G' μ'):DVc P fn n B Φ all G0 ν (m+1) listed k σ G μ:=by
 intro hsel hle hν w hw a ha
 refine wpAnyH_all hr (by simp) fun j' hj=>?_
 simp only [List.mem_singleton] at hj
 subst hj
 unfold wpOp
 simp only [hi,Region.wanted,if_true]
 refine .inl (hop _ pos af none a.eval ha.agree w hw.mem a _ _ fun v w' G' μ' hs hΨ=>?_)
 obtain ⟨hν',hd⟩:=h v G' μ' hΨ
 have hle':=GH.le_trans hle hs.le
 exact ⟨hs.mem.seesOf hle' hν',hd hsel hle' hν' w' (hw.trans hs) _ (ha.putNone v)⟩
theorem d_keep {ν:OH}(i:Nat) (hi:all[i]? = some ⟨some d,op,ty,pos,af,none⟩) (hr:Region.ready .any all listed=[i]) (hop:MoveOp P op ty σ G μ (fun u G' μ'=>u=v∧G'=G∧μ'=μ)) (hd:Nat.blt d n=true)
 (h:DVc P fn n B Φ all G0 ν m (listed.setIfInBounds i true) k ((d,v)::σ) G μ):DVc P fn n B Φ all G0 ν (m+1) listed k σ G μ:=by
 intro hsel hle hν
 exact d_exec i hi hr hop hd (fun u G' μ' ⟨h1,h2,h3⟩=>by rw [h1,h2,h3];exact ⟨hν,h⟩) hsel hle hν
theorem d_store {ν μ':OH}(i:Nat) {t:TypeId}{agg:Bool}{sz bytes:Nat}{zero u:Value}{p x:Operand}{b o:Nat}{e:TypeId}{us vs vs':List Value}(hi:all[i]? = some ⟨none,.store t p x,ty,pos,af,none⟩) (hL:Lay P t agg sz bytes zero) (hr:Region.ready .any all listed=[i])
 (hp:Env.ev σ p=some (.pointer (some ⟨b,o,none⟩))) (hx:Env.ev σ x=some u) (hc:u.cells=us.toArray) (hsz:us.length=sz) (h1:us.all Value.oneCell'=true) (hb:Has μ b vs e) (hfit:o+us.length≤vs.length) (hov:over vs o us=vs') (hu:Upd b (.cells vs'.toArray e (0,0)) μ μ')
 (hν':∀ e∈ν,e∈μ') (h:DVc P fn n B Φ all G0 ν m (listed.setIfInBounds i true) k σ G μ'):DVc P fn n B Φ all G0 ν (m+1) listed k σ G μ :=
 d_exec0 i hi hr (m_store hp hx hc hsz h1 hb hfit hov hu) (fun _ _ _ ⟨h1,h2⟩=>by rw [h1,h2];exact ⟨hν',h⟩)
theorem d_call {ν:OH}(i:Nat) {f:FuncId} [Callable P f] {args:List Operand}{ts:Array TypeId}{vs:List Value}{μ1 μ2:OH}{Ψ:Value→GH→OH→Prop}(hi:all[i]? = some ⟨some d,.call { callee:=.value (.func f),args:=args.toArray,argTypes:=ts },ty,pos,af,none⟩) (hr:Region.ready .any all listed=[i])
 (ha:Env.evs σ args=some vs) (hs:Con P f vs.toArray G μ1 Ψ) (hp:μ.Perm (μ1++μ2)) (hd:Nat.blt d n=true) (hν':∀ e∈ν,e∈μ2) (h:∀ v G' μ1',GH.le G G'→Ψ v G' μ1'→DVc P fn n B Φ all G0 ν m (listed.setIfInBounds i true) k ((d,v)::σ) G' (μ1'++μ2)):DVc P fn n B Φ all G0 ν (m+1) listed k σ G μ :=
 d_exec i hi hr (m_callF ha hs hp) hd (fun _ _ _ ⟨_,hle,h1,h2⟩=>by rw [h2];exact ⟨fun e he=>List.mem_append_right _ (hν' e he),h _ _ _ hle h1⟩)
theorem d_guardB {ν:OH}(i:Nat) {o:Oper}{j t:Nat}{c b:Bool}(hi:all[i]? = some o) (hgd:o.guard=some (j,c)) (h1:(all[j]?).bind (·.dst)=some t) (h2:Env.get σ t=some (.bool b))
 (ht:b=true→DVc P fn n B Φ all G0 ν m listed k ((t,.bool true)::σ) G μ) (hf:b=false→DVc P fn n B Φ all G0 ν m listed k ((t,.bool false)::σ) G μ):DVc P fn n B Φ all G0 ν m listed k σ G μ:=by
 have key:∀ x,b=x→∀ i v,Env.get ((t,.bool x)::σ) i=some v→Env.get σ i=some v:=by
  intro x hx i v hi
  rw [Env.get_cons] at hi
  by_cases hti:t=i
  ·subst hti;rw [if_pos rfl] at hi;rw [h2,hx];exact hi
  ·rwa [if_neg hti] at hi
 intro hsel hle hν w hw a ha
 cases hb:b
 ·exact hf hb hsel hle hν w hw a (ha.sub' (key false hb) hb h2)
 ·exact ht hb hsel hle hν w hw a (ha.sub' (key true hb) hb h2)
end
attribute [irreducible] DVc
end Go.Vx
/-
  VX, SLICES: a slice that is frozen reads as a list; slice expressions; struct literals; slice literals; append onto a slice of ours.
-/
namespace Go.Vx
open Go
attribute [local semireducible] Vc Con PureOp ReadOp MoveOp
def Sl {α:Type}(G:GH) (sz:Nat) (R:α→List Value→Prop) (v:Value) (l:List α):Prop :=
 ∃ A c,v=.slice A l.length c∧l.length≤c∧c≤maxLen∧(0<l.length→∃ a,A=some a∧∀ i x,l[i]? = some x→∃ cs,cs.length=sz∧R x cs∧CellsG G (a.add (i*sz)) cs)
section
variable {α:Type}{G G':GH}{sz:Nat}{R R':α→List Value→Prop}{v:Value}{l:List α}
theorem Sl.le (h:Sl G sz R v l) (hG:GH.le G G') (hR:∀ x cs,R x cs→R' x cs):Sl G' sz R' v l:=by
 obtain ⟨A,c,rfl,h1,h2,h3⟩:=h
 refine ⟨A,c,rfl,h1,h2,fun h0=>?_⟩
 obtain ⟨a,rfl,h4⟩:=h3 h0
 exact ⟨a,rfl,fun i x hx=>let ⟨cs,e1,e2,e3⟩:=h4 i x hx;⟨cs,e1,hR _ _ e2,e3.le hG⟩⟩
theorem Sl.mono (h:Sl G sz R v l) (hG:GH.le G G'):Sl G' sz R v l:=h.le hG fun _ _ h=>h
theorem Sl.nil:Sl G sz R (.slice none 0 0) ([]:List α):=⟨none,0,rfl,Nat.le_refl _,by simp [maxLen],fun h=>absurd h (by simp)⟩
theorem CellsG.head {a:Addr}{u:Value}{vs:List Value}(h:CellsG G a (u::vs)):GH.cell? G a=some u:=by
 have:=h 0 u (by simp)
 simpa [Addr.add] using this
theorem Sl.drop {A:Option Addr}{c k:Nat}(h:Sl G sz R (.slice A l.length c) l) (hk:k≤l.length):Sl G sz R (.slice (if c=k then A else A.map (·.add (k*sz))) (l.length-k) (c-k)) (l.drop k):=by
 obtain ⟨A',c',hv,h1,h2,h3⟩:=h
 injection hv with e1 _ e2
 subst e1;subst e2
 refine ⟨_,_,by rw [List.length_drop],by rw [List.length_drop];omega,by omega,fun h0=>?_⟩
 rw [List.length_drop] at h0
 obtain ⟨a,rfl,h4⟩:=h3 (by omega)
 rw [if_neg (by omega)]
 refine ⟨_,rfl,fun i x hx=>?_⟩
 rw [List.getElem?_drop] at hx
 obtain ⟨cs,e1,e2,e3⟩:=h4 _ _ hx
 refine ⟨cs,e1,e2,?_⟩
 rw [add_add,← Nat.add_mul]
 exact e3
end
def adr (A:Option Addr):Addr:=A.getD ⟨0,0,none⟩
theorem Sl.open {α:Type}{G:GH}{sz:Nat}{R:α→List Value→Prop}{v:Value}{l:List α}(h:Sl G sz R v l):∃ A c,v=.slice A l.length c∧l.length≤c∧c≤maxLen∧(0<l.length→A.isSome=true) ∧
 ∀ i x,l[i]? = some x→∃ cs,cs.length=sz∧R x cs∧CellsG G ((adr A).add (i*sz)) cs:=by
 obtain ⟨A,c,rfl,h1,h2,h3⟩:=h
 refine ⟨A,c,rfl,h1,h2,fun h0=>?_,fun i x hx=>?_⟩
 ·obtain ⟨a,rfl,_⟩:=h3 h0;rfl
 ·obtain ⟨a,rfl,h4⟩:=h3 (by have:=(List.getElem?_eq_some_iff.1 hx).1;omega)
  exact h4 i x hx
def IntR (k:IntKind) (x:Int) (cs:List Value):Prop:=cs=[.int k x]∧(Lit.int k x).wf=true
theorem Sl.openInt {G:GH}{k:IntKind}{v:Value}{l:List Int}(h:Sl G 1 (IntR k) v l):∃ A c,v=.slice A l.length c∧l.length≤c∧c≤maxLen∧(0<l.length→A.isSome=true) ∧
 (∀ i (h:i<l.length),GH.cell? G ((adr A).add (i*1))=some (.int k l[i]))∧∀ x∈l,(Lit.int k x).wf=true:=by
 obtain ⟨A,c,rfl,h1,h2,h3,h4⟩:=h.open
 refine ⟨A,c,rfl,h1,h2,h3,fun i hi=>?_,fun x hx=>?_⟩
 ·obtain ⟨cs,_,⟨rfl,_⟩,h5⟩:=h4 i _ (List.getElem?_eq_getElem hi)
  exact h5.head
 ·obtain ⟨i,hi,rfl⟩:=List.getElem_of_mem hx
  obtain ⟨cs,_,⟨_,h5⟩,_⟩:=h4 i _ (List.getElem?_eq_getElem hi)
  exact h5
def headI:List Value→Int
 | .int _ n::_=>n
 | _=>0
section
variable {P:Program}{ty:TypeId}{σ:Env}{t:TypeId}{bytes:Nat}{zero:Value}
theorem p_indexAddrS {e:TypeId}{agg:Bool}{sz:Nat}{x i:Operand}{A:Option Addr}{l c:Nat}{k:IntKind}{m:Int} [Ty P t (.slice e)] [Lay P e agg sz bytes zero] (hx:Env.ev σ x=some (.slice A l c)) (hi:Env.ev σ i=some (.int k m))
 (h0:0≤m) (h:m<l) (hA:A.isSome=true):PureOp P (.indexAddr t x i) ty σ (.pointer (some ((adr A).add (m.toNat*sz)))):=by
 cases A with
 | none=>cases hA
 | some a=>exact p_indexAddr hx hi h0 h
theorem run_slice {e:TypeId}{agg:Bool}{sz:Nat} [Ty P t (.slice e)] [Lay P e agg sz bytes zero] {w:World}{A:Option Addr}{n c:Nat}{lo hi:Option Value}{l h:Nat}
 (hl:(lo=none∧l=0)∨(∃ k,lo=some (.int k (l:Int)))) (hh:(hi=none∧h=n)∨(∃ k,hi=some (.int k (h:Int)))) (h1:l≤h) (h2:h≤c) :
 (Instr.sliceAt t (.slice A n c) lo hi none).run P w=.ok (.slice (if c=l then A else A.map (·.add (l*sz))) (h-l) (c-l)) w:=by
 rcases hl with ⟨rfl,rfl⟩|⟨kl,rfl⟩<;>rcases hh with ⟨rfl,rfl⟩|⟨kh,rfl⟩ <;>
  simp [Instr.sliceAt,Instr.slice,Instr.sliceBounds,Instr.sliceBound,asIntOf,run_under (P:=P) (t:=t) (d:=.slice e),run_sizeOf (P:=P) (t:=e) (agg:=agg) (size:=sz) (bytes:=bytes) (zero:=zero),h1,h2]
theorem p_sliceL {e:TypeId}{agg:Bool}{sz:Nat}{x lo:Operand}{A:Option Addr}{n c:Nat}{k:IntKind}{l:Int} [Ty P t (.slice e)] [Lay P e agg sz bytes zero] (hx:Env.ev σ x=some (.slice A n c)) (hl:Env.ev σ lo=some (.int k l)) (h0:0≤l) (h1:l≤n) (h2:n≤c) :
 PureOp P (.slice t x (some lo) none none) ty σ (.slice (if c=l.toNat then A else A.map (·.add (l.toNat*sz))) (n-l.toNat) (c-l.toNat)):=by
 intro dst pos af g ρ hρ w
 have:=run_slice (P:=P) (w:=w) (t:=t) (e:=e) (agg:=agg) (sz:=sz) (bytes:=bytes) (zero:=zero) (A:=A) (n:=n) (c:=c) (lo:=some (.int k l)) (hi:=none) (l:=l.toNat) (h:=n) (.inr ⟨k,by rw [Int.toNat_of_nonneg h0]⟩) (.inl ⟨rfl,rfl⟩) (by omega) h2
 simp [execOp,hρ _ _ hx,hρ _ _ hl,this]
theorem p_sliceH {e:TypeId}{agg:Bool}{sz:Nat}{x hi:Operand}{A:Option Addr}{n c:Nat}{k:IntKind}{h:Int} [Ty P t (.slice e)] [Lay P e agg sz bytes zero] (hx:Env.ev σ x=some (.slice A n c)) (hh:Env.ev σ hi=some (.int k h)) (h0:0≤h) (h1:h≤c) :
 PureOp P (.slice t x none (some hi) none) ty σ (.slice A h.toNat c):=by
 intro dst pos af g ρ hρ w
 have:=run_slice (P:=P) (w:=w) (t:=t) (e:=e) (agg:=agg) (sz:=sz) (bytes:=bytes) (zero:=zero) (A:=A) (n:=n) (c:=c) (lo:=none) (hi:=some (.int k h)) (l:=0) (h:=h.toNat) (.inl ⟨rfl,rfl⟩) (.inr ⟨k,by rw [Int.toNat_of_nonneg h0]⟩) (by omega) (by omega)
 have e1:(if c=0 then A else A.map (·.add (0*sz)))=A:=by
  split
  ·rfl
  ·cases A<;>simp [Addr.add]
 rw [e1] at this
 simp [execOp,hρ _ _ hx,hρ _ _ hh,this]
theorem p_sliceLH {e:TypeId}{agg:Bool}{sz:Nat}{x lo hi:Operand}{A:Option Addr}{n c:Nat}{k k':IntKind}{l h:Int} [Ty P t (.slice e)] [Lay P e agg sz bytes zero] (hx:Env.ev σ x=some (.slice A n c)) (hl:Env.ev σ lo=some (.int k l)) (hh:Env.ev σ hi=some (.int k' h)) (h0:0≤l) (h1:l≤h) (h2:h≤c) :
 PureOp P (.slice t x (some lo) (some hi) none) ty σ (.slice (if c=l.toNat then A else A.map (·.add (l.toNat*sz))) (h.toNat-l.toNat) (c-l.toNat)):=by
 intro dst pos af g ρ hρ w
 have:=run_slice (P:=P) (w:=w) (t:=t) (e:=e) (agg:=agg) (sz:=sz) (bytes:=bytes) (zero:=zero) (A:=A) (n:=n) (c:=c) (lo:=some (.int k l)) (hi:=some (.int k' h)) (l:=l.toNat) (h:=h.toNat) (.inr ⟨k,by rw [Int.toNat_of_nonneg h0]⟩) (.inr ⟨k',by rw [Int.toNat_of_nonneg (by omega)]⟩) (by omega) (by omega)
 simp [execOp,hρ _ _ hx,hρ _ _ hl,hρ _ _ hh,this]
class Places (P:Program) (t:TypeId) (pl:outParam (List (Nat×Nat))):Prop where
 h:(match P.underlying t with
  | some (.struct fs)=>fs.toList.mapM fun f=>(P.info? f.type).map fun i=>(f.offset,i.size)
  | _=>none)=some pl
def buildF (pf:Nat→Option (Nat×Nat)):List Value→List (Nat×Value)→Option (List Value)
 | cs,[]=>some cs
 | cs,(i,v)::rest =>
  match pf i with
  | none=>none
  | some (off,size)=>bif Nat.beq v.cells.size size && Nat.ble (off+size) cs.length then buildF pf (over cs off v.cells.toList) rest else none
def buildL (pl:List (Nat×Nat)):List Value→List (Nat×Value)→Option (List Value):=buildF fun i=>pl[i]?
theorem fill_buildF (pf:Nat→Option (Nat×Nat)):∀ (parts:List (Nat×Value)) (cs cs':List Value),buildF pf cs parts=some cs'→Instr.fill pf cs.toArray parts=some cs'.toArray:=by
 intro parts
 induction parts with
 | nil=>intro cs cs' h;simp only [buildF,Option.some.injEq] at h;simp [Instr.fill,h]
 | cons p parts ih =>
  obtain ⟨i,v⟩:=p
  intro cs cs' h
  simp only [buildF] at h
  cases hp:pf i with
  | none=>rw [hp] at h;cases h
  | some os =>
   obtain ⟨off,size⟩:=os
   rw [hp] at h
   simp only at h
   cases hb:(Nat.beq v.cells.size size && Nat.ble (off+size) cs.length) with
   | false=>rw [hb] at h;cases h
   | true =>
    rw [hb] at h
    simp only [cond_true] at h
    simp only [Bool.and_eq_true] at hb
    have h1:v.cells.size=size:=Nat.eq_of_beq_eq_true hb.1
    have h2:off+size≤cs.length:=Nat.le_of_ble_eq_true hb.2
    simp only [Instr.fill,hp]
    rw [if_neg (by simp;omega)]
    have e:v.cells.zipIdx.foldl (fun cs (c,j)=>cs.setIfInBounds (off+j) c) cs.toArray=(over cs off v.cells.toList).toArray:=by
     have key:∀ (us:List Value) (k:Nat) (cs:List Value),off+k+us.length≤cs.length→(us.zipIdx k).foldl (fun (cs:Array Value) (x:Value×Nat)=>cs.setIfInBounds (off+x.2) x.1) cs.toArray=(over cs (off+k) us).toArray:=by
      intro us
      induction us with
      | nil=>intro k cs _;simp [over]
      | cons u us ihu =>
       intro k cs hl
       simp only [List.length_cons] at hl
       simp only [List.zipIdx_cons,List.foldl_cons]
       have:=ihu (k+1) (cs.set (off+k) u) (by simp;omega)
       simp only [List.setIfInBounds_toArray]
       rw [this]
       congr 1
       apply List.ext_getElem?
       intro j
       simp only [over,List.getElem?_append,List.getElem?_take,List.getElem?_drop,List.length_append,List.length_take,List.getElem?_set,List.length_set,List.length_cons]
       grind
     have:=key v.cells.toList 0 cs (by simp;omega)
     rw [← Array.foldl_toList,Array.toList_zipIdx]
     simpa using this
    rw [e]
    exact ih _ _ h
theorem fill_buildL (pl:List (Nat×Nat)) (parts:List (Nat×Value)) (cs cs':List Value) (h:buildL pl cs parts=some cs'):Instr.fill (fun i=>pl[i]?) cs.toArray parts=some cs'.toArray:=fill_buildF _ _ _ _ h
theorem evs_snd {ρ:Operand→Value}(hρ:Agree σ ρ):∀ {ps:List (Nat×Operand)}{vs:List Value},Env.evs σ (ps.map (·.2))=some vs→ps.map (fun p=>(p.1,ρ p.2))=(ps.map (·.1)).zip vs
 | [],vs,h=>by simp
 | p::ps,vs,h=>by
  simp only [List.map_cons,Env.evs] at h
  cases h1:Env.ev σ p.2 with
  | none=>simp [h1] at h
  | some v =>
   cases h2:Env.evs σ (ps.map (·.2)) with
   | none=>simp [h1,h2] at h
   | some us =>
    simp only [h1,h2,Option.bind_some,Option.map_some,Option.some.injEq] at h
    subst h
    simp [evs_snd hρ h2,hρ _ _ h1]
theorem p_build {agg:Bool}{sz:Nat}{pl:List (Nat×Nat)}{ps:List (Nat×Operand)}{vs zs cs:List Value}[hP:Places P t pl] [Lay P t agg sz bytes zero] (hz:zero.cells=zs.toArray) (hv:Env.evs σ (ps.map (·.2))=some vs) (hb:buildL pl zs ((ps.map (·.1)).zip vs)=some cs) :
 PureOp P (.build t ps.toArray) ty σ (.agg cs.toArray):=by
 intro dst pos af g ρ hρ w
 have hu:=hP.h
 cases hd:P.underlying t with
 | none=>rw [hd] at hu;cases hu
 | some d =>
  rw [hd] at hu
  cases d with
  | struct fs =>
   simp only at hu
   have hm:∀ (l:List Field) (pl:List (Nat×Nat)),(l.mapM fun f=>(P.info? f.type).map fun i=>(f.offset,i.size))=some pl→(l.mapM fun f=>(do pure (f.offset,← sizeOf f.type):Sem (Nat×Nat))).run P w=.ok pl w:=by
    intro l
    induction l with
    | nil=>intro pl h;simp at h;subst h;simp
    | cons f l ih =>
     intro pl h
     simp only [List.mapM_cons,Option.bind_eq_bind] at h
     cases hi:P.info? f.type with
     | none=>simp [hi] at h
     | some i =>
      cases hl:(l.mapM fun f=>(P.info? f.type).map fun i=>(f.offset,i.size)) with
      | none=>simp [hi,hl] at h
      | some pl' =>
       simp only [hi,hl,Option.map_some,Option.bind_some,Option.pure_def,Option.some.injEq] at h
       subst h
       have hs:(sizeOf f.type).run P w=.ok i.size w:=by simp [sizeOf,typeInfo,hi]
       simp only [List.mapM_cons,Sem.run_bind,hs,Result.andThen_ok,Sem.run_pure,ih pl' hl]
   have hm':=hm fs.toList pl hu
   have hfill:=fill_buildL pl _ _ _ hb
   have hpl:∀ i,(pl.toArray[i]? : Option (Nat×Nat))=pl[i]? := fun i=>List.getElem?_toArray
   have hmA:(fs.mapM fun f=>(do pure (f.offset,← sizeOf f.type):Sem (Nat×Nat))).run P w=.ok pl.toArray w:=by
    rw [Array.mapM_eq_mapM_toList,map_eq_pure_bind,Sem.run_bind,hm']
    rfl
   have hparts:(ps.toArray.map fun (x:Nat×Operand)=>(x.1,ρ x.2)).toList=(ps.map (·.1)).zip vs:=by
    simp [evs_snd hρ hv]
   simp only [execOp,Instr.build,Sem.run_bind,run_zeroOf (P:=P) (t:=t) (agg:=agg) (size:=sz) (bytes:=bytes) (zero:=zero),Result.andThen_ok,run_underlying hd,hmA,hz,hparts,hpl,hfill,Sem.run_pure]
  | _=>simp at hu
def packL (sz:Nat):List Value→Option (List Value)
 | []=>some []
 | v::vs=>bif Nat.beq v.cells.size sz then (packL sz vs).map fun us=>v.cells.toList++us else none
theorem packL_length {sz:Nat}:∀ {vs us:List Value},packL sz vs=some us→us.length=vs.length*sz
 | [],us,h=>by simp only [packL,Option.some.injEq] at h;subst h;simp
 | v::vs,us,h=>by
  simp only [packL] at h
  cases hb:Nat.beq v.cells.size sz with
  | false=>rw [hb] at h;cases h
  | true =>
   rw [hb] at h
   simp only [cond_true,Option.map_eq_some_iff] at h
   obtain ⟨us',h',rfl⟩:=h
   have:=Nat.eq_of_beq_eq_true hb
   simp only [List.length_append,packL_length h',List.length_cons,Array.length_toList,this,Nat.add_mul]
   omega
theorem buildF_pack {sz:Nat}:∀ {vs us cs:List Value}{k:Nat},packL sz vs=some us→(k+vs.length)*sz≤cs.length→buildF (fun i=>some (i*sz,sz)) cs ((List.range' k vs.length).zip vs)=some (cs.take (k*sz)++us++cs.drop ((k+vs.length)*sz))
 | [],us,cs,k,h,_=>by
  simp only [packL,Option.some.injEq] at h
  subst h
  simp [buildF]
 | v::vs,us,cs,k,h,hl=>by
  simp only [packL] at h
  cases hb:Nat.beq v.cells.size sz with
  | false=>rw [hb] at h;cases h
  | true =>
   rw [hb] at h
   simp only [cond_true,Option.map_eq_some_iff] at h
   obtain ⟨us',h',rfl⟩:=h
   have hs:v.cells.size=sz:=Nat.eq_of_beq_eq_true hb
   simp only [List.length_cons] at hl
   have hk:k*sz+sz≤cs.length:=by
    have:(k+1)*sz≤(k+(vs.length+1))*sz:=Nat.mul_le_mul_right _ (by omega)
    rw [Nat.add_mul] at this;omega
   simp only [List.length_cons,List.range'_succ,List.zip_cons_cons,buildF,hb,Bool.true_and,Nat.ble_eq_true_of_le hk,cond_true]
   have hov:(over cs (k*sz) v.cells.toList).length=cs.length:=over_length (by simp [hs];exact hk)
   rw [buildF_pack (k:=k+1) h' (by rw [hov];rwa [show k+1+vs.length=k+(vs.length+1) by omega])]
   have h1:(over cs (k*sz) v.cells.toList).take ((k+1)*sz)=cs.take (k*sz)++v.cells.toList:=by
    have hlen:(cs.take (k*sz)++v.cells.toList).length=(k+1)*sz:=by simp [hs,Nat.add_mul];omega
    unfold over
    rw [← hlen,List.take_left]
   have h2:(over cs (k*sz) v.cells.toList).drop ((k+1+vs.length)*sz)=cs.drop ((k+(vs.length+1))*sz):=by
    unfold over
    have hlen:(cs.take (k*sz)++v.cells.toList).length=k*sz+sz:=by simp [hs];omega
    have e1:(k+1+vs.length)*sz=(k*sz+sz)+vs.length*sz:=by simp [Nat.add_mul]
    rw [e1,← hlen,← List.drop_drop,List.drop_left,List.drop_drop]
    congr 1
    simp [hs,Nat.add_mul];omega
   rw [h1,h2]
   simp
end
section
variable {P:Program}{fn:Func}{n:Nat}{B:Base}{Φ:Value→GH→OH→Prop}{k:List It}{σ:Env}{G:GH}{μ:OH}{all:Array Oper}{rest:List Oper}{d:Nat}{ty:TypeId}{pos:String}{af:Array Edge}{t:TypeId}{bytes:Nat}{zero:Value}
theorem m_buildSlice {e:TypeId}{agg:Bool}{sz len:Nat}{ps:List (Nat×Operand)}{vs zs cs:List Value} [Ty P t (.slice e)] [Lay P e agg sz bytes zero] (hz:zero.cells=zs.toArray) (hi:ps.map (·.1)=List.range len) (hv:Env.evs σ (ps.map (·.2))=some vs) (hp:packL sz vs=some cs) (hb:Nat.ble (len*sz) 16777216=true) :
 MoveOp P (.buildSlice t len ps.toArray) ty σ G μ (fun v G' μ'=>∃ b,v=.slice (some ⟨b,0,none⟩) len len∧G'=G∧μ'=(b,.cells cs.toArray e (0,0))::μ):=by
 intro dst pos af g ρ hρ w hw a K Q hK
 have hlen:vs.length=len:=by
  have h1:vs.length=(ps.map (·.2)).length:=by
   have:=agree_evs hρ hv
   rw [← this,List.length_map]
  have h2:=congrArg List.length hi
  simp only [List.length_map,List.length_range] at h1 h2
  omega
 have hle:¬ len*sz>16777216:=by have:=Nat.le_of_ble_eq_true hb;omega
 have hle':¬ len*sz>2 ^ 24:=hle
 have hparts:(ps.toArray.map fun (x:Nat×Operand)=>(x.1,ρ x.2)).toList=(List.range' 0 vs.length).zip vs:=by
  rw [hlen,← List.range_eq_range',← hi]
  simp [evs_snd hρ hv]
 have hfill:∀ z:Array Value,Instr.fill (fun i=>some (i*sz,sz)) ((Array.range (len*sz)).map fun x=>z[x % z.size]!) ((List.range' 0 vs.length).zip vs)=some cs.toArray:=by
  intro z
  have h1:=buildF_pack (sz:=sz) (vs:=vs) (us:=cs) (cs:=((Array.range (len*sz)).map fun x=>z[x % z.size]!).toList) (k:=0) hp (by simp [hlen])
  have h2:=fill_buildF _ _ _ _ h1
  simp only [Array.toArray_toList] at h2
  rw [h2]
  have h3:cs.length=len*sz:=by rw [packL_length hp,hlen]
  simp [hlen]
 have hr:(execOp ρ ⟨dst,.buildSlice t len ps.toArray,ty,pos,af,g⟩).run P w=.ok (.value (.slice (some ⟨w.heap.size,0,none⟩) len len)) (w.alloc (.cells cs.toArray e (0,0))):=by
  simp only [execOp,Instr.buildSlice,Sem.run_bind,run_under (P:=P) (t:=t) (d:=.slice e),Result.andThen_ok,run_sizeOf (P:=P) (t:=e) (agg:=agg) (size:=sz) (bytes:=bytes) (zero:=zero),hle',if_false,hparts]
  split<;>simp [newRow,run_zeroOf (P:=P) (t:=e) (agg:=agg) (size:=sz) (bytes:=bytes) (zero:=zero),hfill]
 rw [hr]
 exact hK _ _ _ _ (Step.alloc hw _) ⟨_,rfl,rfl,rfl⟩
theorem v_buildSlice {e:TypeId}{agg:Bool}{sz len:Nat}{ps:List (Nat×Operand)}{vs zs cs:List Value} [Ty P t (.slice e)] [Lay P e agg sz bytes zero] (hz:zero.cells=zs.toArray) (hi:ps.map (·.1)=List.range len) (hv:Env.evs σ (ps.map (·.2))=some vs) (hp:packL sz vs=some cs) (hb:Nat.ble (len*sz) 16777216=true) (hd:Nat.blt d n=true)
 (h:∀ b,Vc P fn n B Φ (.ops all rest::k) ((d,.slice (some ⟨b,0,none⟩) len len)::σ) G ((b,.cells cs.toArray e (0,0))::μ)):Vc P fn n B Φ (.ops all (⟨some d,.buildSlice t len ps.toArray,ty,pos,af,none⟩::rest)::k) σ G μ :=
 v_move (m_buildSlice hz hi hv hp hb) hd fun _ _ _ ⟨b,h1,h2,h3⟩=>by rw [h1,h2,h3];exact h b
def Grow (e:TypeId) (sz:Nat) (v:Value) (m:Nat) (xs:List Value) (ν:OH):Prop :=
 xs.length=m*sz∧((v=.slice none 0 0∧m=0∧ν=[]) ∨
  ∃ b cap spare,v=.slice (some ⟨b,0,none⟩) m cap∧ν=[(b,.cells (xs++spare).toArray e (0,0))]∧m≤cap∧cap≤maxLen∧(xs++spare).length=cap*sz)
theorem Grow.nil (e:TypeId) (sz:Nat):Grow e sz (.slice none 0 0) 0 [] []:=⟨by simp,.inl ⟨rfl,rfl,rfl⟩⟩
def Src (G:GH) (μ:OH) (v:Value) (m sz:Nat) (us:List Value):Prop:=us.length=m*sz∧∃ A c,v=.slice A m c∧(0<m→∃ a,A=some a∧CellsAt G μ a us)
theorem m_append {e:TypeId}{agg:Bool}{sz:Nat}{s x:Operand}{v u:Value}{m m':Nat}{xs us:List Value}{ν μr:OH} [Ty P t (.slice e)] [Lay P e agg sz bytes zero] (hzs:zero.cells.size=sz) (hsz:0<sz) (hs:Env.ev σ s=some v) (hx:Env.ev σ x=some u) (hg:Grow e sz v m xs ν) (hp:μ.Perm (ν++μr)) (hsrc:Src G μ u m' sz us) (h1:us.all Value.oneCell'=true)
 (hb:(m+m')*bytes≤140737488355328) (hb':m+m'≤maxLen) :
 MoveOp P (.call { callee:=.builtin .append,args:=#[s,x],argTypes:=#[t,t] }) ty σ G μ (fun v' G' μ'=>∃ ν',Grow e sz v' (m+m') (xs++us) ν'∧G'=G∧μ'=ν'++μr):=by
 intro dst pos af g ρ hρ w hw a K Q hK
 have hw':=hw.perm hp
 obtain ⟨i,hi,hi1,hi2,hi3⟩:=Lay.infoEx (P:=P) (t:=e) (agg:=agg) (size:=sz) (bytes:=bytes) (zero:=zero) inferInstance
 have ht:P.underlying t=some (.slice e):=Ty.h
 obtain ⟨hl,hg⟩:=hg
 obtain ⟨hus,A,c,rfl,hA⟩:=hsrc
 have hall:∀ x∈us,x.oneCell'=true:=fun x hx=>List.all_eq_true.1 h1 x hx
 have hex:∀ (r:Result Value),(Builtin.append_ #[t,t] ty #[v,.slice A m' c]).run P w=r→(execOp ρ ⟨dst,.call { callee:=.builtin .append,args:=#[s,x],argTypes:=#[t,t] },ty,pos,af,g⟩).run P w=r.andThen fun v w'=>.ok (.value v) w':=by
  intro r hr
  subst hr
  simp only [execOp,resolve,invoke,builtin,Sem.run_bind,Sem.run_pure,Result.andThen_ok,List.map_toArray,List.map_cons,List.map_nil,hρ _ _ hs,hρ _ _ hx]
 have hrow:∀ (old:Nat),old<m+m'→Grow e sz (.slice (some ⟨w.heap.size,0,none⟩) (m+m') (grownCap w (m+m') old e)) (m+m') (xs++us) [(w.heap.size,.cells (xs++us++(Builtin.zeroCells zero.cells (grownCap w (m+m') old e-(m+m'))).toList).toArray e (0,0))]:=by
  intro old ho
  have hge:=grownCap_ge w (m+m') old e
  refine ⟨by rw [List.length_append,hl,hus,Nat.add_mul],.inr ⟨_,_,_,rfl,rfl,hge,grownCap_le_maxLen w (m+m') old e hb',?_⟩⟩
  simp only [List.length_append,hl,hus,Array.length_toList,size_zeroCells,hzs,← Nat.add_mul]
  congr 1
  omega
 by_cases hm:m'=0
 ·subst hm
  have hu0:us=[]:=List.eq_nil_of_length_eq_zero (by simpa using hus)
  subst hu0
  have hr:(Builtin.append_ #[t,t] ty #[v,.slice A 0 c]).run P w=.ok v w:=by
   rcases hg with ⟨rfl,rfl,rfl⟩|⟨b,cap,spare,rfl,rfl,hc1,_,_⟩<;>cases A<;>simp [Builtin.append_,run_underlying ht,sizeOf,typeInfo,hi,Builtin.lenOf,Builtin.firstCells,loadCells,loadCellsFrom,storeCells, *]
  rw [hex _ hr]
  exact hK v w G (ν++μr) ((Step.refl hw').permL hp.symm) ⟨ν,⟨by simpa using hl,by simpa using hg⟩,rfl,rfl⟩
 ·obtain ⟨ad,rfl,hcs⟩:=hA (by omega)
  have hnews:∀ j u,us[j]? = some u→w.cell? (ad.add j)=some u:=fun j u hu=>hcs j u hu w hw.sees
  have hlus:us.length=m'*i.size:=by rw [hus,hi1]
  rcases hg with ⟨rfl,rfl,rfl⟩|⟨b,cap,spare,rfl,rfl,hc1,hc2,hc3⟩
  ·have hx0:xs=[]:=List.eq_nil_of_length_eq_zero (by simpa using hl)
   subst hx0
   have hr:=run_append_nil (P:=P) w t ty e i zero ht hi hi3 ad m' c us hlus hnews (by omega) (by simp only [maxLen] at hb';omega) (by rw [hi2];have:=hb;simp only [Nat.zero_add] at this;omega)
   rw [hex _ hr]
   have hrow':=hrow 0 (by omega)
   simp only [Nat.zero_add,List.nil_append] at hrow' ⊢
   have hst:=(Step.drew hw' 1).trans (Step.alloc (Step.drew hw' 1).mem (.cells (us.toArray++Builtin.zeroCells zero.cells (grownCap w m' 0 e-m')) e (0,0)))
   refine hK _ _ G _ (hst.permL hp.symm) ⟨[(w.heap.size,.cells (us++(Builtin.zeroCells zero.cells (grownCap w m' 0 e-m')).toList).toArray e (0,0))],?_,rfl,?_⟩
   ·rw [Nat.zero_add,List.nil_append];exact hrow'
   ·simp [World.drewN]
  ·have hblk:w.heap[b]? = some (.cells (xs++spare).toArray e (0,0)):=hw'.own b _ (by simp)
   by_cases hroom:m+m'≤cap
   ·have hr:=run_append_room (P:=P) w t ty e i ht hi b m cap (xs++spare).toArray hblk ad m' c us hlus hnews hall hroom (by rw [hi1,hus,← Nat.add_mul,List.size_toArray,hc3];exact Nat.mul_le_mul_right _ hroom)
    rw [hex _ hr]
    have htake:((xs++spare).toArray.toList.take (m*i.size)++us++(xs++spare).toArray.toList.drop (m*i.size+us.length))=xs++us++spare.drop us.length:=by
     rw [hi1,← hl]
     simp only [List.take_left]
     congr 1
     rw [← List.drop_drop,List.drop_left]
    rw [htake]
    have hst:Step G ([(b,.cells (xs++spare).toArray e (0,0))]++μr) w G ([(b,.cells (xs++us++spare.drop us.length).toArray e (0,0))]++μr) (w.setRow b (xs++us++spare.drop us.length).toArray) :=
     Step.row hw' (b:=b) (vs:=xs++spare) (by simp [Has]) (.here _ _)
    refine hK _ _ G _ (hst.permL hp.symm) ⟨[(b,.cells (xs++us++spare.drop us.length).toArray e (0,0))],⟨by rw [List.length_append,hl,hus,Nat.add_mul],.inr ⟨b,cap,spare.drop us.length,rfl,rfl,hroom,hc2,?_⟩⟩,rfl,rfl⟩
    have h5:(m+m')*sz≤cap*sz:=Nat.mul_le_mul_right _ hroom
    simp only [List.length_append,List.length_drop,hl,hus] at hc3 ⊢
    rw [Nat.add_mul] at h5
    omega
   ·have holds:∀ j u,xs[j]? = some u→w.cell? ((⟨b,0,none⟩:Addr).add j)=some u:=by
     intro j u hu
     have hj:j<xs.length:=(List.getElem?_eq_some_iff.1 hu).1
     rw [add_mk,Nat.zero_add]
     unfold World.cell?
     simp only [hblk]
     simp only [Option.isSome_none,Bool.false_eq_true,if_false,List.getElem?_toArray]
     rw [List.getElem?_append_left hj]
     exact hu
    have hr:=run_append_grow (P:=P) w t ty e i zero ht hi hi3 ⟨b,0,none⟩ m cap xs (by rw [hl,hi1]) holds ad m' c us hlus hnews (by omega) (by simp only [maxLen] at hb';omega) (growslice_fits (by omega) (by rw [hi2];exact hb))
    rw [hex _ hr]
    have hrow':=hrow cap (by omega)
    have hst:=(Step.drew hw' 1).trans (Step.alloc (Step.drew hw' 1).mem (.cells (xs.toArray++us.toArray++Builtin.zeroCells zero.cells (grownCap w (m+m') cap e-(m+m'))) e (0,0)))
    have hst2:Step G ([(b,.cells (xs++spare).toArray e (0,0))]++μr) w G ((w.heap.size,.cells (xs.toArray++us.toArray++Builtin.zeroCells zero.cells (grownCap w (m+m') cap e-(m+m'))) e (0,0))::μr) _ :=
     hst.drop (List.Sublist.cons_cons _ (List.Sublist.cons _ (List.Sublist.refl _)))
    refine hK _ _ G _ (hst2.permL hp.symm) ⟨_,hrow',rfl,?_⟩
    simp
theorem v_append {e:TypeId}{agg:Bool}{sz:Nat}{s x:Operand}{v u:Value}{m m':Nat}{xs us:List Value}{ν μr:OH} [Ty P t (.slice e)] [Lay P e agg sz bytes zero] (hzs:zero.cells.size=sz) (hsz:0<sz) (hs:Env.ev σ s=some v) (hx:Env.ev σ x=some u) (hg:Grow e sz v m xs ν) (hp:μ.Perm (ν++μr)) (hsrc:Src G μ u m' sz us) (h1:us.all Value.oneCell'=true)
 (hb:(m+m')*bytes≤140737488355328) (hb':m+m'≤maxLen) (hd:Nat.blt d n=true)
 (h:∀ v' ν',Grow e sz v' (m+m') (xs++us) ν'→Vc P fn n B Φ (.ops all rest::k) ((d,v')::σ) G (ν'++μr)):Vc P fn n B Φ (.ops all (⟨some d,.call { callee:=.builtin .append,args:=#[s,x],argTypes:=#[t,t] },ty,pos,af,none⟩::rest)::k) σ G μ :=
 v_move (m_append hzs hsz hs hx hg hp hsrc h1 hb hb') hd fun _ _ _ ⟨ν',h1,h2,h3⟩=>by rw [h2,h3];exact h _ ν' h1
theorem Src.own {e:TypeId}{b m sz c:Nat}{us:List Value}(h:Has μ b us e) (hl:us.length=m*sz):Src G μ (.slice (some ⟨b,0,none⟩) m c) m sz us:=⟨hl,_,_,rfl,fun _=>⟨_,rfl,CellsAt.own h⟩⟩
theorem Grow.cells {e:TypeId}{sz m:Nat}{v:Value}{xs:List Value}{ν:OH}(h:Grow e sz v m xs ν) {G':GH}(hG:∀ b o,(b,o)∈ν→G' b=some o):∃ A c,v=.slice A m c∧m≤c∧c≤maxLen∧(0<m→∃ a,A=some a∧CellsG G' a xs):=by
 obtain ⟨hl,⟨rfl,rfl,rfl⟩|⟨b,cap,spare,rfl,rfl,h1,h2,h3⟩⟩:=h
 ·exact ⟨none,0,rfl,Nat.le_refl _,by simp [maxLen],fun h=>absurd h (by omega)⟩
 ·refine ⟨_,cap,rfl,h1,h2,fun _=>⟨_,rfl,fun j u hu=>?_⟩⟩
  have:=hG b (.cells (xs++spare).toArray e (0,0)) (by simp)
  have hj:j<xs.length:=(List.getElem?_eq_some_iff.1 hu).1
  rw [add_mk,Nat.zero_add]
  unfold GH.cell?
  simp only [this]
  simp only [Option.isSome_none,Bool.false_eq_true,if_false,List.getElem?_toArray]
  rw [List.getElem?_append_left hj]
  exact hu
theorem Grow.sl {α:Type}{R:α→List Value→Prop}{e:TypeId}{sz:Nat}{v:Value}{l:List α}{css:List (List Value)}{ν:OH}(h:Grow e sz v l.length css.flatten ν) {G':GH}(hG:∀ b o,(b,o)∈ν→G' b=some o) (hlen:css.length=l.length) (hR:∀ (i:Nat) x cs,l[i]? = some x→css[i]? = some cs→cs.length=sz∧R x cs):Sl G' sz R v l:=by
 obtain ⟨A,c,rfl,h1,h2,h3⟩:=h.cells hG
 refine ⟨A,c,rfl,h1,h2,fun h0=>?_⟩
 obtain ⟨a,rfl,h4⟩:=h3 h0
 refine ⟨a,rfl,fun i x hx=>?_⟩
 have hi:i<l.length:=(List.getElem?_eq_some_iff.1 hx).1
 have hcs:css[i]? = some (css[i]'(by omega)):=List.getElem?_eq_getElem (by omega)
 obtain ⟨e1,e2⟩:=hR i x _ hx hcs
 refine ⟨_,e1,e2,fun j u hu=>?_⟩
 rw [add_add]
 refine h4 _ _ ?_
 have hall:∀ (css:List (List Value)) (i:Nat) (cs:List Value),(∀ (k:Nat) (c:List Value),css[k]? = some c→c.length=sz)→css[i]? = some cs→∀ (j:Nat) (u:Value),cs[j]? = some u→css.flatten[i*sz+j]? = some u:=by
  intro css
  induction css with
  | nil=>intro i cs _ hi;simp at hi
  | cons c css ih =>
   intro i cs hs hi j u hu
   cases i with
   | zero =>
    simp only [List.getElem?_cons_zero,Option.some.injEq] at hi
    subst hi
    have hj:j<c.length:=(List.getElem?_eq_some_iff.1 hu).1
    rw [List.flatten_cons,Nat.zero_mul,Nat.zero_add,List.getElem?_append_left hj]
    exact hu
   | succ i =>
    simp only [List.getElem?_cons_succ] at hi
    have hc:c.length=sz:=hs 0 c (by simp)
    rw [List.flatten_cons,List.getElem?_append_right (by rw [hc,Nat.add_mul];omega),hc,Nat.add_mul,Nat.one_mul,show i*sz+sz+j-sz=i*sz+j by omega]
    exact ih i cs (fun k c' hk=>hs (k+1) c' (by simpa using hk)) hi j u hu
 refine hall css i _ (fun k c hk=>?_) hcs j u hu
 have hk':k<l.length:=by have:=(List.getElem?_eq_some_iff.1 hk).1;omega
 exact (hR k _ c (List.getElem?_eq_getElem hk') hk).1
end
theorem Sl.ofInts {G:GH}{b:Nat}{k:IntKind}{e:TypeId}{l:List Int}{vs:List Value}(hvs:vs=l.map (.int k ·)) (hG:G b=some (.cells vs.toArray e (0,0))) (hw:∀ x∈l,(Lit.int k x).wf=true) (hm:l.length≤maxLen):Sl G 1 (IntR k) (.slice (some ⟨b,0,none⟩) l.length l.length) l:=by
 subst hvs
 refine ⟨_,_,rfl,Nat.le_refl _,hm,fun _=>⟨_,rfl,fun i x hx=>⟨[.int k x],rfl,⟨rfl,hw x (List.mem_of_getElem? hx)⟩,fun j u hu=>?_⟩⟩⟩
 match j,hu with
 | 0,hu =>
  simp only [List.getElem?_cons_zero,Option.some.injEq] at hu
  subst hu
  rw [add_mk,add_mk]
  simp [GH.cell?,hG,hx]
theorem Step.thaw {G G':GH}{μ μ':OH}{w w':World}(h:Step G μ w G' μ' w'):Step G μ w G μ' w' where
 mem:=⟨fun b o hb=>h.mem.g b o (h.le b o hb),h.mem.own,h.mem.nodup,fun b o hb=>by
  have:=h.mem.apart b o hb
  cases hG:G b with
  | none=>rfl
  | some o'=>rw [h.le b o' hG] at this;cases this⟩
 le:=GH.le_refl _
 os:=h.os
 tape:=h.tape
 output:=h.output
 size:=h.size
 same:=h.same
 mine:=h.mine
 ours:=fun b o hb=>.inl ⟨o,hb⟩
theorem Con.thaw {P:Program}{f:FuncId}{args:Array Value}{G:GH}{μ:OH}{Ψ:Value→OH→Prop}(h:Con P f args G μ (fun v _ μ'=>Ψ v μ')):Con P f args G μ (fun v G' μ'=>G'=G∧Ψ v μ') :=
 fun w hw=>(h w hw).mono fun _ _ ⟨G',μ',hs,hΨ⟩=>⟨G,μ',hs.thaw,rfl,hΨ⟩
theorem Con.just {P:Program}{f:FuncId}{args:Array Value}{G:GH}{r:Value}(h:Con P f args G [] (fun v _ μ'=>v=r∧μ'=[])):Con P f args G [] (Just r G) :=
 h.thaw.mono fun _ _ _ ⟨h1,h2,h3⟩=>⟨h2,h1,h3⟩
theorem Con.keeps {P:Program}{f:FuncId}{args:Array Value}{G:GH}{μ:OH}{r:Value}(h:Con P f args G μ (fun v _ μ'=>v=r∧μ'=μ)):Con P f args G μ (Keeps r G μ) :=
 h.thaw.mono fun _ _ _ ⟨h1,h2,h3⟩=>⟨h2,h1,h3⟩
theorem Src.ints {G:GH}{μ:OH}{k:IntKind}{v:Value}{l:List Int}(h:Sl G 1 (IntR k) v l):Src G μ v l.length 1 (l.map (.int k ·)):=by
 obtain ⟨A,c,rfl,h1,h2,h3,h4,_⟩:=h.openInt
 refine ⟨by simp,A,c,rfl,fun h0=>?_⟩
 have hA:=h3 h0
 cases A with
 | none=>cases hA
 | some a =>
  refine ⟨a,rfl,CellsAt.frozen fun j u hu=>?_⟩
  rw [List.getElem?_map] at hu
  obtain ⟨x,hx,rfl⟩:=Option.map_eq_some_iff.1 hu
  obtain ⟨hj,rfl⟩:=List.getElem?_eq_some_iff.1 hx
  have:=h4 j hj
  rw [Nat.mul_one] at this
  exact this
theorem flatten_ints {k:IntKind}:∀ l:List Int,(l.map fun x => [Value.int k x]).flatten=l.map (.int k ·)
 | []=>rfl
 | x::l=>by simp [flatten_ints l]
theorem Grow.ints {e:TypeId}{k:IntKind}{v:Value}{l:List Int}{ν:OH}(h:Grow e 1 v l.length (l.map (.int k ·)) ν) {G':GH}(hG:∀ b o,(b,o)∈ν→G' b=some o) (hw:∀ x∈l,(Lit.int k x).wf=true):Sl G' 1 (IntR k) v l:=by
 rw [← flatten_ints] at h
 refine h.sl hG (by simp) fun i x cs hx hc=>?_
 rw [List.getElem?_map,hx] at hc
 simp only [Option.map_some,Option.some.injEq] at hc
 subst hc
 exact ⟨rfl,rfl,hw x (List.mem_of_getElem? hx)⟩
theorem Grow.empty {e:TypeId}{sz b:Nat}:Grow e sz (.slice (some ⟨b,0,none⟩) 0 0) 0 [] [(b,.cells ([]:List Value).toArray e (0,0))] :=
 ⟨by simp,.inr ⟨b,0,[],rfl,rfl,Nat.le_refl _,by simp [maxLen],by simp⟩⟩
theorem allOne_ints {k:IntKind}(l:List Int):(l.map (Value.int k ·)).all Value.oneCell'=true:=by
 rw [List.all_eq_true]
 intro u hu
 obtain ⟨x,_,rfl⟩:=List.mem_map.1 hu
 rfl
section
variable {P:Program}{fn:Func}{n:Nat}{B:Base}{Φ:Value→GH→OH→Prop}{k:List It}{σ:Env}{G G0:GH}{μ ν:OH}{all:Array Oper}{listed:Array Bool}{m d:Nat}{t ty:TypeId}{pos:String}{af:Array Edge}{bytes:Nat}{zero:Value}
theorem d_buildSlice (i:Nat) {e:TypeId}{agg:Bool}{sz len:Nat}{ps:List (Nat×Operand)}{vs zs cs:List Value}(hi:all[i]? = some ⟨some d,.buildSlice t len ps.toArray,ty,pos,af,none⟩) (hT:Ty P t (.slice e)) (hL:Lay P e agg sz bytes zero) (hr:Region.ready .any all listed=[i])
 (hz:zero.cells=zs.toArray) (hl:ps.map (·.1)=List.range len) (hv:Env.evs σ (ps.map (·.2))=some vs) (hp:packL sz vs=some cs) (hb:Nat.ble (len*sz) 16777216=true) (hd:Nat.blt d n=true) (hν:∀ e∈ν,e∈μ)
 (h:∀ b,DVc P fn n B Φ all G0 ν m (listed.setIfInBounds i true) k ((d,.slice (some ⟨b,0,none⟩) len len)::σ) G ((b,.cells cs.toArray e (0,0))::μ)):DVc P fn n B Φ all G0 ν (m+1) listed k σ G μ :=
 d_exec i hi hr (m_buildSlice hz hl hv hp hb) hd fun _ _ _ ⟨b,h1,h2,h3⟩=>by rw [h1,h2,h3];exact ⟨fun e he=>List.mem_cons_of_mem _ (hν e he),h b⟩
theorem d_append (i:Nat) {e:TypeId}{agg:Bool}{sz:Nat}{s x:Operand}{v u:Value}{q q':Nat}{xs us:List Value}{ν1 μr:OH}(hi:all[i]? = some ⟨some d,.call { callee:=.builtin .append,args:=#[s,x],argTypes:=#[t,t] },ty,pos,af,none⟩) (hT:Ty P t (.slice e)) (hL:Lay P e agg sz bytes zero) (hr:Region.ready .any all listed=[i])
 (hzs:zero.cells.size=sz) (hsz:0<sz) (hs:Env.ev σ s=some v) (hx:Env.ev σ x=some u) (hg:Grow e sz v q xs ν1) (hp:μ.Perm (ν1++μr)) (hsrc:Src G μ u q' sz us) (h1:us.all Value.oneCell'=true)
 (hb:(q+q')*bytes≤140737488355328) (hb':q+q'≤maxLen) (hd:Nat.blt d n=true) (hν:∀ e∈ν,e∈μr)
 (h:∀ v' ν',Grow e sz v' (q+q') (xs++us) ν'→DVc P fn n B Φ all G0 ν m (listed.setIfInBounds i true) k ((d,v')::σ) G (ν'++μr)):DVc P fn n B Φ all G0 ν (m+1) listed k σ G μ :=
 d_exec i hi hr (m_append hzs hsz hs hx hg hp hsrc h1 hb hb') hd fun v' _ _ ⟨ν',h1,h2,h3⟩=>by rw [h2,h3];exact ⟨fun e he=>List.mem_append_right _ (hν e he),h v' ν' h1⟩
end
end Go.Vx
/-
  VX, MORE: slice expressions with three indexes; append behind a slice that has no room left.
-/
namespace Go.Vx
open Go
attribute [local semireducible] Vc Con PureOp ReadOp MoveOp
section
variable {σ:Env}
theorem evs_nil:Env.evs σ []=some []:=rfl
theorem evs_cons {x:Operand}{xs:List Operand}{v:Value}{vs:List Value}(h1:Env.ev σ x=some v) (h2:Env.evs σ xs=some vs):Env.evs σ (x::xs)=some (v::vs):=by simp [Env.evs,h1,h2]
theorem ap_nil {rs:List Value} : []++rs=rs:=rfl
theorem ap_cons {u:Value}{us rs r:List Value}(h:us++rs=r):(u::us)++rs=u::r:=by rw [← h];rfl
theorem ov_nil {l:List Value}:over l 0 []=l:=by simp [over]
theorem ov_cons {a u:Value}{l us l':List Value}(h:over l 0 us=l'):over (a::l) 0 (u::us)=u::l':=by
 subst h;simp [over,Nat.add_comm]
theorem ov_there {a:Value}{l us l':List Value}{i:Nat}(h:over l i us=l'):over (a::l) (i+1) us=a::l':=by
 subst h;simp [over,Nat.add_right_comm]
theorem dt_nil {l:List Value}:(l.drop 0).take 0=[]:=by simp
theorem dt_here {a:Value}{l us:List Value}{m:Nat}(h:(l.drop 0).take m=us):((a::l).drop 0).take (m+1)=a::us:=by subst h;simp
theorem dt_drop {a:Value}{l us:List Value}{i m:Nat}(h:(l.drop i).take m=us):((a::l).drop (i+1)).take m=us:=by subst h;simp
theorem pk_nil {sz:Nat}:packL sz []=some []:=rfl
theorem pk_cons {sz:Nat}{v:Value}{vs us rs r:List Value}(hc:v.cells=us.toArray) (hs:Nat.beq us.length sz=true) (h:packL sz vs=some rs) (he:us++rs=r):packL sz (v::vs)=some r:=by
 subst he
 have h1:Nat.beq v.cells.size sz=true:=by rw [hc];simpa using hs
 simp [packL,h,hc,hs]
theorem bld_nil {pf:Nat→Option (Nat×Nat)}{cs:List Value}:buildF pf cs []=some cs:=rfl
theorem bld_cons {pf:Nat→Option (Nat×Nat)}{cs cs' r us:List Value}{i off size:Nat}{v:Value}{rest:List (Nat×Value)}(hpf:pf i=some (off,size)) (hc:v.cells=us.toArray) (hs:Nat.beq us.length size=true) (hl:Nat.ble (off+size) cs.length=true) (ho:over cs off us=cs') (h:buildF pf cs' rest=some r):buildF pf cs ((i,v)::rest)=some r:=by
 subst ho
 have h1:Nat.beq v.cells.size size=true:=by rw [hc];simpa using hs
 have h2:v.cells.toList=us:=by rw [hc]
 have h3:(Nat.beq v.cells.size size && Nat.ble (off+size) cs.length)=true:=by rw [h1,hl];rfl
 have h4:buildF pf cs ((i,v)::rest)=bif (Nat.beq v.cells.size size && Nat.ble (off+size) cs.length) then buildF pf (over cs off v.cells.toList) rest else none:=by
  rw [buildF];simp only [hpf]
 rw [h4,h3,h2]
 exact h
theorem bldL {pl:List (Nat×Nat)}{cs r:List Value}{ps:List (Nat×Value)}(h:buildF (fun i=>pl[i]?) cs ps=some r):buildL pl cs ps=some r:=h
end
section
variable {P:Program}{fn:Func}{n:Nat}{B:Base}{Φ:Value→GH→OH→Prop}{k:List It}{σ:Env}{G:GH}{μ:OH}{all:Array Oper}{rest:List Oper}{d:Nat}{ty:TypeId}{pos:String}{af:Array Edge}{t:TypeId}{bytes:Nat}{zero:Value}
theorem p_extract0 {x:Operand}{v:Value}{vs:List Value}(hx:Env.ev σ x=some (.tuple (v::vs).toArray)):PureOp P (.extract x 0) ty σ v:=p_extract hx (by simp)
theorem p_extract1 {x:Operand}{v u:Value}{vs:List Value}(hx:Env.ev σ x=some (.tuple (u::v::vs).toArray)):PureOp P (.extract x 1) ty σ v:=p_extract hx (by simp)
theorem p_extract2 {x:Operand}{v u w:Value}{vs:List Value}(hx:Env.ev σ x=some (.tuple (u::w::v::vs).toArray)):PureOp P (.extract x 2) ty σ v:=p_extract hx (by simp)
theorem p_fieldNs {s:TypeId}{x:Operand}{vs us:List Value}{i off sz:Nat}{ft:TypeId}[h:Fld P s i off ft] [Lay P ft true sz bytes zero] (hx:Env.ev σ x=some (.agg vs.toArray)) (hu:(vs.drop off).take sz=us):PureOp P (.field s x i) ty σ (.agg us.toArray):=by
 subst hu;exact p_fieldN hx
theorem r_loadNo {x:Operand}{b i:Nat}{vs us:List Value}{e:TypeId}{sz:Nat} [Lay P t true sz bytes zero] (hx:Env.ev σ x=some (.pointer (some ⟨b,i,none⟩))) (h:Has μ b vs e) (hd:(vs.drop i).take sz=us) (hn:us.length=sz):ReadOp P (.load t x) ty σ G μ (.agg us.toArray):=by
 subst hd
 exact r_loadN hx (CellsAt.ownAt h) hn
theorem p_slice3 {e:TypeId}{agg:Bool}{sz:Nat}{x hi mx:Operand}{A:Option Addr}{m c:Nat}{k k':IntKind}{h q:Int} [Ty P t (.slice e)] [Lay P e agg sz bytes zero] (hx:Env.ev σ x=some (.slice A m c)) (hh:Env.ev σ hi=some (.int k h)) (hq:Env.ev σ mx=some (.int k' q))
 (h0:0≤h) (h1:h≤q) (h2:q≤c):PureOp P (.slice t x none (some hi) (some mx)) ty σ (.slice A h.toNat q.toNat):=by
 intro dst pos af g ρ hρ w
 obtain ⟨h',rfl⟩:=Int.eq_ofNat_of_zero_le h0
 obtain ⟨q',rfl⟩:=Int.eq_ofNat_of_zero_le (Int.le_trans h0 h1)
 have e1:(if q'=0 then A else A.map (·.add (0*sz)))=A:=by
  split
  ·rfl
  ·cases A<;>simp [Addr.add]
 have a1:h'≤q':=by omega
 have a2:q'≤c:=by omega
 simp only [Nat.zero_mul] at e1
 simp [execOp,hρ _ _ hx,hρ _ _ hh,hρ _ _ hq,Instr.sliceAt,Instr.slice,Instr.sliceBounds,Instr.sliceBound,asIntOf,run_under (P:=P) (t:=t) (d:=.slice e),run_sizeOf (P:=P) (t:=e) (agg:=agg) (size:=sz) (bytes:=bytes) (zero:=zero),a1,a2,e1]
theorem perm_of_count {μ ν:OH}(h:∀ p:Nat×Obj→Bool,μ.countP p=ν.countP p):μ.Perm ν:=by
 haveI:DecidableEq (Nat×Obj):=fun a b=>Classical.propDecidable (a=b)
 rw [List.perm_iff_count]
 intro x
 exact h _
theorem v_freezeP (ν μ' r:OH) (hp:μ.Perm (ν++(μ'++r))) (h:∀ G',GH.le G G'→(∀ b o,(b,o)∈ν→G' b=some o)→Vc P fn n B Φ k σ G' μ'):Vc P fn n B Φ k σ G μ :=
 v_perm hp (v_freeze fun G' hle hG=>v_drop (List.sublist_append_left _ _) (h G' hle hG))
theorem v_dropP (μ' r:OH) (hp:μ.Perm (μ'++r)) (h:Vc P fn n B Φ k σ G μ'):Vc P fn n B Φ k σ G μ:=v_perm hp (v_drop (List.sublist_append_left _ _) h)
inductive PickA (ν:OH):OH→OH→Prop
 | last:PickA ν ν []
 | here (ρ:OH):PickA ν (ν++ρ) ρ
 | cons (e:Nat×Obj) {μ r:OH} (h:PickA ν μ r):PickA ν (e::μ) (e::r)
 | app (κ:OH) {μ r:OH} (h:PickA ν μ r):PickA ν (κ++μ) (κ++r)
theorem PickA.one {e:Nat×Obj}(ρ:OH):PickA [e] (e::ρ) ρ:=PickA.here ρ
theorem PickA.perm {ν μ r:OH}(h:PickA ν μ r):μ.Perm (ν++r):=by
 induction h with
 | last=>simp
 | here ρ=>exact List.Perm.refl _
 | cons e h ih=>exact (ih.cons e).trans (List.perm_middle.symm)
 | app κ h ih =>
  refine (List.Perm.append_left κ ih).trans ?_
  rw [← List.append_assoc,← List.append_assoc]
  exact List.Perm.append_right _ List.perm_append_comm
theorem v_frzP (ν:OH) {r:OH}(hp:μ.Perm (ν++r)) (h:∀ G',GH.le G G'→(∀ b o,(b,o)∈ν→G' b=some o)→Vc P fn n B Φ k σ G' r):Vc P fn n B Φ k σ G μ :=
 v_perm hp (v_freeze h)
theorem v_frz (ν:OH) {r:OH}(hp:PickA ν μ r) (h:∀ G',GH.le G G'→(∀ b o,(b,o)∈ν→G' b=some o)→Vc P fn n B Φ k σ G' r):Vc P fn n B Φ k σ G μ :=
 v_perm hp.perm (v_freeze h)
theorem v_only (ν:OH) {r:OH}(hp:PickA ν μ r) (h:Vc P fn n B Φ k σ G ν):Vc P fn n B Φ k σ G μ :=
 v_perm hp.perm (v_drop (List.sublist_append_left _ _) h)
theorem Grow.shape {e:TypeId}{sz:Nat}{v:Value}{m:Nat}{xs:List Value}{ν:OH}(h:Grow e sz v m xs ν):∃ A c,v=.slice A m c∧m≤c∧c≤maxLen:=by
 obtain ⟨_,⟨rfl,rfl,_⟩|⟨b,cap,spare,rfl,_,h1,h2,_⟩⟩:=h
 ·exact ⟨_,_,rfl,Nat.le_refl _,by simp [maxLen]⟩
 ·exact ⟨_,_,rfl,h1,h2⟩
theorem Grow.lit {e:TypeId}{sz b m:Nat}{xs:List Value}(h:xs.length=m*sz) (hm:m≤maxLen):Grow e sz (.slice (some ⟨b,0,none⟩) m m) m xs [(b,.cells xs.toArray e (0,0))] :=
 ⟨h,.inr ⟨b,m,[],rfl,by simp,Nat.le_refl _,hm,by simpa using h⟩⟩
end
end Go.Vx
/-
  VX, TEXTS: strings, ranges over them, interfaces, and what hangs on a Bool that is not known.
-/
namespace Go.Vx
open Go
attribute [local semireducible] Vc Con PureOp ReadOp MoveOp
section
variable {P:Program}{fn:Func}{n:Nat}{B:Base}{Φ:Value→GH→OH→Prop}{k:List It}{σ:Env}{G:GH}{μ:OH}{all:Array Oper}{rest:List Oper}{d:Nat}{ty:TypeId}{pos:String}{af:Array Edge}{t:TypeId}{bytes:Nat}{zero:Value}
theorem m_rangeS {x:Operand}{s:ByteArray} [Ty P t .string] (hx:Env.ev σ x=some (.string s)) :
 MoveOp P (.range t x) ty σ G μ (fun v G' μ'=>∃ b,v=.pointer (some ⟨b,0,none⟩)∧G'=G∧μ'=(b,.stringIter s 0)::μ):=by
 intro dst pos af g ρ hρ w hw a K Q hK
 have hr:(execOp ρ ⟨dst,.range t x,ty,pos,af,g⟩).run P w=.ok (.value (.pointer (some ⟨w.heap.size,0,none⟩))) (w.alloc (.stringIter s 0)):=by
  have:=run_range_string (P:=P) w t s Ty.h
  simp [execOp,hρ _ _ hx,this,World.iter]
 rw [hr]
 exact hK _ _ _ _ (Step.alloc hw _) ⟨_,rfl,rfl,rfl⟩
theorem v_rangeS {x:Operand}{s:ByteArray} [Ty P t .string] (hx:Env.ev σ x=some (.string s)) (hd:Nat.blt d n=true)
 (h:∀ b,Vc P fn n B Φ (.ops all rest::k) ((d,.pointer (some ⟨b,0,none⟩))::σ) G ((b,.stringIter s 0)::μ)):Vc P fn n B Φ (.ops all (⟨some d,.range t x,ty,pos,af,none⟩::rest)::k) σ G μ :=
 v_move (m_rangeS hx) hd fun _ _ _ ⟨b,h1,h2,h3⟩=>by rw [h1,h2,h3];exact h b
theorem m_nextS {x:Operand}{s:ByteArray}{b p:Nat}{μ':OH}(hx:Env.ev σ x=some (.pointer (some ⟨b,0,none⟩))) (hb:(b,Obj.stringIter s p)∈μ) (hp:p<s.size) (hu:Upd b (.stringIter s (p+(Utf8.decode s p).2)) μ μ') :
 MoveOp P (.next x true) ty σ G μ (fun v G' μ''=>v=.tuple #[.bool true,.int .i64 p,.int .i32 (Utf8.decode s p).1]∧G'=G∧μ''=μ'):=by
 intro dst pos af g ρ hρ w hw a K Q hK
 have hblk:=hw.own _ _ hb
 have hlt:=lt_of_heap hblk
 have hr:(execOp ρ ⟨dst,.next x true,ty,pos,af,g⟩).run P w=.ok (.value (.tuple #[.bool true,.int .i64 p,.int .i32 (Utf8.decode s p).1])) { w with heap:=w.heap.setIfInBounds b (.stringIter s (p+(Utf8.decode s p).2)) }:=by
  simp [execOp,hρ _ _ hx,Instr.next,getObj,setObj,Sem.run,hblk,hp,goInt]
 rw [hr]
 refine hK _ _ _ _ (Step.upd hw hu rfl rfl rfl (by simp) ?_ (fun c hc=>?_)) ⟨rfl,rfl,rfl⟩
 ·simp [hlt]
 ·simp [Array.getElem?_setIfInBounds_ne (Ne.symm hc)]
theorem v_nextS {x:Operand}{s:ByteArray}{b p:Nat}{μ':OH}(hx:Env.ev σ x=some (.pointer (some ⟨b,0,none⟩))) (hb:(b,Obj.stringIter s p)∈μ) (hp:p<s.size) (hu:Upd b (.stringIter s (p+(Utf8.decode s p).2)) μ μ') (hd:Nat.blt d n=true)
 (h:Vc P fn n B Φ (.ops all rest::k) ((d,.tuple [.bool true,.int .i64 p,.int .i32 (Utf8.decode s p).1].toArray)::σ) G μ'):Vc P fn n B Φ (.ops all (⟨some d,.next x true,ty,pos,af,none⟩::rest)::k) σ G μ :=
 v_move (m_nextS hx hb hp hu) hd fun _ _ _ ⟨h1,h2,h3⟩=>by rw [h1,h2,h3];exact h
theorem r_nextEnd {x:Operand}{s:ByteArray}{b p:Nat}(hx:Env.ev σ x=some (.pointer (some ⟨b,0,none⟩))) (hb:(b,Obj.stringIter s p)∈μ) (hp:¬ p<s.size):ReadOp P (.next x true) ty σ G μ (.tuple [.bool false].toArray):=by
 intro dst pos af g ρ hρ w hw
 have hblk:=hw.own _ _ hb
 simp [execOp,hρ _ _ hx,Instr.next,getObj,Sem.run,hblk,hp]
theorem run_sliceStr {w:World}{s:ByteArray} [Ty P t .string] {lo hi:Option Value}{l h:Nat}(hl:(lo=none∧l=0)∨(∃ k,lo=some (.int k (l:Int)))) (hh:(hi=none∧h=s.size)∨(∃ k,hi=some (.int k (h:Int)))) (h1:l≤h) (h2:h≤s.size) :
 (Instr.sliceAt t (.string s) lo hi none).run P w=.ok (.string (s.extract l h)) w:=by
 rcases hl with ⟨rfl,rfl⟩|⟨kl,rfl⟩<;>rcases hh with ⟨rfl,rfl⟩|⟨kh,rfl⟩ <;>
  simp [Instr.sliceAt,Instr.slice,Instr.sliceBounds,Instr.sliceBound,asIntOf,run_under (P:=P) (t:=t) (d:=.string),h1,h2]
theorem p_sliceStrL {x lo:Operand}{s:ByteArray}{k:IntKind}{l:Int} [Ty P t .string] (hx:Env.ev σ x=some (.string s)) (hl:Env.ev σ lo=some (.int k l)) (h0:0≤l) (h1:l≤s.size) :
 PureOp P (.slice t x (some lo) none none) ty σ (.string (s.extract l.toNat s.size)):=by
 intro dst pos af g ρ hρ w
 have:=run_sliceStr (P:=P) (w:=w) (t:=t) (s:=s) (lo:=some (.int k l)) (hi:=none) (l:=l.toNat) (h:=s.size) (.inr ⟨k,by rw [Int.toNat_of_nonneg h0]⟩) (.inl ⟨rfl,rfl⟩) (by omega) (Nat.le_refl _)
 simp [execOp,hρ _ _ hx,hρ _ _ hl,this]
theorem p_sliceStrH {x hi:Operand}{s:ByteArray}{k:IntKind}{h:Int} [Ty P t .string] (hx:Env.ev σ x=some (.string s)) (hh:Env.ev σ hi=some (.int k h)) (h0:0≤h) (h1:h≤s.size) :
 PureOp P (.slice t x none (some hi) none) ty σ (.string (s.extract 0 h.toNat)):=by
 intro dst pos af g ρ hρ w
 have:=run_sliceStr (P:=P) (w:=w) (t:=t) (s:=s) (lo:=none) (hi:=some (.int k h)) (l:=0) (h:=h.toNat) (.inl ⟨rfl,rfl⟩) (.inr ⟨k,by rw [Int.toNat_of_nonneg h0]⟩) (by omega) (by omega)
 simp [execOp,hρ _ _ hx,hρ _ _ hh,this]
theorem p_assertOk {x:Operand}{xt u:TypeId}{d:TypeDesc}{v:Value} [Ty P u d] (hd:(match d with | .interface _=>false|_=>true)=true) (hx:Env.ev σ x=some (.iface u v)) :
 PureOp P (.typeAssert x xt u true) ty σ (.tuple [v,.bool true].toArray):=by
 intro dst pos af g ρ hρ w
 simp only [execOp,hρ _ _ hx,Instr.typeAssert,Sem.run_bind,run_under (t:=u) (d:=d),Result.andThen_ok]
 cases d<;>simp at hd ⊢
theorem p_assertNo {x:Operand}{xt u u':TypeId}{d:TypeDesc}{v:Value}{agg:Bool}{sz:Nat} [Ty P u d] [Lay P u agg sz bytes zero] (hd:(match d with | .interface _=>false|_=>true)=true) (hx:Env.ev σ x=some (.iface u' v)) (hne:Nat.beq u' u=false) :
 PureOp P (.typeAssert x xt u true) ty σ (.tuple [zero,.bool false].toArray):=by
 intro dst pos af g ρ hρ w
 have hne':¬ u'=u:=by intro e;subst e;simp at hne
 have hz:=run_zeroOf (P:=P) (t:=u) (agg:=agg) (size:=sz) (bytes:=bytes) (zero:=zero) (w:=w)
 simp only [execOp,hρ _ _ hx,Instr.typeAssert,Sem.run_bind,run_under (t:=u) (d:=d),Result.andThen_ok]
 cases d<;>simp at hd<;>simp [hne',hz]
theorem p_conv64 {x:Operand}{k k'':IntKind}{a:Int}{t u:TypeId} [Ty P t (.int k'')] [Ty P u (.int .i64)] (hx:Env.ev σ x=some (.int k a)) (h : -9223372036854775808≤a∧a≤9223372036854775807):PureOp P (.convert t u x) ty σ (.int .i64 a):=by
 have e:IntKind.i64.wrap a=a:=IntWalk.i64_in _ (by omega)
 have:=p_conv (P:=P) (ty:=ty) (t:=t) (u:=u) hx
 rwa [e] at this
def band (a b:Int):Int:=IntKind.i64.wrap (BitVec.ofInt IntKind.i64.bits a &&& BitVec.ofInt IntKind.i64.bits b).toNat
theorem p_and64 {x y:Operand}{a b:Int}{t t':TypeId}(hx:Env.ev σ x=some (.int .i64 a)) (hy:Env.ev σ y=some (.int .i64 b)):PureOp P (.binOp .and t x y t') ty σ (.int .i64 (band a b)):=p_and hx hy
theorem p_quo {x y:Operand}{a b:Int}{t t':TypeId}(hx:Env.ev σ x=some (.int .i64 a)) (hy:Env.ev σ y=some (.int .i64 b)) (ha:0≤a∧a≤9223372036854775807) (hb:0<b):PureOp P (.binOp .quo t x y t') ty σ (.int .i64 (a / b)):=by
 have e1:a.tdiv b=a / b:=Int.tdiv_eq_ediv_of_nonneg ha.1
 have e2:0≤a / b:=Int.ediv_nonneg ha.1 (by omega)
 have e3:a / b≤a:=Int.ediv_le_self _ ha.1
 have e:IntKind.i64.wrap (a.tdiv b)=a / b:=by rw [e1];exact IntWalk.i64_in _ (by omega)
 have:=p_quow (P:=P) (ty:=ty) (t:=t) (t':=t') hx hy (by omega)
 rwa [e] at this
theorem p_rem0 {x y:Operand}{k:IntKind}{a b:Int}{t t':TypeId}(hx:Env.ev σ x=some (.int k a)) (hy:Env.ev σ y=some (.int k b)) (ha:0≤a) (hb:0<b):PureOp P (.binOp .rem t x y t') ty σ (.int k (a % b)):=by
 have:=p_rem (P:=P) (ty:=ty) (t:=t) (t':=t') hx hy (by omega)
 rwa [Int.tmod_eq_emod_of_nonneg ha] at this
def gv (b c:Bool) (v:Value):Value:=bif b == c then v else undef
theorem v_guardM {j t:Nat}{c b:Bool}{op:Op}{v:Value}(h1:(all[j]?).bind (·.dst)=some t) (h2:Env.get σ t=some (.bool b)) (hop:PureOp P op ty σ v) (hd:Nat.blt d n=true)
 (h:Vc P fn n B Φ (.ops all rest::k) ((d,gv b c v)::σ) G μ):Vc P fn n B Φ (.ops all (⟨some d,op,ty,pos,af,some (j,c)⟩::rest)::k) σ G μ:=by
 have hg:guardVal all σ j=some b:=by
  unfold guardVal
  rw [h1]
  simp [h2]
 by_cases hbc:b=c
 ·subst hbc
  have e:gv b b v=v:=by simp [gv]
  rw [e] at h
  exact v_take hg (v_pure hop hd h)
 ·have hn:(b == c)=false:=by simpa using hbc
  have e:gv b c v=undef:=by simp [gv,hn]
  rw [e] at h
  exact v_pass hg hn hd h
theorem p_pickAnd {c x y:Operand}{b a:Bool}(hc:Env.ev σ c=some (.bool b)) (hx:Env.ev σ x=some (gv b true (.bool a))) (hy:Env.ev σ y=some (.bool false)):PureOp P (.pick c x y) ty σ (.bool (b && a)):=by
 cases b
 ·exact p_pickF hc hy
 ·exact p_pickT hc hx
theorem p_pickOr {c x y:Operand}{b a:Bool}(hc:Env.ev σ c=some (.bool b)) (hx:Env.ev σ x=some (.bool true)) (hy:Env.ev σ y=some (gv b false (.bool a))):PureOp P (.pick c x y) ty σ (.bool (b || a)):=by
 cases b
 ·exact p_pickF hc hy
 ·exact p_pickT hc hx
end
section
variable {P:Program}{ty:TypeId}{σ:Env}{G:GH}{μ:OH}
theorem m_callCJ {x:Operand}{f:FuncId} [Callable P f] {first captured:List Value}{args:List Operand}{ts:Array TypeId}{vs:List Value}{v:Value}(hx:Env.ev σ x=some (.func (.func f) first.toArray captured.toArray)) (ha:Env.evs σ args=some vs) (hs:Con P f (first++vs++captured).toArray G [] (Just v G)) :
 MoveOp P (.call { callee:=.value x,args:=args.toArray,argTypes:=ts }) ty σ G μ (fun u G' μ'=>u=v∧G'=G∧μ'=μ):=m_keep (μ1:=[]) (μ2:=μ) hs (List.Perm.refl _) (run_callC hx ha)
end
end Go.Vx
namespace Go.Vx
open Go
attribute [local semireducible] Vc Con PureOp ReadOp MoveOp
def byt (s:ByteArray) (i:Nat):Nat:=(s.get! i).toNat
theorem byt_lt (s:ByteArray) (i:Nat):byt s i<256:=(s.get! i).toNat_lt
theorem byt_eq {s:ByteArray}{i:Nat}(h:i<s.size):byt s i=(s[i]'h).toNat:=by
 unfold byt
 have e:s.get! i=s[i]'h:=by
  simp [ByteArray.get!,getElem!_pos,h]
  rfl
 rw [e]
theorem p_indexSb {P:Program}{ty:TypeId}{σ:Env}{x i:Operand}{s:ByteArray}{k:IntKind}{m:Int}{t:TypeId} [Ty P t .string] (hx:Env.ev σ x=some (.string s)) (hi:Env.ev σ i=some (.int k m)) (h0:0≤m) (h:m<s.size):PureOp P (.index t x i) ty σ (.int .u8 (byt s m.toNat)):=by
 have h':m.toNat<s.size:=by omega
 have:=p_indexS (P:=P) (ty:=ty) (t:=t) hx hi h0 h'
 rwa [← byt_eq h'] at this
end Go.Vx
namespace Go.Vx
open Go
attribute [local semireducible] Vc Con PureOp ReadOp MoveOp
section
variable {P:Program}{fn:Func}{n:Nat}{B:Base}{Φ:Value→GH→OH→Prop}{k:List It}{σ:Env}{G:GH}{μ:OH}
theorem p_indexSn {P:Program}{ty:TypeId}{σ:Env}{x i:Operand}{s:ByteArray}{k:IntKind}{m:Nat}{t:TypeId} [Ty P t .string] (hx:Env.ev σ x=some (.string s)) (hi:Env.ev σ i=some (.int k (m:Int))) (h:m<s.size):PureOp P (.index t x i) ty σ (.int .u8 (byt s m)):=by
 have:=p_indexSb (P:=P) (ty:=ty) (t:=t) hx hi (by omega) (by omega)
 rwa [Int.toNat_natCast] at this
theorem p_convB {P:Program}{ty:TypeId}{σ:Env}{x:Operand}{s:ByteArray}{m:Nat}{k k'':IntKind}{t u:TypeId} [Ty P t (.int k'')] [Ty P u (.int .i64)] (hx:Env.ev σ x=some (.int k (byt s m:Nat))):PureOp P (.convert t u x) ty σ (.int .i64 (byt s m:Nat)) :=
 p_conv64 hx (by have:=byt_lt s m;omega)
theorem v_loopI {ι:Type}(S:List Nat) (J:ι→List Value→GH→OH→Prop) (m:ι→Nat) {body:Code}{vs:List Value}(hg:Env.gets σ S=some vs) (i0:ι) (h0:J i0 vs G μ)
 (hr:∀ i vs G μ,J i vs G μ→Vc P fn n B Φ (.code body::.again S (fun vs' w'=>∃ j G' μ',J j vs' G' μ'∧Step B.G B.μ B.w G' μ' w'∧m j<m i)::k) (S.zip vs) G μ):Vc P fn n B Φ (.code (.loop body)::k) σ G μ:=by
 intro w hw a ha
 refine wp_loop_fam (ι:=ι×List Value×World) (fun x a w=>Holds B.rk.ds n (S.zip x.2.1) a∧w=x.2.2∧∃ G μ,J x.1 x.2.1 G μ∧Step B.G B.μ B.w G μ w) (fun x=>m x.1) (i0:=(i0,vs,w)) ⟨ha.sub (gets_zip hg),rfl,G,μ,h0,hw⟩ ?_
 rintro ⟨i,us,wr⟩ a' w' ⟨hh,hw',G',μ',hJ,hS⟩
 simp only at hw'
 subst hw'
 refine wpIn_mono (hr i us G' μ' hJ w' hS a' hh) fun e a'' w'' hq=>?_
 cases e with
 | normal =>
  obtain ⟨us',hh',_,j,G2,μ2,hJ2,hS2,hlt⟩:=hq
  exact ⟨(j,us',w''),⟨hh',rfl,G2,μ2,hJ2,hS2⟩,hlt⟩
 | _=>simpa [Kont,Exit.then] using hq
theorem v_againI {ι:Type}{S:List Nat}{J:ι→List Value→GH→OH→Prop}{m:ι→Nat}{N:Nat}{vs:List Value}(j:ι) (hg:Env.gets σ S=some vs) (hJ:J j vs G μ) (hm:m j<N) :
 Vc P fn n B Φ (.again S (fun vs' w'=>∃ j G' μ',J j vs' G' μ'∧Step B.G B.μ B.w G' μ' w'∧m j<N)::k) σ G μ :=
 fun _ hw=>run_again hg ⟨j,G,μ,hJ,hw,hm⟩
end
end Go.Vx
namespace Go.Vx
open Go
attribute [local semireducible] Vc Con PureOp ReadOp MoveOp
theorem dec_eq {p:Prop} [Decidable p]:dec p=decide p:=by
 by_cases h:p
 ·rw [dec_pos h,decide_eq_true h]
 ·rw [dec_neg h,decide_eq_false h]
section
variable {P:Program}{fn:Func}{n:Nat}{B:Base}{Φ:Value→GH→OH→Prop}{k:List It}{σ:Env}{G:GH}{μ:OH}{all:Array Oper}{rest:List Oper}{d:Nat}{ty:TypeId}{pos:String}{af:Array Edge}
theorem v_callFJ0 {x:Operand}{f:FuncId} [Callable P f] {args:List Operand}{ts:Array TypeId}{vs:List Value}{v:Value}(hx:Env.ev σ x=some (.func (.func f) #[] #[])) (ha:Env.evs σ args=some vs) (hs:Con P f vs.toArray G [] (Just v G)) (hd:Nat.blt d n=true)
 (h:Vc P fn n B Φ (.ops all rest::k) ((d,v)::σ) G μ) :
 Vc P fn n B Φ (.ops all (⟨some d,.call { callee:=.value x,args:=args.toArray,argTypes:=ts },ty,pos,af,none⟩::rest)::k) σ G μ :=
 v_callCJ (first:=[]) (captured:=[]) hx ha (by simpa using hs) hd h
theorem m_callFJ0 {x:Operand}{f:FuncId} [Callable P f] {args:List Operand}{ts:Array TypeId}{vs:List Value}{v:Value}(hx:Env.ev σ x=some (.func (.func f) #[] #[])) (ha:Env.evs σ args=some vs) (hs:Con P f vs.toArray G [] (Just v G)) :
 MoveOp P (.call { callee:=.value x,args:=args.toArray,argTypes:=ts }) ty σ G μ (fun u G' μ'=>u=v∧G'=G∧μ'=μ):=m_callCJ (first:=[]) (captured:=[]) hx ha (by simpa using hs)
end
end Go.Vx
namespace Go.Vx
open Go
section
variable {P:Program}{fn:Func}{n:Nat}{B:Base}{Φ:Value→GH→OH→Prop}{k:List It}{σ:Env}{G G0:GH}{μ ν:OH}{all:Array Oper}{listed:Array Bool}{m d:Nat}{ty:TypeId}{pos:String}{af:Array Edge}{v:Value}
theorem d_callJ (i:Nat) {f:FuncId} [Callable P f] {args:List Operand}{ts:Array TypeId}{vs:List Value}(hi:all[i]? = some ⟨some d,.call { callee:=.value (.func f),args:=args.toArray,argTypes:=ts },ty,pos,af,none⟩) (hr:Region.ready .any all listed=[i]) (ha:Env.evs σ args=some vs) (hs:Con P f vs.toArray G [] (Just v G)) (hd:Nat.blt d n=true)
 (h:DVc P fn n B Φ all G0 ν m (listed.setIfInBounds i true) k ((d,v)::σ) G μ):DVc P fn n B Φ all G0 ν (m+1) listed k σ G μ:=d_keep i hi hr (m_callFJ ha hs) hd h
theorem d_callK (i:Nat) {f:FuncId} [Callable P f] {args:List Operand}{ts:Array TypeId}{vs:List Value}{μ1 μ2:OH}(hi:all[i]? = some ⟨some d,.call { callee:=.value (.func f),args:=args.toArray,argTypes:=ts },ty,pos,af,none⟩) (hr:Region.ready .any all listed=[i]) (ha:Env.evs σ args=some vs) (hs:Con P f vs.toArray G μ1 (Keeps v G μ1)) (hp:μ.Perm (μ1++μ2)) (hd:Nat.blt d n=true)
 (h:DVc P fn n B Φ all G0 ν m (listed.setIfInBounds i true) k ((d,v)::σ) G μ):DVc P fn n B Φ all G0 ν (m+1) listed k σ G μ:=d_keep i hi hr (m_callFK ha hs hp) hd h
theorem d_callJ0 (i:Nat) {f:FuncId} [Callable P f] {x:Operand}{args:List Operand}{ts:Array TypeId}{vs:List Value}(hi:all[i]? = some ⟨some d,.call { callee:=.value x,args:=args.toArray,argTypes:=ts },ty,pos,af,none⟩) (hr:Region.ready .any all listed=[i]) (hx:Env.ev σ x=some (.func (.func f) #[] #[])) (ha:Env.evs σ args=some vs) (hs:Con P f vs.toArray G [] (Just v G)) (hd:Nat.blt d n=true)
 (h:DVc P fn n B Φ all G0 ν m (listed.setIfInBounds i true) k ((d,v)::σ) G μ):DVc P fn n B Φ all G0 ν (m+1) listed k σ G μ:=d_keep i hi hr (m_callFJ0 hx ha hs) hd h
end
end Go.Vx
attribute [irreducible] Go.Vx.byt
/-
  VX, STRUCTS: two of them, held against each other; results that lie in memory.
-/
namespace Go.Vx
open Go
attribute [local semireducible] Vc Con PureOp ReadOp MoveOp
class EqS (P:Program) (t:TypeId) (fl:outParam (List Field)):Prop where
 ht:P.underlying t=some (.struct (P.fieldsOf t))
 hp:P.stoodInHeld t=false
 hm:P.eqGuardType P.depth t=false
 hf:(P.fieldsOf t).toList=fl
def FEq (P:Program) (d:Nat) (xs ys:List Value) (fs:List Field) (b:Bool):Prop := ∀ w,(Op.eqFields d xs.toArray ys.toArray fs).run P w=.ok b w
section
variable {P:Program}{d:Nat}{xs ys:List Value}{rest:List Field}{r:Bool}{nm tg pk:String}{ft off bo:Nat}{em:Bool}{bytes sz:Nat}{zero:Value}
theorem feq_nil:FEq P d xs ys [] true:=fun w=>by simp [Op.eqFields]
theorem feq_one {u v:Value}{q:Bool} [Lay P ft false sz bytes zero] (hn:(nm == "_")=false) (hx:xs[off]? = some u) (hy:ys[off]? = some v) (he:EqIs P d ft u v q) (h:FEq P d xs ys rest r):FEq P d xs ys (⟨nm,ft,off,em,tg,pk,bo⟩::rest) (q && r):=by
 intro w
 have hn':¬ nm = "_" := by simpa using hn
 have hl:=run_isAgg' (P:=P) (t:=ft) (agg:=false) (size:=sz) (bytes:=bytes) (zero:=zero)
 have h1:(part ft xs.toArray off).run P w=.ok u w:=by simp [part,hl,hx]
 have h2:(part ft ys.toArray off).run P w=.ok v w:=by simp [part,hl,hy]
 have h3:=he w
 have h4:=h w
 cases q<;>simp [Op.eqFields,hn',h1,h2,h3,h4]
theorem feq_int {k k':IntKind}{a b:Int} [Ty P ft (.int k')] [Lay P ft false sz bytes zero] (hn:(nm == "_")=false) (hx:xs[off]? = some (.int k a)) (hy:ys[off]? = some (.int k b)) (h:FEq P (d+1) xs ys rest r):FEq P (d+1) xs ys (⟨nm,ft,off,em,tg,pk,bo⟩::rest) (dec (a=b) && r) :=
 feq_one (bytes:=bytes) (zero:=zero) (sz:=sz) hn hx hy (by have:=eqIs_int (P:=P) (t:=ft) (k':=k') d k a b;rwa [← dec_eq] at this) h
theorem feq_str {a b:ByteArray} [Ty P ft .string] [Lay P ft false sz bytes zero] (hn:(nm == "_")=false) (hx:xs[off]? = some (.string a)) (hy:ys[off]? = some (.string b)) (h:FEq P (d+1) xs ys rest r):FEq P (d+1) xs ys (⟨nm,ft,off,em,tg,pk,bo⟩::rest) (dec (a=b) && r) :=
 feq_one (bytes:=bytes) (zero:=zero) (sz:=sz) hn hx hy (by have:=eqIs_string (P:=P) (t:=ft) d a b;rwa [← dec_eq] at this) h
theorem feq_agg {us vs:List Value}{fl:List Field}{q:Bool} [Lay P ft true sz bytes zero] [hE:EqS P ft fl] (hn:(nm == "_")=false) (hx:(xs.drop off).take sz=us) (hy:(ys.drop off).take sz=vs) (he:FEq P d us vs fl q) (h:FEq P (d+1) xs ys rest r):FEq P (d+1) xs ys (⟨nm,ft,off,em,tg,pk,bo⟩::rest) (q && r):=by
 intro w
 subst hx;subst hy
 have hn':¬ nm = "_" := by simpa using hn
 have hl:=run_isAgg' (P:=P) (t:=ft) (agg:=true) (size:=sz) (bytes:=bytes) (zero:=zero)
 have hz:=run_sizeOf (P:=P) (t:=ft) (agg:=true) (size:=sz) (bytes:=bytes) (zero:=zero)
 have e:∀ zs:List Value,zs.toArray.extract off (off+sz)=((zs.drop off).take sz).toArray:=fun zs=>by
  apply Array.ext'
  simp
 have h1:(part ft xs.toArray off).run P w=.ok (.agg ((xs.drop off).take sz).toArray) w:=by simp only [part,Sem.run_bind,hl,Result.andThen_ok,if_true,hz,e,Sem.run_pure]
 have h2:(part ft ys.toArray off).run P w=.ok (.agg ((ys.drop off).take sz).toArray) w:=by simp only [part,Sem.run_bind,hl,Result.andThen_ok,if_true,hz,e,Sem.run_pure]
 have h3:(Op.equalIn (d+1) ft (.agg ((xs.drop off).take sz).toArray) (.agg ((ys.drop off).take sz).toArray)).run P w=.ok q w:=by
  rw [run_equalIn_agg (P:=P) w d ft _ _ hE.ht hE.hp,hE.hf];exact he w
 have h4:=h w
 simp only [Op.eqFields,hn',ne_eq,not_false_iff,if_true,Sem.run_bind,h1,h2,h3,Result.andThen_ok]
 cases q<;>simp [h4]
end
section
variable {P:Program}{ty:TypeId}{σ:Env}{t:TypeId}
theorem p_neStruct {x y:Operand}{xs ys:List Value}{fl:List Field}{b:Bool}{t':TypeId}[hE:EqS P t fl] (hx:Env.ev σ x=some (.agg xs.toArray)) (hy:Env.ev σ y=some (.agg ys.toArray)) (he:FEq P 9999 xs ys fl b):PureOp P (.binOp .neq t x y t') ty σ (.bool (!b)) :=
 p_neV hx hy fun w=>by
  rw [Sem.run_bind,run_eqGuard_agg (P:=P) w .neq t x y _ _ hE.hm,Result.andThen_ok,run_neq_struct (P:=P) w,run_equalIn_agg (P:=P) w 9999 t _ _ hE.ht hE.hp,hE.hf,he w,Result.andThen_ok]
end
section
variable {P:Program}{fn:Func}{n:Nat}{B:Base}{Φ:Value→GH→OH→Prop}{k:List It}{σ:Env}{G:GH}{μ:OH}{t:TypeId}{bytes:Nat}{zero:Value}
def OutsM (P:Program) (fn:Func) (n:Nat) (σ:Env) (G:GH) (μ:OH) (v:Value):Prop := ∀ w,Sees G μ w→Outs P fn n σ w v
theorem v_retM [hB:FnB P fn B []] {v:Value}(ν:OH) (ho:OutsM P fn n σ G μ v) (hs:List.Sublist ν μ) (h:Φ v G ν):Vc P fn n B Φ (.code .ret::k) σ G μ :=
 v_retD (Ds:=[]) ν (fun ds a ha w hw=>ho w hw ds a ha) (List.Perm.refl _) hs h
theorem outsM_cell {a b:Nat}{sz:Nat}{vs:List Value}{e:TypeId} [Lay P t true sz bytes zero] (hr:fn.results = #[.cell a t]) (ha:Env.get σ a=some (.pointer (some ⟨b,0,none⟩))) (hb:Has μ b vs e) (hl:vs.length=sz):OutsM P fn n σ G μ (.agg vs.toArray):=by
 intro w hw ds a' ha'
 subst hl
 have h1:=ha'.get _ _ ha
 have h3:(loadCells ⟨b,0,none⟩ vs.length).run P w=.ok vs.toArray w:=run_loadCells_list w _ vs (fun j v hv=>CellsAt.own hb j v hv w hw)
 simp only [Array.getD_eq_getD_getElem?] at h1
 simp [results,hr,h1,asAddr,loadVar,run_isAgg' (P:=P) (t:=t) (agg:=true) (size:=vs.length) (bytes:=bytes) (zero:=zero),run_sizeOf (P:=P) (t:=t) (agg:=true) (size:=vs.length) (bytes:=bytes) (zero:=zero),h3]
theorem outsM_cell_tmp {a b u:Nat}{sz:Nat}{vs:List Value}{e:TypeId}{x:Value} [Lay P t true sz bytes zero] (hr:fn.results = #[.cell a t,.tmp u]) (ha:Env.get σ a=some (.pointer (some ⟨b,0,none⟩))) (hu:Env.get σ u=some x) (hb:Has μ b vs e) (hl:vs.length=sz):OutsM P fn n σ G μ (.tuple [.agg vs.toArray,x].toArray):=by
 intro w hw ds a' ha'
 subst hl
 have h1:=ha'.get _ _ ha
 have h2:=ha'.get _ _ hu
 have h3:(loadCells ⟨b,0,none⟩ vs.length).run P w=.ok vs.toArray w:=run_loadCells_list w _ vs (fun j v hv=>CellsAt.own hb j v hv w hw)
 simp only [Array.getD_eq_getD_getElem?] at h1 h2
 simp [results,hr,h1,h2,asAddr,loadVar,run_isAgg' (P:=P) (t:=t) (agg:=true) (size:=vs.length) (bytes:=bytes) (zero:=zero),run_sizeOf (P:=P) (t:=t) (agg:=true) (size:=vs.length) (bytes:=bytes) (zero:=zero),h3]
end
end Go.Vx
/-
  VX, FROM A LAW's CONTRACT TO THE ROW's STEP.
-/
namespace Go.Vx
open Go Go.ChangeShapes Go.WideShapes Go.ChangeAt Go.RowKit Go.Deep
attribute [local semireducible] Vc Con
def ghost (W:World):GH:=fun b=>W.heap[b]?
theorem mem_ghost (W:World):Mem (ghost W) [] W:=⟨fun _ _ h=>h,fun _ _ h=>(by cases h),List.nodup_nil,fun _ _ h=>(by cases h)⟩
theorem Step.below {G G':GH}{μ':OH}{W W':World}(h:Step G [] W G' μ' W'):Below W.heap.size W W' :=
 ⟨h.os,h.tape,h.output,h.size,fun k hk=>h.same k hk (fun o ho=>by cases ho)⟩
def LawCon (P:Program) (f:FuncId) (args:Array Value) (W:World):Prop:=Con P f args (ghost W) [] (fun v _ _=>v=.bool true)
theorem LawCon.calls {P:Program}{f:FuncId}{args:Array Value}{W:World}(h:LawCon P f args W):Calls P f args W fun e W'=>e=.returned (.bool true)∧Below W.heap.size W W' :=
 Calls.mono (h W (mem_ghost W)) fun _ _ ⟨_,he,_,_,hs,hv⟩=>⟨by rw [he,hv],hs.below⟩
theorem trodAll_below {H:Type}{enc:TypeId×Value→H}{P:Program}(hl:laidOutB P=true):∀ {ts:List TypeId}{vs:List Value}{ds:List (DataW H)}{ps:List MemPlace}{W W':World},
 (ts.all fun t=>P.readableRec t && decide (t<P.types.size))=true→DataW.TrodAll enc P W 0 (fun _=>true) true ts vs ds ps→Below W.heap.size W W' →
 DataW.TrodAll enc P W' 0 (fun b=>decide (b<W.heap.size)) true ts vs ds ps:=by
 intro ts
 induction ts with
 | nil =>
  intro vs ds ps W W' _ h _
  obtain ⟨rfl,rfl,rfl⟩:=trodAll_nil h
  exact trodAll_mk0
 | cons t ts ih =>
  intro vs ds ps W W' ht h hb
  simp only [List.all_cons,Bool.and_eq_true,decide_eq_true_eq] at ht
  cases vs with
  | nil=>cases ds<;>simp [DataW.TrodAll] at h
  | cons v vs =>
   obtain ⟨v',vs',d,ds',p,q,hv,rfl,rfl,h0,hr⟩:=trodAll_cons h
   cases hv
   have hlt:∀ x∈p,x.block<W.heap.size:=by obtain ⟨m,hm⟩:=h0;exact DataW.trod_lt m _ _ _ hm
   exact trodAll_cons_mk (Below.trod hl ht.1.1 ht.1.2 h0 hb hlt) (ih (by simpa using ht.2) hr hb)
def LawSpec (s:ChangeSpec) (n:Nat):Prop:=s.vars=[]∧∀ (H:Type) (ds:List (DataW H)),ds.length=n→s.fn H ds={ results:=[.lit (.bool true)],args:=ds }
theorem trodAll_len {H:Type}{enc:TypeId×Value→H}{P:Program}{W:World}{sp:Nat→Bool}{hd:Bool}{b:Nat}:∀ {ts:List TypeId}{vs:List Value}{ds:List (DataW H)}{ps:List MemPlace},DataW.TrodAll enc P W b sp hd ts vs ds ps→ds.length=ts.length
 | [],_,_,_,h=>by obtain ⟨_,rfl,_⟩:=trodAll_nil h;rfl
 | t::ts,vs,ds,ps,h=>by
  cases vs with
  | nil=>cases ds<;>simp [DataW.TrodAll] at h
  | cons v vs =>
   obtain ⟨v',vs',d,ds',p,q,hv,rfl,rfl,h0,hr⟩:=trodAll_cons h
   cases hv
   simp [trodAll_len hr]
theorem law_post {H:Type}{enc:TypeId×Value→H}{P:Program}{f:FuncId}{fn:Func}{s:ChangeSpec}{T:TypeId}{n:Nat}(hl:laidOutB P=true) (hT:P.underlying T=some .bool) (hr:fn.resultTypes = #[T]) (hs:LawSpec s n) (hn:fn.params.size=n)
 (hts:(fn.params.toList.all fun t=>P.readableRec t && decide (t<P.types.size))=true) {W:World} {args:Array Value} {ds gs:List (DataW H)} {before:List MemPlace} (hW:DataW.Whole enc P fn.params.toList s.vars false W args.toList ds gs before) (hc:LawCon P f args W) :
 Calls P f args W fun e W'=>∃ v,e=.returned v∧ChangeSpec.post enc P fn s false true false false W args v W':=by
 refine hc.calls.mono fun e W' ⟨he,hb⟩=>⟨_,he,?_⟩
 have hW':=hW
 obtain ⟨p,q,hA,hV,rfl,_,_⟩:=hW
 obtain ⟨h1,h2⟩:=hs
 rw [h1] at hV
 obtain ⟨rfl,rfl⟩:=trodVars_none hV
 have hlen:ds.length=n:=by rw [trodAll_len hA];simpa using hn
 have hfn:=h2 H ds hlen
 refine ⟨ds,[],p++[],[],p,[],hW',?_,?_,?_,hb.frame _,fun h=>by cases h⟩
 ·rw [List.append_nil,hfn,hr]
  exact trodAll_mk1 (shut_bool hT _)
 ·rw [List.append_nil,hfn]
  exact trodAll_below hl hts hA hb
 ·rw [List.append_nil,hfn,h1]
  rfl
section
variable {H:Type}{enc:TypeId×Value→H}{P:Program}{W:World}{base:Nat}{t:TypeId}{v:Value}{d:DataW H}{p:List MemPlace}
def Elem {α:Type}(enc:TypeId×Value→H) (P:Program) (W:World) (t:TypeId) (R:α→List Value→Prop):Prop :=
 ∀ fuel cs x,DataW.trod enc P W 0 (fun _=>true) true fuel t cs=some x→∃ y,R y cs
def StrR (x:ByteArray) (cs:List Value):Prop:=cs=[.string x]∧x.size≤maxLen
theorem el_int {k:IntKind}(hT:P.underlying t=some (.int k)):Elem enc P W t (IntR k):=fun _ _ _ h=>by
 obtain ⟨n,h1,_,h2⟩:=DataW.trod_int hT h
 exact ⟨n,h1,h2⟩
theorem el_string (hT:P.underlying t=some .string):Elem enc P W t StrR:=fun _ _ _ h=>by
 obtain ⟨n,h1,_,h2⟩:=DataW.trod_string hT h
 exact ⟨n,h1,h2⟩
def SlR {α:Type}(G:GH) (sz:Nat) (R:α→List Value→Prop) (l:List α) (cs:List Value):Prop := ∃ v,cs=[v]∧Sl G sz R v l
theorem ghost_cell {a:Addr}:GH.cell? (ghost W) a=W.cell? a:=rfl
theorem el_slice {α:Type}{e:TypeId}{R:α→List Value→Prop}{sz:Nat}(hT:P.underlying t=some (.slice e)) (hsz:P.cellsOf e=sz) (hR:Elem enc P W e R):Elem enc P W t (SlR (ghost W) sz R):=fun fuel cs x h=>by
 subst hsz
 rcases open_slice hT h with ⟨rfl,_⟩|⟨a,len,cap,m,n,D,Pl,rfl,hb,hl,hm,hmm,hx,hi⟩
 ·exact ⟨[],_,rfl,Sl.nil⟩
 ·simp only [if_true] at hmm
  subst hmm
  have key:∀ i,i<m→∃ y cs',cs'.length=P.cellsOf e∧R y cs'∧CellsG (ghost W) (a.add (i*P.cellsOf e)) cs':=by
   intro i hlt
   obtain ⟨cs',hc,ht⟩:=hi i hlt
   obtain ⟨y,hy⟩:=hR _ _ _ ht
   obtain ⟨_,h1,h2⟩:=World.cells?_some hc
   refine ⟨y,cs',h1,hy,fun j u hu=>?_⟩
   rw [ghost_cell,h2 j (by have:=(List.getElem?_eq_some_iff.1 hu).1;omega)]
   exact hu
  have build:∀ k,k≤m→∃ l:List α,l.length=k∧∀ i x,l[i]? = some x→∃ cs,cs.length=P.cellsOf e∧R x cs∧CellsG (ghost W) (a.add (i*P.cellsOf e)) cs:=by
   intro k
   induction k with
   | zero=>intro _;exact ⟨[],rfl,fun i x h=>by simp at h⟩
   | succ k ih =>
    intro hk
    obtain ⟨l,h1,h2⟩:=ih (by omega)
    obtain ⟨y,cs',h3,h4,h5⟩:=key k (by omega)
    refine ⟨l++[y],by simp [h1],fun i x hx=>?_⟩
    by_cases hik:i<l.length
    ·rw [List.getElem?_append_left hik] at hx;exact h2 i x hx
    ·rw [List.getElem?_append_right (by omega)] at hx
     have:i=l.length:=by
      have:=(List.getElem?_eq_some_iff.1 hx).1
      simp at this;omega
     subst this
     simp only [Nat.sub_self,List.getElem?_cons_zero,Option.some.injEq] at hx
     subst hx
     rw [h1]
     exact ⟨cs',h3,h4,h5⟩
  obtain ⟨l,h1,h2⟩:=build len (by omega)
  exact ⟨l,_,rfl,⟨some a,m,by rw [h1],by omega,hm,fun _=>⟨a,rfl,h2⟩⟩⟩
theorem arg_cell {α:Type}{R:α→List Value→Prop}(hE:Elem enc P W t R) (h:DataW.Trod enc P W 0 (fun _=>true) true t v d p):∃ y,R y v.cells.toList:=by
 obtain ⟨fuel,hf⟩:=h
 exact hE _ _ _ hf
theorem arg_slice {α:Type}{e:TypeId}{R:α→List Value→Prop}{sz:Nat}(hT:P.underlying t=some (.slice e)) (hsz:P.cellsOf e=sz) (hR:Elem enc P W e R) (hv:Value.okWide P W .any base t v) (h:DataW.Trod enc P W 0 (fun _=>true) true t v d p):∃ l,Sl (ghost W) sz R v l:=by
 obtain ⟨a,len,cap,rfl⟩:=okWide_slice hT hv
 obtain ⟨l,u,hu,hl⟩:=arg_cell (el_slice hT hsz hR) h
 simp only [Value.cells] at hu
 simp only [List.cons.injEq,and_true] at hu
 subst hu
 exact ⟨l,hl⟩
theorem el_fld {α:Type}{R:α→List Value→Prop}{i off sz:Nat}{ft:TypeId}[hF:Fld P t i off ft] (hsz:P.cellsOf ft=sz) (hR:Elem enc P W ft R) {fuel:Nat}{cs:List Value}{x:DataW H×List MemPlace}(h:DataW.trod enc P W 0 (fun _=>true) true fuel t cs=some x):∃ y,R y ((cs.drop off).take sz):=by
 obtain ⟨fs,f,inf,h1,h2,h3,h4,_⟩:=hF.ex
 subst h3;subst h4;subst hsz
 obtain ⟨xs,n,_,rfl,hl,hlen,hf⟩:=DataW.trod_struct h1 h
 have h5:=hf i f (by simpa using h2)
 have hi:i<xs.length:=by
  rw [hlen]
  have:=(Array.getElem?_eq_some_iff.1 h2).1
  simpa using this
 rw [List.getElem?_eq_getElem hi] at h5
 exact hR _ _ _ h5
theorem el_flen {fs:Array Field}{n:Nat}(hT:P.underlying t=some (.struct fs)) (hn:P.cellsOf t=n) {fuel:Nat}{cs:List Value}{x:DataW H×List MemPlace}(h:DataW.trod enc P W 0 (fun _=>true) true fuel t cs=some x):cs.length=n:=by
 obtain ⟨xs,m,_,rfl,hl,hlen,hf⟩:=DataW.trod_struct hT h
 rw [hl,hn]
end
end Go.Vx
/-
  VX, SCOPES: a scope that no goto leaves, and a label.
-/
namespace Go.Vx
open Go
attribute [local semireducible] Vc
section
variable {P:Program}{fn:Func}{n:Nat}{B:Base}{Φ:Value→GH→OH→Prop}{k:List It}{σ:Env}{G:GH}{μ:OH}
end
end Go.Vx
/-
  VX, A REGION THAT DRAWS ITS ORDER, TWO OPERATIONS READY: either may come first.
-/
namespace Go.Vx
open Go
attribute [local semireducible] Vc DVc Con PureOp ReadOp MoveOp
def DX (P:Program) (fn:Func) (n:Nat) (B:Base) (Φ:Value→GH→OH→Prop) (all:Array Oper) (G0:GH) (ν:OH) (m:Nat) (listed:Array Bool) (k:List It) (σ:Env) (G:GH) (μ:OH) (i:Nat):Prop :=
 Region.noSelect all=true→GH.le G0 G→(∀ e∈ν,e∈μ)→∀ w,Step B.G B.μ B.w G μ w→∀ a,Holds B.rk.ds n σ a→wpOp P all (Kont P B.rk n (Fin B Φ) k) i (fun a' w'=>Sees G0 ν w'∧wpAnyH P .any all (Kont P B.rk n (Fin B Φ) k) (Sees G0 ν) m (listed.setIfInBounds i true) a' w') a w
section
variable {P:Program}{fn:Func}{n:Nat}{B:Base}{Φ:Value→GH→OH→Prop}{k:List It}{σ:Env}{G G0:GH}{μ:OH}{all:Array Oper}{m:Nat}{listed:Array Bool}{d:Nat}{op:Op}{ty:TypeId}{pos:String}{af:Array Edge}{v:Value}
theorem d_fork {ν:OH}(i j:Nat) (hr:Region.ready .any all listed=[i,j]) (h1:DX P fn n B Φ all G0 ν m listed k σ G μ i) (h2:DX P fn n B Φ all G0 ν m listed k σ G μ j):DVc P fn n B Φ all G0 ν (m+1) listed k σ G μ:=by
 intro hsel hle hν w hw a ha
 refine wpAnyH_all hr (by simp) fun x hx=>?_
 simp only [List.mem_cons,List.mem_singleton,List.not_mem_nil,or_false] at hx
 obtain rfl|rfl:=hx
 ·exact h1 hsel hle hν w hw a ha
 ·exact h2 hsel hle hν w hw a ha
theorem x_exec {ν:OH}(i:Nat) {Ψ:Value→GH→OH→Prop}(hi:all[i]? = some ⟨some d,op,ty,pos,af,none⟩) (hop:MoveOp P op ty σ G μ Ψ) (hd:Nat.blt d n=true)
 (h:∀ v G' μ',Ψ v G' μ'→(∀ e∈ν,e∈μ')∧DVc P fn n B Φ all G0 ν m (listed.setIfInBounds i true) k ((d,v)::σ) G' μ'):DX P fn n B Φ all G0 ν m listed k σ G μ i:=by
 intro hsel hle hν w hw a ha
 have hd':d<n:=by simpa [Nat.blt_eq] using hd
 unfold wpOp
 simp only [hi,Region.wanted,if_true]
 refine .inl (hop _ pos af none a.eval ha.agree w hw.mem a _ _ fun v w' G' μ' hs hΨ=>?_)
 obtain ⟨hν',hd⟩:=h v G' μ' hΨ
 have hle':=GH.le_trans hle hs.le
 exact ⟨hs.mem.seesOf hle' hν',hd hsel hle' hν' w' (hw.trans hs) _ (ha.put hd' v)⟩
end
end Go.Vx
/-
  A region in which three operations may come up at once.
-/
namespace Go.Proofs.YtnncjoooaknlmaaGreatDoor
open Go.Vx Go.ChangeShapes Go.WideShapes Go.ChangeAt Go.RowKit
section
attribute [local semireducible] Vc DVc Con PureOp ReadOp MoveOp
end
end Go.Proofs.YtnncjoooaknlmaaGreatDoor
/-
  VX, A CUT: what is left is shown once, whichever way led there.
-/
namespace Go.Vx
open Go
attribute [local semireducible] Vc DVc
section
variable {P:Program}{fn:Func}{n:Nat}{B:Base}{Φ:Value→GH→OH→Prop}{k:List It}{σ σ':Env}{G G0:GH}{μ:OH}
end
section
variable {P:Program}{fn:Func}{n:Nat}{B:Base}{Φ:Value→GH→OH→Prop}{k:List It}{σ:Env}{G G0:GH}{μ:OH}{all:Array Oper}{m:Nat}{listed:Array Bool}{d:Nat}{op:Op}{ty:TypeId}{pos:String}{af:Array Edge}{t:TypeId}{bytes:Nat}{zero:Value}{ν:OH}
theorem x_buildSlice (i:Nat) {e:TypeId}{agg:Bool}{sz len:Nat}{ps:List (Nat×Operand)}{vs zs cs:List Value}(hi:all[i]? = some ⟨some d,.buildSlice t len ps.toArray,ty,pos,af,none⟩) (hT:Ty P t (.slice e)) (hL:Lay P e agg sz bytes zero)
 (hz:zero.cells=zs.toArray) (hl:ps.map (·.1)=List.range len) (hv:Env.evs σ (ps.map (·.2))=some vs) (hp:packL sz vs=some cs) (hb:Nat.ble (len*sz) 16777216=true) (hd:Nat.blt d n=true) (hν:∀ e∈ν,e∈μ)
 (h:∀ b,DVc P fn n B Φ all G0 ν m (listed.setIfInBounds i true) k ((d,.slice (some ⟨b,0,none⟩) len len)::σ) G ((b,.cells cs.toArray e (0,0))::μ)):DX P fn n B Φ all G0 ν m listed k σ G μ i :=
 x_exec i hi (m_buildSlice hz hl hv hp hb) hd fun _ _ _ ⟨b,h1,h2,h3⟩=>by rw [h1,h2,h3];exact ⟨fun e he=>List.mem_cons_of_mem _ (hν e he),h b⟩
theorem x_append (i:Nat) {e:TypeId}{agg:Bool}{sz:Nat}{s x:Operand}{v u:Value}{q q':Nat}{xs us:List Value}{ν1 μr:OH}(hi:all[i]? = some ⟨some d,.call { callee:=.builtin .append,args:=#[s,x],argTypes:=#[t,t] },ty,pos,af,none⟩) (hT:Ty P t (.slice e)) (hL:Lay P e agg sz bytes zero)
 (hzs:zero.cells.size=sz) (hsz:0<sz) (hs:Env.ev σ s=some v) (hx:Env.ev σ x=some u) (hg:Grow e sz v q xs ν1) (hp:μ.Perm (ν1++μr)) (hsrc:Src G μ u q' sz us) (h1:us.all Value.oneCell'=true)
 (hb:(q+q')*bytes≤140737488355328) (hb':q+q'≤maxLen) (hd:Nat.blt d n=true) (hν:∀ e∈ν,e∈μr)
 (h:∀ v' ν',Grow e sz v' (q+q') (xs++us) ν'→DVc P fn n B Φ all G0 ν m (listed.setIfInBounds i true) k ((d,v')::σ) G (ν'++μr)):DX P fn n B Φ all G0 ν m listed k σ G μ i :=
 x_exec i hi (m_append hzs hsz hs hx hg hp hsrc h1 hb hb') hd fun v' _ _ ⟨ν',h1,h2,h3⟩=>by rw [h2,h3];exact ⟨fun e he=>List.mem_append_right _ (hν e he),h v' ν' h1⟩
theorem x_call (i:Nat) {f:FuncId} [Callable P f] {args:List Operand}{ts:Array TypeId}{vs:List Value}{μ1 μ2:OH}{Ψ:Value→GH→OH→Prop}(hi:all[i]? = some ⟨some d,.call { callee:=.value (.func f),args:=args.toArray,argTypes:=ts },ty,pos,af,none⟩)
 (ha:Env.evs σ args=some vs) (hs:Con P f vs.toArray G μ1 Ψ) (hp:μ.Perm (μ1++μ2)) (hd:Nat.blt d n=true) (hν':∀ e∈ν,e∈μ2) (h:∀ v G' μ1',GH.le G G'→Ψ v G' μ1'→DVc P fn n B Φ all G0 ν m (listed.setIfInBounds i true) k ((d,v)::σ) G' (μ1'++μ2)):DX P fn n B Φ all G0 ν m listed k σ G μ i :=
 x_exec i hi (m_callF ha hs hp) hd (fun _ _ _ ⟨_,hle,h1,h2⟩=>by rw [h2];exact ⟨fun e he=>List.mem_append_right _ (hν' e he),h _ _ _ hle h1⟩)
end
end Go.Vx
/-
  VX, MAPS: a block of ours that is a map, as a list of keys and values; reads, writes, deletions; loops over it.
-/
namespace Go.Vx
open Go
open Go.ChangeMaps (setBlock)
attribute [local semireducible] Vc DVc Con PureOp ReadOp MoveOp
def mEnt {α:Type}(mk:α→Value) (x:α×Value×Nat):MapEntry:=⟨mk x.1,x.2.1,x.2.2⟩
theorem findNow_no {α:Type} [DecidableEq α] {mk:α→Value}{d:TypeDesc}(hs:∀ a b,Instr.sameNow d (mk a) (mk b)=some (decide (a=b))) {k:α}:∀ {L:List (α×Value×Nat)}{i:Nat},k∉L.map (·.1)→Instr.findNow d (mk k) (L.map (mEnt mk)) i=some none
 | [],i,_=>rfl
 | x::L,i,h=>by
  rw [List.map_cons,List.mem_cons,not_or] at h
  simp only [List.map_cons,Instr.findNow,mEnt,hs,decide_eq_false h.1]
  exact findNow_no hs h.2
theorem findNow_at {α:Type} [DecidableEq α] {mk:α→Value}{d:TypeDesc}(hs:∀ a b,Instr.sameNow d (mk a) (mk b)=some (decide (a=b))) {k:α}{v:Value}{b:Nat}{L2:List (α×Value×Nat)}:∀ {L1:List (α×Value×Nat)}{i:Nat},k∉L1.map (·.1)→Instr.findNow d (mk k) ((L1++(k,v,b)::L2).map (mEnt mk)) i=some (some (i+L1.length,v))
 | [],i,_=>by simp only [List.nil_append,List.map_cons,Instr.findNow,mEnt,hs,decide_true,List.length_nil,Nat.add_zero]
 | x::L,i,h=>by
  rw [List.map_cons,List.mem_cons,not_or] at h
  simp only [List.cons_append,List.map_cons,Instr.findNow,mEnt,hs,decide_eq_false h.1]
  have:=findNow_at (L2:=L2) hs (v:=v) (b:=b) (i:=i+1) h.2
  rw [this,List.length_cons]
  congr 3
  omega
structure KeyD (P:Program) (k:TypeId) {α:Type} [DecidableEq α] (mk:α→Value) (d:TypeDesc):Prop where
 und:P.underlying k=some d
 no:∀ (w:World) (a:α) (L:List (α×Value×Nat)),a∉L.map (·.1)→(Instr.findKey k (mk a) (L.map (mEnt mk))).run P w=.ok none w
 at':∀ (w:World) (a:α) (v:Value) (b:Nat) (L1 L2:List (α×Value×Nat)),a∉L1.map (·.1)→(Instr.findKey k (mk a) ((L1++(a,v,b)::L2).map (mEnt mk))).run P w=.ok (some (0+L1.length,v)) w
 inj:∀ a b,mk a=mk b→a=b
 check:∀ (w:World) e a,(Instr.checkKey e 10000 k (mk a)).run P w=.ok () w
 bits:∀ a,Instr.sameBits 10000 (mk a) (mk a)=true
class KeyT (P:Program) (k:TypeId) {α:Type} [DecidableEq α] (mk:α→Value):Prop where
 h:∃ d,KeyD P k mk d
abbrev keyI (a:Int):Value:=.int .i64 a
theorem KeyD.ofNow {P:Program}{k:TypeId}{α:Type} [DecidableEq α] {mk:α→Value}{d:TypeDesc}(hu:P.underlying k=some d) (hs:∀ a b,Instr.sameNow d (mk a) (mk b)=some (decide (a=b))) (hc:∀ (w:World) e a,(Instr.checkKey e 10000 k (mk a)).run P w=.ok () w) (hb:∀ a,Instr.sameBits 10000 (mk a) (mk a)=true):KeyD P k mk d :=
 ⟨hu,fun w a L h=>MapKept.run_findKey hu (findNow_no hs h),fun w a v b L1 L2 h=>MapKept.run_findKey hu (findNow_at hs h),fun a b h=>by
  have h1:=hs a b
  have h2:=hs b b
  rw [h] at h1
  rw [h1] at h2
  simpa using h2,hc,hb⟩
theorem KeyT.int {P:Program}{k:TypeId}[t:Ty P k (.int .i64)]:KeyT P k keyI :=
 ⟨_,KeyD.ofNow t.h (fun a b=>by simp only [Instr.sameNow,keyI,if_true];congr 1) (fun w e a=>MapKept.run_checkKey t.h (show MapKept.IsKey (.int .i64) (.int .i64 a) from rfl) e 9999) (fun a=>by simp [Instr.sameBits,keyI])⟩
section
variable {α:Type} [DecidableEq α] {mk:α→Value}{P:Program}
def kv (x:α×Value×Nat):α×Value:=(x.1,x.2.1)
structure MOk (L:List (α×Value×Nat)) (clock:Nat):Prop where
 keys:(L.map (·.1)).Nodup
 rise:L.Pairwise (fun x y=>x.2.2<y.2.2)
 below:∀ x∈L,x.2.2<clock
def MapB (mk:α→Value) (l:List (α×Value)) (o:Obj):Prop := ∃ L clock,o=.map (L.map (mEnt mk)).toArray clock∧L.map kv=l∧MOk L clock
def IterB (mk:α→Value) (m:Nat) (l:List (α×Value)) (left:List α) (oM oI:Obj):Prop := ∃ L clock since seen stepped,oM=.map (L.map (mEnt mk)).toArray clock∧L.map kv=l∧MOk L clock ∧
 (∀ x∈L,x.2.2<since)∧since≤stepped∧since≤clock∧oI=.mapIter (some m) since seen stepped∧left=(L.filter fun x => !seen.contains x.2.2).map (·.1)
theorem MapB.nodup {l:List (α×Value)}{o:Obj}(h:MapB mk l o):(l.map (·.1)).Nodup:=by
 obtain ⟨L,c,-,rfl,h3⟩:=h
 simpa [List.map_map,Function.comp_def,kv] using h3.keys
theorem MapB.nil:MapB mk [] (.map #[] 0):=⟨[],0,rfl,rfl,⟨by simp,by simp,by simp⟩⟩
theorem kv_keys (L:List (α×Value×Nat)):(L.map kv).map (·.1)=L.map (·.1):=by simp [kv,Function.comp_def]
theorem Step.setBlock {G:GH}{μ μ':OH}{w:World}{b:Nat}{o:Obj}(h:Mem G μ w) (hu:Upd b o μ μ'):Step G μ w G μ' (Go.ChangeMaps.setBlock w b o):=by
 obtain ⟨o0,h0⟩:=hu.was
 have hlt:=lt_of_heap (h.own _ _ h0)
 refine Step.upd h hu rfl rfl rfl (by simp [Go.ChangeMaps.setBlock]) ?_ fun c hc=>?_
 ·simp [Go.ChangeMaps.setBlock,hlt]
 ·simp [Go.ChangeMaps.setBlock,Array.getElem?_setIfInBounds,Ne.symm hc]
theorem Step.setBlockP {G:GH}{μ r:OH}{w:World}{b:Nat}{o o':Obj}(h:Mem G μ w) (hp:μ.Perm ((b,o)::r)):Step G μ w G ((b,o')::r) (Go.ChangeMaps.setBlock w b o') :=
 (Step.setBlock (h.perm hp) (Upd.here o r)).permL hp.symm
end
section
variable {α:Type} [DecidableEq α] {mk:α→Value}{P:Program}{ty:TypeId}{σ:Env}{G:GH}{μ r:OH}{t k e:TypeId}{bytes sz:Nat}{agg:Bool}{zero:Value}
theorem m_makeMap:MoveOp P (.makeMap t none) ty σ G μ (fun v G' μ'=>∃ b,v=.map (some b)∧G'=G∧μ'=(b,.map #[] 0)::μ):=by
 intro dst pos af g ρ hρ w hw a K Q hK
 have hr:(execOp ρ ⟨dst,.makeMap t none,ty,pos,af,g⟩).run P w=.ok (.value (.map (some w.heap.size))) (w.alloc (.map #[] 0)):=by
  simp [execOp,Instr.makeMap]
 rw [hr]
 exact hK _ _ _ _ (Step.alloc hw _) ⟨_,rfl,rfl,rfl⟩
theorem m_rangeM {x:Operand}{m:Nat}{oM:Obj}{l:List (α×Value)}[tm:Ty P t (.map k e)] (hx:Env.ev σ x=some (.map (some m))) (hb:(m,oM)∈μ) (hM:MapB mk l oM) :
 MoveOp P (.range t x) ty σ G μ (fun v G' μ'=>∃ b oI,IterB mk m l (l.map (·.1)) oM oI∧v=.pointer (some ⟨b,0,none⟩)∧G'=G∧μ'=(b,oI)::μ):=by
 intro dst pos af g ρ hρ w hw A K Q hK
 obtain ⟨L,c,rfl,rfl,hok⟩:=hM
 have hb':=hw.own _ _ hb
 have ht:P.underlying t=some (.map k e):=Ty.h
 have hr:(execOp ρ ⟨dst,.range t x,ty,pos,af,g⟩).run P w=.ok (.value (.pointer (some ⟨w.heap.size,0,none⟩))) (w.alloc (.mapIter (some m) c #[] c)):=by
  simp [execOp,hρ _ _ hx,Instr.range,run_underlying ht,MapKept.run_getObj_map hb',Result.andThen]
 rw [hr]
 refine hK _ _ _ _ (Step.alloc hw _) ⟨_,_,⟨L,c,c,#[],c,rfl,rfl,hok,hok.below,Nat.le_refl _,Nat.le_refl _,rfl,?_⟩,rfl,rfl,rfl⟩
 rw [List.filter_eq_self.2 (by simp),kv_keys]
def EntB (mk:α→Value) (m:Nat) (a:α) (u:Value) (oM oI:Obj):Prop := ∃ (L:List (α×Value×Nat)) (clock since:Nat) (seen:Array Nat) (b:Nat),oM=.map (L.map (mEnt mk)).toArray clock∧MOk L clock∧oI=.mapIter (some m) since (seen.push b) clock∧(a,u,b)∈L
theorem r_entry {x:Operand}{m it:Nat}{oM oI:Obj}{a:α}{u:Value}(hx:Env.ev σ x=some (.pointer (some ⟨it,0,none⟩))) (hi:(it,oI)∈μ) (hb:(m,oM)∈μ) (hE:EntB mk m a u oM oI):ReadOp P (.entry x) ty σ G μ (.tuple #[mk a,u]):=by
 intro dst pos af g ρ hρ w hw
 have hbI:=hw.own _ _ hi
 have hbM:=hw.own _ _ hb
 obtain ⟨L,c,since,seen,b,rfl,hok,rfl,hm⟩:=hE
 have hn:((L.map (mEnt mk)).toArray.toList.map (·.born)).Nodup:=by
  show ((L.map (mEnt mk)).map (·.born)).Nodup
  rw [List.map_map,List.Nodup,List.pairwise_map]
  exact hok.rise.imp fun h=>Nat.ne_of_lt h
 have:=run_entry_at (P:=P) w it m since seen _ c (mEnt mk (a,u,b)) hbI hbM (show mEnt mk (a,u,b)∈L.map (mEnt mk) from List.mem_map.2 ⟨_,hm,rfl⟩) hn
 simp [execOp,hρ _ _ hx,this,mEnt]
theorem m_nextM {x:Operand}{m it:Nat}{oM oI:Obj}{l:List (α×Value)}{left:List α}[kt:KeyT P k mk] (hx:Env.ev σ x=some (.pointer (some ⟨it,0,none⟩))) (hp:μ.Perm ((it,oI)::r)) (hb:(m,oM)∈μ) (hI:IterB mk m l left oM oI) :
 MoveOp P (.next x false) ty σ G μ (fun v G' μ'=>G'=G∧((left=[]∧v=.tuple #[.bool false]∧μ'=(it,oI)::r)∨∃ a u oI',a∈left∧(a,u)∈l∧IterB mk m l (left.filter fun z=>decide (z≠a)) oM oI'∧EntB mk m a u oM oI'∧v=.tuple #[.bool true,mk a,u]∧μ'=(it,oI')::r)):=by
 intro dst pos af g ρ hρ w hw A K Q hK
 have hbI:=hw.own it oI (hp.mem_iff.2 List.mem_cons_self)
 have hbM:=hw.own _ _ hb
 obtain ⟨L,c,since,seen,stepped,rfl,rfl,hok,e4,e5,e6,rfl,rfl⟩:=hI
 have hold:∀ y∈((L.map (mEnt mk)).toArray).toList,y.born<since:=fun y hy=>by
  obtain ⟨z,hz,rfl⟩:=List.mem_map.1 (show y∈L.map (mEnt mk) from hy)
  exact e4 z hz
 have hleft:(leftOf (L.map (mEnt mk)).toArray seen).toList=(L.filter fun x => !seen.contains x.2.2).map (mEnt mk):=by
  unfold leftOf
  rw [Array.toList_filter,List.filter_map]
  rfl
 rcases run_next_at (P:=P) w ty it m since stepped seen _ c hbI hbM hold e5 with ⟨h0,hr⟩|⟨e0,he,w1,hw1,hr⟩
 ·have hr':(execOp ρ ⟨dst,.next x false,ty,pos,af,g⟩).run P w=.ok (.value (.tuple #[.bool false])) w:=by
   simp [execOp,hρ _ _ hx,hr]
  rw [hr']
  refine hK _ _ _ _ (((Step.refl (hw.perm hp)).permL hp.symm)) ⟨rfl,.inl ⟨?_,rfl,rfl⟩⟩
  have:(leftOf (L.map (mEnt mk)).toArray seen).toList=[]:=by
   rw [← Array.length_toList,List.length_eq_zero_iff] at h0
   exact h0
  rw [hleft,List.map_eq_nil_iff] at this
  rw [this]
  rfl
 ·rw [hleft] at he
  obtain ⟨⟨a,u,b⟩,hz,rfl⟩:=List.mem_map.1 he
  have hr':(execOp ρ ⟨dst,.next x false,ty,pos,af,g⟩).run P w=.ok (.value (.tuple #[.bool true,mk a,u])) (setBlock w1 it (.mapIter (some m) since (seen.push b) c)):=by
   simp [execOp,hρ _ _ hx,hr,mEnt]
  rw [hr']
  have hzL:=(List.mem_filter.1 hz).1
  have hst:Step G μ w G ((it,.mapIter (some m) since (seen.push b) c)::r) (setBlock w1 it (.mapIter (some m) since (seen.push b) c)):=by
   rcases hw1 with rfl|rfl
   ·exact Step.setBlockP hw hp
   ·exact (Step.drew hw 1).trans (Step.setBlockP (Step.drew hw 1).mem hp)
  refine hK _ _ _ _ hst ⟨rfl,.inr ⟨a,u,_,List.mem_map.2 ⟨_,hz,rfl⟩,List.mem_map.2 ⟨_,hzL,rfl⟩,⟨L,c,since,seen.push b,c,rfl,rfl,hok,e4,Nat.le_trans e6 (Nat.le_refl _),e6,rfl,?_⟩,⟨L,c,since,seen,b,rfl,hok,rfl,hzL⟩,rfl,rfl⟩⟩
  -- the keys and the stamps go together
  have key:∀ y∈L,y.2.2=b↔y.1=a:=fun y hy=>by
   constructor
   ·intro h
    by_cases hya:y=(a,u,b)
    ·rw [hya]
    ·let R:α×Value×Nat→α×Value×Nat→Prop:=fun x y=>x≠y→x.2.2≠y.2.2
     have p1:L.Pairwise R:=hok.rise.imp fun {x y} h (_:x≠y)=>Nat.ne_of_lt h
     have p2:L.Pairwise (flip R):=hok.rise.imp fun {x y} h (_:y≠x)=>(Nat.ne_of_lt h).symm
     exact absurd h (List.Pairwise.forall_of_forall_of_flip (R:=R) (fun x _ h=>absurd rfl h) p1 p2 hy hzL hya)
   ·rintro h
    by_cases hya:y=(a,u,b)
    ·rw [hya]
    ·have hk:=hok.keys
     rw [List.Nodup,List.pairwise_map] at hk
     let R:α×Value×Nat→α×Value×Nat→Prop:=fun x y=>x≠y→x.1≠y.1
     have p1:L.Pairwise R:=hk.imp fun {x y} h (_:x≠y)=>h
     have p2:L.Pairwise (flip R):=hk.imp fun {x y} h (_:y≠x)=>Ne.symm h
     exact absurd h (List.Pairwise.forall_of_forall_of_flip (R:=R) (fun x _ h=>absurd rfl h) p1 p2 hy hzL hya)
  rw [List.filter_map,List.filter_filter]
  congr 1
  apply List.filter_congr
  intro y hy
  have:=key y hy
  simp only [Function.comp,Array.contains_push,Bool.not_or]
  by_cases hya:y.1=a
  ·have hb':=this.2 hya
   simp [hya,hb']
  ·have hb':¬ y.2.2=b:=fun h=>hya (this.1 h)
   simp [hya,hb']
end
section
variable {α:Type} [DecidableEq α] {mk:α→Value}{P:Program}{fn:Func}{n:Nat}{B:Base}{Φ:Value→GH→OH→Prop}{kk:List It}{σ:Env}{G:GH}{μ r:OH}{all:Array Oper}{rest:List Oper}{d:Nat}{ty:TypeId}{pos:String}{af:Array Edge}{t k e:TypeId}{bytes sz:Nat}{agg:Bool}{zero:Value}
theorem v_makeMap (hd:Nat.blt d n=true) (h:∀ b,Vc P fn n B Φ (.ops all rest::kk) ((d,.map (some b))::σ) G ((b,.map #[] 0)::μ)):Vc P fn n B Φ (.ops all (⟨some d,.makeMap t none,ty,pos,af,none⟩::rest)::kk) σ G μ :=
 v_move m_makeMap hd fun _ _ _ ⟨b,h1,h2,h3⟩=>by rw [h1,h2,h3];exact h b
theorem v_rangeM {x:Operand}{m:Nat}{oM:Obj}{l:List (α×Value)}[tm:Ty P t (.map k e)] (hx:Env.ev σ x=some (.map (some m))) (hb:(m,oM)∈μ) (hM:MapB mk l oM) (hd:Nat.blt d n=true)
 (h:∀ b oI,IterB mk m l (l.map (·.1)) oM oI→Vc P fn n B Φ (.ops all rest::kk) ((d,.pointer (some ⟨b,0,none⟩))::σ) G ((b,oI)::μ)):Vc P fn n B Φ (.ops all (⟨some d,.range t x,ty,pos,af,none⟩::rest)::kk) σ G μ :=
 v_move (m_rangeM hx hb hM) hd fun _ _ _ ⟨b,oI,h1,h2,h3,h4⟩=>by rw [h2,h3,h4];exact h b oI h1
theorem v_nextM {x:Operand}{m it:Nat}{oM oI:Obj}{l:List (α×Value)}{left:List α}[kt:KeyT P k mk] (hx:Env.ev σ x=some (.pointer (some ⟨it,0,none⟩))) (hp:μ.Perm ((it,oI)::r)) (hb:(m,oM)∈μ) (hI:IterB mk m l left oM oI) (hd:Nat.blt d n=true)
 (h0:left=[]→Vc P fn n B Φ (.ops all rest::kk) ((d,.tuple #[.bool false])::σ) G ((it,oI)::r))
 (h1:∀ a u oI',a∈left→(a,u)∈l→IterB mk m l (left.filter fun z=>decide (z≠a)) oM oI'→EntB mk m a u oM oI'→Vc P fn n B Φ (.ops all rest::kk) ((d,.tuple #[.bool true,mk a,u])::σ) G ((it,oI')::r)) :
 Vc P fn n B Φ (.ops all (⟨some d,.next x false,ty,pos,af,none⟩::rest)::kk) σ G μ :=
 v_move (m_nextM (k:=k) hx hp hb hI) hd fun _ _ _ ⟨hG,hh⟩=>by
  subst hG
  rcases hh with ⟨e1,e2,e3⟩|⟨a,u,oI',e1,e2,e3,e3b,e4,e5⟩
  ·rw [e2,e3];exact h0 e1
  ·rw [e4,e5];exact h1 a u oI' e1 e2 e3 e3b
end
end Go.Vx
/-
  VX, LOOPS OVER A FUNCTION: what an iterator gives, and the statement 'for x := range seq'.
-/
namespace Go.Vx
open Go
attribute [local semireducible] Vc DVc Con PureOp ReadOp MoveOp
def YieldCon (P:Program) (l:Nat) (args:Array Value) (G:GH) (μ:OH) (Ψ:Value→GH→OH→Prop):Prop :=
 ∀ w,Mem G μ w→∃ f tmps assign body,(Instr.yield l args).run P w=.ok (.round l f tmps assign body) w ∧
  RoundIn Fence.wide 0 P l f tmps assign body w fun e w'=>∃ v,e=.returned v∧∃ G' μ',Step G μ w G' μ' w'∧Ψ v G' μ'
def SeqCon {α:Type}(P:Program) (gf:FuncId) (lb:List Value) (enc:α→Value) (S:List α→Prop) (N:Nat) (G:GH) (μ1:OH):Prop :=
 ∀ (l:Nat) (J:List α→GH→OH→Prop) (G1:GH) (ν:OH),GH.le G G1→J [] G1 ν →
  (∀ pre x G2 ν2,GH.le G1 G2→J pre G2 ν2→pre.length<N→YieldCon P l #[enc x] G2 ν2 (fun v G' ν'=>v=.bool true∧J (pre++[x]) G' ν')) →
  Con P gf (.func (.yield l) #[] #[]::lb).toArray G1 (μ1++ν) (fun _ G' μ'=>∃ xs ν',S xs∧J xs G' ν'∧μ'=μ1++ν')
section
variable {P:Program}{fn:Func}{n:Nat}{B:Base}{Φ:Value→GH→OH→Prop}{k:List It}{σ:Env}{G:GH}{μ:OH}{all:Array Oper}{rest:List Oper}{d:Nat}{ty:TypeId}{pos:String}{af:Array Edge}
theorem run_callY {x:Operand}{l:Nat}{args:List Operand}{ts:Array TypeId}{vs:List Value}(hx:Env.ev σ x=some (.func (.yield l) #[] #[])) (ha:Env.evs σ args=some vs) :
 ∀ dst pos af g ρ,Agree σ ρ→∀ w,(execOp ρ ⟨dst,.call { callee:=.value x,args:=args.toArray,argTypes:=ts },ty,pos,af,g⟩).run P w=(Instr.yield l vs.toArray).run P w:=by
 intro dst pos af g ρ hρ w
 simp [execOp,resolve,hρ _ _ hx,Deferred.ofValue,invoke,agree_evs hρ ha]
theorem v_yield {x:Operand}{l:Nat}{args:List Operand}{ts:Array TypeId}{vs:List Value}{μ1 μ2:OH}{Ψ:Value→GH→OH→Prop}(hx:Env.ev σ x=some (.func (.yield l) #[] #[])) (ha:Env.evs σ args=some vs) (hs:YieldCon P l vs.toArray G μ1 Ψ) (hp:μ.Perm (μ1++μ2)) (hd:Nat.blt d n=true)
 (h:∀ v G' μ1',GH.le G G'→Ψ v G' μ1'→Vc P fn n B Φ (.ops all rest::k) ((d,v)::σ) G' (μ1'++μ2)) :
 Vc P fn n B Φ (.ops all (⟨some d,.call { callee:=.value x,args:=args.toArray,argTypes:=ts },ty,pos,af,none⟩::rest)::k) σ G μ:=by
 intro w hw a hh
 have hd':d<n:=by simpa [Nat.blt_eq] using hd
 have hw':=hw.mem.perm hp
 refine wpListIn_plain rfl fun K hK=>⟨fn_RF,?_⟩
 rw [Oper.semAt_eq _ _ _ (by intro c;simp),run_callY hx ha _ _ _ _ _ hh.agree]
 obtain ⟨f,tmps,assign,body,hy,hR⟩:=hs w hw'.split.1
 rw [hy]
 refine ⟨fun e=>(by cases e),RoundIn.mono (F:=RF B.rk.r) hR ?_⟩
 rintro e w' ⟨v,rfl,G',μ1',hst,hΨ⟩
 exact hK _ _ (h v G' μ1' hst.le hΨ w' (hw.trans ((hst.frame hw').permL hp.symm)) _ (hh.put hd' v))
def Assigns (P:Program) (n:Nat) (c:Code) (σ σ':Env):Prop :=
 ∀ (r:Option Nat) (K:Act→World→Prop) (ds:List Deferred) (a:Act) (w:World),Holds ds n σ a→(∀ a',Holds ds n σ' a'→K a' w)→c.wpIn (RF r) 0 P (Exit.then K fun _ _ _=>False) a w
inductive AssL (P:Program) (n:Nat):List Oper→Env→Env→Prop
 | nil (σ:Env):AssL P n [] σ σ
 | cons {op:Op} {ty:TypeId} {pos:String} {af:Array Edge} {d:Nat} {v:Value} {l:List Oper} {σ σ':Env} (hop:PureOp P op ty σ v) (hd:Nat.blt d n=true) (h:AssL P n l ((d,v)::σ) σ'):AssL P n (⟨some d,op,ty,pos,af,none⟩::l) σ σ'
theorem AssL.run {σ σ':Env}{l:List Oper}(h:AssL P n l σ σ') {r:Option Nat}{all:Array Oper}{Q:Exit→Act→World→Prop}{ds:List Deferred}:∀ {a:Act}{w:World},Holds ds n σ a→(∀ a',Holds ds n σ' a'→Q .normal a' w)→wpListIn (RF r) 0 P all Q l a w:=by
 induction h with
 | nil σ=>exact fun ha hK=>hK _ ha
 | cons hop hd h ih =>
  intro a w ha hK
  rename_i op ty pos af d v l σ0 σ1
  have hd':d<n:=by simpa [Nat.blt_eq] using hd
  refine wpListIn_plain rfl fun K hKK=>op_in ?_ ?_
  ·rintro c rfl
   have e:=hop none "" #[] none a.eval ha.agree w
   have e2:(execOp a.eval ⟨none,.defer c,ty, "",#[],none⟩).run P w=((resolve a.eval c ty).run P w).andThen fun d w'=>.ok (.defer d) w':=by
    simp only [execOp,Sem.run_bind]
    rfl
   rw [e2] at e
   cases hr:(resolve a.eval c ty).run P w<;>rw [hr] at e<;>cases e
  ·rw [hop _ pos af none a.eval ha.agree w]
   exact hKK _ _ (ih (ha.put hd' v) hK)
theorem Assigns.region {id:Nat}{l:List Oper}{σ σ':Env}(h:AssL P n l σ σ'):Assigns P n (.region id l.toArray false) σ σ' :=
 fun r K ds a w ha hK=>wpIn_region_lit (h.run ha fun a' ha'=>hK a' ha')
def noAgain:List It→Bool
 | []=>true
 | .again _ _::_=>false
 | _::k=>noAgain k
theorem kont_rk {K K':RK}{V V':Value→World→Prop}(hr:K'.r=K.r) (hpost:∀ e a w,K'.post V' e a w→K.post V e a w):∀ (k:List It),noAgain k=true→∀ e a w,Kont P K' n V' k e a w→Kont P K n V k e a w
 | [],_,e,a,w,h=>hpost e a w h
 | .code c::k,hk,e,a,w,h=>by
  have ih:=kont_rk hr hpost k hk
  cases e with
  | normal =>
   simp only [Kont] at h ⊢
   rw [← hr]
   exact wpIn_mono h ih
  | _=>exact ih _ _ _ h
 | .ops all l::k,hk,e,a,w,h=>by
  have ih:=kont_rk hr hpost k hk
  cases e with
  | normal =>
   simp only [Kont] at h ⊢
   rw [← hr]
   clear hk
   induction l generalizing a w with
   | nil=>exact ih _ _ _ h
   | cons o l ihl =>
    unfold wpListIn at h ⊢
    split at h
    ·rename_i hw
     rw [if_pos hw]
     refine Oper.wpIn_mono (fun a w h=>ihl a w h) ?_
     refine ⟨h.1,?_⟩
     have h2:=h.2
     generalize (o.semAt (RF K'.r).round a.eval).run P w=R at h2 ⊢
     cases R with
     | ok x w' =>
      cases x<;>first
       | exact h2
       | exact ⟨h2.1,CallsIn.mono h2.2 fun e w'' he=>by
        cases e with
        | returned v=>exact he
        | panicked ch=>exact ih _ _ _ he
        | outgrown=>obtain ⟨a0,w0,h0⟩:=he;exact ⟨a0,w0,ih _ _ _ h0⟩⟩
       | exact ⟨h2.1,RoundIn.mono h2.2 fun e w'' he=>by
        cases e with
        | returned v=>exact he
        | panicked ch=>exact ih _ _ _ he
        | outgrown=>obtain ⟨a0,w0,h0⟩:=he;exact ⟨a0,w0,ih _ _ _ h0⟩⟩
     | halt x w'=>cases x<;>first|exact ih _ _ _ h2|exact h2
    ·rename_i hw
     rw [if_neg hw]
     exact ⟨fn_RF,ihl _ _ h.2⟩
  | _=>exact ih _ _ _ h
 | .blk id::k,hk,e,a,w,h=>by
  have ih:=kont_rk hr hpost k hk
  cases e with
  | normal=>exact ih _ _ _ h
  | exit id' =>
   simp only [Kont] at h ⊢
   split at h
   ·rename_i hi;rw [if_pos hi];exact ih _ _ _ h
   ·rename_i hi;rw [if_neg hi];exact ih _ _ _ h
  | _=>exact ih _ _ _ h
theorem Step.upd1 {G:GH}{r:OH}{w:World}{b:Nat}{o o':Obj}(h:Mem G ((b,o)::r) w):Step G ((b,o)::r) w G ((b,o')::r) (w.putObj b o') :=
 Step.upd h (Upd.here o r) rfl rfl rfl (by simp) (World.putObj_heap_same (lt_of_heap (h.own b o List.mem_cons_self))) (fun c hc=>World.putObj_heap_other hc)
theorem Holds.pars {ds:List Deferred}{σ:Env}{a:Act}(h:Holds ds n σ a) {p:Nat}(hp:p<n) (v:Value):Holds [] n ((p,v)::σ) { tmps:=a.tmps.setIfInBounds p v,defers:=[] }:=by
 have:=h.put hp v
 exact ⟨rfl,this.size,this.get⟩
theorem v_rangeFunc {α:Type}{Ds:List Nat}[hB:FnB P fn B Ds] {g:Operand}{gf:FuncId}[hc:Callable P gf] {lb:List Value}{p:Nat}{assign body:Code}{enc:α→Value}{S:List α→Prop}{N:Nat}{μ1 μ2:OH}{σ':α→Env}
 (I:List α→GH→OH→Prop) (hg:Env.ev σ g=some (.func (.func gf) #[] lb.toArray)) (hseq:SeqCon P gf lb enc S N G μ1) (hp:μ.Perm (μ1++μ2)) (hpn:Nat.blt p n=true) (hass:∀ x,Assigns P n assign ((p,enc x)::σ) (σ' x)) (hna:noAgain k=true) (h0:I [] G μ2)
 (hbody:∀ (l:Nat) (B':Base) [RdB B' l] pre x G2 ν,GH.le G G2→I pre G2 ν→pre.length<N→Vc P fn n B' (fun v G' ν'=>v=.bool true∧I (pre++[x]) G' ν') [.code body] (σ' x) G2 ν)
 (hk:∀ (B':Base) (D:Nat) [FnB P fn B' (D::Ds)] xs G2 ν,GH.le G G2→S xs→I xs G2 ν→Vc P fn n B' Φ k σ G2 (dO D::(μ1++ν))) :
 Vc P fn n B Φ (.code (.rangeFunc g #[p] assign body)::k) σ G μ:=by
 intro w hw a ha
 have hpn':p<n:=by simpa [Nat.blt_eq] using hpn
 have hr:B.rk.r=none:=by rw [hB.h];rfl
 show (Code.rangeFunc g #[p] assign body).wpIn (RF B.rk.r) 0 P (Kont P B.rk n (Fin B Φ) k) a w
 rw [hr]
 refine wpIn_rangeFunc ?_
 intro fn0 hfn
 obtain ⟨rec,hrec⟩:∃ rec:LoopState→Loop,rec=fun st => { state:=st,pending:=none,fn:=fn0,tmps:=a.tmps,params:=#[p],assign,body,defers:=w.heap.size }:=⟨_,rfl⟩
 have hst1:Step G μ w G ((w.heap.size+1,.loop (rec .ready))::dO w.heap.size::μ) ((w.alloc (.deferred (some []))).alloc (.loop (rec .ready))):=by
  have s1:=Step.alloc hw.mem (.deferred (some []))
  have s2:=Step.alloc s1.mem (.loop (rec .ready))
  rw [World.size_alloc] at s2
  exact s1.trans s2
 refine ⟨w.heap.size+1,[mark w.heap.size],(w.alloc (.deferred (some []))).alloc (.loop (rec .ready)),{ target:=.fn (.func gf) lb.toArray,args:=#[.func (.yield (w.heap.size+1)) #[] #[]] },(w.alloc (.deferred (some []))).alloc (.loop (rec .ready)),gf,#[.func (.yield (w.heap.size+1)) #[] #[]]++lb.toArray,(w.alloc (.deferred (some []))).alloc (.loop (rec .ready)),?_,?_,fun _ _=>trivial,?_,fun e=>(by cases e),?_⟩
 ·rw [hrec]
  exact run_enterLoop_outer _ _ _ _ _
 ·have e1:=ha.ev hg
  have e2:∀ v,a.eval (.const v)=v:=fun _=>rfl
  simp [resolve,e1,e2,Deferred.ofValue]
 ·simp [invoke,hc.h]
 generalize hW1:(w.alloc (.deferred (some []))).alloc (.loop (rec .ready))=W1 at hst1 ⊢
 generalize hD:w.heap.size=D at hst1 hrec ⊢
 have hne:D+1≠D:=by omega
 have hargs : #[Value.func (.yield (D+1)) #[] #[]]++lb.toArray=(Value.func (.yield (D+1)) #[] #[]::lb).toArray:=by simp
 rw [hargs]
 let J:List α→GH→OH→Prop:=fun pre G' ν=>∃ ν',ν=(D+1,.loop (rec .ready))::dO D::ν'∧I pre G' ν'
 have hJ0:J [] G ((D+1,.loop (rec .ready))::dO D::μ2):=⟨μ2,rfl,h0⟩
 have hcon:=hseq (D+1) J G _ (GH.le_refl _) hJ0 (fun pre x G2 ν2 hle hJ hlen=>by
  obtain ⟨ν',rfl,hI⟩:=hJ
  intro w2 hw2
  have hl:=hw2.own (D+1) _ List.mem_cons_self
  have hy:=run_yield (P:=P) (args:=#[enc x]) hl (by rw [hrec];rfl)
  rw [hrec] at hy
  simp only at hy
  refine ⟨fn0,_,assign,body,hy,roundIn_of_wpIn trivial ?_⟩
  have hH:Holds [] n ((p,enc x)::σ) { tmps:=Array.foldl (fun tmps x=>tmps.setIfInBounds x.fst x.snd) a.tmps (#[p].zip #[enc x]),defers:=[] }:=by
   have:=ha.pars hpn' (enc x)
   simpa using this
  refine hass x (some (D+1)) _ [] _ w2 hH fun a1 ha1=>?_
  have hbr:=run_beginRound (P:=P) hl (by rw [hrec])
  refine ⟨_,hbr,?_⟩
  have hs1:Step G2 ((D+1,.loop (rec .ready))::dO D::ν') w2 G2 ((D+1,.loop { rec .ready with state:=.busy })::dO D::ν') _:=Step.upd1 hw2
  have hm1:=hs1.mem
  have hsub:List.Sublist ν' ((D+1,.loop { rec .ready with state:=.busy })::dO D::ν'):=(List.Sublist.refl _).cons _ |>.cons _
  have hmν:Mem G2 ν' (w2.putObj (D+1) (.loop { rec .ready with state:=.busy })):=((Step.refl hm1).drop hsub).mem
  have hb := @hbody (D+1) ⟨G2,ν',_,RK.round (D+1)⟩ ⟨rfl⟩ pre x G2 ν' hle hI hlen _ (Step.refl hmν) a1 ha1
  refine wpIn_mono (F:=RF (some (D+1))) (Q:=Kont P (RK.round (D+1)) n _ []) hb fun e a3 w3 hq=>?_
  cases e with
  | normal =>
   obtain ⟨G3,ν3,hst3,-,hI3⟩:=hq
   simp only at hst3
   have hperm:((D+1,Obj.loop { rec .ready with state:=.busy })::dO D::ν').Perm (ν'++[(D+1,Obj.loop { rec .ready with state:=.busy }),dO D]):=by
    have:=(List.perm_append_comm (l₁:=ν') (l₂:=[(D+1,Obj.loop { rec .ready with state:=.busy }),dO D]))
    exact this.symm
   have hfr:=(hst3.frame (hm1.perm hperm)).permL hperm.symm
   have hfr2:=hfr.perm (List.perm_append_comm (l₁:=ν3) (l₂:=[(D+1,Obj.loop { rec .ready with state:=.busy }),dO D]))
   have hl3:=hfr2.mem.own (D+1) _ List.mem_cons_self
   refine ⟨_,_,run_endRound none hl3,.bool true,rfl,G3,(D+1,.loop (rec .ready))::dO D::ν3,?_,rfl,ν3,rfl,hI3⟩
   have hu:=Step.upd1 (o':=.loop (rec .ready)) hfr2.mem
   have:=(hs1.trans hfr2).trans hu
   rw [hrec] at this ⊢
   exact this
  | ret =>
   obtain ⟨G3,ν3,hst3,hv,_⟩:=hq
   cases hv
  | exit id =>
   obtain ⟨G3,ν3,hst3,hv,_⟩:=hq
   cases hv
  | goto l=>exact hq.elim
  | panic c=>exact hq.elim
  | outgrown=>exact hq.elim)
 have hpm:((D+1,Obj.loop (rec .ready))::dO D::μ).Perm (μ1++((D+1,.loop (rec .ready))::dO D::μ2)):=by
  refine ((hp.cons _).cons _).trans ?_
  have:=List.perm_append_comm_assoc [(D+1,Obj.loop (rec .ready)),dO D] μ1 μ2
  simpa using this
 have hm1:=hst1.mem.perm hpm
 refine calls_RF.2 (Calls.mono (hcon W1 hm1) ?_)
 rintro e w3 ⟨v,rfl,G3,μ3,hst3,xs,ν3,hS,⟨ν',rfl,hI⟩,rfl⟩
 have hp3:(μ1++((D+1,Obj.loop (rec .ready))::dO D::ν')).Perm ((D+1,Obj.loop (rec .ready))::dO D::(μ1++ν')):=by
  have:=List.perm_append_comm_assoc [(D+1,Obj.loop (rec .ready)),dO D] μ1 ν'
  simpa using this.symm
 have hst3':=hst3.perm hp3
 have hl3:=hst3'.mem.own (D+1) _ List.mem_cons_self
 have hpend:(rec .ready).pending=none:=by rw [hrec]
 have hend:(Instr.endLoop (D+1)).run P w3=.ok none (w3.putObj (D+1) (.loop { rec .ready with state:=.exhausted })):=by
  exact (run_endLoop (P:=P) hl3 (by rw [hrec];simp)).trans (congrArg (fun x=>Result.ok x _) hpend)
 refine ⟨none,_,hend,?_⟩
 have hu:=Step.upd1 (o':=.loop { rec .ready with state:=.exhausted }) hst3'.mem
 have hall:Step B.G B.μ B.w G3 (dO D::(μ1++ν')) _:=(((hw.trans (hst1.trans (Step.permL hst3' hpm.symm))).trans hu).drop (List.sublist_cons_self _ _))
 have hkk := @hk ⟨B.G,B.μ,B.w,RK.fn P fn (D::Ds)⟩ D ⟨rfl⟩ xs G3 ν' (GH.le_trans hst1.le hst3.le) hS hI _ hall { a with defers:=[mark D]++a.defers } ⟨by
  show [mark D]++a.defers=(D::Ds).map mark
  rw [ha.defers,hB.h]
  rfl,ha.size,ha.get⟩
 refine kont_rk (K':=RK.fn P fn (D::Ds)) (by rw [hr];rfl) ?_ k hna _ _ _ hkk
 intro e a w h
 rw [hB.h]
 exact h
end
end Go.Vx
/-
  VX, BITS of numbers of 64 bits without sign, as natural numbers; what the program's text asks of maps beside.
-/
namespace Go.Vx
open Go
attribute [local semireducible] Vc DVc Con PureOp ReadOp MoveOp
abbrev uv (x:Nat):Value:=.int .u64 (x:Nat)
theorem wrap_uv {x:Nat}(h:x<2 ^ 64):IntKind.u64.wrap (x:Nat)=(x:Nat):=by
 have e:IntKind.u64.wrap (x:Nat)=((x:Nat):Int) % (2 ^ 64:Int):=by
  simp [IntKind.wrap,IntKind.signed,IntKind.bits]
 rw [e]
 omega
section
variable {P:Program}{ty:TypeId}{σ:Env}{t t':TypeId}
theorem p_andU {x y:Operand}{a b:Nat}(hx:Env.ev σ x=some (uv a)) (hy:Env.ev σ y=some (uv b)) (ha:a<2 ^ 64) (hb:b<2 ^ 64):PureOp P (.binOp .and t x y t') ty σ (uv (a &&& b)):=by
 have h:=p_and (P:=P) (ty:=ty) (t:=t) (t':=t') hx hy
 have e:(BitVec.ofInt IntKind.u64.bits (a:Nat) &&& BitVec.ofInt IntKind.u64.bits (b:Nat)).toNat=a &&& b:=by
  rw [BitVec.toNat_and]
  simp only [BitVec.toNat_ofInt,IntKind.bits]
  congr 1<;>omega
 rw [e,wrap_uv (Nat.lt_of_le_of_lt Nat.and_le_left ha)] at h
 exact h
theorem p_orU {x y:Operand}{a b:Nat}(hx:Env.ev σ x=some (uv a)) (hy:Env.ev σ y=some (uv b)) (ha:a<2 ^ 64) (hb:b<2 ^ 64):PureOp P (.binOp .or t x y t') ty σ (uv (a ||| b)):=by
 have h:=p_or (P:=P) (ty:=ty) (t:=t) (t':=t') hx hy
 have e:(BitVec.ofInt IntKind.u64.bits (a:Nat) ||| BitVec.ofInt IntKind.u64.bits (b:Nat)).toNat=a ||| b:=by
  rw [BitVec.toNat_or]
  simp only [BitVec.toNat_ofInt,IntKind.bits]
  congr 1<;>omega
 rw [e,wrap_uv (Nat.or_lt_two_pow ha hb)] at h
 exact h
theorem p_shrU {x y:Operand}{a n:Nat}{k:IntKind}(hx:Env.ev σ x=some (uv a)) (hy:Env.ev σ y=some (.int k (n:Nat))) (hn:n<64):PureOp P (.binOp .shr t x y t') ty σ (uv (a / 2 ^ n)):=by
 intro dst pos af g ρ hρ w
 have e1:min n IntKind.u64.bits=n:=Nat.min_eq_left (by simp [IntKind.bits];omega)
 have e2:¬ ((n:Nat):Int)<0:=by omega
 have e3:((a:Nat):Int).fdiv (2 ^ n)=((a / 2 ^ n:Nat):Int):=by
  rw [Int.natCast_ediv,Int.natCast_pow]
  exact Int.fdiv_eq_ediv_of_nonneg _ (by rw [show (2:Int) ^ n=((2 ^ n:Nat):Int) by simp];exact Int.natCast_nonneg _)
 simp [execOp,hρ _ _ hx,hρ _ _ hy,eqGuard,binOp,Op.shift,e2,e1]
end
end Go.Vx
/-
  VX: copy, append of zeros, slices.overlaps.
-/
namespace Go.Vx
attribute [local semireducible] Vc MoveOp PureOp ReadOp DVc Con
open Go Go.Lib
section
variable {P:Program}{fn:Func}{n:Nat}{B:Base}{Φ:Value→GH→OH→Prop}{k:List It}{rest:List Oper}{all:Array Oper}{σ:Env}{G:GH}{μ:OH}{d:Nat}{t ty:TypeId}{pos:String}{af:Array Edge}{bytes:Nat}{zero:Value}
theorem m_copy {e:TypeId}{agg:Bool}{sz:Nat}{y x:Operand}{b o m c m' q:Nat}{u:Value}{vs us vs':List Value}{μ':OH} [Ty P t (.slice e)] [Lay P e agg sz bytes zero] (hy:Env.ev σ y=some (.slice (some ⟨b,o,none⟩) m c)) (hx:Env.ev σ x=some u) (hq:Nat.min m' m=q) (hm:0<m') (hsrc:Src G μ u m' sz us)
 (hb:Has μ b vs e) (h1:(us.take (q*sz)).all Value.oneCell'=true) (hfit:o+q*sz≤vs.length) (hov:over vs o (us.take (q*sz))=vs') (hu:Upd b (.cells vs'.toArray e (0,0)) μ μ') :
 MoveOp P (.call { callee:=.builtin .copy,args:=#[y,x],argTypes:=#[t,t] }) ty σ G μ (fun v' G' μ''=>v'=.int .i64 q∧G'=G∧μ''=μ'):=by
 intro dst pos af g ρ hρ w hw a K Q hK
 obtain ⟨i,hi,hi1,hi2,hi3⟩:=Lay.infoEx (P:=P) (t:=e) (agg:=agg) (size:=sz) (bytes:=bytes) (zero:=zero) inferInstance
 have ht:P.underlying t=some (.slice e):=Ty.h
 obtain ⟨hus,A,c',rfl,hA⟩:=hsrc
 obtain ⟨ad,rfl,hcs⟩:=hA hm
 have hqm:q≤m':=by rw [← hq];exact Nat.min_le_left _ _
 have hlen:(us.take (q*sz)).length=q*sz:=by
  rw [List.length_take,hus]
  exact Nat.min_eq_left (Nat.mul_le_mul_right _ hqm)
 have hl:=run_firstCells_some (P:=P) w i.size q ad m' c' (us.take (q*sz)) (by rw [hlen,hi1]) (fun j v hv=>by
  rw [List.getElem?_take] at hv
  split at hv
  ·exact hcs j v hv w hw.sees
  ·cases hv)
 have hst:=run_storeCells_at P b o e (us.take (q*sz)) 0 vs.toArray w (hw.own b _ hb) (by simp only [Nat.add_zero,List.size_toArray,hlen];exact hfit) (fun v hv=>List.all_eq_true.1 h1 v hv)
 simp only [Nat.add_zero] at hst
 have hov':(vs.toArray.toList.take o++us.take (q*sz)++vs.toArray.toList.drop (o+(us.take (q*sz)).length))=vs':=by rw [← hov];rfl
 rw [hov'] at hst
 have hr:(Builtin.copy_ #[t,t] ty #[.slice (some ⟨b,o,none⟩) m c,.slice (some ad) m' c']).run P w=.ok (.int .i64 q) (w.setRow b vs'.toArray):=by
  simp [Builtin.copy_,run_underlying ht,Builtin.lenOf,sizeOf,typeInfo,hi,hq,hl,hst,goInt]
 have hex:(execOp ρ ⟨dst,.call { callee:=.builtin .copy,args:=#[y,x],argTypes:=#[t,t] },ty,pos,af,g⟩).run P w=.ok (.value (.int .i64 q)) (w.setRow b vs'.toArray):=by
  simp only [execOp,resolve,invoke,builtin,Sem.run_bind,Sem.run_pure,Result.andThen_ok,List.map_toArray,List.map_cons,List.map_nil,hρ _ _ hy,hρ _ _ hx,hr]
 rw [hex]
 exact hK _ _ G _ (Step.row hw hb hu) ⟨rfl,rfl,rfl⟩
theorem v_copy {e:TypeId}{agg:Bool}{sz:Nat}{y x:Operand}{b o m c m' q:Nat}{u:Value}{vs us vs':List Value}{μ':OH} [Ty P t (.slice e)] [Lay P e agg sz bytes zero] (hy:Env.ev σ y=some (.slice (some ⟨b,o,none⟩) m c)) (hx:Env.ev σ x=some u) (hq:Nat.min m' m=q) (hm:0<m') (hsrc:Src G μ u m' sz us)
 (hb:Has μ b vs e) (h1:(us.take (q*sz)).all Value.oneCell'=true) (hfit:o+q*sz≤vs.length) (hov:over vs o (us.take (q*sz))=vs') (hu:Upd b (.cells vs'.toArray e (0,0)) μ μ') (hd:Nat.blt d n=true)
 (h:Vc P fn n B Φ (.ops all rest::k) ((d,.int .i64 q)::σ) G μ'):Vc P fn n B Φ (.ops all (⟨some d,.call { callee:=.builtin .copy,args:=#[y,x],argTypes:=#[t,t] },ty,pos,af,none⟩::rest)::k) σ G μ :=
 v_move (m_copy hy hx hq hm hsrc hb h1 hfit hov hu) hd fun _ _ _ ⟨h1,h2,h3⟩=>by rw [h1,h2,h3];exact h
class Overl (P:Program) (f:FuncId) (e:outParam TypeId) (tR:outParam TypeId):Prop where
 h:∃ ts,P.underlying ts=some (.slice e)∧∀ args w,(callFunc f args).run P w=((Extern.SlicesOverlaps.overlaps #[ts,ts] #[tR] args).run P w).andThen fun v w'=>.ok (.value v) w'
end
end Go.Vx
/-
  VX: make of a slice; copy of nothing; clear of a row's end; results that lie in memory, of several shapes.
-/
namespace Go.Vx
open Go
section
attribute [local semireducible] MoveOp ReadOp PureOp
variable {P:Program}{fn:Func}{n:Nat}{B:Base}{Φ:Value→GH→OH→Prop}{k:List It}{rest:List Oper}{all:Array Oper}{σ:Env}{G:GH}{μ:OH}{d:Nat}{t ty:TypeId}{pos:String}{af:Array Edge}{bytes:Nat}{zero:Value}
theorem m_makeSlice {e:TypeId}{agg:Bool}{sz m:Nat}{x y:Operand}{k1 k2:IntKind} [Ty P t (.slice e)] [Lay P e agg sz bytes zero] (hx:Env.ev σ x=some (.int k1 (m:Nat))) (hy:Env.ev σ y=some (.int k2 (m:Nat))) (hb:bytes*m≤281474976710656) (hm:m≤maxLen) :
 MoveOp P (.makeSlice t x y) ty σ G μ (fun v G' μ'=>∃ (b:Nat) (vs:List Value),v=.slice (some ⟨b,0,none⟩) m m∧vs.length=m*sz∧G'=G∧μ'=(b,.cells vs.toArray e (0,0))::μ):=by
 intro dst pos af g ρ hρ w hw a K Q hK
 obtain ⟨i,hi,hi1,hi2,hi3⟩:=Lay.infoEx (P:=P) (t:=e) (agg:=agg) (size:=sz) (bytes:=bytes) (zero:=zero) inferInstance
 have ht:P.underlying t=some (.slice e):=Ty.h
 simp only [maxLen] at hm
 have hb':(i.bytes:Int)*(m:Int)≤281474976710656:=by
  have h:((i.bytes*m:Nat):Int)≤281474976710656:=by rw [hi2];omega
  rwa [Int.natCast_mul] at h
 have hr:=run_make (P:=P) w t e i zero ht hi hi3 k1 k2 m m (by omega) (Int.le_refl _) hb' (by omega)
 simp only [Int.toNat_natCast] at hr
 have hex:(execOp ρ ⟨dst,.makeSlice t x y,ty,pos,af,g⟩).run P w=.ok (.value (.slice (some ⟨w.heap.size,0,none⟩) m m)) (w.alloc (.cells (madeCells zero.cells (m*i.size)).toList.toArray e)):=by
  simp [execOp,hρ _ _ hx,hρ _ _ hy,hr]
 rw [hex]
 exact hK _ _ G _ (Step.alloc hw _) ⟨_,(madeCells zero.cells (m*i.size)).toList,rfl,by rw [Array.length_toList,size_madeCells,hi1],rfl,rfl⟩
theorem v_makeSlice {e:TypeId}{agg:Bool}{sz m:Nat}{x y:Operand}{k1 k2:IntKind} [Ty P t (.slice e)] [Lay P e agg sz bytes zero] (hx:Env.ev σ x=some (.int k1 (m:Nat))) (hy:Env.ev σ y=some (.int k2 (m:Nat))) (hb:bytes*m≤281474976710656) (hm:m≤maxLen) (hd:Nat.blt d n=true)
 (h:∀ (b:Nat) (vs:List Value),vs.length=m*sz→Vc P fn n B Φ (.ops all rest::k) ((d,.slice (some ⟨b,0,none⟩) m m)::σ) G ((b,.cells vs.toArray e (0,0))::μ)):Vc P fn n B Φ (.ops all (⟨some d,.makeSlice t x y,ty,pos,af,none⟩::rest)::k) σ G μ :=
 v_move (m_makeSlice hx hy hb hm) hd fun _ _ _ ⟨b,vs,h1,h2,h3,h4⟩=>by rw [h1,h3,h4];exact h b vs h2
theorem m_copy0 {e:TypeId}{agg:Bool}{sz:Nat}{y x:Operand}{A A':Option Addr}{m c c':Nat} [Ty P t (.slice e)] [Lay P e agg sz bytes zero] (hy:Env.ev σ y=some (.slice A m c)) (hx:Env.ev σ x=some (.slice A' 0 c')) :
 ReadOp P (.call { callee:=.builtin .copy,args:=#[y,x],argTypes:=#[t,t] }) ty σ G μ (.int .i64 0):=by
 intro dst pos af g ρ hρ w hw
 obtain ⟨i,hi,hi1,hi2,hi3⟩:=Lay.infoEx (P:=P) (t:=e) (agg:=agg) (size:=sz) (bytes:=bytes) (zero:=zero) inferInstance
 have ht:P.underlying t=some (.slice e):=Ty.h
 have hr:(Builtin.copy_ #[t,t] ty #[.slice A m c,.slice A' 0 c']).run P w=.ok (.int .i64 0) w:=by
  cases A<;>cases A'<;>simp [Builtin.copy_,run_underlying ht,Builtin.lenOf,sizeOf,typeInfo,hi,goInt,Builtin.firstCells,loadCells,loadCellsFrom,storeCells]
 simp only [execOp,resolve,invoke,builtin,Sem.run_bind,Sem.run_pure,Result.andThen_ok,List.map_toArray,List.map_cons,List.map_nil,hρ _ _ hy,hρ _ _ hx,hr]
end
section
variable {P:Program}{fn:Func}{n:Nat}{σ:Env}{G:GH}{μ:OH}
theorem outsM_tc {u0:Nat}{x0:Value}{a1 b1 sz1 bytes1:Nat}{zero1:Value}{vs1:List Value}{t1 e1:TypeId} [Lay P t1 true sz1 bytes1 zero1] (hr:fn.results = #[.tmp u0,.cell a1 t1]) (hu0:Env.get σ u0=some x0) (ha1:Env.get σ a1=some (.pointer (some ⟨b1,0,none⟩))) (hb1:Has μ b1 vs1 e1) (hl1:vs1.length=sz1):OutsM P fn n σ G μ (.tuple [x0,.agg vs1.toArray].toArray):=by
 intro w hw ds a' ha'
 have h0:=ha'.get _ _ hu0
 subst hl1
 have h1:=ha'.get _ _ ha1
 have g1:(loadCells ⟨b1,0,none⟩ vs1.length).run P w=.ok vs1.toArray w:=run_loadCells_list w _ vs1 (fun j v hv=>CellsAt.own hb1 j v hv w hw)
 simp only [Array.getD_eq_getD_getElem?] at h0 h1
 simp [results,hr,asAddr,loadVar,h0,h1,run_isAgg' (P:=P) (t:=t1) (agg:=true) (size:=vs1.length) (bytes:=bytes1) (zero:=zero1),run_sizeOf (P:=P) (t:=t1) (agg:=true) (size:=vs1.length) (bytes:=bytes1) (zero:=zero1),g1]
end
end Go.Vx
/-
  VX, MAPS whose keys are two numbers.
-/
namespace Go.Vx
open Go
attribute [local semireducible] Vc DVc Con PureOp ReadOp MoveOp
section
variable {P:Program}{k e:TypeId}
end
end Go.Vx
