/-
  VX, THE CORE: a calculus of steps over the kit's 'Code.wp': what a function's temporaries hold is a list of pairs (slot, value), and what is left to be done is a list of items.
-/
import Derived.WalkKit
import Derived.Deep.Draws
import Derived.RangeFuncRecord
import Derived.TacticsIn
import Derived.OrdersIn
import Derived.WalkSpells
import Derived.WalkLawsBesides
import Derived.OrdersHeld
import Derived.IntWalk
import Derived.Laws.StructEq
import Derived.Deep.Slices
import Derived.ProofKit
import Derived.OpenShut
import Derived.ShutString
import Derived.ChangeOld
import Derived.Below
import Derived.Scope
import Derived.Maps.RangeRun
import Derived.Maps.Keyed
import Derived.RangeFuncOwn
import Derived.Test.YtgflmkhfachlcaaRows
import Derived.Shelf.SortM.Plain
import Derived.Shelf.SortM.SortNone
import Derived.Shelf.Slices.CompactI
set_option linter.unusedVariables false
set_option linter.unusedSimpArgs false
namespace Go.Vx
open Go

/-! ### Environments -/
abbrev Env := List (Nat × Value)

def Env.get : Env → Nat → Option Value
  | [], _ => none
  | (j, v) :: σ, i => bif Nat.beq j i then some v else Env.get σ i

def Env.ev (σ : Env) : Operand → Option Value
  | .tmp t => Env.get σ t
  | .const v => some v
  | .global g => some (.pointer (some ⟨g, 0, none⟩))
  | .func f => some (.func (.func f) #[] #[])

def Env.gets (σ : Env) : List Nat → Option (List Value)
  | [] => some []
  | t :: ts => (Env.get σ t).bind fun v => (Env.gets σ ts).map fun vs => v :: vs

def Env.evs (σ : Env) : List Operand → Option (List Value)
  | [] => some []
  | t :: ts => (Env.ev σ t).bind fun v => (Env.evs σ ts).map fun vs => v :: vs

def Env.init : Nat → List Value → Env
  | _, [] => []
  | i, v :: vs => (i, v) :: Env.init (i + 1) vs

structure Holds (ds : List Deferred) (n : Nat) (σ : Env) (a : Act) : Prop where
  defers : a.defers = ds
  size : a.tmps.size = n
  get : ∀ i v, Env.get σ i = some v → a.tmps.getD i undef = v

theorem nbeq_false {i j : Nat} (h : ¬ i = j) : Nat.beq i j = false := by
  cases hb : Nat.beq i j with
  | false => rfl
  | true => exact absurd (Nat.eq_of_beq_eq_true hb) h
theorem Env.get_cons (j : Nat) (v : Value) (σ : Env) (i : Nat) : Env.get ((j, v) :: σ) i = if j = i then some v else Env.get σ i := by
  simp only [Env.get]
  by_cases h : j = i
  · subst h; simp
  · rw [nbeq_false h]; simp [h]

section
variable {ds : List Deferred} {n : Nat} {σ σ' : Env} {a : Act}
theorem Holds.put (h : Holds ds n σ a) {d : Nat} (hd : d < n) (v : Value) : Holds ds n ((d, v) :: σ) (a.put (some d) v) := by
  obtain ⟨h1, h2, h3⟩ := h
  refine ⟨h1, by simp [Act.put, h2], fun i u hi => ?_⟩
  rw [Env.get_cons] at hi
  by_cases hdi : d = i
  · subst hdi
    simp at hi
    subst hi
    simp [Act.put, h2, hd]
  · rw [if_neg hdi] at hi
    have := h3 i u hi
    simp only [Act.put]
    rw [← this]
    simp [Array.getD_eq_getD_getElem?, Array.getElem?_setIfInBounds_ne hdi]
theorem Holds.putNone (h : Holds ds n σ a) (v : Value) : Holds ds n σ (a.put none v) := h
theorem Holds.ev (h : Holds ds n σ a) {x : Operand} {v : Value} (hx : Env.ev σ x = some v) : a.eval x = v := by
  cases x with
  | tmp t => exact h.get t v hx
  | const c => simpa [Env.ev, Act.eval] using hx
  | global g => simpa [Env.ev, Act.eval] using hx
  | func f => simpa [Env.ev, Act.eval] using hx
theorem Holds.evs (h : Holds ds n σ a) : ∀ {xs : List Operand} {vs : List Value}, Env.evs σ xs = some vs → xs.map a.eval = vs
  | [], vs, hx => by simpa [Env.evs] using hx
  | x :: xs, vs, hx => by
    simp only [Env.evs] at hx
    cases h1 : Env.ev σ x with
    | none => simp [h1] at hx
    | some v =>
      cases h2 : Env.evs σ xs with
      | none => simp [h1, h2] at hx
      | some us =>
        simp only [h1, h2, Option.bind_some, Option.map_some, Option.some.injEq] at hx
        subst hx
        simp [h.ev h1, h.evs h2]
theorem Holds.sub (h : Holds ds n σ a) (hs : ∀ i v, Env.get σ' i = some v → Env.get σ i = some v) : Holds ds n σ' a := ⟨h.defers, h.size, fun i v hi => h.get i v (hs i v hi)⟩
theorem gets_zip : ∀ {S : List Nat} {vs : List Value}, Env.gets σ S = some vs → ∀ i v, Env.get (S.zip vs) i = some v → Env.get σ i = some v
  | [], vs, _, i, v, hi => by simp [Env.get] at hi
  | t :: S, vs, h, i, v, hi => by
    simp only [Env.gets] at h
    cases h1 : Env.get σ t with
    | none => simp [h1] at h
    | some u =>
      cases h2 : Env.gets σ S with
      | none => simp [h1, h2] at h
      | some us =>
        simp only [h1, h2, Option.bind_some, Option.map_some, Option.some.injEq] at h
        subst h
        simp only [List.zip_cons_cons] at hi
        rw [Env.get_cons] at hi
        by_cases hti : t = i
        · subst hti; simpa [h1] using hi
        · rw [if_neg hti] at hi; exact gets_zip h2 i v hi
theorem Holds.init (args : Array Value) (m : Nat) (h : args.size ≤ m) : Holds [] m (Env.init 0 args.toList) { tmps := args ++ Array.replicate (m - args.size) undef, defers := [] } := by
  have key : ∀ (l : List Value) (k i : Nat) (v : Value), Env.get (Env.init k l) i = some v → k ≤ i ∧ l[i - k]? = some v := by
    intro l
    induction l with
    | nil => intro k i v h; simp [Env.init, Env.get] at h
    | cons x l ih =>
      intro k i v h
      rw [Env.init, Env.get_cons] at h
      by_cases hki : k = i
      · subst hki; simp at h; simp [h]
      · rw [if_neg hki] at h
        obtain ⟨h1, h2⟩ := ih (k + 1) i v h
        refine ⟨by omega, ?_⟩
        have : i - k = (i - (k + 1)) + 1 := by omega
        rw [this]; simpa using h2
  refine ⟨rfl, by simp; omega, fun i v hi => ?_⟩
  obtain ⟨_, h2⟩ := key _ _ _ _ hi
  simp only [Nat.sub_zero] at h2
  have hlt : i < args.size := by
    rcases Nat.lt_or_ge i args.size with h' | h'
    · exact h'
    · rw [List.getElem?_eq_none (by simpa using h')] at h2; cases h2
  have hv : args[i]? = some v := by simpa using h2
  have hv' : args[i] = v := by rw [Array.getElem?_eq_getElem hlt] at hv; simpa using hv
  simp [Array.getElem?_append, hlt, hv']
end

/-! ### Items, and what is left to be done -/
inductive It where
  | code (c : Code)
  | ops (all : Array Oper) (l : List Oper)
  | blk (id : Nat)
  | again (S : List Nat) (I : List Value → World → Prop)

/-- The end of a call that returns: what is said of the value and the world. -/
def Back (V : Value → World → Prop) (e : Ending) (w : World) : Prop := ∃ v, e = .returned v ∧ V v w
/-- The call returns a value, and V holds of it and of the world behind the call. -/
def Ret (P : Program) (f : FuncId) (args : Array Value) (w : World) (V : Value → World → Prop) : Prop := Calls P f args w (Back V)

theorem Ret.mono {P : Program} {f : FuncId} {args : Array Value} {w : World} {V V' : Value → World → Prop} (h : Ret P f args w V) (hv : ∀ v w', V v w' → V' v w') : Ret P f args w V' :=
  Calls.mono h fun _ _ ⟨v, he, hV⟩ => ⟨v, he, hv _ _ hV⟩

/-- The fence of a round, or of none. -/
def RF (r : Option Nat) : Fence := { Fence.wide with round := r }
theorem calls_RF {r : Option Nat} {P : Program} {f : FuncId} {args : Array Value} {w : World} {R : Ending → World → Prop} {m : Nat} : CallsIn (RF r) m P f args w R ↔ Calls P f args w R := callsIn_wide (n := m)
theorem fn_RF {r : Option Nat} {P : Program} {o : Oper} {w : World} {ρ : Operand → Value} : ∀ f, o.about P w ρ = some f → (RF r).fn f := fun _ _ => trivial
/-- Of what kind a run is: of a function, or of a round; what is deferred; what is asked at its end. -/
structure RK where
  r : Option Nat
  ds : List Deferred
  post : (Value → World → Prop) → Exit → Act → World → Prop
  noPanic : ∀ V c a w, ¬ post V (.panic c) a w
  noGoto : ∀ V l a w, ¬ post V (.goto l) a w
  noOut : ∀ V a w, ¬ post V .outgrown a w
/-- The mark that a loop over a function leaves. -/
def mark (D : Nat) : Deferred := { target := .collected D, args := #[] }
def fnPost (P : Program) (fn : Func) (V : Value → World → Prop) : Exit → Act → World → Prop
  | .normal, a, w | .ret, a, w => LeavesInM (RF none) 0 P fn a.tmps (Back V) a.defers .returning w
  | _, _, _ => False
def RK.fn (P : Program) (fn : Func) (Ds : List Nat) : RK := ⟨none, Ds.map mark, fnPost P fn, fun _ _ _ _ h => h, fun _ _ _ _ h => h, fun _ _ _ h => h⟩
/-- A round comes to its end: true; it is left: by a return (false), or for a block outside (its number). -/
def roundEnd (V : Value → World → Prop) : Exit → Act → World → Prop
  | .normal, _, w => V (.bool true) w
  | .ret, _, w => V (.bool false) w
  | .exit id, _, w => V (.int .i64 (id : Nat)) w
  | _, _, _ => False
def RK.round (l : Nat) : RK := ⟨some l, [], roundEnd, fun _ _ _ _ h => h, fun _ _ _ _ h => h, fun _ _ _ h => h⟩
section
variable (P : Program) (K : RK) (n : Nat) (V : Value → World → Prop)
def Kont : List It → Exit → Act → World → Prop
  | [], e, a, w => K.post V e a w
  | .code c :: k, .normal, a, w => c.wpIn (RF K.r) 0 P (Kont k) a w
  | .ops all l :: k, .normal, a, w => wpListIn (RF K.r) 0 P all (Kont k) l a w
  | .blk _ :: k, .normal, a, w => Kont k .normal a w
  | .blk id :: k, .exit id', a, w => if id' = id then Kont k .normal a w else Kont k (.exit id') a w
  | .again S I :: _, .normal, a, w => ∃ vs, Holds K.ds n (S.zip vs) a ∧ vs.length = S.length ∧ I vs w
  | _ :: k, e, a, w => Kont k e a w
end

/-- From here on, whatever the temporaries hold besides what σ says, the run comes to its end as V says. -/
def Run (P : Program) (K : RK) (n : Nat) (V : Value → World → Prop) (k : List It) (σ : Env) (w : World) : Prop :=
  ∀ a : Act, Holds K.ds n σ a → Kont P K n V k .normal a w

def popTo (id : Nat) : List It → Option (List It)
  | [] => none
  | .blk id' :: k => bif Nat.beq id' id then some k else popTo id k
  | _ :: k => popTo id k

section rules
variable {P : Program} {K : RK} {n : Nat} {V : Value → World → Prop} {k k' : List It} {σ σ' : Env} {w : World}

theorem Run.weaken (hs : ∀ i v, Env.get σ' i = some v → Env.get σ i = some v) (h : Run P K n V k σ' w) : Run P K n V k σ w := fun a ha => h a (ha.sub hs)

theorem enter {fn : Func} {f : FuncId} {c : Code} {args : Array Value} (hf : P.funcs[f]? = some fn) (hb : fn.body = some c) (hn : fn.ntmps = n) (hm : Nat.ble args.size n = true)
    (h : Run P (RK.fn P fn []) n V [.code c] (Env.init 0 args.toList) w) : Ret P f args w V := by
  have hm' : args.size ≤ n := Nat.le_of_ble_eq_true hm
  refine (calls_RF (r := none) (m := 0)).1 (callsIn_of_wp_marks hf hb trivial ?_ rfl)
  rw [hn]
  have h0 : c.wpIn (RF none) 0 P (Kont P (RK.fn P fn []) n V []) _ w := h _ (Holds.init args n hm')
  refine wpIn_mono h0 fun e a w hq => ?_
  cases e with
  | normal => exact hq
  | ret => exact hq
  | _ => exact hq.elim

theorem run_seq {x y : Code} (h : Run P K n V (.code x :: .code y :: k) σ w) : Run P K n V (.code (.seq x y) :: k) σ w := by
  intro a ha
  refine wpIn_seq (wpIn_mono (h a ha) fun e a w hq => ?_)
  cases e <;> simpa [Kont, Exit.then] using hq
theorem run_skip (h : Run P K n V k σ w) : Run P K n V (.code .skip :: k) σ w := fun a ha => wpIn_skip (h a ha)
theorem run_block {id : Nat} {c : Code} (h : Run P K n V (.code c :: .blk id :: k) σ w) : Run P K n V (.code (.block id c) :: k) σ w := by
  intro a ha
  refine wpIn_block (wpIn_mono (h a ha) fun e a w hq => ?_)
  cases e <;> simpa [Kont, Exit.inBlock] using hq
theorem run_blk {id : Nat} (h : Run P K n V k σ w) : Run P K n V (.blk id :: k) σ w := fun a ha => h a ha
theorem kont_pop {id : Nat} : ∀ {k k' : List It}, popTo id k = some k' → ∀ a w, Kont P K n V k' .normal a w → Kont P K n V k (.exit id) a w
  | [], k', h, a, w, _ => by simp [popTo] at h
  | .code c :: k, k', h, a, w, hk => by simp only [popTo] at h; exact kont_pop h a w hk
  | .ops all l :: k, k', h, a, w, hk => by simp only [popTo] at h; exact kont_pop h a w hk
  | .again S I :: k, k', h, a, w, hk => by simp only [popTo] at h; exact kont_pop h a w hk
  | .blk id' :: k, k', h, a, w, hk => by
    simp only [popTo] at h
    by_cases hid : id' = id
    · subst hid
      simp at h
      subst h
      simpa [Kont] using hk
    · rw [nbeq_false hid] at h
      have hne : ¬ id = id' := fun e => hid e.symm
      simp only [Kont, hne, if_false]
      exact kont_pop h a w hk
theorem run_exit {id : Nat} (hp : popTo id k = some k') (h : Run P K n V k' σ w) : Run P K n V (.code (.exit id) :: k) σ w :=
  fun a ha => wpIn_exit (kont_pop hp a w (h a ha))
theorem kont_ret : ∀ {k : List It} (a : Act) (w : World), K.post V .ret a w → Kont P K n V k .ret a w
  | [], a, w, h => h
  | .code c :: k, a, w, h => by simp only [Kont]; exact kont_ret a w h
  | .ops all l :: k, a, w, h => by simp only [Kont]; exact kont_ret a w h
  | .again S I :: k, a, w, h => by simp only [Kont]; exact kont_ret a w h
  | .blk id' :: k, a, w, h => by simp only [Kont]; exact kont_ret a w h
theorem kont_panic {c : List PanicEntry} : ∀ {k : List It} (a : Act) (w : World), Kont P K n V k (.panic c) a w → False
  | [], a, w, h => K.noPanic _ _ _ _ h
  | .code c :: k, a, w, h => by simp only [Kont] at h; exact kont_panic a w h
  | .ops all l :: k, a, w, h => by simp only [Kont] at h; exact kont_panic a w h
  | .again S I :: k, a, w, h => by simp only [Kont] at h; exact kont_panic a w h
  | .blk id' :: k, a, w, h => by simp only [Kont] at h; exact kont_panic a w h
theorem kont_out : ∀ {k : List It} (a : Act) (w : World), Kont P K n V k .outgrown a w → False
  | [], a, w, h => K.noOut _ _ _ h
  | .code c :: k, a, w, h => by simp only [Kont] at h; exact kont_out a w h
  | .ops all l :: k, a, w, h => by simp only [Kont] at h; exact kont_out a w h
  | .again S I :: k, a, w, h => by simp only [Kont] at h; exact kont_out a w h
  | .blk id' :: k, a, w, h => by simp only [Kont] at h; exact kont_out a w h
/-- At a return: what the results hold. -/
def Outs (P : Program) (fn : Func) (n : Nat) (σ : Env) (w : World) (v : Value) : Prop := ∀ ds (a : Act), Holds ds n σ a → (results fn a.tmps).run P w = .ok v w
section
variable {fn : Func}
theorem outs0 (hr : fn.results = #[]) : Outs P fn n σ w (.tuple #[]) := fun _ a _ => results_none hr a.tmps P w
theorem outs1 {t : Nat} {v : Value} (hr : fn.results = #[.tmp t]) (hv : Env.get σ t = some v) : Outs P fn n σ w v := fun _ a ha => by
  rw [results_tmp hr, ha.get _ _ hv]
theorem outs2 {t u : Nat} {v x : Value} (hr : fn.results = #[.tmp t, .tmp u]) (hv : Env.get σ t = some v) (hx : Env.get σ u = some x) : Outs P fn n σ w (.tuple #[v, x]) := fun _ a ha => by
  rw [results_tmp2 hr, ha.get _ _ hv, ha.get _ _ hx]
end
theorem run_condT {c : Operand} {x y : Code} (hc : Env.ev σ c = some (.bool true)) (h : Run P K n V (.code x :: k) σ w) : Run P K n V (.code (.cond c x y) :: k) σ w :=
  fun a ha => wpIn_cond_true (ha.ev hc) (h a ha)
theorem run_condF {c : Operand} {x y : Code} (hc : Env.ev σ c = some (.bool false)) (h : Run P K n V (.code y :: k) σ w) : Run P K n V (.code (.cond c x y) :: k) σ w :=
  fun a ha => wpIn_cond_false (ha.ev hc) (h a ha)
theorem run_cond {c : Operand} {x y : Code} {b : Bool} (hc : Env.ev σ c = some (.bool b)) (ht : b = true → Run P K n V (.code x :: k) σ w) (hf : b = false → Run P K n V (.code y :: k) σ w) : Run P K n V (.code (.cond c x y) :: k) σ w :=
  fun a ha => wpIn_cond_split (ha.ev hc) (fun h => ht h a ha) (fun h => hf h a ha)
theorem run_region {id : Nat} {l : List Oper} (h : Run P K n V (.ops l.toArray l :: k) σ w) : Run P K n V (.code (.region id l.toArray false) :: k) σ w :=
  fun a ha => wpIn_region_lit (h a ha)
theorem run_nil {all : Array Oper} (h : Run P K n V k σ w) : Run P K n V (.ops all [] :: k) σ w := fun a ha => wpListIn_nil (h a ha)

/-! ### Loops -/
theorem run_again {S : List Nat} {I : List Value → World → Prop} {vs : List Value} (hg : Env.gets σ S = some vs) (hI : I vs w) : Run P K n V (.again S I :: k) σ w := by
  intro a ha
  refine ⟨vs, ha.sub (gets_zip hg), ?_, hI⟩
  have : ∀ {S : List Nat} {vs : List Value}, Env.gets σ S = some vs → vs.length = S.length := by
    intro S
    induction S with
    | nil => intro vs h; simp [Env.gets] at h; simp [h]
    | cons t S ih =>
      intro vs h
      simp only [Env.gets] at h
      cases h1 : Env.get σ t with
      | none => simp [h1] at h
      | some u =>
        cases h2 : Env.gets σ S with
        | none => simp [h1, h2] at h
        | some us => simp only [h1, h2, Option.bind_some, Option.map_some, Option.some.injEq] at h; subst h; simp [ih h2]
  exact this hg
theorem least {p : Nat → Prop} (h : ∃ n, p n) : ∃ n, p n ∧ ∀ m, p m → n ≤ m := by
  obtain ⟨n, hn⟩ := h
  induction n using Nat.strongRecOn with
  | _ n ih =>
    by_cases hx : ∃ m, m < n ∧ p m
    · obtain ⟨m, hm, hp⟩ := hx
      exact ih m hm hp
    · exact ⟨n, hn, fun m hp => Nat.le_of_not_lt fun hlt => hx ⟨m, hlt, hp⟩⟩
open Classical in
theorem wp_loop_fam {F : Fence} {m : Nat} {ι : Type} {c : Code} {Q : Exit → Act → World → Prop} (J : ι → Act → World → Prop) (μ : ι → Nat) {i0 : ι} {a : Act} {w : World} (h0 : J i0 a w)
    (round : ∀ i a w, J i a w → c.wpIn F m P (Exit.then (fun a' w' => ∃ j, J j a' w' ∧ μ j < μ i) Q) a w) : (Code.loop c).wpIn F m P Q a w := by
  let E : Act → World → Prop := fun a w => ∃ x, ∃ i, J i a w ∧ μ i = x
  let f : Act → World → Nat := fun a w => if h : E a w then Classical.choose (least h) else 0
  have fe : ∀ a w (h : E a w), f a w = Classical.choose (least h) := fun a w h => by simp only [f]; rw [dif_pos h]
  refine wpIn_loop E f ⟨_, i0, h0, rfl⟩ ?_
  intro a w hE
  have hs := Classical.choose_spec (least hE)
  rw [← fe a w hE] at hs
  obtain ⟨⟨i, hi, hm⟩, -⟩ := hs
  refine wpIn_mono (round i a w hi) fun e a' w' hq => ?_
  cases e with
  | normal =>
    obtain ⟨j, hj, hlt⟩ := hq
    have hE' : E a' w' := ⟨_, j, hj, rfl⟩
    have hs' := (Classical.choose_spec (least hE')).2 _ ⟨j, hj, rfl⟩
    rw [← fe a' w' hE'] at hs'
    exact ⟨hE', by omega⟩
  | _ => exact hq
/-- A loop: S, the slots that the rounds hand on (and those that are read besides); I: what holds of them at each round's head; μ falls. -/
theorem run_loop (S : List Nat) (I : List Value → World → Prop) (μ : List Value → World → Nat) {body : Code} {vs : List Value} (hg : Env.gets σ S = some vs) (h0 : I vs w)
    (hr : ∀ vs w, I vs w → Run P K n V (.code body :: .again S (fun vs' w' => I vs' w' ∧ μ vs' w' < μ vs w) :: k) (S.zip vs) w) : Run P K n V (.code (.loop body) :: k) σ w := by
  intro a ha
  refine wp_loop_fam (ι := List Value × World) (fun i a w => Holds K.ds n (S.zip i.1) a ∧ w = i.2 ∧ I i.1 w) (fun i => μ i.1 i.2) (i0 := (vs, w)) ⟨ha.sub (gets_zip hg), rfl, h0⟩ ?_
  rintro ⟨us, wr⟩ a' w' ⟨hh, hw, hI⟩
  simp only at hw
  subst hw
  refine wpIn_mono (hr us w' hI a' hh) fun e a'' w'' hq => ?_
  cases e with
  | normal =>
    obtain ⟨us', hh', _, hI', hlt⟩ := hq
    exact ⟨(us', w''), ⟨hh', rfl, hI'⟩, hlt⟩
  | _ => simpa [Kont, Exit.then] using hq
end rules
end Go.Vx
/-
  VX, THE STATE: memory as a walk sees it: G, what is frozen from here on (block by block); μ, the blocks that are ours, with what they hold. No world is named in a walk's goals.
-/
set_option linter.unusedVariables false
set_option linter.unusedSimpArgs false
namespace Go.Vx
open Go

abbrev GH := Nat → Option Obj
abbrev OH := List (Nat × Obj)

def GH.le (G G' : GH) : Prop := ∀ b o, G b = some o → G' b = some o
theorem GH.le_refl (G : GH) : GH.le G G := fun _ _ h => h
theorem GH.le_trans {G G' G'' : GH} (h : GH.le G G') (h' : GH.le G' G'') : GH.le G G'' := fun b o hb => h' b o (h b o hb)

structure Mem (G : GH) (μ : OH) (w : World) : Prop where
  g : ∀ b o, G b = some o → w.heap[b]? = some o
  own : ∀ b o, (b, o) ∈ μ → w.heap[b]? = some o
  nodup : (μ.map (·.1)).Nodup
  apart : ∀ b o, (b, o) ∈ μ → G b = none

/-- The world shows what is frozen and what is ours. -/
structure Sees (G : GH) (μ : OH) (w : World) : Prop where
  g : ∀ b o, G b = some o → w.heap[b]? = some o
  own : ∀ b o, (b, o) ∈ μ → w.heap[b]? = some o
theorem Mem.sees {G : GH} {μ : OH} {w : World} (h : Mem G μ w) : Sees G μ w := ⟨h.g, h.own⟩
theorem Mem.seesOf {G G0 : GH} {μ ν : OH} {w : World} (h : Mem G μ w) (hle : GH.le G0 G) (hs : ∀ e ∈ ν, e ∈ μ) : Sees G0 ν w :=
  ⟨fun b o hb => h.g b o (hle b o hb), fun b o hb => h.own b o (hs _ hb)⟩

structure Step (G : GH) (μ : OH) (w : World) (G' : GH) (μ' : OH) (w' : World) : Prop where
  mem : Mem G' μ' w'
  le : GH.le G G'
  os : w'.os = w.os
  tape : w'.tape = w.tape
  output : w'.output = w.output
  size : w.heap.size ≤ w'.heap.size
  same : ∀ b, b < w.heap.size → (∀ o, (b, o) ∉ μ) → w'.heap[b]? = w.heap[b]?
  mine : ∀ b o, (b, o) ∈ μ' → (∃ o', (b, o') ∈ μ) ∨ w.heap.size ≤ b
  ours : ∀ b o, G' b = some o → (∃ o', G b = some o') ∨ (∃ o', (b, o') ∈ μ) ∨ w.heap.size ≤ b

theorem lt_of_heap {w : World} {b : Nat} {o : Obj} (h : w.heap[b]? = some o) : b < w.heap.size := by
  rcases Nat.lt_or_ge b w.heap.size with h' | h'
  · exact h'
  · rw [Array.getElem?_eq_none h'] at h; cases h

theorem Step.refl {G : GH} {μ : OH} {w : World} (h : Mem G μ w) : Step G μ w G μ w :=
  ⟨h, GH.le_refl _, rfl, rfl, rfl, Nat.le_refl _, fun _ _ _ => rfl, fun _ o h => .inl ⟨o, h⟩, fun _ o h => .inl ⟨o, h⟩⟩
theorem Step.trans {G G' G'' : GH} {μ μ' μ'' : OH} {w w' w'' : World} (h : Step G μ w G' μ' w') (k : Step G' μ' w' G'' μ'' w'') : Step G μ w G'' μ'' w'' where
  mem := k.mem
  le := GH.le_trans h.le k.le
  os := k.os.trans h.os
  tape := k.tape.trans h.tape
  output := k.output.trans h.output
  size := Nat.le_trans h.size k.size
  same := fun b hb hn => by
    refine (k.same b (Nat.lt_of_lt_of_le hb h.size) fun o ho => ?_).trans (h.same b hb hn)
    rcases h.mine b o ho with ⟨o', h'⟩ | h'
    · exact hn o' h'
    · omega
  mine := fun b o ho => by
    rcases k.mine b o ho with ⟨o', h'⟩ | h'
    · exact h.mine b o' h'
    · exact .inr (Nat.le_trans h.size h')
  ours := fun b o ho => by
    rcases k.ours b o ho with ⟨o', h'⟩ | ⟨o', h'⟩ | h'
    · exact h.ours b o' h'
    · rcases h.mine b o' h' with h2 | h2
      · exact .inr (.inl h2)
      · exact .inr (.inr h2)
    · exact .inr (.inr (Nat.le_trans h.size h'))

/-- What is ours may be fewer blocks. -/
theorem Step.drop {G G' : GH} {μ μ' μ'' : OH} {w w' : World} (h : Step G μ w G' μ' w') (hs : List.Sublist μ'' μ') : Step G μ w G' μ'' w' where
  mem := ⟨h.mem.g, fun b o ho => h.mem.own b o (hs.subset ho), h.mem.nodup.sublist (hs.map _), fun b o ho => h.mem.apart b o (hs.subset ho)⟩
  le := h.le
  os := h.os
  tape := h.tape
  output := h.output
  size := h.size
  same := h.same
  mine := fun b o ho => h.mine b o (hs.subset ho)
  ours := h.ours
theorem Mem.perm {G : GH} {μ μ' : OH} {w : World} (h : Mem G μ w) (hp : μ.Perm μ') : Mem G μ' w :=
  ⟨h.g, fun b o ho => h.own b o (hp.mem_iff.2 ho), (hp.map _).nodup_iff.1 h.nodup, fun b o ho => h.apart b o (hp.mem_iff.2 ho)⟩
theorem Step.perm {G G' : GH} {μ μ' μ'' : OH} {w w' : World} (h : Step G μ w G' μ' w') (hp : μ'.Perm μ'') : Step G μ w G' μ'' w' where
  mem := h.mem.perm hp
  le := h.le
  os := h.os
  tape := h.tape
  output := h.output
  size := h.size
  same := h.same
  mine := fun b o ho => h.mine b o (hp.mem_iff.2 ho)
  ours := h.ours
theorem Step.permL {G G' : GH} {μ μ' ν : OH} {w w' : World} (h : Step G μ w G' μ' w') (hp : μ.Perm ν) : Step G ν w G' μ' w' where
  mem := h.mem
  le := h.le
  os := h.os
  tape := h.tape
  output := h.output
  size := h.size
  same := fun b hb hn => h.same b hb fun o ho => hn o (hp.mem_iff.1 ho)
  mine := fun b o ho => by
    rcases h.mine b o ho with ⟨o', h'⟩ | h'
    · exact .inl ⟨o', hp.mem_iff.1 h'⟩
    · exact .inr h'
  ours := fun b o ho => by
    rcases h.ours b o ho with h' | ⟨o', h'⟩ | h'
    · exact .inl h'
    · exact .inr (.inl ⟨o', hp.mem_iff.1 h'⟩)
    · exact .inr (.inr h')

theorem Mem.split {G : GH} {μ ν : OH} {w : World} (h : Mem G (μ ++ ν) w) : Mem G μ w ∧ Mem G ν w := by
  obtain ⟨hg, ho, hn, ha⟩ := h
  rw [List.map_append, List.nodup_append] at hn
  exact ⟨⟨hg, fun b o hb => ho b o (List.mem_append_left _ hb), hn.1, fun b o hb => ha b o (List.mem_append_left _ hb)⟩,
    ⟨hg, fun b o hb => ho b o (List.mem_append_right _ hb), hn.2.1, fun b o hb => ha b o (List.mem_append_right _ hb)⟩⟩
/-- THE FRAME: a step of some of our blocks leaves the others as they are. -/
theorem Step.frame {G G' : GH} {μ μ' ν : OH} {w w' : World} (h : Step G μ w G' μ' w') (hm : Mem G (μ ++ ν) w) : Step G (μ ++ ν) w G' (μ' ++ ν) w' := by
  obtain ⟨hμ, hν⟩ := hm.split
  have hn := hm.nodup
  rw [List.map_append, List.nodup_append] at hn
  have notin : ∀ b o, (b, o) ∈ ν → ∀ o', (b, o') ∉ μ := fun b o hb o' hb' =>
    hn.2.2 b (List.mem_map.2 ⟨_, hb', rfl⟩) b (List.mem_map.2 ⟨_, hb, rfl⟩) rfl
  have hlt : ∀ b o, (b, o) ∈ ν → b < w.heap.size := fun b o hb => lt_of_heap (hν.own b o hb)
  refine ⟨⟨h.mem.g, fun b o hb => ?_, ?_, fun b o hb => ?_⟩, h.le, h.os, h.tape, h.output, h.size, fun b hb hno => h.same b hb fun o ho => hno o (List.mem_append_left _ ho), fun b o hb => ?_, fun b o hb => ?_⟩
  · rcases List.mem_append.1 hb with hb | hb
    · exact h.mem.own b o hb
    · rw [h.same b (hlt b o hb) (notin b o hb)]; exact hν.own b o hb
  · rw [List.map_append, List.nodup_append]
    refine ⟨h.mem.nodup, hn.2.1, fun x hx y hy hxy => ?_⟩
    subst hxy
    obtain ⟨⟨b, o⟩, hb, rfl⟩ := List.mem_map.1 hx
    obtain ⟨⟨b', o'⟩, hb', he⟩ := List.mem_map.1 hy
    simp only at he
    subst he
    rcases h.mine _ _ hb with ⟨o2, h2⟩ | h2
    · exact notin _ _ hb' _ h2
    · have := hlt _ _ hb'; omega
  · rcases List.mem_append.1 hb with hb | hb
    · exact h.mem.apart b o hb
    · cases hg : G' b with
      | none => rfl
      | some o2 =>
        rcases h.ours b o2 hg with ⟨o3, h3⟩ | ⟨o3, h3⟩ | h3
        · rw [hν.apart b o hb] at h3; cases h3
        · exact absurd h3 (notin b o hb o3)
        · have := hlt b o hb; omega
  · rcases List.mem_append.1 hb with hb | hb
    · rcases h.mine b o hb with ⟨o', h'⟩ | h'
      · exact .inl ⟨o', List.mem_append_left _ h'⟩
      · exact .inr h'
    · exact .inl ⟨o, List.mem_append_right _ hb⟩
  · rcases h.ours b o hb with h' | ⟨o', h'⟩ | h'
    · exact .inl h'
    · exact .inr (.inl ⟨o', List.mem_append_left _ h'⟩)
    · exact .inr (.inr h')

/-! ### Elementary steps -/
theorem Step.alloc {G : GH} {μ : OH} {w : World} (h : Mem G μ w) (o : Obj) : Step G μ w G ((w.heap.size, o) :: μ) (w.alloc o) := by
  have hold : ∀ b, b < w.heap.size → (w.alloc o).heap[b]? = w.heap[b]? := fun b hb => RowKit.Below.heap_alloc w o b hb
  have hnew : (w.alloc o).heap[w.heap.size]? = some o := by show (w.heap.push o)[w.heap.size]? = _; simp
  refine ⟨⟨fun b o' hb => ?_, fun b o' hb => ?_, ?_, fun b o' hb => ?_⟩, GH.le_refl _, rfl, rfl, rfl, by rw [World.size_alloc]; omega, fun b hb _ => hold b hb, fun b o' hb => ?_, fun b o' hb => .inl ⟨o', hb⟩⟩
  · rw [hold b (lt_of_heap (h.g b o' hb))]; exact h.g b o' hb
  · rcases List.mem_cons.1 hb with he | hb
    · cases he; exact hnew
    · rw [hold b (lt_of_heap (h.own b o' hb))]; exact h.own b o' hb
  · rw [List.map_cons, List.nodup_cons]
    refine ⟨fun hm => ?_, h.nodup⟩
    obtain ⟨⟨b, o'⟩, hb, he⟩ := List.mem_map.1 hm
    simp only at he
    have := lt_of_heap (h.own b o' hb); omega
  · rcases List.mem_cons.1 hb with he | hb
    · cases he
      cases hg : G w.heap.size with
      | none => rfl
      | some o2 => have := lt_of_heap (h.g _ _ hg); omega
    · exact h.apart b o' hb
  · rcases List.mem_cons.1 hb with he | hb
    · cases he; exact .inr (Nat.le_refl _)
    · exact .inl ⟨o', hb⟩
theorem Step.drew {G : GH} {μ : OH} {w : World} (h : Mem G μ w) (n : Nat) : Step G μ w G μ (w.drewN n) :=
  ⟨⟨h.g, h.own, h.nodup, h.apart⟩, GH.le_refl _, rfl, rfl, rfl, Nat.le_refl _, fun _ _ _ => rfl, fun _ o h => .inl ⟨o, h⟩, fun _ o h => .inl ⟨o, h⟩⟩
/-- One of our blocks holds something else. -/
inductive Upd (b : Nat) (o' : Obj) : OH → OH → Prop
  | here (o : Obj) (μ : OH) : Upd b o' ((b, o) :: μ) ((b, o') :: μ)
  | there (e : Nat × Obj) {μ μ' : OH} (h : Upd b o' μ μ') : Upd b o' (e :: μ) (e :: μ')
theorem Upd.app {b : Nat} {o' : Obj} {μ μ' : OH} (ν : OH) (h : Upd b o' μ μ') : Upd b o' (ν ++ μ) (ν ++ μ') := by
  induction ν with
  | nil => exact h
  | cons e ν ih => exact .there e ih
theorem Upd.keys {b : Nat} {o' : Obj} {μ μ' : OH} (h : Upd b o' μ μ') : μ'.map (·.1) = μ.map (·.1) := by
  induction h with
  | here o μ => rfl
  | there e h ih => simp [ih]
theorem Upd.mem {b : Nat} {o' : Obj} {μ μ' : OH} (h : Upd b o' μ μ') (hn : (μ.map (·.1)).Nodup) {c : Nat} {o : Obj} (hc : (c, o) ∈ μ') : (c = b ∧ o = o') ∨ (c ≠ b ∧ (c, o) ∈ μ) := by
  induction h with
  | here o2 μ =>
    rcases List.mem_cons.1 hc with he | hm
    · cases he; exact .inl ⟨rfl, rfl⟩
    · rw [List.map_cons, List.nodup_cons] at hn
      refine .inr ⟨fun e => ?_, List.mem_cons_of_mem _ hm⟩
      subst e
      exact hn.1 (List.mem_map.2 ⟨_, hm, rfl⟩)
  | there e h ih =>
    rw [List.map_cons, List.nodup_cons] at hn
    rcases List.mem_cons.1 hc with he | hc
    · subst he
      by_cases hb : c = b
      · subst hb
        exfalso
        refine hn.1 ?_
        clear ih hc hn
        induction h with
        | here o2 μ => simp
        | there e h ih => exact List.mem_cons_of_mem _ ih
      · exact .inr ⟨hb, List.mem_cons_self ..⟩
    · rcases ih hn.2 hc with h1 | h1
      · exact .inl h1
      · exact .inr ⟨h1.1, List.mem_cons_of_mem _ h1.2⟩
theorem Upd.was {b : Nat} {o' : Obj} {μ μ' : OH} (h : Upd b o' μ μ') : ∃ o, (b, o) ∈ μ := by
  induction h with
  | here o μ => exact ⟨o, List.mem_cons_self ..⟩
  | there e h ih => exact ⟨ih.choose, List.mem_cons_of_mem _ ih.choose_spec⟩
theorem Step.upd {G : GH} {μ μ' : OH} {w w' : World} {b : Nat} {o' : Obj} (h : Mem G μ w) (hu : Upd b o' μ μ') (hos : w'.os = w.os) (ht : w'.tape = w.tape) (hout : w'.output = w.output)
    (hsz : w'.heap.size = w.heap.size) (hb : w'.heap[b]? = some o') (hother : ∀ c, c ≠ b → w'.heap[c]? = w.heap[c]?) : Step G μ w G μ' w' := by
  obtain ⟨o0, h0⟩ := hu.was
  refine ⟨⟨fun c o hc => ?_, fun c o hc => ?_, by rw [hu.keys]; exact h.nodup, fun c o hc => ?_⟩, GH.le_refl _, hos, ht, hout, by omega, fun c hc hno => ?_, fun c o hc => ?_, fun c o hc => .inl ⟨o, hc⟩⟩
  · rw [hother c fun e => by subst e; rw [h.apart _ _ h0] at hc; cases hc]; exact h.g c o hc
  · rcases hu.mem h.nodup hc with ⟨rfl, rfl⟩ | ⟨hne, hm⟩
    · exact hb
    · rw [hother c hne]; exact h.own c o hm
  · rcases hu.mem h.nodup hc with ⟨rfl, rfl⟩ | ⟨hne, hm⟩
    · exact h.apart _ _ h0
    · exact h.apart _ _ hm
  · exact hother c fun e => by subst e; exact hno _ h0
  · rcases hu.mem h.nodup hc with ⟨rfl, rfl⟩ | ⟨hne, hm⟩
    · exact .inl ⟨_, h0⟩
    · exact .inl ⟨_, hm⟩
/-- What is ours is frozen from here on. -/
def GH.put (G : GH) (ν : OH) : GH := fun b => match G b with | some o => some o | none => (ν.find? fun e => e.1 == b).map (·.2)
theorem GH.le_put (G : GH) (ν : OH) : GH.le G (GH.put G ν) := fun b o h => by simp [GH.put, h]
theorem GH.put_mem {G : GH} {ν : OH} {b : Nat} {o : Obj} (hn : (ν.map (·.1)).Nodup) (ha : G b = none) (h : (b, o) ∈ ν) : GH.put G ν b = some o := by
  simp only [GH.put, ha]
  induction ν with
  | nil => cases h
  | cons e ν ih =>
    rw [List.map_cons, List.nodup_cons] at hn
    rcases List.mem_cons.1 h with he | hm
    · subst he; simp
    · have hne : e.1 ≠ b := fun he => hn.1 (he ▸ List.mem_map.2 ⟨_, hm, rfl⟩)
      simp only [List.find?_cons]
      have : (e.1 == b) = false := by simpa using hne
      rw [this]
      exact ih hn.2 hm
theorem GH.put_some {G : GH} {ν : OH} {b : Nat} {o : Obj} (h : GH.put G ν b = some o) : G b = some o ∨ (b, o) ∈ ν := by
  simp only [GH.put] at h
  cases hg : G b with
  | some o' => rw [hg] at h; exact .inl h
  | none =>
    rw [hg] at h
    simp only [Option.map_eq_some_iff] at h
    obtain ⟨e, he, rfl⟩ := h
    have h1 := List.mem_of_find?_eq_some he
    have h2 := List.find?_some he
    simp only [beq_iff_eq] at h2
    subst h2
    exact .inr h1
theorem Step.freeze {G G' : GH} {μ μ' ν : OH} {w w' : World} (h : Step G μ w G' (ν ++ μ') w') : Step G μ w (GH.put G' ν) μ' w' := by
  have hn := h.mem.nodup
  rw [List.map_append, List.nodup_append] at hn
  refine ⟨⟨fun b o hb => ?_, fun b o hb => h.mem.own b o (List.mem_append_right _ hb), hn.2.1, fun b o hb => ?_⟩, GH.le_trans h.le (GH.le_put _ _), h.os, h.tape, h.output, h.size, h.same, fun b o hb => h.mine b o (List.mem_append_right _ hb), fun b o hb => ?_⟩
  · rcases GH.put_some hb with hb | hb
    · exact h.mem.g b o hb
    · exact h.mem.own b o (List.mem_append_left _ hb)
  · cases hg : GH.put G' ν b with
    | none => rfl
    | some o2 =>
      rcases GH.put_some hg with h2 | h2
      · rw [h.mem.apart b o (List.mem_append_right _ hb)] at h2; cases h2
      · exact absurd rfl (hn.2.2 b (List.mem_map.2 ⟨_, h2, rfl⟩) b (List.mem_map.2 ⟨_, hb, rfl⟩))
  · rcases GH.put_some hb with hb | hb
    · exact h.ours b o hb
    · rcases h.mine b o (List.mem_append_left _ hb) with h1 | h1
      · exact .inr (.inl h1)
      · exact .inr (.inr h1)

/-! ### Contracts, and the judgement of a walk -/
/-- THE CONTRACT: whatever the world, if G is frozen there and the blocks of μ are there, the call returns, has written nothing but μ's blocks and its own, and Φ says what it returns, what is frozen then (G at least), and which blocks are the caller's then. -/
def Con (P : Program) (f : FuncId) (args : Array Value) (G : GH) (μ : OH) (Φ : Value → GH → OH → Prop) : Prop :=
  ∀ w, Mem G μ w → Ret P f args w fun v w' => ∃ G' μ', Step G μ w G' μ' w' ∧ Φ v G' μ'

theorem Con.mono {P : Program} {f : FuncId} {args : Array Value} {G : GH} {μ : OH} {Φ Φ' : Value → GH → OH → Prop} (h : Con P f args G μ Φ) (hv : ∀ v G' μ', Φ v G' μ' → Φ' v G' μ') : Con P f args G μ Φ' :=
  fun w hw => (h w hw).mono fun _ _ ⟨G', μ', hs, hΦ⟩ => ⟨G', μ', hs, hv _ _ _ hΦ⟩

structure Base where
  G : GH
  μ : OH
  w : World
  rk : RK
/-- The run is that of function fn, from whose loops over functions the marks Ds were left. -/
class FnB (P : Program) (fn : Func) (B : Base) (Ds : outParam (List Nat)) : Prop where
  h : B.rk = RK.fn P fn Ds
/-- The run is that of a round of loop l. -/
class RdB (B : Base) (l : outParam Nat) : Prop where
  h : B.rk = RK.round l
def Fin (B : Base) (Φ : Value → GH → OH → Prop) (v : Value) (w : World) : Prop := ∃ G μ, Step B.G B.μ B.w G μ w ∧ Φ v G μ
def Vc (P : Program) (fn : Func) (n : Nat) (B : Base) (Φ : Value → GH → OH → Prop) (k : List It) (σ : Env) (G : GH) (μ : OH) : Prop :=
  ∀ w, Step B.G B.μ B.w G μ w → Run P B.rk n (Fin B Φ) k σ w

section
variable {P : Program} {fn : Func} {n : Nat} {B : Base} {Φ : Value → GH → OH → Prop} {k k' : List It} {σ σ' : Env} {G : GH} {μ : OH}

theorem v_enter {f : FuncId} {c : Code} {args : Array Value} (hf : P.funcs[f]? = some fn) (hb : fn.body = some c) (hn : fn.ntmps = n) (hm : Nat.ble args.size n = true)
    (h : ∀ (B : Base) [FnB P fn B []], Vc P fn n B Φ [.code c] (Env.init 0 args.toList) G μ) : Con P f args G μ Φ :=
  fun w hw => enter hf hb hn hm (@h ⟨G, μ, w, RK.fn P fn []⟩ ⟨rfl⟩ w (Step.refl hw))

theorem v_seq {x y : Code} (h : Vc P fn n B Φ (.code x :: .code y :: k) σ G μ) : Vc P fn n B Φ (.code (.seq x y) :: k) σ G μ := fun w hw => run_seq (h w hw)
theorem v_skip (h : Vc P fn n B Φ k σ G μ) : Vc P fn n B Φ (.code .skip :: k) σ G μ := fun w hw => run_skip (h w hw)
theorem v_block {id : Nat} {c : Code} (h : Vc P fn n B Φ (.code c :: .blk id :: k) σ G μ) : Vc P fn n B Φ (.code (.block id c) :: k) σ G μ := fun w hw => run_block (h w hw)
theorem v_blk {id : Nat} (h : Vc P fn n B Φ k σ G μ) : Vc P fn n B Φ (.blk id :: k) σ G μ := fun w hw => run_blk (h w hw)
theorem v_exit {id : Nat} (hp : popTo id k = some k') (h : Vc P fn n B Φ k' σ G μ) : Vc P fn n B Φ (.code (.exit id) :: k) σ G μ := fun w hw => run_exit hp (h w hw)
theorem v_condT {c : Operand} {x y : Code} (hc : Env.ev σ c = some (.bool true)) (h : Vc P fn n B Φ (.code x :: k) σ G μ) : Vc P fn n B Φ (.code (.cond c x y) :: k) σ G μ := fun w hw => run_condT hc (h w hw)
theorem v_condF {c : Operand} {x y : Code} (hc : Env.ev σ c = some (.bool false)) (h : Vc P fn n B Φ (.code y :: k) σ G μ) : Vc P fn n B Φ (.code (.cond c x y) :: k) σ G μ := fun w hw => run_condF hc (h w hw)
theorem v_cond {c : Operand} {x y : Code} {b : Bool} (hc : Env.ev σ c = some (.bool b)) (ht : b = true → Vc P fn n B Φ (.code x :: k) σ G μ) (hf : b = false → Vc P fn n B Φ (.code y :: k) σ G μ) : Vc P fn n B Φ (.code (.cond c x y) :: k) σ G μ :=
  fun w hw => run_cond hc (fun hb => ht hb w hw) (fun hb => hf hb w hw)
theorem v_region {id : Nat} {l : List Oper} (h : Vc P fn n B Φ (.ops l.toArray l :: k) σ G μ) : Vc P fn n B Φ (.code (.region id l.toArray false) :: k) σ G μ := fun w hw => run_region (h w hw)
theorem v_nil {all : Array Oper} (h : Vc P fn n B Φ k σ G μ) : Vc P fn n B Φ (.ops all [] :: k) σ G μ := fun w hw => run_nil (h w hw)
/-- What the function's results hold: no memory is read for it. -/
def OutsA (P : Program) (fn : Func) (n : Nat) (σ : Env) (v : Value) : Prop := ∀ w, Outs P fn n σ w v
theorem outsA0 (hr : fn.results = #[]) : OutsA P fn n σ (.tuple #[]) := fun _ => outs0 hr
theorem outsA1 {t : Nat} {v : Value} (hr : fn.results = #[.tmp t]) (hv : Env.get σ t = some v) : OutsA P fn n σ v := fun _ => outs1 hr hv
theorem outsA2 {t u : Nat} {v x : Value} (hr : fn.results = #[.tmp t, .tmp u]) (hv : Env.get σ t = some v) (hx : Env.get σ u = some x) : OutsA P fn n σ (.tuple #[v, x]) := fun _ => outs2 hr hv hx
/-- The block of a mark. -/
def dO (D : Nat) : Nat × Obj := (D, .deferred (some []))
theorem leaves {tmps : Array Value} {G0 : GH} {μ0 : OH} {w0 : World} {v : Value} {Φ : Value → GH → OH → Prop} {G : GH} : ∀ (Ds : List Nat) {w : World} {μ1 ν : OH}, Step G0 μ0 w0 G (Ds.map dO ++ μ1) w → (∀ w', Sees G μ1 w' → (results fn tmps).run P w' = .ok v w') → List.Sublist ν μ1 → Φ v G ν →
    LeavesInM (RF none) 0 P fn tmps (Back fun v w => ∃ G μ, Step G0 μ0 w0 G μ w ∧ Φ v G μ) (Ds.map mark) .returning w
  | [], w, μ1, ν, hst, ho, hs, hΦ => ⟨v, ho w (by have := hst.mem.sees; simpa using this), v, rfl, G, ν, (by simpa using hst : Step G0 μ0 w0 G μ1 w).drop hs, hΦ⟩
  | D :: Ds, w, μ1, ν, hst, ho, hs, hΦ => by
    have hD : w.heap[D]? = some (.deferred (some [])) := hst.mem.own D _ (by simp [dO])
    have hlt := lt_of_heap hD
    have hst2 : Step G0 μ0 w0 G ((D, .deferred none) :: (Ds.map dO ++ μ1)) (w.putObj D (.deferred none)) :=
      hst.trans (Step.upd hst.mem (Upd.here _ _) rfl rfl rfl (by simp) (World.putObj_heap_same hlt) (fun c hc => World.putObj_heap_other hc))
    exact ⟨by simp, .inl ⟨D, _, rfl, run_takeDeferred hD, leaves Ds (hst2.drop (List.sublist_cons_self _ _)) ho hs hΦ⟩⟩
theorem fn_post {Ds : List Nat} [hB : FnB P fn B Ds] {v : Value} {μ1 ν : OH} {a : Act} {w : World} (hw : Step B.G B.μ B.w G μ w) (ha : Holds B.rk.ds n σ a) (ho : ∀ w', Sees G μ1 w' → (results fn a.tmps).run P w' = .ok v w') (hp : μ.Perm (Ds.map dO ++ μ1)) (hs : List.Sublist ν μ1) (h : Φ v G ν) :
    fnPost P fn (Fin B Φ) .ret a w := by
  have hd : a.defers = Ds.map mark := by rw [ha.defers, hB.h]; rfl
  show LeavesInM _ _ _ _ _ _ a.defers _ _
  rw [hd]
  exact leaves Ds (hw.perm hp) ho hs h
/-- The end, of whatever function: the blocks of its marks are of no use any more; ν are the blocks that go to the caller. -/
theorem v_retD {Ds : List Nat} [hB : FnB P fn B Ds] {v : Value} {μ1 : OH} (ν : OH) (ho : ∀ ds (a : Act), Holds ds n σ a → ∀ w, Sees G μ1 w → (results fn a.tmps).run P w = .ok v w) (hp : μ.Perm (Ds.map dO ++ μ1)) (hs : List.Sublist ν μ1) (h : Φ v G ν) : Vc P fn n B Φ (.code .ret :: k) σ G μ :=
  fun w hw a ha => wpIn_ret (kont_ret a w (by
    have := fn_post (P := P) (fn := fn) (Φ := Φ) hw ha (ho _ a ha) hp hs h
    rw [hB.h]
    exact this))
theorem v_endD {Ds : List Nat} [hB : FnB P fn B Ds] {v : Value} {μ1 : OH} (ν : OH) (ho : ∀ ds (a : Act), Holds ds n σ a → ∀ w, Sees G μ1 w → (results fn a.tmps).run P w = .ok v w) (hp : μ.Perm (Ds.map dO ++ μ1)) (hs : List.Sublist ν μ1) (h : Φ v G ν) : Vc P fn n B Φ [] σ G μ :=
  fun w hw a ha => by
    have : fnPost P fn (Fin B Φ) .ret a w := fn_post (P := P) (fn := fn) (Φ := Φ) hw ha (ho _ a ha) hp hs h
    show B.rk.post (Fin B Φ) .normal a w
    rw [hB.h]
    exact this
/-- The end: ν are the blocks that go to the caller. -/
theorem v_ret [hB : FnB P fn B []] {v : Value} (ν : OH) (ho : OutsA P fn n σ v) (hs : List.Sublist ν μ) (h : Φ v G ν) : Vc P fn n B Φ (.code .ret :: k) σ G μ :=
  v_retD (Ds := []) ν (fun ds a ha w _ => ho w ds a ha) (List.Perm.refl _) hs h
theorem v_end [hB : FnB P fn B []] {v : Value} (ν : OH) (ho : OutsA P fn n σ v) (hs : List.Sublist ν μ) (h : Φ v G ν) : Vc P fn n B Φ [] σ G μ :=
  v_endD (Ds := []) ν (fun ds a ha w _ => ho w ds a ha) (List.Perm.refl _) hs h
/-- A round's end: it goes on; it is left by a return. -/
theorem v_endR {l : Nat} [hB : RdB B l] (ν : OH) (hs : List.Sublist ν μ) (h : Φ (.bool true) G ν) : Vc P fn n B Φ [] σ G μ :=
  fun w hw a ha => by
    show B.rk.post (Fin B Φ) .normal a w
    rw [hB.h]
    exact ⟨G, ν, hw.drop hs, h⟩
/-- A loop: S: the slots that are handed on or read; J: what holds of them, of what is frozen and of what is ours. -/
theorem v_loop (S : List Nat) (J : List Value → GH → OH → Prop) (m : List Value → Nat) {body : Code} {vs : List Value} (hg : Env.gets σ S = some vs) (h0 : J vs G μ)
    (hr : ∀ vs G μ, J vs G μ → Vc P fn n B Φ (.code body :: .again S (fun vs' w' => (∃ G' μ', J vs' G' μ' ∧ Step B.G B.μ B.w G' μ' w') ∧ m vs' < m vs) :: k) (S.zip vs) G μ) : Vc P fn n B Φ (.code (.loop body) :: k) σ G μ := by
  intro w hw
  refine run_loop S (fun vs w => ∃ G μ, J vs G μ ∧ Step B.G B.μ B.w G μ w) (fun vs _ => m vs) hg ⟨G, μ, h0, hw⟩ ?_
  rintro us wr ⟨G', μ', hJ, hS⟩
  exact hr us G' μ' hJ wr hS
theorem v_again {S : List Nat} {J : List Value → GH → OH → Prop} {m : List Value → Nat} {N : Nat} {vs : List Value} (hg : Env.gets σ S = some vs) (hJ : J vs G μ) (hm : m vs < N) :
    Vc P fn n B Φ (.again S (fun vs' w' => (∃ G' μ', J vs' G' μ' ∧ Step B.G B.μ B.w G' μ' w') ∧ m vs' < N) :: k) σ G μ :=
  fun _ hw => run_again hg ⟨⟨G, μ, hJ, hw⟩, hm⟩
theorem v_perm {ν : OH} (hp : μ.Perm ν) (h : Vc P fn n B Φ k σ G ν) : Vc P fn n B Φ k σ G μ := fun w hw => h w (hw.perm hp)
theorem v_drop {ν : OH} (hs : List.Sublist ν μ) (h : Vc P fn n B Φ k σ G ν) : Vc P fn n B Φ k σ G μ := fun w hw => h w (hw.drop hs)
theorem v_freeze {ν : OH} (h : ∀ G', GH.le G G' → (∀ b o, (b, o) ∈ ν → G' b = some o) → Vc P fn n B Φ k σ G' μ) : Vc P fn n B Φ k σ G (ν ++ μ) := fun w hw => by
  have hn := hw.mem.nodup
  rw [List.map_append, List.nodup_append] at hn
  exact h (GH.put G ν) (GH.le_put _ _) (fun b o hb => GH.put_mem hn.1 (hw.mem.apart b o (List.mem_append_left _ hb)) hb) w hw.freeze
theorem v_weaken (hs : ∀ i v, Env.get σ' i = some v → Env.get σ i = some v) (h : Vc P fn n B Φ k σ' G μ) : Vc P fn n B Φ k σ G μ := fun w hw => (h w hw).weaken hs
end
attribute [irreducible] Vc Con
end Go.Vx
/-
  VX, THE OPERATIONS THAT TOUCH NO MEMORY.
-/
set_option linter.unusedVariables false
set_option linter.unusedSimpArgs false
namespace Go.Vx
open Go
attribute [local semireducible] Vc Con

def Agree (σ : Env) (ρ : Operand → Value) : Prop := ∀ x v, Env.ev σ x = some v → ρ x = v
theorem Holds.agree {ds : List Deferred} {n : Nat} {σ : Env} {a : Act} (h : Holds ds n σ a) : Agree σ a.eval := fun _ _ hx => h.ev hx

/-- The operation yields v and leaves the world alone, whatever the world. -/
def PureOp (P : Program) (op : Op) (ty : TypeId) (σ : Env) (v : Value) : Prop :=
  ∀ dst pos af g ρ, Agree σ ρ → ∀ w, (execOp ρ ⟨dst, op, ty, pos, af, g⟩).run P w = .ok (.value v) w
/-- The operation yields v and leaves the world alone, wherever G is frozen and μ is there. -/
def ReadOp (P : Program) (op : Op) (ty : TypeId) (σ : Env) (G : GH) (μ : OH) (v : Value) : Prop :=
  ∀ dst pos af g ρ, Agree σ ρ → ∀ w, Sees G μ w → (execOp ρ ⟨dst, op, ty, pos, af, g⟩).run P w = .ok (.value v) w
/-- The operation, or the call, moves from (G, μ) to some (G', μ') and yields some v, of which Ψ holds. -/
def MoveOp (P : Program) (op : Op) (ty : TypeId) (σ : Env) (G : GH) (μ : OH) (Ψ : Value → GH → OH → Prop) : Prop :=
  ∀ dst pos af g ρ, Agree σ ρ → ∀ w, Mem G μ w → ∀ (a : Act) (K : Act → World → Prop) (Q : Exit → Act → World → Prop),
    (∀ v w' G' μ', Step G μ w G' μ' w' → Ψ v G' μ' → K (a.put dst v) w') → Oper.upon P ⟨dst, op, ty, pos, af, g⟩ a K Q ((execOp ρ ⟨dst, op, ty, pos, af, g⟩).run P w)
/-- A test's answer; no 'rfl' looks into it. -/
def dec (p : Prop) [Decidable p] : Bool := decide p
theorem dec_true {p : Prop} [Decidable p] : dec p = true ↔ p := decide_eq_true_iff
theorem dec_false {p : Prop} [Decidable p] : dec p = false ↔ ¬ p := decide_eq_false_iff_not
theorem dec_pos {p : Prop} [Decidable p] (h : p) : dec p = true := decide_eq_true h
theorem dec_neg {p : Prop} [Decidable p] (h : ¬ p) : dec p = false := decide_eq_false h
theorem PureOp.read {P : Program} {op : Op} {ty : TypeId} {σ : Env} {G : GH} {μ : OH} {v : Value} (h : PureOp P op ty σ v) : ReadOp P op ty σ G μ v := fun d p af g ρ hρ w _ => h d p af g ρ hρ w
theorem ReadOp.move {P : Program} {op : Op} {ty : TypeId} {σ : Env} {G : GH} {μ : OH} {v : Value} (h : ReadOp P op ty σ G μ v) : MoveOp P op ty σ G μ (fun u G' μ' => u = v ∧ G' = G ∧ μ' = μ) := by
  intro dst pos af g ρ hρ w hw a K Q hK
  rw [h dst pos af g ρ hρ w hw.sees]
  exact hK v w G μ (Step.refl hw) ⟨rfl, rfl, rfl⟩
theorem MoveOp.mono {P : Program} {op : Op} {ty : TypeId} {σ : Env} {G : GH} {μ : OH} {Ψ Ψ' : Value → GH → OH → Prop} (h : MoveOp P op ty σ G μ Ψ) (hΨ : ∀ v G' μ', Ψ v G' μ' → Ψ' v G' μ') : MoveOp P op ty σ G μ Ψ' :=
  fun dst pos af g ρ hρ w hw a K Q hK => h dst pos af g ρ hρ w hw a K Q fun v w' G' μ' hs hp => hK v w' G' μ' hs (hΨ _ _ _ hp)

section
variable {P : Program} {fn : Func} {n : Nat} {B : Base} {Φ : Value → GH → OH → Prop} {k : List It} {σ : Env} {G : GH} {μ : OH} {all : Array Oper} {rest : List Oper} {d : Nat} {op : Op} {ty : TypeId} {pos : String} {af : Array Edge} {v : Value}
/-- An operation that moves is no defer statement. -/
theorem MoveOp.noDefer {Ψ : Value → GH → OH → Prop} (hop : MoveOp P op ty σ G μ Ψ) {a : Act} {w : World} (ha : Agree σ a.eval) (hw : Mem G μ w) : ∀ c, op ≠ .defer c := by
  rintro c rfl
  have h := hop none "" #[] none a.eval ha w hw a (fun a' _ => a'.defers = a.defers) (fun _ _ _ => False) (fun v w' G' μ' _ _ => rfl)
  have e : (execOp a.eval ⟨none, .defer c, ty, "", #[], none⟩).run P w = ((resolve a.eval c ty).run P w).andThen fun d w' => .ok (.defer d) w' := by
    simp only [execOp, Sem.run_bind]
    rfl
  rw [e] at h
  cases hr : (resolve a.eval c ty).run P w with
  | ok d w' =>
    rw [hr] at h
    have : d :: a.defers = a.defers := h
    exact absurd (congrArg List.length this) (by simp)
  | halt x w' =>
    rw [hr] at h
    cases x <;> exact h
/-- What is carried out plainly is carried out so in a round. -/
theorem op_in {r : Option Nat} {o : Oper} {a : Act} {w : World} {K : Act → World → Prop} {Q : Exit → Act → World → Prop} (hnd : ∀ c, o.op ≠ .defer c) (h : o.upon P a K Q ((execOp a.eval o).run P w)) : o.wpIn (RF r) 0 P a w K Q := by
  refine ⟨fn_RF, ?_⟩
  rw [Oper.semAt_eq _ _ _ hnd]
  generalize (execOp a.eval o).run P w = R at h
  have hdep : (RF r).depth.isSome = true → 1 ≤ 0 := fun hh => by cases hh
  cases R with
  | ok x w' =>
    cases x <;> first | exact h | exact ⟨hdep, calls_RF.2 h⟩ | exact ⟨hdep, fun c cs _ => by obtain ⟨v, w2, hR, hs⟩ := h c cs; exact ⟨v, w2, hR, stepsIn_wide.2 hs⟩⟩ | exact h.elim
  | halt x w' => cases x <;> exact h
theorem list_move {r : Option Nat} {Q : Exit → Act → World → Prop} {a : Act} {w : World} {dst : Option Nat} {Ψ : Value → GH → OH → Prop} (hop : MoveOp P op ty σ G μ Ψ) (ha : Agree σ a.eval) (hw : Mem G μ w)
    (h : ∀ v w' G' μ', Step G μ w G' μ' w' → Ψ v G' μ' → wpListIn (RF r) 0 P all Q rest (a.put dst v) w') : wpListIn (RF r) 0 P all Q (⟨dst, op, ty, pos, af, none⟩ :: rest) a w :=
  wpListIn_plain rfl fun K hK => op_in (hop.noDefer ha hw) (hop _ pos af none a.eval ha w hw a K _ fun v w' G' μ' hs hΨ => hK _ _ (h v w' G' μ' hs hΨ))
theorem v_move {Ψ : Value → GH → OH → Prop} (hop : MoveOp P op ty σ G μ Ψ) (hd : Nat.blt d n = true) (h : ∀ v G' μ', Ψ v G' μ' → Vc P fn n B Φ (.ops all rest :: k) ((d, v) :: σ) G' μ') :
    Vc P fn n B Φ (.ops all (⟨some d, op, ty, pos, af, none⟩ :: rest) :: k) σ G μ := by
  intro w hw a ha
  have hd' : d < n := by simpa [Nat.blt_eq] using hd
  exact list_move hop ha.agree hw.mem fun v w' G' μ' hs hΨ => h v G' μ' hΨ w' (hw.trans hs) _ (ha.put hd' v)
theorem v_move0 {Ψ : Value → GH → OH → Prop} (hop : MoveOp P op ty σ G μ Ψ) (h : ∀ v G' μ', Ψ v G' μ' → Vc P fn n B Φ (.ops all rest :: k) σ G' μ') :
    Vc P fn n B Φ (.ops all (⟨none, op, ty, pos, af, none⟩ :: rest) :: k) σ G μ := by
  intro w hw a ha
  exact list_move hop ha.agree hw.mem fun v w' G' μ' hs hΨ => h v G' μ' hΨ w' (hw.trans hs) _ (ha.putNone v)
theorem v_read (hop : ReadOp P op ty σ G μ v) (hd : Nat.blt d n = true) (h : Vc P fn n B Φ (.ops all rest :: k) ((d, v) :: σ) G μ) :
    Vc P fn n B Φ (.ops all (⟨some d, op, ty, pos, af, none⟩ :: rest) :: k) σ G μ :=
  v_move hop.move hd fun _ _ _ ⟨h1, h2, h3⟩ => by rw [h1, h2, h3]; exact h
theorem v_pure (hop : PureOp P op ty σ v) (hd : Nat.blt d n = true) (h : Vc P fn n B Φ (.ops all rest :: k) ((d, v) :: σ) G μ) :
    Vc P fn n B Φ (.ops all (⟨some d, op, ty, pos, af, none⟩ :: rest) :: k) σ G μ := v_read hop.read hd h
/-- A guard that holds; one that does not. -/
def guardVal (all : Array Oper) (σ : Env) (j : Nat) : Option Bool :=
  ((all[j]?).bind (·.dst)).bind fun t => (Env.get σ t).bind fun | .bool b => some b | _ => none
theorem yielded_of {ds : List Deferred} {a : Act} (ha : Holds ds n σ a) {j : Nat} {b : Bool} (hg : guardVal all σ j = some b) : yielded all a.tmps j = some b := by
  unfold guardVal at hg
  unfold yielded
  cases h1 : (all[j]?).bind (·.dst) with
  | none => rw [h1] at hg; cases hg
  | some t =>
    rw [h1] at hg
    simp only [Option.bind_some] at hg
    cases h2 : Env.get σ t with
    | none => rw [h2] at hg; cases hg
    | some v =>
      rw [h2] at hg
      have h3 := ha.get t v h2
      cases v <;> simp at hg
      subst hg
      simp only [Array.getD_eq_getD_getElem?] at h3
      cases h4 : a.tmps[t]? with
      | none => rw [h4] at h3; cases h3
      | some u => rw [h4] at h3; simp only [Option.getD_some] at h3; subst h3; simp [h4]
theorem v_take {dst : Option Nat} {j : Nat} {b : Bool} (hg : guardVal all σ j = some b) (h : Vc P fn n B Φ (.ops all (⟨dst, op, ty, pos, af, none⟩ :: rest) :: k) σ G μ) :
    Vc P fn n B Φ (.ops all (⟨dst, op, ty, pos, af, some (j, b)⟩ :: rest) :: k) σ G μ := by
  intro w hw a ha
  have hy := yielded_of ha hg
  have hh := h w hw a ha
  simp only [Kont] at hh ⊢
  unfold wpListIn at hh ⊢
  simp only [Region.wanted, hy, beq_self_eq_true, if_true] at hh ⊢
  exact hh
theorem v_pass {j : Nat} {b c : Bool} (hg : guardVal all σ j = some b) (hn : (b == c) = false) (hd : Nat.blt d n = true) (h : Vc P fn n B Φ (.ops all rest :: k) ((d, undef) :: σ) G μ) :
    Vc P fn n B Φ (.ops all (⟨some d, op, ty, pos, af, some (j, c)⟩ :: rest) :: k) σ G μ := by
  intro w hw a ha
  have hd' : d < n := by simpa [Nat.blt_eq] using hd
  have hy := yielded_of ha hg
  have hne : ¬ b = c := by intro e; subst e; simp at hn
  have hh := h w hw _ (ha.put hd' undef)
  simp only [Kont] at hh ⊢
  unfold wpListIn
  simp only [Region.wanted, hy]
  have : (some b == some c) = false := by simpa using hne
  rw [this]
  exact ⟨fn_RF, hh⟩
end

/-- A guard whose operation was passed over itself. -/
def notBool : Value → Bool
  | .bool _ => false
  | _ => true
def guardRaw (all : Array Oper) (σ : Env) (j : Nat) : Option Value := ((all[j]?).bind (·.dst)).bind fun t => Env.get σ t
theorem yielded_none {ds : List Deferred} {n : Nat} {σ : Env} {all : Array Oper} {a : Act} (ha : Holds ds n σ a) {j : Nat} {v : Value} (hg : guardRaw all σ j = some v) (hv : notBool v = true) : yielded all a.tmps j = none := by
  unfold guardRaw at hg
  unfold yielded
  cases h1 : (all[j]?).bind (·.dst) with
  | none => rw [h1] at hg; cases hg
  | some t =>
    rw [h1] at hg
    simp only [Option.bind_some] at hg
    have h3 := ha.get t v hg
    simp only [Array.getD_eq_getD_getElem?] at h3
    cases h4 : a.tmps[t]? with
    | none => simp [h4]
    | some u =>
      rw [h4] at h3
      simp only [Option.getD_some] at h3
      subst h3
      cases u <;> simp [notBool] at hv <;> simp [h4]
section
variable {P : Program} {fn : Func} {n : Nat} {B : Base} {Φ : Value → GH → OH → Prop} {k : List It} {σ : Env} {G : GH} {μ : OH} {all : Array Oper} {rest : List Oper} {d : Nat} {op : Op} {ty : TypeId} {pos : String} {af : Array Edge} {v : Value}
theorem v_passN {j : Nat} {c : Bool} (hg : guardRaw all σ j = some v) (hn : notBool v = true) (hd : Nat.blt d n = true) (h : Vc P fn n B Φ (.ops all rest :: k) ((d, undef) :: σ) G μ) :
    Vc P fn n B Φ (.ops all (⟨some d, op, ty, pos, af, some (j, c)⟩ :: rest) :: k) σ G μ := by
  intro w hw a ha
  have hd' : d < n := by simpa [Nat.blt_eq] using hd
  have hy := yielded_none ha hg hn
  have hh := h w hw _ (ha.put hd' undef)
  simp only [Kont] at hh ⊢
  unfold wpListIn
  simp only [Region.wanted, hy]
  exact ⟨fn_RF, hh⟩
end

/-! ### Types -/
/-- What type t is, under its name. -/
class Ty (P : Program) (t : TypeId) (d : outParam TypeDesc) : Prop where
  h : P.underlying t = some d
def descAgg : TypeDesc → Bool
  | .struct _ | .array _ _ => true
  | _ => false
/-- How a variable of type t lies: is it of several cells; how many; how many bytes; its zero. -/
class Lay (P : Program) (t : TypeId) (agg : outParam Bool) (size bytes : outParam Nat) (zero : outParam Value) : Prop where
  isAgg : (P.underlying t).map descAgg = some agg
  info : (P.info? t).map (fun i => (i.size, i.bytes, i.zero)) = some (size, bytes, some zero)
section
variable {P : Program} {t : TypeId} {agg : Bool} {size bytes : Nat} {zero : Value} (w : World)
theorem Lay.infoEx (h : Lay P t agg size bytes zero) : ∃ i, P.info? t = some i ∧ i.size = size ∧ i.bytes = bytes ∧ i.zero = some zero := by
  have h' := h.info
  cases hi : P.info? t with
  | none => rw [hi] at h'; cases h'
  | some i => rw [hi] at h'; simp only [Option.map_some, Option.some.injEq, Prod.mk.injEq] at h'; exact ⟨i, rfl, h'.1, h'.2.1, h'.2.2⟩
theorem run_sizeOf [h : Lay P t agg size bytes zero] : (sizeOf t).run P w = .ok size w := by
  obtain ⟨i, hi, h1, _⟩ := h.infoEx
  simp [sizeOf, typeInfo, hi, h1]
theorem run_zeroOf [h : Lay P t agg size bytes zero] : (zeroValue t).run P w = .ok zero w := by
  obtain ⟨i, hi, _, _, h1⟩ := h.infoEx
  simp [zeroValue, typeInfo, hi, h1]
theorem run_isAgg' [h : Lay P t agg size bytes zero] : (isAgg t).run P w = .ok agg w := by
  have h' := h.isAgg
  cases hu : P.underlying t with
  | none => rw [hu] at h'; cases h'
  | some d =>
    rw [hu] at h'
    simp only [Option.map_some, Option.some.injEq] at h'
    subst h'
    cases d <;> simp [isAgg, run_underlying hu, descAgg]
theorem run_under {d : TypeDesc} [h : Ty P t d] : (underlying t).run P w = .ok d w := run_underlying h.h ..
end

/-! ### The operations -/
section ops
variable {P : Program} {ty : TypeId} {σ : Env}
theorem p_move {x : Operand} {v : Value} (hx : Env.ev σ x = some v) : PureOp P (.move x) ty σ v := by
  intro dst pos af g ρ hρ w; simp [execOp, hρ _ _ hx]
theorem p_assign {x : Operand} {v : Value} (hx : Env.ev σ x = some v) : PureOp P (.assign x) ty σ v := by
  intro dst pos af g ρ hρ w; simp [execOp, hρ _ _ hx]
theorem p_pickT {c x y : Operand} {v : Value} (hc : Env.ev σ c = some (.bool true)) (hx : Env.ev σ x = some v) : PureOp P (.pick c x y) ty σ v := by
  intro dst pos af g ρ hρ w; simp [execOp, hρ _ _ hx, hρ _ _ hc, asBool]
theorem p_pickF {c x y : Operand} {v : Value} (hc : Env.ev σ c = some (.bool false)) (hy : Env.ev σ y = some v) : PureOp P (.pick c x y) ty σ v := by
  intro dst pos af g ρ hρ w; simp [execOp, hρ _ _ hy, hρ _ _ hc, asBool]
section ints
variable {x y : Operand} {k : IntKind} {a b : Int} {t t' : TypeId} (hx : Env.ev σ x = some (.int k a)) (hy : Env.ev σ y = some (.int k b))
include hx hy
theorem p_addw : PureOp P (.binOp .add t x y t') ty σ (.int k (k.wrap (a + b))) := by
  intro dst pos af g ρ hρ w; simp [execOp, hρ _ _ hx, hρ _ _ hy, eqGuard, binOp, Op.intArith]
theorem p_subw : PureOp P (.binOp .sub t x y t') ty σ (.int k (k.wrap (a - b))) := by
  intro dst pos af g ρ hρ w; simp [execOp, hρ _ _ hx, hρ _ _ hy, eqGuard, binOp, Op.intArith]
theorem p_mulw : PureOp P (.binOp .mul t x y t') ty σ (.int k (k.wrap (a * b))) := by
  intro dst pos af g ρ hρ w; simp [execOp, hρ _ _ hx, hρ _ _ hy, eqGuard, binOp, Op.intArith]
theorem p_eq : PureOp P (.binOp .eql t x y t') ty σ (.bool (dec (a = b))) := by
  intro dst pos af g ρ hρ w; simp [dec, execOp, hρ _ _ hx, hρ _ _ hy, eqGuard, binOp, Op.intCmp, BEq.beq]
theorem p_ne : PureOp P (.binOp .neq t x y t') ty σ (.bool (!dec (a = b))) := by
  intro dst pos af g ρ hρ w; simp [dec, execOp, hρ _ _ hx, hρ _ _ hy, eqGuard, binOp, Op.intCmp, bne, BEq.beq]
theorem p_lt : PureOp P (.binOp .lss t x y t') ty σ (.bool (dec (a < b))) := by
  intro dst pos af g ρ hρ w; simp [dec, execOp, hρ _ _ hx, hρ _ _ hy, eqGuard, binOp, Op.intCmp]
theorem p_le : PureOp P (.binOp .leq t x y t') ty σ (.bool (dec (a ≤ b))) := by
  intro dst pos af g ρ hρ w; simp [dec, execOp, hρ _ _ hx, hρ _ _ hy, eqGuard, binOp, Op.intCmp]
theorem p_gt : PureOp P (.binOp .gtr t x y t') ty σ (.bool (dec (b < a))) := by
  intro dst pos af g ρ hρ w; simp [dec, execOp, hρ _ _ hx, hρ _ _ hy, eqGuard, binOp, Op.intCmp]
theorem p_ge : PureOp P (.binOp .geq t x y t') ty σ (.bool (dec (b ≤ a))) := by
  intro dst pos af g ρ hρ w; simp [dec, execOp, hρ _ _ hx, hρ _ _ hy, eqGuard, binOp, Op.intCmp]
end ints
section ints64
variable {x y : Operand} {a b : Int} {t t' : TypeId} (hx : Env.ev σ x = some (.int .i64 a)) (hy : Env.ev σ y = some (.int .i64 b))
include hx hy
theorem p_add (h : -9223372036854775808 ≤ a + b ∧ a + b ≤ 9223372036854775807) : PureOp P (.binOp .add t x y t') ty σ (.int .i64 (a + b)) := by
  have e : IntKind.i64.wrap (a + b) = a + b := IntWalk.i64_in _ (by omega)
  have := p_addw (P := P) (ty := ty) (t := t) (t' := t') hx hy
  rwa [e] at this
theorem p_sub (h : -9223372036854775808 ≤ a - b ∧ a - b ≤ 9223372036854775807) : PureOp P (.binOp .sub t x y t') ty σ (.int .i64 (a - b)) := by
  have e : IntKind.i64.wrap (a - b) = a - b := IntWalk.i64_in _ (by omega)
  have := p_subw (P := P) (ty := ty) (t := t) (t' := t') hx hy
  rwa [e] at this
theorem p_mul (h : -9223372036854775808 ≤ a * b ∧ a * b ≤ 9223372036854775807) : PureOp P (.binOp .mul t x y t') ty σ (.int .i64 (a * b)) := by
  have e : IntKind.i64.wrap (a * b) = a * b := IntWalk.i64_in _ (by omega)
  have := p_mulw (P := P) (ty := ty) (t := t) (t' := t') hx hy
  rwa [e] at this
end ints64
theorem p_not {x : Operand} {b : Bool} {t : TypeId} (hx : Env.ev σ x = some (.bool b)) : PureOp P (.unOp .not t x) ty σ (.bool (!b)) := by
  intro dst pos af g ρ hρ w; simp [execOp, hρ _ _ hx, Op.unary]
theorem equal_eq (t : TypeId) (x y : Value) : Op.equal t x y = Op.equalIn (9999 + 1) t x y := rfl
/-- Two values of type t, held against each other. -/
def EqIs (P : Program) (m : Nat) (t : TypeId) (x y : Value) (b : Bool) : Prop := ∀ w, (Op.equalIn m t x y).run P w = .ok b w
theorem eqIs_bool {t : TypeId} [Ty P t .bool] (m : Nat) (a b : Bool) : EqIs P (m + 1) t (.bool a) (.bool b) (a == b) := by
  intro w; simp [Op.equalIn, run_under (d := .bool)]
theorem ba_list (a b : ByteArray) : (a.toList == b.toList) = decide (a = b) := by
  rw [ByteArray.toList_eq, ByteArray.toList_eq]
  obtain ⟨⟨x⟩⟩ := a
  obtain ⟨⟨y⟩⟩ := b
  by_cases h : x = y
  · subst h; simp
  · have h1 : (x == y) = false := by simpa using h
    have h2 : ¬ (⟨⟨x⟩⟩ : ByteArray) = ⟨⟨y⟩⟩ := fun e => h (by injection e with e; injection e)
    rw [h1]; simp [h]
theorem ba_beq (a b : ByteArray) : (a == b) = decide (a = b) := by rw [beq_toListBytes, ba_list]
theorem p_eqV {x y : Operand} {u v : Value} {b : Bool} {t t' : TypeId} (hx : Env.ev σ x = some u) (hy : Env.ev σ y = some v) (hb : ∀ w, (do eqGuard .eql t x y u v; binOp .eql t u v).run P w = .ok (.bool b) w) : PureOp P (.binOp .eql t x y t') ty σ (.bool b) := by
  intro dst pos af g ρ hρ w
  have := hb w
  simp only [execOp, hρ _ _ hx, hρ _ _ hy]
  rw [Sem.run_bind, this]
  rfl
theorem p_eqB {x y : Operand} {a b : Bool} {t t' : TypeId} [Ty P t .bool] (hx : Env.ev σ x = some (.bool a)) (hy : Env.ev σ y = some (.bool b)) : PureOp P (.binOp .eql t x y t') ty σ (.bool (a == b)) :=
  p_eqV hx hy fun w => by simp [eqGuard, binOp, equal_eq, eqIs_bool (P := P) (t := t) 9999 a b w]
/-- A slice against nil. -/
theorem p_eqNilSlice {x y : Operand} {a : Option Addr} {l c l' c' : Nat} {t t' e : TypeId} [Ty P t (.slice e)] (hx : Env.ev σ x = some (.slice a l c)) (hy : Env.ev σ y = some (.slice none l' c')) : PureOp P (.binOp .eql t x y t') ty σ (.bool a.isNone) :=
  p_eqV hx hy fun w => by
    have : ∀ m, EqIs P (m + 1) t (.slice a l c) (.slice none l' c') a.isNone := by
      intro m w; cases a <;> simp [Op.equalIn, run_under (d := .slice e)]
    simp [eqGuard, binOp, equal_eq, this 9999 w]
theorem p_extract {x : Operand} {vs : Array Value} {v : Value} {i : Nat} (hx : Env.ev σ x = some (.tuple vs)) (hv : vs[i]? = some v) : PureOp P (.extract x i) ty σ v := by
  intro dst pos af g ρ hρ w; simp [execOp, hρ _ _ hx, Instr.extract, hv]
theorem p_makeFunc {f : Fn} {xs ys : List Operand} {us vs : List Value} (hx : Env.evs σ xs = some us) (hy : Env.evs σ ys = some vs) : PureOp P (.makeFunc f xs.toArray ys.toArray) ty σ (.func f us.toArray vs.toArray) := by
  intro dst pos af g ρ hρ w
  have key : ∀ {xs : List Operand} {us : List Value}, Env.evs σ xs = some us → xs.map ρ = us := by
    intro xs
    induction xs with
    | nil => intro us h; simpa [Env.evs] using h
    | cons x xs ih =>
      intro us h
      simp only [Env.evs] at h
      cases h1 : Env.ev σ x with
      | none => simp [h1] at h
      | some v =>
        cases h2 : Env.evs σ xs with
        | none => simp [h1, h2] at h
        | some us' => simp only [h1, h2, Option.bind_some, Option.map_some, Option.some.injEq] at h; subst h; simp [hρ _ _ h1, ih h2]
  simp [execOp, Instr.makeFunc, key hx, key hy]
/-- Lengths. -/
theorem p_lenSlice {x : Operand} {a : Option Addr} {l c : Nat} {t e : TypeId} [Ty P t (.slice e)] (hx : Env.ev σ x = some (.slice a l c)) : PureOp P (.call { callee := .builtin .len, args := #[x], argTypes := #[t] }) ty σ (.int .i64 l) := by
  intro dst pos af g ρ hρ w
  simp [execOp, resolve, invoke, builtin, Builtin.len_, hρ _ _ hx, run_under (t := t) (d := .slice e), goInt]
theorem p_max {x y : Operand} {k : IntKind} {a b : Int} {ts : Array TypeId} (hx : Env.ev σ x = some (.int k a)) (hy : Env.ev σ y = some (.int k b)) : PureOp P (.call { callee := .builtin .max, args := #[x, y], argTypes := ts }) ty σ (.int k (max a b)) := by
  intro dst pos af g ρ hρ w
  have : (if b > a then b else a) = max a b := by split <;> omega
  simp [execOp, resolve, invoke, builtin, Builtin.max_, Builtin.max2, hρ _ _ hx, hρ _ _ hy, this]
end ops
attribute [irreducible] PureOp ReadOp MoveOp dec
end Go.Vx
/-
  VX, THE OPERATIONS THAT TOUCH MEMORY, and calls.
-/
set_option linter.unusedVariables false
set_option linter.unusedSimpArgs false
namespace Go.Vx
open Go
attribute [local semireducible] Vc Con PureOp ReadOp MoveOp

/-! ### What a cell holds -/
/-- In every world where G is frozen and μ is ours, the cell at a holds v. -/
def Cell (G : GH) (μ : OH) (a : Addr) (v : Value) : Prop := ∀ w, Sees G μ w → w.cell? a = some v
def GH.cell? (G : GH) (a : Addr) : Option Value :=
  match G a.block with
  | some (.cells c _ _) => if a.spot.isSome then none else c[a.off]?
  | _ => none
theorem GH.cell_le {G G' : GH} (h : GH.le G G') {a : Addr} {v : Value} (hc : GH.cell? G a = some v) : GH.cell? G' a = some v := by
  unfold GH.cell? at hc ⊢
  cases hg : G a.block with
  | none => rw [hg] at hc; cases hc
  | some o => rw [hg] at hc; rw [h _ _ hg]; exact hc
theorem Cell.frozen {G : GH} {μ : OH} {a : Addr} {v : Value} (h : GH.cell? G a = some v) : Cell G μ a v := by
  intro w hw
  unfold GH.cell? at h
  cases hg : G a.block with
  | none => rw [hg] at h; cases h
  | some o =>
    rw [hg] at h
    have := hw.g _ _ hg
    unfold World.cell?
    rw [this]
    exact h
/-- Block b is ours and holds the cells vs. -/
def Has (μ : OH) (b : Nat) (vs : List Value) (e : TypeId) : Prop := (b, Obj.cells vs.toArray e (0, 0)) ∈ μ
theorem Cell.own {G : GH} {μ : OH} {b i : Nat} {vs : List Value} {e : TypeId} {v : Value} (h : Has μ b vs e) (hv : vs[i]? = some v) : Cell G μ ⟨b, i, none⟩ v := by
  intro w hw
  have := hw.own _ _ h
  unfold World.cell?
  simp only [this]
  simpa using hv
def CellsAt (G : GH) (μ : OH) (a : Addr) (vs : List Value) : Prop := ∀ j v, vs[j]? = some v → Cell G μ (a.add j) v
theorem add_mk (b o j : Nat) : (⟨b, o, none⟩ : Addr).add j = ⟨b, o + j, none⟩ := by
  unfold Addr.add; split
  · next h => subst h; rfl
  · rfl
theorem add_add (a : Addr) (i j : Nat) : (a.add i).add j = a.add (i + j) := by
  unfold Addr.add
  by_cases hi : i = 0 <;> by_cases hj : j = 0 <;> simp [hi, hj, Nat.add_assoc]
theorem CellsAt.own {G : GH} {μ : OH} {b : Nat} {vs : List Value} {e : TypeId} (h : Has μ b vs e) : CellsAt G μ ⟨b, 0, none⟩ vs := by
  intro j v hv
  rw [add_mk, Nat.zero_add]
  exact Cell.own h hv
theorem CellsAt.ownAt {G : GH} {μ : OH} {b i m : Nat} {vs : List Value} {e : TypeId} (h : Has μ b vs e) : CellsAt G μ ⟨b, i, none⟩ ((vs.drop i).take m) := by
  intro j v hv
  rw [add_mk]
  refine Cell.own h ?_
  rw [List.getElem?_take] at hv
  split at hv
  · rw [List.getElem?_drop] at hv; exact hv
  · cases hv
def CellsG (G : GH) (a : Addr) (vs : List Value) : Prop := ∀ j v, vs[j]? = some v → GH.cell? G (a.add j) = some v
theorem CellsG.le {G G' : GH} (h : GH.le G G') {a : Addr} {vs : List Value} (hc : CellsG G a vs) : CellsG G' a vs := fun j v hv => GH.cell_le h (hc j v hv)
theorem CellsAt.frozen {G : GH} {μ : OH} {a : Addr} {vs : List Value} (h : CellsG G a vs) : CellsAt G μ a vs := fun j v hv => Cell.frozen (h j v hv)
theorem CellsG.cell {G : GH} {a : Addr} {vs : List Value} (h : CellsG G a vs) {j : Nat} {v : Value} (hv : vs[j]? = some v) : GH.cell? G (a.add j) = some v := h j v hv

section
variable {P : Program} {ty : TypeId} {σ : Env} {G : GH} {μ : OH} {t : TypeId} {bytes : Nat} {zero : Value}
theorem r_load1 {x : Operand} {a : Addr} {v : Value} {sz : Nat} [Lay P t false sz bytes zero] (hx : Env.ev σ x = some (.pointer (some a))) (hc : Cell G μ a v) : ReadOp P (.load t x) ty σ G μ v := by
  intro dst pos af g ρ hρ w hw
  have h0 := hc w hw
  simp [execOp, hρ _ _ hx, Instr.loadAt, Instr.sureAddr, loadVar, run_isAgg' (P := P) (t := t) (agg := false) (size := sz) (bytes := bytes) (zero := zero), h0]
theorem r_loadN {x : Operand} {a : Addr} {vs : List Value} {sz : Nat} [Lay P t true sz bytes zero] (hx : Env.ev σ x = some (.pointer (some a))) (hc : CellsAt G μ a vs) (hn : vs.length = sz) : ReadOp P (.load t x) ty σ G μ (.agg vs.toArray) := by
  intro dst pos af g ρ hρ w hw
  subst hn
  have hl : (loadCells a vs.length).run P w = .ok vs.toArray w := run_loadCells_list w a vs (fun j v hv => hc j v hv w hw)
  simp [execOp, hρ _ _ hx, Instr.loadAt, Instr.sureAddr, loadVar, run_isAgg' (P := P) (t := t) (agg := true) (size := vs.length) (bytes := bytes) (zero := zero), run_sizeOf (P := P) (t := t) (agg := true) (size := vs.length) (bytes := bytes) (zero := zero), hl]

/-- Where field i of struct type s lies, and what type it has. -/
def fieldOff (P : Program) (s : TypeId) (i : Nat) : Option (Nat × TypeId) :=
  match P.underlying s with
  | some (.struct fs) =>
    match fs[i]? with
    | some f => match P.info? f.type with
      | some inf => if inf.size = 0 then none else some (f.offset, f.type)
      | none => none
    | none => none
  | _ => none
class Fld (P : Program) (s : TypeId) (i : Nat) (off : outParam Nat) (ft : outParam TypeId) : Prop where
  h : fieldOff P s i = some (off, ft)
theorem Fld.ex {s : TypeId} {i off : Nat} {ft : TypeId} (h : Fld P s i off ft) : ∃ fs f inf, P.underlying s = some (.struct fs) ∧ fs[i]? = some f ∧ f.offset = off ∧ f.type = ft ∧ P.info? ft = some inf ∧ inf.size ≠ 0 := by
  have h' := h.h
  unfold fieldOff at h'
  split at h'
  · rename_i fs hu
    split at h'
    · rename_i f hf
      split at h'
      · rename_i inf hi
        split at h'
        · cases h'
        · rename_i hne
          simp only [Option.some.injEq, Prod.mk.injEq] at h'
          obtain ⟨h1, h2⟩ := h'
          exact ⟨fs, f, inf, hu, hf, h1, h2, h2 ▸ hi, hne⟩
      · cases h'
    · cases h'
  · cases h'
theorem p_fieldAddr {s : TypeId} {x : Operand} {a : Addr} {i off : Nat} {ft : TypeId} [h : Fld P s i off ft] (hx : Env.ev σ x = some (.pointer (some a))) : PureOp P (.fieldAddr s x i) ty σ (.pointer (some (a.add off))) := by
  obtain ⟨fs, f, inf, hu, hf, h1, h2, h3, h4⟩ := h.ex
  subst h2
  intro dst pos af g ρ hρ w
  simp [execOp, hρ _ _ hx, Instr.fieldAt, run_underlying hu, hf, Instr.sureAddr, fieldPlace, sizeOf, typeInfo, h3, h4, h1]
theorem p_fieldAddrB {s : TypeId} {x : Operand} {b o : Nat} {i off : Nat} {ft : TypeId} [h : Fld P s i off ft] (hx : Env.ev σ x = some (.pointer (some ⟨b, o, none⟩))) : PureOp P (.fieldAddr s x i) ty σ (.pointer (some ⟨b, o + off, none⟩)) := by
  have := p_fieldAddr (P := P) (ty := ty) (s := s) (i := i) (ft := ft) hx
  rwa [add_mk] at this
theorem p_indexAddr {e : TypeId} {agg : Bool} {sz : Nat} {x i : Operand} {a : Addr} {l c : Nat} {k : IntKind} {m : Int} [Ty P t (.slice e)] [Lay P e agg sz bytes zero] (hx : Env.ev σ x = some (.slice (some a) l c)) (hi : Env.ev σ i = some (.int k m))
    (h0 : 0 ≤ m) (h : m < l) : PureOp P (.indexAddr t x i) ty σ (.pointer (some (a.add (m.toNat * sz)))) := by
  intro dst pos af g ρ hρ w
  simp [execOp, hρ _ _ hx, hρ _ _ hi, Instr.indexAt, asIntOf, run_under (P := P) (t := t) (d := .slice e), h0, h, run_sizeOf (P := P) (t := e) (agg := agg) (size := sz) (bytes := bytes) (zero := zero)]
end

/-! ### Blocks that are made, and written -/
section
variable {P : Program} {fn : Func} {n : Nat} {B : Base} {Φ : Value → GH → OH → Prop} {k : List It} {σ : Env} {G : GH} {μ : OH} {all : Array Oper} {rest : List Oper} {d : Nat} {ty : TypeId} {pos : String} {af : Array Edge}
theorem m_alloc {e : TypeId} {agg : Bool} {sz bytes : Nat} {zero : Value} {zs : List Value} [Lay P e agg sz bytes zero] (hz : zero.cells = zs.toArray) :
    MoveOp P (.alloc e) ty σ G μ (fun v G' μ' => ∃ b, v = .pointer (some ⟨b, 0, none⟩) ∧ G' = G ∧ μ' = (b, .cells zs.toArray e (0, 0)) :: μ) := by
  intro dst pos af g ρ hρ w hw a K Q hK
  have hr : (execOp ρ ⟨dst, .alloc e, ty, pos, af, g⟩).run P w = .ok (.value (.pointer (some ⟨w.heap.size, 0, none⟩))) (w.alloc (.cells zs.toArray e (0, 0))) := by
    simp [execOp, Instr.alloc, run_zeroOf (P := P) (t := e) (agg := agg) (size := sz) (bytes := bytes) (zero := zero), newVar, newRow, hz]
  rw [hr]
  exact hK _ _ _ _ (Step.alloc hw _) ⟨_, rfl, rfl, rfl⟩
theorem v_alloc {e : TypeId} {agg : Bool} {sz bytes : Nat} {zero : Value} {zs : List Value} [Lay P e agg sz bytes zero] (hz : zero.cells = zs.toArray) (hd : Nat.blt d n = true)
    (h : ∀ b, Vc P fn n B Φ (.ops all rest :: k) ((d, .pointer (some ⟨b, 0, none⟩)) :: σ) G ((b, .cells zs.toArray e (0, 0)) :: μ)) : Vc P fn n B Φ (.ops all (⟨some d, .alloc e, ty, pos, af, none⟩ :: rest) :: k) σ G μ :=
  v_move (m_alloc hz) hd fun _ _ _ ⟨b, h1, h2, h3⟩ => by rw [h1, h2, h3]; exact h b
theorem m_box {e : TypeId} {x : Operand} {v : Value} {zs : List Value} (hx : Env.ev σ x = some v) (hz : v.cells = zs.toArray) :
    MoveOp P (.box e x) ty σ G μ (fun v G' μ' => ∃ b, v = .pointer (some ⟨b, 0, none⟩) ∧ G' = G ∧ μ' = (b, .cells zs.toArray e (0, 0)) :: μ) := by
  intro dst pos af g ρ hρ w hw a K Q hK
  have hr : (execOp ρ ⟨dst, .box e x, ty, pos, af, g⟩).run P w = .ok (.value (.pointer (some ⟨w.heap.size, 0, none⟩))) (w.alloc (.cells zs.toArray e (0, 0))) := by
    simp [execOp, hρ _ _ hx, Instr.box, newVar, newRow, hz]
  rw [hr]
  exact hK _ _ _ _ (Step.alloc hw _) ⟨_, rfl, rfl, rfl⟩
theorem v_box {e : TypeId} {x : Operand} {v : Value} {zs : List Value} (hx : Env.ev σ x = some v) (hz : v.cells = zs.toArray) (hd : Nat.blt d n = true)
    (h : ∀ b, Vc P fn n B Φ (.ops all rest :: k) ((d, .pointer (some ⟨b, 0, none⟩)) :: σ) G ((b, .cells zs.toArray e (0, 0)) :: μ)) : Vc P fn n B Φ (.ops all (⟨some d, .box e x, ty, pos, af, none⟩ :: rest) :: k) σ G μ :=
  v_move (m_box hx hz) hd fun _ _ _ ⟨b, h1, h2, h3⟩ => by rw [h1, h2, h3]; exact h b

/-- vs, with us from place i on. -/
def over (vs : List Value) (i : Nat) (us : List Value) : List Value := vs.take i ++ us ++ vs.drop (i + us.length)
theorem over_length {vs us : List Value} {i : Nat} (h : i + us.length ≤ vs.length) : (over vs i us).length = vs.length := by
  simp [over]; omega
theorem run_storeVar {t : TypeId} {agg : Bool} {sz bytes : Nat} {zero u : Value} {w : World} {b i : Nat} {e : TypeId} {us vs : List Value} [Lay P t agg sz bytes zero] (hc : u.cells = us.toArray) (hsz : us.length = sz) (h1 : us.all Value.oneCell' = true)
    (hg : w.heap[b]? = some (.cells vs.toArray e (0, 0))) (hfit : i + us.length ≤ vs.length) : (storeVar t ⟨b, i, none⟩ u).run P w = .ok () (w.setRow b (over vs i us).toArray) := by
  subst hsz
  have hst := run_storeCells_at P b i e us 0 vs.toArray w hg (by simpa using hfit) (fun v hv => by have := List.all_eq_true.1 h1 v hv; simpa using this)
  simp only [Nat.add_zero] at hst
  simp only [storeVar, hc, Sem.run_bind, run_sizeOf (P := P) (t := t) (agg := agg) (size := us.length) (bytes := bytes) (zero := zero), Result.andThen_ok, List.size_toArray, ne_eq, not_true_eq_false, if_false]
  simpa [over] using hst
theorem Step.row {μ' : OH} {w : World} {b : Nat} {e : TypeId} {vs vs' : List Value} (hw : Mem G μ w) (hb : Has μ b vs e) (hu : Upd b (.cells vs'.toArray e (0, 0)) μ μ') : Step G μ w G μ' (w.setRow b vs'.toArray) :=
  Step.upd hw hu rfl rfl rfl (by simp) (setRow_heap w b _ _ e _ (hw.own _ _ hb)) (fun c hc => setRow_other w b c _ hc)
theorem m_store {t : TypeId} {agg : Bool} {sz bytes : Nat} {zero u : Value} {p x : Operand} {b i : Nat} {e : TypeId} {us vs vs' : List Value} {μ' : OH} [Lay P t agg sz bytes zero] (hp : Env.ev σ p = some (.pointer (some ⟨b, i, none⟩))) (hx : Env.ev σ x = some u)
    (hc : u.cells = us.toArray) (hsz : us.length = sz) (h1 : us.all Value.oneCell' = true) (hb : Has μ b vs e) (hfit : i + us.length ≤ vs.length) (hov : over vs i us = vs') (hu : Upd b (.cells vs'.toArray e (0, 0)) μ μ') :
    MoveOp P (.store t p x) ty σ G μ (fun _ G' μ'' => G' = G ∧ μ'' = μ') := by
  intro dst pos af g ρ hρ w hw a K Q hK
  have hr : (execOp ρ ⟨dst, .store t p x, ty, pos, af, g⟩).run P w = .ok .skip (w.setRow b vs'.toArray) := by
    have := run_storeVar (P := P) (t := t) (agg := agg) (bytes := bytes) (zero := zero) hc hsz h1 (hw.own _ _ hb) hfit
    rw [hov] at this
    simp [execOp, hρ _ _ hp, hρ _ _ hx, Instr.storeAt, Instr.sureAddr, this]
  rw [hr]
  exact hK _ _ _ _ (Step.row hw hb hu) ⟨rfl, rfl⟩
theorem v_store {t : TypeId} {agg : Bool} {sz bytes : Nat} {zero u : Value} {p x : Operand} {b i : Nat} {e : TypeId} {us vs vs' : List Value} {μ' : OH} [Lay P t agg sz bytes zero] (hp : Env.ev σ p = some (.pointer (some ⟨b, i, none⟩))) (hx : Env.ev σ x = some u)
    (hc : u.cells = us.toArray) (hsz : us.length = sz) (h1 : us.all Value.oneCell' = true) (hb : Has μ b vs e) (hfit : i + us.length ≤ vs.length) (hov : over vs i us = vs') (hu : Upd b (.cells vs'.toArray e (0, 0)) μ μ')
    (h : Vc P fn n B Φ (.ops all rest :: k) σ G μ') : Vc P fn n B Φ (.ops all (⟨none, .store t p x, ty, pos, af, none⟩ :: rest) :: k) σ G μ :=
  v_move0 (m_store hp hx hc hsz h1 hb hfit hov hu) fun _ _ _ ⟨h1, h2⟩ => by rw [h1, h2]; exact h

/-! ### Calls -/
class Callable (P : Program) (f : FuncId) : Prop where
  h : ∀ args w, (callFunc f args).run P w = .ok (.enter f args) w
theorem callable_of {f : FuncId} {fn : Func} (hf : P.funcs[f]? = some fn) (hn : (fn.name == "runtime.NumGoroutine") = false) (hb : fn.body.isNone = false) : Callable P f :=
  ⟨fun args w => by
    have hn' : ¬ fn.name = "runtime.NumGoroutine" := by simpa using hn
    have hb' : ¬ fn.body = none := by intro e; rw [e] at hb; cases hb
    simp [callFunc, hf, hn', hb']⟩
theorem agree_evs {σ : Env} {ρ : Operand → Value} (hρ : Agree σ ρ) : ∀ {xs : List Operand} {us : List Value}, Env.evs σ xs = some us → xs.map ρ = us
  | [], us, h => by simpa [Env.evs] using h
  | x :: xs, us, h => by
    simp only [Env.evs] at h
    cases h1 : Env.ev σ x with
    | none => simp [h1] at h
    | some v =>
      cases h2 : Env.evs σ xs with
      | none => simp [h1, h2] at h
      | some us' => simp only [h1, h2, Option.bind_some, Option.map_some, Option.some.injEq] at h; subst h; simp [hρ _ _ h1, agree_evs hρ h2]
/-- A call's steps, whatever the way to the callee. -/
theorem m_enter {op : Op} {f : FuncId} {args : Array Value} {μ1 μ2 : OH} {Ψ : Value → GH → OH → Prop} (hs : Con P f args G μ1 Ψ) (hp : μ.Perm (μ1 ++ μ2))
    (hr : ∀ dst pos af g ρ, Agree σ ρ → ∀ w, (execOp ρ ⟨dst, op, ty, pos, af, g⟩).run P w = .ok (.enter f args) w) :
    MoveOp P op ty σ G μ (fun v G' μ' => ∃ μ1', GH.le G G' ∧ Ψ v G' μ1' ∧ μ' = μ1' ++ μ2) := by
  intro dst pos af g ρ hρ w hw a K Q hK
  rw [hr dst pos af g ρ hρ w]
  have hw' := hw.perm hp
  refine Calls.mono (hs w hw'.split.1) ?_
  rintro e w' ⟨v, rfl, G', μ1', hst, hΨ⟩
  exact hK v w' G' (μ1' ++ μ2) ((hst.frame hw').permL hp.symm) ⟨μ1', hst.le, hΨ, rfl⟩
theorem run_callF {f : FuncId} [hc : Callable P f] {args : List Operand} {ts : Array TypeId} {vs : List Value} (ha : Env.evs σ args = some vs) :
    ∀ dst pos af g ρ, Agree σ ρ → ∀ w, (execOp ρ ⟨dst, .call { callee := .value (.func f), args := args.toArray, argTypes := ts }, ty, pos, af, g⟩).run P w = .ok (.enter f vs.toArray) w := by
  intro dst pos af g ρ hρ w
  have hf : ρ (.func f) = .func (.func f) #[] #[] := hρ _ _ rfl
  simp [execOp, resolve, hf, Deferred.ofValue, invoke, agree_evs hρ ha, hc.h]
/-- A call of a function by its name: μ1 is what it is given of ours. -/
theorem v_call {f : FuncId} [Callable P f] {args : List Operand} {ts : Array TypeId} {vs : List Value} {μ1 μ2 : OH} {Ψ : Value → GH → OH → Prop} (ha : Env.evs σ args = some vs) (hs : Con P f vs.toArray G μ1 Ψ) (hp : μ.Perm (μ1 ++ μ2)) (hd : Nat.blt d n = true)
    (h : ∀ v G' μ1', GH.le G G' → Ψ v G' μ1' → Vc P fn n B Φ (.ops all rest :: k) ((d, v) :: σ) G' (μ1' ++ μ2)) :
    Vc P fn n B Φ (.ops all (⟨some d, .call { callee := .value (.func f), args := args.toArray, argTypes := ts }, ty, pos, af, none⟩ :: rest) :: k) σ G μ :=
  v_move (m_enter hs hp (run_callF ha)) hd fun _ _ _ ⟨_, hle, h1, h2⟩ => by rw [h2]; exact h _ _ _ hle h1
/-- It returns v, and that is all. -/
def Just (v : Value) (G : GH) (u : Value) (G' : GH) (μ' : OH) : Prop := u = v ∧ G' = G ∧ μ' = []
/-- What hangs on no memory that is ours, and gives none back: a value alone. -/
theorem v_callJ {f : FuncId} [Callable P f] {args : List Operand} {ts : Array TypeId} {vs : List Value} {v : Value} (ha : Env.evs σ args = some vs) (hs : Con P f vs.toArray G [] (Just v G)) (hd : Nat.blt d n = true)
    (h : Vc P fn n B Φ (.ops all rest :: k) ((d, v) :: σ) G μ) :
    Vc P fn n B Φ (.ops all (⟨some d, .call { callee := .value (.func f), args := args.toArray, argTypes := ts }, ty, pos, af, none⟩ :: rest) :: k) σ G μ :=
  v_call (μ1 := []) (μ2 := μ) ha hs (List.Perm.refl _) hd fun _ _ _ _ ⟨h1, h2, h3⟩ => by rw [h1, h2, h3]; exact h
/-- It returns v and leaves all as it was. -/
def Keeps (v : Value) (G : GH) (μ : OH) (u : Value) (G' : GH) (μ' : OH) : Prop := u = v ∧ G' = G ∧ μ' = μ
/-- As a move that leaves all as it was. -/
theorem m_keep {op : Op} {f : FuncId} {args : Array Value} {μ1 μ2 : OH} {v : Value} (hs : Con P f args G μ1 (Keeps v G μ1)) (hp : μ.Perm (μ1 ++ μ2))
    (hr : ∀ dst pos af g ρ, Agree σ ρ → ∀ w, (execOp ρ ⟨dst, op, ty, pos, af, g⟩).run P w = .ok (.enter f args) w) :
    MoveOp P op ty σ G μ (fun u G' μ' => u = v ∧ G' = G ∧ μ' = μ) := by
  intro dst pos af g ρ hρ w hw a K Q hK
  rw [hr dst pos af g ρ hρ w]
  have hw' := hw.perm hp
  refine Calls.mono (hs w hw'.split.1) ?_
  rintro e w' ⟨u, rfl, G', μ1', hst, h1, h2, h3⟩
  subst h1; subst h2; subst h3
  exact hK _ w' _ μ (((hst.frame hw').permL hp.symm).perm hp.symm) ⟨rfl, rfl, rfl⟩
theorem m_callFJ {f : FuncId} [Callable P f] {args : List Operand} {ts : Array TypeId} {vs : List Value} {v : Value} (ha : Env.evs σ args = some vs) (hs : Con P f vs.toArray G [] (Just v G)) :
    MoveOp P (.call { callee := .value (.func f), args := args.toArray, argTypes := ts }) ty σ G μ (fun u G' μ' => u = v ∧ G' = G ∧ μ' = μ) := m_keep (μ1 := []) (μ2 := μ) hs (List.Perm.refl _) (run_callF ha)
theorem m_callF {f : FuncId} [Callable P f] {args : List Operand} {ts : Array TypeId} {vs : List Value} {μ1 μ2 : OH} {Ψ : Value → GH → OH → Prop} (ha : Env.evs σ args = some vs) (hs : Con P f vs.toArray G μ1 Ψ) (hp : μ.Perm (μ1 ++ μ2)) :
    MoveOp P (.call { callee := .value (.func f), args := args.toArray, argTypes := ts }) ty σ G μ (fun v G' μ' => ∃ μ1', GH.le G G' ∧ Ψ v G' μ1' ∧ μ' = μ1' ++ μ2) := m_enter hs hp (run_callF ha)
/-- One block of ours, out of the list. -/
inductive Pick (e : Nat × Obj) : OH → OH → Prop
  | here (μ : OH) : Pick e (e :: μ) μ
  | there (x : Nat × Obj) {μ ν : OH} (h : Pick e μ ν) : Pick e (x :: μ) (x :: ν)
theorem Pick.app {e : Nat × Obj} {μ μ' : OH} (ν : OH) (h : Pick e μ μ') : Pick e (ν ++ μ) (ν ++ μ') := by
  induction ν with
  | nil => exact h
  | cons x ν ih => exact .there x ih
theorem Pick.perm {e : Nat × Obj} {μ ν : OH} (h : Pick e μ ν) : μ.Perm ([e] ++ ν) := by
  induction h with
  | here μ => exact List.Perm.refl _
  | there x h ih => exact (List.Perm.cons x ih).trans (List.Perm.swap e x _)
end
end Go.Vx
/-
  VX, STEPS THAT PART: a comparison is decided at once, by what is known or into two ways.
-/
set_option linter.unusedVariables false
set_option linter.unusedSimpArgs false
namespace Go.Vx
open Go
attribute [local semireducible] Vc
section
variable {P : Program} {fn : Func} {n : Nat} {B : Base} {Φ : Value → GH → OH → Prop} {k : List It} {σ : Env} {G : GH} {μ : OH} {all : Array Oper} {rest : List Oper} {d : Nat} {op : Op} {ty : TypeId} {pos : String} {af : Array Edge}
/-- A guard that hangs on a Bool not known yet: two ways. -/
theorem v_guardB {dst : Option Nat} {j t : Nat} {c b : Bool} (h1 : (all[j]?).bind (·.dst) = some t) (h2 : Env.get σ t = some (.bool b))
    (ht : b = true → Vc P fn n B Φ (.ops all (⟨dst, op, ty, pos, af, some (j, c)⟩ :: rest) :: k) ((t, .bool true) :: σ) G μ) (hf : b = false → Vc P fn n B Φ (.ops all (⟨dst, op, ty, pos, af, some (j, c)⟩ :: rest) :: k) ((t, .bool false) :: σ) G μ) :
    Vc P fn n B Φ (.ops all (⟨dst, op, ty, pos, af, some (j, c)⟩ :: rest) :: k) σ G μ := by
  have key : ∀ x, b = x → ∀ i v, Env.get ((t, .bool x) :: σ) i = some v → Env.get σ i = some v := by
    intro x hx i v hi
    rw [Env.get_cons] at hi
    by_cases hti : t = i
    · subst hti; rw [if_pos rfl] at hi; rw [h2, hx]; exact hi
    · rwa [if_neg hti] at hi
  cases hb : b
  · exact v_weaken (key false hb) (hf hb)
  · exact v_weaken (key true hb) (ht hb)
end
section
variable {P : Program} {ty : TypeId} {σ : Env}
theorem p_eqBs {x y : Operand} {b : Bool} {t t' : TypeId} [Ty P t .bool] (hx : Env.ev σ x = some (.bool b)) (hy : Env.ev σ y = some (.bool b)) : PureOp P (.binOp .eql t x y t') ty σ (.bool true) := by
  have := p_eqB (P := P) (ty := ty) (t := t) (t' := t') hx hy
  simpa using this
theorem p_eqs {x y : Operand} {k : IntKind} {a : Int} {t t' : TypeId} (hx : Env.ev σ x = some (.int k a)) (hy : Env.ev σ y = some (.int k a)) : PureOp P (.binOp .eql t x y t') ty σ (.bool true) := by
  have := p_eq (P := P) (ty := ty) (t := t) (t' := t') hx hy
  rwa [dec_pos rfl] at this
theorem p_nes {x y : Operand} {k : IntKind} {a : Int} {t t' : TypeId} (hx : Env.ev σ x = some (.int k a)) (hy : Env.ev σ y = some (.int k a)) : PureOp P (.binOp .neq t x y t') ty σ (.bool false) := by
  have := p_ne (P := P) (ty := ty) (t := t) (t' := t') hx hy
  rwa [dec_pos rfl] at this
end
end Go.Vx
/-
  VX, A REGION THAT DRAWS ITS ORDER: what hangs on the temporaries, on what is frozen, and on blocks of ours that the region leaves alone, is taken first; what is left comes one by one.
-/
set_option linter.unusedVariables false
set_option linter.unusedSimpArgs false
namespace Go.Vx
open Go
attribute [local semireducible] Vc Con PureOp ReadOp MoveOp
theorem wpOp_in {r : Option Nat} {P : Program} {ops : Array Oper} {Q : Exit → Act → World → Prop} (hQ : ¬ LetsOut Q) (hnd : ∀ (i : Nat) (o : Oper), ops[i]? = some o → ∀ c, o.op ≠ .defer c) {i : Nat} {K : Act → World → Prop} {a : Act} {w : World} (h : wpOp P ops Q i K a w) : wpOpIn (RF r) 0 P ops Q i K a w := by
  unfold wpOp at h
  unfold wpOpIn
  cases ho : ops[i]? with
  | none => rw [ho] at h; exact h
  | some o =>
    rw [ho] at h
    simp only at h ⊢
    split at h
    · rename_i hw
      rw [if_pos hw]
      rcases h with h | ⟨_, h⟩
      · exact op_in (hnd i o ho) h
      · exact absurd h hQ
    · rename_i hw
      rw [if_neg hw]
      exact ⟨fn_RF, h⟩
theorem wpAny_in {r : Option Nat} {P : Program} {md : Region.Mode} {ops : Array Oper} {Q : Exit → Act → World → Prop} (hQ : ¬ LetsOut Q) (hnd : ∀ (i : Nat) (o : Oper), ops[i]? = some o → ∀ c, o.op ≠ .defer c) : ∀ (fuel : Nat) (listed : Array Bool) (a : Act) (w : World), wpAny P md ops Q fuel listed a w → wpAnyIn (RF r) 0 P md ops Q fuel listed a w
  | 0, _, _, _, h => h
  | fuel + 1, listed, a, w, h => ⟨h.1, fun i hi => wpOp_in hQ hnd (wpOp_mono (fun a' w' h' => wpAny_in hQ hnd fuel _ a' w' h') (h.2 i hi))⟩
def noDef : Op → Bool
  | .defer _ => false
  | _ => true
theorem noDef_of {l : List Oper} (h : l.all (fun o => noDef o.op) = true) : ∀ (i : Nat) (o : Oper), l.toArray[i]? = some o → ∀ c, o.op ≠ .defer c := by
  intro i o ho c hc
  have hm : o ∈ l := by
    rw [List.getElem?_toArray] at ho
    exact List.mem_of_getElem? ho
  have := List.all_eq_true.1 h o hm
  rw [hc] at this
  cases this
theorem Holds.sub' {ds : List Deferred} {n : Nat} {σ : Env} {a : Act} {t : Nat} {b x : Bool} (h : Holds ds n σ a) (hk : ∀ i v, Env.get ((t, .bool x) :: σ) i = some v → Env.get σ i = some v) (_hb : b = x) (_h2 : Env.get σ t = some (.bool b)) : Holds ds n ((t, .bool x) :: σ) a := h.sub hk
/-- The judgement inside such a region: which operations have come up is 'listed'; G0 and ν are what every operation leaves alone. -/
def DVc (P : Program) (fn : Func) (n : Nat) (B : Base) (Φ : Value → GH → OH → Prop) (all : Array Oper) (G0 : GH) (ν : OH) (m : Nat) (listed : Array Bool) (k : List It) (σ : Env) (G : GH) (μ : OH) : Prop :=
  Region.noSelect all = true → GH.le G0 G → (∀ e ∈ ν, e ∈ μ) → ∀ w, Step B.G B.μ B.w G μ w → ∀ a, Holds B.rk.ds n σ a → wpAnyH P .any all (Kont P B.rk n (Fin B Φ) k) (Sees G0 ν) m listed a w
section
variable {P : Program} {fn : Func} {n : Nat} {B : Base} {Φ : Value → GH → OH → Prop} {k : List It} {σ : Env} {G G0 : GH} {μ : OH} {all : Array Oper} {m : Nat} {listed : Array Bool} {d : Nat} {op : Op} {ty : TypeId} {pos : String} {af : Array Edge} {v : Value}
theorem d_start (ν : OH) {id : Nat} {l : List Oper} (hm : P.follows .mixedOrders = true) (hsel : Region.noSelect l.toArray = true) (hnd : l.all (fun o => noDef o.op) = true) (hν : ∀ e ∈ ν, e ∈ μ) (h : DVc P fn n B Φ l.toArray G ν l.length (Array.replicate l.length false) k σ G μ) :
    Vc P fn n B Φ (.code (.region id l.toArray true) :: k) σ G μ := by
  intro w hw a ha
  have h1 := h hsel (GH.le_refl _) hν (w.drewN 1) (hw.trans (Step.drew hw.mem 1)) a ha
  have h2 := wpAny_of_held _ _ _ _ h1
  exact wpIn_region_any hm (wpAny_in (fun ⟨_, _, hh⟩ => kont_out _ _ hh) (noDef_of hnd) _ _ _ _ (by simp only [List.size_toArray]; exact h2))
theorem d_done (hr : Region.ready .any all listed = []) (h : Vc P fn n B Φ k σ G μ) {ν : OH} : DVc P fn n B Φ all G0 ν m listed k σ G μ :=
  fun _ _ _ w hw a ha => wpAnyH_done hr (h w hw a ha) m
theorem d_take {ν : OH} (i : Nat) (hi : all[i]? = some ⟨some d, op, ty, pos, af, none⟩) (hf : Region.free .any all listed i = true) (hr : (Region.ready .any all listed).contains i = true) (hop : ReadOp P op ty σ G0 ν v) (hd : Nat.blt d n = true)
    (h : DVc P fn n B Φ all G0 ν m (listed.setIfInBounds i true) k ((d, v) :: σ) G μ) : DVc P fn n B Φ all G0 ν (m + 1) listed k σ G μ := by
  intro hsel hle hν w hw a ha
  have hd' : d < n := by simpa [Nat.blt_eq] using hd
  refine wpAnyH_take hi hsel hf hr (fun c a w hq => (kont_panic _ _ hq).elim) (v := v) (.inl ⟨by simp [Region.wanted], fun w' hS => hop _ pos af none a.eval ha.agree w' hS⟩) (hw.mem.seesOf hle hν) ?_
  exact h hsel hle hν w hw _ (ha.put hd' v)
theorem d_takeG {ν : OH} (i : Nat) {j : Nat} {b : Bool} (hi : all[i]? = some ⟨some d, op, ty, pos, af, some (j, b)⟩) (hg : guardVal all σ j = some b) (hf : Region.free .any all listed i = true) (hr : (Region.ready .any all listed).contains i = true) (hop : ReadOp P op ty σ G0 ν v) (hd : Nat.blt d n = true)
    (h : DVc P fn n B Φ all G0 ν m (listed.setIfInBounds i true) k ((d, v) :: σ) G μ) : DVc P fn n B Φ all G0 ν (m + 1) listed k σ G μ := by
  intro hsel hle hν w hw a ha
  have hd' : d < n := by simpa [Nat.blt_eq] using hd
  have hy := yielded_of ha hg
  refine wpAnyH_take hi hsel hf hr (fun c a w hq => (kont_panic _ _ hq).elim) (v := v) (.inl ⟨by simp [Region.wanted, hy], fun w' hS => hop _ pos af _ a.eval ha.agree w' hS⟩) (hw.mem.seesOf hle hν) ?_
  exact h hsel hle hν w hw _ (ha.put hd' v)
theorem d_pass {ν : OH} (i : Nat) {j : Nat} {b c : Bool} (hi : all[i]? = some ⟨some d, op, ty, pos, af, some (j, c)⟩) (hg : guardVal all σ j = some b) (hn : (b == c) = false) (hf : Region.free .any all listed i = true) (hr : (Region.ready .any all listed).contains i = true) (hd : Nat.blt d n = true)
    (h : DVc P fn n B Φ all G0 ν m (listed.setIfInBounds i true) k ((d, undef) :: σ) G μ) : DVc P fn n B Φ all G0 ν (m + 1) listed k σ G μ := by
  intro hsel hle hν w hw a ha
  have hd' : d < n := by simpa [Nat.blt_eq] using hd
  have hy := yielded_of ha hg
  have hne : ¬ b = c := by intro e; subst e; simp at hn
  refine wpAnyH_take hi hsel hf hr (fun c a w hq => (kont_panic _ _ hq).elim) (v := undef) (.inr ⟨by simpa [Region.wanted, hy] using hne, rfl⟩) (hw.mem.seesOf hle hν) ?_
  exact h hsel hle hν w hw _ (ha.put hd' undef)
theorem d_passN {ν : OH} (i : Nat) {j : Nat} {c : Bool} (hi : all[i]? = some ⟨some d, op, ty, pos, af, some (j, c)⟩) (hg : guardRaw all σ j = some v) (hn : notBool v = true) (hf : Region.free .any all listed i = true) (hr : (Region.ready .any all listed).contains i = true) (hd : Nat.blt d n = true)
    (h : DVc P fn n B Φ all G0 ν m (listed.setIfInBounds i true) k ((d, undef) :: σ) G μ) : DVc P fn n B Φ all G0 ν (m + 1) listed k σ G μ := by
  intro hsel hle hν w hw a ha
  have hd' : d < n := by simpa [Nat.blt_eq] using hd
  have hy := yielded_none ha hg hn
  refine wpAnyH_take hi hsel hf hr (fun c a w hq => (kont_panic _ _ hq).elim) (v := undef) (.inr ⟨by simp [Region.wanted, hy], rfl⟩) (hw.mem.seesOf hle hν) ?_
  exact h hsel hle hν w hw _ (ha.put hd' undef)
theorem d_exec {ν : OH} (i : Nat) {Ψ : Value → GH → OH → Prop} (hi : all[i]? = some ⟨some d, op, ty, pos, af, none⟩) (hr : Region.ready .any all listed = [i]) (hop : MoveOp P op ty σ G μ Ψ) (hd : Nat.blt d n = true)
    (h : ∀ v G' μ', Ψ v G' μ' → (∀ e ∈ ν, e ∈ μ') ∧ DVc P fn n B Φ all G0 ν m (listed.setIfInBounds i true) k ((d, v) :: σ) G' μ') : DVc P fn n B Φ all G0 ν (m + 1) listed k σ G μ := by
  intro hsel hle hν w hw a ha
  have hd' : d < n := by simpa [Nat.blt_eq] using hd
  refine wpAnyH_all hr (by simp) fun j hj => ?_
  simp only [List.mem_singleton] at hj
  subst hj
  unfold wpOp
  simp only [hi, Region.wanted, if_true]
  refine .inl (hop _ pos af none a.eval ha.agree w hw.mem a _ _ fun v w' G' μ' hs hΨ => ?_)
  obtain ⟨hν', hd⟩ := h v G' μ' hΨ
  have hle' := GH.le_trans hle hs.le
  exact ⟨hs.mem.seesOf hle' hν', hd hsel hle' hν' w' (hw.trans hs) _ (ha.put hd' v)⟩
/-- What is left alone and comes alone. -/
theorem d_keep {ν : OH} (i : Nat) (hi : all[i]? = some ⟨some d, op, ty, pos, af, none⟩) (hr : Region.ready .any all listed = [i]) (hop : MoveOp P op ty σ G μ (fun u G' μ' => u = v ∧ G' = G ∧ μ' = μ)) (hd : Nat.blt d n = true)
    (h : DVc P fn n B Φ all G0 ν m (listed.setIfInBounds i true) k ((d, v) :: σ) G μ) : DVc P fn n B Φ all G0 ν (m + 1) listed k σ G μ := by
  intro hsel hle hν
  exact d_exec i hi hr hop hd (fun u G' μ' ⟨h1, h2, h3⟩ => by rw [h1, h2, h3]; exact ⟨hν, h⟩) hsel hle hν
theorem d_call {ν : OH} (i : Nat) {f : FuncId} [Callable P f] {args : List Operand} {ts : Array TypeId} {vs : List Value} {μ1 μ2 : OH} {Ψ : Value → GH → OH → Prop} (hi : all[i]? = some ⟨some d, .call { callee := .value (.func f), args := args.toArray, argTypes := ts }, ty, pos, af, none⟩) (hr : Region.ready .any all listed = [i])
    (ha : Env.evs σ args = some vs) (hs : Con P f vs.toArray G μ1 Ψ) (hp : μ.Perm (μ1 ++ μ2)) (hd : Nat.blt d n = true) (hν' : ∀ e ∈ ν, e ∈ μ2) (h : ∀ v G' μ1', GH.le G G' → Ψ v G' μ1' → DVc P fn n B Φ all G0 ν m (listed.setIfInBounds i true) k ((d, v) :: σ) G' (μ1' ++ μ2)) : DVc P fn n B Φ all G0 ν (m + 1) listed k σ G μ :=
  d_exec i hi hr (m_callF ha hs hp) hd (fun _ _ _ ⟨_, hle, h1, h2⟩ => by rw [h2]; exact ⟨fun e he => List.mem_append_right _ (hν' e he), h _ _ _ hle h1⟩)
theorem d_guardB {ν : OH} (i : Nat) {o : Oper} {j t : Nat} {c b : Bool} (hi : all[i]? = some o) (hgd : o.guard = some (j, c)) (h1 : (all[j]?).bind (·.dst) = some t) (h2 : Env.get σ t = some (.bool b))
    (ht : b = true → DVc P fn n B Φ all G0 ν m listed k ((t, .bool true) :: σ) G μ) (hf : b = false → DVc P fn n B Φ all G0 ν m listed k ((t, .bool false) :: σ) G μ) : DVc P fn n B Φ all G0 ν m listed k σ G μ := by
  have key : ∀ x, b = x → ∀ i v, Env.get ((t, .bool x) :: σ) i = some v → Env.get σ i = some v := by
    intro x hx i v hi
    rw [Env.get_cons] at hi
    by_cases hti : t = i
    · subst hti; rw [if_pos rfl] at hi; rw [h2, hx]; exact hi
    · rwa [if_neg hti] at hi
  intro hsel hle hν w hw a ha
  cases hb : b
  · exact hf hb hsel hle hν w hw a (ha.sub' (key false hb) hb h2)
  · exact ht hb hsel hle hν w hw a (ha.sub' (key true hb) hb h2)
end
attribute [irreducible] DVc
end Go.Vx
/-
  VX, SLICES: a slice that is frozen reads as a list; slice expressions; struct literals; slice literals; append onto a slice of ours.
-/
set_option linter.unusedVariables false
set_option linter.unusedSimpArgs false
namespace Go.Vx
open Go
attribute [local semireducible] Vc Con PureOp ReadOp MoveOp

/-- The slice value v reads as the list l in what is frozen: element i lies in sz cells that R holds against it. -/
def Sl {α : Type} (G : GH) (sz : Nat) (R : α → List Value → Prop) (v : Value) (l : List α) : Prop :=
  ∃ A c, v = .slice A l.length c ∧ l.length ≤ c ∧ c ≤ maxLen ∧ (0 < l.length → ∃ a, A = some a ∧ ∀ i x, l[i]? = some x → ∃ cs, cs.length = sz ∧ R x cs ∧ CellsG G (a.add (i * sz)) cs)
section
variable {α : Type} {G G' : GH} {sz : Nat} {R R' : α → List Value → Prop} {v : Value} {l : List α}
theorem Sl.le (h : Sl G sz R v l) (hG : GH.le G G') (hR : ∀ x cs, R x cs → R' x cs) : Sl G' sz R' v l := by
  obtain ⟨A, c, rfl, h1, h2, h3⟩ := h
  refine ⟨A, c, rfl, h1, h2, fun h0 => ?_⟩
  obtain ⟨a, rfl, h4⟩ := h3 h0
  exact ⟨a, rfl, fun i x hx => let ⟨cs, e1, e2, e3⟩ := h4 i x hx; ⟨cs, e1, hR _ _ e2, e3.le hG⟩⟩
theorem Sl.mono (h : Sl G sz R v l) (hG : GH.le G G') : Sl G' sz R v l := h.le hG fun _ _ h => h
theorem Sl.nil : Sl G sz R (.slice none 0 0) ([] : List α) := ⟨none, 0, rfl, Nat.le_refl _, by simp [maxLen], fun h => absurd h (by simp)⟩
theorem CellsG.head {a : Addr} {u : Value} {vs : List Value} (h : CellsG G a (u :: vs)) : GH.cell? G a = some u := by
  have := h 0 u (by simp)
  simpa [Addr.add] using this
theorem Sl.drop {A : Option Addr} {c k : Nat} (h : Sl G sz R (.slice A l.length c) l) (hk : k ≤ l.length) : Sl G sz R (.slice (if c = k then A else A.map (·.add (k * sz))) (l.length - k) (c - k)) (l.drop k) := by
  obtain ⟨A', c', hv, h1, h2, h3⟩ := h
  injection hv with e1 _ e2
  subst e1; subst e2
  refine ⟨_, _, by rw [List.length_drop], by rw [List.length_drop]; omega, by omega, fun h0 => ?_⟩
  rw [List.length_drop] at h0
  obtain ⟨a, rfl, h4⟩ := h3 (by omega)
  rw [if_neg (by omega)]
  refine ⟨_, rfl, fun i x hx => ?_⟩
  rw [List.getElem?_drop] at hx
  obtain ⟨cs, e1, e2, e3⟩ := h4 _ _ hx
  refine ⟨cs, e1, e2, ?_⟩
  rw [add_add, ← Nat.add_mul]
  exact e3
theorem Sl.take {A : Option Addr} {c k : Nat} (h : Sl G sz R (.slice A l.length c) l) (hk : k ≤ l.length) : Sl G sz R (.slice A k c) (l.take k) := by
  obtain ⟨A', c', hv, h1, h2, h3⟩ := h
  injection hv with e1 _ e2
  subst e1; subst e2
  have hl : (l.take k).length = k := by rw [List.length_take]; omega
  refine ⟨_, _, by rw [hl], by omega, by omega, fun h0 => ?_⟩
  obtain ⟨a, rfl, h4⟩ := h3 (by omega)
  refine ⟨_, rfl, fun i x hx => ?_⟩
  rw [List.getElem?_take] at hx
  split at hx
  · exact h4 _ _ hx
  · cases hx
end
/-- A slice's address, where there is one. -/
def adr (A : Option Addr) : Addr := A.getD ⟨0, 0, none⟩
theorem Sl.open {α : Type} {G : GH} {sz : Nat} {R : α → List Value → Prop} {v : Value} {l : List α} (h : Sl G sz R v l) : ∃ A c, v = .slice A l.length c ∧ l.length ≤ c ∧ c ≤ maxLen ∧ (0 < l.length → A.isSome = true) ∧
    ∀ i x, l[i]? = some x → ∃ cs, cs.length = sz ∧ R x cs ∧ CellsG G ((adr A).add (i * sz)) cs := by
  obtain ⟨A, c, rfl, h1, h2, h3⟩ := h
  refine ⟨A, c, rfl, h1, h2, fun h0 => ?_, fun i x hx => ?_⟩
  · obtain ⟨a, rfl, _⟩ := h3 h0; rfl
  · obtain ⟨a, rfl, h4⟩ := h3 (by have := (List.getElem?_eq_some_iff.1 hx).1; omega)
    exact h4 i x hx
/-- Elements of one cell. -/
def IntR (k : IntKind) (x : Int) (cs : List Value) : Prop := cs = [.int k x] ∧ (Lit.int k x).wf = true

theorem Sl.openInt {G : GH} {k : IntKind} {v : Value} {l : List Int} (h : Sl G 1 (IntR k) v l) : ∃ A c, v = .slice A l.length c ∧ l.length ≤ c ∧ c ≤ maxLen ∧ (0 < l.length → A.isSome = true) ∧
    (∀ i (h : i < l.length), GH.cell? G ((adr A).add (i * 1)) = some (.int k l[i])) ∧ ∀ x ∈ l, (Lit.int k x).wf = true := by
  obtain ⟨A, c, rfl, h1, h2, h3, h4⟩ := h.open
  refine ⟨A, c, rfl, h1, h2, h3, fun i hi => ?_, fun x hx => ?_⟩
  · obtain ⟨cs, _, ⟨rfl, _⟩, h5⟩ := h4 i _ (List.getElem?_eq_getElem hi)
    exact h5.head
  · obtain ⟨i, hi, rfl⟩ := List.getElem_of_mem hx
    obtain ⟨cs, _, ⟨_, h5⟩, _⟩ := h4 i _ (List.getElem?_eq_getElem hi)
    exact h5
def headI : List Value → Int
  | .int _ n :: _ => n
  | _ => 0
section
variable {P : Program} {ty : TypeId} {σ : Env} {t : TypeId} {bytes : Nat} {zero : Value}
theorem p_indexAddrS {e : TypeId} {agg : Bool} {sz : Nat} {x i : Operand} {A : Option Addr} {l c : Nat} {k : IntKind} {m : Int} [Ty P t (.slice e)] [Lay P e agg sz bytes zero] (hx : Env.ev σ x = some (.slice A l c)) (hi : Env.ev σ i = some (.int k m))
    (h0 : 0 ≤ m) (h : m < l) (hA : A.isSome = true) : PureOp P (.indexAddr t x i) ty σ (.pointer (some ((adr A).add (m.toNat * sz)))) := by
  cases A with
  | none => cases hA
  | some a => exact p_indexAddr hx hi h0 h
/-! ### Slice expressions -/
theorem run_slice {e : TypeId} {agg : Bool} {sz : Nat} [Ty P t (.slice e)] [Lay P e agg sz bytes zero] {w : World} {A : Option Addr} {n c : Nat} {lo hi : Option Value} {l h : Nat}
    (hl : (lo = none ∧ l = 0) ∨ (∃ k, lo = some (.int k (l : Int)))) (hh : (hi = none ∧ h = n) ∨ (∃ k, hi = some (.int k (h : Int)))) (h1 : l ≤ h) (h2 : h ≤ c) :
    (Instr.sliceAt t (.slice A n c) lo hi none).run P w = .ok (.slice (if c = l then A else A.map (·.add (l * sz))) (h - l) (c - l)) w := by
  rcases hl with ⟨rfl, rfl⟩ | ⟨kl, rfl⟩ <;> rcases hh with ⟨rfl, rfl⟩ | ⟨kh, rfl⟩ <;>
    simp [Instr.sliceAt, Instr.slice, Instr.sliceBounds, Instr.sliceBound, asIntOf, run_under (P := P) (t := t) (d := .slice e), run_sizeOf (P := P) (t := e) (agg := agg) (size := sz) (bytes := bytes) (zero := zero), h1, h2]
theorem p_sliceH {e : TypeId} {agg : Bool} {sz : Nat} {x hi : Operand} {A : Option Addr} {n c : Nat} {k : IntKind} {h : Int} [Ty P t (.slice e)] [Lay P e agg sz bytes zero] (hx : Env.ev σ x = some (.slice A n c)) (hh : Env.ev σ hi = some (.int k h)) (h0 : 0 ≤ h) (h1 : h ≤ c) :
    PureOp P (.slice t x none (some hi) none) ty σ (.slice A h.toNat c) := by
  intro dst pos af g ρ hρ w
  have := run_slice (P := P) (w := w) (t := t) (e := e) (agg := agg) (sz := sz) (bytes := bytes) (zero := zero) (A := A) (n := n) (c := c) (lo := none) (hi := some (.int k h)) (l := 0) (h := h.toNat) (.inl ⟨rfl, rfl⟩) (.inr ⟨k, by rw [Int.toNat_of_nonneg h0]⟩) (by omega) (by omega)
  have e1 : (if c = 0 then A else A.map (·.add (0 * sz))) = A := by
    split
    · rfl
    · cases A <;> simp [Addr.add]
  rw [e1] at this
  simp [execOp, hρ _ _ hx, hρ _ _ hh, this]
/-! ### Struct literals -/
/-- Where the fields of struct type t lie: offsets and sizes. -/
class Places (P : Program) (t : TypeId) (pl : outParam (List (Nat × Nat))) : Prop where
  h : (match P.underlying t with
    | some (.struct fs) => fs.toList.mapM fun f => (P.info? f.type).map fun i => (f.offset, i.size)
    | _ => none) = some pl
def buildF (pf : Nat → Option (Nat × Nat)) : List Value → List (Nat × Value) → Option (List Value)
  | cs, [] => some cs
  | cs, (i, v) :: rest =>
    match pf i with
    | none => none
    | some (off, size) => bif Nat.beq v.cells.size size && Nat.ble (off + size) cs.length then buildF pf (over cs off v.cells.toList) rest else none
def buildL (pl : List (Nat × Nat)) : List Value → List (Nat × Value) → Option (List Value) := buildF fun i => pl[i]?
theorem fill_buildF (pf : Nat → Option (Nat × Nat)) : ∀ (parts : List (Nat × Value)) (cs cs' : List Value), buildF pf cs parts = some cs' → Instr.fill pf cs.toArray parts = some cs'.toArray := by
  intro parts
  induction parts with
  | nil => intro cs cs' h; simp only [buildF, Option.some.injEq] at h; simp [Instr.fill, h]
  | cons p parts ih =>
    obtain ⟨i, v⟩ := p
    intro cs cs' h
    simp only [buildF] at h
    cases hp : pf i with
    | none => rw [hp] at h; cases h
    | some os =>
      obtain ⟨off, size⟩ := os
      rw [hp] at h
      simp only at h
      cases hb : (Nat.beq v.cells.size size && Nat.ble (off + size) cs.length) with
      | false => rw [hb] at h; cases h
      | true =>
        rw [hb] at h
        simp only [cond_true] at h
        simp only [Bool.and_eq_true] at hb
        have h1 : v.cells.size = size := Nat.eq_of_beq_eq_true hb.1
        have h2 : off + size ≤ cs.length := Nat.le_of_ble_eq_true hb.2
        simp only [Instr.fill, hp]
        rw [if_neg (by simp; omega)]
        have e : v.cells.zipIdx.foldl (fun cs (c, j) => cs.setIfInBounds (off + j) c) cs.toArray = (over cs off v.cells.toList).toArray := by
          have key : ∀ (us : List Value) (k : Nat) (cs : List Value), off + k + us.length ≤ cs.length → (us.zipIdx k).foldl (fun (cs : Array Value) (x : Value × Nat) => cs.setIfInBounds (off + x.2) x.1) cs.toArray = (over cs (off + k) us).toArray := by
            intro us
            induction us with
            | nil => intro k cs _; simp [over]
            | cons u us ihu =>
              intro k cs hl
              simp only [List.length_cons] at hl
              simp only [List.zipIdx_cons, List.foldl_cons]
              have := ihu (k + 1) (cs.set (off + k) u) (by simp; omega)
              simp only [List.setIfInBounds_toArray]
              rw [this]
              congr 1
              apply List.ext_getElem?
              intro j
              simp only [over, List.getElem?_append, List.getElem?_take, List.getElem?_drop, List.length_append, List.length_take, List.getElem?_set, List.length_set, List.length_cons]
              grind
          have := key v.cells.toList 0 cs (by simp; omega)
          rw [← Array.foldl_toList, Array.toList_zipIdx]
          simpa using this
        rw [e]
        exact ih _ _ h
theorem fill_buildL (pl : List (Nat × Nat)) (parts : List (Nat × Value)) (cs cs' : List Value) (h : buildL pl cs parts = some cs') : Instr.fill (fun i => pl[i]?) cs.toArray parts = some cs'.toArray := fill_buildF _ _ _ _ h
theorem evs_snd {ρ : Operand → Value} (hρ : Agree σ ρ) : ∀ {ps : List (Nat × Operand)} {vs : List Value}, Env.evs σ (ps.map (·.2)) = some vs → ps.map (fun p => (p.1, ρ p.2)) = (ps.map (·.1)).zip vs
  | [], vs, h => by simp
  | p :: ps, vs, h => by
    simp only [List.map_cons, Env.evs] at h
    cases h1 : Env.ev σ p.2 with
    | none => simp [h1] at h
    | some v =>
      cases h2 : Env.evs σ (ps.map (·.2)) with
      | none => simp [h1, h2] at h
      | some us =>
        simp only [h1, h2, Option.bind_some, Option.map_some, Option.some.injEq] at h
        subst h
        simp [evs_snd hρ h2, hρ _ _ h1]
theorem p_build {agg : Bool} {sz : Nat} {pl : List (Nat × Nat)} {ps : List (Nat × Operand)} {vs zs cs : List Value} [hP : Places P t pl] [Lay P t agg sz bytes zero] (hz : zero.cells = zs.toArray) (hv : Env.evs σ (ps.map (·.2)) = some vs) (hb : buildL pl zs ((ps.map (·.1)).zip vs) = some cs) :
    PureOp P (.build t ps.toArray) ty σ (.agg cs.toArray) := by
  intro dst pos af g ρ hρ w
  have hu := hP.h
  cases hd : P.underlying t with
  | none => rw [hd] at hu; cases hu
  | some d =>
    rw [hd] at hu
    cases d with
    | struct fs =>
      simp only at hu
      have hm : ∀ (l : List Field) (pl : List (Nat × Nat)), (l.mapM fun f => (P.info? f.type).map fun i => (f.offset, i.size)) = some pl → (l.mapM fun f => (do pure (f.offset, ← sizeOf f.type) : Sem (Nat × Nat))).run P w = .ok pl w := by
        intro l
        induction l with
        | nil => intro pl h; simp at h; subst h; simp
        | cons f l ih =>
          intro pl h
          simp only [List.mapM_cons, Option.bind_eq_bind] at h
          cases hi : P.info? f.type with
          | none => simp [hi] at h
          | some i =>
            cases hl : (l.mapM fun f => (P.info? f.type).map fun i => (f.offset, i.size)) with
            | none => simp [hi, hl] at h
            | some pl' =>
              simp only [hi, hl, Option.map_some, Option.bind_some, Option.pure_def, Option.some.injEq] at h
              subst h
              have hs : (sizeOf f.type).run P w = .ok i.size w := by simp [sizeOf, typeInfo, hi]
              simp only [List.mapM_cons, Sem.run_bind, hs, Result.andThen_ok, Sem.run_pure, ih pl' hl]
      have hm' := hm fs.toList pl hu
      have hfill := fill_buildL pl _ _ _ hb
      have hpl : ∀ i, (pl.toArray[i]? : Option (Nat × Nat)) = pl[i]? := fun i => List.getElem?_toArray
      have hmA : (fs.mapM fun f => (do pure (f.offset, ← sizeOf f.type) : Sem (Nat × Nat))).run P w = .ok pl.toArray w := by
        rw [Array.mapM_eq_mapM_toList, map_eq_pure_bind, Sem.run_bind, hm']
        rfl
      have hparts : (ps.toArray.map fun (x : Nat × Operand) => (x.1, ρ x.2)).toList = (ps.map (·.1)).zip vs := by
        simp [evs_snd hρ hv]
      simp only [execOp, Instr.build, Sem.run_bind, run_zeroOf (P := P) (t := t) (agg := agg) (size := sz) (bytes := bytes) (zero := zero), Result.andThen_ok, run_underlying hd, hmA, hz, hparts, hpl, hfill, Sem.run_pure]
    | _ => simp at hu
/-! ### Slice literals -/
def packL (sz : Nat) : List Value → Option (List Value)
  | [] => some []
  | v :: vs => bif Nat.beq v.cells.size sz then (packL sz vs).map fun us => v.cells.toList ++ us else none
theorem packL_length {sz : Nat} : ∀ {vs us : List Value}, packL sz vs = some us → us.length = vs.length * sz
  | [], us, h => by simp only [packL, Option.some.injEq] at h; subst h; simp
  | v :: vs, us, h => by
    simp only [packL] at h
    cases hb : Nat.beq v.cells.size sz with
    | false => rw [hb] at h; cases h
    | true =>
      rw [hb] at h
      simp only [cond_true, Option.map_eq_some_iff] at h
      obtain ⟨us', h', rfl⟩ := h
      have := Nat.eq_of_beq_eq_true hb
      simp only [List.length_append, packL_length h', List.length_cons, Array.length_toList, this, Nat.add_mul]
      omega
theorem buildF_pack {sz : Nat} : ∀ {vs us cs : List Value} {k : Nat}, packL sz vs = some us → (k + vs.length) * sz ≤ cs.length → buildF (fun i => some (i * sz, sz)) cs ((List.range' k vs.length).zip vs) = some (cs.take (k * sz) ++ us ++ cs.drop ((k + vs.length) * sz))
  | [], us, cs, k, h, _ => by
    simp only [packL, Option.some.injEq] at h
    subst h
    simp [buildF]
  | v :: vs, us, cs, k, h, hl => by
    simp only [packL] at h
    cases hb : Nat.beq v.cells.size sz with
    | false => rw [hb] at h; cases h
    | true =>
      rw [hb] at h
      simp only [cond_true, Option.map_eq_some_iff] at h
      obtain ⟨us', h', rfl⟩ := h
      have hs : v.cells.size = sz := Nat.eq_of_beq_eq_true hb
      simp only [List.length_cons] at hl
      have hk : k * sz + sz ≤ cs.length := by
        have : (k + 1) * sz ≤ (k + (vs.length + 1)) * sz := Nat.mul_le_mul_right _ (by omega)
        rw [Nat.add_mul] at this; omega
      simp only [List.length_cons, List.range'_succ, List.zip_cons_cons, buildF, hb, Bool.true_and, Nat.ble_eq_true_of_le hk, cond_true]
      have hov : (over cs (k * sz) v.cells.toList).length = cs.length := over_length (by simp [hs]; exact hk)
      rw [buildF_pack (k := k + 1) h' (by rw [hov]; rwa [show k + 1 + vs.length = k + (vs.length + 1) by omega])]
      have h1 : (over cs (k * sz) v.cells.toList).take ((k + 1) * sz) = cs.take (k * sz) ++ v.cells.toList := by
        have hlen : (cs.take (k * sz) ++ v.cells.toList).length = (k + 1) * sz := by simp [hs, Nat.add_mul]; omega
        unfold over
        rw [← hlen, List.take_left]
      have h2 : (over cs (k * sz) v.cells.toList).drop ((k + 1 + vs.length) * sz) = cs.drop ((k + (vs.length + 1)) * sz) := by
        unfold over
        have hlen : (cs.take (k * sz) ++ v.cells.toList).length = k * sz + sz := by simp [hs]; omega
        have e1 : (k + 1 + vs.length) * sz = (k * sz + sz) + vs.length * sz := by simp [Nat.add_mul]
        rw [e1, ← hlen, ← List.drop_drop, List.drop_left, List.drop_drop]
        congr 1
        simp [hs, Nat.add_mul]; omega
      rw [h1, h2]
      simp
end
section
variable {P : Program} {fn : Func} {n : Nat} {B : Base} {Φ : Value → GH → OH → Prop} {k : List It} {σ : Env} {G : GH} {μ : OH} {all : Array Oper} {rest : List Oper} {d : Nat} {ty : TypeId} {pos : String} {af : Array Edge} {t : TypeId} {bytes : Nat} {zero : Value}
theorem m_buildSlice {e : TypeId} {agg : Bool} {sz len : Nat} {ps : List (Nat × Operand)} {vs zs cs : List Value} [Ty P t (.slice e)] [Lay P e agg sz bytes zero] (hz : zero.cells = zs.toArray) (hi : ps.map (·.1) = List.range len) (hv : Env.evs σ (ps.map (·.2)) = some vs) (hp : packL sz vs = some cs) (hb : Nat.ble (len * sz) 16777216 = true) :
    MoveOp P (.buildSlice t len ps.toArray) ty σ G μ (fun v G' μ' => ∃ b, v = .slice (some ⟨b, 0, none⟩) len len ∧ G' = G ∧ μ' = (b, .cells cs.toArray e (0, 0)) :: μ) := by
  intro dst pos af g ρ hρ w hw a K Q hK
  have hlen : vs.length = len := by
    have h1 : vs.length = (ps.map (·.2)).length := by
      have := agree_evs hρ hv
      rw [← this, List.length_map]
    have h2 := congrArg List.length hi
    simp only [List.length_map, List.length_range] at h1 h2
    omega
  have hle : ¬ len * sz > 16777216 := by have := Nat.le_of_ble_eq_true hb; omega
  have hle' : ¬ len * sz > 2 ^ 24 := hle
  have hparts : (ps.toArray.map fun (x : Nat × Operand) => (x.1, ρ x.2)).toList = (List.range' 0 vs.length).zip vs := by
    rw [hlen, ← List.range_eq_range', ← hi]
    simp [evs_snd hρ hv]
  have hfill : ∀ z : Array Value, Instr.fill (fun i => some (i * sz, sz)) ((Array.range (len * sz)).map fun x => z[x % z.size]!) ((List.range' 0 vs.length).zip vs) = some cs.toArray := by
    intro z
    have h1 := buildF_pack (sz := sz) (vs := vs) (us := cs) (cs := ((Array.range (len * sz)).map fun x => z[x % z.size]!).toList) (k := 0) hp (by simp [hlen])
    have h2 := fill_buildF _ _ _ _ h1
    simp only [Array.toArray_toList] at h2
    rw [h2]
    have h3 : cs.length = len * sz := by rw [packL_length hp, hlen]
    simp [hlen]
  have hr : (execOp ρ ⟨dst, .buildSlice t len ps.toArray, ty, pos, af, g⟩).run P w = .ok (.value (.slice (some ⟨w.heap.size, 0, none⟩) len len)) (w.alloc (.cells cs.toArray e (0, 0))) := by
    simp only [execOp, Instr.buildSlice, Sem.run_bind, run_under (P := P) (t := t) (d := .slice e), Result.andThen_ok, run_sizeOf (P := P) (t := e) (agg := agg) (size := sz) (bytes := bytes) (zero := zero), hle', if_false, hparts]
    split <;> simp [newRow, run_zeroOf (P := P) (t := e) (agg := agg) (size := sz) (bytes := bytes) (zero := zero), hfill]
  rw [hr]
  exact hK _ _ _ _ (Step.alloc hw _) ⟨_, rfl, rfl, rfl⟩
theorem v_buildSlice {e : TypeId} {agg : Bool} {sz len : Nat} {ps : List (Nat × Operand)} {vs zs cs : List Value} [Ty P t (.slice e)] [Lay P e agg sz bytes zero] (hz : zero.cells = zs.toArray) (hi : ps.map (·.1) = List.range len) (hv : Env.evs σ (ps.map (·.2)) = some vs) (hp : packL sz vs = some cs) (hb : Nat.ble (len * sz) 16777216 = true) (hd : Nat.blt d n = true)
    (h : ∀ b, Vc P fn n B Φ (.ops all rest :: k) ((d, .slice (some ⟨b, 0, none⟩) len len) :: σ) G ((b, .cells cs.toArray e (0, 0)) :: μ)) : Vc P fn n B Φ (.ops all (⟨some d, .buildSlice t len ps.toArray, ty, pos, af, none⟩ :: rest) :: k) σ G μ :=
  v_move (m_buildSlice hz hi hv hp hb) hd fun _ _ _ ⟨b, h1, h2, h3⟩ => by rw [h1, h2, h3]; exact h b

/-! ### Append onto a slice of ours -/
/-- v has m elements of type e, of sz cells each, which hold xs; it lies in ν (no block at all, if it is nil). -/
def Grow (e : TypeId) (sz : Nat) (v : Value) (m : Nat) (xs : List Value) (ν : OH) : Prop :=
  xs.length = m * sz ∧ ((v = .slice none 0 0 ∧ m = 0 ∧ ν = []) ∨
    ∃ b cap spare, v = .slice (some ⟨b, 0, none⟩) m cap ∧ ν = [(b, .cells (xs ++ spare).toArray e (0, 0))] ∧ m ≤ cap ∧ cap ≤ maxLen ∧ (xs ++ spare).length = cap * sz)
theorem Grow.nil (e : TypeId) (sz : Nat) : Grow e sz (.slice none 0 0) 0 [] [] := ⟨by simp, .inl ⟨rfl, rfl, rfl⟩⟩
/-- The slice that is appended: its cells, as they stand in every world that shows what is frozen and what is ours. -/
def Src (G : GH) (μ : OH) (v : Value) (m sz : Nat) (us : List Value) : Prop := us.length = m * sz ∧ ∃ A c, v = .slice A m c ∧ (0 < m → ∃ a, A = some a ∧ CellsAt G μ a us)
theorem m_append {e : TypeId} {agg : Bool} {sz : Nat} {s x : Operand} {v u : Value} {m m' : Nat} {xs us : List Value} {ν μr : OH} [Ty P t (.slice e)] [Lay P e agg sz bytes zero] (hzs : zero.cells.size = sz) (hsz : 0 < sz) (hs : Env.ev σ s = some v) (hx : Env.ev σ x = some u) (hg : Grow e sz v m xs ν) (hp : μ.Perm (ν ++ μr)) (hsrc : Src G μ u m' sz us) (h1 : us.all Value.oneCell' = true)
    (hb : (m + m') * bytes ≤ 140737488355328) (hb' : m + m' ≤ maxLen) :
    MoveOp P (.call { callee := .builtin .append, args := #[s, x], argTypes := #[t, t] }) ty σ G μ (fun v' G' μ' => ∃ ν', Grow e sz v' (m + m') (xs ++ us) ν' ∧ G' = G ∧ μ' = ν' ++ μr) := by
  intro dst pos af g ρ hρ w hw a K Q hK
  have hw' := hw.perm hp
  obtain ⟨i, hi, hi1, hi2, hi3⟩ := Lay.infoEx (P := P) (t := e) (agg := agg) (size := sz) (bytes := bytes) (zero := zero) inferInstance
  have ht : P.underlying t = some (.slice e) := Ty.h
  obtain ⟨hl, hg⟩ := hg
  obtain ⟨hus, A, c, rfl, hA⟩ := hsrc
  have hall : ∀ x ∈ us, x.oneCell' = true := fun x hx => List.all_eq_true.1 h1 x hx
  have hex : ∀ (r : Result Value), (Builtin.append_ #[t, t] ty #[v, .slice A m' c]).run P w = r → (execOp ρ ⟨dst, .call { callee := .builtin .append, args := #[s, x], argTypes := #[t, t] }, ty, pos, af, g⟩).run P w = r.andThen fun v w' => .ok (.value v) w' := by
    intro r hr
    subst hr
    simp only [execOp, resolve, invoke, builtin, Sem.run_bind, Sem.run_pure, Result.andThen_ok, List.map_toArray, List.map_cons, List.map_nil, hρ _ _ hs, hρ _ _ hx]
  have hrow : ∀ (old : Nat), old < m + m' → Grow e sz (.slice (some ⟨w.heap.size, 0, none⟩) (m + m') (grownCap w (m + m') old e)) (m + m') (xs ++ us) [(w.heap.size, .cells (xs ++ us ++ (Builtin.zeroCells zero.cells (grownCap w (m + m') old e - (m + m'))).toList).toArray e (0, 0))] := by
    intro old ho
    have hge := grownCap_ge w (m + m') old e
    refine ⟨by rw [List.length_append, hl, hus, Nat.add_mul], .inr ⟨_, _, _, rfl, rfl, hge, grownCap_le_maxLen w (m + m') old e hb', ?_⟩⟩
    simp only [List.length_append, hl, hus, Array.length_toList, size_zeroCells, hzs, ← Nat.add_mul]
    congr 1
    omega
  by_cases hm : m' = 0
  · subst hm
    have hu0 : us = [] := List.eq_nil_of_length_eq_zero (by simpa using hus)
    subst hu0
    have hr : (Builtin.append_ #[t, t] ty #[v, .slice A 0 c]).run P w = .ok v w := by
      rcases hg with ⟨rfl, rfl, rfl⟩ | ⟨b, cap, spare, rfl, rfl, hc1, _, _⟩ <;> cases A <;> simp [Builtin.append_, run_underlying ht, sizeOf, typeInfo, hi, Builtin.lenOf, Builtin.firstCells, loadCells, loadCellsFrom, storeCells, *]
    rw [hex _ hr]
    exact hK v w G (ν ++ μr) ((Step.refl hw').permL hp.symm) ⟨ν, ⟨by simpa using hl, by simpa using hg⟩, rfl, rfl⟩
  · obtain ⟨ad, rfl, hcs⟩ := hA (by omega)
    have hnews : ∀ j u, us[j]? = some u → w.cell? (ad.add j) = some u := fun j u hu => hcs j u hu w hw.sees
    have hlus : us.length = m' * i.size := by rw [hus, hi1]
    rcases hg with ⟨rfl, rfl, rfl⟩ | ⟨b, cap, spare, rfl, rfl, hc1, hc2, hc3⟩
    · have hx0 : xs = [] := List.eq_nil_of_length_eq_zero (by simpa using hl)
      subst hx0
      have hr := run_append_nil (P := P) w t ty e i zero ht hi hi3 ad m' c us hlus hnews (by omega) (by simp only [maxLen] at hb'; omega) (by rw [hi2]; have := hb; simp only [Nat.zero_add] at this; omega)
      rw [hex _ hr]
      have hrow' := hrow 0 (by omega)
      simp only [Nat.zero_add, List.nil_append] at hrow' ⊢
      have hst := (Step.drew hw' 1).trans (Step.alloc (Step.drew hw' 1).mem (.cells (us.toArray ++ Builtin.zeroCells zero.cells (grownCap w m' 0 e - m')) e (0, 0)))
      refine hK _ _ G _ (hst.permL hp.symm) ⟨[(w.heap.size, .cells (us ++ (Builtin.zeroCells zero.cells (grownCap w m' 0 e - m')).toList).toArray e (0, 0))], ?_, rfl, ?_⟩
      · rw [Nat.zero_add, List.nil_append]; exact hrow'
      · simp [World.drewN]
    · have hblk : w.heap[b]? = some (.cells (xs ++ spare).toArray e (0, 0)) := hw'.own b _ (by simp)
      by_cases hroom : m + m' ≤ cap
      · have hr := run_append_room (P := P) w t ty e i ht hi b m cap (xs ++ spare).toArray hblk ad m' c us hlus hnews hall hroom (by rw [hi1, hus, ← Nat.add_mul, List.size_toArray, hc3]; exact Nat.mul_le_mul_right _ hroom)
        rw [hex _ hr]
        have htake : ((xs ++ spare).toArray.toList.take (m * i.size) ++ us ++ (xs ++ spare).toArray.toList.drop (m * i.size + us.length)) = xs ++ us ++ spare.drop us.length := by
          rw [hi1, ← hl]
          simp only [List.take_left]
          congr 1
          rw [← List.drop_drop, List.drop_left]
        rw [htake]
        have hst : Step G ([(b, .cells (xs ++ spare).toArray e (0, 0))] ++ μr) w G ([(b, .cells (xs ++ us ++ spare.drop us.length).toArray e (0, 0))] ++ μr) (w.setRow b (xs ++ us ++ spare.drop us.length).toArray) :=
          Step.row hw' (b := b) (vs := xs ++ spare) (by simp [Has]) (.here _ _)
        refine hK _ _ G _ (hst.permL hp.symm) ⟨[(b, .cells (xs ++ us ++ spare.drop us.length).toArray e (0, 0))], ⟨by rw [List.length_append, hl, hus, Nat.add_mul], .inr ⟨b, cap, spare.drop us.length, rfl, rfl, hroom, hc2, ?_⟩⟩, rfl, rfl⟩
        have h5 : (m + m') * sz ≤ cap * sz := Nat.mul_le_mul_right _ hroom
        simp only [List.length_append, List.length_drop, hl, hus] at hc3 ⊢
        rw [Nat.add_mul] at h5
        omega
      · have holds : ∀ j u, xs[j]? = some u → w.cell? ((⟨b, 0, none⟩ : Addr).add j) = some u := by
          intro j u hu
          have hj : j < xs.length := (List.getElem?_eq_some_iff.1 hu).1
          rw [add_mk, Nat.zero_add]
          unfold World.cell?
          simp only [hblk]
          simp only [Option.isSome_none, Bool.false_eq_true, if_false, List.getElem?_toArray]
          rw [List.getElem?_append_left hj]
          exact hu
        have hr := run_append_grow (P := P) w t ty e i zero ht hi hi3 ⟨b, 0, none⟩ m cap xs (by rw [hl, hi1]) holds ad m' c us hlus hnews (by omega) (by simp only [maxLen] at hb'; omega) (growslice_fits (by omega) (by rw [hi2]; exact hb))
        rw [hex _ hr]
        have hrow' := hrow cap (by omega)
        have hst := (Step.drew hw' 1).trans (Step.alloc (Step.drew hw' 1).mem (.cells (xs.toArray ++ us.toArray ++ Builtin.zeroCells zero.cells (grownCap w (m + m') cap e - (m + m'))) e (0, 0)))
        have hst2 : Step G ([(b, .cells (xs ++ spare).toArray e (0, 0))] ++ μr) w G ((w.heap.size, .cells (xs.toArray ++ us.toArray ++ Builtin.zeroCells zero.cells (grownCap w (m + m') cap e - (m + m'))) e (0, 0)) :: μr) _ :=
          hst.drop (List.Sublist.cons_cons _ (List.Sublist.cons _ (List.Sublist.refl _)))
        refine hK _ _ G _ (hst2.permL hp.symm) ⟨_, hrow', rfl, ?_⟩
        simp
theorem v_append {e : TypeId} {agg : Bool} {sz : Nat} {s x : Operand} {v u : Value} {m m' : Nat} {xs us : List Value} {ν μr : OH} [Ty P t (.slice e)] [Lay P e agg sz bytes zero] (hzs : zero.cells.size = sz) (hsz : 0 < sz) (hs : Env.ev σ s = some v) (hx : Env.ev σ x = some u) (hg : Grow e sz v m xs ν) (hp : μ.Perm (ν ++ μr)) (hsrc : Src G μ u m' sz us) (h1 : us.all Value.oneCell' = true)
    (hb : (m + m') * bytes ≤ 140737488355328) (hb' : m + m' ≤ maxLen) (hd : Nat.blt d n = true)
    (h : ∀ v' ν', Grow e sz v' (m + m') (xs ++ us) ν' → Vc P fn n B Φ (.ops all rest :: k) ((d, v') :: σ) G (ν' ++ μr)) : Vc P fn n B Φ (.ops all (⟨some d, .call { callee := .builtin .append, args := #[s, x], argTypes := #[t, t] }, ty, pos, af, none⟩ :: rest) :: k) σ G μ :=
  v_move (m_append hzs hsz hs hx hg hp hsrc h1 hb hb') hd fun _ _ _ ⟨ν', h1, h2, h3⟩ => by rw [h2, h3]; exact h _ ν' h1
theorem Src.own {e : TypeId} {b m sz c : Nat} {us : List Value} (h : Has μ b us e) (hl : us.length = m * sz) : Src G μ (.slice (some ⟨b, 0, none⟩) m c) m sz us := ⟨hl, _, _, rfl, fun _ => ⟨_, rfl, CellsAt.own h⟩⟩
/-- A slice of ours that has grown is frozen from here on. -/
theorem Grow.cells {e : TypeId} {sz m : Nat} {v : Value} {xs : List Value} {ν : OH} (h : Grow e sz v m xs ν) {G' : GH} (hG : ∀ b o, (b, o) ∈ ν → G' b = some o) : ∃ A c, v = .slice A m c ∧ m ≤ c ∧ c ≤ maxLen ∧ (0 < m → ∃ a, A = some a ∧ CellsG G' a xs) := by
  obtain ⟨hl, ⟨rfl, rfl, rfl⟩ | ⟨b, cap, spare, rfl, rfl, h1, h2, h3⟩⟩ := h
  · exact ⟨none, 0, rfl, Nat.le_refl _, by simp [maxLen], fun h => absurd h (by omega)⟩
  · refine ⟨_, cap, rfl, h1, h2, fun _ => ⟨_, rfl, fun j u hu => ?_⟩⟩
    have := hG b (.cells (xs ++ spare).toArray e (0, 0)) (by simp)
    have hj : j < xs.length := (List.getElem?_eq_some_iff.1 hu).1
    rw [add_mk, Nat.zero_add]
    unfold GH.cell?
    simp only [this]
    simp only [Option.isSome_none, Bool.false_eq_true, if_false, List.getElem?_toArray]
    rw [List.getElem?_append_left hj]
    exact hu
/-- The elements' cells, one element behind the other. -/
theorem Grow.sl {α : Type} {R : α → List Value → Prop} {e : TypeId} {sz : Nat} {v : Value} {l : List α} {css : List (List Value)} {ν : OH} (h : Grow e sz v l.length css.flatten ν) {G' : GH} (hG : ∀ b o, (b, o) ∈ ν → G' b = some o) (hlen : css.length = l.length) (hR : ∀ (i : Nat) x cs, l[i]? = some x → css[i]? = some cs → cs.length = sz ∧ R x cs) : Sl G' sz R v l := by
  obtain ⟨A, c, rfl, h1, h2, h3⟩ := h.cells hG
  refine ⟨A, c, rfl, h1, h2, fun h0 => ?_⟩
  obtain ⟨a, rfl, h4⟩ := h3 h0
  refine ⟨a, rfl, fun i x hx => ?_⟩
  have hi : i < l.length := (List.getElem?_eq_some_iff.1 hx).1
  have hcs : css[i]? = some (css[i]'(by omega)) := List.getElem?_eq_getElem (by omega)
  obtain ⟨e1, e2⟩ := hR i x _ hx hcs
  refine ⟨_, e1, e2, fun j u hu => ?_⟩
  rw [add_add]
  refine h4 _ _ ?_
  have hall : ∀ (css : List (List Value)) (i : Nat) (cs : List Value), (∀ (k : Nat) (c : List Value), css[k]? = some c → c.length = sz) → css[i]? = some cs → ∀ (j : Nat) (u : Value), cs[j]? = some u → css.flatten[i * sz + j]? = some u := by
    intro css
    induction css with
    | nil => intro i cs _ hi; simp at hi
    | cons c css ih =>
      intro i cs hs hi j u hu
      cases i with
      | zero =>
        simp only [List.getElem?_cons_zero, Option.some.injEq] at hi
        subst hi
        have hj : j < c.length := (List.getElem?_eq_some_iff.1 hu).1
        rw [List.flatten_cons, Nat.zero_mul, Nat.zero_add, List.getElem?_append_left hj]
        exact hu
      | succ i =>
        simp only [List.getElem?_cons_succ] at hi
        have hc : c.length = sz := hs 0 c (by simp)
        rw [List.flatten_cons, List.getElem?_append_right (by rw [hc, Nat.add_mul]; omega), hc, Nat.add_mul, Nat.one_mul, show i * sz + sz + j - sz = i * sz + j by omega]
        exact ih i cs (fun k c' hk => hs (k + 1) c' (by simpa using hk)) hi j u hu
  refine hall css i _ (fun k c hk => ?_) hcs j u hu
  have hk' : k < l.length := by have := (List.getElem?_eq_some_iff.1 hk).1; omega
  exact (hR k _ c (List.getElem?_eq_getElem hk') hk).1
end
/-- A block of ours that is frozen, as a slice of integers. -/
theorem Sl.ofInts {G : GH} {b : Nat} {k : IntKind} {e : TypeId} {l : List Int} {vs : List Value} (hvs : vs = l.map (.int k ·)) (hG : G b = some (.cells vs.toArray e (0, 0))) (hw : ∀ x ∈ l, (Lit.int k x).wf = true) (hm : l.length ≤ maxLen) : Sl G 1 (IntR k) (.slice (some ⟨b, 0, none⟩) l.length l.length) l := by
  subst hvs
  refine ⟨_, _, rfl, Nat.le_refl _, hm, fun _ => ⟨_, rfl, fun i x hx => ⟨[.int k x], rfl, ⟨rfl, hw x (List.mem_of_getElem? hx)⟩, fun j u hu => ?_⟩⟩⟩
  match j, hu with
  | 0, hu =>
    simp only [List.getElem?_cons_zero, Option.some.injEq] at hu
    subst hu
    rw [add_mk, add_mk]
    simp [GH.cell?, hG, hx]
/-- What was frozen on the way need not be told of. -/
theorem Step.thaw {G G' : GH} {μ μ' : OH} {w w' : World} (h : Step G μ w G' μ' w') : Step G μ w G μ' w' where
  mem := ⟨fun b o hb => h.mem.g b o (h.le b o hb), h.mem.own, h.mem.nodup, fun b o hb => by
    have := h.mem.apart b o hb
    cases hG : G b with
    | none => rfl
    | some o' => rw [h.le b o' hG] at this; cases this⟩
  le := GH.le_refl _
  os := h.os
  tape := h.tape
  output := h.output
  size := h.size
  same := h.same
  mine := h.mine
  ours := fun b o hb => .inl ⟨o, hb⟩
theorem Con.thaw {P : Program} {f : FuncId} {args : Array Value} {G : GH} {μ : OH} {Ψ : Value → OH → Prop} (h : Con P f args G μ (fun v _ μ' => Ψ v μ')) : Con P f args G μ (fun v G' μ' => G' = G ∧ Ψ v μ') :=
  fun w hw => (h w hw).mono fun _ _ ⟨G', μ', hs, hΨ⟩ => ⟨G, μ', hs.thaw, rfl, hΨ⟩
theorem Con.just {P : Program} {f : FuncId} {args : Array Value} {G : GH} {r : Value} (h : Con P f args G [] (fun v _ μ' => v = r ∧ μ' = [])) : Con P f args G [] (Just r G) :=
  h.thaw.mono fun _ _ _ ⟨h1, h2, h3⟩ => ⟨h2, h1, h3⟩
theorem Con.keeps {P : Program} {f : FuncId} {args : Array Value} {G : GH} {μ : OH} {r : Value} (h : Con P f args G μ (fun v _ μ' => v = r ∧ μ' = μ)) : Con P f args G μ (Keeps r G μ) :=
  h.thaw.mono fun _ _ _ ⟨h1, h2, h3⟩ => ⟨h2, h1, h3⟩
/-! ### Slices of integers, appended -/
theorem Src.ints {G : GH} {μ : OH} {k : IntKind} {v : Value} {l : List Int} (h : Sl G 1 (IntR k) v l) : Src G μ v l.length 1 (l.map (.int k ·)) := by
  obtain ⟨A, c, rfl, h1, h2, h3, h4, _⟩ := h.openInt
  refine ⟨by simp, A, c, rfl, fun h0 => ?_⟩
  have hA := h3 h0
  cases A with
  | none => cases hA
  | some a =>
    refine ⟨a, rfl, CellsAt.frozen fun j u hu => ?_⟩
    rw [List.getElem?_map] at hu
    obtain ⟨x, hx, rfl⟩ := Option.map_eq_some_iff.1 hu
    obtain ⟨hj, rfl⟩ := List.getElem?_eq_some_iff.1 hx
    have := h4 j hj
    rw [Nat.mul_one] at this
    exact this
theorem flatten_ints {k : IntKind} : ∀ l : List Int, (l.map fun x => [Value.int k x]).flatten = l.map (.int k ·)
  | [] => rfl
  | x :: l => by simp [flatten_ints l]
theorem Grow.ints {e : TypeId} {k : IntKind} {v : Value} {l : List Int} {ν : OH} (h : Grow e 1 v l.length (l.map (.int k ·)) ν) {G' : GH} (hG : ∀ b o, (b, o) ∈ ν → G' b = some o) (hw : ∀ x ∈ l, (Lit.int k x).wf = true) : Sl G' 1 (IntR k) v l := by
  rw [← flatten_ints] at h
  refine h.sl hG (by simp) fun i x cs hx hc => ?_
  rw [List.getElem?_map, hx] at hc
  simp only [Option.map_some, Option.some.injEq] at hc
  subst hc
  exact ⟨rfl, rfl, hw x (List.mem_of_getElem? hx)⟩
theorem Grow.empty {e : TypeId} {sz b : Nat} : Grow e sz (.slice (some ⟨b, 0, none⟩) 0 0) 0 [] [(b, .cells ([] : List Value).toArray e (0, 0))] :=
  ⟨by simp, .inr ⟨b, 0, [], rfl, rfl, Nat.le_refl _, by simp [maxLen], by simp⟩⟩
theorem allOne_ints {k : IntKind} (l : List Int) : (l.map (Value.int k ·)).all Value.oneCell' = true := by
  rw [List.all_eq_true]
  intro u hu
  obtain ⟨x, _, rfl⟩ := List.mem_map.1 hu
  rfl
/-! ### In regions that draw -/
section
variable {P : Program} {fn : Func} {n : Nat} {B : Base} {Φ : Value → GH → OH → Prop} {k : List It} {σ : Env} {G G0 : GH} {μ ν : OH} {all : Array Oper} {listed : Array Bool} {m d : Nat} {t ty : TypeId} {pos : String} {af : Array Edge} {bytes : Nat} {zero : Value}
theorem d_buildSlice (i : Nat) {e : TypeId} {agg : Bool} {sz len : Nat} {ps : List (Nat × Operand)} {vs zs cs : List Value} (hi : all[i]? = some ⟨some d, .buildSlice t len ps.toArray, ty, pos, af, none⟩) (hT : Ty P t (.slice e)) (hL : Lay P e agg sz bytes zero) (hr : Region.ready .any all listed = [i])
    (hz : zero.cells = zs.toArray) (hl : ps.map (·.1) = List.range len) (hv : Env.evs σ (ps.map (·.2)) = some vs) (hp : packL sz vs = some cs) (hb : Nat.ble (len * sz) 16777216 = true) (hd : Nat.blt d n = true) (hν : ∀ e ∈ ν, e ∈ μ)
    (h : ∀ b, DVc P fn n B Φ all G0 ν m (listed.setIfInBounds i true) k ((d, .slice (some ⟨b, 0, none⟩) len len) :: σ) G ((b, .cells cs.toArray e (0, 0)) :: μ)) : DVc P fn n B Φ all G0 ν (m + 1) listed k σ G μ :=
  d_exec i hi hr (m_buildSlice hz hl hv hp hb) hd fun _ _ _ ⟨b, h1, h2, h3⟩ => by rw [h1, h2, h3]; exact ⟨fun e he => List.mem_cons_of_mem _ (hν e he), h b⟩
theorem d_append (i : Nat) {e : TypeId} {agg : Bool} {sz : Nat} {s x : Operand} {v u : Value} {q q' : Nat} {xs us : List Value} {ν1 μr : OH} (hi : all[i]? = some ⟨some d, .call { callee := .builtin .append, args := #[s, x], argTypes := #[t, t] }, ty, pos, af, none⟩) (hT : Ty P t (.slice e)) (hL : Lay P e agg sz bytes zero) (hr : Region.ready .any all listed = [i])
    (hzs : zero.cells.size = sz) (hsz : 0 < sz) (hs : Env.ev σ s = some v) (hx : Env.ev σ x = some u) (hg : Grow e sz v q xs ν1) (hp : μ.Perm (ν1 ++ μr)) (hsrc : Src G μ u q' sz us) (h1 : us.all Value.oneCell' = true)
    (hb : (q + q') * bytes ≤ 140737488355328) (hb' : q + q' ≤ maxLen) (hd : Nat.blt d n = true) (hν : ∀ e ∈ ν, e ∈ μr)
    (h : ∀ v' ν', Grow e sz v' (q + q') (xs ++ us) ν' → DVc P fn n B Φ all G0 ν m (listed.setIfInBounds i true) k ((d, v') :: σ) G (ν' ++ μr)) : DVc P fn n B Φ all G0 ν (m + 1) listed k σ G μ :=
  d_exec i hi hr (m_append hzs hsz hs hx hg hp hsrc h1 hb hb') hd fun v' _ _ ⟨ν', h1, h2, h3⟩ => by rw [h2, h3]; exact ⟨fun e he => List.mem_append_right _ (hν e he), h v' ν' h1⟩
end
end Go.Vx
/-
  VX, MORE: slice expressions with three indexes; append behind a slice that has no room left.
-/
set_option linter.unusedVariables false
set_option linter.unusedSimpArgs false
namespace Go.Vx
open Go
attribute [local semireducible] Vc Con PureOp ReadOp MoveOp
/-! ### What closes a premise with a plain value -/
section
variable {σ : Env}
theorem evs_nil : Env.evs σ [] = some [] := rfl
theorem evs_cons {x : Operand} {xs : List Operand} {v : Value} {vs : List Value} (h1 : Env.ev σ x = some v) (h2 : Env.evs σ xs = some vs) : Env.evs σ (x :: xs) = some (v :: vs) := by simp [Env.evs, h1, h2]
theorem ap_nil {rs : List Value} : [] ++ rs = rs := rfl
theorem ap_cons {u : Value} {us rs r : List Value} (h : us ++ rs = r) : (u :: us) ++ rs = u :: r := by rw [← h]; rfl
theorem ov_nil {l : List Value} : over l 0 [] = l := by simp [over]
theorem ov_cons {a u : Value} {l us l' : List Value} (h : over l 0 us = l') : over (a :: l) 0 (u :: us) = u :: l' := by
  subst h; simp [over, Nat.add_comm]
theorem pk_nil {sz : Nat} : packL sz [] = some [] := rfl
theorem pk_cons {sz : Nat} {v : Value} {vs us rs r : List Value} (hc : v.cells = us.toArray) (hs : Nat.beq us.length sz = true) (h : packL sz vs = some rs) (he : us ++ rs = r) : packL sz (v :: vs) = some r := by
  subst he
  have h1 : Nat.beq v.cells.size sz = true := by rw [hc]; simpa using hs
  simp [packL, h, hc, hs]
theorem bld_nil {pf : Nat → Option (Nat × Nat)} {cs : List Value} : buildF pf cs [] = some cs := rfl
theorem bld_cons {pf : Nat → Option (Nat × Nat)} {cs cs' r us : List Value} {i off size : Nat} {v : Value} {rest : List (Nat × Value)} (hpf : pf i = some (off, size)) (hc : v.cells = us.toArray) (hs : Nat.beq us.length size = true) (hl : Nat.ble (off + size) cs.length = true) (ho : over cs off us = cs') (h : buildF pf cs' rest = some r) : buildF pf cs ((i, v) :: rest) = some r := by
  subst ho
  have h1 : Nat.beq v.cells.size size = true := by rw [hc]; simpa using hs
  have h2 : v.cells.toList = us := by rw [hc]
  have h3 : (Nat.beq v.cells.size size && Nat.ble (off + size) cs.length) = true := by rw [h1, hl]; rfl
  have h4 : buildF pf cs ((i, v) :: rest) = bif (Nat.beq v.cells.size size && Nat.ble (off + size) cs.length) then buildF pf (over cs off v.cells.toList) rest else none := by
    rw [buildF]; simp only [hpf]
  rw [h4, h3, h2]
  exact h
theorem bldL {pl : List (Nat × Nat)} {cs r : List Value} {ps : List (Nat × Value)} (h : buildF (fun i => pl[i]?) cs ps = some r) : buildL pl cs ps = some r := h
end
section
variable {P : Program} {fn : Func} {n : Nat} {B : Base} {Φ : Value → GH → OH → Prop} {k : List It} {σ : Env} {G : GH} {μ : OH} {all : Array Oper} {rest : List Oper} {d : Nat} {ty : TypeId} {pos : String} {af : Array Edge} {t : TypeId} {bytes : Nat} {zero : Value}
theorem p_extract0 {x : Operand} {v : Value} {vs : List Value} (hx : Env.ev σ x = some (.tuple (v :: vs).toArray)) : PureOp P (.extract x 0) ty σ v := p_extract hx (by simp)
theorem p_extract1 {x : Operand} {v u : Value} {vs : List Value} (hx : Env.ev σ x = some (.tuple (u :: v :: vs).toArray)) : PureOp P (.extract x 1) ty σ v := p_extract hx (by simp)
/-- A part of a block of ours. -/
theorem r_loadNo {x : Operand} {b i : Nat} {vs us : List Value} {e : TypeId} {sz : Nat} [Lay P t true sz bytes zero] (hx : Env.ev σ x = some (.pointer (some ⟨b, i, none⟩))) (h : Has μ b vs e) (hd : (vs.drop i).take sz = us) (hn : us.length = sz) : ReadOp P (.load t x) ty σ G μ (.agg us.toArray) := by
  subst hd
  exact r_loadN hx (CellsAt.ownAt h) hn
theorem p_slice3 {e : TypeId} {agg : Bool} {sz : Nat} {x hi mx : Operand} {A : Option Addr} {m c : Nat} {k k' : IntKind} {h q : Int} [Ty P t (.slice e)] [Lay P e agg sz bytes zero] (hx : Env.ev σ x = some (.slice A m c)) (hh : Env.ev σ hi = some (.int k h)) (hq : Env.ev σ mx = some (.int k' q))
    (h0 : 0 ≤ h) (h1 : h ≤ q) (h2 : q ≤ c) : PureOp P (.slice t x none (some hi) (some mx)) ty σ (.slice A h.toNat q.toNat) := by
  intro dst pos af g ρ hρ w
  obtain ⟨h', rfl⟩ := Int.eq_ofNat_of_zero_le h0
  obtain ⟨q', rfl⟩ := Int.eq_ofNat_of_zero_le (Int.le_trans h0 h1)
  have e1 : (if q' = 0 then A else A.map (·.add (0 * sz))) = A := by
    split
    · rfl
    · cases A <;> simp [Addr.add]
  have a1 : h' ≤ q' := by omega
  have a2 : q' ≤ c := by omega
  simp only [Nat.zero_mul] at e1
  simp [execOp, hρ _ _ hx, hρ _ _ hh, hρ _ _ hq, Instr.sliceAt, Instr.slice, Instr.sliceBounds, Instr.sliceBound, asIntOf, run_under (P := P) (t := t) (d := .slice e), run_sizeOf (P := P) (t := e) (agg := agg) (size := sz) (bytes := bytes) (zero := zero), a1, a2, e1]
theorem m_appendFull {e : TypeId} {agg : Bool} {sz : Nat} {s x : Operand} {A : Option Addr} {u : Value} {m m' : Nat} {xs us : List Value} [Ty P t (.slice e)] [Lay P e agg sz bytes zero] (hzs : zero.cells.size = sz) (hs : Env.ev σ s = some (.slice A m m)) (hx : Env.ev σ x = some u)
    (hsS : Src G μ (.slice A m m) m sz xs) (hsrc : Src G μ u m' sz us) (hm : 0 < m) (h0 : 0 < m') (hb : (m + m') * bytes ≤ 140737488355328) (hb' : m + m' ≤ maxLen) :
    MoveOp P (.call { callee := .builtin .append, args := #[s, x], argTypes := #[t, t] }) ty σ G μ (fun v' G' μ' => ∃ ν', Grow e sz v' (m + m') (xs ++ us) ν' ∧ G' = G ∧ μ' = ν' ++ μ) := by
  intro dst pos af g ρ hρ w hw a K Q hK
  obtain ⟨i, hi, hi1, hi2, hi3⟩ := Lay.infoEx (P := P) (t := e) (agg := agg) (size := sz) (bytes := bytes) (zero := zero) inferInstance
  have ht : P.underlying t = some (.slice e) := Ty.h
  obtain ⟨hus, A', c, rfl, hA⟩ := hsrc
  obtain ⟨hxs, A0, c0, he, hA0⟩ := hsS
  injection he with e1 _ e2
  subst e1; subst e2
  obtain ⟨ad, rfl, hcs⟩ := hA h0
  obtain ⟨a0, rfl, hcs0⟩ := hA0 hm
  have hex : ∀ (r : Result Value), (Builtin.append_ #[t, t] ty #[.slice (some a0) m m, .slice (some ad) m' c]).run P w = r → (execOp ρ ⟨dst, .call { callee := .builtin .append, args := #[s, x], argTypes := #[t, t] }, ty, pos, af, g⟩).run P w = r.andThen fun v w' => .ok (.value v) w' := by
    intro r hr
    subst hr
    simp only [execOp, resolve, invoke, builtin, Sem.run_bind, Sem.run_pure, Result.andThen_ok, List.map_toArray, List.map_cons, List.map_nil, hρ _ _ hs, hρ _ _ hx]
  have hnews : ∀ j u, us[j]? = some u → w.cell? (ad.add j) = some u := fun j u hu => hcs j u hu w hw.sees
  have holds : ∀ j u, xs[j]? = some u → w.cell? (a0.add j) = some u := fun j u hu => hcs0 j u hu w hw.sees
  have hr := run_append_grow (P := P) w t ty e i zero ht hi hi3 a0 m m xs (by rw [hxs, hi1]) holds ad m' c us (by rw [hus, hi1]) hnews (by omega) (by simp only [maxLen] at hb'; omega) (growslice_fits (by omega) (by rw [hi2]; exact hb))
  rw [hex _ hr]
  have hge := grownCap_ge w (m + m') m e
  have hst := (Step.drew hw 1).trans (Step.alloc (Step.drew hw 1).mem (.cells (xs.toArray ++ us.toArray ++ Builtin.zeroCells zero.cells (grownCap w (m + m') m e - (m + m'))) e (0, 0)))
  refine hK _ _ G _ hst ⟨[(w.heap.size, .cells (xs ++ us ++ (Builtin.zeroCells zero.cells (grownCap w (m + m') m e - (m + m'))).toList).toArray e (0, 0))], ⟨by rw [List.length_append, hxs, hus, Nat.add_mul], .inr ⟨_, _, _, rfl, rfl, hge, grownCap_le_maxLen w (m + m') m e hb', ?_⟩⟩, rfl, ?_⟩
  · simp only [List.length_append, hxs, hus, Array.length_toList, size_zeroCells, hzs, ← Nat.add_mul]
    congr 1
    omega
  · simp [World.drewN]
theorem v_appendFull {e : TypeId} {agg : Bool} {sz : Nat} {s x : Operand} {A : Option Addr} {u : Value} {m m' : Nat} {xs us : List Value} [Ty P t (.slice e)] [Lay P e agg sz bytes zero] (hzs : zero.cells.size = sz) (hs : Env.ev σ s = some (.slice A m m)) (hx : Env.ev σ x = some u)
    (hsS : Src G μ (.slice A m m) m sz xs) (hsrc : Src G μ u m' sz us) (hm : 0 < m) (h0 : 0 < m') (hb : (m + m') * bytes ≤ 140737488355328) (hb' : m + m' ≤ maxLen) (hd : Nat.blt d n = true)
    (h : ∀ v' ν', Grow e sz v' (m + m') (xs ++ us) ν' → Vc P fn n B Φ (.ops all rest :: k) ((d, v') :: σ) G (ν' ++ μ)) : Vc P fn n B Φ (.ops all (⟨some d, .call { callee := .builtin .append, args := #[s, x], argTypes := #[t, t] }, ty, pos, af, none⟩ :: rest) :: k) σ G μ :=
  v_move (m_appendFull hzs hs hx hsS hsrc hm h0 hb hb') hd fun _ _ _ ⟨ν', h1, h2, h3⟩ => by rw [h2, h3]; exact h _ ν' h1
theorem perm_of_count {μ ν : OH} (h : ∀ p : Nat × Obj → Bool, μ.countP p = ν.countP p) : μ.Perm ν := by
  haveI : DecidableEq (Nat × Obj) := fun a b => Classical.propDecidable (a = b)
  rw [List.perm_iff_count]
  intro x
  exact h _
/-- Some blocks of ours are frozen, some are forgotten. -/
theorem v_freezeP (ν μ' r : OH) (hp : μ.Perm (ν ++ (μ' ++ r))) (h : ∀ G', GH.le G G' → (∀ b o, (b, o) ∈ ν → G' b = some o) → Vc P fn n B Φ k σ G' μ') : Vc P fn n B Φ k σ G μ :=
  v_perm hp (v_freeze fun G' hle hG => v_drop (List.sublist_append_left _ _) (h G' hle hG))
/-- Some blocks of ours, out of the list. -/
inductive PickA (ν : OH) : OH → OH → Prop
  | last : PickA ν ν []
  | here (ρ : OH) : PickA ν (ν ++ ρ) ρ
  | cons (e : Nat × Obj) {μ r : OH} (h : PickA ν μ r) : PickA ν (e :: μ) (e :: r)
  | app (κ : OH) {μ r : OH} (h : PickA ν μ r) : PickA ν (κ ++ μ) (κ ++ r)
theorem PickA.one {e : Nat × Obj} (ρ : OH) : PickA [e] (e :: ρ) ρ := PickA.here ρ
theorem PickA.none (μ : OH) : PickA [] μ μ := PickA.here (ν := []) μ
theorem PickA.perm {ν μ r : OH} (h : PickA ν μ r) : μ.Perm (ν ++ r) := by
  induction h with
  | last => simp
  | here ρ => exact List.Perm.refl _
  | cons e h ih => exact (ih.cons e).trans (List.perm_middle.symm)
  | app κ h ih =>
    refine (List.Perm.append_left κ ih).trans ?_
    rw [← List.append_assoc, ← List.append_assoc]
    exact List.Perm.append_right _ List.perm_append_comm
theorem v_frzP (ν : OH) {r : OH} (hp : μ.Perm (ν ++ r)) (h : ∀ G', GH.le G G' → (∀ b o, (b, o) ∈ ν → G' b = some o) → Vc P fn n B Φ k σ G' r) : Vc P fn n B Φ k σ G μ :=
  v_perm hp (v_freeze h)
theorem v_frz (ν : OH) {r : OH} (hp : PickA ν μ r) (h : ∀ G', GH.le G G' → (∀ b o, (b, o) ∈ ν → G' b = some o) → Vc P fn n B Φ k σ G' r) : Vc P fn n B Φ k σ G μ :=
  v_perm hp.perm (v_freeze h)
theorem PickA.perm' {ν μ : OH} (h : μ.Perm ν) : μ.Perm (ν ++ []) := by simpa using h
theorem Grow.shape {e : TypeId} {sz : Nat} {v : Value} {m : Nat} {xs : List Value} {ν : OH} (h : Grow e sz v m xs ν) : ∃ A c, v = .slice A m c ∧ m ≤ c ∧ c ≤ maxLen := by
  obtain ⟨_, ⟨rfl, rfl, _⟩ | ⟨b, cap, spare, rfl, _, h1, h2, _⟩⟩ := h
  · exact ⟨_, _, rfl, Nat.le_refl _, by simp [maxLen]⟩
  · exact ⟨_, _, rfl, h1, h2⟩
theorem Src.frozen {G : GH} {μ : OH} {a : Addr} {m c sz : Nat} {us : List Value} (h : CellsG G a us) (hl : us.length = m * sz) : Src G μ (.slice (some a) m c) m sz us := ⟨hl, _, _, rfl, fun _ => ⟨_, rfl, CellsAt.frozen h⟩⟩
theorem CellsG.take {G : GH} {a : Addr} {us : List Value} (h : CellsG G a us) (q : Nat) : CellsG G a (us.take q) := fun j v hv => h j v (by
  rw [List.getElem?_take] at hv
  split at hv
  · exact hv
  · cases hv)
theorem Grow.lit {e : TypeId} {sz b m : Nat} {xs : List Value} (h : xs.length = m * sz) (hm : m ≤ maxLen) : Grow e sz (.slice (some ⟨b, 0, none⟩) m m) m xs [(b, .cells xs.toArray e (0, 0))] :=
  ⟨h, .inr ⟨b, m, [], rfl, by simp, Nat.le_refl _, hm, by simpa using h⟩⟩
end
end Go.Vx
/-
  VX, TEXTS: strings, ranges over them, interfaces, and what hangs on a Bool that is not known.
-/
set_option linter.unusedVariables false
set_option linter.unusedSimpArgs false
namespace Go.Vx
open Go
attribute [local semireducible] Vc Con PureOp ReadOp MoveOp
section
variable {P : Program} {fn : Func} {n : Nat} {B : Base} {Φ : Value → GH → OH → Prop} {k : List It} {σ : Env} {G : GH} {μ : OH} {all : Array Oper} {rest : List Oper} {d : Nat} {ty : TypeId} {pos : String} {af : Array Edge} {t : TypeId} {bytes : Nat} {zero : Value}
/-! ### Ranges over a string -/
/-! ### Strings -/
/-! ### Interfaces -/
/-! ### Numbers -/
/-! ### A Bool that is not known, without parting -/
end
/-! ### Calls in regions that draw -/
section
variable {P : Program} {ty : TypeId} {σ : Env} {G : GH} {μ : OH}
end
end Go.Vx
namespace Go.Vx
open Go
attribute [local semireducible] Vc Con PureOp ReadOp MoveOp
/-- The byte at a place. -/
def byt (s : ByteArray) (i : Nat) : Nat := (s.get! i).toNat
end Go.Vx
namespace Go.Vx
open Go
attribute [local semireducible] Vc Con PureOp ReadOp MoveOp
section
variable {P : Program} {fn : Func} {n : Nat} {B : Base} {Φ : Value → GH → OH → Prop} {k : List It} {σ : Env} {G : GH} {μ : OH}
/-- A loop whose measure is no slot's: ι tells the rounds apart. -/
theorem v_loopI {ι : Type} (S : List Nat) (J : ι → List Value → GH → OH → Prop) (m : ι → Nat) {body : Code} {vs : List Value} (hg : Env.gets σ S = some vs) (i0 : ι) (h0 : J i0 vs G μ)
    (hr : ∀ i vs G μ, J i vs G μ → Vc P fn n B Φ (.code body :: .again S (fun vs' w' => ∃ j G' μ', J j vs' G' μ' ∧ Step B.G B.μ B.w G' μ' w' ∧ m j < m i) :: k) (S.zip vs) G μ) : Vc P fn n B Φ (.code (.loop body) :: k) σ G μ := by
  intro w hw a ha
  refine wp_loop_fam (ι := ι × List Value × World) (fun x a w => Holds B.rk.ds n (S.zip x.2.1) a ∧ w = x.2.2 ∧ ∃ G μ, J x.1 x.2.1 G μ ∧ Step B.G B.μ B.w G μ w) (fun x => m x.1) (i0 := (i0, vs, w)) ⟨ha.sub (gets_zip hg), rfl, G, μ, h0, hw⟩ ?_
  rintro ⟨i, us, wr⟩ a' w' ⟨hh, hw', G', μ', hJ, hS⟩
  simp only at hw'
  subst hw'
  refine wpIn_mono (hr i us G' μ' hJ w' hS a' hh) fun e a'' w'' hq => ?_
  cases e with
  | normal =>
    obtain ⟨us', hh', _, j, G2, μ2, hJ2, hS2, hlt⟩ := hq
    exact ⟨(j, us', w''), ⟨hh', rfl, G2, μ2, hJ2, hS2⟩, hlt⟩
  | _ => simpa [Kont, Exit.then] using hq
theorem v_againI {ι : Type} {S : List Nat} {J : ι → List Value → GH → OH → Prop} {m : ι → Nat} {N : Nat} {vs : List Value} (j : ι) (hg : Env.gets σ S = some vs) (hJ : J j vs G μ) (hm : m j < N) :
    Vc P fn n B Φ (.again S (fun vs' w' => ∃ j G' μ', J j vs' G' μ' ∧ Step B.G B.μ B.w G' μ' w' ∧ m j < N) :: k) σ G μ :=
  fun _ hw => run_again hg ⟨j, G, μ, hJ, hw, hm⟩
end
end Go.Vx
namespace Go.Vx
open Go
attribute [local semireducible] Vc Con PureOp ReadOp MoveOp
theorem dec_eq {p : Prop} [Decidable p] : dec p = decide p := by
  by_cases h : p
  · rw [dec_pos h, decide_eq_true h]
  · rw [dec_neg h, decide_eq_false h]
/-! ### A function value that captures nothing, called -/
section
variable {P : Program} {fn : Func} {n : Nat} {B : Base} {Φ : Value → GH → OH → Prop} {k : List It} {σ : Env} {G : GH} {μ : OH} {all : Array Oper} {rest : List Oper} {d : Nat} {ty : TypeId} {pos : String} {af : Array Edge}
end
end Go.Vx
namespace Go.Vx
open Go
section
variable {P : Program} {fn : Func} {n : Nat} {B : Base} {Φ : Value → GH → OH → Prop} {k : List It} {σ : Env} {G G0 : GH} {μ ν : OH} {all : Array Oper} {listed : Array Bool} {m d : Nat} {ty : TypeId} {pos : String} {af : Array Edge} {v : Value}
theorem d_callJ (i : Nat) {f : FuncId} [Callable P f] {args : List Operand} {ts : Array TypeId} {vs : List Value} (hi : all[i]? = some ⟨some d, .call { callee := .value (.func f), args := args.toArray, argTypes := ts }, ty, pos, af, none⟩) (hr : Region.ready .any all listed = [i]) (ha : Env.evs σ args = some vs) (hs : Con P f vs.toArray G [] (Just v G)) (hd : Nat.blt d n = true)
    (h : DVc P fn n B Φ all G0 ν m (listed.setIfInBounds i true) k ((d, v) :: σ) G μ) : DVc P fn n B Φ all G0 ν (m + 1) listed k σ G μ := d_keep i hi hr (m_callFJ ha hs) hd h
end
end Go.Vx
attribute [irreducible] Go.Vx.byt
/-
  VX, STRUCTS: two of them, held against each other; results that lie in memory.
-/
set_option linter.unusedVariables false
set_option linter.unusedSimpArgs false
namespace Go.Vx
open Go
attribute [local semireducible] Vc Con PureOp ReadOp MoveOp
/-- The fields of struct type t, and that its values are held against each other field by field. -/
class EqS (P : Program) (t : TypeId) (fl : outParam (List Field)) : Prop where
  ht : P.underlying t = some (.struct (P.fieldsOf t))
  hp : P.stoodInHeld t = false
  hm : P.eqGuardType P.depth t = false
  hf : (P.fieldsOf t).toList = fl
section
variable {P : Program} {d : Nat} {xs ys : List Value} {rest : List Field} {r : Bool} {nm tg pk : String} {ft off bo : Nat} {em : Bool} {bytes sz : Nat} {zero : Value}
end
section
variable {P : Program} {ty : TypeId} {σ : Env} {t : TypeId}
end
/-! ### Results that lie in memory -/
section
variable {P : Program} {fn : Func} {n : Nat} {B : Base} {Φ : Value → GH → OH → Prop} {k : List It} {σ : Env} {G : GH} {μ : OH} {t : TypeId} {bytes : Nat} {zero : Value}
end
end Go.Vx
/-
  VX, FROM A LAW's CONTRACT TO THE ROW's STEP.
-/
set_option linter.unusedVariables false
set_option linter.unusedSimpArgs false
namespace Go.Vx
open Go Go.ChangeShapes Go.WideShapes Go.ChangeAt Go.RowKit Go.Deep
attribute [local semireducible] Vc Con
/-- All that is there when the call begins. -/
def ghost (W : World) : GH := fun b => W.heap[b]?
theorem mem_ghost (W : World) : Mem (ghost W) [] W := ⟨fun _ _ h => h, fun _ _ h => (by cases h), List.nodup_nil, fun _ _ h => (by cases h)⟩
theorem Step.below {G G' : GH} {μ' : OH} {W W' : World} (h : Step G [] W G' μ' W') : Below W.heap.size W W' :=
  ⟨h.os, h.tape, h.output, h.size, fun k hk => h.same k hk (fun o ho => by cases ho)⟩
/-- What a law's walk shows. -/
def LawCon (P : Program) (f : FuncId) (args : Array Value) (W : World) : Prop := Con P f args (ghost W) [] (fun v _ _ => v = .bool true)
theorem LawCon.calls {P : Program} {f : FuncId} {args : Array Value} {W : World} (h : LawCon P f args W) : Calls P f args W fun e W' => e = .returned (.bool true) ∧ Below W.heap.size W W' :=
  Calls.mono (h W (mem_ghost W)) fun _ _ ⟨_, he, _, _, hs, hv⟩ => ⟨by rw [he, hv], hs.below⟩
theorem trodAll_below {H : Type} {enc : TypeId × Value → H} {P : Program} (hl : laidOutB P = true) : ∀ {ts : List TypeId} {vs : List Value} {ds : List (DataW H)} {ps : List MemPlace} {W W' : World},
    (ts.all fun t => P.readableRec t && decide (t < P.types.size)) = true → DataW.TrodAll enc P W 0 (fun _ => true) true ts vs ds ps → Below W.heap.size W W' →
    DataW.TrodAll enc P W' 0 (fun b => decide (b < W.heap.size)) true ts vs ds ps := by
  intro ts
  induction ts with
  | nil =>
    intro vs ds ps W W' _ h _
    obtain ⟨rfl, rfl, rfl⟩ := trodAll_nil h
    exact trodAll_mk0
  | cons t ts ih =>
    intro vs ds ps W W' ht h hb
    simp only [List.all_cons, Bool.and_eq_true, decide_eq_true_eq] at ht
    cases vs with
    | nil => cases ds <;> simp [DataW.TrodAll] at h
    | cons v vs =>
      obtain ⟨v', vs', d, ds', p, q, hv, rfl, rfl, h0, hr⟩ := trodAll_cons h
      cases hv
      have hlt : ∀ x ∈ p, x.block < W.heap.size := by obtain ⟨m, hm⟩ := h0; exact DataW.trod_lt m _ _ _ hm
      exact trodAll_cons_mk (Below.trod hl ht.1.1 ht.1.2 h0 hb hlt) (ih (by simpa using ht.2) hr hb)
/-- The spec of a law: true, and every argument reads as it did. -/
def LawSpec (s : ChangeSpec) (n : Nat) : Prop := s.vars = [] ∧ ∀ (H : Type) (ds : List (DataW H)), ds.length = n → s.fn H ds = { results := [.lit (.bool true)], args := ds }
theorem trodAll_len {H : Type} {enc : TypeId × Value → H} {P : Program} {W : World} {sp : Nat → Bool} {hd : Bool} {b : Nat} : ∀ {ts : List TypeId} {vs : List Value} {ds : List (DataW H)} {ps : List MemPlace}, DataW.TrodAll enc P W b sp hd ts vs ds ps → ds.length = ts.length
  | [], _, _, _, h => by obtain ⟨_, rfl, _⟩ := trodAll_nil h; rfl
  | t :: ts, vs, ds, ps, h => by
    cases vs with
    | nil => cases ds <;> simp [DataW.TrodAll] at h
    | cons v vs =>
      obtain ⟨v', vs', d, ds', p, q, hv, rfl, rfl, h0, hr⟩ := trodAll_cons h
      cases hv
      simp [trodAll_len hr]
theorem law_post {H : Type} {enc : TypeId × Value → H} {P : Program} {f : FuncId} {fn : Func} {s : ChangeSpec} {T : TypeId} {n : Nat} (hl : laidOutB P = true) (hT : P.underlying T = some .bool) (hr : fn.resultTypes = #[T]) (hs : LawSpec s n) (hn : fn.params.size = n)
    (hts : (fn.params.toList.all fun t => P.readableRec t && decide (t < P.types.size)) = true) {W : World} {args : Array Value} {ds gs : List (DataW H)} {before : List MemPlace} (hW : DataW.Whole enc P fn.params.toList s.vars false W args.toList ds gs before) (hc : LawCon P f args W) :
    Calls P f args W fun e W' => ∃ v, e = .returned v ∧ ChangeSpec.post enc P fn s false true false false W args v W' := by
  refine hc.calls.mono fun e W' ⟨he, hb⟩ => ⟨_, he, ?_⟩
  have hW' := hW
  obtain ⟨p, q, hA, hV, rfl, _, _⟩ := hW
  obtain ⟨h1, h2⟩ := hs
  rw [h1] at hV
  obtain ⟨rfl, rfl⟩ := trodVars_none hV
  have hlen : ds.length = n := by rw [trodAll_len hA]; simpa using hn
  have hfn := h2 H ds hlen
  refine ⟨ds, [], p ++ [], [], p, [], hW', ?_, ?_, ?_, hb.frame _, fun h => by cases h⟩
  · rw [List.append_nil, hfn, hr]
    exact trodAll_mk1 (shut_bool hT _)
  · rw [List.append_nil, hfn]
    exact trodAll_below hl hts hA hb
  · rw [List.append_nil, hfn, h1]
    rfl
/-! ### What came in, as the walk wants it -/
section
variable {H : Type} {enc : TypeId × Value → H} {P : Program} {W : World} {base : Nat} {t : TypeId} {v : Value} {d : DataW H} {p : List MemPlace}
/-- Whatever can be read as type t lies in cells that R holds against some α. -/
def Elem {α : Type} (enc : TypeId × Value → H) (P : Program) (W : World) (t : TypeId) (R : α → List Value → Prop) : Prop :=
  ∀ fuel cs x, DataW.trod enc P W 0 (fun _ => true) true fuel t cs = some x → ∃ y, R y cs
theorem el_int {k : IntKind} (hT : P.underlying t = some (.int k)) : Elem enc P W t (IntR k) := fun _ _ _ h => by
  obtain ⟨n, h1, _, h2⟩ := DataW.trod_int hT h
  exact ⟨n, h1, h2⟩
/-- A slice, in a cell. -/
def SlR {α : Type} (G : GH) (sz : Nat) (R : α → List Value → Prop) (l : List α) (cs : List Value) : Prop := ∃ v, cs = [v] ∧ Sl G sz R v l
theorem ghost_cell {a : Addr} : GH.cell? (ghost W) a = W.cell? a := rfl
theorem el_slice {α : Type} {e : TypeId} {R : α → List Value → Prop} {sz : Nat} (hT : P.underlying t = some (.slice e)) (hsz : P.cellsOf e = sz) (hR : Elem enc P W e R) : Elem enc P W t (SlR (ghost W) sz R) := fun fuel cs x h => by
  subst hsz
  rcases open_slice hT h with ⟨rfl, _⟩ | ⟨a, len, cap, m, n, D, Pl, rfl, hb, hl, hm, hmm, hx, hi⟩
  · exact ⟨[], _, rfl, Sl.nil⟩
  · simp only [if_true] at hmm
    subst hmm
    have key : ∀ i, i < m → ∃ y cs', cs'.length = P.cellsOf e ∧ R y cs' ∧ CellsG (ghost W) (a.add (i * P.cellsOf e)) cs' := by
      intro i hlt
      obtain ⟨cs', hc, ht⟩ := hi i hlt
      obtain ⟨y, hy⟩ := hR _ _ _ ht
      obtain ⟨_, h1, h2⟩ := World.cells?_some hc
      refine ⟨y, cs', h1, hy, fun j u hu => ?_⟩
      rw [ghost_cell, h2 j (by have := (List.getElem?_eq_some_iff.1 hu).1; omega)]
      exact hu
    have build : ∀ k, k ≤ m → ∃ l : List α, l.length = k ∧ ∀ i x, l[i]? = some x → ∃ cs, cs.length = P.cellsOf e ∧ R x cs ∧ CellsG (ghost W) (a.add (i * P.cellsOf e)) cs := by
      intro k
      induction k with
      | zero => intro _; exact ⟨[], rfl, fun i x h => by simp at h⟩
      | succ k ih =>
        intro hk
        obtain ⟨l, h1, h2⟩ := ih (by omega)
        obtain ⟨y, cs', h3, h4, h5⟩ := key k (by omega)
        refine ⟨l ++ [y], by simp [h1], fun i x hx => ?_⟩
        by_cases hik : i < l.length
        · rw [List.getElem?_append_left hik] at hx; exact h2 i x hx
        · rw [List.getElem?_append_right (by omega)] at hx
          have : i = l.length := by
            have := (List.getElem?_eq_some_iff.1 hx).1
            simp at this; omega
          subst this
          simp only [Nat.sub_self, List.getElem?_cons_zero, Option.some.injEq] at hx
          subst hx
          rw [h1]
          exact ⟨cs', h3, h4, h5⟩
    obtain ⟨l, h1, h2⟩ := build len (by omega)
    exact ⟨l, _, rfl, ⟨some a, m, by rw [h1], by omega, hm, fun _ => ⟨a, rfl, h2⟩⟩⟩
/-- An array of n elements. -/
def ArrR {α : Type} (n sz : Nat) (R : α → List Value → Prop) (l : List α) (cs : List Value) : Prop := l.length = n ∧ cs.length = n * sz ∧ ∀ i x, l[i]? = some x → R x ((cs.drop (i * sz)).take sz)
theorem arg_cell {α : Type} {R : α → List Value → Prop} (hE : Elem enc P W t R) (h : DataW.Trod enc P W 0 (fun _ => true) true t v d p) : ∃ y, R y v.cells.toList := by
  obtain ⟨fuel, hf⟩ := h
  exact hE _ _ _ hf
theorem arg_slice {α : Type} {e : TypeId} {R : α → List Value → Prop} {sz : Nat} (hT : P.underlying t = some (.slice e)) (hsz : P.cellsOf e = sz) (hR : Elem enc P W e R) (hv : Value.okWide P W .any base t v) (h : DataW.Trod enc P W 0 (fun _ => true) true t v d p) : ∃ l, Sl (ghost W) sz R v l := by
  obtain ⟨a, len, cap, rfl⟩ := okWide_slice hT hv
  obtain ⟨l, u, hu, hl⟩ := arg_cell (el_slice hT hsz hR) h
  simp only [Value.cells] at hu
  simp only [List.cons.injEq, and_true] at hu
  subst hu
  exact ⟨l, hl⟩
theorem ArrR.three {l : List Int} {cs : List Value} (h : ArrR 3 1 (IntR .i64) l cs) : ∃ a b c, cs = [.int .i64 a, .int .i64 b, .int .i64 c] ∧ (Lit.int .i64 a).wf = true ∧ (Lit.int .i64 b).wf = true ∧ (Lit.int .i64 c).wf = true := by
  obtain ⟨h1, h2, h3⟩ := h
  match l, cs, h1, h2 with
  | [a, b, c], [u, v, w], _, _ =>
    have e1 := h3 0 a rfl
    have e2 := h3 1 b rfl
    have e3 := h3 2 c rfl
    simp [IntR] at e1 e2 e3
    exact ⟨a, b, c, by rw [e1.1, e2.1, e3.1], e1.2, e2.2, e3.2⟩
theorem Elem.mono {α β : Type} {R : α → List Value → Prop} {R' : β → List Value → Prop} (h : Elem enc P W t R) (hR : ∀ x cs, R x cs → ∃ y, R' y cs) : Elem enc P W t R' := fun f cs x hx => let ⟨y, hy⟩ := h f cs x hx; hR _ _ hy
end
end Go.Vx
/-
  VX, SCOPES: a scope that no goto leaves, and a label.
-/
set_option linter.unusedVariables false
set_option linter.unusedSimpArgs false
namespace Go.Vx
open Go
attribute [local semireducible] Vc
section
variable {P : Program} {fn : Func} {n : Nat} {B : Base} {Φ : Value → GH → OH → Prop} {k : List It} {σ : Env} {G : GH} {μ : OH}
end
end Go.Vx
/-
  VX, A REGION THAT DRAWS ITS ORDER, TWO OPERATIONS READY: either may come first.
-/
set_option linter.unusedVariables false
set_option linter.unusedSimpArgs false
namespace Go.Vx
open Go
attribute [local semireducible] Vc DVc Con PureOp ReadOp MoveOp
section
variable {P : Program} {fn : Func} {n : Nat} {B : Base} {Φ : Value → GH → OH → Prop} {k : List It} {σ : Env} {G G0 : GH} {μ : OH} {all : Array Oper} {m : Nat} {listed : Array Bool} {d : Nat} {op : Op} {ty : TypeId} {pos : String} {af : Array Edge} {v : Value}
end
end Go.Vx
/-
  VX, A CUT: what is left is shown once, whichever way led there.
-/
set_option linter.unusedVariables false
set_option linter.unusedSimpArgs false
namespace Go.Vx
open Go
attribute [local semireducible] Vc DVc
def EnvHas (σ : Env) : Env → Prop
  | [] => True
  | (i, v) :: σ' => Env.get σ i = some v ∧ EnvHas σ σ'
theorem EnvHas.get {σ : Env} : ∀ {σ' : Env}, EnvHas σ σ' → ∀ i v, Env.get σ' i = some v → Env.get σ i = some v
  | [], _, i, v, h => by simp [Env.get] at h
  | (j, u) :: σ', hh, i, v, h => by
    obtain ⟨h1, h2⟩ := hh
    simp only [Env.get] at h
    cases hb : Nat.beq j i with
    | true =>
      rw [hb] at h
      simp only [cond_true, Option.some.injEq] at h
      subst h
      have := Nat.eq_of_beq_eq_true hb
      subst this
      exact h1
    | false =>
      rw [hb] at h
      exact EnvHas.get h2 i v h
section
variable {P : Program} {fn : Func} {n : Nat} {B : Base} {Φ : Value → GH → OH → Prop} {k : List It} {σ σ' : Env} {G G0 : GH} {μ : OH}
end
section
variable {P : Program} {fn : Func} {n : Nat} {B : Base} {Φ : Value → GH → OH → Prop} {k : List It} {σ : Env} {G G0 : GH} {μ : OH} {all : Array Oper} {m : Nat} {listed : Array Bool} {d : Nat} {op : Op} {ty : TypeId} {pos : String} {af : Array Edge} {t : TypeId} {bytes : Nat} {zero : Value} {ν : OH}
end
end Go.Vx
/-
  VX, MAPS: a block of ours that is a map, as a list of keys and values; reads, writes, deletions; loops over it.
-/
set_option linter.unusedVariables false
set_option linter.unusedSimpArgs false
set_option linter.unusedSectionVars false
namespace Go.Vx
open Go
open Go.ChangeMaps (setBlock)
attribute [local semireducible] Vc DVc Con PureOp ReadOp MoveOp
/-! ### Keys -/
/-- Keys of type k, written by mk, are told apart at once. -/
structure KeyD (P : Program) (k : TypeId) {α : Type} [DecidableEq α] (mk : α → Value) (d : TypeDesc) : Prop where
  und : P.underlying k = some d
  same : ∀ a b, Instr.sameNow d (mk a) (mk b) = some (decide (a = b))
  check : ∀ (w : World) e a, (Instr.checkKey e 10000 k (mk a)).run P w = .ok () w
  bits : ∀ a, Instr.sameBits 10000 (mk a) (mk a) = true
class KeyT (P : Program) (k : TypeId) {α : Type} [DecidableEq α] (mk : α → Value) : Prop where
  h : ∃ d, KeyD P k mk d
abbrev keyI (a : Int) : Value := .int .i64 a
abbrev keyS (a : ByteArray) : Value := .string a
theorem KeyT.int {P : Program} {k : TypeId} [t : Ty P k (.int .i64)] : KeyT P k keyI :=
  ⟨_, ⟨t.h, fun a b => by simp only [Instr.sameNow, keyI, if_true]; congr 1, fun w e a => MapKept.run_checkKey t.h (show MapKept.IsKey (.int .i64) (.int .i64 a) from rfl) e 9999, fun a => by simp [Instr.sameBits, keyI]⟩⟩
theorem KeyT.string {P : Program} {k : TypeId} [t : Ty P k .string] : KeyT P k keyS :=
  ⟨_, ⟨t.h, fun a b => by simp only [Instr.sameNow, keyS, ba_beq], fun w e a => MapKept.run_checkKey t.h (show MapKept.IsKey .string (.string a) from trivial) e 9999, fun a => by simp only [Instr.sameBits, keyS, ba_beq, decide_true]⟩⟩
section
variable {α : Type} [DecidableEq α] {mk : α → Value} {P : Program}
def mEnt (mk : α → Value) (x : α × Value × Nat) : MapEntry := ⟨mk x.1, x.2.1, x.2.2⟩
def kv (x : α × Value × Nat) : α × Value := (x.1, x.2.1)
/-- Entries as a map has them: no key twice, each behind the ones ahead. -/
structure MOk (L : List (α × Value × Nat)) (clock : Nat) : Prop where
  keys : (L.map (·.1)).Nodup
  rise : L.Pairwise (fun x y => x.2.2 < y.2.2)
  below : ∀ x ∈ L, x.2.2 < clock
/-- The object is a map that holds l. -/
def MapB (mk : α → Value) (l : List (α × Value)) (o : Obj) : Prop := ∃ L clock, o = .map (L.map (mEnt mk)).toArray clock ∧ L.map kv = l ∧ MOk L clock
/-- The object oI is a loop's state over the map oM, in block m, which holds l; the keys of left are still to come. -/
def IterB (mk : α → Value) (m : Nat) (l : List (α × Value)) (left : List α) (oM oI : Obj) : Prop := ∃ L clock since seen stepped, oM = .map (L.map (mEnt mk)).toArray clock ∧ L.map kv = l ∧ MOk L clock ∧
  (∀ x ∈ L, x.2.2 < since) ∧ since ≤ stepped ∧ since ≤ clock ∧ oI = .mapIter (some m) since seen stepped ∧ left = (L.filter fun x => !seen.contains x.2.2).map (·.1)
theorem IterB.map {m : Nat} {l : List (α × Value)} {left : List α} {oM oI : Obj} (h : IterB mk m l left oM oI) : MapB mk l oM :=
  let ⟨L, c, _, _, _, h1, h2, h3, _⟩ := h; ⟨L, c, h1, h2, h3⟩
theorem MapB.nodup {l : List (α × Value)} {o : Obj} (h : MapB mk l o) : (l.map (·.1)).Nodup := by
  obtain ⟨L, c, -, rfl, h3⟩ := h
  simpa [List.map_map, Function.comp_def, kv] using h3.keys
theorem MapB.nil : MapB mk [] (.map #[] 0) := ⟨[], 0, rfl, rfl, ⟨by simp, by simp, by simp⟩⟩
/-! ### Steps -/
theorem Step.setBlock {G : GH} {μ μ' : OH} {w : World} {b : Nat} {o : Obj} (h : Mem G μ w) (hu : Upd b o μ μ') : Step G μ w G μ' (Go.ChangeMaps.setBlock w b o) := by
  obtain ⟨o0, h0⟩ := hu.was
  have hlt := lt_of_heap (h.own _ _ h0)
  refine Step.upd h hu rfl rfl rfl (by simp [Go.ChangeMaps.setBlock]) ?_ fun c hc => ?_
  · simp [Go.ChangeMaps.setBlock, hlt]
  · simp [Go.ChangeMaps.setBlock, Array.getElem?_setIfInBounds, Ne.symm hc]
end
section
variable {α : Type} [DecidableEq α] {mk : α → Value} {P : Program} {ty : TypeId} {σ : Env} {G : GH} {μ r : OH} {t k e : TypeId} {bytes sz : Nat} {agg : Bool} {zero : Value}
/-! ### Writes -/
theorem MOk.parts {L1 L2 : List (α × Value × Nat)} {a : α} {v : Value} {b c : Nat} (h : MOk (L1 ++ (a, v, b) :: L2) c) (u : Value) : MOk (L1 ++ (a, u, b) :: L2) c := by
  obtain ⟨h1, h2, h3⟩ := h
  refine ⟨by simpa using h1, ?_, fun x hx => ?_⟩
  · rw [List.pairwise_append, List.pairwise_cons] at h2 ⊢
    refine ⟨h2.1, ⟨h2.2.1.1, h2.2.1.2⟩, fun x hx y hy => ?_⟩
    rcases List.mem_cons.1 hy with rfl | hy
    · exact h2.2.2 x hx (a, v, b) List.mem_cons_self
    · exact h2.2.2 x hx y (List.mem_cons_of_mem _ hy)
  · rcases List.mem_append.1 hx with hx | hx
    · exact h3 x (List.mem_append_left _ hx)
    · rcases List.mem_cons.1 hx with rfl | hx
      · exact h3 (a, v, b) (List.mem_append_right _ List.mem_cons_self)
      · exact h3 x (List.mem_append_right _ (List.mem_cons_of_mem _ hx))
/-! ### An entry that is read, then written ('m[k] |= v') -/
/-! ### Loops -/
end
section
variable {α : Type} [DecidableEq α] {mk : α → Value} {P : Program} {fn : Func} {n : Nat} {B : Base} {Φ : Value → GH → OH → Prop} {kk : List It} {σ : Env} {G : GH} {μ r : OH} {all : Array Oper} {rest : List Oper} {d : Nat} {ty : TypeId} {pos : String} {af : Array Edge} {t k e : TypeId} {bytes sz : Nat} {agg : Bool} {zero : Value}
end
end Go.Vx
/-
  VX, LOOPS OVER A FUNCTION: what an iterator gives, and the statement 'for x := range seq'.
-/
set_option linter.unusedVariables false
set_option linter.unusedSimpArgs false
set_option linter.unusedSectionVars false
namespace Go.Vx
open Go
attribute [local semireducible] Vc DVc Con PureOp ReadOp MoveOp
/-- A call of a loop's yield, and what the round that it asks for leads to. -/
def YieldCon (P : Program) (l : Nat) (args : Array Value) (G : GH) (μ : OH) (Ψ : Value → GH → OH → Prop) : Prop :=
  ∀ w, Mem G μ w → ∃ f tmps assign body, (Instr.yield l args).run P w = .ok (.round l f tmps assign body) w ∧
    RoundIn Fence.wide 0 P l f tmps assign body w fun e w' => ∃ v, e = .returned v ∧ ∃ G' μ', Step G μ w G' μ' w' ∧ Ψ v G' μ'
/-- THE CONTRACT OF AN ITERATOR, the function gf with lb bound: whatever loop's yield it is given, and whatever J that loop keeps from round to round, it gives some xs, of which S holds; μ1 are its own blocks. -/
def SeqCon {α : Type} (P : Program) (gf : FuncId) (lb : List Value) (enc : α → Value) (S : List α → Prop) (N : Nat) (G : GH) (μ1 : OH) : Prop :=
  ∀ (l : Nat) (J : List α → GH → OH → Prop) (G1 : GH) (ν : OH), GH.le G G1 → J [] G1 ν →
    (∀ pre x G2 ν2, GH.le G1 G2 → J pre G2 ν2 → pre.length < N → YieldCon P l #[enc x] G2 ν2 (fun v G' ν' => v = .bool true ∧ J (pre ++ [x]) G' ν')) →
    Con P gf (.func (.yield l) #[] #[] :: lb).toArray G1 (μ1 ++ ν) (fun _ G' μ' => ∃ xs ν', S xs ∧ J xs G' ν' ∧ μ' = μ1 ++ ν')
theorem SeqCon.le {α : Type} {P : Program} {gf : FuncId} {lb : List Value} {enc : α → Value} {S : List α → Prop} {N : Nat} {G G' : GH} {μ1 : OH} (h : SeqCon P gf lb enc S N G μ1) (hle : GH.le G G') : SeqCon P gf lb enc S N G' μ1 :=
  fun l J G1 ν h1 => h l J G1 ν (GH.le_trans hle h1)
section
variable {P : Program} {fn : Func} {n : Nat} {B : Base} {Φ : Value → GH → OH → Prop} {k : List It} {σ : Env} {G : GH} {μ : OH} {all : Array Oper} {rest : List Oper} {d : Nat} {ty : TypeId} {pos : String} {af : Array Edge}
theorem run_callY {x : Operand} {l : Nat} {args : List Operand} {ts : Array TypeId} {vs : List Value} (hx : Env.ev σ x = some (.func (.yield l) #[] #[])) (ha : Env.evs σ args = some vs) :
    ∀ dst pos af g ρ, Agree σ ρ → ∀ w, (execOp ρ ⟨dst, .call { callee := .value x, args := args.toArray, argTypes := ts }, ty, pos, af, g⟩).run P w = (Instr.yield l vs.toArray).run P w := by
  intro dst pos af g ρ hρ w
  simp [execOp, resolve, hρ _ _ hx, Deferred.ofValue, invoke, agree_evs hρ ha]
theorem v_yield {x : Operand} {l : Nat} {args : List Operand} {ts : Array TypeId} {vs : List Value} {μ1 μ2 : OH} {Ψ : Value → GH → OH → Prop} (hx : Env.ev σ x = some (.func (.yield l) #[] #[])) (ha : Env.evs σ args = some vs) (hs : YieldCon P l vs.toArray G μ1 Ψ) (hp : μ.Perm (μ1 ++ μ2)) (hd : Nat.blt d n = true)
    (h : ∀ v G' μ1', GH.le G G' → Ψ v G' μ1' → Vc P fn n B Φ (.ops all rest :: k) ((d, v) :: σ) G' (μ1' ++ μ2)) :
    Vc P fn n B Φ (.ops all (⟨some d, .call { callee := .value x, args := args.toArray, argTypes := ts }, ty, pos, af, none⟩ :: rest) :: k) σ G μ := by
  intro w hw a hh
  have hd' : d < n := by simpa [Nat.blt_eq] using hd
  have hw' := hw.mem.perm hp
  refine wpListIn_plain rfl fun K hK => ⟨fn_RF, ?_⟩
  rw [Oper.semAt_eq _ _ _ (by intro c; simp), run_callY hx ha _ _ _ _ _ hh.agree]
  obtain ⟨f, tmps, assign, body, hy, hR⟩ := hs w hw'.split.1
  rw [hy]
  refine ⟨fun e => (by cases e), RoundIn.mono (F := RF B.rk.r) hR ?_⟩
  rintro e w' ⟨v, rfl, G', μ1', hst, hΨ⟩
  exact hK _ _ (h v G' μ1' hst.le hΨ w' (hw.trans ((hst.frame hw').permL hp.symm)) _ (hh.put hd' v))
/-! ### The assignment to the loop's variables -/
def Assigns (P : Program) (n : Nat) (c : Code) (σ σ' : Env) : Prop :=
  ∀ (r : Option Nat) (K : Act → World → Prop) (ds : List Deferred) (a : Act) (w : World), Holds ds n σ a → (∀ a', Holds ds n σ' a' → K a' w) → c.wpIn (RF r) 0 P (Exit.then K fun _ _ _ => False) a w
theorem Assigns.skip : Assigns P n .skip σ σ := fun r K ds a w ha hK => wpIn_skip (hK a ha)
inductive AssL (P : Program) (n : Nat) : List Oper → Env → Env → Prop
  | nil (σ : Env) : AssL P n [] σ σ
  | cons {op : Op} {ty : TypeId} {pos : String} {af : Array Edge} {d : Nat} {v : Value} {l : List Oper} {σ σ' : Env} (hop : PureOp P op ty σ v) (hd : Nat.blt d n = true) (h : AssL P n l ((d, v) :: σ) σ') : AssL P n (⟨some d, op, ty, pos, af, none⟩ :: l) σ σ'
theorem AssL.run {σ σ' : Env} {l : List Oper} (h : AssL P n l σ σ') {r : Option Nat} {all : Array Oper} {Q : Exit → Act → World → Prop} {ds : List Deferred} : ∀ {a : Act} {w : World}, Holds ds n σ a → (∀ a', Holds ds n σ' a' → Q .normal a' w) → wpListIn (RF r) 0 P all Q l a w := by
  induction h with
  | nil σ => exact fun ha hK => hK _ ha
  | cons hop hd h ih =>
    intro a w ha hK
    rename_i op ty pos af d v l σ0 σ1
    have hd' : d < n := by simpa [Nat.blt_eq] using hd
    refine wpListIn_plain rfl fun K hKK => op_in ?_ ?_
    · rintro c rfl
      have e := hop none "" #[] none a.eval ha.agree w
      have e2 : (execOp a.eval ⟨none, .defer c, ty, "", #[], none⟩).run P w = ((resolve a.eval c ty).run P w).andThen fun d w' => .ok (.defer d) w' := by
        simp only [execOp, Sem.run_bind]
        rfl
      rw [e2] at e
      cases hr : (resolve a.eval c ty).run P w <;> rw [hr] at e <;> cases e
    · rw [hop _ pos af none a.eval ha.agree w]
      exact hKK _ _ (ih (ha.put hd' v) hK)
theorem Assigns.region {id : Nat} {l : List Oper} {σ σ' : Env} (h : AssL P n l σ σ') : Assigns P n (.region id l.toArray false) σ σ' :=
  fun r K ds a w ha hK => wpIn_region_lit (h.run ha fun a' ha' => hK a' ha')
/-! ### The statement -/
def noAgain : List It → Bool
  | [] => true
  | .again _ _ :: _ => false
  | _ :: k => noAgain k
theorem kont_rk {K K' : RK} {V V' : Value → World → Prop} (hr : K'.r = K.r) (hpost : ∀ e a w, K'.post V' e a w → K.post V e a w) : ∀ (k : List It), noAgain k = true → ∀ e a w, Kont P K' n V' k e a w → Kont P K n V k e a w
  | [], _, e, a, w, h => hpost e a w h
  | .code c :: k, hk, e, a, w, h => by
    have ih := kont_rk hr hpost k hk
    cases e with
    | normal =>
      simp only [Kont] at h ⊢
      rw [← hr]
      exact wpIn_mono h ih
    | _ => exact ih _ _ _ h
  | .ops all l :: k, hk, e, a, w, h => by
    have ih := kont_rk hr hpost k hk
    cases e with
    | normal =>
      simp only [Kont] at h ⊢
      rw [← hr]
      clear hk
      induction l generalizing a w with
      | nil => exact ih _ _ _ h
      | cons o l ihl =>
        unfold wpListIn at h ⊢
        split at h
        · rename_i hw
          rw [if_pos hw]
          refine Oper.wpIn_mono (fun a w h => ihl a w h) ?_
          refine ⟨h.1, ?_⟩
          have h2 := h.2
          generalize (o.semAt (RF K'.r).round a.eval).run P w = R at h2 ⊢
          cases R with
          | ok x w' =>
            cases x <;> first
              | exact h2
              | exact ⟨h2.1, CallsIn.mono h2.2 fun e w'' he => by
                  cases e with
                  | returned v => exact he
                  | panicked ch => exact ih _ _ _ he
                  | outgrown => obtain ⟨a0, w0, h0⟩ := he; exact ⟨a0, w0, ih _ _ _ h0⟩⟩
              | exact ⟨h2.1, RoundIn.mono h2.2 fun e w'' he => by
                  cases e with
                  | returned v => exact he
                  | panicked ch => exact ih _ _ _ he
                  | outgrown => obtain ⟨a0, w0, h0⟩ := he; exact ⟨a0, w0, ih _ _ _ h0⟩⟩
          | halt x w' => cases x <;> first | exact ih _ _ _ h2 | exact h2
        · rename_i hw
          rw [if_neg hw]
          exact ⟨fn_RF, ihl _ _ h.2⟩
    | _ => exact ih _ _ _ h
  | .blk id :: k, hk, e, a, w, h => by
    have ih := kont_rk hr hpost k hk
    cases e with
    | normal => exact ih _ _ _ h
    | exit id' =>
      simp only [Kont] at h ⊢
      split at h
      · rename_i hi; rw [if_pos hi]; exact ih _ _ _ h
      · rename_i hi; rw [if_neg hi]; exact ih _ _ _ h
    | _ => exact ih _ _ _ h
theorem Step.upd1 {G : GH} {r : OH} {w : World} {b : Nat} {o o' : Obj} (h : Mem G ((b, o) :: r) w) : Step G ((b, o) :: r) w G ((b, o') :: r) (w.putObj b o') :=
  Step.upd h (Upd.here o r) rfl rfl rfl (by simp) (World.putObj_heap_same (lt_of_heap (h.own b o List.mem_cons_self))) (fun c hc => World.putObj_heap_other hc)
theorem Holds.pars {ds : List Deferred} {σ : Env} {a : Act} (h : Holds ds n σ a) {p : Nat} (hp : p < n) (v : Value) : Holds [] n ((p, v) :: σ) { tmps := a.tmps.setIfInBounds p v, defers := [] } := by
  have := h.put hp v
  exact ⟨rfl, this.size, this.get⟩
/-- **The statement 'for x := range seq { body }'**, over an iterator that has its contract; no round leaves it early. I: what holds from round to round, of what the iterator does not own. -/
theorem v_rangeFunc {α : Type} {Ds : List Nat} [hB : FnB P fn B Ds] {g : Operand} {gf : FuncId} [hc : Callable P gf] {lb : List Value} {p : Nat} {assign body : Code} {enc : α → Value} {S : List α → Prop} {N : Nat} {μ1 μ2 : OH} {σ' : α → Env}
    (I : List α → GH → OH → Prop) (hg : Env.ev σ g = some (.func (.func gf) #[] lb.toArray)) (hseq : SeqCon P gf lb enc S N G μ1) (hp : μ.Perm (μ1 ++ μ2)) (hpn : Nat.blt p n = true) (hass : ∀ x, Assigns P n assign ((p, enc x) :: σ) (σ' x)) (hna : noAgain k = true) (h0 : I [] G μ2)
    (hbody : ∀ (l : Nat) (B' : Base) [RdB B' l] pre x G2 ν, GH.le G G2 → I pre G2 ν → pre.length < N → Vc P fn n B' (fun v G' ν' => v = .bool true ∧ I (pre ++ [x]) G' ν') [.code body] (σ' x) G2 ν)
    (hk : ∀ (B' : Base) (D : Nat) [FnB P fn B' (D :: Ds)] xs G2 ν, GH.le G G2 → S xs → I xs G2 ν → Vc P fn n B' Φ k σ G2 (dO D :: (μ1 ++ ν))) :
    Vc P fn n B Φ (.code (.rangeFunc g #[p] assign body) :: k) σ G μ := by
  intro w hw a ha
  have hpn' : p < n := by simpa [Nat.blt_eq] using hpn
  have hr : B.rk.r = none := by rw [hB.h]; rfl
  show (Code.rangeFunc g #[p] assign body).wpIn (RF B.rk.r) 0 P (Kont P B.rk n (Fin B Φ) k) a w
  rw [hr]
  refine wpIn_rangeFunc ?_
  intro fn0 hfn
  obtain ⟨rec, hrec⟩ : ∃ rec : LoopState → Loop, rec = fun st => { state := st, pending := none, fn := fn0, tmps := a.tmps, params := #[p], assign, body, defers := w.heap.size } := ⟨_, rfl⟩
  have hst1 : Step G μ w G ((w.heap.size + 1, .loop (rec .ready)) :: dO w.heap.size :: μ) ((w.alloc (.deferred (some []))).alloc (.loop (rec .ready))) := by
    have s1 := Step.alloc hw.mem (.deferred (some []))
    have s2 := Step.alloc s1.mem (.loop (rec .ready))
    rw [World.size_alloc] at s2
    exact s1.trans s2
  refine ⟨w.heap.size + 1, [mark w.heap.size], (w.alloc (.deferred (some []))).alloc (.loop (rec .ready)), { target := .fn (.func gf) lb.toArray, args := #[.func (.yield (w.heap.size + 1)) #[] #[]] }, (w.alloc (.deferred (some []))).alloc (.loop (rec .ready)), gf, #[.func (.yield (w.heap.size + 1)) #[] #[]] ++ lb.toArray, (w.alloc (.deferred (some []))).alloc (.loop (rec .ready)), ?_, ?_, fun _ _ => trivial, ?_, fun e => (by cases e), ?_⟩
  · rw [hrec]
    exact run_enterLoop_outer _ _ _ _ _
  · have e1 := ha.ev hg
    have e2 : ∀ v, a.eval (.const v) = v := fun _ => rfl
    simp [resolve, e1, e2, Deferred.ofValue]
  · simp [invoke, hc.h]
  generalize hW1 : (w.alloc (.deferred (some []))).alloc (.loop (rec .ready)) = W1 at hst1 ⊢
  generalize hD : w.heap.size = D at hst1 hrec ⊢
  have hne : D + 1 ≠ D := by omega
  have hargs : #[Value.func (.yield (D + 1)) #[] #[]] ++ lb.toArray = (Value.func (.yield (D + 1)) #[] #[] :: lb).toArray := by simp
  rw [hargs]
  let J : List α → GH → OH → Prop := fun pre G' ν => ∃ ν', ν = (D + 1, .loop (rec .ready)) :: dO D :: ν' ∧ I pre G' ν'
  have hJ0 : J [] G ((D + 1, .loop (rec .ready)) :: dO D :: μ2) := ⟨μ2, rfl, h0⟩
  have hcon := hseq (D + 1) J G _ (GH.le_refl _) hJ0 (fun pre x G2 ν2 hle hJ hlen => by
    obtain ⟨ν', rfl, hI⟩ := hJ
    intro w2 hw2
    have hl := hw2.own (D + 1) _ List.mem_cons_self
    have hy := run_yield (P := P) (args := #[enc x]) hl (by rw [hrec]; rfl)
    rw [hrec] at hy
    simp only at hy
    refine ⟨fn0, _, assign, body, hy, roundIn_of_wpIn trivial ?_⟩
    have hH : Holds [] n ((p, enc x) :: σ) { tmps := Array.foldl (fun tmps x => tmps.setIfInBounds x.fst x.snd) a.tmps (#[p].zip #[enc x]), defers := [] } := by
      have := ha.pars hpn' (enc x)
      simpa using this
    refine hass x (some (D + 1)) _ [] _ w2 hH fun a1 ha1 => ?_
    have hbr := run_beginRound (P := P) hl (by rw [hrec])
    refine ⟨_, hbr, ?_⟩
    have hs1 : Step G2 ((D + 1, .loop (rec .ready)) :: dO D :: ν') w2 G2 ((D + 1, .loop { rec .ready with state := .busy }) :: dO D :: ν') _ := Step.upd1 hw2
    have hm1 := hs1.mem
    have hsub : List.Sublist ν' ((D + 1, .loop { rec .ready with state := .busy }) :: dO D :: ν') := (List.Sublist.refl _).cons _ |>.cons _
    have hmν : Mem G2 ν' (w2.putObj (D + 1) (.loop { rec .ready with state := .busy })) := ((Step.refl hm1).drop hsub).mem
    have hb := @hbody (D + 1) ⟨G2, ν', _, RK.round (D + 1)⟩ ⟨rfl⟩ pre x G2 ν' hle hI hlen _ (Step.refl hmν) a1 ha1
    refine wpIn_mono (F := RF (some (D + 1))) (Q := Kont P (RK.round (D + 1)) n _ []) hb fun e a3 w3 hq => ?_
    cases e with
    | normal =>
      obtain ⟨G3, ν3, hst3, -, hI3⟩ := hq
      simp only at hst3
      have hperm : ((D + 1, Obj.loop { rec .ready with state := .busy }) :: dO D :: ν').Perm (ν' ++ [(D + 1, Obj.loop { rec .ready with state := .busy }), dO D]) := by
        have := (List.perm_append_comm (l₁ := ν') (l₂ := [(D + 1, Obj.loop { rec .ready with state := .busy }), dO D]))
        exact this.symm
      have hfr := (hst3.frame (hm1.perm hperm)).permL hperm.symm
      have hfr2 := hfr.perm (List.perm_append_comm (l₁ := ν3) (l₂ := [(D + 1, Obj.loop { rec .ready with state := .busy }), dO D]))
      have hl3 := hfr2.mem.own (D + 1) _ List.mem_cons_self
      refine ⟨_, _, run_endRound none hl3, .bool true, rfl, G3, (D + 1, .loop (rec .ready)) :: dO D :: ν3, ?_, rfl, ν3, rfl, hI3⟩
      have hu := Step.upd1 (o' := .loop (rec .ready)) hfr2.mem
      have := (hs1.trans hfr2).trans hu
      rw [hrec] at this ⊢
      exact this
    | ret =>
      obtain ⟨G3, ν3, hst3, hv, _⟩ := hq
      cases hv
    | exit id =>
      obtain ⟨G3, ν3, hst3, hv, _⟩ := hq
      cases hv
    | goto l => exact hq.elim
    | panic c => exact hq.elim
    | outgrown => exact hq.elim)
  have hpm : ((D + 1, Obj.loop (rec .ready)) :: dO D :: μ).Perm (μ1 ++ ((D + 1, .loop (rec .ready)) :: dO D :: μ2)) := by
    refine ((hp.cons _).cons _).trans ?_
    have := List.perm_append_comm_assoc [(D + 1, Obj.loop (rec .ready)), dO D] μ1 μ2
    simpa using this
  have hm1 := hst1.mem.perm hpm
  refine calls_RF.2 (Calls.mono (hcon W1 hm1) ?_)
  rintro e w3 ⟨v, rfl, G3, μ3, hst3, xs, ν3, hS, ⟨ν', rfl, hI⟩, rfl⟩
  have hp3 : (μ1 ++ ((D + 1, Obj.loop (rec .ready)) :: dO D :: ν')).Perm ((D + 1, Obj.loop (rec .ready)) :: dO D :: (μ1 ++ ν')) := by
    have := List.perm_append_comm_assoc [(D + 1, Obj.loop (rec .ready)), dO D] μ1 ν'
    simpa using this.symm
  have hst3' := hst3.perm hp3
  have hl3 := hst3'.mem.own (D + 1) _ List.mem_cons_self
  have hpend : (rec .ready).pending = none := by rw [hrec]
  have hend : (Instr.endLoop (D + 1)).run P w3 = .ok none (w3.putObj (D + 1) (.loop { rec .ready with state := .exhausted })) := by
    exact (run_endLoop (P := P) hl3 (by rw [hrec]; simp)).trans (congrArg (fun x => Result.ok x _) hpend)
  refine ⟨none, _, hend, ?_⟩
  have hu := Step.upd1 (o' := .loop { rec .ready with state := .exhausted }) hst3'.mem
  have hall : Step B.G B.μ B.w G3 (dO D :: (μ1 ++ ν')) _ := (((hw.trans (hst1.trans (Step.permL hst3' hpm.symm))).trans hu).drop (List.sublist_cons_self _ _))
  have hkk := @hk ⟨B.G, B.μ, B.w, RK.fn P fn (D :: Ds)⟩ D ⟨rfl⟩ xs G3 ν' (GH.le_trans hst1.le hst3.le) hS hI _ hall { a with defers := [mark D] ++ a.defers } ⟨by
    show [mark D] ++ a.defers = (D :: Ds).map mark
    rw [ha.defers, hB.h]
    rfl, ha.size, ha.get⟩
  refine kont_rk (K' := RK.fn P fn (D :: Ds)) (by rw [hr]; rfl) ?_ k hna _ _ _ hkk
  intro e a w h
  rw [hB.h]
  exact h
end
end Go.Vx
/-
  VX, BITS of numbers of 64 bits without sign, as natural numbers; what the program's text asks of maps beside.
-/
set_option linter.unusedVariables false
set_option linter.unusedSimpArgs false
namespace Go.Vx
open Go
attribute [local semireducible] Vc DVc Con PureOp ReadOp MoveOp
section
variable {P : Program} {ty : TypeId} {σ : Env} {t t' : TypeId}
end
end Go.Vx
/-
  VX, THE CLOSED FACTS on this seat's types and functions, by program (vxgen.py).
-/
namespace Go.Proofs.Ytgflmkhfachlcaa
open Go Go.Vx
instance : Lay Try.prog 1 false 1 8 (.nilFunc) := ⟨by kernel_rfl, by kernel_rfl⟩
instance : Ty Try.prog 2 (.int .i64) := ⟨by kernel_rfl⟩
instance : Lay Try.prog 2 false 1 8 (.int .i64 0) := ⟨by kernel_rfl, by kernel_rfl⟩
instance : Ty Try.prog 3 (.int .i64) := ⟨by kernel_rfl⟩
instance : Lay Try.prog 3 false 1 8 (.int .i64 0) := ⟨by kernel_rfl, by kernel_rfl⟩
instance : Ty Try.prog 4 (.bool) := ⟨by kernel_rfl⟩
instance : Lay Try.prog 4 false 1 1 (.bool false) := ⟨by kernel_rfl, by kernel_rfl⟩
instance : Ty Try.prog 5 (.int .u8) := ⟨by kernel_rfl⟩
instance : Lay Try.prog 5 false 1 1 (.int .u8 0) := ⟨by kernel_rfl, by kernel_rfl⟩
instance : Ty Try.prog 6 (.int .u8) := ⟨by kernel_rfl⟩
instance : Lay Try.prog 6 false 1 1 (.int .u8 0) := ⟨by kernel_rfl, by kernel_rfl⟩
instance : Ty Try.prog 7 (.struct (Program.fieldsOf Try.prog 7)) := ⟨by kernel_rfl⟩
instance : Lay Try.prog 7 true 4 24 (.agg #[.int .i64 0, .int .i64 0, .bool false, .int .u8 0]) := ⟨by kernel_rfl, by kernel_rfl⟩
instance : Fld Try.prog 7 0 0 2 := ⟨by kernel_rfl⟩
instance : Fld Try.prog 7 1 1 3 := ⟨by kernel_rfl⟩
instance : Fld Try.prog 7 2 2 4 := ⟨by kernel_rfl⟩
instance : Fld Try.prog 7 3 3 6 := ⟨by kernel_rfl⟩
instance : Places Try.prog 7 [(0, 1), (1, 1), (2, 1), (3, 1)] := ⟨by kernel_rfl⟩
instance : Ty Try.prog 8 (.struct (Program.fieldsOf Try.prog 8)) := ⟨by kernel_rfl⟩
instance : Lay Try.prog 8 true 4 24 (.agg #[.int .i64 0, .int .i64 0, .bool false, .int .u8 0]) := ⟨by kernel_rfl, by kernel_rfl⟩
instance : Fld Try.prog 8 0 0 2 := ⟨by kernel_rfl⟩
instance : Fld Try.prog 8 1 1 3 := ⟨by kernel_rfl⟩
instance : Fld Try.prog 8 2 2 4 := ⟨by kernel_rfl⟩
instance : Fld Try.prog 8 3 3 6 := ⟨by kernel_rfl⟩
instance : Places Try.prog 8 [(0, 1), (1, 1), (2, 1), (3, 1)] := ⟨by kernel_rfl⟩
instance : Ty Try.prog 9 (.string) := ⟨by kernel_rfl⟩
instance : Lay Try.prog 9 false 1 16 (.string ByteArray.empty) := ⟨by kernel_rfl, by kernel_rfl⟩
instance : Ty Try.prog 10 (.string) := ⟨by kernel_rfl⟩
instance : Lay Try.prog 10 false 1 16 (.string ByteArray.empty) := ⟨by kernel_rfl, by kernel_rfl⟩
instance : Ty Try.prog 11 (.string) := ⟨by kernel_rfl⟩
instance : Lay Try.prog 11 false 1 16 (.string ByteArray.empty) := ⟨by kernel_rfl, by kernel_rfl⟩
instance : Ty Try.prog 12 (.int .u64) := ⟨by kernel_rfl⟩
instance : Lay Try.prog 12 false 1 8 (.int .u64 0) := ⟨by kernel_rfl, by kernel_rfl⟩
instance : Ty Try.prog 13 (.struct (Program.fieldsOf Try.prog 13)) := ⟨by kernel_rfl⟩
instance : Lay Try.prog 13 true 2 24 (.agg #[.string ByteArray.empty, .int .u64 0]) := ⟨by kernel_rfl, by kernel_rfl⟩
instance : Fld Try.prog 13 0 0 9 := ⟨by kernel_rfl⟩
instance : Fld Try.prog 13 1 1 12 := ⟨by kernel_rfl⟩
instance : Places Try.prog 13 [(0, 1), (1, 1)] := ⟨by kernel_rfl⟩
instance : Ty Try.prog 14 (.struct (Program.fieldsOf Try.prog 14)) := ⟨by kernel_rfl⟩
instance : Lay Try.prog 14 true 2 24 (.agg #[.string ByteArray.empty, .int .u64 0]) := ⟨by kernel_rfl, by kernel_rfl⟩
instance : Fld Try.prog 14 0 0 9 := ⟨by kernel_rfl⟩
instance : Fld Try.prog 14 1 1 12 := ⟨by kernel_rfl⟩
instance : Places Try.prog 14 [(0, 1), (1, 1)] := ⟨by kernel_rfl⟩
instance : Ty Try.prog 15 (.pointer 145) := ⟨by kernel_rfl⟩
instance : Lay Try.prog 15 false 1 8 (.pointer none) := ⟨by kernel_rfl, by kernel_rfl⟩
instance : Ty Try.prog 16 (.pointer 148) := ⟨by kernel_rfl⟩
instance : Lay Try.prog 16 false 1 8 (.pointer none) := ⟨by kernel_rfl, by kernel_rfl⟩
instance : Ty Try.prog 17 (.pointer 157) := ⟨by kernel_rfl⟩
instance : Lay Try.prog 17 false 1 8 (.pointer none) := ⟨by kernel_rfl, by kernel_rfl⟩
instance : Ty Try.prog 18 (.struct (Program.fieldsOf Try.prog 18)) := ⟨by kernel_rfl⟩
instance : Lay Try.prog 18 true 1 8 (.agg #[.pointer none]) := ⟨by kernel_rfl, by kernel_rfl⟩
instance : Fld Try.prog 18 0 0 17 := ⟨by kernel_rfl⟩
instance : Places Try.prog 18 [(0, 1)] := ⟨by kernel_rfl⟩
instance : Ty Try.prog 19 (.struct (Program.fieldsOf Try.prog 19)) := ⟨by kernel_rfl⟩
instance : Lay Try.prog 19 true 1 8 (.agg #[.pointer none]) := ⟨by kernel_rfl, by kernel_rfl⟩
instance : Fld Try.prog 19 0 0 17 := ⟨by kernel_rfl⟩
instance : Places Try.prog 19 [(0, 1)] := ⟨by kernel_rfl⟩
instance : Ty Try.prog 20 (.interface #[]) := ⟨by kernel_rfl⟩
instance : Lay Try.prog 20 false 1 16 (.nilIface) := ⟨by kernel_rfl, by kernel_rfl⟩
instance : Ty Try.prog 21 (.int .i32) := ⟨by kernel_rfl⟩
instance : Lay Try.prog 21 false 1 4 (.int .i32 0) := ⟨by kernel_rfl, by kernel_rfl⟩
instance : Ty Try.prog 22 (.slice 3) := ⟨by kernel_rfl⟩
instance : Lay Try.prog 22 false 1 24 (.slice none 0 0) := ⟨by kernel_rfl, by kernel_rfl⟩
instance : Ty Try.prog 23 (.array 2 22) := ⟨by kernel_rfl⟩
instance : Lay Try.prog 23 true 2 48 (.agg #[.slice none 0 0, .slice none 0 0]) := ⟨by kernel_rfl, by kernel_rfl⟩
instance : Lay Try.prog 24 false 1 8 (.nilFunc) := ⟨by kernel_rfl, by kernel_rfl⟩
instance : Ty Try.prog 25 (.struct (Program.fieldsOf Try.prog 25)) := ⟨by kernel_rfl⟩
instance : Lay Try.prog 25 true 2 16 (.agg #[.int .i64 0, .int .i64 0]) := ⟨by kernel_rfl, by kernel_rfl⟩
instance : Fld Try.prog 25 0 0 3 := ⟨by kernel_rfl⟩
instance : Fld Try.prog 25 1 1 3 := ⟨by kernel_rfl⟩
instance : EqS Try.prog 25 [⟨"Round", 3, 0, false, "", "", 0⟩, ⟨"Node", 3, 1, false, "", "", 8⟩] := ⟨by kernel_rfl, by kernel_rfl, by kernel_rfl, by kernel_rfl⟩
instance : Places Try.prog 25 [(0, 1), (1, 1)] := ⟨by kernel_rfl⟩
instance : Ty Try.prog 26 (.struct (Program.fieldsOf Try.prog 26)) := ⟨by kernel_rfl⟩
instance : Lay Try.prog 26 true 2 16 (.agg #[.int .i64 0, .int .i64 0]) := ⟨by kernel_rfl, by kernel_rfl⟩
instance : Fld Try.prog 26 0 0 3 := ⟨by kernel_rfl⟩
instance : Fld Try.prog 26 1 1 3 := ⟨by kernel_rfl⟩
instance : EqS Try.prog 26 [⟨"Round", 3, 0, false, "", "", 0⟩, ⟨"Node", 3, 1, false, "", "", 8⟩] := ⟨by kernel_rfl, by kernel_rfl, by kernel_rfl, by kernel_rfl⟩
instance : Places Try.prog 26 [(0, 1), (1, 1)] := ⟨by kernel_rfl⟩
instance : Ty Try.prog 27 (.pointer 68) := ⟨by kernel_rfl⟩
instance : Lay Try.prog 27 false 1 8 (.pointer none) := ⟨by kernel_rfl, by kernel_rfl⟩
instance : Lay Try.prog 28 false 1 8 (.nilFunc) := ⟨by kernel_rfl, by kernel_rfl⟩
instance : Lay Try.prog 29 false 1 8 (.nilFunc) := ⟨by kernel_rfl, by kernel_rfl⟩
instance : Lay Try.prog 30 false 1 8 (.nilFunc) := ⟨by kernel_rfl, by kernel_rfl⟩
instance : Lay Try.prog 31 false 1 8 (.nilFunc) := ⟨by kernel_rfl, by kernel_rfl⟩
instance : Lay Try.prog 32 false 1 8 (.nilFunc) := ⟨by kernel_rfl, by kernel_rfl⟩
instance : Lay Try.prog 33 false 1 8 (.nilFunc) := ⟨by kernel_rfl, by kernel_rfl⟩
instance : Ty Try.prog 34 (.slice 36) := ⟨by kernel_rfl⟩
instance : Lay Try.prog 34 false 1 24 (.slice none 0 0) := ⟨by kernel_rfl, by kernel_rfl⟩
instance : Ty Try.prog 35 (.struct (Program.fieldsOf Try.prog 35)) := ⟨by kernel_rfl⟩
instance : Lay Try.prog 35 true 5 40 (.agg #[.int .i64 0, .int .i64 0, .int .i64 0, .int .i64 0, .bool false]) := ⟨by kernel_rfl, by kernel_rfl⟩
instance : Fld Try.prog 35 0 0 26 := ⟨by kernel_rfl⟩
instance : Fld Try.prog 35 1 2 3 := ⟨by kernel_rfl⟩
instance : Fld Try.prog 35 2 3 3 := ⟨by kernel_rfl⟩
instance : Fld Try.prog 35 3 4 4 := ⟨by kernel_rfl⟩
instance : EqS Try.prog 35 [⟨"Ballot", 26, 0, false, "", "", 0⟩, ⟨"Index", 3, 2, false, "", "", 16⟩, ⟨"Node", 3, 3, false, "", "", 24⟩, ⟨"Drop", 4, 4, false, "", "", 32⟩] := ⟨by kernel_rfl, by kernel_rfl, by kernel_rfl, by kernel_rfl⟩
instance : Places Try.prog 35 [(0, 2), (2, 1), (3, 1), (4, 1)] := ⟨by kernel_rfl⟩
instance : Ty Try.prog 36 (.struct (Program.fieldsOf Try.prog 36)) := ⟨by kernel_rfl⟩
instance : Lay Try.prog 36 true 5 40 (.agg #[.int .i64 0, .int .i64 0, .int .i64 0, .int .i64 0, .bool false]) := ⟨by kernel_rfl, by kernel_rfl⟩
instance : Fld Try.prog 36 0 0 26 := ⟨by kernel_rfl⟩
instance : Fld Try.prog 36 1 2 3 := ⟨by kernel_rfl⟩
instance : Fld Try.prog 36 2 3 3 := ⟨by kernel_rfl⟩
instance : Fld Try.prog 36 3 4 4 := ⟨by kernel_rfl⟩
instance : EqS Try.prog 36 [⟨"Ballot", 26, 0, false, "", "", 0⟩, ⟨"Index", 3, 2, false, "", "", 16⟩, ⟨"Node", 3, 3, false, "", "", 24⟩, ⟨"Drop", 4, 4, false, "", "", 32⟩] := ⟨by kernel_rfl, by kernel_rfl, by kernel_rfl, by kernel_rfl⟩
instance : Places Try.prog 36 [(0, 2), (2, 1), (3, 1), (4, 1)] := ⟨by kernel_rfl⟩
instance : Lay Try.prog 37 false 1 8 (.nilFunc) := ⟨by kernel_rfl, by kernel_rfl⟩
instance : Lay Try.prog 38 false 1 8 (.nilFunc) := ⟨by kernel_rfl, by kernel_rfl⟩
instance : Lay Try.prog 39 false 1 8 (.nilFunc) := ⟨by kernel_rfl, by kernel_rfl⟩
instance : Lay Try.prog 40 false 1 8 (.nilFunc) := ⟨by kernel_rfl, by kernel_rfl⟩
instance : Lay Try.prog 41 false 1 8 (.nilFunc) := ⟨by kernel_rfl, by kernel_rfl⟩
instance : Lay Try.prog 42 false 1 8 (.nilFunc) := ⟨by kernel_rfl, by kernel_rfl⟩
instance : Lay Try.prog 43 false 1 8 (.nilFunc) := ⟨by kernel_rfl, by kernel_rfl⟩
instance : Ty Try.prog 44 (.slice 51) := ⟨by kernel_rfl⟩
instance : Lay Try.prog 44 false 1 24 (.slice none 0 0) := ⟨by kernel_rfl, by kernel_rfl⟩
instance : Lay Try.prog 45 false 1 8 (.nilFunc) := ⟨by kernel_rfl, by kernel_rfl⟩
instance : Ty Try.prog 46 (.pointer 81) := ⟨by kernel_rfl⟩
instance : Lay Try.prog 46 false 1 8 (.pointer none) := ⟨by kernel_rfl, by kernel_rfl⟩
instance : Lay Try.prog 47 false 1 8 (.nilFunc) := ⟨by kernel_rfl, by kernel_rfl⟩
instance : Lay Try.prog 48 false 1 8 (.nilFunc) := ⟨by kernel_rfl, by kernel_rfl⟩
instance : Ty Try.prog 49 (.slice 5) := ⟨by kernel_rfl⟩
instance : Lay Try.prog 49 false 1 24 (.slice none 0 0) := ⟨by kernel_rfl, by kernel_rfl⟩
instance : Ty Try.prog 50 (.struct (Program.fieldsOf Try.prog 50)) := ⟨by kernel_rfl⟩
instance : Lay Try.prog 50 true 4 48 (.agg #[.int .i64 0, .int .i64 0, .int .i64 0, .slice none 0 0]) := ⟨by kernel_rfl, by kernel_rfl⟩
instance : Fld Try.prog 50 0 0 3 := ⟨by kernel_rfl⟩
instance : Fld Try.prog 50 1 1 3 := ⟨by kernel_rfl⟩
instance : Fld Try.prog 50 2 2 3 := ⟨by kernel_rfl⟩
instance : Fld Try.prog 50 3 3 49 := ⟨by kernel_rfl⟩
instance : Places Try.prog 50 [(0, 1), (1, 1), (2, 1), (3, 1)] := ⟨by kernel_rfl⟩
instance : Ty Try.prog 51 (.struct (Program.fieldsOf Try.prog 51)) := ⟨by kernel_rfl⟩
instance : Lay Try.prog 51 true 4 48 (.agg #[.int .i64 0, .int .i64 0, .int .i64 0, .slice none 0 0]) := ⟨by kernel_rfl, by kernel_rfl⟩
instance : Fld Try.prog 51 0 0 3 := ⟨by kernel_rfl⟩
instance : Fld Try.prog 51 1 1 3 := ⟨by kernel_rfl⟩
instance : Fld Try.prog 51 2 2 3 := ⟨by kernel_rfl⟩
instance : Fld Try.prog 51 3 3 49 := ⟨by kernel_rfl⟩
instance : Places Try.prog 51 [(0, 1), (1, 1), (2, 1), (3, 1)] := ⟨by kernel_rfl⟩
instance : Ty Try.prog 52 (.slice 78) := ⟨by kernel_rfl⟩
instance : Lay Try.prog 52 false 1 24 (.slice none 0 0) := ⟨by kernel_rfl, by kernel_rfl⟩
instance : Lay Try.prog 53 false 1 8 (.nilFunc) := ⟨by kernel_rfl, by kernel_rfl⟩
instance : Ty Try.prog 54 (.slice 84) := ⟨by kernel_rfl⟩
instance : Lay Try.prog 54 false 1 24 (.slice none 0 0) := ⟨by kernel_rfl, by kernel_rfl⟩
instance : Lay Try.prog 55 false 1 8 (.nilFunc) := ⟨by kernel_rfl, by kernel_rfl⟩
instance : Lay Try.prog 56 false 1 8 (.nilFunc) := ⟨by kernel_rfl, by kernel_rfl⟩
instance : Lay Try.prog 57 false 1 8 (.nilFunc) := ⟨by kernel_rfl, by kernel_rfl⟩
instance : Lay Try.prog 58 false 1 8 (.nilFunc) := ⟨by kernel_rfl, by kernel_rfl⟩
instance : Lay Try.prog 59 false 1 8 (.nilFunc) := ⟨by kernel_rfl, by kernel_rfl⟩
instance : Ty Try.prog 60 (.pointer 62) := ⟨by kernel_rfl⟩
instance : Lay Try.prog 60 false 1 8 (.pointer none) := ⟨by kernel_rfl, by kernel_rfl⟩
instance : Ty Try.prog 61 (.struct (Program.fieldsOf Try.prog 61)) := ⟨by kernel_rfl⟩
instance : Lay Try.prog 61 true 2 48 (.agg #[.slice none 0 0, .slice none 0 0]) := ⟨by kernel_rfl, by kernel_rfl⟩
instance : Fld Try.prog 61 0 0 52 := ⟨by kernel_rfl⟩
instance : Fld Try.prog 61 1 1 54 := ⟨by kernel_rfl⟩
instance : Places Try.prog 61 [(0, 1), (1, 1)] := ⟨by kernel_rfl⟩
instance : Ty Try.prog 62 (.struct (Program.fieldsOf Try.prog 62)) := ⟨by kernel_rfl⟩
instance : Lay Try.prog 62 true 2 48 (.agg #[.slice none 0 0, .slice none 0 0]) := ⟨by kernel_rfl, by kernel_rfl⟩
instance : Fld Try.prog 62 0 0 52 := ⟨by kernel_rfl⟩
instance : Fld Try.prog 62 1 1 54 := ⟨by kernel_rfl⟩
instance : Places Try.prog 62 [(0, 1), (1, 1)] := ⟨by kernel_rfl⟩
instance : Lay Try.prog 63 false 1 8 (.nilFunc) := ⟨by kernel_rfl, by kernel_rfl⟩
instance : Lay Try.prog 64 false 1 8 (.nilFunc) := ⟨by kernel_rfl, by kernel_rfl⟩
instance : Lay Try.prog 65 false 1 8 (.nilFunc) := ⟨by kernel_rfl, by kernel_rfl⟩
instance : Ty Try.prog 66 (.map 3 69) := ⟨by kernel_rfl⟩
instance : Lay Try.prog 66 false 1 8 (.map none) := ⟨by kernel_rfl, by kernel_rfl⟩
instance : Ty Try.prog 67 (.struct (Program.fieldsOf Try.prog 67)) := ⟨by kernel_rfl⟩
instance : Lay Try.prog 67 true 4 32 (.agg #[.int .i64 0, .int .i64 0, .map none, .int .i64 0]) := ⟨by kernel_rfl, by kernel_rfl⟩
instance : Fld Try.prog 67 0 0 26 := ⟨by kernel_rfl⟩
instance : Fld Try.prog 67 1 2 66 := ⟨by kernel_rfl⟩
instance : Fld Try.prog 67 2 3 3 := ⟨by kernel_rfl⟩
instance : Places Try.prog 67 [(0, 2), (2, 1), (3, 1)] := ⟨by kernel_rfl⟩
instance : Ty Try.prog 68 (.struct (Program.fieldsOf Try.prog 68)) := ⟨by kernel_rfl⟩
instance : Lay Try.prog 68 true 4 32 (.agg #[.int .i64 0, .int .i64 0, .map none, .int .i64 0]) := ⟨by kernel_rfl, by kernel_rfl⟩
instance : Fld Try.prog 68 0 0 26 := ⟨by kernel_rfl⟩
instance : Fld Try.prog 68 1 2 66 := ⟨by kernel_rfl⟩
instance : Fld Try.prog 68 2 3 3 := ⟨by kernel_rfl⟩
instance : Places Try.prog 68 [(0, 2), (2, 1), (3, 1)] := ⟨by kernel_rfl⟩
instance : Ty Try.prog 69 (.int .u64) := ⟨by kernel_rfl⟩
instance : Lay Try.prog 69 false 1 8 (.int .u64 0) := ⟨by kernel_rfl, by kernel_rfl⟩
instance : Lay Try.prog 70 false 1 8 (.nilFunc) := ⟨by kernel_rfl, by kernel_rfl⟩
instance : Lay Try.prog 71 false 1 8 (.nilFunc) := ⟨by kernel_rfl, by kernel_rfl⟩
instance : Lay Try.prog 72 false 1 8 (.nilFunc) := ⟨by kernel_rfl, by kernel_rfl⟩
instance : Lay Try.prog 73 false 1 8 (.nilFunc) := ⟨by kernel_rfl, by kernel_rfl⟩
instance : Lay Try.prog 74 false 1 8 (.nilFunc) := ⟨by kernel_rfl, by kernel_rfl⟩
instance : Lay Try.prog 75 false 1 8 (.nilFunc) := ⟨by kernel_rfl, by kernel_rfl⟩
instance : Lay Try.prog 76 false 1 8 (.nilFunc) := ⟨by kernel_rfl, by kernel_rfl⟩
instance : Ty Try.prog 77 (.struct (Program.fieldsOf Try.prog 77)) := ⟨by kernel_rfl⟩
instance : Lay Try.prog 77 true 2 32 (.agg #[.int .i64 0, .slice none 0 0]) := ⟨by kernel_rfl, by kernel_rfl⟩
instance : Fld Try.prog 77 0 0 3 := ⟨by kernel_rfl⟩
instance : Fld Try.prog 77 1 1 49 := ⟨by kernel_rfl⟩
instance : Places Try.prog 77 [(0, 1), (1, 1)] := ⟨by kernel_rfl⟩
instance : Ty Try.prog 78 (.struct (Program.fieldsOf Try.prog 78)) := ⟨by kernel_rfl⟩
instance : Lay Try.prog 78 true 2 32 (.agg #[.int .i64 0, .slice none 0 0]) := ⟨by kernel_rfl, by kernel_rfl⟩
instance : Fld Try.prog 78 0 0 3 := ⟨by kernel_rfl⟩
instance : Fld Try.prog 78 1 1 49 := ⟨by kernel_rfl⟩
instance : Places Try.prog 78 [(0, 1), (1, 1)] := ⟨by kernel_rfl⟩
instance : Ty Try.prog 79 (.map 3 49) := ⟨by kernel_rfl⟩
instance : Lay Try.prog 79 false 1 8 (.map none) := ⟨by kernel_rfl, by kernel_rfl⟩
instance : Ty Try.prog 80 (.struct (Program.fieldsOf Try.prog 80)) := ⟨by kernel_rfl⟩
instance : Lay Try.prog 80 true 2 32 (.agg #[.map none, .slice none 0 0]) := ⟨by kernel_rfl, by kernel_rfl⟩
instance : Fld Try.prog 80 0 0 79 := ⟨by kernel_rfl⟩
instance : Fld Try.prog 80 1 1 54 := ⟨by kernel_rfl⟩
instance : Places Try.prog 80 [(0, 1), (1, 1)] := ⟨by kernel_rfl⟩
instance : Ty Try.prog 81 (.struct (Program.fieldsOf Try.prog 81)) := ⟨by kernel_rfl⟩
instance : Lay Try.prog 81 true 2 32 (.agg #[.map none, .slice none 0 0]) := ⟨by kernel_rfl, by kernel_rfl⟩
instance : Fld Try.prog 81 0 0 79 := ⟨by kernel_rfl⟩
instance : Fld Try.prog 81 1 1 54 := ⟨by kernel_rfl⟩
instance : Places Try.prog 81 [(0, 1), (1, 1)] := ⟨by kernel_rfl⟩
instance : Lay Try.prog 82 false 1 8 (.nilFunc) := ⟨by kernel_rfl, by kernel_rfl⟩
instance : Ty Try.prog 83 (.struct (Program.fieldsOf Try.prog 83)) := ⟨by kernel_rfl⟩
instance : Lay Try.prog 83 true 3 40 (.agg #[.int .i64 0, .int .i64 0, .slice none 0 0]) := ⟨by kernel_rfl, by kernel_rfl⟩
instance : Fld Try.prog 83 0 0 3 := ⟨by kernel_rfl⟩
instance : Fld Try.prog 83 1 1 3 := ⟨by kernel_rfl⟩
instance : Fld Try.prog 83 2 2 49 := ⟨by kernel_rfl⟩
instance : Places Try.prog 83 [(0, 1), (1, 1), (2, 1)] := ⟨by kernel_rfl⟩
instance : Ty Try.prog 84 (.struct (Program.fieldsOf Try.prog 84)) := ⟨by kernel_rfl⟩
instance : Lay Try.prog 84 true 3 40 (.agg #[.int .i64 0, .int .i64 0, .slice none 0 0]) := ⟨by kernel_rfl, by kernel_rfl⟩
instance : Fld Try.prog 84 0 0 3 := ⟨by kernel_rfl⟩
instance : Fld Try.prog 84 1 1 3 := ⟨by kernel_rfl⟩
instance : Fld Try.prog 84 2 2 49 := ⟨by kernel_rfl⟩
instance : Places Try.prog 84 [(0, 1), (1, 1), (2, 1)] := ⟨by kernel_rfl⟩
instance : Lay Try.prog 85 false 1 8 (.nilFunc) := ⟨by kernel_rfl, by kernel_rfl⟩
instance : Lay Try.prog 86 false 1 8 (.nilFunc) := ⟨by kernel_rfl, by kernel_rfl⟩
instance : Lay Try.prog 87 false 1 8 (.nilFunc) := ⟨by kernel_rfl, by kernel_rfl⟩
instance : Lay Try.prog 88 false 1 8 (.nilFunc) := ⟨by kernel_rfl, by kernel_rfl⟩
instance : Lay Try.prog 89 false 1 8 (.nilFunc) := ⟨by kernel_rfl, by kernel_rfl⟩
instance : Ty Try.prog 90 (.slice 95) := ⟨by kernel_rfl⟩
instance : Lay Try.prog 90 false 1 24 (.slice none 0 0) := ⟨by kernel_rfl, by kernel_rfl⟩
instance : Ty Try.prog 91 (.int .i64) := ⟨by kernel_rfl⟩
instance : Lay Try.prog 91 false 1 8 (.int .i64 0) := ⟨by kernel_rfl, by kernel_rfl⟩
instance : Lay Try.prog 93 false 1 8 (.nilFunc) := ⟨by kernel_rfl, by kernel_rfl⟩
instance : Ty Try.prog 94 (.struct (Program.fieldsOf Try.prog 94)) := ⟨by kernel_rfl⟩
instance : Lay Try.prog 94 true 2 32 (.agg #[.int .i64 0, .slice none 0 0]) := ⟨by kernel_rfl, by kernel_rfl⟩
instance : Fld Try.prog 94 0 0 3 := ⟨by kernel_rfl⟩
instance : Fld Try.prog 94 1 1 22 := ⟨by kernel_rfl⟩
instance : Places Try.prog 94 [(0, 1), (1, 1)] := ⟨by kernel_rfl⟩
instance : Ty Try.prog 95 (.struct (Program.fieldsOf Try.prog 95)) := ⟨by kernel_rfl⟩
instance : Lay Try.prog 95 true 2 32 (.agg #[.int .i64 0, .slice none 0 0]) := ⟨by kernel_rfl, by kernel_rfl⟩
instance : Fld Try.prog 95 0 0 3 := ⟨by kernel_rfl⟩
instance : Fld Try.prog 95 1 1 22 := ⟨by kernel_rfl⟩
instance : Places Try.prog 95 [(0, 1), (1, 1)] := ⟨by kernel_rfl⟩
instance : Lay Try.prog 96 false 1 8 (.nilFunc) := ⟨by kernel_rfl, by kernel_rfl⟩
instance : Lay Try.prog 97 false 1 8 (.nilFunc) := ⟨by kernel_rfl, by kernel_rfl⟩
instance : Lay Try.prog 98 false 1 8 (.nilFunc) := ⟨by kernel_rfl, by kernel_rfl⟩
instance : Lay Try.prog 99 false 1 8 (.nilFunc) := ⟨by kernel_rfl, by kernel_rfl⟩
instance : Lay Try.prog 100 false 1 8 (.nilFunc) := ⟨by kernel_rfl, by kernel_rfl⟩
instance : Lay Try.prog 101 false 1 8 (.nilFunc) := ⟨by kernel_rfl, by kernel_rfl⟩
instance : Lay Try.prog 103 false 1 8 (.nilFunc) := ⟨by kernel_rfl, by kernel_rfl⟩
instance : Lay Try.prog 104 false 1 8 (.nilFunc) := ⟨by kernel_rfl, by kernel_rfl⟩
instance : Lay Try.prog 105 false 1 8 (.nilFunc) := ⟨by kernel_rfl, by kernel_rfl⟩
instance : Lay Try.prog 106 false 1 8 (.nilFunc) := ⟨by kernel_rfl, by kernel_rfl⟩
instance : Lay Try.prog 108 false 1 8 (.nilFunc) := ⟨by kernel_rfl, by kernel_rfl⟩
instance : Lay Try.prog 109 false 1 8 (.nilFunc) := ⟨by kernel_rfl, by kernel_rfl⟩
instance : Lay Try.prog 110 false 1 8 (.nilFunc) := ⟨by kernel_rfl, by kernel_rfl⟩
instance : Lay Try.prog 111 false 1 8 (.nilFunc) := ⟨by kernel_rfl, by kernel_rfl⟩
instance : Lay Try.prog 112 false 1 8 (.nilFunc) := ⟨by kernel_rfl, by kernel_rfl⟩
instance : Lay Try.prog 113 false 1 8 (.nilFunc) := ⟨by kernel_rfl, by kernel_rfl⟩
instance : Ty Try.prog 114 (.slice 49) := ⟨by kernel_rfl⟩
instance : Lay Try.prog 114 false 1 24 (.slice none 0 0) := ⟨by kernel_rfl, by kernel_rfl⟩
instance : Lay Try.prog 115 false 1 8 (.nilFunc) := ⟨by kernel_rfl, by kernel_rfl⟩
instance : Lay Try.prog 116 false 1 8 (.nilFunc) := ⟨by kernel_rfl, by kernel_rfl⟩
instance : Lay Try.prog 118 false 1 8 (.nilFunc) := ⟨by kernel_rfl, by kernel_rfl⟩
instance : Lay Try.prog 119 false 1 8 (.nilFunc) := ⟨by kernel_rfl, by kernel_rfl⟩
instance : Lay Try.prog 120 false 1 8 (.nilFunc) := ⟨by kernel_rfl, by kernel_rfl⟩
instance : Lay Try.prog 121 false 1 8 (.nilFunc) := ⟨by kernel_rfl, by kernel_rfl⟩
instance : Ty Try.prog 122 (.int .i64) := ⟨by kernel_rfl⟩
instance : Lay Try.prog 122 false 1 8 (.int .i64 0) := ⟨by kernel_rfl, by kernel_rfl⟩
instance : Lay Try.prog 124 false 1 8 (.nilFunc) := ⟨by kernel_rfl, by kernel_rfl⟩
instance : Lay Try.prog 125 false 1 8 (.nilFunc) := ⟨by kernel_rfl, by kernel_rfl⟩
instance : Lay Try.prog 126 false 1 8 (.nilFunc) := ⟨by kernel_rfl, by kernel_rfl⟩
instance : Lay Try.prog 127 false 1 8 (.nilFunc) := ⟨by kernel_rfl, by kernel_rfl⟩
instance : Lay Try.prog 128 false 1 8 (.nilFunc) := ⟨by kernel_rfl, by kernel_rfl⟩
instance : Lay Try.prog 129 false 1 8 (.nilFunc) := ⟨by kernel_rfl, by kernel_rfl⟩
instance : Ty Try.prog 130 (.int .u32) := ⟨by kernel_rfl⟩
instance : Lay Try.prog 130 false 1 4 (.int .u32 0) := ⟨by kernel_rfl, by kernel_rfl⟩
instance : Lay Try.prog 131 false 1 8 (.nilFunc) := ⟨by kernel_rfl, by kernel_rfl⟩
instance : Ty Try.prog 132 (.int .u64) := ⟨by kernel_rfl⟩
instance : Lay Try.prog 132 false 1 8 (.int .u64 0) := ⟨by kernel_rfl, by kernel_rfl⟩
instance : Lay Try.prog 133 false 1 8 (.nilFunc) := ⟨by kernel_rfl, by kernel_rfl⟩
instance : Ty Try.prog 134 (.int .u64) := ⟨by kernel_rfl⟩
instance : Lay Try.prog 134 false 1 8 (.int .u64 0) := ⟨by kernel_rfl, by kernel_rfl⟩
instance : Lay Try.prog 135 false 1 8 (.nilFunc) := ⟨by kernel_rfl, by kernel_rfl⟩
instance : Lay Try.prog 136 false 1 8 (.nilFunc) := ⟨by kernel_rfl, by kernel_rfl⟩
instance : Lay Try.prog 137 false 1 8 (.nilFunc) := ⟨by kernel_rfl, by kernel_rfl⟩
instance : Ty Try.prog 138 (.pointer 3) := ⟨by kernel_rfl⟩
instance : Lay Try.prog 138 false 1 8 (.pointer none) := ⟨by kernel_rfl, by kernel_rfl⟩
instance : Lay Try.prog 139 false 1 8 (.nilFunc) := ⟨by kernel_rfl, by kernel_rfl⟩
instance : Ty Try.prog 140 (.pointer 134) := ⟨by kernel_rfl⟩
instance : Lay Try.prog 140 false 1 8 (.pointer none) := ⟨by kernel_rfl, by kernel_rfl⟩
instance : Lay Try.prog 142 false 1 8 (.nilFunc) := ⟨by kernel_rfl, by kernel_rfl⟩
instance : Lay Try.prog 143 false 1 8 (.nilFunc) := ⟨by kernel_rfl, by kernel_rfl⟩
instance : Ty Try.prog 144 (.struct (Program.fieldsOf Try.prog 144)) := ⟨by kernel_rfl⟩
instance : Lay Try.prog 144 true 4 40 (.agg #[.pointer none, .pointer none, .pointer none, .string ByteArray.empty]) := ⟨by kernel_rfl, by kernel_rfl⟩
instance : Fld Try.prog 144 0 0 17 := ⟨by kernel_rfl⟩
instance : Fld Try.prog 144 1 1 17 := ⟨by kernel_rfl⟩
instance : Fld Try.prog 144 2 2 17 := ⟨by kernel_rfl⟩
instance : Fld Try.prog 144 3 3 9 := ⟨by kernel_rfl⟩
instance : Places Try.prog 144 [(0, 1), (1, 1), (2, 1), (3, 1)] := ⟨by kernel_rfl⟩
instance : Ty Try.prog 145 (.struct (Program.fieldsOf Try.prog 145)) := ⟨by kernel_rfl⟩
instance : Lay Try.prog 145 true 4 40 (.agg #[.pointer none, .pointer none, .pointer none, .string ByteArray.empty]) := ⟨by kernel_rfl, by kernel_rfl⟩
instance : Fld Try.prog 145 0 0 17 := ⟨by kernel_rfl⟩
instance : Fld Try.prog 145 1 1 17 := ⟨by kernel_rfl⟩
instance : Fld Try.prog 145 2 2 17 := ⟨by kernel_rfl⟩
instance : Fld Try.prog 145 3 3 9 := ⟨by kernel_rfl⟩
instance : Places Try.prog 145 [(0, 1), (1, 1), (2, 1), (3, 1)] := ⟨by kernel_rfl⟩
instance : Ty Try.prog 146 (.array 0 16) := ⟨by kernel_rfl⟩
instance : Lay Try.prog 146 true 0 0 (.agg #[]) := ⟨by kernel_rfl, by kernel_rfl⟩
instance : Ty Try.prog 147 (.struct (Program.fieldsOf Try.prog 147)) := ⟨by kernel_rfl⟩
instance : Lay Try.prog 147 true 0 0 (.agg #[]) := ⟨by kernel_rfl, by kernel_rfl⟩
instance : Places Try.prog 147 [(0, 0)] := ⟨by kernel_rfl⟩
instance : Ty Try.prog 148 (.struct (Program.fieldsOf Try.prog 148)) := ⟨by kernel_rfl⟩
instance : Lay Try.prog 148 true 0 0 (.agg #[]) := ⟨by kernel_rfl, by kernel_rfl⟩
instance : Places Try.prog 148 [(0, 0)] := ⟨by kernel_rfl⟩
instance : Lay Try.prog 149 false 1 8 (.nilFunc) := ⟨by kernel_rfl, by kernel_rfl⟩
instance : Ty Try.prog 150 (.int .u8) := ⟨by kernel_rfl⟩
instance : Lay Try.prog 150 false 1 1 (.int .u8 0) := ⟨by kernel_rfl, by kernel_rfl⟩
instance : Ty Try.prog 151 (.int .u8) := ⟨by kernel_rfl⟩
instance : Lay Try.prog 151 false 1 1 (.int .u8 0) := ⟨by kernel_rfl, by kernel_rfl⟩
instance : Lay Try.prog 152 false 1 8 (.nilFunc) := ⟨by kernel_rfl, by kernel_rfl⟩
instance : Ty Try.prog 153 (.pointer 5) := ⟨by kernel_rfl⟩
instance : Lay Try.prog 153 false 1 8 (.pointer none) := ⟨by kernel_rfl, by kernel_rfl⟩
instance : Ty Try.prog 154 (.int .i32) := ⟨by kernel_rfl⟩
instance : Lay Try.prog 154 false 1 4 (.int .i32 0) := ⟨by kernel_rfl, by kernel_rfl⟩
instance : Ty Try.prog 155 (.int .i32) := ⟨by kernel_rfl⟩
instance : Lay Try.prog 155 false 1 4 (.int .i32 0) := ⟨by kernel_rfl, by kernel_rfl⟩
instance : Ty Try.prog 156 (.struct (Program.fieldsOf Try.prog 156)) := ⟨by kernel_rfl⟩
instance : Lay Try.prog 156 true 11 48 (.agg #[.int .u64 0, .int .u64 0, .int .u32 0, .int .u8 0, .int .u8 0, .int .u8 0, .int .u8 0, .nilFunc, .pointer none, .int .i32 0, .int .i32 0]) := ⟨by kernel_rfl, by kernel_rfl⟩
instance : Fld Try.prog 156 0 0 12 := ⟨by kernel_rfl⟩
instance : Fld Try.prog 156 1 1 12 := ⟨by kernel_rfl⟩
instance : Fld Try.prog 156 2 2 130 := ⟨by kernel_rfl⟩
instance : Fld Try.prog 156 3 3 150 := ⟨by kernel_rfl⟩
instance : Fld Try.prog 156 4 4 5 := ⟨by kernel_rfl⟩
instance : Fld Try.prog 156 5 5 5 := ⟨by kernel_rfl⟩
instance : Fld Try.prog 156 6 6 151 := ⟨by kernel_rfl⟩
instance : Fld Try.prog 156 7 7 152 := ⟨by kernel_rfl⟩
instance : Fld Try.prog 156 8 8 153 := ⟨by kernel_rfl⟩
instance : Fld Try.prog 156 9 9 154 := ⟨by kernel_rfl⟩
instance : Fld Try.prog 156 10 10 155 := ⟨by kernel_rfl⟩
instance : Places Try.prog 156 [(0, 1), (1, 1), (2, 1), (3, 1), (4, 1), (5, 1), (6, 1), (7, 1), (8, 1), (9, 1), (10, 1)] := ⟨by kernel_rfl⟩
instance : Ty Try.prog 157 (.struct (Program.fieldsOf Try.prog 157)) := ⟨by kernel_rfl⟩
instance : Lay Try.prog 157 true 11 48 (.agg #[.int .u64 0, .int .u64 0, .int .u32 0, .int .u8 0, .int .u8 0, .int .u8 0, .int .u8 0, .nilFunc, .pointer none, .int .i32 0, .int .i32 0]) := ⟨by kernel_rfl, by kernel_rfl⟩
instance : Fld Try.prog 157 0 0 12 := ⟨by kernel_rfl⟩
instance : Fld Try.prog 157 1 1 12 := ⟨by kernel_rfl⟩
instance : Fld Try.prog 157 2 2 130 := ⟨by kernel_rfl⟩
instance : Fld Try.prog 157 3 3 150 := ⟨by kernel_rfl⟩
instance : Fld Try.prog 157 4 4 5 := ⟨by kernel_rfl⟩
instance : Fld Try.prog 157 5 5 5 := ⟨by kernel_rfl⟩
instance : Fld Try.prog 157 6 6 151 := ⟨by kernel_rfl⟩
instance : Fld Try.prog 157 7 7 152 := ⟨by kernel_rfl⟩
instance : Fld Try.prog 157 8 8 153 := ⟨by kernel_rfl⟩
instance : Fld Try.prog 157 9 9 154 := ⟨by kernel_rfl⟩
instance : Fld Try.prog 157 10 10 155 := ⟨by kernel_rfl⟩
instance : Places Try.prog 157 [(0, 1), (1, 1), (2, 1), (3, 1), (4, 1), (5, 1), (6, 1), (7, 1), (8, 1), (9, 1), (10, 1)] := ⟨by kernel_rfl⟩
instance : Lay Try.prog 158 false 1 8 (.pointer none) := ⟨by kernel_rfl, by kernel_rfl⟩
instance : Callable Try.prog 3 := callable_of Try.func3 (by kernel_rfl) rfl
instance : Callable Try.prog 4 := callable_of Try.func4 (by kernel_rfl) rfl
instance : Callable Try.prog 5 := callable_of Try.func5 (by kernel_rfl) rfl
instance : Callable Try.prog 6 := callable_of Try.func6 (by kernel_rfl) rfl
instance : Callable Try.prog 7 := callable_of Try.func7 (by kernel_rfl) rfl
instance : Callable Try.prog 8 := callable_of Try.func8 (by kernel_rfl) rfl
instance : Callable Try.prog 9 := callable_of Try.func9 (by kernel_rfl) rfl
instance : Callable Try.prog 10 := callable_of Try.func10 (by kernel_rfl) rfl
instance : Callable Try.prog 11 := callable_of Try.func11 (by kernel_rfl) rfl
instance : Callable Try.prog 12 := callable_of Try.func12 (by kernel_rfl) rfl
instance : Callable Try.prog 13 := callable_of Try.func13 (by kernel_rfl) rfl
instance : Callable Try.prog 14 := callable_of Try.func14 (by kernel_rfl) rfl
instance : Callable Try.prog 15 := callable_of Try.func15 (by kernel_rfl) rfl
instance : Callable Try.prog 16 := callable_of Try.func16 (by kernel_rfl) rfl
instance : Callable Try.prog 17 := callable_of Try.func17 (by kernel_rfl) rfl
instance : Callable Try.prog 18 := callable_of Try.func18 (by kernel_rfl) rfl
instance : Callable Try.prog 19 := callable_of Try.func19 (by kernel_rfl) rfl
instance : Callable Try.prog 20 := callable_of Try.func20 (by kernel_rfl) rfl
instance : Callable Try.prog 21 := callable_of Try.func21 (by kernel_rfl) rfl
instance : Callable Try.prog 22 := callable_of Try.func22 (by kernel_rfl) rfl
instance : Callable Try.prog 23 := callable_of Try.func23 (by kernel_rfl) rfl
instance : Callable Try.prog 24 := callable_of Try.func24 (by kernel_rfl) rfl
instance : Callable Try.prog 25 := callable_of Try.func25 (by kernel_rfl) rfl
instance : Callable Try.prog 26 := callable_of Try.func26 (by kernel_rfl) rfl
instance : Callable Try.prog 27 := callable_of Try.func27 (by kernel_rfl) rfl
instance : Callable Try.prog 28 := callable_of Try.func28 (by kernel_rfl) rfl
instance : Callable Try.prog 29 := callable_of Try.func29 (by kernel_rfl) rfl
instance : Callable Try.prog 30 := callable_of Try.func30 (by kernel_rfl) rfl
instance : Callable Try.prog 31 := callable_of Try.func31 (by kernel_rfl) rfl
instance : Callable Try.prog 32 := callable_of Try.func32 (by kernel_rfl) rfl
instance : Callable Try.prog 33 := callable_of Try.func33 (by kernel_rfl) rfl
instance : Callable Try.prog 34 := callable_of Try.func34 (by kernel_rfl) rfl
instance : Callable Try.prog 35 := callable_of Try.func35 (by kernel_rfl) rfl
instance : Callable Try.prog 36 := callable_of Try.func36 (by kernel_rfl) rfl
instance : Callable Try.prog 37 := callable_of Try.func37 (by kernel_rfl) rfl
instance : Callable Try.prog 38 := callable_of Try.func38 (by kernel_rfl) rfl
instance : Callable Try.prog 39 := callable_of Try.func39 (by kernel_rfl) rfl
instance : Callable Try.prog 40 := callable_of Try.func40 (by kernel_rfl) rfl
instance : Callable Try.prog 41 := callable_of Try.func41 (by kernel_rfl) rfl
instance : Callable Try.prog 42 := callable_of Try.func42 (by kernel_rfl) rfl
instance : Callable Try.prog 43 := callable_of Try.func43 (by kernel_rfl) rfl
instance : Callable Try.prog 44 := callable_of Try.func44 (by kernel_rfl) rfl
instance : Callable Try.prog 45 := callable_of Try.func45 (by kernel_rfl) rfl
instance : Callable Try.prog 46 := callable_of Try.func46 (by kernel_rfl) rfl
instance : Callable Try.prog 47 := callable_of Try.func47 (by kernel_rfl) rfl
instance : Callable Try.prog 48 := callable_of Try.func48 (by kernel_rfl) rfl
instance : Callable Try.prog 49 := callable_of Try.func49 (by kernel_rfl) rfl
instance : Callable Try.prog 50 := callable_of Try.func50 (by kernel_rfl) rfl
instance : Callable Try.prog 51 := callable_of Try.func51 (by kernel_rfl) rfl
instance : Callable Try.prog 52 := callable_of Try.func52 (by kernel_rfl) rfl
instance : Callable Try.prog 53 := callable_of Try.func53 (by kernel_rfl) rfl
instance : Callable Try.prog 54 := callable_of Try.func54 (by kernel_rfl) rfl
instance : Callable Try.prog 55 := callable_of Try.func55 (by kernel_rfl) rfl
instance : Callable Try.prog 56 := callable_of Try.func56 (by kernel_rfl) rfl
instance : Callable Try.prog 57 := callable_of Try.func57 (by kernel_rfl) rfl
instance : Callable Try.prog 58 := callable_of Try.func58 (by kernel_rfl) rfl
instance : Callable Try.prog 59 := callable_of Try.func59 (by kernel_rfl) rfl
instance : Callable Try.prog 60 := callable_of Try.func60 (by kernel_rfl) rfl
instance : Callable Try.prog 61 := callable_of Try.func61 (by kernel_rfl) rfl
instance : Callable Try.prog 63 := callable_of Try.func63 (by kernel_rfl) rfl
instance : Callable Try.prog 64 := callable_of Try.func64 (by kernel_rfl) rfl
instance : Callable Try.prog 65 := callable_of Try.func65 (by kernel_rfl) rfl
instance : Callable Try.prog 66 := callable_of Try.func66 (by kernel_rfl) rfl
instance : Callable Try.prog 67 := callable_of Try.func67 (by kernel_rfl) rfl
instance : Callable Try.prog 68 := callable_of Try.func68 (by kernel_rfl) rfl
instance : Callable Try.prog 69 := callable_of Try.func69 (by kernel_rfl) rfl
instance : Callable Try.prog 70 := callable_of Try.func70 (by kernel_rfl) rfl
instance : Callable Try.prog 71 := callable_of Try.func71 (by kernel_rfl) rfl
instance : Callable Try.prog 72 := callable_of Try.func72 (by kernel_rfl) rfl
instance : Callable Try.prog 73 := callable_of Try.func73 (by kernel_rfl) rfl
instance : Callable Try.prog 74 := callable_of Try.func74 (by kernel_rfl) rfl
instance : Callable Try.prog 75 := callable_of Try.func75 (by kernel_rfl) rfl
instance : Callable Try.prog 76 := callable_of Try.func76 (by kernel_rfl) rfl
instance : Callable Try.prog 77 := callable_of Try.func77 (by kernel_rfl) rfl
instance : Callable Try.prog 78 := callable_of Try.func78 (by kernel_rfl) rfl
instance : Callable Try.prog 79 := callable_of Try.func79 (by kernel_rfl) rfl
instance : Callable Try.prog 80 := callable_of Try.func80 (by kernel_rfl) rfl
instance : Callable Try.prog 81 := callable_of Try.func81 (by kernel_rfl) rfl
instance : Callable Try.prog 82 := callable_of Try.func82 (by kernel_rfl) rfl
instance : Callable Try.prog 83 := callable_of Try.func83 (by kernel_rfl) rfl
instance : Callable Try.prog 84 := callable_of Try.func84 (by kernel_rfl) rfl
instance : Callable Try.prog 85 := callable_of Try.func85 (by kernel_rfl) rfl
instance : Callable Try.prog 86 := callable_of Try.func86 (by kernel_rfl) rfl
instance : Callable Try.prog 87 := callable_of Try.func87 (by kernel_rfl) rfl
instance : Callable Try.prog 88 := callable_of Try.func88 (by kernel_rfl) rfl
instance : Callable Try.prog 89 := callable_of Try.func89 (by kernel_rfl) rfl
instance : Callable Try.prog 91 := callable_of Try.func91 (by kernel_rfl) rfl
instance : Callable Try.prog 92 := callable_of Try.func92 (by kernel_rfl) rfl
instance : Callable Try.prog 93 := callable_of Try.func93 (by kernel_rfl) rfl
instance : Callable Try.prog 94 := callable_of Try.func94 (by kernel_rfl) rfl
instance : Callable Try.prog 95 := callable_of Try.func95 (by kernel_rfl) rfl
instance : Callable Try.prog 96 := callable_of Try.func96 (by kernel_rfl) rfl
instance : Callable Try.prog 97 := callable_of Try.func97 (by kernel_rfl) rfl
instance : Callable Try.prog 98 := callable_of Try.func98 (by kernel_rfl) rfl
instance : Callable Try.prog 99 := callable_of Try.func99 (by kernel_rfl) rfl
instance : Callable Try.prog 100 := callable_of Try.func100 (by kernel_rfl) rfl
end Go.Proofs.Ytgflmkhfachlcaa
/-
  slices.Sort and slices.Compact at numbers: the kit's contracts, laid at this program, as contracts of ours.
-/
set_option linter.unusedSimpArgs false
set_option linter.unusedVariables false
namespace Go.Proofs.Ytgflmkhfachlcaa
open Go.Vx Go.ChangeShapes Go.WideShapes Go.ChangeAt Go.RowKit
def laysSort_ren : Go.Shelf.Ren := ⟨fun | 5 => 56 | 7 => 69 | 8 => 70 | 10 => 78 | 11 => 79 | 12 => 80 | 13 => 81 | 14 => 82 | 15 => 83 | 16 => 84 | 17 => 85 | 18 => 86 | 19 => 87 | 20 => 88 | 30 => 92 | 31 => 93 | 32 => 94 | 33 => 95 | 34 => 96 | 35 => 97 | 40 => 99 | n => n, fun | 0 => 0 | 3 => 3 | 4 => 4 | 5 => 5 | 9 => 9 | 22 => 22 | 23 => 22 | 25 => 3 | 32 => 69 | 35 => 122 | 36 => 123 | 41 => 117 | 44 => 130 | 46 => 132 | 53 => 134 | 57 => 138 | 63 => 140 | 64 => 141 | n => n, fun n => n⟩
theorem laysSort : SlLaysM.n5 Try.prog laysSort_ren where
  mixed := by kernel_rfl
  f5 := ⟨"slices.Sort[[]int,int]", by decide, Try.func56.trans (congrArg some (by kernel_rfl))⟩
  f7 := ⟨"slices.pdqsortOrdered[int]", by decide, Try.func69.trans (congrArg some (by kernel_rfl))⟩
  f8 := Try.func70.trans (congrArg some (by kernel_rfl))
  f10 := ⟨"slices.insertionSortOrdered[int]", by decide, Try.func78.trans (congrArg some (by kernel_rfl))⟩
  f11 := ⟨"slices.heapSortOrdered[int]", by decide, Try.func79.trans (congrArg some (by kernel_rfl))⟩
  f12 := ⟨"slices.breakPatternsOrdered[int]", by decide, Try.func80.trans (congrArg some (by kernel_rfl))⟩
  f13 := ⟨"slices.choosePivotOrdered[int]", by decide, Try.func81.trans (congrArg some (by kernel_rfl))⟩
  f14 := ⟨"slices.reverseRangeOrdered[int]", by decide, Try.func82.trans (congrArg some (by kernel_rfl))⟩
  f15 := ⟨"slices.partialInsertionSortOrdered[int]", by decide, Try.func83.trans (congrArg some (by kernel_rfl))⟩
  f16 := ⟨"cmp.Less[int]", by decide, Try.func84.trans (congrArg some (by kernel_rfl))⟩
  f17 := ⟨"slices.partitionEqualOrdered[int]", by decide, Try.func85.trans (congrArg some (by kernel_rfl))⟩
  f18 := ⟨"slices.partitionOrdered[int]", by decide, Try.func86.trans (congrArg some (by kernel_rfl))⟩
  f19 := Try.func87.trans (congrArg some (by kernel_rfl))
  f20 := Try.func88.trans (congrArg some (by kernel_rfl))
  f30 := ⟨"slices.siftDownOrdered[int]", by decide, Try.func92.trans (congrArg some (by kernel_rfl))⟩
  f31 := Try.func93.trans (congrArg some (by kernel_rfl))
  f32 := Try.func94.trans (congrArg some (by kernel_rfl))
  f33 := ⟨"slices.medianAdjacentOrdered[int]", by decide, Try.func95.trans (congrArg some (by kernel_rfl))⟩
  f34 := ⟨"slices.medianOrdered[int]", by decide, Try.func96.trans (congrArg some (by kernel_rfl))⟩
  f35 := ⟨"cmp.isNaN[int]", by decide, Try.func97.trans (congrArg some (by kernel_rfl))⟩
  f40 := ⟨"slices.order2Ordered[int]", by decide, Try.func99.trans (congrArg some (by kernel_rfl))⟩
  t0 := Try.underlying0
  a0 := Try.isAgg0
  z0 := Try.sizeOf0
  v0 := Try.zeroValue0
  t3 := Try.underlying3
  a3 := Try.isAgg3
  z3 := Try.sizeOf3
  v3 := Try.zeroValue3
  t4 := Try.underlying4
  a4 := Try.isAgg4
  z4 := Try.sizeOf4
  v4 := Try.zeroValue4
  t5 := Try.underlying5
  a5 := Try.isAgg5
  z5 := Try.sizeOf5
  v5 := Try.zeroValue5
  t9 := Try.underlying9
  a9 := Try.isAgg9
  z9 := Try.sizeOf9
  v9 := Try.zeroValue9
  t22 := Try.underlying22
  a22 := Try.isAgg22
  z22 := Try.sizeOf22
  v22 := Try.zeroValue22
  t23 := Try.underlying22
  a23 := Try.isAgg22
  z23 := Try.sizeOf22
  v23 := Try.zeroValue22
  t25 := Try.underlying3
  a25 := Try.isAgg3
  z25 := Try.sizeOf3
  v25 := Try.zeroValue3
  t32 := Try.underlying69
  a32 := Try.isAgg69
  z32 := Try.sizeOf69
  v32 := Try.zeroValue69
  t35 := Try.underlying122
  a35 := Try.isAgg122
  z35 := Try.sizeOf122
  v35 := Try.zeroValue122
  t36 := Try.underlying123
  a36 := Try.isAgg123
  z36 := Try.sizeOf123
  v36 := Try.zeroValue123
  t41 := Try.underlying117
  a41 := Try.isAgg117
  z41 := Try.sizeOf117
  v41 := Try.zeroValue117
  t44 := Try.underlying130
  a44 := Try.isAgg130
  z44 := Try.sizeOf130
  v44 := Try.zeroValue130
  t46 := Try.underlying132
  a46 := Try.isAgg132
  z46 := Try.sizeOf132
  v46 := Try.zeroValue132
  t53 := Try.underlying134
  a53 := Try.isAgg134
  z53 := Try.sizeOf134
  v53 := Try.zeroValue134
  t57 := Try.underlying138
  a57 := Try.isAgg138
  z57 := Try.sizeOf138
  v57 := Try.zeroValue138
  t63 := Try.underlying140
  a63 := Try.isAgg140
  z63 := Try.sizeOf140
  v63 := Try.zeroValue140
  t64 := Try.underlying141
  a64 := Try.isAgg141
  z64 := Try.sizeOf141
  v64 := Try.zeroValue141

def laysCompact_ren : Go.Shelf.Ren := ⟨fun | 20 => 52 | n => n, fun | 0 => 0 | 3 => 3 | 4 => 4 | 22 => 22 | n => n, fun n => n⟩
theorem laysCompact : Lays2.n20 Try.prog laysCompact_ren where
  mixed := by kernel_rfl
  f20 := Try.func52.trans (congrArg some (by kernel_rfl))
  t0 := Try.underlying0
  a0 := Try.isAgg0
  z0 := Try.sizeOf0
  v0 := Try.zeroValue0
  t3 := Try.underlying3
  a3 := Try.isAgg3
  z3 := Try.sizeOf3
  v3 := Try.zeroValue3
  t4 := Try.underlying4
  a4 := Try.isAgg4
  z4 := Try.sizeOf4
  v4 := Try.zeroValue4
  t22 := Try.underlying22
  a22 := Try.isAgg22
  z22 := Try.sizeOf22
  v22 := Try.zeroValue22
  i3 := by kernel_rfl

attribute [local semireducible] Con
theorem Con.ofCallsS {P : Program} {f : FuncId} {args : Array Value} {G : GH} {μ : OH} {Φ : Value → GH → OH → Prop} (h : ∀ w, Mem G μ w → Calls P f args w fun e w' => ∃ v, e = .returned v ∧ ∃ G' μ', Step G μ w G' μ' w' ∧ Φ v G' μ') : Con P f args G μ Φ := by
  intro w hw
  exact (h w hw).mono fun e w' hq => by
    obtain ⟨v, rfl, hv⟩ := hq
    exact ⟨v, rfl, hv⟩
/-! ### What the kit's contracts do to the world, in steps of ours -/
section
variable {G : GH} {μ μ' : OH} {w : World} {b : Nat} {e : TypeId}
theorem Step.mapS {vs vs' : List Value} {f : Array Value → Array Value} (hw : Mem G μ w) (hb : Has μ b vs e) (hf : f vs.toArray = vs'.toArray) (hu : Upd b (.cells vs'.toArray e (0, 0)) μ μ') : Step G μ w G μ' (Go.Sort.mapBlock w b f) := by
  have hg := hw.own _ _ hb
  refine Step.upd hw hu rfl rfl rfl (by simp [Go.Sort.mapBlock]) ?_ (fun c hc => ?_)
  · simp only [Go.Sort.mapBlock, Array.getElem?_modify, if_true, hg, Option.map_some, Go.Sort.onCells, hf]
  · simp only [Go.Sort.mapBlock, Array.getElem?_modify]
    rw [if_neg (fun h => hc h.symm)]
theorem Step.grow (h : Mem G μ w) (os : Array Obj) : Step G μ w G μ (Go.Sort.grow w os) := by
  have hold : ∀ c, c < w.heap.size → (Go.Sort.grow w os).heap[c]? = w.heap[c]? := fun c hc => by
    show (w.heap ++ os)[c]? = _
    rw [Array.getElem?_append_left hc]
  refine ⟨⟨fun c o hc => ?_, fun c o hc => ?_, h.nodup, h.apart⟩, GH.le_refl _, rfl, rfl, rfl, ?_, fun c hc _ => hold c hc, fun c o hc => .inl ⟨o, hc⟩, fun c o hc => .inl ⟨o, hc⟩⟩
  · rw [hold c (lt_of_heap (h.g c o hc))]; exact h.g c o hc
  · rw [hold c (lt_of_heap (h.own c o hc))]; exact h.own c o hc
  · show w.heap.size ≤ (w.heap ++ os).size
    simp
end
theorem holds_own {G : GH} {μ : OH} {w : World} {b : Nat} {e : TypeId} {zs : List Int} {spare : List Value} (hw : Mem G μ w) (hb : Has μ b (zs.map (Value.int .i64 ·) ++ spare) e) : Go.Sort.Holds (Value.int .i64) w b 0 zs.toArray := by
  intro j hj
  have hj' : j < zs.length := by simpa using hj
  refine ⟨?_, ?_⟩
  · rw [Nat.zero_add]
    refine Cell.own hb ?_ w hw.sees
    rw [List.getElem?_append_left (by simpa using hj'), List.getElem?_map, List.getElem?_eq_getElem hj']
    simp [hj']
  · have := hw.own _ _ hb
    simp [World.frozen?, this]
theorem putCells_own {zs ys : List Int} {spare : List Value} (h : ys.length = zs.length) : Go.Sort.putCells (Value.int .i64) 0 ys.toArray (zs.map (Value.int .i64 ·) ++ spare).toArray = (ys.map (Value.int .i64 ·) ++ spare).toArray := by
  apply Array.ext_getElem?
  intro k
  simp only [Go.Sort.putCells, Array.getElem?_mapIdx, List.getElem?_toArray, List.size_toArray, Nat.zero_le, true_and, Nat.zero_add, Nat.sub_zero]
  by_cases hk : k < ys.length
  · rw [List.getElem?_append_left (by simp; omega), List.getElem?_append_left (by simpa using hk)]
    simp [hk, h ▸ hk]
  · rw [List.getElem?_append_right (by simp; omega), List.getElem?_append_right (by simp; omega)]
    have hk2 : ¬ k < zs.length := by omega
    simp only [List.length_map, h]
    cases spare[k - zs.length]? with
    | none => rfl
    | some v => simp only [Option.map_some, hk2, if_false]
def sortL (l : List Int) : List Int := l.mergeSort fun x y => decide (x ≤ y)
theorem sortL_perm (l : List Int) : (sortL l).Perm l := List.mergeSort_perm _ _
theorem sortL_le (l : List Int) : (sortL l).Pairwise (· ≤ ·) := by
  have := List.pairwise_mergeSort (le := fun (x y : Int) => decide (x ≤ y)) (fun a b c h1 h2 => by simp only [decide_eq_true_eq] at *; omega) (fun a b => by simp only [Bool.or_eq_true, decide_eq_true_eq]; omega) l
  exact this.imp fun h => by simpa using h
theorem sort_s {G : GH} {zs : List Int} {b cap : Nat} {e : TypeId} {spare : List Value} (hsz : zs.length < 4611686018427387904) :
    Con Try.prog 56 #[.slice (some ⟨b, 0, none⟩) zs.length cap] G [(b, .cells (zs.map (Value.int .i64 ·) ++ spare).toArray e (0, 0))]
      (fun r G' μ' => r = .tuple #[] ∧ G' = G ∧ μ' = [(b, .cells ((sortL zs).map (Value.int .i64 ·) ++ spare).toArray e (0, 0))]) := by
  refine Con.ofCallsS fun w hw => ?_
  have hb : Has [(b, Obj.cells (zs.map (Value.int .i64 ·) ++ spare).toArray e (0, 0))] b (zs.map (Value.int .i64 ·) ++ spare) e := List.mem_cons_self
  refine (AnyM.slices_Sort_int laysSort b 0 cap zs w (holds_own hw hb) (lt_of_heap (hw.own _ _ hb)) hsz).mono ?_
  rintro _ w' ⟨rfl, n, os, rfl⟩
  have s1 := Step.drew hw n
  have s2 := Step.mapS (f := Go.Sort.putCells (Value.int .i64) 0 (sortL zs).toArray) s1.mem hb (putCells_own (sortL_perm zs).length_eq) (.here _ _)
  exact ⟨_, rfl, G, _, (s1.trans s2).trans (Step.grow s2.mem os), rfl, rfl, rfl⟩
theorem sort0_s {G : GH} {p : Option Addr} {cap : Nat} : Con Try.prog 56 #[.slice p 0 cap] G [] (Just (.tuple #[]) G) := by
  refine Con.ofCallsS fun w hw => ?_
  refine (AnyM.slices_Sort_int_none laysSort p cap w).mono ?_
  rintro _ w' ⟨rfl, rfl⟩
  exact ⟨_, rfl, G, [], Step.refl hw, rfl, rfl, rfl⟩
theorem compact_len (zs : List Int) : (Lib.compact zs).length ≤ zs.length := by
  unfold Lib.compact Lib.compactUpTo
  rw [List.length_map]
  exact Nat.le_trans (List.length_filter_le _ _) (by simp)
theorem compact_s {G : GH} {zs : List Int} {b cap : Nat} {e : TypeId} {spare : List Value} (hsz : zs.length ≤ 1048576) (hcap : zs.length ≤ cap) :
    Con Try.prog 52 #[.slice (some ⟨b, 0, none⟩) zs.length cap] G [(b, .cells (zs.map (Value.int .i64 ·) ++ spare).toArray e (0, 0))]
      (fun r G' μ' => r = .slice (some ⟨b, 0, none⟩) (Lib.compact zs).length cap ∧ G' = G ∧ ∃ r, μ' = [(b, .cells ((Lib.compact zs).map (Value.int .i64 ·) ++ r).toArray e (0, 0))]) := by
  refine Con.ofCallsS fun w hw => ?_
  have hb : Has [(b, Obj.cells (zs.map (Value.int .i64 ·) ++ spare).toArray e (0, 0))] b (zs.map (Value.int .i64 ·) ++ spare) e := List.mem_cons_self
  refine (Any.slices_Compact_int laysCompact b 0 cap zs w (holds_own hw hb) (by omega) hcap).mono ?_
  rintro _ w' ⟨rfl, q, rfl⟩
  have s1 := Step.drew hw q
  have s2 := Step.mapS (f := Go.Sort.putCells (Value.int .i64) 0 (Lib.compact zs ++ List.replicate (zs.length - (Lib.compact zs).length) 0).toArray) s1.mem hb (putCells_own (by have := compact_len zs; simp; omega)) (.here _ _)
  refine ⟨_, rfl, G, _, s1.trans s2, rfl, rfl, (List.replicate (zs.length - (Lib.compact zs).length) 0).map (Value.int .i64 ·) ++ spare, ?_⟩
  simp
theorem compact0_s {G : GH} {p : Option Addr} {cap : Nat} : Con Try.prog 52 #[.slice p 0 cap] G [] (Just (.slice p 0 cap) G) := by
  refine Con.ofCallsS fun w hw => ?_
  refine (Any.slices_Compact_int_empty laysCompact p cap w).mono ?_
  rintro _ w' ⟨rfl, rfl⟩
  exact ⟨_, rfl, G, [], Step.refl hw, rfl, rfl, rfl⟩
end Go.Proofs.Ytgflmkhfachlcaa
/-
  Majorities, in plain Lean: distinct members, counted in two ways; two majorities have a member in common.
-/
set_option linter.unusedSimpArgs false
set_option linter.unusedVariables false
namespace Go.Proofs.Ytgflmkhfachlcaa
open Go.Vx Go.ChangeShapes Go.WideShapes Go.ChangeAt Go.RowKit
theorem compact_lt {zs : List Int} (hs : zs.Pairwise (· ≤ ·)) : (Lib.compact zs).Pairwise (· < ·) := by
  unfold Lib.compact Lib.compactUpTo
  rw [List.pairwise_map]
  have h0 : ((List.range zs.length).filter (Lib.keeps zs.toArray)).Pairwise (· < ·) := List.Pairwise.filter _ List.pairwise_lt_range
  refine h0.imp_of_mem ?_
  intro i j hi hj hij
  simp only [List.mem_filter, List.mem_range] at hi hj
  obtain ⟨hi1, hi2⟩ := hi
  obtain ⟨hj1, hj2⟩ := hj
  have hd : zs[j - 1]'(by omega) ≠ zs[j] := by
    unfold Lib.keeps at hj2
    rw [decide_eq_true_iff] at hj2
    have e1 : zs.toArray[j]! = zs[j] := by simp [hj1]
    have e2 : zs.toArray[j - 1]! = zs[j - 1]'(by omega) := by simp [show j - 1 < zs.length by omega]
    rw [e1, e2] at hj2
    rcases hj2 with h | h
    · omega
    · exact fun e => h e.symm
  have hle : ∀ (a b : Nat) (hb : b < zs.length) (hab : a ≤ b), zs[a]'(by omega) ≤ zs[b] := fun a b hb hab => by
    by_cases e : a = b
    · subst e; exact Int.le_refl _
    · exact List.pairwise_iff_getElem.1 hs a b (by omega) hb (by omega)
  have h1 := hle i (j - 1) (by omega) (by omega)
  have h2 := hle (j - 1) j hj1 (by omega)
  have e1 : zs.toArray[i]! = zs[i] := by simp [hi1]
  have e2 : zs.toArray[j]! = zs[j] := by simp [hj1]
  rw [e1, e2]
  omega
theorem compact_mem {zs : List Int} {x : Int} : x ∈ Lib.compact zs ↔ x ∈ zs := by
  unfold Lib.compact Lib.compactUpTo
  rw [List.mem_map]
  constructor
  · rintro ⟨i, hi, rfl⟩
    simp only [List.mem_filter, List.mem_range] at hi
    have : zs.toArray[i]! = zs[i]'hi.1 := by simp [hi.1]
    rw [this]
    exact List.getElem_mem _
  · intro hx
    have hex : ∃ i, ∃ h : i < zs.length, zs[i] = x := by
      obtain ⟨i, h, e⟩ := List.getElem_of_mem hx
      exact ⟨i, h, e⟩
    obtain ⟨i, ⟨hi, rfl⟩, hmin⟩ := least hex
    refine ⟨i, ?_, by simp [hi]⟩
    simp only [List.mem_filter, List.mem_range]
    refine ⟨hi, ?_⟩
    unfold Lib.keeps
    rw [decide_eq_true_iff]
    by_cases h0 : i = 0
    · exact .inl h0
    · have hlt : i - 1 < zs.length := by omega
      have e1 : zs.toArray[i]! = zs[i] := by simp [hi]
      have e2 : zs.toArray[i - 1]! = zs[i - 1] := by simp [hlt]
      rw [e1, e2]
      refine .inr fun e => ?_
      have := hmin (i - 1) ⟨hlt, e.symm⟩
      omega
theorem lt_nodup {l : List Int} (h : l.Pairwise (· < ·)) : l.Nodup := h.imp fun h => by omega
/-- Lists without double ones that have the same members. -/
theorem perm_of_mem {l l' : List Int} (h : l.Nodup) (h' : l'.Nodup) (hm : ∀ x, x ∈ l ↔ x ∈ l') : l.Perm l' := by
  rw [List.perm_iff_count]
  intro a
  rw [h.count, h'.count]
  simp only [hm a]
def once (l : List Int) : List Int := Lib.compact (sortL l)
theorem once_lt (l : List Int) : (once l).Pairwise (· < ·) := compact_lt (sortL_le l)
theorem once_mem {l : List Int} {x : Int} : x ∈ once l ↔ x ∈ l := by
  unfold once
  rw [compact_mem]
  exact (sortL_perm l).mem_iff
def majB (l of : List Int) : Bool := decide ((once l).length < 2 * (once l).countP (of.contains ·))
/-- The first ones, up to place k. -/
def firsts (l : List Int) : Nat → List Int
  | 0 => []
  | k + 1 => if h : k < l.length then (if (l.take k).contains l[k] then firsts l k else firsts l k ++ [l[k]]) else firsts l k
theorem firsts_mem {l : List Int} : ∀ {k : Nat}, k ≤ l.length → ∀ x, x ∈ firsts l k ↔ x ∈ l.take k
  | 0, _, x => by simp [firsts]
  | k + 1, hk, x => by
    have ih := firsts_mem (l := l) (k := k) (by omega)
    have hlt : k < l.length := by omega
    rw [firsts, dif_pos hlt, List.take_succ_eq_append_getElem hlt]
    split
    · rename_i h
      rw [ih, List.mem_append, List.mem_singleton]
      constructor
      · exact .inl
      · rintro (h1 | rfl)
        · exact h1
        · simpa using h
    · rw [List.mem_append, List.mem_append, ih]
theorem firsts_nodup {l : List Int} : ∀ {k : Nat}, k ≤ l.length → (firsts l k).Nodup
  | 0, _ => by simp [firsts]
  | k + 1, hk => by
    have ih := firsts_nodup (l := l) (k := k) (by omega)
    have hlt : k < l.length := by omega
    rw [firsts, dif_pos hlt]
    split
    · exact ih
    · rename_i h
      rw [List.nodup_append]
      refine ⟨ih, by simp, fun a ha b hb e => ?_⟩
      rw [List.mem_singleton] at hb
      subst hb e
      exact h (by simpa using (firsts_mem (by omega) _).1 ha)
theorem firsts_once (l : List Int) : (firsts l l.length).Perm (once l) :=
  perm_of_mem (firsts_nodup (Nat.le_refl _)) (lt_nodup (once_lt l)) fun x => by
    rw [firsts_mem (Nat.le_refl _), List.take_length, once_mem]
theorem maj_ref (l of : List Int) : majB l of = decide ((firsts l l.length).length < 2 * (firsts l l.length).countP (of.contains ·)) := by
  unfold majB
  rw [(firsts_once l).length_eq, (firsts_once l).countP_eq]
theorem two_counts (p q : Int → Bool) : ∀ (l : List Int), l.countP p + l.countP q ≤ l.length + l.countP (fun x => p x && q x)
  | [] => by simp
  | x :: l => by
    have ih := two_counts p q l
    rw [List.countP_cons, List.countP_cons, List.countP_cons, List.length_cons]
    cases hp : p x <;> cases hq : q x <;> simp [hp, hq] <;> omega
theorem maj_common {l a b : List Int} (h1 : majB l a = true) (h2 : majB l b = true) : ∃ x ∈ l, a.contains x = true ∧ b.contains x = true := by
  unfold majB at h1 h2
  rw [decide_eq_true_iff] at h1 h2
  have := two_counts (a.contains ·) (b.contains ·) (once l)
  have hpos : 0 < (once l).countP (fun x => a.contains x && b.contains x) := by omega
  obtain ⟨x, hx, hp⟩ := List.countP_pos_iff.1 hpos
  rw [Bool.and_eq_true] at hp
  exact ⟨x, once_mem.1 hx, hp⟩
end Go.Proofs.Ytgflmkhfachlcaa
