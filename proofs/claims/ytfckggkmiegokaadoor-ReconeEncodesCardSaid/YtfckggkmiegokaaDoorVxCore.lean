/-
  VX, THE CORE: a calculus of steps over the kit's 'Code.wp': what a function's temporaries hold is a list of pairs (slot, value), and what is left to be done is a list of items.
-/
import Derived.WalkKit
import Derived.Deep.Draws
set_option linter.unusedVariables false
set_option linter.unusedSimpArgs false
namespace Go.Vx
open Go

/-! ### Environments -/
abbrev Env := List (Nat × Value)

def Env.get : Env → Nat → Option Value
  | [], _ => none
  | (j, v) :: σ, i => bif Nat.beq j i then some v else Env.get σ i

def Env.ev (σ : Env) : Operand → Option Value
  | .tmp t => Env.get σ t
  | .const v => some v
  | .global g => some (.pointer (some ⟨g, 0, none⟩))
  | .func f => some (.func (.func f) #[] #[])

def Env.gets (σ : Env) : List Nat → Option (List Value)
  | [] => some []
  | t :: ts => (Env.get σ t).bind fun v => (Env.gets σ ts).map fun vs => v :: vs

def Env.evs (σ : Env) : List Operand → Option (List Value)
  | [] => some []
  | t :: ts => (Env.ev σ t).bind fun v => (Env.evs σ ts).map fun vs => v :: vs

def Env.init : Nat → List Value → Env
  | _, [] => []
  | i, v :: vs => (i, v) :: Env.init (i + 1) vs

structure Holds (n : Nat) (σ : Env) (a : Act) : Prop where
  defers : a.defers = []
  size : a.tmps.size = n
  get : ∀ i v, Env.get σ i = some v → a.tmps.getD i undef = v

theorem nbeq_false {i j : Nat} (h : ¬ i = j) : Nat.beq i j = false := by
  cases hb : Nat.beq i j with
  | false => rfl
  | true => exact absurd (Nat.eq_of_beq_eq_true hb) h
theorem Env.get_cons (j : Nat) (v : Value) (σ : Env) (i : Nat) : Env.get ((j, v) :: σ) i = if j = i then some v else Env.get σ i := by
  simp only [Env.get]
  by_cases h : j = i
  · subst h; simp
  · rw [nbeq_false h]; simp [h]

section
variable {n : Nat} {σ σ' : Env} {a : Act}
theorem Holds.put (h : Holds n σ a) {d : Nat} (hd : d < n) (v : Value) : Holds n ((d, v) :: σ) (a.put (some d) v) := by
  obtain ⟨h1, h2, h3⟩ := h
  refine ⟨h1, by simp [Act.put, h2], fun i u hi => ?_⟩
  rw [Env.get_cons] at hi
  by_cases hdi : d = i
  · subst hdi
    simp at hi
    subst hi
    simp [Act.put, h2, hd]
  · rw [if_neg hdi] at hi
    have := h3 i u hi
    simp only [Act.put]
    rw [← this]
    simp [Array.getD_eq_getD_getElem?, Array.getElem?_setIfInBounds_ne hdi]
theorem Holds.putNone (h : Holds n σ a) (v : Value) : Holds n σ (a.put none v) := h
theorem Holds.ev (h : Holds n σ a) {x : Operand} {v : Value} (hx : Env.ev σ x = some v) : a.eval x = v := by
  cases x with
  | tmp t => exact h.get t v hx
  | const c => simpa [Env.ev, Act.eval] using hx
  | global g => simpa [Env.ev, Act.eval] using hx
  | func f => simpa [Env.ev, Act.eval] using hx
theorem Holds.evs (h : Holds n σ a) : ∀ {xs : List Operand} {vs : List Value}, Env.evs σ xs = some vs → xs.map a.eval = vs
  | [], vs, hx => by simpa [Env.evs] using hx
  | x :: xs, vs, hx => by
    simp only [Env.evs] at hx
    cases h1 : Env.ev σ x with
    | none => simp [h1] at hx
    | some v =>
      cases h2 : Env.evs σ xs with
      | none => simp [h1, h2] at hx
      | some us =>
        simp only [h1, h2, Option.bind_some, Option.map_some, Option.some.injEq] at hx
        subst hx
        simp [h.ev h1, h.evs h2]
theorem Holds.sub (h : Holds n σ a) (hs : ∀ i v, Env.get σ' i = some v → Env.get σ i = some v) : Holds n σ' a := ⟨h.defers, h.size, fun i v hi => h.get i v (hs i v hi)⟩
theorem gets_zip : ∀ {S : List Nat} {vs : List Value}, Env.gets σ S = some vs → ∀ i v, Env.get (S.zip vs) i = some v → Env.get σ i = some v
  | [], vs, _, i, v, hi => by simp [Env.get] at hi
  | t :: S, vs, h, i, v, hi => by
    simp only [Env.gets] at h
    cases h1 : Env.get σ t with
    | none => simp [h1] at h
    | some u =>
      cases h2 : Env.gets σ S with
      | none => simp [h1, h2] at h
      | some us =>
        simp only [h1, h2, Option.bind_some, Option.map_some, Option.some.injEq] at h
        subst h
        simp only [List.zip_cons_cons] at hi
        rw [Env.get_cons] at hi
        by_cases hti : t = i
        · subst hti; simpa [h1] using hi
        · rw [if_neg hti] at hi; exact gets_zip h2 i v hi
theorem Holds.init (args : Array Value) (m : Nat) (h : args.size ≤ m) : Holds m (Env.init 0 args.toList) { tmps := args ++ Array.replicate (m - args.size) undef, defers := [] } := by
  have key : ∀ (l : List Value) (k i : Nat) (v : Value), Env.get (Env.init k l) i = some v → k ≤ i ∧ l[i - k]? = some v := by
    intro l
    induction l with
    | nil => intro k i v h; simp [Env.init, Env.get] at h
    | cons x l ih =>
      intro k i v h
      rw [Env.init, Env.get_cons] at h
      by_cases hki : k = i
      · subst hki; simp at h; simp [h]
      · rw [if_neg hki] at h
        obtain ⟨h1, h2⟩ := ih (k + 1) i v h
        refine ⟨by omega, ?_⟩
        have : i - k = (i - (k + 1)) + 1 := by omega
        rw [this]; simpa using h2
  refine ⟨rfl, by simp; omega, fun i v hi => ?_⟩
  obtain ⟨_, h2⟩ := key _ _ _ _ hi
  simp only [Nat.sub_zero] at h2
  have hlt : i < args.size := by
    rcases Nat.lt_or_ge i args.size with h' | h'
    · exact h'
    · rw [List.getElem?_eq_none (by simpa using h')] at h2; cases h2
  have hv : args[i]? = some v := by simpa using h2
  have hv' : args[i] = v := by rw [Array.getElem?_eq_getElem hlt] at hv; simpa using hv
  simp [Array.getElem?_append, hlt, hv']
end

/-! ### Items, and what is left to be done -/
inductive It where
  | code (c : Code)
  | ops (all : Array Oper) (l : List Oper)
  | blk (id : Nat)
  | again (S : List Nat) (I : List Value → World → Prop)

/-- The end of a call that returns: what is said of the value and the world. -/
def Back (V : Value → World → Prop) (e : Ending) (w : World) : Prop := ∃ v, e = .returned v ∧ V v w
/-- The call returns a value, and V holds of it and of the world behind the call. -/
def Ret (P : Program) (f : FuncId) (args : Array Value) (w : World) (V : Value → World → Prop) : Prop := Calls P f args w (Back V)

theorem Ret.mono {P : Program} {f : FuncId} {args : Array Value} {w : World} {V V' : Value → World → Prop} (h : Ret P f args w V) (hv : ∀ v w', V v w' → V' v w') : Ret P f args w V' :=
  Calls.mono h fun _ _ ⟨v, he, hV⟩ => ⟨v, he, hv _ _ hV⟩

section
variable (P : Program) (n : Nat) (Post : Exit → Act → World → Prop)
def Kont : List It → Exit → Act → World → Prop
  | [], e, a, w => Post e a w
  | .code c :: k, .normal, a, w => c.wp P (Kont k) a w
  | .ops all l :: k, .normal, a, w => wpList P all (Kont k) l a w
  | .blk _ :: k, .normal, a, w => Kont k .normal a w
  | .blk id :: k, .exit id', a, w => if id' = id then Kont k .normal a w else Kont k (.exit id') a w
  | .again S I :: _, .normal, a, w => ∃ vs, Holds n (S.zip vs) a ∧ vs.length = S.length ∧ I vs w
  | _ :: k, e, a, w => Kont k e a w
end

/-- From here on, whatever the temporaries hold besides what σ says, the call comes to its end as V says. -/
def Run (P : Program) (fn : Func) (n : Nat) (V : Value → World → Prop) (k : List It) (σ : Env) (w : World) : Prop :=
  ∀ a : Act, Holds n σ a → Kont P n (bodyPost P fn (Back V)) k .normal a w

def popTo (id : Nat) : List It → Option (List It)
  | [] => none
  | .blk id' :: k => bif Nat.beq id' id then some k else popTo id k
  | _ :: k => popTo id k

section rules
variable {P : Program} {fn : Func} {n : Nat} {V : Value → World → Prop} {k k' : List It} {σ σ' : Env} {w : World}

theorem Run.weaken (hs : ∀ i v, Env.get σ' i = some v → Env.get σ i = some v) (h : Run P fn n V k σ' w) : Run P fn n V k σ w := fun a ha => h a (ha.sub hs)

theorem enter {f : FuncId} {c : Code} {args : Array Value} (hf : P.funcs[f]? = some fn) (hb : fn.body = some c) (hn : fn.ntmps = n) (hm : Nat.ble args.size n = true)
    (h : Run P fn n V [.code c] (Env.init 0 args.toList) w) : Ret P f args w V := by
  have hm' : args.size ≤ n := Nat.le_of_ble_eq_true hm
  refine calls_of_wp hf hb ?_
  rw [hn]
  exact wp_mono (h _ (Holds.init args n hm')) (fun e a w hq => by simpa [Kont] using hq)

theorem run_seq {x y : Code} (h : Run P fn n V (.code x :: .code y :: k) σ w) : Run P fn n V (.code (.seq x y) :: k) σ w := by
  intro a ha
  refine wp_seq (wp_mono (h a ha) fun e a w hq => ?_)
  cases e <;> simpa [Kont, Exit.then] using hq
theorem run_skip (h : Run P fn n V k σ w) : Run P fn n V (.code .skip :: k) σ w := fun a ha => wp_skip (h a ha)
theorem run_block {id : Nat} {c : Code} (h : Run P fn n V (.code c :: .blk id :: k) σ w) : Run P fn n V (.code (.block id c) :: k) σ w := by
  intro a ha
  refine wp_block (wp_mono (h a ha) fun e a w hq => ?_)
  cases e <;> simpa [Kont, Exit.inBlock] using hq
theorem run_blk {id : Nat} (h : Run P fn n V k σ w) : Run P fn n V (.blk id :: k) σ w := fun a ha => h a ha
theorem kont_pop {Post : Exit → Act → World → Prop} {id : Nat} : ∀ {k k' : List It}, popTo id k = some k' → ∀ a w, Kont P n Post k' .normal a w → Kont P n Post k (.exit id) a w
  | [], k', h, a, w, _ => by simp [popTo] at h
  | .code c :: k, k', h, a, w, hk => by simp only [popTo] at h; exact kont_pop h a w hk
  | .ops all l :: k, k', h, a, w, hk => by simp only [popTo] at h; exact kont_pop h a w hk
  | .again S I :: k, k', h, a, w, hk => by simp only [popTo] at h; exact kont_pop h a w hk
  | .blk id' :: k, k', h, a, w, hk => by
    simp only [popTo] at h
    by_cases hid : id' = id
    · subst hid
      simp at h
      subst h
      simpa [Kont] using hk
    · rw [nbeq_false hid] at h
      have hne : ¬ id = id' := fun e => hid e.symm
      simp only [Kont, hne, if_false]
      exact kont_pop h a w hk
theorem run_exit {id : Nat} (hp : popTo id k = some k') (h : Run P fn n V k' σ w) : Run P fn n V (.code (.exit id) :: k) σ w :=
  fun a ha => wp_exit (kont_pop hp a w (h a ha))
theorem kont_ret {Post : Exit → Act → World → Prop} : ∀ {k : List It} (a : Act) (w : World), Post .ret a w → Kont P n Post k .ret a w
  | [], a, w, h => h
  | .code c :: k, a, w, h => by simp only [Kont]; exact kont_ret a w h
  | .ops all l :: k, a, w, h => by simp only [Kont]; exact kont_ret a w h
  | .again S I :: k, a, w, h => by simp only [Kont]; exact kont_ret a w h
  | .blk id' :: k, a, w, h => by simp only [Kont]; exact kont_ret a w h
/-- At a return: what the results hold. -/
def Outs (P : Program) (fn : Func) (n : Nat) (σ : Env) (w : World) (v : Value) : Prop := ∀ a : Act, Holds n σ a → (results fn a.tmps).run P w = .ok v w
theorem run_ret {v : Value} (ho : Outs P fn n σ w v) (h : V v w) : Run P fn n V (.code .ret :: k) σ w :=
  fun a ha => wp_ret (kont_ret a w ⟨ha.defers, v, ho a ha, v, rfl, h⟩)
theorem run_end {v : Value} (ho : Outs P fn n σ w v) (h : V v w) : Run P fn n V [] σ w :=
  fun a ha => ⟨ha.defers, v, ho a ha, v, rfl, h⟩
theorem outs0 (hr : fn.results = #[]) : Outs P fn n σ w (.tuple #[]) := fun a _ => results_none hr a.tmps P w
theorem outs1 {t : Nat} {v : Value} (hr : fn.results = #[.tmp t]) (hv : Env.get σ t = some v) : Outs P fn n σ w v := fun a ha => by
  rw [results_tmp hr, ha.get _ _ hv]
theorem outs2 {t u : Nat} {v x : Value} (hr : fn.results = #[.tmp t, .tmp u]) (hv : Env.get σ t = some v) (hx : Env.get σ u = some x) : Outs P fn n σ w (.tuple #[v, x]) := fun a ha => by
  rw [results_tmp2 hr, ha.get _ _ hv, ha.get _ _ hx]
theorem outs3 {t u s : Nat} {v x y : Value} (hr : fn.results = #[.tmp t, .tmp u, .tmp s]) (hv : Env.get σ t = some v) (hx : Env.get σ u = some x) (hy : Env.get σ s = some y) : Outs P fn n σ w (.tuple #[v, x, y]) := fun a ha => by
  have h1 := ha.get _ _ hv
  have h2 := ha.get _ _ hx
  have h3 := ha.get _ _ hy
  simp only [Array.getD_eq_getD_getElem?] at h1 h2 h3
  simp [results, hr, h1, h2, h3]

theorem run_condT {c : Operand} {x y : Code} (hc : Env.ev σ c = some (.bool true)) (h : Run P fn n V (.code x :: k) σ w) : Run P fn n V (.code (.cond c x y) :: k) σ w :=
  fun a ha => wp_cond_true (ha.ev hc) (h a ha)
theorem run_condF {c : Operand} {x y : Code} (hc : Env.ev σ c = some (.bool false)) (h : Run P fn n V (.code y :: k) σ w) : Run P fn n V (.code (.cond c x y) :: k) σ w :=
  fun a ha => wp_cond_false (ha.ev hc) (h a ha)
theorem run_cond {c : Operand} {x y : Code} {b : Bool} (hc : Env.ev σ c = some (.bool b)) (ht : b = true → Run P fn n V (.code x :: k) σ w) (hf : b = false → Run P fn n V (.code y :: k) σ w) : Run P fn n V (.code (.cond c x y) :: k) σ w :=
  fun a ha => wp_cond_split (ha.ev hc) (fun h => ht h a ha) (fun h => hf h a ha)
theorem run_region {id : Nat} {l : List Oper} (h : Run P fn n V (.ops l.toArray l :: k) σ w) : Run P fn n V (.code (.region id l.toArray false) :: k) σ w :=
  fun a ha => wp_region_lit (h a ha)
theorem run_nil {all : Array Oper} (h : Run P fn n V k σ w) : Run P fn n V (.ops all [] :: k) σ w := fun a ha => wpList_nil (h a ha)

/-! ### Loops -/
theorem run_again {S : List Nat} {I : List Value → World → Prop} {vs : List Value} (hg : Env.gets σ S = some vs) (hI : I vs w) : Run P fn n V (.again S I :: k) σ w := by
  intro a ha
  refine ⟨vs, ha.sub (gets_zip hg), ?_, hI⟩
  have : ∀ {S : List Nat} {vs : List Value}, Env.gets σ S = some vs → vs.length = S.length := by
    intro S
    induction S with
    | nil => intro vs h; simp [Env.gets] at h; simp [h]
    | cons t S ih =>
      intro vs h
      simp only [Env.gets] at h
      cases h1 : Env.get σ t with
      | none => simp [h1] at h
      | some u =>
        cases h2 : Env.gets σ S with
        | none => simp [h1, h2] at h
        | some us => simp only [h1, h2, Option.bind_some, Option.map_some, Option.some.injEq] at h; subst h; simp [ih h2]
  exact this hg
theorem wp_loop_fam {ι : Type} {c : Code} {Q : Exit → Act → World → Prop} (J : ι → Act → World → Prop) (μ : ι → Nat) {i0 : ι} {a : Act} {w : World} (h0 : J i0 a w)
    (round : ∀ i a w, J i a w → c.wp P (Exit.then (fun a' w' => ∃ j, J j a' w' ∧ μ j < μ i) Q) a w) : (Code.loop c).wp P Q a w := by
  intro b k cs
  have key : ∀ m i a w, μ i = m → J i a w →
      ∃ e a' w', Q e a' w' ∧ Arrives P (lone (b.at a (.code c :: .inLoop c :: k)) cs w) b k cs e a' w' := by
    intro m
    induction m using Nat.strongRecOn with
    | _ m ih =>
      intro i a w hm hJ
      obtain ⟨e, a₁, w₁, hq, harr⟩ := round i a w hJ b (.inLoop c :: k) cs
      cases e with
      | normal =>
        obtain ⟨j, hJ₁, hlt⟩ := hq
        obtain ⟨e₂, a₂, w₂, hq₂, harr₂⟩ := ih (μ j) (hm ▸ hlt) j a₁ w₁ rfl hJ₁
        exact ⟨e₂, a₂, w₂, hq₂, .of_steps (Steps.trans harr (.one step_inLoop)) harr₂⟩
      | exit id => exact ⟨_, a₁, w₁, hq, .pass (x := .inLoop c) rfl (fun _ _ => .inl (by simp)) harr⟩
      | goto l => exact ⟨_, a₁, w₁, hq, .pass (x := .inLoop c) rfl (fun _ _ => .inl (by simp)) harr⟩
      | ret => exact ⟨_, a₁, w₁, hq, .pass (x := .inLoop c) rfl (fun _ _ => .inl (by simp)) harr⟩
      | panic ch => exact ⟨_, a₁, w₁, hq, .pass (x := .inLoop c) rfl (fun _ _ => .inl (by simp)) harr⟩
      | outgrown => exact ⟨_, a₁, w₁, hq, .pass (x := .inLoop c) rfl (fun _ _ => .inl (by simp)) harr⟩
  obtain ⟨e, a', w', hq, harr⟩ := key _ i0 a w rfl h0
  exact ⟨e, a', w', hq, .of_steps (.one step_loop) harr⟩
/-- A loop: S, the slots that the rounds hand on (and those that are read besides); I: what holds of them at each round's head; μ falls. -/
theorem run_loop (S : List Nat) (I : List Value → World → Prop) (μ : List Value → World → Nat) {body : Code} {vs : List Value} (hg : Env.gets σ S = some vs) (h0 : I vs w)
    (hr : ∀ vs w, I vs w → Run P fn n V (.code body :: .again S (fun vs' w' => I vs' w' ∧ μ vs' w' < μ vs w) :: k) (S.zip vs) w) : Run P fn n V (.code (.loop body) :: k) σ w := by
  intro a ha
  refine wp_loop_fam (ι := List Value × World) (fun i a w => Holds n (S.zip i.1) a ∧ w = i.2 ∧ I i.1 w) (fun i => μ i.1 i.2) (i0 := (vs, w)) ⟨ha.sub (gets_zip hg), rfl, h0⟩ ?_
  rintro ⟨us, wr⟩ a' w' ⟨hh, hw, hI⟩
  simp only at hw
  subst hw
  refine wp_mono (hr us w' hI a' hh) fun e a'' w'' hq => ?_
  cases e with
  | normal =>
    obtain ⟨us', hh', _, hI', hlt⟩ := hq
    exact ⟨(us', w''), ⟨hh', rfl, hI'⟩, hlt⟩
  | _ => simpa [Kont, Exit.then] using hq
end rules
end Go.Vx
