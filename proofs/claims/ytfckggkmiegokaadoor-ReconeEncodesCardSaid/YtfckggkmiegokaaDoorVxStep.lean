/-
  VX, STEPS THAT PART: a comparison is decided at once, by what is known or into two ways.
-/
import Derived.Test.YtfckggkmiegokaaDoorVxMem
set_option linter.unusedVariables false
set_option linter.unusedSimpArgs false
namespace Go.Vx
open Go
attribute [local semireducible] Vc
section
variable {P : Program} {fn : Func} {n : Nat} {B : Base} {Φ : Value → GH → OH → Prop} {k : List It} {σ : Env} {G : GH} {μ : OH} {all : Array Oper} {rest : List Oper} {d : Nat} {op : Op} {ty : TypeId} {pos : String} {af : Array Edge}
theorem v_pureT {p : Prop} [Decidable p] (hop : PureOp P op ty σ (.bool (decide p))) (hd : Nat.blt d n = true) (hp : p) (h : Vc P fn n B Φ (.ops all rest :: k) ((d, .bool true) :: σ) G μ) :
    Vc P fn n B Φ (.ops all (⟨some d, op, ty, pos, af, none⟩ :: rest) :: k) σ G μ := by
  rw [decide_eq_true hp] at hop; exact v_pure hop hd h
theorem v_pureF {p : Prop} [Decidable p] (hop : PureOp P op ty σ (.bool (decide p))) (hd : Nat.blt d n = true) (hp : ¬ p) (h : Vc P fn n B Φ (.ops all rest :: k) ((d, .bool false) :: σ) G μ) :
    Vc P fn n B Φ (.ops all (⟨some d, op, ty, pos, af, none⟩ :: rest) :: k) σ G μ := by
  rw [decide_eq_false hp] at hop; exact v_pure hop hd h
theorem v_pureD {p : Prop} [Decidable p] (hop : PureOp P op ty σ (.bool (decide p))) (hd : Nat.blt d n = true) (ht : p → Vc P fn n B Φ (.ops all rest :: k) ((d, .bool true) :: σ) G μ) (hf : ¬ p → Vc P fn n B Φ (.ops all rest :: k) ((d, .bool false) :: σ) G μ) :
    Vc P fn n B Φ (.ops all (⟨some d, op, ty, pos, af, none⟩ :: rest) :: k) σ G μ := by
  by_cases hp : p
  · exact v_pureT hop hd hp (ht hp)
  · exact v_pureF hop hd hp (hf hp)
theorem v_pureNT {p : Prop} [Decidable p] (hop : PureOp P op ty σ (.bool (!decide p))) (hd : Nat.blt d n = true) (hp : ¬ p) (h : Vc P fn n B Φ (.ops all rest :: k) ((d, .bool true) :: σ) G μ) :
    Vc P fn n B Φ (.ops all (⟨some d, op, ty, pos, af, none⟩ :: rest) :: k) σ G μ := by
  rw [decide_eq_false hp] at hop; exact v_pure hop hd h
theorem v_pureNF {p : Prop} [Decidable p] (hop : PureOp P op ty σ (.bool (!decide p))) (hd : Nat.blt d n = true) (hp : p) (h : Vc P fn n B Φ (.ops all rest :: k) ((d, .bool false) :: σ) G μ) :
    Vc P fn n B Φ (.ops all (⟨some d, op, ty, pos, af, none⟩ :: rest) :: k) σ G μ := by
  rw [decide_eq_true hp] at hop; exact v_pure hop hd h
theorem v_pureND {p : Prop} [Decidable p] (hop : PureOp P op ty σ (.bool (!decide p))) (hd : Nat.blt d n = true) (ht : ¬ p → Vc P fn n B Φ (.ops all rest :: k) ((d, .bool true) :: σ) G μ) (hf : p → Vc P fn n B Φ (.ops all rest :: k) ((d, .bool false) :: σ) G μ) :
    Vc P fn n B Φ (.ops all (⟨some d, op, ty, pos, af, none⟩ :: rest) :: k) σ G μ := by
  by_cases hp : p
  · exact v_pureNF hop hd hp (hf hp)
  · exact v_pureNT hop hd hp (ht hp)
/-- A Bool that is not known yet: two ways. -/
theorem v_pureB {b : Bool} (hop : PureOp P op ty σ (.bool b)) (hd : Nat.blt d n = true) (ht : b = true → Vc P fn n B Φ (.ops all rest :: k) ((d, .bool true) :: σ) G μ) (hf : b = false → Vc P fn n B Φ (.ops all rest :: k) ((d, .bool false) :: σ) G μ) :
    Vc P fn n B Φ (.ops all (⟨some d, op, ty, pos, af, none⟩ :: rest) :: k) σ G μ := by
  cases b
  · exact v_pure hop hd (hf rfl)
  · exact v_pure hop hd (ht rfl)
theorem v_notT {x : Operand} {t : TypeId} (hx : Env.ev σ x = some (.bool true)) (hd : Nat.blt d n = true) (h : Vc P fn n B Φ (.ops all rest :: k) ((d, .bool false) :: σ) G μ) :
    Vc P fn n B Φ (.ops all (⟨some d, .unOp .not t x, ty, pos, af, none⟩ :: rest) :: k) σ G μ := v_pure (p_not hx) hd h
theorem v_notF {x : Operand} {t : TypeId} (hx : Env.ev σ x = some (.bool false)) (hd : Nat.blt d n = true) (h : Vc P fn n B Φ (.ops all rest :: k) ((d, .bool true) :: σ) G μ) :
    Vc P fn n B Φ (.ops all (⟨some d, .unOp .not t x, ty, pos, af, none⟩ :: rest) :: k) σ G μ := v_pure (p_not hx) hd h
theorem v_readB {b : Bool} (hop : ReadOp P op ty σ G μ (.bool b)) (hd : Nat.blt d n = true) (ht : b = true → Vc P fn n B Φ (.ops all rest :: k) ((d, .bool true) :: σ) G μ) (hf : b = false → Vc P fn n B Φ (.ops all rest :: k) ((d, .bool false) :: σ) G μ) :
    Vc P fn n B Φ (.ops all (⟨some d, op, ty, pos, af, none⟩ :: rest) :: k) σ G μ := by
  cases b
  · exact v_read hop hd (hf rfl)
  · exact v_read hop hd (ht rfl)
/-- A callee that answers a Bool: two ways. -/
theorem v_callJB {f : FuncId} [Callable P f] {args : List Operand} {ts : Array TypeId} {vs : List Value} {b : Bool} (ha : Env.evs σ args = some vs) (hs : Con P f vs.toArray G [] (Just (.bool b) G)) (hd : Nat.blt d n = true)
    (ht : b = true → Vc P fn n B Φ (.ops all rest :: k) ((d, .bool true) :: σ) G μ) (hf : b = false → Vc P fn n B Φ (.ops all rest :: k) ((d, .bool false) :: σ) G μ) :
    Vc P fn n B Φ (.ops all (⟨some d, .call { callee := .value (.func f), args := args.toArray, argTypes := ts }, ty, pos, af, none⟩ :: rest) :: k) σ G μ := by
  cases b
  · exact v_callJ ha hs hd (hf rfl)
  · exact v_callJ ha hs hd (ht rfl)
/-- A guard that hangs on a Bool not known yet: two ways. -/
theorem v_guardB {dst : Option Nat} {j t : Nat} {c b : Bool} (h1 : (all[j]?).bind (·.dst) = some t) (h2 : Env.get σ t = some (.bool b))
    (ht : b = true → Vc P fn n B Φ (.ops all (⟨dst, op, ty, pos, af, some (j, c)⟩ :: rest) :: k) ((t, .bool true) :: σ) G μ) (hf : b = false → Vc P fn n B Φ (.ops all (⟨dst, op, ty, pos, af, some (j, c)⟩ :: rest) :: k) ((t, .bool false) :: σ) G μ) :
    Vc P fn n B Φ (.ops all (⟨dst, op, ty, pos, af, some (j, c)⟩ :: rest) :: k) σ G μ := by
  have key : ∀ x, b = x → ∀ i v, Env.get ((t, .bool x) :: σ) i = some v → Env.get σ i = some v := by
    intro x hx i v hi
    rw [Env.get_cons] at hi
    by_cases hti : t = i
    · subst hti; rw [if_pos rfl] at hi; rw [h2, hx]; exact hi
    · rwa [if_neg hti] at hi
  cases hb : b
  · exact v_weaken (key false hb) (hf hb)
  · exact v_weaken (key true hb) (ht hb)
/-- Behind a code: whatever its ways, they meet at J. -/
theorem v_join (S : List Nat) (J : List Value → GH → OH → Prop) {c : Code} (h1 : Vc P fn n B Φ (.code c :: .again S (fun vs w => ∃ G' μ', J vs G' μ' ∧ Step B.G B.μ B.w G' μ' w) :: k) σ G μ)
    (h2 : ∀ vs G' μ', J vs G' μ' → Vc P fn n B Φ k (S.zip vs) G' μ') : Vc P fn n B Φ (.code c :: k) σ G μ := by
  intro w hw a ha
  refine wp_mono (h1 w hw a ha) fun e a' w' hq => ?_
  cases e with
  | normal =>
    obtain ⟨vs, hh, _, G', μ', hJ, hS⟩ := hq
    exact h2 vs G' μ' hJ w' hS a' hh
  | _ => simpa [Kont] using hq
theorem v_meet {S : List Nat} {J : List Value → GH → OH → Prop} {vs : List Value} (hg : Env.gets σ S = some vs) (hJ : J vs G μ) : Vc P fn n B Φ (.again S (fun vs w => ∃ G' μ', J vs G' μ' ∧ Step B.G B.μ B.w G' μ' w) :: k) σ G μ :=
  fun _ hw => run_again hg ⟨G, μ, hJ, hw⟩
end
section
variable {P : Program} {ty : TypeId} {σ : Env}
theorem p_eqBs {x y : Operand} {b : Bool} {t t' : TypeId} [Ty P t .bool] (hx : Env.ev σ x = some (.bool b)) (hy : Env.ev σ y = some (.bool b)) : PureOp P (.binOp .eql t x y t') ty σ (.bool true) := by
  have := p_eqB (P := P) (ty := ty) (t := t) (t' := t') hx hy
  simpa using this
theorem p_neBs {x y : Operand} {b : Bool} {t t' : TypeId} [Ty P t .bool] (hx : Env.ev σ x = some (.bool b)) (hy : Env.ev σ y = some (.bool b)) : PureOp P (.binOp .neq t x y t') ty σ (.bool false) := by
  have := p_neB (P := P) (ty := ty) (t := t) (t' := t') hx hy
  simpa using this
theorem p_eqs {x y : Operand} {k : IntKind} {a : Int} {t t' : TypeId} (hx : Env.ev σ x = some (.int k a)) (hy : Env.ev σ y = some (.int k a)) : PureOp P (.binOp .eql t x y t') ty σ (.bool true) := by
  have := p_eq (P := P) (ty := ty) (t := t) (t' := t') hx hy
  rwa [dec_pos rfl] at this
theorem p_nes {x y : Operand} {k : IntKind} {a : Int} {t t' : TypeId} (hx : Env.ev σ x = some (.int k a)) (hy : Env.ev σ y = some (.int k a)) : PureOp P (.binOp .neq t x y t') ty σ (.bool false) := by
  have := p_ne (P := P) (ty := ty) (t := t) (t' := t') hx hy
  rwa [dec_pos rfl] at this
end
end Go.Vx
