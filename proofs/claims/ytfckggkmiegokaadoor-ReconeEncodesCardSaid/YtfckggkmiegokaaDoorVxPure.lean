/-
  VX, THE OPERATIONS THAT TOUCH NO MEMORY.
-/
import Derived.Test.YtfckggkmiegokaaDoorVxState
import Derived.WalkSpells
import Derived.WalkLawsBesides
set_option linter.unusedVariables false
set_option linter.unusedSimpArgs false
namespace Go.Vx
open Go
attribute [local semireducible] Vc Con

def Agree (σ : Env) (ρ : Operand → Value) : Prop := ∀ x v, Env.ev σ x = some v → ρ x = v
theorem Holds.agree {n : Nat} {σ : Env} {a : Act} (h : Holds n σ a) : Agree σ a.eval := fun _ _ hx => h.ev hx

/-- The operation yields v and leaves the world alone, whatever the world. -/
def PureOp (P : Program) (op : Op) (ty : TypeId) (σ : Env) (v : Value) : Prop :=
  ∀ dst pos af g ρ, Agree σ ρ → ∀ w, (execOp ρ ⟨dst, op, ty, pos, af, g⟩).run P w = .ok (.value v) w
/-- The operation yields v and leaves the world alone, wherever G is frozen and μ is there. -/
def ReadOp (P : Program) (op : Op) (ty : TypeId) (σ : Env) (G : GH) (μ : OH) (v : Value) : Prop :=
  ∀ dst pos af g ρ, Agree σ ρ → ∀ w, Sees G μ w → (execOp ρ ⟨dst, op, ty, pos, af, g⟩).run P w = .ok (.value v) w
/-- The operation, or the call, moves from (G, μ) to some (G', μ') and yields some v, of which Ψ holds. -/
def MoveOp (P : Program) (op : Op) (ty : TypeId) (σ : Env) (G : GH) (μ : OH) (Ψ : Value → GH → OH → Prop) : Prop :=
  ∀ dst pos af g ρ, Agree σ ρ → ∀ w, Mem G μ w → ∀ (a : Act) (K : Act → World → Prop) (Q : Exit → Act → World → Prop),
    (∀ v w' G' μ', Step G μ w G' μ' w' → Ψ v G' μ' → K (a.put dst v) w') → Oper.upon P ⟨dst, op, ty, pos, af, g⟩ a K Q ((execOp ρ ⟨dst, op, ty, pos, af, g⟩).run P w)
/-- A test's answer; no 'rfl' looks into it. -/
def dec (p : Prop) [Decidable p] : Bool := decide p
theorem dec_true {p : Prop} [Decidable p] : dec p = true ↔ p := decide_eq_true_iff
theorem dec_false {p : Prop} [Decidable p] : dec p = false ↔ ¬ p := decide_eq_false_iff_not
theorem dec_pos {p : Prop} [Decidable p] (h : p) : dec p = true := decide_eq_true h
theorem dec_neg {p : Prop} [Decidable p] (h : ¬ p) : dec p = false := decide_eq_false h
theorem PureOp.read {P : Program} {op : Op} {ty : TypeId} {σ : Env} {G : GH} {μ : OH} {v : Value} (h : PureOp P op ty σ v) : ReadOp P op ty σ G μ v := fun d p af g ρ hρ w _ => h d p af g ρ hρ w
theorem ReadOp.move {P : Program} {op : Op} {ty : TypeId} {σ : Env} {G : GH} {μ : OH} {v : Value} (h : ReadOp P op ty σ G μ v) : MoveOp P op ty σ G μ (fun u G' μ' => u = v ∧ G' = G ∧ μ' = μ) := by
  intro dst pos af g ρ hρ w hw a K Q hK
  rw [h dst pos af g ρ hρ w hw.sees]
  exact hK v w G μ (Step.refl hw) ⟨rfl, rfl, rfl⟩
theorem MoveOp.mono {P : Program} {op : Op} {ty : TypeId} {σ : Env} {G : GH} {μ : OH} {Ψ Ψ' : Value → GH → OH → Prop} (h : MoveOp P op ty σ G μ Ψ) (hΨ : ∀ v G' μ', Ψ v G' μ' → Ψ' v G' μ') : MoveOp P op ty σ G μ Ψ' :=
  fun dst pos af g ρ hρ w hw a K Q hK => h dst pos af g ρ hρ w hw a K Q fun v w' G' μ' hs hp => hK v w' G' μ' hs (hΨ _ _ _ hp)

section
variable {P : Program} {fn : Func} {n : Nat} {B : Base} {Φ : Value → GH → OH → Prop} {k : List It} {σ : Env} {G : GH} {μ : OH} {all : Array Oper} {rest : List Oper} {d : Nat} {op : Op} {ty : TypeId} {pos : String} {af : Array Edge} {v : Value}
theorem v_move {Ψ : Value → GH → OH → Prop} (hop : MoveOp P op ty σ G μ Ψ) (hd : Nat.blt d n = true) (h : ∀ v G' μ', Ψ v G' μ' → Vc P fn n B Φ (.ops all rest :: k) ((d, v) :: σ) G' μ') :
    Vc P fn n B Φ (.ops all (⟨some d, op, ty, pos, af, none⟩ :: rest) :: k) σ G μ := by
  intro w hw a ha
  have hd' : d < n := by simpa [Nat.blt_eq] using hd
  refine wpList_plain rfl fun K hK => hop _ pos af none a.eval ha.agree w hw.mem a K _ fun v w' G' μ' hs hΨ => hK _ _ ?_
  exact h v G' μ' hΨ w' (hw.trans hs) _ (ha.put hd' v)
theorem v_move0 {Ψ : Value → GH → OH → Prop} (hop : MoveOp P op ty σ G μ Ψ) (h : ∀ v G' μ', Ψ v G' μ' → Vc P fn n B Φ (.ops all rest :: k) σ G' μ') :
    Vc P fn n B Φ (.ops all (⟨none, op, ty, pos, af, none⟩ :: rest) :: k) σ G μ := by
  intro w hw a ha
  refine wpList_plain rfl fun K hK => hop _ pos af none a.eval ha.agree w hw.mem a K _ fun v w' G' μ' hs hΨ => hK _ _ ?_
  exact h v G' μ' hΨ w' (hw.trans hs) _ (ha.putNone v)
theorem v_read (hop : ReadOp P op ty σ G μ v) (hd : Nat.blt d n = true) (h : Vc P fn n B Φ (.ops all rest :: k) ((d, v) :: σ) G μ) :
    Vc P fn n B Φ (.ops all (⟨some d, op, ty, pos, af, none⟩ :: rest) :: k) σ G μ :=
  v_move hop.move hd fun _ _ _ ⟨h1, h2, h3⟩ => by rw [h1, h2, h3]; exact h
theorem v_pure (hop : PureOp P op ty σ v) (hd : Nat.blt d n = true) (h : Vc P fn n B Φ (.ops all rest :: k) ((d, v) :: σ) G μ) :
    Vc P fn n B Φ (.ops all (⟨some d, op, ty, pos, af, none⟩ :: rest) :: k) σ G μ := v_read hop.read hd h
theorem v_pure0 (hop : PureOp P op ty σ v) (h : Vc P fn n B Φ (.ops all rest :: k) σ G μ) :
    Vc P fn n B Φ (.ops all (⟨none, op, ty, pos, af, none⟩ :: rest) :: k) σ G μ :=
  v_move0 hop.read.move fun _ _ _ ⟨_, h2, h3⟩ => by rw [h2, h3]; exact h
/-- A guard that holds; one that does not. -/
def guardVal (all : Array Oper) (σ : Env) (j : Nat) : Option Bool :=
  ((all[j]?).bind (·.dst)).bind fun t => (Env.get σ t).bind fun | .bool b => some b | _ => none
theorem yielded_of {a : Act} (ha : Holds n σ a) {j : Nat} {b : Bool} (hg : guardVal all σ j = some b) : yielded all a.tmps j = some b := by
  unfold guardVal at hg
  unfold yielded
  cases h1 : (all[j]?).bind (·.dst) with
  | none => rw [h1] at hg; cases hg
  | some t =>
    rw [h1] at hg
    simp only [Option.bind_some] at hg
    cases h2 : Env.get σ t with
    | none => rw [h2] at hg; cases hg
    | some v =>
      rw [h2] at hg
      have h3 := ha.get t v h2
      cases v <;> simp at hg
      subst hg
      simp only [Array.getD_eq_getD_getElem?] at h3
      cases h4 : a.tmps[t]? with
      | none => rw [h4] at h3; cases h3
      | some u => rw [h4] at h3; simp only [Option.getD_some] at h3; subst h3; simp [h4]
theorem v_take {dst : Option Nat} {j : Nat} {b : Bool} (hg : guardVal all σ j = some b) (h : Vc P fn n B Φ (.ops all (⟨dst, op, ty, pos, af, none⟩ :: rest) :: k) σ G μ) :
    Vc P fn n B Φ (.ops all (⟨dst, op, ty, pos, af, some (j, b)⟩ :: rest) :: k) σ G μ := by
  intro w hw a ha
  have hy := yielded_of ha hg
  have hh := h w hw a ha
  simp only [Kont] at hh ⊢
  unfold wpList at hh ⊢
  simp only [Region.wanted, hy, beq_self_eq_true, if_true] at hh ⊢
  exact hh
theorem v_pass {j : Nat} {b c : Bool} (hg : guardVal all σ j = some b) (hn : (b == c) = false) (hd : Nat.blt d n = true) (h : Vc P fn n B Φ (.ops all rest :: k) ((d, undef) :: σ) G μ) :
    Vc P fn n B Φ (.ops all (⟨some d, op, ty, pos, af, some (j, c)⟩ :: rest) :: k) σ G μ := by
  intro w hw a ha
  have hd' : d < n := by simpa [Nat.blt_eq] using hd
  have hy := yielded_of ha hg
  have hne : ¬ b = c := by intro e; subst e; simp at hn
  have hh := h w hw _ (ha.put hd' undef)
  simp only [Kont] at hh ⊢
  unfold wpList
  simp only [Region.wanted, hy]
  have : (some b == some c) = false := by simpa using hne
  rw [this]
  exact hh
theorem v_pass0 {j : Nat} {b c : Bool} (hg : guardVal all σ j = some b) (hn : (b == c) = false) (h : Vc P fn n B Φ (.ops all rest :: k) σ G μ) :
    Vc P fn n B Φ (.ops all (⟨none, op, ty, pos, af, some (j, c)⟩ :: rest) :: k) σ G μ := by
  intro w hw a ha
  have hy := yielded_of ha hg
  have hne : ¬ b = c := by intro e; subst e; simp at hn
  have hh := h w hw _ (ha.putNone undef)
  simp only [Kont] at hh ⊢
  unfold wpList
  simp only [Region.wanted, hy]
  have : (some b == some c) = false := by simpa using hne
  rw [this]
  exact hh
end

/-- A guard whose operation was passed over itself. -/
def notBool : Value → Bool
  | .bool _ => false
  | _ => true
def guardRaw (all : Array Oper) (σ : Env) (j : Nat) : Option Value := ((all[j]?).bind (·.dst)).bind fun t => Env.get σ t
theorem yielded_none {n : Nat} {σ : Env} {all : Array Oper} {a : Act} (ha : Holds n σ a) {j : Nat} {v : Value} (hg : guardRaw all σ j = some v) (hv : notBool v = true) : yielded all a.tmps j = none := by
  unfold guardRaw at hg
  unfold yielded
  cases h1 : (all[j]?).bind (·.dst) with
  | none => rw [h1] at hg; cases hg
  | some t =>
    rw [h1] at hg
    simp only [Option.bind_some] at hg
    have h3 := ha.get t v hg
    simp only [Array.getD_eq_getD_getElem?] at h3
    cases h4 : a.tmps[t]? with
    | none => simp [h4]
    | some u =>
      rw [h4] at h3
      simp only [Option.getD_some] at h3
      subst h3
      cases u <;> simp [notBool] at hv <;> simp [h4]
section
variable {P : Program} {fn : Func} {n : Nat} {B : Base} {Φ : Value → GH → OH → Prop} {k : List It} {σ : Env} {G : GH} {μ : OH} {all : Array Oper} {rest : List Oper} {d : Nat} {op : Op} {ty : TypeId} {pos : String} {af : Array Edge} {v : Value}
theorem v_passN {j : Nat} {c : Bool} (hg : guardRaw all σ j = some v) (hn : notBool v = true) (hd : Nat.blt d n = true) (h : Vc P fn n B Φ (.ops all rest :: k) ((d, undef) :: σ) G μ) :
    Vc P fn n B Φ (.ops all (⟨some d, op, ty, pos, af, some (j, c)⟩ :: rest) :: k) σ G μ := by
  intro w hw a ha
  have hd' : d < n := by simpa [Nat.blt_eq] using hd
  have hy := yielded_none ha hg hn
  have hh := h w hw _ (ha.put hd' undef)
  simp only [Kont] at hh ⊢
  unfold wpList
  simp only [Region.wanted, hy]
  exact hh
end

/-! ### Types -/
/-- What type t is, under its name. -/
class Ty (P : Program) (t : TypeId) (d : outParam TypeDesc) : Prop where
  h : P.underlying t = some d
def descAgg : TypeDesc → Bool
  | .struct _ | .array _ _ => true
  | _ => false
/-- How a variable of type t lies: is it of several cells; how many; how many bytes; its zero. -/
class Lay (P : Program) (t : TypeId) (agg : outParam Bool) (size bytes : outParam Nat) (zero : outParam Value) : Prop where
  isAgg : (P.underlying t).map descAgg = some agg
  info : (P.info? t).map (fun i => (i.size, i.bytes, i.zero)) = some (size, bytes, some zero)
section
variable {P : Program} {t : TypeId} {agg : Bool} {size bytes : Nat} {zero : Value} (w : World)
theorem Lay.infoEx (h : Lay P t agg size bytes zero) : ∃ i, P.info? t = some i ∧ i.size = size ∧ i.bytes = bytes ∧ i.zero = some zero := by
  have h' := h.info
  cases hi : P.info? t with
  | none => rw [hi] at h'; cases h'
  | some i => rw [hi] at h'; simp only [Option.map_some, Option.some.injEq, Prod.mk.injEq] at h'; exact ⟨i, rfl, h'.1, h'.2.1, h'.2.2⟩
theorem run_sizeOf [h : Lay P t agg size bytes zero] : (sizeOf t).run P w = .ok size w := by
  obtain ⟨i, hi, h1, _⟩ := h.infoEx
  simp [sizeOf, typeInfo, hi, h1]
theorem run_zeroOf [h : Lay P t agg size bytes zero] : (zeroValue t).run P w = .ok zero w := by
  obtain ⟨i, hi, _, _, h1⟩ := h.infoEx
  simp [zeroValue, typeInfo, hi, h1]
theorem run_isAgg' [h : Lay P t agg size bytes zero] : (isAgg t).run P w = .ok agg w := by
  have h' := h.isAgg
  cases hu : P.underlying t with
  | none => rw [hu] at h'; cases h'
  | some d =>
    rw [hu] at h'
    simp only [Option.map_some, Option.some.injEq] at h'
    subst h'
    cases d <;> simp [isAgg, run_underlying hu, descAgg]
theorem run_under {d : TypeDesc} [h : Ty P t d] : (underlying t).run P w = .ok d w := run_underlying h.h ..
end

/-! ### The operations -/
section ops
variable {P : Program} {ty : TypeId} {σ : Env}
theorem p_move {x : Operand} {v : Value} (hx : Env.ev σ x = some v) : PureOp P (.move x) ty σ v := by
  intro dst pos af g ρ hρ w; simp [execOp, hρ _ _ hx]
theorem p_assign {x : Operand} {v : Value} (hx : Env.ev σ x = some v) : PureOp P (.assign x) ty σ v := by
  intro dst pos af g ρ hρ w; simp [execOp, hρ _ _ hx]
theorem p_pickT {c x y : Operand} {v : Value} (hc : Env.ev σ c = some (.bool true)) (hx : Env.ev σ x = some v) : PureOp P (.pick c x y) ty σ v := by
  intro dst pos af g ρ hρ w; simp [execOp, hρ _ _ hx, hρ _ _ hc, asBool]
theorem p_pickF {c x y : Operand} {v : Value} (hc : Env.ev σ c = some (.bool false)) (hy : Env.ev σ y = some v) : PureOp P (.pick c x y) ty σ v := by
  intro dst pos af g ρ hρ w; simp [execOp, hρ _ _ hy, hρ _ _ hc, asBool]
theorem p_pick {c x y : Operand} {b : Bool} {v u : Value} (hc : Env.ev σ c = some (.bool b)) (hx : Env.ev σ x = some v) (hy : Env.ev σ y = some u) : PureOp P (.pick c x y) ty σ (if b then v else u) := by
  intro dst pos af g ρ hρ w; cases b <;> simp [execOp, hρ _ _ hy, hρ _ _ hx, hρ _ _ hc, asBool]
section ints
variable {x y : Operand} {k : IntKind} {a b : Int} {t t' : TypeId} (hx : Env.ev σ x = some (.int k a)) (hy : Env.ev σ y = some (.int k b))
include hx hy
theorem p_addw : PureOp P (.binOp .add t x y t') ty σ (.int k (k.wrap (a + b))) := by
  intro dst pos af g ρ hρ w; simp [execOp, hρ _ _ hx, hρ _ _ hy, eqGuard, binOp, Op.intArith]
theorem p_subw : PureOp P (.binOp .sub t x y t') ty σ (.int k (k.wrap (a - b))) := by
  intro dst pos af g ρ hρ w; simp [execOp, hρ _ _ hx, hρ _ _ hy, eqGuard, binOp, Op.intArith]
theorem p_mulw : PureOp P (.binOp .mul t x y t') ty σ (.int k (k.wrap (a * b))) := by
  intro dst pos af g ρ hρ w; simp [execOp, hρ _ _ hx, hρ _ _ hy, eqGuard, binOp, Op.intArith]
theorem p_quow (h0 : b ≠ 0) : PureOp P (.binOp .quo t x y t') ty σ (.int k (k.wrap (a.tdiv b))) := by
  intro dst pos af g ρ hρ w; simp [execOp, hρ _ _ hx, hρ _ _ hy, eqGuard, binOp, Op.intDiv, h0]
theorem p_rem (h0 : b ≠ 0) : PureOp P (.binOp .rem t x y t') ty σ (.int k (a.tmod b)) := by
  intro dst pos af g ρ hρ w; simp [execOp, hρ _ _ hx, hρ _ _ hy, eqGuard, binOp, Op.intDiv, h0]
theorem p_eq : PureOp P (.binOp .eql t x y t') ty σ (.bool (dec (a = b))) := by
  intro dst pos af g ρ hρ w; simp [dec, execOp, hρ _ _ hx, hρ _ _ hy, eqGuard, binOp, Op.intCmp, BEq.beq]
theorem p_ne : PureOp P (.binOp .neq t x y t') ty σ (.bool (!dec (a = b))) := by
  intro dst pos af g ρ hρ w; simp [dec, execOp, hρ _ _ hx, hρ _ _ hy, eqGuard, binOp, Op.intCmp, bne, BEq.beq]
theorem p_lt : PureOp P (.binOp .lss t x y t') ty σ (.bool (dec (a < b))) := by
  intro dst pos af g ρ hρ w; simp [dec, execOp, hρ _ _ hx, hρ _ _ hy, eqGuard, binOp, Op.intCmp]
theorem p_le : PureOp P (.binOp .leq t x y t') ty σ (.bool (dec (a ≤ b))) := by
  intro dst pos af g ρ hρ w; simp [dec, execOp, hρ _ _ hx, hρ _ _ hy, eqGuard, binOp, Op.intCmp]
theorem p_gt : PureOp P (.binOp .gtr t x y t') ty σ (.bool (dec (b < a))) := by
  intro dst pos af g ρ hρ w; simp [dec, execOp, hρ _ _ hx, hρ _ _ hy, eqGuard, binOp, Op.intCmp]
theorem p_ge : PureOp P (.binOp .geq t x y t') ty σ (.bool (dec (b ≤ a))) := by
  intro dst pos af g ρ hρ w; simp [dec, execOp, hρ _ _ hx, hρ _ _ hy, eqGuard, binOp, Op.intCmp]
theorem p_and : PureOp P (.binOp .and t x y t') ty σ (.int k (k.wrap (BitVec.ofInt k.bits a &&& BitVec.ofInt k.bits b).toNat)) := by
  intro dst pos af g ρ hρ w; simp [execOp, hρ _ _ hx, hρ _ _ hy, eqGuard, binOp, Op.intBits]
theorem p_or : PureOp P (.binOp .or t x y t') ty σ (.int k (k.wrap (BitVec.ofInt k.bits a ||| BitVec.ofInt k.bits b).toNat)) := by
  intro dst pos af g ρ hρ w; simp [execOp, hρ _ _ hx, hρ _ _ hy, eqGuard, binOp, Op.intBits]
theorem p_xor : PureOp P (.binOp .xor t x y t') ty σ (.int k (k.wrap (BitVec.ofInt k.bits a ^^^ BitVec.ofInt k.bits b).toNat)) := by
  intro dst pos af g ρ hρ w; simp [execOp, hρ _ _ hx, hρ _ _ hy, eqGuard, binOp, Op.intBits]
end ints
section ints64
variable {x y : Operand} {a b : Int} {t t' : TypeId} (hx : Env.ev σ x = some (.int .i64 a)) (hy : Env.ev σ y = some (.int .i64 b))
include hx hy
theorem p_add (h : -9223372036854775808 ≤ a + b ∧ a + b ≤ 9223372036854775807) : PureOp P (.binOp .add t x y t') ty σ (.int .i64 (a + b)) := by
  have e : IntKind.i64.wrap (a + b) = a + b := IntWalk.i64_in _ (by omega)
  have := p_addw (P := P) (ty := ty) (t := t) (t' := t') hx hy
  rwa [e] at this
theorem p_sub (h : -9223372036854775808 ≤ a - b ∧ a - b ≤ 9223372036854775807) : PureOp P (.binOp .sub t x y t') ty σ (.int .i64 (a - b)) := by
  have e : IntKind.i64.wrap (a - b) = a - b := IntWalk.i64_in _ (by omega)
  have := p_subw (P := P) (ty := ty) (t := t) (t' := t') hx hy
  rwa [e] at this
theorem p_mul (h : -9223372036854775808 ≤ a * b ∧ a * b ≤ 9223372036854775807) : PureOp P (.binOp .mul t x y t') ty σ (.int .i64 (a * b)) := by
  have e : IntKind.i64.wrap (a * b) = a * b := IntWalk.i64_in _ (by omega)
  have := p_mulw (P := P) (ty := ty) (t := t) (t' := t') hx hy
  rwa [e] at this
end ints64
theorem p_not {x : Operand} {b : Bool} {t : TypeId} (hx : Env.ev σ x = some (.bool b)) : PureOp P (.unOp .not t x) ty σ (.bool (!b)) := by
  intro dst pos af g ρ hρ w; simp [execOp, hρ _ _ hx, Op.unary]
theorem p_neg {x : Operand} {k : IntKind} {a : Int} {t : TypeId} (hx : Env.ev σ x = some (.int k a)) : PureOp P (.unOp .neg t x) ty σ (.int k (k.wrap (0 - a))) := by
  intro dst pos af g ρ hρ w; simp [execOp, hρ _ _ hx, Op.unary, Op.intArith]
theorem equal_eq (t : TypeId) (x y : Value) : Op.equal t x y = Op.equalIn (9999 + 1) t x y := rfl
/-- Two values of type t, held against each other. -/
def EqIs (P : Program) (m : Nat) (t : TypeId) (x y : Value) (b : Bool) : Prop := ∀ w, (Op.equalIn m t x y).run P w = .ok b w
theorem eqIs_bool {t : TypeId} [Ty P t .bool] (m : Nat) (a b : Bool) : EqIs P (m + 1) t (.bool a) (.bool b) (a == b) := by
  intro w; simp [Op.equalIn, run_under (d := .bool)]
theorem eqIs_int {t : TypeId} {k' : IntKind} [Ty P t (.int k')] (m : Nat) (k : IntKind) (a b : Int) : EqIs P (m + 1) t (.int k a) (.int k b) (decide (a = b)) := by
  intro w; simp [Op.equalIn, run_under (d := .int k'), BEq.beq]
theorem ba_list (a b : ByteArray) : (a.toList == b.toList) = decide (a = b) := by
  rw [ByteArray.toList_eq, ByteArray.toList_eq]
  obtain ⟨⟨x⟩⟩ := a
  obtain ⟨⟨y⟩⟩ := b
  by_cases h : x = y
  · subst h; simp
  · have h1 : (x == y) = false := by simpa using h
    have h2 : ¬ (⟨⟨x⟩⟩ : ByteArray) = ⟨⟨y⟩⟩ := fun e => h (by injection e with e; injection e)
    rw [h1]; simp [h]
theorem ba_beq (a b : ByteArray) : (a == b) = decide (a = b) := by rw [beq_toListBytes, ba_list]
theorem eqIs_string {t : TypeId} [Ty P t .string] (m : Nat) (a b : ByteArray) : EqIs P (m + 1) t (.string a) (.string b) (decide (a = b)) := by
  intro w; simp [Op.equalIn, run_under (d := .string), ba_beq]
theorem p_eqV {x y : Operand} {u v : Value} {b : Bool} {t t' : TypeId} (hx : Env.ev σ x = some u) (hy : Env.ev σ y = some v) (hb : ∀ w, (do eqGuard .eql t x y u v; binOp .eql t u v).run P w = .ok (.bool b) w) : PureOp P (.binOp .eql t x y t') ty σ (.bool b) := by
  intro dst pos af g ρ hρ w
  have := hb w
  simp only [execOp, hρ _ _ hx, hρ _ _ hy]
  rw [Sem.run_bind, this]
  rfl
theorem p_neV {x y : Operand} {u v : Value} {b : Bool} {t t' : TypeId} (hx : Env.ev σ x = some u) (hy : Env.ev σ y = some v) (hb : ∀ w, (do eqGuard .neq t x y u v; binOp .neq t u v).run P w = .ok (.bool b) w) : PureOp P (.binOp .neq t x y t') ty σ (.bool b) := by
  intro dst pos af g ρ hρ w
  have := hb w
  simp only [execOp, hρ _ _ hx, hρ _ _ hy]
  rw [Sem.run_bind, this]
  rfl
theorem p_eqB {x y : Operand} {a b : Bool} {t t' : TypeId} [Ty P t .bool] (hx : Env.ev σ x = some (.bool a)) (hy : Env.ev σ y = some (.bool b)) : PureOp P (.binOp .eql t x y t') ty σ (.bool (a == b)) :=
  p_eqV hx hy fun w => by simp [eqGuard, binOp, equal_eq, eqIs_bool (P := P) (t := t) 9999 a b w]
theorem p_neB {x y : Operand} {a b : Bool} {t t' : TypeId} [Ty P t .bool] (hx : Env.ev σ x = some (.bool a)) (hy : Env.ev σ y = some (.bool b)) : PureOp P (.binOp .neq t x y t') ty σ (.bool (!(a == b))) :=
  p_neV hx hy fun w => by simp [eqGuard, binOp, equal_eq, eqIs_bool (P := P) (t := t) 9999 a b w]
theorem p_eqS {x y : Operand} {a b : ByteArray} {t t' : TypeId} (hx : Env.ev σ x = some (.string a)) (hy : Env.ev σ y = some (.string b)) : PureOp P (.binOp .eql t x y t') ty σ (.bool (dec (a = b))) :=
  p_eqV hx hy fun w => by simp only [dec, eqGuard, binOp, Op.stringOp, ba_list]; rfl
theorem p_neS {x y : Operand} {a b : ByteArray} {t t' : TypeId} (hx : Env.ev σ x = some (.string a)) (hy : Env.ev σ y = some (.string b)) : PureOp P (.binOp .neq t x y t') ty σ (.bool (!dec (a = b))) :=
  p_neV hx hy fun w => by simp only [dec, eqGuard, binOp, Op.stringOp, ba_list]; rfl
/-- A pointer against nil. -/
theorem p_eqNil {x y : Operand} {a : Option Addr} {t t' e : TypeId} [Ty P t (.pointer e)] (hx : Env.ev σ x = some (.pointer a)) (hy : Env.ev σ y = some (.pointer none)) : PureOp P (.binOp .eql t x y t') ty σ (.bool a.isNone) :=
  p_eqV hx hy fun w => by
    have : ∀ m, EqIs P (m + 1) t (.pointer a) (.pointer none) a.isNone := by
      intro m w; cases a <;> simp [Op.equalIn, run_under (d := .pointer e)]
    simp [eqGuard, binOp, equal_eq, this 9999 w]
theorem p_neNil {x y : Operand} {a : Option Addr} {t t' e : TypeId} [Ty P t (.pointer e)] (hx : Env.ev σ x = some (.pointer a)) (hy : Env.ev σ y = some (.pointer none)) : PureOp P (.binOp .neq t x y t') ty σ (.bool (!a.isNone)) :=
  p_neV hx hy fun w => by
    have : ∀ m, EqIs P (m + 1) t (.pointer a) (.pointer none) a.isNone := by
      intro m w; cases a <;> simp [Op.equalIn, run_under (d := .pointer e)]
    simp [eqGuard, binOp, equal_eq, this 9999 w]
/-- A slice against nil. -/
theorem p_eqNilSlice {x y : Operand} {a : Option Addr} {l c l' c' : Nat} {t t' e : TypeId} [Ty P t (.slice e)] (hx : Env.ev σ x = some (.slice a l c)) (hy : Env.ev σ y = some (.slice none l' c')) : PureOp P (.binOp .eql t x y t') ty σ (.bool a.isNone) :=
  p_eqV hx hy fun w => by
    have : ∀ m, EqIs P (m + 1) t (.slice a l c) (.slice none l' c') a.isNone := by
      intro m w; cases a <;> simp [Op.equalIn, run_under (d := .slice e)]
    simp [eqGuard, binOp, equal_eq, this 9999 w]
theorem p_neNilSlice {x y : Operand} {a : Option Addr} {l c l' c' : Nat} {t t' e : TypeId} [Ty P t (.slice e)] (hx : Env.ev σ x = some (.slice a l c)) (hy : Env.ev σ y = some (.slice none l' c')) : PureOp P (.binOp .neq t x y t') ty σ (.bool (!a.isNone)) :=
  p_neV hx hy fun w => by
    have : ∀ m, EqIs P (m + 1) t (.slice a l c) (.slice none l' c') a.isNone := by
      intro m w; cases a <;> simp [Op.equalIn, run_under (d := .slice e)]
    simp [eqGuard, binOp, equal_eq, this 9999 w]
/-- Conversion among integer kinds. -/
theorem p_conv {x : Operand} {k k' k'' : IntKind} {a : Int} {t u : TypeId} [Ty P t (.int k'')] [Ty P u (.int k')] (hx : Env.ev σ x = some (.int k a)) : PureOp P (.convert t u x) ty σ (.int k' (k'.wrap a)) := by
  intro dst pos af g ρ hρ w; simp [execOp, hρ _ _ hx, convert, run_under (t := t) (d := .int k''), run_under (t := u) (d := .int k'), Conv.intToInt]
theorem p_convS {x : Operand} {s : ByteArray} {t u : TypeId} [Ty P t .string] [Ty P u .string] (hx : Env.ev σ x = some (.string s)) : PureOp P (.convert t u x) ty σ (.string s) := by
  intro dst pos af g ρ hρ w; simp [execOp, hρ _ _ hx, convert, run_under (t := t) (d := .string), run_under (t := u) (d := .string)]
theorem p_nilCheck {x : Operand} {a : Addr} (hx : Env.ev σ x = some (.pointer (some a))) : PureOp P (.nilCheck x) ty σ (.pointer (some a)) := by
  intro dst pos af g ρ hρ w; simp [execOp, hρ _ _ hx]
theorem p_extract {x : Operand} {vs : Array Value} {v : Value} {i : Nat} (hx : Env.ev σ x = some (.tuple vs)) (hv : vs[i]? = some v) : PureOp P (.extract x i) ty σ v := by
  intro dst pos af g ρ hρ w; simp [execOp, hρ _ _ hx, Instr.extract, hv]
theorem p_makeFunc {f : Fn} {xs ys : List Operand} {us vs : List Value} (hx : Env.evs σ xs = some us) (hy : Env.evs σ ys = some vs) : PureOp P (.makeFunc f xs.toArray ys.toArray) ty σ (.func f us.toArray vs.toArray) := by
  intro dst pos af g ρ hρ w
  have key : ∀ {xs : List Operand} {us : List Value}, Env.evs σ xs = some us → xs.map ρ = us := by
    intro xs
    induction xs with
    | nil => intro us h; simpa [Env.evs] using h
    | cons x xs ih =>
      intro us h
      simp only [Env.evs] at h
      cases h1 : Env.ev σ x with
      | none => simp [h1] at h
      | some v =>
        cases h2 : Env.evs σ xs with
        | none => simp [h1, h2] at h
        | some us' => simp only [h1, h2, Option.bind_some, Option.map_some, Option.some.injEq] at h; subst h; simp [hρ _ _ h1, ih h2]
  simp [execOp, Instr.makeFunc, key hx, key hy]
theorem p_iface {x : Operand} {v : Value} {t : TypeId} {d : TypeDesc} [Ty P t d] (hd : (match d with | .interface _ => false | _ => true) = true) (hx : Env.ev σ x = some v) : PureOp P (.makeInterface t x) ty σ (.iface t v) := by
  intro dst pos af g ρ hρ w
  simp only [execOp, hρ _ _ hx, Instr.makeInterface, Sem.run_bind, run_under (t := t) (d := d), Result.andThen_ok]
  cases d <;> simp at hd ⊢
/-- Lengths. -/
theorem p_lenSlice {x : Operand} {a : Option Addr} {l c : Nat} {t e : TypeId} [Ty P t (.slice e)] (hx : Env.ev σ x = some (.slice a l c)) : PureOp P (.call { callee := .builtin .len, args := #[x], argTypes := #[t] }) ty σ (.int .i64 l) := by
  intro dst pos af g ρ hρ w
  simp [execOp, resolve, invoke, builtin, Builtin.len_, hρ _ _ hx, run_under (t := t) (d := .slice e), goInt]
theorem p_lenString {x : Operand} {s : ByteArray} {t : TypeId} [Ty P t .string] (hx : Env.ev σ x = some (.string s)) : PureOp P (.call { callee := .builtin .len, args := #[x], argTypes := #[t] }) ty σ (.int .i64 s.size) := by
  intro dst pos af g ρ hρ w
  simp [execOp, resolve, invoke, builtin, Builtin.len_, hρ _ _ hx, run_under (t := t) (d := .string), goInt]
theorem p_capSlice {x : Operand} {a : Option Addr} {l c : Nat} {t e : TypeId} [Ty P t (.slice e)] (hx : Env.ev σ x = some (.slice a l c)) : PureOp P (.call { callee := .builtin .cap, args := #[x], argTypes := #[t] }) ty σ (.int .i64 c) := by
  intro dst pos af g ρ hρ w
  simp [execOp, resolve, invoke, builtin, Builtin.cap_, hρ _ _ hx, run_under (t := t) (d := .slice e), goInt]
theorem p_max {x y : Operand} {k : IntKind} {a b : Int} {ts : Array TypeId} (hx : Env.ev σ x = some (.int k a)) (hy : Env.ev σ y = some (.int k b)) : PureOp P (.call { callee := .builtin .max, args := #[x, y], argTypes := ts }) ty σ (.int k (max a b)) := by
  intro dst pos af g ρ hρ w
  have : (if b > a then b else a) = max a b := by split <;> omega
  simp [execOp, resolve, invoke, builtin, Builtin.max_, Builtin.max2, hρ _ _ hx, hρ _ _ hy, this]
theorem p_min {x y : Operand} {k : IntKind} {a b : Int} {ts : Array TypeId} (hx : Env.ev σ x = some (.int k a)) (hy : Env.ev σ y = some (.int k b)) : PureOp P (.call { callee := .builtin .min, args := #[x, y], argTypes := ts }) ty σ (.int k (min a b)) := by
  intro dst pos af g ρ hρ w
  have : (if b < a then b else a) = min a b := by split <;> omega
  simp [execOp, resolve, invoke, builtin, Builtin.min_, Builtin.min2, hρ _ _ hx, hρ _ _ hy, this]
/-- A character of a string. -/
theorem p_indexS {x i : Operand} {s : ByteArray} {k : IntKind} {m : Int} {t : TypeId} [Ty P t .string] (hx : Env.ev σ x = some (.string s)) (hi : Env.ev σ i = some (.int k m)) (h0 : 0 ≤ m) (h : m.toNat < s.size) : PureOp P (.index t x i) ty σ (.int .u8 (s[m.toNat]'h).toNat) := by
  intro dst pos af g ρ hρ w
  simp [execOp, Instr.index, asIntOf, hρ _ _ hx, hρ _ _ hi, run_under (t := t) (d := .string), h0, h]
end ops
attribute [irreducible] PureOp ReadOp MoveOp dec
end Go.Vx
