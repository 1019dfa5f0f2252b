/-
  VX, THE OPERATIONS THAT TOUCH MEMORY, and calls.
-/
import Derived.Test.YtfckggkmiegokaaDoorVxPure
set_option linter.unusedVariables false
set_option linter.unusedSimpArgs false
namespace Go.Vx
open Go
attribute [local semireducible] Vc Con PureOp ReadOp MoveOp

/-! ### What a cell holds -/
/-- In every world where G is frozen and μ is ours, the cell at a holds v. -/
def Cell (G : GH) (μ : OH) (a : Addr) (v : Value) : Prop := ∀ w, Sees G μ w → w.cell? a = some v
def GH.cell? (G : GH) (a : Addr) : Option Value :=
  match G a.block with
  | some (.cells c _ _) => if a.spot.isSome then none else c[a.off]?
  | _ => none
theorem GH.cell_le {G G' : GH} (h : GH.le G G') {a : Addr} {v : Value} (hc : GH.cell? G a = some v) : GH.cell? G' a = some v := by
  unfold GH.cell? at hc ⊢
  cases hg : G a.block with
  | none => rw [hg] at hc; cases hc
  | some o => rw [hg] at hc; rw [h _ _ hg]; exact hc
theorem Cell.frozen {G : GH} {μ : OH} {a : Addr} {v : Value} (h : GH.cell? G a = some v) : Cell G μ a v := by
  intro w hw
  unfold GH.cell? at h
  cases hg : G a.block with
  | none => rw [hg] at h; cases h
  | some o =>
    rw [hg] at h
    have := hw.g _ _ hg
    unfold World.cell?
    rw [this]
    exact h
/-- Block b is ours and holds the cells vs. -/
def Has (μ : OH) (b : Nat) (vs : List Value) (e : TypeId) : Prop := (b, Obj.cells vs.toArray e (0, 0)) ∈ μ
theorem Cell.own {G : GH} {μ : OH} {b i : Nat} {vs : List Value} {e : TypeId} {v : Value} (h : Has μ b vs e) (hv : vs[i]? = some v) : Cell G μ ⟨b, i, none⟩ v := by
  intro w hw
  have := hw.own _ _ h
  unfold World.cell?
  simp only [this]
  simpa using hv
def CellsAt (G : GH) (μ : OH) (a : Addr) (vs : List Value) : Prop := ∀ j v, vs[j]? = some v → Cell G μ (a.add j) v
theorem add_mk (b o j : Nat) : (⟨b, o, none⟩ : Addr).add j = ⟨b, o + j, none⟩ := by
  unfold Addr.add; split
  · next h => subst h; rfl
  · rfl
theorem add_add (a : Addr) (i j : Nat) : (a.add i).add j = a.add (i + j) := by
  unfold Addr.add
  by_cases hi : i = 0 <;> by_cases hj : j = 0 <;> simp [hi, hj, Nat.add_assoc]
theorem add_block (a : Addr) (n : Nat) : (a.add n).block = a.block := by unfold Addr.add; split <;> rfl
theorem CellsAt.own {G : GH} {μ : OH} {b : Nat} {vs : List Value} {e : TypeId} (h : Has μ b vs e) : CellsAt G μ ⟨b, 0, none⟩ vs := by
  intro j v hv
  rw [add_mk, Nat.zero_add]
  exact Cell.own h hv
theorem CellsAt.ownAt {G : GH} {μ : OH} {b i m : Nat} {vs : List Value} {e : TypeId} (h : Has μ b vs e) : CellsAt G μ ⟨b, i, none⟩ ((vs.drop i).take m) := by
  intro j v hv
  rw [add_mk]
  refine Cell.own h ?_
  rw [List.getElem?_take] at hv
  split at hv
  · rw [List.getElem?_drop] at hv; exact hv
  · cases hv
def CellsG (G : GH) (a : Addr) (vs : List Value) : Prop := ∀ j v, vs[j]? = some v → GH.cell? G (a.add j) = some v
theorem CellsG.le {G G' : GH} (h : GH.le G G') {a : Addr} {vs : List Value} (hc : CellsG G a vs) : CellsG G' a vs := fun j v hv => GH.cell_le h (hc j v hv)
theorem CellsAt.frozen {G : GH} {μ : OH} {a : Addr} {vs : List Value} (h : CellsG G a vs) : CellsAt G μ a vs := fun j v hv => Cell.frozen (h j v hv)
theorem CellsG.cell {G : GH} {a : Addr} {vs : List Value} (h : CellsG G a vs) {j : Nat} {v : Value} (hv : vs[j]? = some v) : GH.cell? G (a.add j) = some v := h j v hv

section
variable {P : Program} {ty : TypeId} {σ : Env} {G : GH} {μ : OH} {t : TypeId} {bytes : Nat} {zero : Value}
theorem r_load1 {x : Operand} {a : Addr} {v : Value} {sz : Nat} [Lay P t false sz bytes zero] (hx : Env.ev σ x = some (.pointer (some a))) (hc : Cell G μ a v) : ReadOp P (.load t x) ty σ G μ v := by
  intro dst pos af g ρ hρ w hw
  have h0 := hc w hw
  simp [execOp, hρ _ _ hx, Instr.loadAt, Instr.sureAddr, loadVar, run_isAgg' (P := P) (t := t) (agg := false) (size := sz) (bytes := bytes) (zero := zero), h0]
theorem r_loadN {x : Operand} {a : Addr} {vs : List Value} {sz : Nat} [Lay P t true sz bytes zero] (hx : Env.ev σ x = some (.pointer (some a))) (hc : CellsAt G μ a vs) (hn : vs.length = sz) : ReadOp P (.load t x) ty σ G μ (.agg vs.toArray) := by
  intro dst pos af g ρ hρ w hw
  subst hn
  have hl : (loadCells a vs.length).run P w = .ok vs.toArray w := run_loadCells_list w a vs (fun j v hv => hc j v hv w hw)
  simp [execOp, hρ _ _ hx, Instr.loadAt, Instr.sureAddr, loadVar, run_isAgg' (P := P) (t := t) (agg := true) (size := vs.length) (bytes := bytes) (zero := zero), run_sizeOf (P := P) (t := t) (agg := true) (size := vs.length) (bytes := bytes) (zero := zero), hl]

/-- Where field i of struct type s lies, and what type it has. -/
def fieldOff (P : Program) (s : TypeId) (i : Nat) : Option (Nat × TypeId) :=
  match P.underlying s with
  | some (.struct fs) =>
    match fs[i]? with
    | some f => match P.info? f.type with
      | some inf => if inf.size = 0 then none else some (f.offset, f.type)
      | none => none
    | none => none
  | _ => none
class Fld (P : Program) (s : TypeId) (i : Nat) (off : outParam Nat) (ft : outParam TypeId) : Prop where
  h : fieldOff P s i = some (off, ft)
theorem Fld.ex {s : TypeId} {i off : Nat} {ft : TypeId} (h : Fld P s i off ft) : ∃ fs f inf, P.underlying s = some (.struct fs) ∧ fs[i]? = some f ∧ f.offset = off ∧ f.type = ft ∧ P.info? ft = some inf ∧ inf.size ≠ 0 := by
  have h' := h.h
  unfold fieldOff at h'
  split at h'
  · rename_i fs hu
    split at h'
    · rename_i f hf
      split at h'
      · rename_i inf hi
        split at h'
        · cases h'
        · rename_i hne
          simp only [Option.some.injEq, Prod.mk.injEq] at h'
          obtain ⟨h1, h2⟩ := h'
          exact ⟨fs, f, inf, hu, hf, h1, h2, h2 ▸ hi, hne⟩
      · cases h'
    · cases h'
  · cases h'
theorem p_fieldAddr {s : TypeId} {x : Operand} {a : Addr} {i off : Nat} {ft : TypeId} [h : Fld P s i off ft] (hx : Env.ev σ x = some (.pointer (some a))) : PureOp P (.fieldAddr s x i) ty σ (.pointer (some (a.add off))) := by
  obtain ⟨fs, f, inf, hu, hf, h1, h2, h3, h4⟩ := h.ex
  subst h2
  intro dst pos af g ρ hρ w
  simp [execOp, hρ _ _ hx, Instr.fieldAt, run_underlying hu, hf, Instr.sureAddr, fieldPlace, sizeOf, typeInfo, h3, h4, h1]
theorem p_fieldAddrB {s : TypeId} {x : Operand} {b o : Nat} {i off : Nat} {ft : TypeId} [h : Fld P s i off ft] (hx : Env.ev σ x = some (.pointer (some ⟨b, o, none⟩))) : PureOp P (.fieldAddr s x i) ty σ (.pointer (some ⟨b, o + off, none⟩)) := by
  have := p_fieldAddr (P := P) (ty := ty) (s := s) (i := i) (ft := ft) hx
  rwa [add_mk] at this
theorem p_field1 {s : TypeId} {x : Operand} {vs : List Value} {v : Value} {i off sz : Nat} {ft : TypeId} [h : Fld P s i off ft] [Lay P ft false sz bytes zero] (hx : Env.ev σ x = some (.agg vs.toArray)) (hv : vs[off]? = some v) : PureOp P (.field s x i) ty σ v := by
  obtain ⟨fs, f, inf, hu, hf, h1, h2, h3, h4⟩ := h.ex
  subst h2
  intro dst pos af g ρ hρ w
  simp [execOp, hρ _ _ hx, Instr.field, run_underlying hu, hf, asAgg, part, run_isAgg' (P := P) (t := f.type) (agg := false) (size := sz) (bytes := bytes) (zero := zero), h1, hv]
theorem p_fieldN {s : TypeId} {x : Operand} {vs : List Value} {i off sz : Nat} {ft : TypeId} [h : Fld P s i off ft] [Lay P ft true sz bytes zero] (hx : Env.ev σ x = some (.agg vs.toArray)) : PureOp P (.field s x i) ty σ (.agg ((vs.drop off).take sz).toArray) := by
  obtain ⟨fs, f, inf, hu, hf, h1, h2, h3, h4⟩ := h.ex
  subst h2
  intro dst pos af g ρ hρ w
  have e : vs.toArray.extract off (off + sz) = ((vs.drop off).take sz).toArray := by
    apply Array.ext'
    simp
  simp only [execOp, hρ _ _ hx, Instr.field, run_underlying hu, hf, asAgg, part, Sem.run_bind, Result.andThen_ok, run_isAgg' (P := P) (t := f.type) (agg := true) (size := sz) (bytes := bytes) (zero := zero), run_sizeOf (P := P) (t := f.type) (agg := true) (size := sz) (bytes := bytes) (zero := zero), h1, if_true, Sem.run_pure, e]
theorem p_indexAddr {e : TypeId} {agg : Bool} {sz : Nat} {x i : Operand} {a : Addr} {l c : Nat} {k : IntKind} {m : Int} [Ty P t (.slice e)] [Lay P e agg sz bytes zero] (hx : Env.ev σ x = some (.slice (some a) l c)) (hi : Env.ev σ i = some (.int k m))
    (h0 : 0 ≤ m) (h : m < l) : PureOp P (.indexAddr t x i) ty σ (.pointer (some (a.add (m.toNat * sz)))) := by
  intro dst pos af g ρ hρ w
  simp [execOp, hρ _ _ hx, hρ _ _ hi, Instr.indexAt, asIntOf, run_under (P := P) (t := t) (d := .slice e), h0, h, run_sizeOf (P := P) (t := e) (agg := agg) (size := sz) (bytes := bytes) (zero := zero)]
theorem p_indexAddrA {e : TypeId} {agg : Bool} {sz len : Nat} {x i : Operand} {a : Addr} {k : IntKind} {m : Int} [Ty P t (.array len e)] [Lay P e agg sz bytes zero] (hx : Env.ev σ x = some (.pointer (some a))) (hi : Env.ev σ i = some (.int k m))
    (h0 : 0 ≤ m) (h : m < len) : PureOp P (.indexAddr t x i) ty σ (.pointer (some (a.add (m.toNat * sz)))) := by
  intro dst pos af g ρ hρ w
  simp [execOp, hρ _ _ hx, hρ _ _ hi, Instr.indexAt, asIntOf, Instr.sureAddr, run_under (P := P) (t := t) (d := .array len e), h0, h, run_sizeOf (P := P) (t := e) (agg := agg) (size := sz) (bytes := bytes) (zero := zero)]
theorem p_indexAddrB {e : TypeId} {agg : Bool} {sz len : Nat} {x i : Operand} {b o : Nat} {k : IntKind} {m : Int} [Ty P t (.array len e)] [Lay P e agg sz bytes zero] (hx : Env.ev σ x = some (.pointer (some ⟨b, o, none⟩))) (hi : Env.ev σ i = some (.int k m))
    (h0 : 0 ≤ m) (h : m < len) : PureOp P (.indexAddr t x i) ty σ (.pointer (some ⟨b, o + m.toNat * sz, none⟩)) := by
  have := p_indexAddrA (P := P) (ty := ty) (t := t) (e := e) hx hi h0 h
  rwa [add_mk] at this
end

/-! ### Blocks that are made, and written -/
section
variable {P : Program} {fn : Func} {n : Nat} {B : Base} {Φ : Value → GH → OH → Prop} {k : List It} {σ : Env} {G : GH} {μ : OH} {all : Array Oper} {rest : List Oper} {d : Nat} {ty : TypeId} {pos : String} {af : Array Edge}
theorem m_alloc {e : TypeId} {agg : Bool} {sz bytes : Nat} {zero : Value} {zs : List Value} [Lay P e agg sz bytes zero] (hz : zero.cells = zs.toArray) :
    MoveOp P (.alloc e) ty σ G μ (fun v G' μ' => ∃ b, v = .pointer (some ⟨b, 0, none⟩) ∧ G' = G ∧ μ' = (b, .cells zs.toArray e (0, 0)) :: μ) := by
  intro dst pos af g ρ hρ w hw a K Q hK
  have hr : (execOp ρ ⟨dst, .alloc e, ty, pos, af, g⟩).run P w = .ok (.value (.pointer (some ⟨w.heap.size, 0, none⟩))) (w.alloc (.cells zs.toArray e (0, 0))) := by
    simp [execOp, Instr.alloc, run_zeroOf (P := P) (t := e) (agg := agg) (size := sz) (bytes := bytes) (zero := zero), newVar, newRow, hz]
  rw [hr]
  exact hK _ _ _ _ (Step.alloc hw _) ⟨_, rfl, rfl, rfl⟩
theorem v_alloc {e : TypeId} {agg : Bool} {sz bytes : Nat} {zero : Value} {zs : List Value} [Lay P e agg sz bytes zero] (hz : zero.cells = zs.toArray) (hd : Nat.blt d n = true)
    (h : ∀ b, Vc P fn n B Φ (.ops all rest :: k) ((d, .pointer (some ⟨b, 0, none⟩)) :: σ) G ((b, .cells zs.toArray e (0, 0)) :: μ)) : Vc P fn n B Φ (.ops all (⟨some d, .alloc e, ty, pos, af, none⟩ :: rest) :: k) σ G μ :=
  v_move (m_alloc hz) hd fun _ _ _ ⟨b, h1, h2, h3⟩ => by rw [h1, h2, h3]; exact h b
theorem m_box {e : TypeId} {x : Operand} {v : Value} {zs : List Value} (hx : Env.ev σ x = some v) (hz : v.cells = zs.toArray) :
    MoveOp P (.box e x) ty σ G μ (fun v G' μ' => ∃ b, v = .pointer (some ⟨b, 0, none⟩) ∧ G' = G ∧ μ' = (b, .cells zs.toArray e (0, 0)) :: μ) := by
  intro dst pos af g ρ hρ w hw a K Q hK
  have hr : (execOp ρ ⟨dst, .box e x, ty, pos, af, g⟩).run P w = .ok (.value (.pointer (some ⟨w.heap.size, 0, none⟩))) (w.alloc (.cells zs.toArray e (0, 0))) := by
    simp [execOp, hρ _ _ hx, Instr.box, newVar, newRow, hz]
  rw [hr]
  exact hK _ _ _ _ (Step.alloc hw _) ⟨_, rfl, rfl, rfl⟩
theorem v_box {e : TypeId} {x : Operand} {v : Value} {zs : List Value} (hx : Env.ev σ x = some v) (hz : v.cells = zs.toArray) (hd : Nat.blt d n = true)
    (h : ∀ b, Vc P fn n B Φ (.ops all rest :: k) ((d, .pointer (some ⟨b, 0, none⟩)) :: σ) G ((b, .cells zs.toArray e (0, 0)) :: μ)) : Vc P fn n B Φ (.ops all (⟨some d, .box e x, ty, pos, af, none⟩ :: rest) :: k) σ G μ :=
  v_move (m_box hx hz) hd fun _ _ _ ⟨b, h1, h2, h3⟩ => by rw [h1, h2, h3]; exact h b

/-- vs, with us from place i on. -/
def over (vs : List Value) (i : Nat) (us : List Value) : List Value := vs.take i ++ us ++ vs.drop (i + us.length)
theorem over_length {vs us : List Value} {i : Nat} (h : i + us.length ≤ vs.length) : (over vs i us).length = vs.length := by
  simp [over]; omega
theorem over_set {vs : List Value} {i : Nat} {u : Value} (h : i < vs.length) : over vs i [u] = vs.set i u := by
  simp only [over, List.length_singleton]
  rw [List.set_eq_take_append_cons_drop, if_pos h]
  simp
theorem run_storeVar {t : TypeId} {agg : Bool} {sz bytes : Nat} {zero u : Value} {w : World} {b i : Nat} {e : TypeId} {us vs : List Value} [Lay P t agg sz bytes zero] (hc : u.cells = us.toArray) (hsz : us.length = sz) (h1 : us.all Value.oneCell' = true)
    (hg : w.heap[b]? = some (.cells vs.toArray e (0, 0))) (hfit : i + us.length ≤ vs.length) : (storeVar t ⟨b, i, none⟩ u).run P w = .ok () (w.setRow b (over vs i us).toArray) := by
  subst hsz
  have hst := run_storeCells_at P b i e us 0 vs.toArray w hg (by simpa using hfit) (fun v hv => by have := List.all_eq_true.1 h1 v hv; simpa using this)
  simp only [Nat.add_zero] at hst
  simp only [storeVar, hc, Sem.run_bind, run_sizeOf (P := P) (t := t) (agg := agg) (size := us.length) (bytes := bytes) (zero := zero), Result.andThen_ok, List.size_toArray, ne_eq, not_true_eq_false, if_false]
  simpa [over] using hst
theorem Step.row {μ' : OH} {w : World} {b : Nat} {e : TypeId} {vs vs' : List Value} (hw : Mem G μ w) (hb : Has μ b vs e) (hu : Upd b (.cells vs'.toArray e (0, 0)) μ μ') : Step G μ w G μ' (w.setRow b vs'.toArray) :=
  Step.upd hw hu rfl rfl rfl (by simp) (setRow_heap w b _ _ e _ (hw.own _ _ hb)) (fun c hc => setRow_other w b c _ hc)
theorem m_store {t : TypeId} {agg : Bool} {sz bytes : Nat} {zero u : Value} {p x : Operand} {b i : Nat} {e : TypeId} {us vs vs' : List Value} {μ' : OH} [Lay P t agg sz bytes zero] (hp : Env.ev σ p = some (.pointer (some ⟨b, i, none⟩))) (hx : Env.ev σ x = some u)
    (hc : u.cells = us.toArray) (hsz : us.length = sz) (h1 : us.all Value.oneCell' = true) (hb : Has μ b vs e) (hfit : i + us.length ≤ vs.length) (hov : over vs i us = vs') (hu : Upd b (.cells vs'.toArray e (0, 0)) μ μ') :
    MoveOp P (.store t p x) ty σ G μ (fun _ G' μ'' => G' = G ∧ μ'' = μ') := by
  intro dst pos af g ρ hρ w hw a K Q hK
  have hr : (execOp ρ ⟨dst, .store t p x, ty, pos, af, g⟩).run P w = .ok .skip (w.setRow b vs'.toArray) := by
    have := run_storeVar (P := P) (t := t) (agg := agg) (bytes := bytes) (zero := zero) hc hsz h1 (hw.own _ _ hb) hfit
    rw [hov] at this
    simp [execOp, hρ _ _ hp, hρ _ _ hx, Instr.storeAt, Instr.sureAddr, this]
  rw [hr]
  exact hK _ _ _ _ (Step.row hw hb hu) ⟨rfl, rfl⟩
theorem v_store {t : TypeId} {agg : Bool} {sz bytes : Nat} {zero u : Value} {p x : Operand} {b i : Nat} {e : TypeId} {us vs vs' : List Value} {μ' : OH} [Lay P t agg sz bytes zero] (hp : Env.ev σ p = some (.pointer (some ⟨b, i, none⟩))) (hx : Env.ev σ x = some u)
    (hc : u.cells = us.toArray) (hsz : us.length = sz) (h1 : us.all Value.oneCell' = true) (hb : Has μ b vs e) (hfit : i + us.length ≤ vs.length) (hov : over vs i us = vs') (hu : Upd b (.cells vs'.toArray e (0, 0)) μ μ')
    (h : Vc P fn n B Φ (.ops all rest :: k) σ G μ') : Vc P fn n B Φ (.ops all (⟨none, .store t p x, ty, pos, af, none⟩ :: rest) :: k) σ G μ :=
  v_move0 (m_store hp hx hc hsz h1 hb hfit hov hu) fun _ _ _ ⟨h1, h2⟩ => by rw [h1, h2]; exact h

/-! ### Calls -/
class Callable (P : Program) (f : FuncId) : Prop where
  h : ∀ args w, (callFunc f args).run P w = .ok (.enter f args) w
theorem callable_of {f : FuncId} {fn : Func} (hf : P.funcs[f]? = some fn) (hn : (fn.name == "runtime.NumGoroutine") = false) (hb : fn.body.isNone = false) : Callable P f :=
  ⟨fun args w => by
    have hn' : ¬ fn.name = "runtime.NumGoroutine" := by simpa using hn
    have hb' : ¬ fn.body = none := by intro e; rw [e] at hb; cases hb
    simp [callFunc, hf, hn', hb']⟩
theorem agree_evs {σ : Env} {ρ : Operand → Value} (hρ : Agree σ ρ) : ∀ {xs : List Operand} {us : List Value}, Env.evs σ xs = some us → xs.map ρ = us
  | [], us, h => by simpa [Env.evs] using h
  | x :: xs, us, h => by
    simp only [Env.evs] at h
    cases h1 : Env.ev σ x with
    | none => simp [h1] at h
    | some v =>
      cases h2 : Env.evs σ xs with
      | none => simp [h1, h2] at h
      | some us' => simp only [h1, h2, Option.bind_some, Option.map_some, Option.some.injEq] at h; subst h; simp [hρ _ _ h1, agree_evs hρ h2]
/-- A call's steps, whatever the way to the callee. -/
theorem m_enter {op : Op} {f : FuncId} {args : Array Value} {μ1 μ2 : OH} {Ψ : Value → GH → OH → Prop} (hs : Con P f args G μ1 Ψ) (hp : μ.Perm (μ1 ++ μ2))
    (hr : ∀ dst pos af g ρ, Agree σ ρ → ∀ w, (execOp ρ ⟨dst, op, ty, pos, af, g⟩).run P w = .ok (.enter f args) w) :
    MoveOp P op ty σ G μ (fun v G' μ' => ∃ μ1', GH.le G G' ∧ Ψ v G' μ1' ∧ μ' = μ1' ++ μ2) := by
  intro dst pos af g ρ hρ w hw a K Q hK
  rw [hr dst pos af g ρ hρ w]
  have hw' := hw.perm hp
  refine Calls.mono (hs w hw'.split.1) ?_
  rintro e w' ⟨v, rfl, G', μ1', hst, hΨ⟩
  exact hK v w' G' (μ1' ++ μ2) ((hst.frame hw').permL hp.symm) ⟨μ1', hst.le, hΨ, rfl⟩
theorem run_callF {f : FuncId} [hc : Callable P f] {args : List Operand} {ts : Array TypeId} {vs : List Value} (ha : Env.evs σ args = some vs) :
    ∀ dst pos af g ρ, Agree σ ρ → ∀ w, (execOp ρ ⟨dst, .call { callee := .value (.func f), args := args.toArray, argTypes := ts }, ty, pos, af, g⟩).run P w = .ok (.enter f vs.toArray) w := by
  intro dst pos af g ρ hρ w
  have hf : ρ (.func f) = .func (.func f) #[] #[] := hρ _ _ rfl
  simp [execOp, resolve, hf, Deferred.ofValue, invoke, agree_evs hρ ha, hc.h]
theorem run_callC {x : Operand} {f : FuncId} [hc : Callable P f] {first captured : List Value} {args : List Operand} {ts : Array TypeId} {vs : List Value} (hx : Env.ev σ x = some (.func (.func f) first.toArray captured.toArray)) (ha : Env.evs σ args = some vs) :
    ∀ dst pos af g ρ, Agree σ ρ → ∀ w, (execOp ρ ⟨dst, .call { callee := .value x, args := args.toArray, argTypes := ts }, ty, pos, af, g⟩).run P w = .ok (.enter f (first ++ vs ++ captured).toArray) w := by
  intro dst pos af g ρ hρ w
  simp [execOp, resolve, hρ _ _ hx, Deferred.ofValue, invoke, agree_evs hρ ha, hc.h]
/-- A call of a function by its name: μ1 is what it is given of ours. -/
theorem v_call {f : FuncId} [Callable P f] {args : List Operand} {ts : Array TypeId} {vs : List Value} {μ1 μ2 : OH} {Ψ : Value → GH → OH → Prop} (ha : Env.evs σ args = some vs) (hs : Con P f vs.toArray G μ1 Ψ) (hp : μ.Perm (μ1 ++ μ2)) (hd : Nat.blt d n = true)
    (h : ∀ v G' μ1', GH.le G G' → Ψ v G' μ1' → Vc P fn n B Φ (.ops all rest :: k) ((d, v) :: σ) G' (μ1' ++ μ2)) :
    Vc P fn n B Φ (.ops all (⟨some d, .call { callee := .value (.func f), args := args.toArray, argTypes := ts }, ty, pos, af, none⟩ :: rest) :: k) σ G μ :=
  v_move (m_enter hs hp (run_callF ha)) hd fun _ _ _ ⟨_, hle, h1, h2⟩ => by rw [h2]; exact h _ _ _ hle h1
theorem v_callC {x : Operand} {f : FuncId} [Callable P f] {first captured : List Value} {args : List Operand} {ts : Array TypeId} {vs : List Value} {μ1 μ2 : OH} {Ψ : Value → GH → OH → Prop} (hx : Env.ev σ x = some (.func (.func f) first.toArray captured.toArray)) (ha : Env.evs σ args = some vs) (hs : Con P f (first ++ vs ++ captured).toArray G μ1 Ψ) (hp : μ.Perm (μ1 ++ μ2)) (hd : Nat.blt d n = true)
    (h : ∀ v G' μ1', GH.le G G' → Ψ v G' μ1' → Vc P fn n B Φ (.ops all rest :: k) ((d, v) :: σ) G' (μ1' ++ μ2)) :
    Vc P fn n B Φ (.ops all (⟨some d, .call { callee := .value x, args := args.toArray, argTypes := ts }, ty, pos, af, none⟩ :: rest) :: k) σ G μ :=
  v_move (m_enter hs hp (run_callC hx ha)) hd fun _ _ _ ⟨_, hle, h1, h2⟩ => by rw [h2]; exact h _ _ _ hle h1
/-- It returns v, and that is all. -/
def Just (v : Value) (G : GH) (u : Value) (G' : GH) (μ' : OH) : Prop := u = v ∧ G' = G ∧ μ' = []
/-- What hangs on no memory that is ours, and gives none back: a value alone. -/
theorem v_callJ {f : FuncId} [Callable P f] {args : List Operand} {ts : Array TypeId} {vs : List Value} {v : Value} (ha : Env.evs σ args = some vs) (hs : Con P f vs.toArray G [] (Just v G)) (hd : Nat.blt d n = true)
    (h : Vc P fn n B Φ (.ops all rest :: k) ((d, v) :: σ) G μ) :
    Vc P fn n B Φ (.ops all (⟨some d, .call { callee := .value (.func f), args := args.toArray, argTypes := ts }, ty, pos, af, none⟩ :: rest) :: k) σ G μ :=
  v_call (μ1 := []) (μ2 := μ) ha hs (List.Perm.refl _) hd fun _ _ _ _ ⟨h1, h2, h3⟩ => by rw [h1, h2, h3]; exact h
theorem v_callCJ {x : Operand} {f : FuncId} [Callable P f] {first captured : List Value} {args : List Operand} {ts : Array TypeId} {vs : List Value} {v : Value} (hx : Env.ev σ x = some (.func (.func f) first.toArray captured.toArray)) (ha : Env.evs σ args = some vs) (hs : Con P f (first ++ vs ++ captured).toArray G [] (Just v G)) (hd : Nat.blt d n = true)
    (h : Vc P fn n B Φ (.ops all rest :: k) ((d, v) :: σ) G μ) :
    Vc P fn n B Φ (.ops all (⟨some d, .call { callee := .value x, args := args.toArray, argTypes := ts }, ty, pos, af, none⟩ :: rest) :: k) σ G μ :=
  v_callC (μ1 := []) (μ2 := μ) hx ha hs (List.Perm.refl _) hd fun _ _ _ _ ⟨h1, h2, h3⟩ => by rw [h1, h2, h3]; exact h
/-- It returns v and leaves all as it was. -/
def Keeps (v : Value) (G : GH) (μ : OH) (u : Value) (G' : GH) (μ' : OH) : Prop := u = v ∧ G' = G ∧ μ' = μ
theorem v_callK {f : FuncId} [Callable P f] {args : List Operand} {ts : Array TypeId} {vs : List Value} {v : Value} {μ1 μ2 : OH} (ha : Env.evs σ args = some vs) (hs : Con P f vs.toArray G μ1 (Keeps v G μ1)) (hp : μ.Perm (μ1 ++ μ2)) (hd : Nat.blt d n = true)
    (h : Vc P fn n B Φ (.ops all rest :: k) ((d, v) :: σ) G μ) :
    Vc P fn n B Φ (.ops all (⟨some d, .call { callee := .value (.func f), args := args.toArray, argTypes := ts }, ty, pos, af, none⟩ :: rest) :: k) σ G μ :=
  v_call ha hs hp hd fun _ _ _ _ ⟨h1, h2, h3⟩ => by rw [h1, h2, h3]; exact v_perm hp.symm h
theorem v_callCK {x : Operand} {f : FuncId} [Callable P f] {first captured : List Value} {args : List Operand} {ts : Array TypeId} {vs : List Value} {v : Value} {μ1 μ2 : OH} (hx : Env.ev σ x = some (.func (.func f) first.toArray captured.toArray)) (ha : Env.evs σ args = some vs) (hs : Con P f (first ++ vs ++ captured).toArray G μ1 (Keeps v G μ1)) (hp : μ.Perm (μ1 ++ μ2)) (hd : Nat.blt d n = true)
    (h : Vc P fn n B Φ (.ops all rest :: k) ((d, v) :: σ) G μ) :
    Vc P fn n B Φ (.ops all (⟨some d, .call { callee := .value x, args := args.toArray, argTypes := ts }, ty, pos, af, none⟩ :: rest) :: k) σ G μ :=
  v_callC hx ha hs hp hd fun _ _ _ _ ⟨h1, h2, h3⟩ => by rw [h1, h2, h3]; exact v_perm hp.symm h
/-- As a move that leaves all as it was. -/
theorem m_keep {op : Op} {f : FuncId} {args : Array Value} {μ1 μ2 : OH} {v : Value} (hs : Con P f args G μ1 (Keeps v G μ1)) (hp : μ.Perm (μ1 ++ μ2))
    (hr : ∀ dst pos af g ρ, Agree σ ρ → ∀ w, (execOp ρ ⟨dst, op, ty, pos, af, g⟩).run P w = .ok (.enter f args) w) :
    MoveOp P op ty σ G μ (fun u G' μ' => u = v ∧ G' = G ∧ μ' = μ) := by
  intro dst pos af g ρ hρ w hw a K Q hK
  rw [hr dst pos af g ρ hρ w]
  have hw' := hw.perm hp
  refine Calls.mono (hs w hw'.split.1) ?_
  rintro e w' ⟨u, rfl, G', μ1', hst, h1, h2, h3⟩
  subst h1; subst h2; subst h3
  exact hK _ w' _ μ (((hst.frame hw').permL hp.symm).perm hp.symm) ⟨rfl, rfl, rfl⟩
theorem m_callFK {f : FuncId} [Callable P f] {args : List Operand} {ts : Array TypeId} {vs : List Value} {v : Value} {μ1 μ2 : OH} (ha : Env.evs σ args = some vs) (hs : Con P f vs.toArray G μ1 (Keeps v G μ1)) (hp : μ.Perm (μ1 ++ μ2)) :
    MoveOp P (.call { callee := .value (.func f), args := args.toArray, argTypes := ts }) ty σ G μ (fun u G' μ' => u = v ∧ G' = G ∧ μ' = μ) := m_keep hs hp (run_callF ha)
theorem m_callFJ {f : FuncId} [Callable P f] {args : List Operand} {ts : Array TypeId} {vs : List Value} {v : Value} (ha : Env.evs σ args = some vs) (hs : Con P f vs.toArray G [] (Just v G)) :
    MoveOp P (.call { callee := .value (.func f), args := args.toArray, argTypes := ts }) ty σ G μ (fun u G' μ' => u = v ∧ G' = G ∧ μ' = μ) := m_keep (μ1 := []) (μ2 := μ) hs (List.Perm.refl _) (run_callF ha)
theorem m_callCK {x : Operand} {f : FuncId} [Callable P f] {first captured : List Value} {args : List Operand} {ts : Array TypeId} {vs : List Value} {v : Value} {μ1 μ2 : OH} (hx : Env.ev σ x = some (.func (.func f) first.toArray captured.toArray)) (ha : Env.evs σ args = some vs) (hs : Con P f (first ++ vs ++ captured).toArray G μ1 (Keeps v G μ1)) (hp : μ.Perm (μ1 ++ μ2)) :
    MoveOp P (.call { callee := .value x, args := args.toArray, argTypes := ts }) ty σ G μ (fun u G' μ' => u = v ∧ G' = G ∧ μ' = μ) := m_keep hs hp (run_callC hx ha)
theorem m_callF {f : FuncId} [Callable P f] {args : List Operand} {ts : Array TypeId} {vs : List Value} {μ1 μ2 : OH} {Ψ : Value → GH → OH → Prop} (ha : Env.evs σ args = some vs) (hs : Con P f vs.toArray G μ1 Ψ) (hp : μ.Perm (μ1 ++ μ2)) :
    MoveOp P (.call { callee := .value (.func f), args := args.toArray, argTypes := ts }) ty σ G μ (fun v G' μ' => ∃ μ1', GH.le G G' ∧ Ψ v G' μ1' ∧ μ' = μ1' ++ μ2) := m_enter hs hp (run_callF ha)
/-- One block of ours, out of the list. -/
inductive Pick (e : Nat × Obj) : OH → OH → Prop
  | here (μ : OH) : Pick e (e :: μ) μ
  | there (x : Nat × Obj) {μ ν : OH} (h : Pick e μ ν) : Pick e (x :: μ) (x :: ν)
theorem Pick.app {e : Nat × Obj} {μ μ' : OH} (ν : OH) (h : Pick e μ μ') : Pick e (ν ++ μ) (ν ++ μ') := by
  induction ν with
  | nil => exact h
  | cons x ν ih => exact .there x ih
theorem Pick.perm {e : Nat × Obj} {μ ν : OH} (h : Pick e μ ν) : μ.Perm ([e] ++ ν) := by
  induction h with
  | here μ => exact List.Perm.refl _
  | there x h ih => exact (List.Perm.cons x ih).trans (List.Perm.swap e x _)
end
end Go.Vx
