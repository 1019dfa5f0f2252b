/-
  VX, STRUCTS: two of them, held against each other; results that lie in memory.
-/
import Derived.Test.YtfckggkmiegokaaDoorVxText
import Derived.Laws.StructEq
set_option linter.unusedVariables false
set_option linter.unusedSimpArgs false
namespace Go.Vx
open Go
attribute [local semireducible] Vc Con PureOp ReadOp MoveOp
/-- The fields of struct type t, and that its values are held against each other field by field. -/
class EqS (P : Program) (t : TypeId) (fl : outParam (List Field)) : Prop where
  ht : P.underlying t = some (.struct (P.fieldsOf t))
  hp : P.stoodInHeld t = false
  hm : P.eqGuardType P.depth t = false
  hf : (P.fieldsOf t).toList = fl
def FEq (P : Program) (d : Nat) (xs ys : List Value) (fs : List Field) (b : Bool) : Prop := ∀ w, (Op.eqFields d xs.toArray ys.toArray fs).run P w = .ok b w
section
variable {P : Program} {d : Nat} {xs ys : List Value} {rest : List Field} {r : Bool} {nm tg pk : String} {ft off bo : Nat} {em : Bool} {bytes sz : Nat} {zero : Value}
theorem feq_nil : FEq P d xs ys [] true := fun w => by simp [Op.eqFields]
theorem feq_one {u v : Value} {q : Bool} [Lay P ft false sz bytes zero] (hn : (nm == "_") = false) (hx : xs[off]? = some u) (hy : ys[off]? = some v) (he : EqIs P d ft u v q) (h : FEq P d xs ys rest r) : FEq P d xs ys (⟨nm, ft, off, em, tg, pk, bo⟩ :: rest) (q && r) := by
  intro w
  have hn' : ¬ nm = "_" := by simpa using hn
  have hl := run_isAgg' (P := P) (t := ft) (agg := false) (size := sz) (bytes := bytes) (zero := zero)
  have h1 : (part ft xs.toArray off).run P w = .ok u w := by simp [part, hl, hx]
  have h2 : (part ft ys.toArray off).run P w = .ok v w := by simp [part, hl, hy]
  have h3 := he w
  have h4 := h w
  cases q <;> simp [Op.eqFields, hn', h1, h2, h3, h4]
theorem feq_int {k k' : IntKind} {a b : Int} [Ty P ft (.int k')] [Lay P ft false sz bytes zero] (hn : (nm == "_") = false) (hx : xs[off]? = some (.int k a)) (hy : ys[off]? = some (.int k b)) (h : FEq P (d + 1) xs ys rest r) : FEq P (d + 1) xs ys (⟨nm, ft, off, em, tg, pk, bo⟩ :: rest) (dec (a = b) && r) :=
  feq_one (bytes := bytes) (zero := zero) (sz := sz) hn hx hy (by have := eqIs_int (P := P) (t := ft) (k' := k') d k a b; rwa [← dec_eq] at this) h
theorem feq_str {a b : ByteArray} [Ty P ft .string] [Lay P ft false sz bytes zero] (hn : (nm == "_") = false) (hx : xs[off]? = some (.string a)) (hy : ys[off]? = some (.string b)) (h : FEq P (d + 1) xs ys rest r) : FEq P (d + 1) xs ys (⟨nm, ft, off, em, tg, pk, bo⟩ :: rest) (dec (a = b) && r) :=
  feq_one (bytes := bytes) (zero := zero) (sz := sz) hn hx hy (by have := eqIs_string (P := P) (t := ft) d a b; rwa [← dec_eq] at this) h
theorem feq_agg {us vs : List Value} {fl : List Field} {q : Bool} [Lay P ft true sz bytes zero] [hE : EqS P ft fl] (hn : (nm == "_") = false) (hx : (xs.drop off).take sz = us) (hy : (ys.drop off).take sz = vs) (he : FEq P d us vs fl q) (h : FEq P (d + 1) xs ys rest r) : FEq P (d + 1) xs ys (⟨nm, ft, off, em, tg, pk, bo⟩ :: rest) (q && r) := by
  intro w
  subst hx; subst hy
  have hn' : ¬ nm = "_" := by simpa using hn
  have hl := run_isAgg' (P := P) (t := ft) (agg := true) (size := sz) (bytes := bytes) (zero := zero)
  have hz := run_sizeOf (P := P) (t := ft) (agg := true) (size := sz) (bytes := bytes) (zero := zero)
  have e : ∀ zs : List Value, zs.toArray.extract off (off + sz) = ((zs.drop off).take sz).toArray := fun zs => by
    apply Array.ext'
    simp
  have h1 : (part ft xs.toArray off).run P w = .ok (.agg ((xs.drop off).take sz).toArray) w := by simp only [part, Sem.run_bind, hl, Result.andThen_ok, if_true, hz, e, Sem.run_pure]
  have h2 : (part ft ys.toArray off).run P w = .ok (.agg ((ys.drop off).take sz).toArray) w := by simp only [part, Sem.run_bind, hl, Result.andThen_ok, if_true, hz, e, Sem.run_pure]
  have h3 : (Op.equalIn (d + 1) ft (.agg ((xs.drop off).take sz).toArray) (.agg ((ys.drop off).take sz).toArray)).run P w = .ok q w := by
    rw [run_equalIn_agg (P := P) w d ft _ _ hE.ht hE.hp, hE.hf]; exact he w
  have h4 := h w
  simp only [Op.eqFields, hn', ne_eq, not_false_iff, if_true, Sem.run_bind, h1, h2, h3, Result.andThen_ok]
  cases q <;> simp [h4]
end
section
variable {P : Program} {ty : TypeId} {σ : Env} {t : TypeId}
theorem p_eqStruct {x y : Operand} {xs ys : List Value} {fl : List Field} {b : Bool} {t' : TypeId} [hE : EqS P t fl] (hx : Env.ev σ x = some (.agg xs.toArray)) (hy : Env.ev σ y = some (.agg ys.toArray)) (he : FEq P 9999 xs ys fl b) : PureOp P (.binOp .eql t x y t') ty σ (.bool b) :=
  p_eqV hx hy fun w => by
    rw [Sem.run_bind, run_eqGuard_agg (P := P) w .eql t x y _ _ hE.hm, Result.andThen_ok, run_eql_struct (P := P) w, run_equalIn_agg (P := P) w 9999 t _ _ hE.ht hE.hp, hE.hf, he w, Result.andThen_ok]
theorem p_neStruct {x y : Operand} {xs ys : List Value} {fl : List Field} {b : Bool} {t' : TypeId} [hE : EqS P t fl] (hx : Env.ev σ x = some (.agg xs.toArray)) (hy : Env.ev σ y = some (.agg ys.toArray)) (he : FEq P 9999 xs ys fl b) : PureOp P (.binOp .neq t x y t') ty σ (.bool (!b)) :=
  p_neV hx hy fun w => by
    rw [Sem.run_bind, run_eqGuard_agg (P := P) w .neq t x y _ _ hE.hm, Result.andThen_ok, run_neq_struct (P := P) w, run_equalIn_agg (P := P) w 9999 t _ _ hE.ht hE.hp, hE.hf, he w, Result.andThen_ok]
end
/-! ### Results that lie in memory -/
section
variable {P : Program} {fn : Func} {n : Nat} {B : Base} {Φ : Value → GH → OH → Prop} {k : List It} {σ : Env} {G : GH} {μ : OH} {t : TypeId} {bytes : Nat} {zero : Value}
def OutsM (P : Program) (fn : Func) (n : Nat) (σ : Env) (G : GH) (μ : OH) (v : Value) : Prop := ∀ w, Sees G μ w → Outs P fn n σ w v
theorem v_retM {v : Value} (ν : OH) (ho : OutsM P fn n σ G μ v) (hs : List.Sublist ν μ) (h : Φ v G ν) : Vc P fn n B Φ (.code .ret :: k) σ G μ :=
  fun w hw => run_ret (ho w hw.mem.sees) ⟨G, ν, hw.drop hs, h⟩
theorem outsM_cell {a b : Nat} {sz : Nat} {vs : List Value} {e : TypeId} [Lay P t true sz bytes zero] (hr : fn.results = #[.cell a t]) (ha : Env.get σ a = some (.pointer (some ⟨b, 0, none⟩))) (hb : Has μ b vs e) (hl : vs.length = sz) : OutsM P fn n σ G μ (.agg vs.toArray) := by
  intro w hw a' ha'
  subst hl
  have h1 := ha'.get _ _ ha
  have h3 : (loadCells ⟨b, 0, none⟩ vs.length).run P w = .ok vs.toArray w := run_loadCells_list w _ vs (fun j v hv => CellsAt.own hb j v hv w hw)
  simp only [Array.getD_eq_getD_getElem?] at h1
  simp [results, hr, h1, asAddr, loadVar, run_isAgg' (P := P) (t := t) (agg := true) (size := vs.length) (bytes := bytes) (zero := zero), run_sizeOf (P := P) (t := t) (agg := true) (size := vs.length) (bytes := bytes) (zero := zero), h3]
theorem outsM_cell_tmp {a b u : Nat} {sz : Nat} {vs : List Value} {e : TypeId} {x : Value} [Lay P t true sz bytes zero] (hr : fn.results = #[.cell a t, .tmp u]) (ha : Env.get σ a = some (.pointer (some ⟨b, 0, none⟩))) (hu : Env.get σ u = some x) (hb : Has μ b vs e) (hl : vs.length = sz) : OutsM P fn n σ G μ (.tuple [.agg vs.toArray, x].toArray) := by
  intro w hw a' ha'
  subst hl
  have h1 := ha'.get _ _ ha
  have h2 := ha'.get _ _ hu
  have h3 : (loadCells ⟨b, 0, none⟩ vs.length).run P w = .ok vs.toArray w := run_loadCells_list w _ vs (fun j v hv => CellsAt.own hb j v hv w hw)
  simp only [Array.getD_eq_getD_getElem?] at h1 h2
  simp [results, hr, h1, h2, asAddr, loadVar, run_isAgg' (P := P) (t := t) (agg := true) (size := vs.length) (bytes := bytes) (zero := zero), run_sizeOf (P := P) (t := t) (agg := true) (size := vs.length) (bytes := bytes) (zero := zero), h3]
end
end Go.Vx
