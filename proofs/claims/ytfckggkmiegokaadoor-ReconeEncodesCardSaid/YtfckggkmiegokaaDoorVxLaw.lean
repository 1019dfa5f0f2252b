/-
  VX, FROM A LAW's CONTRACT TO THE ROW's STEP.
-/
import Derived.Test.YtfckggkmiegokaaDoorVxStruct
import Derived.Deep.Slices
import Derived.ProofKit
import Derived.OpenShut
import Derived.ShutString
import Derived.ChangeOld
import Derived.Below
set_option linter.unusedVariables false
set_option linter.unusedSimpArgs false
namespace Go.Vx
open Go Go.ChangeShapes Go.WideShapes Go.ChangeAt Go.RowKit Go.Deep
attribute [local semireducible] Vc Con
/-- All that is there when the call begins. -/
def ghost (W : World) : GH := fun b => W.heap[b]?
theorem mem_ghost (W : World) : Mem (ghost W) [] W := ⟨fun _ _ h => h, fun _ _ h => (by cases h), List.nodup_nil, fun _ _ h => (by cases h)⟩
theorem Step.below {G G' : GH} {μ' : OH} {W W' : World} (h : Step G [] W G' μ' W') : Below W.heap.size W W' :=
  ⟨h.os, h.tape, h.output, h.size, fun k hk => h.same k hk (fun o ho => by cases ho)⟩
/-- What a law's walk shows. -/
def LawCon (P : Program) (f : FuncId) (args : Array Value) (W : World) : Prop := Con P f args (ghost W) [] (fun v _ _ => v = .bool true)
theorem LawCon.calls {P : Program} {f : FuncId} {args : Array Value} {W : World} (h : LawCon P f args W) : Calls P f args W fun e W' => e = .returned (.bool true) ∧ Below W.heap.size W W' :=
  Calls.mono (h W (mem_ghost W)) fun _ _ ⟨_, he, _, _, hs, hv⟩ => ⟨by rw [he, hv], hs.below⟩
theorem trodAll_below {H : Type} {enc : TypeId × Value → H} {P : Program} (hl : laidOutB P = true) : ∀ {ts : List TypeId} {vs : List Value} {ds : List (DataW H)} {ps : List MemPlace} {W W' : World},
    (ts.all fun t => P.readableRec t && decide (t < P.types.size)) = true → DataW.TrodAll enc P W 0 (fun _ => true) true ts vs ds ps → Below W.heap.size W W' →
    DataW.TrodAll enc P W' 0 (fun b => decide (b < W.heap.size)) true ts vs ds ps := by
  intro ts
  induction ts with
  | nil =>
    intro vs ds ps W W' _ h _
    obtain ⟨rfl, rfl, rfl⟩ := trodAll_nil h
    exact trodAll_mk0
  | cons t ts ih =>
    intro vs ds ps W W' ht h hb
    simp only [List.all_cons, Bool.and_eq_true, decide_eq_true_eq] at ht
    cases vs with
    | nil => cases ds <;> simp [DataW.TrodAll] at h
    | cons v vs =>
      obtain ⟨v', vs', d, ds', p, q, hv, rfl, rfl, h0, hr⟩ := trodAll_cons h
      cases hv
      have hlt : ∀ x ∈ p, x.block < W.heap.size := by obtain ⟨m, hm⟩ := h0; exact DataW.trod_lt m _ _ _ hm
      exact trodAll_cons_mk (Below.trod hl ht.1.1 ht.1.2 h0 hb hlt) (ih (by simpa using ht.2) hr hb)
/-- The spec of a law: true, and every argument reads as it did. -/
def LawSpec (s : ChangeSpec) (n : Nat) : Prop := s.vars = [] ∧ ∀ (H : Type) (ds : List (DataW H)), ds.length = n → s.fn H ds = { results := [.lit (.bool true)], args := ds }
theorem trodAll_len {H : Type} {enc : TypeId × Value → H} {P : Program} {W : World} {sp : Nat → Bool} {hd : Bool} {b : Nat} : ∀ {ts : List TypeId} {vs : List Value} {ds : List (DataW H)} {ps : List MemPlace}, DataW.TrodAll enc P W b sp hd ts vs ds ps → ds.length = ts.length
  | [], _, _, _, h => by obtain ⟨_, rfl, _⟩ := trodAll_nil h; rfl
  | t :: ts, vs, ds, ps, h => by
    cases vs with
    | nil => cases ds <;> simp [DataW.TrodAll] at h
    | cons v vs =>
      obtain ⟨v', vs', d, ds', p, q, hv, rfl, rfl, h0, hr⟩ := trodAll_cons h
      cases hv
      simp [trodAll_len hr]
theorem law_post {H : Type} {enc : TypeId × Value → H} {P : Program} {f : FuncId} {fn : Func} {s : ChangeSpec} {T : TypeId} {n : Nat} (hl : laidOutB P = true) (hT : P.underlying T = some .bool) (hr : fn.resultTypes = #[T]) (hs : LawSpec s n) (hn : fn.params.size = n)
    (hts : (fn.params.toList.all fun t => P.readableRec t && decide (t < P.types.size)) = true) {W : World} {args : Array Value} {ds gs : List (DataW H)} {before : List MemPlace} (hW : DataW.Whole enc P fn.params.toList s.vars false W args.toList ds gs before) (hc : LawCon P f args W) :
    Calls P f args W fun e W' => ∃ v, e = .returned v ∧ ChangeSpec.post enc P fn s false true false false W args v W' := by
  refine hc.calls.mono fun e W' ⟨he, hb⟩ => ⟨_, he, ?_⟩
  have hW' := hW
  obtain ⟨p, q, hA, hV, rfl, _, _⟩ := hW
  obtain ⟨h1, h2⟩ := hs
  rw [h1] at hV
  obtain ⟨rfl, rfl⟩ := trodVars_none hV
  have hlen : ds.length = n := by rw [trodAll_len hA]; simpa using hn
  have hfn := h2 H ds hlen
  refine ⟨ds, [], p ++ [], [], p, [], hW', ?_, ?_, ?_, hb.frame _, fun h => by cases h⟩
  · rw [List.append_nil, hfn, hr]
    exact trodAll_mk1 (shut_bool hT _)
  · rw [List.append_nil, hfn]
    exact trodAll_below hl hts hA hb
  · rw [List.append_nil, hfn, h1]
    rfl
/-! ### What came in, as the walk wants it -/
section
variable {H : Type} {enc : TypeId × Value → H} {P : Program} {W : World} {base : Nat} {t : TypeId} {v : Value} {d : DataW H} {p : List MemPlace}
/-- Whatever can be read as type t lies in cells that R holds against some α. -/
def Elem {α : Type} (enc : TypeId × Value → H) (P : Program) (W : World) (t : TypeId) (R : α → List Value → Prop) : Prop :=
  ∀ fuel cs x, DataW.trod enc P W 0 (fun _ => true) true fuel t cs = some x → ∃ y, R y cs
def BoolR (x : Bool) (cs : List Value) : Prop := cs = [.bool x]
def StrR (x : ByteArray) (cs : List Value) : Prop := cs = [.string x] ∧ x.size ≤ maxLen
theorem el_int {k : IntKind} (hT : P.underlying t = some (.int k)) : Elem enc P W t (IntR k) := fun _ _ _ h => by
  obtain ⟨n, h1, _, h2⟩ := DataW.trod_int hT h
  exact ⟨n, h1, h2⟩
theorem el_bool (hT : P.underlying t = some .bool) : Elem enc P W t BoolR := fun _ _ _ h => by
  obtain ⟨n, h1, _⟩ := DataW.trod_bool hT h
  exact ⟨n, h1⟩
theorem el_string (hT : P.underlying t = some .string) : Elem enc P W t StrR := fun _ _ _ h => by
  obtain ⟨n, h1, _, h2⟩ := DataW.trod_string hT h
  exact ⟨n, h1, h2⟩
/-- A slice, in a cell. -/
def SlR {α : Type} (G : GH) (sz : Nat) (R : α → List Value → Prop) (l : List α) (cs : List Value) : Prop := ∃ v, cs = [v] ∧ Sl G sz R v l
theorem ghost_cell {a : Addr} : GH.cell? (ghost W) a = W.cell? a := rfl
theorem el_slice {α : Type} {e : TypeId} {R : α → List Value → Prop} {sz : Nat} (hT : P.underlying t = some (.slice e)) (hsz : P.cellsOf e = sz) (hR : Elem enc P W e R) : Elem enc P W t (SlR (ghost W) sz R) := fun fuel cs x h => by
  subst hsz
  rcases open_slice hT h with ⟨rfl, _⟩ | ⟨a, len, cap, m, n, D, Pl, rfl, hb, hl, hm, hmm, hx, hi⟩
  · exact ⟨[], _, rfl, Sl.nil⟩
  · simp only [if_true] at hmm
    subst hmm
    have key : ∀ i, i < m → ∃ y cs', cs'.length = P.cellsOf e ∧ R y cs' ∧ CellsG (ghost W) (a.add (i * P.cellsOf e)) cs' := by
      intro i hlt
      obtain ⟨cs', hc, ht⟩ := hi i hlt
      obtain ⟨y, hy⟩ := hR _ _ _ ht
      obtain ⟨_, h1, h2⟩ := World.cells?_some hc
      refine ⟨y, cs', h1, hy, fun j u hu => ?_⟩
      rw [ghost_cell, h2 j (by have := (List.getElem?_eq_some_iff.1 hu).1; omega)]
      exact hu
    have build : ∀ k, k ≤ m → ∃ l : List α, l.length = k ∧ ∀ i x, l[i]? = some x → ∃ cs, cs.length = P.cellsOf e ∧ R x cs ∧ CellsG (ghost W) (a.add (i * P.cellsOf e)) cs := by
      intro k
      induction k with
      | zero => intro _; exact ⟨[], rfl, fun i x h => by simp at h⟩
      | succ k ih =>
        intro hk
        obtain ⟨l, h1, h2⟩ := ih (by omega)
        obtain ⟨y, cs', h3, h4, h5⟩ := key k (by omega)
        refine ⟨l ++ [y], by simp [h1], fun i x hx => ?_⟩
        by_cases hik : i < l.length
        · rw [List.getElem?_append_left hik] at hx; exact h2 i x hx
        · rw [List.getElem?_append_right (by omega)] at hx
          have : i = l.length := by
            have := (List.getElem?_eq_some_iff.1 hx).1
            simp at this; omega
          subst this
          simp only [Nat.sub_self, List.getElem?_cons_zero, Option.some.injEq] at hx
          subst hx
          rw [h1]
          exact ⟨cs', h3, h4, h5⟩
    obtain ⟨l, h1, h2⟩ := build len (by omega)
    exact ⟨l, _, rfl, ⟨some a, m, by rw [h1], by omega, hm, fun _ => ⟨a, rfl, h2⟩⟩⟩
/-- An array of n elements. -/
def ArrR {α : Type} (n sz : Nat) (R : α → List Value → Prop) (l : List α) (cs : List Value) : Prop := l.length = n ∧ cs.length = n * sz ∧ ∀ i x, l[i]? = some x → R x ((cs.drop (i * sz)).take sz)
theorem el_array {α : Type} {e : TypeId} {n : Nat} {R : α → List Value → Prop} {sz : Nat} (hT : P.underlying t = some (.array n e)) (hsz : P.cellsOf e = sz) (hn : P.cellsOf t = n * sz) (hR : Elem enc P W e R) : Elem enc P W t (ArrR n sz R) := fun fuel cs x h => by
  subst hsz
  obtain ⟨xs, m, rfl, _, hlen, hxl, hi⟩ := DataW.trod_array hT h
  have key : ∀ i, i < n → ∃ y, R y ((cs.drop (i * P.cellsOf e)).take (P.cellsOf e)) := by
    intro i hlt
    have h1 := hi i hlt
    rw [List.getElem?_eq_getElem (by omega)] at h1
    exact hR _ _ _ h1
  have build : ∀ k, k ≤ n → ∃ l : List α, l.length = k ∧ ∀ i x, l[i]? = some x → R x ((cs.drop (i * P.cellsOf e)).take (P.cellsOf e)) := by
    intro k
    induction k with
    | zero => intro _; exact ⟨[], rfl, fun i x h => by simp at h⟩
    | succ k ih =>
      intro hk
      obtain ⟨l, h1, h2⟩ := ih (by omega)
      obtain ⟨y, hy⟩ := key k (by omega)
      refine ⟨l ++ [y], by simp [h1], fun i x hx => ?_⟩
      by_cases hik : i < l.length
      · rw [List.getElem?_append_left hik] at hx; exact h2 i x hx
      · rw [List.getElem?_append_right (by omega)] at hx
        have : i = l.length := by
          have := (List.getElem?_eq_some_iff.1 hx).1
          simp at this; omega
        subst this
        simp only [Nat.sub_self, List.getElem?_cons_zero, Option.some.injEq] at hx
        subst hx
        rw [h1]
        exact hy
  obtain ⟨l, h1, h2⟩ := build n (Nat.le_refl _)
  exact ⟨l, h1, hlen.trans hn, h2⟩
theorem arg_cell {α : Type} {R : α → List Value → Prop} (hE : Elem enc P W t R) (h : DataW.Trod enc P W 0 (fun _ => true) true t v d p) : ∃ y, R y v.cells.toList := by
  obtain ⟨fuel, hf⟩ := h
  exact hE _ _ _ hf
theorem arg_int {k : IntKind} (hT : P.underlying t = some (.int k)) (hv : Value.okWide P W .any base t v) (h : DataW.Trod enc P W 0 (fun _ => true) true t v d p) : ∃ a, v = .int k a ∧ (Lit.int k a).wf = true := by
  obtain ⟨a, rfl, _, _, hw⟩ := open_int hT hv h
  exact ⟨a, rfl, hw⟩
theorem arg_slice {α : Type} {e : TypeId} {R : α → List Value → Prop} {sz : Nat} (hT : P.underlying t = some (.slice e)) (hsz : P.cellsOf e = sz) (hR : Elem enc P W e R) (hv : Value.okWide P W .any base t v) (h : DataW.Trod enc P W 0 (fun _ => true) true t v d p) : ∃ l, Sl (ghost W) sz R v l := by
  obtain ⟨a, len, cap, rfl⟩ := okWide_slice hT hv
  obtain ⟨l, u, hu, hl⟩ := arg_cell (el_slice hT hsz hR) h
  simp only [Value.cells] at hu
  simp only [List.cons.injEq, and_true] at hu
  subst hu
  exact ⟨l, hl⟩
theorem okWide_agg (hT : (P.underlying t).map descAgg = some true) (hv : Value.okWide P W .any base t v) : ∃ cs, v = .agg cs := by
  unfold Value.okWide at hv
  cases hd : P.underlying t with
  | none => rw [hd] at hT; cases hT
  | some x =>
    rw [hd] at hT hv
    cases x <;> simp [descAgg] at hT <;> exact ⟨_, hv.choose_spec.1⟩
theorem arg_agg {α : Type} {R : α → List Value → Prop} (hT : (P.underlying t).map descAgg = some true) (hE : Elem enc P W t R) (hv : Value.okWide P W .any base t v) (h : DataW.Trod enc P W 0 (fun _ => true) true t v d p) : ∃ cs y, v = .agg cs.toArray ∧ R y cs := by
  obtain ⟨cs, rfl⟩ := okWide_agg hT hv
  obtain ⟨y, hy⟩ := arg_cell hE h
  exact ⟨cs.toList, y, by simp, hy⟩
/-- A struct's field. -/
theorem el_fld {α : Type} {R : α → List Value → Prop} {i off sz : Nat} {ft : TypeId} [hF : Fld P t i off ft] (hsz : P.cellsOf ft = sz) (hR : Elem enc P W ft R) {fuel : Nat} {cs : List Value} {x : DataW H × List MemPlace} (h : DataW.trod enc P W 0 (fun _ => true) true fuel t cs = some x) : ∃ y, R y ((cs.drop off).take sz) := by
  obtain ⟨fs, f, inf, h1, h2, h3, h4, _⟩ := hF.ex
  subst h3; subst h4; subst hsz
  obtain ⟨xs, n, _, rfl, hl, hlen, hf⟩ := DataW.trod_struct h1 h
  have h5 := hf i f (by simpa using h2)
  have hi : i < xs.length := by
    rw [hlen]
    have := (Array.getElem?_eq_some_iff.1 h2).1
    simpa using this
  rw [List.getElem?_eq_getElem hi] at h5
  exact hR _ _ _ h5
theorem el_flen {fs : Array Field} {n : Nat} (hT : P.underlying t = some (.struct fs)) (hn : P.cellsOf t = n) {fuel : Nat} {cs : List Value} {x : DataW H × List MemPlace} (h : DataW.trod enc P W 0 (fun _ => true) true fuel t cs = some x) : cs.length = n := by
  obtain ⟨xs, m, _, rfl, hl, hlen, hf⟩ := DataW.trod_struct hT h
  rw [hl, hn]
/-- Two, and three, integers in an array. -/
def PairR (x : Int × Int) (cs : List Value) : Prop := cs = [.int .i64 x.1, .int .i64 x.2] ∧ (Lit.int .i64 x.1).wf = true ∧ (Lit.int .i64 x.2).wf = true
theorem ArrR.pair {l : List Int} {cs : List Value} (h : ArrR 2 1 (IntR .i64) l cs) : ∃ x, PairR x cs := by
  obtain ⟨h1, h2, h3⟩ := h
  match l, cs, h1, h2 with
  | [a, b], [u, v], _, _ =>
    have e1 := h3 0 a rfl
    have e2 := h3 1 b rfl
    simp [IntR] at e1 e2
    exact ⟨(a, b), by rw [e1.1, e2.1], e1.2, e2.2⟩
theorem ArrR.three {l : List Int} {cs : List Value} (h : ArrR 3 1 (IntR .i64) l cs) : ∃ a b c, cs = [.int .i64 a, .int .i64 b, .int .i64 c] ∧ (Lit.int .i64 a).wf = true ∧ (Lit.int .i64 b).wf = true ∧ (Lit.int .i64 c).wf = true := by
  obtain ⟨h1, h2, h3⟩ := h
  match l, cs, h1, h2 with
  | [a, b, c], [u, v, w], _, _ =>
    have e1 := h3 0 a rfl
    have e2 := h3 1 b rfl
    have e3 := h3 2 c rfl
    simp [IntR] at e1 e2 e3
    exact ⟨a, b, c, by rw [e1.1, e2.1, e3.1], e1.2, e2.2, e3.2⟩
theorem Elem.mono {α β : Type} {R : α → List Value → Prop} {R' : β → List Value → Prop} (h : Elem enc P W t R) (hR : ∀ x cs, R x cs → ∃ y, R' y cs) : Elem enc P W t R' := fun f cs x hx => let ⟨y, hy⟩ := h f cs x hx; hR _ _ hy
end
end Go.Vx
