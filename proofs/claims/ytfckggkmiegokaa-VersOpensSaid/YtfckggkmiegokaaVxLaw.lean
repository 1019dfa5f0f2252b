/-
  VX, FROM A LAW's CONTRACT TO THE ROW's STEP.
-/
import Derived.Test.YtfckggkmiegokaaVxDraw
import Derived.ProofKit
import Derived.OpenShut
import Derived.ShutString
import Derived.ChangeOld
import Derived.Below
set_option linter.unusedVariables false
set_option linter.unusedSimpArgs false
namespace Go.Vx
open Go Go.ChangeShapes Go.WideShapes Go.ChangeAt Go.RowKit
attribute [local semireducible] Vc Con
/-- All that is there when the call begins. -/
def ghost (W : World) : GH := fun b => W.heap[b]?
theorem mem_ghost (W : World) : Mem (ghost W) [] W := ⟨fun _ _ h => h, fun _ _ h => (by cases h), List.nodup_nil, fun _ _ h => (by cases h)⟩
theorem Step.below {G G' : GH} {μ' : OH} {W W' : World} (h : Step G [] W G' μ' W') : Below W.heap.size W W' :=
  ⟨h.os, h.tape, h.output, h.size, fun k hk => h.same k hk (fun o ho => by cases ho)⟩
/-- What a law's walk shows. -/
def LawCon (P : Program) (f : FuncId) (args : Array Value) (W : World) : Prop := Con P f args (ghost W) [] (fun v _ _ => v = .bool true)
theorem LawCon.calls {P : Program} {f : FuncId} {args : Array Value} {W : World} (h : LawCon P f args W) : Calls P f args W fun e W' => e = .returned (.bool true) ∧ Below W.heap.size W W' :=
  Calls.mono (h W (mem_ghost W)) fun _ _ ⟨_, he, _, _, hs, hv⟩ => ⟨by rw [he, hv], hs.below⟩
theorem trodAll_below {H : Type} {enc : TypeId × Value → H} {P : Program} (hl : laidOutB P = true) : ∀ {ts : List TypeId} {vs : List Value} {ds : List (DataW H)} {ps : List MemPlace} {W W' : World},
    (ts.all fun t => P.readableRec t && decide (t < P.types.size)) = true → DataW.TrodAll enc P W 0 (fun _ => true) true ts vs ds ps → Below W.heap.size W W' →
    DataW.TrodAll enc P W' 0 (fun b => decide (b < W.heap.size)) true ts vs ds ps := by
  intro ts
  induction ts with
  | nil =>
    intro vs ds ps W W' _ h _
    obtain ⟨rfl, rfl, rfl⟩ := trodAll_nil h
    exact trodAll_mk0
  | cons t ts ih =>
    intro vs ds ps W W' ht h hb
    simp only [List.all_cons, Bool.and_eq_true, decide_eq_true_eq] at ht
    cases vs with
    | nil => cases ds <;> simp [DataW.TrodAll] at h
    | cons v vs =>
      obtain ⟨v', vs', d, ds', p, q, hv, rfl, rfl, h0, hr⟩ := trodAll_cons h
      cases hv
      have hlt : ∀ x ∈ p, x.block < W.heap.size := by obtain ⟨m, hm⟩ := h0; exact DataW.trod_lt m _ _ _ hm
      exact trodAll_cons_mk (Below.trod hl ht.1.1 ht.1.2 h0 hb hlt) (ih (by simpa using ht.2) hr hb)
/-- The spec of a law: true, and every argument reads as it did. -/
def LawSpec (s : ChangeSpec) (n : Nat) : Prop := s.vars = [] ∧ ∀ (H : Type) (ds : List (DataW H)), ds.length = n → s.fn H ds = { results := [.lit (.bool true)], args := ds }
theorem trodAll_len {H : Type} {enc : TypeId × Value → H} {P : Program} {W : World} {sp : Nat → Bool} {hd : Bool} {b : Nat} : ∀ {ts : List TypeId} {vs : List Value} {ds : List (DataW H)} {ps : List MemPlace}, DataW.TrodAll enc P W b sp hd ts vs ds ps → ds.length = ts.length
  | [], _, _, _, h => by obtain ⟨_, rfl, _⟩ := trodAll_nil h; rfl
  | t :: ts, vs, ds, ps, h => by
    cases vs with
    | nil => cases ds <;> simp [DataW.TrodAll] at h
    | cons v vs =>
      obtain ⟨v', vs', d, ds', p, q, hv, rfl, rfl, h0, hr⟩ := trodAll_cons h
      cases hv
      simp [trodAll_len hr]
theorem law_post {H : Type} {enc : TypeId × Value → H} {P : Program} {f : FuncId} {fn : Func} {s : ChangeSpec} {T : TypeId} {n : Nat} (hl : laidOutB P = true) (hT : P.underlying T = some .bool) (hr : fn.resultTypes = #[T]) (hs : LawSpec s n) (hn : fn.params.size = n)
    (hts : (fn.params.toList.all fun t => P.readableRec t && decide (t < P.types.size)) = true) {W : World} {args : Array Value} {ds gs : List (DataW H)} {before : List MemPlace} (hW : DataW.Whole enc P fn.params.toList s.vars false W args.toList ds gs before) (hc : LawCon P f args W) :
    Calls P f args W fun e W' => ∃ v, e = .returned v ∧ ChangeSpec.post enc P fn s false true false false W args v W' := by
  refine hc.calls.mono fun e W' ⟨he, hb⟩ => ⟨_, he, ?_⟩
  have hW' := hW
  obtain ⟨p, q, hA, hV, rfl, _, _⟩ := hW
  obtain ⟨h1, h2⟩ := hs
  rw [h1] at hV
  obtain ⟨rfl, rfl⟩ := trodVars_none hV
  have hlen : ds.length = n := by rw [trodAll_len hA]; simpa using hn
  have hfn := h2 H ds hlen
  refine ⟨ds, [], p ++ [], [], p, [], hW', ?_, ?_, ?_, hb.frame _, fun h => by cases h⟩
  · rw [List.append_nil, hfn, hr]
    exact trodAll_mk1 (shut_bool hT _)
  · rw [List.append_nil, hfn]
    exact trodAll_below hl hts hA hb
  · rw [List.append_nil, hfn, h1]
    rfl
/-- An argument that is an integer, a Bool, a string. -/
theorem arg_int {H : Type} {enc : TypeId × Value → H} {P : Program} {W : World} {base : Nat} {t : TypeId} {k : IntKind} {v : Value} {d : DataW H} {p : List MemPlace} (hT : P.underlying t = some (.int k)) (hv : Value.okWide P W .any base t v) (h : DataW.Trod enc P W 0 (fun _ => true) true t v d p) :
    ∃ a, v = .int k a ∧ (Lit.int k a).wf = true := by
  obtain ⟨a, rfl, _, _, hw⟩ := open_int hT hv h
  exact ⟨a, rfl, hw⟩
end Go.Vx
