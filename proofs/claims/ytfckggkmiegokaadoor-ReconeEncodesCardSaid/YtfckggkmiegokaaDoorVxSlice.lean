/-
  VX, SLICES: a slice that is frozen reads as a list; slice expressions; struct literals; slice literals; append onto a slice of ours.
-/
import Derived.Test.YtfckggkmiegokaaDoorVxDraw
set_option linter.unusedVariables false
set_option linter.unusedSimpArgs false
namespace Go.Vx
open Go
attribute [local semireducible] Vc Con PureOp ReadOp MoveOp

/-- The slice value v reads as the list l in what is frozen: element i lies in sz cells that R holds against it. -/
def Sl {α : Type} (G : GH) (sz : Nat) (R : α → List Value → Prop) (v : Value) (l : List α) : Prop :=
  ∃ A c, v = .slice A l.length c ∧ l.length ≤ c ∧ c ≤ maxLen ∧ (0 < l.length → ∃ a, A = some a ∧ ∀ i x, l[i]? = some x → ∃ cs, cs.length = sz ∧ R x cs ∧ CellsG G (a.add (i * sz)) cs)
section
variable {α : Type} {G G' : GH} {sz : Nat} {R R' : α → List Value → Prop} {v : Value} {l : List α}
theorem Sl.le (h : Sl G sz R v l) (hG : GH.le G G') (hR : ∀ x cs, R x cs → R' x cs) : Sl G' sz R' v l := by
  obtain ⟨A, c, rfl, h1, h2, h3⟩ := h
  refine ⟨A, c, rfl, h1, h2, fun h0 => ?_⟩
  obtain ⟨a, rfl, h4⟩ := h3 h0
  exact ⟨a, rfl, fun i x hx => let ⟨cs, e1, e2, e3⟩ := h4 i x hx; ⟨cs, e1, hR _ _ e2, e3.le hG⟩⟩
theorem Sl.mono (h : Sl G sz R v l) (hG : GH.le G G') : Sl G' sz R v l := h.le hG fun _ _ h => h
theorem Sl.nil : Sl G sz R (.slice none 0 0) ([] : List α) := ⟨none, 0, rfl, Nat.le_refl _, by simp [maxLen], fun h => absurd h (by simp)⟩
theorem CellsG.head {a : Addr} {u : Value} {vs : List Value} (h : CellsG G a (u :: vs)) : GH.cell? G a = some u := by
  have := h 0 u (by simp)
  simpa [Addr.add] using this
theorem Sl.drop {A : Option Addr} {c k : Nat} (h : Sl G sz R (.slice A l.length c) l) (hk : k ≤ l.length) : Sl G sz R (.slice (if c = k then A else A.map (·.add (k * sz))) (l.length - k) (c - k)) (l.drop k) := by
  obtain ⟨A', c', hv, h1, h2, h3⟩ := h
  injection hv with e1 _ e2
  subst e1; subst e2
  refine ⟨_, _, by rw [List.length_drop], by rw [List.length_drop]; omega, by omega, fun h0 => ?_⟩
  rw [List.length_drop] at h0
  obtain ⟨a, rfl, h4⟩ := h3 (by omega)
  rw [if_neg (by omega)]
  refine ⟨_, rfl, fun i x hx => ?_⟩
  rw [List.getElem?_drop] at hx
  obtain ⟨cs, e1, e2, e3⟩ := h4 _ _ hx
  refine ⟨cs, e1, e2, ?_⟩
  rw [add_add, ← Nat.add_mul]
  exact e3
theorem Sl.take {A : Option Addr} {c k : Nat} (h : Sl G sz R (.slice A l.length c) l) (hk : k ≤ l.length) : Sl G sz R (.slice A k c) (l.take k) := by
  obtain ⟨A', c', hv, h1, h2, h3⟩ := h
  injection hv with e1 _ e2
  subst e1; subst e2
  have hl : (l.take k).length = k := by rw [List.length_take]; omega
  refine ⟨_, _, by rw [hl], by omega, by omega, fun h0 => ?_⟩
  obtain ⟨a, rfl, h4⟩ := h3 (by omega)
  refine ⟨_, rfl, fun i x hx => ?_⟩
  rw [List.getElem?_take] at hx
  split at hx
  · exact h4 _ _ hx
  · cases hx
end
/-- A slice's address, where there is one. -/
def adr (A : Option Addr) : Addr := A.getD ⟨0, 0, none⟩
theorem Sl.open {α : Type} {G : GH} {sz : Nat} {R : α → List Value → Prop} {v : Value} {l : List α} (h : Sl G sz R v l) : ∃ A c, v = .slice A l.length c ∧ l.length ≤ c ∧ c ≤ maxLen ∧ (0 < l.length → A.isSome = true) ∧
    ∀ i x, l[i]? = some x → ∃ cs, cs.length = sz ∧ R x cs ∧ CellsG G ((adr A).add (i * sz)) cs := by
  obtain ⟨A, c, rfl, h1, h2, h3⟩ := h
  refine ⟨A, c, rfl, h1, h2, fun h0 => ?_, fun i x hx => ?_⟩
  · obtain ⟨a, rfl, _⟩ := h3 h0; rfl
  · obtain ⟨a, rfl, h4⟩ := h3 (by have := (List.getElem?_eq_some_iff.1 hx).1; omega)
    exact h4 i x hx
/-- Elements of one cell. -/
def IntR (k : IntKind) (x : Int) (cs : List Value) : Prop := cs = [.int k x] ∧ (Lit.int k x).wf = true

theorem Sl.openInt {G : GH} {k : IntKind} {v : Value} {l : List Int} (h : Sl G 1 (IntR k) v l) : ∃ A c, v = .slice A l.length c ∧ l.length ≤ c ∧ c ≤ maxLen ∧ (0 < l.length → A.isSome = true) ∧
    (∀ i (h : i < l.length), GH.cell? G ((adr A).add (i * 1)) = some (.int k l[i])) ∧ ∀ x ∈ l, (Lit.int k x).wf = true := by
  obtain ⟨A, c, rfl, h1, h2, h3, h4⟩ := h.open
  refine ⟨A, c, rfl, h1, h2, h3, fun i hi => ?_, fun x hx => ?_⟩
  · obtain ⟨cs, _, ⟨rfl, _⟩, h5⟩ := h4 i _ (List.getElem?_eq_getElem hi)
    exact h5.head
  · obtain ⟨i, hi, rfl⟩ := List.getElem_of_mem hx
    obtain ⟨cs, _, ⟨_, h5⟩, _⟩ := h4 i _ (List.getElem?_eq_getElem hi)
    exact h5
def headI : List Value → Int
  | .int _ n :: _ => n
  | _ => 0
section
variable {P : Program} {ty : TypeId} {σ : Env} {t : TypeId} {bytes : Nat} {zero : Value}
theorem p_indexAddrS {e : TypeId} {agg : Bool} {sz : Nat} {x i : Operand} {A : Option Addr} {l c : Nat} {k : IntKind} {m : Int} [Ty P t (.slice e)] [Lay P e agg sz bytes zero] (hx : Env.ev σ x = some (.slice A l c)) (hi : Env.ev σ i = some (.int k m))
    (h0 : 0 ≤ m) (h : m < l) (hA : A.isSome = true) : PureOp P (.indexAddr t x i) ty σ (.pointer (some ((adr A).add (m.toNat * sz)))) := by
  cases A with
  | none => cases hA
  | some a => exact p_indexAddr hx hi h0 h
/-! ### Slice expressions -/
theorem run_slice {e : TypeId} {agg : Bool} {sz : Nat} [Ty P t (.slice e)] [Lay P e agg sz bytes zero] {w : World} {A : Option Addr} {n c : Nat} {lo hi : Option Value} {l h : Nat}
    (hl : (lo = none ∧ l = 0) ∨ (∃ k, lo = some (.int k (l : Int)))) (hh : (hi = none ∧ h = n) ∨ (∃ k, hi = some (.int k (h : Int)))) (h1 : l ≤ h) (h2 : h ≤ c) :
    (Instr.sliceAt t (.slice A n c) lo hi none).run P w = .ok (.slice (if c = l then A else A.map (·.add (l * sz))) (h - l) (c - l)) w := by
  rcases hl with ⟨rfl, rfl⟩ | ⟨kl, rfl⟩ <;> rcases hh with ⟨rfl, rfl⟩ | ⟨kh, rfl⟩ <;>
    simp [Instr.sliceAt, Instr.slice, Instr.sliceBounds, Instr.sliceBound, asIntOf, run_under (P := P) (t := t) (d := .slice e), run_sizeOf (P := P) (t := e) (agg := agg) (size := sz) (bytes := bytes) (zero := zero), h1, h2]
theorem p_sliceL {e : TypeId} {agg : Bool} {sz : Nat} {x lo : Operand} {A : Option Addr} {n c : Nat} {k : IntKind} {l : Int} [Ty P t (.slice e)] [Lay P e agg sz bytes zero] (hx : Env.ev σ x = some (.slice A n c)) (hl : Env.ev σ lo = some (.int k l)) (h0 : 0 ≤ l) (h1 : l ≤ n) (h2 : n ≤ c) :
    PureOp P (.slice t x (some lo) none none) ty σ (.slice (if c = l.toNat then A else A.map (·.add (l.toNat * sz))) (n - l.toNat) (c - l.toNat)) := by
  intro dst pos af g ρ hρ w
  have := run_slice (P := P) (w := w) (t := t) (e := e) (agg := agg) (sz := sz) (bytes := bytes) (zero := zero) (A := A) (n := n) (c := c) (lo := some (.int k l)) (hi := none) (l := l.toNat) (h := n) (.inr ⟨k, by rw [Int.toNat_of_nonneg h0]⟩) (.inl ⟨rfl, rfl⟩) (by omega) h2
  simp [execOp, hρ _ _ hx, hρ _ _ hl, this]
theorem p_sliceH {e : TypeId} {agg : Bool} {sz : Nat} {x hi : Operand} {A : Option Addr} {n c : Nat} {k : IntKind} {h : Int} [Ty P t (.slice e)] [Lay P e agg sz bytes zero] (hx : Env.ev σ x = some (.slice A n c)) (hh : Env.ev σ hi = some (.int k h)) (h0 : 0 ≤ h) (h1 : h ≤ c) :
    PureOp P (.slice t x none (some hi) none) ty σ (.slice A h.toNat c) := by
  intro dst pos af g ρ hρ w
  have := run_slice (P := P) (w := w) (t := t) (e := e) (agg := agg) (sz := sz) (bytes := bytes) (zero := zero) (A := A) (n := n) (c := c) (lo := none) (hi := some (.int k h)) (l := 0) (h := h.toNat) (.inl ⟨rfl, rfl⟩) (.inr ⟨k, by rw [Int.toNat_of_nonneg h0]⟩) (by omega) (by omega)
  have e1 : (if c = 0 then A else A.map (·.add (0 * sz))) = A := by
    split
    · rfl
    · cases A <;> simp [Addr.add]
  rw [e1] at this
  simp [execOp, hρ _ _ hx, hρ _ _ hh, this]
theorem p_sliceLH {e : TypeId} {agg : Bool} {sz : Nat} {x lo hi : Operand} {A : Option Addr} {n c : Nat} {k k' : IntKind} {l h : Int} [Ty P t (.slice e)] [Lay P e agg sz bytes zero] (hx : Env.ev σ x = some (.slice A n c)) (hl : Env.ev σ lo = some (.int k l)) (hh : Env.ev σ hi = some (.int k' h)) (h0 : 0 ≤ l) (h1 : l ≤ h) (h2 : h ≤ c) :
    PureOp P (.slice t x (some lo) (some hi) none) ty σ (.slice (if c = l.toNat then A else A.map (·.add (l.toNat * sz))) (h.toNat - l.toNat) (c - l.toNat)) := by
  intro dst pos af g ρ hρ w
  have := run_slice (P := P) (w := w) (t := t) (e := e) (agg := agg) (sz := sz) (bytes := bytes) (zero := zero) (A := A) (n := n) (c := c) (lo := some (.int k l)) (hi := some (.int k' h)) (l := l.toNat) (h := h.toNat) (.inr ⟨k, by rw [Int.toNat_of_nonneg h0]⟩) (.inr ⟨k', by rw [Int.toNat_of_nonneg (by omega)]⟩) (by omega) (by omega)
  simp [execOp, hρ _ _ hx, hρ _ _ hl, hρ _ _ hh, this]

/-! ### Struct literals -/
/-- Where the fields of struct type t lie: offsets and sizes. -/
class Places (P : Program) (t : TypeId) (pl : outParam (List (Nat × Nat))) : Prop where
  h : (match P.underlying t with
    | some (.struct fs) => fs.toList.mapM fun f => (P.info? f.type).map fun i => (f.offset, i.size)
    | _ => none) = some pl
def buildF (pf : Nat → Option (Nat × Nat)) : List Value → List (Nat × Value) → Option (List Value)
  | cs, [] => some cs
  | cs, (i, v) :: rest =>
    match pf i with
    | none => none
    | some (off, size) => bif Nat.beq v.cells.size size && Nat.ble (off + size) cs.length then buildF pf (over cs off v.cells.toList) rest else none
def buildL (pl : List (Nat × Nat)) : List Value → List (Nat × Value) → Option (List Value) := buildF fun i => pl[i]?
theorem fill_buildF (pf : Nat → Option (Nat × Nat)) : ∀ (parts : List (Nat × Value)) (cs cs' : List Value), buildF pf cs parts = some cs' → Instr.fill pf cs.toArray parts = some cs'.toArray := by
  intro parts
  induction parts with
  | nil => intro cs cs' h; simp only [buildF, Option.some.injEq] at h; simp [Instr.fill, h]
  | cons p parts ih =>
    obtain ⟨i, v⟩ := p
    intro cs cs' h
    simp only [buildF] at h
    cases hp : pf i with
    | none => rw [hp] at h; cases h
    | some os =>
      obtain ⟨off, size⟩ := os
      rw [hp] at h
      simp only at h
      cases hb : (Nat.beq v.cells.size size && Nat.ble (off + size) cs.length) with
      | false => rw [hb] at h; cases h
      | true =>
        rw [hb] at h
        simp only [cond_true] at h
        simp only [Bool.and_eq_true] at hb
        have h1 : v.cells.size = size := Nat.eq_of_beq_eq_true hb.1
        have h2 : off + size ≤ cs.length := Nat.le_of_ble_eq_true hb.2
        simp only [Instr.fill, hp]
        rw [if_neg (by simp; omega)]
        have e : v.cells.zipIdx.foldl (fun cs (c, j) => cs.setIfInBounds (off + j) c) cs.toArray = (over cs off v.cells.toList).toArray := by
          have key : ∀ (us : List Value) (k : Nat) (cs : List Value), off + k + us.length ≤ cs.length → (us.zipIdx k).foldl (fun (cs : Array Value) (x : Value × Nat) => cs.setIfInBounds (off + x.2) x.1) cs.toArray = (over cs (off + k) us).toArray := by
            intro us
            induction us with
            | nil => intro k cs _; simp [over]
            | cons u us ihu =>
              intro k cs hl
              simp only [List.length_cons] at hl
              simp only [List.zipIdx_cons, List.foldl_cons]
              have := ihu (k + 1) (cs.set (off + k) u) (by simp; omega)
              simp only [List.setIfInBounds_toArray]
              rw [this]
              congr 1
              apply List.ext_getElem?
              intro j
              simp only [over, List.getElem?_append, List.getElem?_take, List.getElem?_drop, List.length_append, List.length_take, List.getElem?_set, List.length_set, List.length_cons]
              grind
          have := key v.cells.toList 0 cs (by simp; omega)
          rw [← Array.foldl_toList, Array.toList_zipIdx]
          simpa using this
        rw [e]
        exact ih _ _ h
theorem fill_buildL (pl : List (Nat × Nat)) (parts : List (Nat × Value)) (cs cs' : List Value) (h : buildL pl cs parts = some cs') : Instr.fill (fun i => pl[i]?) cs.toArray parts = some cs'.toArray := fill_buildF _ _ _ _ h
theorem evs_snd {ρ : Operand → Value} (hρ : Agree σ ρ) : ∀ {ps : List (Nat × Operand)} {vs : List Value}, Env.evs σ (ps.map (·.2)) = some vs → ps.map (fun p => (p.1, ρ p.2)) = (ps.map (·.1)).zip vs
  | [], vs, h => by simp
  | p :: ps, vs, h => by
    simp only [List.map_cons, Env.evs] at h
    cases h1 : Env.ev σ p.2 with
    | none => simp [h1] at h
    | some v =>
      cases h2 : Env.evs σ (ps.map (·.2)) with
      | none => simp [h1, h2] at h
      | some us =>
        simp only [h1, h2, Option.bind_some, Option.map_some, Option.some.injEq] at h
        subst h
        simp [evs_snd hρ h2, hρ _ _ h1]
theorem p_build {agg : Bool} {sz : Nat} {pl : List (Nat × Nat)} {ps : List (Nat × Operand)} {vs zs cs : List Value} [hP : Places P t pl] [Lay P t agg sz bytes zero] (hz : zero.cells = zs.toArray) (hv : Env.evs σ (ps.map (·.2)) = some vs) (hb : buildL pl zs ((ps.map (·.1)).zip vs) = some cs) :
    PureOp P (.build t ps.toArray) ty σ (.agg cs.toArray) := by
  intro dst pos af g ρ hρ w
  have hu := hP.h
  cases hd : P.underlying t with
  | none => rw [hd] at hu; cases hu
  | some d =>
    rw [hd] at hu
    cases d with
    | struct fs =>
      simp only at hu
      have hm : ∀ (l : List Field) (pl : List (Nat × Nat)), (l.mapM fun f => (P.info? f.type).map fun i => (f.offset, i.size)) = some pl → (l.mapM fun f => (do pure (f.offset, ← sizeOf f.type) : Sem (Nat × Nat))).run P w = .ok pl w := by
        intro l
        induction l with
        | nil => intro pl h; simp at h; subst h; simp
        | cons f l ih =>
          intro pl h
          simp only [List.mapM_cons, Option.bind_eq_bind] at h
          cases hi : P.info? f.type with
          | none => simp [hi] at h
          | some i =>
            cases hl : (l.mapM fun f => (P.info? f.type).map fun i => (f.offset, i.size)) with
            | none => simp [hi, hl] at h
            | some pl' =>
              simp only [hi, hl, Option.map_some, Option.bind_some, Option.pure_def, Option.some.injEq] at h
              subst h
              have hs : (sizeOf f.type).run P w = .ok i.size w := by simp [sizeOf, typeInfo, hi]
              simp only [List.mapM_cons, Sem.run_bind, hs, Result.andThen_ok, Sem.run_pure, ih pl' hl]
      have hm' := hm fs.toList pl hu
      have hfill := fill_buildL pl _ _ _ hb
      have hpl : ∀ i, (pl.toArray[i]? : Option (Nat × Nat)) = pl[i]? := fun i => List.getElem?_toArray
      have hmA : (fs.mapM fun f => (do pure (f.offset, ← sizeOf f.type) : Sem (Nat × Nat))).run P w = .ok pl.toArray w := by
        rw [Array.mapM_eq_mapM_toList, map_eq_pure_bind, Sem.run_bind, hm']
        rfl
      have hparts : (ps.toArray.map fun (x : Nat × Operand) => (x.1, ρ x.2)).toList = (ps.map (·.1)).zip vs := by
        simp [evs_snd hρ hv]
      simp only [execOp, Instr.build, Sem.run_bind, run_zeroOf (P := P) (t := t) (agg := agg) (size := sz) (bytes := bytes) (zero := zero), Result.andThen_ok, run_underlying hd, hmA, hz, hparts, hpl, hfill, Sem.run_pure]
    | _ => simp at hu
/-! ### Slice literals -/
def packL (sz : Nat) : List Value → Option (List Value)
  | [] => some []
  | v :: vs => bif Nat.beq v.cells.size sz then (packL sz vs).map fun us => v.cells.toList ++ us else none
theorem packL_length {sz : Nat} : ∀ {vs us : List Value}, packL sz vs = some us → us.length = vs.length * sz
  | [], us, h => by simp only [packL, Option.some.injEq] at h; subst h; simp
  | v :: vs, us, h => by
    simp only [packL] at h
    cases hb : Nat.beq v.cells.size sz with
    | false => rw [hb] at h; cases h
    | true =>
      rw [hb] at h
      simp only [cond_true, Option.map_eq_some_iff] at h
      obtain ⟨us', h', rfl⟩ := h
      have := Nat.eq_of_beq_eq_true hb
      simp only [List.length_append, packL_length h', List.length_cons, Array.length_toList, this, Nat.add_mul]
      omega
theorem buildF_pack {sz : Nat} : ∀ {vs us cs : List Value} {k : Nat}, packL sz vs = some us → (k + vs.length) * sz ≤ cs.length → buildF (fun i => some (i * sz, sz)) cs ((List.range' k vs.length).zip vs) = some (cs.take (k * sz) ++ us ++ cs.drop ((k + vs.length) * sz))
  | [], us, cs, k, h, _ => by
    simp only [packL, Option.some.injEq] at h
    subst h
    simp [buildF]
  | v :: vs, us, cs, k, h, hl => by
    simp only [packL] at h
    cases hb : Nat.beq v.cells.size sz with
    | false => rw [hb] at h; cases h
    | true =>
      rw [hb] at h
      simp only [cond_true, Option.map_eq_some_iff] at h
      obtain ⟨us', h', rfl⟩ := h
      have hs : v.cells.size = sz := Nat.eq_of_beq_eq_true hb
      simp only [List.length_cons] at hl
      have hk : k * sz + sz ≤ cs.length := by
        have : (k + 1) * sz ≤ (k + (vs.length + 1)) * sz := Nat.mul_le_mul_right _ (by omega)
        rw [Nat.add_mul] at this; omega
      simp only [List.length_cons, List.range'_succ, List.zip_cons_cons, buildF, hb, Bool.true_and, Nat.ble_eq_true_of_le hk, cond_true]
      have hov : (over cs (k * sz) v.cells.toList).length = cs.length := over_length (by simp [hs]; exact hk)
      rw [buildF_pack (k := k + 1) h' (by rw [hov]; rwa [show k + 1 + vs.length = k + (vs.length + 1) by omega])]
      have h1 : (over cs (k * sz) v.cells.toList).take ((k + 1) * sz) = cs.take (k * sz) ++ v.cells.toList := by
        have hlen : (cs.take (k * sz) ++ v.cells.toList).length = (k + 1) * sz := by simp [hs, Nat.add_mul]; omega
        unfold over
        rw [← hlen, List.take_left]
      have h2 : (over cs (k * sz) v.cells.toList).drop ((k + 1 + vs.length) * sz) = cs.drop ((k + (vs.length + 1)) * sz) := by
        unfold over
        have hlen : (cs.take (k * sz) ++ v.cells.toList).length = k * sz + sz := by simp [hs]; omega
        have e1 : (k + 1 + vs.length) * sz = (k * sz + sz) + vs.length * sz := by simp [Nat.add_mul]
        rw [e1, ← hlen, ← List.drop_drop, List.drop_left, List.drop_drop]
        congr 1
        simp [hs, Nat.add_mul]; omega
      rw [h1, h2]
      simp
end
section
variable {P : Program} {fn : Func} {n : Nat} {B : Base} {Φ : Value → GH → OH → Prop} {k : List It} {σ : Env} {G : GH} {μ : OH} {all : Array Oper} {rest : List Oper} {d : Nat} {ty : TypeId} {pos : String} {af : Array Edge} {t : TypeId} {bytes : Nat} {zero : Value}
theorem m_buildSlice {e : TypeId} {agg : Bool} {sz len : Nat} {ps : List (Nat × Operand)} {vs zs cs : List Value} [Ty P t (.slice e)] [Lay P e agg sz bytes zero] (hz : zero.cells = zs.toArray) (hi : ps.map (·.1) = List.range len) (hv : Env.evs σ (ps.map (·.2)) = some vs) (hp : packL sz vs = some cs) (hb : Nat.ble (len * sz) 16777216 = true) :
    MoveOp P (.buildSlice t len ps.toArray) ty σ G μ (fun v G' μ' => ∃ b, v = .slice (some ⟨b, 0, none⟩) len len ∧ G' = G ∧ μ' = (b, .cells cs.toArray e (0, 0)) :: μ) := by
  intro dst pos af g ρ hρ w hw a K Q hK
  have hlen : vs.length = len := by
    have h1 : vs.length = (ps.map (·.2)).length := by
      have := agree_evs hρ hv
      rw [← this, List.length_map]
    have h2 := congrArg List.length hi
    simp only [List.length_map, List.length_range] at h1 h2
    omega
  have hle : ¬ len * sz > 16777216 := by have := Nat.le_of_ble_eq_true hb; omega
  have hle' : ¬ len * sz > 2 ^ 24 := hle
  have hparts : (ps.toArray.map fun (x : Nat × Operand) => (x.1, ρ x.2)).toList = (List.range' 0 vs.length).zip vs := by
    rw [hlen, ← List.range_eq_range', ← hi]
    simp [evs_snd hρ hv]
  have hfill : ∀ z : Array Value, Instr.fill (fun i => some (i * sz, sz)) ((Array.range (len * sz)).map fun x => z[x % z.size]!) ((List.range' 0 vs.length).zip vs) = some cs.toArray := by
    intro z
    have h1 := buildF_pack (sz := sz) (vs := vs) (us := cs) (cs := ((Array.range (len * sz)).map fun x => z[x % z.size]!).toList) (k := 0) hp (by simp [hlen])
    have h2 := fill_buildF _ _ _ _ h1
    simp only [Array.toArray_toList] at h2
    rw [h2]
    have h3 : cs.length = len * sz := by rw [packL_length hp, hlen]
    simp [hlen]
  have hr : (execOp ρ ⟨dst, .buildSlice t len ps.toArray, ty, pos, af, g⟩).run P w = .ok (.value (.slice (some ⟨w.heap.size, 0, none⟩) len len)) (w.alloc (.cells cs.toArray e (0, 0))) := by
    simp only [execOp, Instr.buildSlice, Sem.run_bind, run_under (P := P) (t := t) (d := .slice e), Result.andThen_ok, run_sizeOf (P := P) (t := e) (agg := agg) (size := sz) (bytes := bytes) (zero := zero), hle', if_false, hparts]
    split <;> simp [newRow, run_zeroOf (P := P) (t := e) (agg := agg) (size := sz) (bytes := bytes) (zero := zero), hfill]
  rw [hr]
  exact hK _ _ _ _ (Step.alloc hw _) ⟨_, rfl, rfl, rfl⟩
theorem v_buildSlice {e : TypeId} {agg : Bool} {sz len : Nat} {ps : List (Nat × Operand)} {vs zs cs : List Value} [Ty P t (.slice e)] [Lay P e agg sz bytes zero] (hz : zero.cells = zs.toArray) (hi : ps.map (·.1) = List.range len) (hv : Env.evs σ (ps.map (·.2)) = some vs) (hp : packL sz vs = some cs) (hb : Nat.ble (len * sz) 16777216 = true) (hd : Nat.blt d n = true)
    (h : ∀ b, Vc P fn n B Φ (.ops all rest :: k) ((d, .slice (some ⟨b, 0, none⟩) len len) :: σ) G ((b, .cells cs.toArray e (0, 0)) :: μ)) : Vc P fn n B Φ (.ops all (⟨some d, .buildSlice t len ps.toArray, ty, pos, af, none⟩ :: rest) :: k) σ G μ :=
  v_move (m_buildSlice hz hi hv hp hb) hd fun _ _ _ ⟨b, h1, h2, h3⟩ => by rw [h1, h2, h3]; exact h b

/-! ### Append onto a slice of ours -/
/-- v has m elements of type e, of sz cells each, which hold xs; it lies in ν (no block at all, if it is nil). -/
def Grow (e : TypeId) (sz : Nat) (v : Value) (m : Nat) (xs : List Value) (ν : OH) : Prop :=
  xs.length = m * sz ∧ ((v = .slice none 0 0 ∧ m = 0 ∧ ν = []) ∨
    ∃ b cap spare, v = .slice (some ⟨b, 0, none⟩) m cap ∧ ν = [(b, .cells (xs ++ spare).toArray e (0, 0))] ∧ m ≤ cap ∧ cap ≤ maxLen ∧ (xs ++ spare).length = cap * sz)
theorem Grow.nil (e : TypeId) (sz : Nat) : Grow e sz (.slice none 0 0) 0 [] [] := ⟨by simp, .inl ⟨rfl, rfl, rfl⟩⟩
/-- The slice that is appended: its cells, as they stand in every world that shows what is frozen and what is ours. -/
def Src (G : GH) (μ : OH) (v : Value) (m sz : Nat) (us : List Value) : Prop := us.length = m * sz ∧ ∃ A c, v = .slice A m c ∧ (0 < m → ∃ a, A = some a ∧ CellsAt G μ a us)
theorem m_append {e : TypeId} {agg : Bool} {sz : Nat} {s x : Operand} {v u : Value} {m m' : Nat} {xs us : List Value} {ν μr : OH} [Ty P t (.slice e)] [Lay P e agg sz bytes zero] (hzs : zero.cells.size = sz) (hsz : 0 < sz) (hs : Env.ev σ s = some v) (hx : Env.ev σ x = some u) (hg : Grow e sz v m xs ν) (hp : μ.Perm (ν ++ μr)) (hsrc : Src G μ u m' sz us) (h1 : us.all Value.oneCell' = true)
    (hb : (m + m') * bytes ≤ 140737488355328) (hb' : m + m' ≤ maxLen) :
    MoveOp P (.call { callee := .builtin .append, args := #[s, x], argTypes := #[t, t] }) ty σ G μ (fun v' G' μ' => ∃ ν', Grow e sz v' (m + m') (xs ++ us) ν' ∧ G' = G ∧ μ' = ν' ++ μr) := by
  intro dst pos af g ρ hρ w hw a K Q hK
  have hw' := hw.perm hp
  obtain ⟨i, hi, hi1, hi2, hi3⟩ := Lay.infoEx (P := P) (t := e) (agg := agg) (size := sz) (bytes := bytes) (zero := zero) inferInstance
  have ht : P.underlying t = some (.slice e) := Ty.h
  obtain ⟨hl, hg⟩ := hg
  obtain ⟨hus, A, c, rfl, hA⟩ := hsrc
  have hall : ∀ x ∈ us, x.oneCell' = true := fun x hx => List.all_eq_true.1 h1 x hx
  have hex : ∀ (r : Result Value), (Builtin.append_ #[t, t] ty #[v, .slice A m' c]).run P w = r → (execOp ρ ⟨dst, .call { callee := .builtin .append, args := #[s, x], argTypes := #[t, t] }, ty, pos, af, g⟩).run P w = r.andThen fun v w' => .ok (.value v) w' := by
    intro r hr
    subst hr
    simp only [execOp, resolve, invoke, builtin, Sem.run_bind, Sem.run_pure, Result.andThen_ok, List.map_toArray, List.map_cons, List.map_nil, hρ _ _ hs, hρ _ _ hx]
  have hrow : ∀ (old : Nat), old < m + m' → Grow e sz (.slice (some ⟨w.heap.size, 0, none⟩) (m + m') (grownCap w (m + m') old e)) (m + m') (xs ++ us) [(w.heap.size, .cells (xs ++ us ++ (Builtin.zeroCells zero.cells (grownCap w (m + m') old e - (m + m'))).toList).toArray e (0, 0))] := by
    intro old ho
    have hge := grownCap_ge w (m + m') old e
    refine ⟨by rw [List.length_append, hl, hus, Nat.add_mul], .inr ⟨_, _, _, rfl, rfl, hge, grownCap_le_maxLen w (m + m') old e hb', ?_⟩⟩
    simp only [List.length_append, hl, hus, Array.length_toList, size_zeroCells, hzs, ← Nat.add_mul]
    congr 1
    omega
  by_cases hm : m' = 0
  · subst hm
    have hu0 : us = [] := List.eq_nil_of_length_eq_zero (by simpa using hus)
    subst hu0
    have hr : (Builtin.append_ #[t, t] ty #[v, .slice A 0 c]).run P w = .ok v w := by
      rcases hg with ⟨rfl, rfl, rfl⟩ | ⟨b, cap, spare, rfl, rfl, hc1, _, _⟩ <;> cases A <;> simp [Builtin.append_, run_underlying ht, sizeOf, typeInfo, hi, Builtin.lenOf, Builtin.firstCells, loadCells, loadCellsFrom, storeCells, *]
    rw [hex _ hr]
    exact hK v w G (ν ++ μr) ((Step.refl hw').permL hp.symm) ⟨ν, ⟨by simpa using hl, by simpa using hg⟩, rfl, rfl⟩
  · obtain ⟨ad, rfl, hcs⟩ := hA (by omega)
    have hnews : ∀ j u, us[j]? = some u → w.cell? (ad.add j) = some u := fun j u hu => hcs j u hu w hw.sees
    have hlus : us.length = m' * i.size := by rw [hus, hi1]
    rcases hg with ⟨rfl, rfl, rfl⟩ | ⟨b, cap, spare, rfl, rfl, hc1, hc2, hc3⟩
    · have hx0 : xs = [] := List.eq_nil_of_length_eq_zero (by simpa using hl)
      subst hx0
      have hr := run_append_nil (P := P) w t ty e i zero ht hi hi3 ad m' c us hlus hnews (by omega) (by simp only [maxLen] at hb'; omega) (by rw [hi2]; have := hb; simp only [Nat.zero_add] at this; omega)
      rw [hex _ hr]
      have hrow' := hrow 0 (by omega)
      simp only [Nat.zero_add, List.nil_append] at hrow' ⊢
      have hst := (Step.drew hw' 1).trans (Step.alloc (Step.drew hw' 1).mem (.cells (us.toArray ++ Builtin.zeroCells zero.cells (grownCap w m' 0 e - m')) e (0, 0)))
      refine hK _ _ G _ (hst.permL hp.symm) ⟨[(w.heap.size, .cells (us ++ (Builtin.zeroCells zero.cells (grownCap w m' 0 e - m')).toList).toArray e (0, 0))], ?_, rfl, ?_⟩
      · rw [Nat.zero_add, List.nil_append]; exact hrow'
      · simp [World.drewN]
    · have hblk : w.heap[b]? = some (.cells (xs ++ spare).toArray e (0, 0)) := hw'.own b _ (by simp)
      by_cases hroom : m + m' ≤ cap
      · have hr := run_append_room (P := P) w t ty e i ht hi b m cap (xs ++ spare).toArray hblk ad m' c us hlus hnews hall hroom (by rw [hi1, hus, ← Nat.add_mul, List.size_toArray, hc3]; exact Nat.mul_le_mul_right _ hroom)
        rw [hex _ hr]
        have htake : ((xs ++ spare).toArray.toList.take (m * i.size) ++ us ++ (xs ++ spare).toArray.toList.drop (m * i.size + us.length)) = xs ++ us ++ spare.drop us.length := by
          rw [hi1, ← hl]
          simp only [List.take_left]
          congr 1
          rw [← List.drop_drop, List.drop_left]
        rw [htake]
        have hst : Step G ([(b, .cells (xs ++ spare).toArray e (0, 0))] ++ μr) w G ([(b, .cells (xs ++ us ++ spare.drop us.length).toArray e (0, 0))] ++ μr) (w.setRow b (xs ++ us ++ spare.drop us.length).toArray) :=
          Step.row hw' (b := b) (vs := xs ++ spare) (by simp [Has]) (.here _ _)
        refine hK _ _ G _ (hst.permL hp.symm) ⟨[(b, .cells (xs ++ us ++ spare.drop us.length).toArray e (0, 0))], ⟨by rw [List.length_append, hl, hus, Nat.add_mul], .inr ⟨b, cap, spare.drop us.length, rfl, rfl, hroom, hc2, ?_⟩⟩, rfl, rfl⟩
        have h5 : (m + m') * sz ≤ cap * sz := Nat.mul_le_mul_right _ hroom
        simp only [List.length_append, List.length_drop, hl, hus] at hc3 ⊢
        rw [Nat.add_mul] at h5
        omega
      · have holds : ∀ j u, xs[j]? = some u → w.cell? ((⟨b, 0, none⟩ : Addr).add j) = some u := by
          intro j u hu
          have hj : j < xs.length := (List.getElem?_eq_some_iff.1 hu).1
          rw [add_mk, Nat.zero_add]
          unfold World.cell?
          simp only [hblk]
          simp only [Option.isSome_none, Bool.false_eq_true, if_false, List.getElem?_toArray]
          rw [List.getElem?_append_left hj]
          exact hu
        have hr := run_append_grow (P := P) w t ty e i zero ht hi hi3 ⟨b, 0, none⟩ m cap xs (by rw [hl, hi1]) holds ad m' c us hlus hnews (by omega) (by simp only [maxLen] at hb'; omega) (growslice_fits (by omega) (by rw [hi2]; exact hb))
        rw [hex _ hr]
        have hrow' := hrow cap (by omega)
        have hst := (Step.drew hw' 1).trans (Step.alloc (Step.drew hw' 1).mem (.cells (xs.toArray ++ us.toArray ++ Builtin.zeroCells zero.cells (grownCap w (m + m') cap e - (m + m'))) e (0, 0)))
        have hst2 : Step G ([(b, .cells (xs ++ spare).toArray e (0, 0))] ++ μr) w G ((w.heap.size, .cells (xs.toArray ++ us.toArray ++ Builtin.zeroCells zero.cells (grownCap w (m + m') cap e - (m + m'))) e (0, 0)) :: μr) _ :=
          hst.drop (List.Sublist.cons_cons _ (List.Sublist.cons _ (List.Sublist.refl _)))
        refine hK _ _ G _ (hst2.permL hp.symm) ⟨_, hrow', rfl, ?_⟩
        simp
theorem v_append {e : TypeId} {agg : Bool} {sz : Nat} {s x : Operand} {v u : Value} {m m' : Nat} {xs us : List Value} {ν μr : OH} [Ty P t (.slice e)] [Lay P e agg sz bytes zero] (hzs : zero.cells.size = sz) (hsz : 0 < sz) (hs : Env.ev σ s = some v) (hx : Env.ev σ x = some u) (hg : Grow e sz v m xs ν) (hp : μ.Perm (ν ++ μr)) (hsrc : Src G μ u m' sz us) (h1 : us.all Value.oneCell' = true)
    (hb : (m + m') * bytes ≤ 140737488355328) (hb' : m + m' ≤ maxLen) (hd : Nat.blt d n = true)
    (h : ∀ v' ν', Grow e sz v' (m + m') (xs ++ us) ν' → Vc P fn n B Φ (.ops all rest :: k) ((d, v') :: σ) G (ν' ++ μr)) : Vc P fn n B Φ (.ops all (⟨some d, .call { callee := .builtin .append, args := #[s, x], argTypes := #[t, t] }, ty, pos, af, none⟩ :: rest) :: k) σ G μ :=
  v_move (m_append hzs hsz hs hx hg hp hsrc h1 hb hb') hd fun _ _ _ ⟨ν', h1, h2, h3⟩ => by rw [h2, h3]; exact h _ ν' h1
theorem Src.own {e : TypeId} {b m sz c : Nat} {us : List Value} (h : Has μ b us e) (hl : us.length = m * sz) : Src G μ (.slice (some ⟨b, 0, none⟩) m c) m sz us := ⟨hl, _, _, rfl, fun _ => ⟨_, rfl, CellsAt.own h⟩⟩
/-- A slice of ours that has grown is frozen from here on. -/
theorem Grow.cells {e : TypeId} {sz m : Nat} {v : Value} {xs : List Value} {ν : OH} (h : Grow e sz v m xs ν) {G' : GH} (hG : ∀ b o, (b, o) ∈ ν → G' b = some o) : ∃ A c, v = .slice A m c ∧ m ≤ c ∧ c ≤ maxLen ∧ (0 < m → ∃ a, A = some a ∧ CellsG G' a xs) := by
  obtain ⟨hl, ⟨rfl, rfl, rfl⟩ | ⟨b, cap, spare, rfl, rfl, h1, h2, h3⟩⟩ := h
  · exact ⟨none, 0, rfl, Nat.le_refl _, by simp [maxLen], fun h => absurd h (by omega)⟩
  · refine ⟨_, cap, rfl, h1, h2, fun _ => ⟨_, rfl, fun j u hu => ?_⟩⟩
    have := hG b (.cells (xs ++ spare).toArray e (0, 0)) (by simp)
    have hj : j < xs.length := (List.getElem?_eq_some_iff.1 hu).1
    rw [add_mk, Nat.zero_add]
    unfold GH.cell?
    simp only [this]
    simp only [Option.isSome_none, Bool.false_eq_true, if_false, List.getElem?_toArray]
    rw [List.getElem?_append_left hj]
    exact hu
/-- The elements' cells, one element behind the other. -/
theorem Grow.sl {α : Type} {R : α → List Value → Prop} {e : TypeId} {sz : Nat} {v : Value} {l : List α} {css : List (List Value)} {ν : OH} (h : Grow e sz v l.length css.flatten ν) {G' : GH} (hG : ∀ b o, (b, o) ∈ ν → G' b = some o) (hlen : css.length = l.length) (hR : ∀ (i : Nat) x cs, l[i]? = some x → css[i]? = some cs → cs.length = sz ∧ R x cs) : Sl G' sz R v l := by
  obtain ⟨A, c, rfl, h1, h2, h3⟩ := h.cells hG
  refine ⟨A, c, rfl, h1, h2, fun h0 => ?_⟩
  obtain ⟨a, rfl, h4⟩ := h3 h0
  refine ⟨a, rfl, fun i x hx => ?_⟩
  have hi : i < l.length := (List.getElem?_eq_some_iff.1 hx).1
  have hcs : css[i]? = some (css[i]'(by omega)) := List.getElem?_eq_getElem (by omega)
  obtain ⟨e1, e2⟩ := hR i x _ hx hcs
  refine ⟨_, e1, e2, fun j u hu => ?_⟩
  rw [add_add]
  refine h4 _ _ ?_
  have hall : ∀ (css : List (List Value)) (i : Nat) (cs : List Value), (∀ (k : Nat) (c : List Value), css[k]? = some c → c.length = sz) → css[i]? = some cs → ∀ (j : Nat) (u : Value), cs[j]? = some u → css.flatten[i * sz + j]? = some u := by
    intro css
    induction css with
    | nil => intro i cs _ hi; simp at hi
    | cons c css ih =>
      intro i cs hs hi j u hu
      cases i with
      | zero =>
        simp only [List.getElem?_cons_zero, Option.some.injEq] at hi
        subst hi
        have hj : j < c.length := (List.getElem?_eq_some_iff.1 hu).1
        rw [List.flatten_cons, Nat.zero_mul, Nat.zero_add, List.getElem?_append_left hj]
        exact hu
      | succ i =>
        simp only [List.getElem?_cons_succ] at hi
        have hc : c.length = sz := hs 0 c (by simp)
        rw [List.flatten_cons, List.getElem?_append_right (by rw [hc, Nat.add_mul]; omega), hc, Nat.add_mul, Nat.one_mul, show i * sz + sz + j - sz = i * sz + j by omega]
        exact ih i cs (fun k c' hk => hs (k + 1) c' (by simpa using hk)) hi j u hu
  refine hall css i _ (fun k c hk => ?_) hcs j u hu
  have hk' : k < l.length := by have := (List.getElem?_eq_some_iff.1 hk).1; omega
  exact (hR k _ c (List.getElem?_eq_getElem hk') hk).1
end
/-- A block of ours that is frozen, as a slice of integers. -/
theorem Sl.ofInts {G : GH} {b : Nat} {k : IntKind} {e : TypeId} {l : List Int} {vs : List Value} (hvs : vs = l.map (.int k ·)) (hG : G b = some (.cells vs.toArray e (0, 0))) (hw : ∀ x ∈ l, (Lit.int k x).wf = true) (hm : l.length ≤ maxLen) : Sl G 1 (IntR k) (.slice (some ⟨b, 0, none⟩) l.length l.length) l := by
  subst hvs
  refine ⟨_, _, rfl, Nat.le_refl _, hm, fun _ => ⟨_, rfl, fun i x hx => ⟨[.int k x], rfl, ⟨rfl, hw x (List.mem_of_getElem? hx)⟩, fun j u hu => ?_⟩⟩⟩
  match j, hu with
  | 0, hu =>
    simp only [List.getElem?_cons_zero, Option.some.injEq] at hu
    subst hu
    rw [add_mk, add_mk]
    simp [GH.cell?, hG, hx]
theorem v_freeze1 {P : Program} {fn : Func} {n : Nat} {B : Base} {Φ : Value → GH → OH → Prop} {k : List It} {σ : Env} {G : GH} {μ : OH} {b : Nat} {o : Obj} (h : ∀ G', GH.le G G' → G' b = some o → Vc P fn n B Φ k σ G' μ) : Vc P fn n B Φ k σ G ((b, o) :: μ) :=
  v_freeze (ν := [(b, o)]) fun G' hle hG => h G' hle (hG b o (List.Mem.head _))
/-- What was frozen on the way need not be told of. -/
theorem Step.thaw {G G' : GH} {μ μ' : OH} {w w' : World} (h : Step G μ w G' μ' w') : Step G μ w G μ' w' where
  mem := ⟨fun b o hb => h.mem.g b o (h.le b o hb), h.mem.own, h.mem.nodup, fun b o hb => by
    have := h.mem.apart b o hb
    cases hG : G b with
    | none => rfl
    | some o' => rw [h.le b o' hG] at this; cases this⟩
  le := GH.le_refl _
  os := h.os
  tape := h.tape
  output := h.output
  size := h.size
  same := h.same
  mine := h.mine
  ours := fun b o hb => .inl ⟨o, hb⟩
theorem Con.thaw {P : Program} {f : FuncId} {args : Array Value} {G : GH} {μ : OH} {Ψ : Value → OH → Prop} (h : Con P f args G μ (fun v _ μ' => Ψ v μ')) : Con P f args G μ (fun v G' μ' => G' = G ∧ Ψ v μ') :=
  fun w hw => (h w hw).mono fun _ _ ⟨G', μ', hs, hΨ⟩ => ⟨G, μ', hs.thaw, rfl, hΨ⟩
theorem Con.just {P : Program} {f : FuncId} {args : Array Value} {G : GH} {r : Value} (h : Con P f args G [] (fun v _ μ' => v = r ∧ μ' = [])) : Con P f args G [] (Just r G) :=
  h.thaw.mono fun _ _ _ ⟨h1, h2, h3⟩ => ⟨h2, h1, h3⟩
theorem Con.keeps {P : Program} {f : FuncId} {args : Array Value} {G : GH} {μ : OH} {r : Value} (h : Con P f args G μ (fun v _ μ' => v = r ∧ μ' = μ)) : Con P f args G μ (Keeps r G μ) :=
  h.thaw.mono fun _ _ _ ⟨h1, h2, h3⟩ => ⟨h2, h1, h3⟩
/-! ### Slices of integers, appended -/
theorem Src.ints {G : GH} {μ : OH} {k : IntKind} {v : Value} {l : List Int} (h : Sl G 1 (IntR k) v l) : Src G μ v l.length 1 (l.map (.int k ·)) := by
  obtain ⟨A, c, rfl, h1, h2, h3, h4, _⟩ := h.openInt
  refine ⟨by simp, A, c, rfl, fun h0 => ?_⟩
  have hA := h3 h0
  cases A with
  | none => cases hA
  | some a =>
    refine ⟨a, rfl, CellsAt.frozen fun j u hu => ?_⟩
    rw [List.getElem?_map] at hu
    obtain ⟨x, hx, rfl⟩ := Option.map_eq_some_iff.1 hu
    obtain ⟨hj, rfl⟩ := List.getElem?_eq_some_iff.1 hx
    have := h4 j hj
    rw [Nat.mul_one] at this
    exact this
theorem flatten_ints {k : IntKind} : ∀ l : List Int, (l.map fun x => [Value.int k x]).flatten = l.map (.int k ·)
  | [] => rfl
  | x :: l => by simp [flatten_ints l]
theorem Grow.ints {e : TypeId} {k : IntKind} {v : Value} {l : List Int} {ν : OH} (h : Grow e 1 v l.length (l.map (.int k ·)) ν) {G' : GH} (hG : ∀ b o, (b, o) ∈ ν → G' b = some o) (hw : ∀ x ∈ l, (Lit.int k x).wf = true) : Sl G' 1 (IntR k) v l := by
  rw [← flatten_ints] at h
  refine h.sl hG (by simp) fun i x cs hx hc => ?_
  rw [List.getElem?_map, hx] at hc
  simp only [Option.map_some, Option.some.injEq] at hc
  subst hc
  exact ⟨rfl, rfl, hw x (List.mem_of_getElem? hx)⟩
theorem Grow.empty {e : TypeId} {sz b : Nat} : Grow e sz (.slice (some ⟨b, 0, none⟩) 0 0) 0 [] [(b, .cells ([] : List Value).toArray e (0, 0))] :=
  ⟨by simp, .inr ⟨b, 0, [], rfl, rfl, Nat.le_refl _, by simp [maxLen], by simp⟩⟩
theorem allOne_ints {k : IntKind} (l : List Int) : (l.map (Value.int k ·)).all Value.oneCell' = true := by
  rw [List.all_eq_true]
  intro u hu
  obtain ⟨x, _, rfl⟩ := List.mem_map.1 hu
  rfl
/-! ### In regions that draw -/
section
variable {P : Program} {fn : Func} {n : Nat} {B : Base} {Φ : Value → GH → OH → Prop} {k : List It} {σ : Env} {G G0 : GH} {μ ν : OH} {all : Array Oper} {listed : Array Bool} {m d : Nat} {t ty : TypeId} {pos : String} {af : Array Edge} {bytes : Nat} {zero : Value}
theorem d_buildSlice (i : Nat) {e : TypeId} {agg : Bool} {sz len : Nat} {ps : List (Nat × Operand)} {vs zs cs : List Value} (hi : all[i]? = some ⟨some d, .buildSlice t len ps.toArray, ty, pos, af, none⟩) (hT : Ty P t (.slice e)) (hL : Lay P e agg sz bytes zero) (hr : Region.ready .any all listed = [i])
    (hz : zero.cells = zs.toArray) (hl : ps.map (·.1) = List.range len) (hv : Env.evs σ (ps.map (·.2)) = some vs) (hp : packL sz vs = some cs) (hb : Nat.ble (len * sz) 16777216 = true) (hd : Nat.blt d n = true) (hν : ∀ e ∈ ν, e ∈ μ)
    (h : ∀ b, DVc P fn n B Φ all G0 ν m (listed.setIfInBounds i true) k ((d, .slice (some ⟨b, 0, none⟩) len len) :: σ) G ((b, .cells cs.toArray e (0, 0)) :: μ)) : DVc P fn n B Φ all G0 ν (m + 1) listed k σ G μ :=
  d_exec i hi hr (m_buildSlice hz hl hv hp hb) hd fun _ _ _ ⟨b, h1, h2, h3⟩ => by rw [h1, h2, h3]; exact ⟨fun e he => List.mem_cons_of_mem _ (hν e he), h b⟩
theorem d_append (i : Nat) {e : TypeId} {agg : Bool} {sz : Nat} {s x : Operand} {v u : Value} {q q' : Nat} {xs us : List Value} {ν1 μr : OH} (hi : all[i]? = some ⟨some d, .call { callee := .builtin .append, args := #[s, x], argTypes := #[t, t] }, ty, pos, af, none⟩) (hT : Ty P t (.slice e)) (hL : Lay P e agg sz bytes zero) (hr : Region.ready .any all listed = [i])
    (hzs : zero.cells.size = sz) (hsz : 0 < sz) (hs : Env.ev σ s = some v) (hx : Env.ev σ x = some u) (hg : Grow e sz v q xs ν1) (hp : μ.Perm (ν1 ++ μr)) (hsrc : Src G μ u q' sz us) (h1 : us.all Value.oneCell' = true)
    (hb : (q + q') * bytes ≤ 140737488355328) (hb' : q + q' ≤ maxLen) (hd : Nat.blt d n = true) (hν : ∀ e ∈ ν, e ∈ μr)
    (h : ∀ v' ν', Grow e sz v' (q + q') (xs ++ us) ν' → DVc P fn n B Φ all G0 ν m (listed.setIfInBounds i true) k ((d, v') :: σ) G (ν' ++ μr)) : DVc P fn n B Φ all G0 ν (m + 1) listed k σ G μ :=
  d_exec i hi hr (m_append hzs hsz hs hx hg hp hsrc h1 hb hb') hd fun v' _ _ ⟨ν', h1, h2, h3⟩ => by rw [h2, h3]; exact ⟨fun e he => List.mem_append_right _ (hν e he), h v' ν' h1⟩
end
end Go.Vx
