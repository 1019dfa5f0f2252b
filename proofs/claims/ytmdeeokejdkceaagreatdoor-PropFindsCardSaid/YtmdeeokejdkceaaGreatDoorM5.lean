/-
  The reference 13: a promise that may be; large messages.
-/
import Derived.Test.YtmdeeokejdkceaaGreatDoorM4
import Derived.Test.YtmdeeokejdkceaaGreatDoorM3
import Derived.Maps.RangeRun
import Derived.Maps.Keyed
import Derived.RangeFuncOwn
import Derived.Test.YtmdeeokejdkceaaGreatDoorM1
import Derived.Shelf.SortM.Plain
import Derived.Shelf.SortM.SortNone
import Derived.Shelf.Slices.CompactI
import Derived.Test.YtmdeeokejdkceaaGreatDoorM2
import Derived.Lib.LaidU8T
import Derived.MakeChecks
import Derived.Test.YtmdeeokejdkceaaGreatDoorRows
set_option linter.unusedSimpArgs false
set_option linter.unusedVariables false
namespace Go.Proofs.YtmdeeokejdkceaaGreatDoor
open Go.Vx Go.ChangeShapes Go.WideShapes Go.ChangeAt Go.RowKit
def QMay (r n a : Int) : Prop := mayP r n ∧ 0 < r ∧ 1 ≤ a ∧ a ≤ 4294967296
def TakeP (r n a : Int) (got : List Ms) (m : Ms) : Prop := (m.kind = 4 ∧ PromP m) ∧ (m.round = r ∧ m.node = n) ∧ m.index = a ∧ ∀ x ∈ got, x.src ≠ m.src
noncomputable instance (r n a : Int) (got : List Ms) (m : Ms) : Decidable (TakeP r n a got m) := Classical.propDecidable _
end Go.Proofs.YtmdeeokejdkceaaGreatDoor
/-
  VX, MAPS: a block of ours that is a map, as a list of keys and values; reads, writes, deletions; loops over it.
-/
set_option linter.unusedVariables false
set_option linter.unusedSimpArgs false
set_option linter.unusedSectionVars false
namespace Go.Vx
open Go
open Go.ChangeMaps (setBlock)
attribute [local semireducible] Vc DVc Con PureOp ReadOp MoveOp
structure KeyD (P : Program) (k : TypeId) {α : Type} [DecidableEq α] (mk : α → Value) (d : TypeDesc) : Prop where
  und : P.underlying k = some d
  same : ∀ a b, Instr.sameNow d (mk a) (mk b) = some (decide (a = b))
  check : ∀ (w : World) e a, (Instr.checkKey e 10000 k (mk a)).run P w = .ok () w
  bits : ∀ a, Instr.sameBits 10000 (mk a) (mk a) = true
class KeyT (P : Program) (k : TypeId) {α : Type} [DecidableEq α] (mk : α → Value) : Prop where
  h : ∃ d, KeyD P k mk d
abbrev keyI (a : Int) : Value := .int .i64 a
theorem KeyT.int {P : Program} {k : TypeId} [t : Ty P k (.int .i64)] : KeyT P k keyI :=
  ⟨_, ⟨t.h, fun a b => by simp only [Instr.sameNow, keyI, if_true]; congr 1, fun w e a => MapKept.run_checkKey t.h (show MapKept.IsKey (.int .i64) (.int .i64 a) from rfl) e 9999, fun a => by simp [Instr.sameBits, keyI]⟩⟩
section
variable {α : Type} [DecidableEq α] {mk : α → Value} {P : Program}
def mEnt (mk : α → Value) (x : α × Value × Nat) : MapEntry := ⟨mk x.1, x.2.1, x.2.2⟩
def kv (x : α × Value × Nat) : α × Value := (x.1, x.2.1)
structure MOk (L : List (α × Value × Nat)) (clock : Nat) : Prop where
  keys : (L.map (·.1)).Nodup
  rise : L.Pairwise (fun x y => x.2.2 < y.2.2)
  below : ∀ x ∈ L, x.2.2 < clock
def MapB (mk : α → Value) (l : List (α × Value)) (o : Obj) : Prop := ∃ L clock, o = .map (L.map (mEnt mk)).toArray clock ∧ L.map kv = l ∧ MOk L clock
def IterB (mk : α → Value) (m : Nat) (l : List (α × Value)) (left : List α) (oM oI : Obj) : Prop := ∃ L clock since seen stepped, oM = .map (L.map (mEnt mk)).toArray clock ∧ L.map kv = l ∧ MOk L clock ∧
  (∀ x ∈ L, x.2.2 < since) ∧ since ≤ stepped ∧ since ≤ clock ∧ oI = .mapIter (some m) since seen stepped ∧ left = (L.filter fun x => !seen.contains x.2.2).map (·.1)
theorem MapB.nodup {l : List (α × Value)} {o : Obj} (h : MapB mk l o) : (l.map (·.1)).Nodup := by
  obtain ⟨L, c, -, rfl, h3⟩ := h
  simpa [List.map_map, Function.comp_def, kv] using h3.keys
theorem MapB.nil : MapB mk [] (.map #[] 0) := ⟨[], 0, rfl, rfl, ⟨by simp, by simp, by simp⟩⟩
def mget (l : List (α × Value)) (k : α) : Option Value := (l.find? fun x => decide (x.1 = k)).map (·.2)
def mput (l : List (α × Value)) (k : α) (v : Value) : List (α × Value) := if k ∈ l.map (·.1) then l.map (fun x => if x.1 = k then (k, v) else x) else l ++ [(k, v)]
theorem findNow_no {d : TypeDesc} (hs : ∀ a b, Instr.sameNow d (mk a) (mk b) = some (decide (a = b))) {k : α} : ∀ {L : List (α × Value × Nat)} {i : Nat}, k ∉ L.map (·.1) → Instr.findNow d (mk k) (L.map (mEnt mk)) i = some none
  | [], i, _ => rfl
  | x :: L, i, h => by
    rw [List.map_cons, List.mem_cons, not_or] at h
    simp only [List.map_cons, Instr.findNow, mEnt, hs, decide_eq_false h.1]
    exact findNow_no hs h.2
theorem findNow_at {d : TypeDesc} (hs : ∀ a b, Instr.sameNow d (mk a) (mk b) = some (decide (a = b))) {k : α} {v : Value} {b : Nat} {L2 : List (α × Value × Nat)} : ∀ {L1 : List (α × Value × Nat)} {i : Nat}, k ∉ L1.map (·.1) → Instr.findNow d (mk k) ((L1 ++ (k, v, b) :: L2).map (mEnt mk)) i = some (some (i + L1.length, v))
  | [], i, _ => by simp only [List.nil_append, List.map_cons, Instr.findNow, mEnt, hs, decide_true, List.length_nil, Nat.add_zero]
  | x :: L, i, h => by
    rw [List.map_cons, List.mem_cons, not_or] at h
    simp only [List.cons_append, List.map_cons, Instr.findNow, mEnt, hs, decide_eq_false h.1]
    have := findNow_at (L2 := L2) hs (v := v) (b := b) (i := i + 1) h.2
    simp only [List.map_append, List.map_cons, mEnt] at this ⊢
    rw [this, List.length_cons]
    congr 3
    omega
theorem key_cases (L : List (α × Value × Nat)) (k : α) (hn : (L.map (·.1)).Nodup) : k ∉ L.map (·.1) ∨ ∃ L1 v b L2, L = L1 ++ (k, v, b) :: L2 ∧ k ∉ L1.map (·.1) ∧ k ∉ L2.map (·.1) := by
  by_cases h : k ∈ L.map (·.1)
  · right
    obtain ⟨⟨k', v, b⟩, hx, rfl⟩ := List.mem_map.1 h
    obtain ⟨L1, L2, rfl⟩ := List.append_of_mem hx
    rw [List.map_append, List.map_cons, List.nodup_append] at hn
    obtain ⟨n1, n2, n3⟩ := hn
    rw [List.nodup_cons] at n2
    exact ⟨L1, v, b, L2, rfl, fun h1 => n3 _ h1 _ List.mem_cons_self rfl, n2.1⟩
  · exact .inl h
theorem run_findKey {k : TypeId} {d : TypeDesc} (hK : KeyD P k mk d) (w : World) {a : α} {es : List MapEntry} {r : Option (Nat × Value)} (h : Instr.findNow d (mk a) es 0 = some r) : (Instr.findKey k (mk a) es).run P w = .ok r w := by
  unfold Instr.findKey
  rw [Sem.run_bind, run_underlying hK.und]
  simp only [Result.andThen_ok, h]
  rfl
theorem mget_no {l : List (α × Value)} {k : α} (h : k ∉ l.map (·.1)) : mget l k = none := by
  unfold mget
  rw [List.find?_eq_none.2 fun x hx => by
    rw [decide_eq_true_iff]
    exact fun e => h (List.mem_map.2 ⟨x, hx, e⟩)]
  rfl
theorem mget_at {l1 l2 : List (α × Value)} {k : α} {v : Value} (h : k ∉ l1.map (·.1)) : mget (l1 ++ (k, v) :: l2) k = some v := by
  unfold mget
  rw [List.find?_append, List.find?_eq_none.2 fun x hx => by
    rw [decide_eq_true_iff]
    exact fun e => h (List.mem_map.2 ⟨x, hx, e⟩)]
  simp
theorem map_ne {l : List (α × Value)} {k : α} {v : Value} (h : k ∉ l.map (·.1)) : l.map (fun x => if x.1 = k then (k, v) else x) = l := by
  conv => rhs; rw [← List.map_id l]
  exact List.map_congr_left fun x hx => by
    rw [if_neg fun e => h (List.mem_map.2 ⟨x, hx, e⟩)]
    rfl
theorem mput_no {l : List (α × Value)} {k : α} {v : Value} (h : k ∉ l.map (·.1)) : mput l k v = l ++ [(k, v)] := if_neg h
theorem mput_at {l1 l2 : List (α × Value)} {k : α} {u v : Value} (h1 : k ∉ l1.map (·.1)) (h2 : k ∉ l2.map (·.1)) : mput (l1 ++ (k, u) :: l2) k v = l1 ++ (k, v) :: l2 := by
  unfold mput
  rw [if_pos (by simp), List.map_append, List.map_cons, map_ne h1, map_ne h2, if_pos rfl]
theorem kv_keys (L : List (α × Value × Nat)) : (L.map kv).map (·.1) = L.map (·.1) := by simp [kv, Function.comp_def]
theorem Step.setBlock {G : GH} {μ μ' : OH} {w : World} {b : Nat} {o : Obj} (h : Mem G μ w) (hu : Upd b o μ μ') : Step G μ w G μ' (Go.ChangeMaps.setBlock w b o) := by
  obtain ⟨o0, h0⟩ := hu.was
  have hlt := lt_of_heap (h.own _ _ h0)
  refine Step.upd h hu rfl rfl rfl (by simp [Go.ChangeMaps.setBlock]) ?_ fun c hc => ?_
  · simp [Go.ChangeMaps.setBlock, hlt]
  · simp [Go.ChangeMaps.setBlock, Array.getElem?_setIfInBounds, Ne.symm hc]
theorem Step.setBlockP {G : GH} {μ r : OH} {w : World} {b : Nat} {o o' : Obj} (h : Mem G μ w) (hp : μ.Perm ((b, o) :: r)) : Step G μ w G ((b, o') :: r) (Go.ChangeMaps.setBlock w b o') :=
  (Step.setBlock (h.perm hp) (Upd.here o r)).permL hp.symm
end
section
variable {α : Type} [DecidableEq α] {mk : α → Value} {P : Program} {ty : TypeId} {σ : Env} {G : GH} {μ r : OH} {t k e : TypeId} {bytes sz : Nat} {agg : Bool} {zero : Value}
theorem m_makeMap : MoveOp P (.makeMap t none) ty σ G μ (fun v G' μ' => ∃ b, v = .map (some b) ∧ G' = G ∧ μ' = (b, .map #[] 0) :: μ) := by
  intro dst pos af g ρ hρ w hw a K Q hK
  have hr : (execOp ρ ⟨dst, .makeMap t none, ty, pos, af, g⟩).run P w = .ok (.value (.map (some w.heap.size))) (w.alloc (.map #[] 0)) := by
    simp [execOp, Instr.makeMap]
  rw [hr]
  exact hK _ _ _ _ (Step.alloc hw _) ⟨_, rfl, rfl, rfl⟩
theorem run_lookup [tm : Ty P t (.map k e)] [kt : KeyT P k mk] [Lay P e agg sz bytes zero] {l : List (α × Value)} {m : Nat} {oM : Obj} {w : World} (hb : w.heap[m]? = some oM) (hM : MapB mk l oM) (a : α) (ok : Bool) :
    (Instr.lookup t (.map (some m)) (mk a) ok).run P w = .ok (if ok then .tuple #[(mget l a).getD zero, .bool (mget l a).isSome] else (mget l a).getD zero) w := by
  obtain ⟨L, c, rfl, rfl, hok⟩ := hM
  obtain ⟨d, hK⟩ := kt.h
  have ht : P.underlying t = some (.map k e) := Ty.h
  rcases key_cases L a hok.keys with h | ⟨L1, v, b, L2, rfl, h1, h2⟩
  · have hf := run_findKey hK w (findNow_no (mk := mk) (i := 0) hK.same h)
    rw [mget_no (by rw [kv_keys]; exact h)]
    simp [Instr.lookup, run_underlying ht, MapKept.run_getObj_map hb, hK.check, hf, run_zeroOf (P := P) (t := e) (agg := agg) (size := sz) (bytes := bytes) (zero := zero), Result.andThen]
  · have hf := run_findKey hK w (findNow_at (mk := mk) (v := v) (b := b) (L2 := L2) (i := 0) hK.same h1)
    rw [List.map_append, List.map_cons, show kv (a, v, b) = (a, v) from rfl, mget_at (by rw [kv_keys]; exact h1)]
    simp only [List.map_append, List.map_cons] at hf hb
    simp [Instr.lookup, run_underlying ht, MapKept.run_getObj_map hb, hK.check, hf, Result.andThen]
theorem r_lookup {x i : Operand} {m : Nat} {oM : Obj} {l : List (α × Value)} (a : α) [tm : Ty P t (.map k e)] [kt : KeyT P k mk] [Lay P e agg sz bytes zero] (hx : Env.ev σ x = some (.map (some m))) (hi : Env.ev σ i = some (mk a)) (hb : (m, oM) ∈ μ) (hM : MapB mk l oM) :
    ReadOp P (.lookup t x i false) ty σ G μ ((mget l a).getD zero) := by
  intro dst pos af g ρ hρ w hw
  have := run_lookup (P := P) (t := t) (k := k) (e := e) (agg := agg) (sz := sz) (bytes := bytes) (zero := zero) (hw.own _ _ hb) hM a false
  simp [execOp, hρ _ _ hx, hρ _ _ hi, this]
theorem r_lookupOk {x i : Operand} {m : Nat} {oM : Obj} {l : List (α × Value)} (a : α) [tm : Ty P t (.map k e)] [kt : KeyT P k mk] [Lay P e agg sz bytes zero] (hx : Env.ev σ x = some (.map (some m))) (hi : Env.ev σ i = some (mk a)) (hb : (m, oM) ∈ μ) (hM : MapB mk l oM) :
    ReadOp P (.lookup t x i true) ty σ G μ (.tuple #[(mget l a).getD zero, .bool (mget l a).isSome]) := by
  intro dst pos af g ρ hρ w hw
  have := run_lookup (P := P) (t := t) (k := k) (e := e) (agg := agg) (sz := sz) (bytes := bytes) (zero := zero) (hw.own _ _ hb) hM a true
  simp [execOp, hρ _ _ hx, hρ _ _ hi, this]
theorem MOk.parts {L1 L2 : List (α × Value × Nat)} {a : α} {v : Value} {b c : Nat} (h : MOk (L1 ++ (a, v, b) :: L2) c) (u : Value) : MOk (L1 ++ (a, u, b) :: L2) c := by
  obtain ⟨h1, h2, h3⟩ := h
  refine ⟨by simpa using h1, ?_, fun x hx => ?_⟩
  · rw [List.pairwise_append, List.pairwise_cons] at h2 ⊢
    refine ⟨h2.1, ⟨h2.2.1.1, h2.2.1.2⟩, fun x hx y hy => ?_⟩
    rcases List.mem_cons.1 hy with rfl | hy
    · exact h2.2.2 x hx (a, v, b) List.mem_cons_self
    · exact h2.2.2 x hx y (List.mem_cons_of_mem _ hy)
  · rcases List.mem_append.1 hx with hx | hx
    · exact h3 x (List.mem_append_left _ hx)
    · rcases List.mem_cons.1 hx with rfl | hx
      · exact h3 (a, v, b) (List.mem_append_right _ List.mem_cons_self)
      · exact h3 x (List.mem_append_right _ (List.mem_cons_of_mem _ hx))
theorem modify_at (f : MapEntry → MapEntry) (es1 : List MapEntry) (x : MapEntry) (es2 : List MapEntry) : (es1 ++ x :: es2).toArray.modify es1.length f = (es1 ++ f x :: es2).toArray := by
  apply Array.ext'
  rw [Array.toList_modify]
  simp only
  induction es1 with
  | nil => rfl
  | cons y es1 ih => simpa using ih
def KeepIt (mk : α → Value) (l : List (α × Value)) (a : α) (v : Value) (oM oM' : Obj) : Prop := ∀ m left oI, a ∈ l.map (·.1) → IterB mk m l left oM oI → IterB mk m (mput l a v) left oM' oI
theorem mEnt_inj {mk : α → Value} (hmk : ∀ a b, mk a = mk b → a = b) {L L' : List (α × Value × Nat)} (h : L.map (mEnt mk) = L'.map (mEnt mk)) : L = L' := by
  induction L generalizing L' with
  | nil => cases L' with
    | nil => rfl
    | cons x L' => simp at h
  | cons x L ih => cases L' with
    | nil => simp at h
    | cons y L' =>
      simp only [List.map_cons, List.cons.injEq] at h
      obtain ⟨h1, h2⟩ := h
      rw [ih h2]
      obtain ⟨a, v, b⟩ := x
      obtain ⟨a', v', b'⟩ := y
      simp only [mEnt, MapEntry.mk.injEq] at h1
      rw [hmk _ _ h1.1, h1.2.1, h1.2.2]
theorem KeyT.inj (kt : KeyT P k mk) (a b : α) (h : mk a = mk b) : a = b := by
  obtain ⟨d, hK⟩ := kt.h
  have h1 := hK.same a b
  have h2 := hK.same b b
  rw [h] at h1
  rw [h1] at h2
  simpa using h2
theorem m_mapUpdate {x i y : Operand} {m : Nat} {oM : Obj} {l : List (α × Value)} {v : Value} (a : α) [tm : Ty P t (.map k e)] [kt : KeyT P k mk] (hx : Env.ev σ x = some (.map (some m))) (hi : Env.ev σ i = some (mk a)) (hy : Env.ev σ y = some v) (hp : μ.Perm ((m, oM) :: r)) (hM : MapB mk l oM) :
    MoveOp P (.mapUpdate t x i y) ty σ G μ (fun _ G' μ' => ∃ oM', MapB mk (mput l a v) oM' ∧ KeepIt mk l a v oM oM' ∧ G' = G ∧ μ' = (m, oM') :: r) := by
  intro dst pos af g ρ hρ w hw A K Q hK
  have hb := hw.own m oM (hp.mem_iff.2 List.mem_cons_self)
  have hmk := kt.inj
  obtain ⟨L, c, rfl, rfl, hok⟩ := hM
  obtain ⟨d, hKd⟩ := kt.h
  have ht : P.underlying t = some (.map k e) := Ty.h
  rcases key_cases L a hok.keys with h | ⟨L1, u, b, L2, rfl, h1, h2⟩
  · have hf := run_findKey hKd w (findNow_no (mk := mk) (i := 0) hKd.same h)
    have hr : (execOp ρ ⟨dst, .mapUpdate t x i y, ty, pos, af, g⟩).run P w = .ok .skip (setBlock w m (.map ((L ++ [(a, v, c)]).map (mEnt mk)).toArray (c + 1))) := by
      simp [execOp, hρ _ _ hx, hρ _ _ hi, hρ _ _ hy, Instr.mapUpdate, run_underlying ht, MapKept.run_getObj_map hb, hKd.check, hf, MapKept.run_setObj_map _ hb, Result.andThen, setBlock, mEnt]
    rw [hr]
    refine hK _ _ _ _ (Step.setBlockP hw hp) ⟨_, ⟨L ++ [(a, v, c)], c + 1, rfl, ?_, ?_⟩, ?_, rfl, rfl⟩
    · rw [mput_no (by rw [kv_keys]; exact h)]
      simp [kv]
    · refine ⟨?_, ?_, fun y hy => ?_⟩
      · rw [List.map_append, List.nodup_append]
        refine ⟨hok.keys, by simp, fun z hz z' hz' e => ?_⟩
        simp only [List.map_cons, List.map_nil, List.mem_singleton] at hz'
        subst hz' e
        exact h hz
      · rw [List.pairwise_append]
        refine ⟨hok.rise, by simp, fun z hz z' hz' => ?_⟩
        rw [List.mem_singleton] at hz'
        subst hz'
        exact hok.below z hz
      · rcases List.mem_append.1 hy with hy | hy
        · have := hok.below y hy; omega
        · rw [List.mem_singleton] at hy
          subst hy
          exact Nat.lt_succ_self _
    · intro m left oI ha
      rw [kv_keys] at ha
      exact absurd ha h
  · have hf := run_findKey hKd w (findNow_at (mk := mk) (v := u) (b := b) (L2 := L2) (i := 0) hKd.same h1)
    have hlen : (L1.map (mEnt mk)).length = L1.length := by simp
    have hmod := modify_at (fun e => { e with key := mk a, val := v }) (L1.map (mEnt mk)) (mEnt mk (a, u, b)) (L2.map (mEnt mk))
    rw [hlen] at hmod
    have hr : (execOp ρ ⟨dst, .mapUpdate t x i y, ty, pos, af, g⟩).run P w = .ok .skip (setBlock w m (.map ((L1 ++ (a, v, b) :: L2).map (mEnt mk)).toArray c)) := by
      simp only [List.map_append, List.map_cons] at hf hb ⊢
      have hget : ((L1.map (mEnt mk) ++ mEnt mk (a, u, b) :: L2.map (mEnt mk)).toArray)[L1.length]? = some (mEnt mk (a, u, b)) := by
        rw [List.getElem?_toArray, List.getElem?_append_right (by simp)]
        simp
      have hks : ∀ w, (Instr.keyThatStays (mk a) (mk a)).run P w = .ok (mk a) w := fun w => by simp [Instr.keyThatStays, hKd.bits]
      simp only [execOp, hρ _ _ hx, hρ _ _ hi, hρ _ _ hy, Instr.mapUpdate, Sem.run_bind, run_underlying ht, Result.andThen_ok, MapKept.run_getObj_map hb, hKd.check, hf, Nat.zero_add, hget, Option.map_some, Option.getD_some]
      simp only [mEnt] at hks hmod ⊢
      simp only [hks, Result.andThen_ok]
      rw [hmod, MapKept.run_setObj_map _ hb]
      rfl
    rw [hr]
    refine hK _ _ _ _ (Step.setBlockP hw hp) ⟨_, ⟨L1 ++ (a, v, b) :: L2, c, rfl, ?_, hok.parts v⟩, ?_, rfl, rfl⟩
    · rw [List.map_append, List.map_append, List.map_cons, List.map_cons, show kv (a, u, b) = (a, u) from rfl, mput_at (by rw [kv_keys]; exact h1) (by rw [kv_keys]; exact h2)]
      rfl
    · rintro m' left oI - ⟨L', c', since, seen, stepped, e1, e2, e3, e4, e5, e6, e7, e8⟩
      injection e1 with e1 e1'
      obtain rfl : L1 ++ (a, u, b) :: L2 = L' := mEnt_inj hmk (by simpa using e1)
      subst e1'
      refine ⟨L1 ++ (a, v, b) :: L2, c, since, seen, stepped, rfl, ?_, hok.parts v, fun z hz => ?_, e5, e6, e7, ?_⟩
      · rw [List.map_append, List.map_append, List.map_cons, List.map_cons, show kv (a, u, b) = (a, u) from rfl, mput_at (by rw [kv_keys]; exact h1) (by rw [kv_keys]; exact h2)]
        rfl
      · rcases List.mem_append.1 hz with hz | hz
        · exact e4 z (List.mem_append_left _ hz)
        · rcases List.mem_cons.1 hz with rfl | hz
          · exact e4 (a, u, b) (List.mem_append_right _ List.mem_cons_self)
          · exact e4 z (List.mem_append_right _ (List.mem_cons_of_mem _ hz))
      · rw [e8, List.filter_append, List.filter_append, List.filter_cons, List.filter_cons]
        simp only
        split <;> simp
theorem m_rangeM {x : Operand} {m : Nat} {oM : Obj} {l : List (α × Value)} [tm : Ty P t (.map k e)] (hx : Env.ev σ x = some (.map (some m))) (hb : (m, oM) ∈ μ) (hM : MapB mk l oM) :
    MoveOp P (.range t x) ty σ G μ (fun v G' μ' => ∃ b oI, IterB mk m l (l.map (·.1)) oM oI ∧ v = .pointer (some ⟨b, 0, none⟩) ∧ G' = G ∧ μ' = (b, oI) :: μ) := by
  intro dst pos af g ρ hρ w hw A K Q hK
  obtain ⟨L, c, rfl, rfl, hok⟩ := hM
  have hb' := hw.own _ _ hb
  have ht : P.underlying t = some (.map k e) := Ty.h
  have hr : (execOp ρ ⟨dst, .range t x, ty, pos, af, g⟩).run P w = .ok (.value (.pointer (some ⟨w.heap.size, 0, none⟩))) (w.alloc (.mapIter (some m) c #[] c)) := by
    simp [execOp, hρ _ _ hx, Instr.range, run_underlying ht, MapKept.run_getObj_map hb', Result.andThen]
  rw [hr]
  refine hK _ _ _ _ (Step.alloc hw _) ⟨_, _, ⟨L, c, c, #[], c, rfl, rfl, hok, hok.below, Nat.le_refl _, Nat.le_refl _, rfl, ?_⟩, rfl, rfl, rfl⟩
  rw [List.filter_eq_self.2 (by simp), kv_keys]
def EntB (mk : α → Value) (m : Nat) (a : α) (u : Value) (oM oI : Obj) : Prop := ∃ (L : List (α × Value × Nat)) (clock since : Nat) (seen : Array Nat) (b : Nat), oM = .map (L.map (mEnt mk)).toArray clock ∧ MOk L clock ∧ oI = .mapIter (some m) since (seen.push b) clock ∧ (a, u, b) ∈ L
theorem r_entry {x : Operand} {m it : Nat} {oM oI : Obj} {a : α} {u : Value} (hx : Env.ev σ x = some (.pointer (some ⟨it, 0, none⟩))) (hi : (it, oI) ∈ μ) (hb : (m, oM) ∈ μ) (hE : EntB mk m a u oM oI) : ReadOp P (.entry x) ty σ G μ (.tuple #[mk a, u]) := by
  intro dst pos af g ρ hρ w hw
  have hbI := hw.own _ _ hi
  have hbM := hw.own _ _ hb
  obtain ⟨L, c, since, seen, b, rfl, hok, rfl, hm⟩ := hE
  have hn : ((L.map (mEnt mk)).toArray.toList.map (·.born)).Nodup := by
    show ((L.map (mEnt mk)).map (·.born)).Nodup
    rw [List.map_map, List.Nodup, List.pairwise_map]
    exact hok.rise.imp fun h => Nat.ne_of_lt h
  have := run_entry_at (P := P) w it m since seen _ c (mEnt mk (a, u, b)) hbI hbM (show mEnt mk (a, u, b) ∈ L.map (mEnt mk) from List.mem_map.2 ⟨_, hm, rfl⟩) hn
  simp [execOp, hρ _ _ hx, this, mEnt]
theorem m_nextM {x : Operand} {m it : Nat} {oM oI : Obj} {l : List (α × Value)} {left : List α} [kt : KeyT P k mk] (hx : Env.ev σ x = some (.pointer (some ⟨it, 0, none⟩))) (hp : μ.Perm ((it, oI) :: r)) (hb : (m, oM) ∈ μ) (hI : IterB mk m l left oM oI) :
    MoveOp P (.next x false) ty σ G μ (fun v G' μ' => G' = G ∧ ((left = [] ∧ v = .tuple #[.bool false] ∧ μ' = (it, oI) :: r) ∨ ∃ a u oI', a ∈ left ∧ (a, u) ∈ l ∧ IterB mk m l (left.filter fun z => decide (z ≠ a)) oM oI' ∧ EntB mk m a u oM oI' ∧ v = .tuple #[.bool true, mk a, u] ∧ μ' = (it, oI') :: r)) := by
  intro dst pos af g ρ hρ w hw A K Q hK
  have hbI := hw.own it oI (hp.mem_iff.2 List.mem_cons_self)
  have hbM := hw.own _ _ hb
  obtain ⟨L, c, since, seen, stepped, rfl, rfl, hok, e4, e5, e6, rfl, rfl⟩ := hI
  have hold : ∀ y ∈ ((L.map (mEnt mk)).toArray).toList, y.born < since := fun y hy => by
    obtain ⟨z, hz, rfl⟩ := List.mem_map.1 (show y ∈ L.map (mEnt mk) from hy)
    exact e4 z hz
  have hleft : (leftOf (L.map (mEnt mk)).toArray seen).toList = (L.filter fun x => !seen.contains x.2.2).map (mEnt mk) := by
    unfold leftOf
    rw [Array.toList_filter, List.filter_map]
    rfl
  rcases run_next_at (P := P) w ty it m since stepped seen _ c hbI hbM hold e5 with ⟨h0, hr⟩ | ⟨e0, he, w1, hw1, hr⟩
  · have hr' : (execOp ρ ⟨dst, .next x false, ty, pos, af, g⟩).run P w = .ok (.value (.tuple #[.bool false])) w := by
      simp [execOp, hρ _ _ hx, hr]
    rw [hr']
    refine hK _ _ _ _ (((Step.refl (hw.perm hp)).permL hp.symm)) ⟨rfl, .inl ⟨?_, rfl, rfl⟩⟩
    have : (leftOf (L.map (mEnt mk)).toArray seen).toList = [] := by
      rw [← Array.length_toList, List.length_eq_zero_iff] at h0
      exact h0
    rw [hleft, List.map_eq_nil_iff] at this
    rw [this]
    rfl
  · rw [hleft] at he
    obtain ⟨⟨a, u, b⟩, hz, rfl⟩ := List.mem_map.1 he
    have hr' : (execOp ρ ⟨dst, .next x false, ty, pos, af, g⟩).run P w = .ok (.value (.tuple #[.bool true, mk a, u])) (setBlock w1 it (.mapIter (some m) since (seen.push b) c)) := by
      simp [execOp, hρ _ _ hx, hr, mEnt]
    rw [hr']
    have hzL := (List.mem_filter.1 hz).1
    have hst : Step G μ w G ((it, .mapIter (some m) since (seen.push b) c) :: r) (setBlock w1 it (.mapIter (some m) since (seen.push b) c)) := by
      rcases hw1 with rfl | rfl
      · exact Step.setBlockP hw hp
      · exact (Step.drew hw 1).trans (Step.setBlockP (Step.drew hw 1).mem hp)
    refine hK _ _ _ _ hst ⟨rfl, .inr ⟨a, u, _, List.mem_map.2 ⟨_, hz, rfl⟩, List.mem_map.2 ⟨_, hzL, rfl⟩, ⟨L, c, since, seen.push b, c, rfl, rfl, hok, e4, Nat.le_trans e6 (Nat.le_refl _), e6, rfl, ?_⟩, ⟨L, c, since, seen, b, rfl, hok, rfl, hzL⟩, rfl, rfl⟩⟩
    -- the keys and the stamps go together
    have key : ∀ y ∈ L, y.2.2 = b ↔ y.1 = a := fun y hy => by
      constructor
      · intro h
        by_cases hya : y = (a, u, b)
        · rw [hya]
        · let R : α × Value × Nat → α × Value × Nat → Prop := fun x y => x ≠ y → x.2.2 ≠ y.2.2
          have p1 : L.Pairwise R := hok.rise.imp fun {x y} h (_ : x ≠ y) => Nat.ne_of_lt h
          have p2 : L.Pairwise (flip R) := hok.rise.imp fun {x y} h (_ : y ≠ x) => (Nat.ne_of_lt h).symm
          exact absurd h (List.Pairwise.forall_of_forall_of_flip (R := R) (fun x _ h => absurd rfl h) p1 p2 hy hzL hya)
      · rintro h
        by_cases hya : y = (a, u, b)
        · rw [hya]
        · have hk := hok.keys
          rw [List.Nodup, List.pairwise_map] at hk
          let R : α × Value × Nat → α × Value × Nat → Prop := fun x y => x ≠ y → x.1 ≠ y.1
          have p1 : L.Pairwise R := hk.imp fun {x y} h (_ : x ≠ y) => h
          have p2 : L.Pairwise (flip R) := hk.imp fun {x y} h (_ : y ≠ x) => Ne.symm h
          exact absurd h (List.Pairwise.forall_of_forall_of_flip (R := R) (fun x _ h => absurd rfl h) p1 p2 hy hzL hya)
    rw [List.filter_map, List.filter_filter]
    congr 1
    apply List.filter_congr
    intro y hy
    have := key y hy
    simp only [Function.comp, Array.contains_push, Bool.not_or]
    by_cases hya : y.1 = a
    · have hb' := this.2 hya
      simp [hya, hb']
    · have hb' : ¬ y.2.2 = b := fun h => hya (this.1 h)
      simp [hya, hb']
end
section
variable {α : Type} [DecidableEq α] {mk : α → Value} {P : Program} {fn : Func} {n : Nat} {B : Base} {Φ : Value → GH → OH → Prop} {kk : List It} {σ : Env} {G : GH} {μ r : OH} {all : Array Oper} {rest : List Oper} {d : Nat} {ty : TypeId} {pos : String} {af : Array Edge} {t k e : TypeId} {bytes sz : Nat} {agg : Bool} {zero : Value}
theorem v_makeMap (hd : Nat.blt d n = true) (h : ∀ b, Vc P fn n B Φ (.ops all rest :: kk) ((d, .map (some b)) :: σ) G ((b, .map #[] 0) :: μ)) : Vc P fn n B Φ (.ops all (⟨some d, .makeMap t none, ty, pos, af, none⟩ :: rest) :: kk) σ G μ :=
  v_move m_makeMap hd fun _ _ _ ⟨b, h1, h2, h3⟩ => by rw [h1, h2, h3]; exact h b
theorem v_rangeM {x : Operand} {m : Nat} {oM : Obj} {l : List (α × Value)} [tm : Ty P t (.map k e)] (hx : Env.ev σ x = some (.map (some m))) (hb : (m, oM) ∈ μ) (hM : MapB mk l oM) (hd : Nat.blt d n = true)
    (h : ∀ b oI, IterB mk m l (l.map (·.1)) oM oI → Vc P fn n B Φ (.ops all rest :: kk) ((d, .pointer (some ⟨b, 0, none⟩)) :: σ) G ((b, oI) :: μ)) : Vc P fn n B Φ (.ops all (⟨some d, .range t x, ty, pos, af, none⟩ :: rest) :: kk) σ G μ :=
  v_move (m_rangeM hx hb hM) hd fun _ _ _ ⟨b, oI, h1, h2, h3, h4⟩ => by rw [h2, h3, h4]; exact h b oI h1
theorem v_nextM {x : Operand} {m it : Nat} {oM oI : Obj} {l : List (α × Value)} {left : List α} [kt : KeyT P k mk] (hx : Env.ev σ x = some (.pointer (some ⟨it, 0, none⟩))) (hp : μ.Perm ((it, oI) :: r)) (hb : (m, oM) ∈ μ) (hI : IterB mk m l left oM oI) (hd : Nat.blt d n = true)
    (h0 : left = [] → Vc P fn n B Φ (.ops all rest :: kk) ((d, .tuple #[.bool false]) :: σ) G ((it, oI) :: r))
    (h1 : ∀ a u oI', a ∈ left → (a, u) ∈ l → IterB mk m l (left.filter fun z => decide (z ≠ a)) oM oI' → EntB mk m a u oM oI' → Vc P fn n B Φ (.ops all rest :: kk) ((d, .tuple #[.bool true, mk a, u]) :: σ) G ((it, oI') :: r)) :
    Vc P fn n B Φ (.ops all (⟨some d, .next x false, ty, pos, af, none⟩ :: rest) :: kk) σ G μ :=
  v_move (m_nextM (k := k) hx hp hb hI) hd fun _ _ _ ⟨hG, hh⟩ => by
    subst hG
    rcases hh with ⟨e1, e2, e3⟩ | ⟨a, u, oI', e1, e2, e3, e3b, e4, e5⟩
    · rw [e2, e3]; exact h0 e1
    · rw [e4, e5]; exact h1 a u oI' e1 e2 e3 e3b
end
end Go.Vx
/-
  prop (layer 33): New, Take.
-/
set_option linter.unusedSimpArgs false
set_option linter.unusedVariables false
namespace Go.Proofs.YtmdeeokejdkceaaGreatDoor
open Go.Vx Go.ChangeShapes Go.WideShapes Go.ChangeAt Go.RowKit
abbrev qO (r n a : Int) (m : Nat) : Obj := .cells [.int .i64 r, .int .i64 n, .int .i64 a, .map (some m)].toArray 177 (0, 0)
def GotR (G : GH) (got : List Ms) (ml : List (Int × Value)) : Prop := ml.length = got.length ∧ ∀ i (h : i < got.length) (h' : i < ml.length), ml[i].1 = got[i].src ∧ ∃ cs, ml[i].2 = .agg cs.toArray ∧ MsR G got[i] cs
theorem GotR.le {G G' : GH} (hle : GH.le G G') {got : List Ms} {ml : List (Int × Value)} (h : GotR G got ml) : GotR G' got ml :=
  ⟨h.1, fun i h1 h2 => let ⟨a, cs, b, c⟩ := h.2 i h1 h2; ⟨a, cs, b, c.le hle⟩⟩
theorem GotR.nil {G : GH} : GotR G [] [] := ⟨rfl, fun i h => by simp at h⟩
theorem GotR.keys {G : GH} {got : List Ms} {ml : List (Int × Value)} (h : GotR G got ml) : ml.map (·.1) = got.map (·.src) := by
  apply List.ext_getElem
  · simp [h.1]
  · intro i h1 h2
    simp only [List.getElem_map]
    exact (h.2 i (by simpa using h2) (by simpa using h1)).1
theorem GotR.snoc {G : GH} {got : List Ms} {ml : List (Int × Value)} {m : Ms} {cs : List Value} (h : GotR G got ml) (hm : MsR G m cs) : GotR G (got ++ [m]) (ml ++ [(m.src, .agg cs.toArray)]) := by
  refine ⟨by simp [h.1], fun i h1 h2 => ?_⟩
  have hl := h.1
  by_cases hi : i < got.length
  · rw [List.getElem_append_left hi, List.getElem_append_left (by omega)]
    exact h.2 i hi (by omega)
  · have e : i = got.length := by simp at h1; omega
    subst e
    rw [List.getElem_append_right (Nat.le_refl _), List.getElem_append_right (by omega)]
    have e0 : got.length - ml.length = 0 := by omega
    simp only [Nat.sub_self, e0, List.getElem_cons_zero]
    exact ⟨trivial, cs, rfl, hm⟩
theorem qnew_s {G : GH} (r n a : Int) : Con Tryz.prog 43 #[.agg #[.int .i64 r, .int .i64 n], .int .i64 a] G [] (fun v G' μ' => G' = G ∧ ((¬ QMay r n a ∧ v = .pointer none ∧ μ' = []) ∨ (QMay r n a ∧ ∃ q m, v = .pointer (some ⟨q, 0, none⟩) ∧ μ' = [(q, qO r n a m), (m, .map #[] 0)]))) := by
  have q := may_s G r n
  have hst : QMay r n a ↔ mayP r n ∧ 0 < r ∧ 1 ≤ a ∧ a ≤ 4294967296 := Iff.rfl
  rw [hst]
  clear hst
  (refine v_enter Tryz.func43 rfl Tryz.ntmps43 rfl ?_; intro B _)
  repeat' (first | (apply v_box (d := 2) (zs := [.int .i64 r, .int .i64 n]); (case hx => rfl); (case hz => rfl); (case hd => rfl); intro b2) | (apply v_read; (case hop => (apply r_loadNo; (case hx => rfl); (case h => repeat (exact mhd _)); (case hd => rfl); (case hn => rfl))); (case hd => rfl)) | apply v_seq | apply v_region | apply v_nil | apply v_skip | (apply v_take; (case hg => rfl)) | (apply v_pass; (case hg => rfl); (case hn => rfl); (case hd => rfl)) | (apply v_pure; (case hop => first | (apply p_move <;> rfl) | (apply p_lt <;> rfl) | (apply p_gt <;> rfl) | (apply p_assign <;> rfl) | (apply p_pickT <;> rfl) | (apply p_pickF <;> rfl) | (apply p_not <;> rfl) | (apply p_build; (case hz => rfl); (case hv => (simp only [List.map_cons, List.map_nil]; repeat (first | with_reducible exact evs_nil | (apply evs_cons; (case h1 => rfl))))); (case hb => (apply bldL; repeat (first | exact bld_nil | (apply bld_cons; (case hpf => rfl); (case hc => rfl); (case hs => rfl); (case hl => rfl); (case ho => (first | ((repeat (first | with_reducible exact ov_nil | apply ov_cons)); done) | rfl))))))) | fail); (case hd => rfl)) | (apply v_condT; (case hc => rfl)) | (apply v_cond; (case hc => rfl); all_goals (intro h; (try simp only [reduceCtorEq, zzz] at h))) | (apply v_guardB; (case h1 => rfl); (case h2 => rfl); all_goals (intro h; (try simp only [reduceCtorEq, zzz] at h))) | (apply v_callJ (hs := q); (case ha => rfl); (case hd => rfl)) | (apply v_pure; (case hop => (apply eqBal; (case hx => rfl); (case hy => rfl))); (case hd => rfl)) | (apply v_makeMap; (case hd => rfl); intro mb) | (apply v_box (d := 25) (zs := [.int .i64 r, .int .i64 n, .int .i64 a, .map (some mb)]); (case hx => rfl); (case hz => rfl); (case hd => rfl); intro b25) | fail)
  all_goals first
    | (refine v_ret [] (outsA1 rfl rfl) (by repeat (exact List.nil_sublist _)) ?_
       refine ⟨rfl, .inl ⟨?_, rfl, rfl⟩⟩
       unfold mayP at *
       omega)
    | skip
  refine v_ret [(b25, _), (mb, _)] (outsA1 rfl rfl) (by repeat (first | exact List.nil_sublist _ | apply List.Sublist.cons_cons)) ⟨rfl, .inr ⟨?_, b25, mb, rfl, rfl⟩⟩
  unfold mayP at *
  omega
theorem mget_key {l : List (Int × Value)} {k : Int} (h : k ∈ l.map (·.1)) : ∃ v, mget l k = some v ∧ (k, v) ∈ l := by
  obtain ⟨⟨k', v⟩, hx, hk⟩ := List.mem_map.1 h
  simp only at hk
  subst hk
  unfold mget
  cases hf : l.find? (fun x => decide (x.1 = k')) with
  | none =>
    have := List.find?_eq_none.1 hf _ hx
    simp at this
  | some y =>
    have h1 := List.find?_some hf
    have h2 := List.mem_of_find?_eq_some hf
    simp only [decide_eq_true_eq] at h1
    exact ⟨y.2, rfl, by rw [← h1]; exact h2⟩
instance keyT_intQ : KeyT Tryz.prog 3 keyI := KeyT.int
abbrev zMs : Value := .agg #[.int .i64 0, .int .i64 0, .int .i64 0, .int .i64 0, .int .i64 0, .int .i64 0, .int .i64 0, .int .i64 0, .slice none 0 0, .slice none 0 0]
theorem r_gotOk {σ : Env} {G : GH} {μ : OH} {ty : TypeId} {x i : Operand} {mp : Nat} {oM : Obj} {ml : List (Int × Value)} (a : Int) (v : Value) (b : Bool) (hv : (mget ml a).getD zMs = v) (hb' : (mget ml a).isSome = b) (hb : (mp, oM) ∈ μ) (hM : MapB keyI ml oM) (hx : Env.ev σ x = some (.map (some mp))) (hi : Env.ev σ i = some (keyI a)) : ReadOp Tryz.prog (.lookup 175 x i true) ty σ G μ (.tuple #[v, .bool b]) := by
  have := r_lookupOk (P := Tryz.prog) (ty := ty) (G := G) (t := 175) (k := 3) (e := 89) (mk := keyI) a hx hi hb hM
  rw [hb'] at this
  subst hv
  exact this
theorem r_got {σ : Env} {G : GH} {μ : OH} {ty : TypeId} {x i : Operand} {mp : Nat} {oM : Obj} {ml : List (Int × Value)} (a : Int) (v : Value) (hv : (mget ml a).getD zMs = v) (hb : (mp, oM) ∈ μ) (hM : MapB keyI ml oM) (hx : Env.ev σ x = some (.map (some mp))) (hi : Env.ev σ i = some (keyI a)) : ReadOp Tryz.prog (.lookup 175 x i false) ty σ G μ v := by
  have := r_lookup (P := Tryz.prog) (ty := ty) (G := G) (t := 175) (k := 3) (e := 89) (mk := keyI) a hx hi hb hM
  subst hv
  exact this
theorem GotR.val {G : GH} {got : List Ms} {ml : List (Int × Value)} (h : GotR G got ml) {k : Int} {v : Value} (hv : (k, v) ∈ ml) : ∃ x ∈ got, x.src = k ∧ ∃ EA ec IA ic, v = .agg (x.cells (.slice EA x.ents.length ec) (.slice IA x.img.length ic)).toArray ∧ Es G (.slice EA x.ents.length ec) x.ents := by
  obtain ⟨i, hi, e⟩ := List.getElem_of_mem hv
  have hl := h.1
  obtain ⟨h1, cs, h2, EA, ec, IA, ic, rfl, h3, -⟩ := h.2 i (by omega) hi
  rw [e] at h1 h2
  exact ⟨_, List.getElem_mem _, h1.symm, EA, ec, IA, ic, h2, h3⟩
theorem qtake_s {G : GH} (hT : TabsG G) {r n a : Int} {q mp : Nat} {oM : Obj} {got : List Ms} {ml : List (Int × Value)} (m : Ms) {cs : List Value} (hm : MsR G m cs) (hM : MapB keyI ml oM) (hg : GotR G got ml) (hz : m.ents.length ≤ 200) :
    Con Tryz.prog 46 #[.pointer (some ⟨q, 0, none⟩), .agg cs.toArray] G [(q, qO r n a mp), (mp, oM)]
      (fun v G' μ' => GH.le G G' ∧ v = .bool (decide (TakeP r n a got m)) ∧ ∃ ml' oM', MapB keyI ml' oM' ∧ GotR G' (if TakeP r n a got m then got ++ [m] else got) ml' ∧ μ' = [(q, qO r n a mp), (mp, oM')]) := by
  have q1 := mcheck_s hT m hm
  have hm0 := id hm
  obtain ⟨EA, ec, IA, ic, rfl, he, hi⟩ := hm
  have qc := entClone_s he hz
  obtain ⟨-, -, -, -, -, -, -, -, -, hok⟩ := esOpen he
  have hkeys := hg.keys
  have hst : TakeP r n a got m ↔ (m.kind = 4 ∧ PromP m) ∧ (m.round = r ∧ m.node = n) ∧ m.index = a ∧ ∀ x ∈ got, x.src ≠ m.src := Iff.rfl
  have hno : ¬ TakeP r n a got m → ∃ ml' oM', MapB keyI ml' oM' ∧ GotR G (if TakeP r n a got m then got ++ [m] else got) ml' ∧ [(q, qO r n a mp), (mp, oM)] = [(q, qO r n a mp), (mp, oM')] := fun h => ⟨ml, oM, hM, by rw [if_neg h]; exact hg, rfl⟩
  have hyes : ∀ G' EA' ec', GH.le G G' → Es G' (.slice EA' m.ents.length ec') m.ents → m.src ∉ ml.map (·.1) → GotR G' (got ++ [m]) (mput ml m.src (.agg (m.cells (.slice EA' m.ents.length ec') (.slice IA m.img.length ic)).toArray)) := fun G' EA' ec' hle h1 h2 => by
    rw [mput_no h2]
    exact (hg.le hle).snoc ⟨EA', ec', IA, ic, rfl, h1, hi.mono hle⟩
  have hmem : m.src ∈ ml.map (·.1) ↔ ∃ x ∈ got, x.src = m.src := by rw [hkeys, List.mem_map]
  have hval := fun k v (h : (k, v) ∈ ml) => hg.val h
  clear hi he hg hkeys hm0
  unfold PrE at q1
  obtain ⟨kind, src, dst, round, node, index, commit, version, ents, img⟩ := m
  simp only at *
  (refine v_enter Tryz.func46 rfl Tryz.ntmps46 rfl ?_; intro B _)
  repeat' (first | (apply v_box (d := 3) (zs := msL kind src dst round node index commit version (.slice EA ents.length ec) (.slice IA img.length ic)); (case hx => rfl); (case hz => rfl); (case hd => rfl); intro b3) | apply v_seq | apply v_region | apply v_nil | (apply v_pure; (case hop => (apply p_assign <;> rfl)); (case hd => rfl)) | fail)
  refine d_start _ (by kernel_rfl) (by kernel_rfl) (by kernel_rfl) (fun _ he => he) ?_
  all_goals (apply dtk 0; (case hi => rfl); (case hop => (apply prd; apply p_move <;> rfl)); (case hq => kernel_rfl))
  all_goals (apply dtk 1; (case hi => rfl); (case hop => (apply prd; apply p_eqNil <;> rfl)); (case hq => kernel_rfl))
  all_goals (apply dtk 2; (case hi => rfl); (case hop => (apply prd; apply p_move <;> rfl)); (case hq => kernel_rfl))
  all_goals (try (apply d_guardB 3; (case hi => rfl); (case hgd => rfl); (case h1 => rfl); (case h2 => rfl); all_goals (intro h; (try simp only [reduceCtorEq, zzz] at h))))
  all_goals (apply dtg 3; (case hi => rfl); (case hg => rfl); (case hop => first | (apply r_loadNo; (case hx => rfl); (case h => (repeat (exact mhd _))); (case hd => (repeat (first | with_reducible exact dt_nil | apply dt_here))); (case hn => rfl)) | (apply r_load1; rfl; (apply Cell.own; (case h => (repeat (fail))); rfl)) | (apply r_loadN; rfl; (apply CellsAt.own; (case h => (repeat (fail)))); rfl)); (case hq => kernel_rfl))
  all_goals (try (apply d_guardB 4; (case hi => rfl); (case hgd => rfl); (case h1 => rfl); (case h2 => rfl); all_goals (intro h; (try simp only [reduceCtorEq, zzz] at h))))
  all_goals ((apply d_callG 4 (hs := q1) (μ1 := []); (case hi => rfl); (case hg => rfl); (case hr => kernel_rfl);  (case ha => rfl); (case hp => exact List.Perm.refl _); (case hd => rfl); (case hν' => intro e he; exact he); rintro _ G1 _ - ⟨hG1, rfl, z, rfl, hz1⟩; subst hG1))
  all_goals (try (apply d_guardB 5; (case hi => rfl); (case hgd => rfl); (case h1 => rfl); (case h2 => rfl); all_goals (intro h; (try simp only [reduceCtorEq, zzz] at h))))
  all_goals (apply dtg 5; (case hi => rfl); (case hg => rfl); (case hop => (apply prd; apply p_ne <;> rfl)); (case hq => kernel_rfl))
  all_goals (apply dtk 6; (case hi => rfl); (case hop => (apply prd; apply p_pickF <;> rfl)); (case hq => kernel_rfl))
  all_goals (apply dtk 7; (case hi => rfl); (case hop => (apply prd; apply p_move <;> rfl)); (case hq => kernel_rfl))
  all_goals (try (apply d_guardB 8; (case hi => rfl); (case hgd => rfl); (case h1 => rfl); (case h2 => rfl); all_goals (intro h; (try simp only [reduceCtorEq, zzz] at h))))
  all_goals (first | (apply dpa 8; (case hi => rfl); (case hg => rfl); (case hn => rfl); (case hq => kernel_rfl)) | (apply dtg 8; (case hi => rfl); (case hg => rfl); (case hop => (apply prd; apply p_fieldAddrB <;> rfl)); (case hq => kernel_rfl)) | fail)
  all_goals (try (apply d_guardB 9; (case hi => rfl); (case hgd => rfl); (case h1 => rfl); (case h2 => rfl); all_goals (intro h; (try simp only [reduceCtorEq, zzz] at h))))
  all_goals (first | (apply dpa 9; (case hi => rfl); (case hg => rfl); (case hn => rfl); (case hq => kernel_rfl)) | (apply dtg 9; (case hi => rfl); (case hg => rfl); (case hop => first | (apply r_loadNo; (case hx => rfl); (case h => (repeat (fail))); (case hd => (repeat (fail))); (case hn => rfl)) | (apply r_load1; rfl; (apply Cell.own; (case h => (repeat (exact mhd _))); rfl)) | (apply r_loadN; rfl; (apply CellsAt.own; (case h => (repeat (fail)))); rfl)); (case hq => kernel_rfl)) | fail)
  all_goals (try (apply d_guardB 10; (case hi => rfl); (case hgd => rfl); (case h1 => rfl); (case h2 => rfl); all_goals (intro h; (try simp only [reduceCtorEq, zzz] at h))))
  all_goals (first | (apply dpa 10; (case hi => rfl); (case hg => rfl); (case hn => rfl); (case hq => kernel_rfl)) | (apply dtg 10; (case hi => rfl); (case hg => rfl); (case hop => (apply prd; apply p_ne <;> rfl)); (case hq => kernel_rfl)) | fail)
  all_goals (apply dtk 11; (case hi => rfl); (case hop => first | (apply prd; apply p_pickT <;> rfl) | (apply prd; apply p_pickF <;> rfl) | fail); (case hq => kernel_rfl))
  all_goals (apply dtk 12; (case hi => rfl); (case hop => (apply prd; apply p_move <;> rfl)); (case hq => kernel_rfl))
  all_goals (try (apply d_guardB 13; (case hi => rfl); (case hgd => rfl); (case h1 => rfl); (case h2 => rfl); all_goals (intro h; (try simp only [reduceCtorEq, zzz] at h))))
  all_goals (first | (apply dpa 13; (case hi => rfl); (case hg => rfl); (case hn => rfl); (case hq => kernel_rfl)) | (apply dtg 13; (case hi => rfl); (case hg => rfl); (case hop => (apply prd; apply p_fieldAddrB <;> rfl)); (case hq => kernel_rfl)) | fail)
  all_goals (try (apply d_guardB 14; (case hi => rfl); (case hgd => rfl); (case h1 => rfl); (case h2 => rfl); all_goals (intro h; (try simp only [reduceCtorEq, zzz] at h))))
  all_goals (first | (apply dpa 14; (case hi => rfl); (case hg => rfl); (case hn => rfl); (case hq => kernel_rfl)) | (apply dtg 14; (case hi => rfl); (case hg => rfl); (case hop => first | (apply r_loadNo; (case hx => rfl); (case h => (repeat (exact mhd _))); (case hd => (repeat (first | with_reducible exact dt_nil | apply dt_here))); (case hn => rfl)) | (apply r_load1; rfl; (apply Cell.own; (case h => (repeat (fail))); rfl)) | (apply r_loadN; rfl; (apply CellsAt.own; (case h => (repeat (fail)))); rfl)); (case hq => kernel_rfl)) | fail)
  all_goals (try (apply d_guardB 15; (case hi => rfl); (case hgd => rfl); (case h1 => rfl); (case h2 => rfl); all_goals (intro h; (try simp only [reduceCtorEq, zzz] at h))))
  all_goals (first | (apply dpa 15; (case hi => rfl); (case hg => rfl); (case hn => rfl); (case hq => kernel_rfl)) | (apply dtg 15; (case hi => rfl); (case hg => rfl); (case hop => (apply prd; apply p_move <;> rfl)); (case hq => kernel_rfl)) | fail)
  all_goals (try (apply d_guardB 16; (case hi => rfl); (case hgd => rfl); (case h1 => rfl); (case h2 => rfl); all_goals (intro h; (try simp only [reduceCtorEq, zzz] at h))))
  all_goals (first | (apply dpa 16; (case hi => rfl); (case hg => rfl); (case hn => rfl); (case hq => kernel_rfl)) | (apply dtg 16; (case hi => rfl); (case hg => rfl); (case hop => (apply prd; apply p_nilCheck <;> rfl)); (case hq => kernel_rfl)) | fail)
  all_goals (try (apply d_guardB 17; (case hi => rfl); (case hgd => rfl); (case h1 => rfl); (case h2 => rfl); all_goals (intro h; (try simp only [reduceCtorEq, zzz] at h))))
  all_goals (first | (apply dpa 17; (case hi => rfl); (case hg => rfl); (case hn => rfl); (case hq => kernel_rfl)) | (apply dtg 17; (case hi => rfl); (case hg => rfl); (case hop => (apply prd; apply p_fieldAddrB <;> rfl)); (case hq => kernel_rfl)) | fail)
  all_goals (try (apply d_guardB 18; (case hi => rfl); (case hgd => rfl); (case h1 => rfl); (case h2 => rfl); all_goals (intro h; (try simp only [reduceCtorEq, zzz] at h))))
  all_goals (first | (apply dpa 18; (case hi => rfl); (case hg => rfl); (case hn => rfl); (case hq => kernel_rfl)) | (apply dtg 18; (case hi => rfl); (case hg => rfl); (case hop => first | (apply r_loadNo; (case hx => rfl); (case h => (repeat (first | exact mhd _ | apply mtl))); (case hd => (repeat (first | with_reducible exact dt_nil | apply dt_here))); (case hn => rfl)) | (apply r_load1; rfl; (apply Cell.own; (case h => (repeat (fail))); rfl)) | (apply r_loadN; rfl; (apply CellsAt.own; (case h => (repeat (fail)))); rfl)); (case hq => kernel_rfl)) | fail)
  all_goals (try (apply d_guardB 19; (case hi => rfl); (case hgd => rfl); (case h1 => rfl); (case h2 => rfl); all_goals (intro h; (try simp only [reduceCtorEq, zzz] at h))))
  all_goals (first | (apply dpa 19; (case hi => rfl); (case hg => rfl); (case hn => rfl); (case hq => kernel_rfl)) | (apply dtg 19; (case hi => rfl); (case hg => rfl); (case hop => ((apply prd; apply neBal; (case hx => rfl); (case hy => rfl)))); (case hq => kernel_rfl)) | fail)
  all_goals (apply dtk 20; (case hi => rfl); (case hop => first | (apply prd; apply p_pickT <;> rfl) | (apply prd; apply p_pickF <;> rfl) | fail); (case hq => kernel_rfl))
  all_goals (apply dtk 21; (case hi => rfl); (case hop => (apply prd; apply p_move <;> rfl)); (case hq => kernel_rfl))
  all_goals (try (apply d_guardB 22; (case hi => rfl); (case hgd => rfl); (case h1 => rfl); (case h2 => rfl); all_goals (intro h; (try simp only [reduceCtorEq, zzz] at h))))
  all_goals (first | (apply dpa 22; (case hi => rfl); (case hg => rfl); (case hn => rfl); (case hq => kernel_rfl)) | (apply dtg 22; (case hi => rfl); (case hg => rfl); (case hop => (apply prd; apply p_fieldAddrB <;> rfl)); (case hq => kernel_rfl)) | fail)
  all_goals (try (apply d_guardB 23; (case hi => rfl); (case hgd => rfl); (case h1 => rfl); (case h2 => rfl); all_goals (intro h; (try simp only [reduceCtorEq, zzz] at h))))
  all_goals (first | (apply dpa 23; (case hi => rfl); (case hg => rfl); (case hn => rfl); (case hq => kernel_rfl)) | (apply dtg 23; (case hi => rfl); (case hg => rfl); (case hop => first | (apply r_loadNo; (case hx => rfl); (case h => (repeat (fail))); (case hd => (repeat (fail))); (case hn => rfl)) | (apply r_load1; rfl; (apply Cell.own; (case h => (repeat (exact mhd _))); rfl)) | (apply r_loadN; rfl; (apply CellsAt.own; (case h => (repeat (fail)))); rfl)); (case hq => kernel_rfl)) | fail)
  all_goals (try (apply d_guardB 24; (case hi => rfl); (case hgd => rfl); (case h1 => rfl); (case h2 => rfl); all_goals (intro h; (try simp only [reduceCtorEq, zzz] at h))))
  all_goals (first | (apply dpa 24; (case hi => rfl); (case hg => rfl); (case hn => rfl); (case hq => kernel_rfl)) | (apply dtg 24; (case hi => rfl); (case hg => rfl); (case hop => (apply prd; apply p_move <;> rfl)); (case hq => kernel_rfl)) | fail)
  all_goals (try (apply d_guardB 25; (case hi => rfl); (case hgd => rfl); (case h1 => rfl); (case h2 => rfl); all_goals (intro h; (try simp only [reduceCtorEq, zzz] at h))))
  all_goals (first | (apply dpa 25; (case hi => rfl); (case hg => rfl); (case hn => rfl); (case hq => kernel_rfl)) | (apply dtg 25; (case hi => rfl); (case hg => rfl); (case hop => (apply prd; apply p_nilCheck <;> rfl)); (case hq => kernel_rfl)) | fail)
  all_goals (try (apply d_guardB 26; (case hi => rfl); (case hgd => rfl); (case h1 => rfl); (case h2 => rfl); all_goals (intro h; (try simp only [reduceCtorEq, zzz] at h))))
  all_goals (first | (apply dpa 26; (case hi => rfl); (case hg => rfl); (case hn => rfl); (case hq => kernel_rfl)) | (apply dtg 26; (case hi => rfl); (case hg => rfl); (case hop => (apply prd; apply p_fieldAddrB <;> rfl)); (case hq => kernel_rfl)) | fail)
  all_goals (try (apply d_guardB 27; (case hi => rfl); (case hgd => rfl); (case h1 => rfl); (case h2 => rfl); all_goals (intro h; (try simp only [reduceCtorEq, zzz] at h))))
  all_goals (first | (apply dpa 27; (case hi => rfl); (case hg => rfl); (case hn => rfl); (case hq => kernel_rfl)) | (apply dtg 27; (case hi => rfl); (case hg => rfl); (case hop => first | (apply r_loadNo; (case hx => rfl); (case h => (repeat (fail))); (case hd => (repeat (fail))); (case hn => rfl)) | (apply r_load1; rfl; (apply Cell.own; (case h => (repeat (first | exact mhd _ | apply mtl))); rfl)) | (apply r_loadN; rfl; (apply CellsAt.own; (case h => (repeat (fail)))); rfl)); (case hq => kernel_rfl)) | fail)
  all_goals (try (apply d_guardB 28; (case hi => rfl); (case hgd => rfl); (case h1 => rfl); (case h2 => rfl); all_goals (intro h; (try simp only [reduceCtorEq, zzz] at h))))
  all_goals (first | (apply dpa 28; (case hi => rfl); (case hg => rfl); (case hn => rfl); (case hq => kernel_rfl)) | (apply dtg 28; (case hi => rfl); (case hg => rfl); (case hop => (apply prd; apply p_ne <;> rfl)); (case hq => kernel_rfl)) | fail)
  all_goals (apply dtk 29; (case hi => rfl); (case hop => first | (apply prd; apply p_pickT <;> rfl) | (apply prd; apply p_pickF <;> rfl) | fail); (case hq => kernel_rfl))
  all_goals (apply d_done; (case hr => kernel_rfl))
  all_goals repeat' (first | apply v_seq | apply v_region | apply v_nil | apply v_skip | (apply v_pure; (case hop => (apply p_assign <;> rfl)); (case hd => rfl)) | (apply v_condT; (case hc => rfl)) | (apply v_cond; (case hc => rfl); all_goals (intro h; (try simp only [reduceCtorEq, zzz] at h))) | fail)
  all_goals first
    | (refine v_ret [(q, qO r n a mp), (mp, oM)] (outsA1 rfl rfl) (by repeat (first | exact List.Sublist.refl _ | apply List.Sublist.cons)) ?_
       have hnt : ¬ TakeP r n a got ⟨kind, src, dst, round, node, index, commit, version, ents, img⟩ := fun h => by
         obtain ⟨⟨h1, h2⟩, ⟨h3, h4⟩, h5, h6⟩ := hst.1 h
         first
           | omega
           | (exact absurd ((hz1 h1).2 h2) (by assumption))
       exact ⟨GH.le_refl _, by rw [decide_eq_false hnt], hno hnt⟩)
    | skip
  have hz0 : z = 0 := by assumption
  have hk4 : kind = 4 := by assumption
  have hrn : round = r ∧ node = n := by assumption
  have hia : index = a := by assumption
  have hPP := (hz1 hk4).1 hz0
  refine v_perm (ν := [(b3, .cells (msL kind src dst round node index commit version (.slice EA ents.length ec) (.slice IA img.length ic)).toArray 89 (0, 0)), (q, qO r n a mp), (mp, oM)]) (List.Perm.refl _) ?_
  by_cases hin : src ∈ ml.map (·.1)
  · obtain ⟨v, hv, hvm⟩ := mget_key hin
    obtain ⟨x, hx, hxs, EA', ec', IA', ic', rfl, -⟩ := hval _ _ hvm
    have hnt : ¬ TakeP r n a got ⟨kind, src, dst, round, node, index, commit, version, ents, img⟩ := fun h => by
      obtain ⟨y, hy, e⟩ := hmem.1 hin
      exact (hst.1 h).2.2.2 y hy e
    refine d_start [(b3, .cells (msL kind src dst round node index commit version (.slice EA ents.length ec) (.slice IA img.length ic)).toArray 89 (0, 0)), (q, qO r n a mp), (mp, oM)] (by kernel_rfl) (by kernel_rfl) (by kernel_rfl) (by intro e he; exact he) ?_
    all_goals (apply dtk 0; (case hi => rfl); (case hop => (apply prd; apply p_move <;> rfl)); (case hq => kernel_rfl))
    all_goals (apply dtk 1; (case hi => rfl); (case hop => (apply prd; apply p_nilCheck <;> rfl)); (case hq => kernel_rfl))
    all_goals (apply dtk 2; (case hi => rfl); (case hop => (apply prd; apply p_fieldAddrB <;> rfl)); (case hq => kernel_rfl))
    all_goals (apply dtk 3; (case hi => rfl); (case hop => (apply r_load1; rfl; (apply Cell.own; (case h => (repeat (first | exact mhd _ | apply mtl))); rfl))); (case hq => kernel_rfl))
    all_goals (apply dtk 4; (case hi => rfl); (case hop => (apply prd; apply p_fieldAddrB <;> rfl)); (case hq => kernel_rfl))
    all_goals (apply dtk 5; (case hi => rfl); (case hop => (apply r_load1; rfl; (apply Cell.own; (case h => (repeat (exact mhd _))); rfl))); (case hq => kernel_rfl))
    all_goals (apply dtk 6; (case hi => rfl); (case hop => ((apply r_gotOk src (.agg (x.cells (.slice EA' x.ents.length ec') (.slice IA' x.img.length ic')).toArray) true (by rw [hv]; rfl) (by rw [hv]; rfl) (hM := hM); (case hb => (repeat (first | exact mhd _ | apply mtl))); (case hx => rfl); (case hi => rfl)))); (case hq => kernel_rfl))
    all_goals (apply dtk 7; (case hi => rfl); (case hop => (apply prd; apply p_move <;> rfl)); (case hq => kernel_rfl))
    all_goals (apply dtk 8; (case hi => rfl); (case hop => (apply prd; apply p_extract0 <;> rfl)); (case hq => kernel_rfl))
    all_goals (apply dtk 9; (case hi => rfl); (case hop => (apply prd; apply p_extract1 <;> rfl)); (case hq => kernel_rfl))
    all_goals (apply d_exec 10; (case hi => rfl); (case hr => kernel_rfl); (case hop => exact m_alloc rfl); (case hd => rfl); rintro _ _ _ ⟨b5, rfl, rfl, rfl⟩; refine ⟨(by intro e he; (simp at he; simp [he]; done)), ?_⟩)
    all_goals (apply d_store 11; (case hi => rfl); (case hr => kernel_rfl); (case hL => infer_instance); (case hp => rfl); (case hx => rfl); (case hc => rfl); (case hsz => rfl); (case h1 => rfl); (case hb => (repeat (exact mhd _))); (case hfit => exact nle rfl); (case hov => ((repeat (first | with_reducible exact ov_nil | apply ov_cons)); done)); (case hu => repeat (exact Upd.here _ _)); (case hν' => intro e he; (simp at he; simp [he]; done)))
    all_goals (apply dtk 12; (case hi => rfl); (case hop => (apply prd; apply p_assign <;> rfl)); (case hq => kernel_rfl))
    all_goals (apply d_done; (case hr => kernel_rfl))
    repeat' (first | apply v_seq | apply v_region | apply v_nil | (apply v_pure; (case hop => first | (apply p_move <;> rfl) | (apply p_assign <;> rfl) | fail); (case hd => rfl)) | (apply v_condT; (case hc => rfl)) | fail)
    refine v_ret [(q, qO r n a mp), (mp, oM)] (outsA1 rfl rfl) (by repeat (first | exact List.Sublist.refl _ | apply List.Sublist.cons)) ?_
    exact ⟨GH.le_refl _, by rw [decide_eq_false hnt], hno hnt⟩
  · have hv := mget_no hin
    have ht : TakeP r n a got ⟨kind, src, dst, round, node, index, commit, version, ents, img⟩ := hst.2 ⟨⟨hk4, hPP⟩, hrn, hia, fun x hx e => hin (hmem.2 ⟨x, hx, e⟩)⟩
    refine d_start [(b3, .cells (msL kind src dst round node index commit version (.slice EA ents.length ec) (.slice IA img.length ic)).toArray 89 (0, 0)), (q, qO r n a mp), (mp, oM)] (by kernel_rfl) (by kernel_rfl) (by kernel_rfl) (by intro e he; exact he) ?_
    all_goals (apply dtk 0; (case hi => rfl); (case hop => (apply prd; apply p_move <;> rfl)); (case hq => kernel_rfl))
    all_goals (apply dtk 1; (case hi => rfl); (case hop => (apply prd; apply p_nilCheck <;> rfl)); (case hq => kernel_rfl))
    all_goals (apply dtk 2; (case hi => rfl); (case hop => (apply prd; apply p_fieldAddrB <;> rfl)); (case hq => kernel_rfl))
    all_goals (apply dtk 3; (case hi => rfl); (case hop => (apply r_load1; rfl; (apply Cell.own; (case h => (repeat (first | exact mhd _ | apply mtl))); rfl))); (case hq => kernel_rfl))
    all_goals (apply dtk 4; (case hi => rfl); (case hop => (apply prd; apply p_fieldAddrB <;> rfl)); (case hq => kernel_rfl))
    all_goals (apply dtk 5; (case hi => rfl); (case hop => (apply r_load1; rfl; (apply Cell.own; (case h => (repeat (exact mhd _))); rfl))); (case hq => kernel_rfl))
    all_goals (apply dtk 6; (case hi => rfl); (case hop => ((apply r_gotOk src zMs false (by rw [hv]; rfl) (by rw [hv]; rfl) (hM := hM); (case hb => (repeat (first | exact mhd _ | apply mtl))); (case hx => rfl); (case hi => rfl)))); (case hq => kernel_rfl))
    all_goals (apply dtk 7; (case hi => rfl); (case hop => (apply prd; apply p_move <;> rfl)); (case hq => kernel_rfl))
    all_goals (apply dtk 8; (case hi => rfl); (case hop => (apply prd; apply p_extract0 <;> rfl)); (case hq => kernel_rfl))
    all_goals (apply dtk 9; (case hi => rfl); (case hop => (apply prd; apply p_extract1 <;> rfl)); (case hq => kernel_rfl))
    all_goals (apply d_exec 10; (case hi => rfl); (case hr => kernel_rfl); (case hop => exact m_alloc rfl); (case hd => rfl); rintro _ _ _ ⟨b5, rfl, rfl, rfl⟩; refine ⟨(by intro e he; (simp at he; simp [he]; done)), ?_⟩)
    all_goals (apply d_store 11; (case hi => rfl); (case hr => kernel_rfl); (case hL => infer_instance); (case hp => rfl); (case hx => rfl); (case hc => rfl); (case hsz => rfl); (case h1 => rfl); (case hb => (repeat (exact mhd _))); (case hfit => exact nle rfl); (case hov => ((repeat (first | with_reducible exact ov_nil | apply ov_cons)); done)); (case hu => repeat (exact Upd.here _ _)); (case hν' => intro e he; (simp at he; simp [he]; done)))
    all_goals (apply dtk 12; (case hi => rfl); (case hop => (apply prd; apply p_assign <;> rfl)); (case hq => kernel_rfl))
    all_goals (apply d_done; (case hr => kernel_rfl))
    repeat' (first | apply v_seq | apply v_region | apply v_nil | apply v_skip | (apply v_pure; (case hop => first | (apply p_move <;> rfl) | (apply p_fieldAddrB <;> rfl) | fail); (case hd => rfl)) | (apply v_condF; (case hc => rfl)) | (apply v_read; (case hop => (apply r_load1; rfl; (apply Cell.own; (case h => (repeat (first | exact mhd _ | apply mtl))); rfl))); (case hd => rfl)) | fail)
    refine v_call (μ1 := []) rfl qc (List.Perm.refl _) rfl ?_
    rintro _ G2 ν2 - ⟨hG2, hg2⟩
    subst hG2
    obtain ⟨A2, c2, rfl, -, -⟩ := hg2.shape
    refine v_frz ν2 (PickA.here _) ?_
    intro G3 hle3 hG3
    have hE := es_of_grow hg2 hG3 (fun x hx => by
      obtain ⟨j, hj, rfl⟩ := List.getElem_of_mem hx
      exact hok j hj)
    repeat' (first | apply v_seq | apply v_nil | (apply v_pure; (case hop => (apply p_fieldAddrB <;> rfl)); (case hd => rfl)) | (apply v_store; (case hp => rfl); (case hx => rfl); (case hc => rfl); (case hsz => rfl); (case h1 => rfl); (case hb => (repeat (first | exact mhd _ | apply mtl))); (case hfit => exact nle rfl); (case hov => ((repeat (first | with_reducible exact ov_nil | apply ov_cons)); done)); (case hu => repeat (first | exact Upd.here _ _ | apply Upd.there))) | fail)
    refine d_start [(b3, .cells (msL kind src dst round node index commit version (.slice A2 ents.length c2) (.slice IA img.length ic)).toArray 89 (0, 0)), (q, qO r n a mp)] (by kernel_rfl) (by kernel_rfl) (by kernel_rfl) (by intro e he; (simp only [List.mem_cons, List.not_mem_nil, or_false] at he; rcases he with rfl | rfl <;> simp; done)) ?_
    all_goals (apply dtk 0; (case hi => rfl); (case hop => (apply prd; apply p_move <;> rfl)); (case hq => kernel_rfl))
    all_goals (apply dtk 1; (case hi => rfl); (case hop => (apply prd; apply p_nilCheck <;> rfl)); (case hq => kernel_rfl))
    all_goals (apply dtk 2; (case hi => rfl); (case hop => (apply prd; apply p_fieldAddrB <;> rfl)); (case hq => kernel_rfl))
    all_goals (apply dtk 3; (case hi => rfl); (case hop => first | (apply r_loadNo; (case hx => rfl); (case h => (repeat (fail))); (case hd => (repeat (fail))); (case hn => rfl)) | (apply r_load1; rfl; (apply Cell.own; (case h => (repeat (first | exact mhd _ | apply mtl))); rfl)) | (apply r_loadN; rfl; (apply CellsAt.own; (case h => (repeat (fail)))); rfl)); (case hq => kernel_rfl))
    all_goals (apply dtk 4; (case hi => rfl); (case hop => (apply prd; apply p_fieldAddrB <;> rfl)); (case hq => kernel_rfl))
    all_goals (apply dtk 5; (case hi => rfl); (case hop => first | (apply r_loadNo; (case hx => rfl); (case h => (repeat (fail))); (case hd => (repeat (fail))); (case hn => rfl)) | (apply r_load1; rfl; (apply Cell.own; (case h => (repeat (exact mhd _))); rfl)) | (apply r_loadN; rfl; (apply CellsAt.own; (case h => (repeat (fail)))); rfl)); (case hq => kernel_rfl))
    all_goals (apply dtk 6; (case hi => rfl); (case hop => first | (apply r_loadNo; (case hx => rfl); (case h => (repeat (exact mhd _))); (case hd => (repeat (first | with_reducible exact dt_nil | apply dt_here))); (case hn => rfl)) | (apply r_load1; rfl; (apply Cell.own; (case h => (repeat (fail))); rfl)) | (apply r_loadN; rfl; (apply CellsAt.own; (case h => (repeat (fail)))); rfl)); (case hq => kernel_rfl))
    all_goals ((apply d_exec0 7; (case hi => rfl); (case hr => kernel_rfl);  (case hop => exact m_mapUpdate (k := 3) (mk := keyI) src rfl rfl rfl (PickA.perm (ν := [(mp, oM)]) (PickA.cons _ (PickA.cons _ (PickA.cons _ (PickA.one _))))) hM); rintro _ G4 _ ⟨oM2, hM2, hK2, hG4, rfl⟩; subst G4; refine ⟨(by intro e he; simp only [List.mem_cons, List.not_mem_nil, or_false] at he; rcases he with rfl | rfl <;> simp), ?_⟩))
    all_goals (apply d_done; (case hr => kernel_rfl))
    repeat' (first | apply v_seq | apply v_region | apply v_nil | (apply v_pure; (case hop => (apply p_assign <;> rfl)); (case hd => rfl)) | fail)
    refine v_perm (ν := [(q, qO r n a mp), (mp, oM2), (b5, _), (b3, _)]) (by apply perm_of_count; intro p; simp only [List.append_eq, List.countP_append, List.countP_cons, List.countP_nil, Nat.zero_add, Nat.add_zero]; try ac_rfl) ?_
    refine v_ret [(q, qO r n a mp), (mp, oM2)] (outsA1 rfl rfl) (by repeat (first | exact List.nil_sublist _ | apply List.Sublist.cons_cons)) ?_
    exact ⟨hle3, by rw [decide_eq_true ht], _, oM2, hM2, by rw [if_pos ht]; exact hyes G3 A2 c2 hle3 hE hin, rfl⟩
end Go.Proofs.YtmdeeokejdkceaaGreatDoor
/-
  VX, LOOPS OVER A FUNCTION: what an iterator gives, and the statement 'for x := range seq'.
-/
set_option linter.unusedVariables false
set_option linter.unusedSimpArgs false
set_option linter.unusedSectionVars false
namespace Go.Vx
open Go
attribute [local semireducible] Vc DVc Con PureOp ReadOp MoveOp
def YieldCon (P : Program) (l : Nat) (args : Array Value) (G : GH) (μ : OH) (Ψ : Value → GH → OH → Prop) : Prop :=
  ∀ w, Mem G μ w → ∃ f tmps assign body, (Instr.yield l args).run P w = .ok (.round l f tmps assign body) w ∧
    RoundIn Fence.wide 0 P l f tmps assign body w fun e w' => ∃ v, e = .returned v ∧ ∃ G' μ', Step G μ w G' μ' w' ∧ Ψ v G' μ'
def SeqCon {α : Type} (P : Program) (gf : FuncId) (lb : List Value) (enc : α → Value) (S : List α → Prop) (N : Nat) (G : GH) (μ1 : OH) : Prop :=
  ∀ (l : Nat) (J : List α → GH → OH → Prop) (G1 : GH) (ν : OH), GH.le G G1 → J [] G1 ν →
    (∀ pre x G2 ν2, GH.le G1 G2 → J pre G2 ν2 → pre.length < N → YieldCon P l #[enc x] G2 ν2 (fun v G' ν' => v = .bool true ∧ J (pre ++ [x]) G' ν')) →
    Con P gf (.func (.yield l) #[] #[] :: lb).toArray G1 (μ1 ++ ν) (fun _ G' μ' => ∃ xs ν', S xs ∧ J xs G' ν' ∧ μ' = μ1 ++ ν')
section
variable {P : Program} {fn : Func} {n : Nat} {B : Base} {Φ : Value → GH → OH → Prop} {k : List It} {σ : Env} {G : GH} {μ : OH} {all : Array Oper} {rest : List Oper} {d : Nat} {ty : TypeId} {pos : String} {af : Array Edge}
theorem run_callY {x : Operand} {l : Nat} {args : List Operand} {ts : Array TypeId} {vs : List Value} (hx : Env.ev σ x = some (.func (.yield l) #[] #[])) (ha : Env.evs σ args = some vs) :
    ∀ dst pos af g ρ, Agree σ ρ → ∀ w, (execOp ρ ⟨dst, .call { callee := .value x, args := args.toArray, argTypes := ts }, ty, pos, af, g⟩).run P w = (Instr.yield l vs.toArray).run P w := by
  intro dst pos af g ρ hρ w
  simp [execOp, resolve, hρ _ _ hx, Deferred.ofValue, invoke, agree_evs hρ ha]
theorem v_yield {x : Operand} {l : Nat} {args : List Operand} {ts : Array TypeId} {vs : List Value} {μ1 μ2 : OH} {Ψ : Value → GH → OH → Prop} (hx : Env.ev σ x = some (.func (.yield l) #[] #[])) (ha : Env.evs σ args = some vs) (hs : YieldCon P l vs.toArray G μ1 Ψ) (hp : μ.Perm (μ1 ++ μ2)) (hd : Nat.blt d n = true)
    (h : ∀ v G' μ1', GH.le G G' → Ψ v G' μ1' → Vc P fn n B Φ (.ops all rest :: k) ((d, v) :: σ) G' (μ1' ++ μ2)) :
    Vc P fn n B Φ (.ops all (⟨some d, .call { callee := .value x, args := args.toArray, argTypes := ts }, ty, pos, af, none⟩ :: rest) :: k) σ G μ := by
  intro w hw a hh
  have hd' : d < n := by simpa [Nat.blt_eq] using hd
  have hw' := hw.mem.perm hp
  refine wpListIn_plain rfl fun K hK => ⟨fn_RF, ?_⟩
  rw [Oper.semAt_eq _ _ _ (by intro c; simp), run_callY hx ha _ _ _ _ _ hh.agree]
  obtain ⟨f, tmps, assign, body, hy, hR⟩ := hs w hw'.split.1
  rw [hy]
  refine ⟨fun e => (by cases e), RoundIn.mono (F := RF B.rk.r) hR ?_⟩
  rintro e w' ⟨v, rfl, G', μ1', hst, hΨ⟩
  exact hK _ _ (h v G' μ1' hst.le hΨ w' (hw.trans ((hst.frame hw').permL hp.symm)) _ (hh.put hd' v))
def Assigns (P : Program) (n : Nat) (c : Code) (σ σ' : Env) : Prop :=
  ∀ (r : Option Nat) (K : Act → World → Prop) (ds : List Deferred) (a : Act) (w : World), Holds ds n σ a → (∀ a', Holds ds n σ' a' → K a' w) → c.wpIn (RF r) 0 P (Exit.then K fun _ _ _ => False) a w
inductive AssL (P : Program) (n : Nat) : List Oper → Env → Env → Prop
  | nil (σ : Env) : AssL P n [] σ σ
  | cons {op : Op} {ty : TypeId} {pos : String} {af : Array Edge} {d : Nat} {v : Value} {l : List Oper} {σ σ' : Env} (hop : PureOp P op ty σ v) (hd : Nat.blt d n = true) (h : AssL P n l ((d, v) :: σ) σ') : AssL P n (⟨some d, op, ty, pos, af, none⟩ :: l) σ σ'
theorem AssL.run {σ σ' : Env} {l : List Oper} (h : AssL P n l σ σ') {r : Option Nat} {all : Array Oper} {Q : Exit → Act → World → Prop} {ds : List Deferred} : ∀ {a : Act} {w : World}, Holds ds n σ a → (∀ a', Holds ds n σ' a' → Q .normal a' w) → wpListIn (RF r) 0 P all Q l a w := by
  induction h with
  | nil σ => exact fun ha hK => hK _ ha
  | cons hop hd h ih =>
    intro a w ha hK
    rename_i op ty pos af d v l σ0 σ1
    have hd' : d < n := by simpa [Nat.blt_eq] using hd
    refine wpListIn_plain rfl fun K hKK => op_in ?_ ?_
    · rintro c rfl
      have e := hop none "" #[] none a.eval ha.agree w
      have e2 : (execOp a.eval ⟨none, .defer c, ty, "", #[], none⟩).run P w = ((resolve a.eval c ty).run P w).andThen fun d w' => .ok (.defer d) w' := by
        simp only [execOp, Sem.run_bind]
        rfl
      rw [e2] at e
      cases hr : (resolve a.eval c ty).run P w <;> rw [hr] at e <;> cases e
    · rw [hop _ pos af none a.eval ha.agree w]
      exact hKK _ _ (ih (ha.put hd' v) hK)
theorem Assigns.region {id : Nat} {l : List Oper} {σ σ' : Env} (h : AssL P n l σ σ') : Assigns P n (.region id l.toArray false) σ σ' :=
  fun r K ds a w ha hK => wpIn_region_lit (h.run ha fun a' ha' => hK a' ha')
def noAgain : List It → Bool
  | [] => true
  | .again _ _ :: _ => false
  | _ :: k => noAgain k
theorem kont_rk {K K' : RK} {V V' : Value → World → Prop} (hr : K'.r = K.r) (hpost : ∀ e a w, K'.post V' e a w → K.post V e a w) : ∀ (k : List It), noAgain k = true → ∀ e a w, Kont P K' n V' k e a w → Kont P K n V k e a w
  | [], _, e, a, w, h => hpost e a w h
  | .code c :: k, hk, e, a, w, h => by
    have ih := kont_rk hr hpost k hk
    cases e with
    | normal =>
      simp only [Kont] at h ⊢
      rw [← hr]
      exact wpIn_mono h ih
    | _ => exact ih _ _ _ h
  | .ops all l :: k, hk, e, a, w, h => by
    have ih := kont_rk hr hpost k hk
    cases e with
    | normal =>
      simp only [Kont] at h ⊢
      rw [← hr]
      clear hk
      induction l generalizing a w with
      | nil => exact ih _ _ _ h
      | cons o l ihl =>
        unfold wpListIn at h ⊢
        split at h
        · rename_i hw
          rw [if_pos hw]
          refine Oper.wpIn_mono (fun a w h => ihl a w h) ?_
          refine ⟨h.1, ?_⟩
          have h2 := h.2
          generalize (o.semAt (RF K'.r).round a.eval).run P w = R at h2 ⊢
          cases R with
          | ok x w' =>
            cases x <;> first
              | exact h2
              | exact ⟨h2.1, CallsIn.mono h2.2 fun e w'' he => by
                  cases e with
                  | returned v => exact he
                  | panicked ch => exact ih _ _ _ he
                  | outgrown => obtain ⟨a0, w0, h0⟩ := he; exact ⟨a0, w0, ih _ _ _ h0⟩⟩
              | exact ⟨h2.1, RoundIn.mono h2.2 fun e w'' he => by
                  cases e with
                  | returned v => exact he
                  | panicked ch => exact ih _ _ _ he
                  | outgrown => obtain ⟨a0, w0, h0⟩ := he; exact ⟨a0, w0, ih _ _ _ h0⟩⟩
          | halt x w' => cases x <;> first | exact ih _ _ _ h2 | exact h2
        · rename_i hw
          rw [if_neg hw]
          exact ⟨fn_RF, ihl _ _ h.2⟩
    | _ => exact ih _ _ _ h
  | .blk id :: k, hk, e, a, w, h => by
    have ih := kont_rk hr hpost k hk
    cases e with
    | normal => exact ih _ _ _ h
    | exit id' =>
      simp only [Kont] at h ⊢
      split at h
      · rename_i hi; rw [if_pos hi]; exact ih _ _ _ h
      · rename_i hi; rw [if_neg hi]; exact ih _ _ _ h
    | _ => exact ih _ _ _ h
theorem Step.upd1 {G : GH} {r : OH} {w : World} {b : Nat} {o o' : Obj} (h : Mem G ((b, o) :: r) w) : Step G ((b, o) :: r) w G ((b, o') :: r) (w.putObj b o') :=
  Step.upd h (Upd.here o r) rfl rfl rfl (by simp) (World.putObj_heap_same (lt_of_heap (h.own b o List.mem_cons_self))) (fun c hc => World.putObj_heap_other hc)
theorem Holds.pars {ds : List Deferred} {σ : Env} {a : Act} (h : Holds ds n σ a) {p : Nat} (hp : p < n) (v : Value) : Holds [] n ((p, v) :: σ) { tmps := a.tmps.setIfInBounds p v, defers := [] } := by
  have := h.put hp v
  exact ⟨rfl, this.size, this.get⟩
theorem v_rangeFunc {α : Type} {Ds : List Nat} [hB : FnB P fn B Ds] {g : Operand} {gf : FuncId} [hc : Callable P gf] {lb : List Value} {p : Nat} {assign body : Code} {enc : α → Value} {S : List α → Prop} {N : Nat} {μ1 μ2 : OH} {σ' : α → Env}
    (I : List α → GH → OH → Prop) (hg : Env.ev σ g = some (.func (.func gf) #[] lb.toArray)) (hseq : SeqCon P gf lb enc S N G μ1) (hp : μ.Perm (μ1 ++ μ2)) (hpn : Nat.blt p n = true) (hass : ∀ x, Assigns P n assign ((p, enc x) :: σ) (σ' x)) (hna : noAgain k = true) (h0 : I [] G μ2)
    (hbody : ∀ (l : Nat) (B' : Base) [RdB B' l] pre x G2 ν, GH.le G G2 → I pre G2 ν → pre.length < N → Vc P fn n B' (fun v G' ν' => v = .bool true ∧ I (pre ++ [x]) G' ν') [.code body] (σ' x) G2 ν)
    (hk : ∀ (B' : Base) (D : Nat) [FnB P fn B' (D :: Ds)] xs G2 ν, GH.le G G2 → S xs → I xs G2 ν → Vc P fn n B' Φ k σ G2 (dO D :: (μ1 ++ ν))) :
    Vc P fn n B Φ (.code (.rangeFunc g #[p] assign body) :: k) σ G μ := by
  intro w hw a ha
  have hpn' : p < n := by simpa [Nat.blt_eq] using hpn
  have hr : B.rk.r = none := by rw [hB.h]; rfl
  show (Code.rangeFunc g #[p] assign body).wpIn (RF B.rk.r) 0 P (Kont P B.rk n (Fin B Φ) k) a w
  rw [hr]
  refine wpIn_rangeFunc ?_
  intro fn0 hfn
  obtain ⟨rec, hrec⟩ : ∃ rec : LoopState → Loop, rec = fun st => { state := st, pending := none, fn := fn0, tmps := a.tmps, params := #[p], assign, body, defers := w.heap.size } := ⟨_, rfl⟩
  have hst1 : Step G μ w G ((w.heap.size + 1, .loop (rec .ready)) :: dO w.heap.size :: μ) ((w.alloc (.deferred (some []))).alloc (.loop (rec .ready))) := by
    have s1 := Step.alloc hw.mem (.deferred (some []))
    have s2 := Step.alloc s1.mem (.loop (rec .ready))
    rw [World.size_alloc] at s2
    exact s1.trans s2
  refine ⟨w.heap.size + 1, [mark w.heap.size], (w.alloc (.deferred (some []))).alloc (.loop (rec .ready)), { target := .fn (.func gf) lb.toArray, args := #[.func (.yield (w.heap.size + 1)) #[] #[]] }, (w.alloc (.deferred (some []))).alloc (.loop (rec .ready)), gf, #[.func (.yield (w.heap.size + 1)) #[] #[]] ++ lb.toArray, (w.alloc (.deferred (some []))).alloc (.loop (rec .ready)), ?_, ?_, fun _ _ => trivial, ?_, fun e => (by cases e), ?_⟩
  · rw [hrec]
    exact run_enterLoop_outer _ _ _ _ _
  · have e1 := ha.ev hg
    have e2 : ∀ v, a.eval (.const v) = v := fun _ => rfl
    simp [resolve, e1, e2, Deferred.ofValue]
  · simp [invoke, hc.h]
  generalize hW1 : (w.alloc (.deferred (some []))).alloc (.loop (rec .ready)) = W1 at hst1 ⊢
  generalize hD : w.heap.size = D at hst1 hrec ⊢
  have hne : D + 1 ≠ D := by omega
  have hargs : #[Value.func (.yield (D + 1)) #[] #[]] ++ lb.toArray = (Value.func (.yield (D + 1)) #[] #[] :: lb).toArray := by simp
  rw [hargs]
  let J : List α → GH → OH → Prop := fun pre G' ν => ∃ ν', ν = (D + 1, .loop (rec .ready)) :: dO D :: ν' ∧ I pre G' ν'
  have hJ0 : J [] G ((D + 1, .loop (rec .ready)) :: dO D :: μ2) := ⟨μ2, rfl, h0⟩
  have hcon := hseq (D + 1) J G _ (GH.le_refl _) hJ0 (fun pre x G2 ν2 hle hJ hlen => by
    obtain ⟨ν', rfl, hI⟩ := hJ
    intro w2 hw2
    have hl := hw2.own (D + 1) _ List.mem_cons_self
    have hy := run_yield (P := P) (args := #[enc x]) hl (by rw [hrec]; rfl)
    rw [hrec] at hy
    simp only at hy
    refine ⟨fn0, _, assign, body, hy, roundIn_of_wpIn trivial ?_⟩
    have hH : Holds [] n ((p, enc x) :: σ) { tmps := Array.foldl (fun tmps x => tmps.setIfInBounds x.fst x.snd) a.tmps (#[p].zip #[enc x]), defers := [] } := by
      have := ha.pars hpn' (enc x)
      simpa using this
    refine hass x (some (D + 1)) _ [] _ w2 hH fun a1 ha1 => ?_
    have hbr := run_beginRound (P := P) hl (by rw [hrec])
    refine ⟨_, hbr, ?_⟩
    have hs1 : Step G2 ((D + 1, .loop (rec .ready)) :: dO D :: ν') w2 G2 ((D + 1, .loop { rec .ready with state := .busy }) :: dO D :: ν') _ := Step.upd1 hw2
    have hm1 := hs1.mem
    have hsub : List.Sublist ν' ((D + 1, .loop { rec .ready with state := .busy }) :: dO D :: ν') := (List.Sublist.refl _).cons _ |>.cons _
    have hmν : Mem G2 ν' (w2.putObj (D + 1) (.loop { rec .ready with state := .busy })) := ((Step.refl hm1).drop hsub).mem
    have hb := @hbody (D + 1) ⟨G2, ν', _, RK.round (D + 1)⟩ ⟨rfl⟩ pre x G2 ν' hle hI hlen _ (Step.refl hmν) a1 ha1
    refine wpIn_mono (F := RF (some (D + 1))) (Q := Kont P (RK.round (D + 1)) n _ []) hb fun e a3 w3 hq => ?_
    cases e with
    | normal =>
      obtain ⟨G3, ν3, hst3, -, hI3⟩ := hq
      simp only at hst3
      have hperm : ((D + 1, Obj.loop { rec .ready with state := .busy }) :: dO D :: ν').Perm (ν' ++ [(D + 1, Obj.loop { rec .ready with state := .busy }), dO D]) := by
        have := (List.perm_append_comm (l₁ := ν') (l₂ := [(D + 1, Obj.loop { rec .ready with state := .busy }), dO D]))
        exact this.symm
      have hfr := (hst3.frame (hm1.perm hperm)).permL hperm.symm
      have hfr2 := hfr.perm (List.perm_append_comm (l₁ := ν3) (l₂ := [(D + 1, Obj.loop { rec .ready with state := .busy }), dO D]))
      have hl3 := hfr2.mem.own (D + 1) _ List.mem_cons_self
      refine ⟨_, _, run_endRound none hl3, .bool true, rfl, G3, (D + 1, .loop (rec .ready)) :: dO D :: ν3, ?_, rfl, ν3, rfl, hI3⟩
      have hu := Step.upd1 (o' := .loop (rec .ready)) hfr2.mem
      have := (hs1.trans hfr2).trans hu
      rw [hrec] at this ⊢
      exact this
    | ret =>
      obtain ⟨G3, ν3, hst3, hv, _⟩ := hq
      cases hv
    | exit id =>
      obtain ⟨G3, ν3, hst3, hv, _⟩ := hq
      cases hv
    | goto l => exact hq.elim
    | panic c => exact hq.elim
    | outgrown => exact hq.elim)
  have hpm : ((D + 1, Obj.loop (rec .ready)) :: dO D :: μ).Perm (μ1 ++ ((D + 1, .loop (rec .ready)) :: dO D :: μ2)) := by
    refine ((hp.cons _).cons _).trans ?_
    have := List.perm_append_comm_assoc [(D + 1, Obj.loop (rec .ready)), dO D] μ1 μ2
    simpa using this
  have hm1 := hst1.mem.perm hpm
  refine calls_RF.2 (Calls.mono (hcon W1 hm1) ?_)
  rintro e w3 ⟨v, rfl, G3, μ3, hst3, xs, ν3, hS, ⟨ν', rfl, hI⟩, rfl⟩
  have hp3 : (μ1 ++ ((D + 1, Obj.loop (rec .ready)) :: dO D :: ν')).Perm ((D + 1, Obj.loop (rec .ready)) :: dO D :: (μ1 ++ ν')) := by
    have := List.perm_append_comm_assoc [(D + 1, Obj.loop (rec .ready)), dO D] μ1 ν'
    simpa using this.symm
  have hst3' := hst3.perm hp3
  have hl3 := hst3'.mem.own (D + 1) _ List.mem_cons_self
  have hpend : (rec .ready).pending = none := by rw [hrec]
  have hend : (Instr.endLoop (D + 1)).run P w3 = .ok none (w3.putObj (D + 1) (.loop { rec .ready with state := .exhausted })) := by
    exact (run_endLoop (P := P) hl3 (by rw [hrec]; simp)).trans (congrArg (fun x => Result.ok x _) hpend)
  refine ⟨none, _, hend, ?_⟩
  have hu := Step.upd1 (o' := .loop { rec .ready with state := .exhausted }) hst3'.mem
  have hall : Step B.G B.μ B.w G3 (dO D :: (μ1 ++ ν')) _ := (((hw.trans (hst1.trans (Step.permL hst3' hpm.symm))).trans hu).drop (List.sublist_cons_self _ _))
  have hkk := @hk ⟨B.G, B.μ, B.w, RK.fn P fn (D :: Ds)⟩ D ⟨rfl⟩ xs G3 ν' (GH.le_trans hst1.le hst3.le) hS hI _ hall { a with defers := [mark D] ++ a.defers } ⟨by
    show [mark D] ++ a.defers = (D :: Ds).map mark
    rw [ha.defers, hB.h]
    rfl, ha.size, ha.get⟩
  refine kont_rk (K' := RK.fn P fn (D :: Ds)) (by rw [hr]; rfl) ?_ k hna _ _ _ hkk
  intro e a w h
  rw [hB.h]
  exact h
end
end Go.Vx
/-
  VX, BITS of numbers of 64 bits without sign, as natural numbers; what the program's text asks of maps beside.
-/
set_option linter.unusedVariables false
set_option linter.unusedSimpArgs false
namespace Go.Vx
open Go
attribute [local semireducible] Vc DVc Con PureOp ReadOp MoveOp
section
variable {P : Program} {ty : TypeId} {σ : Env} {t t' : TypeId}
end
end Go.Vx
/-
  slices.Sort and slices.Compact at numbers: the kit's contracts, laid at this program, as contracts of ours.
-/
set_option linter.unusedSimpArgs false
set_option linter.unusedVariables false
namespace Go.Proofs.YtmdeeokejdkceaaGreatDoor
open Go.Vx Go.ChangeShapes Go.WideShapes Go.ChangeAt Go.RowKit
def laysSort_ren : Go.Shelf.Ren := ⟨fun | 5 => 182 | 7 => 235 | 8 => 213 | 10 => 275 | 11 => 276 | 12 => 277 | 13 => 278 | 14 => 279 | 15 => 280 | 16 => 281 | 17 => 282 | 18 => 283 | 19 => 268 | 20 => 269 | 30 => 307 | 31 => 298 | 32 => 299 | 33 => 308 | 34 => 309 | 35 => 229 | 40 => 324 | n => n, fun | 0 => 0 | 3 => 3 | 4 => 4 | 5 => 5 | 9 => 9 | 22 => 49 | 23 => 49 | 25 => 3 | 32 => 107 | 35 => 303 | 36 => 304 | 41 => 211 | 44 => 311 | 46 => 313 | 53 => 334 | 57 => 272 | 63 => 352 | 64 => 91 | n => n, fun n => n⟩
theorem laysSort : SlLaysM.n5 Tryz.prog laysSort_ren where
  mixed := by kernel_rfl
  f5 := ⟨"slices.Sort[[]int,int]", by decide, Tryz.func182.trans (congrArg some (by kernel_rfl))⟩
  f7 := ⟨"slices.pdqsortOrdered[int]", by decide, Tryz.func235.trans (congrArg some (by kernel_rfl))⟩
  f8 := Tryz.func213.trans (congrArg some (by kernel_rfl))
  f10 := ⟨"slices.insertionSortOrdered[int]", by decide, Tryz.func275.trans (congrArg some (by kernel_rfl))⟩
  f11 := ⟨"slices.heapSortOrdered[int]", by decide, Tryz.func276.trans (congrArg some (by kernel_rfl))⟩
  f12 := ⟨"slices.breakPatternsOrdered[int]", by decide, Tryz.func277.trans (congrArg some (by kernel_rfl))⟩
  f13 := ⟨"slices.choosePivotOrdered[int]", by decide, Tryz.func278.trans (congrArg some (by kernel_rfl))⟩
  f14 := ⟨"slices.reverseRangeOrdered[int]", by decide, Tryz.func279.trans (congrArg some (by kernel_rfl))⟩
  f15 := ⟨"slices.partialInsertionSortOrdered[int]", by decide, Tryz.func280.trans (congrArg some (by kernel_rfl))⟩
  f16 := ⟨"cmp.Less[int]", by decide, Tryz.func281.trans (congrArg some (by kernel_rfl))⟩
  f17 := ⟨"slices.partitionEqualOrdered[int]", by decide, Tryz.func282.trans (congrArg some (by kernel_rfl))⟩
  f18 := ⟨"slices.partitionOrdered[int]", by decide, Tryz.func283.trans (congrArg some (by kernel_rfl))⟩
  f19 := Tryz.func268.trans (congrArg some (by kernel_rfl))
  f20 := Tryz.func269.trans (congrArg some (by kernel_rfl))
  f30 := ⟨"slices.siftDownOrdered[int]", by decide, Tryz.func307.trans (congrArg some (by kernel_rfl))⟩
  f31 := Tryz.func298.trans (congrArg some (by kernel_rfl))
  f32 := Tryz.func299.trans (congrArg some (by kernel_rfl))
  f33 := ⟨"slices.medianAdjacentOrdered[int]", by decide, Tryz.func308.trans (congrArg some (by kernel_rfl))⟩
  f34 := ⟨"slices.medianOrdered[int]", by decide, Tryz.func309.trans (congrArg some (by kernel_rfl))⟩
  f35 := ⟨"cmp.isNaN[int]", by decide, Tryz.func229.trans (congrArg some (by kernel_rfl))⟩
  f40 := ⟨"slices.order2Ordered[int]", by decide, Tryz.func324.trans (congrArg some (by kernel_rfl))⟩
  t0 := Tryz.underlying0
  a0 := Tryz.isAgg0
  z0 := Tryz.sizeOf0
  v0 := Tryz.zeroValue0
  t3 := Tryz.underlying3
  a3 := Tryz.isAgg3
  z3 := Tryz.sizeOf3
  v3 := Tryz.zeroValue3
  t4 := Tryz.underlying4
  a4 := Tryz.isAgg4
  z4 := Tryz.sizeOf4
  v4 := Tryz.zeroValue4
  t5 := Tryz.underlying5
  a5 := Tryz.isAgg5
  z5 := Tryz.sizeOf5
  v5 := Tryz.zeroValue5
  t9 := Tryz.underlying9
  a9 := Tryz.isAgg9
  z9 := Tryz.sizeOf9
  v9 := Tryz.zeroValue9
  t22 := Tryz.underlying49
  a22 := Tryz.isAgg49
  z22 := Tryz.sizeOf49
  v22 := Tryz.zeroValue49
  t23 := Tryz.underlying49
  a23 := Tryz.isAgg49
  z23 := Tryz.sizeOf49
  v23 := Tryz.zeroValue49
  t25 := Tryz.underlying3
  a25 := Tryz.isAgg3
  z25 := Tryz.sizeOf3
  v25 := Tryz.zeroValue3
  t32 := Tryz.underlying107
  a32 := Tryz.isAgg107
  z32 := Tryz.sizeOf107
  v32 := Tryz.zeroValue107
  t35 := Tryz.underlying303
  a35 := Tryz.isAgg303
  z35 := Tryz.sizeOf303
  v35 := Tryz.zeroValue303
  t36 := Tryz.underlying304
  a36 := Tryz.isAgg304
  z36 := Tryz.sizeOf304
  v36 := Tryz.zeroValue304
  t41 := Tryz.underlying211
  a41 := Tryz.isAgg211
  z41 := Tryz.sizeOf211
  v41 := Tryz.zeroValue211
  t44 := Tryz.underlying311
  a44 := Tryz.isAgg311
  z44 := Tryz.sizeOf311
  v44 := Tryz.zeroValue311
  t46 := Tryz.underlying313
  a46 := Tryz.isAgg313
  z46 := Tryz.sizeOf313
  v46 := Tryz.zeroValue313
  t53 := Tryz.underlying334
  a53 := Tryz.isAgg334
  z53 := Tryz.sizeOf334
  v53 := Tryz.zeroValue334
  t57 := Tryz.underlying272
  a57 := Tryz.isAgg272
  z57 := Tryz.sizeOf272
  v57 := Tryz.zeroValue272
  t63 := Tryz.underlying352
  a63 := Tryz.isAgg352
  z63 := Tryz.sizeOf352
  v63 := Tryz.zeroValue352
  t64 := Tryz.underlying91
  a64 := Tryz.isAgg91
  z64 := Tryz.sizeOf91
  v64 := Tryz.zeroValue91
def laysCompact_ren : Go.Shelf.Ren := ⟨fun | 20 => 197 | n => n, fun | 0 => 0 | 3 => 3 | 4 => 4 | 22 => 49 | n => n, fun n => n⟩
theorem laysCompact : Lays2.n20 Tryz.prog laysCompact_ren where
  mixed := by kernel_rfl
  f20 := Tryz.func197.trans (congrArg some (by kernel_rfl))
  t0 := Tryz.underlying0
  a0 := Tryz.isAgg0
  z0 := Tryz.sizeOf0
  v0 := Tryz.zeroValue0
  t3 := Tryz.underlying3
  a3 := Tryz.isAgg3
  z3 := Tryz.sizeOf3
  v3 := Tryz.zeroValue3
  t4 := Tryz.underlying4
  a4 := Tryz.isAgg4
  z4 := Tryz.sizeOf4
  v4 := Tryz.zeroValue4
  t22 := Tryz.underlying49
  a22 := Tryz.isAgg49
  z22 := Tryz.sizeOf49
  v22 := Tryz.zeroValue49
  i3 := by kernel_rfl
attribute [local semireducible] Con
theorem Con.ofCallsS {P : Program} {f : FuncId} {args : Array Value} {G : GH} {μ : OH} {Φ : Value → GH → OH → Prop} (h : ∀ w, Mem G μ w → Calls P f args w fun e w' => ∃ v, e = .returned v ∧ ∃ G' μ', Step G μ w G' μ' w' ∧ Φ v G' μ') : Con P f args G μ Φ := by
  intro w hw
  exact (h w hw).mono fun e w' hq => by
    obtain ⟨v, rfl, hv⟩ := hq
    exact ⟨v, rfl, hv⟩
section
variable {G : GH} {μ μ' : OH} {w : World} {b : Nat} {e : TypeId}
theorem Step.mapS {vs vs' : List Value} {f : Array Value → Array Value} (hw : Mem G μ w) (hb : Has μ b vs e) (hf : f vs.toArray = vs'.toArray) (hu : Upd b (.cells vs'.toArray e (0, 0)) μ μ') : Step G μ w G μ' (Go.Sort.mapBlock w b f) := by
  have hg := hw.own _ _ hb
  refine Step.upd hw hu rfl rfl rfl (by simp [Go.Sort.mapBlock]) ?_ (fun c hc => ?_)
  · simp only [Go.Sort.mapBlock, Array.getElem?_modify, if_true, hg, Option.map_some, Go.Sort.onCells, hf]
  · simp only [Go.Sort.mapBlock, Array.getElem?_modify]
    rw [if_neg (fun h => hc h.symm)]
theorem Step.grow (h : Mem G μ w) (os : Array Obj) : Step G μ w G μ (Go.Sort.grow w os) := by
  have hold : ∀ c, c < w.heap.size → (Go.Sort.grow w os).heap[c]? = w.heap[c]? := fun c hc => by
    show (w.heap ++ os)[c]? = _
    rw [Array.getElem?_append_left hc]
  refine ⟨⟨fun c o hc => ?_, fun c o hc => ?_, h.nodup, h.apart⟩, GH.le_refl _, rfl, rfl, rfl, ?_, fun c hc _ => hold c hc, fun c o hc => .inl ⟨o, hc⟩, fun c o hc => .inl ⟨o, hc⟩⟩
  · rw [hold c (lt_of_heap (h.g c o hc))]; exact h.g c o hc
  · rw [hold c (lt_of_heap (h.own c o hc))]; exact h.own c o hc
  · show w.heap.size ≤ (w.heap ++ os).size
    simp
end
theorem holds_own {G : GH} {μ : OH} {w : World} {b : Nat} {e : TypeId} {zs : List Int} {spare : List Value} (hw : Mem G μ w) (hb : Has μ b (zs.map (Value.int .i64 ·) ++ spare) e) : Go.Sort.Holds (Value.int .i64) w b 0 zs.toArray := by
  intro j hj
  have hj' : j < zs.length := by simpa using hj
  refine ⟨?_, ?_⟩
  · rw [Nat.zero_add]
    refine Cell.own hb ?_ w hw.sees
    rw [List.getElem?_append_left (by simpa using hj'), List.getElem?_map, List.getElem?_eq_getElem hj']
    simp [hj']
  · have := hw.own _ _ hb
    simp [World.frozen?, this]
theorem putCells_own {zs ys : List Int} {spare : List Value} (h : ys.length = zs.length) : Go.Sort.putCells (Value.int .i64) 0 ys.toArray (zs.map (Value.int .i64 ·) ++ spare).toArray = (ys.map (Value.int .i64 ·) ++ spare).toArray := by
  apply Array.ext_getElem?
  intro k
  simp only [Go.Sort.putCells, Array.getElem?_mapIdx, List.getElem?_toArray, List.size_toArray, Nat.zero_le, true_and, Nat.zero_add, Nat.sub_zero]
  by_cases hk : k < ys.length
  · rw [List.getElem?_append_left (by simp; omega), List.getElem?_append_left (by simpa using hk)]
    simp [hk, h ▸ hk]
  · rw [List.getElem?_append_right (by simp; omega), List.getElem?_append_right (by simp; omega)]
    have hk2 : ¬ k < zs.length := by omega
    simp only [List.length_map, h]
    cases spare[k - zs.length]? with
    | none => rfl
    | some v => simp only [Option.map_some, hk2, if_false]
def sortL (l : List Int) : List Int := l.mergeSort fun x y => decide (x ≤ y)
theorem sortL_perm (l : List Int) : (sortL l).Perm l := List.mergeSort_perm _ _
theorem sortL_le (l : List Int) : (sortL l).Pairwise (· ≤ ·) := by
  have := List.pairwise_mergeSort (le := fun (x y : Int) => decide (x ≤ y)) (fun a b c h1 h2 => by simp only [decide_eq_true_eq] at *; omega) (fun a b => by simp only [Bool.or_eq_true, decide_eq_true_eq]; omega) l
  exact this.imp fun h => by simpa using h
theorem sort_s {G : GH} {zs : List Int} {b cap : Nat} {e : TypeId} {spare : List Value} (hsz : zs.length < 4611686018427387904) :
    Con Tryz.prog 182 #[.slice (some ⟨b, 0, none⟩) zs.length cap] G [(b, .cells (zs.map (Value.int .i64 ·) ++ spare).toArray e (0, 0))]
      (fun r G' μ' => r = .tuple #[] ∧ G' = G ∧ μ' = [(b, .cells ((sortL zs).map (Value.int .i64 ·) ++ spare).toArray e (0, 0))]) := by
  refine Con.ofCallsS fun w hw => ?_
  have hb : Has [(b, Obj.cells (zs.map (Value.int .i64 ·) ++ spare).toArray e (0, 0))] b (zs.map (Value.int .i64 ·) ++ spare) e := List.mem_cons_self
  refine (AnyM.slices_Sort_int laysSort b 0 cap zs w (holds_own hw hb) (lt_of_heap (hw.own _ _ hb)) hsz).mono ?_
  rintro _ w' ⟨rfl, n, os, rfl⟩
  have s1 := Step.drew hw n
  have s2 := Step.mapS (f := Go.Sort.putCells (Value.int .i64) 0 (sortL zs).toArray) s1.mem hb (putCells_own (sortL_perm zs).length_eq) (.here _ _)
  exact ⟨_, rfl, G, _, (s1.trans s2).trans (Step.grow s2.mem os), rfl, rfl, rfl⟩
theorem sort0_s {G : GH} {p : Option Addr} {cap : Nat} : Con Tryz.prog 182 #[.slice p 0 cap] G [] (Just (.tuple #[]) G) := by
  refine Con.ofCallsS fun w hw => ?_
  refine (AnyM.slices_Sort_int_none laysSort p cap w).mono ?_
  rintro _ w' ⟨rfl, rfl⟩
  exact ⟨_, rfl, G, [], Step.refl hw, rfl, rfl, rfl⟩
theorem compact_len (zs : List Int) : (Lib.compact zs).length ≤ zs.length := by
  unfold Lib.compact Lib.compactUpTo
  rw [List.length_map]
  exact Nat.le_trans (List.length_filter_le _ _) (by simp)
theorem compact_s {G : GH} {zs : List Int} {b cap : Nat} {e : TypeId} {spare : List Value} (hsz : zs.length ≤ 1048576) (hcap : zs.length ≤ cap) :
    Con Tryz.prog 197 #[.slice (some ⟨b, 0, none⟩) zs.length cap] G [(b, .cells (zs.map (Value.int .i64 ·) ++ spare).toArray e (0, 0))]
      (fun r G' μ' => r = .slice (some ⟨b, 0, none⟩) (Lib.compact zs).length cap ∧ G' = G ∧ ∃ r, μ' = [(b, .cells ((Lib.compact zs).map (Value.int .i64 ·) ++ r).toArray e (0, 0))]) := by
  refine Con.ofCallsS fun w hw => ?_
  have hb : Has [(b, Obj.cells (zs.map (Value.int .i64 ·) ++ spare).toArray e (0, 0))] b (zs.map (Value.int .i64 ·) ++ spare) e := List.mem_cons_self
  refine (Any.slices_Compact_int laysCompact b 0 cap zs w (holds_own hw hb) (by omega) hcap).mono ?_
  rintro _ w' ⟨rfl, q, rfl⟩
  have s1 := Step.drew hw q
  have s2 := Step.mapS (f := Go.Sort.putCells (Value.int .i64) 0 (Lib.compact zs ++ List.replicate (zs.length - (Lib.compact zs).length) 0).toArray) s1.mem hb (putCells_own (by have := compact_len zs; simp; omega)) (.here _ _)
  refine ⟨_, rfl, G, _, s1.trans s2, rfl, rfl, (List.replicate (zs.length - (Lib.compact zs).length) 0).map (Value.int .i64 ·) ++ spare, ?_⟩
  simp
theorem compact0_s {G : GH} {p : Option Addr} {cap : Nat} : Con Tryz.prog 197 #[.slice p 0 cap] G [] (Just (.slice p 0 cap) G) := by
  refine Con.ofCallsS fun w hw => ?_
  refine (Any.slices_Compact_int_empty laysCompact p cap w).mono ?_
  rintro _ w' ⟨rfl, rfl⟩
  exact ⟨_, rfl, G, [], Step.refl hw, rfl, rfl, rfl⟩
end Go.Proofs.YtmdeeokejdkceaaGreatDoor
/-
  Majorities, in plain Lean: distinct members, counted in two ways; two majorities have a member in common.
-/
set_option linter.unusedSimpArgs false
set_option linter.unusedVariables false
namespace Go.Proofs.YtmdeeokejdkceaaGreatDoor
open Go.Vx Go.ChangeShapes Go.WideShapes Go.ChangeAt Go.RowKit
theorem compact_lt {zs : List Int} (hs : zs.Pairwise (· ≤ ·)) : (Lib.compact zs).Pairwise (· < ·) := by
  unfold Lib.compact Lib.compactUpTo
  rw [List.pairwise_map]
  have h0 : ((List.range zs.length).filter (Lib.keeps zs.toArray)).Pairwise (· < ·) := List.Pairwise.filter _ List.pairwise_lt_range
  refine h0.imp_of_mem ?_
  intro i j hi hj hij
  simp only [List.mem_filter, List.mem_range] at hi hj
  obtain ⟨hi1, hi2⟩ := hi
  obtain ⟨hj1, hj2⟩ := hj
  have hd : zs[j - 1]'(by omega) ≠ zs[j] := by
    unfold Lib.keeps at hj2
    rw [decide_eq_true_iff] at hj2
    have e1 : zs.toArray[j]! = zs[j] := by simp [hj1]
    have e2 : zs.toArray[j - 1]! = zs[j - 1]'(by omega) := by simp [show j - 1 < zs.length by omega]
    rw [e1, e2] at hj2
    rcases hj2 with h | h
    · omega
    · exact fun e => h e.symm
  have hle : ∀ (a b : Nat) (hb : b < zs.length) (hab : a ≤ b), zs[a]'(by omega) ≤ zs[b] := fun a b hb hab => by
    by_cases e : a = b
    · subst e; exact Int.le_refl _
    · exact List.pairwise_iff_getElem.1 hs a b (by omega) hb (by omega)
  have h1 := hle i (j - 1) (by omega) (by omega)
  have h2 := hle (j - 1) j hj1 (by omega)
  have e1 : zs.toArray[i]! = zs[i] := by simp [hi1]
  have e2 : zs.toArray[j]! = zs[j] := by simp [hj1]
  rw [e1, e2]
  omega
theorem compact_mem {zs : List Int} {x : Int} : x ∈ Lib.compact zs ↔ x ∈ zs := by
  unfold Lib.compact Lib.compactUpTo
  rw [List.mem_map]
  constructor
  · rintro ⟨i, hi, rfl⟩
    simp only [List.mem_filter, List.mem_range] at hi
    have : zs.toArray[i]! = zs[i]'hi.1 := by simp [hi.1]
    rw [this]
    exact List.getElem_mem _
  · intro hx
    have hex : ∃ i, ∃ h : i < zs.length, zs[i] = x := by
      obtain ⟨i, h, e⟩ := List.getElem_of_mem hx
      exact ⟨i, h, e⟩
    obtain ⟨i, ⟨hi, rfl⟩, hmin⟩ := least hex
    refine ⟨i, ?_, by simp [hi]⟩
    simp only [List.mem_filter, List.mem_range]
    refine ⟨hi, ?_⟩
    unfold Lib.keeps
    rw [decide_eq_true_iff]
    by_cases h0 : i = 0
    · exact .inl h0
    · have hlt : i - 1 < zs.length := by omega
      have e1 : zs.toArray[i]! = zs[i] := by simp [hi]
      have e2 : zs.toArray[i - 1]! = zs[i - 1] := by simp [hlt]
      rw [e1, e2]
      refine .inr fun e => ?_
      have := hmin (i - 1) ⟨hlt, e.symm⟩
      omega
theorem lt_nodup {l : List Int} (h : l.Pairwise (· < ·)) : l.Nodup := h.imp fun h => by omega
theorem perm_of_mem {l l' : List Int} (h : l.Nodup) (h' : l'.Nodup) (hm : ∀ x, x ∈ l ↔ x ∈ l') : l.Perm l' := by
  rw [List.perm_iff_count]
  intro a
  rw [h.count, h'.count]
  simp only [hm a]
def once (l : List Int) : List Int := Lib.compact (sortL l)
theorem once_lt (l : List Int) : (once l).Pairwise (· < ·) := compact_lt (sortL_le l)
theorem once_mem {l : List Int} {x : Int} : x ∈ once l ↔ x ∈ l := by
  unfold once
  rw [compact_mem]
  exact (sortL_perm l).mem_iff
def majB (l of : List Int) : Bool := decide ((once l).length < 2 * (once l).countP (of.contains ·))
def firsts (l : List Int) : Nat → List Int
  | 0 => []
  | k + 1 => if h : k < l.length then (if (l.take k).contains l[k] then firsts l k else firsts l k ++ [l[k]]) else firsts l k
theorem firsts_mem {l : List Int} : ∀ {k : Nat}, k ≤ l.length → ∀ x, x ∈ firsts l k ↔ x ∈ l.take k
  | 0, _, x => by simp [firsts]
  | k + 1, hk, x => by
    have ih := firsts_mem (l := l) (k := k) (by omega)
    have hlt : k < l.length := by omega
    rw [firsts, dif_pos hlt, List.take_succ_eq_append_getElem hlt]
    split
    · rename_i h
      rw [ih, List.mem_append, List.mem_singleton]
      constructor
      · exact .inl
      · rintro (h1 | rfl)
        · exact h1
        · simpa using h
    · rw [List.mem_append, List.mem_append, ih]
theorem firsts_nodup {l : List Int} : ∀ {k : Nat}, k ≤ l.length → (firsts l k).Nodup
  | 0, _ => by simp [firsts]
  | k + 1, hk => by
    have ih := firsts_nodup (l := l) (k := k) (by omega)
    have hlt : k < l.length := by omega
    rw [firsts, dif_pos hlt]
    split
    · exact ih
    · rename_i h
      rw [List.nodup_append]
      refine ⟨ih, by simp, fun a ha b hb e => ?_⟩
      rw [List.mem_singleton] at hb
      subst hb e
      exact h (by simpa using (firsts_mem (by omega) _).1 ha)
theorem firsts_once (l : List Int) : (firsts l l.length).Perm (once l) :=
  perm_of_mem (firsts_nodup (Nat.le_refl _)) (lt_nodup (once_lt l)) fun x => by
    rw [firsts_mem (Nat.le_refl _), List.take_length, once_mem]
theorem maj_ref (l of : List Int) : majB l of = decide ((firsts l l.length).length < 2 * (firsts l l.length).countP (of.contains ·)) := by
  unfold majB
  rw [(firsts_once l).length_eq, (firsts_once l).countP_eq]
theorem two_counts (p q : Int → Bool) : ∀ (l : List Int), l.countP p + l.countP q ≤ l.length + l.countP (fun x => p x && q x)
  | [] => by simp
  | x :: l => by
    have ih := two_counts p q l
    rw [List.countP_cons, List.countP_cons, List.countP_cons, List.length_cons]
    cases hp : p x <;> cases hq : q x <;> simp [hp, hq] <;> omega
theorem maj_common {l a b : List Int} (h1 : majB l a = true) (h2 : majB l b = true) : ∃ x ∈ l, a.contains x = true ∧ b.contains x = true := by
  unfold majB at h1 h2
  rw [decide_eq_true_iff] at h1 h2
  have := two_counts (a.contains ·) (b.contains ·) (once l)
  have hpos : 0 < (once l).countP (fun x => a.contains x && b.contains x) := by omega
  obtain ⟨x, hx, hp⟩ := List.countP_pos_iff.1 hpos
  rw [Bool.and_eq_true] at hp
  exact ⟨x, once_mem.1 hx, hp⟩
theorem maj_mono {l a b : List Int} (h : ∀ x ∈ l, x ∈ a → x ∈ b) (h1 : majB l a = true) : majB l b = true := by
  unfold majB at *
  rw [decide_eq_true_iff] at *
  refine Nat.lt_of_lt_of_le h1 (Nat.mul_le_mul_left _ (List.countP_mono_left fun x hx hp => ?_))
  simp only [List.contains_eq_mem, decide_eq_true_eq] at *
  exact h x (once_mem.1 hx) hp
theorem values_s {G : GH} {A : Option Addr} {n c : Nat} : Con Tryz.prog 184 #[.slice A n c] G []
    (fun r G' μ' => ∃ b, r = .func (.func 236) #[] #[.pointer (some ⟨b, 0, none⟩)] ∧ G' = G ∧ μ' = [(b, .cells [.slice A n c].toArray 49 (0, 0))]) := by
  (refine v_enter Tryz.func184 rfl Tryz.ntmps184 rfl ?_; intro B _)
  repeat' (first | apply v_seq | apply v_region | apply v_nil | (apply v_pure; (case hop => first | (apply p_assign <;> rfl) | (apply p_makeFunc <;> rfl)); (case hd => rfl)) | (apply v_box; (case hx => rfl); (case hz => rfl); (case hd => rfl); intro b) | fail)
  refine v_ret [(b, _)] (outsA1 rfl rfl) (by repeat (exact List.Sublist.refl _)) ?_
  exact ⟨b, rfl, rfl, rfl⟩
theorem vals_seq {G : GH} {l : List Int} {A : Option Addr} {n c b : Nat} (hs : Sl G 1 (IntR .i64) (.slice A n c) l) (hl : l.length ≤ 1048576) : SeqCon Tryz.prog 236 [.pointer (some ⟨b, 0, none⟩)] keyI (fun xs => xs = l) l.length G [(b, .cells [.slice A n c].toArray 49 (0, 0))] := by
  intro lp J G1 ν hle hJ0 hY
  obtain ⟨A', c', e0, hlc, hcm, hsome, hel, -⟩ := (hs.mono hle).openInt
  cases e0
  simp only [maxLen] at hcm
  (refine v_enter Tryz.func236 rfl Tryz.ntmps236 rfl ?_; intro B _)
  repeat' (first | apply v_seq | apply v_region | apply v_nil | apply v_block | (apply v_pure; (case hop => first | (apply p_move <;> rfl) | (apply p_lenSlice <;> rfl) | fail); (case hd => rfl)) | (apply v_read; (case hop => (apply r_load1; rfl; (apply Cell.own; (case h => (repeat (exact mhd _))); rfl))); (case hd => rfl)) | fail)
  refine v_loopI (ι := Nat) [7, 5, 6, 0] (fun k vs G' μ' => GH.le G1 G' ∧ ∃ ν', k ≤ l.length ∧ vs = [Value.int .i64 (k : Nat), .slice A l.length c, .int .i64 (l.length : Nat), .func (.yield lp) #[] #[]] ∧ J (l.take k) G' ν' ∧ μ' = (b, .cells [.slice A l.length c].toArray 49 (0, 0)) :: ν') (fun k => l.length - k) rfl 0 ⟨GH.le_refl _, ν, by omega, rfl, hJ0, rfl⟩ ?_
  rintro k vs G' _ ⟨hle', ν', hk, rfl, hJ, rfl⟩
  by_cases hlt : k < l.length
  · have e1 : ((k : Nat) : Int).toNat = k := by omega
    have hc := GH.cell_le hle' (hel k hlt)
    have hA := hsome (by omega)
    have hy := hY (l.take k) l[k] G' ν' hle' hJ (by rw [List.length_take]; omega)
    rw [← List.take_succ_eq_append_getElem hlt] at hy
    generalize l[k] = x at *
    repeat' (first | apply v_seq | apply v_region | apply v_nil | apply v_skip | apply v_block | apply v_blk | (apply v_pure; (case hop => first | (apply p_move <;> rfl) | (apply p_lt <;> rfl) | (apply p_assign <;> rfl) | (apply p_not <;> rfl) | (apply p_add; (case hx => rfl); (case hy => rfl); (case h => omega)) | (apply p_indexAddrS; (case hx => rfl); (case hi => rfl); (case h0 => omega); (case h => omega); (case hA => assumption)) | fail); (case hd => rfl)) | (apply v_condF; (case hc => rfl)) | (apply v_cond; (case hc => rfl); all_goals (intro h; (try simp only [reduceCtorEq, zzz] at h); first | (exfalso; omega) | skip)) | (apply v_read; (case hop => (apply r_load1; rfl; exact Cell.frozen hc)); (case hd => rfl)) | (apply v_yield (hs := hy); (case hx => rfl); (case ha => rfl); (case hp => exact (List.perm_append_comm (l₁ := [(b, Obj.cells [Value.slice A l.length c].toArray 49 (0, 0))]) (l₂ := ν'))); (case hd => rfl); rintro _ G2 ν2 hle2 ⟨rfl, hJ2⟩) | fail)
    refine v_perm List.perm_append_comm ?_
    refine v_againI (k + 1) rfl ⟨GH.le_trans hle' hle2, ν2, by omega, rfl, hJ2, rfl⟩ (by omega)
  · repeat' (first | apply v_seq | apply v_region | apply v_nil | (apply v_exit; (case hp => rfl)) | (apply v_pure; (case hop => (apply p_lt <;> rfl)); (case hd => rfl)) | (apply v_cond; (case hc => rfl); all_goals (intro h; (try simp only [reduceCtorEq, zzz] at h); first | (exfalso; omega) | skip)) | fail)
    refine v_end _ (outsA0 rfl) (List.Sublist.refl _) ?_
    rw [List.take_of_length_le (by omega)] at hJ
    exact ⟨l, ν', rfl, hJ, rfl⟩
theorem appendSeq_s {G : GH} {gf : FuncId} [Callable Tryz.prog gf] {lb : List Value} {S : List Int → Prop} {N : Nat} {μ1 : OH} (hN : N ≤ 1048576) (hseq : SeqCon Tryz.prog gf lb keyI S N G μ1) :
    Con Tryz.prog 234 #[.slice none 0 0, .func (.func gf) #[] lb.toArray] G μ1 (fun r G' μ' => G' = G ∧ ∃ xs ν, S xs ∧ Grow 3 1 r xs.length (xs.map (Value.int .i64 ·)) ν ∧ μ' = ν ++ μ1) := by
  (refine v_enter Tryz.func234 rfl Tryz.ntmps234 rfl ?_; intro B _)
  repeat' (first | apply v_seq | apply v_region | apply v_nil | apply v_block | (apply v_pure; (case hop => first | (apply p_move <;> rfl) | (apply p_assign <;> rfl)); (case hd => rfl)) | (apply v_box; (case hx => rfl); (case hz => rfl); (case hd => rfl); intro b) | fail)
  refine v_rangeFunc (enc := keyI) (N := N) (S := S) (μ1 := μ1) (μ2 := [(b, .cells [.slice none 0 0].toArray 49 (0, 0))]) (σ' := fun x => _) (fun pre G' ν => G' = G ∧ ∃ v ν1, Grow 3 1 v pre.length (pre.map (Value.int .i64 ·)) ν1 ∧ ν = ν1 ++ [(b, .cells [v].toArray 49 (0, 0))]) rfl hseq ?_ rfl (fun x => Assigns.region (.cons (p_assign rfl) rfl (.nil _))) rfl ⟨rfl, _, [], Grow.nil _ _, rfl⟩ ?_ ?_
  · exact (List.perm_append_comm (l₁ := [(b, Obj.cells [Value.slice none 0 0].toArray 49 (0, 0))]) (l₂ := μ1))
  · rintro l B' _ pre x G2 _ hle ⟨rfl, v, ν1, hg, rfl⟩ hlen
    have hpl : pre.length ≤ 1048576 := by omega
    repeat' (first | apply v_region | apply v_nil | apply v_block | apply v_blk | (apply v_pure; (case hop => (apply p_move <;> rfl)); (case hd => rfl)) | (apply v_append (hg := hg) (m' := 1) (us := [keyI x]) (hp := PickA.perm (by repeat (first | exact PickA.here _ | apply PickA.cons))) (hsrc := Src.own (e := 3) (by repeat (exact mhd _)) rfl); (case hzs => rfl); (case hsz => omega); (case hs => rfl); (case hx => rfl); (case hb => omega); (case hb' => simp only [maxLen]; omega); (case hd => rfl); (case h1 => rfl); intro v3 n3 hg3; obtain ⟨A3, c3, rfl, -, -⟩ := hg3.shape) | (apply v_read; (case hop => (apply r_load1; rfl; (apply Cell.own; (case h => (repeat (first | exact mhd _ | apply List.mem_append_right))); rfl))); (case hd => rfl)) | (apply v_buildSlice; (case hz => rfl); (case hi => rfl); (case hv => (simp only [List.map_cons, List.map_nil]; repeat (first | with_reducible exact evs_nil | (apply evs_cons; (case h1 => rfl))))); (case hp => (apply pk_cons; (case hc => rfl); (case hs => rfl); (case h => (with_reducible exact pk_nil)); (case he => ((repeat (first | with_reducible exact ap_nil | apply ap_cons)); done)))); (case hb => rfl); (case hd => rfl); intro b) | (apply v_store; (case hp => rfl); (case hx => rfl); (case hc => rfl); (case hsz => rfl); (case h1 => rfl); (case hb => (repeat (first | exact mhd _ | apply mtl | apply List.mem_append_right))); (case hfit => exact nle rfl); (case hov => ((repeat (first | with_reducible exact ov_nil | apply ov_cons)); done)); (case hu => repeat (first | exact Upd.here _ _ | apply Upd.there | apply Upd.app))) | fail)
    refine v_endR (n3 ++ [_]) (List.Sublist.append_left (by repeat (first | exact List.Sublist.refl _ | apply List.Sublist.cons)) _) ⟨rfl, rfl, _, n3, by simpa using hg3, rfl⟩
  · rintro B' D _ xs G2 _ hle hS ⟨rfl, v, ν1, hg, rfl⟩
    repeat' (first | apply v_seq | apply v_region | apply v_nil | apply v_blk | (apply v_pure; (case hop => (apply p_assign <;> rfl)); (case hd => rfl)) | (apply v_read; (case hop => (apply r_load1; rfl; (apply Cell.own; (case h => (repeat (first | exact mhd _ | apply mtl | apply List.mem_append_right))); rfl))); (case hd => rfl)) | fail)
    refine v_retD (Ds := [D]) (μ1 := (ν1 ++ μ1) ++ [(b, .cells [v].toArray 49 (0, 0))]) (ν1 ++ μ1) (fun ds a ha w _ => outs1 rfl rfl ds a ha) ?_ (List.sublist_append_left _ _) ⟨rfl, xs, ν1, hS, hg, rfl⟩
    exact (show List.Perm (μ1 ++ (ν1 ++ [(b, Obj.cells [v].toArray 49 (0, 0))])) (ν1 ++ μ1 ++ [(b, Obj.cells [v].toArray 49 (0, 0))]) from (by apply perm_of_count; intro p; simp only [List.append_eq, List.countP_append, List.countP_cons, List.countP_nil, Nat.zero_add, Nat.add_zero]; try ac_rfl)).cons _
theorem collect_s {G : GH} {gf : FuncId} [Callable Tryz.prog gf] {lb : List Value} {S : List Int → Prop} {N : Nat} {μ1 : OH} (hN : N ≤ 1048576) (hseq : SeqCon Tryz.prog gf lb keyI S N G μ1) :
    Con Tryz.prog 181 #[.func (.func gf) #[] lb.toArray] G μ1 (fun r G' μ' => G' = G ∧ ∃ xs ν, S xs ∧ Grow 3 1 r xs.length (xs.map (Value.int .i64 ·)) ν ∧ μ' = ν ++ μ1) := by
  have q := appendSeq_s hN hseq
  (refine v_enter Tryz.func181 rfl Tryz.ntmps181 rfl ?_; intro B _)
  repeat' (first | apply v_seq | apply v_region | apply v_nil | (apply v_pure; (case hop => first | (apply p_move <;> rfl) | (apply p_assign <;> rfl)); (case hd => rfl)) | fail)
  refine v_call (μ1 := μ1) (μ2 := []) rfl q (by simp) rfl ?_
  rintro r _ _ - ⟨rfl, xs, ν, hS, hg, rfl⟩
  repeat' (first | apply v_nil | (apply v_pure; (case hop => (apply p_assign <;> rfl)); (case hd => rfl)) | fail)
  refine v_ret (ν ++ μ1) (outsA1 rfl rfl) (by simp) ⟨rfl, xs, ν, hS, hg, rfl⟩
abbrev Co := Int × List Int
def CoR (G : GH) (x : Co) (cs : List Value) : Prop := ∃ mv, cs = [.int .i64 x.1, mv] ∧ (Lit.int .i64 x.1).wf = true ∧ Sl G 1 (IntR .i64) mv x.2
abbrev Cos (G : GH) (v : Value) (l : List Co) : Prop := Sl G 2 (CoR G) v l
theorem coOpen {G : GH} {v : Value} {l : List Co} (h : Cos G v l) : ∃ A c, ∃ (mA : Nat → Option Addr) (mc : Nat → Nat), v = .slice A l.length c ∧ l.length ≤ c ∧ c ≤ maxLen ∧ (0 < l.length → A.isSome = true) ∧
    (∀ i (h : i < l.length), CellsG G ((adr A).add (i * 2)) [.int .i64 l[i].1, .slice (mA i) l[i].2.length (mc i)]) ∧ (∀ i (h : i < l.length), GH.cell? G (((adr A).add (i * 2)).add 0) = some (.int .i64 l[i].1)) ∧ (∀ i (h : i < l.length), GH.cell? G (((adr A).add (i * 2)).add 1) = some (.slice (mA i) l[i].2.length (mc i))) ∧
    (∀ i (h : i < l.length), Sl G 1 (IntR .i64) (.slice (mA i) l[i].2.length (mc i)) l[i].2) ∧ (∀ i (h : i < l.length), (Lit.int .i64 l[i].1).wf = true) := by
  obtain ⟨A, c, rfl, h1, h2, h3, h4⟩ := h.open
  have key : ∀ i, ∃ m : Option Addr × Nat, ∀ (h : i < l.length), CellsG G ((adr A).add (i * 2)) [.int .i64 l[i].1, .slice m.1 l[i].2.length m.2] ∧ Sl G 1 (IntR .i64) (.slice m.1 l[i].2.length m.2) l[i].2 ∧ (Lit.int .i64 l[i].1).wf = true := fun i => by
    by_cases hi : i < l.length
    · obtain ⟨cs, _, ⟨mv, rfl, h6, h7⟩, h5⟩ := h4 i _ (List.getElem?_eq_getElem hi)
      obtain ⟨A', c', rfl, _⟩ := h7.openInt
      exact ⟨(A', c'), fun _ => ⟨h5, h7, h6⟩⟩
    · exact ⟨(none, 0), fun h => absurd h hi⟩
  have hk := fun i => Classical.choose_spec (key i)
  exact ⟨A, c, fun i => (Classical.choose (key i)).1, fun i => (Classical.choose (key i)).2, rfl, h1, h2, h3, fun i hi => (hk i hi).1, fun i hi => (hk i hi).1.cell (j := 0) rfl, fun i hi => (hk i hi).1.cell (j := 1) rfl, fun i hi => (hk i hi).2.1, fun i hi => (hk i hi).2.2⟩
def inB (l : List Int) (n : Int) : Bool := decide (n ∈ l)
theorem in_s {G : GH} {l : List Int} {sv : Value} (n : Int) (hs : Sl G 1 (IntR .i64) sv l) : Con Tryz.prog 60 #[sv, .int .i64 n] G [] (Just (.bool (inB l n)) G) := by
  obtain ⟨A, c, rfl, hlc, hcm, hsome, hel, _⟩ := hs.openInt
  simp only [maxLen] at hcm
  (refine v_enter Tryz.func60 rfl Tryz.ntmps60 rfl ?_; intro B _)
  repeat' (first | apply v_seq | apply v_region | apply v_nil | apply v_block | (apply v_pure; (case hop => (apply p_assign <;> rfl)); (case hd => rfl)) | fail)
  refine v_loop [5, 0, 1] (fun us G' μ' => G' = G ∧ μ' = [] ∧ ∃ k, k ≤ l.length ∧ us = [Value.int .i64 (k : Nat), .slice A l.length c, .int .i64 n] ∧ ∀ i (h : i < l.length), i < k → l[i] ≠ n) (fun us => l.length - (headI us).toNat) rfl ⟨rfl, rfl, 0, by omega, rfl, by omega⟩ ?_
  rintro us G' μ' ⟨rfl, rfl, k, hk, rfl, hno⟩
  repeat' (first | apply v_seq | apply v_region | apply v_nil | apply v_skip | apply v_block | apply v_blk | (apply v_exit; (case hp => rfl)) | (apply v_pure; (case hop => first | (apply p_move <;> rfl) | (apply p_eq <;> rfl) | (apply p_lt <;> rfl) | (apply p_assign <;> rfl) | (apply p_lenSlice <;> rfl) | (apply p_add; (case hx => rfl); (case hy => rfl); (case h => omega)) | (apply p_indexAddrS; (case hx => rfl); (case hi => rfl); (case h0 => omega); (case h => omega); (case hA => (apply_assumption; omega))) | fail); (case hd => rfl)) | (apply v_cond; (case hc => rfl); all_goals (intro h; (try simp only [reduceCtorEq, zzz] at h))) | (apply v_read; (case hop => (apply r_load1; rfl; exact Cell.frozen (hel _ (by omega)))); (case hd => rfl)) | fail)
  · refine v_ret [] (outsA1 rfl rfl) (by repeat (exact List.Sublist.refl _)) ?_
    refine ⟨?_, rfl, rfl⟩
    rw [inB, decide_eq_true (by rename_i h; rw [← h]; exact List.getElem_mem _)]
  · refine v_again rfl ⟨rfl, rfl, k + 1, by omega, rfl, fun i h hi => ?_⟩ (by simp [headI]; omega)
    by_cases hik : i = k
    · subst hik; assumption
    · exact hno i h (by omega)
  · refine v_ret [] (outsA1 rfl rfl) (by repeat (exact List.Sublist.refl _)) ?_
    refine ⟨?_, rfl, rfl⟩
    rw [inB, decide_eq_false]
    intro hm
    obtain ⟨i, hi, he⟩ := List.getElem_of_mem hm
    exact hno i hi (by omega) he
theorem index_s {G : GH} {l : List Int} {sv : Value} (n : Int) (hs : Sl G 1 (IntR .i64) sv l) : Con Tryz.prog 244 #[sv, .int .i64 n] G [] (fun r G' μ' => G' = G ∧ μ' = [] ∧ ∃ i : Int, r = .int .i64 i ∧ decide (0 ≤ i) = inB l n) := by
  obtain ⟨A, c, rfl, hlc, hcm, hsome, hel, _⟩ := hs.openInt
  simp only [maxLen] at hcm
  (refine v_enter Tryz.func244 rfl Tryz.ntmps244 rfl ?_; intro B _)
  repeat' (first | apply v_seq | apply v_region | apply v_nil | apply v_block | (apply v_pure; (case hop => first | (apply p_move <;> rfl) | (apply p_assign <;> rfl) | (apply p_lenSlice <;> rfl) | fail); (case hd => rfl)) | fail)
  refine v_loop [8, 7, 0, 1] (fun us G' μ' => G' = G ∧ μ' = [] ∧ ∃ k, k ≤ l.length ∧ us = [Value.int .i64 (k : Nat), .int .i64 l.length, .slice A l.length c, .int .i64 n] ∧ ∀ i (h : i < l.length), i < k → l[i] ≠ n) (fun us => l.length - (headI us).toNat) rfl ⟨rfl, rfl, 0, by omega, rfl, by omega⟩ ?_
  rintro us G' μ' ⟨rfl, rfl, k, hk, rfl, hno⟩
  repeat' (first | apply v_seq | apply v_region | apply v_nil | apply v_skip | apply v_block | apply v_blk | (apply v_exit; (case hp => rfl)) | (apply v_pure; (case hop => first | (apply p_move <;> rfl) | (apply p_eq <;> rfl) | (apply p_lt <;> rfl) | (apply p_assign <;> rfl) | (apply p_add; (case hx => rfl); (case hy => rfl); (case h => omega)) | (apply p_indexAddrS; (case hx => rfl); (case hi => rfl); (case h0 => omega); (case h => omega); (case hA => (apply_assumption; omega))) | fail); (case hd => rfl)) | (apply v_cond; (case hc => rfl); all_goals (intro h; (try simp only [reduceCtorEq, zzz] at h))) | (apply v_read; (case hop => (apply r_load1; rfl; exact Cell.frozen (hel _ (by omega)))); (case hd => rfl)) | fail)
  · refine v_ret [] (outsA1 rfl rfl) (by repeat (exact List.Sublist.refl _)) ?_
    refine ⟨rfl, rfl, _, rfl, ?_⟩
    rw [inB, decide_eq_true (p := n ∈ l) (by rename_i h; rw [h]; exact List.getElem_mem _), decide_eq_true (by omega)]
  · refine v_again rfl ⟨rfl, rfl, k + 1, by omega, rfl, fun i h hi => ?_⟩ (by simp [headI]; omega)
    by_cases hik : i = k
    · subst hik; exact fun e => ‹¬ n = _› e.symm
    · exact hno i h (by omega)
  · refine v_ret [] (outsA1 rfl rfl) (by repeat (exact List.Sublist.refl _)) ?_
    refine ⟨rfl, rfl, _, rfl, ?_⟩
    rw [inB, decide_eq_false (p := n ∈ l), decide_eq_false (by omega)]
    intro hm
    obtain ⟨i, hi, he⟩ := List.getElem_of_mem hm
    exact hno i hi (by omega) he
theorem contains_s {G : GH} {l : List Int} {sv : Value} (n : Int) (hs : Sl G 1 (IntR .i64) sv l) : Con Tryz.prog 198 #[sv, .int .i64 n] G [] (Just (.bool (inB l n)) G) := by
  (refine v_enter Tryz.func198 rfl Tryz.ntmps198 rfl ?_; intro B _)
  repeat' (first | apply v_seq | apply v_region | apply v_nil | (apply v_pure; (case hop => first | (apply p_move <;> rfl) | (apply p_assign <;> rfl)); (case hd => rfl)) | fail)
  refine v_call (μ1 := []) (μ2 := []) rfl (index_s n hs) (List.Perm.refl _) rfl ?_
  rintro r G' μ1 - ⟨rfl, rfl, i, rfl, hi⟩
  repeat' (first | apply v_nil | (apply v_pure; (case hop => first | (apply p_ge <;> rfl) | (apply p_assign <;> rfl)); (case hd => rfl)) | fail)
  refine v_ret [] (outsA1 rfl rfl) (by repeat (exact List.Sublist.refl _)) ?_
  exact ⟨by rw [dec_eq, hi], rfl, rfl⟩
def MemOK (m : List Int) : Prop := 0 < m.length ∧ ∀ k (h : k < m.length), 1 ≤ m[k] ∧ m[k] ≤ 9 ∧ (0 < k → m[k - 1] < m[k])
def ConfOK (l : List Co) : Prop := (∃ h : 0 < l.length, l[0].1 = 1) ∧ ∀ i (h : i < l.length), MemOK l[i].2 ∧ l[i].1 ≤ 4294967296 ∧ (0 < i → l[i - 1].1 < l[i].1)
noncomputable instance (m : List Int) : Decidable (MemOK m) := Classical.propDecidable _
noncomputable instance (l : List Co) : Decidable (ConfOK l) := Classical.propDecidable _
theorem Grow.cases {e : TypeId} {v : Value} {m : Nat} {xs : List Value} {ν : OH} (h : Grow e 1 v m xs ν) : (v = .slice none 0 0 ∧ m = 0 ∧ xs = [] ∧ ν = []) ∨ ∃ b cap spare, v = .slice (some ⟨b, 0, none⟩) m cap ∧ m ≤ cap ∧ cap ≤ maxLen ∧ ν = [(b, .cells (xs ++ spare).toArray e (0, 0))] ∧ xs.length = m ∧ (xs ++ spare).length = cap := by
  obtain ⟨hx, ⟨rfl, rfl, rfl⟩ | ⟨b, cap, spare, rfl, rfl, h1, h2, h3⟩⟩ := h
  · left
    exact ⟨rfl, rfl, by simpa using hx, rfl⟩
  · right
    exact ⟨b, cap, spare, rfl, h1, h2, rfl, by simpa using hx, by simpa using h3⟩
theorem grow_of {e : TypeId} {b m cap : Nat} {xs spare : List Value} (h1 : xs.length = m) (h2 : m ≤ cap) (h3 : cap ≤ maxLen) (h4 : (xs ++ spare).length = cap) : Grow e 1 (.slice (some ⟨b, 0, none⟩) m cap) m xs [(b, .cells (xs ++ spare).toArray e (0, 0))] :=
  ⟨by omega, .inr ⟨b, cap, spare, rfl, rfl, h2, h3, by omega⟩⟩
theorem sorted_s {G : GH} {gf : FuncId} [Callable Tryz.prog gf] {lb : List Value} {S : List Int → Prop} {N : Nat} {μ1 : OH} (hN : N ≤ 1048576) (hS : ∀ xs, S xs → xs.length ≤ 1048576) (hseq : SeqCon Tryz.prog gf lb keyI S N G μ1) :
    Con Tryz.prog 112 #[.func (.func gf) #[] lb.toArray] G μ1 (fun r G' μ' => G' = G ∧ ∃ xs ν, S xs ∧ Grow 3 1 r xs.length ((sortL xs).map (Value.int .i64 ·)) ν ∧ μ' = ν ++ μ1) := by
  have q := collect_s hN hseq
  (refine v_enter Tryz.func112 rfl Tryz.ntmps112 rfl ?_; intro B _)
  repeat' (first | apply v_seq | apply v_region | apply v_nil | (apply v_pure; (case hop => first | (apply p_move <;> rfl) | (apply p_assign <;> rfl)); (case hd => rfl)) | fail)
  refine v_call (μ1 := μ1) (μ2 := []) rfl q (by simp) rfl ?_
  rintro r G1 _ - ⟨rfl, xs, ν, hSx, hg, rfl⟩
  have hlen := hS _ hSx
  obtain ⟨rfl, h0, h1, rfl⟩ | ⟨b, cap, spare, rfl, hc, hm, rfl, hxl, hcl⟩ := Grow.cases hg
  · have hx0 : xs = [] := List.eq_nil_of_length_eq_zero h0
    subst hx0
    repeat' (first | apply v_seq | apply v_region | apply v_nil | (apply v_pure; (case hop => first | (apply p_move <;> rfl) | (apply p_assign <;> rfl)); (case hd => rfl)) | (apply v_call (hs := sort0_s); (case ha => rfl); (case hp => exact List.Perm.refl _); (case hd => rfl); rintro _ _ _ _ ⟨rfl, rfl, rfl⟩) | fail)
    refine v_ret μ1 (outsA1 rfl rfl) (by simp) ⟨rfl, [], [], hSx, by simpa [sortL] using Grow.nil _ _, rfl⟩
  · have q2 := sort_s (G := G1) (zs := xs) (b := b) (cap := cap) (e := 3) (spare := spare) (by omega)
    repeat' (first | apply v_seq | apply v_region | apply v_nil | (apply v_pure; (case hop => first | (apply p_move <;> rfl) | (apply p_assign <;> rfl)); (case hd => rfl)) | fail)
    refine v_call (μ1 := [(b, _)]) (μ2 := μ1) rfl q2 (by simp) rfl ?_
    rintro _ G2 _ hle2 ⟨rfl, rfl, rfl⟩
    repeat' (first | apply v_seq | apply v_region | apply v_nil | (apply v_pure; (case hop => first | (apply p_move <;> rfl) | (apply p_assign <;> rfl)); (case hd => rfl)) | fail)
    refine v_ret ([(b, _)] ++ μ1) (outsA1 rfl rfl) (List.Sublist.refl _) ⟨rfl, xs, _, hSx, grow_of (by simp [(sortL_perm xs).length_eq]) hc hm (by simpa [(sortL_perm xs).length_eq] using hcl), rfl⟩
theorem inB_eq (l : List Int) (x : Int) : inB l x = l.contains x := by
  unfold inB
  rw [List.contains_eq_mem]
theorem maj_s {G : GH} {l of : List Int} {lv ov : Value} (hl : Sl G 1 (IntR .i64) lv l) (ho : Sl G 1 (IntR .i64) ov of) (hb : l.length ≤ 10000) : Con Tryz.prog 121 #[lv, ov] G [] (Just (.bool (majB l of)) G) := by
  obtain ⟨A, c, rfl, hlc, hcm, hsome, hel, hwl⟩ := id hl.openInt
  have q1 := values_s (G := G) (A := A) (n := l.length) (c := c)
  have q3 := fun G' (h : GH.le G G') x => contains_s x (ho.mono h)
  obtain ⟨A', c', rfl, hlc', hcm', hsome', hel', -⟩ := id ho.openInt
  (refine v_enter Tryz.func121 rfl Tryz.ntmps121 rfl ?_; intro B _)
  repeat' (first | apply v_seq | apply v_region | apply v_nil | (apply v_pure; (case hop => first | (apply p_move <;> rfl) | (apply p_assign <;> rfl) | fail); (case hd => rfl)) | fail)
  refine v_call (μ1 := []) (μ2 := []) rfl q1 (List.Perm.refl _) rfl ?_
  rintro _ _ _ - ⟨b, rfl, rfl, rfl⟩
  have q2 := sorted_s (by omega) (fun xs h => by rw [h]; omega) (vals_seq (b := b) hl (by omega))
  repeat' (fail)
  refine v_call (μ1 := [(b, _)]) (μ2 := []) rfl q2 (by simp) rfl ?_
  rintro r G1 _ - ⟨rfl, xs, ν, hxs, hg, rfl⟩
  subst hxs
  have hperm := sortL_perm xs
  have hlen := hperm.length_eq
  have hol := compact_len (sortL xs)
  obtain ⟨rfl, h0, h1, rfl⟩ | ⟨b2, cap, spare, rfl, hc, hm, rfl, hxl, hcl⟩ := Grow.cases hg
  · have hx0 : xs = [] := List.eq_nil_of_length_eq_zero h0
    subst hx0
    have hmaj : majB [] of = false := by simp [majB, once, sortL, Lib.compact, Lib.compactUpTo]
    rw [hmaj]
    repeat' (first | apply v_seq | apply v_region | apply v_nil | apply v_block | (apply v_pure; (case hop => first | (apply p_move <;> rfl) | (apply p_assign <;> rfl) | (apply p_lenSlice <;> rfl) | fail); (case hd => rfl)) | (apply v_callJ (hs := compact0_s); (case ha => rfl); (case hd => rfl)) | fail)
    refine v_loop [15, 14, 6, 5] (fun us G' μ' => G' = G1 ∧ us = [Value.int .i64 0, .int .i64 (0 : Nat), .int .i64 0, .slice none 0 0]) (fun us => 0) rfl ⟨rfl, rfl⟩ ?_
    rintro us G' μ' ⟨rfl, rfl⟩
    repeat' (first | apply v_seq | apply v_region | apply v_nil | (apply v_exit; (case hp => rfl)) | (apply v_pure; (case hop => first | (apply p_move <;> rfl) | (apply p_lt <;> rfl) | (apply p_gt <;> rfl) | (apply p_assign <;> rfl) | (apply p_lenSlice <;> rfl) | (apply p_mul; (case hx => rfl); (case hy => rfl); (case h => omega))); (case hd => rfl)) | (apply v_cond; (case hc => rfl); all_goals (intro h; (try simp only [reduceCtorEq, zzz] at h); first | (exfalso; omega) | skip)) | fail)
    refine v_ret [] (outsA1 rfl rfl) (List.nil_sublist _) ⟨?_, rfl, rfl⟩
    rw [dec_neg (by omega)]
  · have q4 := compact_s (G := G1) (zs := sortL xs) (b := b2) (cap := cap) (e := 3) (spare := spare) (by omega) (by omega)
    rw [hlen] at q4
    repeat' (fail)
    refine v_call (μ1 := [(b2, _)]) (μ2 := [(b, .cells [.slice A xs.length c].toArray 49 (0, 0))]) rfl q4 (by simp) rfl ?_
    rintro _ G2 _ hle2 ⟨rfl, rfl, sp, rfl⟩
    have e0 : Lib.compact (sortL xs) = once xs := rfl
    rw [e0] at hol ⊢
    have hon : (once xs).length ≤ 10000 := by omega
    have hmj : majB xs of = decide ((once xs).length < 2 * (once xs).countP (inB of ·)) := by
      unfold majB
      simp only [inB_eq]
    rw [hmj]
    generalize once xs = L at *
    repeat' (first | apply v_seq | apply v_region | apply v_nil | apply v_block | (apply v_pure; (case hop => first | (apply p_move <;> rfl) | (apply p_assign <;> rfl) | (apply p_lenSlice <;> rfl) | fail); (case hd => rfl)) | fail)
    refine v_loop [15, 14, 6, 5, 13, 1] (fun us G' μ' => G' = G2 ∧ μ' = [(b2, .cells (L.map (Value.int .i64 ·) ++ sp).toArray 3 (0, 0)), (b, .cells [.slice A xs.length c].toArray 49 (0, 0))] ∧ ∃ k, k ≤ L.length ∧ us = [Value.int .i64 (k : Nat), .int .i64 (L.length : Nat), .int .i64 ((L.take k).countP (inB of ·) : Nat), .slice (some ⟨b2, 0, none⟩) L.length cap, .slice (some ⟨b2, 0, none⟩) L.length cap, .slice A' of.length c']) (fun us => L.length - (headI us).toNat) rfl ⟨rfl, rfl, 0, by omega, rfl⟩ ?_
    rintro us G' μ' ⟨rfl, rfl, k, hk, rfl⟩
    by_cases hlt : k < L.length
    · have e1 : ((k : Nat) : Int).toNat = k := by omega
      have hval : (L.map (Value.int .i64 ·) ++ sp)[((k : Nat) : Int).toNat * 1]? = some (.int .i64 L[k]) := by
        rw [e1, Nat.mul_one, List.getElem?_append_left (by simpa using hlt), List.getElem?_map, List.getElem?_eq_getElem hlt]
        rfl
      have hcnt : (L.take (k + 1)).countP (inB of ·) = (L.take k).countP (inB of ·) + (if inB of L[k] = true then 1 else 0) := by
        rw [List.take_succ_eq_append_getElem hlt, List.countP_append, List.countP_singleton]
      have hcb : (L.take k).countP (inB of ·) ≤ k := Nat.le_trans List.countP_le_length (by rw [List.length_take]; omega)
      generalize L[k] = x at *
      generalize (L.take k).countP (inB of ·) = m at *
      have q := q3 _ (GH.le_refl _) x
      generalize inB of x = ib at *
      repeat' (first | apply v_seq | apply v_region | apply v_nil | apply v_skip | apply v_block | apply v_blk | (apply v_pure; (case hop => first | (apply p_move <;> rfl) | (apply p_lt <;> rfl) | (apply p_assign <;> rfl) | (apply p_add; (case hx => rfl); (case hy => rfl); (case h => omega)) | (apply p_indexAddr; (case hx => rfl); (case hi => rfl); (case h0 => omega); (case h => omega)) | fail); (case hd => rfl)) | (apply v_cond; (case hc => rfl); all_goals (intro h; (try simp only [reduceCtorEq, zzz] at h); first | (exfalso; omega) | skip)) | (apply v_read; (case hop => (apply r_load1; rfl; exact CellsAt.own (by repeat (exact mhd _)) _ _ hval)); (case hd => rfl)) | (apply v_callJ (hs := q); (case ha => rfl); (case hd => rfl)) | fail)
      · rw [if_pos h] at hcnt
        refine v_again rfl ⟨rfl, rfl, k + 1, by omega, by rw [hcnt]; rfl⟩ (by simp [headI]; omega)
      · rw [if_neg (by rw [h]; simp), Nat.add_zero] at hcnt
        refine v_again rfl ⟨rfl, rfl, k + 1, by omega, by rw [hcnt]; rfl⟩ (by simp [headI]; omega)
    · have htk : L.take k = L := List.take_of_length_le (by omega)
      rw [htk]
      have hcb : L.countP (inB of ·) ≤ L.length := List.countP_le_length
      generalize L.countP (inB of ·) = m at *
      repeat' (first | apply v_seq | apply v_region | apply v_nil | (apply v_exit; (case hp => rfl)) | (apply v_pure; (case hop => first | (apply p_move <;> rfl) | (apply p_lt <;> rfl) | (apply p_gt <;> rfl) | (apply p_assign <;> rfl) | (apply p_lenSlice <;> rfl) | (apply p_mul; (case hx => rfl); (case hy => rfl); (case h => omega))); (case hd => rfl)) | (apply v_cond; (case hc => rfl); all_goals (intro h; (try simp only [reduceCtorEq, zzz] at h); first | (exfalso; omega) | skip)) | fail)
      refine v_ret [] (outsA1 rfl rfl) (List.nil_sublist _) ⟨?_, rfl, rfl⟩
      rw [dec_eq]
      congr 1
      rw [decide_eq_decide]
      omega
theorem firsts_len (l : List Int) : ∀ k, (firsts l k).length ≤ k
  | 0 => by simp [firsts]
  | k + 1 => by
    have ih := firsts_len l k
    rw [firsts]
    split
    · split
      · omega
      · rw [List.length_append, List.length_singleton]
        omega
    · omega
theorem refMaj_s {G : GH} {l of : List Int} {lv ov : Value} (hl : Sl G 1 (IntR .i64) lv l) (ho : Sl G 1 (IntR .i64) ov of) (hb : l.length ≤ 10000) : Con Tryz.prog 59 #[lv, ov] G [] (Just (.bool (majB l of)) G) := by
  have qo := fun x => in_s x ho
  obtain ⟨A, c, rfl, hlc, hcm, hsome, hel, hwl⟩ := id hl.openInt
  obtain ⟨A', c', rfl, hlc', hcm', hsome', hel', -⟩ := id ho.openInt
  simp only [maxLen] at hcm hcm'
  apply Con.just
  rw [maj_ref]
  (refine v_enter Tryz.func59 rfl Tryz.ntmps59 rfl ?_; intro B _)
  repeat' (first | apply v_seq | apply v_region | apply v_nil | apply v_block | (apply v_pure; (case hop => (apply p_assign <;> rfl)); (case hd => rfl)) | fail)
  refine v_loop [7, 5, 6, 0, 1] (fun us G' μ' => G' = G ∧ μ' = [] ∧ ∃ k, k ≤ l.length ∧ us = [Value.int .i64 (k : Nat), .int .i64 ((firsts l k).length : Nat), .int .i64 ((firsts l k).countP (inB of ·) : Nat), .slice A l.length c, .slice A' of.length c']) (fun us => l.length - (headI us).toNat) rfl ⟨rfl, rfl, 0, by omega, rfl⟩ ?_
  rintro us G' μ' ⟨rfl, rfl, k, hk, rfl⟩
  have hfl := firsts_len l k
  have hfc : (firsts l k).countP (inB of ·) ≤ (firsts l k).length := List.countP_le_length
  by_cases hlt : k < l.length
  · have e1 : ((k : Nat) : Int).toNat = k := by omega
    have hA := hsome (by omega)
    have hc0 := hel k hlt
    have ht : Sl G' 1 (IntR .i64) (.slice A k c) (l.take k) := hl.take hk
    have qi := in_s (l[k]) ht
    have hnx : firsts l (k + 1) = if inB (l.take k) l[k] = true then firsts l k else firsts l k ++ [l[k]] := by
      rw [firsts, dif_pos hlt, inB_eq]
    have qx := qo l[k]
    generalize l[k] = x at *
    generalize inB (l.take k) x = ib at *
    repeat' (first | apply v_seq | apply v_region | apply v_nil | apply v_skip | apply v_block | (apply v_pure; (case hop => first | (apply p_move <;> rfl) | (apply p_lt <;> rfl) | (apply p_lenSlice <;> rfl) | fail); (case hd => rfl)) | (apply v_cond; (case hc => rfl); all_goals (intro h; (try simp only [reduceCtorEq, zzz] at h); first | (exfalso; omega) | skip)) | fail)
    refine d_start _ (by kernel_rfl) (by kernel_rfl) (by kernel_rfl) (fun _ he => he) ?_
    all_goals (apply dtk 0; (case hi => rfl); (case hop => (apply prd; apply p_move <;> rfl)); (case hq => kernel_rfl))
    all_goals (apply dtk 1; (case hi => rfl); (case hop => (apply prd; apply p_move <;> rfl)); (case hq => kernel_rfl))
    all_goals (apply dtk 2; (case hi => rfl); (case hop => (apply prd; apply p_sliceH; (case hx => rfl); (case hh => rfl); all_goals omega)); (case hq => kernel_rfl))
    all_goals (apply dtk 3; (case hi => rfl); (case hop => (apply prd; apply p_move <;> rfl)); (case hq => kernel_rfl))
    all_goals (apply dtk 4; (case hi => rfl); (case hop => (apply prd; apply p_move <;> rfl)); (case hq => kernel_rfl))
    all_goals (apply dtk 5; (case hi => rfl); (case hop => (apply prd; apply p_indexAddrS; (case hx => rfl); (case hi => rfl); (case h0 => omega); (case h => omega); (case hA => assumption))); (case hq => kernel_rfl))
    all_goals (apply dtk 6; (case hi => rfl); (case hop => ((apply r_load1; rfl; exact Cell.frozen hc0))); (case hq => kernel_rfl))
    all_goals (apply d_callJ 7 (hs := qi); (case hi => rfl); (case hr => kernel_rfl); (case ha => rfl); (case hd => rfl))
    all_goals (apply d_done; (case hr => kernel_rfl))
    repeat' (first | apply v_seq | apply v_region | apply v_nil | apply v_skip | apply v_blk | (apply v_exit; (case hp => rfl)) | (apply v_pure; (case hop => first | (apply p_move <;> rfl) | (apply p_assign <;> rfl) | (apply p_add; (case hx => rfl); (case hy => rfl); (case h => omega)) | (apply p_indexAddrS; (case hx => rfl); (case hi => rfl); (case h0 => omega); (case h => omega); (case hA => assumption)) | fail); (case hd => rfl)) | (apply v_cond; (case hc => rfl); all_goals (intro h; (try simp only [reduceCtorEq, zzz] at h))) | (apply v_read; (case hop => (apply r_load1; rfl; exact Cell.frozen hc0)); (case hd => rfl)) | (apply v_callJ (hs := qx); (case ha => rfl); (case hd => rfl)) | fail)
    · rw [if_pos h] at hnx
      refine v_again rfl ⟨rfl, rfl, k + 1, by omega, by rw [hnx]; rfl⟩ (by simp [headI]; omega)
    · rw [if_neg (by simp_all)] at hnx
      have e2 : (firsts l (k + 1)).length = (firsts l k).length + 1 := by rw [hnx]; simp
      have e3 : (firsts l (k + 1)).countP (inB of ·) = (firsts l k).countP (inB of ·) + 1 := by rw [hnx, List.countP_append, List.countP_singleton, if_pos h]
      refine v_again rfl ⟨rfl, rfl, k + 1, by omega, by rw [e2, e3]; rfl⟩ (by simp [headI]; omega)
    · rw [if_neg (by simp_all)] at hnx
      have e2 : (firsts l (k + 1)).length = (firsts l k).length + 1 := by rw [hnx]; simp
      have e3 : (firsts l (k + 1)).countP (inB of ·) = (firsts l k).countP (inB of ·) := by rw [hnx, List.countP_append, List.countP_singleton, if_neg (by rw [h]; simp), Nat.add_zero]
      refine v_again rfl ⟨rfl, rfl, k + 1, by omega, by rw [e2, e3]; rfl⟩ (by simp [headI]; omega)
  · have e1 : k = l.length := by omega
    subst e1
    have hmm : (firsts l l.length).countP (of.contains ·) = (firsts l l.length).countP (inB of ·) := by simp only [inB_eq]
    rw [hmm]
    generalize (firsts l l.length).countP (inB of ·) = n2 at *
    generalize (firsts l l.length).length = n1 at *
    repeat' (first | apply v_seq | apply v_region | apply v_nil | (apply v_exit; (case hp => rfl)) | (apply v_pure; (case hop => first | (apply p_move <;> rfl) | (apply p_lt <;> rfl) | (apply p_gt <;> rfl) | (apply p_assign <;> rfl) | (apply p_lenSlice <;> rfl) | (apply p_sub; (case hx => rfl); (case hy => rfl); (case h => omega)) | fail); (case hd => rfl)) | (apply v_cond; (case hc => rfl); all_goals (intro h; (try simp only [reduceCtorEq, zzz] at h); first | (exfalso; omega) | skip)) | fail)
    refine v_ret [] (outsA1 rfl rfl) (List.nil_sublist _) ⟨?_, rfl⟩
    rw [dec_eq]
    congr 1
    rw [decide_eq_decide]
    omega
theorem leftM_perm {left : List Int} {a : Int} (hn : left.Nodup) (ha : a ∈ left) : left.Perm (a :: left.filter fun z => decide (z ≠ a)) := by
  refine perm_of_mem hn ?_ fun x => ?_
  · rw [List.nodup_cons]
    exact ⟨by simp, hn.sublist List.filter_sublist⟩
  · simp only [List.mem_cons, List.mem_filter, decide_eq_true_eq]
    by_cases hx : x = a
    · subst hx; simp [ha]
    · simp [hx]
theorem keysM_s {G : GH} {m : Nat} : Con Tryz.prog 113 #[.map (some m)] G []
    (fun r G' μ' => ∃ b, r = .func (.func 183) #[] #[.pointer (some ⟨b, 0, none⟩)] ∧ G' = G ∧ μ' = [(b, .cells [Value.map (some m)].toArray 175 (0, 0))]) := by
  (refine v_enter Tryz.func113 rfl Tryz.ntmps113 rfl ?_; intro B _)
  repeat' (first | apply v_seq | apply v_region | apply v_nil | (apply v_pure; (case hop => first | (apply p_assign <;> rfl) | (apply p_makeFunc <;> rfl)); (case hd => rfl)) | (apply v_box; (case hx => rfl); (case hz => rfl); (case hd => rfl); intro b) | fail)
  refine v_ret [(b, _)] (outsA1 rfl rfl) (by repeat (exact List.Sublist.refl _)) ?_
  exact ⟨b, rfl, rfl, rfl⟩
theorem keysM_seq {G : GH} {l : List (Int × Value)} {m b : Nat} {oM : Obj} (hM : MapB keyI l oM) : SeqCon Tryz.prog 183 [.pointer (some ⟨b, 0, none⟩)] keyI (fun xs => xs.Perm (l.map (·.1))) l.length G [(b, .cells [Value.map (some m)].toArray 175 (0, 0)), (m, oM)] := by
  intro lp J G1 ν hle hJ0 hY
  have hnd := hM.nodup
  (refine v_enter Tryz.func183 rfl Tryz.ntmps183 rfl ?_; intro B _)
  repeat' (first | apply v_seq | apply v_region | apply v_nil | apply v_block | (apply v_rangeM (hb := (by repeat (first | exact mhd _ | apply mtl))) (hM := hM); (case hx => rfl); (case hd => rfl); intro it oI hI) | (apply v_read; (case hop => (apply r_load1; rfl; (apply Cell.own; (case h => (repeat (exact mhd _))); rfl))); (case hd => rfl)) | fail)
  refine v_loopI (ι := List Int × List Int) [5, 0] (fun i vs G' μ' => GH.le G1 G' ∧ ∃ ν' oI, IterB keyI m l i.2 oM oI ∧ i.2.Nodup ∧ (i.1 ++ i.2).Perm (l.map (·.1)) ∧ vs = [.pointer (some ⟨it, 0, none⟩), .func (.yield lp) #[] #[]] ∧ J i.1 G' ν' ∧ μ' = (it, oI) :: (b, .cells [Value.map (some m)].toArray 175 (0, 0)) :: (m, oM) :: ν') (fun i => i.2.length) rfl ([], l.map (·.1)) ⟨GH.le_refl _, ν, oI, hI, hnd, List.Perm.refl _, rfl, hJ0, rfl⟩ ?_
  rintro ⟨pre, left⟩ vs G' _ ⟨hle', ν', oI', hI', hn, hper, rfl, hJ, rfl⟩
  simp only at hI' hn hper hJ
  have hlen := hper.length_eq
  rw [List.length_append, List.length_map] at hlen
  repeat' (first | apply v_seq | apply v_region | (apply v_nextM (k := 3) (hb := (by repeat (first | exact mhd _ | apply mtl))) (hI := hI'); (case hx => rfl); (case hp => exact List.Perm.refl _); (case hd => rfl)) | fail)
  · intro h0
    subst h0
    repeat' (first | apply v_seq | apply v_nil | (apply v_exit; (case hp => rfl)) | (apply v_pure; (case hop => (apply p_extract0 <;> rfl)); (case hd => rfl)) | (apply v_condF; (case hc => rfl)) | fail)
    refine v_end ([(b, _), (m, oM)] ++ ν') (outsA0 rfl) (by repeat (first | exact List.Sublist.refl _ | apply List.Sublist.cons)) ?_
    exact ⟨pre, ν', by simpa using hper, hJ, rfl⟩
  · intro a u oI2 ha hau hI2 hE
    have hy := hY pre a G' ν' hle' hJ (by
      have : 0 < left.length := List.length_pos_of_mem ha
      omega)
    have hlp := leftM_perm hn ha
    repeat' (first | apply v_seq | apply v_region | apply v_nil | apply v_skip | apply v_block | apply v_blk | (apply v_pure; (case hop => first | (apply p_move <;> rfl) | (apply p_assign <;> rfl) | (apply p_not <;> rfl) | (apply p_extract0 <;> rfl) | fail); (case hd => rfl)) | (apply v_condT; (case hc => rfl)) | (apply v_condF; (case hc => rfl)) | (apply v_read; (case hop => apply r_entry (hE := hE); (case hx => rfl); (case hi => repeat (exact mhd _)); (case hb => repeat (first | exact mhd _ | apply mtl))); (case hd => rfl)) | (apply v_yield (hs := hy); (case hx => rfl); (case ha => rfl); (case hp => exact (List.perm_append_comm (l₁ := [(it, oI2), (b, Obj.cells [Value.map (some m)].toArray 175 (0, 0)), (m, oM)]) (l₂ := ν'))); (case hd => rfl); rintro _ G2 ν2 hle2 ⟨rfl, hJ2⟩) | fail)
    refine v_perm List.perm_append_comm ?_
    refine v_againI (pre ++ [a], left.filter fun z => decide (z ≠ a)) rfl ⟨GH.le_trans hle' hle2, ν2, oI2, hI2, hn.sublist List.filter_sublist, ?_, rfl, hJ2, rfl⟩ ?_
    · refine List.Perm.trans ?_ hper
      simp only [List.append_assoc, List.singleton_append]
      exact List.Perm.append_left _ hlp.symm
    · have := hlp.length_eq
      simp only [List.length_cons] at this ⊢
      omega
abbrev zeroMs : Ms := ⟨0, 0, 0, 0, 0, 0, 0, 0, [], []⟩
def msOf (got : List Ms) (n : Int) : Ms := (got.find? fun m => decide (m.src = n)).getD zeroMs
theorem GotR.get {G : GH} {got : List Ms} {ml : List (Int × Value)} (h : GotR G got ml) (n : Int) : ∃ EA ec IA ic, (mget ml n).getD zMs = .agg ((msOf got n).cells (.slice EA (msOf got n).ents.length ec) (.slice IA (msOf got n).img.length ic)).toArray ∧ Es G (.slice EA (msOf got n).ents.length ec) (msOf got n).ents := by
  induction got generalizing ml with
  | nil =>
    have := h.1
    have : ml = [] := List.eq_nil_of_length_eq_zero this
    subst this
    exact ⟨none, 0, none, 0, rfl, Sl.nil⟩
  | cons m got ih =>
    obtain ⟨hl, h2⟩ := h
    cases ml with
    | nil => simp at hl
    | cons p ml =>
      have h0 := h2 0 (by simp) (by simp)
      simp only [List.getElem_cons_zero] at h0
      obtain ⟨h1, cs, h3, EA, ec, IA, ic, rfl, h4, -⟩ := h0
      by_cases e : m.src = n
      · have em : msOf (m :: got) n = m := by unfold msOf; rw [List.find?_cons_of_pos (by simpa using e)]; rfl
        have eg : mget (p :: ml) n = some p.2 := by unfold mget; rw [List.find?_cons_of_pos (by rw [h1]; simpa using e)]; rfl
        rw [em, eg, Option.getD_some, h3]
        exact ⟨EA, ec, IA, ic, rfl, h4⟩
      · have em : msOf (m :: got) n = msOf got n := by unfold msOf; rw [List.find?_cons_of_neg (by simpa using e)]
        have eg : mget (p :: ml) n = mget ml n := by unfold mget; rw [List.find?_cons_of_neg (by rw [h1]; simpa using e)]
        rw [em, eg]
        exact ih ⟨by simpa using hl, fun i hi hi' => by
          have h9 := h2 (i + 1) (Nat.succ_lt_succ hi) (Nat.succ_lt_succ hi')
          simp only [List.getElem_cons_succ] at h9
          exact h9⟩
def nodesL (got : List Ms) : List Int := sortL (got.map (·.src))
theorem sortL_eq {l l' : List Int} (h : l.Perm l') : sortL l = sortL l' := by
  refine List.Perm.eq_of_pairwise (le := fun a b => a ≤ b) ?_ (sortL_le l) (sortL_le l') ((sortL_perm l).trans (h.trans (sortL_perm l').symm))
  intro a b _ _ h1 h2
  omega
theorem nodes_s {G : GH} {r n a : Int} {q mp : Nat} {oM : Obj} {got : List Ms} {ml : List (Int × Value)} (hM : MapB keyI ml oM) (hg : GotR G got ml) (hb : got.length ≤ 1000) :
    Con Tryz.prog 52 #[.pointer (some ⟨q, 0, none⟩)] G [(q, qO r n a mp), (mp, oM)]
      (fun v G' μ' => G' = G ∧ ∃ ν, Grow 3 1 v (nodesL got).length ((nodesL got).map (.int .i64 ·)) ν ∧ μ' = ν ++ [(q, qO r n a mp), (mp, oM)]) := by
  have q1 := keysM_s (G := G) (m := mp)
  have hl := hg.1
  have hks := hg.keys
  (refine v_enter Tryz.func52 rfl Tryz.ntmps52 rfl ?_; intro B _)
  repeat' (first | apply v_seq | apply v_region | apply v_nil | apply v_skip | (apply v_pure; (case hop => first | (apply p_move <;> rfl) | (apply p_assign <;> rfl) | (apply p_fieldAddrB <;> rfl) | (apply p_nilCheck <;> rfl) | (apply p_eqNil <;> rfl) | fail); (case hd => rfl)) | (apply v_condF; (case hc => rfl)) | (apply v_read; (case hop => (apply r_load1; rfl; (apply Cell.own; (case h => (repeat (exact mhd _))); rfl))); (case hd => rfl)) | fail)
  refine v_call (μ1 := []) (μ2 := [(q, qO r n a mp), (mp, oM)]) rfl q1 (List.Perm.refl _) rfl ?_
  rintro _ G1 _ - ⟨b3, rfl, hG1, rfl⟩
  subst G1
  have q2 := sorted_s (N := ml.length) (by omega) (fun xs h => by rw [h.length_eq, List.length_map]; omega) (keysM_seq (G := G) (m := mp) (b := b3) hM)
  repeat' (fail)
  refine v_call (μ1 := [(b3, .cells [Value.map (some mp)].toArray 175 (0, 0)), (mp, oM)]) (μ2 := [(q, qO r n a mp)]) rfl q2 (by apply perm_of_count; intro p; simp only [List.append_eq, List.countP_append, List.countP_cons, List.countP_nil, Nat.zero_add, Nat.add_zero]; try ac_rfl) rfl ?_
  rintro v2 G2 _ - ⟨hG2, xs, ν, hp, hgr, rfl⟩
  subst G2
  have e : sortL xs = nodesL got := by
    unfold nodesL
    rw [← hks]
    exact sortL_eq hp
  rw [← (sortL_perm xs).length_eq, e] at hgr
  repeat' (first | apply v_nil | (apply v_pure; (case hop => (apply p_assign <;> rfl)); (case hd => rfl)) | fail)
  refine v_perm (ν := (ν ++ [(q, qO r n a mp), (mp, oM)]) ++ [(b3, .cells [Value.map (some mp)].toArray 175 (0, 0))]) (by apply perm_of_count; intro p; simp only [List.append_eq, List.countP_append, List.countP_cons, List.countP_nil, Nat.zero_add, Nat.add_zero]; try ac_rfl) ?_
  exact v_ret (ν ++ [(q, qO r n a mp), (mp, oM)]) (outsA1 rfl rfl) (List.sublist_append_left _ _) ⟨rfl, ν, hgr, rfl⟩
def SrcP (got : List Ms) : Prop := got.length ≤ 1000 ∧ (∀ m ∈ got, 1 ≤ m.src ∧ m.src ≤ 9) ∧ ∀ m ∈ got, RiseL m.ents ∧ m.ents.length ≤ 256
def comF (got : List Ms) (s : Int × Int) (n : Int) : Int × Int := if s.1 < (msOf got n).commit then ((msOf got n).commit, n) else s
def comS (got : List Ms) (l : List Int) : Int × Int := l.foldl (comF got) (-1, 0)
theorem comS_snoc (got : List Ms) (l : List Int) (n : Int) : comS got (l ++ [n]) = comF got (comS got l) n := by
  unfold comS
  rw [List.foldl_append]
  rfl
theorem SrcP.nodes {got : List Ms} (h : SrcP got) : ∀ n ∈ nodesL got, 1 ≤ n ∧ n ≤ 9 := fun n hn => by
  have := (sortL_perm _).mem_iff.1 hn
  obtain ⟨m, hm, rfl⟩ := List.mem_map.1 this
  exact h.2.1 m hm
theorem nodesL_len (got : List Ms) : (nodesL got).length = got.length := by
  unfold nodesL
  rw [(sortL_perm _).length_eq, List.length_map]
theorem commit_s {G : GH} {r n a : Int} {q mp : Nat} {oM : Obj} {got : List Ms} {ml : List (Int × Value)} (hM : MapB keyI ml oM) (hg : GotR G got ml) (hb : SrcP got) :
    Con Tryz.prog 114 #[.pointer (some ⟨q, 0, none⟩)] G [(q, qO r n a mp), (mp, oM)]
      (fun v G' μ' => GH.le G G' ∧ v = .tuple [.int .i64 (comS got (nodesL got)).1, .int .i64 (comS got (nodesL got)).2].toArray ∧ μ' = [(q, qO r n a mp), (mp, oM)]) := by
  have q1 := nodes_s (r := r) (n := n) (a := a) (q := q) (mp := mp) hM hg hb.1
  have hlen := nodesL_len got
  have hl0 := hb.1
  have hnd := hb.nodes
  (refine v_enter Tryz.func114 rfl Tryz.ntmps114 rfl ?_; intro B _)
  repeat' (first | apply v_seq | apply v_region | apply v_nil | (apply v_pure; (case hop => (apply p_assign <;> rfl)); (case hd => rfl)) | (apply v_read; (case hop => (apply r_load1; rfl; (apply Cell.own; (case h => (repeat (first | exact mhd _ | apply mtl))); rfl))); (case hd => rfl)) | (apply v_alloc; (case hz => rfl); (case hd => rfl); intro b) | (apply v_box; (case hx => rfl); (case hz => rfl); (case hd => rfl); intro b) | (apply v_store; (case hp => rfl); (case hx => rfl); (case hc => rfl); (case hsz => rfl); (case h1 => rfl); (case hb => (repeat (first | exact mhd _ | apply mtl))); (case hfit => exact nle rfl); (case hov => ((repeat (first | with_reducible exact ov_nil | apply ov_cons)); done)); (case hu => repeat (first | exact Upd.here _ _ | apply Upd.there))) | fail)
  rename_i bq bm
  refine v_call (μ1 := [(q, qO r n a mp), (mp, oM)]) (μ2 := [(b, .cells [.int .i64 0].toArray 3 (0, 0)), (bm, .cells [.int .i64 (-1)].toArray 3 (0, 0)), (bq, .cells [.pointer (some ⟨q, 0, none⟩)].toArray 82 (0, 0))]) rfl q1 (by apply perm_of_count; intro p; simp only [List.append_eq, List.countP_append, List.countP_cons, List.countP_nil, Nat.zero_add, Nat.add_zero]; try ac_rfl) rfl ?_
  rintro v1 G1 _ - ⟨hG1, ν, hgr, rfl⟩
  subst G1
  refine v_frzP ν (List.Perm.of_eq (by simp only [List.append_assoc]; rfl)) ?_
  intro G1 hle1 hG1
  have hs := hgr.ints hG1 (fun x hx => by
    have := hnd x hx
    exact WalkArith.wf_i64 (by omega))
  obtain ⟨A2, c2, rfl, -⟩ := id hs.openInt
  generalize hns : nodesL got = ns at *
  repeat' (fail)
  refine v_call (μ1 := []) (μ2 := _) rfl values_s (List.Perm.refl _) rfl ?_
  rintro _ G3 _ - ⟨b4, rfl, hG3, rfl⟩
  subst G3
  have hseq := vals_seq (b := b4) hs (by omega)
  repeat' (first | apply v_nil | apply v_block)
  refine v_rangeFunc (enc := keyI) (N := ns.length) (S := fun xs' => xs' = ns) (μ1 := [(b4, .cells [.slice A2 ns.length c2].toArray 49 (0, 0))]) (μ2 := [(q, qO r n a mp), (mp, oM), (b, .cells [.int .i64 0].toArray 3 (0, 0)), (bm, .cells [.int .i64 (-1)].toArray 3 (0, 0)), (bq, .cells [.pointer (some ⟨q, 0, none⟩)].toArray 82 (0, 0))]) (σ' := fun x => _) (fun pre G' ν => GH.le G1 G' ∧ ν = [(q, qO r n a mp), (mp, oM), (b, .cells [.int .i64 (comS got pre).2].toArray 3 (0, 0)), (bm, .cells [.int .i64 (comS got pre).1].toArray 3 (0, 0)), (bq, .cells [.pointer (some ⟨q, 0, none⟩)].toArray 82 (0, 0))]) rfl hseq (by apply perm_of_count; intro p; simp only [List.append_eq, List.countP_append, List.countP_cons, List.countP_nil, Nat.zero_add, Nat.add_zero]; try ac_rfl) rfl (fun x => Assigns.region (.cons (p_assign rfl) rfl (.nil _))) rfl ⟨GH.le_refl _, rfl⟩ ?_ ?_
  · rintro l B' _ pre x G4 _ hle4 ⟨hle5', rfl⟩ hpl
    obtain ⟨EA, ec, IA, ic, hv, -⟩ := hg.get x
    rw [comS_snoc]
    generalize comS got pre = s at *
    obtain ⟨s1, s2⟩ := s
    have hF : comF got (s1, s2) x = if s1 < (msOf got x).commit then ((msOf got x).commit, x) else (s1, s2) := rfl
    rw [hF]
    clear hF
    generalize msOf got x = m at *
    repeat' (first | apply v_seq | apply v_region | apply v_nil | apply v_skip | apply v_block | apply v_blk | (apply v_pure; (case hop => first | (apply p_move <;> rfl) | (apply p_gt <;> rfl) | (apply p_assign <;> rfl) | (apply p_fieldAddrB <;> rfl) | (apply p_nilCheck <;> rfl) | (apply p_field1 <;> rfl) | fail); (case hd => rfl)) | (apply v_cond; (case hc => rfl); all_goals (intro h; (try simp only [reduceCtorEq, zzz] at h))) | (apply v_read; (case hop => (apply r_got x _ hv (hM := hM); (case hb => repeat (first | exact mhd _ | apply mtl)); (case hx => rfl); (case hi => rfl))); (case hd => rfl)) | (apply v_read; (case hop => (apply r_load1; rfl; (apply Cell.own; (case h => (repeat (first | exact mhd _ | apply mtl))); rfl))); (case hd => rfl)) | (apply v_store; (case hp => rfl); (case hx => rfl); (case hc => rfl); (case hsz => rfl); (case h1 => rfl); (case hb => (repeat (first | exact mhd _ | apply mtl))); (case hfit => exact nle rfl); (case hov => ((repeat (first | with_reducible exact ov_nil | apply ov_cons)); done)); (case hu => repeat (first | exact Upd.here _ _ | apply Upd.there))) | fail)
    · refine v_endR _ (List.Sublist.refl _) ⟨rfl, hle5', ?_⟩
      rw [if_pos (by omega)]
    · refine v_endR _ (List.Sublist.refl _) ⟨rfl, hle5', ?_⟩
      rw [if_neg (by omega)]
  · rintro B' D _ xs' G4 _ hle4 rfl ⟨hle5, rfl⟩
    repeat' (first | apply v_seq | apply v_blk)
    refine d_start _ (by kernel_rfl) (by kernel_rfl) (by kernel_rfl) (fun _ he => he) ?_
    all_goals (apply dtk 0; (case hi => rfl); (case hop => first | (apply r_loadNo; (case hx => rfl); (case h => (repeat (fail))); (case hd => (repeat (fail))); (case hn => rfl)) | (apply r_load1; rfl; (apply Cell.own; (case h => (repeat (first | exact mhd _ | apply mtl))); rfl)) | (apply r_loadN; rfl; (apply CellsAt.own; (case h => (repeat (fail)))); rfl)); (case hq => kernel_rfl))
    all_goals (apply dtk 1; (case hi => rfl); (case hop => first | (apply r_loadNo; (case hx => rfl); (case h => (repeat (fail))); (case hd => (repeat (fail))); (case hn => rfl)) | (apply r_load1; rfl; (apply Cell.own; (case h => (repeat (first | exact mhd _ | apply mtl))); rfl)) | (apply r_loadN; rfl; (apply CellsAt.own; (case h => (repeat (fail)))); rfl)); (case hq => kernel_rfl))
    all_goals (apply dtk 2; (case hi => rfl); (case hop => (apply prd; apply p_assign <;> rfl)); (case hq => kernel_rfl))
    all_goals (apply dtk 3; (case hi => rfl); (case hop => (apply prd; apply p_assign <;> rfl)); (case hq => kernel_rfl))
    all_goals (apply d_done; (case hr => kernel_rfl))
    all_goals repeat' (fail)
    all_goals
      (refine v_retD (Ds := [D]) [(q, qO r n a mp), (mp, oM)] (fun ds a ha w _ => outs2 rfl rfl rfl ds a ha) (List.Perm.refl _) ?_ ?_
       · exact List.Sublist.cons _ (List.Sublist.cons_cons _ (List.Sublist.cons_cons _ (List.nil_sublist _)))
       exact ⟨GH.le_trans hle1 hle4, rfl, rfl⟩)
def floorQ (a : Int) (got : List Ms) : Int := max (comS got (nodesL got)).1 (a - 1)
theorem floor_s {G : GH} {r n a : Int} {q mp : Nat} {oM : Obj} {got : List Ms} {ml : List (Int × Value)} (hM : MapB keyI ml oM) (hg : GotR G got ml) (hb : SrcP got) (ha : 1 ≤ a ∧ a ≤ 4294967296) :
    Con Tryz.prog 54 #[.pointer (some ⟨q, 0, none⟩)] G [(q, qO r n a mp), (mp, oM)] (fun v G' μ' => GH.le G G' ∧ v = .int .i64 (floorQ a got) ∧ μ' = [(q, qO r n a mp), (mp, oM)]) := by
  have q1 := commit_s (r := r) (n := n) (a := a) (q := q) (mp := mp) hM hg hb
  (refine v_enter Tryz.func54 rfl Tryz.ntmps54 rfl ?_; intro B _)
  repeat' (first | apply v_seq | apply v_region | apply v_nil | apply v_skip | (apply v_pure; (case hop => first | (apply p_move <;> rfl) | (apply p_assign <;> rfl) | (apply p_eqNil <;> rfl) | fail); (case hd => rfl)) | (apply v_condF; (case hc => rfl)) | fail)
  refine v_call (μ1 := [(q, qO r n a mp), (mp, oM)]) (μ2 := []) rfl q1 (List.Perm.refl _) rfl ?_
  rintro _ G1 _ hle ⟨-, rfl, rfl⟩
  repeat' (first | apply v_seq | apply v_region | apply v_nil | (apply v_pure; (case hop => first | (apply p_move <;> rfl) | (apply p_assign <;> rfl) | (apply p_fieldAddrB <;> rfl) | (apply p_nilCheck <;> rfl) | (apply p_extract0 <;> rfl) | (apply p_extract1 <;> rfl) | (apply p_sub; (case hx => rfl); (case hy => rfl); (case h => omega)) | (apply p_max <;> rfl) | fail); (case hd => rfl)) | (apply v_read; (case hop => (apply r_load1; rfl; (apply Cell.own; (case h => (repeat (exact mhd _))); rfl))); (case hd => rfl)) | fail)
  refine v_ret [(q, qO r n a mp), (mp, oM)] (outsA1 rfl rfl) (List.Sublist.refl _) ⟨hle, ?_, rfl⟩
  unfold floorQ
  rfl
def behindQ (a : Int) (got : List Ms) : Int := if (comS got (nodesL got)).1 < a then 0 else (comS got (nodesL got)).2
theorem SrcP.of {got : List Ms} (h : SrcP got) (n : Int) : RiseL (msOf got n).ents ∧ (msOf got n).ents.length ≤ 256 := by
  unfold msOf
  cases hf : got.find? fun m => decide (m.src = n) with
  | none => exact ⟨fun i j hj => absurd hj (by simp), by simp⟩
  | some m => exact h.2.2 m (List.mem_of_find?_eq_some hf)
noncomputable def bestF (got : List Ms) (index : Int) (s : Bool × Ent) (n : Int) : Bool × Ent := if hitB (msOf got n).ents index = true ∧ (s.1 = false ∨ lessP s.2.round s.2.node (findE (msOf got n).ents index).round (findE (msOf got n).ents index).node) then (true, findE (msOf got n).ents index) else s
noncomputable def bestS (got : List Ms) (index : Int) (l : List Int) : Bool × Ent := l.foldl (bestF got index) (false, zeroE)
theorem bestS_snoc (got : List Ms) (index : Int) (l : List Int) (n : Int) : bestS got index (l ++ [n]) = bestF got index (bestS got index l) n := by
  unfold bestS
  rw [List.foldl_append]
  rfl
set_option maxHeartbeats 1000000 in
theorem best_s {G : GH} {r n a : Int} {q mp : Nat} {oM : Obj} {got : List Ms} {ml : List (Int × Value)} (index : Int) (hM : MapB keyI ml oM) (hg : GotR G got ml) (hb : SrcP got) :
    Con Tryz.prog 110 #[.pointer (some ⟨q, 0, none⟩), .int .i64 index] G [(q, qO r n a mp), (mp, oM)]
      (fun v G' μ' => GH.le G G' ∧ v = .tuple [.agg (bestS got index (nodesL got)).2.cells.toArray, .bool (bestS got index (nodesL got)).1].toArray ∧ μ' = [(q, qO r n a mp), (mp, oM)]) := by
  have q1 := nodes_s (r := r) (n := n) (a := a) (q := q) (mp := mp) hM hg hb.1
  have hlen := nodesL_len got
  have hl0 := hb.1
  have hnd := hb.nodes
  (refine v_enter Tryz.func110 rfl Tryz.ntmps110 rfl ?_; intro B _)
  repeat' (first | apply v_seq | apply v_region | apply v_nil | (apply v_pure; (case hop => first | (apply p_move <;> rfl) | (apply p_assign <;> rfl) | fail); (case hd => rfl)) | (apply v_alloc; (case hz => rfl); (case hd => rfl); intro b) | fail)
  rename_i b4
  revert b
  intro b6
  refine v_call (μ1 := [(q, qO r n a mp), (mp, oM)]) (μ2 := [(b6, .cells zeroE.cells.toArray 105 (0, 0)), (b4, .cells zeroE.cells.toArray 105 (0, 0))]) rfl q1 (by apply perm_of_count; intro p; simp only [List.append_eq, List.countP_append, List.countP_cons, List.countP_nil, Nat.zero_add, Nat.add_zero]; try ac_rfl) rfl ?_
  rintro v1 G1 _ - ⟨hG1, ν, hgr, rfl⟩
  subst G1
  refine v_frzP ν (List.Perm.of_eq (by simp only [List.append_assoc]; rfl)) ?_
  intro G1 hle1 hG1
  have hs := hgr.ints hG1 (fun x hx => by
    have := hnd x hx
    exact WalkArith.wf_i64 (by omega))
  obtain ⟨A2, c2, rfl, hlc, hcm, hsome, hel, -⟩ := id hs.openInt
  simp only [maxLen] at hcm
  generalize hns : nodesL got = ns at *
  repeat' (first | apply v_nil | apply v_block | (apply v_pure; (case hop => first | (apply p_move <;> rfl) | (apply p_lenSlice <;> rfl) | fail); (case hd => rfl)) | fail)
  refine v_loop [15, 7, 13, 14, 0, 1, 4, 6] (fun us G' μ' => GH.le G1 G' ∧ ∃ k : Nat, k ≤ ns.length ∧ us = [Value.int .i64 (k : Nat), .bool (bestS got index (ns.take k)).1, .slice A2 ns.length c2, .int .i64 (ns.length : Nat), .pointer (some ⟨q, 0, none⟩), .int .i64 index, .pointer (some ⟨b4, 0, none⟩), .pointer (some ⟨b6, 0, none⟩)] ∧ μ' = [(q, qO r n a mp), (mp, oM), (b6, .cells (bestS got index (ns.take k)).2.cells.toArray 105 (0, 0)), (b4, .cells zeroE.cells.toArray 105 (0, 0))]) (fun us => ns.length - (headI us).toNat) rfl ⟨GH.le_refl _, 0, by omega, rfl, rfl⟩ ?_
  rintro us G' _ ⟨hle', k, hk, rfl, rfl⟩
  by_cases hlt : k < ns.length
  · have e1 : ((k : Nat) : Int).toNat = k := by omega
    have hA := hsome (by omega)
    have hc := GH.cell_le hle' (hel k hlt)
    have hsn := bestS_snoc got index (ns.take k) ns[k]
    rw [← List.take_succ_eq_append_getElem hlt] at hsn
    generalize bestS got index (ns.take k) = s at *
    generalize ns[k] = x at *
    obtain ⟨EA, ec, IA, ic, hv, hes⟩ := hg.get x
    have qf := find_s index (hes.mono (GH.le_trans hle1 hle')) (hb.of x).1
    unfold bestF at hsn
    generalize msOf got x = m at *
    generalize findE m.ents index = e at *
    generalize hitB m.ents index = h at *
    obtain ⟨s1, s2⟩ := s
    simp only at hsn
    have ql := less_s G' s2.round s2.node e.round e.node
    obtain ⟨ei, er, en, ⟨e1k, e2k, e3k, e4k, e5k, e6k, e7k⟩⟩ := e
    obtain ⟨si, sr, sn, ⟨s1k, s2k, s3k, s4k, s5k, s6k, s7k⟩⟩ := s2
    simp only at hsn ql
    cases h with
    | false =>
      rw [if_neg (by simp)] at hsn
      repeat' (first | apply v_seq | apply v_region | apply v_nil | apply v_skip | apply v_block | apply v_blk | (apply v_pass; (case hg => rfl); (case hn => rfl); (case hd => rfl)) | (apply v_passN; (case hg => rfl); (case hn => rfl); (case hd => rfl)) | (apply v_pure; (case hop => first | (apply p_move <;> rfl) | (apply p_lt <;> rfl) | (apply p_assign <;> rfl) | (apply p_pickF <;> rfl) | (apply p_fieldAddrB <;> rfl) | (apply p_nilCheck <;> rfl) | (apply p_extract0 <;> rfl) | (apply p_extract1 <;> rfl) | (apply p_add; (case hx => rfl); (case hy => rfl); (case h => omega)) | (apply p_indexAddrS; (case hx => rfl); (case hi => rfl); (case h0 => omega); (case h => omega); (case hA => assumption)) | (apply p_field1 <;> rfl) | fail); (case hd => rfl)) | (apply v_condF; (case hc => rfl)) | (apply v_cond; (case hc => rfl); all_goals (intro h; (try simp only [reduceCtorEq, zzz] at h); first | (exfalso; omega) | skip)) | (apply v_read; (case hop => (apply r_got x _ hv (hM := hM); (case hb => repeat (first | exact mhd _ | apply mtl)); (case hx => rfl); (case hi => rfl))); (case hd => rfl)) | (apply v_read; (case hop => (apply r_load1; rfl; exact Cell.frozen hc)); (case hd => rfl)) | (apply v_callJ (hs := qf); (case ha => rfl); (case hd => rfl)) | (apply v_read; (case hop => (apply r_load1; rfl; (apply Cell.own; (case h => (repeat (exact mhd _))); rfl))); (case hd => rfl)) | (apply v_alloc; (case hz => rfl); (case hd => rfl); intro b) | (apply v_store; (case hp => rfl); (case hx => rfl); (case hc => rfl); (case hsz => rfl); (case h1 => rfl); (case hb => (repeat (exact mhd _))); (case hfit => exact nle rfl); (case hov => ((repeat (first | with_reducible exact ov_nil | apply ov_cons)); done)); (case hu => repeat (exact Upd.here _ _))) | fail)
      all_goals
       (refine v_drop (ν := [(q, qO r n a mp), (mp, oM), (b6, _), (b4, _)]) (by repeat (first | exact List.Sublist.refl _ | apply List.Sublist.cons)) ?_
        exact v_again rfl ⟨hle', k + 1, by omega, by rw [hsn] <;> rfl, by rw [hsn] <;> rfl⟩ (by simp [headI]; omega))
    | true =>
      cases s1 with
      | false =>
        rw [if_pos (by simp)] at hsn
        repeat' (first | (apply v_read; (case hop => (apply r_loadNo; (case hx => rfl); (case h => repeat (exact mhd _)); (case hd => rfl); (case hn => rfl))); (case hd => rfl)) | apply v_seq | apply v_region | apply v_nil | apply v_skip | apply v_block | apply v_blk | (apply v_take; (case hg => rfl)) | (apply v_pass; (case hg => rfl); (case hn => rfl); (case hd => rfl)) | (apply v_pure; (case hop => first | (apply p_move <;> rfl) | (apply p_lt <;> rfl) | (apply p_assign <;> rfl) | (apply p_pickT <;> rfl) | (apply p_not <;> rfl) | (apply p_fieldAddrB <;> rfl) | (apply p_nilCheck <;> rfl) | (apply p_extract0 <;> rfl) | (apply p_extract1 <;> rfl) | (apply p_add; (case hx => rfl); (case hy => rfl); (case h => omega)) | (apply p_indexAddrS; (case hx => rfl); (case hi => rfl); (case h0 => omega); (case h => omega); (case hA => assumption)) | (apply p_field1 <;> rfl) | fail); (case hd => rfl)) | (apply v_condT; (case hc => rfl)) | (apply v_cond; (case hc => rfl); all_goals (intro h; (try simp only [reduceCtorEq, zzz] at h); first | (exfalso; omega) | skip)) | (apply v_read; (case hop => (apply r_got x _ hv (hM := hM); (case hb => repeat (first | exact mhd _ | apply mtl)); (case hx => rfl); (case hi => rfl))); (case hd => rfl)) | (apply v_read; (case hop => (apply r_load1; rfl; exact Cell.frozen hc)); (case hd => rfl)) | (apply v_callJ (hs := qf); (case ha => rfl); (case hd => rfl)) | (apply v_read; (case hop => (apply r_load1; rfl; (apply Cell.own; (case h => (repeat (exact mhd _))); rfl))); (case hd => rfl)) | (apply v_alloc; (case hz => rfl); (case hd => rfl); intro b) | (apply v_store; (case hp => rfl); (case hx => rfl); (case hc => rfl); (case hsz => rfl); (case h1 => rfl); (case hb => (repeat (first | exact mhd _ | apply mtl))); (case hfit => exact nle rfl); (case hov => (first | ((repeat (first | with_reducible exact ov_nil | apply ov_cons)); done) | rfl)); (case hu => repeat (first | exact Upd.here _ _ | apply Upd.there))) | fail)
        all_goals
         (refine v_drop (ν := [(q, qO r n a mp), (mp, oM), (b6, _), (b4, _)]) (by repeat (first | exact List.Sublist.refl _ | apply List.Sublist.cons)) ?_
          exact v_again rfl ⟨hle', k + 1, by omega, by rw [hsn] <;> rfl, by rw [hsn] <;> rfl⟩ (by simp [headI]; omega))
      | true =>
        by_cases hl : lessP sr sn er en
        · rw [if_pos ⟨rfl, .inr hl⟩] at hsn
          rw [decide_eq_true hl] at ql
          repeat' (first | (apply v_read; (case hop => (apply r_loadNo; (case hx => rfl); (case h => repeat (first | exact mhd _ | apply mtl)); (case hd => rfl); (case hn => rfl))); (case hd => rfl)) | apply v_seq | apply v_region | apply v_nil | apply v_skip | apply v_block | apply v_blk | (apply v_take; (case hg => rfl)) | (apply v_pure; (case hop => first | (apply p_move <;> rfl) | (apply p_lt <;> rfl) | (apply p_assign <;> rfl) | (apply p_pickT <;> rfl) | (apply p_pickF <;> rfl) | (apply p_not <;> rfl) | (apply p_fieldAddrB <;> rfl) | (apply p_nilCheck <;> rfl) | (apply p_extract0 <;> rfl) | (apply p_extract1 <;> rfl) | (apply p_add; (case hx => rfl); (case hy => rfl); (case h => omega)) | (apply p_indexAddrS; (case hx => rfl); (case hi => rfl); (case h0 => omega); (case h => omega); (case hA => assumption)) | (apply p_field1 <;> rfl) | fail); (case hd => rfl)) | (apply v_condT; (case hc => rfl)) | (apply v_cond; (case hc => rfl); all_goals (intro h; (try simp only [reduceCtorEq, zzz] at h); first | (exfalso; omega) | skip)) | (apply v_read; (case hop => (apply r_got x _ hv (hM := hM); (case hb => repeat (first | exact mhd _ | apply mtl)); (case hx => rfl); (case hi => rfl))); (case hd => rfl)) | (apply v_read; (case hop => (apply r_load1; rfl; exact Cell.frozen hc)); (case hd => rfl)) | (apply v_callJ (hs := qf); (case ha => rfl); (case hd => rfl)) | (apply v_callJ (hs := ql); (case ha => rfl); (case hd => rfl)) | (apply v_read; (case hop => (apply r_load1; rfl; (apply Cell.own; (case h => (repeat (exact mhd _))); rfl))); (case hd => rfl)) | (apply v_alloc; (case hz => rfl); (case hd => rfl); intro b) | (apply v_store; (case hp => rfl); (case hx => rfl); (case hc => rfl); (case hsz => rfl); (case h1 => rfl); (case hb => (repeat (first | exact mhd _ | apply mtl))); (case hfit => exact nle rfl); (case hov => (first | ((repeat (first | with_reducible exact ov_nil | apply ov_cons)); done) | rfl)); (case hu => repeat (first | exact Upd.here _ _ | apply Upd.there))) | fail)
          all_goals
           (refine v_drop (ν := [(q, qO r n a mp), (mp, oM), (b6, _), (b4, _)]) (by repeat (first | exact List.Sublist.refl _ | apply List.Sublist.cons)) ?_
            exact v_again rfl ⟨hle', k + 1, by omega, by rw [hsn] <;> rfl, by rw [hsn] <;> rfl⟩ (by simp [headI]; omega))
        · rw [if_neg (by simpa using hl)] at hsn
          rw [decide_eq_false hl] at ql
          repeat' (first | (apply v_read; (case hop => (apply r_loadNo; (case hx => rfl); (case h => repeat (first | exact mhd _ | apply mtl)); (case hd => rfl); (case hn => rfl))); (case hd => rfl)) | apply v_seq | apply v_region | apply v_nil | apply v_skip | apply v_block | apply v_blk | (apply v_take; (case hg => rfl)) | (apply v_pure; (case hop => first | (apply p_move <;> rfl) | (apply p_lt <;> rfl) | (apply p_assign <;> rfl) | (apply p_pickT <;> rfl) | (apply p_pickF <;> rfl) | (apply p_not <;> rfl) | (apply p_fieldAddrB <;> rfl) | (apply p_nilCheck <;> rfl) | (apply p_extract0 <;> rfl) | (apply p_extract1 <;> rfl) | (apply p_add; (case hx => rfl); (case hy => rfl); (case h => omega)) | (apply p_indexAddrS; (case hx => rfl); (case hi => rfl); (case h0 => omega); (case h => omega); (case hA => assumption)) | (apply p_field1 <;> rfl) | fail); (case hd => rfl)) | (apply v_condF; (case hc => rfl)) | (apply v_cond; (case hc => rfl); all_goals (intro h; (try simp only [reduceCtorEq, zzz] at h); first | (exfalso; omega) | skip)) | (apply v_read; (case hop => (apply r_got x _ hv (hM := hM); (case hb => repeat (first | exact mhd _ | apply mtl)); (case hx => rfl); (case hi => rfl))); (case hd => rfl)) | (apply v_read; (case hop => (apply r_load1; rfl; exact Cell.frozen hc)); (case hd => rfl)) | (apply v_callJ (hs := qf); (case ha => rfl); (case hd => rfl)) | (apply v_callJ (hs := ql); (case ha => rfl); (case hd => rfl)) | (apply v_read; (case hop => (apply r_load1; rfl; (apply Cell.own; (case h => (repeat (exact mhd _))); rfl))); (case hd => rfl)) | (apply v_alloc; (case hz => rfl); (case hd => rfl); intro b) | (apply v_store; (case hp => rfl); (case hx => rfl); (case hc => rfl); (case hsz => rfl); (case h1 => rfl); (case hb => (repeat (exact mhd _))); (case hfit => exact nle rfl); (case hov => ((repeat (first | with_reducible exact ov_nil | apply ov_cons)); done)); (case hu => repeat (exact Upd.here _ _))) | fail)
          all_goals
           (refine v_drop (ν := [(q, qO r n a mp), (mp, oM), (b6, _), (b4, _)]) (by repeat (first | exact List.Sublist.refl _ | apply List.Sublist.cons)) ?_
            exact v_again rfl ⟨hle', k + 1, by omega, by rw [hsn] <;> rfl, by rw [hsn] <;> rfl⟩ (by simp [headI]; omega))
  · have ek : k = ns.length := by omega
    subst ek
    rw [List.take_length]
    repeat' (first | apply v_seq | apply v_region | apply v_nil | (apply v_exit; (case hp => rfl)) | (apply v_pure; (case hop => first | (apply p_move <;> rfl) | (apply p_lt <;> rfl) | (apply p_assign <;> rfl) | fail); (case hd => rfl)) | (apply v_cond; (case hc => rfl); all_goals (intro h; (try simp only [reduceCtorEq, zzz] at h); first | (exfalso; omega) | skip)) | (apply v_read; (case hop => (apply r_loadNo; (case hx => rfl); (case h => (repeat (first | exact mhd _ | apply mtl))); (case hd => (repeat (first | with_reducible exact dt_nil | apply dt_here))); (case hn => rfl))); (case hd => rfl)) | (apply v_store; (case hp => rfl); (case hx => rfl); (case hc => rfl); (case hsz => rfl); (case h1 => rfl); (case hb => (repeat (first | exact mhd _ | apply mtl))); (case hfit => exact nle rfl); (case hov => ((repeat (first | with_reducible exact ov_nil | apply ov_cons)); done)); (case hu => repeat (first | exact Upd.here _ _ | apply Upd.there))) | fail)
    refine v_retM [(q, qO r n a mp), (mp, oM)] (outsM_cell_tmp (vs := (bestS got index ns).2.cells) (e := 105) rfl rfl rfl ?_ ?_) (by repeat (first | exact List.nil_sublist _ | apply List.Sublist.cons_cons)) ?_
    · repeat (first | exact mhd _ | apply mtl)
    · rfl
    · exact ⟨GH.le_trans hle1 hle', rfl, rfl⟩
noncomputable def valueQ (a : Int) (got : List Ms) (index : Int) : Bool × Cm := if index ≤ floorQ a got then (false, zeroE.cmd) else ((bestS got index (nodesL got)).1, (bestS got index (nodesL got)).2.cmd)
theorem value_s {G : GH} {r n a : Int} {q mp : Nat} {oM : Obj} {got : List Ms} {ml : List (Int × Value)} (index : Int) (hM : MapB keyI ml oM) (hg : GotR G got ml) (hb : SrcP got) (ha : 1 ≤ a ∧ a ≤ 4294967296) :
    Con Tryz.prog 48 #[.pointer (some ⟨q, 0, none⟩), .int .i64 index] G [(q, qO r n a mp), (mp, oM)]
      (fun v G' μ' => GH.le G G' ∧ v = .tuple [.agg (valueQ a got index).2.cells.toArray, .bool (valueQ a got index).1].toArray ∧ μ' = [(q, qO r n a mp), (mp, oM)]) := by
  have q1 := floor_s (r := r) (n := n) (a := a) (q := q) (mp := mp) hM hg hb ha
  unfold valueQ
  generalize floorQ a got = f at *
  (refine v_enter Tryz.func48 rfl Tryz.ntmps48 rfl ?_; intro B _)
  repeat' (first | apply v_seq | apply v_region | apply v_nil | (apply v_take; (case hg => rfl)) | (apply v_pure; (case hop => first | (apply p_move <;> rfl) | (apply p_assign <;> rfl) | (apply p_eqNil <;> rfl) | fail); (case hd => rfl)) | (apply v_alloc; (case hz => rfl); (case hd => rfl); intro b) | fail)
  refine v_call (μ1 := [(q, qO r n a mp), (mp, oM)]) (μ2 := [(b, .cells zeroE.cmd.cells.toArray 28 (0, 0))]) rfl q1 (by apply perm_of_count; intro p; simp only [List.append_eq, List.countP_append, List.countP_cons, List.countP_nil, Nat.zero_add, Nat.add_zero]; try ac_rfl) rfl ?_
  rintro _ G1 _ hle1 ⟨-, rfl, rfl⟩
  have q2 := best_s (r := r) (n := n) (a := a) (q := q) (mp := mp) index hM (hg.le hle1) hb
  generalize bestS got index (nodesL got) = s at *
  obtain ⟨s1, ⟨si, sr, sn, sc⟩⟩ := s
  repeat' (first | apply v_seq | apply v_region | apply v_nil | apply v_skip | (apply v_take; (case hg => rfl)) | (apply v_pure; (case hop => first | (apply p_move <;> rfl) | (apply p_le <;> rfl) | (apply p_assign <;> rfl) | (apply p_pickF <;> rfl) | (apply p_build; (case hz => rfl); (case hv => (simp only [List.map_cons, List.map_nil]; repeat (with_reducible exact evs_nil))); (case hb => (apply bldL; repeat (exact bld_nil)))) | fail); (case hd => rfl)) | (apply v_cond; (case hc => rfl); all_goals (intro h; (try simp only [reduceCtorEq, zzz] at h))) | (apply v_store; (case hp => rfl); (case hx => rfl); (case hc => rfl); (case hsz => rfl); (case h1 => rfl); (case hb => (repeat (first | exact mhd _ | apply mtl))); (case hfit => exact nle rfl); (case hov => ((repeat (first | with_reducible exact ov_nil | apply ov_cons)); done)); (case hu => repeat (first | exact Upd.here _ _ | apply Upd.there))) | fail)
  · refine v_retM [(q, qO r n a mp), (mp, oM)] (outsM_cell_tmp (vs := zeroE.cmd.cells) (e := 28) rfl rfl rfl ?_ ?_) (by repeat (first | exact List.nil_sublist _ | apply List.Sublist.cons_cons)) ?_
    · repeat (first | exact mhd _ | apply mtl)
    · rfl
    · exact ⟨hle1, by rw [if_pos (by omega)], rfl⟩
  · refine v_call (μ1 := [(q, qO r n a mp), (mp, oM)]) (μ2 := [(b, .cells zeroE.cmd.cells.toArray 28 (0, 0))]) rfl q2 (by apply perm_of_count; intro p; simp only [List.append_eq, List.countP_append, List.countP_cons, List.countP_nil, Nat.zero_add, Nat.add_zero]; try ac_rfl) rfl ?_
    rintro _ G2 _ hle2 ⟨-, rfl, rfl⟩
    repeat' (first | (apply v_read; (case hop => (apply r_loadNo; (case hx => rfl); (case h => repeat (exact mhd _)); (case hd => rfl); (case hn => rfl))); (case hd => rfl)) | apply v_seq | apply v_region | apply v_nil | (apply v_pure; (case hop => first | (apply p_move <;> rfl) | (apply p_assign <;> rfl) | (apply p_fieldAddrB <;> rfl) | (apply p_extract0 <;> rfl) | (apply p_extract1 <;> rfl) | fail); (case hd => rfl)) | (apply v_alloc; (case hz => rfl); (case hd => rfl); intro b) | (apply v_store; (case hp => rfl); (case hx => rfl); (case hc => rfl); (case hsz => rfl); (case h1 => rfl); (case hb => (repeat (first | exact mhd _ | apply mtl))); (case hfit => exact nle rfl); (case hov => (first | ((repeat (first | with_reducible exact ov_nil | apply ov_cons)); done) | rfl)); (case hu => repeat (first | exact Upd.here _ _ | apply Upd.there))) | fail)
    refine v_retM [(q, qO r n a mp), (mp, oM)] (outsM_cell_tmp (vs := sc.cells) (e := 28) rfl rfl rfl ?_ ?_) (by repeat (first | exact List.nil_sublist _ | apply List.Sublist.cons_cons | apply List.Sublist.cons)) ?_
    · repeat (first | exact mhd _ | apply mtl)
    · rfl
    · exact ⟨GH.le_trans hle1 hle2, by rw [if_neg (by omega)], rfl⟩
def topL (t : Int) (l : List Ent) : Int := l.foldl (fun t e => max t e.index) t
theorem topL_snoc (t : Int) (l : List Ent) (e : Ent) : topL t (l ++ [e]) = max (topL t l) e.index := by
  unfold topL
  rw [List.foldl_append]
  rfl
theorem topL_prop (l : List Ent) : ∀ t, t ≤ topL t l ∧ (∀ e ∈ l, e.index ≤ topL t l) ∧ (topL t l = t ∨ ∃ e ∈ l, topL t l = e.index) := by
  induction l with
  | nil => intro t; exact ⟨Int.le_refl _, by simp, .inl rfl⟩
  | cons x l ih =>
    intro t
    obtain ⟨h1, h2, h3⟩ := ih (max t x.index)
    have e : topL t (x :: l) = topL (max t x.index) l := rfl
    rw [e]
    refine ⟨by omega, ?_, ?_⟩
    · intro y hy
      rcases List.mem_cons.1 hy with rfl | hy
      · omega
      · exact h2 y hy
    · rcases h3 with h3 | ⟨y, hy, h3⟩
      · rw [h3]
        rcases Int.le_total t x.index with h | h
        · exact .inr ⟨x, List.mem_cons_self, by omega⟩
        · exact .inl (by omega)
      · exact .inr ⟨y, List.mem_cons_of_mem _ hy, h3⟩
def TopP (f : Int) (got : List Ms) (pre : List Int) (t : Int) : Prop := f ≤ t ∧ (∀ m ∈ got, m.src ∈ pre → ∀ e ∈ m.ents, e.index ≤ t) ∧ (t = f ∨ ∃ m ∈ got, ∃ e ∈ m.ents, t = e.index)
theorem TopP.more {f : Int} {got : List Ms} {pre : List Int} {t : Int} {x : Ms} (h : TopP f got pre t) (hx : x ∈ got) (hn : (got.map (·.src)).Nodup) : TopP f got (pre ++ [x.src]) (topL t x.ents) := by
  obtain ⟨h1, h2, h3⟩ := h
  obtain ⟨p1, p2, p3⟩ := topL_prop x.ents t
  refine ⟨by omega, ?_, ?_⟩
  · intro m hm hs e he
    rcases List.mem_append.1 hs with hs | hs
    · have := h2 m hm hs e he; omega
    · have e1 : m.src = x.src := by simpa using hs
      have e2 : m = x := by
        obtain ⟨i, hi, rfl⟩ := List.getElem_of_mem hm
        obtain ⟨j, hj, rfl⟩ := List.getElem_of_mem hx
        have := (List.getElem_inj (i := i) (j := j) (h₀ := by simpa using hi) (h₁ := by simpa using hj) hn).1 (by simpa using e1)
        subst this; rfl
      subst e2
      exact p2 e he
  · rcases p3 with p3 | ⟨e, he, p3⟩
    · rw [p3]; exact h3
    · exact .inr ⟨x, hx, e, he, p3⟩
theorem TopP.uniq {f : Int} {got : List Ms} {pre pre' : List Int} {t t' : Int} (h : TopP f got pre t) (h' : TopP f got pre' t') (ha : ∀ m ∈ got, m.src ∈ pre) (ha' : ∀ m ∈ got, m.src ∈ pre') : t = t' := by
  obtain ⟨a1, a2, a3⟩ := h
  obtain ⟨b1, b2, b3⟩ := h'
  have h1 : t ≤ t' := by
    rcases a3 with rfl | ⟨m, hm, e, he, rfl⟩
    · exact b1
    · exact b2 m hm (ha' m hm) e he
  have h2 : t' ≤ t := by
    rcases b3 with rfl | ⟨m, hm, e, he, rfl⟩
    · exact a1
    · exact a2 m hm (ha m hm) e he
  omega
def topQ (f : Int) (got : List Ms) : Int := got.foldl (fun t m => topL t m.ents) f
theorem topQ_TopP {f : Int} {got : List Ms} (hn : (got.map (·.src)).Nodup) : ∀ (k : Nat), k ≤ got.length → TopP f got ((got.take k).map (·.src)) ((got.take k).foldl (fun t m => topL t m.ents) f) := by
  intro k
  induction k with
  | zero => intro _; exact ⟨Int.le_refl _, by simp, .inl rfl⟩
  | succ k ih =>
    intro hk
    have h := ih (by omega)
    rw [List.take_succ_eq_append_getElem (by omega), List.map_append, List.foldl_append]
    exact h.more (List.getElem_mem _) hn
theorem topQ_top {f : Int} {got : List Ms} (hn : (got.map (·.src)).Nodup) : TopP f got (got.map (·.src)) (topQ f got) := by
  have h := topQ_TopP (f := f) hn got.length (Nat.le_refl _)
  rw [List.take_length] at h
  exact h
set_option maxHeartbeats 1000000 in
theorem top_s {G : GH} {r n a : Int} {q mp : Nat} {oM : Obj} {got : List Ms} {ml : List (Int × Value)} (hM : MapB keyI ml oM) (hg : GotR G got ml) (hb : SrcP got) (ha : 1 ≤ a ∧ a ≤ 4294967296) :
    Con Tryz.prog 56 #[.pointer (some ⟨q, 0, none⟩)] G [(q, qO r n a mp), (mp, oM)] (fun v G' μ' => GH.le G G' ∧ v = .int .i64 (topQ (floorQ a got) got) ∧ μ' = [(q, qO r n a mp), (mp, oM)]) := by
  have q1 := floor_s (r := r) (n := n) (a := a) (q := q) (mp := mp) hM hg hb ha
  have hnd := hM.nodup
  have hks := hg.keys
  have hn := id hnd
  rw [hks] at hn
  have htop := topQ_top (f := floorQ a got) hn
  generalize topQ (floorQ a got) got = tq at *
  generalize floorQ a got = f at *
  (refine v_enter Tryz.func56 rfl Tryz.ntmps56 rfl ?_; intro B _)
  repeat' (first | apply v_seq | apply v_region | apply v_nil | apply v_skip | (apply v_pure; (case hop => first | (apply p_move <;> rfl) | (apply p_assign <;> rfl) | (apply p_eqNil <;> rfl) | fail); (case hd => rfl)) | (apply v_condF; (case hc => rfl)) | fail)
  refine v_call (μ1 := [(q, qO r n a mp), (mp, oM)]) (μ2 := []) rfl q1 (by apply perm_of_count; intro p; simp only [List.append_eq, List.countP_append, List.countP_cons, List.countP_nil, Nat.zero_add, Nat.add_zero]; try ac_rfl) rfl ?_
  rintro _ G1 _ hle1 ⟨-, rfl, rfl⟩
  repeat' (first | apply v_seq | apply v_region | apply v_nil | apply v_block | (apply v_pure; (case hop => first | (apply p_move <;> rfl) | (apply p_assign <;> rfl) | (apply p_fieldAddrB <;> rfl) | (apply p_nilCheck <;> rfl) | fail); (case hd => rfl)) | (apply v_rangeM (hb := (by repeat (first | exact mhd _ | apply mtl))) (hM := hM); (case hx => rfl); (case hd => rfl); intro it oI hI) | (apply v_read; (case hop => (apply r_load1; rfl; (apply Cell.own; (case h => (repeat (exact mhd _))); rfl))); (case hd => rfl)) | fail)
  refine v_loopI (ι := List Int × List Int) [3, 16] (fun i vs G' μ' => GH.le G1 G' ∧ ∃ t oI, TopP f got i.1 t ∧ IterB keyI mp ml i.2 oM oI ∧ i.2.Nodup ∧ (i.1 ++ i.2).Perm (ml.map (·.1)) ∧ vs = [.int .i64 t, .pointer (some ⟨it, 0, none⟩)] ∧ μ' = [(it, oI), (q, qO r n a mp), (mp, oM)]) (fun i => i.2.length) rfl ([], ml.map (·.1)) ⟨GH.le_refl _, f, oI, ⟨Int.le_refl _, by simp, .inl rfl⟩, hI, hnd, List.Perm.refl _, rfl, rfl⟩ ?_
  rintro ⟨pre, left⟩ vs G' _ ⟨hle', t, oI', htp, hI', hnl, hper, rfl, rfl⟩
  simp only at hI' hnl hper htp
  repeat' (first | apply v_seq | apply v_region | (apply v_nextM (k := 3) (hb := (by repeat (first | exact mhd _ | apply mtl))) (hI := hI'); (case hx => rfl); (case hp => exact List.Perm.refl _); (case hd => rfl)) | fail)
  · intro h0
    subst h0
    repeat' (first | apply v_seq | apply v_region | apply v_nil | (apply v_exit; (case hp => rfl)) | (apply v_pure; (case hop => first | (apply p_move <;> rfl) | (apply p_assign <;> rfl) | (apply p_extract0 <;> rfl) | fail); (case hd => rfl)) | (apply v_condF; (case hc => rfl)) | fail)
    refine v_ret [(q, qO r n a mp), (mp, oM)] (outsA1 rfl rfl) (by repeat (first | exact List.Sublist.refl _ | apply List.Sublist.cons)) ⟨GH.le_trans hle1 hle', ?_, rfl⟩
    rw [List.append_nil] at hper
    have : t = tq := htp.uniq htop (fun m hm => hper.mem_iff.2 (by rw [hks]; exact List.mem_map.2 ⟨m, hm, rfl⟩)) (fun m hm => List.mem_map.2 ⟨m, hm, rfl⟩)
    rw [this]
  · intro k u oI2 hal hau hI2 hE
    have hlp := leftM_perm hnl hal
    obtain ⟨x, hx, rfl, EA, ec, IA, ic, rfl, hes⟩ := hg.val hau
    have hmore := htp.more hx hn
    obtain ⟨A7, c7, e7, hlc, hcm, hsome, hcp, -⟩ := esOpen (hes.mono (GH.le_trans hle1 hle'))
    cases e7
    have hbl := (hb.2.2 x hx).2
    generalize hents : x.ents = ents at *
    repeat' (first | apply v_seq | apply v_region | apply v_nil | apply v_skip | apply v_block | (apply v_pure; (case hop => first | (apply p_move <;> rfl) | (apply p_lenSlice <;> rfl) | (apply p_fieldAddrB <;> rfl) | (apply p_extract0 <;> rfl) | (apply p_extract1 <;> rfl) | fail); (case hd => rfl)) | (apply v_condT; (case hc => rfl)) | (apply v_read; (case hop => apply r_entry (hE := hE); (case hx => rfl); (case hi => repeat (exact mhd _)); (case hb => repeat (first | exact mhd _ | apply mtl))); (case hd => rfl)) | (apply v_read; (case hop => (apply r_load1; rfl; (apply Cell.own; (case h => (repeat (exact mhd _))); rfl))); (case hd => rfl)) | (apply v_alloc; (case hz => rfl); (case hd => rfl); intro b) | (apply v_store; (case hp => rfl); (case hx => rfl); (case hc => rfl); (case hsz => rfl); (case h1 => rfl); (case hb => (repeat (exact mhd _))); (case hfit => exact nle rfl); (case hov => ((repeat (first | with_reducible exact ov_nil | apply ov_cons)); done)); (case hu => repeat (exact Upd.here _ _))) | fail)
    refine v_drop (List.sublist_cons_self _ _) ?_
    refine v_loop [24, 3, 22, 23, 16] (fun us H μ' => H = G' ∧ ∃ k : Nat, k ≤ ents.length ∧ us = [Value.int .i64 (k : Nat), .int .i64 (topL t (ents.take k)), .slice EA ents.length ec, .int .i64 (ents.length : Nat), .pointer (some ⟨it, 0, none⟩)] ∧ μ' = [(it, oI2), (q, qO r n a mp), (mp, oM)]) (fun us => ents.length - (headI us).toNat) rfl ⟨rfl, 0, by omega, rfl, rfl⟩ ?_
    rintro us H _ ⟨hH, k, hk, rfl, rfl⟩
    subst H
    by_cases hlt : k < ents.length
    · have e1 : ((k : Nat) : Int).toNat = k := by omega
      have hA := hsome (by omega)
      have hc := hcp k hlt
      have hsn := topL_snoc t (ents.take k) ents[k]
      rw [← List.take_succ_eq_append_getElem hlt] at hsn
      generalize topL t (ents.take k) = s at *
      generalize ents[k] = e at *
      obtain ⟨ei, er, en, ek⟩ := e
      simp only at hsn
      repeat' (first | apply v_seq | apply v_region | apply v_nil | apply v_skip | apply v_block | apply v_blk | (apply v_pure; (case hop => first | (apply p_move <;> rfl) | (apply p_lt <;> rfl) | (apply p_assign <;> rfl) | (apply p_fieldAddrB <;> rfl) | (apply p_add; (case hx => rfl); (case hy => rfl); (case h => omega)) | (apply p_max <;> rfl) | (apply p_indexAddrS; (case hx => rfl); (case hi => rfl); (case h0 => omega); (case h => omega); (case hA => assumption)) | fail); (case hd => rfl)) | (apply v_cond; (case hc => rfl); all_goals (intro h; (try simp only [reduceCtorEq, zzz] at h); first | (exfalso; omega) | skip)) | (apply v_read; (case hop => (apply r_loadN; rfl; exact CellsAt.frozen hc; rfl)); (case hd => rfl)) | (apply v_read; (case hop => (apply r_load1; rfl; (apply Cell.own; (case h => (repeat (exact mhd _))); rfl))); (case hd => rfl)) | (apply v_alloc; (case hz => rfl); (case hd => rfl); intro b) | (apply v_store; (case hp => rfl); (case hx => rfl); (case hc => rfl); (case hsz => rfl); (case h1 => rfl); (case hb => (repeat (exact mhd _))); (case hfit => exact nle rfl); (case hov => ((repeat (first | with_reducible exact ov_nil | apply ov_cons)); done)); (case hu => repeat (exact Upd.here _ _))) | fail)
      refine v_drop (List.sublist_cons_self _ _) ?_
      exact v_again rfl ⟨rfl, k + 1, by omega, by rw [hsn] <;> rfl, rfl⟩ (by simp [headI]; omega)
    · have ek : k = ents.length := by omega
      subst ek
      rw [List.take_length]
      repeat' (first | apply v_seq | apply v_region | apply v_nil | apply v_blk | (apply v_exit; (case hp => rfl)) | (apply v_pure; (case hop => (apply p_lt <;> rfl)); (case hd => rfl)) | (apply v_cond; (case hc => rfl); all_goals (intro h; (try simp only [reduceCtorEq, zzz] at h); first | (exfalso; omega) | skip)) | fail)
      refine v_againI (pre ++ [x.src], left.filter fun z => decide (z ≠ x.src)) rfl ⟨hle', _, oI2, hmore, hI2, hnl.sublist List.filter_sublist, ?_, rfl, rfl⟩ ?_
      · refine List.Perm.trans ?_ hper
        simp only [List.append_assoc, List.singleton_append]
        exact List.Perm.append_left _ hlp.symm
      · have := hlp.length_eq
        simp only [List.length_cons] at this ⊢
        omega
section
variable {P : Program} {σ : Env} {G : GH} {μ : OH} {t ty : TypeId} {bytes : Nat} {zero : Value}
end
def flF (s : Int × Int) (m : Ms) : Int × Int := if s.1 < m.commit ∨ (m.commit = s.1 ∧ 0 < s.2 ∧ m.src < s.2) then (m.commit, m.src) else s
def flS (a : Int) (l : List Ms) : Int × Int := l.foldl flF (a - 1, 0)
noncomputable def vlF (index : Int) (s : Bool × Ent) (m : Ms) : Bool × Ent := if hitB m.ents index = true then (true, if s.1 = false ∨ lessP s.2.round s.2.node (findE m.ents index).round (findE m.ents index).node ∨ (((findE m.ents index).round = s.2.round ∧ (findE m.ents index).node = s.2.node) ∧ m.src < s.2.index) then { findE m.ents index with index := m.src } else s.2) else s
noncomputable def vlS (index : Int) (l : List Ms) : Bool × Ent := l.foldl (vlF index) (false, zeroE)
noncomputable def valueR (a : Int) (got : List Ms) (index : Int) : Bool × Cm := if index ≤ (flS a got).1 then (false, zeroE.cmd) else ((vlS index got).1, (vlS index got).2.cmd)
theorem msOf_src {got : List Ms} (hn : (got.map (·.src)).Nodup) {m : Ms} (hm : m ∈ got) : msOf got m.src = m := by
  unfold msOf
  cases hf : got.find? fun x => decide (x.src = m.src) with
  | none =>
    have := List.find?_eq_none.1 hf m hm
    simp at this
  | some x =>
    have h1 := List.find?_some hf
    have h2 := List.mem_of_find?_eq_some hf
    simp only [decide_eq_true_eq] at h1
    obtain ⟨i, hi, rfl⟩ := List.getElem_of_mem hm
    obtain ⟨j, hj, rfl⟩ := List.getElem_of_mem h2
    have := (List.getElem_inj (i := j) (j := i) (h₀ := by simpa using hj) (h₁ := by simpa using hi) hn).1 (by simpa using h1)
    subst this
    rfl
theorem nodesL_mem {got : List Ms} {n : Int} : n ∈ nodesL got ↔ ∃ m ∈ got, m.src = n := by
  unfold nodesL
  rw [(sortL_perm _).mem_iff, List.mem_map]
theorem nodesL_lt {got : List Ms} (hn : (got.map (·.src)).Nodup) : (nodesL got).Pairwise (· < ·) := by
  have h1 := sortL_le (got.map (·.src))
  have h2 : (nodesL got).Nodup := (sortL_perm _).nodup_iff.2 hn
  exact (h1.and h2).imp fun h => by omega
theorem foldl_inv {α β : Type} {f : β → α → β} {P : List α → β → Prop} {l : List α} {b : β} (h0 : P [] b) (hs : ∀ k (h : k < l.length) s, P (l.take k) s → P (l.take k ++ [l[k]]) (f s l[k])) : P l (l.foldl f b) := by
  have : ∀ k, k ≤ l.length → P (l.take k) ((l.take k).foldl f b) := by
    intro k
    induction k with
    | zero => intro _; exact h0
    | succ k ih =>
      intro hk
      rw [List.take_succ_eq_append_getElem (by omega), List.foldl_append]
      exact hs k (by omega) _ (ih (by omega))
  have h := this l.length (Nat.le_refl _)
  rwa [List.take_length] at h
theorem lt_take {l : List Int} (h : l.Pairwise (· < ·)) {k : Nat} (hk : k < l.length) : ∀ n ∈ l.take k, n < l[k] := by
  intro n hn
  obtain ⟨j, hj, rfl⟩ := List.getElem_of_mem hn
  rw [List.length_take] at hj
  rw [List.getElem_take]
  exact List.pairwise_iff_getElem.1 h j k (by omega) hk (by omega)
def CP (got : List Ms) (pre : List Int) (s : Int × Int) : Prop := -1 ≤ s.1 ∧ (∀ n ∈ pre, (msOf got n).commit ≤ s.1) ∧ (s = (-1, 0) ∨ ∃ n ∈ pre, s = ((msOf got n).commit, n) ∧ ∀ n' ∈ pre, (msOf got n').commit = s.1 → n ≤ n')
theorem CP.of {got : List Ms} (hn : (got.map (·.src)).Nodup) : CP got (nodesL got) (comS got (nodesL got)) := by
  unfold comS
  refine foldl_inv (P := CP got) ⟨Int.le_refl _, by simp, .inl rfl⟩ fun k hk s ⟨h1, h2, h3⟩ => ?_
  have hlt := lt_take (nodesL_lt hn) hk
  generalize (nodesL got)[k] = x at *
  generalize (nodesL got).take k = pre at *
  unfold comF
  by_cases hc : s.1 < (msOf got x).commit
  · rw [if_pos hc]
    refine ⟨by simp only; omega, fun n hn => ?_, .inr ⟨x, by simp, rfl, fun n hn he => ?_⟩⟩
    · rcases List.mem_append.1 hn with hn | hn
      · have := h2 n hn; simp only; omega
      · rw [List.mem_singleton] at hn; subst hn; exact Int.le_refl _
    · rcases List.mem_append.1 hn with hn | hn
      · have := h2 n hn; simp only at he; omega
      · rw [List.mem_singleton] at hn; subst hn; exact Int.le_refl _
  · rw [if_neg hc]
    refine ⟨h1, fun n hn => ?_, ?_⟩
    · rcases List.mem_append.1 hn with hn | hn
      · exact h2 n hn
      · rw [List.mem_singleton] at hn; subst hn; omega
    · rcases h3 with h3 | ⟨n, hn, h3, h4⟩
      · exact .inl h3
      · refine .inr ⟨n, List.mem_append_left _ hn, h3, fun n' hn' he => ?_⟩
        rcases List.mem_append.1 hn' with hn' | hn'
        · exact h4 n' hn' he
        · rw [List.mem_singleton] at hn'; subst hn'
          have := hlt n hn
          omega
def FP (a : Int) (S : List Ms) (s : Int × Int) : Prop := a - 1 ≤ s.1 ∧ (∀ m ∈ S, m.commit ≤ s.1) ∧ (s = (a - 1, 0) ∨ ∃ m ∈ S, s = (m.commit, m.src) ∧ a - 1 < m.commit ∧ ∀ m' ∈ S, m'.commit = m.commit → m.src ≤ m'.src)
theorem FP.of {got : List Ms} (a : Int) (hb : SrcP got) : FP a got (flS a got) := by
  unfold flS
  refine foldl_inv (P := FP a) ⟨Int.le_refl _, by simp, .inl rfl⟩ fun k hk s ⟨h1, h2, h3⟩ => ?_
  have hx := hb.2.1 _ (List.getElem_mem hk)
  have hS : ∀ m ∈ got.take k, 1 ≤ m.src := fun m hm => (hb.2.1 m (List.mem_of_mem_take hm)).1
  generalize got[k] = x at *
  generalize got.take k = S at *
  obtain ⟨s1, s2⟩ := s
  unfold flF
  simp only at h1 h2 h3 ⊢
  by_cases hc : s1 < x.commit
  · rw [if_pos (.inl hc)]
    refine ⟨by simp only; omega, fun m hm => ?_, .inr ⟨x, by simp, rfl, by omega, fun m hm he => ?_⟩⟩
    · rcases List.mem_append.1 hm with hm | hm
      · have := h2 m hm; simp only; omega
      · rw [List.mem_singleton] at hm; subst hm; exact Int.le_refl _
    · rcases List.mem_append.1 hm with hm | hm
      · have := h2 m hm; omega
      · rw [List.mem_singleton] at hm; subst hm; exact Int.le_refl _
  · by_cases hd : x.commit = s1 ∧ 0 < s2 ∧ x.src < s2
    · rw [if_pos (.inr hd)]
      rcases h3 with h3 | ⟨m0, hm0, h3, h4, h5⟩
      · simp only [Prod.mk.injEq] at h3; omega
      · simp only [Prod.mk.injEq] at h3
        refine ⟨by simp only; omega, fun m hm => ?_, .inr ⟨x, by simp, rfl, by omega, fun m hm he => ?_⟩⟩
        · rcases List.mem_append.1 hm with hm | hm
          · have := h2 m hm; simp only; omega
          · rw [List.mem_singleton] at hm; subst hm; exact Int.le_refl _
        · rcases List.mem_append.1 hm with hm | hm
          · have := h5 m hm (by omega); omega
          · rw [List.mem_singleton] at hm; subst hm; exact Int.le_refl _
    · rw [if_neg (by omega)]
      refine ⟨h1, fun m hm => ?_, ?_⟩
      · rcases List.mem_append.1 hm with hm | hm
        · exact h2 m hm
        · rw [List.mem_singleton] at hm; subst hm; simp only; omega
      · rcases h3 with h3 | ⟨m0, hm0, h3, h4, h5⟩
        · exact .inl h3
        · refine .inr ⟨m0, List.mem_append_left _ hm0, h3, h4, fun m hm he => ?_⟩
          simp only [Prod.mk.injEq] at h3
          have := hS m0 hm0
          rcases List.mem_append.1 hm with hm | hm
          · exact h5 m hm he
          · rw [List.mem_singleton] at hm; subst hm; omega
theorem floor_eq {got : List Ms} {a : Int} (ha : 1 ≤ a) (hb : SrcP got) (hc : ∀ m ∈ got, 0 ≤ m.commit) (hn : (got.map (·.src)).Nodup) : floorQ a got = (flS a got).1 ∧ behindQ a got = (flS a got).2 := by
  obtain ⟨p1, p2, p3⟩ := CP.of hn
  obtain ⟨q1, q2, q3⟩ := FP.of a hb
  unfold floorQ behindQ
  generalize comS got (nodesL got) = s at *
  generalize flS a got = f at *
  obtain ⟨s1, s2⟩ := s
  obtain ⟨f1, f2⟩ := f
  simp only [Prod.mk.injEq] at *
  have hup : ∀ m ∈ got, m.commit ≤ s1 := fun m hm => by
    have := p2 _ (nodesL_mem.2 ⟨m, hm, rfl⟩)
    rwa [msOf_src hn hm] at this
  rcases p3 with ⟨rfl, rfl⟩ | ⟨n, hn1, ⟨rfl, rfl⟩, p4⟩
  · rcases q3 with ⟨rfl, rfl⟩ | ⟨m, hm, ⟨rfl, rfl⟩, q4, q5⟩
    · exact ⟨by omega, by rw [if_pos (by omega)]⟩
    · have := hup m hm
      omega
  · obtain ⟨mn, hmn, rfl⟩ := nodesL_mem.1 hn1
    rw [msOf_src hn hmn] at *
    have h1 := q2 mn hmn
    rcases q3 with ⟨rfl, rfl⟩ | ⟨m, hm, ⟨rfl, rfl⟩, q4, q5⟩
    · exact ⟨by omega, by rw [if_pos (by omega)]⟩
    · have h2 := hup m hm
      have h3 := p4 m.src (nodesL_mem.2 ⟨m, hm, rfl⟩) (by rw [msOf_src hn hm]; omega)
      have h4 := q5 mn hmn (by omega)
      exact ⟨by omega, by rw [if_neg (by omega)]; omega⟩
theorem lessP_def (r n r' n' : Int) : lessP r n r' n' ↔ r < r' ∨ (r = r' ∧ n < n') := Iff.rfl
def BPq (index : Int) (got : List Ms) (pre : List Int) (s : Bool × Ent) : Prop :=
  (s = (false, zeroE) ∧ ∀ n ∈ pre, hitB (msOf got n).ents index = false) ∨
  ∃ n ∈ pre, hitB (msOf got n).ents index = true ∧ s = (true, findE (msOf got n).ents index) ∧
    ∀ n' ∈ pre, hitB (msOf got n').ents index = true → ¬ lessP s.2.round s.2.node (findE (msOf got n').ents index).round (findE (msOf got n').ents index).node ∧ ((findE (msOf got n').ents index).round = s.2.round → (findE (msOf got n').ents index).node = s.2.node → n ≤ n')
theorem BPq.of {got : List Ms} (index : Int) (hn : (got.map (·.src)).Nodup) : BPq index got (nodesL got) (bestS got index (nodesL got)) := by
  unfold bestS
  refine foldl_inv (P := BPq index got) (.inl ⟨rfl, by simp⟩) fun k hk s h => ?_
  have hlt := lt_take (nodesL_lt hn) hk
  generalize (nodesL got)[k] = x at *
  generalize (nodesL got).take k = pre at *
  unfold bestF
  cases hh : hitB (msOf got x).ents index with
  | false =>
    rw [if_neg (by simp)]
    rcases h with ⟨h1, h2⟩ | ⟨n, h1, h2, h3, h4⟩
    · refine .inl ⟨h1, fun n hn => ?_⟩
      rcases List.mem_append.1 hn with hn | hn
      · exact h2 n hn
      · rw [List.mem_singleton] at hn; subst hn; exact hh
    · refine .inr ⟨n, List.mem_append_left _ h1, h2, h3, fun n' hn' he => ?_⟩
      rcases List.mem_append.1 hn' with hn' | hn'
      · exact h4 n' hn' he
      · rw [List.mem_singleton] at hn'; subst hn'; rw [hh] at he; cases he
  | true =>
    rcases h with ⟨h1, h2⟩ | ⟨n, h1, h2, h3, h4⟩
    · subst h1
      rw [if_pos ⟨rfl, .inl rfl⟩]
      refine .inr ⟨x, by simp, hh, rfl, fun n' hn' he => ?_⟩
      rcases List.mem_append.1 hn' with hn' | hn'
      · rw [h2 n' hn'] at he; cases he
      · rw [List.mem_singleton] at hn'; subst hn'
        simp only [lessP_def]
        exact ⟨by omega, fun _ _ => Int.le_refl _⟩
    · subst h3
      simp only [lessP_def] at h4 ⊢
      by_cases hl : (findE (msOf got n).ents index).round < (findE (msOf got x).ents index).round ∨ (findE (msOf got n).ents index).round = (findE (msOf got x).ents index).round ∧ (findE (msOf got n).ents index).node < (findE (msOf got x).ents index).node
      · rw [if_pos ⟨trivial, .inr hl⟩]
        refine .inr ⟨x, by simp, hh, rfl, fun n' hn' he => ?_⟩
        simp only [lessP_def]
        rcases List.mem_append.1 hn' with hn' | hn'
        · have := (h4 n' hn' he).1
          exact ⟨by omega, fun _ _ => by omega⟩
        · rw [List.mem_singleton] at hn'; subst hn'
          exact ⟨by omega, fun _ _ => Int.le_refl _⟩
      · rw [if_neg (by
          rintro ⟨-, h | h⟩
          · cases h
          · exact hl h)]
        refine .inr ⟨n, List.mem_append_left _ h1, h2, rfl, fun n' hn' he => ?_⟩
        simp only [lessP_def]
        rcases List.mem_append.1 hn' with hn' | hn'
        · exact h4 n' hn' he
        · rw [List.mem_singleton] at hn'; subst hn'
          have := hlt n h1
          exact ⟨hl, fun _ _ => by omega⟩
def VPq (index : Int) (S : List Ms) (s : Bool × Ent) : Prop :=
  (s = (false, zeroE) ∧ ∀ m ∈ S, hitB m.ents index = false) ∨
  ∃ m ∈ S, hitB m.ents index = true ∧ s = (true, { findE m.ents index with index := m.src }) ∧
    ∀ m' ∈ S, hitB m'.ents index = true → ¬ lessP s.2.round s.2.node (findE m'.ents index).round (findE m'.ents index).node ∧ ((findE m'.ents index).round = s.2.round → (findE m'.ents index).node = s.2.node → m.src ≤ m'.src)
theorem VPq.of {got : List Ms} (index : Int) : VPq index got (vlS index got) := by
  unfold vlS
  refine foldl_inv (P := VPq index) (.inl ⟨rfl, by simp⟩) fun k hk s h => ?_
  generalize got[k] = x at *
  generalize got.take k = pre at *
  unfold vlF
  cases hh : hitB x.ents index with
  | false =>
    rw [if_neg (by simp)]
    rcases h with ⟨h1, h2⟩ | ⟨n, h1, h2, h3, h4⟩
    · refine .inl ⟨h1, fun n hn => ?_⟩
      rcases List.mem_append.1 hn with hn | hn
      · exact h2 n hn
      · rw [List.mem_singleton] at hn; subst hn; exact hh
    · refine .inr ⟨n, List.mem_append_left _ h1, h2, h3, fun n' hn' he => ?_⟩
      rcases List.mem_append.1 hn' with hn' | hn'
      · exact h4 n' hn' he
      · rw [List.mem_singleton] at hn'; subst hn'; rw [hh] at he; cases he
  | true =>
    rw [if_pos rfl]
    rcases h with ⟨h1, h2⟩ | ⟨n, h1, h2, h3, h4⟩
    · subst h1
      rw [if_pos (.inl rfl)]
      refine .inr ⟨x, by simp, hh, rfl, fun n' hn' he => ?_⟩
      rcases List.mem_append.1 hn' with hn' | hn'
      · rw [h2 n' hn'] at he; cases he
      · rw [List.mem_singleton] at hn'; subst hn'
        simp only [lessP_def]
        exact ⟨by omega, fun _ _ => Int.le_refl _⟩
    · subst h3
      simp only [lessP_def] at h4 ⊢
      by_cases hl : ((findE n.ents index).round < (findE x.ents index).round ∨ (findE n.ents index).round = (findE x.ents index).round ∧ (findE n.ents index).node < (findE x.ents index).node) ∨ (((findE x.ents index).round = (findE n.ents index).round ∧ (findE x.ents index).node = (findE n.ents index).node) ∧ x.src < n.src)
      · rw [if_pos (.inr hl)]
        refine .inr ⟨x, by simp, hh, rfl, fun n' hn' he => ?_⟩
        simp only [lessP_def]
        rcases List.mem_append.1 hn' with hn' | hn'
        · have h5 := h4 n' hn' he
          exact ⟨by omega, fun _ _ => by omega⟩
        · rw [List.mem_singleton] at hn'; subst hn'
          exact ⟨by omega, fun _ _ => Int.le_refl _⟩
      · rw [if_neg (by
          rintro (h | h)
          · cases h
          · exact hl h)]
        refine .inr ⟨n, List.mem_append_left _ h1, h2, rfl, fun n' hn' he => ?_⟩
        simp only [lessP_def]
        rcases List.mem_append.1 hn' with hn' | hn'
        · exact h4 n' hn' he
        · rw [List.mem_singleton] at hn'; subst hn'
          exact ⟨by omega, fun _ _ => by omega⟩
theorem value_eq {got : List Ms} {a : Int} (index : Int) (ha : 1 ≤ a) (hb : SrcP got) (hc : ∀ m ∈ got, 0 ≤ m.commit) (hn : (got.map (·.src)).Nodup) : valueQ a got index = valueR a got index := by
  have hf := (floor_eq ha hb hc hn).1
  unfold valueQ valueR
  rw [hf]
  by_cases hi : index ≤ (flS a got).1
  · rw [if_pos hi, if_pos hi]
  · rw [if_neg hi, if_neg hi]
    have p := BPq.of index hn
    have q := VPq.of (got := got) index
    generalize bestS got index (nodesL got) = s at *
    generalize vlS index got = t at *
    rcases p with ⟨rfl, p2⟩ | ⟨n, p1, p2, rfl, p4⟩
    · rcases q with ⟨rfl, q2⟩ | ⟨m, q1, q2, rfl, q4⟩
      · rfl
      · have := p2 m.src (nodesL_mem.2 ⟨m, q1, rfl⟩)
        rw [msOf_src hn q1, q2] at this
        cases this
    · obtain ⟨mn, hmn, rfl⟩ := nodesL_mem.1 p1
      rw [msOf_src hn hmn] at *
      rcases q with ⟨rfl, q2⟩ | ⟨m, q1, q2, rfl, q4⟩
      · have := q2 mn hmn
        rw [p2] at this
        cases this
      · have a1 := p4 m.src (nodesL_mem.2 ⟨m, q1, rfl⟩)
        rw [msOf_src hn q1] at a1
        have a1 := a1 q2
        have a2 := q4 mn hmn p2
        simp only [lessP_def] at a1 a2
        have e : mn.src = m.src := by
          have h1 : (findE m.ents index).round = (findE mn.ents index).round ∧ (findE m.ents index).node = (findE mn.ents index).node := by omega
          have h2 := a1.2 h1.1 h1.2
          have h3 := a2.2 h1.1.symm h1.2.symm
          omega
        have e2 : mn = m := by
          rw [← msOf_src hn hmn, e, msOf_src hn q1]
        subst e2
        rfl
theorem won_s {G : GH} {r n a : Int} {q mp : Nat} {oM : Obj} {got : List Ms} {ml : List (Int × Value)} {members : List Int} {sv : Value} (hM : MapB keyI ml oM) (hg : GotR G got ml) (hb : SrcP got) (hs : Sl G 1 (IntR .i64) sv members) (hl : members.length ≤ 10000) :
    Con Tryz.prog 63 #[.pointer (some ⟨q, 0, none⟩), sv] G [(q, qO r n a mp), (mp, oM)] (fun v G' μ' => GH.le G G' ∧ v = .bool (majB members (nodesL got)) ∧ μ' = [(q, qO r n a mp), (mp, oM)]) := by
  have q1 := nodes_s (r := r) (n := n) (a := a) (q := q) (mp := mp) hM hg hb.1
  have hnd := hb.nodes
  obtain ⟨A, c, rfl, -⟩ := id hs.openInt
  (refine v_enter Tryz.func63 rfl Tryz.ntmps63 rfl ?_; intro B _)
  repeat' (first | apply v_seq | apply v_region | apply v_nil | (apply v_take; (case hg => rfl)) | (apply v_pure; (case hop => first | (apply p_move <;> rfl) | (apply p_assign <;> rfl) | (apply p_neNil <;> rfl) | fail); (case hd => rfl)) | fail)
  refine v_call (μ1 := [(q, qO r n a mp), (mp, oM)]) (μ2 := []) rfl q1 (List.Perm.refl _) rfl ?_
  rintro v1 G1 _ - ⟨hG1, ν, hgr, rfl⟩
  subst hG1
  refine v_frzP ν (List.Perm.of_eq (List.append_nil _)) ?_
  intro G2 hle2 hG2
  have hn := hgr.ints hG2 (fun x hx => by
    have := hnd x hx
    exact WalkArith.wf_i64 (by omega))
  obtain ⟨A2, c2, rfl, -⟩ := id hn.openInt
  have q2 := maj_s (hs.mono hle2) hn hl
  repeat' (first | apply v_nil | (apply v_take; (case hg => rfl)) | (apply v_pure; (case hop => first | (apply p_assign <;> rfl) | (apply p_pickT <;> rfl) | fail); (case hd => rfl)) | (apply v_callJ (hs := q2); (case ha => rfl); (case hd => rfl)) | fail)
  exact v_ret [(q, qO r n a mp), (mp, oM)] (outsA1 rfl rfl) (List.Sublist.refl _) ⟨hle2, rfl, rfl⟩
def accR (e : Ent) : Rc := ⟨2, e.round, e.node, e.index, e.cmd, []⟩
theorem accR_ok {e : Ent} (h : oneI e = 0) (hr : e.round ≠ 0) : chkI (accR e) = 0 := by
  obtain ⟨h1, h2, h3, h4⟩ := one_parts h
  show recI 2 e.round e.node e.index e.cmd 0 = 0
  unfold recI ranP
  rw [if_neg (by omega), if_neg (fun hh => hh ⟨fun _ => ⟨h3, fun h => hr h.1⟩, fun _ => ⟨h1, h2⟩⟩), if_neg (by omega), if_neg (fun hh => hh.2 h4), if_neg]
  unfold othP
  rintro (⟨h, _⟩ | ⟨h, _⟩ | ⟨h, _⟩ | h)
  · exact h (.inr rfl)
  · omega
  · exact h (.inl rfl)
  · exact h ⟨fun h => by omega, fun h => by omega⟩
def hdE (e : Ent) : Hd := ⟨e.round, e.node, 0, [], [e], []⟩
theorem hard_acc {e : Ent} (h : oneI e = 0) (hr : e.round ≠ 0) : hardOf [accR e] = hdE e := by
  obtain ⟨h1, h2, h3, h4⟩ := one_parts h
  have hl : lessP 0 0 e.round e.node := by unfold lessP; unfold mayP at h3; omega
  show stepH Hd.zero (accR e) = _
  unfold stepH
  rw [if_pos (accR_ok h hr)]
  unfold chg
  rw [if_neg (show ¬ (accR e).kind = 1 by show ¬ (2 : Int) = 1; decide), if_pos (show (accR e).kind = 2 from rfl)]
  have hp : Hd.zero.prom (accR e) = ⟨e.round, e.node, 0, [], [], []⟩ := by
    unfold Hd.prom
    rw [if_pos (show lessP Hd.zero.pr Hd.zero.pn (accR e).round (accR e).node from hl)]
    rfl
  rw [hp, if_pos (show (⟨e.round, e.node, 0, [], [], []⟩ : Hd).base < (accR e).index by show (0 : Int) < e.index; omega), withL_ins (fun i j hj => by simp at hj)]
  rfl
theorem one_of {e : Ent} (h : chkK [e] 0 = 0) : oneI e = 0 := chk_one h e (List.mem_singleton.2 rfl)
theorem chk_single {e : Ent} (h : oneI e = 0) : chkK [e] 0 = 0 := by
  unfold chkK
  rw [dif_pos (show 0 < [e].length from Nat.zero_lt_one), if_neg (by simp [h]), dif_neg (by omega)]
  unfold chkK
  rw [dif_neg (show ¬ 0 + 1 < [e].length from Nat.lt_irrefl 1)]
theorem chk_nilL : chkK ([] : List Ent) 0 = 0 := by unfold chkK; rfl
theorem hdE_ok {e : Ent} (h : oneI e = 0) (hr : e.round ≠ 0) : CheckP (hdE e) := by
  obtain ⟨h1, h2, h3, h4⟩ := one_parts h
  refine ⟨h3, ⟨Int.le_refl 0, by show (0 : Int) ≤ _; omega⟩, by simp [hdE], by simp [hdE], chk_single h, chk_nilL, fun x hx => ?_, fun x hx => by simp [hdE] at hx⟩
  have : x = e := by simpa [hdE] using hx
  subst this
  refine ⟨by show (0 : Int) < x.index; omega, hr, ?_⟩
  show ¬ lessP x.round x.node x.round x.node
  unfold lessP
  omega
theorem hd0_ok : CheckP Hd.zero := ⟨.inl ⟨rfl, rfl⟩, ⟨by decide, by decide⟩, by decide, by decide, chk_nilL, chk_nilL, fun x hx => by simp [Hd.zero] at hx, fun x hx => by simp [Hd.zero] at hx⟩
def nopF : Cm := ⟨1, 0, 0, ByteArray.empty, ByteArray.empty, ByteArray.empty, 0⟩
theorem nopF_ok : nopF.ok := ⟨by decide, by decide, by decide, by decide, by decide, by decide, by decide⟩
theorem nopF0 : cmdI nopF = 0 := by
  rw [cmdI_eq]
  unfold cmdE
  simp [nopF]
def lowE (e : Ent) : Ent := ⟨e.index, e.round - 1, 1, nopF⟩
theorem lowE_one {e : Ent} (h : oneI e = 0) (hr : 1 < e.round) : oneI (lowE e) = 0 := by
  obtain ⟨h1, h2, h3, h4⟩ := one_parts h
  unfold oneI
  rw [if_neg]
  · exact nopF0
  · unfold mayP at *
    show ¬ (e.index < 1 ∨ 4294967296 < e.index ∨ ¬ ((e.round - 1 = 0 ∧ (1 : Int) = 0) ∨ (1 ≤ e.round - 1 ∧ e.round - 1 ≤ 4294967296 ∧ (1 : Int) ≤ 1 ∧ (1 : Int) ≤ 9)))
    omega
def hdF (yes : List Int) (e : Ent) (a : Int) : Hd := if inB yes a = true then hdE e else if 1 < e.round then hdE (lowE e) else Hd.zero
def entsF (yes : List Int) (e : Ent) (a : Int) : List Ent := (hdF yes e a).acc
theorem hdF_ok {yes : List Int} {e : Ent} {a : Int} (h : oneI e = 0) (hr : e.round ≠ 0) : CheckP (hdF yes e a) := by
  unfold hdF
  split
  · exact hdE_ok h hr
  · split
    · rename_i h1
      exact hdE_ok (lowE_one h h1) (by show e.round - 1 ≠ 0; omega)
    · exact hd0_ok
theorem hdF_base {yes : List Int} {e : Ent} {a : Int} : (hdF yes e a).base = 0 := by
  unfold hdF
  split
  · rfl
  · split <;> rfl
theorem entsF_cases (yes : List Int) (e : Ent) (a : Int) : (inB yes a = true ∧ entsF yes e a = [e]) ∨ (inB yes a = false ∧ ((1 < e.round ∧ entsF yes e a = [lowE e]) ∨ entsF yes e a = [])) := by
  unfold entsF hdF
  cases inB yes a with
  | true => left; exact ⟨rfl, rfl⟩
  | false =>
    right
    refine ⟨rfl, ?_⟩
    by_cases h : 1 < e.round
    · left; rw [if_neg (by simp), if_pos h]; exact ⟨h, rfl⟩
    · right; rw [if_neg (by simp), if_neg h]; rfl
theorem entsF_len (yes : List Int) (e : Ent) (a : Int) : (entsF yes e a).length ≤ 1 := by
  rcases entsF_cases yes e a with ⟨-, h⟩ | ⟨-, ⟨-, h⟩ | h⟩ <;> rw [h] <;> simp
theorem entsF_ok {yes : List Int} {e : Ent} {a : Int} (ho : e.ok) (hr : 1 ≤ e.round ∧ e.round ≤ 2147483648) : ∀ x ∈ entsF yes e a, x.ok := by
  intro x hx
  rcases entsF_cases yes e a with ⟨-, h⟩ | ⟨-, ⟨h1, h⟩ | h⟩ <;> rw [h] at hx
  · rw [List.mem_singleton] at hx; subst hx; exact ho
  · rw [List.mem_singleton] at hx; subst hx
    exact ⟨ho.1, WalkArith.wf_i64 (by show -9223372036854775808 ≤ e.round - 1 ∧ e.round - 1 ≤ 9223372036854775807; omega), WalkArith.wf_i64 (by show -9223372036854775808 ≤ (1 : Int) ∧ (1 : Int) ≤ 9223372036854775807; omega), nopF_ok⟩
  · simp at hx
theorem hdF_less {yes : List Int} {e : Ent} {a : Int} (h : oneI e = 0) (hr : 1 ≤ e.round) : lessP (hdF yes e a).pr (hdF yes e a).pn (e.round + 1) 9 := by
  unfold hdF lessP
  split
  · show e.round < e.round + 1 ∨ _; omega
  · split
    · show e.round - 1 < e.round + 1 ∨ _; omega
    · show (0 : Int) < e.round + 1 ∨ _; omega
theorem inB_iff {l : List Int} {x : Int} : inB l x = true ↔ x ∈ l := by unfold inB; simp
def promF (yes : List Int) (e : Ent) (a f : Int) : Ms := ⟨4, a, f, e.round + 1, 9, 1, 0, 0, entsF yes e a, []⟩
def GotF (yes : List Int) (e : Ent) (ask : List Int) (got : List Ms) : Prop := got.map (·.src) = ask ∧ ∀ m ∈ got, ∃ f, m = promF yes e m.src f ∧ PromP m
theorem GotF.nil {yes : List Int} {e : Ent} : GotF yes e [] [] := ⟨rfl, by simp⟩
theorem promF_prom {yes : List Int} {e : Ent} {a f : Int} (h : oneI e = 0) (hr : 1 ≤ e.round ∧ e.round ≤ 2147483648) (ha : 1 ≤ a ∧ a ≤ 9 ∧ 1 ≤ f ∧ f ≤ 9 ∧ a ≠ f) : PromP (promF yes e a f) := by
  have hl := entsF_len yes e a
  refine ⟨ha, ⟨.inr ⟨by show 1 ≤ e.round + 1; omega, by show e.round + 1 ≤ 4294967296; omega, by show (1 : Int) ≤ 9; omega, by show (9 : Int) ≤ 9; omega⟩, fun h => by have := h.2; revert this; show ¬ ((9 : Int) = 0); decide⟩, ⟨by show (1 : Int) ≤ 1; omega, by show (1 : Int) ≤ _; omega⟩, ⟨by show (0 : Int) ≤ 0; omega, by show (0 : Int) ≤ _; omega⟩, by show (entsF yes e a).length ≤ 256; omega, (hdF_ok h (by omega)).2.2.2.2.1, rfl, rfl⟩
theorem GotF.snoc {yes : List Int} {e : Ent} {ask : List Int} {got : List Ms} {a f : Int} (h : GotF yes e ask got) (hp : PromP (promF yes e a f)) : GotF yes e (ask ++ [a]) (got ++ [promF yes e a f]) := by
  refine ⟨by rw [List.map_append, h.1]; rfl, fun m hm => ?_⟩
  rcases List.mem_append.1 hm with hm | hm
  · exact h.2 m hm
  · rw [List.mem_singleton] at hm; subst hm; exact ⟨f, rfl, hp⟩
theorem GotF.take {yes : List Int} {e : Ent} {ask : List Int} {got : List Ms} {a f : Int} (h : GotF yes e ask got) (hp : PromP (promF yes e a f)) (ha : a ∉ ask) : TakeP (e.round + 1) 9 1 got (promF yes e a f) := by
  refine ⟨⟨rfl, hp⟩, ⟨rfl, rfl⟩, rfl, fun x hx hs => ha ?_⟩
  rw [← h.1]
  exact List.mem_map.2 ⟨x, hx, hs⟩
section
variable {yes : List Int} {e : Ent} {ask : List Int} {got : List Ms} (h : GotF yes e ask got) (ho : oneI e = 0) (hr : 1 ≤ e.round ∧ e.round ≤ 2147483648) (hnd : ask.Nodup) (hln : ask.length ≤ 9)
include h ho hr hnd hln
set_option linter.unusedSectionVars false
theorem gotF_src : SrcP got ∧ (∀ m ∈ got, 0 ≤ m.commit) ∧ (got.map (·.src)).Nodup := by
  refine ⟨⟨?_, fun m hm => ?_, fun m hm => ?_⟩, fun m hm => ?_, by rw [h.1]; exact hnd⟩
  · have := congrArg List.length h.1
    rw [List.length_map] at this
    omega
  · obtain ⟨f, -, hp⟩ := h.2 m hm
    exact ⟨hp.1.1, hp.1.2.1⟩
  · obtain ⟨f, hm2, hp⟩ := h.2 m hm
    exact ⟨chk_rise hp.2.2.2.2.2.1, hp.2.2.2.2.1⟩
  · obtain ⟨f, hm2, hp⟩ := h.2 m hm
    rw [hm2]; exact Int.le_refl _
theorem gotF_fl : flS 1 got = (0, 0) := by
  unfold flS
  refine foldl_inv (P := fun _ s => s = ((0 : Int), (0 : Int))) rfl fun k hk s hs => ?_
  subst hs
  obtain ⟨f, hm2, hp⟩ := h.2 got[k] (List.getElem_mem hk)
  have hc : (got[k]).commit = 0 := by rw [hm2]; rfl
  unfold flF
  rw [if_neg (by rw [hc]; simp)]
theorem gotF_ents {m : Ms} (hm : m ∈ got) : (inB yes m.src = true ∧ m.ents = [e]) ∨ (inB yes m.src = false ∧ ((1 < e.round ∧ m.ents = [lowE e]) ∨ m.ents = [])) := by
  obtain ⟨f, hm2, hp⟩ := h.2 m hm
  have hc := entsF_cases yes e m.src
  have : m.ents = entsF yes e m.src := by rw [hm2]; rfl
  rw [this]
  exact hc
theorem single_hit {x : Ent} : hitB [x] x.index = true ∧ findE [x] x.index = x := by
  have hr1 : RiseL [x] := fun i j hj hi => by simp at hj; omega
  have hh : hitB [x] x.index = true := (hitB_iff hr1 _).2 ⟨x, List.mem_singleton.2 rfl, rfl⟩
  refine ⟨hh, ?_⟩
  unfold findE
  rw [dif_pos hh]
  have hl := hitB_lt hh
  have h0 : placeN [x] x.index = 0 := by simpa using hl
  simp only [h0]
  rfl
theorem gotF_value (hc : ∃ a ∈ ask, a ∈ yes) : valueQ 1 got e.index = (true, e.cmd) := by
  obtain ⟨hb, hcm0, hn⟩ := gotF_src h ho hr hnd hln
  rw [value_eq e.index (by decide) hb hcm0 hn]
  unfold valueR
  have hi := (one_parts ho).1
  rw [gotF_fl h ho hr hnd hln, if_neg (show ¬ e.index ≤ (0 : Int) by omega)]
  obtain ⟨a, ha, hay⟩ := hc
  rw [← h.1] at ha
  obtain ⟨m0, hm0, rfl⟩ := List.mem_map.1 ha
  have he0 : m0.ents = [e] := by
    rcases gotF_ents h ho hr hnd hln hm0 with ⟨-, h1⟩ | ⟨h1, -⟩
    · exact h1
    · rw [inB_iff.2 hay] at h1; cases h1
  obtain ⟨s1, s2⟩ := single_hit (x := e) h ho hr hnd hln
  rcases VPq.of (got := got) e.index with ⟨-, h2⟩ | ⟨m, hm, h2, h3, h4⟩
  · have := h2 m0 hm0
    rw [he0, s1] at this
    cases this
  · have hmax := (h4 m0 hm0 (by rw [he0]; exact s1)).1
    rw [h3, he0, s2] at hmax
    rw [h3]
    rcases gotF_ents h ho hr hnd hln hm with ⟨-, h1⟩ | ⟨-, ⟨h5, h1⟩ | h1⟩
    · rw [h1, s2]
    · exfalso
      have e2 : (lowE e).index = e.index := rfl
      obtain ⟨t1, t2⟩ := single_hit (x := lowE e) h ho hr hnd hln
      rw [e2] at t2
      rw [h1, t2] at hmax
      refine hmax ?_
      show lessP (e.round - 1) 1 e.round e.node
      unfold lessP
      omega
    · exfalso
      rw [h1] at h2
      have hr0 : RiseL ([] : List Ent) := fun i j hj => by simp at hj
      obtain ⟨x, hx, -⟩ := (hitB_iff hr0 _).1 h2
      simp at hx
theorem gotF_top (hc : ∃ a ∈ ask, a ∈ yes) : topQ (floorQ 1 got) got = e.index := by
  obtain ⟨hb, hcm0, hn⟩ := gotF_src h ho hr hnd hln
  have hf : floorQ 1 got = 0 := by
    rw [(floor_eq (by decide) hb hcm0 hn).1, gotF_fl h ho hr hnd hln]
  rw [hf]
  have hi := (one_parts ho).1
  obtain ⟨a, ha, hay⟩ := hc
  rw [← h.1] at ha
  obtain ⟨m0, hm0, rfl⟩ := List.mem_map.1 ha
  have he0 : m0.ents = [e] := by
    rcases gotF_ents h ho hr hnd hln hm0 with ⟨-, h1⟩ | ⟨h1, -⟩
    · exact h1
    · rw [inB_iff.2 hay] at h1; cases h1
  obtain ⟨t1, t2, t3⟩ := topQ_top (f := 0) hn
  have t4 := t2 m0 hm0 (List.mem_map.2 ⟨m0, hm0, rfl⟩) e (by rw [he0]; exact List.mem_singleton.2 rfl)
  rcases t3 with t3 | ⟨m, hm, x, hx, t3⟩
  · omega
  · rcases gotF_ents h ho hr hnd hln hm with ⟨-, h1⟩ | ⟨-, ⟨h5, h1⟩ | h1⟩
    · rw [h1, List.mem_singleton] at hx; subst hx; exact t3
    · rw [h1, List.mem_singleton] at hx; subst hx; exact t3
    · rw [h1] at hx; simp at hx
theorem gotF_maj {members : List Int} (hm : majB members ask = true) : majB members (nodesL got) = true := by
  refine maj_mono (fun x _ hx => nodesL_mem.2 ?_) hm
  rw [← h.1] at hx
  obtain ⟨m, hm, e⟩ := List.mem_map.1 hx
  exact ⟨m, hm, e⟩
end
def xC : Cm := ⟨1, 0, 0, ByteArray.empty, ByteArray.empty, ByteArray.empty, 0⟩
def xE : Ent := ⟨5, 1, 1, xC⟩
def xM : Ms := ⟨4, 2, 1, 3, 1, 2, 1, 0, [xE], []⟩
theorem xOne : oneI xE = 0 := by
  rw [oneI, if_neg]
  · show cmdI xC = 0
    rw [cmdI_eq]
    simp [cmdE, xC]
  · rintro (h' | h' | h')
    · simp only [xE] at h'; omega
    · simp only [xE] at h'; omega
    · exact h' (.inr (by simp only [xE]; omega))
theorem xE_ok : xE.ok := by
  refine ⟨by decide, by decide, by decide, ?_⟩
  refine ⟨?_, ?_, ?_, ?_, ?_, ?_, ?_⟩ <;> decide
theorem xChk : chkK [xE] 0 = 0 := by
  rw [chkK_next (l := [xE]) (k := 0) (by decide) xOne (fun h => by omega)]
  exact chkK_end (by decide)
theorem xTake : TakeP 3 1 2 [] xM := by
  refine ⟨⟨rfl, ?_⟩, ⟨rfl, rfl⟩, rfl, by simp⟩
  refine ⟨by decide, ⟨.inr (by decide), by decide⟩, by decide, by decide, by decide, xChk, rfl, rfl⟩
theorem xRise : RiseL [xE] := fun i j hj h => by
  simp only [List.length_cons, List.length_nil] at hj
  omega
theorem xSrc : SrcP [xM] := ⟨by decide, by simp [xM], by
  intro m hm
  rw [List.mem_singleton] at hm
  subst hm
  exact ⟨xRise, by decide⟩⟩
theorem xNodes : nodesL [xM] = [2] := by
  unfold nodesL sortL
  simp [xM]
theorem xComS : comS [xM] (nodesL [xM]) = (1, 2) := by
  rw [xNodes]
  decide
theorem xFloor : floorQ 2 [xM] = 1 := by
  unfold floorQ
  rw [xComS]
  decide
theorem xTop : topQ (floorQ 2 [xM]) [xM] = 5 := by
  rw [xFloor]
  decide
theorem xVal : valueQ 2 [] 5 = (false, zeroE.cmd) := by
  have h1 : nodesL [] = [] := by unfold nodesL sortL; simp
  have h2 : floorQ 2 [] = 1 := by unfold floorQ; rw [h1]; decide
  unfold valueQ
  rw [h2, h1, if_neg (by omega)]
  rfl
theorem awake33_s {G : GH} (hT : TabsG G) : Con Tryz.prog 42 #[] G [] (fun v G' μ' => v = .bool true ∧ μ' = []) := by
  have q1 := qnew_s (G := G) (r := 3) (n := 1) (a := 2)
  (refine v_enter Tryz.func42 rfl Tryz.ntmps42 rfl ?_; intro B _)
  repeat' (first | (apply v_read; (case hop => (apply r_loadNo; (case hx => rfl); (case h => repeat (exact mhd _)); (case hd => rfl); (case hn => rfl))); (case hd => rfl)) | apply v_seq | apply v_region | apply v_nil | (apply v_pure; (case hop => first | (apply p_assign <;> rfl) | (apply p_build; (case hz => rfl); (case hv => (simp only [List.map_cons, List.map_nil]; repeat (first | with_reducible exact evs_nil | (apply evs_cons; (case h1 => rfl))))); (case hb => (apply bldL; repeat (first | exact bld_nil | (apply bld_cons; (case hpf => rfl); (case hc => rfl); (case hs => rfl); (case hl => rfl); (case ho => ((repeat (first | with_reducible exact ov_nil | apply ov_cons)); done))))))) | fail); (case hd => rfl)) | (apply v_alloc; (case hz => rfl); (case hd => rfl); intro b) | (apply v_store; (case hp => rfl); (case hx => rfl); (case hc => rfl); (case hsz => rfl); (case h1 => rfl); (case hb => (repeat (exact mhd _))); (case hfit => exact nle rfl); (case hov => ((repeat (first | with_reducible exact ov_nil | apply ov_cons)); done)); (case hu => repeat (exact Upd.here _ _))) | fail)
  refine v_call (μ1 := []) rfl q1 (List.Perm.refl _) rfl ?_
  rintro _ G1 _ - ⟨hG1, h⟩
  subst hG1
  obtain ⟨h, -, -⟩ | ⟨-, q, mp, rfl, rfl⟩ := h
  · exact absurd (show QMay 3 1 2 from ⟨.inr (by decide), by decide, by decide, by decide⟩) h
  repeat' (first | (apply v_read; (case hop => (apply r_loadNo; (case hx => rfl); (case h => repeat (first | exact mhd _ | apply mtl)); (case hd => rfl); (case hn => rfl))); (case hd => rfl)) | (apply v_buildSlice; (case hz => rfl); (case hi => rfl); (case hv => (simp only [List.map_cons, List.map_nil]; repeat (first | with_reducible exact evs_nil | (apply evs_cons; (case h1 => rfl))))); (case hp => (apply pk_cons; (case hc => rfl); (case hs => rfl); (case h => (with_reducible exact pk_nil)); (case he => ((repeat (first | with_reducible exact ap_nil | apply ap_cons)); done)))); (case hb => rfl); (case hd => rfl); intro b9) | apply v_seq | apply v_region | apply v_nil | (apply v_pure; (case hop => first | (apply p_move <;> rfl) | (apply p_assign <;> rfl) | (apply p_build; (case hz => rfl); (case hv => (simp only [List.map_cons, List.map_nil]; repeat (first | with_reducible exact evs_nil | (apply evs_cons; (case h1 => rfl))))); (case hb => (apply bldL; repeat (first | exact bld_nil | (apply bld_cons; (case hpf => rfl); (case hc => rfl); (case hs => rfl); (case hl => rfl); (case ho => (first | ((repeat (first | with_reducible exact ov_nil | apply ov_cons)); done) | rfl))))))) | fail); (case hd => rfl)) | (apply v_alloc; (case hz => rfl); (case hd => rfl); intro b) | (apply v_store; (case hp => rfl); (case hx => rfl); (case hc => rfl); (case hsz => rfl); (case h1 => rfl); (case hb => (repeat (exact mhd _))); (case hfit => exact nle rfl); (case hov => ((repeat (first | with_reducible exact ov_nil | apply ov_cons)); done)); (case hu => repeat (exact Upd.here _ _))) | fail)
  rename_i bl
  refine v_frz [(b9, .cells xE.cells.toArray 105 (0, 0))] (PickA.cons _ (PickA.here _)) ?_
  intro G2 hle2 hG2
  have hs1 : Es G2 (.slice (some ⟨b9, 0, none⟩) 1 1) [xE] := by
    refine es_of_grow (l := [xE]) (ν := [(b9, .cells (esC [xE]).toArray 105 (0, 0))]) (Grow.lit (m := 1) (by rw [esC_length]; rfl) (by simp [maxLen])) hG2 (fun x hx => ?_)
    rw [List.mem_singleton] at hx
    subst hx
    exact xE_ok
  have hm : MsR G2 xM (xM.cells (.slice (some ⟨b9, 0, none⟩) 1 1) (.slice none 0 0)) := ⟨_, _, _, _, rfl, hs1, Sl.nil⟩
  have q2 := value_s (G := G2) (r := 3) (n := 1) (a := 2) (q := q) (mp := mp) (oM := .map #[] 0) (got := []) (ml := []) 5 MapB.nil GotR.nil ⟨by decide, by simp, by simp⟩ ⟨by decide, by decide⟩
  rw [xVal] at q2
  refine v_call (μ1 := [(q, qO 3 1 2 mp), (mp, .map #[] 0)]) (μ2 := [(b, .cells (xM.cells (.slice (some ⟨b9, 0, none⟩) 1 1) (.slice none 0 0)).toArray 89 (0, 0)), (bl, _)]) rfl q2 (by apply perm_of_count; intro p; simp only [List.append_eq, List.countP_append, List.countP_cons, List.countP_nil, Nat.zero_add, Nat.add_zero]; try ac_rfl) rfl ?_
  rintro _ G3 _ hle3 ⟨-, rfl, rfl⟩
  have q3 := qtake_s ((hT.le hle2).le hle3) (r := 3) (n := 1) (a := 2) (q := q) (mp := mp) xM (hm.le hle3) MapB.nil GotR.nil (by decide)
  repeat' (first | (apply v_read; (case hop => (apply r_loadNo; (case hx => rfl); (case h => repeat (first | exact mhd _ | apply mtl)); (case hd => rfl); (case hn => rfl))); (case hd => rfl)) | apply v_seq | apply v_region | apply v_nil | (apply v_pure; (case hop => first | (apply p_move <;> rfl) | (apply p_assign <;> rfl) | (apply p_extract0 <;> rfl) | (apply p_extract1 <;> rfl) | fail); (case hd => rfl)) | (apply v_alloc; (case hz => rfl); (case hd => rfl); intro b) | (apply v_store; (case hp => rfl); (case hx => rfl); (case hc => rfl); (case hsz => rfl); (case h1 => rfl); (case hb => (repeat (exact mhd _))); (case hfit => exact nle rfl); (case hov => ((repeat (first | with_reducible exact ov_nil | apply ov_cons)); done)); (case hu => repeat (exact Upd.here _ _))) | fail)
  rename_i bm
  refine v_perm (ν := [(q, qO 3 1 2 mp), (mp, .map #[] 0)] ++ [(b, _), (bm, _), (bl, _)]) (by apply perm_of_count; intro p; simp only [List.append_eq, List.countP_append, List.countP_cons, List.countP_nil, Nat.zero_add, Nat.add_zero]; try ac_rfl) ?_
  refine v_call (μ1 := [(q, qO 3 1 2 mp), (mp, .map #[] 0)]) (μ2 := _) rfl q3 (List.Perm.refl _) rfl ?_
  rintro _ G4 _ hle4 ⟨-, rfl, ml, oM, hM, hg, rfl⟩
  rw [decide_eq_true xTake]
  rw [if_pos xTake, List.nil_append] at hg
  have q4 := top_s (r := 3) (n := 1) (a := 2) (q := q) (mp := mp) hM hg xSrc ⟨by decide, by decide⟩
  rw [xTop] at q4
  repeat' (first | (apply v_take; (case hg => rfl)) | (apply v_pure; (case hop => first | (apply p_move <;> rfl) | (apply p_eqs <;> rfl) | (apply p_pickT <;> rfl) | (apply p_not <;> rfl) | (apply p_fieldAddrB <;> rfl) | fail); (case hd => rfl)) | (apply v_read; (case hop => (apply r_load1; rfl; (apply Cell.own; (case h => (repeat (first | exact mhd _ | apply mtl))); rfl))); (case hd => rfl)) | fail)
  refine v_call (μ1 := [(q, qO 3 1 2 mp), (mp, oM)]) (μ2 := _) rfl q4 (List.Perm.refl _) rfl ?_
  rintro _ G5 _ hle5 ⟨-, rfl, rfl⟩
  have q5 := floor_s (r := 3) (n := 1) (a := 2) (q := q) (mp := mp) hM (hg.le hle5) xSrc ⟨by decide, by decide⟩
  rw [xFloor] at q5
  repeat' (first | (apply v_take; (case hg => rfl)) | (apply v_pure; (case hop => first | (apply p_move <;> rfl) | (apply p_eqs <;> rfl) | (apply p_pickT <;> rfl) | fail); (case hd => rfl)) | fail)
  refine v_call (μ1 := [(q, qO 3 1 2 mp), (mp, oM)]) (μ2 := _) rfl q5 (List.Perm.refl _) rfl ?_
  rintro _ G6 _ hle6 ⟨-, rfl, rfl⟩
  repeat' (first | apply v_nil | (apply v_take; (case hg => rfl)) | (apply v_pure; (case hop => first | (apply p_eqs <;> rfl) | (apply p_assign <;> rfl) | (apply p_pickT <;> rfl) | fail); (case hd => rfl)) | fail)
  refine v_ret [] (outsA1 rfl rfl) (List.nil_sublist _) ⟨?_, rfl⟩
  rfl
def CmR (c : Cm) (cs : List Value) : Prop := cs = c.cells ∧ c.ok
theorem el_cm {H : Type} {enc : TypeId × Value → H} {W : World} : Elem enc Tryz.prog W 28 CmR := by
  intro fuel cs x hf
  have h1 := el_flen (n := 7) Tryz.underlying28 (by kernel_rfl) hf
  obtain ⟨a0, h0, w0⟩ := el_fld (i := 0) (sz := 1) (by kernel_rfl) (el_int Tryz.underlying3) hf
  obtain ⟨a1, e1, w1⟩ := el_fld (i := 1) (sz := 1) (by kernel_rfl) (el_int Tryz.underlying3) hf
  obtain ⟨a2, e2, w2⟩ := el_fld (i := 2) (sz := 1) (by kernel_rfl) (el_int Tryz.underlying3) hf
  obtain ⟨a3, e3, w3⟩ := el_fld (i := 3) (sz := 1) (by kernel_rfl) (el_string Tryz.underlying9) hf
  obtain ⟨a4, e4, w4⟩ := el_fld (i := 4) (sz := 1) (by kernel_rfl) (el_string Tryz.underlying9) hf
  obtain ⟨a5, e5, w5⟩ := el_fld (i := 5) (sz := 1) (by kernel_rfl) (el_string Tryz.underlying9) hf
  obtain ⟨a6, e6, w6⟩ := el_fld (i := 6) (sz := 1) (by kernel_rfl) (el_int Tryz.underlying3) hf
  match cs, h1 with
  | [c0, c1, c2, c3, c4, c5, c6], _ =>
    simp only [List.drop_succ_cons, List.drop_zero, List.take_succ_cons, List.take_zero, List.cons.injEq, and_true] at h0 e1 e2 e3 e4 e5 e6
    exact ⟨⟨a0, a1, a2, a3, a4, a5, a6⟩, by rw [h0, e1, e2, e3, e4, e5, e6]; rfl, w0, w1, w2, w3, w4, w5, w6⟩
theorem el_ent {H : Type} {enc : TypeId × Value → H} {W : World} : Elem enc Tryz.prog W 105 EntR := by
  intro fuel cs x hf
  have h1 := el_flen (n := 10) Tryz.underlying105 (by kernel_rfl) hf
  obtain ⟨k, hk, wk⟩ := el_fld (i := 0) (sz := 1) (by kernel_rfl) (el_int Tryz.underlying3) hf
  have hb : Elem enc Tryz.prog W 80 (fun (p : Int × Int) cs => cs = [.int .i64 p.1, .int .i64 p.2] ∧ (Lit.int .i64 p.1).wf = true ∧ (Lit.int .i64 p.2).wf = true) := by
    intro fuel cs x hf
    have h1 := el_flen (n := 2) Tryz.underlying80 (by kernel_rfl) hf
    obtain ⟨a, ha, wa⟩ := el_fld (i := 0) (sz := 1) (by kernel_rfl) (el_int Tryz.underlying3) hf
    obtain ⟨b, hb, wb⟩ := el_fld (i := 1) (sz := 1) (by kernel_rfl) (el_int Tryz.underlying3) hf
    match cs, h1 with
    | [c0, c1], _ =>
      simp only [List.drop_succ_cons, List.drop_zero, List.take_succ_cons, List.take_zero, List.cons.injEq, and_true] at ha hb
      exact ⟨(a, b), by rw [ha, hb], wa, wb⟩
  obtain ⟨⟨r, n⟩, hr, wr, wn⟩ := el_fld (i := 1) (sz := 2) (by kernel_rfl) hb hf
  obtain ⟨c, hc, ho⟩ := el_fld (i := 2) (sz := 7) (by kernel_rfl) el_cm hf
  match cs, h1 with
  | [c0, c1, c2, c3, c4, c5, c6, c7, c8, c9], _ =>
    simp only [Cm.cells, List.drop_succ_cons, List.drop_zero, List.take_succ_cons, List.take_zero, List.cons.injEq, and_true] at hk hr hc
    obtain ⟨rfl, rfl⟩ := hr
    obtain ⟨rfl, rfl, rfl, rfl, rfl, rfl, rfl⟩ := hc
    subst hk
    exact ⟨⟨k, r, n, c⟩, rfl, wk, wr, wn, ho⟩
set_option maxRecDepth 100000 in
theorem arg_t49 {H : Type} {enc : TypeId × Value → H} {W : World} {base : Nat} {v : Value} {d : DataW H} {p : List MemPlace} (hv : Value.okWide Tryz.prog W .any base 49 v) (h : DataW.Trod enc Tryz.prog W 0 (fun _ => true) true 49 v d p) : ∃ l : List Int, Sl (ghost W) 1 (IntR .i64) v l :=
  arg_slice Tryz.underlying49 (by kernel_rfl) (el_int Tryz.underlying3) hv h
theorem firstEq : (Rows.laid_unicode_utf8_first : DataW Unit) = Lib.firstData := by kernel_rfl
theorem acceptEq : (Rows.laid_unicode_utf8_acceptRanges : DataW Unit) = Lib.acceptData := by kernel_rfl
abbrev tabsLaid : List (String × DataW Unit) := [("unicode/utf8.acceptRanges", Rows.laid_unicode_utf8_acceptRanges), ("unicode/utf8.first", Rows.laid_unicode_utf8_first)]
theorem tabs_plain : (tabsLaid.all fun x => x.2.handleName?.isNone) = true := by kernel_rfl
theorem tabs_of_laid {W : World} (hL : laidMetH Tryz.prog tabsLaid W) : TabsG (ghost W) := by
  rw [MakeChecks.laidMetH_plain _ _ _ tabs_plain] at hL
  have r1 := Lib.laidMet.reads hL (.tail _ (.head _))
  have r2 := Lib.laidMet.reads hL (.head _)
  rw [firstEq] at r1
  rw [acceptEq] at r2
  have hU := utf8Tabs_of_readsT (ρ := laysDecode_ren) { laysDecode with } ⟨by kernel_rfl, by kernel_rfl, by kernel_rfl, by kernel_rfl, by kernel_rfl, by kernel_rfl, by kernel_rfl⟩ r1 r2
  clear hL r1 r2
  intro w hw
  have lift : ∀ (a : Addr) v, W.cell? a = some v → w.cell? a = some v := by
    intro a v h
    unfold World.cell? at h ⊢
    cases hb : W.heap[a.block]? with
    | none => rw [hb] at h; simp at h
    | some o => rw [hw _ _ hb]; rw [hb] at h; exact h
  exact ⟨fun c hc => lift _ _ (hU.1 c hc), fun i hi => ⟨lift _ _ (hU.2 i hi).1, lift _ _ (hU.2 i hi).2⟩⟩
section
variable {α : Type} {e : TypeId} {sz : Nat} {R R' : α → List Value → Prop} {v : Value} {l : List α} {ν : OH}
end
theorem eqSame {σ : Env} {ty t t' : TypeId} {x y : Operand} {k : IntKind} {a : Int} (hx : Env.ev σ x = some (.int k a)) (hy : Env.ev σ y = some (.int k a)) : PureOp Tryz.prog (.binOp .eql t x y t') ty σ (.bool true) := by
  have := p_eq (P := Tryz.prog) (t := t) (t' := t') (ty := ty) hx hy
  rwa [dec_eq, decide_eq_true rfl] at this
theorem eqCmSame {σ : Env} {ty t' : TypeId} {x y : Operand} (c : Cm) (hx : Env.ev σ x = some (.agg c.cells.toArray)) (hy : Env.ev σ y = some (.agg c.cells.toArray)) : PureOp Tryz.prog (.binOp .eql 28 x y t') ty σ (.bool true) := by
  have := eqCm (ty := ty) (t' := t') hx hy
  rwa [dec_eq, decide_eq_true rfl] at this
set_option maxRecDepth 100000 in
theorem arg_t105 {H : Type} {enc : TypeId × Value → H} {W : World} {base : Nat} {v : Value} {d : DataW H} {p : List MemPlace} (hv : Value.okWide Tryz.prog W .any base 105 v) (h : DataW.Trod enc Tryz.prog W 0 (fun _ => true) true 105 v d p) : ∃ e : Ent, v = .agg e.cells.toArray ∧ e.ok := by
  obtain ⟨cs, rfl⟩ := okWide_agg (by kernel_rfl) hv
  obtain ⟨fuel, hf⟩ := h
  obtain ⟨c, e, hc⟩ := el_ent _ _ _ hf
  have e2 : cs.toList.toArray = c.cells.toArray := congrArg List.toArray e
  rw [Array.toArray_toList] at e2
  exact ⟨c, by rw [e2], hc⟩
theorem arr_two {k : IntKind} {l : List Int} {cs : List Value} (h : ArrR 2 1 (IntR k) l cs) : ∃ a b, cs = [.int k a, .int k b] ∧ (Lit.int k a).wf = true ∧ (Lit.int k b).wf = true := by
  obtain ⟨h1, h2, h3⟩ := h
  match l, cs, h1, h2 with
  | [a, b], [u, v], _, _ =>
    have e1 := h3 0 a rfl
    have e2 := h3 1 b rfl
    simp [IntR] at e1 e2
    exact ⟨a, b, by rw [e1.1, e2.1], e1.2, e2.2⟩
set_option maxRecDepth 100000 in
theorem arg_t103 {H : Type} {enc : TypeId × Value → H} {W : World} {base : Nat} {v : Value} {d : DataW H} {p : List MemPlace} (hv : Value.okWide Tryz.prog W .any base 103 v) (h : DataW.Trod enc Tryz.prog W 0 (fun _ => true) true 103 v d p) : ∃ a b : Int, v = .agg [.int .u16 a, .int .u16 b].toArray := by
  obtain ⟨cs, l, rfl, hl⟩ := arg_agg (by kernel_rfl) (el_array Tryz.underlying103 (by kernel_rfl) (by kernel_rfl) (el_int Tryz.underlying102)) hv h
  obtain ⟨a, b, rfl, _⟩ := arr_two hl
  exact ⟨a, b, rfl⟩
end Go.Proofs.YtmdeeokejdkceaaGreatDoor
