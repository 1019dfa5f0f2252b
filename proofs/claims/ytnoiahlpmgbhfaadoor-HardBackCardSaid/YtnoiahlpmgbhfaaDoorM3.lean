/-
  VX: copy, append of zeros, slices.overlaps.
-/
import Derived.Test.YtnoiahlpmgbhfaaDoorM2
import Derived.Test.YtnoiahlpmgbhfaaDoorM1
import Derived.Lib.AppendZerosOnto
import Derived.Lib.Overlaps
import Derived.Laws.IdiomStrings
import Derived.Scope
import Derived.Laws.BytesArg
import Derived.Lib.AppendStr
import Derived.Lib.LaidU8T
import Derived.MakeChecks
import Derived.Test.YtnoiahlpmgbhfaaDoorRows
set_option linter.unusedVariables false
set_option linter.unusedSimpArgs false
namespace Go.Vx
attribute [local semireducible] Vc MoveOp PureOp ReadOp DVc Con
open Go Go.Lib
section
variable {P : Program} {fn : Func} {n : Nat} {B : Base} {Φ : Value → GH → OH → Prop} {k : List It} {rest : List Oper} {all : Array Oper} {σ : Env} {G : GH} {μ : OH} {d : Nat} {t ty : TypeId} {pos : String} {af : Array Edge} {bytes : Nat} {zero : Value}
theorem m_copy {e : TypeId} {agg : Bool} {sz : Nat} {y x : Operand} {b o m c m' q : Nat} {u : Value} {vs us vs' : List Value} {μ' : OH} [Ty P t (.slice e)] [Lay P e agg sz bytes zero] (hy : Env.ev σ y = some (.slice (some ⟨b, o, none⟩) m c)) (hx : Env.ev σ x = some u) (hq : Nat.min m' m = q) (hm : 0 < m') (hsrc : Src G μ u m' sz us)
    (hb : Has μ b vs e) (h1 : (us.take (q * sz)).all Value.oneCell' = true) (hfit : o + q * sz ≤ vs.length) (hov : over vs o (us.take (q * sz)) = vs') (hu : Upd b (.cells vs'.toArray e (0, 0)) μ μ') :
    MoveOp P (.call { callee := .builtin .copy, args := #[y, x], argTypes := #[t, t] }) ty σ G μ (fun v' G' μ'' => v' = .int .i64 q ∧ G' = G ∧ μ'' = μ') := by
  intro dst pos af g ρ hρ w hw a K Q hK
  obtain ⟨i, hi, hi1, hi2, hi3⟩ := Lay.infoEx (P := P) (t := e) (agg := agg) (size := sz) (bytes := bytes) (zero := zero) inferInstance
  have ht : P.underlying t = some (.slice e) := Ty.h
  obtain ⟨hus, A, c', rfl, hA⟩ := hsrc
  obtain ⟨ad, rfl, hcs⟩ := hA hm
  have hqm : q ≤ m' := by rw [← hq]; exact Nat.min_le_left _ _
  have hlen : (us.take (q * sz)).length = q * sz := by
    rw [List.length_take, hus]
    exact Nat.min_eq_left (Nat.mul_le_mul_right _ hqm)
  have hl := run_firstCells_some (P := P) w i.size q ad m' c' (us.take (q * sz)) (by rw [hlen, hi1]) (fun j v hv => by
    rw [List.getElem?_take] at hv
    split at hv
    · exact hcs j v hv w hw.sees
    · cases hv)
  have hst := run_storeCells_at P b o e (us.take (q * sz)) 0 vs.toArray w (hw.own b _ hb) (by simp only [Nat.add_zero, List.size_toArray, hlen]; exact hfit) (fun v hv => List.all_eq_true.1 h1 v hv)
  simp only [Nat.add_zero] at hst
  have hov' : (vs.toArray.toList.take o ++ us.take (q * sz) ++ vs.toArray.toList.drop (o + (us.take (q * sz)).length)) = vs' := by rw [← hov]; rfl
  rw [hov'] at hst
  have hr : (Builtin.copy_ #[t, t] ty #[.slice (some ⟨b, o, none⟩) m c, .slice (some ad) m' c']).run P w = .ok (.int .i64 q) (w.setRow b vs'.toArray) := by
    simp [Builtin.copy_, run_underlying ht, Builtin.lenOf, sizeOf, typeInfo, hi, hq, hl, hst, goInt]
  have hex : (execOp ρ ⟨dst, .call { callee := .builtin .copy, args := #[y, x], argTypes := #[t, t] }, ty, pos, af, g⟩).run P w = .ok (.value (.int .i64 q)) (w.setRow b vs'.toArray) := by
    simp only [execOp, resolve, invoke, builtin, Sem.run_bind, Sem.run_pure, Result.andThen_ok, List.map_toArray, List.map_cons, List.map_nil, hρ _ _ hy, hρ _ _ hx, hr]
  rw [hex]
  exact hK _ _ G _ (Step.row hw hb hu) ⟨rfl, rfl, rfl⟩
theorem v_copy {e : TypeId} {agg : Bool} {sz : Nat} {y x : Operand} {b o m c m' q : Nat} {u : Value} {vs us vs' : List Value} {μ' : OH} [Ty P t (.slice e)] [Lay P e agg sz bytes zero] (hy : Env.ev σ y = some (.slice (some ⟨b, o, none⟩) m c)) (hx : Env.ev σ x = some u) (hq : Nat.min m' m = q) (hm : 0 < m') (hsrc : Src G μ u m' sz us)
    (hb : Has μ b vs e) (h1 : (us.take (q * sz)).all Value.oneCell' = true) (hfit : o + q * sz ≤ vs.length) (hov : over vs o (us.take (q * sz)) = vs') (hu : Upd b (.cells vs'.toArray e (0, 0)) μ μ') (hd : Nat.blt d n = true)
    (h : Vc P fn n B Φ (.ops all rest :: k) ((d, .int .i64 q) :: σ) G μ') : Vc P fn n B Φ (.ops all (⟨some d, .call { callee := .builtin .copy, args := #[y, x], argTypes := #[t, t] }, ty, pos, af, none⟩ :: rest) :: k) σ G μ :=
  v_move (m_copy hy hx hq hm hsrc hb h1 hfit hov hu) hd fun _ _ _ ⟨h1, h2, h3⟩ => by rw [h1, h2, h3]; exact h
theorem Src.ownAt {e : TypeId} {b o m sz c : Nat} {vs us : List Value} (h : Has μ b vs e) (hus : (vs.drop o).take (m * sz) = us) (hl : us.length = m * sz) : Src G μ (.slice (some ⟨b, o, none⟩) m c) m sz us := ⟨hl, _, _, rfl, fun _ => ⟨_, rfl, by rw [← hus]; exact CellsAt.ownAt h⟩⟩
/-- append(s, make(T, q)...) where there is no room. -/
theorem m_appendZ {e : TypeId} {agg : Bool} {sz : Nat} {s x : Operand} {A : Option Addr} {m c q : Nat} {xs : List Value} {tn : TypeId} [Ty P t (.slice e)] [Ty P tn (.int .i64)] [Lay P e agg sz bytes zero] (hzs : zero.cells.size = sz) (hsz : 0 < sz) (hs : Env.ev σ s = some (.slice A m c)) {z : Int} (hx : Env.ev σ x = some (.int .i64 z)) (hz : z = (q : Nat)) (hsrc : Src G μ (.slice A m c) m sz xs) (hq : 0 < q) (hroom : c < m + q)
    (hb : (m + q) * bytes ≤ 140737488355328) (hb' : m + q ≤ maxLen) :
    MoveOp P (.call { callee := .builtin .append, args := #[s, x], argTypes := #[t, tn] }) ty σ G μ (fun v' G' μ' => ∃ b c' spare, v' = .slice (some ⟨b, 0, none⟩) (m + q) c' ∧ m + q ≤ c' ∧ c' ≤ maxLen ∧ (xs ++ (Builtin.zeroCells zero.cells q).toList ++ spare).length = c' * sz ∧ G' = G ∧ μ' = (b, .cells (xs ++ (Builtin.zeroCells zero.cells q).toList ++ spare).toArray e (0, 0)) :: μ) := by
  subst hz
  intro dst pos af g ρ hρ w hw a K Q hK
  obtain ⟨i, hi, hi1, hi2, hi3⟩ := Lay.infoEx (P := P) (t := e) (agg := agg) (size := sz) (bytes := bytes) (zero := zero) inferInstance
  have ht : P.underlying t = some (.slice e) := Ty.h
  have htn : P.underlying tn = some (.int .i64) := Ty.h
  obtain ⟨hus, A', c', he, hA⟩ := hsrc
  cases he
  have hold : (Builtin.firstCells i.size m (.slice A m c)).run P w.drew = .ok xs.toArray w.drew := by
    by_cases hm : 0 < m
    · obtain ⟨ad, rfl, hcs⟩ := hA hm
      exact run_firstCells_some (P := P) w.drew i.size m ad m c xs (by rw [hus, hi1]) (fun j v hv => hcs j v hv w hw.sees)
    · obtain rfl : m = 0 := by omega
      have hx0 : xs = [] := List.eq_nil_of_length_eq_zero (by simpa using hus)
      subst hx0
      cases A <;> simp [Builtin.firstCells, loadCells, loadCellsFrom]
  have hr := run_append_grow_zeros (P := P) w t tn ty e i zero .i64 .i64 ht htn hi hi3 A m c xs hold q hq (by omega) hroom (by simp only [maxLen] at hb'; omega)
    (by rw [hi2]; have := Nat.mul_le_mul_right bytes (show q ≤ m + q by omega); omega) (growslice_fits (by omega) (by rw [hi2]; exact hb))
  have hex : (execOp ρ ⟨dst, .call { callee := .builtin .append, args := #[s, x], argTypes := #[t, tn] }, ty, pos, af, g⟩).run P w = .ok (.value (.slice (some ⟨w.heap.size, 0, none⟩) (m + q) (grownCap w (m + q) c e)))
        (w.drew.alloc (.cells (xs.toArray ++ Builtin.zeroCells zero.cells q ++ Builtin.zeroCells zero.cells (grownCap w (m + q) c e - (m + q))) e)) := by
    simp only [execOp, resolve, invoke, builtin, Sem.run_bind, Sem.run_pure, Result.andThen_ok, List.map_toArray, List.map_cons, List.map_nil, hρ _ _ hs, hρ _ _ hx, hr]
  rw [hex]
  have hge := grownCap_ge w (m + q) c e
  have hst := (Step.drew hw 1).trans (Step.alloc (Step.drew hw 1).mem (.cells (xs.toArray ++ Builtin.zeroCells zero.cells q ++ Builtin.zeroCells zero.cells (grownCap w (m + q) c e - (m + q))) e (0, 0)))
  refine hK _ _ G _ hst ⟨w.heap.size, grownCap w (m + q) c e, (Builtin.zeroCells zero.cells (grownCap w (m + q) c e - (m + q))).toList, rfl, hge, grownCap_le_maxLen w (m + q) c e hb', ?_, rfl, ?_⟩
  · simp only [List.length_append, Array.length_toList, size_zeroCells, hzs, hus, ← Nat.add_mul]
    congr 1
    omega
  · simp [World.drewN]
theorem v_appendZ {e : TypeId} {agg : Bool} {sz : Nat} {s x : Operand} {A : Option Addr} {m c q : Nat} {xs : List Value} {tn : TypeId} [Ty P t (.slice e)] [Ty P tn (.int .i64)] [Lay P e agg sz bytes zero] (hzs : zero.cells.size = sz) (hsz : 0 < sz) (hs : Env.ev σ s = some (.slice A m c)) {z : Int} (hx : Env.ev σ x = some (.int .i64 z)) (hz : z = (q : Nat)) (hsrc : Src G μ (.slice A m c) m sz xs) (hq : 0 < q) (hroom : c < m + q)
    (hb : (m + q) * bytes ≤ 140737488355328) (hb' : m + q ≤ maxLen) (hd : Nat.blt d n = true)
    (h : ∀ b c' spare, m + q ≤ c' → c' ≤ maxLen → (xs ++ (Builtin.zeroCells zero.cells q).toList ++ spare).length = c' * sz → Vc P fn n B Φ (.ops all rest :: k) ((d, .slice (some ⟨b, 0, none⟩) (m + q) c') :: σ) G ((b, .cells (xs ++ (Builtin.zeroCells zero.cells q).toList ++ spare).toArray e (0, 0)) :: μ)) :
    Vc P fn n B Φ (.ops all (⟨some d, .call { callee := .builtin .append, args := #[s, x], argTypes := #[t, tn] }, ty, pos, af, none⟩ :: rest) :: k) σ G μ :=
  v_move (m_appendZ hzs hsz hs hx hz hsrc hq hroom hb hb') hd fun _ _ _ ⟨b, c', sp, h1, h2, h3, h4, h5, h6⟩ => by rw [h1, h5, h6]; exact h b c' sp h2 h3 h4
/-- The function is the library's slices.overlaps. -/
class Overl (P : Program) (f : FuncId) (e : outParam TypeId) (tR : outParam TypeId) : Prop where
  h : ∃ ts, P.underlying ts = some (.slice e) ∧ ∀ args w, (callFunc f args).run P w = ((Extern.SlicesOverlaps.overlaps #[ts, ts] #[tR] args).run P w).andThen fun v w' => .ok (.value v) w'
theorem m_apart {f : FuncId} {e tR : TypeId} [ho : Overl P f e tR] {agg : Bool} {sz : Nat} [Lay P e agg sz bytes zero] {x y : Operand} {ts : Array TypeId} {b1 o1 m1 c1 b2 o2 m2 c2 : Nat} {vs1 vs2 : List Value} {e1 e2 : TypeId} (hx : Env.ev σ x = some (.slice (some ⟨b1, o1, none⟩) m1 c1)) (hy : Env.ev σ y = some (.slice (some ⟨b2, o2, none⟩) m2 c2))
    (h1 : Has μ b1 vs1 e1) (h2 : Has μ b2 vs2 e2) (hne : b1 ≠ b2) (h0 : vs2 ≠ []) :
    MoveOp P (.call { callee := .value (.func f), args := #[x, y], argTypes := ts }) ty σ G μ (fun v' G' μ' => v' = .bool false ∧ G' = G ∧ μ' = μ) := by
  intro dst pos af g ρ hρ w hw a K Q hK
  obtain ⟨T, hT, hc⟩ := ho.h
  have w1 := hw.own _ _ h1
  have w2 := hw.own _ _ h2
  have hr := run_overlaps_apart (P := P) w T tR e hT sz (fun w => run_sizeOf (P := P) (t := e) (agg := agg) (size := sz) (bytes := bytes) (zero := zero) w) ⟨b1, o1, none⟩ ⟨b2, o2, none⟩ m1 c1 m2 c2 hne e1 e2 vs1.length vs2.length
    (by simp [World.shape?, w1]) (by simp [World.shape?, w2]) (by simpa using h0) (by simp [World.frozen?, w1]) (by simp [World.frozen?, w1])
  have hf : ρ (.func f) = .func (.func f) #[] #[] := hρ _ _ rfl
  have hex : (execOp ρ ⟨dst, .call { callee := .value (.func f), args := #[x, y], argTypes := ts }, ty, pos, af, g⟩).run P w = .ok (.value (.bool false)) w := by
    simp [execOp, resolve, hf, Deferred.ofValue, invoke, hρ _ _ hx, hρ _ _ hy, hc, hr]
  rw [hex]
  exact hK _ _ G μ (Step.refl hw) ⟨rfl, rfl, rfl⟩
/-- Two blocks of ours are two. -/
theorem v_ne {is : List It} {b b' : Nat} {o : Obj} {r : OH} (hm : b' ∈ r.map (·.1)) (h : b' ≠ b → Vc P fn n B Φ is σ G ((b, o) :: r)) : Vc P fn n B Φ is σ G ((b, o) :: r) := by
  intro w hw a ha
  refine h (fun e => ?_) w hw a ha
  have := hw.mem.nodup
  rw [List.map_cons, List.nodup_cons] at this
  exact this.1 (e ▸ hm)
theorem v_apart {f : FuncId} {e tR : TypeId} [ho : Overl P f e tR] {agg : Bool} {sz : Nat} [Lay P e agg sz bytes zero] {x y : Operand} {ts : Array TypeId} {b1 o1 m1 c1 b2 o2 m2 c2 : Nat} {vs1 vs2 : List Value} {e1 e2 : TypeId} (hx : Env.ev σ x = some (.slice (some ⟨b1, o1, none⟩) m1 c1)) (hy : Env.ev σ y = some (.slice (some ⟨b2, o2, none⟩) m2 c2))
    (h1 : Has μ b1 vs1 e1) (h2 : Has μ b2 vs2 e2) (hne : b1 ≠ b2) (h0 : vs2 ≠ []) (hd : Nat.blt d n = true)
    (h : Vc P fn n B Φ (.ops all rest :: k) ((d, .bool false) :: σ) G μ) : Vc P fn n B Φ (.ops all (⟨some d, .call { callee := .value (.func f), args := #[x, y], argTypes := ts }, ty, pos, af, none⟩ :: rest) :: k) σ G μ :=
  v_move (m_apart (sz := sz) (agg := agg) (bytes := bytes) (zero := zero) hx hy h1 h2 hne h0) hd fun _ _ _ ⟨h1, h2, h3⟩ => by rw [h1, h2, h3]; exact h
theorem d_copy {ν μ' : OH} {G0 : GH} {m0 : Nat} {listed : Array Bool} (i : Nat) {e : TypeId} {agg : Bool} {sz : Nat} {y x : Operand} {b o m c m' q : Nat} {u : Value} {vs us vs' : List Value} (hi : all[i]? = some ⟨some d, .call { callee := .builtin .copy, args := #[y, x], argTypes := #[t, t] }, ty, pos, af, none⟩) (hT : Ty P t (.slice e)) (hL : Lay P e agg sz bytes zero) (hr : Region.ready .any all listed = [i])
    (hy : Env.ev σ y = some (.slice (some ⟨b, o, none⟩) m c)) (hx : Env.ev σ x = some u) (hq : Nat.min m' m = q) (hm : 0 < m') (hsrc : Src G μ u m' sz us)
    (hb : Has μ b vs e) (h1 : (us.take (q * sz)).all Value.oneCell' = true) (hfit : o + q * sz ≤ vs.length) (hov : over vs o (us.take (q * sz)) = vs') (hu : Upd b (.cells vs'.toArray e (0, 0)) μ μ') (hd : Nat.blt d n = true) (hν' : ∀ e ∈ ν, e ∈ μ')
    (h : DVc P fn n B Φ all G0 ν m0 (listed.setIfInBounds i true) k ((d, .int .i64 q) :: σ) G μ') : DVc P fn n B Φ all G0 ν (m0 + 1) listed k σ G μ :=
  d_exec i hi hr (m_copy hy hx hq hm hsrc hb h1 hfit hov hu) hd fun _ _ _ ⟨h1, h2, h3⟩ => by rw [h1, h2, h3]; exact ⟨hν', h⟩
end
end Go.Vx
/-
  entry (layer 12), the fifth part: clones of entries, and slices.Insert.
-/
set_option linter.unusedSimpArgs false
set_option linter.unusedVariables false
namespace Go.Proofs.YtnoiahlpmgbhfaaDoor
open Go.Vx Go.ChangeShapes Go.WideShapes Go.ChangeAt Go.RowKit
/-- The cells of entries. -/
def esC (l : List Ent) : List Value := (l.map Ent.cells).flatten
theorem cells_length (x : Ent) : x.cells.length = 10 := rfl
theorem esC_cons (x : Ent) (l : List Ent) : esC (x :: l) = x.cells ++ esC l := by simp [esC]
theorem esC_append (a b : List Ent) : esC (a ++ b) = esC a ++ esC b := by simp [esC]
theorem esC_length (l : List Ent) : (esC l).length = l.length * 10 := by
  induction l with
  | nil => rfl
  | cons x l ih => rw [esC_cons, List.length_append, ih, cells_length, List.length_cons]; omega
theorem esC_take (l : List Ent) (i : Nat) : (esC l).take (i * 10) = esC (l.take i) := by
  by_cases h : i ≤ l.length
  · conv => lhs; rw [← List.take_append_drop i l, esC_append]
    rw [List.take_append_of_le_length (by rw [esC_length, List.length_take]; omega), List.take_of_length_le (by rw [esC_length, List.length_take]; omega)]
  · rw [List.take_of_length_le (by rw [esC_length]; omega), List.take_of_length_le (by omega)]
theorem esC_drop (l : List Ent) (i : Nat) : (esC l).drop (i * 10) = esC (l.drop i) := by
  by_cases h : i ≤ l.length
  · conv => lhs; rw [← List.take_append_drop i l, esC_append]
    rw [List.drop_append, List.drop_of_length_le (by rw [esC_length, List.length_take]; omega), esC_length, List.length_take, show i * 10 - min i l.length * 10 = 0 by omega]
    simp
  · rw [List.drop_of_length_le (by rw [esC_length]; omega), List.drop_of_length_le (by omega)]; rfl
theorem esC_get (l : List Ent) (i j : Nat) (hi : i < l.length) (hj : j < 10) : (esC l)[i * 10 + j]? = l[i].cells[j]? := by
  have h := congrArg (·[j]?) (esC_drop l i)
  simp only [List.getElem?_drop] at h
  rw [h, List.drop_eq_getElem_cons hi, esC_cons, List.getElem?_append_left (by rw [cells_length]; omega)]
theorem esC_one (l : List Ent) : (esC l).all Value.oneCell' = true := by
  induction l with
  | nil => rfl
  | cons x l ih => rw [esC_cons, List.all_append, ih, Bool.and_true]; rfl
theorem esC_src {G : GH} {μ : OH} {A : Option Addr} {c : Nat} {l : List Ent} (hsome : 0 < l.length → A.isSome = true) (hcp : ∀ i (h : i < l.length), CellsG G ((adr A).add (i * 10)) l[i].cells) : Go.Vx.Src G μ (.slice A l.length c) l.length 10 (esC l) := by
  refine ⟨esC_length l, A, c, rfl, fun h => ?_⟩
  obtain ⟨a, rfl⟩ := Option.isSome_iff_exists.1 (hsome h)
  refine ⟨a, rfl, CellsAt.frozen fun p v hv => ?_⟩
  have hp : p < l.length * 10 := by rw [← esC_length]; exact (List.getElem?_eq_some_iff.1 hv).1
  have e : p = p / 10 * 10 + p % 10 := by omega
  rw [e, ← adr_add]
  rw [e, esC_get l (p / 10) (p % 10) (by omega) (by omega)] at hv
  exact hcp (p / 10) (by omega) _ _ hv
theorem es_of_grow {v : Value} {l : List Ent} {ν : OH} (h : Grow 50 10 v l.length (esC l) ν) {G' : GH} (hG : ∀ b o, (b, o) ∈ ν → G' b = some o) (hok : ∀ x ∈ l, x.ok) : Es G' v l := by
  refine h.sl hG (by simp) fun i x cs hx hc => ?_
  rw [List.getElem?_map, hx] at hc
  simp only [Option.map_some, Option.some.injEq] at hc
  subst hc
  exact ⟨rfl, rfl, hok x (List.mem_of_getElem? hx)⟩
abbrev zE : Value := .agg #[.int .i64 0, .int .i64 0, .int .i64 0, .int .i64 0, .int .i64 0, .int .i64 0, .string ByteArray.empty, .string ByteArray.empty, .string ByteArray.empty, .int .i64 0]
theorem entClone_s {G : GH} {l : List Ent} {sv : Value} (hs : Es G sv l) (hn : l.length ≤ 200) : Con Tryd.prog 85 #[sv] G [] (fun r G' μ' => G' = G ∧ Grow 50 10 r l.length (esC l) μ') := by
  obtain ⟨A, c, rfl, hlc, hcm, hsome, hcp, hcb, hcc, hok⟩ := esOpen hs
  simp only [maxLen] at hcm
  refine v_enter Tryd.func85 rfl Tryd.ntmps85 rfl (fun B => ?_)
  cases A with
  | none =>
    have h0 : l.length = 0 := by
      by_cases h : 0 < l.length
      · cases hsome h
      · omega
    have h1 : l = [] := List.eq_nil_of_length_eq_zero h0
    subst h1
    repeat' (first | apply v_seq | apply v_region | apply v_nil | (apply v_pure; (case hop => first | (apply p_move <;> rfl) | (apply p_assign <;> rfl) | (apply p_eqNilSlice <;> rfl)); (case hd => rfl)) | (apply v_condT; (case hc => rfl)) | fail)
    refine v_ret [] (outsA1 rfl rfl) (by repeat (first | exact List.Sublist.refl _ | fail)) ?_
    exact ⟨rfl, Grow.nil _ _⟩
  | some a =>
    have hsrc := fun μ => esC_src (μ := μ) (c := c) hsome hcp
    repeat' (first | apply v_seq | apply v_region | apply v_nil | apply v_skip | (apply v_pure; (case hop => first | (apply p_move <;> rfl) | (apply p_assign <;> rfl) | (apply p_eqNilSlice <;> rfl)); (case hd => rfl)) | (apply v_condF; (case hc => rfl)) | (apply v_buildSlice; (case hz => rfl); (case hi => rfl); (case hv => (simp only [List.map_cons, List.map_nil]; repeat (first | with_reducible exact evs_nil | fail))); (case hp => (first | with_reducible exact pk_nil | fail)); (case hb => rfl); (case hd => rfl); intro b) | fail)
    refine v_append (e := 50) (agg := true) (sz := 10) (bytes := 104) (zero := zE) rfl (by omega) rfl rfl Grow.empty (List.Perm.refl _) (hsrc _) (esC_one l) (by omega) (by simp only [maxLen]; omega) rfl fun v' ν' hg => ?_
    repeat' (first | apply v_nil | (apply v_pure; (case hop => first | (apply p_assign <;> rfl) | fail); (case hd => rfl)) | fail)
    refine v_ret _ (outsA1 rfl rfl) (by repeat (first | exact List.Sublist.refl _ | fail)) ?_
    refine ⟨rfl, ?_⟩
    simpa using hg
theorem p_sliceB {σ : Env} {ty t e : TypeId} {agg : Bool} {sz bytes : Nat} {zero : Value} {x lo : Operand} {b o n c : Nat} {k : IntKind} {z : Int} [Ty Tryd.prog t (.slice e)] [Lay Tryd.prog e agg sz bytes zero] (m : Nat) (hx : Env.ev σ x = some (.slice (some ⟨b, o, none⟩) n c)) (hl : Env.ev σ lo = some (.int k z)) (hz : z = (m : Nat)) (h1 : m ≤ n) (h2 : n ≤ c) (h3 : m < c) :
    PureOp Tryd.prog (.slice t x (some lo) none none) ty σ (.slice (some ⟨b, o + m * sz, none⟩) (n - m) (c - m)) := by
  subst hz
  have h := p_sliceL (P := Tryd.prog) (ty := ty) (t := t) (e := e) (agg := agg) (sz := sz) (bytes := bytes) (zero := zero) hx hl (by omega) (by omega) h2
  simp only [Int.toNat_natCast] at h
  rw [if_neg (by omega), Option.map_some, add_mk] at h
  exact h
theorem p_sliceHB {σ : Env} {ty t e : TypeId} {agg : Bool} {sz bytes : Nat} {zero : Value} {x hi : Operand} {A : Option Addr} {n c : Nat} {k : IntKind} {z : Int} [Ty Tryd.prog t (.slice e)] [Lay Tryd.prog e agg sz bytes zero] (m : Nat) (hx : Env.ev σ x = some (.slice A n c)) (hl : Env.ev σ hi = some (.int k z)) (hz : z = (m : Nat)) (h1 : m ≤ c) :
    PureOp Tryd.prog (.slice t x none (some hi) none) ty σ (.slice A m c) := by
  subst hz
  exact p_sliceH (P := Tryd.prog) (ty := ty) (t := t) (e := e) (agg := agg) (sz := sz) (bytes := bytes) (zero := zero) hx hl (by omega) (by omega)
instance : Overl Tryd.prog 152 50 4 := ⟨_, Tryd.underlying40, fun args w => run_callFunc_extern Tryd.func152 (by kernel_rfl) (by kernel_rfl) (by kernel_rfl) (e := Extern.SlicesOverlaps.overlaps #[40, 40] #[4]) (by kernel_rfl) args w⟩
theorem zeros_length (q : Nat) : (Builtin.zeroCells zE.cells q).toList.length = q * 10 := by rw [Array.length_toList, size_zeroCells]; rfl
/-- What the two copies leave in a row of zeros. -/
theorem ins_row (p z sp a t : List Value) (hz : z.length = a.length + t.length) (h : t.length = z.length - a.length) : over (over (p ++ z ++ sp) p.length a) (p.length + a.length) t = p ++ a ++ t ++ sp := by
  have e1 : over (p ++ z ++ sp) p.length a = p ++ a ++ z.drop a.length ++ sp := by
    unfold over
    rw [List.append_assoc p z sp, List.take_left, ← List.drop_drop, List.drop_left, List.drop_append_of_le_length (by omega)]
    simp
  rw [e1]
  unfold over
  rw [show p.length + a.length = (p ++ a).length by simp, List.append_assoc (p ++ a), List.take_left, ← List.drop_drop, List.drop_left, List.drop_append_of_le_length (by rw [List.length_drop]; omega), List.drop_of_length_le (l := List.drop a.length z) (by rw [List.length_drop]; omega)]
  simp
theorem ins_shift (p t sp a : List Value) (h : a.length ≤ sp.length) : over (over (p ++ t ++ sp) (p.length + a.length) t) p.length a = p ++ a ++ t ++ sp.drop a.length := by
  have e1 : over (p ++ t ++ sp) (p.length + a.length) t = (p ++ (t ++ sp).take a.length) ++ (t ++ sp.drop a.length) := by
    unfold over
    rw [List.append_assoc p t sp, List.take_append, List.take_of_length_le (by omega), show p.length + a.length - p.length = a.length by omega, show p.length + a.length + t.length = p.length + (t.length + a.length) by omega, ← List.drop_drop, List.drop_left, ← List.drop_drop, List.drop_left]
    simp
  have e2 : ((t ++ sp).take a.length).length = a.length := by rw [List.length_take, List.length_append]; omega
  rw [e1]
  unfold over
  rw [List.append_assoc p, List.take_left, show p.length + a.length = (p ++ (t ++ sp).take a.length).length by rw [List.length_append, e2], ← List.append_assoc p, List.drop_left]
  simp
theorem entInsert_s {G : GH} {l : List Ent} {v : Value} {ν : OH} (x : Ent) (b2 i : Nat) (hg : Grow 50 10 v l.length (esC l) ν) (hi : i ≤ l.length) (hn : l.length ≤ 200) :
    Con Tryd.prog 119 #[v, .int .i64 i, .slice (some ⟨b2, 0, none⟩) 1 1] G (ν ++ [(b2, .cells x.cells.toArray 50 (0, 0))]) (fun r G' μ' => G' = G ∧ Grow 50 10 r (l.length + 1) (esC (l.take i ++ x :: l.drop i)) μ') := by
  by_cases hin : i = l.length
  · subst hin
    obtain ⟨A, c, rfl, hc1, hc2⟩ := hg.shape
    simp only [maxLen] at hc2
    refine v_enter Tryd.func119 rfl Tryd.ntmps119 rfl (fun B => ?_)
    repeat' (first | apply v_seq | apply v_region | apply v_nil | apply v_skip | (apply v_pure; (case hop => first | (apply p_move <;> rfl) | (apply p_eqs <;> rfl) | (apply p_eq <;> rfl) | (apply p_assign <;> rfl) | (apply p_lenSlice <;> rfl) | (apply p_sliceL; (case hx => rfl); (case hl => rfl); all_goals omega) | fail); (case hd => rfl)) | (apply v_condT; (case hc => rfl)) | (apply v_cond; (case hc => rfl); all_goals (intro h; (try simp only [reduceCtorEq, dec_true, dec_false, decide_eq_true_eq, decide_eq_false_iff_not, Bool.not_eq_true', Bool.not_eq_false', Option.isNone_iff_eq_none, beq_true, beq_false, beq_iff_eq, beq_eq_false_iff_ne, ne_eq, decide_eq_decide, Bool.not_eq_true, Bool.not_eq_false, Decidable.not_not] at h); first | (exfalso; omega) | skip)) | fail)
    refine v_append (e := 50) (agg := true) (sz := 10) (bytes := 104) (zero := zE) rfl (by omega) rfl rfl hg (List.Perm.refl _) (m' := 1) (us := x.cells) (Src.own (e := 50) (by simp [Has]) rfl) rfl (by omega) (by simp only [maxLen]; omega) rfl fun v' ν' hg' => ?_
    repeat' (first | apply v_nil | (apply v_pure; (case hop => first | (apply p_assign <;> rfl) | fail); (case hd => rfl)) | fail)
    refine v_ret ν' (outsA1 rfl rfl) (by repeat (first | exact List.sublist_append_left _ _ | fail)) ?_
    refine ⟨rfl, ?_⟩
    rw [List.take_length, List.drop_length, esC_append, esC_cons]
    simpa [esC] using hg'
  · have hlt : i < l.length := by omega
    obtain ⟨hxl, ⟨rfl, h0, rfl⟩ | ⟨b, cap, spare, rfl, rfl, hc1, hc2, hc3⟩⟩ := hg
    · omega
    simp only [maxLen] at hc2
    simp only [List.singleton_append]
    rw [List.length_append, esC_length] at hc3
    by_cases hroom : cap < l.length + 1
    · refine v_enter Tryd.func119 rfl Tryd.ntmps119 rfl (fun B => ?_)
      repeat' (first | (apply v_pure; (case hop => (apply p_sliceB i; (case hx => rfl); (case hl => rfl); (case hz => omega); (case h1 => omega); (case h2 => omega); (case h3 => omega))); (case hd => rfl)) | (apply v_pure; (case hop => (apply p_sliceHB i; (case hx => rfl); (case hl => rfl); (case hz => omega); (case h1 => omega))); (case hd => rfl)) | apply v_seq | apply v_region | apply v_nil | apply v_skip | (apply v_pure; (case hop => first | (apply p_move <;> rfl) | (apply p_eq <;> rfl) | (apply p_gt <;> rfl) | (apply p_assign <;> rfl) | (apply p_lenSlice <;> rfl) | (apply p_add; (case hx => rfl); (case hy => rfl); (case h => omega)) | (apply p_sub; (case hx => rfl); (case hy => rfl); (case h => omega)) | (apply p_capSlice <;> rfl) | fail); (case hd => rfl)) | (apply v_cond; (case hc => rfl); all_goals (intro h; (try simp only [reduceCtorEq, dec_true, dec_false, decide_eq_true_eq, decide_eq_false_iff_not, Bool.not_eq_true', Bool.not_eq_false', Option.isNone_iff_eq_none, beq_true, beq_false, beq_iff_eq, beq_eq_false_iff_ne, ne_eq, decide_eq_decide, Bool.not_eq_true, Bool.not_eq_false, Decidable.not_not] at h); first | (exfalso; omega) | skip)) | fail)
      refine v_appendZ (e := 50) (agg := true) (sz := 10) (bytes := 104) (zero := zE) (q := l.length + 1 - i) (xs := esC (l.take i)) rfl (by omega) rfl rfl (by omega) ?_ (by omega) (by omega) (by omega) (by simp only [maxLen]; omega) rfl fun b3 c3 sp3 hd1 hd2 hd3 => ?_
      · refine Src.ownAt (vs := esC l ++ spare) (e := 50) (by simp [Has]) ?_ (by rw [esC_length, List.length_take]; omega)
        rw [List.drop_zero, List.take_append_of_le_length (by omega), esC_take]
      simp only [maxLen] at hd2
      have zl := zeros_length (l.length + 1 - i)
      have tl : (esC (l.take i)).length = i * 10 := by rw [esC_length, List.length_take]; omega
      repeat' (first | (apply v_pure; (case hop => (apply p_sliceB i; (case hx => rfl); (case hl => rfl); (case hz => omega); (case h1 => omega); (case h2 => omega); (case h3 => omega))); (case hd => rfl)) | apply v_seq | apply v_region | apply v_nil | (apply v_pure; (case hop => first | (apply p_move <;> rfl) | (apply p_assign <;> rfl) | fail); (case hd => rfl)) | fail)
      refine v_copy (e := 50) (agg := true) (sz := 10) (bytes := 104) (zero := zE) (q := 1) rfl rfl (show min 1 _ = 1 by omega) (by omega) (us := x.cells) (Src.own (e := 50) (by simp [Has]) rfl) (by (repeat (first | exact List.Mem.head _ | fail))) rfl (by simp only [List.length_append, zl, tl]; omega) rfl (by (repeat (first | exact Upd.here _ _ | fail))) rfl ?_
      repeat' (first | apply v_seq | apply v_nil | fail)
      have hus : ((esC l ++ spare).drop (0 + i * 10)).take ((l.length - i) * 10) = esC (l.drop i) := by
        rw [Nat.zero_add, List.drop_append_of_le_length (by omega), esC_drop, List.take_append_of_le_length (by rw [esC_length, List.length_drop]; omega), List.take_of_length_le (by rw [esC_length, List.length_drop]; omega)]
      have dl : (esC (l.drop i)).length = (l.length - i) * 10 := by rw [esC_length, List.length_drop]
      refine d_start [] (by kernel_rfl) (by kernel_rfl) (by intro e he; first | (simp at he ⊢; try omega)) ?_
      all_goals (first | (apply d_take 0; (case hi => rfl); (case hop => first | (apply PureOp.read; apply p_move <;> rfl)); (case hf => kernel_rfl); (case hr => kernel_rfl); (case hd => rfl)) | fail)
      all_goals (first | (apply d_take 1; (case hi => rfl); (case hop => first | (apply PureOp.read; apply p_move <;> rfl)); (case hf => kernel_rfl); (case hr => kernel_rfl); (case hd => rfl)) | fail)
      all_goals (first | (apply d_take 2; (case hi => rfl); (case hop => first | (apply PureOp.read; apply p_move <;> rfl)); (case hf => kernel_rfl); (case hr => kernel_rfl); (case hd => rfl)) | fail)
      all_goals (first | (apply d_take 3; (case hi => rfl); (case hop => first | (apply PureOp.read; apply p_add; (case hx => rfl); (case hy => rfl); (case h => omega))); (case hf => kernel_rfl); (case hr => kernel_rfl); (case hd => rfl)) | fail)
      all_goals (first | (apply d_take 4; (case hi => rfl); (case hop => first | ((apply PureOp.read; apply p_sliceB (i + 1); (case hx => rfl); (case hl => rfl); (case hz => omega); (case h1 => omega); (case h2 => omega); (case h3 => omega))) | fail); (case hf => kernel_rfl); (case hr => kernel_rfl); (case hd => rfl)) | fail)
      all_goals (first | (apply d_take 5; (case hi => rfl); (case hop => first | (apply PureOp.read; apply p_move <;> rfl)); (case hf => kernel_rfl); (case hr => kernel_rfl); (case hd => rfl)) | fail)
      all_goals (first | (apply d_take 6; (case hi => rfl); (case hop => first | (apply PureOp.read; apply p_move <;> rfl)); (case hf => kernel_rfl); (case hr => kernel_rfl); (case hd => rfl)) | fail)
      all_goals (first | (apply d_take 7; (case hi => rfl); (case hop => first | ((apply PureOp.read; apply p_sliceB i; (case hx => rfl); (case hl => rfl); (case hz => omega); (case h1 => omega); (case h2 => omega); (case h3 => omega))) | fail); (case hf => kernel_rfl); (case hr => kernel_rfl); (case hd => rfl)) | fail)
      all_goals (first | ((apply d_copy 8 (e := 50) (agg := true) (sz := 10) (bytes := 104) (zero := zE) (m' := l.length - i) (q := l.length - i) (us := esC (l.drop i)); (case hi => rfl); (case hr => kernel_rfl);  (case hT => infer_instance); (case hL => infer_instance); (case hy => rfl); (case hx => rfl); (case hq => (show min _ _ = _); omega); (case hm => omega); (case hsrc => exact Src.ownAt (vs := esC l ++ spare) (e := 50) (by (repeat (first | exact List.Mem.head _ | apply List.Mem.tail))) hus dl); (case hb => (repeat (first | exact List.Mem.head _ | fail))); (case h1 => rw [List.take_of_length_le (by omega)]; exact esC_one _); (case hfit => simp only [over, List.length_append, List.length_take, List.length_drop, zl, tl, cells_length]; omega); (case hov => rfl); (case hu => (repeat (first | exact Upd.here _ _ | fail))); (case hd => rfl); (case hν' => intro e he; cases he))) | fail)
      all_goals (apply d_done; (case hr => kernel_rfl))
      repeat' (first | apply v_seq | apply v_region | apply v_nil | (apply v_pure; (case hop => first | (apply p_move <;> rfl) | (apply p_assign <;> rfl) | fail); (case hd => rfl)) | fail)
      refine v_ret [(b3, _)] (outsA1 rfl rfl) (by repeat (first | exact List.nil_sublist _ | apply List.Sublist.cons_cons | fail)) ?_
      refine ⟨rfl, ?_⟩
      have el : (esC (l.take i ++ x :: l.drop i)) = esC (l.take i) ++ x.cells ++ esC (l.drop i) := by rw [esC_append, esC_cons, List.append_assoc]
      have e := ins_row (esC (l.take i)) (Builtin.zeroCells zE.cells (l.length + 1 - i)).toList sp3 x.cells (esC (l.drop i)) (by rw [zl, dl, cells_length]; omega) (by rw [zl, dl, cells_length]; omega)
      rw [tl, cells_length] at e
      rw [show 0 + (i + 1) * 10 = i * 10 + 10 by omega, show 0 + i * 10 = i * 10 by omega, List.take_of_length_le (l := esC (l.drop i)) (by omega), show x.cells.take (1 * 10) = x.cells from rfl, e, show i + (l.length + 1 - i) = l.length + 1 by omega]
      refine ⟨by rw [el, List.length_append, List.length_append, tl, dl, cells_length]; omega, .inr ⟨b3, c3, sp3, rfl, by rw [el], by omega, by simp only [maxLen]; omega, ?_⟩⟩
      simp only [List.length_append, zl, tl] at hd3
      rw [el]
      simp only [List.length_append, tl, dl, cells_length]
      omega
    · refine v_enter Tryd.func119 rfl Tryd.ntmps119 rfl (fun B => ?_)
      repeat' (first | (apply v_pure; (case hop => (apply p_sliceB i; (case hx => rfl); (case hl => rfl); (case hz => omega); (case h1 => omega); (case h2 => omega); (case h3 => omega))); (case hd => rfl)) | (apply v_pure; (case hop => (apply p_sliceB (i + 1); (case hx => rfl); (case hl => rfl); (case hz => omega); (case h1 => omega); (case h2 => omega); (case h3 => omega))); (case hd => rfl)) | (apply v_pure; (case hop => (apply p_sliceHB (l.length + 1); (case hx => rfl); (case hl => rfl); (case hz => omega); (case h1 => omega))); (case hd => rfl)) | apply v_seq | apply v_region | apply v_nil | apply v_skip | (apply v_pure; (case hop => first | (apply p_move <;> rfl) | (apply p_eq <;> rfl) | (apply p_gt <;> rfl) | (apply p_assign <;> rfl) | (apply p_lenSlice <;> rfl) | (apply p_add; (case hx => rfl); (case hy => rfl); (case h => omega)) | (apply p_capSlice <;> rfl) | fail); (case hd => rfl)) | (apply v_cond; (case hc => rfl); all_goals (intro h; (try simp only [reduceCtorEq, dec_true, dec_false, decide_eq_true_eq, decide_eq_false_iff_not, Bool.not_eq_true', Bool.not_eq_false', Option.isNone_iff_eq_none, beq_true, beq_false, beq_iff_eq, beq_eq_false_iff_ne, ne_eq, decide_eq_decide, Bool.not_eq_true, Bool.not_eq_false, Decidable.not_not] at h); first | (exfalso; omega) | skip)) | fail)
      refine v_ne (b' := b2) (by simp) fun hne => ?_
      refine v_apart (e := 50) (agg := true) (sz := 10) (bytes := 104) (zero := zE) rfl rfl (by (repeat (first | exact List.Mem.head _ | apply List.Mem.tail))) (by (repeat (first | exact List.Mem.head _ | fail))) hne (fun h => by have := congrArg List.length h; rw [List.length_append, esC_length, List.length_nil] at this; omega) rfl ?_
      repeat' (first | apply v_seq | apply v_nil | (apply v_pure; (case hop => first | (apply p_not <;> rfl) | fail); (case hd => rfl)) | (apply v_condT; (case hc => rfl)) | fail)
      have tl : (esC (l.take i)).length = i * 10 := by rw [esC_length, List.length_take]; omega
      have dl : (esC (l.drop i)).length = (l.length - i) * 10 := by rw [esC_length, List.length_drop]
      have hus : (((esC l ++ spare).drop (0 + i * 10)).take ((l.length + 1 - i) * 10)).take ((l.length - i) * 10) = esC (l.drop i) := by
        rw [List.take_take, Nat.zero_add, Nat.min_eq_left (by omega), List.drop_append_of_le_length (by omega), esC_drop, List.take_append_of_le_length (by omega), List.take_of_length_le (by omega)]
      refine d_start [] (by kernel_rfl) (by kernel_rfl) (by intro e he; first | (simp at he ⊢; try omega)) ?_
      all_goals (first | (apply d_take 0; (case hi => rfl); (case hop => first | (apply PureOp.read; apply p_move <;> rfl)); (case hf => kernel_rfl); (case hr => kernel_rfl); (case hd => rfl)) | fail)
      all_goals (first | (apply d_take 1; (case hi => rfl); (case hop => first | (apply PureOp.read; apply p_move <;> rfl)); (case hf => kernel_rfl); (case hr => kernel_rfl); (case hd => rfl)) | fail)
      all_goals (first | (apply d_take 2; (case hi => rfl); (case hop => first | (apply PureOp.read; apply p_move <;> rfl)); (case hf => kernel_rfl); (case hr => kernel_rfl); (case hd => rfl)) | fail)
      all_goals (first | (apply d_take 3; (case hi => rfl); (case hop => first | (apply PureOp.read; apply p_add; (case hx => rfl); (case hy => rfl); (case h => omega))); (case hf => kernel_rfl); (case hr => kernel_rfl); (case hd => rfl)) | fail)
      all_goals (first | (apply d_take 4; (case hi => rfl); (case hop => first | ((apply PureOp.read; apply p_sliceB (i + 1); (case hx => rfl); (case hl => rfl); (case hz => omega); (case h1 => omega); (case h2 => omega); (case h3 => omega))) | fail); (case hf => kernel_rfl); (case hr => kernel_rfl); (case hd => rfl)) | fail)
      all_goals (first | (apply d_take 5; (case hi => rfl); (case hop => first | (apply PureOp.read; apply p_move <;> rfl)); (case hf => kernel_rfl); (case hr => kernel_rfl); (case hd => rfl)) | fail)
      all_goals (first | (apply d_take 6; (case hi => rfl); (case hop => first | (apply PureOp.read; apply p_move <;> rfl)); (case hf => kernel_rfl); (case hr => kernel_rfl); (case hd => rfl)) | fail)
      all_goals (first | (apply d_take 7; (case hi => rfl); (case hop => first | ((apply PureOp.read; apply p_sliceB i; (case hx => rfl); (case hl => rfl); (case hz => omega); (case h1 => omega); (case h2 => omega); (case h3 => omega))) | fail); (case hf => kernel_rfl); (case hr => kernel_rfl); (case hd => rfl)) | fail)
      all_goals (first | ((apply d_copy 8 (e := 50) (agg := true) (sz := 10) (bytes := 104) (zero := zE) (m' := l.length + 1 - i) (q := l.length - i) (us := ((esC l ++ spare).drop (0 + i * 10)).take ((l.length + 1 - i) * 10)); (case hi => rfl); (case hr => kernel_rfl);  (case hT => infer_instance); (case hL => infer_instance); (case hy => rfl); (case hx => rfl); (case hq => (show min _ _ = _); omega); (case hm => omega); (case hsrc => exact Src.ownAt (vs := esC l ++ spare) (e := 50) (by (repeat (first | exact List.Mem.head _ | fail))) rfl (by simp only [List.length_take, List.length_drop, List.length_append, esC_length]; omega)); (case hb => (repeat (first | exact List.Mem.head _ | fail))); (case h1 => rw [hus]; exact esC_one _); (case hfit => rw [List.length_append, esC_length]; omega); (case hov => rw [hus]); (case hu => (repeat (first | exact Upd.here _ _ | fail))); (case hd => rfl); (case hν' => intro e he; cases he))) | fail)
      all_goals (apply d_done; (case hr => kernel_rfl))
      repeat' (first | (apply v_pure; (case hop => (apply p_sliceB i; (case hx => rfl); (case hl => rfl); (case hz => omega); (case h1 => omega); (case h2 => omega); (case h3 => omega))); (case hd => rfl)) | apply v_seq | apply v_region | (apply v_pure; (case hop => first | (apply p_move <;> rfl) | fail); (case hd => rfl)) | fail)
      refine v_copy (e := 50) (agg := true) (sz := 10) (bytes := 104) (zero := zE) (q := 1) rfl rfl (show min 1 _ = 1 by omega) (by omega) (us := x.cells) (Src.own (e := 50) (by simp [Has]) rfl) (by (repeat (first | exact List.Mem.head _ | fail))) rfl (by rw [over_length (by rw [List.length_append, hxl, dl]; omega), List.length_append, hxl]; omega) rfl (by (repeat (first | exact Upd.here _ _ | fail))) rfl ?_
      repeat' (first | apply v_seq | apply v_region | apply v_nil | (apply v_pure; (case hop => first | (apply p_move <;> rfl) | (apply p_assign <;> rfl) | fail); (case hd => rfl)) | fail)
      refine v_ret [(b, _)] (outsA1 rfl rfl) (by repeat (first | exact List.nil_sublist _ | apply List.Sublist.cons_cons | fail)) ?_
      refine ⟨rfl, ?_⟩
      have el : (esC (l.take i ++ x :: l.drop i)) = esC (l.take i) ++ x.cells ++ esC (l.drop i) := by rw [esC_append, esC_cons, List.append_assoc]
      have e := ins_shift (esC (l.take i)) (esC (l.drop i)) spare x.cells (by rw [cells_length]; omega)
      rw [tl, cells_length, ← esC_append, List.take_append_drop] at e
      rw [show 0 + (i + 1) * 10 = i * 10 + 10 by omega, show 0 + i * 10 = i * 10 by omega, show x.cells.take (1 * 10) = x.cells from rfl, e]
      refine ⟨by rw [el, List.length_append, List.length_append, tl, dl, cells_length]; omega, .inr ⟨b, cap, spare.drop 10, rfl, by rw [el], by omega, by simp only [maxLen]; omega, ?_⟩⟩
      rw [el]
      simp only [List.length_append, List.length_drop, tl, dl, cells_length]
      omega
end Go.Proofs.YtnoiahlpmgbhfaaDoor
/-
  entry (layer 12), the sixth part: With; the example.
-/
set_option linter.unusedSimpArgs false
set_option linter.unusedVariables false
namespace Go.Proofs.YtnoiahlpmgbhfaaDoor
open Go.Vx Go.ChangeShapes Go.WideShapes Go.ChangeAt Go.RowKit
/-- Entries with another one. -/
noncomputable def withL (l : List Ent) (x : Ent) : List Ent := if hitB l x.index = true then l.set (placeN l x.index) x else l.take (placeN l x.index) ++ x :: l.drop (placeN l x.index)
theorem hitB_lt {l : List Ent} {n : Int} (h : hitB l n = true) : placeN l n < l.length := by
  unfold hitB at h
  by_cases h' : placeN l n < l.length
  · exact h'
  · rw [dif_neg h'] at h; cases h
theorem placeN_le (l : List Ent) (n : Int) : placeN l n ≤ l.length := List.countP_le_length
theorem withL_len (l : List Ent) (x : Ent) : (withL l x).length = if hitB l x.index = true then l.length else l.length + 1 := by
  unfold withL
  have := placeN_le l x.index
  split
  · simp
  · simp; omega
theorem esC_set (l : List Ent) (x : Ent) (sp : List Value) (p : Nat) (hp : p < l.length) : over (esC l ++ sp) (p * 10) x.cells = esC (l.set p x) ++ sp := by
  have e : l.set p x = l.take p ++ x :: l.drop (p + 1) := List.set_eq_take_append_cons_drop.trans (if_pos hp)
  have e1 : (esC l ++ sp).take (p * 10) = esC (l.take p) := by rw [List.take_append_of_le_length (by rw [esC_length]; omega), esC_take]
  have e2 : (esC l ++ sp).drop (p * 10 + x.cells.length) = esC (l.drop (p + 1)) ++ sp := by
    rw [cells_length, show p * 10 + 10 = (p + 1) * 10 by omega, List.drop_append_of_le_length (by rw [esC_length]; omega), esC_drop]
  rw [over, e1, e2, e, esC_append, esC_cons]
  simp
theorem with_s {G : GH} {l : List Ent} {sv : Value} (x : Ent) (hs : Es G sv l) (hr : RiseL l) (hn : l.length ≤ 200) : Con Tryd.prog 73 #[sv, .agg x.cells.toArray] G [] (fun r G' μ' => G' = G ∧ Grow 50 10 r (withL l x).length (esC (withL l x)) μ') := by
  have qp := place_s x.index hs hr
  have qc := entClone_s hs hn
  have hlp := placeN_le l x.index
  refine v_enter Tryd.func73 rfl Tryd.ntmps73 rfl (fun B => ?_)
  repeat' (first | apply v_seq | apply v_region | apply v_nil | (apply v_pure; (case hop => first | (apply p_move <;> rfl) | (apply p_assign <;> rfl) | (apply p_fieldAddrB <;> rfl) | (apply p_extract0 <;> rfl) | (apply p_extract1 <;> rfl) | fail); (case hd => rfl)) | (apply v_box (zs := x.cells); (case hx => rfl); (case hz => rfl); (case hd => rfl); intro bx) | (apply v_callJ (hs := qp); (case ha => rfl); (case hd => rfl)) | (apply v_read; (case hop => first | (apply r_load1; rfl; (apply Cell.own; (case h => (repeat (first | exact List.Mem.head _ | fail))); rfl)) | fail); (case hd => rfl)) | fail)
  refine v_call (μ1 := []) (μ2 := _) rfl qc (List.Perm.refl _) rfl ?_
  rintro r G' μ1 _ ⟨rfl, hg⟩
  clear qp qc
  cases hh : hitB l x.index
  · have el : withL l x = l.take (placeN l x.index) ++ x :: l.drop (placeN l x.index) := by rw [withL, if_neg (by rw [hh]; decide)]
    have ell : (withL l x).length = l.length + 1 := by rw [withL_len, if_neg (by rw [hh]; decide)]
    rw [ell, el]
    generalize placeN l x.index = p at *
    obtain ⟨A, c, rfl, hc1, hc2⟩ := hg.shape
    repeat' (first | apply v_seq | apply v_region | apply v_nil | apply v_skip | (apply v_pure; (case hop => first | (apply p_move <;> rfl) | (apply p_assign <;> rfl) | fail); (case hd => rfl)) | (apply v_condF; (case hc => rfl)) | (apply v_read; (case hop => first | (apply r_loadNo; (case hx => rfl); (case h => (repeat (first | exact List.Mem.head _ | apply List.mem_append_right))); (case hd => (repeat (first | with_reducible exact dt_nil | apply dt_here | fail))); (case hn => rfl)) | fail); (case hd => rfl)) | (apply v_buildSlice; (case hz => rfl); (case hi => rfl); (case hv => (simp only [List.map_cons, List.map_nil]; repeat (first | with_reducible exact evs_nil | (apply evs_cons; (case h1 => rfl))))); (case hp => (first | (apply pk_cons; (case hc => rfl); (case hs => rfl); (case h => (first | with_reducible exact pk_nil | fail)); (case he => (first | ((repeat (first | with_reducible exact ap_nil | apply ap_cons)); done) | fail))) | fail)); (case hb => rfl); (case hd => rfl); intro b) | fail)
    refine v_call (μ1 := μ1 ++ [(b, .cells x.cells.toArray 50 (0, 0))]) (μ2 := [(bx, .cells x.cells.toArray 50 (0, 0))]) rfl (entInsert_s x b p hg hlp hn) (show List.Perm ((b, Obj.cells x.cells.toArray 50 (0, 0)) :: (μ1 ++ [(bx, Obj.cells x.cells.toArray 50 (0, 0))])) _ from (by apply perm_of_count; intro p; simp only [List.countP_append, List.countP_cons, List.countP_nil, Nat.zero_add, Nat.add_zero]; try ac_rfl)) rfl ?_
    rintro r' G1 μ2 _ ⟨rfl, hg'⟩
    repeat' (first | apply v_nil | (apply v_pure; (case hop => first | (apply p_assign <;> rfl) | fail); (case hd => rfl)) | fail)
    refine v_ret μ2 (outsA1 rfl rfl) (by repeat (first | exact List.sublist_append_left _ _ | fail)) ?_
    exact ⟨rfl, hg'⟩
  · have el : withL l x = l.set (placeN l x.index) x := by rw [withL, if_pos hh]
    have hlt := hitB_lt hh
    rw [el, List.length_set]
    generalize placeN l x.index = p at *
    obtain ⟨hxl, ⟨rfl, h0, rfl⟩ | ⟨b1, cap, spare, rfl, rfl, hc1, hc2, hc3⟩⟩ := hg
    · omega
    simp only [maxLen] at hc2
    simp only [List.singleton_append]
    rw [List.length_append, esC_length] at hc3
    repeat' (first | apply v_seq | apply v_region | apply v_nil | (apply v_pure; (case hop => first | (apply p_move <;> rfl) | (apply p_assign <;> rfl) | (apply p_indexAddr; (case hx => rfl); (case hi => rfl); (case h0 => omega); (case h => omega)) | fail); (case hd => rfl)) | (apply v_condT; (case hc => rfl)) | (apply v_read; (case hop => first | (apply r_loadNo; (case hx => rfl); (case h => (repeat (first | exact List.Mem.head _ | apply List.Mem.tail | fail))); (case hd => (repeat (first | with_reducible exact dt_nil | apply dt_here | fail))); (case hn => rfl)) | fail); (case hd => rfl)) | fail)
    refine v_store (agg := true) (sz := 10) (bytes := 104) (zero := zE) (b := b1) (i := p * 10) (us := x.cells) (vs' := esC (l.set p x) ++ spare) (show some (Value.pointer (some ((⟨b1, 0, none⟩ : Addr).add (p * 10)))) = _ by rw [add_mk, Nat.zero_add]) rfl rfl rfl rfl (by (repeat (first | exact List.Mem.head _ | fail))) (by rw [cells_length, List.length_append, hxl]; omega) (esC_set l x spare p hlt) (by (repeat (first | exact Upd.here _ _ | fail))) ?_
    repeat' (first | apply v_seq | apply v_region | apply v_nil | (apply v_pure; (case hop => first | (apply p_move <;> rfl) | (apply p_assign <;> rfl) | fail); (case hd => rfl)) | fail)
    refine v_ret [(b1, _)] (outsA1 rfl rfl) (by repeat (first | exact List.nil_sublist _ | apply List.Sublist.cons_cons | fail)) ?_
    exact ⟨rfl, by rw [esC_length, List.length_set], .inr ⟨b1, cap, spare, rfl, rfl, hc1, by simp only [maxLen]; omega, by rw [List.length_append, esC_length, List.length_set]; omega⟩⟩
/-! ### The example -/
end Go.Proofs.YtnoiahlpmgbhfaaDoor
/-
  entry (layer 12), the eighth part: rising indices, what is found, equal entries, equal lists.
-/
set_option linter.unusedSimpArgs false
set_option linter.unusedVariables false
namespace Go.Proofs.YtnoiahlpmgbhfaaDoor
open Go.Vx Go.ChangeShapes Go.WideShapes Go.ChangeAt Go.RowKit
theorem cm_feqD (d : Nat) (c c' : Cm) : FEq Tryd.prog (d + 1) c.cells c'.cells [⟨"Kind", 3, 0, false, "", "", 0⟩, ⟨"Client", 3, 1, false, "", "", 8⟩, ⟨"Seq", 3, 2, false, "", "", 16⟩, ⟨"Key", 9, 3, false, "", "", 24⟩, ⟨"Val", 9, 4, false, "", "", 40⟩, ⟨"Old", 9, 5, false, "", "", 56⟩, ⟨"Node", 3, 6, false, "", "", 72⟩] (dec (c.kind = c'.kind) && (dec (c.client = c'.client) && (dec (c.seq = c'.seq) && (dec (c.key = c'.key) && (dec (c.val = c'.val) && (dec (c.old = c'.old) && (dec (c.node = c'.node) && true))))))) :=
  feq_int (k := .i64) (bytes := 8) (zero := .int .i64 0) (sz := 1) (nm := "Kind") (ft := 3) (off := 0) (em := false) (tg := "") (pk := "") (bo := 0) rfl rfl rfl
    (feq_int (k := .i64) (bytes := 8) (zero := .int .i64 0) (sz := 1) (nm := "Client") (ft := 3) (off := 1) (em := false) (tg := "") (pk := "") (bo := 8) rfl rfl rfl
    (feq_int (k := .i64) (bytes := 8) (zero := .int .i64 0) (sz := 1) (nm := "Seq") (ft := 3) (off := 2) (em := false) (tg := "") (pk := "") (bo := 16) rfl rfl rfl
    (feq_str (bytes := 16) (zero := .string ByteArray.empty) (sz := 1) (nm := "Key") (ft := 9) (off := 3) (em := false) (tg := "") (pk := "") (bo := 24) rfl rfl rfl
    (feq_str (bytes := 16) (zero := .string ByteArray.empty) (sz := 1) (nm := "Val") (ft := 9) (off := 4) (em := false) (tg := "") (pk := "") (bo := 40) rfl rfl rfl
    (feq_str (bytes := 16) (zero := .string ByteArray.empty) (sz := 1) (nm := "Old") (ft := 9) (off := 5) (em := false) (tg := "") (pk := "") (bo := 56) rfl rfl rfl
    (feq_int (k := .i64) (bytes := 8) (zero := .int .i64 0) (sz := 1) (nm := "Node") (ft := 3) (off := 6) (em := false) (tg := "") (pk := "") (bo := 72) rfl rfl rfl feq_nil))))))
theorem ent_feq (x y : Ent) : ∃ b, FEq Tryd.prog 9999 x.cells y.cells [⟨"Index", 3, 0, false, "", "", 0⟩, ⟨"Ballot", 25, 1, false, "", "", 8⟩, ⟨"Cmd", 27, 3, false, "", "", 24⟩] b ∧ b = dec (x = y) := by
  refine ⟨_, feq_int (k := .i64) (bytes := 8) (zero := .int .i64 0) (sz := 1) rfl (a := x.index) (b := y.index) rfl rfl (feq_agg (bytes := 16) (zero := .agg #[.int .i64 0, .int .i64 0]) (sz := 2) (us := [.int .i64 x.round, .int .i64 x.node]) (vs := [.int .i64 y.round, .int .i64 y.node]) rfl rfl rfl
    (feq_int (k := .i64) (bytes := 8) (zero := .int .i64 0) (sz := 1) (a := x.round) (b := y.round) rfl rfl rfl (feq_int (k := .i64) (bytes := 8) (zero := .int .i64 0) (sz := 1) (a := x.node) (b := y.node) rfl rfl rfl feq_nil))
    (feq_agg (bytes := 80) (zero := .agg #[.int .i64 0, .int .i64 0, .int .i64 0, .string ByteArray.empty, .string ByteArray.empty, .string ByteArray.empty, .int .i64 0]) (sz := 7) (us := x.cmd.cells) (vs := y.cmd.cells) rfl rfl rfl (cm_feqD 9997 x.cmd y.cmd) feq_nil)), ?_⟩
  rw [cm_dec]
  obtain ⟨a1, a2, a3, a4⟩ := x
  obtain ⟨b1, b2, b3, b4⟩ := y
  rw [Bool.eq_iff_iff]
  simp [dec_true, and_assoc]
theorem neEnt {σ : Env} {ty t' : TypeId} {a b : Operand} {x y : Ent} (hx : Env.ev σ a = some (.agg x.cells.toArray)) (hy : Env.ev σ b = some (.agg y.cells.toArray)) : PureOp Tryd.prog (.binOp .neq 50 a b t') ty σ (.bool (!dec (x = y))) := by
  obtain ⟨q, hq, rfl⟩ := ent_feq x y
  exact p_neStruct (P := Tryd.prog) (ty := ty) (t := 50) (t' := t') hx hy hq
noncomputable instance (l : List Ent) : Decidable (RiseL l) := Classical.propDecidable _
theorem entSame_s {G : GH} {a b : List Ent} {av bv : Value} (ha : Es G av a) (hb : Es G bv b) : Con Tryd.prog 44 #[av, bv] G [] (Just (.bool (decide (a = b))) G) := by
  obtain ⟨A, c, rfl, hlc, hcm, hsome, hcp, hcb, hcc, hok⟩ := esOpen ha
  obtain ⟨A', c', rfl, hlc', hcm', hsome', hcp', hcb', hcc', hok'⟩ := esOpen hb
  clear hcb hcc hok hcb' hcc' hok'
  simp only [maxLen] at hcm hcm'
  apply Con.just
  refine v_enter Tryd.func44 rfl Tryd.ntmps44 rfl (fun B => ?_)
  repeat' (first | apply v_seq | apply v_region | apply v_nil | apply v_skip | apply v_block | (apply v_pure; (case hop => first | (apply p_move <;> rfl) | (apply p_ne <;> rfl) | (apply p_assign <;> rfl) | (apply p_lenSlice <;> rfl) | fail); (case hd => rfl)) | (apply v_cond; (case hc => rfl); all_goals (intro h; (try simp only [reduceCtorEq, dec_true, dec_false, decide_eq_true_eq, decide_eq_false_iff_not, Bool.not_eq_true', Bool.not_eq_false', Option.isNone_iff_eq_none, beq_true, beq_false, beq_iff_eq, beq_eq_false_iff_ne, ne_eq, decide_eq_decide, Bool.not_eq_true, Bool.not_eq_false, Decidable.not_not] at h); first | skip)) | fail)
  · refine v_ret [] (outsA1 rfl rfl) (by repeat (first | exact List.Sublist.refl _ | fail)) ?_
    refine ⟨?_, rfl⟩
    rw [decide_eq_false]
    intro e
    subst e
    omega
  have hab : a.length = b.length := by omega
  refine v_loop [5, 0, 1] (fun us G' μ' => G' = G ∧ μ' = [] ∧ ∃ k, k ≤ a.length ∧ us = [Value.int .i64 (k : Nat), .slice A a.length c, .slice A' b.length c'] ∧ ∀ i (h : i < a.length) (h' : i < b.length), i < k → a[i] = b[i]) (fun us => a.length - (headI us).toNat) rfl ⟨rfl, rfl, 0, by omega, rfl, by omega⟩ ?_
  rintro us G' μ' ⟨rfl, rfl, k, hk, rfl, hno⟩
  repeat' (first | apply v_seq | apply v_region | apply v_nil | apply v_skip | apply v_block | (apply v_exit; (case hp => rfl)) | (apply v_pure; (case hop => first | (apply p_move <;> rfl) | (apply p_lt <;> rfl) | (apply p_assign <;> rfl) | (apply p_lenSlice <;> rfl) | fail); (case hd => rfl)) | (apply v_cond; (case hc => rfl); all_goals (intro h; (try simp only [reduceCtorEq, dec_true, dec_false, decide_eq_true_eq, decide_eq_false_iff_not, Bool.not_eq_true', Bool.not_eq_false', Option.isNone_iff_eq_none, beq_true, beq_false, beq_iff_eq, beq_eq_false_iff_ne, ne_eq, decide_eq_decide, Bool.not_eq_true, Bool.not_eq_false, Decidable.not_not] at h); first | skip)) | fail)
  · have hlt : k < a.length := by omega
    refine d_start [] (by kernel_rfl) (by kernel_rfl) (by intro e he; first | exact he | fail) ?_
    all_goals (first | (apply d_take 0; (case hi => rfl); (case hop => first | (apply PureOp.read; apply p_move <;> rfl)); (case hf => kernel_rfl); (case hr => kernel_rfl); (case hd => rfl)) | fail)
    all_goals (first | (apply d_take 1; (case hi => rfl); (case hop => first | (apply PureOp.read; apply p_move <;> rfl)); (case hf => kernel_rfl); (case hr => kernel_rfl); (case hd => rfl)) | fail)
    all_goals (first | (apply d_take 2; (case hi => rfl); (case hop => first | (apply PureOp.read; apply p_indexAddrS; (case hx => rfl); (case hi => rfl); (case h0 => omega); (case h => omega); (case hA => first | (apply_assumption; omega)))); (case hf => kernel_rfl); (case hr => kernel_rfl); (case hd => rfl)) | fail)
    all_goals (first | (apply d_take 3; (case hi => rfl); (case hop => first | ((apply r_loadN; rfl; exact CellsAt.frozen (hcp _ (by omega)); rfl)) | fail); (case hf => kernel_rfl); (case hr => kernel_rfl); (case hd => rfl)) | fail)
    all_goals (first | (apply d_take 4; (case hi => rfl); (case hop => first | (apply PureOp.read; apply p_move <;> rfl)); (case hf => kernel_rfl); (case hr => kernel_rfl); (case hd => rfl)) | fail)
    all_goals (first | (apply d_take 5; (case hi => rfl); (case hop => first | (apply PureOp.read; apply p_move <;> rfl)); (case hf => kernel_rfl); (case hr => kernel_rfl); (case hd => rfl)) | fail)
    all_goals (first | (apply d_take 6; (case hi => rfl); (case hop => first | (apply PureOp.read; apply p_indexAddrS; (case hx => rfl); (case hi => rfl); (case h0 => omega); (case h => omega); (case hA => first | (apply_assumption; omega)))); (case hf => kernel_rfl); (case hr => kernel_rfl); (case hd => rfl)) | fail)
    all_goals (first | (apply d_take 7; (case hi => rfl); (case hop => first | ((apply r_loadN; rfl; exact CellsAt.frozen (hcp' _ (by omega)); rfl)) | fail); (case hf => kernel_rfl); (case hr => kernel_rfl); (case hd => rfl)) | fail)
    all_goals (first | (apply d_take 8; (case hi => rfl); (case hop => first | ((apply PureOp.read; apply neEnt (x := a[k]'(by omega)) (y := b[k]'(by omega)); (case hx => rfl); (case hy => rfl))) | fail); (case hf => kernel_rfl); (case hr => kernel_rfl); (case hd => rfl)) | fail)
    all_goals (apply d_done; (case hr => kernel_rfl))
    repeat' (first | apply v_seq | apply v_region | apply v_nil | apply v_skip | apply v_blk | (apply v_pure; (case hop => first | (apply p_move <;> rfl) | (apply p_assign <;> rfl) | (apply p_add; (case hx => rfl); (case hy => rfl); (case h => omega)) | fail); (case hd => rfl)) | (apply v_cond; (case hc => rfl); all_goals (intro h; (try simp only [reduceCtorEq, dec_true, dec_false, decide_eq_true_eq, decide_eq_false_iff_not, Bool.not_eq_true', Bool.not_eq_false', Option.isNone_iff_eq_none, beq_true, beq_false, beq_iff_eq, beq_eq_false_iff_ne, ne_eq, decide_eq_decide, Bool.not_eq_true, Bool.not_eq_false, Decidable.not_not] at h); first | skip)) | fail)
    · refine v_ret [] (outsA1 rfl rfl) (by repeat (first | exact List.Sublist.refl _ | fail)) ?_
      refine ⟨?_, rfl⟩
      rw [decide_eq_false]
      intro e
      subst e
      contradiction
    · refine v_again rfl ⟨rfl, rfl, k + 1, by omega, rfl, fun i h h' hi => ?_⟩ (by simp [headI]; omega)
      by_cases hik : i = k
      · subst hik; assumption
      · exact hno i h h' (by omega)
  · refine v_ret [] (outsA1 rfl rfl) (by repeat (first | exact List.Sublist.refl _ | fail)) ?_
    refine ⟨?_, rfl⟩
    rw [decide_eq_true]
    exact List.ext_getElem hab fun i h h' => hno i h h' (by omega)
/-! ### What is found -/
theorem placeN_at {l : List Ent} (hr : RiseL l) {i : Nat} (hi : i < l.length) : placeN l l[i].index = i := by
  refine placeN_eq (by omega) (fun m h hm => hr m i hi hm) (fun m h hm => ?_)
  by_cases he : m = i
  · subst he; omega
  · have := hr i m h (by omega)
    omega
theorem hitB_at {l : List Ent} (hr : RiseL l) {i : Nat} (hi : i < l.length) : hitB l l[i].index = true := by
  unfold hitB
  simp only [placeN_at hr hi]
  rw [dif_pos hi]
  simp
theorem hitB_index {l : List Ent} {n : Int} (h : hitB l n = true) : (l[placeN l n]'(hitB_lt h)).index = n := by
  have hl := hitB_lt h
  unfold hitB at h
  rw [dif_pos hl] at h
  exact of_decide_eq_true h
theorem refEntFind_s {G : GH} {l : List Ent} {sv : Value} (n : Int) (hs : Es G sv l) (hr : RiseL l) : Con Tryd.prog 25 #[sv, .int .i64 n] G [] (Just (.int .i64 (if hitB l n = true then (placeN l n : Nat) else -1)) G) := by
  obtain ⟨A, c, rfl, hlc, hcm, hsome, hcp, hcb, hcc, hok⟩ := esOpen hs
  simp only [maxLen] at hcm
  apply Con.just
  refine v_enter Tryd.func25 rfl Tryd.ntmps25 rfl (fun B => ?_)
  repeat' (first | apply v_seq | apply v_region | apply v_nil | apply v_block | (apply v_pure; (case hop => first | (apply p_assign <;> rfl) | fail); (case hd => rfl)) | fail)
  refine v_loop [5, 0, 1] (fun us G' μ' => G' = G ∧ μ' = [] ∧ ∃ k, k ≤ l.length ∧ us = [Value.int .i64 (k : Nat), .slice A l.length c, .int .i64 n] ∧ ∀ i (h : i < l.length), i < k → l[i].index ≠ n) (fun us => l.length - (headI us).toNat) rfl ⟨rfl, rfl, 0, by omega, rfl, by omega⟩ ?_
  rintro us G' μ' ⟨rfl, rfl, k, hk, rfl, hno⟩
  have e1 : ((k : Nat) : Int).toNat = k := by omega
  repeat' (first | apply v_seq | apply v_region | apply v_nil | apply v_skip | apply v_block | apply v_blk | (apply v_exit; (case hp => rfl)) | (apply v_pure; (case hop => first | (apply p_move <;> rfl) | (apply p_eq <;> rfl) | (apply p_lt <;> rfl) | (apply p_assign <;> rfl) | (apply p_lenSlice <;> rfl) | (apply p_fieldAddr <;> rfl) | (apply p_add; (case hx => rfl); (case hy => rfl); (case h => omega)) | (apply p_indexAddrS; (case hx => rfl); (case hi => rfl); (case h0 => omega); (case h => omega); (case hA => first | (apply_assumption; omega))) | fail); (case hd => rfl)) | (apply v_cond; (case hc => rfl); all_goals (intro h; (try simp only [reduceCtorEq, dec_true, dec_false, decide_eq_true_eq, decide_eq_false_iff_not, Bool.not_eq_true', Bool.not_eq_false', Option.isNone_iff_eq_none, beq_true, beq_false, beq_iff_eq, beq_eq_false_iff_ne, ne_eq, decide_eq_decide, Bool.not_eq_true, Bool.not_eq_false, Decidable.not_not] at h); first | skip)) | (apply v_read; (case hop => (apply r_load1; rfl; exact Cell.frozen (esCell hcp _ (by omega)))); (case hd => rfl)) | fail)
  · refine v_ret [] (outsA1 rfl rfl) (by repeat (first | exact List.Sublist.refl _ | fail)) ?_
    refine ⟨?_, rfl⟩
    have hlt : k < l.length := by omega
    have he : l[k].index = n := by assumption
    have h1 := hitB_at hr hlt
    have h2 := placeN_at hr hlt
    rw [he] at h1 h2
    rw [if_pos h1, h2]
  · refine v_again rfl ⟨rfl, rfl, k + 1, by omega, rfl, fun i h hi => ?_⟩ (by simp [headI]; omega)
    by_cases hik : i = k
    · subst hik; assumption
    · exact hno i h (by omega)
  · refine v_ret [] (outsA1 rfl rfl) (by repeat (first | exact List.Sublist.refl _ | fail)) ?_
    refine ⟨?_, rfl⟩
    rw [if_neg]
    intro h
    exact hno _ (hitB_lt h) (by have := hitB_lt h; omega) (hitB_index h)
/-- What Find gives back. -/
def zeroE : Ent := ⟨0, 0, 0, zeroCm⟩
noncomputable def findE (l : List Ent) (n : Int) : Ent := if h : hitB l n = true then l[placeN l n]'(hitB_lt h) else zeroE
theorem find_s {G : GH} {l : List Ent} {sv : Value} (n : Int) (hs : Es G sv l) (hr : RiseL l) : Con Tryd.prog 144 #[sv, .int .i64 n] G [] (Just (.tuple [.agg (findE l n).cells.toArray, .bool (hitB l n)].toArray) G) := by
  have qp := place_s n hs hr
  obtain ⟨A, c, rfl, hlc, hcm, hsome, hcp, hcb, hcc, hok⟩ := esOpen hs
  simp only [maxLen] at hcm
  apply Con.just
  refine v_enter Tryd.func144 rfl Tryd.ntmps144 rfl (fun B => ?_)
  cases hh : hitB l n
  · rw [hh] at qp
    repeat' (first | apply v_seq | apply v_region | apply v_nil | (apply v_pure; (case hop => first | (apply p_move <;> rfl) | (apply p_assign <;> rfl) | (apply p_not <;> rfl) | (apply p_extract0 <;> rfl) | (apply p_extract1 <;> rfl) | (apply p_build; (case hz => rfl); (case hv => (simp only [List.map_cons, List.map_nil]; repeat (first | with_reducible exact evs_nil | fail))); (case hb => (apply bldL; repeat (first | exact bld_nil | fail))))); (case hd => rfl)) | (apply v_condT; (case hc => rfl)) | (apply v_callJ (hs := qp); (case ha => rfl); (case hd => rfl)) | (apply v_alloc; (case hz => rfl); (case hd => rfl); intro b) | (apply v_store; (case hp => rfl); (case hx => rfl); (case hc => rfl); (case hsz => rfl); (case h1 => rfl); (case hb => (repeat (first | exact List.Mem.head _ | fail))); (case hfit => first | exact Nat.le_of_ble_eq_true rfl | fail); (case hov => (first | ((repeat (first | with_reducible exact ov_nil | apply ov_cons | fail)); done) | fail)); (case hu => repeat (first | exact Upd.here _ _ | fail))) | fail)
    refine v_retM [] (outsM_cell_tmp (vs := zeroE.cells) (e := 50) rfl rfl rfl ?_ ?_) (by repeat (first | exact List.nil_sublist _ | fail)) ?_
    · exact List.Mem.head _
    · rfl
    · exact ⟨by rw [findE, dif_neg (by rw [hh]; decide)], rfl⟩
  · rw [hh] at qp
    have hlt := hitB_lt hh
    repeat' (first | apply v_seq | apply v_region | apply v_nil | apply v_skip | (apply v_pure; (case hop => first | (apply p_move <;> rfl) | (apply p_assign <;> rfl) | (apply p_not <;> rfl) | (apply p_extract0 <;> rfl) | (apply p_extract1 <;> rfl) | (apply p_indexAddrS; (case hx => rfl); (case hi => rfl); (case h0 => omega); (case h => omega); (case hA => first | (apply_assumption; omega))) | fail); (case hd => rfl)) | (apply v_condF; (case hc => rfl)) | (apply v_callJ (hs := qp); (case ha => rfl); (case hd => rfl)) | (apply v_read; (case hop => (apply r_loadN; rfl; exact CellsAt.frozen (hcp _ (by omega)); rfl)); (case hd => rfl)) | (apply v_alloc; (case hz => rfl); (case hd => rfl); intro b) | (apply v_store; (case hp => rfl); (case hx => rfl); (case hc => rfl); (case hsz => rfl); (case h1 => rfl); (case hb => (repeat (first | exact List.Mem.head _ | fail))); (case hfit => first | exact Nat.le_of_ble_eq_true rfl | fail); (case hov => (first | ((repeat (first | with_reducible exact ov_nil | apply ov_cons | fail)); done) | fail)); (case hu => repeat (first | exact Upd.here _ _ | fail))) | fail)
    refine v_retM [] (outsM_cell_tmp (vs := (l[placeN l n]'hlt).cells) (e := 50) rfl rfl rfl ?_ ?_) (by repeat (first | exact List.nil_sublist _ | fail)) ?_
    · exact List.Mem.head _
    · rfl
    · exact ⟨by rw [findE, dif_pos hh], rfl⟩
/-- Large says no only of forty entries at most. -/
def LargeB (n : Nat) (G : GH) (r : Value) (G' : GH) (μ' : OH) : Prop := G' = G ∧ μ' = [] ∧ ∃ b, r = .bool b ∧ (b = false → n ≤ 40)
theorem entLargeB_s {G : GH} {l : List Ent} {sv : Value} (hs : Es G sv l) : Con Tryd.prog 35 #[sv] G [] (LargeB l.length G) := by
  obtain ⟨A, c, rfl, hlc, hcm, hsome, hcp, hcb, hcc, hok⟩ := esOpen hs
  simp only [maxLen] at hcm
  have hz := fun i (h : i < l.length) => (hok i h).2.2.2
  simp only [Cm.ok, maxLen] at hz
  refine v_enter Tryd.func35 rfl Tryd.ntmps35 rfl (fun B => ?_)
  repeat' (first | apply v_seq | apply v_region | apply v_nil | apply v_block | (apply v_pure; (case hop => first | (apply p_assign <;> rfl) | fail); (case hd => rfl)) | fail)
  refine v_loop [3, 0] (fun us G' μ' => G' = G ∧ μ' = [] ∧ ∃ k, k ≤ l.length ∧ us = [Value.int .i64 (k : Nat), .slice A l.length c]) (fun us => l.length - (headI us).toNat) rfl ⟨rfl, rfl, 0, by omega, rfl⟩ ?_
  rintro us G' μ' ⟨rfl, rfl, k, hk, rfl⟩
  have e1 : ((k : Nat) : Int).toNat = k := by omega
  repeat' (first | apply v_seq | apply v_region | apply v_nil | apply v_skip | apply v_block | apply v_blk | (apply v_exit; (case hp => rfl)) | (apply v_take; (case hg => rfl)) | (apply v_pass; (case hg => rfl); (case hn => rfl); (case hd => rfl)) | (apply v_pure; (case hop => first | (apply p_move <;> rfl) | (apply p_lt <;> rfl) | (apply p_gt <;> rfl) | (apply p_assign <;> rfl) | (apply p_pickT <;> rfl) | (apply p_pickF <;> rfl) | (apply p_lenSlice <;> rfl) | (apply p_fieldAddrB <;> rfl) | (apply p_fieldAddr <;> rfl) | (apply p_add; (case hx => rfl); (case hy => rfl); (case h => omega)) | (apply p_indexAddrS; (case hx => rfl); (case hi => rfl); (case h0 => omega); (case h => omega); (case hA => first | (apply_assumption; omega))) | (apply p_lenString <;> rfl) | fail); (case hd => rfl)) | (apply v_condT; (case hc => rfl)) | (apply v_condF; (case hc => rfl)) | (apply v_cond; (case hc => rfl); all_goals (intro h; (try simp only [reduceCtorEq, dec_true, dec_false, decide_eq_true_eq, decide_eq_false_iff_not, Bool.not_eq_true', Bool.not_eq_false', Option.isNone_iff_eq_none, beq_true, beq_false, beq_iff_eq, beq_eq_false_iff_ne, ne_eq, decide_eq_decide, Bool.not_eq_true, Bool.not_eq_false, Decidable.not_not] at h); first | skip)) | (apply v_guardB; (case h1 => rfl); (case h2 => rfl); all_goals (intro h; (try simp only [reduceCtorEq, dec_true, dec_false, decide_eq_true_eq, decide_eq_false_iff_not, Bool.not_eq_true', Bool.not_eq_false', Option.isNone_iff_eq_none, beq_true, beq_false, beq_iff_eq, beq_eq_false_iff_ne, ne_eq, decide_eq_decide, Bool.not_eq_true, Bool.not_eq_false, Decidable.not_not] at h); first | skip)) | (apply v_read; (case hop => first | (apply r_load1; rfl; exact Cell.frozen (cmCell hcc _ (by omega) 3 _ rfl)) | (apply r_load1; rfl; exact Cell.frozen (cmCell hcc _ (by omega) 4 _ rfl)) | (apply r_load1; rfl; exact Cell.frozen (cmCell hcc _ (by omega) 5 _ rfl))); (case hd => rfl)) | fail)
  all_goals first
    | (refine v_ret [] (outsA1 rfl rfl) (by repeat (first | exact List.Sublist.refl _ | fail)) ?_
       refine ⟨rfl, rfl, _, rfl, fun h => ?_⟩
       first | (cases h; done) | (have := dec_false.1 h; omega))
    | (refine v_again rfl ⟨rfl, rfl, k + 1, by omega, rfl⟩ (by simp [headI]; omega))
end Go.Proofs.YtnoiahlpmgbhfaaDoor
/-
  entry (layer 12): what lies from an index on; places.
-/
set_option linter.unusedSimpArgs false
set_option linter.unusedVariables false
namespace Go.Proofs.YtnoiahlpmgbhfaaDoor
open Go.Vx Go.ChangeShapes Go.WideShapes Go.ChangeAt Go.RowKit
theorem rise_of_step {l : List Ent} (h : ∀ i (hi : i < l.length), 0 < i → (l[i - 1]'(by omega)).index < l[i].index) : RiseL l := by
  intro i j hj hij
  induction j with
  | zero => omega
  | succ j ih =>
    have h1 := h (j + 1) hj (by omega)
    simp only [Nat.add_sub_cancel] at h1
    by_cases he : i = j
    · subst he; exact h1
    · have := ih (by omega) (by omega)
      omega
theorem es_drop {G : GH} {A : Option Addr} {c p : Nat} {l : List Ent} (hs : Es G (.slice A l.length c) l) (hp : p ≤ l.length) : Es G (.slice (if c = p then A else A.map (·.add (p * 10))) (l.length - p) (c - p)) (l.drop p) := by
  obtain ⟨A', c', he, h1, h2, h3⟩ := hs
  cases he
  refine ⟨_, _, by rw [List.length_drop], by rw [List.length_drop]; omega, by omega, fun h0 => ?_⟩
  rw [List.length_drop] at h0
  obtain ⟨a, rfl, h4⟩ := h3 (by omega)
  refine ⟨a.add (p * 10), by rw [if_neg (by omega)]; rfl, fun i x hx => ?_⟩
  rw [List.getElem?_drop] at hx
  obtain ⟨cs, q1, q2, q3⟩ := h4 (p + i) x hx
  refine ⟨cs, q1, q2, ?_⟩
  rw [adr_add, ← Nat.add_mul]
  exact q3
/-- A run of entries, of ours. -/
def Mine (l : List Ent) (G : GH) (r : Value) (G' : GH) (μ' : OH) : Prop := G' = G ∧ Grow 50 10 r l.length (esC l) μ'
theorem from_s {G : GH} {l : List Ent} {sv : Value} (n : Int) (hs : Es G sv l) (hr : RiseL l) (hn : l.length ≤ 200) : Con Tryd.prog 145 #[sv, .int .i64 n] G [] (Mine (l.drop (placeN l n)) G) := by
  have qp := place_s n hs hr
  have hp := placeN_le l n
  obtain ⟨A, c, rfl, hlc, hcm, -⟩ := esOpen hs
  simp only [maxLen] at hcm
  have qc := entClone_s (es_drop hs hp) (by rw [List.length_drop]; omega)
  refine v_enter Tryd.func145 rfl Tryd.ntmps145 rfl (fun B => ?_)
  repeat' (first | apply v_seq | apply v_region | apply v_nil | (apply v_pure; (case hop => first | (apply p_move <;> rfl) | (apply p_assign <;> rfl) | (apply p_extract0 <;> rfl) | (apply p_extract1 <;> rfl) | (apply p_sliceL; (case hx => rfl); (case hl => rfl); all_goals omega) | fail); (case hd => rfl)) | (apply v_callJ (hs := qp); (case ha => rfl); (case hd => rfl)) | fail)
  refine v_call (μ1 := []) (μ2 := _) rfl qc (List.Perm.refl _) rfl ?_
  rintro r G' μ1 _ ⟨rfl, hg⟩
  repeat' (first | apply v_nil | (apply v_pure; (case hop => first | (apply p_assign <;> rfl) | fail); (case hd => rfl)) | fail)
  refine v_ret _ (outsA1 rfl rfl) (by repeat (first | exact List.Sublist.refl _ | fail)) ?_
  exact ⟨rfl, by simpa using hg⟩
theorem placeN_lt {l : List Ent} (hr : RiseL l) {n : Int} {m : Nat} (hm : m < l.length) : m < placeN l n ↔ l[m].index < n := by
  constructor
  · intro h
    by_cases hc : l[m].index < n
    · exact hc
    · exfalso
      have := placeN_le l n
      have hle : placeN l n ≤ m := by
        have e : l = l.take m ++ l.drop m := (List.take_append_drop m l).symm
        have z : (l.drop m).countP (fun x => decide (x.index < n)) = 0 := by
          rw [List.countP_eq_zero]
          intro x hx
          obtain ⟨q, hq, rfl⟩ := List.getElem_of_mem hx
          rw [List.length_drop] at hq
          rw [List.getElem_drop]
          simp only [decide_eq_true_eq]
          by_cases h0 : q = 0
          · subst h0; exact hc
          · have := hr m (m + q) (by omega) (by omega)
            omega
        have z2 : placeN l n = (l.take m).countP (fun x => decide (x.index < n)) := by
          rw [placeN]
          conv => lhs; rw [e]
          rw [List.countP_append, z, Nat.add_zero]
        have z3 : (l.take m).countP (fun x => decide (x.index < n)) ≤ (l.take m).length := List.countP_le_length
        rw [List.length_take] at z3
        omega
      omega
  · intro h
    have e : l = l.take (m + 1) ++ l.drop (m + 1) := (List.take_append_drop (m + 1) l).symm
    have h1 : (l.take (m + 1)).countP (fun x => decide (x.index < n)) = m + 1 := by
      rw [List.countP_eq_length.2, List.length_take]
      · omega
      · intro x hx
        obtain ⟨q, hq, rfl⟩ := List.getElem_of_mem hx
        rw [List.length_take] at hq
        rw [List.getElem_take]
        simp only [decide_eq_true_eq]
        by_cases h0 : q = m
        · subst h0; exact h
        · have := hr q m hm (by omega)
          omega
    have h2 : placeN l n = m + 1 + (l.drop (m + 1)).countP (fun x => decide (x.index < n)) := by
      rw [placeN]
      conv => lhs; rw [e]
      rw [List.countP_append, h1]
    omega
end Go.Proofs.YtnoiahlpmgbhfaaDoor
/-
  entry (layer 12), the tenth part: With, by the reference.
-/
set_option linter.unusedSimpArgs false
set_option linter.unusedVariables false
namespace Go.Proofs.YtnoiahlpmgbhfaaDoor
open Go.Vx Go.ChangeShapes Go.WideShapes Go.ChangeAt Go.RowKit
theorem withL_hit {l : List Ent} {x : Ent} (h : hitB l x.index = true) : withL l x = l.set (placeN l x.index) x := by rw [withL, if_pos h]
theorem withL_no {l : List Ent} {x : Ent} (h : ¬ hitB l x.index = true) : withL l x = l.take (placeN l x.index) ++ x :: l.drop (placeN l x.index) := by rw [withL, if_neg h]
theorem withL_lo {l : List Ent} {x : Ent} {k : Nat} (hk : k ≤ placeN l x.index) : (withL l x).take k = l.take k := by
  have hp := placeN_le l x.index
  by_cases h : hitB l x.index = true
  · rw [withL_hit h, List.take_set, List.set_eq_of_length_le (by rw [List.length_take]; omega)]
  · rw [withL_no h, List.take_append_of_le_length (by rw [List.length_take]; omega), List.take_take, Nat.min_eq_left hk]
theorem withL_at (l : List Ent) (x : Ent) : (withL l x)[placeN l x.index]? = some x := by
  have hp := placeN_le l x.index
  by_cases h : hitB l x.index = true
  · rw [withL_hit h, List.getElem?_set_self (hitB_lt h)]
  · rw [withL_no h, List.getElem?_append_right (by rw [List.length_take]; omega), List.length_take, Nat.min_eq_left hp, Nat.sub_self]
    rfl
theorem withL_hi {l : List Ent} {x : Ent} {k : Nat} (hk : placeN l x.index < k) (h : hitB l x.index = true) : (withL l x)[k]? = l[k]? := by
  rw [withL_hit h, List.getElem?_set_ne (by omega)]
theorem withL_hi' {l : List Ent} {x : Ent} {k : Nat} (hk : placeN l x.index ≤ k) (h : ¬ hitB l x.index = true) : (withL l x)[k + 1]? = l[k]? := by
  have hp := placeN_le l x.index
  rw [withL_no h, List.getElem?_append_right (by rw [List.length_take]; omega), List.length_take, Nat.min_eq_left hp, show k + 1 - placeN l x.index = (k - placeN l x.index) + 1 by omega, List.getElem?_cons_succ, List.getElem?_drop, show placeN l x.index + (k - placeN l x.index) = k by omega]
/-- How far the copy has come: without x, and with x. -/
theorem wl_a {l : List Ent} {k : Nat} (h : k < l.length) : l.take (k + 1) = l.take k ++ [l[k]] := by rw [List.take_add_one, List.getElem?_eq_getElem h]; rfl
theorem wl_b {l : List Ent} {x : Ent} {q : Nat} (hq : placeN l x.index = q) (h : hitB l x.index = true) : (withL l x).take (q + 1) = l.take q ++ [x] := by
  subst hq
  rw [List.take_add_one, withL_lo (Nat.le_refl _), withL_at]; rfl
theorem wl_c {l : List Ent} {x : Ent} {q : Nat} (hq : placeN l x.index = q) (h : ¬ hitB l x.index = true) (hlt : q < l.length) : (withL l x).take (q + 1 + 1) = l.take q ++ [x] ++ [l[q]] := by
  subst hq
  rw [List.take_add_one, List.take_add_one, withL_lo (Nat.le_refl _), withL_at, withL_hi' (Nat.le_refl _) h, List.getElem?_eq_getElem hlt]; rfl
theorem wl_d {l : List Ent} {x : Ent} {k q : Nat} (hq : placeN l x.index = q) (hk : q < k) (hlt : k < l.length) : (withL l x).take (if hitB l x.index = true then k + 1 else k + 1 + 1) = (withL l x).take (if hitB l x.index = true then k else k + 1) ++ [l[k]] := by
  subst hq
  by_cases h : hitB l x.index = true
  · rw [if_pos h, if_pos h, List.take_add_one, withL_hi hk h, List.getElem?_eq_getElem hlt]; rfl
  · rw [if_neg h, if_neg h, List.take_add_one, withL_hi' (by omega) h, List.getElem?_eq_getElem hlt]; rfl
theorem wl_e {l : List Ent} {x : Ent} (h : placeN l x.index = l.length) : withL l x = l ++ [x] := by
  rw [withL_no (fun hh => by have := hitB_lt hh; omega), h, List.take_length, List.drop_length]
theorem grow_add {l : List Ent} {y : Ent} {v : Value} {ν : OH} (h : Grow 50 10 v (l.length + 1) (esC l ++ y.cells) ν) : Grow 50 10 v (l ++ [y]).length (esC (l ++ [y])) ν := by
  rw [esC_append, List.length_append]
  simpa [esC] using h
theorem refWith_s {G : GH} {l : List Ent} {sv : Value} (x : Ent) (hs : Es G sv l) (hr : RiseL l) (hn : l.length ≤ 200) : Con Tryd.prog 64 #[sv, .agg x.cells.toArray] G [] (Mine (withL l x) G) := by
  have hp := placeN_le l x.index
  have hpl := fun m (h : m < l.length) => placeN_lt (n := x.index) hr h
  have hwl := withL_len l x
  obtain ⟨A, c, rfl, hlc, hcm, hsome, hcp, hcb, hcc, hok⟩ := esOpen hs
  simp only [maxLen] at hcm
  obtain ⟨p, hpp⟩ : ∃ p, placeN l x.index = p := ⟨_, rfl⟩
  rw [hpp] at hp
  simp only [hpp] at hpl
  refine v_enter Tryd.func64 rfl Tryd.ntmps64 rfl (fun B => ?_)
  repeat' (first | apply v_seq | apply v_region | apply v_nil | apply v_block | (apply v_pure; (case hop => first | (apply p_assign <;> rfl) | fail); (case hd => rfl)) | (apply v_box (zs := x.cells); (case hx => rfl); (case hz => rfl); (case hd => rfl); intro bx) | fail)
  refine v_loop [7, 0, 5, 6, 3] (fun us G' μ' => G' = G ∧ ∃ (k : Nat) (out : Value) (dn : Bool) (ν : OH) (m : List Ent), k ≤ l.length ∧ us = [Value.int .i64 (k : Nat), .slice A l.length c, out, .bool dn, .pointer (some ⟨bx, 0, none⟩)] ∧ μ' = (bx, .cells x.cells.toArray 50 (0, 0)) :: ν ∧ Grow 50 10 out m.length (esC m) ν ∧ ((dn = false ∧ k ≤ p ∧ m = l.take k) ∨ (dn = true ∧ p < k ∧ m = (withL l x).take (if hitB l x.index = true then k else k + 1)))) (fun us => l.length - (headI us).toNat) rfl ⟨rfl, 0, _, false, [], [], by omega, rfl, rfl, Grow.nil _ _, .inl ⟨rfl, by omega, rfl⟩⟩ ?_
  rintro us G' μ' ⟨rfl, k, out, dn, ν, m, hk, rfl, rfl, hg, hm⟩
  have e1 : ((k : Nat) : Int).toNat = k := by omega
  have hml : m.length ≤ k + 1 := by
    rcases hm with ⟨_, _, rfl⟩ | ⟨_, _, rfl⟩
    · rw [List.length_take]; omega
    · rw [List.length_take]; split <;> omega
  rcases hm with ⟨rfl, hkp, hme⟩ | ⟨rfl, hkp, hme⟩
  · repeat' (first | apply v_seq | apply v_region | apply v_nil | apply v_skip | apply v_block | (apply v_exit; (case hp => rfl)) | (apply v_pure; (case hop => first | (apply p_move <;> rfl) | (apply p_lt <;> rfl) | (apply p_not <;> rfl) | (apply p_lenSlice <;> rfl) | fail); (case hd => rfl)) | (apply v_condT; (case hc => rfl)) | (apply v_cond; (case hc => rfl); all_goals (intro h; (try simp only [reduceCtorEq, dec_true, dec_false, decide_eq_true_eq, decide_eq_false_iff_not, Bool.not_eq_true', Bool.not_eq_false', Option.isNone_iff_eq_none, beq_true, beq_false, beq_iff_eq, beq_eq_false_iff_ne, ne_eq, decide_eq_decide, Bool.not_eq_true, Bool.not_eq_false, Decidable.not_not] at h); first | skip)) | (apply v_read; (case hop => first | (apply r_loadNo; (case hx => rfl); (case h => (repeat (first | exact List.Mem.head _ | fail))); (case hd => (repeat (first | with_reducible exact dt_nil | apply dt_here | fail))); (case hn => rfl)) | fail); (case hd => rfl)) | (apply v_buildSlice; (case hz => rfl); (case hi => rfl); (case hv => (simp only [List.map_cons, List.map_nil]; repeat (first | with_reducible exact evs_nil | (apply evs_cons; (case h1 => rfl))))); (case hp => (first | (apply pk_cons; (case hc => rfl); (case hs => rfl); (case h => (first | with_reducible exact pk_nil | fail)); (case he => (first | ((repeat (first | with_reducible exact ap_nil | apply ap_cons)); done) | fail))) | fail)); (case hb => rfl); (case hd => rfl); intro b) | fail)
    · have hlt : k < l.length := by omega
      refine d_start _ (by kernel_rfl) (by kernel_rfl) (fun _ he => he) ?_
      all_goals (first | (apply d_take 0; (case hi => rfl); (case hop => first | (apply PureOp.read; apply p_move <;> rfl)); (case hf => kernel_rfl); (case hr => kernel_rfl); (case hd => rfl)) | fail)
      all_goals (first | (apply d_take 1; (case hi => rfl); (case hop => first | (apply PureOp.read; apply p_not <;> rfl)); (case hf => kernel_rfl); (case hr => kernel_rfl); (case hd => rfl)) | fail)
      all_goals (first | (apply d_take 2; (case hi => rfl); (case hop => first | (apply PureOp.read; apply p_move <;> rfl)); (case hf => kernel_rfl); (case hr => kernel_rfl); (case hd => rfl)) | fail)
      all_goals (try (apply d_guardB 3; (case hi => rfl); (case hgd => rfl); (case h1 => rfl); (case h2 => first | rfl); all_goals (intro h; (try simp only [reduceCtorEq, dec_true, dec_false, decide_eq_true_eq, decide_eq_false_iff_not, Bool.not_eq_true', Bool.not_eq_false', Option.isNone_iff_eq_none, beq_true, beq_false, beq_iff_eq, beq_eq_false_iff_ne, ne_eq, decide_eq_decide, Bool.not_eq_true, Bool.not_eq_false, Decidable.not_not] at h); first | done | skip)))
      all_goals (first | (apply d_takeG 3; (case hi => rfl); (case hg => rfl); (case hop => first | (apply PureOp.read; apply p_move <;> rfl)); (case hf => kernel_rfl); (case hr => kernel_rfl); (case hd => rfl)) | fail)
      all_goals (try (apply d_guardB 4; (case hi => rfl); (case hgd => rfl); (case h1 => rfl); (case h2 => first | rfl); all_goals (intro h; (try simp only [reduceCtorEq, dec_true, dec_false, decide_eq_true_eq, decide_eq_false_iff_not, Bool.not_eq_true', Bool.not_eq_false', Option.isNone_iff_eq_none, beq_true, beq_false, beq_iff_eq, beq_eq_false_iff_ne, ne_eq, decide_eq_decide, Bool.not_eq_true, Bool.not_eq_false, Decidable.not_not] at h); first | done | skip)))
      all_goals (first | (apply d_takeG 4; (case hi => rfl); (case hg => rfl); (case hop => first | (apply PureOp.read; apply p_move <;> rfl)); (case hf => kernel_rfl); (case hr => kernel_rfl); (case hd => rfl)) | fail)
      all_goals (try (apply d_guardB 5; (case hi => rfl); (case hgd => rfl); (case h1 => rfl); (case h2 => first | rfl); all_goals (intro h; (try simp only [reduceCtorEq, dec_true, dec_false, decide_eq_true_eq, decide_eq_false_iff_not, Bool.not_eq_true', Bool.not_eq_false', Option.isNone_iff_eq_none, beq_true, beq_false, beq_iff_eq, beq_eq_false_iff_ne, ne_eq, decide_eq_decide, Bool.not_eq_true, Bool.not_eq_false, Decidable.not_not] at h); first | done | skip)))
      all_goals (first | (apply d_takeG 5; (case hi => rfl); (case hg => rfl); (case hop => first | (apply PureOp.read; apply p_indexAddrS; (case hx => rfl); (case hi => rfl); (case h0 => omega); (case h => omega); (case hA => first | (apply_assumption; omega)))); (case hf => kernel_rfl); (case hr => kernel_rfl); (case hd => rfl)) | fail)
      all_goals (try (apply d_guardB 6; (case hi => rfl); (case hgd => rfl); (case h1 => rfl); (case h2 => first | rfl); all_goals (intro h; (try simp only [reduceCtorEq, dec_true, dec_false, decide_eq_true_eq, decide_eq_false_iff_not, Bool.not_eq_true', Bool.not_eq_false', Option.isNone_iff_eq_none, beq_true, beq_false, beq_iff_eq, beq_eq_false_iff_ne, ne_eq, decide_eq_decide, Bool.not_eq_true, Bool.not_eq_false, Decidable.not_not] at h); first | done | skip)))
      all_goals (first | (apply d_takeG 6; (case hi => rfl); (case hg => rfl); (case hop => first | (apply PureOp.read; apply p_fieldAddr <;> rfl)); (case hf => kernel_rfl); (case hr => kernel_rfl); (case hd => rfl)) | fail)
      all_goals (try (apply d_guardB 7; (case hi => rfl); (case hgd => rfl); (case h1 => rfl); (case h2 => first | rfl); all_goals (intro h; (try simp only [reduceCtorEq, dec_true, dec_false, decide_eq_true_eq, decide_eq_false_iff_not, Bool.not_eq_true', Bool.not_eq_false', Option.isNone_iff_eq_none, beq_true, beq_false, beq_iff_eq, beq_eq_false_iff_ne, ne_eq, decide_eq_decide, Bool.not_eq_true, Bool.not_eq_false, Decidable.not_not] at h); first | done | skip)))
      all_goals (first | (apply d_takeG 7; (case hi => rfl); (case hg => rfl); (case hop => first | ((apply r_load1; rfl; exact Cell.frozen (esCell hcp _ (by omega)))) | fail); (case hf => kernel_rfl); (case hr => kernel_rfl); (case hd => rfl)) | fail)
      all_goals (try (apply d_guardB 8; (case hi => rfl); (case hgd => rfl); (case h1 => rfl); (case h2 => first | rfl); all_goals (intro h; (try simp only [reduceCtorEq, dec_true, dec_false, decide_eq_true_eq, decide_eq_false_iff_not, Bool.not_eq_true', Bool.not_eq_false', Option.isNone_iff_eq_none, beq_true, beq_false, beq_iff_eq, beq_eq_false_iff_ne, ne_eq, decide_eq_decide, Bool.not_eq_true, Bool.not_eq_false, Decidable.not_not] at h); first | done | skip)))
      all_goals (first | (apply d_takeG 8; (case hi => rfl); (case hg => rfl); (case hop => first | (apply PureOp.read; apply p_fieldAddrB <;> rfl) | fail); (case hf => kernel_rfl); (case hr => kernel_rfl); (case hd => rfl)) | fail)
      all_goals (try (apply d_guardB 9; (case hi => rfl); (case hgd => rfl); (case h1 => rfl); (case h2 => first | rfl); all_goals (intro h; (try simp only [reduceCtorEq, dec_true, dec_false, decide_eq_true_eq, decide_eq_false_iff_not, Bool.not_eq_true', Bool.not_eq_false', Option.isNone_iff_eq_none, beq_true, beq_false, beq_iff_eq, beq_eq_false_iff_ne, ne_eq, decide_eq_decide, Bool.not_eq_true, Bool.not_eq_false, Decidable.not_not] at h); first | done | skip)))
      all_goals (first | (apply d_takeG 9; (case hi => rfl); (case hg => rfl); (case hop => first | (apply r_load1; rfl; (apply Cell.own; (case h => (repeat (first | exact List.Mem.head _ | fail))); rfl)) | fail); (case hf => kernel_rfl); (case hr => kernel_rfl); (case hd => rfl)) | fail)
      all_goals (try (apply d_guardB 10; (case hi => rfl); (case hgd => rfl); (case h1 => rfl); (case h2 => first | rfl); all_goals (intro h; (try simp only [reduceCtorEq, dec_true, dec_false, decide_eq_true_eq, decide_eq_false_iff_not, Bool.not_eq_true', Bool.not_eq_false', Option.isNone_iff_eq_none, beq_true, beq_false, beq_iff_eq, beq_eq_false_iff_ne, ne_eq, decide_eq_decide, Bool.not_eq_true, Bool.not_eq_false, Decidable.not_not] at h); first | done | skip)))
      all_goals (first | (apply d_takeG 10; (case hi => rfl); (case hg => rfl); (case hop => first | (apply PureOp.read; apply p_ge <;> rfl)); (case hf => kernel_rfl); (case hr => kernel_rfl); (case hd => rfl)) | fail)
      all_goals (first | (apply d_take 11; (case hi => rfl); (case hop => first | (apply PureOp.read; apply p_pickT <;> rfl) | fail); (case hf => kernel_rfl); (case hr => kernel_rfl); (case hd => rfl)) | fail)
      all_goals (apply d_done; (case hr => kernel_rfl))
      repeat' (first | apply v_seq | apply v_region | apply v_skip | (apply v_pure; (case hop => first | (apply p_move <;> rfl) | fail); (case hd => rfl)) | (apply v_cond; (case hc => rfl); all_goals (intro h; (try simp only [reduceCtorEq, dec_true, dec_false, decide_eq_true_eq, decide_eq_false_iff_not, Bool.not_eq_true', Bool.not_eq_false', Option.isNone_iff_eq_none, beq_true, beq_false, beq_iff_eq, beq_eq_false_iff_ne, ne_eq, decide_eq_decide, Bool.not_eq_true, Bool.not_eq_false, Decidable.not_not] at h); first | skip)) | (apply v_read; (case hop => first | (apply r_loadNo; (case hx => rfl); (case h => (repeat (first | exact List.Mem.head _ | fail))); (case hd => (repeat (first | with_reducible exact dt_nil | apply dt_here | fail))); (case hn => rfl)) | fail); (case hd => rfl)) | (apply v_buildSlice; (case hz => rfl); (case hi => rfl); (case hv => (simp only [List.map_cons, List.map_nil]; repeat (first | with_reducible exact evs_nil | (apply evs_cons; (case h1 => rfl))))); (case hp => (first | (apply pk_cons; (case hc => rfl); (case hs => rfl); (case h => (first | with_reducible exact pk_nil | fail)); (case he => (first | ((repeat (first | with_reducible exact ap_nil | apply ap_cons)); done) | fail))) | fail)); (case hb => rfl); (case hd => rfl); intro b) | fail)
      · have hge : ¬ l[k].index < x.index := by simp only [e1] at *; omega
        have hkp' : p = k := by
          have := mt (hpl k hlt).1 hge
          omega
        refine v_append (e := 50) (agg := true) (sz := 10) (bytes := 104) (zero := zE) rfl (by omega) rfl rfl hg (show List.Perm ((b, Obj.cells (x).cells.toArray 50 (0, 0)) :: (bx, Obj.cells (x).cells.toArray 50 (0, 0)) :: ν) _ from (List.perm_append_comm (l₁ := [(b, Obj.cells (x).cells.toArray 50 (0, 0)), (bx, Obj.cells (x).cells.toArray 50 (0, 0))]))) (m' := 1) (us := (x).cells) (Src.own (e := 50) (List.Mem.head _) rfl) rfl (by omega) (by simp only [maxLen]; omega) rfl fun v1 ν1 hg1 => ?_
        refine v_perm (show List.Perm (ν1 ++ [(b, Obj.cells (x).cells.toArray 50 (0, 0)), (bx, Obj.cells (x).cells.toArray 50 (0, 0))]) (((bx, Obj.cells (x).cells.toArray 50 (0, 0)) :: ν1) ++ [(b, Obj.cells (x).cells.toArray 50 (0, 0))]) from (by apply perm_of_count; intro p; simp only [List.countP_append, List.countP_cons, List.countP_nil, Nat.zero_add, Nat.add_zero]; try ac_rfl)) ?_
        refine v_drop (ν := (bx, Obj.cells (x).cells.toArray 50 (0, 0)) :: ν1) (List.sublist_append_left _ _) ?_
        subst hme
        have hg2 := grow_add hg1
        have hl2 : (l.take k ++ [x]).length ≤ k + 1 := by rw [List.length_append, List.length_take, List.length_singleton]; omega
        clear hg hg1
        generalize hm2 : l.take k ++ [x] = m2 at *
        repeat' (first | apply v_seq | apply v_region | apply v_nil | (apply v_pure; (case hop => first | (apply p_assign <;> rfl) | fail); (case hd => rfl)) | fail)
        refine d_start _ (by kernel_rfl) (by kernel_rfl) (fun _ he => he) ?_
        all_goals (first | (apply d_take 0; (case hi => rfl); (case hop => first | (apply PureOp.read; apply p_move <;> rfl)); (case hf => kernel_rfl); (case hr => kernel_rfl); (case hd => rfl)) | fail)
        all_goals (first | (apply d_take 1; (case hi => rfl); (case hop => first | (apply PureOp.read; apply p_move <;> rfl)); (case hf => kernel_rfl); (case hr => kernel_rfl); (case hd => rfl)) | fail)
        all_goals (first | (apply d_take 2; (case hi => rfl); (case hop => first | (apply PureOp.read; apply p_indexAddrS; (case hx => rfl); (case hi => rfl); (case h0 => omega); (case h => omega); (case hA => first | (apply_assumption; omega)))); (case hf => kernel_rfl); (case hr => kernel_rfl); (case hd => rfl)) | fail)
        all_goals (first | (apply d_take 3; (case hi => rfl); (case hop => first | (apply PureOp.read; apply p_fieldAddr <;> rfl)); (case hf => kernel_rfl); (case hr => kernel_rfl); (case hd => rfl)) | fail)
        all_goals (first | (apply d_take 4; (case hi => rfl); (case hop => first | ((apply r_load1; rfl; exact Cell.frozen (esCell hcp _ (by omega)))) | fail); (case hf => kernel_rfl); (case hr => kernel_rfl); (case hd => rfl)) | fail)
        all_goals (first | (apply d_take 5; (case hi => rfl); (case hop => first | (apply PureOp.read; apply p_fieldAddrB <;> rfl) | fail); (case hf => kernel_rfl); (case hr => kernel_rfl); (case hd => rfl)) | fail)
        all_goals (first | (apply d_take 6; (case hi => rfl); (case hop => first | (apply r_load1; rfl; (apply Cell.own; (case h => (repeat (first | exact List.Mem.head _ | fail))); rfl)) | fail); (case hf => kernel_rfl); (case hr => kernel_rfl); (case hd => rfl)) | fail)
        all_goals (first | (apply d_take 7; (case hi => rfl); (case hop => first | (apply PureOp.read; apply p_ne <;> rfl) | fail); (case hf => kernel_rfl); (case hr => kernel_rfl); (case hd => rfl)) | fail)
        all_goals (apply d_done; (case hr => kernel_rfl))
        repeat' (first | apply v_region | apply v_nil | apply v_skip | apply v_blk | (apply v_pure; (case hop => first | (apply p_move <;> rfl) | (apply p_assign <;> rfl) | (apply p_add; (case hx => rfl); (case hy => rfl); (case h => omega)) | (apply p_indexAddrS; (case hx => rfl); (case hi => rfl); (case h0 => omega); (case h => omega); (case hA => first | (apply_assumption; omega))) | fail); (case hd => rfl)) | (apply v_cond; (case hc => rfl); all_goals (intro h; (try simp only [reduceCtorEq, dec_true, dec_false, decide_eq_true_eq, decide_eq_false_iff_not, Bool.not_eq_true', Bool.not_eq_false', Option.isNone_iff_eq_none, beq_true, beq_false, beq_iff_eq, beq_eq_false_iff_ne, ne_eq, decide_eq_decide, Bool.not_eq_true, Bool.not_eq_false, Decidable.not_not] at h); first | skip)) | (apply v_read; (case hop => first | (apply r_loadN; rfl; exact CellsAt.frozen (hcp _ (by omega)); rfl)); (case hd => rfl)) | (apply v_buildSlice; (case hz => rfl); (case hi => rfl); (case hv => (simp only [List.map_cons, List.map_nil]; repeat (first | with_reducible exact evs_nil | (apply evs_cons; (case h1 => rfl))))); (case hp => (first | (apply pk_cons; (case hc => rfl); (case hs => rfl); (case h => (first | with_reducible exact pk_nil | fail)); (case he => (first | ((repeat (first | with_reducible exact ap_nil | apply ap_cons)); done) | fail))) | fail)); (case hb => rfl); (case hd => rfl); intro b) | fail)
        · have hne : ¬ l[k].index = x.index := by simp only [e1] at *; assumption
          have hnh : ¬ hitB l x.index = true := fun hh => by
            have h1 := hitB_index hh
            simp only [hpp, hkp'] at h1
            exact hne h1
          refine v_append (e := 50) (agg := true) (sz := 10) (bytes := 104) (zero := zE) rfl (by omega) rfl rfl hg2 (show List.Perm ((b, Obj.cells (l[k]'hlt).cells.toArray 50 (0, 0)) :: (bx, Obj.cells (x).cells.toArray 50 (0, 0)) :: ν1) _ from (List.perm_append_comm (l₁ := [(b, Obj.cells (l[k]'hlt).cells.toArray 50 (0, 0)), (bx, Obj.cells (x).cells.toArray 50 (0, 0))]))) (m' := 1) (us := (l[k]'hlt).cells) (Src.own (e := 50) (List.Mem.head _) rfl) rfl (by omega) (by simp only [maxLen]; omega) rfl fun v2 ν2 hg3 => ?_
          refine v_perm (show List.Perm (ν2 ++ [(b, Obj.cells (l[k]'hlt).cells.toArray 50 (0, 0)), (bx, Obj.cells (x).cells.toArray 50 (0, 0))]) (((bx, Obj.cells (x).cells.toArray 50 (0, 0)) :: ν2) ++ [(b, Obj.cells (l[k]'hlt).cells.toArray 50 (0, 0))]) from (by apply perm_of_count; intro p; simp only [List.countP_append, List.countP_cons, List.countP_nil, Nat.zero_add, Nat.add_zero]; try ac_rfl)) ?_
          refine v_drop (ν := (bx, Obj.cells (x).cells.toArray 50 (0, 0)) :: ν2) (List.sublist_append_left _ _) ?_
          repeat' (first | apply v_region | apply v_nil | apply v_blk | (apply v_pure; (case hop => first | (apply p_move <;> rfl) | (apply p_assign <;> rfl) | (apply p_add; (case hx => rfl); (case hy => rfl); (case h => omega)) | fail); (case hd => rfl)) | fail)
          refine v_again rfl ⟨rfl, k + 1, v2, true, ν2, m2 ++ [l[k]], by omega, rfl, rfl, grow_add hg3, .inr ⟨rfl, by omega, ?_⟩⟩ (by simp [headI]; omega)
          rw [if_neg hnh, wl_c (hpp.trans hkp') hnh hlt, hm2]
        · have he : l[k].index = x.index := by simp only [e1] at *; assumption
          have hh : hitB l x.index = true := by rw [← he]; exact hitB_at hr hlt
          refine v_again rfl ⟨rfl, k + 1, v1, true, ν1, m2, by omega, rfl, rfl, hg2, .inr ⟨rfl, by omega, ?_⟩⟩ (by simp [headI]; omega)
          rw [if_pos hh, wl_b (hpp.trans hkp') hh, hm2]
      · have hlt' : l[k].index < x.index := by simp only [e1] at *; omega
        have hkp' : k < p := (hpl k hlt).2 hlt'
        refine d_start _ (by kernel_rfl) (by kernel_rfl) (fun _ he => he) ?_
        all_goals (first | (apply d_take 0; (case hi => rfl); (case hop => first | (apply PureOp.read; apply p_move <;> rfl)); (case hf => kernel_rfl); (case hr => kernel_rfl); (case hd => rfl)) | fail)
        all_goals (first | (apply d_take 1; (case hi => rfl); (case hop => first | (apply PureOp.read; apply p_move <;> rfl)); (case hf => kernel_rfl); (case hr => kernel_rfl); (case hd => rfl)) | fail)
        all_goals (first | (apply d_take 2; (case hi => rfl); (case hop => first | (apply PureOp.read; apply p_indexAddrS; (case hx => rfl); (case hi => rfl); (case h0 => omega); (case h => omega); (case hA => first | (apply_assumption; omega)))); (case hf => kernel_rfl); (case hr => kernel_rfl); (case hd => rfl)) | fail)
        all_goals (first | (apply d_take 3; (case hi => rfl); (case hop => first | (apply PureOp.read; apply p_fieldAddr <;> rfl)); (case hf => kernel_rfl); (case hr => kernel_rfl); (case hd => rfl)) | fail)
        all_goals (first | (apply d_take 4; (case hi => rfl); (case hop => first | ((apply r_load1; rfl; exact Cell.frozen (esCell hcp _ (by omega)))) | fail); (case hf => kernel_rfl); (case hr => kernel_rfl); (case hd => rfl)) | fail)
        all_goals (first | (apply d_take 5; (case hi => rfl); (case hop => first | (apply PureOp.read; apply p_fieldAddrB <;> rfl) | fail); (case hf => kernel_rfl); (case hr => kernel_rfl); (case hd => rfl)) | fail)
        all_goals (first | (apply d_take 6; (case hi => rfl); (case hop => first | (apply r_load1; rfl; (apply Cell.own; (case h => (repeat (first | exact List.Mem.head _ | fail))); rfl)) | fail); (case hf => kernel_rfl); (case hr => kernel_rfl); (case hd => rfl)) | fail)
        all_goals (first | (apply d_take 7; (case hi => rfl); (case hop => first | (apply PureOp.read; apply p_ne <;> rfl) | fail); (case hf => kernel_rfl); (case hr => kernel_rfl); (case hd => rfl)) | fail)
        all_goals (apply d_done; (case hr => kernel_rfl))
        repeat' (first | apply v_region | (apply v_pure; (case hop => first | (apply p_move <;> rfl) | (apply p_indexAddrS; (case hx => rfl); (case hi => rfl); (case h0 => omega); (case h => omega); (case hA => first | (apply_assumption; omega))) | fail); (case hd => rfl)) | (apply v_cond; (case hc => rfl); all_goals (intro h; (try simp only [reduceCtorEq, dec_true, dec_false, decide_eq_true_eq, decide_eq_false_iff_not, Bool.not_eq_true', Bool.not_eq_false', Option.isNone_iff_eq_none, beq_true, beq_false, beq_iff_eq, beq_eq_false_iff_ne, ne_eq, decide_eq_decide, Bool.not_eq_true, Bool.not_eq_false, Decidable.not_not] at h); first | (exfalso; omega) | skip)) | (apply v_read; (case hop => first | (apply r_loadN; rfl; exact CellsAt.frozen (hcp _ (by omega)); rfl)); (case hd => rfl)) | (apply v_buildSlice; (case hz => rfl); (case hi => rfl); (case hv => (simp only [List.map_cons, List.map_nil]; repeat (first | with_reducible exact evs_nil | (apply evs_cons; (case h1 => rfl))))); (case hp => (first | (apply pk_cons; (case hc => rfl); (case hs => rfl); (case h => (first | with_reducible exact pk_nil | fail)); (case he => (first | ((repeat (first | with_reducible exact ap_nil | apply ap_cons)); done) | fail))) | fail)); (case hb => rfl); (case hd => rfl); intro b) | fail)
        · skip
          refine v_append (e := 50) (agg := true) (sz := 10) (bytes := 104) (zero := zE) rfl (by omega) rfl rfl hg (show List.Perm ((b, Obj.cells (l[k]'hlt).cells.toArray 50 (0, 0)) :: (bx, Obj.cells (x).cells.toArray 50 (0, 0)) :: ν) _ from (List.perm_append_comm (l₁ := [(b, Obj.cells (l[k]'hlt).cells.toArray 50 (0, 0)), (bx, Obj.cells (x).cells.toArray 50 (0, 0))]))) (m' := 1) (us := (l[k]'hlt).cells) (Src.own (e := 50) (List.Mem.head _) rfl) rfl (by omega) (by simp only [maxLen]; omega) rfl fun v1 ν1 hg1 => ?_
          refine v_perm (show List.Perm (ν1 ++ [(b, Obj.cells (l[k]'hlt).cells.toArray 50 (0, 0)), (bx, Obj.cells (x).cells.toArray 50 (0, 0))]) (((bx, Obj.cells (x).cells.toArray 50 (0, 0)) :: ν1) ++ [(b, Obj.cells (l[k]'hlt).cells.toArray 50 (0, 0))]) from (by apply perm_of_count; intro p; simp only [List.countP_append, List.countP_cons, List.countP_nil, Nat.zero_add, Nat.add_zero]; try ac_rfl)) ?_
          refine v_drop (ν := (bx, Obj.cells (x).cells.toArray 50 (0, 0)) :: ν1) (List.sublist_append_left _ _) ?_
          repeat' (first | apply v_region | apply v_nil | apply v_blk | (apply v_pure; (case hop => first | (apply p_move <;> rfl) | (apply p_assign <;> rfl) | (apply p_add; (case hx => rfl); (case hy => rfl); (case h => omega)) | fail); (case hd => rfl)) | fail)
          subst hme
          refine v_again rfl ⟨rfl, k + 1, v1, false, ν1, l.take k ++ [l[k]], by omega, rfl, rfl, grow_add hg1, .inl ⟨rfl, by omega, (wl_a hlt).symm⟩⟩ (by simp [headI]; omega)
    · subst hme
      refine v_append (e := 50) (agg := true) (sz := 10) (bytes := 104) (zero := zE) rfl (by omega) rfl rfl hg (show List.Perm ((b, Obj.cells (x).cells.toArray 50 (0, 0)) :: (bx, Obj.cells (x).cells.toArray 50 (0, 0)) :: ν) _ from (List.perm_append_comm (l₁ := [(b, Obj.cells (x).cells.toArray 50 (0, 0)), (bx, Obj.cells (x).cells.toArray 50 (0, 0))]))) (m' := 1) (us := (x).cells) (Src.own (e := 50) (List.Mem.head _) rfl) rfl (by omega) (by simp only [maxLen]; omega) rfl fun v1 ν1 hg1 => ?_
      refine v_perm (show List.Perm (ν1 ++ [(b, Obj.cells (x).cells.toArray 50 (0, 0)), (bx, Obj.cells (x).cells.toArray 50 (0, 0))]) (((bx, Obj.cells (x).cells.toArray 50 (0, 0)) :: ν1) ++ [(b, Obj.cells (x).cells.toArray 50 (0, 0))]) from (by apply perm_of_count; intro p; simp only [List.countP_append, List.countP_cons, List.countP_nil, Nat.zero_add, Nat.add_zero]; try ac_rfl)) ?_
      refine v_drop (ν := (bx, Obj.cells (x).cells.toArray 50 (0, 0)) :: ν1) (List.sublist_append_left _ _) ?_
      repeat' (first | apply v_seq | apply v_region | apply v_nil | (apply v_pure; (case hop => first | (apply p_move <;> rfl) | (apply p_assign <;> rfl) | fail); (case hd => rfl)) | fail)
      refine v_ret ν1 (outsA1 rfl rfl) (by repeat (first | exact List.Sublist.refl _ | apply List.Sublist.cons | fail)) ?_
      have hk' : k = l.length := by omega
      have hg2 := grow_add hg1
      rw [hk', List.take_length] at hg2
      refine ⟨rfl, ?_⟩
      rw [wl_e (by omega)]
      exact hg2
  · repeat' (first | apply v_seq | apply v_region | apply v_nil | apply v_skip | apply v_block | (apply v_exit; (case hp => rfl)) | (apply v_pure; (case hop => first | (apply p_move <;> rfl) | (apply p_lt <;> rfl) | (apply p_assign <;> rfl) | (apply p_not <;> rfl) | (apply p_lenSlice <;> rfl) | fail); (case hd => rfl)) | (apply v_condF; (case hc => rfl)) | (apply v_cond; (case hc => rfl); all_goals (intro h; (try simp only [reduceCtorEq, dec_true, dec_false, decide_eq_true_eq, decide_eq_false_iff_not, Bool.not_eq_true', Bool.not_eq_false', Option.isNone_iff_eq_none, beq_true, beq_false, beq_iff_eq, beq_eq_false_iff_ne, ne_eq, decide_eq_decide, Bool.not_eq_true, Bool.not_eq_false, Decidable.not_not] at h); first | skip)) | fail)
    · have hlt : k < l.length := by omega
      refine d_start _ (by kernel_rfl) (by kernel_rfl) (fun _ he => he) ?_
      all_goals (first | (apply d_take 0; (case hi => rfl); (case hop => first | (apply PureOp.read; apply p_move <;> rfl)); (case hf => kernel_rfl); (case hr => kernel_rfl); (case hd => rfl)) | fail)
      all_goals (first | (apply d_take 1; (case hi => rfl); (case hop => first | (apply PureOp.read; apply p_not <;> rfl)); (case hf => kernel_rfl); (case hr => kernel_rfl); (case hd => rfl)) | fail)
      all_goals (first | (apply d_take 2; (case hi => rfl); (case hop => first | (apply PureOp.read; apply p_move <;> rfl)); (case hf => kernel_rfl); (case hr => kernel_rfl); (case hd => rfl)) | fail)
      all_goals (try (apply d_guardB 3; (case hi => rfl); (case hgd => rfl); (case h1 => rfl); (case h2 => first | rfl); all_goals (intro h; (try simp only [reduceCtorEq, dec_true, dec_false, decide_eq_true_eq, decide_eq_false_iff_not, Bool.not_eq_true', Bool.not_eq_false', Option.isNone_iff_eq_none, beq_true, beq_false, beq_iff_eq, beq_eq_false_iff_ne, ne_eq, decide_eq_decide, Bool.not_eq_true, Bool.not_eq_false, Decidable.not_not] at h); first | done | skip)))
      all_goals (first | (apply d_pass 3; (case hi => rfl); (case hg => rfl); (case hn => rfl); (case hf => kernel_rfl); (case hr => kernel_rfl); (case hd => rfl)) | fail)
      all_goals (try (apply d_guardB 4; (case hi => rfl); (case hgd => rfl); (case h1 => rfl); (case h2 => first | rfl); all_goals (intro h; (try simp only [reduceCtorEq, dec_true, dec_false, decide_eq_true_eq, decide_eq_false_iff_not, Bool.not_eq_true', Bool.not_eq_false', Option.isNone_iff_eq_none, beq_true, beq_false, beq_iff_eq, beq_eq_false_iff_ne, ne_eq, decide_eq_decide, Bool.not_eq_true, Bool.not_eq_false, Decidable.not_not] at h); first | done | skip)))
      all_goals (first | (apply d_pass 4; (case hi => rfl); (case hg => rfl); (case hn => rfl); (case hf => kernel_rfl); (case hr => kernel_rfl); (case hd => rfl)) | fail)
      all_goals (try (apply d_guardB 5; (case hi => rfl); (case hgd => rfl); (case h1 => rfl); (case h2 => first | rfl); all_goals (intro h; (try simp only [reduceCtorEq, dec_true, dec_false, decide_eq_true_eq, decide_eq_false_iff_not, Bool.not_eq_true', Bool.not_eq_false', Option.isNone_iff_eq_none, beq_true, beq_false, beq_iff_eq, beq_eq_false_iff_ne, ne_eq, decide_eq_decide, Bool.not_eq_true, Bool.not_eq_false, Decidable.not_not] at h); first | done | skip)))
      all_goals (first | (apply d_pass 5; (case hi => rfl); (case hg => rfl); (case hn => rfl); (case hf => kernel_rfl); (case hr => kernel_rfl); (case hd => rfl)) | fail)
      all_goals (try (apply d_guardB 6; (case hi => rfl); (case hgd => rfl); (case h1 => rfl); (case h2 => first | rfl); all_goals (intro h; (try simp only [reduceCtorEq, dec_true, dec_false, decide_eq_true_eq, decide_eq_false_iff_not, Bool.not_eq_true', Bool.not_eq_false', Option.isNone_iff_eq_none, beq_true, beq_false, beq_iff_eq, beq_eq_false_iff_ne, ne_eq, decide_eq_decide, Bool.not_eq_true, Bool.not_eq_false, Decidable.not_not] at h); first | done | skip)))
      all_goals (first | (apply d_pass 6; (case hi => rfl); (case hg => rfl); (case hn => rfl); (case hf => kernel_rfl); (case hr => kernel_rfl); (case hd => rfl)) | fail)
      all_goals (try (apply d_guardB 7; (case hi => rfl); (case hgd => rfl); (case h1 => rfl); (case h2 => first | rfl); all_goals (intro h; (try simp only [reduceCtorEq, dec_true, dec_false, decide_eq_true_eq, decide_eq_false_iff_not, Bool.not_eq_true', Bool.not_eq_false', Option.isNone_iff_eq_none, beq_true, beq_false, beq_iff_eq, beq_eq_false_iff_ne, ne_eq, decide_eq_decide, Bool.not_eq_true, Bool.not_eq_false, Decidable.not_not] at h); first | done | skip)))
      all_goals (first | (apply d_pass 7; (case hi => rfl); (case hg => rfl); (case hn => rfl); (case hf => kernel_rfl); (case hr => kernel_rfl); (case hd => rfl)) | fail)
      all_goals (try (apply d_guardB 8; (case hi => rfl); (case hgd => rfl); (case h1 => rfl); (case h2 => first | rfl); all_goals (intro h; (try simp only [reduceCtorEq, dec_true, dec_false, decide_eq_true_eq, decide_eq_false_iff_not, Bool.not_eq_true', Bool.not_eq_false', Option.isNone_iff_eq_none, beq_true, beq_false, beq_iff_eq, beq_eq_false_iff_ne, ne_eq, decide_eq_decide, Bool.not_eq_true, Bool.not_eq_false, Decidable.not_not] at h); first | done | skip)))
      all_goals (first | (apply d_pass 8; (case hi => rfl); (case hg => rfl); (case hn => rfl); (case hf => kernel_rfl); (case hr => kernel_rfl); (case hd => rfl)) | fail)
      all_goals (try (apply d_guardB 9; (case hi => rfl); (case hgd => rfl); (case h1 => rfl); (case h2 => first | rfl); all_goals (intro h; (try simp only [reduceCtorEq, dec_true, dec_false, decide_eq_true_eq, decide_eq_false_iff_not, Bool.not_eq_true', Bool.not_eq_false', Option.isNone_iff_eq_none, beq_true, beq_false, beq_iff_eq, beq_eq_false_iff_ne, ne_eq, decide_eq_decide, Bool.not_eq_true, Bool.not_eq_false, Decidable.not_not] at h); first | done | skip)))
      all_goals (first | (apply d_pass 9; (case hi => rfl); (case hg => rfl); (case hn => rfl); (case hf => kernel_rfl); (case hr => kernel_rfl); (case hd => rfl)) | fail)
      all_goals (try (apply d_guardB 10; (case hi => rfl); (case hgd => rfl); (case h1 => rfl); (case h2 => first | rfl); all_goals (intro h; (try simp only [reduceCtorEq, dec_true, dec_false, decide_eq_true_eq, decide_eq_false_iff_not, Bool.not_eq_true', Bool.not_eq_false', Option.isNone_iff_eq_none, beq_true, beq_false, beq_iff_eq, beq_eq_false_iff_ne, ne_eq, decide_eq_decide, Bool.not_eq_true, Bool.not_eq_false, Decidable.not_not] at h); first | done | skip)))
      all_goals (first | (apply d_pass 10; (case hi => rfl); (case hg => rfl); (case hn => rfl); (case hf => kernel_rfl); (case hr => kernel_rfl); (case hd => rfl)) | fail)
      all_goals (first | (apply d_take 11; (case hi => rfl); (case hop => first | (apply PureOp.read; apply p_pickF <;> rfl) | fail); (case hf => kernel_rfl); (case hr => kernel_rfl); (case hd => rfl)) | fail)
      all_goals (apply d_done; (case hr => kernel_rfl))
      repeat' (first | apply v_seq | apply v_skip | (apply v_condF; (case hc => rfl)) | fail)
      refine d_start _ (by kernel_rfl) (by kernel_rfl) (fun _ he => he) ?_
      all_goals (first | (apply d_take 0; (case hi => rfl); (case hop => first | (apply PureOp.read; apply p_move <;> rfl)); (case hf => kernel_rfl); (case hr => kernel_rfl); (case hd => rfl)) | fail)
      all_goals (first | (apply d_take 1; (case hi => rfl); (case hop => first | (apply PureOp.read; apply p_move <;> rfl)); (case hf => kernel_rfl); (case hr => kernel_rfl); (case hd => rfl)) | fail)
      all_goals (first | (apply d_take 2; (case hi => rfl); (case hop => first | (apply PureOp.read; apply p_indexAddrS; (case hx => rfl); (case hi => rfl); (case h0 => omega); (case h => omega); (case hA => first | (apply_assumption; omega)))); (case hf => kernel_rfl); (case hr => kernel_rfl); (case hd => rfl)) | fail)
      all_goals (first | (apply d_take 3; (case hi => rfl); (case hop => first | (apply PureOp.read; apply p_fieldAddr <;> rfl)); (case hf => kernel_rfl); (case hr => kernel_rfl); (case hd => rfl)) | fail)
      all_goals (first | (apply d_take 4; (case hi => rfl); (case hop => first | ((apply r_load1; rfl; exact Cell.frozen (esCell hcp _ (by omega)))) | fail); (case hf => kernel_rfl); (case hr => kernel_rfl); (case hd => rfl)) | fail)
      all_goals (first | (apply d_take 5; (case hi => rfl); (case hop => first | (apply PureOp.read; apply p_fieldAddrB <;> rfl) | fail); (case hf => kernel_rfl); (case hr => kernel_rfl); (case hd => rfl)) | fail)
      all_goals (first | (apply d_take 6; (case hi => rfl); (case hop => first | (apply r_load1; rfl; (apply Cell.own; (case h => (repeat (first | exact List.Mem.head _ | fail))); rfl)) | fail); (case hf => kernel_rfl); (case hr => kernel_rfl); (case hd => rfl)) | fail)
      all_goals (first | (apply d_take 7; (case hi => rfl); (case hop => first | (apply PureOp.read; apply p_ne <;> rfl) | fail); (case hf => kernel_rfl); (case hr => kernel_rfl); (case hd => rfl)) | fail)
      all_goals (apply d_done; (case hr => kernel_rfl))
      repeat' (first | apply v_region | apply v_nil | apply v_skip | apply v_blk | (apply v_pure; (case hop => first | (apply p_move <;> rfl) | (apply p_assign <;> rfl) | (apply p_add; (case hx => rfl); (case hy => rfl); (case h => omega)) | (apply p_indexAddrS; (case hx => rfl); (case hi => rfl); (case h0 => omega); (case h => omega); (case hA => first | (apply_assumption; omega))) | fail); (case hd => rfl)) | (apply v_cond; (case hc => rfl); all_goals (intro h; (try simp only [reduceCtorEq, dec_true, dec_false, decide_eq_true_eq, decide_eq_false_iff_not, Bool.not_eq_true', Bool.not_eq_false', Option.isNone_iff_eq_none, beq_true, beq_false, beq_iff_eq, beq_eq_false_iff_ne, ne_eq, decide_eq_decide, Bool.not_eq_true, Bool.not_eq_false, Decidable.not_not] at h); first | skip)) | (apply v_read; (case hop => first | (apply r_loadN; rfl; exact CellsAt.frozen (hcp _ (by omega)); rfl)); (case hd => rfl)) | (apply v_buildSlice; (case hz => rfl); (case hi => rfl); (case hv => (simp only [List.map_cons, List.map_nil]; repeat (first | with_reducible exact evs_nil | (apply evs_cons; (case h1 => rfl))))); (case hp => (first | (apply pk_cons; (case hc => rfl); (case hs => rfl); (case h => (first | with_reducible exact pk_nil | fail)); (case he => (first | ((repeat (first | with_reducible exact ap_nil | apply ap_cons)); done) | fail))) | fail)); (case hb => rfl); (case hd => rfl); intro b) | fail)
      · subst hme
        refine v_append (e := 50) (agg := true) (sz := 10) (bytes := 104) (zero := zE) rfl (by omega) rfl rfl hg (show List.Perm ((b, Obj.cells (l[k]'hlt).cells.toArray 50 (0, 0)) :: (bx, Obj.cells (x).cells.toArray 50 (0, 0)) :: ν) _ from (List.perm_append_comm (l₁ := [(b, Obj.cells (l[k]'hlt).cells.toArray 50 (0, 0)), (bx, Obj.cells (x).cells.toArray 50 (0, 0))]))) (m' := 1) (us := (l[k]'hlt).cells) (Src.own (e := 50) (List.Mem.head _) rfl) rfl (by omega) (by simp only [maxLen]; omega) rfl fun v1 ν1 hg1 => ?_
        refine v_perm (show List.Perm (ν1 ++ [(b, Obj.cells (l[k]'hlt).cells.toArray 50 (0, 0)), (bx, Obj.cells (x).cells.toArray 50 (0, 0))]) (((bx, Obj.cells (x).cells.toArray 50 (0, 0)) :: ν1) ++ [(b, Obj.cells (l[k]'hlt).cells.toArray 50 (0, 0))]) from (by apply perm_of_count; intro p; simp only [List.countP_append, List.countP_cons, List.countP_nil, Nat.zero_add, Nat.add_zero]; try ac_rfl)) ?_
        refine v_drop (ν := (bx, Obj.cells (x).cells.toArray 50 (0, 0)) :: ν1) (List.sublist_append_left _ _) ?_
        repeat' (first | apply v_region | apply v_nil | apply v_blk | (apply v_pure; (case hop => first | (apply p_move <;> rfl) | (apply p_assign <;> rfl) | (apply p_add; (case hx => rfl); (case hy => rfl); (case h => omega)) | fail); (case hd => rfl)) | fail)
        refine v_again rfl ⟨rfl, k + 1, v1, true, ν1, _, by omega, rfl, rfl, grow_add hg1, .inr ⟨rfl, by omega, ?_⟩⟩ (by simp [headI]; omega)
        rw [wl_d hpp hkp hlt]
      · exfalso
        have h1 := hr p k hlt hkp
        have h2 := mt (hpl p (by omega)).2 (by omega)
        simp only [e1] at *
        omega
    · refine v_ret ν (outsA1 rfl rfl) (by repeat (first | exact List.Sublist.refl _ | apply List.Sublist.cons | fail)) ?_
      refine ⟨rfl, ?_⟩
      subst hme
      rw [List.take_of_length_le (by rw [hwl]; split <;> omega)] at hg
      exact hg
end Go.Proofs.YtnoiahlpmgbhfaaDoor
/-
  entry (layer 12), in plain Lean: lists with one more.
-/
set_option linter.unusedSimpArgs false
set_option linter.unusedVariables false
namespace Go.Proofs.YtnoiahlpmgbhfaaDoor
open Go.Vx Go.ChangeShapes Go.WideShapes Go.ChangeAt Go.RowKit
theorem get_of {W l : List Ent} {a b : Nat} (h : W[a]? = l[b]?) (ha : a < W.length) : ∃ hb : b < l.length, W[a] = l[b] := by
  rw [List.getElem?_eq_getElem ha] at h
  obtain ⟨hb, e⟩ := List.getElem?_eq_some_iff.1 h.symm
  exact ⟨hb, e.symm⟩
theorem withL_lo' {l : List Ent} {x : Ent} {k : Nat} (hk : k < placeN l x.index) : (withL l x)[k]? = l[k]? := by
  have h := congrArg (·[k]?) (withL_lo (l := l) (x := x) (k := k + 1) hk)
  simpa [List.getElem?_take] using h
theorem withL_x {l : List Ent} {x : Ent} {k : Nat} (hk : k = placeN l x.index) (h : k < (withL l x).length) : (withL l x)[k] = x := by
  have h1 := withL_at l x
  rw [← hk, List.getElem?_eq_getElem h] at h1
  exact Option.some.inj h1
theorem withL_rise {l : List Ent} {x : Ent} (hr : RiseL l) : RiseL (withL l x) := by
  refine rise_of_step fun i hi h0 => ?_
  by_cases h1 : i < placeN l x.index
  · obtain ⟨ha, ea⟩ := get_of (withL_lo' h1) hi
    obtain ⟨hb, eb⟩ := get_of (withL_lo' (k := i - 1) (by omega)) (show i - 1 < (withL l x).length by omega)
    rw [ea, eb]
    exact hr _ _ ha (by omega)
  by_cases h2 : i = placeN l x.index
  · obtain ⟨hb, eb⟩ := get_of (withL_lo' (k := i - 1) (by omega)) (show i - 1 < (withL l x).length by omega)
    rw [withL_x h2 hi, eb]
    exact (placeN_lt hr hb).1 (by omega)
  by_cases hh : hitB l x.index = true
  · obtain ⟨ha, ea⟩ := get_of (withL_hi (by omega) hh) hi
    by_cases h3 : i - 1 = placeN l x.index
    · have h4 := hitB_index hh
      rw [withL_x h3 (by omega), ea, ← h4]
      exact hr _ _ ha (by omega)
    · obtain ⟨hb, eb⟩ := get_of (withL_hi (k := i - 1) (by omega) hh) (show i - 1 < (withL l x).length by omega)
      rw [ea, eb]
      exact hr _ _ ha (by omega)
  · have e0 : i = (i - 1) + 1 := by omega
    obtain ⟨ha, ea⟩ := get_of (a := i) (b := i - 1) (by have := withL_hi' (l := l) (x := x) (k := i - 1) (by omega) hh; rwa [← e0] at this) hi
    by_cases h3 : i - 1 = placeN l x.index
    · rw [withL_x h3 (by omega), ea]
      have h4 := mt (placeN_lt hr ha).2 (show ¬ i - 1 < placeN l x.index by omega)
      have h5 : l[i - 1].index ≠ x.index := fun e => hh (by rw [← e]; exact hitB_at hr ha)
      omega
    · obtain ⟨hb, eb⟩ := get_of (a := i - 1) (b := i - 2) (by have := withL_hi' (l := l) (x := x) (k := i - 2) (by omega) hh; rwa [show i - 2 + 1 = i - 1 by omega] at this) (show i - 1 < (withL l x).length by omega)
      rw [ea, eb]
      exact hr _ _ ha (by omega)
theorem withL_ok {l : List Ent} {x : Ent} (hl : ∀ y ∈ l, y.ok) (hx : x.ok) : ∀ y ∈ withL l x, y.ok := by
  intro y hy
  by_cases h : hitB l x.index = true
  · rw [withL_hit h] at hy
    rcases List.mem_or_eq_of_mem_set hy with h1 | h1
    · exact hl y h1
    · rw [h1]; exact hx
  · rw [withL_no h] at hy
    rcases List.mem_append.1 hy with h1 | h1
    · exact hl y (List.mem_of_mem_take h1)
    · rcases List.mem_cons.1 h1 with h2 | h2
      · rw [h2]; exact hx
      · exact hl y (List.mem_of_mem_drop h2)
end Go.Proofs.YtnoiahlpmgbhfaaDoor
/-
  pack, the third part: raw bytes.
-/
set_option linter.unusedSimpArgs false
set_option linter.unusedVariables false
namespace Go.Proofs.YtnoiahlpmgbhfaaDoor
open Go.Vx Go.ChangeShapes Go.WideShapes Go.ChangeAt Go.RowKit
end Go.Proofs.YtnoiahlpmgbhfaaDoor
/-
  pack, the fourth part: texts.
-/
set_option linter.unusedSimpArgs false
set_option linter.unusedVariables false
namespace Go.Proofs.YtnoiahlpmgbhfaaDoor
open Go.Vx Go.ChangeShapes Go.WideShapes Go.ChangeAt Go.RowKit
end Go.Proofs.YtnoiahlpmgbhfaaDoor
/-
  pack, the fifth part: a reader: a block of three cells: its bytes (frozen), where it stands, its error.
-/
set_option linter.unusedSimpArgs false
set_option linter.unusedVariables false
namespace Go.Proofs.YtnoiahlpmgbhfaaDoor
open Go.Vx Go.ChangeShapes Go.WideShapes Go.ChangeAt Go.RowKit
end Go.Proofs.YtnoiahlpmgbhfaaDoor
/-
  VX, SCOPES: a scope that no goto leaves, and a label.
-/
set_option linter.unusedVariables false
set_option linter.unusedSimpArgs false
namespace Go.Vx
open Go
attribute [local semireducible] Vc
section
variable {P : Program} {fn : Func} {n : Nat} {B : Base} {Φ : Value → GH → OH → Prop} {k : List It} {σ : Env} {G : GH} {μ : OH}
end
end Go.Vx
/-
  varint (layer 1), the second part: what bytes a number is read from: no more and no fewer than its own.
-/
set_option linter.unusedSimpArgs false
set_option linter.unusedVariables false
namespace Go.Proofs.YtnoiahlpmgbhfaaDoor
open Go.Vx Go.ChangeShapes Go.WideShapes Go.ChangeAt Go.RowKit
end Go.Proofs.YtnoiahlpmgbhfaaDoor
/-
  varint (layer 1), the third part: Get.
-/
set_option linter.unusedSimpArgs false
set_option linter.unusedVariables false
namespace Go.Proofs.YtnoiahlpmgbhfaaDoor
open Go.Vx Go.ChangeShapes Go.WideShapes Go.ChangeAt Go.RowKit
end Go.Proofs.YtnoiahlpmgbhfaaDoor
/-
  pack, the sixth part: a reader's numbers.
-/
set_option linter.unusedSimpArgs false
set_option linter.unusedVariables false
namespace Go.Proofs.YtnoiahlpmgbhfaaDoor
open Go.Vx Go.ChangeShapes Go.WideShapes Go.ChangeAt Go.RowKit
end Go.Proofs.YtnoiahlpmgbhfaaDoor
/-
  pack, the seventh part: a reader's bytes; whether anything is left.
-/
set_option linter.unusedSimpArgs false
set_option linter.unusedVariables false
namespace Go.Proofs.YtnoiahlpmgbhfaaDoor
open Go.Vx Go.ChangeShapes Go.WideShapes Go.ChangeAt Go.RowKit
end Go.Proofs.YtnoiahlpmgbhfaaDoor
/-
  pack, the eighth part: a reader's texts.
-/
set_option linter.unusedSimpArgs false
set_option linter.unusedVariables false
namespace Go.Proofs.YtnoiahlpmgbhfaaDoor
open Go.Vx Go.ChangeShapes Go.WideShapes Go.ChangeAt Go.RowKit
end Go.Proofs.YtnoiahlpmgbhfaaDoor
/-
  pack, the ninth part, in plain Lean: numbers and bytes that are read, and those that were put.
-/
set_option linter.unusedSimpArgs false
set_option linter.unusedVariables false
namespace Go.Proofs.YtnoiahlpmgbhfaaDoor
open Go.Vx Go.ChangeShapes Go.WideShapes Go.ChangeAt Go.RowKit
theorem wf64 {n : Int} (h0 : 0 ≤ n ∧ n ≤ 9223372036854775807) : (Lit.int .i64 n).wf = true := by
  simp [Lit.wf, IntKind.min, IntKind.max, IntKind.signed, IntKind.bits]
  omega
end Go.Proofs.YtnoiahlpmgbhfaaDoor
/-
  pack, the tenth part: a reader's counts.
-/
set_option linter.unusedSimpArgs false
set_option linter.unusedVariables false
namespace Go.Proofs.YtnoiahlpmgbhfaaDoor
open Go.Vx Go.ChangeShapes Go.WideShapes Go.ChangeAt Go.RowKit
end Go.Proofs.YtnoiahlpmgbhfaaDoor
/-
  cmd (layer 8), the fourth part: what a writer puts down of a command.
-/
set_option linter.unusedSimpArgs false
set_option linter.unusedVariables false
namespace Go.Proofs.YtnoiahlpmgbhfaaDoor
open Go.Vx Go.ChangeShapes Go.WideShapes Go.ChangeAt Go.RowKit
end Go.Proofs.YtnoiahlpmgbhfaaDoor
/-
  cmd (layer 8), the sixth part: what a reader reads of a command.
-/
set_option linter.unusedSimpArgs false
set_option linter.unusedVariables false
namespace Go.Proofs.YtnoiahlpmgbhfaaDoor
open Go.Vx Go.ChangeShapes Go.WideShapes Go.ChangeAt Go.RowKit
end Go.Proofs.YtnoiahlpmgbhfaaDoor
/-
  cmd (layer 8), the eighth part: Put and Get in any version.
-/
set_option linter.unusedSimpArgs false
set_option linter.unusedVariables false
namespace Go.Proofs.YtnoiahlpmgbhfaaDoor
open Go.Vx Go.ChangeShapes Go.WideShapes Go.ChangeAt Go.RowKit
end Go.Proofs.YtnoiahlpmgbhfaaDoor
/-
  cmd (layer 8), the ninth part: Get in any version; what is put leads back, and what is got was put.
-/
set_option linter.unusedSimpArgs false
set_option linter.unusedVariables false
namespace Go.Proofs.YtnoiahlpmgbhfaaDoor
open Go.Vx Go.ChangeShapes Go.WideShapes Go.ChangeAt Go.RowKit
def zeroC : Cm := ⟨0, 0, 0, .empty, .empty, .empty, 0⟩
end Go.Proofs.YtnoiahlpmgbhfaaDoor
/-
  cmd (layer 8), the tenth part, in plain Lean: what is put of a command leads back to it; what is got was put.
-/
set_option linter.unusedSimpArgs false
set_option linter.unusedVariables false
namespace Go.Proofs.YtnoiahlpmgbhfaaDoor
open Go.Vx Go.ChangeShapes Go.WideShapes Go.ChangeAt Go.RowKit
theorem zeroC_ok : zeroC.ok := ⟨by decide, by decide, by decide, by decide, by decide, by decide, by decide⟩
theorem ite0 {p : Prop} [Decidable p] {a b : Int} (ha : a ≠ 0) (h : (if p then a else b) = 0) : ¬ p ∧ b = 0 := by
  by_cases hp : p
  · rw [if_pos hp] at h; exact absurd h ha
  · rw [if_neg hp] at h; exact ⟨hp, h⟩
end Go.Proofs.YtnoiahlpmgbhfaaDoor
/-
  entry (layer 12), the twelfth part: Put, and Get.
-/
set_option linter.unusedSimpArgs false
set_option linter.unusedVariables false
namespace Go.Proofs.YtnoiahlpmgbhfaaDoor
open Go.Vx Go.ChangeShapes Go.WideShapes Go.ChangeAt Go.RowKit
def Ent.sz (x : Ent) : Prop := x.cmd.key.size ≤ 48 ∧ x.cmd.val.size ≤ 48 ∧ x.cmd.old.size ≤ 48
/-! ### Get -/
end Go.Proofs.YtnoiahlpmgbhfaaDoor
/-
  recone (layer 16), the sixth part: the example; ReconeChecks.
-/
set_option linter.unusedSimpArgs false
set_option linter.unusedVariables false
namespace Go.Proofs.YtnoiahlpmgbhfaaDoor
open Go.Vx Go.ChangeShapes Go.WideShapes Go.ChangeAt Go.RowKit
end Go.Proofs.YtnoiahlpmgbhfaaDoor
/-
  recone (layer 16), the eighth part: what a version has, by the reference.
-/
set_option linter.unusedSimpArgs false
set_option linter.unusedVariables false
namespace Go.Proofs.YtnoiahlpmgbhfaaDoor
open Go.Vx Go.ChangeShapes Go.WideShapes Go.ChangeAt Go.RowKit
end Go.Proofs.YtnoiahlpmgbhfaaDoor
/-
  rectwo (layer 17), the first part: Encode.
-/
set_option linter.unusedSimpArgs false
set_option linter.unusedVariables false
namespace Go.Proofs.YtnoiahlpmgbhfaaDoor
open Go.Vx Go.ChangeShapes Go.WideShapes Go.ChangeAt Go.RowKit
end Go.Proofs.YtnoiahlpmgbhfaaDoor
/-
  recone (layer 16), the ninth part: Encode, of any record.
-/
set_option linter.unusedSimpArgs false
set_option linter.unusedVariables false
namespace Go.Proofs.YtnoiahlpmgbhfaaDoor
open Go.Vx Go.ChangeShapes Go.WideShapes Go.ChangeAt Go.RowKit
/-- No field is out of what 64 bits hold. -/
def Rc.small (x : Rc) : Prop := x.kind ≤ 9223372036854775807 ∧ x.round ≤ 9223372036854775807 ∧ x.node ≤ 9223372036854775807 ∧ x.index ≤ 9223372036854775807
end Go.Proofs.YtnoiahlpmgbhfaaDoor
/-
  recone (layer 16), the tenth part: the bytes of a number, by the reference.
-/
set_option linter.unusedSimpArgs false
set_option linter.unusedVariables false
namespace Go.Proofs.YtnoiahlpmgbhfaaDoor
open Go.Vx Go.ChangeShapes Go.WideShapes Go.ChangeAt Go.RowKit
end Go.Proofs.YtnoiahlpmgbhfaaDoor
/-
  recone (layer 16), the eleventh part: the bytes of a text, by the reference.
-/
set_option linter.unusedSimpArgs false
set_option linter.unusedVariables false
namespace Go.Proofs.YtnoiahlpmgbhfaaDoor
open Go.Vx Go.ChangeShapes Go.WideShapes Go.ChangeAt Go.RowKit
end Go.Proofs.YtnoiahlpmgbhfaaDoor
/-
  recone (layer 16), the twelfth part: the bytes of a command, by the reference.
-/
set_option linter.unusedSimpArgs false
set_option linter.unusedVariables false
namespace Go.Proofs.YtnoiahlpmgbhfaaDoor
open Go.Vx Go.ChangeShapes Go.WideShapes Go.ChangeAt Go.RowKit
end Go.Proofs.YtnoiahlpmgbhfaaDoor
/-
  recone (layer 16), the thirteenth part: the bytes of a record, by the reference.
-/
set_option linter.unusedSimpArgs false
set_option linter.unusedVariables false
namespace Go.Proofs.YtnoiahlpmgbhfaaDoor
open Go.Vx Go.ChangeShapes Go.WideShapes Go.ChangeAt Go.RowKit
/-- No field is too long for the reference's bytes. -/
def Rc.fits (x : Rc) : Prop := x.cmd.key.size ≤ 1000 ∧ x.cmd.val.size ≤ 1000 ∧ x.cmd.old.size ≤ 1000 ∧ x.image.length ≤ 32780
end Go.Proofs.YtnoiahlpmgbhfaaDoor
/-
  recone (layer 16), the fourteenth part: what a reader reads of a record, in plain Lean.
-/
set_option linter.unusedSimpArgs false
set_option linter.unusedVariables false
namespace Go.Proofs.YtnoiahlpmgbhfaaDoor
open Go.Vx Go.ChangeShapes Go.WideShapes Go.ChangeAt Go.RowKit
theorem rec0 {k r n i : Int} {c : Cm} {len : Nat} (h : recI k r n i c len = 0) : (1 ≤ k ∧ k ≤ 4) ∧ ranP k r n i ∧ ¬ (k = 4 ∧ 32768 < len) ∧ ((k = 2 ∨ k = 3) → cmdI c = 0) ∧ ¬ othP k r n i c len := by
  unfold recI at h
  obtain ⟨h1, h⟩ := ite0 (by decide) h
  obtain ⟨h2, h⟩ := ite0 (by decide) h
  obtain ⟨h3, h⟩ := ite0 (by decide) h
  by_cases hc : (k = 2 ∨ k = 3) ∧ cmdI c ≠ 0
  · rw [if_pos hc] at h; exact absurd h hc.2
  · rw [if_neg hc] at h
    obtain ⟨h4, h⟩ := ite0 (by decide) h
    refine ⟨by omega, Decidable.not_not.1 h2, h3, fun hk => ?_, h4⟩
    exact Decidable.not_not.1 fun hn => hc ⟨hk, hn⟩
theorem cmdSz {c : Cm} (h : cmdI c = 0) : c.key.size ≤ 24 ∧ c.val.size ≤ 48 ∧ c.old.size ≤ 48 := by
  rw [cmdI_eq] at h
  unfold cmdE at h
  obtain ⟨h1, h⟩ := ite0 (by decide) h
  obtain ⟨h2, h⟩ := ite0 (by decide) h
  obtain ⟨h3, h⟩ := ite0 (by decide) h
  obtain ⟨h4, h⟩ := ite0 (by decide) h
  have hk : keyB c.key = true → c.key.size ≤ 24 := fun e => by
    simp only [keyB, Bool.and_eq_true, decide_eq_true_eq] at e
    exact e.1.2
  have hv : ∀ s, valB s = true → s.size ≤ 48 := fun s e => by
    simp only [valB, Bool.and_eq_true, decide_eq_true_eq] at e
    exact e.1.1
  have e1 := hv c.val
  have e2 := hv c.old
  cases hkb : keyB c.key <;> cases hvb : valB c.val <;> cases hob : valB c.old <;> simp only [hkb, hvb, hob, true_implies, reduceCtorEq, false_implies, and_true, and_false] at * <;> omega
/-- A record that may be is not too large. -/
theorem fits0 {x : Rc} (h : recI x.kind x.round x.node x.index x.cmd x.image.length = 0) : x.fits ∧ x.small ∧ x.image.length ≤ 32768 ∧ x.cmd.key.size ≤ 24 ∧ x.cmd.val.size ≤ 48 ∧ x.cmd.old.size ≤ 48 := by
  obtain ⟨hk, hr, hi, hc, ho⟩ := rec0 h
  unfold ranP mayP at hr
  have hcz : (x.kind = 2 ∨ x.kind = 3) ∨ x.cmd = zeroCm := by
    by_cases hh : x.kind = 2 ∨ x.kind = 3
    · exact .inl hh
    · exact .inr (Decidable.not_not.1 fun hn => ho (.inr (.inr (.inl ⟨hh, hn⟩))))
  have hs : x.cmd.key.size ≤ 24 ∧ x.cmd.val.size ≤ 48 ∧ x.cmd.old.size ≤ 48 := by
    obtain hh | hh := hcz
    · exact cmdSz (hc hh)
    · rw [hh]; decide
  have him : x.image.length ≤ 32768 := by unfold othP at ho; omega
  refine ⟨?_, ?_, him, hs⟩
  · unfold Rc.fits; omega
  · unfold Rc.small; unfold othP at ho; omega
end Go.Proofs.YtnoiahlpmgbhfaaDoor
/-
  rectwo (layer 17), the second part: Encode, of any record.
-/
set_option linter.unusedSimpArgs false
set_option linter.unusedVariables false
namespace Go.Proofs.YtnoiahlpmgbhfaaDoor
open Go.Vx Go.ChangeShapes Go.WideShapes Go.ChangeAt Go.RowKit
noncomputable def chkI (x : Rc) : Int := recI x.kind x.round x.node x.index x.cmd x.image.length
end Go.Proofs.YtnoiahlpmgbhfaaDoor
/-
  recone (layer 16), the fifteenth part: Decode, of any bytes.
-/
set_option linter.unusedSimpArgs false
set_option linter.unusedVariables false
namespace Go.Proofs.YtnoiahlpmgbhfaaDoor
open Go.Vx Go.ChangeShapes Go.WideShapes Go.ChangeAt Go.RowKit
end Go.Proofs.YtnoiahlpmgbhfaaDoor
/-
  rectwo (layer 17), the third part: what is read of a record.
-/
set_option linter.unusedSimpArgs false
set_option linter.unusedVariables false
namespace Go.Proofs.YtnoiahlpmgbhfaaDoor
open Go.Vx Go.ChangeShapes Go.WideShapes Go.ChangeAt Go.RowKit
section
variable {G : GH} {l : List Int} {bv : Value} {s : Option (List Int)} {rb pb xb a : Nat} {no k r n i : Int} {c : Cm} {iv : Value}
end
/-! ### Decode -/
end Go.Proofs.YtnoiahlpmgbhfaaDoor
/-
  recone (layer 16), the seventeenth part: what is read of a record has just the bytes that were read.
-/
set_option linter.unusedSimpArgs false
set_option linter.unusedVariables false
namespace Go.Proofs.YtnoiahlpmgbhfaaDoor
open Go.Vx Go.ChangeShapes Go.WideShapes Go.ChangeAt Go.RowKit
end Go.Proofs.YtnoiahlpmgbhfaaDoor
/-
  rectwo (layer 17), the fourth part, in plain Lean: what is written in F2 leads back, and what is read was written; no bytes are of both formats.
-/
set_option linter.unusedSimpArgs false
set_option linter.unusedVariables false
namespace Go.Proofs.YtnoiahlpmgbhfaaDoor
open Go.Vx Go.ChangeShapes Go.WideShapes Go.ChangeAt Go.RowKit
end Go.Proofs.YtnoiahlpmgbhfaaDoor
/-
  rectwo (layer 17), the fifth part: the reference's bytes in F2; what a version has.
-/
set_option linter.unusedSimpArgs false
set_option linter.unusedVariables false
namespace Go.Proofs.YtnoiahlpmgbhfaaDoor
open Go.Vx Go.ChangeShapes Go.WideShapes Go.ChangeAt Go.RowKit
end Go.Proofs.YtnoiahlpmgbhfaaDoor
/-
  A record that is an argument; the two tables.
-/
set_option linter.unusedSimpArgs false
set_option linter.unusedVariables false
namespace Go.Proofs.YtnoiahlpmgbhfaaDoor
open Go.Vx Go.ChangeShapes Go.WideShapes Go.ChangeAt Go.RowKit
def CmR (c : Cm) (cs : List Value) : Prop := cs = c.cells ∧ c.ok
theorem el_cm {H : Type} {enc : TypeId × Value → H} {W : World} : Elem enc Tryd.prog W 27 CmR := by
  intro fuel cs x hf
  have h1 := el_flen (n := 7) Tryd.underlying27 (by kernel_rfl) hf
  obtain ⟨a0, h0, w0⟩ := el_fld (i := 0) (sz := 1) (by kernel_rfl) (el_int Tryd.underlying3) hf
  obtain ⟨a1, e1, w1⟩ := el_fld (i := 1) (sz := 1) (by kernel_rfl) (el_int Tryd.underlying3) hf
  obtain ⟨a2, e2, w2⟩ := el_fld (i := 2) (sz := 1) (by kernel_rfl) (el_int Tryd.underlying3) hf
  obtain ⟨a3, e3, w3⟩ := el_fld (i := 3) (sz := 1) (by kernel_rfl) (el_string Tryd.underlying9) hf
  obtain ⟨a4, e4, w4⟩ := el_fld (i := 4) (sz := 1) (by kernel_rfl) (el_string Tryd.underlying9) hf
  obtain ⟨a5, e5, w5⟩ := el_fld (i := 5) (sz := 1) (by kernel_rfl) (el_string Tryd.underlying9) hf
  obtain ⟨a6, e6, w6⟩ := el_fld (i := 6) (sz := 1) (by kernel_rfl) (el_int Tryd.underlying3) hf
  match cs, h1 with
  | [c0, c1, c2, c3, c4, c5, c6], _ =>
    simp only [List.drop_succ_cons, List.drop_zero, List.take_succ_cons, List.take_zero, List.cons.injEq, and_true] at h0 e1 e2 e3 e4 e5 e6
    exact ⟨⟨a0, a1, a2, a3, a4, a5, a6⟩, by rw [h0, e1, e2, e3, e4, e5, e6]; rfl, w0, w1, w2, w3, w4, w5, w6⟩
theorem firstEq : (Rows.laid_unicode_utf8_first : DataW Unit) = Lib.firstData := by kernel_rfl
theorem acceptEq : (Rows.laid_unicode_utf8_acceptRanges : DataW Unit) = Lib.acceptData := by kernel_rfl
abbrev tabsLaid : List (String × DataW Unit) := [("unicode/utf8.acceptRanges", Rows.laid_unicode_utf8_acceptRanges), ("unicode/utf8.first", Rows.laid_unicode_utf8_first)]
theorem tabs_plain : (tabsLaid.all fun x => x.2.handleName?.isNone) = true := by kernel_rfl
theorem tabs_of_laid {W : World} (hL : laidMetH Tryd.prog tabsLaid W) : TabsG (ghost W) := by
  rw [MakeChecks.laidMetH_plain _ _ _ tabs_plain] at hL
  have r1 := Lib.laidMet.reads hL (.tail _ (.head _))
  have r2 := Lib.laidMet.reads hL (.head _)
  rw [firstEq] at r1
  rw [acceptEq] at r2
  have hU := utf8Tabs_of_readsT (ρ := laysDecode_ren) { laysDecode with } ⟨by kernel_rfl, by kernel_rfl, by kernel_rfl, by kernel_rfl, by kernel_rfl, by kernel_rfl, by kernel_rfl⟩ r1 r2
  clear hL r1 r2
  intro w hw
  have lift : ∀ (a : Addr) v, W.cell? a = some v → w.cell? a = some v := by
    intro a v h
    unfold World.cell? at h ⊢
    cases hb : W.heap[a.block]? with
    | none => rw [hb] at h; simp at h
    | some o => rw [hw _ _ hb]; rw [hb] at h; exact h
  exact ⟨fun c hc => lift _ _ (hU.1 c hc), fun i hi => ⟨lift _ _ (hU.2 i hi).1, lift _ _ (hU.2 i hi).2⟩⟩
end Go.Proofs.YtnoiahlpmgbhfaaDoor
/-
  A number that is an argument.
-/
set_option linter.unusedSimpArgs false
set_option linter.unusedVariables false
namespace Go.Proofs.YtnoiahlpmgbhfaaDoor
open Go.Vx Go.ChangeShapes Go.WideShapes Go.ChangeAt Go.RowKit
end Go.Proofs.YtnoiahlpmgbhfaaDoor
/-
  Entries that are an argument.
-/
set_option linter.unusedSimpArgs false
set_option linter.unusedVariables false
namespace Go.Proofs.YtnoiahlpmgbhfaaDoor
open Go.Vx Go.ChangeShapes Go.WideShapes Go.ChangeAt Go.RowKit
theorem el_ent {H : Type} {enc : TypeId × Value → H} {W : World} : Elem enc Tryd.prog W 50 EntR := by
  intro fuel cs x hf
  have h1 := el_flen (n := 10) Tryd.underlying50 (by kernel_rfl) hf
  obtain ⟨k, hk, wk⟩ := el_fld (i := 0) (sz := 1) (by kernel_rfl) (el_int Tryd.underlying3) hf
  have hb : Elem enc Tryd.prog W 25 (fun (p : Int × Int) cs => cs = [.int .i64 p.1, .int .i64 p.2] ∧ (Lit.int .i64 p.1).wf = true ∧ (Lit.int .i64 p.2).wf = true) := by
    intro fuel cs x hf
    have h1 := el_flen (n := 2) Tryd.underlying25 (by kernel_rfl) hf
    obtain ⟨a, ha, wa⟩ := el_fld (i := 0) (sz := 1) (by kernel_rfl) (el_int Tryd.underlying3) hf
    obtain ⟨b, hb, wb⟩ := el_fld (i := 1) (sz := 1) (by kernel_rfl) (el_int Tryd.underlying3) hf
    match cs, h1 with
    | [c0, c1], _ =>
      simp only [List.drop_succ_cons, List.drop_zero, List.take_succ_cons, List.take_zero, List.cons.injEq, and_true] at ha hb
      exact ⟨(a, b), by rw [ha, hb], wa, wb⟩
  obtain ⟨⟨r, n⟩, hr, wr, wn⟩ := el_fld (i := 1) (sz := 2) (by kernel_rfl) hb hf
  obtain ⟨c, hc, ho⟩ := el_fld (i := 2) (sz := 7) (by kernel_rfl) el_cm hf
  match cs, h1 with
  | [c0, c1, c2, c3, c4, c5, c6, c7, c8, c9], _ =>
    simp only [Cm.cells, List.drop_succ_cons, List.drop_zero, List.take_succ_cons, List.take_zero, List.cons.injEq, and_true] at hk hr hc
    obtain ⟨rfl, rfl⟩ := hr
    obtain ⟨rfl, rfl, rfl, rfl, rfl, rfl, rfl⟩ := hc
    subst hk
    exact ⟨⟨k, r, n, c⟩, rfl, wk, wr, wn, ho⟩
end Go.Proofs.YtnoiahlpmgbhfaaDoor
/-
  entry (layer 12), the thirteenth part: the reference's bytes; what is put of entries leads back; the law EntryBack.
-/
set_option linter.unusedSimpArgs false
set_option linter.unusedVariables false
namespace Go.Proofs.YtnoiahlpmgbhfaaDoor
open Go.Vx Go.ChangeShapes Go.WideShapes Go.ChangeAt Go.RowKit
end Go.Proofs.YtnoiahlpmgbhfaaDoor
/-
  entry (layer 12), the fourteenth part: the law EntryBack.
-/
set_option linter.unusedSimpArgs false
set_option linter.unusedVariables false
namespace Go.Proofs.YtnoiahlpmgbhfaaDoor
open Go.Vx Go.ChangeShapes Go.WideShapes Go.ChangeAt Go.RowKit
theorem chk_all {l : List Ent} : ∀ (n k : Nat), l.length - k = n → chkK l k = 0 → ∀ i (h : i < l.length), k ≤ i → oneI l[i] = 0
  | 0, k, hn, _, i, h, hk => by omega
  | n + 1, k, hn, hc, i, h, hk => by
    have hlt : k < l.length := by omega
    rw [chkK, dif_pos hlt] at hc
    by_cases h1 : oneI l[k] ≠ 0
    · rw [if_pos h1] at hc; exact absurd hc h1
    · rw [if_neg h1] at hc
      by_cases hik : i = k
      · subst hik; exact Decidable.not_not.1 h1
      · have hnext : chkK l (k + 1) = 0 := by
          by_cases h0 : 0 < k
          · rw [dif_pos h0] at hc
            split at hc
            · cases hc
            · exact hc
          · rw [dif_neg h0] at hc; exact hc
        exact chk_all n (k + 1) (by omega) hnext i h (by omega)
end Go.Proofs.YtnoiahlpmgbhfaaDoor
/-
  hard (layer 19), in plain Lean: what records come to, in two ways.
-/
set_option linter.unusedSimpArgs false
set_option linter.unusedVariables false
namespace Go.Proofs.YtnoiahlpmgbhfaaDoor
open Go.Vx Go.ChangeShapes Go.WideShapes Go.ChangeAt Go.RowKit
/-- One more, by its index. -/
def ins (x : Ent) : List Ent → List Ent
  | [] => [x]
  | y :: l => if y.index < x.index then y :: ins x l else if y.index = x.index then x :: l else x :: y :: l
theorem ins_cons (x y : Ent) (l : List Ent) : ins x (y :: l) = if y.index < x.index then y :: ins x l else if y.index = x.index then x :: l else x :: y :: l := rfl
theorem rise_pw {l : List Ent} : RiseL l ↔ l.Pairwise (fun a b => a.index < b.index) := by
  rw [List.pairwise_iff_getElem]
  exact ⟨fun h i j hi hj hij => h i j hj hij, fun h i j hj hij => h i j (by omega) hj hij⟩
theorem placeN_cons (y : Ent) (l : List Ent) (n : Int) : placeN (y :: l) n = placeN l n + (if y.index < n then 1 else 0) := by
  unfold placeN
  rw [List.countP_cons]
  simp
theorem placeN_zero {l : List Ent} {n : Int} (h : ∀ x ∈ l, n ≤ x.index) : placeN l n = 0 := by
  unfold placeN
  rw [List.countP_eq_zero]
  intro x hx
  have := h x hx
  simp; omega
theorem hitB_iff {l : List Ent} (hr : RiseL l) (n : Int) : hitB l n = true ↔ ∃ x ∈ l, x.index = n := by
  induction l with
  | nil => simp [hitB]
  | cons y l ih =>
    have hp := rise_pw.1 hr
    rw [List.pairwise_cons] at hp
    have hr' := rise_pw.2 hp.2
    have ih' := ih hr'
    by_cases hy : y.index < n
    · have e : hitB (y :: l) n = hitB l n := by
        unfold hitB
        simp only [placeN_cons, if_pos hy, List.length_cons]
        by_cases hh : placeN l n < l.length
        · rw [dif_pos (by omega), dif_pos hh]
          congr 1
        · rw [dif_neg (by omega), dif_neg hh]
      rw [e, ih']
      simp only [List.mem_cons, exists_eq_or_imp]
      constructor
      · exact .inr
      · rintro (h | h)
        · omega
        · exact h
    · have e : placeN (y :: l) n = 0 := by
        refine placeN_zero fun x hx => ?_
        rw [List.mem_cons] at hx
        obtain rfl | hx := hx
        · omega
        · have := hp.1 x hx; omega
      unfold hitB
      simp only [e, List.length_cons]
      rw [dif_pos (by omega)]
      simp only [List.getElem_cons_zero, decide_eq_true_eq, List.mem_cons, exists_eq_or_imp]
      constructor
      · exact .inl
      · rintro (h | ⟨x, hx, h⟩)
        · exact h
        · have := hp.1 x hx; omega
theorem withL_ins {l : List Ent} (hr : RiseL l) (x : Ent) : withL l x = ins x l := by
  induction l with
  | nil => simp [withL, hitB, placeN, ins]
  | cons y l ih =>
    have hp := rise_pw.1 hr
    rw [List.pairwise_cons] at hp
    have hr' := rise_pw.2 hp.2
    have ih' := ih hr'
    have hh := hitB_iff hr x.index
    have hh' := hitB_iff hr' x.index
    unfold ins
    by_cases hy : y.index < x.index
    · rw [if_pos hy, ← ih']
      have e : placeN (y :: l) x.index = placeN l x.index + 1 := by rw [placeN_cons, if_pos hy]
      have eh : hitB (y :: l) x.index = hitB l x.index := by
        rw [Bool.eq_iff_iff, hh, hh']
        simp only [List.mem_cons, exists_eq_or_imp]
        constructor
        · rintro (h | h)
          · omega
          · exact h
        · exact .inr
      unfold withL
      rw [e, eh]
      split <;> simp
    · rw [if_neg hy]
      have e : placeN (y :: l) x.index = 0 := by
        refine placeN_zero fun z hz => ?_
        rw [List.mem_cons] at hz
        obtain rfl | hz := hz
        · omega
        · have := hp.1 z hz; omega
      unfold withL
      rw [e]
      by_cases he : y.index = x.index
      · rw [if_pos he, if_pos (hh.2 ⟨y, by simp, he⟩)]
        rfl
      · rw [if_neg he, if_neg]
        · rfl
        · rw [hh]
          rintro ⟨z, hz, h⟩
          rw [List.mem_cons] at hz
          obtain rfl | hz := hz
          · exact he h
          · have := hp.1 z hz; omega
theorem mem_ins {x z : Ent} : ∀ {l : List Ent}, z ∈ ins x l → z = x ∨ z ∈ l
  | [], h => by simp [ins] at h; exact .inl h
  | y :: l, h => by
    unfold ins at h
    split at h
    · rw [List.mem_cons] at h ⊢
      obtain h | h := h
      · exact .inr (.inl h)
      · obtain h | h := mem_ins h
        · exact .inl h
        · exact .inr (.inr h)
    · split at h
      · rw [List.mem_cons] at h ⊢
        obtain h | h := h
        · exact .inl h
        · exact .inr (.inr h)
      · rw [List.mem_cons] at h
        exact h
theorem ins_filter (b : Int) (x : Ent) : ∀ l : List Ent, (ins x l).filter (fun e => decide (b < e.index)) = if b < x.index then ins x (l.filter (fun e => decide (b < e.index))) else l.filter (fun e => decide (b < e.index))
  | [] => by
    unfold ins
    by_cases hb : b < x.index <;> simp [hb, ins]
  | y :: l => by
    have ih := ins_filter b x l
    rw [ins_cons]
    by_cases h1 : y.index < x.index
    · rw [if_pos h1, List.filter_cons, List.filter_cons, ih]
      by_cases hy : b < y.index
      · have hx : b < x.index := by omega
        simp only [hy, hx, decide_true, if_true, ins_cons, h1]
      · simp only [hy, decide_false, if_false, Bool.false_eq_true]
    · rw [if_neg h1]
      by_cases h2 : y.index = x.index
      · rw [if_pos h2, List.filter_cons, List.filter_cons]
        by_cases hb : b < x.index
        · have hy : b < y.index := by omega
          simp only [hb, hy, decide_true, if_true, ins_cons, h1, h2, if_false, Int.lt_irrefl]
        · have hy : ¬ b < y.index := by omega
          simp only [hb, hy, decide_false, if_false, Bool.false_eq_true]
      · rw [if_neg h2, List.filter_cons]
        by_cases hb : b < x.index
        · have hy : b < y.index := by omega
          rw [List.filter_cons]
          simp only [hb, hy, decide_true, if_true, ins_cons, h1, h2, if_false, Int.lt_irrefl]
        · simp only [hb, decide_false, if_false, Bool.false_eq_true]
/-- One more, unless one of its index is there. -/
def insN (x : Ent) (l : List Ent) : List Ent := if ∃ y ∈ l, y.index = x.index then l else ins x l
theorem insN_filter (b : Int) (x : Ent) (l : List Ent) : (insN x l).filter (fun e => decide (b < e.index)) = if b < x.index then insN x (l.filter (fun e => decide (b < e.index))) else l.filter (fun e => decide (b < e.index)) := by
  unfold insN
  by_cases hb : b < x.index
  · rw [if_pos hb]
    have e : (∃ y ∈ l.filter (fun e => decide (b < e.index)), y.index = x.index) ↔ ∃ y ∈ l, y.index = x.index := by
      constructor
      · rintro ⟨y, hy, h⟩; exact ⟨y, (List.mem_filter.1 hy).1, h⟩
      · rintro ⟨y, hy, h⟩; exact ⟨y, List.mem_filter.2 ⟨hy, by simp; omega⟩, h⟩
    by_cases hc : ∃ y ∈ l, y.index = x.index
    · rw [if_pos hc, if_pos (e.2 hc)]
    · rw [if_neg hc, if_neg fun h => hc (e.1 h), ins_filter, if_pos hb]
  · rw [if_neg hb]
    split
    · rfl
    · rw [ins_filter, if_neg hb]
theorem rise_ins {l : List Ent} (hr : RiseL l) (x : Ent) : RiseL (ins x l) := by
  rw [← withL_ins hr]
  exact withL_rise hr
theorem rise_insN {l : List Ent} (hr : RiseL l) (x : Ent) : RiseL (insN x l) := by
  unfold insN
  split
  · exact hr
  · exact rise_ins hr x
theorem rise_filter {l : List Ent} (hr : RiseL l) (p : Ent → Bool) : RiseL (l.filter p) := rise_pw.2 ((rise_pw.1 hr).filter p)
theorem drop_filter {l : List Ent} (hr : RiseL l) (n : Int) : l.drop (placeN l (n + 1)) = l.filter (fun e => decide (n < e.index)) := by
  induction l with
  | nil => simp [placeN]
  | cons y l ih =>
    have hp := rise_pw.1 hr
    rw [List.pairwise_cons] at hp
    have ih' := ih (rise_pw.2 hp.2)
    rw [placeN_cons, List.filter_cons]
    by_cases hy : y.index < n + 1
    · rw [if_pos hy, List.drop_succ_cons, ih']
      have : ¬ n < y.index := by omega
      simp [this]
    · have hy' : n < y.index := by omega
      have e : placeN l (n + 1) = 0 := placeN_zero fun z hz => by have := hp.1 z hz; omega
      rw [if_neg hy, e]
      simp only [hy', decide_true, if_true, List.drop_zero, Nat.add_zero]
      congr 1
      symm
      rw [List.filter_eq_self]
      intro z hz
      have := hp.1 z hz
      simp; omega
end Go.Proofs.YtnoiahlpmgbhfaaDoor
/-
  hard (layer 19), in plain Lean, the second part: the two ways come to the same, which may be.
-/
set_option linter.unusedSimpArgs false
set_option linter.unusedVariables false
namespace Go.Proofs.YtnoiahlpmgbhfaaDoor
open Go.Vx Go.ChangeShapes Go.WideShapes Go.ChangeAt Go.RowKit
/-- What a log has. -/
structure Hd where
  pr : Int
  pn : Int
  base : Int
  image : List Int
  acc : List Ent
  cho : List Ent
def Hd.zero : Hd := ⟨0, 0, 0, [], [], []⟩
def lessP (r n r' n' : Int) : Prop := r < r' ∨ (r = r' ∧ n < n')
instance (r n r' n' : Int) : Decidable (lessP r n r' n') := by unfold lessP; infer_instance
def entOf (x : Rc) : Ent := ⟨x.index, x.round, x.node, x.cmd⟩
def Hd.prom (h : Hd) (x : Rc) : Hd := if lessP h.pr h.pn x.round x.node then { h with pr := x.round, pn := x.node } else h
/-- A record on what a log has. -/
noncomputable def chg (h : Hd) (x : Rc) : Hd :=
  if x.kind = 1 then h.prom x
  else if x.kind = 2 then (if (h.prom x).base < x.index then { h.prom x with acc := withL (h.prom x).acc (entOf x) } else h.prom x)
  else if x.kind = 3 then (if hitB h.cho x.index = false ∧ h.base < x.index then { h with cho := withL h.cho ⟨x.index, 0, 0, x.cmd⟩ } else h)
  else if x.index ≤ h.base then h
  else { h with base := x.index, image := x.image, acc := h.acc.drop (placeN h.acc (x.index + 1)), cho := h.cho.drop (placeN h.cho (x.index + 1)) }
noncomputable def stepH (h : Hd) (x : Rc) : Hd := if chkI x = 0 then chg h x else h
noncomputable def hardOf (l : List Rc) : Hd := l.foldl stepH Hd.zero
/-! ### The reference -/
noncomputable def r1 (h : Hd) (x : Rc) : Hd :=
  if chkI x = 0 then (if x.kind = 1 ∨ x.kind = 2 then h.prom x else if x.kind = 4 ∧ h.base < x.index then { h with base := x.index, image := x.image } else h) else h
noncomputable def accS (b : Int) (L : List Ent) (x : Rc) : List Ent := if chkI x = 0 ∧ x.kind = 2 ∧ b < x.index then ins (entOf x) L else L
noncomputable def choS (b : Int) (L : List Ent) (x : Rc) : List Ent := if chkI x = 0 ∧ x.kind = 3 ∧ b < x.index then insN (entOf x) L else L
theorem accS_filter {b b' : Int} (hb : b ≤ b') (x : Rc) (L : List Ent) : (accS b L x).filter (fun e => decide (b' < e.index)) = accS b' (L.filter (fun e => decide (b' < e.index))) x := by
  unfold accS
  by_cases h : chkI x = 0 ∧ x.kind = 2 ∧ b < x.index
  · rw [if_pos h, ins_filter]
    have e : (entOf x).index = x.index := rfl
    rw [e]
    by_cases h' : b' < x.index
    · rw [if_pos h', if_pos ⟨h.1, h.2.1, h'⟩]
    · rw [if_neg h', if_neg fun hh => h' hh.2.2]
  · rw [if_neg h, if_neg fun hh => h ⟨hh.1, hh.2.1, by omega⟩]
theorem choS_filter {b b' : Int} (hb : b ≤ b') (x : Rc) (L : List Ent) : (choS b L x).filter (fun e => decide (b' < e.index)) = choS b' (L.filter (fun e => decide (b' < e.index))) x := by
  unfold choS
  by_cases h : chkI x = 0 ∧ x.kind = 3 ∧ b < x.index
  · rw [if_pos h, insN_filter]
    have e : (entOf x).index = x.index := rfl
    rw [e]
    by_cases h' : b' < x.index
    · rw [if_pos h', if_pos ⟨h.1, h.2.1, h'⟩]
    · rw [if_neg h', if_neg fun hh => h' hh.2.2]
  · rw [if_neg h, if_neg fun hh => h ⟨hh.1, hh.2.1, by omega⟩]
theorem accF_filter {b b' : Int} (hb : b ≤ b') : ∀ (l : List Rc) (L : List Ent), (l.foldl (accS b) L).filter (fun e => decide (b' < e.index)) = l.foldl (accS b') (L.filter (fun e => decide (b' < e.index)))
  | [], L => rfl
  | x :: l, L => by rw [List.foldl_cons, List.foldl_cons, accF_filter hb l, accS_filter hb]
theorem choF_filter {b b' : Int} (hb : b ≤ b') : ∀ (l : List Rc) (L : List Ent), (l.foldl (choS b) L).filter (fun e => decide (b' < e.index)) = l.foldl (choS b') (L.filter (fun e => decide (b' < e.index)))
  | [], L => rfl
  | x :: l, L => by rw [List.foldl_cons, List.foldl_cons, choF_filter hb l, choS_filter hb]
/-- What holds of what records come to. -/
structure Good (n : Nat) (h : Hd) : Prop where
  may : mayP h.pr h.pn
  base : 0 ≤ h.base ∧ h.base ≤ 4294967296
  img : h.image.length ≤ 32768 ∧ (0 < h.base ↔ 0 < h.image.length)
  racc : RiseL h.acc
  rcho : RiseL h.cho
  nacc : h.acc.length ≤ n
  ncho : h.cho.length ≤ n
  acc : ∀ e ∈ h.acc, oneI e = 0 ∧ e.ok ∧ h.base < e.index ∧ e.round ≠ 0 ∧ ¬ lessP h.pr h.pn e.round e.node
  cho : ∀ e ∈ h.cho, oneI e = 0 ∧ e.ok ∧ h.base < e.index ∧ e.round = 0 ∧ e.node = 0
theorem good_zero : Good 0 Hd.zero := by
  refine ⟨.inl ⟨rfl, rfl⟩, by decide, by decide, ?_, ?_, by decide, by decide, ?_, ?_⟩
  · intro i j hj; simp [Hd.zero] at hj
  · intro i j hj; simp [Hd.zero] at hj
  · intro e he; simp [Hd.zero] at he
  · intro e he; simp [Hd.zero] at he
theorem ins_len (x : Ent) : ∀ l : List Ent, (ins x l).length ≤ l.length + 1
  | [] => by simp [ins]
  | y :: l => by
    have := ins_len x l
    rw [ins_cons]
    split
    · simp; omega
    · split <;> simp
theorem Good.more {n m : Nat} {h : Hd} (g : Good n h) (hm : n ≤ m) : Good m h := ⟨g.may, g.base, g.img, g.racc, g.rcho, Nat.le_trans g.nacc hm, Nat.le_trans g.ncho hm, g.acc, g.cho⟩
theorem prom_base (h : Hd) (x : Rc) : (h.prom x).base = h.base ∧ (h.prom x).image = h.image ∧ (h.prom x).acc = h.acc ∧ (h.prom x).cho = h.cho := by
  unfold Hd.prom
  split <;> exact ⟨rfl, rfl, rfl, rfl⟩
theorem good_prom {n : Nat} {h : Hd} (g : Good n h) {x : Rc} (hm : mayP x.round x.node) : Good n (h.prom x) ∧ ¬ lessP (h.prom x).pr (h.prom x).pn x.round x.node := by
  unfold Hd.prom
  by_cases hl : lessP h.pr h.pn x.round x.node
  · rw [if_pos hl]
    refine ⟨⟨hm, g.base, g.img, g.racc, g.rcho, g.nacc, g.ncho, fun e he => ?_, g.cho⟩, by unfold lessP; simp only; omega⟩
    obtain ⟨h1, h2, h3, h4, h5⟩ := g.acc e he
    refine ⟨h1, h2, h3, h4, ?_⟩
    unfold lessP at hl h5 ⊢
    simp only
    omega
  · rw [if_neg hl]
    exact ⟨g, hl⟩
/-- A record that may be keeps it so. -/
theorem good_chg {n : Nat} {h : Hd} (g : Good n h) {x : Rc} (hx : chkI x = 0) (hc : x.cmd.ok) : Good (n + 1) (chg h x) := by
  have h0 : recI x.kind x.round x.node x.index x.cmd x.image.length = 0 := hx
  obtain ⟨hk, hr, hi, hcc, ho⟩ := rec0 h0
  obtain ⟨hfit, hsm, him, hsz⟩ := fits0 h0
  unfold ranP at hr
  unfold chg
  by_cases k1 : x.kind = 1
  · rw [if_pos k1]
    exact (good_prom g (hr.1 (.inl k1)).1).1.more (by omega)
  rw [if_neg k1]
  by_cases k2 : x.kind = 2
  · rw [if_pos k2]
    obtain ⟨g1, hnl⟩ := good_prom g (x := x) (hr.1 (.inr k2)).1
    have hm := (hr.1 (.inr k2))
    split
    · rename_i hlt
      have hcmd := hcc (.inl k2)
      have hidx := hr.2 (.inl k2)
      have hone : oneI (entOf x) = 0 := by
        unfold oneI entOf
        rw [if_neg]
        · exact hcmd
        · rintro (hh | hh | hh)
          · simp only at hh; omega
          · simp only at hh; omega
          · exact hh hm.1
      have hok : (entOf x).ok := by
        have hw := hm.1
        unfold mayP at hw
        exact ⟨wf64 (n := x.index) (by omega), wf64 (n := x.round) (by omega), wf64 (n := x.node) (by omega), hc⟩
      rw [withL_ins g1.racc]
      refine ⟨g1.may, g1.base, g1.img, rise_ins g1.racc _, g1.rcho, Nat.le_trans (ins_len _ _) (by have := g1.nacc; omega), Nat.le_trans g1.ncho (by omega), fun e he => ?_, g1.cho⟩
      obtain rfl | he := mem_ins he
      · refine ⟨hone, hok, hlt, ?_, hnl⟩
        have hm1 := hm.1
        unfold mayP at hm1
        intro hz
        have : x.round = 0 := hz
        have hm2 := hm.2
        omega
      · exact g1.acc e he
    · exact g1.more (by omega)
  rw [if_neg k2]
  by_cases k3 : x.kind = 3
  · rw [if_pos k3]
    split
    · rename_i hcond
      have hcmd := hcc (.inr k3)
      have hidx := hr.2 (.inr (.inl k3))
      have hone : oneI ⟨x.index, 0, 0, x.cmd⟩ = 0 := by
        unfold oneI
        rw [if_neg]
        · exact hcmd
        · rintro (hh | hh | hh)
          · simp only at hh; omega
          · simp only at hh; omega
          · exact hh (.inl ⟨rfl, rfl⟩)
      have hok : (⟨x.index, 0, 0, x.cmd⟩ : Ent).ok := ⟨wf64 (n := x.index) (by omega), wf64 (n := 0) (by omega), wf64 (n := 0) (by omega), hc⟩
      rw [withL_ins g.rcho]
      refine ⟨g.may, g.base, g.img, g.racc, rise_ins g.rcho _, Nat.le_trans g.nacc (by omega), Nat.le_trans (ins_len _ _) (by have := g.ncho; omega), g.acc, fun e he => ?_⟩
      obtain rfl | he := mem_ins he
      · exact ⟨hone, hok, hcond.2, rfl, rfl⟩
      · exact g.cho e he
    · exact g.more (by omega)
  rw [if_neg k3]
  have k4 : x.kind = 4 := by omega
  have hidx := hr.2 (.inr (.inr k4))
  split
  · exact g.more (by omega)
  · rename_i hlt
    have hpos : 0 < x.image.length := by unfold othP at ho; omega
    rw [drop_filter g.racc, drop_filter g.rcho]
    refine ⟨g.may, by simp only; omega, by simp only; omega, rise_filter g.racc _, rise_filter g.rcho _, Nat.le_trans (List.length_filter_le _ _) (by have := g.nacc; omega), Nat.le_trans (List.length_filter_le _ _) (by have := g.ncho; omega), fun e he => ?_, fun e he => ?_⟩
    · obtain ⟨h1, h2⟩ := List.mem_filter.1 he
      obtain ⟨a1, a2, a3, a4, a5⟩ := g.acc e h1
      exact ⟨a1, a2, of_decide_eq_true h2, a4, a5⟩
    · obtain ⟨h1, h2⟩ := List.mem_filter.1 he
      obtain ⟨a1, a2, a3, a4, a5⟩ := g.cho e h1
      exact ⟨a1, a2, of_decide_eq_true h2, a4, a5⟩
end Go.Proofs.YtnoiahlpmgbhfaaDoor
/-
  hard (layer 19), in plain Lean, the third part: the reference's two passes come to the same.
-/
set_option linter.unusedSimpArgs false
set_option linter.unusedVariables false
namespace Go.Proofs.YtnoiahlpmgbhfaaDoor
open Go.Vx Go.ChangeShapes Go.WideShapes Go.ChangeAt Go.RowKit
structure Inv (pre : List Rc) (h h1 : Hd) : Prop where
  pr : h1.pr = h.pr
  pn : h1.pn = h.pn
  base : h1.base = h.base
  image : h1.image = h.image
  acc : h.acc = pre.foldl (accS h.base) []
  cho : h.cho = pre.foldl (choS h.base) []
  good : Good pre.length h
theorem inv_zero : Inv [] Hd.zero Hd.zero := ⟨rfl, rfl, rfl, rfl, rfl, rfl, good_zero⟩
theorem prom_eq {h h1 : Hd} (e1 : h1.pr = h.pr) (e2 : h1.pn = h.pn) (x : Rc) : (h1.prom x).pr = (h.prom x).pr ∧ (h1.prom x).pn = (h.prom x).pn := by
  unfold Hd.prom
  rw [e1, e2]
  by_cases hl : lessP h.pr h.pn x.round x.node
  · rw [if_pos hl, if_pos hl]; exact ⟨rfl, rfl⟩
  · rw [if_neg hl, if_neg hl]; exact ⟨e1, e2⟩
theorem inv_step {pre : List Rc} {h h1 : Hd} (i : Inv pre h h1) {x : Rc} (hc : x.cmd.ok) : Inv (pre ++ [x]) (stepH h x) (r1 h1 x) := by
  have hlen : (pre ++ [x]).length = pre.length + 1 := by simp
  by_cases hx : chkI x = 0
  rotate_left
  · have e1 : stepH h x = h := by unfold stepH; rw [if_neg hx]
    have e2 : r1 h1 x = h1 := by unfold r1; rw [if_neg hx]
    rw [e1, e2]
    refine ⟨i.pr, i.pn, i.base, i.image, ?_, ?_, by rw [hlen]; exact i.good.more (by omega)⟩
    · rw [List.foldl_append, ← i.acc, List.foldl_cons, List.foldl_nil, accS, if_neg fun hh => hx hh.1]
    · rw [List.foldl_append, ← i.cho, List.foldl_cons, List.foldl_nil, choS, if_neg fun hh => hx hh.1]
  have hg := good_chg i.good hx hc
  rw [← hlen] at hg
  have e1 : stepH h x = chg h x := by unfold stepH; rw [if_pos hx]
  rw [e1]
  have h0 : recI x.kind x.round x.node x.index x.cmd x.image.length = 0 := hx
  obtain ⟨hk, hr, hi, hcc, ho⟩ := rec0 h0
  have r1e : r1 h1 x = (if x.kind = 1 ∨ x.kind = 2 then h1.prom x else if x.kind = 4 ∧ h1.base < x.index then { h1 with base := x.index, image := x.image } else h1) := by unfold r1; rw [if_pos hx]
  rw [r1e]
  unfold chg at hg ⊢
  obtain ⟨q1, q2⟩ := prom_eq i.pr i.pn x
  obtain ⟨b1, b2, b3, b4⟩ := prom_base h x
  obtain ⟨c1, c2, c3, c4⟩ := prom_base h1 x
  have aS : ∀ b L, x.kind ≠ 2 → accS b L x = L := fun b L hh => by rw [accS, if_neg fun h => hh h.2.1]
  have cS : ∀ b L, x.kind ≠ 3 → choS b L x = L := fun b L hh => by rw [choS, if_neg fun h => hh h.2.1]
  by_cases k1 : x.kind = 1
  · rw [if_pos k1] at hg ⊢
    rw [if_pos (show x.kind = 1 ∨ x.kind = 2 from .inl k1)]
    refine ⟨q1, q2, by rw [b1, c1]; exact i.base, by rw [b2, c2]; exact i.image, ?_, ?_, hg⟩
    · rw [b3, b1, List.foldl_append, ← i.acc, List.foldl_cons, List.foldl_nil, aS _ _ (by omega)]
    · rw [b4, b1, List.foldl_append, ← i.cho, List.foldl_cons, List.foldl_nil, cS _ _ (by omega)]
  rw [if_neg k1] at hg ⊢
  by_cases k2 : x.kind = 2
  · rw [if_pos k2] at hg ⊢
    rw [if_pos (show x.kind = 1 ∨ x.kind = 2 from .inr k2)]
    by_cases hlt : (h.prom x).base < x.index
    · rw [if_pos hlt] at hg ⊢
      have hlt' : h.base < x.index := by rw [b1] at hlt; exact hlt
      refine ⟨q1, q2, by rw [c1]; simp only [b1]; exact i.base, by rw [c2]; simp only [b2]; exact i.image, ?_, ?_, hg⟩
      · simp only [b3, b1]
        rw [List.foldl_append, ← i.acc, List.foldl_cons, List.foldl_nil, accS, if_pos ⟨hx, k2, hlt'⟩, withL_ins i.good.racc]
      · simp only [b4, b1]
        rw [List.foldl_append, ← i.cho, List.foldl_cons, List.foldl_nil, cS _ _ (by omega)]
    · rw [if_neg hlt] at hg ⊢
      have hlt' : ¬ h.base < x.index := by rw [b1] at hlt; exact hlt
      refine ⟨q1, q2, by rw [c1, b1]; exact i.base, by rw [c2, b2]; exact i.image, ?_, ?_, hg⟩
      · rw [b3, b1, List.foldl_append, ← i.acc, List.foldl_cons, List.foldl_nil, accS, if_neg fun hh => hlt' hh.2.2]
      · rw [b4, b1, List.foldl_append, ← i.cho, List.foldl_cons, List.foldl_nil, cS _ _ (by omega)]
  rw [if_neg k2] at hg ⊢
  rw [if_neg (show ¬ (x.kind = 1 ∨ x.kind = 2) by omega)]
  by_cases k3 : x.kind = 3
  · rw [if_pos k3] at hg ⊢
    rw [if_neg (show ¬ (x.kind = 4 ∧ h1.base < x.index) by omega)]
    have hz : x.round = 0 ∧ x.node = 0 := Decidable.not_not.1 fun hn => ho (.inl ⟨by omega, hn⟩)
    have ee : entOf x = ⟨x.index, 0, 0, x.cmd⟩ := by unfold entOf; rw [hz.1, hz.2]
    have hh := hitB_iff i.good.rcho x.index
    by_cases hcond : hitB h.cho x.index = false ∧ h.base < x.index
    · rw [if_pos hcond] at hg ⊢
      refine ⟨i.pr, i.pn, i.base, i.image, ?_, ?_, hg⟩
      · rw [List.foldl_append, ← i.acc, List.foldl_cons, List.foldl_nil, aS _ _ (by omega)]
      · simp only
        rw [List.foldl_append, ← i.cho, List.foldl_cons, List.foldl_nil, choS, if_pos ⟨hx, k3, hcond.2⟩, withL_ins i.good.rcho, insN, ee, if_neg]
        intro hex
        rw [hh.2 hex] at hcond
        exact absurd hcond.1 (by decide)
    · rw [if_neg hcond] at hg ⊢
      refine ⟨i.pr, i.pn, i.base, i.image, ?_, ?_, hg⟩
      · rw [List.foldl_append, ← i.acc, List.foldl_cons, List.foldl_nil, aS _ _ (by omega)]
      · rw [List.foldl_append, ← i.cho, List.foldl_cons, List.foldl_nil, choS]
        by_cases hlt : h.base < x.index
        · rw [if_pos ⟨hx, k3, hlt⟩, insN, if_pos]
          have : hitB h.cho x.index = true := by
            cases hb : hitB h.cho x.index
            · exact absurd ⟨hb, hlt⟩ hcond
            · rfl
          exact hh.1 this
        · rw [if_neg fun hh => hlt hh.2.2]
  rw [if_neg k3] at hg ⊢
  have k4 : x.kind = 4 := by omega
  by_cases hle : x.index ≤ h.base
  · rw [if_pos hle] at hg ⊢
    rw [if_neg (show ¬ (x.kind = 4 ∧ h1.base < x.index) by rw [i.base]; omega)]
    refine ⟨i.pr, i.pn, i.base, i.image, ?_, ?_, hg⟩
    · rw [List.foldl_append, ← i.acc, List.foldl_cons, List.foldl_nil, aS _ _ (by omega)]
    · rw [List.foldl_append, ← i.cho, List.foldl_cons, List.foldl_nil, cS _ _ (by omega)]
  · rw [if_neg hle] at hg ⊢
    rw [if_pos (show x.kind = 4 ∧ h1.base < x.index by rw [i.base]; omega)]
    refine ⟨i.pr, i.pn, rfl, rfl, ?_, ?_, hg⟩
    · simp only
      rw [drop_filter i.good.racc, i.acc, accF_filter (by omega), List.foldl_append, List.foldl_cons, List.foldl_nil, aS _ _ (by omega), List.filter_nil]
    · simp only
      rw [drop_filter i.good.rcho, i.cho, choF_filter (by omega), List.foldl_append, List.foldl_cons, List.foldl_nil, cS _ _ (by omega), List.filter_nil]
theorem inv_fold : ∀ (l pre : List Rc) (h h1 : Hd), Inv pre h h1 → (∀ x ∈ l, x.cmd.ok) → Inv (pre ++ l) (l.foldl stepH h) (l.foldl r1 h1)
  | [], pre, h, h1, i, _ => by simpa using i
  | x :: l, pre, h, h1, i, hc => by
    have := inv_fold l (pre ++ [x]) (stepH h x) (r1 h1 x) (inv_step i (hc x (by simp))) (fun y hy => hc y (by simp [hy]))
    simpa using this
theorem hard_inv {l : List Rc} (hc : ∀ x ∈ l, x.cmd.ok) : Inv l (hardOf l) (l.foldl r1 Hd.zero) := by
  have := inv_fold l [] _ _ inv_zero hc
  unfold hardOf
  simpa using this
/-- Entries that may be, rising, are right. -/
theorem chk_of {l : List Ent} (h : ∀ x ∈ l, oneI x = 0) (hr : RiseL l) : ∀ (n k : Nat), l.length - k = n → chkK l k = 0
  | 0, k, hn => by rw [chkK, dif_neg (by omega)]
  | n + 1, k, hn => by
    have hlt : k < l.length := by omega
    rw [chkK, dif_pos hlt, if_neg (by rw [h _ (List.getElem_mem hlt)]; simp)]
    have hnext := chk_of h hr n (k + 1) (by omega)
    by_cases h0 : 0 < k
    · rw [dif_pos h0, if_neg, hnext]
      have := hr (k - 1) k hlt (by omega)
      omega
    · rw [dif_neg h0, hnext]
end Go.Proofs.YtnoiahlpmgbhfaaDoor
/-
  hard (layer 19), the fourth part: ballots: the lesser one, the greatest one; a promise.
-/
set_option linter.unusedSimpArgs false
set_option linter.unusedVariables false
namespace Go.Proofs.YtnoiahlpmgbhfaaDoor
open Go.Vx Go.ChangeShapes Go.WideShapes Go.ChangeAt Go.RowKit
abbrev twoI (a b : Int) : Obj := .cells [.int .i64 a, .int .i64 b].toArray 3 (0, 0)
theorem cmpOr_s (G : GH) (sb : Nat) (a b : Int) : Con Tryd.prog 126 #[.slice (some ⟨sb, 0, none⟩) 2 2] G [(sb, twoI a b)] (Keeps (.int .i64 (if a ≠ 0 then a else b)) G [(sb, twoI a b)]) := by
  apply Con.keeps
  refine v_enter Tryd.func126 rfl Tryd.ntmps126 rfl (fun B => ?_)
  repeat' (first | apply v_seq | apply v_region | apply v_nil | apply v_block | (apply v_pure; (case hop => first | (apply p_move <;> rfl) | (apply p_assign <;> rfl) | (apply p_lenSlice <;> rfl) | fail); (case hd => rfl)) | fail)
  refine v_loop [8, 7, 6, 3, 2] (fun us G' μ' => G' = G ∧ μ' = [(sb, twoI a b)] ∧ ∃ k : Nat, k ≤ 2 ∧ us = [Value.int .i64 (k : Nat), .int .i64 2, .slice (some ⟨sb, 0, none⟩) 2 2, .int .i64 0, .int .i64 0] ∧ (1 ≤ k → a = 0) ∧ (2 ≤ k → b = 0)) (fun us => 3 - (headI us).toNat) rfl ⟨rfl, rfl, 0, by omega, rfl, by omega, by omega⟩ ?_
  rintro us G' μ' ⟨rfl, rfl, k, hk, rfl, h1, h2⟩
  obtain rfl | rfl | rfl : k = 0 ∨ k = 1 ∨ k = 2 := by omega
  · repeat' (first | apply v_seq | apply v_region | apply v_nil | apply v_skip | apply v_block | apply v_blk | (apply v_pure; (case hop => first | (apply p_move <;> rfl) | (apply p_lt <;> rfl) | (apply p_ne <;> rfl) | (apply p_assign <;> rfl) | (apply p_add; (case hx => rfl); (case hy => rfl); (case h => omega)) | (apply p_indexAddr; (case hx => rfl); (case hi => rfl); (case h0 => omega); (case h => omega)) | fail); (case hd => rfl)) | (apply v_cond; (case hc => rfl); all_goals (intro h; (try simp only [reduceCtorEq, dec_true, dec_false, decide_eq_true_eq, decide_eq_false_iff_not, Bool.not_eq_true', Bool.not_eq_false', Option.isNone_iff_eq_none, beq_true, beq_false, beq_iff_eq, beq_eq_false_iff_ne, ne_eq, decide_eq_decide, Bool.not_eq_true, Bool.not_eq_false, Decidable.not_not] at h); first | (exfalso; omega) | skip)) | (apply v_read; (case hop => first | (apply r_load1; rfl; (apply Cell.own; (case h => (repeat (first | exact List.Mem.head _ | fail))); rfl)) | fail); (case hd => rfl)) | fail)
    · refine v_ret [(sb, _)] (outsA1 rfl rfl) (by repeat (first | exact List.Sublist.refl _ | fail)) ?_
      exact ⟨by rw [if_pos (by assumption)], rfl⟩
    · refine v_again rfl ⟨rfl, rfl, 1, by omega, rfl, fun _ => by omega, by omega⟩ (by simp [headI])
  · have h1 := h1 (by omega)
    repeat' (first | apply v_seq | apply v_region | apply v_nil | apply v_skip | apply v_block | apply v_blk | (apply v_pure; (case hop => first | (apply p_move <;> rfl) | (apply p_lt <;> rfl) | (apply p_ne <;> rfl) | (apply p_assign <;> rfl) | (apply p_add; (case hx => rfl); (case hy => rfl); (case h => omega)) | (apply p_indexAddr; (case hx => rfl); (case hi => rfl); (case h0 => omega); (case h => omega)) | fail); (case hd => rfl)) | (apply v_cond; (case hc => rfl); all_goals (intro h; (try simp only [reduceCtorEq, dec_true, dec_false, decide_eq_true_eq, decide_eq_false_iff_not, Bool.not_eq_true', Bool.not_eq_false', Option.isNone_iff_eq_none, beq_true, beq_false, beq_iff_eq, beq_eq_false_iff_ne, ne_eq, decide_eq_decide, Bool.not_eq_true, Bool.not_eq_false, Decidable.not_not] at h); first | (exfalso; omega) | skip)) | (apply v_read; (case hop => first | (apply r_load1; rfl; (apply Cell.own; (case h => (repeat (first | exact List.Mem.head _ | fail))); rfl)) | fail); (case hd => rfl)) | fail)
    · refine v_ret [(sb, _)] (outsA1 rfl rfl) (by repeat (first | exact List.Sublist.refl _ | fail)) ?_
      exact ⟨by rw [if_neg (by omega)], rfl⟩
    · refine v_again rfl ⟨rfl, rfl, 2, by omega, rfl, fun _ => by omega, fun _ => by omega⟩ (by simp [headI])
  · have h1 := h1 (by omega)
    have h2 := h2 (by omega)
    repeat' (first | apply v_seq | apply v_region | apply v_nil | (apply v_exit; (case hp => rfl)) | (apply v_pure; (case hop => first | (apply p_move <;> rfl) | (apply p_lt <;> rfl) | (apply p_assign <;> rfl) | fail); (case hd => rfl)) | (apply v_cond; (case hc => rfl); all_goals (intro h; (try simp only [reduceCtorEq, dec_true, dec_false, decide_eq_true_eq, decide_eq_false_iff_not, Bool.not_eq_true', Bool.not_eq_false', Option.isNone_iff_eq_none, beq_true, beq_false, beq_iff_eq, beq_eq_false_iff_ne, ne_eq, decide_eq_decide, Bool.not_eq_true, Bool.not_eq_false, Decidable.not_not] at h); first | (exfalso; omega) | skip)) | fail)
    refine v_ret [(sb, _)] (outsA1 rfl rfl) (by repeat (first | exact List.Sublist.refl _ | fail)) ?_
    exact ⟨by rw [if_neg (by omega), h2], rfl⟩
theorem less_s (G : GH) (r n r' n' : Int) : Con Tryd.prog 82 #[.agg #[.int .i64 r, .int .i64 n], .agg #[.int .i64 r', .int .i64 n']] G [] (Just (.bool (decide (lessP r n r' n'))) G) := by
  have q1 := cmp_s G r r'
  have q2 := cmp_s G n n'
  have qo := fun sb => cmpOr_s G sb (cmpI r r') (cmpI n n')
  have key : dec ((if cmpI r r' ≠ 0 then cmpI r r' else cmpI n n') < 0) = decide (lessP r n r' n') := by
    rw [dec_eq]
    congr 1
    rw [eq_iff_iff]
    have a1 := @cmpI_lt r r'
    have a2 := @cmpI_eq r r'
    have a3 := @cmpI_lt n n'
    unfold lessP
    by_cases h : cmpI r r' = 0
    · rw [if_neg (by omega)]; omega
    · rw [if_pos h]; omega
  apply Con.just
  refine v_enter Tryd.func82 rfl Tryd.ntmps82 rfl (fun B => ?_)
  repeat' (first | apply v_seq | apply v_region | apply v_nil | (apply v_pure; (case hop => first | (apply p_assign <;> rfl) | fail); (case hd => rfl)) | (apply v_box; (case hx => rfl); (case hz => rfl); (case hd => rfl); intro b) | fail)
  refine d_start _ (by kernel_rfl) (by kernel_rfl) (fun _ he => he) ?_
  all_goals (first | (apply d_take 0; (case hi => rfl); (case hop => first | (apply PureOp.read; apply p_fieldAddrB <;> rfl) | fail); (case hf => kernel_rfl); (case hr => kernel_rfl); (case hd => rfl)) | fail)
  all_goals (first | (apply d_take 1; (case hi => rfl); (case hop => first   | (apply r_loadNo; (case hx => rfl); (case h => (repeat (fail))); (case hd => (repeat (fail))); (case hn => rfl)) | (apply r_load1; rfl; (apply Cell.own; (case h => (repeat (first | exact List.Mem.head _ | apply List.Mem.tail | fail))); rfl)) | (apply r_loadN; rfl; (apply CellsAt.own; (case h => (repeat (fail)))); rfl)); (case hf => kernel_rfl); (case hr => kernel_rfl); (case hd => rfl)) | fail)
  all_goals (first | (apply d_take 2; (case hi => rfl); (case hop => first | (apply PureOp.read; apply p_fieldAddrB <;> rfl) | fail); (case hf => kernel_rfl); (case hr => kernel_rfl); (case hd => rfl)) | fail)
  all_goals (first | (apply d_take 3; (case hi => rfl); (case hop => first   | (apply r_loadNo; (case hx => rfl); (case h => (repeat (fail))); (case hd => (repeat (fail))); (case hn => rfl)) | (apply r_load1; rfl; (apply Cell.own; (case h => (repeat (first | exact List.Mem.head _ | fail))); rfl)) | (apply r_loadN; rfl; (apply CellsAt.own; (case h => (repeat (fail)))); rfl)); (case hf => kernel_rfl); (case hr => kernel_rfl); (case hd => rfl)) | fail)
  all_goals (first | (apply d_take 5; (case hi => rfl); (case hop => first | (apply PureOp.read; apply p_fieldAddrB <;> rfl) | fail); (case hf => kernel_rfl); (case hr => kernel_rfl); (case hd => rfl)) | fail)
  all_goals (first | (apply d_take 6; (case hi => rfl); (case hop => first   | (apply r_loadNo; (case hx => rfl); (case h => (repeat (fail))); (case hd => (repeat (fail))); (case hn => rfl)) | (apply r_load1; rfl; (apply Cell.own; (case h => (repeat (first | exact List.Mem.head _ | apply List.Mem.tail | fail))); rfl)) | (apply r_loadN; rfl; (apply CellsAt.own; (case h => (repeat (fail)))); rfl)); (case hf => kernel_rfl); (case hr => kernel_rfl); (case hd => rfl)) | fail)
  all_goals (first | (apply d_take 7; (case hi => rfl); (case hop => first | (apply PureOp.read; apply p_fieldAddrB <;> rfl) | fail); (case hf => kernel_rfl); (case hr => kernel_rfl); (case hd => rfl)) | fail)
  all_goals (first | (apply d_take 8; (case hi => rfl); (case hop => first   | (apply r_loadNo; (case hx => rfl); (case h => (repeat (fail))); (case hd => (repeat (fail))); (case hn => rfl)) | (apply r_load1; rfl; (apply Cell.own; (case h => (repeat (first | exact List.Mem.head _ | fail))); rfl)) | (apply r_loadN; rfl; (apply CellsAt.own; (case h => (repeat (fail)))); rfl)); (case hf => kernel_rfl); (case hr => kernel_rfl); (case hd => rfl)) | fail)
  all_goals (first | (apply d_callJ 4 (hs := q1); (case hi => rfl); (case hr => kernel_rfl); (case ha => rfl); (case hd => rfl)) | fail)
  all_goals (first | (apply d_callJ 9 (hs := q2); (case hi => rfl); (case hr => kernel_rfl); (case ha => rfl); (case hd => rfl)) | fail)
  all_goals (first | (apply d_buildSlice 10; (case hi => rfl); (case hr => kernel_rfl); (case hT => infer_instance); (case hL => infer_instance); (case hz => rfl); (case hl => rfl); (case hv => (simp only [List.map_cons, List.map_nil]; repeat (first | with_reducible exact evs_nil | (apply evs_cons; (case h1 => rfl))))); (case hp => (first | (apply pk_cons; (case hc => rfl); (case hs => rfl); (case h => (first | (apply pk_cons; (case hc => rfl); (case hs => rfl); (case h => (first | with_reducible exact pk_nil | fail)); (case he => (first | ((repeat (first | with_reducible exact ap_nil | apply ap_cons)); done) | fail))) | fail)); (case he => (first | ((repeat (first | with_reducible exact ap_nil | apply ap_cons)); done) | fail))) | fail)); (case hb => rfl); (case hd => rfl); (case hν => intro e he; first | exact he | fail); intro sb) | fail)
  all_goals (first | (apply d_callK 11 (hs := qo _); (case hi => rfl); (case hr => kernel_rfl); (case ha => rfl); (case hp => first | exact (Pick.perm (by repeat (first | exact Pick.here _ | fail))) | fail); (case hd => rfl)) | fail)
  all_goals (first | (apply d_take 12; (case hi => rfl); (case hop => first | (apply PureOp.read; apply p_lt <;> rfl)); (case hf => kernel_rfl); (case hr => kernel_rfl); (case hd => rfl)) | fail)
  all_goals (first | (apply d_take 13; (case hi => rfl); (case hop => first | (apply PureOp.read; apply p_assign <;> rfl)); (case hf => kernel_rfl); (case hr => kernel_rfl); (case hd => rfl)) | fail)
  all_goals (apply d_done; (case hr => kernel_rfl))
  repeat' (fail)
  refine v_ret [] (outsA1 rfl rfl) (by repeat (first | exact List.nil_sublist _ | fail)) ?_
  exact ⟨by rw [key], rfl⟩
abbrev balO (r n : Int) : Obj := .cells [.int .i64 r, .int .i64 n].toArray 25 (0, 0)
abbrev twoB (r n r' n' : Int) : Obj := .cells [.int .i64 r, .int .i64 n, .int .i64 r', .int .i64 n'].toArray 25 (0, 0)
def maxR (r n r' n' : Int) : Int × Int := if lessP r n r' n' then (r', n') else (r, n)
theorem max_s (G : GH) (sb : Nat) (r n r' n' : Int) : Con Tryd.prog 143 #[.slice (some ⟨sb, 0, none⟩) 2 2] G [(sb, twoB r n r' n')] (Keeps (.agg #[.int .i64 (maxR r n r' n').1, .int .i64 (maxR r n r' n').2]) G [(sb, twoB r n r' n')]) := by
  have ql := less_s G r n r' n'
  apply Con.keeps
  refine v_enter Tryd.func143 rfl Tryd.ntmps143 rfl (fun B => ?_)
  repeat' (first | apply v_seq | apply v_region | apply v_nil | apply v_block | (apply v_pure; (case hop => first | (apply p_move <;> rfl) | (apply p_lenSlice <;> rfl) | fail); (case hd => rfl)) | (apply v_alloc; (case hz => rfl); (case hd => rfl); intro b) | fail)
  rename_i ob
  rename Nat => tb
  refine v_loop [8, 7, 6, 3, 2] (fun us G' μ' => G' = G ∧ ∃ (k : Nat) (o1 o2 : Int), μ' = [(tb, balO o1 o2), (ob, balO 0 0), (sb, twoB r n r' n')] ∧ k ≤ 2 ∧ us = [Value.int .i64 (k : Nat), .int .i64 2, .slice (some ⟨sb, 0, none⟩) 2 2, .pointer (some ⟨tb, 0, none⟩), .pointer (some ⟨ob, 0, none⟩)] ∧ (k = 1 → o1 = r ∧ o2 = n) ∧ (k = 2 → o1 = (maxR r n r' n').1 ∧ o2 = (maxR r n r' n').2)) (fun us => 3 - (headI us).toNat) rfl ⟨rfl, 0, 0, 0, rfl, by omega, rfl, by omega, by omega⟩ ?_
  rintro us G' μ' ⟨rfl, k, o1, o2, rfl, hk, rfl, h1, h2⟩
  obtain rfl | rfl | rfl : k = 0 ∨ k = 1 ∨ k = 2 := by omega
  · repeat' (first | apply v_seq | apply v_region | apply v_nil | apply v_skip | apply v_block | apply v_blk | (apply v_pass; (case hg => rfl); (case hn => rfl); (case hd => rfl)) | (apply v_pure; (case hop => first | (apply p_move <;> rfl) | (apply p_eqs <;> rfl) | (apply p_lt <;> rfl) | (apply p_assign <;> rfl) | (apply p_pickT <;> rfl) | (apply p_add; (case hx => rfl); (case hy => rfl); (case h => omega)) | (apply p_indexAddr; (case hx => rfl); (case hi => rfl); (case h0 => omega); (case h => omega)) | fail); (case hd => rfl)) | (apply v_condT; (case hc => rfl)) | (apply v_cond; (case hc => rfl); all_goals (intro h; (try simp only [reduceCtorEq, dec_true, dec_false, decide_eq_true_eq, decide_eq_false_iff_not, Bool.not_eq_true', Bool.not_eq_false', Option.isNone_iff_eq_none, beq_true, beq_false, beq_iff_eq, beq_eq_false_iff_ne, ne_eq, decide_eq_decide, Bool.not_eq_true, Bool.not_eq_false, Decidable.not_not] at h); first | (exfalso; omega) | skip)) | (apply v_read; (case hop => first | (apply r_loadNo; (case hx => rfl); (case h => (repeat (first | exact List.Mem.head _ | apply List.Mem.tail | fail))); (case hd => (repeat (first | with_reducible exact dt_nil | apply dt_here | fail))); (case hn => rfl)) | fail); (case hd => rfl)) | (apply v_alloc; (case hz => rfl); (case hd => rfl); intro b) | (apply v_store; (case hp => rfl); (case hx => rfl); (case hc => rfl); (case hsz => rfl); (case h1 => rfl); (case hb => (repeat (first | exact List.Mem.head _ | apply List.Mem.tail | fail))); (case hfit => first | exact Nat.le_of_ble_eq_true rfl | fail); (case hov => (first | ((repeat (first | with_reducible exact ov_nil | apply ov_cons | fail)); done) | fail)); (case hu => repeat (first | exact Upd.here _ _ | apply Upd.there | fail))) | fail)
    refine v_drop (ν := [(tb, _), (ob, _), (sb, _)]) (by repeat (first | exact List.Sublist.refl _ | apply List.Sublist.cons | fail)) ?_
    refine v_again rfl ⟨rfl, 1, r, n, rfl, by omega, rfl, fun _ => ⟨rfl, rfl⟩, by omega⟩ (by simp [headI])
  · obtain ⟨rfl, rfl⟩ := h1 rfl
    unfold maxR at *
    by_cases hl : lessP o1 o2 r' n'
    · rw [decide_eq_true hl] at ql
      rw [if_pos hl] at *
      repeat' (first | apply v_seq | apply v_region | apply v_nil | apply v_skip | apply v_block | apply v_blk | (apply v_take; (case hg => rfl)) | (apply v_pure; (case hop => first | (apply p_move <;> rfl) | (apply p_eq <;> rfl) | (apply p_lt <;> rfl) | (apply p_assign <;> rfl) | (apply p_pickF <;> rfl) | (apply p_add; (case hx => rfl); (case hy => rfl); (case h => omega)) | (apply p_indexAddr; (case hx => rfl); (case hi => rfl); (case h0 => omega); (case h => omega)) | fail); (case hd => rfl)) | (apply v_condT; (case hc => rfl)) | (apply v_cond; (case hc => rfl); all_goals (intro h; (try simp only [reduceCtorEq, dec_true, dec_false, decide_eq_true_eq, decide_eq_false_iff_not, Bool.not_eq_true', Bool.not_eq_false', Option.isNone_iff_eq_none, beq_true, beq_false, beq_iff_eq, beq_eq_false_iff_ne, ne_eq, decide_eq_decide, Bool.not_eq_true, Bool.not_eq_false, Decidable.not_not] at h); first | (exfalso; omega) | skip)) | (apply v_guardB; (case h1 => rfl); (case h2 => rfl); all_goals (intro h; (try simp only [reduceCtorEq, dec_true, dec_false, decide_eq_true_eq, decide_eq_false_iff_not, Bool.not_eq_true', Bool.not_eq_false', Option.isNone_iff_eq_none, beq_true, beq_false, beq_iff_eq, beq_eq_false_iff_ne, ne_eq, decide_eq_decide, Bool.not_eq_true, Bool.not_eq_false, Decidable.not_not] at h); first | (exfalso; omega) | skip)) | (apply v_callJ (hs := ql); (case ha => rfl); (case hd => rfl)) | (apply v_read; (case hop => first | (apply r_loadNo; (case hx => rfl); (case h => (repeat (first | exact List.Mem.head _ | apply List.Mem.tail | fail))); (case hd => (repeat (first | with_reducible exact dt_nil | apply dt_here | fail))); (case hn => rfl)) | fail); (case hd => rfl)) | (apply v_alloc; (case hz => rfl); (case hd => rfl); intro b) | (apply v_store; (case hp => rfl); (case hx => rfl); (case hc => rfl); (case hsz => rfl); (case h1 => rfl); (case hb => (repeat (first | exact List.Mem.head _ | apply List.Mem.tail | fail))); (case hfit => first | exact Nat.le_of_ble_eq_true rfl | fail); (case hov => (first | ((repeat (first | with_reducible exact ov_nil | apply ov_cons | fail)); done) | fail)); (case hu => repeat (first | exact Upd.here _ _ | apply Upd.there | fail))) | fail)
      refine v_drop (ν := [(tb, _), (ob, _), (sb, _)]) (by repeat (first | exact List.Sublist.refl _ | apply List.Sublist.cons | fail)) ?_
      refine v_again rfl ⟨rfl, 2, r', n', rfl, by omega, rfl, by omega, fun _ => ⟨rfl, rfl⟩⟩ (by simp [headI])
    · rw [decide_eq_false hl] at ql
      rw [if_neg hl] at *
      repeat' (first | apply v_seq | apply v_region | apply v_nil | apply v_skip | apply v_block | apply v_blk | (apply v_take; (case hg => rfl)) | (apply v_pure; (case hop => first | (apply p_move <;> rfl) | (apply p_eq <;> rfl) | (apply p_lt <;> rfl) | (apply p_assign <;> rfl) | (apply p_pickF <;> rfl) | (apply p_add; (case hx => rfl); (case hy => rfl); (case h => omega)) | (apply p_indexAddr; (case hx => rfl); (case hi => rfl); (case h0 => omega); (case h => omega)) | fail); (case hd => rfl)) | (apply v_condF; (case hc => rfl)) | (apply v_cond; (case hc => rfl); all_goals (intro h; (try simp only [reduceCtorEq, dec_true, dec_false, decide_eq_true_eq, decide_eq_false_iff_not, Bool.not_eq_true', Bool.not_eq_false', Option.isNone_iff_eq_none, beq_true, beq_false, beq_iff_eq, beq_eq_false_iff_ne, ne_eq, decide_eq_decide, Bool.not_eq_true, Bool.not_eq_false, Decidable.not_not] at h); first | (exfalso; omega) | skip)) | (apply v_guardB; (case h1 => rfl); (case h2 => rfl); all_goals (intro h; (try simp only [reduceCtorEq, dec_true, dec_false, decide_eq_true_eq, decide_eq_false_iff_not, Bool.not_eq_true', Bool.not_eq_false', Option.isNone_iff_eq_none, beq_true, beq_false, beq_iff_eq, beq_eq_false_iff_ne, ne_eq, decide_eq_decide, Bool.not_eq_true, Bool.not_eq_false, Decidable.not_not] at h); first | (exfalso; omega) | skip)) | (apply v_callJ (hs := ql); (case ha => rfl); (case hd => rfl)) | (apply v_read; (case hop => first | (apply r_loadNo; (case hx => rfl); (case h => (repeat (first | exact List.Mem.head _ | apply List.Mem.tail | fail))); (case hd => (repeat (first | with_reducible exact dt_nil | apply dt_here | fail))); (case hn => rfl)) | fail); (case hd => rfl)) | (apply v_alloc; (case hz => rfl); (case hd => rfl); intro b) | (apply v_store; (case hp => rfl); (case hx => rfl); (case hc => rfl); (case hsz => rfl); (case h1 => rfl); (case hb => (repeat (first | exact List.Mem.head _ | fail))); (case hfit => first | exact Nat.le_of_ble_eq_true rfl | fail); (case hov => (first | ((repeat (first | with_reducible exact ov_nil | apply ov_cons | fail)); done) | fail)); (case hu => repeat (first | exact Upd.here _ _ | fail))) | fail)
      refine v_drop (ν := [(tb, _), (ob, _), (sb, _)]) (by repeat (first | exact List.Sublist.refl _ | apply List.Sublist.cons | fail)) ?_
      refine v_again rfl ⟨rfl, 2, o1, o2, rfl, by omega, rfl, by omega, fun _ => ⟨rfl, rfl⟩⟩ (by simp [headI])
  · obtain ⟨rfl, rfl⟩ := h2 rfl
    repeat' (first | apply v_seq | apply v_region | apply v_nil | (apply v_exit; (case hp => rfl)) | (apply v_pure; (case hop => first | (apply p_lt <;> rfl) | fail); (case hd => rfl)) | (apply v_cond; (case hc => rfl); all_goals (intro h; (try simp only [reduceCtorEq, dec_true, dec_false, decide_eq_true_eq, decide_eq_false_iff_not, Bool.not_eq_true', Bool.not_eq_false', Option.isNone_iff_eq_none, beq_true, beq_false, beq_iff_eq, beq_eq_false_iff_ne, ne_eq, decide_eq_decide, Bool.not_eq_true, Bool.not_eq_false, Decidable.not_not] at h); first | (exfalso; omega) | skip)) | (apply v_read; (case hop => first | (apply r_loadNo; (case hx => rfl); (case h => (repeat (first | exact List.Mem.head _ | fail))); (case hd => (repeat (first | with_reducible exact dt_nil | apply dt_here | fail))); (case hn => rfl)) | fail); (case hd => rfl)) | (apply v_store; (case hp => rfl); (case hx => rfl); (case hc => rfl); (case hsz => rfl); (case h1 => rfl); (case hb => (repeat (first | exact List.Mem.head _ | apply List.Mem.tail | fail))); (case hfit => first | exact Nat.le_of_ble_eq_true rfl | fail); (case hov => (first | ((repeat (first | with_reducible exact ov_nil | apply ov_cons | fail)); done) | fail)); (case hu => repeat (first | exact Upd.here _ _ | apply Upd.there | fail))) | fail)
    refine v_retM [(sb, _)] (outsM_cell (vs := [.int .i64 (maxR r n r' n').1, .int .i64 (maxR r n r' n').2]) (e := 25) rfl rfl (by repeat (first | exact List.Mem.head _ | apply List.Mem.tail)) rfl) (by repeat (first | exact List.Sublist.refl _ | apply List.Sublist.cons | fail)) ?_
    exact ⟨rfl, rfl⟩
/-! ### What a log has, in cells -/
def hdL (pr pn base : Int) (iv av cv : Value) : List Value := [.int .i64 pr, .int .i64 pn, .int .i64 base, iv, av, cv]
theorem prom_max (h : Hd) (x : Rc) : h.prom x = { h with pr := (maxR h.pr h.pn x.round x.node).1, pn := (maxR h.pr h.pn x.round x.node).2 } := by
  unfold Hd.prom maxR
  split <;> rfl
theorem promise_s (G : GH) (hb : Nat) (pr pn base r n : Int) (iv av cv : Value) : Con Tryd.prog 103 #[.pointer (some ⟨hb, 0, none⟩), .agg #[.int .i64 r, .int .i64 n]] G [(hb, .cells (hdL pr pn base iv av cv).toArray 91 (0, 0))]
    (fun _ G' μ' => G' = G ∧ μ' = [(hb, .cells (hdL (maxR pr pn r n).1 (maxR pr pn r n).2 base iv av cv).toArray 91 (0, 0))]) := by
  have qm := fun sb => max_s G sb pr pn r n
  refine v_enter Tryd.func103 rfl Tryd.ntmps103 rfl (fun B => ?_)
  repeat' (first | apply v_seq | apply v_region | apply v_nil | (apply v_box; (case hx => rfl); (case hz => rfl); (case hd => rfl); intro b) | fail)
  refine d_start [(b, balO r n)] (by kernel_rfl) (by kernel_rfl) (by intro e he; first | (simp at he; simp [he]) | fail) ?_
  all_goals (first | (apply d_take 0; (case hi => rfl); (case hop => first | (apply PureOp.read; apply p_move <;> rfl)); (case hf => kernel_rfl); (case hr => kernel_rfl); (case hd => rfl)) | fail)
  all_goals (first | (apply d_take 1; (case hi => rfl); (case hop => first | (apply PureOp.read; apply p_move <;> rfl)); (case hf => kernel_rfl); (case hr => kernel_rfl); (case hd => rfl)) | fail)
  all_goals (first | (apply d_take 2; (case hi => rfl); (case hop => first | (apply PureOp.read; apply p_nilCheck <;> rfl)); (case hf => kernel_rfl); (case hr => kernel_rfl); (case hd => rfl)) | fail)
  all_goals (first | (apply d_take 3; (case hi => rfl); (case hop => first | (apply PureOp.read; apply p_fieldAddrB <;> rfl) | fail); (case hf => kernel_rfl); (case hr => kernel_rfl); (case hd => rfl)) | fail)
  all_goals (first | (apply d_take 4; (case hi => rfl); (case hop => first | (apply PureOp.read; apply p_fieldAddrB <;> rfl) | fail); (case hf => kernel_rfl); (case hr => kernel_rfl); (case hd => rfl)) | fail)
  all_goals (first | (apply d_take 6; (case hi => rfl); (case hop => first   | (apply r_loadNo; (case hx => rfl); (case h => (repeat (first | exact List.Mem.head _ | fail))); (case hd => (repeat (first | with_reducible exact dt_nil | apply dt_here | fail))); (case hn => rfl)) | (apply r_load1; rfl; (apply Cell.own; (case h => (repeat (fail))); rfl)) | (apply r_loadN; rfl; (apply CellsAt.own; (case h => (repeat (fail)))); rfl)); (case hf => kernel_rfl); (case hr => kernel_rfl); (case hd => rfl)) | fail)
  all_goals (first | (apply d_keep 5 (hop := ReadOp.move ?hop); (case hi => rfl); (case hr => kernel_rfl); (case hop => (apply r_loadNo; (case hx => rfl); (case h => repeat (first | exact List.Mem.head _ | apply List.Mem.tail | fail)); (case hd => repeat (first | with_reducible exact dt_nil | apply dt_here | fail)); (case hn => rfl))); (case hd => rfl)) | fail)
  all_goals (first | (apply d_buildSlice 7; (case hi => rfl); (case hr => kernel_rfl); (case hT => infer_instance); (case hL => infer_instance); (case hz => rfl); (case hl => rfl); (case hv => (simp only [List.map_cons, List.map_nil]; repeat (first | with_reducible exact evs_nil | (apply evs_cons; (case h1 => rfl))))); (case hp => (first | (apply pk_cons; (case hc => rfl); (case hs => rfl); (case h => (first | (apply pk_cons; (case hc => rfl); (case hs => rfl); (case h => (first | with_reducible exact pk_nil | fail)); (case he => (first | ((repeat (first | with_reducible exact ap_nil | apply ap_cons)); done) | fail))) | fail)); (case he => (first | ((repeat (first | with_reducible exact ap_nil | apply ap_cons)); done) | fail))) | fail)); (case hb => rfl); (case hd => rfl); (case hν => intro e he; first | (simp at he; simp [he]) | fail); intro sb) | fail)
  all_goals (first | (apply d_callK 8 (hs := qm _); (case hi => rfl); (case hr => kernel_rfl); (case ha => rfl); (case hp => first | exact (Pick.perm (by repeat (first | exact Pick.here _ | fail))) | fail); (case hd => rfl)) | fail)
  all_goals (first | (apply d_take 9; (case hi => rfl); (case hop => first | (apply PureOp.read; apply p_nilCheck <;> rfl)); (case hf => kernel_rfl); (case hr => kernel_rfl); (case hd => rfl)) | fail)
  all_goals (first | (apply d_take 10; (case hi => rfl); (case hop => first | (apply PureOp.read; apply p_fieldAddrB <;> rfl) | fail); (case hf => kernel_rfl); (case hr => kernel_rfl); (case hd => rfl)) | fail)
  all_goals (first | (apply d_take 11; (case hi => rfl); (case hop => first | (apply PureOp.read; apply p_fieldAddrB <;> rfl) | fail); (case hf => kernel_rfl); (case hr => kernel_rfl); (case hd => rfl)) | fail)
  all_goals (first | (apply d_store 12; (case hi => rfl); (case hr => kernel_rfl); (case hL => infer_instance); (case hp => rfl); (case hx => rfl); (case hc => rfl); (case hsz => rfl); (case h1 => rfl); (case hb => (repeat (first | exact List.Mem.head _ | apply List.Mem.tail | fail))); (case hfit => first | exact Nat.le_of_ble_eq_true rfl | fail); (case hov => (first | ((repeat (first | with_reducible exact ov_nil | apply ov_cons | fail)); done) | fail)); (case hu => repeat (first | exact Upd.here _ _ | apply Upd.there | fail)); (case hν' => intro e he; first | (simp at he; simp [he]) | fail)) | fail)
  all_goals (apply d_done; (case hr => kernel_rfl))
  repeat' (fail)
  refine v_end [(hb, _)] (outsA0 rfl) (by repeat (first | exact List.Sublist.refl _ | apply List.Sublist.cons | fail)) ?_
  exact ⟨rfl, rfl⟩
/-- What a log has lies in cells; what is long is frozen. -/
def HdV (G : GH) (h : Hd) (L : List Value) : Prop := ∃ iv av cv, L = hdL h.pr h.pn h.base iv av cv ∧ Sl G 1 (IntR .u8) iv h.image ∧ Es G av h.acc ∧ Es G cv h.cho
theorem esle {G G' : GH} {v : Value} {l : List Ent} (h : Es G v l) (hle : GH.le G G') : Es G' v l := Sl.le h hle fun _ _ h => h
theorem HdV.le {G G' : GH} {h : Hd} {L : List Value} (hh : HdV G h L) (hle : GH.le G G') : HdV G' h L := let ⟨iv, av, cv, h1, h2, h3, h4⟩ := hh; ⟨iv, av, cv, h1, h2.mono hle, esle h3 hle, esle h4 hle⟩
abbrev hdO (L : List Value) : Obj := .cells L.toArray 91 (0, 0)
/-- A record that was accepted. -/
noncomputable def accH (h : Hd) (x : Rc) : Hd := if (h.prom x).base < x.index then { h.prom x with acc := withL (h.prom x).acc (entOf x) } else h.prom x
theorem accept_s {G : GH} {H : Hd} {L : List Value} {x : Rc} {xv : Value} {n : Nat} (hb : Nat) (hh : HdV G H L) (g : Good n H) (hn : n ≤ 200) (hx : RcV G x xv) (hok : ∀ e ∈ withL H.acc (entOf x), e.ok) :
    Con Tryd.prog 104 #[.pointer (some ⟨hb, 0, none⟩), xv] G [(hb, hdO L)] (fun _ G' μ' => ∃ L', μ' = [(hb, hdO L')] ∧ HdV G' (accH H x) L') := by
  obtain ⟨im, av, cv, rfl, hi, ha, hc⟩ := hh
  obtain ⟨A1, c1, rfl, -⟩ := id ha.open
  obtain ⟨iv, rfl, hxi⟩ := hx
  have qp := promise_s G hb H.pr H.pn H.base x.round x.node im (.slice A1 H.acc.length c1) cv
  have qw := with_s (entOf x) ha g.racc (by have := g.nacc; omega)
  have ep := prom_max H x
  unfold accH
  rw [ep]
  generalize hm : maxR H.pr H.pn x.round x.node = m at *
  refine v_enter Tryd.func104 rfl Tryd.ntmps104 rfl (fun B => ?_)
  repeat' (first | apply v_seq | apply v_region | apply v_nil | (apply v_pure; (case hop => first | (apply p_move <;> rfl) | (apply p_fieldAddrB <;> rfl) | fail); (case hd => rfl)) | (apply v_box (zs := recL x.kind x.round x.node x.index x.cmd iv); (case hx => rfl); (case hz => rfl); (case hd => rfl); intro xb) | (apply v_read; (case hop => first | (apply r_loadNo; (case hx => rfl); (case h => (repeat (first | exact List.Mem.head _ | fail))); (case hd => (repeat (first | with_reducible exact dt_nil | apply dt_here | fail))); (case hn => rfl)) | fail); (case hd => rfl)) | fail)
  refine v_call (μ1 := [(hb, _)]) (μ2 := _) rfl qp (PickA.perm (by repeat (first | exact PickA.last | apply PickA.cons | fail))) rfl ?_
  rintro _ _ _ - ⟨rfl, rfl⟩
  repeat' (first | apply v_seq | apply v_nil | fail)
  refine d_start _ (by kernel_rfl) (by kernel_rfl) (fun _ he => he) ?_
  all_goals (first | (apply d_take 0; (case hi => rfl); (case hop => first | (apply PureOp.read; apply p_fieldAddrB <;> rfl) | fail); (case hf => kernel_rfl); (case hr => kernel_rfl); (case hd => rfl)) | fail)
  all_goals (first | (apply d_take 1; (case hi => rfl); (case hop => first   | (apply r_loadNo; (case hx => rfl); (case h => (repeat (fail))); (case hd => (repeat (fail))); (case hn => rfl)) | (apply r_load1; rfl; (apply Cell.own; (case h => (repeat (first | exact List.Mem.head _ | apply List.Mem.tail | fail))); rfl)) | (apply r_loadN; rfl; (apply CellsAt.own; (case h => (repeat (fail)))); rfl)); (case hf => kernel_rfl); (case hr => kernel_rfl); (case hd => rfl)) | fail)
  all_goals (first | (apply d_take 2; (case hi => rfl); (case hop => first | (apply PureOp.read; apply p_move <;> rfl)); (case hf => kernel_rfl); (case hr => kernel_rfl); (case hd => rfl)) | fail)
  all_goals (first | (apply d_take 3; (case hi => rfl); (case hop => first | (apply PureOp.read; apply p_nilCheck <;> rfl)); (case hf => kernel_rfl); (case hr => kernel_rfl); (case hd => rfl)) | fail)
  all_goals (first | (apply d_take 4; (case hi => rfl); (case hop => first | (apply PureOp.read; apply p_fieldAddrB <;> rfl) | fail); (case hf => kernel_rfl); (case hr => kernel_rfl); (case hd => rfl)) | fail)
  all_goals (first | (apply d_take 5; (case hi => rfl); (case hop => first | (apply PureOp.read; apply p_fieldAddrB <;> rfl) | fail); (case hf => kernel_rfl); (case hr => kernel_rfl); (case hd => rfl)) | fail)
  all_goals (first | (apply d_take 6; (case hi => rfl); (case hop => first   | (apply r_loadNo; (case hx => rfl); (case h => (repeat (fail))); (case hd => (repeat (fail))); (case hn => rfl)) | (apply r_load1; rfl; (apply Cell.own; (case h => (repeat (first | exact List.Mem.head _ | fail))); rfl)) | (apply r_loadN; rfl; (apply CellsAt.own; (case h => (repeat (fail)))); rfl)); (case hf => kernel_rfl); (case hr => kernel_rfl); (case hd => rfl)) | fail)
  all_goals (first | (apply d_take 7; (case hi => rfl); (case hop => first | (apply PureOp.read; apply p_gt <;> rfl)); (case hf => kernel_rfl); (case hr => kernel_rfl); (case hd => rfl)) | fail)
  all_goals (apply d_done; (case hr => kernel_rfl))
  repeat' (first | apply v_skip | (apply v_cond; (case hc => rfl); all_goals (intro h; (try simp only [reduceCtorEq, dec_true, dec_false, decide_eq_true_eq, decide_eq_false_iff_not, Bool.not_eq_true', Bool.not_eq_false', Option.isNone_iff_eq_none, beq_true, beq_false, beq_iff_eq, beq_eq_false_iff_ne, ne_eq, decide_eq_decide, Bool.not_eq_true, Bool.not_eq_false, Decidable.not_not] at h); first | skip)) | fail)
  · have hlt := h
    refine d_start [(xb, .cells (recL x.kind x.round x.node x.index x.cmd iv).toArray 29 (0, 0))] (by kernel_rfl) (by kernel_rfl) (by intro e he; first | (simp at he; simp [he]) | fail) ?_
    all_goals (first | (apply d_take 0; (case hi => rfl); (case hop => first | (apply PureOp.read; apply p_move <;> rfl)); (case hf => kernel_rfl); (case hr => kernel_rfl); (case hd => rfl)) | fail)
    all_goals (first | (apply d_take 1; (case hi => rfl); (case hop => first | (apply PureOp.read; apply p_move <;> rfl)); (case hf => kernel_rfl); (case hr => kernel_rfl); (case hd => rfl)) | fail)
    all_goals (first | (apply d_take 2; (case hi => rfl); (case hop => first | (apply PureOp.read; apply p_nilCheck <;> rfl)); (case hf => kernel_rfl); (case hr => kernel_rfl); (case hd => rfl)) | fail)
    all_goals (first | (apply d_take 3; (case hi => rfl); (case hop => first | (apply PureOp.read; apply p_fieldAddrB <;> rfl) | fail); (case hf => kernel_rfl); (case hr => kernel_rfl); (case hd => rfl)) | fail)
    all_goals (first | (apply d_take 4; (case hi => rfl); (case hop => first | (apply PureOp.read; apply p_fieldAddrB <;> rfl) | fail); (case hf => kernel_rfl); (case hr => kernel_rfl); (case hd => rfl)) | fail)
    all_goals (first | (apply d_take 6; (case hi => rfl); (case hop => first | (apply PureOp.read; apply p_fieldAddrB <;> rfl) | fail); (case hf => kernel_rfl); (case hr => kernel_rfl); (case hd => rfl)) | fail)
    all_goals (first | (apply d_take 7; (case hi => rfl); (case hop => first   | (apply r_loadNo; (case hx => rfl); (case h => (repeat (fail))); (case hd => (repeat (fail))); (case hn => rfl)) | (apply r_load1; rfl; (apply Cell.own; (case h => (repeat (first | exact List.Mem.head _ | fail))); rfl)) | (apply r_loadN; rfl; (apply CellsAt.own; (case h => (repeat (fail)))); rfl)); (case hf => kernel_rfl); (case hr => kernel_rfl); (case hd => rfl)) | fail)
    all_goals (first | (apply d_take 8; (case hi => rfl); (case hop => first | (apply PureOp.read; apply p_fieldAddrB <;> rfl) | fail); (case hf => kernel_rfl); (case hr => kernel_rfl); (case hd => rfl)) | fail)
    all_goals (first | (apply d_take 9; (case hi => rfl); (case hop => first   | (apply r_loadNo; (case hx => rfl); (case h => (repeat (first | exact List.Mem.head _ | fail))); (case hd => (repeat (first | with_reducible exact dt_nil | apply dt_here | fail))); (case hn => rfl)) | (apply r_load1; rfl; (apply Cell.own; (case h => (repeat (fail))); rfl)) | (apply r_loadN; rfl; (apply CellsAt.own; (case h => (repeat (fail)))); rfl)); (case hf => kernel_rfl); (case hr => kernel_rfl); (case hd => rfl)) | fail)
    all_goals (first | (apply d_take 10; (case hi => rfl); (case hop => first | (apply PureOp.read; apply p_fieldAddrB <;> rfl) | fail); (case hf => kernel_rfl); (case hr => kernel_rfl); (case hd => rfl)) | fail)
    all_goals (first | (apply d_take 11; (case hi => rfl); (case hop => first   | (apply r_loadNo; (case hx => rfl); (case h => (repeat (first | exact List.Mem.head _ | fail))); (case hd => (repeat (first | with_reducible exact dt_nil | apply dt_here | fail))); (case hn => rfl)) | (apply r_load1; rfl; (apply Cell.own; (case h => (repeat (fail))); rfl)) | (apply r_loadN; rfl; (apply CellsAt.own; (case h => (repeat (fail)))); rfl)); (case hf => kernel_rfl); (case hr => kernel_rfl); (case hd => rfl)) | fail)
    all_goals (first | (apply d_take 12; (case hi => rfl); (case hop => first | (apply PureOp.read; apply p_build; (case hz => rfl); (case hv => (simp only [List.map_cons, List.map_nil]; repeat (first | with_reducible exact evs_nil | (apply evs_cons; (case h1 => rfl))))); (case hb => (apply bldL; repeat (first | exact bld_nil | (apply bld_cons; (case hpf => rfl); (case hc => rfl); (case hs => rfl); (case hl => rfl); (case ho => (first | ((repeat (first | with_reducible exact ov_nil | apply ov_cons | fail)); done) | fail)))))))); (case hf => kernel_rfl); (case hr => kernel_rfl); (case hd => rfl)) | fail)
    all_goals (first | (apply d_keep 5 (hop := ReadOp.move ?hop); (case hi => rfl); (case hr => kernel_rfl); (case hop => (apply r_load1; rfl; (apply Cell.own; (case h => repeat (first | exact List.Mem.head _ | fail)); rfl))); (case hd => rfl)) | fail)
    all_goals (first | ((apply d_call 13 (hs := qw); (case hi => rfl); (case hr => kernel_rfl);  (case ha => rfl); (case hp => exact List.Perm.refl _); (case hd => rfl); (case hν' => intro e he; simp at he; simp [he]); rintro r1 G1 ν1 - ⟨rfl, hg1⟩; obtain ⟨A2, c2, rfl, -, -⟩ := hg1.shape)) | fail)
    all_goals (first | (apply d_take 14; (case hi => rfl); (case hop => first | (apply PureOp.read; apply p_nilCheck <;> rfl)); (case hf => kernel_rfl); (case hr => kernel_rfl); (case hd => rfl)) | fail)
    all_goals (first | (apply d_take 15; (case hi => rfl); (case hop => first | (apply PureOp.read; apply p_fieldAddrB <;> rfl) | fail); (case hf => kernel_rfl); (case hr => kernel_rfl); (case hd => rfl)) | fail)
    all_goals (first | (apply d_take 16; (case hi => rfl); (case hop => first | (apply PureOp.read; apply p_fieldAddrB <;> rfl) | fail); (case hf => kernel_rfl); (case hr => kernel_rfl); (case hd => rfl)) | fail)
    all_goals (first | (apply d_store 17; (case hi => rfl); (case hr => kernel_rfl); (case hL => infer_instance); (case hp => rfl); (case hx => rfl); (case hc => rfl); (case hsz => rfl); (case h1 => rfl); (case hb => (repeat (first | exact List.Mem.head _ | apply List.mem_append_right))); (case hfit => first | exact Nat.le_of_ble_eq_true rfl | fail); (case hov => (first | ((repeat (first | with_reducible exact ov_nil | apply ov_cons | fail)); done) | fail)); (case hu => repeat (first | exact Upd.here _ _ | apply Upd.app)); (case hν' => intro e he; first | (simp at he; simp [he]) | fail)) | fail)
    all_goals (apply d_done; (case hr => kernel_rfl))
    repeat' (fail)
    refine v_frz ν1 (by repeat (first | exact PickA.here _ | fail)) ?_
    intro G2 hle2 hG2
    refine v_end [(hb, _)] (outsA0 rfl) (by repeat (first | exact List.nil_sublist _ | apply List.Sublist.cons_cons | fail)) ?_
    rw [if_pos hlt]
    exact ⟨_, rfl, _, _, _, rfl, hi.mono hle2, es_of_grow hg1 hG2 hok, esle hc hle2⟩
  · have hlt := h
    refine v_end [(hb, _)] (outsA0 rfl) (by repeat (first | exact List.nil_sublist _ | apply List.Sublist.cons_cons | fail)) ?_
    rw [if_neg hlt]
    exact ⟨_, rfl, _, _, _, rfl, hi, ha, hc⟩
end Go.Proofs.YtnoiahlpmgbhfaaDoor
/-
  VX, A REGION THAT DRAWS ITS ORDER, TWO OPERATIONS READY: either may come first.
-/
set_option linter.unusedVariables false
set_option linter.unusedSimpArgs false
namespace Go.Vx
open Go
attribute [local semireducible] Vc DVc Con PureOp ReadOp MoveOp
/-- Operation i comes next. -/
def DX (P : Program) (fn : Func) (n : Nat) (B : Base) (Φ : Value → GH → OH → Prop) (all : Array Oper) (G0 : GH) (ν : OH) (m : Nat) (listed : Array Bool) (k : List It) (σ : Env) (G : GH) (μ : OH) (i : Nat) : Prop :=
  Region.noSelect all = true → GH.le G0 G → (∀ e ∈ ν, e ∈ μ) → ∀ w, Step B.G B.μ B.w G μ w → ∀ a, Holds n σ a → wpOp P all (Kont P n (bodyPost P fn (Back (Fin B Φ))) k) i (fun a' w' => Sees G0 ν w' ∧ wpAnyH P .any all (Kont P n (bodyPost P fn (Back (Fin B Φ))) k) (Sees G0 ν) m (listed.setIfInBounds i true) a' w') a w
section
variable {P : Program} {fn : Func} {n : Nat} {B : Base} {Φ : Value → GH → OH → Prop} {k : List It} {σ : Env} {G G0 : GH} {μ : OH} {all : Array Oper} {m : Nat} {listed : Array Bool} {d : Nat} {op : Op} {ty : TypeId} {pos : String} {af : Array Edge} {v : Value}
theorem d_fork {ν : OH} (i j : Nat) (hr : Region.ready .any all listed = [i, j]) (h1 : DX P fn n B Φ all G0 ν m listed k σ G μ i) (h2 : DX P fn n B Φ all G0 ν m listed k σ G μ j) : DVc P fn n B Φ all G0 ν (m + 1) listed k σ G μ := by
  intro hsel hle hν w hw a ha
  refine wpAnyH_all hr (by simp) fun x hx => ?_
  simp only [List.mem_cons, List.mem_singleton, List.not_mem_nil, or_false] at hx
  obtain rfl | rfl := hx
  · exact h1 hsel hle hν w hw a ha
  · exact h2 hsel hle hν w hw a ha
theorem x_exec {ν : OH} (i : Nat) {Ψ : Value → GH → OH → Prop} (hi : all[i]? = some ⟨some d, op, ty, pos, af, none⟩) (hop : MoveOp P op ty σ G μ Ψ) (hd : Nat.blt d n = true)
    (h : ∀ v G' μ', Ψ v G' μ' → (∀ e ∈ ν, e ∈ μ') ∧ DVc P fn n B Φ all G0 ν m (listed.setIfInBounds i true) k ((d, v) :: σ) G' μ') : DX P fn n B Φ all G0 ν m listed k σ G μ i := by
  intro hsel hle hν w hw a ha
  have hd' : d < n := by simpa [Nat.blt_eq] using hd
  unfold wpOp
  simp only [hi, Region.wanted, if_true]
  refine .inl (hop _ pos af none a.eval ha.agree w hw.mem a _ _ fun v w' G' μ' hs hΨ => ?_)
  obtain ⟨hν', hd⟩ := h v G' μ' hΨ
  have hle' := GH.le_trans hle hs.le
  exact ⟨hs.mem.seesOf hle' hν', hd hsel hle' hν' w' (hw.trans hs) _ (ha.put hd' v)⟩
end
end Go.Vx
