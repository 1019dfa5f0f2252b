/-
  VX: copy, append of zeros, slices.overlaps.
-/
import Derived.Test.YtfckggkmiegokaaDoorVxStruct
import Derived.Lib.AppendZerosOnto
import Derived.Lib.Overlaps
set_option linter.unusedVariables false
set_option linter.unusedSimpArgs false
namespace Go.Vx
attribute [local semireducible] Vc MoveOp PureOp ReadOp DVc Con
open Go Go.Lib
section
variable {P : Program} {fn : Func} {n : Nat} {B : Base} {Φ : Value → GH → OH → Prop} {k : List It} {rest : List Oper} {all : Array Oper} {σ : Env} {G : GH} {μ : OH} {d : Nat} {t ty : TypeId} {pos : String} {af : Array Edge} {bytes : Nat} {zero : Value}
theorem m_copy {e : TypeId} {agg : Bool} {sz : Nat} {y x : Operand} {b o m c m' q : Nat} {u : Value} {vs us vs' : List Value} {μ' : OH} [Ty P t (.slice e)] [Lay P e agg sz bytes zero] (hy : Env.ev σ y = some (.slice (some ⟨b, o, none⟩) m c)) (hx : Env.ev σ x = some u) (hq : Nat.min m' m = q) (hm : 0 < m') (hsrc : Src G μ u m' sz us)
    (hb : Has μ b vs e) (h1 : (us.take (q * sz)).all Value.oneCell' = true) (hfit : o + q * sz ≤ vs.length) (hov : over vs o (us.take (q * sz)) = vs') (hu : Upd b (.cells vs'.toArray e (0, 0)) μ μ') :
    MoveOp P (.call { callee := .builtin .copy, args := #[y, x], argTypes := #[t, t] }) ty σ G μ (fun v' G' μ'' => v' = .int .i64 q ∧ G' = G ∧ μ'' = μ') := by
  intro dst pos af g ρ hρ w hw a K Q hK
  obtain ⟨i, hi, hi1, hi2, hi3⟩ := Lay.infoEx (P := P) (t := e) (agg := agg) (size := sz) (bytes := bytes) (zero := zero) inferInstance
  have ht : P.underlying t = some (.slice e) := Ty.h
  obtain ⟨hus, A, c', rfl, hA⟩ := hsrc
  obtain ⟨ad, rfl, hcs⟩ := hA hm
  have hqm : q ≤ m' := by rw [← hq]; exact Nat.min_le_left _ _
  have hlen : (us.take (q * sz)).length = q * sz := by
    rw [List.length_take, hus]
    exact Nat.min_eq_left (Nat.mul_le_mul_right _ hqm)
  have hl := run_firstCells_some (P := P) w i.size q ad m' c' (us.take (q * sz)) (by rw [hlen, hi1]) (fun j v hv => by
    rw [List.getElem?_take] at hv
    split at hv
    · exact hcs j v hv w hw.sees
    · cases hv)
  have hst := run_storeCells_at P b o e (us.take (q * sz)) 0 vs.toArray w (hw.own b _ hb) (by simp only [Nat.add_zero, List.size_toArray, hlen]; exact hfit) (fun v hv => List.all_eq_true.1 h1 v hv)
  simp only [Nat.add_zero] at hst
  have hov' : (vs.toArray.toList.take o ++ us.take (q * sz) ++ vs.toArray.toList.drop (o + (us.take (q * sz)).length)) = vs' := by rw [← hov]; rfl
  rw [hov'] at hst
  have hr : (Builtin.copy_ #[t, t] ty #[.slice (some ⟨b, o, none⟩) m c, .slice (some ad) m' c']).run P w = .ok (.int .i64 q) (w.setRow b vs'.toArray) := by
    simp [Builtin.copy_, run_underlying ht, Builtin.lenOf, sizeOf, typeInfo, hi, hq, hl, hst, goInt]
  have hex : (execOp ρ ⟨dst, .call { callee := .builtin .copy, args := #[y, x], argTypes := #[t, t] }, ty, pos, af, g⟩).run P w = .ok (.value (.int .i64 q)) (w.setRow b vs'.toArray) := by
    simp only [execOp, resolve, invoke, builtin, Sem.run_bind, Sem.run_pure, Result.andThen_ok, List.map_toArray, List.map_cons, List.map_nil, hρ _ _ hy, hρ _ _ hx, hr]
  rw [hex]
  exact hK _ _ G _ (Step.row hw hb hu) ⟨rfl, rfl, rfl⟩
theorem v_copy {e : TypeId} {agg : Bool} {sz : Nat} {y x : Operand} {b o m c m' q : Nat} {u : Value} {vs us vs' : List Value} {μ' : OH} [Ty P t (.slice e)] [Lay P e agg sz bytes zero] (hy : Env.ev σ y = some (.slice (some ⟨b, o, none⟩) m c)) (hx : Env.ev σ x = some u) (hq : Nat.min m' m = q) (hm : 0 < m') (hsrc : Src G μ u m' sz us)
    (hb : Has μ b vs e) (h1 : (us.take (q * sz)).all Value.oneCell' = true) (hfit : o + q * sz ≤ vs.length) (hov : over vs o (us.take (q * sz)) = vs') (hu : Upd b (.cells vs'.toArray e (0, 0)) μ μ') (hd : Nat.blt d n = true)
    (h : Vc P fn n B Φ (.ops all rest :: k) ((d, .int .i64 q) :: σ) G μ') : Vc P fn n B Φ (.ops all (⟨some d, .call { callee := .builtin .copy, args := #[y, x], argTypes := #[t, t] }, ty, pos, af, none⟩ :: rest) :: k) σ G μ :=
  v_move (m_copy hy hx hq hm hsrc hb h1 hfit hov hu) hd fun _ _ _ ⟨h1, h2, h3⟩ => by rw [h1, h2, h3]; exact h
theorem Src.ownAt {e : TypeId} {b o m sz c : Nat} {vs us : List Value} (h : Has μ b vs e) (hus : (vs.drop o).take (m * sz) = us) (hl : us.length = m * sz) : Src G μ (.slice (some ⟨b, o, none⟩) m c) m sz us := ⟨hl, _, _, rfl, fun _ => ⟨_, rfl, by rw [← hus]; exact CellsAt.ownAt h⟩⟩
/-- append(s, make(T, q)...) where there is no room. -/
theorem m_appendZ {e : TypeId} {agg : Bool} {sz : Nat} {s x : Operand} {A : Option Addr} {m c q : Nat} {xs : List Value} {tn : TypeId} [Ty P t (.slice e)] [Ty P tn (.int .i64)] [Lay P e agg sz bytes zero] (hzs : zero.cells.size = sz) (hsz : 0 < sz) (hs : Env.ev σ s = some (.slice A m c)) {z : Int} (hx : Env.ev σ x = some (.int .i64 z)) (hz : z = (q : Nat)) (hsrc : Src G μ (.slice A m c) m sz xs) (hq : 0 < q) (hroom : c < m + q)
    (hb : (m + q) * bytes ≤ 140737488355328) (hb' : m + q ≤ maxLen) :
    MoveOp P (.call { callee := .builtin .append, args := #[s, x], argTypes := #[t, tn] }) ty σ G μ (fun v' G' μ' => ∃ b c' spare, v' = .slice (some ⟨b, 0, none⟩) (m + q) c' ∧ m + q ≤ c' ∧ c' ≤ maxLen ∧ (xs ++ (Builtin.zeroCells zero.cells q).toList ++ spare).length = c' * sz ∧ G' = G ∧ μ' = (b, .cells (xs ++ (Builtin.zeroCells zero.cells q).toList ++ spare).toArray e (0, 0)) :: μ) := by
  subst hz
  intro dst pos af g ρ hρ w hw a K Q hK
  obtain ⟨i, hi, hi1, hi2, hi3⟩ := Lay.infoEx (P := P) (t := e) (agg := agg) (size := sz) (bytes := bytes) (zero := zero) inferInstance
  have ht : P.underlying t = some (.slice e) := Ty.h
  have htn : P.underlying tn = some (.int .i64) := Ty.h
  obtain ⟨hus, A', c', he, hA⟩ := hsrc
  cases he
  have hold : (Builtin.firstCells i.size m (.slice A m c)).run P w.drew = .ok xs.toArray w.drew := by
    by_cases hm : 0 < m
    · obtain ⟨ad, rfl, hcs⟩ := hA hm
      exact run_firstCells_some (P := P) w.drew i.size m ad m c xs (by rw [hus, hi1]) (fun j v hv => hcs j v hv w hw.sees)
    · obtain rfl : m = 0 := by omega
      have hx0 : xs = [] := List.eq_nil_of_length_eq_zero (by simpa using hus)
      subst hx0
      cases A <;> simp [Builtin.firstCells, loadCells, loadCellsFrom]
  have hr := run_append_grow_zeros (P := P) w t tn ty e i zero .i64 .i64 ht htn hi hi3 A m c xs hold q hq (by omega) hroom (by simp only [maxLen] at hb'; omega)
    (by rw [hi2]; have := Nat.mul_le_mul_right bytes (show q ≤ m + q by omega); omega) (growslice_fits (by omega) (by rw [hi2]; exact hb))
  have hex : (execOp ρ ⟨dst, .call { callee := .builtin .append, args := #[s, x], argTypes := #[t, tn] }, ty, pos, af, g⟩).run P w = .ok (.value (.slice (some ⟨w.heap.size, 0, none⟩) (m + q) (grownCap w (m + q) c e)))
        (w.drew.alloc (.cells (xs.toArray ++ Builtin.zeroCells zero.cells q ++ Builtin.zeroCells zero.cells (grownCap w (m + q) c e - (m + q))) e)) := by
    simp only [execOp, resolve, invoke, builtin, Sem.run_bind, Sem.run_pure, Result.andThen_ok, List.map_toArray, List.map_cons, List.map_nil, hρ _ _ hs, hρ _ _ hx, hr]
  rw [hex]
  have hge := grownCap_ge w (m + q) c e
  have hst := (Step.drew hw 1).trans (Step.alloc (Step.drew hw 1).mem (.cells (xs.toArray ++ Builtin.zeroCells zero.cells q ++ Builtin.zeroCells zero.cells (grownCap w (m + q) c e - (m + q))) e (0, 0)))
  refine hK _ _ G _ hst ⟨w.heap.size, grownCap w (m + q) c e, (Builtin.zeroCells zero.cells (grownCap w (m + q) c e - (m + q))).toList, rfl, hge, grownCap_le_maxLen w (m + q) c e hb', ?_, rfl, ?_⟩
  · simp only [List.length_append, Array.length_toList, size_zeroCells, hzs, hus, ← Nat.add_mul]
    congr 1
    omega
  · simp [World.drewN]
theorem v_appendZ {e : TypeId} {agg : Bool} {sz : Nat} {s x : Operand} {A : Option Addr} {m c q : Nat} {xs : List Value} {tn : TypeId} [Ty P t (.slice e)] [Ty P tn (.int .i64)] [Lay P e agg sz bytes zero] (hzs : zero.cells.size = sz) (hsz : 0 < sz) (hs : Env.ev σ s = some (.slice A m c)) {z : Int} (hx : Env.ev σ x = some (.int .i64 z)) (hz : z = (q : Nat)) (hsrc : Src G μ (.slice A m c) m sz xs) (hq : 0 < q) (hroom : c < m + q)
    (hb : (m + q) * bytes ≤ 140737488355328) (hb' : m + q ≤ maxLen) (hd : Nat.blt d n = true)
    (h : ∀ b c' spare, m + q ≤ c' → c' ≤ maxLen → (xs ++ (Builtin.zeroCells zero.cells q).toList ++ spare).length = c' * sz → Vc P fn n B Φ (.ops all rest :: k) ((d, .slice (some ⟨b, 0, none⟩) (m + q) c') :: σ) G ((b, .cells (xs ++ (Builtin.zeroCells zero.cells q).toList ++ spare).toArray e (0, 0)) :: μ)) :
    Vc P fn n B Φ (.ops all (⟨some d, .call { callee := .builtin .append, args := #[s, x], argTypes := #[t, tn] }, ty, pos, af, none⟩ :: rest) :: k) σ G μ :=
  v_move (m_appendZ hzs hsz hs hx hz hsrc hq hroom hb hb') hd fun _ _ _ ⟨b, c', sp, h1, h2, h3, h4, h5, h6⟩ => by rw [h1, h5, h6]; exact h b c' sp h2 h3 h4
/-- The function is the library's slices.overlaps. -/
class Overl (P : Program) (f : FuncId) (e : outParam TypeId) (tR : outParam TypeId) : Prop where
  h : ∃ ts, P.underlying ts = some (.slice e) ∧ ∀ args w, (callFunc f args).run P w = ((Extern.SlicesOverlaps.overlaps #[ts, ts] #[tR] args).run P w).andThen fun v w' => .ok (.value v) w'
theorem m_apart {f : FuncId} {e tR : TypeId} [ho : Overl P f e tR] {agg : Bool} {sz : Nat} [Lay P e agg sz bytes zero] {x y : Operand} {ts : Array TypeId} {b1 o1 m1 c1 b2 o2 m2 c2 : Nat} {vs1 vs2 : List Value} {e1 e2 : TypeId} (hx : Env.ev σ x = some (.slice (some ⟨b1, o1, none⟩) m1 c1)) (hy : Env.ev σ y = some (.slice (some ⟨b2, o2, none⟩) m2 c2))
    (h1 : Has μ b1 vs1 e1) (h2 : Has μ b2 vs2 e2) (hne : b1 ≠ b2) (h0 : vs2 ≠ []) :
    MoveOp P (.call { callee := .value (.func f), args := #[x, y], argTypes := ts }) ty σ G μ (fun v' G' μ' => v' = .bool false ∧ G' = G ∧ μ' = μ) := by
  intro dst pos af g ρ hρ w hw a K Q hK
  obtain ⟨T, hT, hc⟩ := ho.h
  have w1 := hw.own _ _ h1
  have w2 := hw.own _ _ h2
  have hr := run_overlaps_apart (P := P) w T tR e hT sz (fun w => run_sizeOf (P := P) (t := e) (agg := agg) (size := sz) (bytes := bytes) (zero := zero) w) ⟨b1, o1, none⟩ ⟨b2, o2, none⟩ m1 c1 m2 c2 hne e1 e2 vs1.length vs2.length
    (by simp [World.shape?, w1]) (by simp [World.shape?, w2]) (by simpa using h0) (by simp [World.frozen?, w1]) (by simp [World.frozen?, w1])
  have hf : ρ (.func f) = .func (.func f) #[] #[] := hρ _ _ rfl
  have hex : (execOp ρ ⟨dst, .call { callee := .value (.func f), args := #[x, y], argTypes := ts }, ty, pos, af, g⟩).run P w = .ok (.value (.bool false)) w := by
    simp [execOp, resolve, hf, Deferred.ofValue, invoke, hρ _ _ hx, hρ _ _ hy, hc, hr]
  rw [hex]
  exact hK _ _ G μ (Step.refl hw) ⟨rfl, rfl, rfl⟩
/-- Two blocks of ours are two. -/
theorem v_ne {is : List It} {b b' : Nat} {o : Obj} {r : OH} (hm : b' ∈ r.map (·.1)) (h : b' ≠ b → Vc P fn n B Φ is σ G ((b, o) :: r)) : Vc P fn n B Φ is σ G ((b, o) :: r) := by
  intro w hw a ha
  refine h (fun e => ?_) w hw a ha
  have := hw.mem.nodup
  rw [List.map_cons, List.nodup_cons] at this
  exact this.1 (e ▸ hm)
theorem v_apart {f : FuncId} {e tR : TypeId} [ho : Overl P f e tR] {agg : Bool} {sz : Nat} [Lay P e agg sz bytes zero] {x y : Operand} {ts : Array TypeId} {b1 o1 m1 c1 b2 o2 m2 c2 : Nat} {vs1 vs2 : List Value} {e1 e2 : TypeId} (hx : Env.ev σ x = some (.slice (some ⟨b1, o1, none⟩) m1 c1)) (hy : Env.ev σ y = some (.slice (some ⟨b2, o2, none⟩) m2 c2))
    (h1 : Has μ b1 vs1 e1) (h2 : Has μ b2 vs2 e2) (hne : b1 ≠ b2) (h0 : vs2 ≠ []) (hd : Nat.blt d n = true)
    (h : Vc P fn n B Φ (.ops all rest :: k) ((d, .bool false) :: σ) G μ) : Vc P fn n B Φ (.ops all (⟨some d, .call { callee := .value (.func f), args := #[x, y], argTypes := ts }, ty, pos, af, none⟩ :: rest) :: k) σ G μ :=
  v_move (m_apart (sz := sz) (agg := agg) (bytes := bytes) (zero := zero) hx hy h1 h2 hne h0) hd fun _ _ _ ⟨h1, h2, h3⟩ => by rw [h1, h2, h3]; exact h
theorem d_copy {ν μ' : OH} {G0 : GH} {m0 : Nat} {listed : Array Bool} (i : Nat) {e : TypeId} {agg : Bool} {sz : Nat} {y x : Operand} {b o m c m' q : Nat} {u : Value} {vs us vs' : List Value} (hi : all[i]? = some ⟨some d, .call { callee := .builtin .copy, args := #[y, x], argTypes := #[t, t] }, ty, pos, af, none⟩) (hT : Ty P t (.slice e)) (hL : Lay P e agg sz bytes zero) (hr : Region.ready .any all listed = [i])
    (hy : Env.ev σ y = some (.slice (some ⟨b, o, none⟩) m c)) (hx : Env.ev σ x = some u) (hq : Nat.min m' m = q) (hm : 0 < m') (hsrc : Src G μ u m' sz us)
    (hb : Has μ b vs e) (h1 : (us.take (q * sz)).all Value.oneCell' = true) (hfit : o + q * sz ≤ vs.length) (hov : over vs o (us.take (q * sz)) = vs') (hu : Upd b (.cells vs'.toArray e (0, 0)) μ μ') (hd : Nat.blt d n = true) (hν' : ∀ e ∈ ν, e ∈ μ')
    (h : DVc P fn n B Φ all G0 ν m0 (listed.setIfInBounds i true) k ((d, .int .i64 q) :: σ) G μ') : DVc P fn n B Φ all G0 ν (m0 + 1) listed k σ G μ :=
  d_exec i hi hr (m_copy hy hx hq hm hsrc hb h1 hfit hov hu) hd fun _ _ _ ⟨h1, h2, h3⟩ => by rw [h1, h2, h3]; exact ⟨hν', h⟩
end
end Go.Vx
