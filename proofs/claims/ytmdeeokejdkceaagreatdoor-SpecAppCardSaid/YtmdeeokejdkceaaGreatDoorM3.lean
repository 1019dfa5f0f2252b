/-
  VX: make of a slice; copy of nothing; clear of a row's end; results that lie in memory, of several shapes.
-/
import Derived.Test.YtmdeeokejdkceaaGreatDoorM2
import Derived.Laws.MakeOwn
import Derived.Test.YtmdeeokejdkceaaGreatDoorM1
set_option linter.unusedVariables false
set_option linter.unusedSimpArgs false
set_option linter.unusedSectionVars false
namespace Go.Vx
open Go
section
attribute [local semireducible] MoveOp ReadOp PureOp
variable {P : Program} {fn : Func} {n : Nat} {B : Base} {Φ : Value → GH → OH → Prop} {k : List It} {rest : List Oper} {all : Array Oper} {σ : Env} {G : GH} {μ : OH} {d : Nat} {t ty : TypeId} {pos : String} {af : Array Edge} {bytes : Nat} {zero : Value}
theorem m_makeSlice {e : TypeId} {agg : Bool} {sz m : Nat} {x y : Operand} {k1 k2 : IntKind} [Ty P t (.slice e)] [Lay P e agg sz bytes zero] (hx : Env.ev σ x = some (.int k1 (m : Nat))) (hy : Env.ev σ y = some (.int k2 (m : Nat))) (hb : bytes * m ≤ 281474976710656) (hm : m ≤ maxLen) :
    MoveOp P (.makeSlice t x y) ty σ G μ (fun v G' μ' => ∃ (b : Nat) (vs : List Value), v = .slice (some ⟨b, 0, none⟩) m m ∧ vs.length = m * sz ∧ G' = G ∧ μ' = (b, .cells vs.toArray e (0, 0)) :: μ) := by
  intro dst pos af g ρ hρ w hw a K Q hK
  obtain ⟨i, hi, hi1, hi2, hi3⟩ := Lay.infoEx (P := P) (t := e) (agg := agg) (size := sz) (bytes := bytes) (zero := zero) inferInstance
  have ht : P.underlying t = some (.slice e) := Ty.h
  simp only [maxLen] at hm
  have hb' : (i.bytes : Int) * (m : Int) ≤ 281474976710656 := by
    have h : ((i.bytes * m : Nat) : Int) ≤ 281474976710656 := by rw [hi2]; omega
    rwa [Int.natCast_mul] at h
  have hr := run_make (P := P) w t e i zero ht hi hi3 k1 k2 m m (by omega) (Int.le_refl _) hb' (by omega)
  simp only [Int.toNat_natCast] at hr
  have hex : (execOp ρ ⟨dst, .makeSlice t x y, ty, pos, af, g⟩).run P w = .ok (.value (.slice (some ⟨w.heap.size, 0, none⟩) m m)) (w.alloc (.cells (madeCells zero.cells (m * i.size)).toList.toArray e)) := by
    simp [execOp, hρ _ _ hx, hρ _ _ hy, hr]
  rw [hex]
  exact hK _ _ G _ (Step.alloc hw _) ⟨_, (madeCells zero.cells (m * i.size)).toList, rfl, by rw [Array.length_toList, size_madeCells, hi1], rfl, rfl⟩
theorem v_makeSlice {e : TypeId} {agg : Bool} {sz m : Nat} {x y : Operand} {k1 k2 : IntKind} [Ty P t (.slice e)] [Lay P e agg sz bytes zero] (hx : Env.ev σ x = some (.int k1 (m : Nat))) (hy : Env.ev σ y = some (.int k2 (m : Nat))) (hb : bytes * m ≤ 281474976710656) (hm : m ≤ maxLen) (hd : Nat.blt d n = true)
    (h : ∀ (b : Nat) (vs : List Value), vs.length = m * sz → Vc P fn n B Φ (.ops all rest :: k) ((d, .slice (some ⟨b, 0, none⟩) m m) :: σ) G ((b, .cells vs.toArray e (0, 0)) :: μ)) : Vc P fn n B Φ (.ops all (⟨some d, .makeSlice t x y, ty, pos, af, none⟩ :: rest) :: k) σ G μ :=
  v_move (m_makeSlice hx hy hb hm) hd fun _ _ _ ⟨b, vs, h1, h2, h3, h4⟩ => by rw [h1, h3, h4]; exact h b vs h2
theorem m_copy0 {e : TypeId} {agg : Bool} {sz : Nat} {y x : Operand} {A A' : Option Addr} {m c c' : Nat} [Ty P t (.slice e)] [Lay P e agg sz bytes zero] (hy : Env.ev σ y = some (.slice A m c)) (hx : Env.ev σ x = some (.slice A' 0 c')) :
    ReadOp P (.call { callee := .builtin .copy, args := #[y, x], argTypes := #[t, t] }) ty σ G μ (.int .i64 0) := by
  intro dst pos af g ρ hρ w hw
  obtain ⟨i, hi, hi1, hi2, hi3⟩ := Lay.infoEx (P := P) (t := e) (agg := agg) (size := sz) (bytes := bytes) (zero := zero) inferInstance
  have ht : P.underlying t = some (.slice e) := Ty.h
  have hr : (Builtin.copy_ #[t, t] ty #[.slice A m c, .slice A' 0 c']).run P w = .ok (.int .i64 0) w := by
    cases A <;> cases A' <;> simp [Builtin.copy_, run_underlying ht, Builtin.lenOf, sizeOf, typeInfo, hi, goInt, Builtin.firstCells, loadCells, loadCellsFrom, storeCells]
  simp only [execOp, resolve, invoke, builtin, Sem.run_bind, Sem.run_pure, Result.andThen_ok, List.map_toArray, List.map_cons, List.map_nil, hρ _ _ hy, hρ _ _ hx, hr]
theorem m_clear {e : TypeId} {agg : Bool} {sz : Nat} {x : Operand} {b o m c : Nat} {vs vs' : List Value} {μ' : OH} [Ty P t (.slice e)] [Lay P e agg sz bytes zero] (hx : Env.ev σ x = some (.slice (some ⟨b, o, none⟩) m c)) (hm : 0 < m) (hb : Has μ b vs e) (hz : zero.cells.size = sz) (h1 : ∀ q, (Builtin.zeroCells zero.cells q).toList.all Value.oneCell' = true) (hfit : o + m * sz ≤ vs.length) (hov : over vs o (Builtin.zeroCells zero.cells m).toList = vs') (hu : Upd b (.cells vs'.toArray e (0, 0)) μ μ') :
    MoveOp P (.call { callee := .builtin .clear, args := #[x], argTypes := #[t] }) ty σ G μ (fun v' G' μ'' => v' = .tuple #[] ∧ G' = G ∧ μ'' = μ') := by
  intro dst pos af g ρ hρ w hw a K Q hK
  have ht : P.underlying t = some (.slice e) := Ty.h
  have hlen : (Builtin.zeroCells zero.cells m).toList.length = m * sz := by simp [Builtin.zeroCells, hz]
  have hst := run_storeCells_at P b o e (Builtin.zeroCells zero.cells m).toList 0 vs.toArray w (hw.own b _ hb) (by simp only [Nat.add_zero, List.size_toArray, hlen]; exact hfit) (fun v hv => List.all_eq_true.1 (h1 m) v hv)
  simp only [Nat.add_zero] at hst
  have hov' : (vs.toArray.toList.take o ++ (Builtin.zeroCells zero.cells m).toList ++ vs.toArray.toList.drop (o + (Builtin.zeroCells zero.cells m).toList.length)) = vs' := by rw [← hov]; rfl
  rw [hov'] at hst
  obtain ⟨q, rfl⟩ : ∃ q, m = q + 1 := ⟨m - 1, by omega⟩
  have hr : (Builtin.clear_ #[t] ty #[.slice (some ⟨b, o, none⟩) (q + 1) c]).run P w = .ok (.tuple #[]) (w.setRow b vs'.toArray) := by
    simp [Builtin.clear_, run_underlying ht, run_zeroOf (P := P) (t := e) (agg := agg) (size := sz) (bytes := bytes) (zero := zero), hst]
  have hex : (execOp ρ ⟨dst, .call { callee := .builtin .clear, args := #[x], argTypes := #[t] }, ty, pos, af, g⟩).run P w = .ok (.value (.tuple #[])) (w.setRow b vs'.toArray) := by
    simp only [execOp, resolve, invoke, builtin, Sem.run_bind, Sem.run_pure, Result.andThen_ok, List.map_toArray, List.map_cons, List.map_nil, hρ _ _ hx, hr]
  rw [hex]
  exact hK _ _ G _ (Step.row hw hb hu) ⟨rfl, rfl, rfl⟩
theorem over_nil {vs : List Value} {i : Nat} : over vs i [] = vs := by simp [over]
theorem m_appendIn {e : TypeId} {agg : Bool} {sz : Nat} {s x : Operand} {b m cap m' : Nat} {u : Value} {vs us vs' : List Value} {μr : OH} [Ty P t (.slice e)] [Lay P e agg sz bytes zero] (hs : Env.ev σ s = some (.slice (some ⟨b, 0, none⟩) m cap)) (hx : Env.ev σ x = some u) (hp : μ.Perm ((b, .cells vs.toArray e (0, 0)) :: μr)) (hsrc : Src G μ u m' sz us) (h1 : us.all Value.oneCell' = true) (hroom : m + m' ≤ cap) (hvs : vs.length = cap * sz) (hov : over vs (m * sz) us = vs') :
    MoveOp P (.call { callee := .builtin .append, args := #[s, x], argTypes := #[t, t] }) ty σ G μ (fun v' G' μ' => v' = .slice (some ⟨b, 0, none⟩) (m + m') cap ∧ G' = G ∧ μ' = (b, .cells vs'.toArray e (0, 0)) :: μr) := by
  subst hov
  intro dst pos af g ρ hρ w hw a K Q hK
  have hw' := hw.perm hp
  obtain ⟨i, hi, hi1, hi2, hi3⟩ := Lay.infoEx (P := P) (t := e) (agg := agg) (size := sz) (bytes := bytes) (zero := zero) inferInstance
  have ht : P.underlying t = some (.slice e) := Ty.h
  obtain ⟨hus, A, c, rfl, hA⟩ := hsrc
  have hex : ∀ (r : Result Value), (Builtin.append_ #[t, t] ty #[.slice (some ⟨b, 0, none⟩) m cap, .slice A m' c]).run P w = r → (execOp ρ ⟨dst, .call { callee := .builtin .append, args := #[s, x], argTypes := #[t, t] }, ty, pos, af, g⟩).run P w = r.andThen fun v w' => .ok (.value v) w' := by
    intro r hr
    subst hr
    simp only [execOp, resolve, invoke, builtin, Sem.run_bind, Sem.run_pure, Result.andThen_ok, List.map_toArray, List.map_cons, List.map_nil, hρ _ _ hs, hρ _ _ hx]
  by_cases hm : m' = 0
  · subst hm
    have hu0 : us = [] := List.eq_nil_of_length_eq_zero (by simpa using hus)
    subst hu0
    have hc1 : m ≤ cap := by omega
    have hr : (Builtin.append_ #[t, t] ty #[.slice (some ⟨b, 0, none⟩) m cap, .slice A 0 c]).run P w = .ok (.slice (some ⟨b, 0, none⟩) m cap) w := by
      cases A <;> simp [Builtin.append_, run_underlying ht, sizeOf, typeInfo, hi, Builtin.lenOf, Builtin.firstCells, loadCells, loadCellsFrom, storeCells, *]
    rw [hex _ hr]
    exact hK _ w G _ ((Step.refl hw').permL hp.symm) ⟨rfl, rfl, by rw [over_nil]⟩
  · obtain ⟨ad, rfl, hcs⟩ := hA (by omega)
    have hnews : ∀ j u, us[j]? = some u → w.cell? (ad.add j) = some u := fun j u hu => hcs j u hu w hw.sees
    have hlus : us.length = m' * i.size := by rw [hus, hi1]
    have hblk : w.heap[b]? = some (.cells vs.toArray e (0, 0)) := hw'.own b _ (by simp)
    have hr := run_append_room (P := P) w t ty e i ht hi b m cap vs.toArray hblk ad m' c us hlus hnews (fun x hx => List.all_eq_true.1 h1 x hx) hroom (by rw [hi1, hus, ← Nat.add_mul, List.size_toArray, hvs]; exact Nat.mul_le_mul_right _ hroom)
    rw [hex _ hr]
    have htake : (vs.toArray.toList.take (m * i.size) ++ us ++ vs.toArray.toList.drop (m * i.size + us.length)) = over vs (m * sz) us := by
      rw [hi1]; rfl
    rw [htake]
    have hst : Step G ((b, .cells vs.toArray e (0, 0)) :: μr) w G ((b, .cells (over vs (m * sz) us).toArray e (0, 0)) :: μr) (w.setRow b (over vs (m * sz) us).toArray) :=
      Step.row hw' (b := b) (vs := vs) (by simp [Has]) (.here _ _)
    exact hK _ _ G _ (hst.permL hp.symm) ⟨rfl, rfl, rfl⟩
theorem p_slice3L {e : TypeId} {agg : Bool} {sz : Nat} {x lo hi mx : Operand} {A : Option Addr} {m c l h q : Nat} {k0 k1 k2 : IntKind} [Ty P t (.slice e)] [Lay P e agg sz bytes zero] (hx : Env.ev σ x = some (.slice A m c)) (hl : Env.ev σ lo = some (.int k0 (l : Nat))) (hh : Env.ev σ hi = some (.int k1 (h : Nat))) (hq : Env.ev σ mx = some (.int k2 (q : Nat)))
    (h0 : l ≤ h) (h1 : h ≤ q) (h2 : q ≤ c) : PureOp P (.slice t x (some lo) (some hi) (some mx)) ty σ (.slice (if q = l then A else A.map (·.add (l * sz))) (h - l) (q - l)) := by
  intro dst pos af g ρ hρ w
  simp [execOp, hρ _ _ hx, hρ _ _ hl, hρ _ _ hh, hρ _ _ hq, Instr.sliceAt, Instr.slice, Instr.sliceBounds, Instr.sliceBound, asIntOf, run_under (P := P) (t := t) (d := .slice e), run_sizeOf (P := P) (t := e) (agg := agg) (size := sz) (bytes := bytes) (zero := zero), h0, h1, h2]
end
section
variable {P : Program} {fn : Func} {n : Nat} {σ : Env} {G : GH} {μ : OH}
theorem outsM_tc {u0 : Nat} {x0 : Value} {a1 b1 sz1 bytes1 : Nat} {zero1 : Value} {vs1 : List Value} {t1 e1 : TypeId} [Lay P t1 true sz1 bytes1 zero1] (hr : fn.results = #[.tmp u0, .cell a1 t1]) (hu0 : Env.get σ u0 = some x0) (ha1 : Env.get σ a1 = some (.pointer (some ⟨b1, 0, none⟩))) (hb1 : Has μ b1 vs1 e1) (hl1 : vs1.length = sz1) : OutsM P fn n σ G μ (.tuple [x0, .agg vs1.toArray].toArray) := by
  intro w hw ds a' ha'
  have h0 := ha'.get _ _ hu0
  subst hl1
  have h1 := ha'.get _ _ ha1
  have g1 : (loadCells ⟨b1, 0, none⟩ vs1.length).run P w = .ok vs1.toArray w := run_loadCells_list w _ vs1 (fun j v hv => CellsAt.own hb1 j v hv w hw)
  simp only [Array.getD_eq_getD_getElem?] at h0 h1
  simp [results, hr, asAddr, loadVar, h0, h1, run_isAgg' (P := P) (t := t1) (agg := true) (size := vs1.length) (bytes := bytes1) (zero := zero1), run_sizeOf (P := P) (t := t1) (agg := true) (size := vs1.length) (bytes := bytes1) (zero := zero1), g1]
theorem outsM_cc {a0 b0 sz0 bytes0 : Nat} {zero0 : Value} {vs0 : List Value} {t0 e0 : TypeId} [Lay P t0 true sz0 bytes0 zero0] {a1 b1 sz1 bytes1 : Nat} {zero1 : Value} {vs1 : List Value} {t1 e1 : TypeId} [Lay P t1 true sz1 bytes1 zero1] (hr : fn.results = #[.cell a0 t0, .cell a1 t1]) (ha0 : Env.get σ a0 = some (.pointer (some ⟨b0, 0, none⟩))) (hb0 : Has μ b0 vs0 e0) (hl0 : vs0.length = sz0) (ha1 : Env.get σ a1 = some (.pointer (some ⟨b1, 0, none⟩))) (hb1 : Has μ b1 vs1 e1) (hl1 : vs1.length = sz1) : OutsM P fn n σ G μ (.tuple [.agg vs0.toArray, .agg vs1.toArray].toArray) := by
  intro w hw ds a' ha'
  subst hl0
  have h0 := ha'.get _ _ ha0
  have g0 : (loadCells ⟨b0, 0, none⟩ vs0.length).run P w = .ok vs0.toArray w := run_loadCells_list w _ vs0 (fun j v hv => CellsAt.own hb0 j v hv w hw)
  subst hl1
  have h1 := ha'.get _ _ ha1
  have g1 : (loadCells ⟨b1, 0, none⟩ vs1.length).run P w = .ok vs1.toArray w := run_loadCells_list w _ vs1 (fun j v hv => CellsAt.own hb1 j v hv w hw)
  simp only [Array.getD_eq_getD_getElem?] at h0 h1
  simp [results, hr, asAddr, loadVar, h0, run_isAgg' (P := P) (t := t0) (agg := true) (size := vs0.length) (bytes := bytes0) (zero := zero0), run_sizeOf (P := P) (t := t0) (agg := true) (size := vs0.length) (bytes := bytes0) (zero := zero0), g0, h1, run_isAgg' (P := P) (t := t1) (agg := true) (size := vs1.length) (bytes := bytes1) (zero := zero1), run_sizeOf (P := P) (t := t1) (agg := true) (size := vs1.length) (bytes := bytes1) (zero := zero1), g1]
theorem outsM_cct {a0 b0 sz0 bytes0 : Nat} {zero0 : Value} {vs0 : List Value} {t0 e0 : TypeId} [Lay P t0 true sz0 bytes0 zero0] {a1 b1 sz1 bytes1 : Nat} {zero1 : Value} {vs1 : List Value} {t1 e1 : TypeId} [Lay P t1 true sz1 bytes1 zero1] {u2 : Nat} {x2 : Value} (hr : fn.results = #[.cell a0 t0, .cell a1 t1, .tmp u2]) (ha0 : Env.get σ a0 = some (.pointer (some ⟨b0, 0, none⟩))) (hb0 : Has μ b0 vs0 e0) (hl0 : vs0.length = sz0) (ha1 : Env.get σ a1 = some (.pointer (some ⟨b1, 0, none⟩))) (hb1 : Has μ b1 vs1 e1) (hl1 : vs1.length = sz1) (hu2 : Env.get σ u2 = some x2) : OutsM P fn n σ G μ (.tuple [.agg vs0.toArray, .agg vs1.toArray, x2].toArray) := by
  intro w hw ds a' ha'
  subst hl0
  have h0 := ha'.get _ _ ha0
  have g0 : (loadCells ⟨b0, 0, none⟩ vs0.length).run P w = .ok vs0.toArray w := run_loadCells_list w _ vs0 (fun j v hv => CellsAt.own hb0 j v hv w hw)
  subst hl1
  have h1 := ha'.get _ _ ha1
  have g1 : (loadCells ⟨b1, 0, none⟩ vs1.length).run P w = .ok vs1.toArray w := run_loadCells_list w _ vs1 (fun j v hv => CellsAt.own hb1 j v hv w hw)
  have h2 := ha'.get _ _ hu2
  simp only [Array.getD_eq_getD_getElem?] at h0 h1 h2
  simp [results, hr, asAddr, loadVar, h0, run_isAgg' (P := P) (t := t0) (agg := true) (size := vs0.length) (bytes := bytes0) (zero := zero0), run_sizeOf (P := P) (t := t0) (agg := true) (size := vs0.length) (bytes := bytes0) (zero := zero0), g0, h1, run_isAgg' (P := P) (t := t1) (agg := true) (size := vs1.length) (bytes := bytes1) (zero := zero1), run_sizeOf (P := P) (t := t1) (agg := true) (size := vs1.length) (bytes := bytes1) (zero := zero1), g1, h2]
theorem outsM_ctt {a0 b0 sz0 bytes0 : Nat} {zero0 : Value} {vs0 : List Value} {t0 e0 : TypeId} [Lay P t0 true sz0 bytes0 zero0] {u1 : Nat} {x1 : Value} {u2 : Nat} {x2 : Value} (hr : fn.results = #[.cell a0 t0, .tmp u1, .tmp u2]) (ha0 : Env.get σ a0 = some (.pointer (some ⟨b0, 0, none⟩))) (hb0 : Has μ b0 vs0 e0) (hl0 : vs0.length = sz0) (hu1 : Env.get σ u1 = some x1) (hu2 : Env.get σ u2 = some x2) : OutsM P fn n σ G μ (.tuple [.agg vs0.toArray, x1, x2].toArray) := by
  intro w hw ds a' ha'
  subst hl0
  have h0 := ha'.get _ _ ha0
  have g0 : (loadCells ⟨b0, 0, none⟩ vs0.length).run P w = .ok vs0.toArray w := run_loadCells_list w _ vs0 (fun j v hv => CellsAt.own hb0 j v hv w hw)
  have h1 := ha'.get _ _ hu1
  have h2 := ha'.get _ _ hu2
  simp only [Array.getD_eq_getD_getElem?] at h0 h1 h2
  simp [results, hr, asAddr, loadVar, h0, run_isAgg' (P := P) (t := t0) (agg := true) (size := vs0.length) (bytes := bytes0) (zero := zero0), run_sizeOf (P := P) (t := t0) (agg := true) (size := vs0.length) (bytes := bytes0) (zero := zero0), g0, h1, h2]
end
end Go.Vx
/-
  The library: slices.Delete of pairs; slices.ContainsFunc.
-/
set_option linter.unusedSimpArgs false
set_option linter.unusedVariables false
namespace Go.Proofs.YtmdeeokejdkceaaGreatDoor
open Go.Vx Go.ChangeShapes Go.WideShapes Go.ChangeAt Go.RowKit
theorem p_sliceLHB {σ : Env} {ty t e : TypeId} {agg : Bool} {sz bytes : Nat} {zero : Value} {x lo hi : Operand} {b o n c : Nat} {k k' : IntKind} {z z' : Int} [Ty Tryz.prog t (.slice e)] [Lay Tryz.prog e agg sz bytes zero] (m h : Nat) (hx : Env.ev σ x = some (.slice (some ⟨b, o, none⟩) n c)) (hl : Env.ev σ lo = some (.int k z)) (hh : Env.ev σ hi = some (.int k' z')) (hz : z = (m : Nat)) (hz' : z' = (h : Nat)) (h1 : m ≤ h) (h2 : h ≤ c) (h3 : m < c) :
    PureOp Tryz.prog (.slice t x (some lo) (some hi) none) ty σ (.slice (some ⟨b, o + m * sz, none⟩) (h - m) (c - m)) := by
  subst hz hz'
  have q := p_sliceLH (P := Tryz.prog) (ty := ty) (t := t) (e := e) (agg := agg) (sz := sz) (bytes := bytes) (zero := zero) hx hl hh (by omega) (by omega) (by omega)
  simp only [Int.toNat_natCast] at q
  rw [if_neg (by omega), Option.map_some, add_mk] at q
  exact q
theorem p_fromE {σ : Env} {ty t e : TypeId} {agg : Bool} {sz bytes : Nat} {zero : Value} {x lo : Operand} {A : Option Addr} {n c : Nat} {k : IntKind} {z : Int} [Ty Tryz.prog t (.slice e)] [Lay Tryz.prog e agg sz bytes zero] (m : Nat) (hx : Env.ev σ x = some (.slice A n c)) (hl : Env.ev σ lo = some (.int k z)) (hz : z = (m : Nat)) (h1 : m ≤ n) (h2 : n ≤ c) :
    PureOp Tryz.prog (.slice t x (some lo) none none) ty σ (.slice (if c = m then A else A.map (·.add (m * sz))) (n - m) (c - m)) := by
  subst hz
  have h := p_sliceL (P := Tryz.prog) (ty := ty) (t := t) (e := e) (agg := agg) (sz := sz) (bytes := bytes) (zero := zero) hx hl (by omega) (by omega) h2
  simpa only [Int.toNat_natCast] using h
theorem over_mid (p x t r : List Value) : over (p ++ (x ++ t) ++ r) p.length t = p ++ t ++ ((x ++ t).drop t.length ++ r) := by
  unfold over
  rw [List.append_assoc p, List.take_left, ← List.drop_drop, List.drop_left, List.drop_append_of_le_length (by rw [List.length_append]; omega)]
theorem over_end (p z q : List Value) (h : z.length ≤ q.length) : over (p ++ q) p.length z = p ++ (z ++ q.drop z.length) := by
  unfold over
  rw [List.take_left, ← List.drop_drop, List.drop_left, List.append_assoc]
theorem zP_one (q : Nat) : (Builtin.zeroCells (Value.cells zP) q).toList.all Value.oneCell' = true := by
  rw [List.all_eq_true]
  intro v hv
  simp only [Builtin.zeroCells, Array.toList_map, List.mem_map, Array.mem_toList_iff] at hv
  obtain ⟨k, -, rfl⟩ := hv
  have hs : (Value.cells zP).size = 3 := rfl
  rw [hs]
  obtain h | h | h : k % 3 = 0 ∨ k % 3 = 1 ∨ k % 3 = 2 := by omega
  · rw [h]; rfl
  · rw [h]; rfl
  · rw [h]; rfl
theorem prDelete_s {G : GH} {l : List Pr} {v : Value} {ν : OH} (i : Nat) (hg : GrP v l ν) (hi : i < l.length) (hn : l.length ≤ 200) :
    Con Tryz.prog 315 #[v, .int .i64 i, .int .i64 ((i : Nat) + 1)] G ν (fun r G' μ' => G' = G ∧ GrP r (l.take i ++ l.drop (i + 1)) μ') := by
  obtain ⟨hxl, ⟨rfl, h0, rfl⟩ | ⟨b, cap, spare, rfl, rfl, hc1, hc2, hc3⟩⟩ := hg
  · omega
  simp only [maxLen] at hc2
  have hlen := rowC_length Pr.len l
  rw [List.length_append, hlen] at hc3
  have tl : (rowC Pr.cells (l.take i)).length = i * 3 := by rw [rowC_length Pr.len, List.length_take, Nat.min_eq_left (by omega)]
  have dl : (rowC Pr.cells (l.drop (i + 1))).length = (l.length - (i + 1)) * 3 := by rw [rowC_length Pr.len, List.length_drop]
  have hsp : rowC Pr.cells l = rowC Pr.cells (l.take i) ++ ((l[i]).cells ++ rowC Pr.cells (l.drop (i + 1))) := by
    rw [← rowC_cons, ← List.drop_eq_getElem_cons hi, ← rowC_append, List.take_append_drop]
  have hov1 : over (rowC Pr.cells l ++ spare) (i * 3) (rowC Pr.cells (l.drop (i + 1))) = rowC Pr.cells (l.take i) ++ rowC Pr.cells (l.drop (i + 1)) ++ (((l[i]).cells ++ rowC Pr.cells (l.drop (i + 1))).drop (rowC Pr.cells (l.drop (i + 1))).length ++ spare) := by
    rw [hsp, ← tl]
    exact over_mid _ _ _ _
  have hrl : (((l[i]).cells ++ rowC Pr.cells (l.drop (i + 1))).drop (rowC Pr.cells (l.drop (i + 1))).length).length = 3 := by
    rw [List.length_drop, List.length_append, Pr.len]; omega
  generalize (((l[i]).cells ++ rowC Pr.cells (l.drop (i + 1))).drop (rowC Pr.cells (l.drop (i + 1))).length) = rest at *
  have hus : ((rowC Pr.cells l ++ spare).drop ((i + 1) * 3)).take ((l.length - (i + 1)) * 3) = rowC Pr.cells (l.drop (i + 1)) := by
    rw [List.drop_append_of_le_length (by omega), rowC_drop Pr.len, List.take_append_of_le_length (by omega), List.take_of_length_le (by omega)]
  have hz : (Builtin.zeroCells (Value.cells zP) 1).toList.length = 3 := by rw [Array.length_toList, size_zeroCells]; rfl
  have hl2 : (rowC Pr.cells (l.take i) ++ rowC Pr.cells (l.drop (i + 1))).length = (l.length - 1) * 3 := by rw [List.length_append, tl, dl]; omega
  have hov2 : over (rowC Pr.cells (l.take i) ++ rowC Pr.cells (l.drop (i + 1)) ++ (rest ++ spare)) ((l.length - 1) * 3) (Builtin.zeroCells (Value.cells zP) 1).toList = (rowC Pr.cells (l.take i) ++ rowC Pr.cells (l.drop (i + 1))) ++ ((Builtin.zeroCells (Value.cells zP) 1).toList ++ (rest ++ spare).drop (Builtin.zeroCells (Value.cells zP) 1).toList.length) := by
    rw [← hl2]
    exact over_end _ _ _ (by rw [hz, List.length_append, hrl]; omega)
  have hone : ∀ q, (Builtin.zeroCells (Value.cells zP) q).toList.all Value.oneCell' = true := zP_one
  (refine v_enter Tryz.func315 rfl Tryz.ntmps315 rfl ?_; intro B _)
  repeat' (first | (apply v_pure; (case hop => (apply p_slice3L (l := i) (h := i + 1) (q := l.length); (case hx => rfl); (case hl => rfl); (case hh => rfl); (case hq => rfl); (case h0 => omega); (case h1 => omega); (case h2 => omega))); (case hd => rfl)) | apply v_seq | apply v_region | apply v_nil | apply v_skip | (apply v_pure; (case hop => first | (apply p_move <;> rfl) | (apply p_eq <;> rfl) | (apply p_assign <;> rfl) | (apply p_lenSlice <;> rfl) | fail); (case hd => rfl)) | (apply v_cond; (case hc => rfl); all_goals (intro h; (try simp only [reduceCtorEq, zzz] at h); first | (exfalso; omega) | skip)) | fail)
  by_cases hend : i + 1 < l.length
  · refine d_start [] (by kernel_rfl) (by kernel_rfl) (by kernel_rfl) (by intro e he; (simp at he ⊢; try omega)) ?_
    all_goals (apply dtk 0; (case hi => rfl); (case hop => (apply prd; apply p_move <;> rfl)); (case hq => kernel_rfl))
    all_goals (apply dtk 1; (case hi => rfl); (case hop => (apply prd; apply p_move <;> rfl)); (case hq => kernel_rfl))
    all_goals (apply dtk 2; (case hi => rfl); (case hop => ((apply prd; apply p_sliceHB i; (case hx => rfl); (case hl => rfl); (case hz => omega); (case h1 => omega)))); (case hq => kernel_rfl))
    all_goals (apply dtk 3; (case hi => rfl); (case hop => (apply prd; apply p_move <;> rfl)); (case hq => kernel_rfl))
    all_goals (apply dtk 4; (case hi => rfl); (case hop => (apply prd; apply p_move <;> rfl)); (case hq => kernel_rfl))
    all_goals (apply dtk 5; (case hi => rfl); (case hop => ((apply prd; apply p_sliceB (i + 1); (case hx => rfl); (case hl => rfl); (case hz => omega); (case h1 => omega); (case h2 => omega); (case h3 => omega)))); (case hq => kernel_rfl))
    all_goals ((apply d_exec 6; (case hi => rfl); (case hr => kernel_rfl);  (case hop => exact m_appendIn (e := 144) (sz := 3) (m' := l.length - (i + 1)) (us := rowC Pr.cells (l.drop (i + 1))) rfl rfl (List.Perm.refl _) (Src.ownAt (vs := rowC Pr.cells l ++ spare) (e := 144) (by (repeat (exact mhd _))) (by rw [Nat.zero_add]; exact hus) (by rw [dl])) (rowC_one Pr.one _) (by omega) (by rw [List.length_append, hlen]; omega) hov1); (case hd => rfl); rintro _ _ _ ⟨rfl, hG1, rfl⟩; subst hG1; refine ⟨(by intro e he; cases he), ?_⟩))
    all_goals (apply dtk 7; (case hi => rfl); (case hop => (apply prd; apply p_assign <;> rfl)); (case hq => kernel_rfl))
    all_goals (apply d_done; (case hr => kernel_rfl))
    rw [show i + (l.length - (i + 1)) = l.length - 1 by omega]
    repeat' (first | (apply v_pure; (case hop => (apply p_sliceLHB (l.length - 1) l.length; (case hx => rfl); (case hl => rfl); (case hh => rfl); (case hz => omega); (case hz' => omega); (case h1 => omega); (case h2 => omega); (case h3 => omega))); (case hd => rfl)) | apply v_seq | apply v_region | (apply v_pure; (case hop => first | (apply p_move <;> rfl) | (apply p_lenSlice <;> rfl) | fail); (case hd => rfl)) | fail)
    simp only [show l.length - (l.length - 1) = 1 by omega, Nat.zero_add]
    refine v_move0 (m_clear (e := 144) (agg := true) (sz := 3) (bytes := 40) (zero := zP) rfl (by omega) (List.Mem.head _) rfl zP_one (by rw [List.length_append, hl2, List.length_append, hrl]; omega) hov2 (Upd.here _ _)) ?_
    · rintro _ _ _ ⟨-, hG2, rfl⟩
      subst hG2
      repeat' (first | apply v_seq | apply v_region | apply v_nil | (apply v_pure; (case hop => first | (apply p_move <;> rfl) | (apply p_assign <;> rfl) | fail); (case hd => rfl)) | fail)
      refine v_ret [(b, _)] (outsA1 rfl rfl) (List.Sublist.refl _) ⟨rfl, ?_⟩
      have e9 : (l.take i ++ l.drop (i + 1)).length = l.length - 1 := by rw [List.length_append, List.length_take, List.length_drop]; omega
      unfold GrP
      rw [e9, rowC_append]
      refine ⟨hl2, .inr ⟨b, cap, _, rfl, rfl, by omega, by simp only [maxLen]; omega, ?_⟩⟩
      rw [List.length_append, hl2, List.length_append, hz, List.length_drop, List.length_append, hrl]
      omega
  · have hd0 : rowC Pr.cells (l.drop (i + 1)) = [] := by rw [List.drop_eq_nil_of_le (by omega)]; rfl
    have hm0 : l.length - (i + 1) = 0 := by omega
    refine d_start [] (by kernel_rfl) (by kernel_rfl) (by kernel_rfl) (by intro e he; (simp at he ⊢; try omega)) ?_
    all_goals (apply dtk 0; (case hi => rfl); (case hop => (apply prd; apply p_move <;> rfl)); (case hq => kernel_rfl))
    all_goals (apply dtk 1; (case hi => rfl); (case hop => (apply prd; apply p_move <;> rfl)); (case hq => kernel_rfl))
    all_goals (apply dtk 2; (case hi => rfl); (case hop => ((apply prd; apply p_sliceHB i; (case hx => rfl); (case hl => rfl); (case hz => omega); (case h1 => omega)))); (case hq => kernel_rfl))
    all_goals (apply dtk 3; (case hi => rfl); (case hop => (apply prd; apply p_move <;> rfl)); (case hq => kernel_rfl))
    all_goals (apply dtk 4; (case hi => rfl); (case hop => (apply prd; apply p_move <;> rfl)); (case hq => kernel_rfl))
    all_goals (apply dtk 5; (case hi => rfl); (case hop => ((apply prd; apply p_fromE (i + 1); (case hx => rfl); (case hl => rfl); (case hz => omega); (case h1 => omega); (case h2 => omega)))); (case hq => kernel_rfl))
    all_goals ((apply d_exec 6; (case hi => rfl); (case hr => kernel_rfl);  (case hop => exact m_appendIn (e := 144) (sz := 3) (m' := l.length - (i + 1)) (us := rowC Pr.cells (l.drop (i + 1))) rfl rfl (List.Perm.refl _) ⟨by rw [hd0, hm0]; rfl, _, _, rfl, fun h => absurd h (by omega)⟩ (rowC_one Pr.one _) (by omega) (by rw [List.length_append, hlen]; omega) hov1); (case hd => rfl); rintro _ _ _ ⟨rfl, hG1, rfl⟩; subst hG1; refine ⟨(by intro e he; cases he), ?_⟩))
    all_goals (apply dtk 7; (case hi => rfl); (case hop => (apply prd; apply p_assign <;> rfl)); (case hq => kernel_rfl))
    all_goals (apply d_done; (case hr => kernel_rfl))
    rw [show i + (l.length - (i + 1)) = l.length - 1 by omega]
    repeat' (first | (apply v_pure; (case hop => (apply p_sliceLHB (l.length - 1) l.length; (case hx => rfl); (case hl => rfl); (case hh => rfl); (case hz => omega); (case hz' => omega); (case h1 => omega); (case h2 => omega); (case h3 => omega))); (case hd => rfl)) | apply v_seq | apply v_region | (apply v_pure; (case hop => first | (apply p_move <;> rfl) | (apply p_lenSlice <;> rfl) | fail); (case hd => rfl)) | fail)
    simp only [show l.length - (l.length - 1) = 1 by omega, Nat.zero_add]
    refine v_move0 (m_clear (e := 144) (agg := true) (sz := 3) (bytes := 40) (zero := zP) rfl (by omega) (List.Mem.head _) rfl zP_one (by rw [List.length_append, hl2, List.length_append, hrl]; omega) hov2 (Upd.here _ _)) ?_
    · rintro _ _ _ ⟨-, hG2, rfl⟩
      subst hG2
      repeat' (first | apply v_seq | apply v_region | apply v_nil | (apply v_pure; (case hop => first | (apply p_move <;> rfl) | (apply p_assign <;> rfl) | fail); (case hd => rfl)) | fail)
      refine v_ret [(b, _)] (outsA1 rfl rfl) (List.Sublist.refl _) ⟨rfl, ?_⟩
      have e9 : (l.take i ++ l.drop (i + 1)).length = l.length - 1 := by rw [List.length_append, List.length_take, List.length_drop]; omega
      unfold GrP
      rw [e9, rowC_append]
      refine ⟨hl2, .inr ⟨b, cap, _, rfl, rfl, by omega, by simp only [maxLen]; omega, ?_⟩⟩
      rw [List.length_append, hl2, List.length_append, hz, List.length_drop, List.length_append, hrl]
      omega
def revS (x : Ss) : Bool := decide (x.last.rev ≠ 0)
theorem ssRevClos_s (G : GH) (x : Ss) : Con Tryz.prog 127 #[.agg x.cells.toArray] G [] (Just (.bool (revS x)) G) := by
  apply Con.just
  (refine v_enter Tryz.func127 rfl Tryz.ntmps127 rfl ?_; intro B _)
  repeat' (first | (apply v_box (zs := x.cells); (case hx => rfl); (case hz => rfl); (case hd => rfl); intro b) | apply v_seq | apply v_region | apply v_nil | (apply v_pure; (case hop => first | (apply p_ne <;> rfl) | (apply p_assign <;> rfl) | (apply p_fieldAddrB <;> rfl) | fail); (case hd => rfl)) | (apply v_read; (case hop => (apply r_load1; rfl; (apply Cell.own; (case h => (repeat (exact mhd _))); rfl))); (case hd => rfl)) | fail)
  refine v_ret [] (outsA1 rfl rfl) (by repeat (exact List.nil_sublist _)) ?_
  refine ⟨?_, rfl⟩
  simp [revS, dec_eq]
def oddP (x : Pr) : Bool := decide (x.rev < 1 ∨ 4294967296 < x.rev)
theorem prOddClos_s (G : GH) (x : Pr) : Con Tryz.prog 203 #[.agg x.cells.toArray] G [] (Just (.bool (oddP x)) G) := by
  apply Con.just
  (refine v_enter Tryz.func203 rfl Tryz.ntmps203 rfl ?_; intro B _)
  repeat' (first | (apply v_box (zs := x.cells); (case hx => rfl); (case hz => rfl); (case hd => rfl); intro b) | apply v_seq | apply v_region | apply v_nil | (apply v_take; (case hg => rfl)) | (apply v_pass; (case hg => rfl); (case hn => rfl); (case hd => rfl)) | (apply v_pure; (case hop => first | (apply p_move <;> rfl) | (apply p_lt <;> rfl) | (apply p_gt <;> rfl) | (apply p_assign <;> rfl) | (apply p_pickT <;> rfl) | (apply p_pickF <;> rfl) | (apply p_fieldAddrB <;> rfl) | fail); (case hd => rfl)) | (apply v_guardB; (case h1 => rfl); (case h2 => rfl); all_goals (intro h; (try simp only [reduceCtorEq, zzz] at h))) | (apply v_read; (case hop => (apply r_load1; rfl; (apply Cell.own; (case h => (repeat (exact mhd _))); rfl))); (case hd => rfl)) | fail)
  all_goals
    (refine v_ret [] (outsA1 rfl rfl) (by repeat (exact List.nil_sublist _)) ?_
     refine ⟨?_, rfl⟩
     unfold oddP
     congr 1
     rw [Bool.eq_iff_iff]
     simp [dec_eq]
     try omega)
theorem ssRevIndex_s {G : GH} {l : List Ss} {sv : Value} (hs : Sss G sv l) : Con Tryz.prog 200 #[sv, .func (.func 127) #[] #[]] G [] (fun r G' μ' => G' = G ∧ μ' = [] ∧ ∃ z : Int, r = .int .i64 z ∧ (0 ≤ z ↔ l.any revS = true)) := by
  obtain ⟨A, c, rfl, hlc, hcm, hsome, hcp⟩ := rowOpen hs
  simp only [maxLen] at hcm
  (refine v_enter Tryz.func200 rfl Tryz.ntmps200 rfl ?_; intro B _)
  repeat' (first | apply v_seq | apply v_region | apply v_nil | apply v_block | (apply v_pure; (case hop => first | (apply p_move <;> rfl) | (apply p_assign <;> rfl) | (apply p_lenSlice <;> rfl) | fail); (case hd => rfl)) | fail)
  refine v_loop [8, 7, 0, 1] (fun us G' μ' => G' = G ∧ μ' = [] ∧ ∃ k : Nat, k ≤ l.length ∧ us = [Value.int .i64 (k : Nat), .int .i64 (l.length : Nat), .slice A l.length c, .func (.func 127) #[] #[]] ∧ (l.take k).any revS = false) (fun us => l.length - (headI us).toNat) rfl ⟨rfl, rfl, 0, by omega, rfl, by simp⟩ ?_
  rintro us G' μ' ⟨rfl, rfl, k, hk, rfl, hno⟩
  by_cases hlt : k < l.length
  · have e1 : ((k : Nat) : Int).toNat = k := by omega
    have hA := hsome (by omega)
    have hck := hcp k hlt
    have qp := ssRevClos_s G' l[k]
    have hnx : (l.take (k + 1)).any revS = revS l[k] := by rw [List.take_succ_eq_append_getElem hlt, List.any_append, hno]; simp
    have hin : revS l[k] = true → l.any revS = true := fun h => List.any_eq_true.2 ⟨_, List.getElem_mem hlt, h⟩
    generalize l[k] = x at *
    cases hb : revS x with
    | true =>
      rw [hb] at qp
      repeat' (first | apply v_seq | apply v_region | apply v_nil | apply v_skip | apply v_block | (apply v_pure; (case hop => first | (apply p_move <;> rfl) | (apply p_lt <;> rfl) | (apply p_assign <;> rfl) | (apply p_indexAddrS; (case hx => rfl); (case hi => rfl); (case h0 => omega); (case h => omega); (case hA => assumption)) | fail); (case hd => rfl)) | (apply v_condT; (case hc => rfl)) | (apply v_cond; (case hc => rfl); all_goals (intro h; (try simp only [reduceCtorEq, zzz] at h); first | (exfalso; omega) | skip)) | (apply v_read; (case hop => (apply r_loadN; rfl; exact CellsAt.frozen hck; rfl)); (case hd => rfl)) | (apply v_callFJ0 (hs := qp); (case hx => rfl); (case ha => rfl); (case hd => rfl)) | fail)
      refine v_ret [] (outsA1 rfl rfl) (by repeat (exact List.Sublist.refl _)) ?_
      exact ⟨rfl, rfl, _, rfl, fun _ => hin hb, fun _ => by omega⟩
    | false =>
      rw [hb] at qp hnx
      repeat' (first | apply v_seq | apply v_region | apply v_nil | apply v_skip | apply v_block | apply v_blk | (apply v_pure; (case hop => first | (apply p_move <;> rfl) | (apply p_lt <;> rfl) | (apply p_assign <;> rfl) | (apply p_add; (case hx => rfl); (case hy => rfl); (case h => omega)) | (apply p_indexAddrS; (case hx => rfl); (case hi => rfl); (case h0 => omega); (case h => omega); (case hA => assumption)) | fail); (case hd => rfl)) | (apply v_condF; (case hc => rfl)) | (apply v_cond; (case hc => rfl); all_goals (intro h; (try simp only [reduceCtorEq, zzz] at h); first | (exfalso; omega) | skip)) | (apply v_read; (case hop => (apply r_loadN; rfl; exact CellsAt.frozen hck; rfl)); (case hd => rfl)) | (apply v_callFJ0 (hs := qp); (case hx => rfl); (case ha => rfl); (case hd => rfl)) | fail)
      exact v_again rfl ⟨rfl, rfl, k + 1, by omega, rfl, hnx⟩ (by simp [headI]; omega)
  · rw [List.take_of_length_le (by omega)] at hno
    repeat' (first | apply v_seq | apply v_region | apply v_nil | (apply v_exit; (case hp => rfl)) | (apply v_pure; (case hop => first | (apply p_lt <;> rfl) | (apply p_assign <;> rfl) | fail); (case hd => rfl)) | (apply v_cond; (case hc => rfl); all_goals (intro h; (try simp only [reduceCtorEq, zzz] at h); first | (exfalso; omega) | skip)) | fail)
    refine v_ret [] (outsA1 rfl rfl) (by repeat (exact List.Sublist.refl _)) ?_
    exact ⟨rfl, rfl, _, rfl, fun h => by omega, fun h => by rw [hno] at h; cases h⟩
theorem ssRevHas_s {G : GH} {l : List Ss} {sv : Value} (hs : Sss G sv l) : Con Tryz.prog 126 #[sv, .func (.func 127) #[] #[]] G [] (Just (.bool (l.any revS)) G) := by
  have q := ssRevIndex_s hs
  (refine v_enter Tryz.func126 rfl Tryz.ntmps126 rfl ?_; intro B _)
  repeat' (first | apply v_seq | apply v_region | apply v_nil | (apply v_pure; (case hop => first | (apply p_move <;> rfl) | (apply p_assign <;> rfl)); (case hd => rfl)) | fail)
  refine v_call (μ1 := []) (μ2 := []) rfl q (List.Perm.refl _) rfl ?_
  rintro _ G1 _ - ⟨hG1, rfl, z, rfl, hz⟩
  subst hG1
  repeat' (first | apply v_nil | (apply v_pure; (case hop => first | (apply p_ge <;> rfl) | (apply p_assign <;> rfl)); (case hd => rfl)) | fail)
  refine v_ret [] (outsA1 rfl rfl) (by repeat (exact List.Sublist.refl _)) ?_
  refine ⟨?_, rfl, rfl⟩
  congr 1
  rw [Bool.eq_iff_iff, dec_true, hz]
theorem prOddIndex_s {G : GH} {l : List Pr} {sv : Value} (hs : Prs G sv l) : Con Tryz.prog 250 #[sv, .func (.func 203) #[] #[]] G [] (fun r G' μ' => G' = G ∧ μ' = [] ∧ ∃ z : Int, r = .int .i64 z ∧ (0 ≤ z ↔ l.any oddP = true)) := by
  obtain ⟨A, c, rfl, hlc, hcm, hsome, hcp⟩ := rowOpen hs
  simp only [maxLen] at hcm
  (refine v_enter Tryz.func250 rfl Tryz.ntmps250 rfl ?_; intro B _)
  repeat' (first | apply v_seq | apply v_region | apply v_nil | apply v_block | (apply v_pure; (case hop => first | (apply p_move <;> rfl) | (apply p_assign <;> rfl) | (apply p_lenSlice <;> rfl) | fail); (case hd => rfl)) | fail)
  refine v_loop [8, 7, 0, 1] (fun us G' μ' => G' = G ∧ μ' = [] ∧ ∃ k : Nat, k ≤ l.length ∧ us = [Value.int .i64 (k : Nat), .int .i64 (l.length : Nat), .slice A l.length c, .func (.func 203) #[] #[]] ∧ (l.take k).any oddP = false) (fun us => l.length - (headI us).toNat) rfl ⟨rfl, rfl, 0, by omega, rfl, by simp⟩ ?_
  rintro us G' μ' ⟨rfl, rfl, k, hk, rfl, hno⟩
  by_cases hlt : k < l.length
  · have e1 : ((k : Nat) : Int).toNat = k := by omega
    have hA := hsome (by omega)
    have hck := hcp k hlt
    have qp := prOddClos_s G' l[k]
    have hnx : (l.take (k + 1)).any oddP = oddP l[k] := by rw [List.take_succ_eq_append_getElem hlt, List.any_append, hno]; simp
    have hin : oddP l[k] = true → l.any oddP = true := fun h => List.any_eq_true.2 ⟨_, List.getElem_mem hlt, h⟩
    generalize l[k] = x at *
    cases hb : oddP x with
    | true =>
      rw [hb] at qp
      repeat' (first | apply v_seq | apply v_region | apply v_nil | apply v_skip | apply v_block | (apply v_pure; (case hop => first | (apply p_move <;> rfl) | (apply p_lt <;> rfl) | (apply p_assign <;> rfl) | (apply p_indexAddrS; (case hx => rfl); (case hi => rfl); (case h0 => omega); (case h => omega); (case hA => assumption)) | fail); (case hd => rfl)) | (apply v_condT; (case hc => rfl)) | (apply v_cond; (case hc => rfl); all_goals (intro h; (try simp only [reduceCtorEq, zzz] at h); first | (exfalso; omega) | skip)) | (apply v_read; (case hop => (apply r_loadN; rfl; exact CellsAt.frozen hck; rfl)); (case hd => rfl)) | (apply v_callFJ0 (hs := qp); (case hx => rfl); (case ha => rfl); (case hd => rfl)) | fail)
      refine v_ret [] (outsA1 rfl rfl) (by repeat (exact List.Sublist.refl _)) ?_
      exact ⟨rfl, rfl, _, rfl, fun _ => hin hb, fun _ => by omega⟩
    | false =>
      rw [hb] at qp hnx
      repeat' (first | apply v_seq | apply v_region | apply v_nil | apply v_skip | apply v_block | apply v_blk | (apply v_pure; (case hop => first | (apply p_move <;> rfl) | (apply p_lt <;> rfl) | (apply p_assign <;> rfl) | (apply p_add; (case hx => rfl); (case hy => rfl); (case h => omega)) | (apply p_indexAddrS; (case hx => rfl); (case hi => rfl); (case h0 => omega); (case h => omega); (case hA => assumption)) | fail); (case hd => rfl)) | (apply v_condF; (case hc => rfl)) | (apply v_cond; (case hc => rfl); all_goals (intro h; (try simp only [reduceCtorEq, zzz] at h); first | (exfalso; omega) | skip)) | (apply v_read; (case hop => (apply r_loadN; rfl; exact CellsAt.frozen hck; rfl)); (case hd => rfl)) | (apply v_callFJ0 (hs := qp); (case hx => rfl); (case ha => rfl); (case hd => rfl)) | fail)
      exact v_again rfl ⟨rfl, rfl, k + 1, by omega, rfl, hnx⟩ (by simp [headI]; omega)
  · rw [List.take_of_length_le (by omega)] at hno
    repeat' (first | apply v_seq | apply v_region | apply v_nil | (apply v_exit; (case hp => rfl)) | (apply v_pure; (case hop => first | (apply p_lt <;> rfl) | (apply p_assign <;> rfl) | fail); (case hd => rfl)) | (apply v_cond; (case hc => rfl); all_goals (intro h; (try simp only [reduceCtorEq, zzz] at h); first | (exfalso; omega) | skip)) | fail)
    refine v_ret [] (outsA1 rfl rfl) (by repeat (exact List.Sublist.refl _)) ?_
    exact ⟨rfl, rfl, _, rfl, fun h => by omega, fun h => by rw [hno] at h; cases h⟩
theorem prOddHas_s {G : GH} {l : List Pr} {sv : Value} (hs : Prs G sv l) : Con Tryz.prog 204 #[sv, .func (.func 203) #[] #[]] G [] (Just (.bool (l.any oddP)) G) := by
  have q := prOddIndex_s hs
  (refine v_enter Tryz.func204 rfl Tryz.ntmps204 rfl ?_; intro B _)
  repeat' (first | apply v_seq | apply v_region | apply v_nil | (apply v_pure; (case hop => first | (apply p_move <;> rfl) | (apply p_assign <;> rfl)); (case hd => rfl)) | fail)
  refine v_call (μ1 := []) (μ2 := []) rfl q (List.Perm.refl _) rfl ?_
  rintro _ G1 _ - ⟨hG1, rfl, z, rfl, hz⟩
  subst hG1
  repeat' (first | apply v_nil | (apply v_pure; (case hop => first | (apply p_ge <;> rfl) | (apply p_assign <;> rfl)); (case hd => rfl)) | fail)
  refine v_ret [] (outsA1 rfl rfl) (by repeat (exact List.Sublist.refl _)) ?_
  refine ⟨?_, rfl, rfl⟩
  congr 1
  rw [Bool.eq_iff_iff, dec_true, hz]
def PrOk (x : Pr) : Prop := keyB x.key = true ∧ valB x.val = true
def Sized (l : List Pr) : Prop := ∀ x ∈ l, x.key.size ≤ 200 ∧ x.val.size ≤ 200
def AdjP (l : List Pr) : Prop := ∀ i (h : i < l.length) (h0 : 0 < i), ksP (l[i - 1]'(by omega)) < ksP l[i]
def OneP (l : List Pr) : Prop := l.length ≤ 64 ∧ AdjP l ∧ ∀ x ∈ l, PrOk x ∧ x.rev = 0
def TwoP (l : List Pr) : Prop := l.length ≤ 64 ∧ AdjP l ∧ ∀ x ∈ l, PrOk x ∧ 1 ≤ x.rev ∧ x.rev ≤ 4294967296
noncomputable instance (l : List Pr) : Decidable (OneP l) := Classical.propDecidable _
noncomputable instance (l : List Pr) : Decidable (TwoP l) := Classical.propDecidable _
theorem adj_rise {l : List Pr} (h : AdjP l) : RiseG ksP l := by
  intro i j hj hij
  induction j with
  | zero => omega
  | succ j ih =>
    have h1 := h (j + 1) hj (by omega)
    simp only [Nat.add_sub_cancel] at h1
    by_cases e : i = j
    · subst e; exact h1
    · have := ih (by omega) (by omega)
      omega
theorem rise_adj {l : List Pr} (h : RiseG ksP l) : AdjP l := fun i hi h0 => h (i - 1) i hi (by omega)
set_option maxHeartbeats 1000000 in
theorem oneCheck_s {G : GH} (hT : TabsG G) {l : List Pr} {sv : Value} (hs : Prs G sv l) (hz : Sized l) : Con Tryz.prog 128 #[sv] G [] (Just (.int .i64 (if OneP l then 0 else 3)) G) := by
  obtain ⟨A, c, rfl, hlc, hcm, hsome, hcp⟩ := rowOpen hs
  simp only [maxLen] at hcm
  apply Con.just
  by_cases h64 : 64 < l.length
  · rw [if_neg (fun h => by have := h.1; omega)]
    (refine v_enter Tryz.func128 rfl Tryz.ntmps128 rfl ?_; intro B _)
    repeat' (first | apply v_seq | apply v_region | apply v_nil | (apply v_pure; (case hop => first | (apply p_move <;> rfl) | (apply p_gt <;> rfl) | (apply p_assign <;> rfl) | (apply p_lenSlice <;> rfl) | fail); (case hd => rfl)) | (apply v_cond; (case hc => rfl); all_goals (intro h; (try simp only [reduceCtorEq, zzz] at h); first | (exfalso; omega) | skip)) | fail)
    refine v_ret [] (outsA1 rfl rfl) (by repeat (exact List.Sublist.refl _)) ?_
    exact ⟨rfl, rfl⟩
  (refine v_enter Tryz.func128 rfl Tryz.ntmps128 rfl ?_; intro B _)
  repeat' (first | apply v_seq | apply v_region | apply v_nil | apply v_skip | apply v_block | (apply v_pure; (case hop => first | (apply p_move <;> rfl) | (apply p_gt <;> rfl) | (apply p_assign <;> rfl) | (apply p_lenSlice <;> rfl) | fail); (case hd => rfl)) | (apply v_cond; (case hc => rfl); all_goals (intro h; (try simp only [reduceCtorEq, zzz] at h); first | (exfalso; omega) | skip)) | fail)
  refine v_loop [10, 9, 8, 0] (fun us G' μ' => G' = G ∧ μ' = [] ∧ ∃ k : Nat, k ≤ l.length ∧ us = [Value.int .i64 (k : Nat), .int .i64 (l.length : Nat), .slice A l.length c, .slice A l.length c] ∧ ∀ i (h : i < l.length), i < k → (∀ h0 : 0 < i, ksP (l[i - 1]'(by omega)) < ksP l[i]) ∧ PrOk l[i] ∧ l[i].rev = 0) (fun us => l.length - (headI us).toNat) rfl ⟨rfl, rfl, 0, by omega, rfl, by omega⟩ ?_
  rintro us G' _ ⟨rfl, rfl, k, hk, rfl, hno⟩
  by_cases hlt : k < l.length
  · have e1 : ((k : Nat) : Int).toNat = k := by omega
    have hA := hsome (by omega)
    have hck := hcp k hlt
    obtain ⟨hz1, hz2⟩ := hz _ (List.getElem_mem hlt)
    obtain ⟨pk, hpk, hpz, hpe⟩ : ∃ pk : ByteArray, (0 < k → GH.cell? G' (((adr A).add ((((k : Nat) : Int) - 1).toNat * 3)).add 0) = some (.string pk)) ∧ pk.size ≤ 200 ∧ ∀ h0 : 0 < k, pk = (l[k - 1]'(by omega)).key := by
      by_cases h0 : 0 < k
      · have e2 : (((k : Nat) : Int) - 1).toNat = k - 1 := by omega
        exact ⟨_, fun _ => by rw [e2]; exact (hcp (k - 1) (by omega)).cell (j := 0) rfl, (hz _ (List.getElem_mem (by omega))).1, fun _ => rfl⟩
      · exact ⟨ByteArray.empty, fun h => absurd h h0, by decide, fun h => absurd h h0⟩
    have hin : ∀ P : Prop, OneP l → (((∀ h0 : 0 < k, kn pk < kn (l[k]).key) ∧ keyB (l[k]).key = true ∧ valB (l[k]).val = true ∧ (l[k]).rev = 0) → P) → P := fun P h hp => hp ⟨fun h0 => by rw [hpe h0]; exact h.2.1 k hlt h0, (h.2.2 _ (List.getElem_mem hlt)).1.1, (h.2.2 _ (List.getElem_mem hlt)).1.2, (h.2.2 _ (List.getElem_mem hlt)).2⟩
    have hnx : (∀ h0 : 0 < k, kn pk < kn (l[k]).key) → keyB (l[k]).key = true → valB (l[k]).val = true → (l[k]).rev = 0 → ∀ i (h : i < l.length), i < k + 1 → (∀ h0 : 0 < i, ksP (l[i - 1]'(by omega)) < ksP l[i]) ∧ PrOk l[i] ∧ l[i].rev = 0 := fun a1 a2 a3 a4 i hi hik => by
      by_cases e : i = k
      · subst e
        exact ⟨fun h0 => by have := a1 h0; rw [hpe h0] at this; exact this, ⟨a2, a3⟩, a4⟩
      · exact hno i hi (by omega)
    have qk := key_s (s := (l[k]).key) hT (by omega)
    have qv := val_s (s := (l[k]).val) hT (by omega)
    clear hpe
    generalize l[k] = x at *
    obtain ⟨key, val, rev⟩ := x
    simp only at *
    generalize hkb : keyB key = kb at *
    generalize hvb : valB val = vb at *
    repeat' (first | apply v_seq | apply v_region | apply v_nil | apply v_skip | apply v_block | (apply v_pure; (case hop => first | (apply p_move <;> rfl) | (apply p_lt <;> rfl) | (apply p_assign <;> rfl) | (apply p_indexAddrS; (case hx => rfl); (case hi => rfl); (case h0 => omega); (case h => omega); (case hA => assumption)) | fail); (case hd => rfl)) | (apply v_cond; (case hc => rfl); all_goals (intro h; (try simp only [reduceCtorEq, zzz] at h); first | (exfalso; omega) | skip)) | (apply v_read; (case hop => (apply r_loadN; rfl; exact CellsAt.frozen hck; rfl)); (case hd => rfl)) | (apply v_alloc; (case hz => rfl); (case hd => rfl); intro b) | (apply v_store; (case hp => rfl); (case hx => rfl); (case hc => rfl); (case hsz => rfl); (case h1 => rfl); (case hb => (repeat (exact mhd _))); (case hfit => exact nle rfl); (case hov => ((repeat (first | with_reducible exact ov_nil | apply ov_cons)); done)); (case hu => repeat (exact Upd.here _ _))) | fail)
    refine d_start [(b, .cells [.string key, .string val, .int .i64 rev].toArray 144 (0, 0))] (by kernel_rfl) (by kernel_rfl) (by kernel_rfl) (by intro e he; exact he) ?_
    all_goals (apply dtk 0; (case hi => rfl); (case hop => (apply prd; apply p_move <;> rfl)); (case hq => kernel_rfl))
    all_goals (apply dtk 1; (case hi => rfl); (case hop => (apply prd; apply p_gt <;> rfl)); (case hq => kernel_rfl))
    all_goals (apply dtk 2; (case hi => rfl); (case hop => (apply prd; apply p_move <;> rfl)); (case hq => kernel_rfl))
    all_goals (try (apply d_guardB 3; (case hi => rfl); (case hgd => rfl); (case h1 => rfl); (case h2 => rfl); all_goals (intro h; (try simp only [reduceCtorEq, zzz] at h))))
    all_goals (first | (apply dpa 3; (case hi => rfl); (case hg => rfl); (case hn => rfl); (case hq => kernel_rfl)) | (apply dtg 3; (case hi => rfl); (case hg => rfl); (case hop => (apply prd; apply p_fieldAddrB <;> rfl)); (case hq => kernel_rfl)) | fail)
    all_goals (try (apply d_guardB 4; (case hi => rfl); (case hgd => rfl); (case h1 => rfl); (case h2 => rfl); all_goals (intro h; (try simp only [reduceCtorEq, zzz] at h))))
    all_goals (first | (apply dpa 4; (case hi => rfl); (case hg => rfl); (case hn => rfl); (case hq => kernel_rfl)) | (apply dtg 4; (case hi => rfl); (case hg => rfl); (case hop => (apply r_load1; rfl; (apply Cell.own; (case h => (repeat (exact mhd _))); rfl))); (case hq => kernel_rfl)) | fail)
    all_goals (try (apply d_guardB 5; (case hi => rfl); (case hgd => rfl); (case h1 => rfl); (case h2 => rfl); all_goals (intro h; (try simp only [reduceCtorEq, zzz] at h))))
    all_goals (first | (apply dpa 5; (case hi => rfl); (case hg => rfl); (case hn => rfl); (case hq => kernel_rfl)) | (apply dtg 5; (case hi => rfl); (case hg => rfl); (case hop => (apply prd; apply p_move <;> rfl)); (case hq => kernel_rfl)) | fail)
    all_goals (try (apply d_guardB 6; (case hi => rfl); (case hgd => rfl); (case h1 => rfl); (case h2 => rfl); all_goals (intro h; (try simp only [reduceCtorEq, zzz] at h))))
    all_goals (first | (apply dpa 6; (case hi => rfl); (case hg => rfl); (case hn => rfl); (case hq => kernel_rfl)) | (apply dtg 6; (case hi => rfl); (case hg => rfl); (case hop => (apply prd; apply p_move <;> rfl)); (case hq => kernel_rfl)) | fail)
    all_goals (try (apply d_guardB 7; (case hi => rfl); (case hgd => rfl); (case h1 => rfl); (case h2 => rfl); all_goals (intro h; (try simp only [reduceCtorEq, zzz] at h))))
    all_goals (first | (apply dpa 7; (case hi => rfl); (case hg => rfl); (case hn => rfl); (case hq => kernel_rfl)) | (apply dtg 7; (case hi => rfl); (case hg => rfl); (case hop => (apply prd; apply p_sub; (case hx => rfl); (case hy => rfl); (case h => omega))); (case hq => kernel_rfl)) | fail)
    all_goals (try (apply d_guardB 8; (case hi => rfl); (case hgd => rfl); (case h1 => rfl); (case h2 => rfl); all_goals (intro h; (try simp only [reduceCtorEq, zzz] at h))))
    all_goals (first | (apply dpa 8; (case hi => rfl); (case hg => rfl); (case hn => rfl); (case hq => kernel_rfl)) | (apply dtg 8; (case hi => rfl); (case hg => rfl); (case hop => (apply prd; apply p_indexAddrS; (case hx => rfl); (case hi => rfl); (case h0 => omega); (case h => omega); (case hA => assumption))); (case hq => kernel_rfl)) | fail)
    all_goals (try (apply d_guardB 9; (case hi => rfl); (case hgd => rfl); (case h1 => rfl); (case h2 => rfl); all_goals (intro h; (try simp only [reduceCtorEq, zzz] at h))))
    all_goals (first | (apply dpa 9; (case hi => rfl); (case hg => rfl); (case hn => rfl); (case hq => kernel_rfl)) | (apply dtg 9; (case hi => rfl); (case hg => rfl); (case hop => (apply prd; apply p_fieldAddr <;> rfl)); (case hq => kernel_rfl)) | fail)
    all_goals (try (apply d_guardB 10; (case hi => rfl); (case hgd => rfl); (case h1 => rfl); (case h2 => rfl); all_goals (intro h; (try simp only [reduceCtorEq, zzz] at h))))
    all_goals (first | (apply dpa 10; (case hi => rfl); (case hg => rfl); (case hn => rfl); (case hq => kernel_rfl)) | (apply dtg 10; (case hi => rfl); (case hg => rfl); (case hop => ((apply r_load1; rfl; exact Cell.frozen (hpk (by omega))))); (case hq => kernel_rfl)) | fail)
    all_goals (try (apply d_guardB 11; (case hi => rfl); (case hgd => rfl); (case h1 => rfl); (case h2 => rfl); all_goals (intro h; (try simp only [reduceCtorEq, zzz] at h))))
    all_goals (first | (apply dpa 11; (case hi => rfl); (case hg => rfl); (case hn => rfl); (case hq => kernel_rfl)) | (apply dtg 11; (case hi => rfl); (case hg => rfl); (case hop => ((apply prd; apply p_leK; (case hx => rfl); (case hy => rfl); (case ha => assumption); (case hb => assumption)))); (case hq => kernel_rfl)) | fail)
    all_goals (apply dtk 12; (case hi => rfl); (case hop => first | (apply prd; apply p_pickT <;> rfl) | (apply prd; apply p_pickF <;> rfl) | fail); (case hq => kernel_rfl))
    all_goals (apply dtk 13; (case hi => rfl); (case hop => (apply prd; apply p_move <;> rfl)); (case hq => kernel_rfl))
    all_goals (try (apply d_guardB 14; (case hi => rfl); (case hgd => rfl); (case h1 => rfl); (case h2 => rfl); all_goals (intro h; (try simp only [reduceCtorEq, zzz] at h))))
    all_goals (first | (apply dpa 14; (case hi => rfl); (case hg => rfl); (case hn => rfl); (case hq => kernel_rfl)) | (apply dtg 14; (case hi => rfl); (case hg => rfl); (case hop => (apply prd; apply p_fieldAddrB <;> rfl)); (case hq => kernel_rfl)) | fail)
    all_goals (try (apply d_guardB 15; (case hi => rfl); (case hgd => rfl); (case h1 => rfl); (case h2 => rfl); all_goals (intro h; (try simp only [reduceCtorEq, zzz] at h))))
    all_goals (first | (apply dpa 15; (case hi => rfl); (case hg => rfl); (case hn => rfl); (case hq => kernel_rfl)) | (apply dtg 15; (case hi => rfl); (case hg => rfl); (case hop => (apply r_load1; rfl; (apply Cell.own; (case h => (repeat (exact mhd _))); rfl))); (case hq => kernel_rfl)) | fail)
    all_goals (try (apply d_guardB 16; (case hi => rfl); (case hgd => rfl); (case h1 => rfl); (case h2 => rfl); all_goals (intro h; (try simp only [reduceCtorEq, zzz] at h))))
    all_goals (first | (apply dpa 16; (case hi => rfl); (case hg => rfl); (case hn => rfl); (case hq => kernel_rfl)) | (apply d_callJG 16 (hs := qk); (case hi => rfl); (case hg => rfl); (case hr => kernel_rfl); (case ha => rfl); (case hd => rfl)) | fail)
    all_goals (try (apply d_guardB 17; (case hi => rfl); (case hgd => rfl); (case h1 => rfl); (case h2 => rfl); all_goals (intro h; (try simp only [reduceCtorEq, zzz] at h))))
    all_goals (first | (apply dpa 17; (case hi => rfl); (case hg => rfl); (case hn => rfl); (case hq => kernel_rfl)) | (apply dtg 17; (case hi => rfl); (case hg => rfl); (case hop => (apply prd; apply p_not <;> rfl)); (case hq => kernel_rfl)) | fail)
    all_goals (apply dtk 18; (case hi => rfl); (case hop => first | (apply prd; apply p_pickT <;> rfl) | (apply prd; apply p_pickF <;> rfl) | fail); (case hq => kernel_rfl))
    all_goals (apply dtk 19; (case hi => rfl); (case hop => (apply prd; apply p_move <;> rfl)); (case hq => kernel_rfl))
    all_goals (try (apply d_guardB 20; (case hi => rfl); (case hgd => rfl); (case h1 => rfl); (case h2 => rfl); all_goals (intro h; (try simp only [reduceCtorEq, zzz] at h))))
    all_goals (first | (apply dpa 20; (case hi => rfl); (case hg => rfl); (case hn => rfl); (case hq => kernel_rfl)) | (apply dtg 20; (case hi => rfl); (case hg => rfl); (case hop => (apply prd; apply p_fieldAddrB <;> rfl)); (case hq => kernel_rfl)) | fail)
    all_goals (try (apply d_guardB 21; (case hi => rfl); (case hgd => rfl); (case h1 => rfl); (case h2 => rfl); all_goals (intro h; (try simp only [reduceCtorEq, zzz] at h))))
    all_goals (first | (apply dpa 21; (case hi => rfl); (case hg => rfl); (case hn => rfl); (case hq => kernel_rfl)) | (apply dtg 21; (case hi => rfl); (case hg => rfl); (case hop => (apply r_load1; rfl; (apply Cell.own; (case h => (repeat (exact mhd _))); rfl))); (case hq => kernel_rfl)) | fail)
    all_goals (try (apply d_guardB 22; (case hi => rfl); (case hgd => rfl); (case h1 => rfl); (case h2 => rfl); all_goals (intro h; (try simp only [reduceCtorEq, zzz] at h))))
    all_goals (first | (apply dpa 22; (case hi => rfl); (case hg => rfl); (case hn => rfl); (case hq => kernel_rfl)) | (apply d_callJG 22 (hs := qv); (case hi => rfl); (case hg => rfl); (case hr => kernel_rfl); (case ha => rfl); (case hd => rfl)) | fail)
    all_goals (try (apply d_guardB 23; (case hi => rfl); (case hgd => rfl); (case h1 => rfl); (case h2 => rfl); all_goals (intro h; (try simp only [reduceCtorEq, zzz] at h))))
    all_goals (first | (apply dpa 23; (case hi => rfl); (case hg => rfl); (case hn => rfl); (case hq => kernel_rfl)) | (apply dtg 23; (case hi => rfl); (case hg => rfl); (case hop => (apply prd; apply p_not <;> rfl)); (case hq => kernel_rfl)) | fail)
    all_goals (apply dtk 24; (case hi => rfl); (case hop => first | (apply prd; apply p_pickT <;> rfl) | (apply prd; apply p_pickF <;> rfl) | fail); (case hq => kernel_rfl))
    all_goals (apply dtk 25; (case hi => rfl); (case hop => (apply prd; apply p_move <;> rfl)); (case hq => kernel_rfl))
    all_goals (try (apply d_guardB 26; (case hi => rfl); (case hgd => rfl); (case h1 => rfl); (case h2 => rfl); all_goals (intro h; (try simp only [reduceCtorEq, zzz] at h))))
    all_goals (first | (apply dpa 26; (case hi => rfl); (case hg => rfl); (case hn => rfl); (case hq => kernel_rfl)) | (apply dtg 26; (case hi => rfl); (case hg => rfl); (case hop => (apply prd; apply p_fieldAddrB <;> rfl)); (case hq => kernel_rfl)) | fail)
    all_goals (try (apply d_guardB 27; (case hi => rfl); (case hgd => rfl); (case h1 => rfl); (case h2 => rfl); all_goals (intro h; (try simp only [reduceCtorEq, zzz] at h))))
    all_goals (first | (apply dpa 27; (case hi => rfl); (case hg => rfl); (case hn => rfl); (case hq => kernel_rfl)) | (apply dtg 27; (case hi => rfl); (case hg => rfl); (case hop => (apply r_load1; rfl; (apply Cell.own; (case h => (repeat (exact mhd _))); rfl))); (case hq => kernel_rfl)) | fail)
    all_goals (try (apply d_guardB 28; (case hi => rfl); (case hgd => rfl); (case h1 => rfl); (case h2 => rfl); all_goals (intro h; (try simp only [reduceCtorEq, zzz] at h))))
    all_goals (first | (apply dpa 28; (case hi => rfl); (case hg => rfl); (case hn => rfl); (case hq => kernel_rfl)) | (apply dtg 28; (case hi => rfl); (case hg => rfl); (case hop => (apply prd; apply p_ne <;> rfl)); (case hq => kernel_rfl)) | fail)
    all_goals (apply dtk 29; (case hi => rfl); (case hop => first | (apply prd; apply p_pickT <;> rfl) | (apply prd; apply p_pickF <;> rfl) | fail); (case hq => kernel_rfl))
    all_goals (apply d_done; (case hr => kernel_rfl))
    repeat' (first | apply v_seq | apply v_region | apply v_nil | apply v_skip | apply v_blk | (apply v_pure; (case hop => first | (apply p_move <;> rfl) | (apply p_assign <;> rfl) | (apply p_add; (case hx => rfl); (case hy => rfl); (case h => omega)) | fail); (case hd => rfl)) | (apply v_condT; (case hc => rfl)) | (apply v_cond; (case hc => rfl); all_goals (intro h; (try simp only [reduceCtorEq, zzz] at h))) | fail)
    all_goals first
      | (refine v_drop (List.nil_sublist _) ?_
         refine v_again rfl ⟨rfl, rfl, k + 1, by omega, rfl, hnx (fun h0 => by omega) (by assumption) (by assumption) (by assumption)⟩ (by simp [headI]; omega))
      | (refine v_ret [] (outsA1 rfl rfl) (by repeat (exact List.nil_sublist _)) ?_
         refine ⟨?_, rfl⟩
         rw [if_neg]
         intro ho
         refine hin False ho ?_
         rintro ⟨a1, a2, a3, a4⟩
         first
           | (cases a2.symm.trans ‹kb = false›)
           | (cases a3.symm.trans ‹vb = false›)
           | (exact absurd a4 (by assumption))
           | (have a5 := a1 (by omega); omega))
  · have hone : OneP l := ⟨by omega, fun i hi h0 => (hno i hi (by omega)).1 h0, fun x hx => by
      obtain ⟨i, hi, rfl⟩ := List.getElem_of_mem hx
      exact (hno i hi (by omega)).2⟩
    rw [if_pos hone]
    repeat' (first | apply v_seq | apply v_region | apply v_nil | (apply v_exit; (case hp => rfl)) | (apply v_pure; (case hop => first | (apply p_lt <;> rfl) | (apply p_assign <;> rfl) | fail); (case hd => rfl)) | (apply v_cond; (case hc => rfl); all_goals (intro h; (try simp only [reduceCtorEq, zzz] at h); first | (exfalso; omega) | skip)) | fail)
    refine v_ret [] (outsA1 rfl rfl) (by repeat (exact List.Sublist.refl _)) ?_
    exact ⟨rfl, rfl⟩
theorem p_idxOwn2 {P : Program} {σ : Env} {t ty : TypeId} {bytes : Nat} {zero : Value} {e : TypeId} {agg : Bool} {sz : Nat} {x i : Operand} {b l c k : Nat} {kd : IntKind} [Ty P t (.slice e)] [Lay P e agg sz bytes zero] (hx : Env.ev σ x = some (.slice (some ⟨b, 0, none⟩) l c)) (hi : Env.ev σ i = some (.int kd (k : Nat))) (h : k < l) : PureOp P (.indexAddr t x i) ty σ (.pointer (some ⟨b, k * sz, none⟩)) := by
  have := p_indexAddr (P := P) (t := t) (ty := ty) hx hi (by omega) (by omega)
  simpa [add_mk] using this
def plainOf (x : Pr) : Pr := { x with rev := 0 }
def plainK (l : List Pr) (k : Nat) : List Pr := (l.take k).map plainOf ++ l.drop k
theorem plainK_next {l : List Pr} {k : Nat} (h : k < l.length) : plainK l (k + 1) = (l.take k).map plainOf ++ plainOf l[k] :: l.drop (k + 1) := by
  unfold plainK
  rw [List.take_succ_eq_append_getElem h, List.map_append, List.append_assoc]
  rfl
theorem plainK_at {l : List Pr} {k : Nat} (h : k < l.length) : plainK l k = (l.take k).map plainOf ++ l[k] :: l.drop (k + 1) := by
  unfold plainK
  rw [List.drop_eq_getElem_cons h]
theorem rev_over (x : Pr) (p q : List Value) (n : Nat) (hp : p.length = n) : over (p ++ (x.cells ++ q)) (n + 2) [.int .i64 0] = p ++ ((plainOf x).cells ++ q) := by
  subst hp
  unfold over
  rw [List.take_append, List.take_of_length_le (by omega), List.drop_append, List.drop_of_length_le (by omega)]
  rw [show p.length + 2 - p.length = 2 by omega, show p.length + 2 + [Value.int IntKind.i64 0].length - p.length = 3 by simp only [List.length_singleton]; omega]
  simp [Pr.cells, plainOf]
theorem plainPr_s {G : GH} {l : List Pr} {sv : Value} (hs : Prs G sv l) (hn : l.length ≤ 200) : Con Tryz.prog 205 #[sv] G [] (fun r G' μ' => G' = G ∧ GrP r (l.map plainOf) μ') := by
  have q := prClone_s hs hn
  (refine v_enter Tryz.func205 rfl Tryz.ntmps205 rfl ?_; intro B _)
  repeat' (first | apply v_seq | apply v_region | apply v_nil | (apply v_pure; (case hop => first | (apply p_move <;> rfl) | (apply p_assign <;> rfl) | fail); (case hd => rfl)) | fail)
  refine v_call (μ1 := []) (μ2 := []) rfl q (List.Perm.refl _) rfl ?_
  rintro r G1 ν - ⟨hG1, hg⟩
  subst hG1
  obtain ⟨hxl, ⟨rfl, h0, rfl⟩ | ⟨b, cap, spare, rfl, rfl, hc1, hc2, hc3⟩⟩ := hg
  · have hl0 : l = [] := List.eq_nil_of_length_eq_zero h0
    subst hl0
    repeat' (first | apply v_seq | apply v_region | apply v_nil | apply v_block | (apply v_pure; (case hop => first | (apply p_move <;> rfl) | (apply p_assign <;> rfl) | (apply p_lenSlice <;> rfl) | fail); (case hd => rfl)) | fail)
    refine v_loop [9, 8, 3] (fun us G' μ' => G' = G1 ∧ us = [Value.int .i64 (0 : Nat), .int .i64 (0 : Nat), .slice none 0 0] ∧ μ' = []) (fun us => 0) rfl ⟨rfl, rfl, rfl⟩ ?_
    rintro us G' _ ⟨rfl, rfl, rfl⟩
    repeat' (first | apply v_seq | apply v_region | apply v_nil | (apply v_exit; (case hp => rfl)) | (apply v_pure; (case hop => first | (apply p_move <;> rfl) | (apply p_lt <;> rfl) | (apply p_assign <;> rfl) | fail); (case hd => rfl)) | (apply v_cond; (case hc => rfl); all_goals (intro h; (try simp only [reduceCtorEq, zzz] at h); first | (exfalso; omega) | skip)) | fail)
    refine v_ret [] (outsA1 rfl rfl) (by repeat (exact List.Sublist.refl _)) ?_
    exact ⟨rfl, Grow.nil _ _⟩
  · simp only [maxLen] at hc2
    rw [List.length_append, rowC_length Pr.len] at hc3
    repeat' (first | apply v_seq | apply v_region | apply v_nil | apply v_block | (apply v_pure; (case hop => first | (apply p_move <;> rfl) | (apply p_assign <;> rfl) | (apply p_lenSlice <;> rfl) | fail); (case hd => rfl)) | fail)
    refine v_loop [9, 8, 3] (fun us G' μ' => G' = G1 ∧ ∃ k : Nat, k ≤ l.length ∧ us = [Value.int .i64 (k : Nat), .int .i64 (l.length : Nat), .slice (some ⟨b, 0, none⟩) l.length cap] ∧ μ' = [(b, .cells (rowC Pr.cells (plainK l k) ++ spare).toArray 144 (0, 0))]) (fun us => l.length - (headI us).toNat) rfl ⟨rfl, 0, by omega, rfl, rfl⟩ ?_
    rintro us G' _ ⟨hG', k, hk, rfl, rfl⟩
    subst hG'
    by_cases hlt : k < l.length
    · have hov : over (rowC Pr.cells (plainK l k) ++ spare) (k * 3 + 2) [.int .i64 0] = rowC Pr.cells (plainK l (k + 1)) ++ spare := by
        rw [plainK_at hlt, plainK_next hlt, rowC_append, rowC_append, rowC_cons, rowC_cons, List.append_assoc, List.append_assoc, List.append_assoc, List.append_assoc]
        exact rev_over _ _ _ _ (by rw [rowC_length Pr.len, List.length_map, List.length_take, Nat.min_eq_left (by omega)])
      have hfit : k * 3 + 2 + 1 ≤ (rowC Pr.cells (plainK l k) ++ spare).length := by
        rw [List.length_append, rowC_length Pr.len]
        unfold plainK
        rw [List.length_append, List.length_map, List.length_take, List.length_drop]
        omega
      repeat' (first | (apply v_pure; (case hop => apply p_idxOwn2; (case hx => rfl); (case hi => rfl); (case h => omega)); (case hd => rfl)) | apply v_seq | apply v_region | apply v_nil | apply v_skip | apply v_block | apply v_blk | (apply v_pure; (case hop => first | (apply p_move <;> rfl) | (apply p_lt <;> rfl) | (apply p_assign <;> rfl) | (apply p_fieldAddrB <;> rfl) | (apply p_add; (case hx => rfl); (case hy => rfl); (case h => omega)) | fail); (case hd => rfl)) | (apply v_cond; (case hc => rfl); all_goals (intro h; (try simp only [reduceCtorEq, zzz] at h); first | (exfalso; omega) | skip)) | (apply v_store; (case hp => rfl); (case hx => rfl); (case hc => rfl); (case hsz => rfl); (case h1 => rfl); (case hb => (repeat (exact mhd _))); (case hfit => exact hfit); (case hov => exact hov); (case hu => (repeat (exact Upd.here _ _)))) | fail)
      exact v_again rfl ⟨rfl, k + 1, by omega, rfl, rfl⟩ (by simp [headI]; omega)
    · obtain rfl : k = l.length := by omega
      have e1 : plainK l l.length = l.map plainOf := by unfold plainK; simp
      rw [e1]
      repeat' (first | apply v_seq | apply v_region | apply v_nil | (apply v_exit; (case hp => rfl)) | (apply v_pure; (case hop => first | (apply p_move <;> rfl) | (apply p_lt <;> rfl) | (apply p_assign <;> rfl) | fail); (case hd => rfl)) | (apply v_cond; (case hc => rfl); all_goals (intro h; (try simp only [reduceCtorEq, zzz] at h); first | (exfalso; omega) | skip)) | fail)
      refine v_ret [(b, _)] (outsA1 rfl rfl) (List.Sublist.refl _) ⟨rfl, ?_⟩
      unfold GrP
      rw [List.length_map]
      exact ⟨by rw [rowC_length Pr.len, List.length_map], .inr ⟨b, cap, spare, rfl, rfl, hc1, by simp only [maxLen]; omega, by rw [List.length_append, rowC_length Pr.len, List.length_map]; exact hc3⟩⟩
theorem Mem.lent {G : GH} {μ ν : OH} {w : World} (h : Mem G (ν ++ μ) w) : Mem (GH.put G ν) μ w := by
  have hs := (Step.refl h).freeze
  exact hs.mem
theorem Con.lend {P : Program} {f : FuncId} {args : Array Value} {G : GH} {ν μ : OH} {Ψ : Value → OH → Prop}
    (h : ∀ G', GH.le G G' → (∀ b o, (b, o) ∈ ν → G' b = some o) → Con P f args G' μ (fun v _ μ' => Ψ v μ')) :
    Con P f args G (ν ++ μ) (fun v G' μ' => G' = G ∧ ∃ μ1, Ψ v μ1 ∧ μ' = ν ++ μ1) := by
  unfold Con at h ⊢
  intro w hw
  have hn := hw.nodup
  rw [List.map_append, List.nodup_append] at hn
  have hin : ∀ b o, (b, o) ∈ ν → GH.put G ν b = some o := fun b o hb => GH.put_mem hn.1 (hw.apart b o (List.mem_append_left _ hb)) hb
  refine (h (GH.put G ν) (GH.le_put _ _) hin w (Mem.lent hw)).mono ?_
  rintro v w' ⟨G2, μ1, hs, hΨ⟩
  refine ⟨G, ν ++ μ1, ⟨⟨fun b o hb => hs.mem.g b o (hs.le b o (GH.le_put G ν b o hb)), fun b o hb => ?_, ?_, fun b o hb => ?_⟩, GH.le_refl _, hs.os, hs.tape, hs.output, hs.size, fun b hb hno => hs.same b hb fun o ho => hno o (List.mem_append_right _ ho), fun b o hb => ?_, fun b o hb => .inl ⟨o, hb⟩⟩, rfl, μ1, hΨ, rfl⟩
  · rcases List.mem_append.1 hb with hb | hb
    · exact hs.mem.g b o (hs.le b o (hin b o hb))
    · exact hs.mem.own b o hb
  · rw [List.map_append, List.nodup_append]
    refine ⟨hn.1, hs.mem.nodup, fun a ha b hb e => ?_⟩
    subst e
    obtain ⟨⟨a1, o1⟩, h1, rfl⟩ := List.mem_map.1 ha
    obtain ⟨⟨a2, o2⟩, h2, e2⟩ := List.mem_map.1 hb
    simp only at e2
    subst e2
    have := hs.mem.apart _ _ h2
    rw [hs.le _ _ (hin _ _ h1)] at this
    cases this
  · rcases List.mem_append.1 hb with hb | hb
    · exact hw.apart b o (List.mem_append_left _ hb)
    · have := hs.mem.apart b o hb
      cases hg : G b with
      | none => rfl
      | some o' =>
        rw [hs.le _ _ (GH.le_put G ν b o' hg)] at this
        cases this
  · rcases List.mem_append.1 hb with hb | hb
    · exact .inl ⟨o, List.mem_append_left _ hb⟩
    · rcases hs.mine b o hb with ⟨o', h'⟩ | h'
      · exact .inl ⟨o', List.mem_append_right _ h'⟩
      · exact .inr h'
theorem Con.lendJ {P : Program} {f : FuncId} {args : Array Value} {G : GH} {ν : OH} {v : Value}
    (h : ∀ G', GH.le G G' → (∀ b o, (b, o) ∈ ν → G' b = some o) → Con P f args G' [] (Just v G')) : Con P f args G ν (Keeps v G ν) := by
  have := Con.lend (G := G) (ν := ν) (μ := []) (Ψ := fun u μ' => u = v ∧ μ' = []) fun G' h1 h2 => (h G' h1 h2).mono fun _ _ _ h => ⟨h.1, h.2.2⟩
  rw [List.append_nil] at this
  exact this.mono fun u G' μ' ⟨h1, μ1, ⟨h2, h3⟩, h4⟩ => ⟨h2, h1, by rw [h4, h3, List.append_nil]⟩
theorem Con.lendF {P : Program} {f : FuncId} {args : Array Value} {G : GH} {ν : OH} {Ψ : Value → OH → Prop}
    (h : ∀ G', GH.le G G' → (∀ b o, (b, o) ∈ ν → G' b = some o) → Con P f args G' [] (fun v _ μ' => Ψ v μ')) :
    Con P f args G ν (fun v G' μ' => G' = G ∧ ∃ μ1, Ψ v μ1 ∧ μ' = ν ++ μ1) := by
  have := Con.lend (G := G) (ν := ν) (μ := []) h
  rwa [List.append_nil] at this
section
variable {P : Program} {σ : Env} {G : GH} {μ : OH} {t ty : TypeId} {bytes : Nat} {zero : Value}
end
theorem sized_plain {l : List Pr} (h : Sized l) : Sized (l.map plainOf) := fun x hx => by
  obtain ⟨y, hy, rfl⟩ := List.mem_map.1 hx
  exact h y hy
theorem two_iff {l : List Pr} : TwoP l ↔ l.any oddP = false ∧ OneP (l.map plainOf) := by
  have hadj : AdjP (l.map plainOf) ↔ AdjP l := by
    unfold AdjP
    constructor
    · intro h i hi h0
      have := h i (by rw [List.length_map]; exact hi) h0
      simpa [plainOf] using this
    · intro h i hi h0
      rw [List.length_map] at hi
      have := h i hi h0
      simpa [plainOf] using this
  unfold TwoP OneP
  rw [hadj, List.length_map]
  constructor
  · rintro ⟨h1, h2, h3⟩
    refine ⟨?_, h1, h2, fun x hx => ?_⟩
    · rw [List.any_eq_false]
      intro x hx
      have := h3 x hx
      simp only [oddP, decide_eq_true_eq]
      omega
    · obtain ⟨y, hy, rfl⟩ := List.mem_map.1 hx
      exact ⟨(h3 y hy).1, rfl⟩
  · rintro ⟨h0, h1, h2, h3⟩
    rw [List.any_eq_false] at h0
    refine ⟨h1, h2, fun x hx => ?_⟩
    have a := h0 x hx
    have b := h3 _ (List.mem_map.2 ⟨x, hx, rfl⟩)
    simp only [oddP, decide_eq_true_eq] at a
    exact ⟨b.1, by omega, by omega⟩
theorem twoCheck_s {G : GH} (hT : TabsG G) {l : List Pr} {sv : Value} (hs : Prs G sv l) (hz : Sized l) (hn : l.length ≤ 200) : Con Tryz.prog 129 #[sv] G [] (Just (.int .i64 (if TwoP l then 0 else 3)) G) := by
  have q1 := prOddHas_s hs
  have q2 := plainPr_s hs hn
  have hiff := two_iff (l := l)
  apply Con.just
  generalize l.any oddP = od at *
  (refine v_enter Tryz.func129 rfl Tryz.ntmps129 rfl ?_; intro B _)
  repeat' (first | apply v_seq | apply v_region | apply v_nil | apply v_skip | (apply v_pure; (case hop => first | (apply p_move <;> rfl) | (apply p_assign <;> rfl)); (case hd => rfl)) | (apply v_cond; (case hc => rfl); all_goals (intro h; (try simp only [reduceCtorEq, zzz] at h))) | (apply v_callJ (hs := q1); (case ha => rfl); (case hd => rfl)) | fail)
  · rw [if_neg (fun h => by have := (hiff.1 h).1; simp_all)]
    refine v_ret [] (outsA1 rfl rfl) (by repeat (exact List.Sublist.refl _)) ?_
    exact ⟨rfl, rfl⟩
  · refine v_call (μ1 := []) (μ2 := []) rfl q2 (List.Perm.refl _) rfl ?_
    rintro r G1 ν - ⟨hG1, hg⟩
    subst hG1
    rw [List.append_nil]
    refine v_frzP ν (by rw [List.append_nil]) ?_
    intro G2 hle2 hG2
    have hg' : Grow 144 3 r (l.map plainOf).length (rowC Pr.cells (l.map plainOf)) ν := hg
    have q3 := oneCheck_s (hT.le hle2) (row_of_grow Pr.len hg' hG2) (sized_plain hz)
    have e1 : (if OneP (l.map plainOf) then (0 : Int) else 3) = if TwoP l then 0 else 3 := by
      by_cases h : OneP (l.map plainOf)
      · rw [if_pos h, if_pos (hiff.2 ⟨by assumption, h⟩)]
      · rw [if_neg h, if_neg (fun h2 => h (hiff.1 h2).2)]
    rw [e1] at q3
    repeat' (first | apply v_nil | (apply v_pure; (case hop => (apply p_assign <;> rfl)); (case hd => rfl)) | (apply v_callJ (hs := q3); (case ha => rfl); (case hd => rfl)) | fail)
    refine v_ret [] (outsA1 rfl rfl) (by repeat (exact List.Sublist.refl _)) ?_
    exact ⟨rfl, rfl⟩
theorem placeP_s {G : GH} {l : List Pr} {sv : Value} (k : ByteArray) (hs : Prs G sv l) (hr : RiseG ksP l) (hz : Sized l) (hk : k.size ≤ 200) : Con Tryz.prog 313 #[sv, .string k] G [] (Just (.tuple [.int .i64 (placeG ksP l (kn k) : Nat), .bool (hitG ksP l (kn k))].toArray) G) := by
  have qs := prSearch_s k hs hr (fun x hx => (hz x hx).1) hk
  apply Con.just
  (refine v_enter Tryz.func313 rfl Tryz.ntmps313 rfl ?_; intro B _)
  repeat' (first | apply v_seq | apply v_region | apply v_nil | (apply v_pure; (case hop => first | (apply p_move <;> rfl) | (apply p_assign <;> rfl) | (apply p_extract0 <;> rfl) | (apply p_extract1 <;> rfl) | fail); (case hd => rfl)) | (apply v_callJ (hs := qs); (case ha => rfl); (case hd => rfl)) | fail)
  refine v_ret [] (outsA2 rfl rfl rfl) (by repeat (exact List.Sublist.refl _)) ?_
  exact ⟨rfl, rfl⟩
theorem placeG_le {α : Type} (key : α → Int) (l : List α) (n : Int) : placeG key l n ≤ l.length := List.countP_le_length
theorem hitG_lt {α : Type} {key : α → Int} {l : List α} {n : Int} (h : hitG key l n = true) : placeG key l n < l.length := by
  unfold hitG at h
  split at h
  · assumption
  · cases h
def zeroPr : Pr := ⟨ByteArray.empty, ByteArray.empty, 0⟩
def findP (l : List Pr) (n : Int) : Pr := if h : hitG ksP l n = true then l[placeG ksP l n]'(hitG_lt h) else zeroPr
theorem find_s {G : GH} {l : List Pr} {sv : Value} (k : ByteArray) (hs : Prs G sv l) (hr : RiseG ksP l) (hz : Sized l) (hk : k.size ≤ 200) : Con Tryz.prog 288 #[sv, .string k] G [] (Just (.tuple [.agg (findP l (kn k)).cells.toArray, .bool (hitG ksP l (kn k))].toArray) G) := by
  have qs := placeP_s k hs hr hz hk
  obtain ⟨A, c, rfl, hlc, hcm, hsome, hcp⟩ := rowOpen hs
  simp only [maxLen] at hcm
  apply Con.just
  cases hh : hitG ksP l (kn k) with
  | false =>
    rw [hh] at qs
    have ef : findP l (kn k) = zeroPr := by unfold findP; rw [dif_neg (by rw [hh]; simp)]
    rw [ef]
    (refine v_enter Tryz.func288 rfl Tryz.ntmps288 rfl ?_; intro B _)
    repeat' (first | apply v_seq | apply v_region | apply v_nil | (apply v_pure; (case hop => first | (apply p_move <;> rfl) | (apply p_assign <;> rfl) | (apply p_not <;> rfl) | (apply p_extract0 <;> rfl) | (apply p_extract1 <;> rfl) | (apply p_build; (case hz => rfl); (case hv => (simp only [List.map_cons, List.map_nil]; repeat (with_reducible exact evs_nil))); (case hb => (apply bldL; repeat (exact bld_nil))))); (case hd => rfl)) | (apply v_condT; (case hc => rfl)) | (apply v_callJ (hs := qs); (case ha => rfl); (case hd => rfl)) | (apply v_alloc; (case hz => rfl); (case hd => rfl); intro b) | (apply v_store; (case hp => rfl); (case hx => rfl); (case hc => rfl); (case hsz => rfl); (case h1 => rfl); (case hb => (repeat (exact mhd _))); (case hfit => exact nle rfl); (case hov => ((repeat (first | with_reducible exact ov_nil | apply ov_cons)); done)); (case hu => repeat (exact Upd.here _ _))) | fail)
    refine v_retM [] (outsM_cell_tmp (sz := 3) (vs := zeroPr.cells) (e := 144) rfl rfl rfl (by (repeat (exact mhd _))) rfl) (List.nil_sublist _) ?_
    exact ⟨rfl, rfl⟩
  | true =>
    have hlt := hitG_lt hh
    have ef : findP l (kn k) = l[placeG ksP l (kn k)]'hlt := by unfold findP; rw [dif_pos hh]
    rw [hh] at qs
    rw [ef]
    have hck := hcp _ hlt
    have hA := hsome (by omega)
    generalize l[placeG ksP l (kn k)] = x at *
    generalize placeG ksP l (kn k) = i at *
    have e1 : ((i : Nat) : Int).toNat = i := by omega
    (refine v_enter Tryz.func288 rfl Tryz.ntmps288 rfl ?_; intro B _)
    repeat' (first | apply v_seq | apply v_region | apply v_nil | apply v_skip | (apply v_pure; (case hop => first | (apply p_move <;> rfl) | (apply p_assign <;> rfl) | (apply p_not <;> rfl) | (apply p_extract0 <;> rfl) | (apply p_extract1 <;> rfl) | (apply p_indexAddrS; (case hx => rfl); (case hi => rfl); (case h0 => omega); (case h => omega); (case hA => assumption)) | fail); (case hd => rfl)) | (apply v_condF; (case hc => rfl)) | (apply v_callJ (hs := qs); (case ha => rfl); (case hd => rfl)) | (apply v_read; (case hop => (apply r_loadN; rfl; exact CellsAt.frozen hck; rfl)); (case hd => rfl)) | (apply v_alloc; (case hz => rfl); (case hd => rfl); intro b) | (apply v_store; (case hp => rfl); (case hx => rfl); (case hc => rfl); (case hsz => rfl); (case h1 => rfl); (case hb => (repeat (exact mhd _))); (case hfit => exact nle rfl); (case hov => ((repeat (first | with_reducible exact ov_nil | apply ov_cons)); done)); (case hu => repeat (exact Upd.here _ _))) | fail)
    refine v_retM [] (outsM_cell_tmp (sz := 3) (vs := x.cells) (e := 144) rfl rfl rfl (by (repeat (exact mhd _))) rfl) (List.nil_sublist _) ?_
    exact ⟨rfl, rfl⟩
theorem over_at (p x y t sp : List Value) (h : y.length = x.length) : over (p ++ (x ++ t) ++ sp) p.length y = p ++ (y ++ t) ++ sp := by
  unfold over
  rw [List.append_assoc p, List.take_left, ← List.drop_drop, List.drop_left, h, List.append_assoc x, List.drop_left]
  simp
theorem rowC_set {α : Type} {f : α → List Value} {sz : Nat} (hf : ∀ x, (f x).length = sz) (l : List α) (i : Nat) (hi : i < l.length) (y : α) (sp : List Value) : over (rowC f l ++ sp) (i * sz) (f y) = rowC f (l.set i y) ++ sp := by
  have h1 : (rowC f (l.take i)).length = i * sz := by rw [rowC_length hf, List.length_take, Nat.min_eq_left (by omega)]
  have e : rowC f l = rowC f (l.take i) ++ (f l[i] ++ rowC f (l.drop (i + 1))) := by rw [← rowC_cons, ← List.drop_eq_getElem_cons hi, ← rowC_append, List.take_append_drop]
  have e2 : l.set i y = l.take i ++ y :: l.drop (i + 1) := by
    rw [List.set_eq_take_append_cons_drop, if_pos hi]
  rw [e2, e, rowC_append, rowC_cons, ← h1]
  exact over_at _ _ _ _ _ (by rw [hf, hf])
def putP (l : List Pr) (p : Pr) : List Pr × Bool := if hitG ksP l (kn p.key) = true then (l.set (placeG ksP l (kn p.key)) p, true) else if 64 ≤ l.length then (l, false) else (l.take (placeG ksP l (kn p.key)) ++ p :: l.drop (placeG ksP l (kn p.key)), true)
def delP (l : List Pr) (n : Int) : List Pr := if hitG ksP l n = true then l.take (placeG ksP l n) ++ l.drop (placeG ksP l n + 1) else l
theorem lendPlace {G : GH} {l : List Pr} {v : Value} {ν : OH} (k : ByteArray) (hg : GrP v l ν) (hr : RiseG ksP l) (hz : Sized l) (hk : k.size ≤ 200) : Con Tryz.prog 313 #[v, .string k] G ν (Keeps (.tuple [.int .i64 (placeG ksP l (kn k) : Nat), .bool (hitG ksP l (kn k))].toArray) G ν) :=
  Con.lendJ fun G' _ h2 => placeP_s k (row_of_grow Pr.len hg h2) hr hz hk
theorem put_s {G : GH} {l : List Pr} {v : Value} {ν : OH} (p : Pr) (hg : GrP v l ν) (hr : RiseG ksP l) (hz : Sized l) (hk : p.key.size ≤ 200) (hn : l.length ≤ 200) : Con Tryz.prog 289 #[v, .agg p.cells.toArray] G ν (fun r G' μ' => G' = G ∧ ∃ v', r = .tuple [v', .bool (putP l p).2].toArray ∧ GrP v' (putP l p).1 μ' ∧ ((putP l p).2 = false → v' = v)) := by
  have qp := lendPlace (G := G) p.key hg hr hz hk
  have hpl := placeG_le ksP l (kn p.key)
  unfold putP
  cases hh : hitG ksP l (kn p.key) with
  | true =>
    have hlt := hitG_lt hh
    rw [if_pos rfl]
    rw [hh] at qp
    obtain ⟨hxl, ⟨rfl, h0, rfl⟩ | ⟨b, cap, spare, rfl, rfl, hc1, hc2, hc3⟩⟩ := hg
    · omega
    have hov := rowC_set Pr.len l _ hlt p spare
    generalize placeG ksP l (kn p.key) = i at *
    have hlen := rowC_length Pr.len l
    (refine v_enter Tryz.func289 rfl Tryz.ntmps289 rfl ?_; intro B _)
    repeat' (first | (apply v_box (zs := p.cells); (case hx => rfl); (case hz => rfl); (case hd => rfl); intro bp) | (apply v_pure; (case hop => apply p_idxOwn2; (case hx => rfl); (case hi => rfl); (case h => omega)); (case hd => rfl)) | apply v_seq | apply v_region | apply v_nil | apply v_block | apply v_blk | (apply v_pure; (case hop => first | (apply p_move <;> rfl) | (apply p_assign <;> rfl) | (apply p_fieldAddrB <;> rfl) | (apply p_extract0 <;> rfl) | (apply p_extract1 <;> rfl) | fail); (case hd => rfl)) | (apply v_condT; (case hc => rfl)) | (apply v_callK (hs := qp) (μ2 := [(bp, .cells p.cells.toArray 144 (0, 0))]); (case ha => rfl); (case hp => exact List.Perm.swap _ _ _); (case hd => rfl)) | (apply v_store (us := p.cells); (case hp => rfl); (case hx => rfl); (case hc => rfl); (case hsz => rfl); (case h1 => rfl); (case hb => (repeat (first | exact mhd _ | apply mtl))); (case hfit => rw [List.length_append, hlen, Pr.len]; omega); (case hov => exact hov); (case hu => (repeat (first | exact Upd.here _ _ | apply Upd.there)))) | (apply v_read; (case hop => first | (apply r_loadNo; (case hx => rfl); (case h => (repeat (exact mhd _))); (case hd => (repeat (first | with_reducible exact dt_nil | apply dt_here))); (case hn => rfl)) | (apply r_load1; rfl; (apply Cell.own; (case h => (repeat (exact mhd _))); rfl)) | fail); (case hd => rfl)) | fail)
    refine v_ret [(b, _)] (outsA2 rfl rfl rfl) (List.Sublist.cons _ (List.Sublist.refl _)) ⟨rfl, _, rfl, ?_, fun h => (by cases h)⟩
    have hsl : (l.set i p).length = l.length := List.length_set ..
    unfold GrP
    simp only [hsl]
    exact ⟨by rw [rowC_length Pr.len, hsl], .inr ⟨b, cap, spare, rfl, rfl, hc1, hc2, by rw [List.length_append, rowC_length Pr.len, hsl]; rw [List.length_append, hlen] at hc3; exact hc3⟩⟩
  | false =>
    rw [hh] at qp
    rw [if_neg (by simp)]
    obtain ⟨A, c, rfl, hA1, hA2⟩ := hg.shape
    simp only [maxLen] at hA2
    by_cases h64 : 64 ≤ l.length
    · rw [if_pos h64]
      (refine v_enter Tryz.func289 rfl Tryz.ntmps289 rfl ?_; intro B _)
      repeat' (first | (apply v_box (zs := p.cells); (case hx => rfl); (case hz => rfl); (case hd => rfl); intro bp) | apply v_seq | apply v_region | apply v_nil | apply v_block | (apply v_pure; (case hop => first | (apply p_move <;> rfl) | (apply p_ge <;> rfl) | (apply p_assign <;> rfl) | (apply p_lenSlice <;> rfl) | (apply p_fieldAddrB <;> rfl) | (apply p_extract0 <;> rfl) | (apply p_extract1 <;> rfl) | fail); (case hd => rfl)) | (apply v_condF; (case hc => rfl)) | (apply v_cond; (case hc => rfl); all_goals (intro h; (try simp only [reduceCtorEq, zzz] at h); first | (exfalso; omega) | skip)) | (apply v_callK (hs := qp) (μ2 := [(bp, .cells p.cells.toArray 144 (0, 0))]); (case ha => rfl); (case hp => exact (List.perm_append_comm (l₁ := [_]))); (case hd => rfl)) | (apply v_read; (case hop => (apply r_load1; rfl; (apply Cell.own; (case h => (repeat (exact mhd _))); rfl))); (case hd => rfl)) | fail)
      refine v_ret ν (outsA2 rfl rfl rfl) (List.sublist_cons_self _ _) ⟨rfl, _, rfl, hg, fun _ => rfl⟩
    · rw [if_neg h64]
      have hq := fun b2 => prInsert_s (G := G) p b2 (placeG ksP l (kn p.key)) hg hpl hn
      have hil : (l.take (placeG ksP l (kn p.key)) ++ p :: l.drop (placeG ksP l (kn p.key))).length = l.length + 1 := by
        rw [List.length_append, List.length_cons, List.length_take, List.length_drop]; omega
      generalize placeG ksP l (kn p.key) = i at *
      (refine v_enter Tryz.func289 rfl Tryz.ntmps289 rfl ?_; intro B _)
      repeat' (first | (apply v_box (zs := p.cells); (case hx => rfl); (case hz => rfl); (case hd => rfl); intro bp) | apply v_seq | apply v_region | apply v_nil | apply v_block | (apply v_pure; (case hop => first | (apply p_move <;> rfl) | (apply p_ge <;> rfl) | (apply p_assign <;> rfl) | (apply p_lenSlice <;> rfl) | (apply p_fieldAddrB <;> rfl) | (apply p_extract0 <;> rfl) | (apply p_extract1 <;> rfl) | fail); (case hd => rfl)) | (apply v_condF; (case hc => rfl)) | (apply v_cond; (case hc => rfl); all_goals (intro h; (try simp only [reduceCtorEq, zzz] at h); first | (exfalso; omega) | skip)) | (apply v_callK (hs := qp) (μ2 := [(bp, .cells p.cells.toArray 144 (0, 0))]); (case ha => rfl); (case hp => exact (List.perm_append_comm (l₁ := [_]))); (case hd => rfl)) | (apply v_read; (case hop => first | (apply r_loadNo; (case hx => rfl); (case h => (repeat (exact mhd _))); (case hd => (repeat (first | with_reducible exact dt_nil | apply dt_here))); (case hn => rfl)) | (apply r_load1; rfl; (apply Cell.own; (case h => (repeat (exact mhd _))); rfl)) | fail); (case hd => rfl)) | (apply v_buildSlice; (case hz => rfl); (case hi => rfl); (case hv => (simp only [List.map_cons, List.map_nil]; repeat (first | with_reducible exact evs_nil | (apply evs_cons; (case h1 => rfl))))); (case hp => (apply pk_cons; (case hc => rfl); (case hs => rfl); (case h => (with_reducible exact pk_nil)); (case he => ((repeat (first | with_reducible exact ap_nil | apply ap_cons)); done)))); (case hb => rfl); (case hd => rfl); intro b) | fail)
      refine v_call (μ1 := ν ++ [(b, .cells p.cells.toArray 144 (0, 0))]) (μ2 := [(bp, .cells p.cells.toArray 144 (0, 0))]) rfl (hq b) ?_ rfl ?_
      · exact (by apply perm_of_count; intro p; simp only [List.append_eq, List.countP_append, List.countP_cons, List.countP_nil, Nat.zero_add, Nat.add_zero]; try ac_rfl)
      rintro v' G1 ν1 - ⟨hG1, hg1⟩
      subst hG1
      repeat' (first | apply v_seq | apply v_region | apply v_nil | apply v_blk | (apply v_pure; (case hop => first | (apply p_move <;> rfl) | (apply p_assign <;> rfl) | fail); (case hd => rfl)) | fail)
      refine v_ret ν1 (outsA2 rfl rfl rfl) (List.sublist_append_left _ _) ⟨rfl, _, rfl, ?_, fun h => (by cases h)⟩
      unfold GrP
      rw [hil]
      exact hg1
theorem del_s {G : GH} {l : List Pr} {v : Value} {ν : OH} (k : ByteArray) (hg : GrP v l ν) (hr : RiseG ksP l) (hz : Sized l) (hk : k.size ≤ 200) (hn : l.length ≤ 200) : Con Tryz.prog 290 #[v, .string k] G ν (fun r G' μ' => G' = G ∧ GrP r (delP l (kn k)) μ') := by
  have qp := lendPlace (G := G) k hg hr hz hk
  unfold delP
  cases hh : hitG ksP l (kn k) with
  | true =>
    have hlt := hitG_lt hh
    rw [if_pos rfl]
    rw [hh] at qp
    have q := prDelete_s (G := G) (placeG ksP l (kn k)) hg hlt hn
    generalize placeG ksP l (kn k) = i at *
    (refine v_enter Tryz.func290 rfl Tryz.ntmps290 rfl ?_; intro B _)
    repeat' (first | apply v_seq | apply v_region | apply v_nil | (apply v_pure; (case hop => first | (apply p_move <;> rfl) | (apply p_assign <;> rfl) | (apply p_extract0 <;> rfl) | (apply p_extract1 <;> rfl) | (apply p_add; (case hx => rfl); (case hy => rfl); (case h => omega))); (case hd => rfl)) | (apply v_condT; (case hc => rfl)) | (apply v_callK (hs := qp) (μ2 := []); (case ha => rfl); (case hp => exact List.Perm.of_eq (List.append_nil _).symm); (case hd => rfl)) | fail)
    refine v_call (μ1 := ν) (μ2 := []) rfl q (List.Perm.of_eq (List.append_nil _).symm) rfl ?_
    rintro v' G1 ν1 - ⟨hG1, hg1⟩
    subst hG1
    repeat' (first | apply v_nil | (apply v_pure; (case hop => (apply p_assign <;> rfl)); (case hd => rfl)) | fail)
    exact v_ret ν1 (outsA1 rfl rfl) (List.sublist_append_left _ _) ⟨rfl, hg1⟩
  | false =>
    rw [hh] at qp
    rw [if_neg (by simp)]
    (refine v_enter Tryz.func290 rfl Tryz.ntmps290 rfl ?_; intro B _)
    repeat' (first | apply v_seq | apply v_region | apply v_nil | apply v_skip | (apply v_pure; (case hop => first | (apply p_move <;> rfl) | (apply p_assign <;> rfl) | (apply p_extract0 <;> rfl) | (apply p_extract1 <;> rfl) | fail); (case hd => rfl)) | (apply v_condF; (case hc => rfl)) | (apply v_callK (hs := qp) (μ2 := []); (case ha => rfl); (case hp => exact List.Perm.of_eq (List.append_nil _).symm); (case hd => rfl)) | fail)
    exact v_ret ν (outsA1 rfl rfl) (List.Sublist.refl _) ⟨rfl, hg⟩
section
variable {α : Type} {key : α → Int}
abbrev RiseW (key : α → Int) (l : List α) : Prop := l.Pairwise fun a b => key a < key b
theorem riseG_pw {l : List α} : RiseG key l ↔ RiseW key l := by
  unfold RiseG RiseW
  rw [List.pairwise_iff_getElem]
  constructor
  · intro h i j hi hj hij; exact h i j hj hij
  · intro h i j hj hij; exact h i j (by omega) hj hij
theorem place_parts {l : List α} (h : RiseW key l) (n : Int) : l.take (placeG key l n) = l.filter (fun x => decide (key x < n)) ∧ l.drop (placeG key l n) = l.filter (fun x => decide (n ≤ key x)) := by
  induction l with
  | nil => simp [placeG]
  | cons a l ih =>
    have h := List.pairwise_cons.1 h
    obtain ⟨i1, i2⟩ := ih h.2
    unfold placeG at i1 i2 ⊢
    by_cases ha : key a < n
    · have hn : ¬ n ≤ key a := by omega
      rw [List.countP_cons_of_pos (by simpa using ha), List.take_succ_cons, List.drop_succ_cons, i1, i2, List.filter_cons_of_pos (by simpa using ha), List.filter_cons_of_neg (by simpa using hn)]
      exact ⟨rfl, rfl⟩
    · have h0 : ∀ x ∈ a :: l, ¬ key x < n := fun x hx => by
        rcases List.mem_cons.1 hx with rfl | hx
        · exact ha
        · have := h.1 x hx; omega
      have e0 : (a :: l).countP (fun x => decide (key x < n)) = 0 := List.countP_eq_zero.2 fun x hx => by simpa using h0 x hx
      rw [e0, List.take_zero, List.drop_zero]
      refine ⟨(List.filter_eq_nil_iff.2 fun x hx => by simpa using h0 x hx).symm, (List.filter_eq_self.2 fun x hx => ?_).symm⟩
      have := h0 x hx
      simp only [decide_eq_true_eq]
      omega
def withG (key : α → Int) (l : List α) (p : α) : List α := l.filter (fun x => decide (key x < key p)) ++ p :: l.filter (fun x => decide (key p < key x))
theorem hit_parts {l : List α} (h : RiseW key l) (n : Int) : (∃ hlt : placeG key l n < l.length, hitG key l n = true ∧ key (l[placeG key l n]) = n ∧ l.drop (placeG key l n + 1) = l.filter (fun x => decide (n < key x))) ∨ (hitG key l n = false ∧ (∀ x ∈ l, key x ≠ n) ∧ l.drop (placeG key l n) = l.filter (fun x => decide (n < key x))) := by
  obtain ⟨h1, h2⟩ := place_parts h n
  have hle := placeG_le key l n
  have hall : (∀ x ∈ l, key x ≠ n) → l.filter (fun x => decide (n ≤ key x)) = l.filter (fun x => decide (n < key x)) := fun hx => List.filter_congr fun x hm => by
    have := hx x hm
    rw [Bool.eq_iff_iff, decide_eq_true_iff, decide_eq_true_iff]
    omega
  have hge : ∀ x ∈ l.drop (placeG key l n), n ≤ key x := fun x hx => by
    rw [h2, List.mem_filter] at hx
    simpa using hx.2
  have hlt' : ∀ x ∈ l.take (placeG key l n), key x < n := fun x hx => by
    rw [h1, List.mem_filter] at hx
    simpa using hx.2
  by_cases hlt : placeG key l n < l.length
  · have hd := List.drop_eq_getElem_cons hlt
    have hpw : RiseW key (l.drop (placeG key l n)) := List.Pairwise.sublist (List.drop_sublist _ _) h
    rw [hd] at hpw
    have hpw := List.pairwise_cons.1 hpw
    by_cases hk : key (l[placeG key l n]) = n
    · refine .inl ⟨hlt, ?_, hk, ?_⟩
      · unfold hitG; rw [dif_pos hlt]; exact decide_eq_true hk
      · have e : l.filter (fun x => decide (n < key x)) = (l.filter (fun x => decide (n ≤ key x))).filter (fun x => decide (n < key x)) := by
          rw [List.filter_filter]
          exact List.filter_congr fun x _ => by rw [Bool.eq_iff_iff]; simp; omega
        rw [e, ← h2, hd, List.filter_cons_of_neg (by simp; omega)]
        exact (List.filter_eq_self.2 fun x hx => by have := hpw.1 x hx; simp; omega).symm
    · have hno : ∀ x ∈ l, key x ≠ n := fun x hx => by
        rw [← List.take_append_drop (placeG key l n) l, List.mem_append] at hx
        rcases hx with hx | hx
        · have := hlt' x hx; omega
        · have a := hge _ (by rw [hd]; exact List.mem_cons_self : l[placeG key l n] ∈ l.drop (placeG key l n))
          rw [hd] at hx
          rcases List.mem_cons.1 hx with rfl | hx
          · exact hk
          · have := hpw.1 x hx; omega
      refine .inr ⟨?_, hno, by rw [h2, hall hno]⟩
      unfold hitG; rw [dif_pos hlt]; exact decide_eq_false hk
  · have hno : ∀ x ∈ l, key x ≠ n := fun x hx => by
      have : placeG key l n = l.length := by omega
      rw [this, List.take_length] at hlt'
      have := hlt' x hx
      omega
    refine .inr ⟨?_, hno, by rw [h2, hall hno]⟩
    unfold hitG; rw [dif_neg hlt]
theorem hit_iff {l : List α} (h : RiseW key l) {n : Int} : hitG key l n = true ↔ ∃ x ∈ l, key x = n := by
  rcases hit_parts h n with ⟨hlt, h1, h2, -⟩ | ⟨h1, h2, -⟩
  · exact ⟨fun _ => ⟨_, List.getElem_mem hlt, h2⟩, fun _ => h1⟩
  · rw [h1]
    exact ⟨fun h => (by cases h), fun ⟨x, hx, e⟩ => absurd e (h2 x hx)⟩
theorem ins_with {l : List α} (h : RiseW key l) (p : α) : (if hitG key l (key p) = true then l.set (placeG key l (key p)) p else l.take (placeG key l (key p)) ++ p :: l.drop (placeG key l (key p))) = withG key l p := by
  obtain ⟨h1, h2⟩ := place_parts h (key p)
  rcases hit_parts h (key p) with ⟨hlt, e1, e2, e3⟩ | ⟨e1, e2, e3⟩
  · rw [if_pos e1, List.set_eq_take_append_cons_drop, if_pos hlt, h1, e3]
    rfl
  · rw [if_neg (by rw [e1]; simp), h1, e3]
    rfl
theorem del_filter {l : List α} (h : RiseW key l) (n : Int) : (if hitG key l n = true then l.take (placeG key l n) ++ l.drop (placeG key l n + 1) else l) = l.filter (fun x => decide (key x ≠ n)) := by
  obtain ⟨h1, h2⟩ := place_parts h n
  rcases hit_parts h n with ⟨hlt, e1, e2, e3⟩ | ⟨e1, e2, e3⟩
  · rw [if_pos e1]
    conv => rhs; rw [← List.take_append_drop (placeG key l n) l, List.filter_append]
    congr 1
    · exact (List.filter_eq_self.2 fun x hx => by rw [h1, List.mem_filter] at hx; have := hx.2; simp at this ⊢; omega).symm
    · rw [List.drop_eq_getElem_cons hlt, List.filter_cons_of_neg (by simpa using e2)]
      exact (List.filter_eq_self.2 fun x hx => by rw [e3, List.mem_filter] at hx; have := hx.2; simp at this ⊢; omega).symm
  · rw [if_neg (by rw [e1]; simp)]
    exact (List.filter_eq_self.2 fun x hx => by simpa using e2 x hx).symm
theorem withG_rise {l : List α} (h : RiseW key l) (p : α) : RiseW key (withG key l p) := by
  unfold withG RiseW
  rw [List.pairwise_append, List.pairwise_cons]
  refine ⟨h.sublist List.filter_sublist, ⟨fun x hx => ?_, h.sublist List.filter_sublist⟩, fun x hx y hy => ?_⟩
  · simpa using (List.mem_filter.1 hx).2
  · have hx2 := (List.mem_filter.1 hx).2
    simp at hx2
    rcases List.mem_cons.1 hy with rfl | hy
    · exact hx2
    · have hy2 := (List.mem_filter.1 hy).2
      simp at hy2
      omega
theorem withG_mem {l : List α} {p x : α} (h : x ∈ withG key l p) : x = p ∨ x ∈ l := by
  unfold withG at h
  rcases List.mem_append.1 h with h | h
  · exact .inr (List.mem_filter.1 h).1
  · rcases List.mem_cons.1 h with h | h
    · exact .inl h
    · exact .inr (List.mem_filter.1 h).1
theorem withG_len {l : List α} (h : RiseW key l) (p : α) : (withG key l p).length = if hitG key l (key p) = true then l.length else l.length + 1 := by
  rw [← ins_with h p]
  split
  · rw [List.length_set]
  · rw [List.length_append, List.length_cons, List.length_take, List.length_drop]
    have := placeG_le key l (key p)
    omega
theorem withG_twice {l : List α} {p q : α} (hk : key p = key q) : withG key (withG key l p) q = withG key l q := by
  unfold withG
  have e1 : ¬ key p < key q := by omega
  have e2 : ¬ key q < key p := by omega
  rw [List.filter_append, List.filter_cons_of_neg (by simpa using e1), List.filter_append, List.filter_cons_of_neg (by simpa using e2)]
  simp only [List.filter_filter, hk]
  have a1 : (l.filter fun a => decide (key a < key q) && decide (key q < key a)) = [] := List.filter_eq_nil_iff.2 fun x _ => by simp; omega
  have a2 : (l.filter fun a => decide (key q < key a) && decide (key a < key q)) = [] := List.filter_eq_nil_iff.2 fun x _ => by simp; omega
  simp only [a1, a2, Bool.and_self, List.append_nil, List.nil_append]
end
def ans0 (c : Cm) : An := ⟨c.client, c.seq, 0, false, ByteArray.empty, 0⟩
def roomB (l : List Pr) (n : Int) : Bool := hitG ksP l n || decide (l.length < 64)
def doOne (l : List Pr) (c : Cm) : List Pr × An :=
  if c.kind = 2 then (if roomB l (kn c.key) = true then (withG ksP l ⟨c.key, c.val, 0⟩, { ans0 c with found := hitG ksP l (kn c.key), val := (findP l (kn c.key)).val }) else (l, { ans0 c with err := 11 }))
  else if c.kind = 3 then (l, { ans0 c with found := hitG ksP l (kn c.key), val := (findP l (kn c.key)).val })
  else if c.kind = 4 then (l.filter (fun x => decide (ksP x ≠ kn c.key)), { ans0 c with found := hitG ksP l (kn c.key), val := (findP l (kn c.key)).val })
  else (l, { ans0 c with err := 8 })
theorem putP_eq {l : List Pr} (h : RiseW ksP l) (p : Pr) : putP l p = if roomB l (kn p.key) = true then (withG ksP l p, true) else (l, false) := by
  have hw := ins_with h p
  unfold putP roomB
  cases hh : hitG ksP l (kn p.key) with
  | true =>
    rw [hh, if_pos rfl] at hw
    rw [if_pos rfl, if_pos (by simp)]
    exact congrArg (·, true) hw
  | false =>
    rw [hh, if_neg (by simp)] at hw
    rw [if_neg (by simp)]
    by_cases h64 : 64 ≤ l.length
    · rw [if_pos h64, if_neg (by simp; omega)]
    · rw [if_neg h64, if_pos (by simp; omega)]
      exact congrArg (·, true) hw
theorem doOne_s {G : GH} {l : List Pr} {sv : Value} (c : Cm) (hs : Prs G sv l) (hr : RiseW ksP l) (hz : Sized l) (hk : c.key.size ≤ 200) (hn : l.length ≤ 150) :
    Con Tryz.prog 253 #[sv, .agg c.cells.toArray] G [] (fun r G' μ' => G' = G ∧ ∃ v, r = .tuple [v, .agg (doOne l c).2.cells.toArray].toArray ∧ GrP v (doOne l c).1 μ') := by
  have hrg := riseG_pw.2 hr
  have q1 := prClone_s hs (by omega)
  have q2 := find_s c.key hs hrg hz hk
  have q3 := fun (v : Value) (ν : OH) (hg : GrP v l ν) => put_s (G := G) ⟨c.key, c.val, 0⟩ hg hrg hz hk (by omega)
  have q4 := fun (v : Value) (ν : OH) (hg : GrP v l ν) => del_s (G := G) c.key hg hrg hz hk (by omega)
  have ed := del_filter hr (kn c.key)
  have ep := putP_eq hr ⟨c.key, c.val, 0⟩
  unfold doOne
  unfold delP at q4
  rw [ed] at q4
  rw [ep] at q3
  simp only at q3
  generalize hitG ksP l (kn c.key) = hb at *
  generalize hfe : findP l (kn c.key) = f at *
  generalize roomB l (kn c.key) = rb at *
  generalize l.filter (fun x => decide (ksP x ≠ kn c.key)) = ld at *
  generalize withG ksP l ⟨c.key, c.val, 0⟩ = lw at *
  obtain ⟨kind, client, seq, key, val, old, node⟩ := c
  simp only at *
  clear ed ep hfe
  (refine v_enter Tryz.func253 rfl Tryz.ntmps253 rfl ?_; intro B _)
  repeat' (first | (apply v_box (zs := Cm.cells ⟨kind, client, seq, key, val, old, node⟩); (case hx => rfl); (case hz => rfl); (case hd => rfl); intro bc) | (apply v_alloc (e := 40); (case hz => rfl); (case hd => rfl); intro b5) | apply v_seq | apply v_region | apply v_nil | (apply v_pure; (case hop => first | (apply p_move <;> rfl) | (apply p_assign <;> rfl) | fail); (case hd => rfl)) | fail)
  refine v_call (μ1 := []) (μ2 := _) rfl q1 (List.Perm.refl _) rfl ?_
  rintro v1 G1 ν1 - ⟨hG1, hg1⟩
  subst hG1
  have q3 := q3 v1 ν1 hg1
  have q4 := q4 v1 ν1 hg1
  repeat' (first | (apply v_alloc (e := 40); (case hz => rfl); (case hd => rfl); intro b7) | (apply v_alloc (e := 144); (case hz => rfl); (case hd => rfl); intro b8) | apply v_seq | apply v_region | apply v_nil | apply v_skip | apply v_block | apply v_blk | (apply v_pure; (case hop => first | (apply p_move <;> rfl) | (apply p_eq <;> rfl) | (apply p_assign <;> rfl) | (apply p_fieldAddrB <;> rfl) | (apply p_extract0 <;> rfl) | (apply p_extract1 <;> rfl) | (apply p_build; (case hz => rfl); (case hv => (simp only [List.map_cons, List.map_nil]; repeat (first | with_reducible exact evs_nil | (apply evs_cons; (case h1 => rfl))))); (case hb => (apply bldL; repeat (first | exact bld_nil | (apply bld_cons; (case hpf => rfl); (case hc => rfl); (case hs => rfl); (case hl => rfl); (case ho => ((repeat (first | with_reducible exact ov_nil | apply ov_cons)); done))))))) | fail); (case hd => rfl)) | (apply v_cond; (case hc => rfl); all_goals (intro h; (try simp only [reduceCtorEq, zzz] at h))) | (apply v_callJ (hs := q2); (case ha => rfl); (case hd => rfl)) | (apply v_read; (case hop => (apply r_load1; rfl; (apply Cell.own; (case h => (repeat (first | exact mhd _ | apply mtl | apply List.mem_append_right))); rfl))); (case hd => rfl)) | (apply v_store; (case hp => rfl); (case hx => rfl); (case hc => rfl); (case hsz => rfl); (case h1 => rfl); (case hb => (repeat (first | exact mhd _ | apply mtl))); (case hfit => exact nle rfl); (case hov => ((repeat (first | with_reducible exact ov_nil | apply ov_cons)); done)); (case hu => repeat (first | exact Upd.here _ _ | apply Upd.there))) | fail)
  · have hk2 : kind = 2 := by assumption
    rw [if_pos hk2]
    refine v_call (μ1 := ν1) (μ2 := (b8, .cells [.string f.key, .string f.val, .int .i64 f.rev].toArray 144 (0, 0)) :: (b7, .cells [.int .i64 client, .int .i64 seq, .int .i64 0, .bool false, .string ByteArray.empty, .int .i64 0].toArray 40 (0, 0)) :: [(b5, .cells [.int .i64 0, .int .i64 0, .int .i64 0, .bool false, .string ByteArray.empty, .int .i64 0].toArray 40 (0, 0)), (bc, .cells (Cm.cells ⟨kind, client, seq, key, val, old, node⟩).toArray 28 (0, 0))]) rfl q3 (by apply perm_of_count; intro p; simp only [List.append_eq, List.countP_append, List.countP_cons, List.countP_nil, Nat.zero_add, Nat.add_zero]; try ac_rfl) rfl ?_
    rintro _ G2 ν2 - ⟨hG2, v2, rfl, hg2, hv2⟩
    subst hG2
    cases rb with
    | true =>
      rw [if_pos rfl] at hg2 ⊢
      simp only [if_true]
      repeat' (first | apply v_seq | apply v_region | apply v_nil | apply v_skip | apply v_blk | (apply v_pure; (case hop => first | (apply p_move <;> rfl) | (apply p_assign <;> rfl) | (apply p_not <;> rfl) | (apply p_extract0 <;> rfl) | (apply p_extract1 <;> rfl) | fail); (case hd => rfl)) | (apply v_condF; (case hc => rfl)) | fail)
      refine d_start [(b8, .cells [.string f.key, .string f.val, .int .i64 f.rev].toArray 144 (0, 0))] (by kernel_rfl) (by kernel_rfl) (by kernel_rfl) (by intro e he; (simp at he; simp [he]; done)) ?_
      all_goals (apply dtk 0; (case hi => rfl); (case hop => (apply prd; apply p_move <;> rfl)); (case hq => kernel_rfl))
      all_goals (apply dtk 1; (case hi => rfl); (case hop => (apply prd; apply p_fieldAddrB <;> rfl)); (case hq => kernel_rfl))
      all_goals (apply dtk 2; (case hi => rfl); (case hop => first | (apply r_loadNo; (case hx => rfl); (case h => (repeat (fail))); (case hd => (repeat (fail))); (case hn => rfl)) | (apply r_load1; rfl; (apply Cell.own; (case h => (repeat (exact mhd _))); rfl)) | (apply r_loadN; rfl; (apply CellsAt.own; (case h => (repeat (fail)))); rfl)); (case hq => kernel_rfl))
      all_goals (apply dtk 3; (case hi => rfl); (case hop => (apply prd; apply p_fieldAddrB <;> rfl)); (case hq => kernel_rfl))
      all_goals (apply d_store 4; (case hi => rfl); (case hr => kernel_rfl); (case hL => infer_instance); (case hp => rfl); (case hx => rfl); (case hc => rfl); (case hsz => rfl); (case h1 => rfl); (case hb => (repeat (first | exact mhd _ | apply mtl | apply List.mem_append_right))); (case hfit => exact nle rfl); (case hov => ((repeat (first | with_reducible exact ov_nil | apply ov_cons)); done)); (case hu => repeat (first | exact Upd.here _ _ | apply Upd.there | apply Upd.app)); (case hν' => intro e he; (simp at he; simp [he]; done)))
      all_goals (apply dtk 5; (case hi => rfl); (case hop => (apply prd; apply p_fieldAddrB <;> rfl)); (case hq => kernel_rfl))
      all_goals (apply d_store 6; (case hi => rfl); (case hr => kernel_rfl); (case hL => infer_instance); (case hp => rfl); (case hx => rfl); (case hc => rfl); (case hsz => rfl); (case h1 => rfl); (case hb => (repeat (first | exact mhd _ | apply mtl | apply List.mem_append_right))); (case hfit => exact nle rfl); (case hov => ((repeat (first | with_reducible exact ov_nil | apply ov_cons)); done)); (case hu => repeat (first | exact Upd.here _ _ | apply Upd.there | apply Upd.app)); (case hν' => intro e he; (simp at he; simp [he]; done)))
      all_goals (apply d_done; (case hr => kernel_rfl))
      repeat' (first | apply v_seq)
      refine d_start [(b7, .cells [.int .i64 client, .int .i64 seq, .int .i64 0, .bool hb, .string f.val, .int .i64 0].toArray 40 (0, 0))] (by kernel_rfl) (by kernel_rfl) (by kernel_rfl) (by intro e he; (simp at he; simp [he]; done)) ?_
      all_goals (apply dtk 0; (case hi => rfl); (case hop => (apply prd; apply p_move <;> rfl)); (case hq => kernel_rfl))
      all_goals (apply dtk 1; (case hi => rfl); (case hop => first | (apply r_loadNo; (case hx => rfl); (case h => (repeat (exact mhd _))); (case hd => (repeat (first | with_reducible exact dt_nil | apply dt_here))); (case hn => rfl)) | (apply r_load1; rfl; (apply Cell.own; (case h => (repeat (fail))); rfl)) | (apply r_loadN; rfl; (apply CellsAt.own; (case h => (repeat (fail)))); rfl)); (case hq => kernel_rfl))
      all_goals (apply dtk 2; (case hi => rfl); (case hop => (apply prd; apply p_assign <;> rfl)); (case hq => kernel_rfl))
      all_goals (apply d_store 3; (case hi => rfl); (case hr => kernel_rfl); (case hL => infer_instance); (case hp => rfl); (case hx => rfl); (case hc => rfl); (case hsz => rfl); (case h1 => rfl); (case hb => (repeat (first | exact mhd _ | apply mtl | apply List.mem_append_right))); (case hfit => exact nle rfl); (case hov => ((repeat (first | with_reducible exact ov_nil | apply ov_cons)); done)); (case hu => repeat (first | exact Upd.here _ _ | apply Upd.there | apply Upd.app)); (case hν' => intro e he; (simp at he; simp [he]; done)))
      all_goals (apply d_done; (case hr => kernel_rfl))
      repeat' (fail)
      refine v_retM ν2 (outsM_tc (sz1 := 6) (vs1 := [.int .i64 client, .int .i64 seq, .int .i64 0, .bool hb, .string f.val, .int .i64 0]) (e1 := 40) rfl rfl rfl (by repeat (first | exact mhd _ | apply mtl | apply List.mem_append_right)) rfl) (List.sublist_append_left _ _) ⟨rfl, _, rfl, hg2⟩
    | false =>
      rw [if_neg (by simp)] at hg2 hv2 ⊢
      obtain rfl := hv2 rfl
      simp only [Bool.false_eq_true, if_false]
      repeat' (first | apply v_seq | apply v_region | apply v_nil | (apply v_pure; (case hop => first | (apply p_move <;> rfl) | (apply p_assign <;> rfl) | (apply p_not <;> rfl) | (apply p_fieldAddrB <;> rfl) | (apply p_extract0 <;> rfl) | (apply p_extract1 <;> rfl) | fail); (case hd => rfl)) | (apply v_condT; (case hc => rfl)) | (apply v_store; (case hp => rfl); (case hx => rfl); (case hc => rfl); (case hsz => rfl); (case h1 => rfl); (case hb => (repeat (first | exact mhd _ | apply mtl | apply List.mem_append_right))); (case hfit => exact nle rfl); (case hov => ((repeat (first | with_reducible exact ov_nil | apply ov_cons)); done)); (case hu => repeat (first | exact Upd.here _ _ | apply Upd.there | apply Upd.app))) | fail)
      refine d_start [(b7, .cells [.int .i64 client, .int .i64 seq, .int .i64 11, .bool false, .string ByteArray.empty, .int .i64 0].toArray 40 (0, 0))] (by kernel_rfl) (by kernel_rfl) (by kernel_rfl) (by intro e he; (simp at he; simp [he]; done)) ?_
      all_goals (apply dtk 0; (case hi => rfl); (case hop => (apply prd; apply p_move <;> rfl)); (case hq => kernel_rfl))
      all_goals (apply dtk 1; (case hi => rfl); (case hop => first | (apply r_loadNo; (case hx => rfl); (case h => (repeat (exact mhd _))); (case hd => (repeat (first | with_reducible exact dt_nil | apply dt_here))); (case hn => rfl)) | (apply r_load1; rfl; (apply Cell.own; (case h => (repeat (fail))); rfl)) | (apply r_loadN; rfl; (apply CellsAt.own; (case h => (repeat (fail)))); rfl)); (case hq => kernel_rfl))
      all_goals (apply dtk 2; (case hi => rfl); (case hop => (apply prd; apply p_assign <;> rfl)); (case hq => kernel_rfl))
      all_goals (apply d_store 3; (case hi => rfl); (case hr => kernel_rfl); (case hL => infer_instance); (case hp => rfl); (case hx => rfl); (case hc => rfl); (case hsz => rfl); (case h1 => rfl); (case hb => (repeat (first | exact mhd _ | apply mtl | apply List.mem_append_right))); (case hfit => exact nle rfl); (case hov => ((repeat (first | with_reducible exact ov_nil | apply ov_cons)); done)); (case hu => repeat (first | exact Upd.here _ _ | apply Upd.there | apply Upd.app)); (case hν' => intro e he; (simp at he; simp [he]; done)))
      all_goals (apply d_done; (case hr => kernel_rfl))
      repeat' (fail)
      refine v_retM ν2 (outsM_tc (sz1 := 6) (vs1 := [.int .i64 client, .int .i64 seq, .int .i64 11, .bool false, .string ByteArray.empty, .int .i64 0]) (e1 := 40) rfl rfl rfl (by repeat (first | exact mhd _ | apply mtl | apply List.mem_append_right)) rfl) (List.sublist_append_left _ _) ⟨rfl, _, rfl, hg2⟩
  · have hk3 : kind = 3 := by assumption
    rw [if_neg (by assumption), if_pos hk3]
    refine d_start [(b8, .cells [.string f.key, .string f.val, .int .i64 f.rev].toArray 144 (0, 0))] (by kernel_rfl) (by kernel_rfl) (by kernel_rfl) (by intro e he; (simp at he; simp [he]; done)) ?_
    all_goals (apply dtk 0; (case hi => rfl); (case hop => (apply prd; apply p_move <;> rfl)); (case hq => kernel_rfl))
    all_goals (apply dtk 1; (case hi => rfl); (case hop => (apply prd; apply p_fieldAddrB <;> rfl)); (case hq => kernel_rfl))
    all_goals (apply dtk 2; (case hi => rfl); (case hop => first | (apply r_loadNo; (case hx => rfl); (case h => (repeat (fail))); (case hd => (repeat (fail))); (case hn => rfl)) | (apply r_load1; rfl; (apply Cell.own; (case h => (repeat (exact mhd _))); rfl)) | (apply r_loadN; rfl; (apply CellsAt.own; (case h => (repeat (fail)))); rfl)); (case hq => kernel_rfl))
    all_goals (apply dtk 3; (case hi => rfl); (case hop => (apply prd; apply p_fieldAddrB <;> rfl)); (case hq => kernel_rfl))
    all_goals (apply d_store 4; (case hi => rfl); (case hr => kernel_rfl); (case hL => infer_instance); (case hp => rfl); (case hx => rfl); (case hc => rfl); (case hsz => rfl); (case h1 => rfl); (case hb => (repeat (first | exact mhd _ | apply mtl))); (case hfit => exact nle rfl); (case hov => ((repeat (first | with_reducible exact ov_nil | apply ov_cons)); done)); (case hu => repeat (first | exact Upd.here _ _ | apply Upd.there)); (case hν' => intro e he; (simp at he; simp [he]; done)))
    all_goals (apply dtk 5; (case hi => rfl); (case hop => (apply prd; apply p_fieldAddrB <;> rfl)); (case hq => kernel_rfl))
    all_goals (apply d_store 6; (case hi => rfl); (case hr => kernel_rfl); (case hL => infer_instance); (case hp => rfl); (case hx => rfl); (case hc => rfl); (case hsz => rfl); (case h1 => rfl); (case hb => (repeat (first | exact mhd _ | apply mtl))); (case hfit => exact nle rfl); (case hov => ((repeat (first | with_reducible exact ov_nil | apply ov_cons)); done)); (case hu => repeat (first | exact Upd.here _ _ | apply Upd.there)); (case hν' => intro e he; (simp at he; simp [he]; done)))
    all_goals (apply d_done; (case hr => kernel_rfl))
    repeat' (first | apply v_seq)
    refine d_start [(b7, .cells [.int .i64 client, .int .i64 seq, .int .i64 0, .bool hb, .string f.val, .int .i64 0].toArray 40 (0, 0))] (by kernel_rfl) (by kernel_rfl) (by kernel_rfl) (by intro e he; (simp at he; simp [he]; done)) ?_
    all_goals (apply dtk 0; (case hi => rfl); (case hop => (apply prd; apply p_move <;> rfl)); (case hq => kernel_rfl))
    all_goals (apply dtk 1; (case hi => rfl); (case hop => first | (apply r_loadNo; (case hx => rfl); (case h => (repeat (exact mhd _))); (case hd => (repeat (first | with_reducible exact dt_nil | apply dt_here))); (case hn => rfl)) | (apply r_load1; rfl; (apply Cell.own; (case h => (repeat (fail))); rfl)) | (apply r_loadN; rfl; (apply CellsAt.own; (case h => (repeat (fail)))); rfl)); (case hq => kernel_rfl))
    all_goals (apply dtk 2; (case hi => rfl); (case hop => (apply prd; apply p_assign <;> rfl)); (case hq => kernel_rfl))
    all_goals (apply d_store 3; (case hi => rfl); (case hr => kernel_rfl); (case hL => infer_instance); (case hp => rfl); (case hx => rfl); (case hc => rfl); (case hsz => rfl); (case h1 => rfl); (case hb => (repeat (first | exact mhd _ | apply mtl | apply List.mem_append_right))); (case hfit => exact nle rfl); (case hov => ((repeat (first | with_reducible exact ov_nil | apply ov_cons)); done)); (case hu => repeat (first | exact Upd.here _ _ | apply Upd.there | apply Upd.app)); (case hν' => intro e he; (simp at he; simp [he]; done)))
    all_goals (apply d_done; (case hr => kernel_rfl))
    repeat' (fail)
    refine v_retM ν1 (outsM_tc (sz1 := 6) (vs1 := [.int .i64 client, .int .i64 seq, .int .i64 0, .bool hb, .string f.val, .int .i64 0]) (e1 := 40) rfl rfl rfl (by repeat (first | exact mhd _ | apply mtl | apply List.mem_append_right)) rfl) (List.Sublist.cons _ (List.Sublist.cons _ (List.sublist_append_left _ _))) ⟨rfl, _, rfl, hg1⟩
  · have hk4 : kind = 4 := by assumption
    rw [if_neg (by assumption), if_neg (by assumption), if_pos hk4]
    refine v_call (μ1 := ν1) (μ2 := (b8, .cells [.string f.key, .string f.val, .int .i64 f.rev].toArray 144 (0, 0)) :: (b7, .cells [.int .i64 client, .int .i64 seq, .int .i64 0, .bool false, .string ByteArray.empty, .int .i64 0].toArray 40 (0, 0)) :: [(b5, .cells [.int .i64 0, .int .i64 0, .int .i64 0, .bool false, .string ByteArray.empty, .int .i64 0].toArray 40 (0, 0)), (bc, .cells (Cm.cells ⟨kind, client, seq, key, val, old, node⟩).toArray 28 (0, 0))]) rfl q4 (by apply perm_of_count; intro p; simp only [List.append_eq, List.countP_append, List.countP_cons, List.countP_nil, Nat.zero_add, Nat.add_zero]; try ac_rfl) rfl ?_
    rintro v2 G2 ν2 - ⟨hG2, hg2⟩
    subst hG2
    repeat' (first | apply v_seq | apply v_nil | apply v_blk | (apply v_pure; (case hop => (apply p_assign <;> rfl)); (case hd => rfl)) | fail)
    refine d_start [(b8, .cells [.string f.key, .string f.val, .int .i64 f.rev].toArray 144 (0, 0))] (by kernel_rfl) (by kernel_rfl) (by kernel_rfl) (by intro e he; (simp at he; simp [he]; done)) ?_
    all_goals (apply dtk 0; (case hi => rfl); (case hop => (apply prd; apply p_move <;> rfl)); (case hq => kernel_rfl))
    all_goals (apply dtk 1; (case hi => rfl); (case hop => (apply prd; apply p_fieldAddrB <;> rfl)); (case hq => kernel_rfl))
    all_goals (apply dtk 2; (case hi => rfl); (case hop => first | (apply r_loadNo; (case hx => rfl); (case h => (repeat (fail))); (case hd => (repeat (fail))); (case hn => rfl)) | (apply r_load1; rfl; (apply Cell.own; (case h => (repeat (exact mhd _))); rfl)) | (apply r_loadN; rfl; (apply CellsAt.own; (case h => (repeat (fail)))); rfl)); (case hq => kernel_rfl))
    all_goals (apply dtk 3; (case hi => rfl); (case hop => (apply prd; apply p_fieldAddrB <;> rfl)); (case hq => kernel_rfl))
    all_goals (apply d_store 4; (case hi => rfl); (case hr => kernel_rfl); (case hL => infer_instance); (case hp => rfl); (case hx => rfl); (case hc => rfl); (case hsz => rfl); (case h1 => rfl); (case hb => (repeat (first | exact mhd _ | apply mtl | apply List.mem_append_right))); (case hfit => exact nle rfl); (case hov => ((repeat (first | with_reducible exact ov_nil | apply ov_cons)); done)); (case hu => repeat (first | exact Upd.here _ _ | apply Upd.there | apply Upd.app)); (case hν' => intro e he; (simp at he; simp [he]; done)))
    all_goals (apply dtk 5; (case hi => rfl); (case hop => (apply prd; apply p_fieldAddrB <;> rfl)); (case hq => kernel_rfl))
    all_goals (apply d_store 6; (case hi => rfl); (case hr => kernel_rfl); (case hL => infer_instance); (case hp => rfl); (case hx => rfl); (case hc => rfl); (case hsz => rfl); (case h1 => rfl); (case hb => (repeat (first | exact mhd _ | apply mtl | apply List.mem_append_right))); (case hfit => exact nle rfl); (case hov => ((repeat (first | with_reducible exact ov_nil | apply ov_cons)); done)); (case hu => repeat (first | exact Upd.here _ _ | apply Upd.there | apply Upd.app)); (case hν' => intro e he; (simp at he; simp [he]; done)))
    all_goals (apply d_done; (case hr => kernel_rfl))
    repeat' (first | apply v_seq)
    refine d_start [(b7, .cells [.int .i64 client, .int .i64 seq, .int .i64 0, .bool hb, .string f.val, .int .i64 0].toArray 40 (0, 0))] (by kernel_rfl) (by kernel_rfl) (by kernel_rfl) (by intro e he; (simp at he; simp [he]; done)) ?_
    all_goals (apply dtk 0; (case hi => rfl); (case hop => (apply prd; apply p_move <;> rfl)); (case hq => kernel_rfl))
    all_goals (apply dtk 1; (case hi => rfl); (case hop => first | (apply r_loadNo; (case hx => rfl); (case h => (repeat (exact mhd _))); (case hd => (repeat (first | with_reducible exact dt_nil | apply dt_here))); (case hn => rfl)) | (apply r_load1; rfl; (apply Cell.own; (case h => (repeat (fail))); rfl)) | (apply r_loadN; rfl; (apply CellsAt.own; (case h => (repeat (fail)))); rfl)); (case hq => kernel_rfl))
    all_goals (apply dtk 2; (case hi => rfl); (case hop => (apply prd; apply p_assign <;> rfl)); (case hq => kernel_rfl))
    all_goals (apply d_store 3; (case hi => rfl); (case hr => kernel_rfl); (case hL => infer_instance); (case hp => rfl); (case hx => rfl); (case hc => rfl); (case hsz => rfl); (case h1 => rfl); (case hb => (repeat (first | exact mhd _ | apply mtl | apply List.mem_append_right))); (case hfit => exact nle rfl); (case hov => ((repeat (first | with_reducible exact ov_nil | apply ov_cons)); done)); (case hu => repeat (first | exact Upd.here _ _ | apply Upd.there | apply Upd.app)); (case hν' => intro e he; (simp at he; simp [he]; done)))
    all_goals (apply d_done; (case hr => kernel_rfl))
    repeat' (fail)
    refine v_retM ν2 (outsM_tc (sz1 := 6) (vs1 := [.int .i64 client, .int .i64 seq, .int .i64 0, .bool hb, .string f.val, .int .i64 0]) (e1 := 40) rfl rfl rfl (by repeat (first | exact mhd _ | apply mtl | apply List.mem_append_right)) rfl) (List.sublist_append_left _ _) ⟨rfl, _, rfl, hg2⟩
  · rw [if_neg (by assumption), if_neg (by assumption), if_neg (by assumption)]
    refine d_start [(b7, .cells [.int .i64 client, .int .i64 seq, .int .i64 8, .bool false, .string ByteArray.empty, .int .i64 0].toArray 40 (0, 0))] (by kernel_rfl) (by kernel_rfl) (by kernel_rfl) (by intro e he; (simp at he; simp [he]; done)) ?_
    all_goals (apply dtk 0; (case hi => rfl); (case hop => (apply prd; apply p_move <;> rfl)); (case hq => kernel_rfl))
    all_goals (apply dtk 1; (case hi => rfl); (case hop => first | (apply r_loadNo; (case hx => rfl); (case h => (repeat (exact mhd _))); (case hd => (repeat (first | with_reducible exact dt_nil | apply dt_here))); (case hn => rfl)) | (apply r_load1; rfl; (apply Cell.own; (case h => (repeat (fail))); rfl)) | (apply r_loadN; rfl; (apply CellsAt.own; (case h => (repeat (fail)))); rfl)); (case hq => kernel_rfl))
    all_goals (apply dtk 2; (case hi => rfl); (case hop => (apply prd; apply p_assign <;> rfl)); (case hq => kernel_rfl))
    all_goals (apply d_store 3; (case hi => rfl); (case hr => kernel_rfl); (case hL => infer_instance); (case hp => rfl); (case hx => rfl); (case hc => rfl); (case hsz => rfl); (case h1 => rfl); (case hb => (repeat (first | exact mhd _ | apply mtl | apply List.mem_append_right))); (case hfit => exact nle rfl); (case hov => ((repeat (first | with_reducible exact ov_nil | apply ov_cons)); done)); (case hu => repeat (first | exact Upd.here _ _ | apply Upd.there | apply Upd.app)); (case hν' => intro e he; (simp at he; simp [he]; done)))
    all_goals (apply d_done; (case hr => kernel_rfl))
    repeat' (fail)
    refine v_retM ν1 (outsM_tc (sz1 := 6) (vs1 := [.int .i64 client, .int .i64 seq, .int .i64 8, .bool false, .string ByteArray.empty, .int .i64 0]) (e1 := 40) rfl rfl rfl (by repeat (first | exact mhd _ | apply mtl | apply List.mem_append_right)) rfl) (List.Sublist.cons _ (List.Sublist.cons _ (List.sublist_append_left _ _))) ⟨rfl, _, rfl, hg1⟩
def nextR (r : Int) : Int := min r 4294967295 + 1
theorem nextR_s (G : GH) (r : Int) (h : 0 ≤ r) : Con Tryz.prog 293 #[.int .i64 r] G [] (Just (.int .i64 (nextR r)) G) := by
  apply Con.just
  (refine v_enter Tryz.func293 rfl Tryz.ntmps293 rfl ?_; intro B _)
  repeat' (first | apply v_seq | apply v_region | apply v_nil | (apply v_pure; (case hop => first | (apply p_move <;> rfl) | (apply p_assign <;> rfl) | (apply p_add; (case hx => rfl); (case hy => rfl); (case h => omega)) | (apply p_min <;> rfl)); (case hd => rfl)) | fail)
  refine v_ret [] (outsA1 rfl rfl) (by repeat (exact List.Sublist.refl _)) ?_
  exact ⟨rfl, rfl⟩
theorem lendSearch2 {G : GH} {l : List Pr} {v : Value} {ν : OH} (y : Pr) (hg : GrP v l ν) (hr : RiseG ksP l) (hz : Sized l) (hk : y.key.size ≤ 200) : Con Tryz.prog 316 #[v, .agg y.cells.toArray, .func (.func 317) #[] #[]] G ν (Keeps (.tuple [.int .i64 (placeG ksP l (kn y.key) : Nat), .bool (hitG ksP l (kn y.key))].toArray) G ν) :=
  Con.lendJ fun G' _ h2 => prSearch2_s y (row_of_grow Pr.len hg h2) hr (fun x hx => (hz x hx).1) hk
theorem set_s {G : GH} {l : List Pr} {v : Value} {ν : OH} (p : Pr) (hg : GrP v l ν) (hr : RiseW ksP l) (hz : Sized l) (hk : p.key.size ≤ 200) (hn : l.length ≤ 200) : Con Tryz.prog 292 #[v, .agg p.cells.toArray] G ν (fun r G' μ' => G' = G ∧ GrP r (withG ksP l p) μ') := by
  have hrg := riseG_pw.2 hr
  have qp := lendSearch2 (G := G) p hg hrg hz hk
  have hpl := placeG_le ksP l (kn p.key)
  have hw := ins_with hr p
  rw [← hw]
  cases hh : hitG ksP l (kn p.key) with
  | true =>
    have hlt := hitG_lt hh
    rw [if_pos rfl]
    rw [hh] at qp
    obtain ⟨hxl, ⟨rfl, h0, rfl⟩ | ⟨b, cap, spare, rfl, rfl, hc1, hc2, hc3⟩⟩ := hg
    · omega
    have hov := rowC_set Pr.len l _ hlt p spare
    clear hw
    generalize placeG ksP l (kn p.key) = i at *
    have hlen := rowC_length Pr.len l
    (refine v_enter Tryz.func292 rfl Tryz.ntmps292 rfl ?_; intro B _)
    repeat' (first | (apply v_box (zs := p.cells); (case hx => rfl); (case hz => rfl); (case hd => rfl); intro bp) | (apply v_pure; (case hop => apply p_idxOwn2; (case hx => rfl); (case hi => rfl); (case h => omega)); (case hd => rfl)) | apply v_seq | apply v_region | apply v_nil | apply v_skip | (apply v_pure; (case hop => first | (apply p_move <;> rfl) | (apply p_assign <;> rfl) | (apply p_not <;> rfl) | (apply p_extract0 <;> rfl) | (apply p_extract1 <;> rfl) | fail); (case hd => rfl)) | (apply v_condF; (case hc => rfl)) | (apply v_callK (hs := qp) (μ2 := [(bp, .cells p.cells.toArray 144 (0, 0))]); (case ha => rfl); (case hp => exact List.Perm.swap _ _ _); (case hd => rfl)) | (apply v_store (us := p.cells); (case hp => rfl); (case hx => rfl); (case hc => rfl); (case hsz => rfl); (case h1 => rfl); (case hb => (repeat (first | exact mhd _ | apply mtl))); (case hfit => rw [List.length_append, hlen, Pr.len]; omega); (case hov => exact hov); (case hu => (repeat (first | exact Upd.here _ _ | apply Upd.there)))) | (apply v_read; (case hop => (apply r_loadNo; (case hx => rfl); (case h => (repeat (exact mhd _))); (case hd => (repeat (first | with_reducible exact dt_nil | apply dt_here))); (case hn => rfl))); (case hd => rfl)) | fail)
    refine v_ret [(b, _)] (outsA1 rfl rfl) (List.Sublist.cons _ (List.Sublist.refl _)) ⟨rfl, ?_⟩
    have hsl : (l.set i p).length = l.length := List.length_set ..
    unfold GrP
    simp only [hsl]
    exact ⟨by rw [rowC_length Pr.len, hsl], .inr ⟨b, cap, spare, rfl, rfl, hc1, hc2, by rw [List.length_append, rowC_length Pr.len, hsl]; rw [List.length_append, hlen] at hc3; exact hc3⟩⟩
  | false =>
    rw [hh] at qp
    rw [if_neg (by simp)]
    obtain ⟨A, c, rfl, hA1, hA2⟩ := hg.shape
    simp only [maxLen] at hA2
    have hq := fun b2 => prInsert_s (G := G) p b2 (placeG ksP l (kn p.key)) hg hpl hn
    have hil : (l.take (placeG ksP l (kn p.key)) ++ p :: l.drop (placeG ksP l (kn p.key))).length = l.length + 1 := by
      rw [List.length_append, List.length_cons, List.length_take, List.length_drop]; omega
    clear hw
    generalize placeG ksP l (kn p.key) = i at *
    (refine v_enter Tryz.func292 rfl Tryz.ntmps292 rfl ?_; intro B _)
    repeat' (first | (apply v_box (zs := p.cells); (case hx => rfl); (case hz => rfl); (case hd => rfl); intro bp) | apply v_seq | apply v_region | apply v_nil | (apply v_pure; (case hop => first | (apply p_move <;> rfl) | (apply p_assign <;> rfl) | (apply p_not <;> rfl) | (apply p_extract0 <;> rfl) | (apply p_extract1 <;> rfl) | fail); (case hd => rfl)) | (apply v_condT; (case hc => rfl)) | (apply v_callK (hs := qp) (μ2 := [(bp, .cells p.cells.toArray 144 (0, 0))]); (case ha => rfl); (case hp => exact (List.perm_append_comm (l₁ := [_]))); (case hd => rfl)) | (apply v_read; (case hop => (apply r_loadNo; (case hx => rfl); (case h => (repeat (exact mhd _))); (case hd => (repeat (first | with_reducible exact dt_nil | apply dt_here))); (case hn => rfl))); (case hd => rfl)) | (apply v_buildSlice; (case hz => rfl); (case hi => rfl); (case hv => (simp only [List.map_cons, List.map_nil]; repeat (first | with_reducible exact evs_nil | (apply evs_cons; (case h1 => rfl))))); (case hp => (apply pk_cons; (case hc => rfl); (case hs => rfl); (case h => (with_reducible exact pk_nil)); (case he => ((repeat (first | with_reducible exact ap_nil | apply ap_cons)); done)))); (case hb => rfl); (case hd => rfl); intro b) | fail)
    refine v_call (μ1 := ν ++ [(b, .cells p.cells.toArray 144 (0, 0))]) (μ2 := [(bp, .cells p.cells.toArray 144 (0, 0))]) rfl (hq b) ?_ rfl ?_
    · exact (by apply perm_of_count; intro p; simp only [List.append_eq, List.countP_append, List.countP_cons, List.countP_nil, Nat.zero_add, Nat.add_zero]; try ac_rfl)
    rintro v' G1 ν1 - ⟨hG1, hg1⟩
    subst hG1
    repeat' (first | apply v_nil | (apply v_pure; (case hop => (apply p_assign <;> rfl)); (case hd => rfl)) | fail)
    refine v_ret ν1 (outsA1 rfl rfl) (List.sublist_append_left _ _) ⟨rfl, ?_⟩
    unfold GrP
    rw [hil]
    exact hg1
theorem lendFind {G : GH} {l : List Pr} {v : Value} {ν : OH} (k : ByteArray) (hg : GrP v l ν) (hr : RiseG ksP l) (hz : Sized l) (hk : k.size ≤ 200) : Con Tryz.prog 288 #[v, .string k] G ν (Keeps (.tuple [.agg (findP l (kn k)).cells.toArray, .bool (hitG ksP l (kn k))].toArray) G ν) :=
  Con.lendJ fun G' _ h2 => find_s k (row_of_grow Pr.len hg h2) hr hz hk
theorem findP_rev {l : List Pr} (h : ∀ x ∈ l, 0 ≤ x.rev) (n : Int) : 0 ≤ (findP l n).rev := by
  unfold findP
  split
  · exact h _ (List.getElem_mem _)
  · exact Int.le_refl _
noncomputable def casP (l : List Pr) (c : Cm) : List Pr × An :=
  if hitG ksP l (kn c.key) = false then (l, { ans0 c with err := 10 })
  else if (findP l (kn c.key)).val = c.old then (withG ksP l ⟨c.key, c.val, nextR (findP l (kn c.key)).rev⟩, { ans0 c with found := true, val := (findP l (kn c.key)).val, rev := nextR (findP l (kn c.key)).rev })
  else (l, { ans0 c with err := 15, found := true, val := (findP l (kn c.key)).val, rev := (findP l (kn c.key)).rev })
theorem cas_s {G : GH} {l : List Pr} {v : Value} {ν : OH} (c : Cm) (hg : GrP v l ν) (hr : RiseW ksP l) (hz : Sized l) (hk : c.key.size ≤ 200) (hn : l.length ≤ 200) (hrev : ∀ x ∈ l, 0 ≤ x.rev) :
    Con Tryz.prog 291 #[v, .agg c.cells.toArray] G ν (fun r G' μ' => G' = G ∧ ∃ v', r = .tuple [v', .agg (casP l c).2.cells.toArray].toArray ∧ GrP v' (casP l c).1 μ') := by
  have hrg := riseG_pw.2 hr
  have q2 := lendFind (G := G) c.key hg hrg hz hk
  have hfr := findP_rev hrev (kn c.key)
  have qn := nextR_s G _ hfr
  unfold casP
  generalize findP l (kn c.key) = f at *
  have q3 := set_s (G := G) ⟨c.key, c.val, nextR f.rev⟩ hg hr hz hk hn
  generalize hitG ksP l (kn c.key) = hb at *
  generalize withG ksP l ⟨c.key, c.val, nextR f.rev⟩ = lw at *
  generalize nextR f.rev = nr at *
  obtain ⟨kind, client, seq, key, val, old, node⟩ := c
  simp only at *
  have eb : dec (f.val = old) = decide (f.val = old) := dec_eq
  (refine v_enter Tryz.func291 rfl Tryz.ntmps291 rfl ?_; intro B _)
  cases hb with
  | false =>
    rw [if_pos rfl]
    repeat' (first | (apply v_box (zs := Cm.cells ⟨kind, client, seq, key, val, old, node⟩); (case hx => rfl); (case hz => rfl); (case hd => rfl); intro bc) | (apply v_alloc (d := 5); (case hz => rfl); (case hd => rfl); intro b5) | (apply v_alloc (d := 6); (case hz => rfl); (case hd => rfl); intro b7) | (apply v_alloc (d := 7); (case hz => rfl); (case hd => rfl); intro b8) | apply v_seq | apply v_region | apply v_nil | (apply v_pure; (case hop => first | (apply p_move <;> rfl) | (apply p_assign <;> rfl) | (apply p_not <;> rfl) | (apply p_fieldAddrB <;> rfl) | (apply p_extract0 <;> rfl) | (apply p_extract1 <;> rfl) | (apply p_build; (case hz => rfl); (case hv => (simp only [List.map_cons, List.map_nil]; repeat (first | with_reducible exact evs_nil | (apply evs_cons; (case h1 => rfl))))); (case hb => (apply bldL; repeat (first | exact bld_nil | (apply bld_cons; (case hpf => rfl); (case hc => rfl); (case hs => rfl); (case hl => rfl); (case ho => ((repeat (first | with_reducible exact ov_nil | apply ov_cons)); done))))))) | fail); (case hd => rfl)) | (apply v_condT; (case hc => rfl)) | (apply v_callK (hs := q2) (μ2 := [(b7, .cells [.int .i64 client, .int .i64 seq, .int .i64 0, .bool false, .string ByteArray.empty, .int .i64 0].toArray 40 (0, 0)), (b5, .cells [.int .i64 0, .int .i64 0, .int .i64 0, .bool false, .string ByteArray.empty, .int .i64 0].toArray 40 (0, 0)), (bc, .cells (Cm.cells ⟨kind, client, seq, key, val, old, node⟩).toArray 28 (0, 0))]); (case ha => rfl); (case hp => exact (by apply perm_of_count; intro p; simp only [List.append_eq, List.countP_append, List.countP_cons, List.countP_nil, Nat.zero_add, Nat.add_zero]; try ac_rfl)); (case hd => rfl)) | (apply v_read; (case hop => (apply r_load1; rfl; (apply Cell.own; (case h => (repeat (first | exact mhd _ | apply mtl))); rfl))); (case hd => rfl)) | (apply v_store; (case hp => rfl); (case hx => rfl); (case hc => rfl); (case hsz => rfl); (case h1 => rfl); (case hb => (repeat (first | exact mhd _ | apply mtl))); (case hfit => exact nle rfl); (case hov => ((repeat (first | with_reducible exact ov_nil | apply ov_cons)); done)); (case hu => repeat (first | exact Upd.here _ _ | apply Upd.there))) | fail)
    refine d_start [(b7, .cells [.int .i64 client, .int .i64 seq, .int .i64 10, .bool false, .string ByteArray.empty, .int .i64 0].toArray 40 (0, 0))] (by kernel_rfl) (by kernel_rfl) (by kernel_rfl) (by intro e he; (simp at he; simp [he]; done)) ?_
    all_goals (apply dtk 0; (case hi => rfl); (case hop => (apply prd; apply p_move <;> rfl)); (case hq => kernel_rfl))
    all_goals (apply dtk 1; (case hi => rfl); (case hop => first | (apply r_loadNo; (case hx => rfl); (case h => (repeat (exact mhd _))); (case hd => (repeat (first | with_reducible exact dt_nil | apply dt_here))); (case hn => rfl)) | (apply r_load1; rfl; (apply Cell.own; (case h => (repeat (fail))); rfl)) | (apply r_loadN; rfl; (apply CellsAt.own; (case h => (repeat (fail)))); rfl)); (case hq => kernel_rfl))
    all_goals (apply dtk 2; (case hi => rfl); (case hop => (apply prd; apply p_assign <;> rfl)); (case hq => kernel_rfl))
    all_goals (apply d_store 3; (case hi => rfl); (case hr => kernel_rfl); (case hL => infer_instance); (case hp => rfl); (case hx => rfl); (case hc => rfl); (case hsz => rfl); (case h1 => rfl); (case hb => (repeat (first | exact mhd _ | apply mtl))); (case hfit => exact nle rfl); (case hov => ((repeat (first | with_reducible exact ov_nil | apply ov_cons)); done)); (case hu => repeat (first | exact Upd.here _ _ | apply Upd.there)); (case hν' => intro e he; (simp at he; simp [he]; done)))
    all_goals (apply d_done; (case hr => kernel_rfl))
    repeat' (fail)
    refine v_retM ν (outsM_tc (sz1 := 6) (vs1 := [.int .i64 client, .int .i64 seq, .int .i64 10, .bool false, .string ByteArray.empty, .int .i64 0]) (e1 := 40) rfl rfl rfl (by repeat (first | exact mhd _ | apply mtl)) rfl) (List.Sublist.cons _ (List.Sublist.cons _ (List.Sublist.cons _ (List.Sublist.cons _ (List.Sublist.refl _))))) ⟨rfl, _, rfl, hg⟩
  | true =>
    rw [if_neg (by simp)]
    repeat' (first | (apply v_box (zs := Cm.cells ⟨kind, client, seq, key, val, old, node⟩); (case hx => rfl); (case hz => rfl); (case hd => rfl); intro bc) | (apply v_alloc (d := 5); (case hz => rfl); (case hd => rfl); intro b5) | (apply v_alloc (d := 6); (case hz => rfl); (case hd => rfl); intro b7) | (apply v_alloc (d := 7); (case hz => rfl); (case hd => rfl); intro b8) | apply v_seq | apply v_region | apply v_nil | apply v_skip | (apply v_pure; (case hop => first | (apply p_move <;> rfl) | (apply p_assign <;> rfl) | (apply p_not <;> rfl) | (apply p_fieldAddrB <;> rfl) | (apply p_extract0 <;> rfl) | (apply p_extract1 <;> rfl) | (apply p_build; (case hz => rfl); (case hv => (simp only [List.map_cons, List.map_nil]; repeat (first | with_reducible exact evs_nil | (apply evs_cons; (case h1 => rfl))))); (case hb => (apply bldL; repeat (first | exact bld_nil | (apply bld_cons; (case hpf => rfl); (case hc => rfl); (case hs => rfl); (case hl => rfl); (case ho => ((repeat (first | with_reducible exact ov_nil | apply ov_cons)); done))))))) | fail); (case hd => rfl)) | (apply v_condF; (case hc => rfl)) | (apply v_callK (hs := q2) (μ2 := [(b7, .cells [.int .i64 client, .int .i64 seq, .int .i64 0, .bool false, .string ByteArray.empty, .int .i64 0].toArray 40 (0, 0)), (b5, .cells [.int .i64 0, .int .i64 0, .int .i64 0, .bool false, .string ByteArray.empty, .int .i64 0].toArray 40 (0, 0)), (bc, .cells (Cm.cells ⟨kind, client, seq, key, val, old, node⟩).toArray 28 (0, 0))]); (case ha => rfl); (case hp => exact (by apply perm_of_count; intro p; simp only [List.append_eq, List.countP_append, List.countP_cons, List.countP_nil, Nat.zero_add, Nat.add_zero]; try ac_rfl)); (case hd => rfl)) | (apply v_read; (case hop => (apply r_load1; rfl; (apply Cell.own; (case h => (repeat (first | exact mhd _ | apply mtl))); rfl))); (case hd => rfl)) | (apply v_store; (case hp => rfl); (case hx => rfl); (case hc => rfl); (case hsz => rfl); (case h1 => rfl); (case hb => (repeat (exact mhd _))); (case hfit => exact nle rfl); (case hov => ((repeat (first | with_reducible exact ov_nil | apply ov_cons)); done)); (case hu => repeat (exact Upd.here _ _))) | fail)
    refine d_start [(b8, .cells [.string f.key, .string f.val, .int .i64 f.rev].toArray 144 (0, 0))] (by kernel_rfl) (by kernel_rfl) (by kernel_rfl) (by intro e he; (simp at he; simp [he]; done)) ?_
    all_goals (apply dtk 0; (case hi => rfl); (case hop => (apply prd; apply p_fieldAddrB <;> rfl)); (case hq => kernel_rfl))
    all_goals (apply dtk 1; (case hi => rfl); (case hop => first | (apply r_loadNo; (case hx => rfl); (case h => (repeat (fail))); (case hd => (repeat (fail))); (case hn => rfl)) | (apply r_load1; rfl; (apply Cell.own; (case h => (repeat (exact mhd _))); rfl)) | (apply r_loadN; rfl; (apply CellsAt.own; (case h => (repeat (fail)))); rfl)); (case hq => kernel_rfl))
    all_goals (apply dtk 2; (case hi => rfl); (case hop => (apply prd; apply p_fieldAddrB <;> rfl)); (case hq => kernel_rfl))
    all_goals (apply dtk 3; (case hi => rfl); (case hop => first | (apply r_loadNo; (case hx => rfl); (case h => (repeat (fail))); (case hd => (repeat (fail))); (case hn => rfl)) | (apply r_load1; rfl; (apply Cell.own; (case h => (repeat (exact mhd _))); rfl)) | (apply r_loadN; rfl; (apply CellsAt.own; (case h => (repeat (fail)))); rfl)); (case hq => kernel_rfl))
    all_goals (apply dtk 4; (case hi => rfl); (case hop => (apply prd; apply p_fieldAddrB <;> rfl)); (case hq => kernel_rfl))
    all_goals (apply d_store 5; (case hi => rfl); (case hr => kernel_rfl); (case hL => infer_instance); (case hp => rfl); (case hx => rfl); (case hc => rfl); (case hsz => rfl); (case h1 => rfl); (case hb => (repeat (first | exact mhd _ | apply mtl))); (case hfit => exact nle rfl); (case hov => ((repeat (first | with_reducible exact ov_nil | apply ov_cons)); done)); (case hu => repeat (first | exact Upd.here _ _ | apply Upd.there)); (case hν' => intro e he; (simp at he; simp [he]; done)))
    all_goals (apply dtk 6; (case hi => rfl); (case hop => (apply prd; apply p_fieldAddrB <;> rfl)); (case hq => kernel_rfl))
    all_goals (apply d_store 7; (case hi => rfl); (case hr => kernel_rfl); (case hL => infer_instance); (case hp => rfl); (case hx => rfl); (case hc => rfl); (case hsz => rfl); (case h1 => rfl); (case hb => (repeat (first | exact mhd _ | apply mtl))); (case hfit => exact nle rfl); (case hov => ((repeat (first | with_reducible exact ov_nil | apply ov_cons)); done)); (case hu => repeat (first | exact Upd.here _ _ | apply Upd.there)); (case hν' => intro e he; (simp at he; simp [he]; done)))
    all_goals (apply dtk 8; (case hi => rfl); (case hop => (apply prd; apply p_fieldAddrB <;> rfl)); (case hq => kernel_rfl))
    all_goals (apply d_store 9; (case hi => rfl); (case hr => kernel_rfl); (case hL => infer_instance); (case hp => rfl); (case hx => rfl); (case hc => rfl); (case hsz => rfl); (case h1 => rfl); (case hb => (repeat (first | exact mhd _ | apply mtl))); (case hfit => exact nle rfl); (case hov => ((repeat (first | with_reducible exact ov_nil | apply ov_cons)); done)); (case hu => repeat (first | exact Upd.here _ _ | apply Upd.there)); (case hν' => intro e he; (simp at he; simp [he]; done)))
    all_goals (apply d_done; (case hr => kernel_rfl))
    repeat' (first | apply v_seq | apply v_region | apply v_nil | apply v_skip | (apply v_pure; (case hop => first | (apply p_fieldAddrB <;> rfl) | (apply p_neS <;> rfl) | fail); (case hd => rfl)) | (apply v_cond; (case hc => rfl); all_goals (intro h; (try simp only [reduceCtorEq, zzz] at h))) | (apply v_read; (case hop => (apply r_load1; rfl; (apply Cell.own; (case h => (repeat (first | exact mhd _ | apply mtl))); rfl))); (case hd => rfl)) | (apply v_store; (case hp => rfl); (case hx => rfl); (case hc => rfl); (case hsz => rfl); (case h1 => rfl); (case hb => (repeat (first | exact mhd _ | apply mtl))); (case hfit => exact nle rfl); (case hov => ((repeat (first | with_reducible exact ov_nil | apply ov_cons)); done)); (case hu => repeat (first | exact Upd.here _ _ | apply Upd.there))) | fail)
    · rw [if_neg (by assumption)]
      refine d_start [(b7, .cells [.int .i64 client, .int .i64 seq, .int .i64 15, .bool true, .string f.val, .int .i64 f.rev].toArray 40 (0, 0))] (by kernel_rfl) (by kernel_rfl) (by kernel_rfl) (by intro e he; (simp at he; simp [he]; done)) ?_
      all_goals (apply dtk 0; (case hi => rfl); (case hop => (apply prd; apply p_move <;> rfl)); (case hq => kernel_rfl))
      all_goals (apply dtk 1; (case hi => rfl); (case hop => first | (apply r_loadNo; (case hx => rfl); (case h => (repeat (exact mhd _))); (case hd => (repeat (first | with_reducible exact dt_nil | apply dt_here))); (case hn => rfl)) | (apply r_load1; rfl; (apply Cell.own; (case h => (repeat (fail))); rfl)) | (apply r_loadN; rfl; (apply CellsAt.own; (case h => (repeat (fail)))); rfl)); (case hq => kernel_rfl))
      all_goals (apply dtk 2; (case hi => rfl); (case hop => (apply prd; apply p_assign <;> rfl)); (case hq => kernel_rfl))
      all_goals (apply d_store 3; (case hi => rfl); (case hr => kernel_rfl); (case hL => infer_instance); (case hp => rfl); (case hx => rfl); (case hc => rfl); (case hsz => rfl); (case h1 => rfl); (case hb => (repeat (first | exact mhd _ | apply mtl))); (case hfit => exact nle rfl); (case hov => ((repeat (first | with_reducible exact ov_nil | apply ov_cons)); done)); (case hu => repeat (first | exact Upd.here _ _ | apply Upd.there)); (case hν' => intro e he; (simp at he; simp [he]; done)))
      all_goals (apply d_done; (case hr => kernel_rfl))
      repeat' (fail)
      refine v_retM ν (outsM_tc (sz1 := 6) (vs1 := [.int .i64 client, .int .i64 seq, .int .i64 15, .bool true, .string f.val, .int .i64 f.rev]) (e1 := 40) rfl rfl rfl (by repeat (first | exact mhd _ | apply mtl)) rfl) (List.Sublist.cons _ (List.Sublist.cons _ (List.Sublist.cons _ (List.Sublist.cons _ (List.Sublist.refl _))))) ⟨rfl, _, rfl, hg⟩
    · rw [if_pos (by assumption)]
      repeat' (first | apply v_seq | apply v_nil | (apply v_pure; (case hop => (apply p_fieldAddrB <;> rfl)); (case hd => rfl)) | (apply v_callJ (hs := qn); (case ha => rfl); (case hd => rfl)) | (apply v_store; (case hp => rfl); (case hx => rfl); (case hc => rfl); (case hsz => rfl); (case h1 => rfl); (case hb => (repeat (first | exact mhd _ | apply mtl))); (case hfit => exact nle rfl); (case hov => ((repeat (first | with_reducible exact ov_nil | apply ov_cons)); done)); (case hu => repeat (first | exact Upd.here _ _ | apply Upd.there))) | fail)
      refine d_start [(b7, .cells [.int .i64 client, .int .i64 seq, .int .i64 0, .bool true, .string f.val, .int .i64 nr].toArray 40 (0, 0)), (bc, .cells (Cm.cells ⟨kind, client, seq, key, val, old, node⟩).toArray 28 (0, 0))] (by kernel_rfl) (by kernel_rfl) (by kernel_rfl) (by intro e he; (simp only [List.mem_cons, List.not_mem_nil, or_false] at he; rcases he with rfl | rfl <;> simp; done)) ?_
      all_goals (apply dtk 0; (case hi => rfl); (case hop => (apply prd; apply p_move <;> rfl)); (case hq => kernel_rfl))
      all_goals (apply dtk 1; (case hi => rfl); (case hop => (apply prd; apply p_fieldAddrB <;> rfl)); (case hq => kernel_rfl))
      all_goals (apply dtk 2; (case hi => rfl); (case hop => first | (apply r_loadNo; (case hx => rfl); (case h => (repeat (fail))); (case hd => (repeat (fail))); (case hn => rfl)) | (apply r_load1; rfl; (apply Cell.own; (case h => (repeat (first | exact mhd _ | apply mtl))); rfl)) | (apply r_loadN; rfl; (apply CellsAt.own; (case h => (repeat (fail)))); rfl)); (case hq => kernel_rfl))
      all_goals (apply dtk 3; (case hi => rfl); (case hop => (apply prd; apply p_fieldAddrB <;> rfl)); (case hq => kernel_rfl))
      all_goals (apply dtk 4; (case hi => rfl); (case hop => first | (apply r_loadNo; (case hx => rfl); (case h => (repeat (fail))); (case hd => (repeat (fail))); (case hn => rfl)) | (apply r_load1; rfl; (apply Cell.own; (case h => (repeat (first | exact mhd _ | apply mtl))); rfl)) | (apply r_loadN; rfl; (apply CellsAt.own; (case h => (repeat (fail)))); rfl)); (case hq => kernel_rfl))
      all_goals (apply dtk 5; (case hi => rfl); (case hop => (apply prd; apply p_fieldAddrB <;> rfl)); (case hq => kernel_rfl))
      all_goals (apply dtk 6; (case hi => rfl); (case hop => first | (apply r_loadNo; (case hx => rfl); (case h => (repeat (fail))); (case hd => (repeat (fail))); (case hn => rfl)) | (apply r_load1; rfl; (apply Cell.own; (case h => (repeat (exact mhd _))); rfl)) | (apply r_loadN; rfl; (apply CellsAt.own; (case h => (repeat (fail)))); rfl)); (case hq => kernel_rfl))
      all_goals (apply dtk 7; (case hi => rfl); (case hop => (apply prd; apply p_build; (case hz => rfl); (case hv => (simp only [List.map_cons, List.map_nil]; repeat (first | with_reducible exact evs_nil | (apply evs_cons; (case h1 => rfl))))); (case hb => (apply bldL; repeat (first | exact bld_nil | (apply bld_cons; (case hpf => rfl); (case hc => rfl); (case hs => rfl); (case hl => rfl); (case ho => ((repeat (first | with_reducible exact ov_nil | apply ov_cons)); done)))))))); (case hq => kernel_rfl))
      all_goals (apply dtk 9; (case hi => rfl); (case hop => first | (apply r_loadNo; (case hx => rfl); (case h => (repeat (exact mhd _))); (case hd => (repeat (first | with_reducible exact dt_nil | apply dt_here))); (case hn => rfl)) | (apply r_load1; rfl; (apply Cell.own; (case h => (repeat (fail))); rfl)) | (apply r_loadN; rfl; (apply CellsAt.own; (case h => (repeat (fail)))); rfl)); (case hq => kernel_rfl))
      all_goals ((apply d_call 8 (hs := q3) (μ1 := ν) (μ2 := [(b8, .cells [.string f.key, .string f.val, .int .i64 f.rev].toArray 144 (0, 0)), (b7, .cells [.int .i64 client, .int .i64 seq, .int .i64 0, .bool true, .string f.val, .int .i64 nr].toArray 40 (0, 0)), (b5, .cells [.int .i64 0, .int .i64 0, .int .i64 0, .bool false, .string ByteArray.empty, .int .i64 0].toArray 40 (0, 0)), (bc, .cells (Cm.cells ⟨kind, client, seq, key, val, old, node⟩).toArray 28 (0, 0))]); (case hi => rfl); (case hr => kernel_rfl);  (case ha => rfl); (case hp => exact (by apply perm_of_count; intro p; simp only [List.append_eq, List.countP_append, List.countP_cons, List.countP_nil, Nat.zero_add, Nat.add_zero]; try ac_rfl)); (case hd => rfl); (case hν' => intro e he; simp only [List.mem_cons, List.not_mem_nil, or_false] at he; rcases he with rfl | rfl <;> simp); rintro v2 G2 ν2 - ⟨hG2, hg2⟩; subst hG2))
      all_goals (apply dtk 10; (case hi => rfl); (case hop => (apply prd; apply p_assign <;> rfl)); (case hq => kernel_rfl))
      all_goals (apply d_store 11; (case hi => rfl); (case hr => kernel_rfl); (case hL => infer_instance); (case hp => rfl); (case hx => rfl); (case hc => rfl); (case hsz => rfl); (case h1 => rfl); (case hb => (repeat (first | exact mhd _ | apply mtl | apply List.mem_append_right))); (case hfit => exact nle rfl); (case hov => ((repeat (first | with_reducible exact ov_nil | apply ov_cons)); done)); (case hu => repeat (first | exact Upd.here _ _ | apply Upd.there | apply Upd.app)); (case hν' => intro e he; (simp only [List.mem_cons, List.not_mem_nil, or_false] at he; rcases he with rfl | rfl <;> simp; done)))
      all_goals (apply d_done; (case hr => kernel_rfl))
      repeat' (fail)
      refine v_retM ν2 (outsM_tc (sz1 := 6) (vs1 := [.int .i64 client, .int .i64 seq, .int .i64 0, .bool true, .string f.val, .int .i64 nr]) (e1 := 40) rfl rfl rfl (by repeat (first | exact mhd _ | apply mtl | apply List.mem_append_right)) rfl) (List.sublist_append_left _ _) ⟨rfl, _, rfl, hg2⟩
theorem doOne_rise {l : List Pr} (hr : RiseW ksP l) (c : Cm) : RiseW ksP (doOne l c).1 := by
  unfold doOne
  split
  · split
    · exact withG_rise hr _
    · exact hr
  · split
    · exact hr
    · split
      · exact hr.sublist List.filter_sublist
      · exact hr
theorem doOne_mem {l : List Pr} {c : Cm} {x : Pr} (h : x ∈ (doOne l c).1) : x = ⟨c.key, c.val, 0⟩ ∨ x ∈ l := by
  unfold doOne at h
  split at h
  · split at h
    · exact withG_mem h
    · exact .inr h
  · split at h
    · exact .inr h
    · split at h
      · exact .inr (List.mem_filter.1 h).1
      · exact .inr h
theorem doOne_sized {l : List Pr} (hz : Sized l) {c : Cm} (hk : c.key.size ≤ 200) (hv : c.val.size ≤ 200) : Sized (doOne l c).1 := fun x hx => by
  rcases doOne_mem hx with rfl | hx
  · exact ⟨hk, hv⟩
  · exact hz x hx
theorem doOne_len {l : List Pr} (hr : RiseW ksP l) (c : Cm) : (doOne l c).1.length ≤ l.length + 1 := by
  unfold doOne
  split
  · split
    · simp only
      rw [withG_len hr]
      split <;> omega
    · simp
  · split
    · simp
    · split
      · exact Nat.le_trans (List.length_filter_le _ _) (by omega)
      · simp
noncomputable def doTwo (l : List Pr) (c : Cm) : List Pr × An :=
  if c.kind = 5 then casP l c
  else if c.kind = 2 ∧ (doOne l c).2.err = 0 then (withG ksP (doOne l c).1 ⟨c.key, c.val, nextR (findP l (kn c.key)).rev⟩, (doOne l c).2)
  else doOne l c
theorem lendDoOne {G : GH} {l : List Pr} {v : Value} {ν : OH} (c : Cm) (hg : GrP v l ν) (hr : RiseW ksP l) (hz : Sized l) (hk : c.key.size ≤ 200) (hn : l.length ≤ 150) :
    Con Tryz.prog 253 #[v, .agg c.cells.toArray] G ν (fun r G' μ' => G' = G ∧ ∃ μ1, (∃ v', r = .tuple [v', .agg (doOne l c).2.cells.toArray].toArray ∧ GrP v' (doOne l c).1 μ1) ∧ μ' = ν ++ μ1) :=
  Con.lendF fun G' _ h2 => (doOne_s c (row_of_grow Pr.len hg h2) hr hz hk hn).mono fun _ _ _ ⟨_, h⟩ => h
theorem doTwo_s {G : GH} {l : List Pr} {sv : Value} (c : Cm) (hs : Prs G sv l) (hr : RiseW ksP l) (hz : Sized l) (hk : c.key.size ≤ 200) (hv : c.val.size ≤ 200) (hn : l.length ≤ 150) (hrev : ∀ x ∈ l, 0 ≤ x.rev) :
    Con Tryz.prog 254 #[sv, .agg c.cells.toArray] G [] (fun r G' μ' => G' = G ∧ ∃ v, r = .tuple [v, .agg (doTwo l c).2.cells.toArray].toArray ∧ GrP v (doTwo l c).1 μ') := by
  have hrg := riseG_pw.2 hr
  have q1 := prClone_s hs (by omega)
  have q2 := fun (v : Value) (ν : OH) (hg : GrP v l ν) => lendFind (G := G) c.key hg hrg hz hk
  have q3 := fun (v : Value) (ν : OH) (hg : GrP v l ν) => lendDoOne (G := G) c hg hr hz hk hn
  have q4 := fun (v : Value) (ν : OH) (hg : GrP v l ν) => cas_s (G := G) c hg hr hz hk (by omega) hrev
  have hlen := doOne_len hr c
  have q5 := fun (v : Value) (ν : OH) (hg : GrP v (doOne l c).1 ν) => set_s (G := G) ⟨c.key, c.val, nextR (findP l (kn c.key)).rev⟩ hg (doOne_rise hr c) (doOne_sized hz hk hv) hk (by omega)
  have qn := nextR_s G _ (findP_rev hrev (kn c.key))
  unfold doTwo
  generalize hitG ksP l (kn c.key) = hb at *
  generalize findP l (kn c.key) = f at *
  generalize casP l c = cp at *
  generalize doOne l c = dd at *
  obtain ⟨l1, d⟩ := dd
  obtain ⟨cl, ca⟩ := cp
  generalize nextR f.rev = nr at *
  obtain ⟨kind, client, seq, key, val, old, node⟩ := c
  simp only at *
  generalize withG ksP l1 ⟨key, val, nr⟩ = lw at *
  (refine v_enter Tryz.func254 rfl Tryz.ntmps254 rfl ?_; intro B _)
  repeat' (first | (apply v_box (zs := Cm.cells ⟨kind, client, seq, key, val, old, node⟩); (case hx => rfl); (case hz => rfl); (case hd => rfl); intro bc) | (apply v_alloc (d := 5); (case hz => rfl); (case hd => rfl); intro b5) | apply v_seq | apply v_region | apply v_nil | (apply v_pure; (case hop => first | (apply p_move <;> rfl) | (apply p_assign <;> rfl) | fail); (case hd => rfl)) | fail)
  refine v_call (μ1 := []) (μ2 := _) rfl q1 (List.Perm.refl _) rfl ?_
  rintro v1 G1 ν1 - ⟨hG1, hg1⟩
  subst hG1
  have q2 := q2 v1 ν1 hg1
  have q3 := q3 v1 ν1 hg1
  have q4 := q4 v1 ν1 hg1
  repeat' (first | (apply v_read; (case hop => (apply r_loadNo; (case hx => rfl); (case h => repeat (first | exact mhd _ | apply mtl | apply List.mem_append_right)); (case hd => rfl); (case hn => rfl))); (case hd => rfl)) | apply v_seq | apply v_region | apply v_nil | apply v_skip | (apply v_pure; (case hop => first | (apply p_move <;> rfl) | (apply p_eq <;> rfl) | (apply p_assign <;> rfl) | (apply p_fieldAddrB <;> rfl) | fail); (case hd => rfl)) | (apply v_cond; (case hc => rfl); all_goals (intro h; (try simp only [reduceCtorEq, zzz] at h))) | (apply v_read; (case hop => (apply r_load1; rfl; (apply Cell.own; (case h => (repeat (first | exact mhd _ | apply mtl | apply List.mem_append_right))); rfl))); (case hd => rfl)) | fail)
  · have h5 : kind = 5 := by assumption
    rw [if_pos h5]
    refine v_call (μ1 := ν1) (μ2 := [(b5, .cells [.int .i64 0, .int .i64 0, .int .i64 0, .bool false, .string ByteArray.empty, .int .i64 0].toArray 40 (0, 0)), (bc, .cells (Cm.cells ⟨kind, client, seq, key, val, old, node⟩).toArray 28 (0, 0))]) rfl q4 (List.Perm.refl _) rfl ?_
    rintro _ G2 ν2 - ⟨hG2, v2, rfl, hg2⟩
    subst hG2
    repeat' (first | apply v_nil | (apply v_pure; (case hop => first | (apply p_assign <;> rfl) | (apply p_extract0 <;> rfl) | (apply p_extract1 <;> rfl) | fail); (case hd => rfl)) | (apply v_store; (case hp => rfl); (case hx => rfl); (case hc => rfl); (case hsz => rfl); (case h1 => rfl); (case hb => (repeat (first | exact mhd _ | apply List.mem_append_right))); (case hfit => exact nle rfl); (case hov => ((repeat (first | with_reducible exact ov_nil | apply ov_cons)); done)); (case hu => repeat (first | exact Upd.here _ _ | apply Upd.app))) | fail)
    refine v_retM ν2 (outsM_tc (sz1 := 6) (vs1 := [.int .i64 ca.client, .int .i64 ca.seq, .int .i64 ca.err, .bool ca.found, .string ca.val, .int .i64 ca.rev]) (e1 := 40) rfl rfl rfl (by repeat (first | exact mhd _ | apply List.mem_append_right)) rfl) (List.sublist_append_left _ _) ⟨rfl, _, rfl, hg2⟩
  · rw [if_neg (by assumption)]
    repeat' (first | (apply v_alloc (d := 7); (case hz => rfl); (case hd => rfl); intro b7) | (apply v_read; (case hop => (apply r_loadNo; (case hx => rfl); (case h => repeat (first | exact mhd _ | apply mtl | apply List.mem_append_right)); (case hd => rfl); (case hn => rfl))); (case hd => rfl)) | apply v_seq | apply v_region | apply v_nil | (apply v_pure; (case hop => first | (apply p_move <;> rfl) | (apply p_assign <;> rfl) | (apply p_extract0 <;> rfl) | (apply p_extract1 <;> rfl) | fail); (case hd => rfl)) | (apply v_callK (hs := q2) (μ2 := [(b5, .cells [.int .i64 0, .int .i64 0, .int .i64 0, .bool false, .string ByteArray.empty, .int .i64 0].toArray 40 (0, 0)), (bc, .cells (Cm.cells ⟨kind, client, seq, key, val, old, node⟩).toArray 28 (0, 0))]); (case ha => rfl); (case hp => exact List.Perm.refl _); (case hd => rfl)) | (apply v_store; (case hp => rfl); (case hx => rfl); (case hc => rfl); (case hsz => rfl); (case h1 => rfl); (case hb => (repeat (exact mhd _))); (case hfit => exact nle rfl); (case hov => ((repeat (first | with_reducible exact ov_nil | apply ov_cons)); done)); (case hu => repeat (exact Upd.here _ _))) | fail)
    refine v_call (μ1 := ν1) (μ2 := [(b7, .cells [.string f.key, .string f.val, .int .i64 f.rev].toArray 144 (0, 0)), (b5, .cells [.int .i64 0, .int .i64 0, .int .i64 0, .bool false, .string ByteArray.empty, .int .i64 0].toArray 40 (0, 0)), (bc, .cells (Cm.cells ⟨kind, client, seq, key, val, old, node⟩).toArray 28 (0, 0))]) rfl q3 (by apply perm_of_count; intro p; simp only [List.append_eq, List.countP_append, List.countP_cons, List.countP_nil, Nat.zero_add, Nat.add_zero]; try ac_rfl) rfl ?_
    rintro _ G2 _ - ⟨hG2, ν2, ⟨v2, rfl, hg2⟩, rfl⟩
    subst hG2
    have q5 := q5 v2 ν2 hg2
    refine v_perm (ν := ν2 ++ [(b7, .cells [.string f.key, .string f.val, .int .i64 f.rev].toArray 144 (0, 0)), (b5, .cells [.int .i64 0, .int .i64 0, .int .i64 0, .bool false, .string ByteArray.empty, .int .i64 0].toArray 40 (0, 0)), (bc, .cells (Cm.cells ⟨kind, client, seq, key, val, old, node⟩).toArray 28 (0, 0))] ++ ν1) (by apply perm_of_count; intro p; simp only [List.append_eq, List.countP_append, List.countP_cons, List.countP_nil, Nat.zero_add, Nat.add_zero]; try ac_rfl) ?_
    refine v_drop (List.sublist_append_left _ _) ?_
    repeat' (first | (apply v_alloc (d := 10); (case hz => rfl); (case hd => rfl); intro b10) | apply v_seq | apply v_region | apply v_nil | apply v_skip | (apply v_take; (case hg => rfl)) | (apply v_pass; (case hg => rfl); (case hn => rfl); (case hd => rfl)) | (apply v_pure; (case hop => first | (apply p_move <;> rfl) | (apply p_eq <;> rfl) | (apply p_assign <;> rfl) | (apply p_pickT <;> rfl) | (apply p_pickF <;> rfl) | (apply p_fieldAddrB <;> rfl) | (apply p_extract0 <;> rfl) | (apply p_extract1 <;> rfl) | fail); (case hd => rfl)) | (apply v_condF; (case hc => rfl)) | (apply v_cond; (case hc => rfl); all_goals (intro h; (try simp only [reduceCtorEq, zzz] at h))) | (apply v_guardB; (case h1 => rfl); (case h2 => rfl); all_goals (intro h; (try simp only [reduceCtorEq, zzz] at h))) | (apply v_read; (case hop => (apply r_load1; rfl; (apply Cell.own; (case h => (repeat (first | exact mhd _ | apply mtl | apply List.mem_append_right))); rfl))); (case hd => rfl)) | (apply v_store; (case hp => rfl); (case hx => rfl); (case hc => rfl); (case hsz => rfl); (case h1 => rfl); (case hb => (repeat (exact mhd _))); (case hfit => exact nle rfl); (case hov => ((repeat (first | with_reducible exact ov_nil | apply ov_cons)); done)); (case hu => repeat (exact Upd.here _ _))) | fail)
    · rw [if_pos ⟨by assumption, by assumption⟩]
      refine d_start [(b7, .cells [.string f.key, .string f.val, .int .i64 f.rev].toArray 144 (0, 0)), (bc, .cells (Cm.cells ⟨kind, client, seq, key, val, old, node⟩).toArray 28 (0, 0))] (by kernel_rfl) (by kernel_rfl) (by kernel_rfl) (by intro e he; (simp only [List.mem_cons, List.not_mem_nil, or_false] at he; rcases he with rfl | rfl <;> simp; done)) ?_
      all_goals (apply dtk 0; (case hi => rfl); (case hop => (apply prd; apply p_move <;> rfl)); (case hq => kernel_rfl))
      all_goals (apply dtk 1; (case hi => rfl); (case hop => (apply prd; apply p_fieldAddrB <;> rfl)); (case hq => kernel_rfl))
      all_goals (apply dtk 2; (case hi => rfl); (case hop => first | (apply r_loadNo; (case hx => rfl); (case h => (repeat (fail))); (case hd => (repeat (fail))); (case hn => rfl)) | (apply r_load1; rfl; (apply Cell.own; (case h => (repeat (first | exact mhd _ | apply mtl))); rfl)) | (apply r_loadN; rfl; (apply CellsAt.own; (case h => (repeat (fail)))); rfl)); (case hq => kernel_rfl))
      all_goals (apply dtk 3; (case hi => rfl); (case hop => (apply prd; apply p_fieldAddrB <;> rfl)); (case hq => kernel_rfl))
      all_goals (apply dtk 4; (case hi => rfl); (case hop => first | (apply r_loadNo; (case hx => rfl); (case h => (repeat (fail))); (case hd => (repeat (fail))); (case hn => rfl)) | (apply r_load1; rfl; (apply Cell.own; (case h => (repeat (first | exact mhd _ | apply mtl))); rfl)) | (apply r_loadN; rfl; (apply CellsAt.own; (case h => (repeat (fail)))); rfl)); (case hq => kernel_rfl))
      all_goals (apply dtk 5; (case hi => rfl); (case hop => (apply prd; apply p_fieldAddrB <;> rfl)); (case hq => kernel_rfl))
      all_goals (apply dtk 6; (case hi => rfl); (case hop => first | (apply r_loadNo; (case hx => rfl); (case h => (repeat (fail))); (case hd => (repeat (fail))); (case hn => rfl)) | (apply r_load1; rfl; (apply Cell.own; (case h => (repeat (exact mhd _))); rfl)) | (apply r_loadN; rfl; (apply CellsAt.own; (case h => (repeat (fail)))); rfl)); (case hq => kernel_rfl))
      all_goals ((apply d_callJ 7 (hs := qn); (case hi => rfl); (case hr => kernel_rfl);  (case ha => rfl); (case hd => rfl)))
      all_goals (apply dtk 8; (case hi => rfl); (case hop => (apply prd; apply p_build; (case hz => rfl); (case hv => (simp only [List.map_cons, List.map_nil]; repeat (first | with_reducible exact evs_nil | (apply evs_cons; (case h1 => rfl))))); (case hb => (apply bldL; repeat (first | exact bld_nil | (apply bld_cons; (case hpf => rfl); (case hc => rfl); (case hs => rfl); (case hl => rfl); (case ho => ((repeat (first | with_reducible exact ov_nil | apply ov_cons)); done)))))))); (case hq => kernel_rfl))
      all_goals ((apply d_call 9 (hs := q5) (μ1 := ν2) (μ2 := (b10, .cells [.int .i64 d.client, .int .i64 d.seq, .int .i64 d.err, .bool d.found, .string d.val, .int .i64 d.rev].toArray 40 (0, 0)) :: [(b7, .cells [.string f.key, .string f.val, .int .i64 f.rev].toArray 144 (0, 0)), (b5, .cells [.int .i64 0, .int .i64 0, .int .i64 0, .bool false, .string ByteArray.empty, .int .i64 0].toArray 40 (0, 0)), (bc, .cells (Cm.cells ⟨kind, client, seq, key, val, old, node⟩).toArray 28 (0, 0))]); (case hi => rfl); (case hr => kernel_rfl);  (case ha => rfl); (case hp => exact (List.perm_append_comm_assoc [(b10, .cells [.int .i64 d.client, .int .i64 d.seq, .int .i64 d.err, .bool d.found, .string d.val, .int .i64 d.rev].toArray 40 (0, 0))] ν2 [(b7, .cells [.string f.key, .string f.val, .int .i64 f.rev].toArray 144 (0, 0)), (b5, .cells [.int .i64 0, .int .i64 0, .int .i64 0, .bool false, .string ByteArray.empty, .int .i64 0].toArray 40 (0, 0)), (bc, .cells (Cm.cells ⟨kind, client, seq, key, val, old, node⟩).toArray 28 (0, 0))])); (case hd => rfl); (case hν' => intro e he; simp only [List.mem_cons, List.not_mem_nil, or_false] at he; rcases he with rfl | rfl <;> simp); rintro v3 G3 ν3 - ⟨hG3, hg3⟩; subst hG3))
      all_goals (apply dtk 10; (case hi => rfl); (case hop => (apply prd; apply p_assign <;> rfl)); (case hq => kernel_rfl))
      all_goals (apply d_done; (case hr => kernel_rfl))
      repeat' (first | apply v_seq)
      refine d_start [(b10, .cells [.int .i64 d.client, .int .i64 d.seq, .int .i64 d.err, .bool d.found, .string d.val, .int .i64 d.rev].toArray 40 (0, 0))] (by kernel_rfl) (by kernel_rfl) (by kernel_rfl) (by intro e he; (simp at he; simp [he]; done)) ?_
      all_goals (apply dtk 0; (case hi => rfl); (case hop => (apply prd; apply p_move <;> rfl)); (case hq => kernel_rfl))
      all_goals (apply dtk 1; (case hi => rfl); (case hop => first | (apply r_loadNo; (case hx => rfl); (case h => (repeat (exact mhd _))); (case hd => (repeat (first | with_reducible exact dt_nil | apply dt_here))); (case hn => rfl)) | (apply r_load1; rfl; (apply Cell.own; (case h => (repeat (fail))); rfl)) | (apply r_loadN; rfl; (apply CellsAt.own; (case h => (repeat (fail)))); rfl)); (case hq => kernel_rfl))
      all_goals (apply dtk 2; (case hi => rfl); (case hop => (apply prd; apply p_assign <;> rfl)); (case hq => kernel_rfl))
      all_goals (apply d_store 3; (case hi => rfl); (case hr => kernel_rfl); (case hL => infer_instance); (case hp => rfl); (case hx => rfl); (case hc => rfl); (case hsz => rfl); (case h1 => rfl); (case hb => (repeat (first | exact mhd _ | apply mtl | apply List.mem_append_right))); (case hfit => exact nle rfl); (case hov => ((repeat (first | with_reducible exact ov_nil | apply ov_cons)); done)); (case hu => repeat (first | exact Upd.here _ _ | apply Upd.there | apply Upd.app)); (case hν' => intro e he; (simp at he; simp [he]; done)))
      all_goals (apply d_done; (case hr => kernel_rfl))
      repeat' (fail)
      refine v_retM ν3 (outsM_tc (sz1 := 6) (vs1 := [.int .i64 d.client, .int .i64 d.seq, .int .i64 d.err, .bool d.found, .string d.val, .int .i64 d.rev]) (e1 := 40) rfl rfl rfl (by repeat (first | exact mhd _ | apply mtl | apply List.mem_append_right)) rfl) (List.sublist_append_left _ _) ⟨rfl, _, rfl, hg3⟩
    · rw [if_neg (fun h => absurd h.2 (by assumption))]
      refine d_start [(b10, .cells [.int .i64 d.client, .int .i64 d.seq, .int .i64 d.err, .bool d.found, .string d.val, .int .i64 d.rev].toArray 40 (0, 0))] (by kernel_rfl) (by kernel_rfl) (by kernel_rfl) (by intro e he; (simp at he; simp [he]; done)) ?_
      all_goals (apply dtk 0; (case hi => rfl); (case hop => (apply prd; apply p_move <;> rfl)); (case hq => kernel_rfl))
      all_goals (apply dtk 1; (case hi => rfl); (case hop => first | (apply r_loadNo; (case hx => rfl); (case h => (repeat (exact mhd _))); (case hd => (repeat (first | with_reducible exact dt_nil | apply dt_here))); (case hn => rfl)) | (apply r_load1; rfl; (apply Cell.own; (case h => (repeat (fail))); rfl)) | (apply r_loadN; rfl; (apply CellsAt.own; (case h => (repeat (fail)))); rfl)); (case hq => kernel_rfl))
      all_goals (apply dtk 2; (case hi => rfl); (case hop => (apply prd; apply p_assign <;> rfl)); (case hq => kernel_rfl))
      all_goals (apply d_store 3; (case hi => rfl); (case hr => kernel_rfl); (case hL => infer_instance); (case hp => rfl); (case hx => rfl); (case hc => rfl); (case hsz => rfl); (case h1 => rfl); (case hb => (repeat (first | exact mhd _ | apply mtl | apply List.mem_append_right))); (case hfit => exact nle rfl); (case hov => ((repeat (first | with_reducible exact ov_nil | apply ov_cons)); done)); (case hu => repeat (first | exact Upd.here _ _ | apply Upd.there | apply Upd.app)); (case hν' => intro e he; (simp at he; simp [he]; done)))
      all_goals (apply d_done; (case hr => kernel_rfl))
      repeat' (fail)
      refine v_retM ν2 (outsM_tc (sz1 := 6) (vs1 := [.int .i64 d.client, .int .i64 d.seq, .int .i64 d.err, .bool d.found, .string d.val, .int .i64 d.rev]) (e1 := 40) rfl rfl rfl (by repeat (first | exact mhd _ | apply mtl | apply List.mem_append_right)) rfl) (List.Sublist.cons _ (List.sublist_append_left _ _)) ⟨rfl, _, rfl, hg2⟩
    · rw [if_neg (fun h => absurd h.1 (by assumption))]
      refine d_start [(b10, .cells [.int .i64 d.client, .int .i64 d.seq, .int .i64 d.err, .bool d.found, .string d.val, .int .i64 d.rev].toArray 40 (0, 0))] (by kernel_rfl) (by kernel_rfl) (by kernel_rfl) (by intro e he; (simp at he; simp [he]; done)) ?_
      all_goals (apply dtk 0; (case hi => rfl); (case hop => (apply prd; apply p_move <;> rfl)); (case hq => kernel_rfl))
      all_goals (apply dtk 1; (case hi => rfl); (case hop => first | (apply r_loadNo; (case hx => rfl); (case h => (repeat (exact mhd _))); (case hd => (repeat (first | with_reducible exact dt_nil | apply dt_here))); (case hn => rfl)) | (apply r_load1; rfl; (apply Cell.own; (case h => (repeat (fail))); rfl)) | (apply r_loadN; rfl; (apply CellsAt.own; (case h => (repeat (fail)))); rfl)); (case hq => kernel_rfl))
      all_goals (apply dtk 2; (case hi => rfl); (case hop => (apply prd; apply p_assign <;> rfl)); (case hq => kernel_rfl))
      all_goals (apply d_store 3; (case hi => rfl); (case hr => kernel_rfl); (case hL => infer_instance); (case hp => rfl); (case hx => rfl); (case hc => rfl); (case hsz => rfl); (case h1 => rfl); (case hb => (repeat (first | exact mhd _ | apply mtl | apply List.mem_append_right))); (case hfit => exact nle rfl); (case hov => ((repeat (first | with_reducible exact ov_nil | apply ov_cons)); done)); (case hu => repeat (first | exact Upd.here _ _ | apply Upd.there | apply Upd.app)); (case hν' => intro e he; (simp at he; simp [he]; done)))
      all_goals (apply d_done; (case hr => kernel_rfl))
      repeat' (fail)
      refine v_retM ν2 (outsM_tc (sz1 := 6) (vs1 := [.int .i64 d.client, .int .i64 d.seq, .int .i64 d.err, .bool d.found, .string d.val, .int .i64 d.rev]) (e1 := 40) rfl rfl rfl (by repeat (first | exact mhd _ | apply mtl | apply List.mem_append_right)) rfl) (List.Sublist.cons _ (List.sublist_append_left _ _)) ⟨rfl, _, rfl, hg2⟩
def AnNum (a : An) : Prop := (1 ≤ a.client ∧ a.client ≤ 8) ∧ (1 ≤ a.seq ∧ a.seq ≤ 4294967296) ∧ (0 ≤ a.err ∧ a.err ≤ 17) ∧ (0 ≤ a.rev ∧ a.rev ≤ 4294967296)
noncomputable def ansI (a : An) : Int := if (1 ≤ a.client ∧ a.client ≤ 8) ∧ (1 ≤ a.seq ∧ a.seq ≤ 4294967296) ∧ (0 ≤ a.err ∧ a.err ≤ 17) ∧ (0 ≤ a.rev ∧ a.rev ≤ 4294967296) then (if valB a.val = true then 0 else 7) else 6
theorem ansI_zero {a : An} : ansI a = 0 ↔ AnNum a ∧ valB a.val = true := by
  unfold ansI AnNum
  by_cases h : (1 ≤ a.client ∧ a.client ≤ 8) ∧ (1 ≤ a.seq ∧ a.seq ≤ 4294967296) ∧ (0 ≤ a.err ∧ a.err ≤ 17) ∧ (0 ≤ a.rev ∧ a.rev ≤ 4294967296)
  · rw [if_pos h]
    by_cases hv : valB a.val = true
    · rw [if_pos hv]; exact ⟨fun _ => ⟨h, hv⟩, fun _ => rfl⟩
    · rw [if_neg hv]; exact ⟨fun e => (by omega), fun e => absurd e.2 hv⟩
  · rw [if_neg h]
    exact ⟨fun e => (by omega), fun e => absurd e.1 h⟩
theorem within_s (G : GH) (n a b : Int) : Con Tryz.prog 245 #[.int .i64 n, .int .i64 a, .int .i64 b] G [] (Just (.bool (decide (a ≤ n ∧ n ≤ b))) G) := by
  apply Con.just
  (refine v_enter Tryz.func245 rfl Tryz.ntmps245 rfl ?_; intro B _)
  repeat' (first | apply v_seq | apply v_region | apply v_nil | (apply v_take; (case hg => rfl)) | (apply v_pass; (case hg => rfl); (case hn => rfl); (case hd => rfl)) | (apply v_pure; (case hop => first | (apply p_move <;> rfl) | (apply p_le <;> rfl) | (apply p_ge <;> rfl) | (apply p_assign <;> rfl) | (apply p_pickT <;> rfl) | (apply p_pickF <;> rfl) | fail); (case hd => rfl)) | (apply v_guardB; (case h1 => rfl); (case h2 => rfl); all_goals (intro h; (try simp only [reduceCtorEq, zzz] at h))) | fail)
  all_goals
    (refine v_ret [] (outsA1 rfl rfl) (by repeat (exact List.Sublist.refl _)) ?_
     refine ⟨?_, rfl⟩
     congr 1
     rw [Bool.eq_iff_iff]
     simp [dec_eq]
     try omega)
theorem ansCheck_s {G : GH} (hT : TabsG G) (a : An) (hv : a.val.size ≤ 200) : Con Tryz.prog 199 #[.agg a.cells.toArray] G [] (Just (.int .i64 (ansI a)) G) := by
  have q1 := within_s G a.client 1 8
  have q2 := within_s G a.seq 1 4294967296
  have q3 := within_s G a.err 0 17
  have q4 := within_s G a.rev 0 4294967296
  have qv := val_s (s := a.val) hT (by omega)
  unfold ansI
  apply Con.just
  obtain ⟨client, seq, err, found, val, rev⟩ := a
  simp only at *
  generalize hvb : valB val = vb at *
  (refine v_enter Tryz.func199 rfl Tryz.ntmps199 rfl ?_; intro B _)
  repeat' (first | (apply v_box (zs := An.cells ⟨client, seq, err, found, val, rev⟩); (case hx => rfl); (case hz => rfl); (case hd => rfl); intro b) | apply v_seq | apply v_region | apply v_nil | apply v_skip | apply v_block | apply v_blk | (apply v_take; (case hg => rfl)) | (apply v_pass; (case hg => rfl); (case hn => rfl); (case hd => rfl)) | (apply v_pure; (case hop => first | (apply p_move <;> rfl) | (apply p_assign <;> rfl) | (apply p_pickT <;> rfl) | (apply p_pickF <;> rfl) | (apply p_not <;> rfl) | (apply p_fieldAddrB <;> rfl) | fail); (case hd => rfl)) | (apply v_condT; (case hc => rfl)) | (apply v_cond; (case hc => rfl); all_goals (intro h; (try simp only [reduceCtorEq, zzz] at h))) | (apply v_guardB; (case h1 => rfl); (case h2 => rfl); all_goals (intro h; (try simp only [reduceCtorEq, zzz] at h))) | (apply v_callFJ0 (hs := q1); (case hx => rfl); (case ha => rfl); (case hd => rfl)) | (apply v_callFJ0 (hs := q2); (case hx => rfl); (case ha => rfl); (case hd => rfl)) | (apply v_callFJ0 (hs := q3); (case hx => rfl); (case ha => rfl); (case hd => rfl)) | (apply v_callFJ0 (hs := q4); (case hx => rfl); (case ha => rfl); (case hd => rfl)) | (apply v_callJ (hs := qv); (case ha => rfl); (case hd => rfl)) | (apply v_read; (case hop => (apply r_load1; rfl; (apply Cell.own; (case h => (repeat (exact mhd _))); rfl))); (case hd => rfl)) | fail)
  all_goals
    (refine v_ret [] (outsA1 rfl rfl) (by repeat (exact List.nil_sublist _)) ?_
     refine ⟨?_, rfl⟩
     (repeat' split) <;> first | rfl | (exfalso; omega) | (exfalso; simp_all; done))
def SsOk (x : Ss) : Prop := x.last.client = x.client ∧ x.last.seq = x.seq ∧ ansI x.last = 0
def AdjS (l : List Ss) : Prop := ∀ i (h : i < l.length) (h0 : 0 < i), ksS (l[i - 1]'(by omega)) < ksS l[i]
def SesP (l : List Ss) : Prop := AdjS l ∧ ∀ x ∈ l, SsOk x
noncomputable instance (l : List Ss) : Decidable (SesP l) := Classical.propDecidable _
def SizedS (l : List Ss) : Prop := ∀ x ∈ l, x.last.val.size ≤ 200
theorem adjS_rise {l : List Ss} (h : AdjS l) : RiseG ksS l := by
  intro i j hj hij
  induction j with
  | zero => omega
  | succ j ih =>
    have h1 := h (j + 1) hj (by omega)
    simp only [Nat.add_sub_cancel] at h1
    by_cases e : i = j
    · subst e; exact h1
    · have := ih (by omega) (by omega)
      omega
theorem rise_adjS {l : List Ss} (h : RiseG ksS l) : AdjS l := fun i hi h0 => h (i - 1) i hi (by omega)
set_option maxHeartbeats 1000000 in
theorem sesCheck_s {G : GH} (hT : TabsG G) {l : List Ss} {sv : Value} (hs : Sss G sv l) (hz : SizedS l) : Con Tryz.prog 125 #[sv] G [] (Just (.int .i64 (if SesP l then 0 else 3)) G) := by
  obtain ⟨A, c, rfl, hlc, hcm, hsome, hcp⟩ := rowOpen hs
  simp only [maxLen] at hcm
  apply Con.just
  (refine v_enter Tryz.func125 rfl Tryz.ntmps125 rfl ?_; intro B _)
  repeat' (first | apply v_seq | apply v_region | apply v_nil | apply v_block | (apply v_pure; (case hop => first | (apply p_move <;> rfl) | (apply p_assign <;> rfl) | (apply p_lenSlice <;> rfl) | fail); (case hd => rfl)) | fail)
  refine v_loop [7, 6, 5, 0] (fun us G' μ' => G' = G ∧ μ' = [] ∧ ∃ k : Nat, k ≤ l.length ∧ us = [Value.int .i64 (k : Nat), .int .i64 (l.length : Nat), .slice A l.length c, .slice A l.length c] ∧ ∀ i (h : i < l.length), i < k → (∀ h0 : 0 < i, ksS (l[i - 1]'(by omega)) < ksS l[i]) ∧ SsOk l[i]) (fun us => l.length - (headI us).toNat) rfl ⟨rfl, rfl, 0, by omega, rfl, by omega⟩ ?_
  rintro us G' _ ⟨rfl, rfl, k, hk, rfl, hno⟩
  by_cases hlt : k < l.length
  · have e1 : ((k : Nat) : Int).toNat = k := by omega
    have hA := hsome (by omega)
    have hck := hcp k hlt
    have hz1 := hz _ (List.getElem_mem hlt)
    obtain ⟨pc, hpc, hpe⟩ : ∃ pc : Int, (0 < k → GH.cell? G' (((adr A).add ((((k : Nat) : Int) - 1).toNat * 8)).add 0) = some (.int .i64 pc)) ∧ ∀ h0 : 0 < k, pc = (l[k - 1]'(by omega)).client := by
      by_cases h0 : 0 < k
      · have e2 : (((k : Nat) : Int) - 1).toNat = k - 1 := by omega
        exact ⟨_, fun _ => by rw [e2]; exact (hcp (k - 1) (by omega)).cell (j := 0) rfl, fun _ => rfl⟩
      · exact ⟨0, fun h => absurd h h0, fun h => absurd h h0⟩
    have hin : ∀ P : Prop, SesP l → (((∀ h0 : 0 < k, pc < (l[k]).client) ∧ SsOk l[k]) → P) → P := fun P h hp => hp ⟨fun h0 => by rw [hpe h0]; exact h.1 k hlt h0, h.2 _ (List.getElem_mem hlt)⟩
    have hnx : (∀ h0 : 0 < k, pc < (l[k]).client) → SsOk l[k] → ∀ i (h : i < l.length), i < k + 1 → (∀ h0 : 0 < i, ksS (l[i - 1]'(by omega)) < ksS l[i]) ∧ SsOk l[i] := fun a1 a2 i hi hik => by
      by_cases e : i = k
      · subst e
        exact ⟨fun h0 => by have := a1 h0; rw [hpe h0] at this; exact this, a2⟩
      · exact hno i hi (by omega)
    have qa := ansCheck_s (a := (l[k]).last) hT hz1
    clear hpe
    generalize l[k] = x at *
    obtain ⟨client, seq, ⟨lc, ls, le, lf, lv, lr⟩⟩ := x
    unfold SsOk at hin hnx
    simp only at *
    generalize ansI ⟨lc, ls, le, lf, lv, lr⟩ = ai at *
    repeat' (first | apply v_seq | apply v_region | apply v_nil | apply v_skip | apply v_block | (apply v_pure; (case hop => first | (apply p_move <;> rfl) | (apply p_lt <;> rfl) | (apply p_assign <;> rfl) | (apply p_indexAddrS; (case hx => rfl); (case hi => rfl); (case h0 => omega); (case h => omega); (case hA => assumption)) | fail); (case hd => rfl)) | (apply v_cond; (case hc => rfl); all_goals (intro h; (try simp only [reduceCtorEq, zzz] at h); first | (exfalso; omega) | skip)) | (apply v_read; (case hop => (apply r_loadN; rfl; exact CellsAt.frozen hck; rfl)); (case hd => rfl)) | (apply v_alloc; (case hz => rfl); (case hd => rfl); intro b) | (apply v_store; (case hp => rfl); (case hx => rfl); (case hc => rfl); (case hsz => rfl); (case h1 => rfl); (case hb => (repeat (exact mhd _))); (case hfit => exact nle rfl); (case hov => ((repeat (first | with_reducible exact ov_nil | apply ov_cons)); done)); (case hu => repeat (exact Upd.here _ _))) | fail)
    refine d_start [(b, .cells [.int .i64 client, .int .i64 seq, .int .i64 lc, .int .i64 ls, .int .i64 le, .bool lf, .string lv, .int .i64 lr].toArray 146 (0, 0))] (by kernel_rfl) (by kernel_rfl) (by kernel_rfl) (by intro e he; exact he) ?_
    all_goals (apply dtk 0; (case hi => rfl); (case hop => (apply prd; apply p_move <;> rfl)); (case hq => kernel_rfl))
    all_goals (apply dtk 1; (case hi => rfl); (case hop => (apply prd; apply p_gt <;> rfl)); (case hq => kernel_rfl))
    all_goals (apply dtk 2; (case hi => rfl); (case hop => (apply prd; apply p_move <;> rfl)); (case hq => kernel_rfl))
    all_goals (try (apply d_guardB 3; (case hi => rfl); (case hgd => rfl); (case h1 => rfl); (case h2 => rfl); all_goals (intro h; (try simp only [reduceCtorEq, zzz] at h))))
    all_goals (first | (apply dpa 3; (case hi => rfl); (case hg => rfl); (case hn => rfl); (case hq => kernel_rfl)) | (apply dtg 3; (case hi => rfl); (case hg => rfl); (case hop => (apply prd; apply p_fieldAddrB <;> rfl)); (case hq => kernel_rfl)) | fail)
    all_goals (try (apply d_guardB 4; (case hi => rfl); (case hgd => rfl); (case h1 => rfl); (case h2 => rfl); all_goals (intro h; (try simp only [reduceCtorEq, zzz] at h))))
    all_goals (first | (apply dpa 4; (case hi => rfl); (case hg => rfl); (case hn => rfl); (case hq => kernel_rfl)) | (apply dtg 4; (case hi => rfl); (case hg => rfl); (case hop => (apply r_load1; rfl; (apply Cell.own; (case h => (repeat (exact mhd _))); rfl))); (case hq => kernel_rfl)) | fail)
    all_goals (try (apply d_guardB 5; (case hi => rfl); (case hgd => rfl); (case h1 => rfl); (case h2 => rfl); all_goals (intro h; (try simp only [reduceCtorEq, zzz] at h))))
    all_goals (first | (apply dpa 5; (case hi => rfl); (case hg => rfl); (case hn => rfl); (case hq => kernel_rfl)) | (apply dtg 5; (case hi => rfl); (case hg => rfl); (case hop => (apply prd; apply p_move <;> rfl)); (case hq => kernel_rfl)) | fail)
    all_goals (try (apply d_guardB 6; (case hi => rfl); (case hgd => rfl); (case h1 => rfl); (case h2 => rfl); all_goals (intro h; (try simp only [reduceCtorEq, zzz] at h))))
    all_goals (first | (apply dpa 6; (case hi => rfl); (case hg => rfl); (case hn => rfl); (case hq => kernel_rfl)) | (apply dtg 6; (case hi => rfl); (case hg => rfl); (case hop => (apply prd; apply p_move <;> rfl)); (case hq => kernel_rfl)) | fail)
    all_goals (try (apply d_guardB 7; (case hi => rfl); (case hgd => rfl); (case h1 => rfl); (case h2 => rfl); all_goals (intro h; (try simp only [reduceCtorEq, zzz] at h))))
    all_goals (first | (apply dpa 7; (case hi => rfl); (case hg => rfl); (case hn => rfl); (case hq => kernel_rfl)) | (apply dtg 7; (case hi => rfl); (case hg => rfl); (case hop => (apply prd; apply p_sub; (case hx => rfl); (case hy => rfl); (case h => omega))); (case hq => kernel_rfl)) | fail)
    all_goals (try (apply d_guardB 8; (case hi => rfl); (case hgd => rfl); (case h1 => rfl); (case h2 => rfl); all_goals (intro h; (try simp only [reduceCtorEq, zzz] at h))))
    all_goals (first | (apply dpa 8; (case hi => rfl); (case hg => rfl); (case hn => rfl); (case hq => kernel_rfl)) | (apply dtg 8; (case hi => rfl); (case hg => rfl); (case hop => (apply prd; apply p_indexAddrS; (case hx => rfl); (case hi => rfl); (case h0 => omega); (case h => omega); (case hA => assumption))); (case hq => kernel_rfl)) | fail)
    all_goals (try (apply d_guardB 9; (case hi => rfl); (case hgd => rfl); (case h1 => rfl); (case h2 => rfl); all_goals (intro h; (try simp only [reduceCtorEq, zzz] at h))))
    all_goals (first | (apply dpa 9; (case hi => rfl); (case hg => rfl); (case hn => rfl); (case hq => kernel_rfl)) | (apply dtg 9; (case hi => rfl); (case hg => rfl); (case hop => (apply prd; apply p_fieldAddr <;> rfl)); (case hq => kernel_rfl)) | fail)
    all_goals (try (apply d_guardB 10; (case hi => rfl); (case hgd => rfl); (case h1 => rfl); (case h2 => rfl); all_goals (intro h; (try simp only [reduceCtorEq, zzz] at h))))
    all_goals (first | (apply dpa 10; (case hi => rfl); (case hg => rfl); (case hn => rfl); (case hq => kernel_rfl)) | (apply dtg 10; (case hi => rfl); (case hg => rfl); (case hop => ((apply r_load1; rfl; exact Cell.frozen (hpc (by omega))))); (case hq => kernel_rfl)) | fail)
    all_goals (try (apply d_guardB 11; (case hi => rfl); (case hgd => rfl); (case h1 => rfl); (case h2 => rfl); all_goals (intro h; (try simp only [reduceCtorEq, zzz] at h))))
    all_goals (first | (apply dpa 11; (case hi => rfl); (case hg => rfl); (case hn => rfl); (case hq => kernel_rfl)) | (apply dtg 11; (case hi => rfl); (case hg => rfl); (case hop => (apply prd; apply p_le <;> rfl)); (case hq => kernel_rfl)) | fail)
    all_goals (apply dtk 12; (case hi => rfl); (case hop => first | (apply prd; apply p_pickT <;> rfl) | (apply prd; apply p_pickF <;> rfl) | fail); (case hq => kernel_rfl))
    all_goals (apply d_done; (case hr => kernel_rfl))
    repeat' (first | apply v_seq | apply v_region | apply v_nil | apply v_skip | apply v_blk | (apply v_take; (case hg => rfl)) | (apply v_pass; (case hg => rfl); (case hn => rfl); (case hd => rfl)) | (apply v_pure; (case hop => first | (apply p_move <;> rfl) | (apply p_ne <;> rfl) | (apply p_assign <;> rfl) | (apply p_pickT <;> rfl) | (apply p_pickF <;> rfl) | (apply p_fieldAddrB <;> rfl) | (apply p_add; (case hx => rfl); (case hy => rfl); (case h => omega)) | fail); (case hd => rfl)) | (apply v_condT; (case hc => rfl)) | (apply v_condF; (case hc => rfl)) | (apply v_cond; (case hc => rfl); all_goals (intro h; (try simp only [reduceCtorEq, zzz] at h))) | (apply v_guardB; (case h1 => rfl); (case h2 => rfl); all_goals (intro h; (try simp only [reduceCtorEq, zzz] at h))) | (apply v_callJ (hs := qa); (case ha => rfl); (case hd => rfl)) | (apply v_read; (case hop => first | (apply r_loadNo; (case hx => rfl); (case h => (repeat (exact mhd _))); (case hd => (repeat (first | with_reducible exact dt_nil | apply dt_here))); (case hn => rfl)) | (apply r_load1; rfl; (apply Cell.own; (case h => (repeat (exact mhd _))); rfl)) | fail); (case hd => rfl)) | fail)
    all_goals first
      | (refine v_drop (List.nil_sublist _) ?_
         refine v_again rfl ⟨rfl, rfl, k + 1, by omega, rfl, hnx (fun h0 => by omega) ⟨by omega, by omega, by omega⟩⟩ (by simp [headI]; omega))
      | (refine v_ret [] (outsA1 rfl rfl) (by repeat (exact List.nil_sublist _)) ?_
         refine ⟨?_, rfl⟩
         rw [if_neg]
         intro ho
         refine hin False ho ?_
         rintro ⟨a1, a2, a3, a4⟩
         first
           | omega
           | (have a5 := a1 (by omega); omega))
  · have hone : SesP l := ⟨fun i hi h0 => (hno i hi (by omega)).1 h0, fun x hx => by
      obtain ⟨i, hi, rfl⟩ := List.getElem_of_mem hx
      exact (hno i hi (by omega)).2⟩
    rw [if_pos hone]
    repeat' (first | apply v_seq | apply v_region | apply v_nil | (apply v_exit; (case hp => rfl)) | (apply v_pure; (case hop => first | (apply p_lt <;> rfl) | (apply p_assign <;> rfl) | fail); (case hd => rfl)) | (apply v_cond; (case hc => rfl); all_goals (intro h; (try simp only [reduceCtorEq, zzz] at h); first | (exfalso; omega) | skip)) | fail)
    refine v_ret [] (outsA1 rfl rfl) (by repeat (exact List.Sublist.refl _)) ?_
    exact ⟨rfl, rfl⟩
theorem placeS_s {G : GH} {l : List Ss} {sv : Value} (n : Int) (hs : Sss G sv l) (hr : RiseG ksS l) : Con Tryz.prog 252 #[sv, .int .i64 n] G [] (Just (.tuple [.int .i64 (placeG ksS l n : Nat), .bool (hitG ksS l n)].toArray) G) := by
  have qs := ssSearch_s n hs hr
  apply Con.just
  (refine v_enter Tryz.func252 rfl Tryz.ntmps252 rfl ?_; intro B _)
  repeat' (first | apply v_seq | apply v_region | apply v_nil | (apply v_pure; (case hop => first | (apply p_move <;> rfl) | (apply p_assign <;> rfl) | (apply p_extract0 <;> rfl) | (apply p_extract1 <;> rfl) | fail); (case hd => rfl)) | (apply v_callJ (hs := qs); (case ha => rfl); (case hd => rfl)) | fail)
  refine v_ret [] (outsA2 rfl rfl rfl) (by repeat (exact List.Sublist.refl _)) ?_
  exact ⟨rfl, rfl⟩
def zA : An := ⟨0, 0, 0, false, ByteArray.empty, 0⟩
def zSs : Ss := ⟨0, 0, zA⟩
def sesAt (l : List Ss) (n : Int) : Ss := if h : hitG ksS l n = true then l[placeG ksS l n]'(hitG_lt h) else zSs
def whichS (l : List Ss) (n seq : Int) : Int × An := if hitG ksS l n = false then (0, zA) else if (sesAt l n).seq < seq then (0, zA) else if seq = (sesAt l n).seq then (1, (sesAt l n).last) else (2, zA)
theorem which_s {G : GH} {l : List Ss} {sv : Value} (n seq : Int) (hs : Sss G sv l) (hr : RiseG ksS l) : Con Tryz.prog 206 #[sv, .int .i64 n, .int .i64 seq] G [] (Just (.tuple [.int .i64 (whichS l n seq).1, .agg (whichS l n seq).2.cells.toArray].toArray) G) := by
  have qs := placeS_s n hs hr
  obtain ⟨A, c, rfl, hlc, hcm, hsome, hcp⟩ := rowOpen hs
  simp only [maxLen] at hcm
  apply Con.just
  unfold whichS
  cases hh : hitG ksS l n with
  | false =>
    rw [hh] at qs
    rw [if_pos rfl]
    (refine v_enter Tryz.func206 rfl Tryz.ntmps206 rfl ?_; intro B _)
    repeat' (first | (apply v_alloc (d := 7); (case hz => rfl); (case hd => rfl); intro b7) | apply v_seq | apply v_region | apply v_nil | apply v_block | (apply v_pass; (case hg => rfl); (case hn => rfl); (case hd => rfl)) | (apply v_pure; (case hop => first | (apply p_move <;> rfl) | (apply p_assign <;> rfl) | (apply p_pickT <;> rfl) | (apply p_not <;> rfl) | (apply p_extract0 <;> rfl) | (apply p_extract1 <;> rfl) | (apply p_build; (case hz => rfl); (case hv => (simp only [List.map_cons, List.map_nil]; repeat (with_reducible exact evs_nil))); (case hb => (apply bldL; repeat (exact bld_nil)))) | fail); (case hd => rfl)) | (apply v_condT; (case hc => rfl)) | (apply v_callJ (hs := qs); (case ha => rfl); (case hd => rfl)) | (apply v_store; (case hp => rfl); (case hx => rfl); (case hc => rfl); (case hsz => rfl); (case h1 => rfl); (case hb => (repeat (exact mhd _))); (case hfit => exact nle rfl); (case hov => ((repeat (first | with_reducible exact ov_nil | apply ov_cons)); done)); (case hu => repeat (exact Upd.here _ _))) | fail)
    refine v_retM [] (outsM_tc (sz1 := 6) (vs1 := zA.cells) (e1 := 40) rfl rfl rfl (by repeat (exact mhd _)) rfl) (List.nil_sublist _) ⟨rfl, rfl⟩
  | true =>
    have hlt := hitG_lt hh
    have ef : sesAt l n = l[placeG ksS l n]'hlt := by unfold sesAt; rw [dif_pos hh]
    rw [hh] at qs
    rw [ef, if_neg (by simp)]
    have hck := hcp _ hlt
    have hA := hsome (by omega)
    clear ef
    generalize l[placeG ksS l n] = x at *
    generalize placeG ksS l n = i at *
    have e1 : ((i : Nat) : Int).toNat = i := by omega
    obtain ⟨xc, xs, ⟨lc, ls, le, lf, lv, lr⟩⟩ := x
    have hc1 := hck.cell (j := 1) rfl
    have hl : CellsG G (((adr A).add (i * 8)).add 2) (An.cells ⟨lc, ls, le, lf, lv, lr⟩) := fun j v hv => by
      rw [add_add]
      refine hck (2 + j) v ?_
      rw [Nat.add_comm]
      exact hv
    simp only at *
    (refine v_enter Tryz.func206 rfl Tryz.ntmps206 rfl ?_; intro B _)
    repeat' (first | (apply v_alloc (d := 7); (case hz => rfl); (case hd => rfl); intro b7) | apply v_seq | apply v_region | apply v_nil | apply v_skip | apply v_block | apply v_blk | (apply v_take; (case hg => rfl)) | (apply v_pure; (case hop => first | (apply p_move <;> rfl) | (apply p_eq <;> rfl) | (apply p_gt <;> rfl) | (apply p_assign <;> rfl) | (apply p_pickF <;> rfl) | (apply p_not <;> rfl) | (apply p_fieldAddr <;> rfl) | (apply p_extract0 <;> rfl) | (apply p_extract1 <;> rfl) | (apply p_indexAddrS; (case hx => rfl); (case hi => rfl); (case h0 => omega); (case h => omega); (case hA => assumption)) | (apply p_build; (case hz => rfl); (case hv => (simp only [List.map_cons, List.map_nil]; repeat (with_reducible exact evs_nil))); (case hb => (apply bldL; repeat (exact bld_nil)))) | fail); (case hd => rfl)) | (apply v_cond; (case hc => rfl); all_goals (intro h; (try simp only [reduceCtorEq, zzz] at h))) | (apply v_callJ (hs := qs); (case ha => rfl); (case hd => rfl)) | (apply v_read; (case hop => (apply r_load1; rfl; exact Cell.frozen hc1)); (case hd => rfl)) | (apply v_store; (case hp => rfl); (case hx => rfl); (case hc => rfl); (case hsz => rfl); (case h1 => rfl); (case hb => (repeat (exact mhd _))); (case hfit => exact nle rfl); (case hov => ((repeat (first | with_reducible exact ov_nil | apply ov_cons)); done)); (case hu => repeat (exact Upd.here _ _))) | fail)
    · rw [if_pos (by assumption)]
      refine v_retM [] (outsM_tc (sz1 := 6) (vs1 := zA.cells) (e1 := 40) rfl rfl rfl (by repeat (exact mhd _)) rfl) (List.nil_sublist _) ⟨rfl, rfl⟩
    · rw [if_neg (by assumption), if_pos (by assumption)]
      refine d_start [] (by kernel_rfl) (by kernel_rfl) (by kernel_rfl) (by intro e he; (simp at he ⊢; try omega)) ?_
      all_goals (apply dtk 0; (case hi => rfl); (case hop => (apply prd; apply p_move <;> rfl)); (case hq => kernel_rfl))
      all_goals (apply dtk 1; (case hi => rfl); (case hop => (apply prd; apply p_move <;> rfl)); (case hq => kernel_rfl))
      all_goals (apply dtk 2; (case hi => rfl); (case hop => (apply prd; apply p_indexAddrS; (case hx => rfl); (case hi => rfl); (case h0 => omega); (case h => omega); (case hA => assumption))); (case hq => kernel_rfl))
      all_goals (apply dtk 3; (case hi => rfl); (case hop => (apply prd; apply p_fieldAddr <;> rfl)); (case hq => kernel_rfl))
      all_goals (apply dtk 4; (case hi => rfl); (case hop => ((apply r_loadN; rfl; exact CellsAt.frozen hl; rfl))); (case hq => kernel_rfl))
      all_goals (apply dtk 5; (case hi => rfl); (case hop => (apply prd; apply p_assign <;> rfl)); (case hq => kernel_rfl))
      all_goals (apply d_store 6; (case hi => rfl); (case hr => kernel_rfl); (case hL => infer_instance); (case hp => rfl); (case hx => rfl); (case hc => rfl); (case hsz => rfl); (case h1 => rfl); (case hb => (repeat (exact mhd _))); (case hfit => exact nle rfl); (case hov => ((repeat (first | with_reducible exact ov_nil | apply ov_cons)); done)); (case hu => repeat (exact Upd.here _ _)); (case hν' => intro e he; (cases he; done)))
      all_goals (apply d_done; (case hr => kernel_rfl))
      repeat' (fail)
      refine v_retM [] (outsM_tc (sz1 := 6) (vs1 := An.cells ⟨lc, ls, le, lf, lv, lr⟩) (e1 := 40) rfl rfl rfl (by repeat (exact mhd _)) rfl) (List.nil_sublist _) ⟨rfl, rfl⟩
    · rw [if_neg (by assumption), if_neg (by assumption)]
      refine v_retM [] (outsM_tc (sz1 := 6) (vs1 := zA.cells) (e1 := 40) rfl rfl rfl (by repeat (exact mhd _)) rfl) (List.nil_sublist _) ⟨rfl, rfl⟩
def sesOf (a : An) : Ss := ⟨a.client, a.seq, a⟩
theorem withS_s {G : GH} {l : List Ss} {sv : Value} (a : An) (hs : Sss G sv l) (hr : RiseW ksS l) (hn : l.length ≤ 200) : Con Tryz.prog 209 #[sv, .agg a.cells.toArray] G [] (fun r G' μ' => G' = G ∧ GrS r (withG ksS l (sesOf a)) μ') := by
  have hrg := riseG_pw.2 hr
  have qp := placeS_s a.client hs hrg
  have qc := ssClone_s hs hn
  have hpl := placeG_le ksS l a.client
  have hw := ins_with hr (sesOf a)
  have ek : ksS (sesOf a) = a.client := rfl
  rw [ek] at hw
  rw [← hw]
  clear hw ek
  cases hh : hitG ksS l a.client with
  | true =>
    have hlt := hitG_lt hh
    rw [if_pos rfl]
    rw [hh] at qp
    have hov := fun sp => rowC_set Ss.len l _ hlt (sesOf a) sp
    generalize placeG ksS l a.client = i at *
    have hlen := rowC_length Ss.len l
    (refine v_enter Tryz.func209 rfl Tryz.ntmps209 rfl ?_; intro B _)
    repeat' (first | (apply v_box (zs := a.cells); (case hx => rfl); (case hz => rfl); (case hd => rfl); intro ba) | (apply v_alloc (d := 5); (case hz => rfl); (case hd => rfl); intro b5) | apply v_seq | apply v_region | apply v_nil | (apply v_pure; (case hop => first | (apply p_move <;> rfl) | (apply p_assign <;> rfl) | (apply p_fieldAddrB <;> rfl) | (apply p_extract0 <;> rfl) | (apply p_extract1 <;> rfl) | (apply p_build; (case hz => rfl); (case hv => (simp only [List.map_cons, List.map_nil]; repeat (first | with_reducible exact evs_nil | (apply evs_cons; (case h1 => rfl))))); (case hb => (apply bldL; repeat (first | exact bld_nil | (apply bld_cons; (case hpf => rfl); (case hc => rfl); (case hs => rfl); (case hl => rfl); (case ho => ((repeat (first | with_reducible exact ov_nil | apply ov_cons)); done)))))))); (case hd => rfl)) | (apply v_callJ (hs := qp); (case ha => rfl); (case hd => rfl)) | (apply v_read; (case hop => first | (apply r_loadNo; (case hx => rfl); (case h => (repeat (exact mhd _))); (case hd => (repeat (first | with_reducible exact dt_nil | apply dt_here))); (case hn => rfl)) | (apply r_load1; rfl; (apply Cell.own; (case h => (repeat (first | exact mhd _ | apply mtl))); rfl)) | fail); (case hd => rfl)) | (apply v_store; (case hp => rfl); (case hx => rfl); (case hc => rfl); (case hsz => rfl); (case h1 => rfl); (case hb => (repeat (exact mhd _))); (case hfit => exact nle rfl); (case hov => ((repeat (first | with_reducible exact ov_nil | apply ov_cons)); done)); (case hu => repeat (exact Upd.here _ _))) | fail)
    refine v_call (μ1 := []) (μ2 := _) rfl qc (List.Perm.refl _) rfl ?_
    rintro v1 G1 ν1 - ⟨hG1, hg⟩
    subst hG1
    obtain ⟨hxl, ⟨rfl, h0, rfl⟩ | ⟨b, cap, spare, rfl, rfl, hc1, hc2, hc3⟩⟩ := hg
    · omega
    have hov := hov spare
    repeat' (first | (apply v_pure; (case hop => apply p_idxOwn2; (case hx => rfl); (case hi => rfl); (case h => omega)); (case hd => rfl)) | apply v_seq | apply v_region | apply v_nil | (apply v_pure; (case hop => first | (apply p_move <;> rfl) | (apply p_assign <;> rfl) | fail); (case hd => rfl)) | (apply v_condT; (case hc => rfl)) | (apply v_store (us := (sesOf a).cells); (case hp => rfl); (case hx => rfl); (case hc => rfl); (case hsz => rfl); (case h1 => rfl); (case hb => (repeat (exact mhd _))); (case hfit => rw [List.length_append, hlen, Ss.len]; omega); (case hov => exact hov); (case hu => (repeat (exact Upd.here _ _)))) | (apply v_read; (case hop => (apply r_loadNo; (case hx => rfl); (case h => (repeat (first | exact mhd _ | apply mtl))); (case hd => (repeat (first | with_reducible exact dt_nil | apply dt_here))); (case hn => rfl))); (case hd => rfl)) | fail)
    refine v_ret [(b, _)] (outsA1 rfl rfl) (by repeat (first | exact List.nil_sublist _ | apply List.Sublist.cons_cons)) ⟨rfl, ?_⟩
    have hsl : (l.set i (sesOf a)).length = l.length := List.length_set ..
    unfold GrS
    simp only [hsl]
    exact ⟨by rw [rowC_length Ss.len, hsl], .inr ⟨b, cap, spare, rfl, rfl, hc1, hc2, by rw [List.length_append, rowC_length Ss.len, hsl]; rw [List.length_append, hlen] at hc3; exact hc3⟩⟩
  | false =>
    rw [hh] at qp
    rw [if_neg (by simp)]
    have hq := fun (v : Value) (ν : OH) (hg : GrS v l ν) b2 => ssInsert_s (G := G) (sesOf a) b2 (placeG ksS l a.client) hg hpl hn
    have hil : (l.take (placeG ksS l a.client) ++ sesOf a :: l.drop (placeG ksS l a.client)).length = l.length + 1 := by
      rw [List.length_append, List.length_cons, List.length_take, List.length_drop]; omega
    generalize placeG ksS l a.client = i at *
    (refine v_enter Tryz.func209 rfl Tryz.ntmps209 rfl ?_; intro B _)
    repeat' (first | (apply v_box (zs := a.cells); (case hx => rfl); (case hz => rfl); (case hd => rfl); intro ba) | (apply v_alloc (d := 5); (case hz => rfl); (case hd => rfl); intro b5) | apply v_seq | apply v_region | apply v_nil | (apply v_pure; (case hop => first | (apply p_move <;> rfl) | (apply p_assign <;> rfl) | (apply p_fieldAddrB <;> rfl) | (apply p_extract0 <;> rfl) | (apply p_extract1 <;> rfl) | (apply p_build; (case hz => rfl); (case hv => (simp only [List.map_cons, List.map_nil]; repeat (first | with_reducible exact evs_nil | (apply evs_cons; (case h1 => rfl))))); (case hb => (apply bldL; repeat (first | exact bld_nil | (apply bld_cons; (case hpf => rfl); (case hc => rfl); (case hs => rfl); (case hl => rfl); (case ho => ((repeat (first | with_reducible exact ov_nil | apply ov_cons)); done)))))))); (case hd => rfl)) | (apply v_callJ (hs := qp); (case ha => rfl); (case hd => rfl)) | (apply v_read; (case hop => first | (apply r_loadNo; (case hx => rfl); (case h => (repeat (exact mhd _))); (case hd => (repeat (first | with_reducible exact dt_nil | apply dt_here))); (case hn => rfl)) | (apply r_load1; rfl; (apply Cell.own; (case h => (repeat (first | exact mhd _ | apply mtl))); rfl)) | fail); (case hd => rfl)) | (apply v_store; (case hp => rfl); (case hx => rfl); (case hc => rfl); (case hsz => rfl); (case h1 => rfl); (case hb => (repeat (exact mhd _))); (case hfit => exact nle rfl); (case hov => ((repeat (first | with_reducible exact ov_nil | apply ov_cons)); done)); (case hu => repeat (exact Upd.here _ _))) | fail)
    refine v_call (μ1 := []) (μ2 := _) rfl qc (List.Perm.refl _) rfl ?_
    rintro v1 G1 ν1 - ⟨hG1, hg⟩
    subst hG1
    repeat' (first | apply v_seq | apply v_region | apply v_nil | apply v_skip | (apply v_pure; (case hop => first | (apply p_move <;> rfl) | (apply p_assign <;> rfl) | fail); (case hd => rfl)) | (apply v_condF; (case hc => rfl)) | (apply v_read; (case hop => (apply r_loadNo; (case hx => rfl); (case h => (repeat (first | exact mhd _ | apply List.mem_append_right))); (case hd => (repeat (first | with_reducible exact dt_nil | apply dt_here))); (case hn => rfl))); (case hd => rfl)) | (apply v_buildSlice; (case hz => rfl); (case hi => rfl); (case hv => (simp only [List.map_cons, List.map_nil]; repeat (first | with_reducible exact evs_nil | (apply evs_cons; (case h1 => rfl))))); (case hp => (apply pk_cons; (case hc => rfl); (case hs => rfl); (case h => (with_reducible exact pk_nil)); (case he => ((repeat (first | with_reducible exact ap_nil | apply ap_cons)); done)))); (case hb => rfl); (case hd => rfl); intro b) | fail)
    refine v_call (μ1 := ν1 ++ [(b, .cells (sesOf a).cells.toArray 146 (0, 0))]) (μ2 := [(b5, .cells (sesOf a).cells.toArray 146 (0, 0)), (ba, .cells a.cells.toArray 40 (0, 0))]) rfl (hq v1 ν1 hg b) ?_ rfl ?_
    · exact (by apply perm_of_count; intro p; simp only [List.append_eq, List.countP_append, List.countP_cons, List.countP_nil, Nat.zero_add, Nat.add_zero]; try ac_rfl)
    rintro v' G2 ν2 - ⟨hG2, hg2⟩
    subst hG2
    repeat' (first | apply v_nil | (apply v_pure; (case hop => (apply p_assign <;> rfl)); (case hd => rfl)) | fail)
    refine v_ret ν2 (outsA1 rfl rfl) (List.sublist_append_left _ _) ⟨rfl, ?_⟩
    unfold GrS
    rw [hil]
    exact hg2
theorem vMay_s (v : Int) (G : GH) : Con Tryz.prog 231 #[.int .i64 v] G [] (Just (.bool (decide (v = 1 ∨ v = 2))) G) := by
  (refine v_enter Tryz.func231 rfl Tryz.ntmps231 rfl ?_; intro B _)
  repeat' (first | apply v_seq | apply v_region | apply v_nil | apply v_skip | apply v_block | apply v_blk | (apply v_exit; (case hp => rfl)) | (apply v_pure; (case hop => first | (apply p_move <;> rfl) | (apply p_eq <;> rfl) | (apply p_assign <;> rfl) | fail); (case hd => rfl)) | (apply v_cond; (case hc => rfl); all_goals (intro h; (try simp only [reduceCtorEq, zzz] at h))) | fail)
  all_goals (refine v_ret [] (outsA1 rfl rfl) (List.nil_sublist _) ?_; refine ⟨?_, rfl, rfl⟩)
  all_goals (congr 1; (try simp only [dec_eq]); (rw [Bool.eq_iff_iff]; simp only [decide_eq_true_eq, Bool.not_eq_true', decide_eq_false_iff_not, Bool.and_eq_true, Bool.or_eq_true, reduceCtorEq, true_iff, false_iff]; omega))
abbrev HasP (v k : Int) : Prop := (v = 1 ∨ v = 2) ∧ 1 ≤ k ∧ k ≤ 8 ∧ (k = 5 → v = 2)
theorem vHas_s (v k : Int) (G : GH) : Con Tryz.prog 208 #[.int .i64 v, .int .i64 k] G [] (Just (.bool (decide (HasP v k))) G) := by
  (refine v_enter Tryz.func208 rfl Tryz.ntmps208 rfl ?_; intro B _)
  repeat' (first | apply v_seq | apply v_region | apply v_nil | apply v_skip | apply v_block | apply v_blk | (apply v_pure; (case hop => first | (apply p_move <;> rfl) | (apply p_eq <;> rfl) | (apply p_ge <;> rfl) | (apply p_assign <;> rfl) | (apply p_not <;> rfl) | fail); (case hd => rfl)) | (apply v_cond; (case hc => rfl); all_goals (intro h; (try simp only [reduceCtorEq, zzz] at h); first | (exfalso; omega) | skip)) | (apply v_callJ (hs := vMay_s _ _); (case ha => rfl); (case hd => rfl)) | fail)
  all_goals (refine v_ret [] (outsA1 rfl rfl) (List.nil_sublist _) ?_; refine ⟨?_, rfl, rfl⟩)
  all_goals (congr 1; (try simp only [dec_eq]); (rw [Bool.eq_iff_iff]; simp only [decide_eq_true_eq, Bool.not_eq_true', decide_eq_false_iff_not, Bool.and_eq_true, Bool.or_eq_true, reduceCtorEq, true_iff, false_iff]; omega))
end Go.Proofs.YtmdeeokejdkceaaGreatDoor
