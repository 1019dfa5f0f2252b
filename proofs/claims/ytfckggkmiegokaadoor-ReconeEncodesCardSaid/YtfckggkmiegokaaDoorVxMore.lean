/-
  VX, MORE: slice expressions with three indexes; append behind a slice that has no room left.
-/
import Derived.Test.YtfckggkmiegokaaDoorVxSlice
set_option linter.unusedVariables false
set_option linter.unusedSimpArgs false
namespace Go.Vx
open Go
attribute [local semireducible] Vc Con PureOp ReadOp MoveOp
/-! ### What closes a premise with a plain value -/
section
variable {σ : Env}
theorem evs_nil : Env.evs σ [] = some [] := rfl
theorem evs_cons {x : Operand} {xs : List Operand} {v : Value} {vs : List Value} (h1 : Env.ev σ x = some v) (h2 : Env.evs σ xs = some vs) : Env.evs σ (x :: xs) = some (v :: vs) := by simp [Env.evs, h1, h2]
theorem gets_nil : Env.gets σ [] = some [] := rfl
theorem gets_cons {t : Nat} {ts : List Nat} {v : Value} {vs : List Value} (h1 : Env.get σ t = some v) (h2 : Env.gets σ ts = some vs) : Env.gets σ (t :: ts) = some (v :: vs) := by simp [Env.gets, h1, h2]
theorem ap_nil {rs : List Value} : [] ++ rs = rs := rfl
theorem ap_cons {u : Value} {us rs r : List Value} (h : us ++ rs = r) : (u :: us) ++ rs = u :: r := by rw [← h]; rfl
theorem ov_nil {l : List Value} : over l 0 [] = l := by simp [over]
theorem ov_cons {a u : Value} {l us l' : List Value} (h : over l 0 us = l') : over (a :: l) 0 (u :: us) = u :: l' := by
  subst h; simp [over, Nat.add_comm]
theorem ov_there {a : Value} {l us l' : List Value} {i : Nat} (h : over l i us = l') : over (a :: l) (i + 1) us = a :: l' := by
  subst h; simp [over, Nat.add_right_comm]
theorem dt_nil {l : List Value} : (l.drop 0).take 0 = [] := by simp
theorem dt_here {a : Value} {l us : List Value} {m : Nat} (h : (l.drop 0).take m = us) : ((a :: l).drop 0).take (m + 1) = a :: us := by subst h; simp
theorem dt_drop {a : Value} {l us : List Value} {i m : Nat} (h : (l.drop i).take m = us) : ((a :: l).drop (i + 1)).take m = us := by subst h; simp
theorem pk_nil {sz : Nat} : packL sz [] = some [] := rfl
theorem pk_cons {sz : Nat} {v : Value} {vs us rs r : List Value} (hc : v.cells = us.toArray) (hs : Nat.beq us.length sz = true) (h : packL sz vs = some rs) (he : us ++ rs = r) : packL sz (v :: vs) = some r := by
  subst he
  have h1 : Nat.beq v.cells.size sz = true := by rw [hc]; simpa using hs
  simp [packL, h, hc, hs]
theorem bld_nil {pf : Nat → Option (Nat × Nat)} {cs : List Value} : buildF pf cs [] = some cs := rfl
theorem bld_cons {pf : Nat → Option (Nat × Nat)} {cs cs' r us : List Value} {i off size : Nat} {v : Value} {rest : List (Nat × Value)} (hpf : pf i = some (off, size)) (hc : v.cells = us.toArray) (hs : Nat.beq us.length size = true) (hl : Nat.ble (off + size) cs.length = true) (ho : over cs off us = cs') (h : buildF pf cs' rest = some r) : buildF pf cs ((i, v) :: rest) = some r := by
  subst ho
  have h1 : Nat.beq v.cells.size size = true := by rw [hc]; simpa using hs
  have h2 : v.cells.toList = us := by rw [hc]
  have h3 : (Nat.beq v.cells.size size && Nat.ble (off + size) cs.length) = true := by rw [h1, hl]; rfl
  have h4 : buildF pf cs ((i, v) :: rest) = bif (Nat.beq v.cells.size size && Nat.ble (off + size) cs.length) then buildF pf (over cs off v.cells.toList) rest else none := by
    rw [buildF]; simp only [hpf]
  rw [h4, h3, h2]
  exact h
theorem bldL {pl : List (Nat × Nat)} {cs r : List Value} {ps : List (Nat × Value)} (h : buildF (fun i => pl[i]?) cs ps = some r) : buildL pl cs ps = some r := h
end
section
variable {P : Program} {fn : Func} {n : Nat} {B : Base} {Φ : Value → GH → OH → Prop} {k : List It} {σ : Env} {G : GH} {μ : OH} {all : Array Oper} {rest : List Oper} {d : Nat} {ty : TypeId} {pos : String} {af : Array Edge} {t : TypeId} {bytes : Nat} {zero : Value}
theorem p_extract0 {x : Operand} {v : Value} {vs : List Value} (hx : Env.ev σ x = some (.tuple (v :: vs).toArray)) : PureOp P (.extract x 0) ty σ v := p_extract hx (by simp)
theorem p_extract1 {x : Operand} {v u : Value} {vs : List Value} (hx : Env.ev σ x = some (.tuple (u :: v :: vs).toArray)) : PureOp P (.extract x 1) ty σ v := p_extract hx (by simp)
theorem p_extract2 {x : Operand} {v u w : Value} {vs : List Value} (hx : Env.ev σ x = some (.tuple (u :: w :: v :: vs).toArray)) : PureOp P (.extract x 2) ty σ v := p_extract hx (by simp)
theorem p_fieldNs {s : TypeId} {x : Operand} {vs us : List Value} {i off sz : Nat} {ft : TypeId} [h : Fld P s i off ft] [Lay P ft true sz bytes zero] (hx : Env.ev σ x = some (.agg vs.toArray)) (hu : (vs.drop off).take sz = us) : PureOp P (.field s x i) ty σ (.agg us.toArray) := by
  subst hu; exact p_fieldN hx
/-- A part of a block of ours. -/
theorem r_loadNo {x : Operand} {b i : Nat} {vs us : List Value} {e : TypeId} {sz : Nat} [Lay P t true sz bytes zero] (hx : Env.ev σ x = some (.pointer (some ⟨b, i, none⟩))) (h : Has μ b vs e) (hd : (vs.drop i).take sz = us) (hn : us.length = sz) : ReadOp P (.load t x) ty σ G μ (.agg us.toArray) := by
  subst hd
  exact r_loadN hx (CellsAt.ownAt h) hn
theorem p_slice3 {e : TypeId} {agg : Bool} {sz : Nat} {x hi mx : Operand} {A : Option Addr} {m c : Nat} {k k' : IntKind} {h q : Int} [Ty P t (.slice e)] [Lay P e agg sz bytes zero] (hx : Env.ev σ x = some (.slice A m c)) (hh : Env.ev σ hi = some (.int k h)) (hq : Env.ev σ mx = some (.int k' q))
    (h0 : 0 ≤ h) (h1 : h ≤ q) (h2 : q ≤ c) : PureOp P (.slice t x none (some hi) (some mx)) ty σ (.slice A h.toNat q.toNat) := by
  intro dst pos af g ρ hρ w
  obtain ⟨h', rfl⟩ := Int.eq_ofNat_of_zero_le h0
  obtain ⟨q', rfl⟩ := Int.eq_ofNat_of_zero_le (Int.le_trans h0 h1)
  have e1 : (if q' = 0 then A else A.map (·.add (0 * sz))) = A := by
    split
    · rfl
    · cases A <;> simp [Addr.add]
  have a1 : h' ≤ q' := by omega
  have a2 : q' ≤ c := by omega
  simp only [Nat.zero_mul] at e1
  simp [execOp, hρ _ _ hx, hρ _ _ hh, hρ _ _ hq, Instr.sliceAt, Instr.slice, Instr.sliceBounds, Instr.sliceBound, asIntOf, run_under (P := P) (t := t) (d := .slice e), run_sizeOf (P := P) (t := e) (agg := agg) (size := sz) (bytes := bytes) (zero := zero), a1, a2, e1]
theorem m_appendFull {e : TypeId} {agg : Bool} {sz : Nat} {s x : Operand} {A : Option Addr} {u : Value} {m m' : Nat} {xs us : List Value} [Ty P t (.slice e)] [Lay P e agg sz bytes zero] (hzs : zero.cells.size = sz) (hs : Env.ev σ s = some (.slice A m m)) (hx : Env.ev σ x = some u)
    (hsS : Src G μ (.slice A m m) m sz xs) (hsrc : Src G μ u m' sz us) (hm : 0 < m) (h0 : 0 < m') (hb : (m + m') * bytes ≤ 140737488355328) (hb' : m + m' ≤ maxLen) :
    MoveOp P (.call { callee := .builtin .append, args := #[s, x], argTypes := #[t, t] }) ty σ G μ (fun v' G' μ' => ∃ ν', Grow e sz v' (m + m') (xs ++ us) ν' ∧ G' = G ∧ μ' = ν' ++ μ) := by
  intro dst pos af g ρ hρ w hw a K Q hK
  obtain ⟨i, hi, hi1, hi2, hi3⟩ := Lay.infoEx (P := P) (t := e) (agg := agg) (size := sz) (bytes := bytes) (zero := zero) inferInstance
  have ht : P.underlying t = some (.slice e) := Ty.h
  obtain ⟨hus, A', c, rfl, hA⟩ := hsrc
  obtain ⟨hxs, A0, c0, he, hA0⟩ := hsS
  injection he with e1 _ e2
  subst e1; subst e2
  obtain ⟨ad, rfl, hcs⟩ := hA h0
  obtain ⟨a0, rfl, hcs0⟩ := hA0 hm
  have hex : ∀ (r : Result Value), (Builtin.append_ #[t, t] ty #[.slice (some a0) m m, .slice (some ad) m' c]).run P w = r → (execOp ρ ⟨dst, .call { callee := .builtin .append, args := #[s, x], argTypes := #[t, t] }, ty, pos, af, g⟩).run P w = r.andThen fun v w' => .ok (.value v) w' := by
    intro r hr
    subst hr
    simp only [execOp, resolve, invoke, builtin, Sem.run_bind, Sem.run_pure, Result.andThen_ok, List.map_toArray, List.map_cons, List.map_nil, hρ _ _ hs, hρ _ _ hx]
  have hnews : ∀ j u, us[j]? = some u → w.cell? (ad.add j) = some u := fun j u hu => hcs j u hu w hw.sees
  have holds : ∀ j u, xs[j]? = some u → w.cell? (a0.add j) = some u := fun j u hu => hcs0 j u hu w hw.sees
  have hr := run_append_grow (P := P) w t ty e i zero ht hi hi3 a0 m m xs (by rw [hxs, hi1]) holds ad m' c us (by rw [hus, hi1]) hnews (by omega) (by simp only [maxLen] at hb'; omega) (growslice_fits (by omega) (by rw [hi2]; exact hb))
  rw [hex _ hr]
  have hge := grownCap_ge w (m + m') m e
  have hst := (Step.drew hw 1).trans (Step.alloc (Step.drew hw 1).mem (.cells (xs.toArray ++ us.toArray ++ Builtin.zeroCells zero.cells (grownCap w (m + m') m e - (m + m'))) e (0, 0)))
  refine hK _ _ G _ hst ⟨[(w.heap.size, .cells (xs ++ us ++ (Builtin.zeroCells zero.cells (grownCap w (m + m') m e - (m + m'))).toList).toArray e (0, 0))], ⟨by rw [List.length_append, hxs, hus, Nat.add_mul], .inr ⟨_, _, _, rfl, rfl, hge, grownCap_le_maxLen w (m + m') m e hb', ?_⟩⟩, rfl, ?_⟩
  · simp only [List.length_append, hxs, hus, Array.length_toList, size_zeroCells, hzs, ← Nat.add_mul]
    congr 1
    omega
  · simp [World.drewN]
theorem v_appendFull {e : TypeId} {agg : Bool} {sz : Nat} {s x : Operand} {A : Option Addr} {u : Value} {m m' : Nat} {xs us : List Value} [Ty P t (.slice e)] [Lay P e agg sz bytes zero] (hzs : zero.cells.size = sz) (hs : Env.ev σ s = some (.slice A m m)) (hx : Env.ev σ x = some u)
    (hsS : Src G μ (.slice A m m) m sz xs) (hsrc : Src G μ u m' sz us) (hm : 0 < m) (h0 : 0 < m') (hb : (m + m') * bytes ≤ 140737488355328) (hb' : m + m' ≤ maxLen) (hd : Nat.blt d n = true)
    (h : ∀ v' ν', Grow e sz v' (m + m') (xs ++ us) ν' → Vc P fn n B Φ (.ops all rest :: k) ((d, v') :: σ) G (ν' ++ μ)) : Vc P fn n B Φ (.ops all (⟨some d, .call { callee := .builtin .append, args := #[s, x], argTypes := #[t, t] }, ty, pos, af, none⟩ :: rest) :: k) σ G μ :=
  v_move (m_appendFull hzs hs hx hsS hsrc hm h0 hb hb') hd fun _ _ _ ⟨ν', h1, h2, h3⟩ => by rw [h2, h3]; exact h _ ν' h1
theorem perm_of_count {μ ν : OH} (h : ∀ p : Nat × Obj → Bool, μ.countP p = ν.countP p) : μ.Perm ν := by
  haveI : DecidableEq (Nat × Obj) := fun a b => Classical.propDecidable (a = b)
  rw [List.perm_iff_count]
  intro x
  exact h _
/-- Some blocks of ours are frozen, some are forgotten. -/
theorem v_freezeP (ν μ' r : OH) (hp : μ.Perm (ν ++ (μ' ++ r))) (h : ∀ G', GH.le G G' → (∀ b o, (b, o) ∈ ν → G' b = some o) → Vc P fn n B Φ k σ G' μ') : Vc P fn n B Φ k σ G μ :=
  v_perm hp (v_freeze fun G' hle hG => v_drop (List.sublist_append_left _ _) (h G' hle hG))
/-- Some blocks of ours are forgotten. -/
theorem v_dropP (μ' r : OH) (hp : μ.Perm (μ' ++ r)) (h : Vc P fn n B Φ k σ G μ') : Vc P fn n B Φ k σ G μ := v_perm hp (v_drop (List.sublist_append_left _ _) h)
/-- Some blocks of ours, out of the list. -/
inductive PickA (ν : OH) : OH → OH → Prop
  | last : PickA ν ν []
  | here (ρ : OH) : PickA ν (ν ++ ρ) ρ
  | cons (e : Nat × Obj) {μ r : OH} (h : PickA ν μ r) : PickA ν (e :: μ) (e :: r)
  | app (κ : OH) {μ r : OH} (h : PickA ν μ r) : PickA ν (κ ++ μ) (κ ++ r)
theorem PickA.one {e : Nat × Obj} (ρ : OH) : PickA [e] (e :: ρ) ρ := PickA.here ρ
theorem PickA.none (μ : OH) : PickA [] μ μ := PickA.here (ν := []) μ
theorem PickA.perm {ν μ r : OH} (h : PickA ν μ r) : μ.Perm (ν ++ r) := by
  induction h with
  | last => simp
  | here ρ => exact List.Perm.refl _
  | cons e h ih => exact (ih.cons e).trans (List.perm_middle.symm)
  | app κ h ih =>
    refine (List.Perm.append_left κ ih).trans ?_
    rw [← List.append_assoc, ← List.append_assoc]
    exact List.Perm.append_right _ List.perm_append_comm
theorem v_frzP (ν : OH) {r : OH} (hp : μ.Perm (ν ++ r)) (h : ∀ G', GH.le G G' → (∀ b o, (b, o) ∈ ν → G' b = some o) → Vc P fn n B Φ k σ G' r) : Vc P fn n B Φ k σ G μ :=
  v_perm hp (v_freeze h)
theorem v_frz (ν : OH) {r : OH} (hp : PickA ν μ r) (h : ∀ G', GH.le G G' → (∀ b o, (b, o) ∈ ν → G' b = some o) → Vc P fn n B Φ k σ G' r) : Vc P fn n B Φ k σ G μ :=
  v_perm hp.perm (v_freeze h)
theorem PickA.perm' {ν μ : OH} (h : μ.Perm ν) : μ.Perm (ν ++ []) := by simpa using h
/-- Only these blocks of ours are needed from here on. -/
theorem v_only (ν : OH) {r : OH} (hp : PickA ν μ r) (h : Vc P fn n B Φ k σ G ν) : Vc P fn n B Φ k σ G μ :=
  v_perm hp.perm (v_drop (List.sublist_append_left _ _) h)
theorem Grow.shape {e : TypeId} {sz : Nat} {v : Value} {m : Nat} {xs : List Value} {ν : OH} (h : Grow e sz v m xs ν) : ∃ A c, v = .slice A m c ∧ m ≤ c ∧ c ≤ maxLen := by
  obtain ⟨_, ⟨rfl, rfl, _⟩ | ⟨b, cap, spare, rfl, _, h1, h2, _⟩⟩ := h
  · exact ⟨_, _, rfl, Nat.le_refl _, by simp [maxLen]⟩
  · exact ⟨_, _, rfl, h1, h2⟩
theorem Src.frozen {G : GH} {μ : OH} {a : Addr} {m c sz : Nat} {us : List Value} (h : CellsG G a us) (hl : us.length = m * sz) : Src G μ (.slice (some a) m c) m sz us := ⟨hl, _, _, rfl, fun _ => ⟨_, rfl, CellsAt.frozen h⟩⟩
theorem CellsG.take {G : GH} {a : Addr} {us : List Value} (h : CellsG G a us) (q : Nat) : CellsG G a (us.take q) := fun j v hv => h j v (by
  rw [List.getElem?_take] at hv
  split at hv
  · exact hv
  · cases hv)
theorem Grow.lit {e : TypeId} {sz b m : Nat} {xs : List Value} (h : xs.length = m * sz) (hm : m ≤ maxLen) : Grow e sz (.slice (some ⟨b, 0, none⟩) m m) m xs [(b, .cells xs.toArray e (0, 0))] :=
  ⟨h, .inr ⟨b, m, [], rfl, by simp, Nat.le_refl _, hm, by simpa using h⟩⟩
end
end Go.Vx
