/-
  VX, TEXTS: strings, ranges over them, interfaces, and what hangs on a Bool that is not known.
-/
import Derived.Test.YtfckggkmiegokaaDoorVxMore
import Derived.IntWalk
set_option linter.unusedVariables false
set_option linter.unusedSimpArgs false
namespace Go.Vx
open Go
attribute [local semireducible] Vc Con PureOp ReadOp MoveOp
section
variable {P : Program} {fn : Func} {n : Nat} {B : Base} {Φ : Value → GH → OH → Prop} {k : List It} {σ : Env} {G : GH} {μ : OH} {all : Array Oper} {rest : List Oper} {d : Nat} {ty : TypeId} {pos : String} {af : Array Edge} {t : TypeId} {bytes : Nat} {zero : Value}
/-! ### Ranges over a string -/
theorem m_rangeS {x : Operand} {s : ByteArray} [Ty P t .string] (hx : Env.ev σ x = some (.string s)) :
    MoveOp P (.range t x) ty σ G μ (fun v G' μ' => ∃ b, v = .pointer (some ⟨b, 0, none⟩) ∧ G' = G ∧ μ' = (b, .stringIter s 0) :: μ) := by
  intro dst pos af g ρ hρ w hw a K Q hK
  have hr : (execOp ρ ⟨dst, .range t x, ty, pos, af, g⟩).run P w = .ok (.value (.pointer (some ⟨w.heap.size, 0, none⟩))) (w.alloc (.stringIter s 0)) := by
    have := run_range_string (P := P) w t s Ty.h
    simp [execOp, hρ _ _ hx, this, World.iter]
  rw [hr]
  exact hK _ _ _ _ (Step.alloc hw _) ⟨_, rfl, rfl, rfl⟩
theorem v_rangeS {x : Operand} {s : ByteArray} [Ty P t .string] (hx : Env.ev σ x = some (.string s)) (hd : Nat.blt d n = true)
    (h : ∀ b, Vc P fn n B Φ (.ops all rest :: k) ((d, .pointer (some ⟨b, 0, none⟩)) :: σ) G ((b, .stringIter s 0) :: μ)) : Vc P fn n B Φ (.ops all (⟨some d, .range t x, ty, pos, af, none⟩ :: rest) :: k) σ G μ :=
  v_move (m_rangeS hx) hd fun _ _ _ ⟨b, h1, h2, h3⟩ => by rw [h1, h2, h3]; exact h b
theorem m_nextS {x : Operand} {s : ByteArray} {b p : Nat} {μ' : OH} (hx : Env.ev σ x = some (.pointer (some ⟨b, 0, none⟩))) (hb : (b, Obj.stringIter s p) ∈ μ) (hp : p < s.size) (hu : Upd b (.stringIter s (p + (Utf8.decode s p).2)) μ μ') :
    MoveOp P (.next x true) ty σ G μ (fun v G' μ'' => v = .tuple #[.bool true, .int .i64 p, .int .i32 (Utf8.decode s p).1] ∧ G' = G ∧ μ'' = μ') := by
  intro dst pos af g ρ hρ w hw a K Q hK
  have hblk := hw.own _ _ hb
  have hlt := lt_of_heap hblk
  have hr : (execOp ρ ⟨dst, .next x true, ty, pos, af, g⟩).run P w = .ok (.value (.tuple #[.bool true, .int .i64 p, .int .i32 (Utf8.decode s p).1])) { w with heap := w.heap.setIfInBounds b (.stringIter s (p + (Utf8.decode s p).2)) } := by
    simp [execOp, hρ _ _ hx, Instr.next, getObj, setObj, Sem.run, hblk, hp, goInt]
  rw [hr]
  refine hK _ _ _ _ (Step.upd hw hu rfl rfl rfl (by simp) ?_ (fun c hc => ?_)) ⟨rfl, rfl, rfl⟩
  · simp [hlt]
  · simp [Array.getElem?_setIfInBounds_ne (Ne.symm hc)]
theorem v_nextS {x : Operand} {s : ByteArray} {b p : Nat} {μ' : OH} (hx : Env.ev σ x = some (.pointer (some ⟨b, 0, none⟩))) (hb : (b, Obj.stringIter s p) ∈ μ) (hp : p < s.size) (hu : Upd b (.stringIter s (p + (Utf8.decode s p).2)) μ μ') (hd : Nat.blt d n = true)
    (h : Vc P fn n B Φ (.ops all rest :: k) ((d, .tuple [.bool true, .int .i64 p, .int .i32 (Utf8.decode s p).1].toArray) :: σ) G μ') : Vc P fn n B Φ (.ops all (⟨some d, .next x true, ty, pos, af, none⟩ :: rest) :: k) σ G μ :=
  v_move (m_nextS hx hb hp hu) hd fun _ _ _ ⟨h1, h2, h3⟩ => by rw [h1, h2, h3]; exact h
theorem r_nextEnd {x : Operand} {s : ByteArray} {b p : Nat} (hx : Env.ev σ x = some (.pointer (some ⟨b, 0, none⟩))) (hb : (b, Obj.stringIter s p) ∈ μ) (hp : ¬ p < s.size) : ReadOp P (.next x true) ty σ G μ (.tuple [.bool false].toArray) := by
  intro dst pos af g ρ hρ w hw
  have hblk := hw.own _ _ hb
  simp [execOp, hρ _ _ hx, Instr.next, getObj, Sem.run, hblk, hp]
/-! ### Strings -/
theorem run_sliceStr {w : World} {s : ByteArray} [Ty P t .string] {lo hi : Option Value} {l h : Nat} (hl : (lo = none ∧ l = 0) ∨ (∃ k, lo = some (.int k (l : Int)))) (hh : (hi = none ∧ h = s.size) ∨ (∃ k, hi = some (.int k (h : Int)))) (h1 : l ≤ h) (h2 : h ≤ s.size) :
    (Instr.sliceAt t (.string s) lo hi none).run P w = .ok (.string (s.extract l h)) w := by
  rcases hl with ⟨rfl, rfl⟩ | ⟨kl, rfl⟩ <;> rcases hh with ⟨rfl, rfl⟩ | ⟨kh, rfl⟩ <;>
    simp [Instr.sliceAt, Instr.slice, Instr.sliceBounds, Instr.sliceBound, asIntOf, run_under (P := P) (t := t) (d := .string), h1, h2]
theorem p_sliceStrL {x lo : Operand} {s : ByteArray} {k : IntKind} {l : Int} [Ty P t .string] (hx : Env.ev σ x = some (.string s)) (hl : Env.ev σ lo = some (.int k l)) (h0 : 0 ≤ l) (h1 : l ≤ s.size) :
    PureOp P (.slice t x (some lo) none none) ty σ (.string (s.extract l.toNat s.size)) := by
  intro dst pos af g ρ hρ w
  have := run_sliceStr (P := P) (w := w) (t := t) (s := s) (lo := some (.int k l)) (hi := none) (l := l.toNat) (h := s.size) (.inr ⟨k, by rw [Int.toNat_of_nonneg h0]⟩) (.inl ⟨rfl, rfl⟩) (by omega) (Nat.le_refl _)
  simp [execOp, hρ _ _ hx, hρ _ _ hl, this]
theorem p_sliceStrH {x hi : Operand} {s : ByteArray} {k : IntKind} {h : Int} [Ty P t .string] (hx : Env.ev σ x = some (.string s)) (hh : Env.ev σ hi = some (.int k h)) (h0 : 0 ≤ h) (h1 : h ≤ s.size) :
    PureOp P (.slice t x none (some hi) none) ty σ (.string (s.extract 0 h.toNat)) := by
  intro dst pos af g ρ hρ w
  have := run_sliceStr (P := P) (w := w) (t := t) (s := s) (lo := none) (hi := some (.int k h)) (l := 0) (h := h.toNat) (.inl ⟨rfl, rfl⟩) (.inr ⟨k, by rw [Int.toNat_of_nonneg h0]⟩) (by omega) (by omega)
  simp [execOp, hρ _ _ hx, hρ _ _ hh, this]
/-! ### Interfaces -/
theorem p_assertOk {x : Operand} {xt u : TypeId} {d : TypeDesc} {v : Value} [Ty P u d] (hd : (match d with | .interface _ => false | _ => true) = true) (hx : Env.ev σ x = some (.iface u v)) :
    PureOp P (.typeAssert x xt u true) ty σ (.tuple [v, .bool true].toArray) := by
  intro dst pos af g ρ hρ w
  simp only [execOp, hρ _ _ hx, Instr.typeAssert, Sem.run_bind, run_under (t := u) (d := d), Result.andThen_ok]
  cases d <;> simp at hd ⊢
theorem p_assertNo {x : Operand} {xt u u' : TypeId} {d : TypeDesc} {v : Value} {agg : Bool} {sz : Nat} [Ty P u d] [Lay P u agg sz bytes zero] (hd : (match d with | .interface _ => false | _ => true) = true) (hx : Env.ev σ x = some (.iface u' v)) (hne : Nat.beq u' u = false) :
    PureOp P (.typeAssert x xt u true) ty σ (.tuple [zero, .bool false].toArray) := by
  intro dst pos af g ρ hρ w
  have hne' : ¬ u' = u := by intro e; subst e; simp at hne
  have hz := run_zeroOf (P := P) (t := u) (agg := agg) (size := sz) (bytes := bytes) (zero := zero) (w := w)
  simp only [execOp, hρ _ _ hx, Instr.typeAssert, Sem.run_bind, run_under (t := u) (d := d), Result.andThen_ok]
  cases d <;> simp at hd <;> simp [hne', hz]
/-! ### Numbers -/
theorem p_conv64 {x : Operand} {k k'' : IntKind} {a : Int} {t u : TypeId} [Ty P t (.int k'')] [Ty P u (.int .i64)] (hx : Env.ev σ x = some (.int k a)) (h : -9223372036854775808 ≤ a ∧ a ≤ 9223372036854775807) : PureOp P (.convert t u x) ty σ (.int .i64 a) := by
  have e : IntKind.i64.wrap a = a := IntWalk.i64_in _ (by omega)
  have := p_conv (P := P) (ty := ty) (t := t) (u := u) hx
  rwa [e] at this
def band (a b : Int) : Int := IntKind.i64.wrap (BitVec.ofInt IntKind.i64.bits a &&& BitVec.ofInt IntKind.i64.bits b).toNat
theorem p_and64 {x y : Operand} {a b : Int} {t t' : TypeId} (hx : Env.ev σ x = some (.int .i64 a)) (hy : Env.ev σ y = some (.int .i64 b)) : PureOp P (.binOp .and t x y t') ty σ (.int .i64 (band a b)) := p_and hx hy
/-- A quotient, and a remainder, of numbers from 0 on. -/
theorem p_quo {x y : Operand} {a b : Int} {t t' : TypeId} (hx : Env.ev σ x = some (.int .i64 a)) (hy : Env.ev σ y = some (.int .i64 b)) (ha : 0 ≤ a ∧ a ≤ 9223372036854775807) (hb : 0 < b) : PureOp P (.binOp .quo t x y t') ty σ (.int .i64 (a / b)) := by
  have e1 : a.tdiv b = a / b := Int.tdiv_eq_ediv_of_nonneg ha.1
  have e2 : 0 ≤ a / b := Int.ediv_nonneg ha.1 (by omega)
  have e3 : a / b ≤ a := Int.ediv_le_self _ ha.1
  have e : IntKind.i64.wrap (a.tdiv b) = a / b := by rw [e1]; exact IntWalk.i64_in _ (by omega)
  have := p_quow (P := P) (ty := ty) (t := t) (t' := t') hx hy (by omega)
  rwa [e] at this
theorem p_rem0 {x y : Operand} {k : IntKind} {a b : Int} {t t' : TypeId} (hx : Env.ev σ x = some (.int k a)) (hy : Env.ev σ y = some (.int k b)) (ha : 0 ≤ a) (hb : 0 < b) : PureOp P (.binOp .rem t x y t') ty σ (.int k (a % b)) := by
  have := p_rem (P := P) (ty := ty) (t := t) (t' := t') hx hy (by omega)
  rwa [Int.tmod_eq_emod_of_nonneg ha] at this
/-! ### A Bool that is not known, without parting -/
/-- What a guarded operation leaves: its value, or nothing. -/
def gv (b c : Bool) (v : Value) : Value := bif b == c then v else undef
theorem v_guardM {j t : Nat} {c b : Bool} {op : Op} {v : Value} (h1 : (all[j]?).bind (·.dst) = some t) (h2 : Env.get σ t = some (.bool b)) (hop : PureOp P op ty σ v) (hd : Nat.blt d n = true)
    (h : Vc P fn n B Φ (.ops all rest :: k) ((d, gv b c v) :: σ) G μ) : Vc P fn n B Φ (.ops all (⟨some d, op, ty, pos, af, some (j, c)⟩ :: rest) :: k) σ G μ := by
  have hg : guardVal all σ j = some b := by
    unfold guardVal
    rw [h1]
    simp [h2]
  by_cases hbc : b = c
  · subst hbc
    have e : gv b b v = v := by simp [gv]
    rw [e] at h
    exact v_take hg (v_pure hop hd h)
  · have hn : (b == c) = false := by simpa using hbc
    have e : gv b c v = undef := by simp [gv, hn]
    rw [e] at h
    exact v_pass hg hn hd h
theorem p_pickAnd {c x y : Operand} {b a : Bool} (hc : Env.ev σ c = some (.bool b)) (hx : Env.ev σ x = some (gv b true (.bool a))) (hy : Env.ev σ y = some (.bool false)) : PureOp P (.pick c x y) ty σ (.bool (b && a)) := by
  cases b
  · exact p_pickF hc hy
  · exact p_pickT hc hx
theorem p_pickOr {c x y : Operand} {b a : Bool} (hc : Env.ev σ c = some (.bool b)) (hx : Env.ev σ x = some (.bool true)) (hy : Env.ev σ y = some (gv b false (.bool a))) : PureOp P (.pick c x y) ty σ (.bool (b || a)) := by
  cases b
  · exact p_pickF hc hy
  · exact p_pickT hc hx
end
/-! ### Calls in regions that draw -/
section
variable {P : Program} {ty : TypeId} {σ : Env} {G : GH} {μ : OH}
theorem m_callCJ {x : Operand} {f : FuncId} [Callable P f] {first captured : List Value} {args : List Operand} {ts : Array TypeId} {vs : List Value} {v : Value} (hx : Env.ev σ x = some (.func (.func f) first.toArray captured.toArray)) (ha : Env.evs σ args = some vs) (hs : Con P f (first ++ vs ++ captured).toArray G [] (Just v G)) :
    MoveOp P (.call { callee := .value x, args := args.toArray, argTypes := ts }) ty σ G μ (fun u G' μ' => u = v ∧ G' = G ∧ μ' = μ) := m_keep (μ1 := []) (μ2 := μ) hs (List.Perm.refl _) (run_callC hx ha)
end
end Go.Vx
namespace Go.Vx
open Go
attribute [local semireducible] Vc Con PureOp ReadOp MoveOp
/-- The byte at a place. -/
def byt (s : ByteArray) (i : Nat) : Nat := (s.get! i).toNat
theorem byt_lt (s : ByteArray) (i : Nat) : byt s i < 256 := (s.get! i).toNat_lt
theorem byt_eq {s : ByteArray} {i : Nat} (h : i < s.size) : byt s i = (s[i]'h).toNat := by
  unfold byt
  have e : s.get! i = s[i]'h := by
    simp [ByteArray.get!, getElem!_pos, h]
    rfl
  rw [e]
theorem p_indexSb {P : Program} {ty : TypeId} {σ : Env} {x i : Operand} {s : ByteArray} {k : IntKind} {m : Int} {t : TypeId} [Ty P t .string] (hx : Env.ev σ x = some (.string s)) (hi : Env.ev σ i = some (.int k m)) (h0 : 0 ≤ m) (h : m < s.size) : PureOp P (.index t x i) ty σ (.int .u8 (byt s m.toNat)) := by
  have h' : m.toNat < s.size := by omega
  have := p_indexS (P := P) (ty := ty) (t := t) hx hi h0 h'
  rwa [← byt_eq h'] at this
end Go.Vx
namespace Go.Vx
open Go
attribute [local semireducible] Vc Con PureOp ReadOp MoveOp
section
variable {P : Program} {fn : Func} {n : Nat} {B : Base} {Φ : Value → GH → OH → Prop} {k : List It} {σ : Env} {G : GH} {μ : OH}
theorem p_indexSn {P : Program} {ty : TypeId} {σ : Env} {x i : Operand} {s : ByteArray} {k : IntKind} {m : Nat} {t : TypeId} [Ty P t .string] (hx : Env.ev σ x = some (.string s)) (hi : Env.ev σ i = some (.int k (m : Int))) (h : m < s.size) : PureOp P (.index t x i) ty σ (.int .u8 (byt s m)) := by
  have := p_indexSb (P := P) (ty := ty) (t := t) hx hi (by omega) (by omega)
  rwa [Int.toNat_natCast] at this
theorem p_convB {P : Program} {ty : TypeId} {σ : Env} {x : Operand} {s : ByteArray} {m : Nat} {k k'' : IntKind} {t u : TypeId} [Ty P t (.int k'')] [Ty P u (.int .i64)] (hx : Env.ev σ x = some (.int k (byt s m : Nat))) : PureOp P (.convert t u x) ty σ (.int .i64 (byt s m : Nat)) :=
  p_conv64 hx (by have := byt_lt s m; omega)
/-- A loop whose measure is no slot's: ι tells the rounds apart. -/
theorem v_loopI {ι : Type} (S : List Nat) (J : ι → List Value → GH → OH → Prop) (m : ι → Nat) {body : Code} {vs : List Value} (hg : Env.gets σ S = some vs) (i0 : ι) (h0 : J i0 vs G μ)
    (hr : ∀ i vs G μ, J i vs G μ → Vc P fn n B Φ (.code body :: .again S (fun vs' w' => ∃ j G' μ', J j vs' G' μ' ∧ Step B.G B.μ B.w G' μ' w' ∧ m j < m i) :: k) (S.zip vs) G μ) : Vc P fn n B Φ (.code (.loop body) :: k) σ G μ := by
  intro w hw a ha
  refine wp_loop_fam (ι := ι × List Value × World) (fun x a w => Holds n (S.zip x.2.1) a ∧ w = x.2.2 ∧ ∃ G μ, J x.1 x.2.1 G μ ∧ Step B.G B.μ B.w G μ w) (fun x => m x.1) (i0 := (i0, vs, w)) ⟨ha.sub (gets_zip hg), rfl, G, μ, h0, hw⟩ ?_
  rintro ⟨i, us, wr⟩ a' w' ⟨hh, hw', G', μ', hJ, hS⟩
  simp only at hw'
  subst hw'
  refine wp_mono (hr i us G' μ' hJ w' hS a' hh) fun e a'' w'' hq => ?_
  cases e with
  | normal =>
    obtain ⟨us', hh', _, j, G2, μ2, hJ2, hS2, hlt⟩ := hq
    exact ⟨(j, us', w''), ⟨hh', rfl, G2, μ2, hJ2, hS2⟩, hlt⟩
  | _ => simpa [Kont, Exit.then] using hq
theorem v_againI {ι : Type} {S : List Nat} {J : ι → List Value → GH → OH → Prop} {m : ι → Nat} {N : Nat} {vs : List Value} (j : ι) (hg : Env.gets σ S = some vs) (hJ : J j vs G μ) (hm : m j < N) :
    Vc P fn n B Φ (.again S (fun vs' w' => ∃ j G' μ', J j vs' G' μ' ∧ Step B.G B.μ B.w G' μ' w' ∧ m j < N) :: k) σ G μ :=
  fun _ hw => run_again hg ⟨j, G, μ, hJ, hw, hm⟩
end
end Go.Vx
namespace Go.Vx
open Go
attribute [local semireducible] Vc Con PureOp ReadOp MoveOp
theorem dec_eq {p : Prop} [Decidable p] : dec p = decide p := by
  by_cases h : p
  · rw [dec_pos h, decide_eq_true h]
  · rw [dec_neg h, decide_eq_false h]
/-! ### A function value that captures nothing, called -/
section
variable {P : Program} {fn : Func} {n : Nat} {B : Base} {Φ : Value → GH → OH → Prop} {k : List It} {σ : Env} {G : GH} {μ : OH} {all : Array Oper} {rest : List Oper} {d : Nat} {ty : TypeId} {pos : String} {af : Array Edge}
theorem v_callF0 {x : Operand} {f : FuncId} [Callable P f] {args : List Operand} {ts : Array TypeId} {vs : List Value} {μ1 μ2 : OH} {Ψ : Value → GH → OH → Prop} (hx : Env.ev σ x = some (.func (.func f) #[] #[])) (ha : Env.evs σ args = some vs) (hs : Con P f vs.toArray G μ1 Ψ) (hp : μ.Perm (μ1 ++ μ2)) (hd : Nat.blt d n = true)
    (h : ∀ v G' μ1', GH.le G G' → Ψ v G' μ1' → Vc P fn n B Φ (.ops all rest :: k) ((d, v) :: σ) G' (μ1' ++ μ2)) :
    Vc P fn n B Φ (.ops all (⟨some d, .call { callee := .value x, args := args.toArray, argTypes := ts }, ty, pos, af, none⟩ :: rest) :: k) σ G μ :=
  v_callC (first := []) (captured := []) hx ha (by simpa using hs) hp hd h
theorem v_callFJ0 {x : Operand} {f : FuncId} [Callable P f] {args : List Operand} {ts : Array TypeId} {vs : List Value} {v : Value} (hx : Env.ev σ x = some (.func (.func f) #[] #[])) (ha : Env.evs σ args = some vs) (hs : Con P f vs.toArray G [] (Just v G)) (hd : Nat.blt d n = true)
    (h : Vc P fn n B Φ (.ops all rest :: k) ((d, v) :: σ) G μ) :
    Vc P fn n B Φ (.ops all (⟨some d, .call { callee := .value x, args := args.toArray, argTypes := ts }, ty, pos, af, none⟩ :: rest) :: k) σ G μ :=
  v_callCJ (first := []) (captured := []) hx ha (by simpa using hs) hd h
theorem v_callFK0 {x : Operand} {f : FuncId} [Callable P f] {args : List Operand} {ts : Array TypeId} {vs : List Value} {v : Value} {μ1 μ2 : OH} (hx : Env.ev σ x = some (.func (.func f) #[] #[])) (ha : Env.evs σ args = some vs) (hs : Con P f vs.toArray G μ1 (Keeps v G μ1)) (hp : μ.Perm (μ1 ++ μ2)) (hd : Nat.blt d n = true)
    (h : Vc P fn n B Φ (.ops all rest :: k) ((d, v) :: σ) G μ) :
    Vc P fn n B Φ (.ops all (⟨some d, .call { callee := .value x, args := args.toArray, argTypes := ts }, ty, pos, af, none⟩ :: rest) :: k) σ G μ :=
  v_callCK (first := []) (captured := []) hx ha (by simpa using hs) hp hd h
theorem m_callFJ0 {x : Operand} {f : FuncId} [Callable P f] {args : List Operand} {ts : Array TypeId} {vs : List Value} {v : Value} (hx : Env.ev σ x = some (.func (.func f) #[] #[])) (ha : Env.evs σ args = some vs) (hs : Con P f vs.toArray G [] (Just v G)) :
    MoveOp P (.call { callee := .value x, args := args.toArray, argTypes := ts }) ty σ G μ (fun u G' μ' => u = v ∧ G' = G ∧ μ' = μ) := m_callCJ (first := []) (captured := []) hx ha (by simpa using hs)
theorem m_callFK0 {x : Operand} {f : FuncId} [Callable P f] {args : List Operand} {ts : Array TypeId} {vs : List Value} {v : Value} {μ1 μ2 : OH} (hx : Env.ev σ x = some (.func (.func f) #[] #[])) (ha : Env.evs σ args = some vs) (hs : Con P f vs.toArray G μ1 (Keeps v G μ1)) (hp : μ.Perm (μ1 ++ μ2)) :
    MoveOp P (.call { callee := .value x, args := args.toArray, argTypes := ts }) ty σ G μ (fun u G' μ' => u = v ∧ G' = G ∧ μ' = μ) := m_callCK (first := []) (captured := []) hx ha (by simpa using hs) hp
end
end Go.Vx
namespace Go.Vx
open Go
section
variable {P : Program} {fn : Func} {n : Nat} {B : Base} {Φ : Value → GH → OH → Prop} {k : List It} {σ : Env} {G G0 : GH} {μ ν : OH} {all : Array Oper} {listed : Array Bool} {m d : Nat} {ty : TypeId} {pos : String} {af : Array Edge} {v : Value}
theorem d_callJ (i : Nat) {f : FuncId} [Callable P f] {args : List Operand} {ts : Array TypeId} {vs : List Value} (hi : all[i]? = some ⟨some d, .call { callee := .value (.func f), args := args.toArray, argTypes := ts }, ty, pos, af, none⟩) (hr : Region.ready .any all listed = [i]) (ha : Env.evs σ args = some vs) (hs : Con P f vs.toArray G [] (Just v G)) (hd : Nat.blt d n = true)
    (h : DVc P fn n B Φ all G0 ν m (listed.setIfInBounds i true) k ((d, v) :: σ) G μ) : DVc P fn n B Φ all G0 ν (m + 1) listed k σ G μ := d_keep i hi hr (m_callFJ ha hs) hd h
theorem d_callJG (i : Nat) {f : FuncId} [Callable P f] {j : Nat} {b : Bool} {args : List Operand} {ts : Array TypeId} {vs : List Value} (hi : all[i]? = some ⟨some d, .call { callee := .value (.func f), args := args.toArray, argTypes := ts }, ty, pos, af, some (j, b)⟩) (hg : guardVal all σ j = some b) (hr : Region.ready .any all listed = [i]) (ha : Env.evs σ args = some vs) (hs : Con P f vs.toArray G [] (Just v G)) (hd : Nat.blt d n = true)
    (h : DVc P fn n B Φ all G0 ν m (listed.setIfInBounds i true) k ((d, v) :: σ) G μ) : DVc P fn n B Φ all G0 ν (m + 1) listed k σ G μ := d_keepG i hi hg hr (m_callFJ ha hs) hd h
theorem d_callK (i : Nat) {f : FuncId} [Callable P f] {args : List Operand} {ts : Array TypeId} {vs : List Value} {μ1 μ2 : OH} (hi : all[i]? = some ⟨some d, .call { callee := .value (.func f), args := args.toArray, argTypes := ts }, ty, pos, af, none⟩) (hr : Region.ready .any all listed = [i]) (ha : Env.evs σ args = some vs) (hs : Con P f vs.toArray G μ1 (Keeps v G μ1)) (hp : μ.Perm (μ1 ++ μ2)) (hd : Nat.blt d n = true)
    (h : DVc P fn n B Φ all G0 ν m (listed.setIfInBounds i true) k ((d, v) :: σ) G μ) : DVc P fn n B Φ all G0 ν (m + 1) listed k σ G μ := d_keep i hi hr (m_callFK ha hs hp) hd h
theorem d_callKG (i : Nat) {f : FuncId} [Callable P f] {j : Nat} {b : Bool} {args : List Operand} {ts : Array TypeId} {vs : List Value} {μ1 μ2 : OH} (hi : all[i]? = some ⟨some d, .call { callee := .value (.func f), args := args.toArray, argTypes := ts }, ty, pos, af, some (j, b)⟩) (hg : guardVal all σ j = some b) (hr : Region.ready .any all listed = [i]) (ha : Env.evs σ args = some vs) (hs : Con P f vs.toArray G μ1 (Keeps v G μ1)) (hp : μ.Perm (μ1 ++ μ2)) (hd : Nat.blt d n = true)
    (h : DVc P fn n B Φ all G0 ν m (listed.setIfInBounds i true) k ((d, v) :: σ) G μ) : DVc P fn n B Φ all G0 ν (m + 1) listed k σ G μ := d_keepG i hi hg hr (m_callFK ha hs hp) hd h
theorem d_callJ0 (i : Nat) {f : FuncId} [Callable P f] {x : Operand} {args : List Operand} {ts : Array TypeId} {vs : List Value} (hi : all[i]? = some ⟨some d, .call { callee := .value x, args := args.toArray, argTypes := ts }, ty, pos, af, none⟩) (hr : Region.ready .any all listed = [i]) (hx : Env.ev σ x = some (.func (.func f) #[] #[])) (ha : Env.evs σ args = some vs) (hs : Con P f vs.toArray G [] (Just v G)) (hd : Nat.blt d n = true)
    (h : DVc P fn n B Φ all G0 ν m (listed.setIfInBounds i true) k ((d, v) :: σ) G μ) : DVc P fn n B Φ all G0 ν (m + 1) listed k σ G μ := d_keep i hi hr (m_callFJ0 hx ha hs) hd h
theorem d_callJ0G (i : Nat) {f : FuncId} [Callable P f] {x : Operand} {j : Nat} {b : Bool} {args : List Operand} {ts : Array TypeId} {vs : List Value} (hi : all[i]? = some ⟨some d, .call { callee := .value x, args := args.toArray, argTypes := ts }, ty, pos, af, some (j, b)⟩) (hg : guardVal all σ j = some b) (hr : Region.ready .any all listed = [i]) (hx : Env.ev σ x = some (.func (.func f) #[] #[])) (ha : Env.evs σ args = some vs) (hs : Con P f vs.toArray G [] (Just v G)) (hd : Nat.blt d n = true)
    (h : DVc P fn n B Φ all G0 ν m (listed.setIfInBounds i true) k ((d, v) :: σ) G μ) : DVc P fn n B Φ all G0 ν (m + 1) listed k σ G μ := d_keepG i hi hg hr (m_callFJ0 hx ha hs) hd h
theorem d_callK0 (i : Nat) {f : FuncId} [Callable P f] {x : Operand} {args : List Operand} {ts : Array TypeId} {vs : List Value} {μ1 μ2 : OH} (hi : all[i]? = some ⟨some d, .call { callee := .value x, args := args.toArray, argTypes := ts }, ty, pos, af, none⟩) (hr : Region.ready .any all listed = [i]) (hx : Env.ev σ x = some (.func (.func f) #[] #[])) (ha : Env.evs σ args = some vs) (hs : Con P f vs.toArray G μ1 (Keeps v G μ1)) (hp : μ.Perm (μ1 ++ μ2)) (hd : Nat.blt d n = true)
    (h : DVc P fn n B Φ all G0 ν m (listed.setIfInBounds i true) k ((d, v) :: σ) G μ) : DVc P fn n B Φ all G0 ν (m + 1) listed k σ G μ := d_keep i hi hr (m_callFK0 hx ha hs hp) hd h
theorem d_callK0G (i : Nat) {f : FuncId} [Callable P f] {x : Operand} {j : Nat} {b : Bool} {args : List Operand} {ts : Array TypeId} {vs : List Value} {μ1 μ2 : OH} (hi : all[i]? = some ⟨some d, .call { callee := .value x, args := args.toArray, argTypes := ts }, ty, pos, af, some (j, b)⟩) (hg : guardVal all σ j = some b) (hr : Region.ready .any all listed = [i]) (hx : Env.ev σ x = some (.func (.func f) #[] #[])) (ha : Env.evs σ args = some vs) (hs : Con P f vs.toArray G μ1 (Keeps v G μ1)) (hp : μ.Perm (μ1 ++ μ2)) (hd : Nat.blt d n = true)
    (h : DVc P fn n B Φ all G0 ν m (listed.setIfInBounds i true) k ((d, v) :: σ) G μ) : DVc P fn n B Φ all G0 ν (m + 1) listed k σ G μ := d_keepG i hi hg hr (m_callFK0 hx ha hs hp) hd h
end
end Go.Vx
attribute [irreducible] Go.Vx.byt
