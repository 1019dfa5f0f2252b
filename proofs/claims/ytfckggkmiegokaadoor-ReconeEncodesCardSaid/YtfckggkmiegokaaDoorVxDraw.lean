/-
  VX, A REGION THAT DRAWS ITS ORDER: what hangs on the temporaries, on what is frozen, and on blocks of ours that the region leaves alone, is taken first; what is left comes one by one.
-/
import Derived.Test.YtfckggkmiegokaaDoorVxStep
import Derived.OrdersHeld
set_option linter.unusedVariables false
set_option linter.unusedSimpArgs false
namespace Go.Vx
open Go
attribute [local semireducible] Vc Con PureOp ReadOp MoveOp
theorem kont_panic {P : Program} {fn : Func} {n : Nat} {V : Value → World → Prop} {c : List PanicEntry} : ∀ {k : List It} (a : Act) (w : World), Kont P n (bodyPost P fn (Back V)) k (.panic c) a w → False
  | [], a, w, h => by obtain ⟨_, v, h, _⟩ := h; cases h
  | .code c :: k, a, w, h => by simp only [Kont] at h; exact kont_panic a w h
  | .ops all l :: k, a, w, h => by simp only [Kont] at h; exact kont_panic a w h
  | .again S I :: k, a, w, h => by simp only [Kont] at h; exact kont_panic a w h
  | .blk id' :: k, a, w, h => by simp only [Kont] at h; exact kont_panic a w h
theorem Holds.sub' {n : Nat} {σ : Env} {a : Act} {t : Nat} {b x : Bool} (h : Holds n σ a) (hk : ∀ i v, Env.get ((t, .bool x) :: σ) i = some v → Env.get σ i = some v) (_hb : b = x) (_h2 : Env.get σ t = some (.bool b)) : Holds n ((t, .bool x) :: σ) a := h.sub hk
/-- The judgement inside such a region: which operations have come up is 'listed'; G0 and ν are what every operation leaves alone. -/
def DVc (P : Program) (fn : Func) (n : Nat) (B : Base) (Φ : Value → GH → OH → Prop) (all : Array Oper) (G0 : GH) (ν : OH) (m : Nat) (listed : Array Bool) (k : List It) (σ : Env) (G : GH) (μ : OH) : Prop :=
  Region.noSelect all = true → GH.le G0 G → (∀ e ∈ ν, e ∈ μ) → ∀ w, Step B.G B.μ B.w G μ w → ∀ a, Holds n σ a → wpAnyH P .any all (Kont P n (bodyPost P fn (Back (Fin B Φ))) k) (Sees G0 ν) m listed a w
section
variable {P : Program} {fn : Func} {n : Nat} {B : Base} {Φ : Value → GH → OH → Prop} {k : List It} {σ : Env} {G G0 : GH} {μ : OH} {all : Array Oper} {m : Nat} {listed : Array Bool} {d : Nat} {op : Op} {ty : TypeId} {pos : String} {af : Array Edge} {v : Value}
theorem d_start (ν : OH) {id : Nat} {l : List Oper} (hm : P.follows .mixedOrders = true) (hsel : Region.noSelect l.toArray = true) (hν : ∀ e ∈ ν, e ∈ μ) (h : DVc P fn n B Φ l.toArray G ν l.length (Array.replicate l.length false) k σ G μ) :
    Vc P fn n B Φ (.code (.region id l.toArray true) :: k) σ G μ := by
  intro w hw a ha
  refine wp_region_held hm (S := Sees G ν) ?_
  exact h hsel (GH.le_refl _) hν (w.drewN 1) (hw.trans (Step.drew hw.mem 1)) a ha
theorem d_done (hr : Region.ready .any all listed = []) (h : Vc P fn n B Φ k σ G μ) {ν : OH} : DVc P fn n B Φ all G0 ν m listed k σ G μ :=
  fun _ _ _ w hw a ha => wpAnyH_done hr (h w hw a ha) m
theorem d_take {ν : OH} (i : Nat) (hi : all[i]? = some ⟨some d, op, ty, pos, af, none⟩) (hf : Region.free .any all listed i = true) (hr : (Region.ready .any all listed).contains i = true) (hop : ReadOp P op ty σ G0 ν v) (hd : Nat.blt d n = true)
    (h : DVc P fn n B Φ all G0 ν m (listed.setIfInBounds i true) k ((d, v) :: σ) G μ) : DVc P fn n B Φ all G0 ν (m + 1) listed k σ G μ := by
  intro hsel hle hν w hw a ha
  have hd' : d < n := by simpa [Nat.blt_eq] using hd
  refine wpAnyH_take hi hsel hf hr (fun c a w hq => (kont_panic _ _ hq).elim) (v := v) (.inl ⟨by simp [Region.wanted], fun w' hS => hop _ pos af none a.eval ha.agree w' hS⟩) (hw.mem.seesOf hle hν) ?_
  exact h hsel hle hν w hw _ (ha.put hd' v)
theorem d_takeG {ν : OH} (i : Nat) {j : Nat} {b : Bool} (hi : all[i]? = some ⟨some d, op, ty, pos, af, some (j, b)⟩) (hg : guardVal all σ j = some b) (hf : Region.free .any all listed i = true) (hr : (Region.ready .any all listed).contains i = true) (hop : ReadOp P op ty σ G0 ν v) (hd : Nat.blt d n = true)
    (h : DVc P fn n B Φ all G0 ν m (listed.setIfInBounds i true) k ((d, v) :: σ) G μ) : DVc P fn n B Φ all G0 ν (m + 1) listed k σ G μ := by
  intro hsel hle hν w hw a ha
  have hd' : d < n := by simpa [Nat.blt_eq] using hd
  have hy := yielded_of ha hg
  refine wpAnyH_take hi hsel hf hr (fun c a w hq => (kont_panic _ _ hq).elim) (v := v) (.inl ⟨by simp [Region.wanted, hy], fun w' hS => hop _ pos af _ a.eval ha.agree w' hS⟩) (hw.mem.seesOf hle hν) ?_
  exact h hsel hle hν w hw _ (ha.put hd' v)
theorem d_pass {ν : OH} (i : Nat) {j : Nat} {b c : Bool} (hi : all[i]? = some ⟨some d, op, ty, pos, af, some (j, c)⟩) (hg : guardVal all σ j = some b) (hn : (b == c) = false) (hf : Region.free .any all listed i = true) (hr : (Region.ready .any all listed).contains i = true) (hd : Nat.blt d n = true)
    (h : DVc P fn n B Φ all G0 ν m (listed.setIfInBounds i true) k ((d, undef) :: σ) G μ) : DVc P fn n B Φ all G0 ν (m + 1) listed k σ G μ := by
  intro hsel hle hν w hw a ha
  have hd' : d < n := by simpa [Nat.blt_eq] using hd
  have hy := yielded_of ha hg
  have hne : ¬ b = c := by intro e; subst e; simp at hn
  refine wpAnyH_take hi hsel hf hr (fun c a w hq => (kont_panic _ _ hq).elim) (v := undef) (.inr ⟨by simpa [Region.wanted, hy] using hne, rfl⟩) (hw.mem.seesOf hle hν) ?_
  exact h hsel hle hν w hw _ (ha.put hd' undef)
theorem d_passN {ν : OH} (i : Nat) {j : Nat} {c : Bool} (hi : all[i]? = some ⟨some d, op, ty, pos, af, some (j, c)⟩) (hg : guardRaw all σ j = some v) (hn : notBool v = true) (hf : Region.free .any all listed i = true) (hr : (Region.ready .any all listed).contains i = true) (hd : Nat.blt d n = true)
    (h : DVc P fn n B Φ all G0 ν m (listed.setIfInBounds i true) k ((d, undef) :: σ) G μ) : DVc P fn n B Φ all G0 ν (m + 1) listed k σ G μ := by
  intro hsel hle hν w hw a ha
  have hd' : d < n := by simpa [Nat.blt_eq] using hd
  have hy := yielded_none ha hg hn
  refine wpAnyH_take hi hsel hf hr (fun c a w hq => (kont_panic _ _ hq).elim) (v := undef) (.inr ⟨by simp [Region.wanted, hy], rfl⟩) (hw.mem.seesOf hle hν) ?_
  exact h hsel hle hν w hw _ (ha.put hd' undef)
theorem d_exec {ν : OH} (i : Nat) {Ψ : Value → GH → OH → Prop} (hi : all[i]? = some ⟨some d, op, ty, pos, af, none⟩) (hr : Region.ready .any all listed = [i]) (hop : MoveOp P op ty σ G μ Ψ) (hd : Nat.blt d n = true)
    (h : ∀ v G' μ', Ψ v G' μ' → (∀ e ∈ ν, e ∈ μ') ∧ DVc P fn n B Φ all G0 ν m (listed.setIfInBounds i true) k ((d, v) :: σ) G' μ') : DVc P fn n B Φ all G0 ν (m + 1) listed k σ G μ := by
  intro hsel hle hν w hw a ha
  have hd' : d < n := by simpa [Nat.blt_eq] using hd
  refine wpAnyH_all hr (by simp) fun j hj => ?_
  simp only [List.mem_singleton] at hj
  subst hj
  unfold wpOp
  simp only [hi, Region.wanted, if_true]
  refine .inl (hop _ pos af none a.eval ha.agree w hw.mem a _ _ fun v w' G' μ' hs hΨ => ?_)
  obtain ⟨hν', hd⟩ := h v G' μ' hΨ
  have hle' := GH.le_trans hle hs.le
  exact ⟨hs.mem.seesOf hle' hν', hd hsel hle' hν' w' (hw.trans hs) _ (ha.put hd' v)⟩
theorem d_execG {ν : OH} (i : Nat) {j : Nat} {b : Bool} {Ψ : Value → GH → OH → Prop} (hi : all[i]? = some ⟨some d, op, ty, pos, af, some (j, b)⟩) (hg : guardVal all σ j = some b) (hr : Region.ready .any all listed = [i]) (hop : MoveOp P op ty σ G μ Ψ) (hd : Nat.blt d n = true)
    (h : ∀ v G' μ', Ψ v G' μ' → (∀ e ∈ ν, e ∈ μ') ∧ DVc P fn n B Φ all G0 ν m (listed.setIfInBounds i true) k ((d, v) :: σ) G' μ') : DVc P fn n B Φ all G0 ν (m + 1) listed k σ G μ := by
  intro hsel hle hν w hw a ha
  have hd' : d < n := by simpa [Nat.blt_eq] using hd
  have hy := yielded_of ha hg
  refine wpAnyH_all hr (by simp) fun j' hj => ?_
  simp only [List.mem_singleton] at hj
  subst hj
  unfold wpOp
  simp only [hi, Region.wanted, hy, beq_self_eq_true, if_true]
  refine .inl (hop _ pos af _ a.eval ha.agree w hw.mem a _ _ fun v w' G' μ' hs hΨ => ?_)
  obtain ⟨hν', hd⟩ := h v G' μ' hΨ
  have hle' := GH.le_trans hle hs.le
  exact ⟨hs.mem.seesOf hle' hν', hd hsel hle' hν' w' (hw.trans hs) _ (ha.put hd' v)⟩
theorem d_exec0 {ν : OH} (i : Nat) {Ψ : Value → GH → OH → Prop} (hi : all[i]? = some ⟨none, op, ty, pos, af, none⟩) (hr : Region.ready .any all listed = [i]) (hop : MoveOp P op ty σ G μ Ψ)
    (h : ∀ v G' μ', Ψ v G' μ' → (∀ e ∈ ν, e ∈ μ') ∧ DVc P fn n B Φ all G0 ν m (listed.setIfInBounds i true) k σ G' μ') : DVc P fn n B Φ all G0 ν (m + 1) listed k σ G μ := by
  intro hsel hle hν w hw a ha
  refine wpAnyH_all hr (by simp) fun j' hj => ?_
  simp only [List.mem_singleton] at hj
  subst hj
  unfold wpOp
  simp only [hi, Region.wanted, if_true]
  refine .inl (hop _ pos af none a.eval ha.agree w hw.mem a _ _ fun v w' G' μ' hs hΨ => ?_)
  obtain ⟨hν', hd⟩ := h v G' μ' hΨ
  have hle' := GH.le_trans hle hs.le
  exact ⟨hs.mem.seesOf hle' hν', hd hsel hle' hν' w' (hw.trans hs) _ (ha.putNone v)⟩
/-- A test, two ways. -/
theorem d_takeB {ν : OH} (i : Nat) {b : Bool} (hi : all[i]? = some ⟨some d, op, ty, pos, af, none⟩) (hf : Region.free .any all listed i = true) (hr : (Region.ready .any all listed).contains i = true) (hop : ReadOp P op ty σ G0 ν (.bool b)) (hd : Nat.blt d n = true)
    (ht : b = true → DVc P fn n B Φ all G0 ν m (listed.setIfInBounds i true) k ((d, .bool true) :: σ) G μ) (hff : b = false → DVc P fn n B Φ all G0 ν m (listed.setIfInBounds i true) k ((d, .bool false) :: σ) G μ) : DVc P fn n B Φ all G0 ν (m + 1) listed k σ G μ := by
  cases b
  · exact d_take i hi hf hr hop hd (hff rfl)
  · exact d_take i hi hf hr hop hd (ht rfl)
theorem d_takeGB {ν : OH} (i : Nat) {j : Nat} {c : Bool} {b : Bool} (hi : all[i]? = some ⟨some d, op, ty, pos, af, some (j, c)⟩) (hg : guardVal all σ j = some c) (hf : Region.free .any all listed i = true) (hr : (Region.ready .any all listed).contains i = true) (hop : ReadOp P op ty σ G0 ν (.bool b)) (hd : Nat.blt d n = true)
    (ht : b = true → DVc P fn n B Φ all G0 ν m (listed.setIfInBounds i true) k ((d, .bool true) :: σ) G μ) (hff : b = false → DVc P fn n B Φ all G0 ν m (listed.setIfInBounds i true) k ((d, .bool false) :: σ) G μ) : DVc P fn n B Φ all G0 ν (m + 1) listed k σ G μ := by
  cases b
  · exact d_takeG i hi hg hf hr hop hd (hff rfl)
  · exact d_takeG i hi hg hf hr hop hd (ht rfl)
/-- What is left alone and comes alone. -/
theorem d_keep {ν : OH} (i : Nat) (hi : all[i]? = some ⟨some d, op, ty, pos, af, none⟩) (hr : Region.ready .any all listed = [i]) (hop : MoveOp P op ty σ G μ (fun u G' μ' => u = v ∧ G' = G ∧ μ' = μ)) (hd : Nat.blt d n = true)
    (h : DVc P fn n B Φ all G0 ν m (listed.setIfInBounds i true) k ((d, v) :: σ) G μ) : DVc P fn n B Φ all G0 ν (m + 1) listed k σ G μ := by
  intro hsel hle hν
  exact d_exec i hi hr hop hd (fun u G' μ' ⟨h1, h2, h3⟩ => by rw [h1, h2, h3]; exact ⟨hν, h⟩) hsel hle hν
theorem d_keepG {ν : OH} (i : Nat) {j : Nat} {b : Bool} (hi : all[i]? = some ⟨some d, op, ty, pos, af, some (j, b)⟩) (hg : guardVal all σ j = some b) (hr : Region.ready .any all listed = [i]) (hop : MoveOp P op ty σ G μ (fun u G' μ' => u = v ∧ G' = G ∧ μ' = μ)) (hd : Nat.blt d n = true)
    (h : DVc P fn n B Φ all G0 ν m (listed.setIfInBounds i true) k ((d, v) :: σ) G μ) : DVc P fn n B Φ all G0 ν (m + 1) listed k σ G μ := by
  intro hsel hle hν
  exact d_execG i hi hg hr hop hd (fun u G' μ' ⟨h1, h2, h3⟩ => by rw [h1, h2, h3]; exact ⟨hν, h⟩) hsel hle hν
theorem d_read {ν : OH} (i : Nat) (hi : all[i]? = some ⟨some d, op, ty, pos, af, none⟩) (hr : Region.ready .any all listed = [i]) (hop : ReadOp P op ty σ G μ v) (hd : Nat.blt d n = true)
    (h : DVc P fn n B Φ all G0 ν m (listed.setIfInBounds i true) k ((d, v) :: σ) G μ) : DVc P fn n B Φ all G0 ν (m + 1) listed k σ G μ := d_keep i hi hr hop.move hd h
theorem d_store {ν μ' : OH} (i : Nat) {t : TypeId} {agg : Bool} {sz bytes : Nat} {zero u : Value} {p x : Operand} {b o : Nat} {e : TypeId} {us vs vs' : List Value} (hi : all[i]? = some ⟨none, .store t p x, ty, pos, af, none⟩) (hL : Lay P t agg sz bytes zero) (hr : Region.ready .any all listed = [i])
    (hp : Env.ev σ p = some (.pointer (some ⟨b, o, none⟩))) (hx : Env.ev σ x = some u) (hc : u.cells = us.toArray) (hsz : us.length = sz) (h1 : us.all Value.oneCell' = true) (hb : Has μ b vs e) (hfit : o + us.length ≤ vs.length) (hov : over vs o us = vs') (hu : Upd b (.cells vs'.toArray e (0, 0)) μ μ')
    (hν' : ∀ e ∈ ν, e ∈ μ') (h : DVc P fn n B Φ all G0 ν m (listed.setIfInBounds i true) k σ G μ') : DVc P fn n B Φ all G0 ν (m + 1) listed k σ G μ :=
  d_exec0 i hi hr (m_store hp hx hc hsz h1 hb hfit hov hu) (fun _ _ _ ⟨h1, h2⟩ => by rw [h1, h2]; exact ⟨hν', h⟩)
theorem d_call {ν : OH} (i : Nat) {f : FuncId} [Callable P f] {args : List Operand} {ts : Array TypeId} {vs : List Value} {μ1 μ2 : OH} {Ψ : Value → GH → OH → Prop} (hi : all[i]? = some ⟨some d, .call { callee := .value (.func f), args := args.toArray, argTypes := ts }, ty, pos, af, none⟩) (hr : Region.ready .any all listed = [i])
    (ha : Env.evs σ args = some vs) (hs : Con P f vs.toArray G μ1 Ψ) (hp : μ.Perm (μ1 ++ μ2)) (hd : Nat.blt d n = true) (hν' : ∀ e ∈ ν, e ∈ μ2) (h : ∀ v G' μ1', GH.le G G' → Ψ v G' μ1' → DVc P fn n B Φ all G0 ν m (listed.setIfInBounds i true) k ((d, v) :: σ) G' (μ1' ++ μ2)) : DVc P fn n B Φ all G0 ν (m + 1) listed k σ G μ :=
  d_exec i hi hr (m_callF ha hs hp) hd (fun _ _ _ ⟨_, hle, h1, h2⟩ => by rw [h2]; exact ⟨fun e he => List.mem_append_right _ (hν' e he), h _ _ _ hle h1⟩)
theorem d_callG {ν : OH} (i : Nat) {j : Nat} {b : Bool} {f : FuncId} [Callable P f] {args : List Operand} {ts : Array TypeId} {vs : List Value} {μ1 μ2 : OH} {Ψ : Value → GH → OH → Prop} (hi : all[i]? = some ⟨some d, .call { callee := .value (.func f), args := args.toArray, argTypes := ts }, ty, pos, af, some (j, b)⟩) (hg : guardVal all σ j = some b) (hr : Region.ready .any all listed = [i])
    (ha : Env.evs σ args = some vs) (hs : Con P f vs.toArray G μ1 Ψ) (hp : μ.Perm (μ1 ++ μ2)) (hd : Nat.blt d n = true) (hν' : ∀ e ∈ ν, e ∈ μ2) (h : ∀ v G' μ1', GH.le G G' → Ψ v G' μ1' → DVc P fn n B Φ all G0 ν m (listed.setIfInBounds i true) k ((d, v) :: σ) G' (μ1' ++ μ2)) : DVc P fn n B Φ all G0 ν (m + 1) listed k σ G μ :=
  d_execG i hi hg hr (m_callF ha hs hp) hd (fun _ _ _ ⟨_, hle, h1, h2⟩ => by rw [h2]; exact ⟨fun e he => List.mem_append_right _ (hν' e he), h _ _ _ hle h1⟩)
theorem d_guardB {ν : OH} (i : Nat) {o : Oper} {j t : Nat} {c b : Bool} (hi : all[i]? = some o) (hgd : o.guard = some (j, c)) (h1 : (all[j]?).bind (·.dst) = some t) (h2 : Env.get σ t = some (.bool b))
    (ht : b = true → DVc P fn n B Φ all G0 ν m listed k ((t, .bool true) :: σ) G μ) (hf : b = false → DVc P fn n B Φ all G0 ν m listed k ((t, .bool false) :: σ) G μ) : DVc P fn n B Φ all G0 ν m listed k σ G μ := by
  have key : ∀ x, b = x → ∀ i v, Env.get ((t, .bool x) :: σ) i = some v → Env.get σ i = some v := by
    intro x hx i v hi
    rw [Env.get_cons] at hi
    by_cases hti : t = i
    · subst hti; rw [if_pos rfl] at hi; rw [h2, hx]; exact hi
    · rwa [if_neg hti] at hi
  intro hsel hle hν w hw a ha
  cases hb : b
  · exact hf hb hsel hle hν w hw a (ha.sub' (key false hb) hb h2)
  · exact ht hb hsel hle hν w hw a (ha.sub' (key true hb) hb h2)
end
attribute [irreducible] DVc
end Go.Vx
