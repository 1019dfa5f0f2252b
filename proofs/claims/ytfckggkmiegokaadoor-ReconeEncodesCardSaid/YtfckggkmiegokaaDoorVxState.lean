/-
  VX, THE STATE: memory as a walk sees it: G, what is frozen from here on (block by block); μ, the blocks that are ours, with what they hold. No world is named in a walk's goals.
-/
import Derived.Test.YtfckggkmiegokaaDoorVxCore
set_option linter.unusedVariables false
set_option linter.unusedSimpArgs false
namespace Go.Vx
open Go

abbrev GH := Nat → Option Obj
abbrev OH := List (Nat × Obj)

def GH.le (G G' : GH) : Prop := ∀ b o, G b = some o → G' b = some o
theorem GH.le_refl (G : GH) : GH.le G G := fun _ _ h => h
theorem GH.le_trans {G G' G'' : GH} (h : GH.le G G') (h' : GH.le G' G'') : GH.le G G'' := fun b o hb => h' b o (h b o hb)

structure Mem (G : GH) (μ : OH) (w : World) : Prop where
  g : ∀ b o, G b = some o → w.heap[b]? = some o
  own : ∀ b o, (b, o) ∈ μ → w.heap[b]? = some o
  nodup : (μ.map (·.1)).Nodup
  apart : ∀ b o, (b, o) ∈ μ → G b = none

/-- The world shows what is frozen and what is ours. -/
structure Sees (G : GH) (μ : OH) (w : World) : Prop where
  g : ∀ b o, G b = some o → w.heap[b]? = some o
  own : ∀ b o, (b, o) ∈ μ → w.heap[b]? = some o
theorem Mem.sees {G : GH} {μ : OH} {w : World} (h : Mem G μ w) : Sees G μ w := ⟨h.g, h.own⟩
theorem Mem.seesOf {G G0 : GH} {μ ν : OH} {w : World} (h : Mem G μ w) (hle : GH.le G0 G) (hs : ∀ e ∈ ν, e ∈ μ) : Sees G0 ν w :=
  ⟨fun b o hb => h.g b o (hle b o hb), fun b o hb => h.own b o (hs _ hb)⟩

structure Step (G : GH) (μ : OH) (w : World) (G' : GH) (μ' : OH) (w' : World) : Prop where
  mem : Mem G' μ' w'
  le : GH.le G G'
  os : w'.os = w.os
  tape : w'.tape = w.tape
  output : w'.output = w.output
  size : w.heap.size ≤ w'.heap.size
  same : ∀ b, b < w.heap.size → (∀ o, (b, o) ∉ μ) → w'.heap[b]? = w.heap[b]?
  mine : ∀ b o, (b, o) ∈ μ' → (∃ o', (b, o') ∈ μ) ∨ w.heap.size ≤ b
  ours : ∀ b o, G' b = some o → (∃ o', G b = some o') ∨ (∃ o', (b, o') ∈ μ) ∨ w.heap.size ≤ b

theorem lt_of_heap {w : World} {b : Nat} {o : Obj} (h : w.heap[b]? = some o) : b < w.heap.size := by
  rcases Nat.lt_or_ge b w.heap.size with h' | h'
  · exact h'
  · rw [Array.getElem?_eq_none h'] at h; cases h

theorem Step.refl {G : GH} {μ : OH} {w : World} (h : Mem G μ w) : Step G μ w G μ w :=
  ⟨h, GH.le_refl _, rfl, rfl, rfl, Nat.le_refl _, fun _ _ _ => rfl, fun _ o h => .inl ⟨o, h⟩, fun _ o h => .inl ⟨o, h⟩⟩
theorem Step.trans {G G' G'' : GH} {μ μ' μ'' : OH} {w w' w'' : World} (h : Step G μ w G' μ' w') (k : Step G' μ' w' G'' μ'' w'') : Step G μ w G'' μ'' w'' where
  mem := k.mem
  le := GH.le_trans h.le k.le
  os := k.os.trans h.os
  tape := k.tape.trans h.tape
  output := k.output.trans h.output
  size := Nat.le_trans h.size k.size
  same := fun b hb hn => by
    refine (k.same b (Nat.lt_of_lt_of_le hb h.size) fun o ho => ?_).trans (h.same b hb hn)
    rcases h.mine b o ho with ⟨o', h'⟩ | h'
    · exact hn o' h'
    · omega
  mine := fun b o ho => by
    rcases k.mine b o ho with ⟨o', h'⟩ | h'
    · exact h.mine b o' h'
    · exact .inr (Nat.le_trans h.size h')
  ours := fun b o ho => by
    rcases k.ours b o ho with ⟨o', h'⟩ | ⟨o', h'⟩ | h'
    · exact h.ours b o' h'
    · rcases h.mine b o' h' with h2 | h2
      · exact .inr (.inl h2)
      · exact .inr (.inr h2)
    · exact .inr (.inr (Nat.le_trans h.size h'))

/-- What is ours may be fewer blocks. -/
theorem Step.drop {G G' : GH} {μ μ' μ'' : OH} {w w' : World} (h : Step G μ w G' μ' w') (hs : List.Sublist μ'' μ') : Step G μ w G' μ'' w' where
  mem := ⟨h.mem.g, fun b o ho => h.mem.own b o (hs.subset ho), h.mem.nodup.sublist (hs.map _), fun b o ho => h.mem.apart b o (hs.subset ho)⟩
  le := h.le
  os := h.os
  tape := h.tape
  output := h.output
  size := h.size
  same := h.same
  mine := fun b o ho => h.mine b o (hs.subset ho)
  ours := h.ours
theorem Mem.perm {G : GH} {μ μ' : OH} {w : World} (h : Mem G μ w) (hp : μ.Perm μ') : Mem G μ' w :=
  ⟨h.g, fun b o ho => h.own b o (hp.mem_iff.2 ho), (hp.map _).nodup_iff.1 h.nodup, fun b o ho => h.apart b o (hp.mem_iff.2 ho)⟩
theorem Step.perm {G G' : GH} {μ μ' μ'' : OH} {w w' : World} (h : Step G μ w G' μ' w') (hp : μ'.Perm μ'') : Step G μ w G' μ'' w' where
  mem := h.mem.perm hp
  le := h.le
  os := h.os
  tape := h.tape
  output := h.output
  size := h.size
  same := h.same
  mine := fun b o ho => h.mine b o (hp.mem_iff.2 ho)
  ours := h.ours
theorem Step.permL {G G' : GH} {μ μ' ν : OH} {w w' : World} (h : Step G μ w G' μ' w') (hp : μ.Perm ν) : Step G ν w G' μ' w' where
  mem := h.mem
  le := h.le
  os := h.os
  tape := h.tape
  output := h.output
  size := h.size
  same := fun b hb hn => h.same b hb fun o ho => hn o (hp.mem_iff.1 ho)
  mine := fun b o ho => by
    rcases h.mine b o ho with ⟨o', h'⟩ | h'
    · exact .inl ⟨o', hp.mem_iff.1 h'⟩
    · exact .inr h'
  ours := fun b o ho => by
    rcases h.ours b o ho with h' | ⟨o', h'⟩ | h'
    · exact .inl h'
    · exact .inr (.inl ⟨o', hp.mem_iff.1 h'⟩)
    · exact .inr (.inr h')

theorem Mem.split {G : GH} {μ ν : OH} {w : World} (h : Mem G (μ ++ ν) w) : Mem G μ w ∧ Mem G ν w := by
  obtain ⟨hg, ho, hn, ha⟩ := h
  rw [List.map_append, List.nodup_append] at hn
  exact ⟨⟨hg, fun b o hb => ho b o (List.mem_append_left _ hb), hn.1, fun b o hb => ha b o (List.mem_append_left _ hb)⟩,
    ⟨hg, fun b o hb => ho b o (List.mem_append_right _ hb), hn.2.1, fun b o hb => ha b o (List.mem_append_right _ hb)⟩⟩
/-- THE FRAME: a step of some of our blocks leaves the others as they are. -/
theorem Step.frame {G G' : GH} {μ μ' ν : OH} {w w' : World} (h : Step G μ w G' μ' w') (hm : Mem G (μ ++ ν) w) : Step G (μ ++ ν) w G' (μ' ++ ν) w' := by
  obtain ⟨hμ, hν⟩ := hm.split
  have hn := hm.nodup
  rw [List.map_append, List.nodup_append] at hn
  have notin : ∀ b o, (b, o) ∈ ν → ∀ o', (b, o') ∉ μ := fun b o hb o' hb' =>
    hn.2.2 b (List.mem_map.2 ⟨_, hb', rfl⟩) b (List.mem_map.2 ⟨_, hb, rfl⟩) rfl
  have hlt : ∀ b o, (b, o) ∈ ν → b < w.heap.size := fun b o hb => lt_of_heap (hν.own b o hb)
  refine ⟨⟨h.mem.g, fun b o hb => ?_, ?_, fun b o hb => ?_⟩, h.le, h.os, h.tape, h.output, h.size, fun b hb hno => h.same b hb fun o ho => hno o (List.mem_append_left _ ho), fun b o hb => ?_, fun b o hb => ?_⟩
  · rcases List.mem_append.1 hb with hb | hb
    · exact h.mem.own b o hb
    · rw [h.same b (hlt b o hb) (notin b o hb)]; exact hν.own b o hb
  · rw [List.map_append, List.nodup_append]
    refine ⟨h.mem.nodup, hn.2.1, fun x hx y hy hxy => ?_⟩
    subst hxy
    obtain ⟨⟨b, o⟩, hb, rfl⟩ := List.mem_map.1 hx
    obtain ⟨⟨b', o'⟩, hb', he⟩ := List.mem_map.1 hy
    simp only at he
    subst he
    rcases h.mine _ _ hb with ⟨o2, h2⟩ | h2
    · exact notin _ _ hb' _ h2
    · have := hlt _ _ hb'; omega
  · rcases List.mem_append.1 hb with hb | hb
    · exact h.mem.apart b o hb
    · cases hg : G' b with
      | none => rfl
      | some o2 =>
        rcases h.ours b o2 hg with ⟨o3, h3⟩ | ⟨o3, h3⟩ | h3
        · rw [hν.apart b o hb] at h3; cases h3
        · exact absurd h3 (notin b o hb o3)
        · have := hlt b o hb; omega
  · rcases List.mem_append.1 hb with hb | hb
    · rcases h.mine b o hb with ⟨o', h'⟩ | h'
      · exact .inl ⟨o', List.mem_append_left _ h'⟩
      · exact .inr h'
    · exact .inl ⟨o, List.mem_append_right _ hb⟩
  · rcases h.ours b o hb with h' | ⟨o', h'⟩ | h'
    · exact .inl h'
    · exact .inr (.inl ⟨o', List.mem_append_left _ h'⟩)
    · exact .inr (.inr h')

/-! ### Elementary steps -/
theorem Step.alloc {G : GH} {μ : OH} {w : World} (h : Mem G μ w) (o : Obj) : Step G μ w G ((w.heap.size, o) :: μ) (w.alloc o) := by
  have hold : ∀ b, b < w.heap.size → (w.alloc o).heap[b]? = w.heap[b]? := fun b hb => RowKit.Below.heap_alloc w o b hb
  have hnew : (w.alloc o).heap[w.heap.size]? = some o := by show (w.heap.push o)[w.heap.size]? = _; simp
  refine ⟨⟨fun b o' hb => ?_, fun b o' hb => ?_, ?_, fun b o' hb => ?_⟩, GH.le_refl _, rfl, rfl, rfl, by rw [World.size_alloc]; omega, fun b hb _ => hold b hb, fun b o' hb => ?_, fun b o' hb => .inl ⟨o', hb⟩⟩
  · rw [hold b (lt_of_heap (h.g b o' hb))]; exact h.g b o' hb
  · rcases List.mem_cons.1 hb with he | hb
    · cases he; exact hnew
    · rw [hold b (lt_of_heap (h.own b o' hb))]; exact h.own b o' hb
  · rw [List.map_cons, List.nodup_cons]
    refine ⟨fun hm => ?_, h.nodup⟩
    obtain ⟨⟨b, o'⟩, hb, he⟩ := List.mem_map.1 hm
    simp only at he
    have := lt_of_heap (h.own b o' hb); omega
  · rcases List.mem_cons.1 hb with he | hb
    · cases he
      cases hg : G w.heap.size with
      | none => rfl
      | some o2 => have := lt_of_heap (h.g _ _ hg); omega
    · exact h.apart b o' hb
  · rcases List.mem_cons.1 hb with he | hb
    · cases he; exact .inr (Nat.le_refl _)
    · exact .inl ⟨o', hb⟩
theorem Step.drew {G : GH} {μ : OH} {w : World} (h : Mem G μ w) (n : Nat) : Step G μ w G μ (w.drewN n) :=
  ⟨⟨h.g, h.own, h.nodup, h.apart⟩, GH.le_refl _, rfl, rfl, rfl, Nat.le_refl _, fun _ _ _ => rfl, fun _ o h => .inl ⟨o, h⟩, fun _ o h => .inl ⟨o, h⟩⟩
/-- One of our blocks holds something else. -/
inductive Upd (b : Nat) (o' : Obj) : OH → OH → Prop
  | here (o : Obj) (μ : OH) : Upd b o' ((b, o) :: μ) ((b, o') :: μ)
  | there (e : Nat × Obj) {μ μ' : OH} (h : Upd b o' μ μ') : Upd b o' (e :: μ) (e :: μ')
theorem Upd.app {b : Nat} {o' : Obj} {μ μ' : OH} (ν : OH) (h : Upd b o' μ μ') : Upd b o' (ν ++ μ) (ν ++ μ') := by
  induction ν with
  | nil => exact h
  | cons e ν ih => exact .there e ih
theorem Upd.keys {b : Nat} {o' : Obj} {μ μ' : OH} (h : Upd b o' μ μ') : μ'.map (·.1) = μ.map (·.1) := by
  induction h with
  | here o μ => rfl
  | there e h ih => simp [ih]
theorem Upd.mem {b : Nat} {o' : Obj} {μ μ' : OH} (h : Upd b o' μ μ') (hn : (μ.map (·.1)).Nodup) {c : Nat} {o : Obj} (hc : (c, o) ∈ μ') : (c = b ∧ o = o') ∨ (c ≠ b ∧ (c, o) ∈ μ) := by
  induction h with
  | here o2 μ =>
    rcases List.mem_cons.1 hc with he | hm
    · cases he; exact .inl ⟨rfl, rfl⟩
    · rw [List.map_cons, List.nodup_cons] at hn
      refine .inr ⟨fun e => ?_, List.mem_cons_of_mem _ hm⟩
      subst e
      exact hn.1 (List.mem_map.2 ⟨_, hm, rfl⟩)
  | there e h ih =>
    rw [List.map_cons, List.nodup_cons] at hn
    rcases List.mem_cons.1 hc with he | hc
    · subst he
      by_cases hb : c = b
      · subst hb
        exfalso
        refine hn.1 ?_
        clear ih hc hn
        induction h with
        | here o2 μ => simp
        | there e h ih => exact List.mem_cons_of_mem _ ih
      · exact .inr ⟨hb, List.mem_cons_self ..⟩
    · rcases ih hn.2 hc with h1 | h1
      · exact .inl h1
      · exact .inr ⟨h1.1, List.mem_cons_of_mem _ h1.2⟩
theorem Upd.was {b : Nat} {o' : Obj} {μ μ' : OH} (h : Upd b o' μ μ') : ∃ o, (b, o) ∈ μ := by
  induction h with
  | here o μ => exact ⟨o, List.mem_cons_self ..⟩
  | there e h ih => exact ⟨ih.choose, List.mem_cons_of_mem _ ih.choose_spec⟩
theorem Step.upd {G : GH} {μ μ' : OH} {w w' : World} {b : Nat} {o' : Obj} (h : Mem G μ w) (hu : Upd b o' μ μ') (hos : w'.os = w.os) (ht : w'.tape = w.tape) (hout : w'.output = w.output)
    (hsz : w'.heap.size = w.heap.size) (hb : w'.heap[b]? = some o') (hother : ∀ c, c ≠ b → w'.heap[c]? = w.heap[c]?) : Step G μ w G μ' w' := by
  obtain ⟨o0, h0⟩ := hu.was
  refine ⟨⟨fun c o hc => ?_, fun c o hc => ?_, by rw [hu.keys]; exact h.nodup, fun c o hc => ?_⟩, GH.le_refl _, hos, ht, hout, by omega, fun c hc hno => ?_, fun c o hc => ?_, fun c o hc => .inl ⟨o, hc⟩⟩
  · rw [hother c fun e => by subst e; rw [h.apart _ _ h0] at hc; cases hc]; exact h.g c o hc
  · rcases hu.mem h.nodup hc with ⟨rfl, rfl⟩ | ⟨hne, hm⟩
    · exact hb
    · rw [hother c hne]; exact h.own c o hm
  · rcases hu.mem h.nodup hc with ⟨rfl, rfl⟩ | ⟨hne, hm⟩
    · exact h.apart _ _ h0
    · exact h.apart _ _ hm
  · exact hother c fun e => by subst e; exact hno _ h0
  · rcases hu.mem h.nodup hc with ⟨rfl, rfl⟩ | ⟨hne, hm⟩
    · exact .inl ⟨_, h0⟩
    · exact .inl ⟨_, hm⟩
/-- What is ours is frozen from here on. -/
def GH.put (G : GH) (ν : OH) : GH := fun b => match G b with | some o => some o | none => (ν.find? fun e => e.1 == b).map (·.2)
theorem GH.le_put (G : GH) (ν : OH) : GH.le G (GH.put G ν) := fun b o h => by simp [GH.put, h]
theorem GH.put_mem {G : GH} {ν : OH} {b : Nat} {o : Obj} (hn : (ν.map (·.1)).Nodup) (ha : G b = none) (h : (b, o) ∈ ν) : GH.put G ν b = some o := by
  simp only [GH.put, ha]
  induction ν with
  | nil => cases h
  | cons e ν ih =>
    rw [List.map_cons, List.nodup_cons] at hn
    rcases List.mem_cons.1 h with he | hm
    · subst he; simp
    · have hne : e.1 ≠ b := fun he => hn.1 (he ▸ List.mem_map.2 ⟨_, hm, rfl⟩)
      simp only [List.find?_cons]
      have : (e.1 == b) = false := by simpa using hne
      rw [this]
      exact ih hn.2 hm
theorem GH.put_some {G : GH} {ν : OH} {b : Nat} {o : Obj} (h : GH.put G ν b = some o) : G b = some o ∨ (b, o) ∈ ν := by
  simp only [GH.put] at h
  cases hg : G b with
  | some o' => rw [hg] at h; exact .inl h
  | none =>
    rw [hg] at h
    simp only [Option.map_eq_some_iff] at h
    obtain ⟨e, he, rfl⟩ := h
    have h1 := List.mem_of_find?_eq_some he
    have h2 := List.find?_some he
    simp only [beq_iff_eq] at h2
    subst h2
    exact .inr h1
theorem Step.freeze {G G' : GH} {μ μ' ν : OH} {w w' : World} (h : Step G μ w G' (ν ++ μ') w') : Step G μ w (GH.put G' ν) μ' w' := by
  have hn := h.mem.nodup
  rw [List.map_append, List.nodup_append] at hn
  refine ⟨⟨fun b o hb => ?_, fun b o hb => h.mem.own b o (List.mem_append_right _ hb), hn.2.1, fun b o hb => ?_⟩, GH.le_trans h.le (GH.le_put _ _), h.os, h.tape, h.output, h.size, h.same, fun b o hb => h.mine b o (List.mem_append_right _ hb), fun b o hb => ?_⟩
  · rcases GH.put_some hb with hb | hb
    · exact h.mem.g b o hb
    · exact h.mem.own b o (List.mem_append_left _ hb)
  · cases hg : GH.put G' ν b with
    | none => rfl
    | some o2 =>
      rcases GH.put_some hg with h2 | h2
      · rw [h.mem.apart b o (List.mem_append_right _ hb)] at h2; cases h2
      · exact absurd rfl (hn.2.2 b (List.mem_map.2 ⟨_, h2, rfl⟩) b (List.mem_map.2 ⟨_, hb, rfl⟩))
  · rcases GH.put_some hb with hb | hb
    · exact h.ours b o hb
    · rcases h.mine b o (List.mem_append_left _ hb) with h1 | h1
      · exact .inr (.inl h1)
      · exact .inr (.inr h1)

/-! ### Contracts, and the judgement of a walk -/
/-- THE CONTRACT: whatever the world, if G is frozen there and the blocks of μ are there, the call returns, has written nothing but μ's blocks and its own, and Φ says what it returns, what is frozen then (G at least), and which blocks are the caller's then. -/
def Con (P : Program) (f : FuncId) (args : Array Value) (G : GH) (μ : OH) (Φ : Value → GH → OH → Prop) : Prop :=
  ∀ w, Mem G μ w → Ret P f args w fun v w' => ∃ G' μ', Step G μ w G' μ' w' ∧ Φ v G' μ'

theorem Con.mono {P : Program} {f : FuncId} {args : Array Value} {G : GH} {μ : OH} {Φ Φ' : Value → GH → OH → Prop} (h : Con P f args G μ Φ) (hv : ∀ v G' μ', Φ v G' μ' → Φ' v G' μ') : Con P f args G μ Φ' :=
  fun w hw => (h w hw).mono fun _ _ ⟨G', μ', hs, hΦ⟩ => ⟨G', μ', hs, hv _ _ _ hΦ⟩

structure Base where
  G : GH
  μ : OH
  w : World
def Fin (B : Base) (Φ : Value → GH → OH → Prop) (v : Value) (w : World) : Prop := ∃ G μ, Step B.G B.μ B.w G μ w ∧ Φ v G μ
def Vc (P : Program) (fn : Func) (n : Nat) (B : Base) (Φ : Value → GH → OH → Prop) (k : List It) (σ : Env) (G : GH) (μ : OH) : Prop :=
  ∀ w, Step B.G B.μ B.w G μ w → Run P fn n (Fin B Φ) k σ w

section
variable {P : Program} {fn : Func} {n : Nat} {B : Base} {Φ : Value → GH → OH → Prop} {k k' : List It} {σ σ' : Env} {G : GH} {μ : OH}

theorem v_enter {f : FuncId} {c : Code} {args : Array Value} (hf : P.funcs[f]? = some fn) (hb : fn.body = some c) (hn : fn.ntmps = n) (hm : Nat.ble args.size n = true)
    (h : ∀ B : Base, Vc P fn n B Φ [.code c] (Env.init 0 args.toList) G μ) : Con P f args G μ Φ :=
  fun w hw => enter hf hb hn hm (h ⟨G, μ, w⟩ w (Step.refl hw))

theorem v_seq {x y : Code} (h : Vc P fn n B Φ (.code x :: .code y :: k) σ G μ) : Vc P fn n B Φ (.code (.seq x y) :: k) σ G μ := fun w hw => run_seq (h w hw)
theorem v_skip (h : Vc P fn n B Φ k σ G μ) : Vc P fn n B Φ (.code .skip :: k) σ G μ := fun w hw => run_skip (h w hw)
theorem v_block {id : Nat} {c : Code} (h : Vc P fn n B Φ (.code c :: .blk id :: k) σ G μ) : Vc P fn n B Φ (.code (.block id c) :: k) σ G μ := fun w hw => run_block (h w hw)
theorem v_blk {id : Nat} (h : Vc P fn n B Φ k σ G μ) : Vc P fn n B Φ (.blk id :: k) σ G μ := fun w hw => run_blk (h w hw)
theorem v_exit {id : Nat} (hp : popTo id k = some k') (h : Vc P fn n B Φ k' σ G μ) : Vc P fn n B Φ (.code (.exit id) :: k) σ G μ := fun w hw => run_exit hp (h w hw)
theorem v_condT {c : Operand} {x y : Code} (hc : Env.ev σ c = some (.bool true)) (h : Vc P fn n B Φ (.code x :: k) σ G μ) : Vc P fn n B Φ (.code (.cond c x y) :: k) σ G μ := fun w hw => run_condT hc (h w hw)
theorem v_condF {c : Operand} {x y : Code} (hc : Env.ev σ c = some (.bool false)) (h : Vc P fn n B Φ (.code y :: k) σ G μ) : Vc P fn n B Φ (.code (.cond c x y) :: k) σ G μ := fun w hw => run_condF hc (h w hw)
theorem v_cond {c : Operand} {x y : Code} {b : Bool} (hc : Env.ev σ c = some (.bool b)) (ht : b = true → Vc P fn n B Φ (.code x :: k) σ G μ) (hf : b = false → Vc P fn n B Φ (.code y :: k) σ G μ) : Vc P fn n B Φ (.code (.cond c x y) :: k) σ G μ :=
  fun w hw => run_cond hc (fun hb => ht hb w hw) (fun hb => hf hb w hw)
theorem v_region {id : Nat} {l : List Oper} (h : Vc P fn n B Φ (.ops l.toArray l :: k) σ G μ) : Vc P fn n B Φ (.code (.region id l.toArray false) :: k) σ G μ := fun w hw => run_region (h w hw)
theorem v_nil {all : Array Oper} (h : Vc P fn n B Φ k σ G μ) : Vc P fn n B Φ (.ops all [] :: k) σ G μ := fun w hw => run_nil (h w hw)
/-- What the function's results hold: no memory is read for it. -/
def OutsA (P : Program) (fn : Func) (n : Nat) (σ : Env) (v : Value) : Prop := ∀ w, Outs P fn n σ w v
theorem outsA0 (hr : fn.results = #[]) : OutsA P fn n σ (.tuple #[]) := fun _ => outs0 hr
theorem outsA1 {t : Nat} {v : Value} (hr : fn.results = #[.tmp t]) (hv : Env.get σ t = some v) : OutsA P fn n σ v := fun _ => outs1 hr hv
theorem outsA2 {t u : Nat} {v x : Value} (hr : fn.results = #[.tmp t, .tmp u]) (hv : Env.get σ t = some v) (hx : Env.get σ u = some x) : OutsA P fn n σ (.tuple #[v, x]) := fun _ => outs2 hr hv hx
theorem outsA3 {t u s : Nat} {v x y : Value} (hr : fn.results = #[.tmp t, .tmp u, .tmp s]) (hv : Env.get σ t = some v) (hx : Env.get σ u = some x) (hy : Env.get σ s = some y) : OutsA P fn n σ (.tuple #[v, x, y]) := fun _ => outs3 hr hv hx hy
/-- The end: ν are the blocks that go to the caller. -/
theorem v_ret {v : Value} (ν : OH) (ho : OutsA P fn n σ v) (hs : List.Sublist ν μ) (h : Φ v G ν) : Vc P fn n B Φ (.code .ret :: k) σ G μ :=
  fun w hw => run_ret (ho w) ⟨G, ν, hw.drop hs, h⟩
theorem v_end {v : Value} (ν : OH) (ho : OutsA P fn n σ v) (hs : List.Sublist ν μ) (h : Φ v G ν) : Vc P fn n B Φ [] σ G μ :=
  fun w hw => run_end (ho w) ⟨G, ν, hw.drop hs, h⟩
/-- A loop: S: the slots that are handed on or read; J: what holds of them, of what is frozen and of what is ours. -/
theorem v_loop (S : List Nat) (J : List Value → GH → OH → Prop) (m : List Value → Nat) {body : Code} {vs : List Value} (hg : Env.gets σ S = some vs) (h0 : J vs G μ)
    (hr : ∀ vs G μ, J vs G μ → Vc P fn n B Φ (.code body :: .again S (fun vs' w' => (∃ G' μ', J vs' G' μ' ∧ Step B.G B.μ B.w G' μ' w') ∧ m vs' < m vs) :: k) (S.zip vs) G μ) : Vc P fn n B Φ (.code (.loop body) :: k) σ G μ := by
  intro w hw
  refine run_loop S (fun vs w => ∃ G μ, J vs G μ ∧ Step B.G B.μ B.w G μ w) (fun vs _ => m vs) hg ⟨G, μ, h0, hw⟩ ?_
  rintro us wr ⟨G', μ', hJ, hS⟩
  exact hr us G' μ' hJ wr hS
theorem v_again {S : List Nat} {J : List Value → GH → OH → Prop} {m : List Value → Nat} {N : Nat} {vs : List Value} (hg : Env.gets σ S = some vs) (hJ : J vs G μ) (hm : m vs < N) :
    Vc P fn n B Φ (.again S (fun vs' w' => (∃ G' μ', J vs' G' μ' ∧ Step B.G B.μ B.w G' μ' w') ∧ m vs' < N) :: k) σ G μ :=
  fun _ hw => run_again hg ⟨⟨G, μ, hJ, hw⟩, hm⟩
theorem v_perm {ν : OH} (hp : μ.Perm ν) (h : Vc P fn n B Φ k σ G ν) : Vc P fn n B Φ k σ G μ := fun w hw => h w (hw.perm hp)
theorem v_drop {ν : OH} (hs : List.Sublist ν μ) (h : Vc P fn n B Φ k σ G ν) : Vc P fn n B Φ k σ G μ := fun w hw => h w (hw.drop hs)
theorem v_freeze {ν : OH} (h : ∀ G', GH.le G G' → (∀ b o, (b, o) ∈ ν → G' b = some o) → Vc P fn n B Φ k σ G' μ) : Vc P fn n B Φ k σ G (ν ++ μ) := fun w hw => by
  have hn := hw.mem.nodup
  rw [List.map_append, List.nodup_append] at hn
  exact h (GH.put G ν) (GH.le_put _ _) (fun b o hb => GH.put_mem hn.1 (hw.mem.apart b o (List.mem_append_left _ hb)) hb) w hw.freeze
theorem v_weaken (hs : ∀ i v, Env.get σ' i = some v → Env.get σ i = some v) (h : Vc P fn n B Φ k σ' G μ) : Vc P fn n B Φ k σ G μ := fun w hw => (h w hw).weaken hs
end
attribute [irreducible] Vc Con
end Go.Vx
