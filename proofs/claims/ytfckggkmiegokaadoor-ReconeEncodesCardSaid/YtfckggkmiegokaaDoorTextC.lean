/-
  Texts (layer 5), the third part: what the program's readers answer: the same.
-/
import Derived.Test.YtfckggkmiegokaaDoorTextB
import Derived.Shelf.Unicode.DecodeAny
set_option linter.unusedSimpArgs false
set_option linter.unusedVariables false
namespace Go.Proofs.YtfckggkmiegokaaDoor
open Go.Vx Go.ChangeShapes Go.WideShapes Go.ChangeAt Go.RowKit
/-! ### Plain lists of runes, by the model's decoder -/
def allF (f : Nat → Bool) (s : ByteArray) : Nat → Nat → Bool
  | 0, _ => true
  | n + 1, p => if p < s.size then (if f (Utf8.decode s p).1 = true then allF f s n (p + (Utf8.decode s p).2) else false) else true
theorem allF_end {f : Nat → Bool} {s : ByteArray} {n p : Nat} (h : ¬ p < s.size) : allF f s n p = true := by
  cases n with
  | zero => rfl
  | succ n => unfold allF; rw [if_neg h]
theorem decode_w (s : ByteArray) (p : Nat) (h : p < s.size) : 1 ≤ (Utf8.decode s p).2 ∧ (Utf8.decode s p).2 ≤ 4 ∧ (Utf8.decode s p).1 < 1114112 := by
  rw [decode_of_sz s p h]
  have h4 := szR_le s p
  have h5 : (szR s p).2 ≤ 1114111 := by
    have := byt_lt s p
    unfold szR szFin
    repeat' split
    all_goals (try simp only); omega
  split
  · simp
  · simp only; omega
theorem allF_plain (s : ByteArray) : ∀ n p, s.size ≤ p + n → (decide (badR s n p < 0) && allF (fun r => decide (plainP (r : Int))) s n p) = keyR s n p
  | 0, p, h => by simp [badR, allF, keyR]
  | n + 1, p, h => by
    unfold badR allF keyR
    by_cases hp : p < s.size
    · simp only [if_pos hp]
      rw [decode_of_sz s p hp]
      by_cases hz : (szR s p).1 = 0
      · simp only [if_pos hz]
        simp; omega
      · simp only [if_neg hz]
        by_cases hf : plainP ((szR s p).2 : Int)
        · simp only [decide_eq_true hf, if_true, if_pos hf]
          exact allF_plain s n _ (by omega)
        · simp [hf]
    · simp [hp]
theorem szFin_spec {s : ByteArray} {i m low v : Nat} (h : (szFin s i m low v).1 ≠ 0) : ¬ s.size < i + (m + 1) ∧ contB s i m = true ∧ szFin s i m low v = (m + 1, acc s i v m) ∧ low ≤ acc s i v m := by
  by_cases h1 : s.size < i + (m + 1)
  · rw [szFin_short h1] at h; exact absurd rfl h
  cases h2 : contB s i m with
  | false => rw [szFin_cont h2] at h; exact absurd rfl h
  | true =>
    by_cases h3 : acc s i v m < low ∨ 1114111 < acc s i v m ∨ (55296 ≤ acc s i v m ∧ acc s i v m ≤ 57343)
    · rw [szFin_low h3] at h; exact absurd rfl h
    · exact ⟨h1, rfl, szFin_ok h1 h2 h3, by omega⟩
theorem cont_bytes {s : ByteArray} {i m : Nat} (h : contB s i m = true) : ∀ k, k < m → 128 ≤ byt s (i + (k + 1)) := by
  intro k hk
  have h1 : (contB s i k && (decide (128 ≤ byt s (i + (k + 1))) && decide (byt s (i + (k + 1)) ≤ 191))) = true := contB_mono h (k := k + 1) (by omega)
  simp only [Bool.and_eq_true, decide_eq_true_eq] at h1
  exact h1.2.1
theorem szFin_bytes {s : ByteArray} {i m low v : Nat} (hb : 128 ≤ byt s i) (hl : 128 ≤ low) (h : (szFin s i m low v).1 ≠ 0) : ((decide (32 ≤ (szFin s i m low v).2) && decide ((szFin s i m low v).2 ≠ 127)) = true ↔ ∀ j, i ≤ j → j < i + (szFin s i m low v).1 → 32 ≤ byt s j ∧ byt s j ≠ 127) ∧ i + (szFin s i m low v).1 ≤ s.size := by
  obtain ⟨h1, h2, h3, h4⟩ := szFin_spec h
  rw [h3]
  simp only [Bool.and_eq_true, decide_eq_true_eq]
  refine ⟨⟨fun _ j hj hj2 => ?_, fun _ => by omega⟩, by omega⟩
  by_cases e : j = i
  · subst e; omega
  · have := cont_bytes h2 (j - i - 1) (by omega)
    rw [show i + (j - i - 1 + 1) = j by omega] at this
    omega
theorem sz_both (s : ByteArray) (p : Nat) (hz : ¬ (szR s p).1 = 0) : ((decide (32 ≤ (szR s p).2) && decide ((szR s p).2 ≠ 127)) = true ↔ ∀ i, p ≤ i → i < p + (szR s p).1 → 32 ≤ byt s i ∧ byt s i ≠ 127) ∧ (p < s.size → p + (szR s p).1 ≤ s.size) := by
  unfold szR at hz ⊢
  by_cases c0 : byt s p < 128
  · simp only [if_pos c0] at hz ⊢
    simp only [Bool.and_eq_true, decide_eq_true_eq]
    refine ⟨⟨fun h i h1 h2 => ?_, fun h => h p (by omega) (by omega)⟩, by omega⟩
    obtain rfl : i = p := by omega
    exact h
  · simp only [if_neg c0] at hz ⊢
    by_cases c1 : 194 ≤ byt s p ∧ byt s p ≤ 223
    · simp only [if_pos c1] at hz ⊢
      have := szFin_bytes (by omega) (by omega) hz
      exact ⟨this.1, fun _ => this.2⟩
    · simp only [if_neg c1] at hz ⊢
      by_cases c2 : 224 ≤ byt s p ∧ byt s p ≤ 239
      · simp only [if_pos c2] at hz ⊢
        have := szFin_bytes (by omega) (by omega) hz
        exact ⟨this.1, fun _ => this.2⟩
      · simp only [if_neg c2] at hz ⊢
        by_cases c3 : 240 ≤ byt s p ∧ byt s p ≤ 244
        · simp only [if_pos c3] at hz ⊢
          have := szFin_bytes (by omega) (by omega) hz
          exact ⟨this.1, fun _ => this.2⟩
        · simp only [if_neg c3] at hz
          exact absurd trivial hz
theorem sz_bytes (s : ByteArray) (p : Nat) (hz : ¬ (szR s p).1 = 0) : ((decide (32 ≤ (szR s p).2) && decide ((szR s p).2 ≠ 127)) = true ↔ ∀ i, p ≤ i → i < p + (szR s p).1 → 32 ≤ byt s i ∧ byt s i ≠ 127) := (sz_both s p hz).1
theorem sz_end (s : ByteArray) (p : Nat) (hz : ¬ (szR s p).1 = 0) (h : p < s.size) : p + (szR s p).1 ≤ s.size := (sz_both s p hz).2 h
theorem allF_val (s : ByteArray) : ∀ n p, s.size ≤ p + n → badR s n p < 0 → (allF (fun r => decide (32 ≤ r) && decide (r ≠ 127)) s n p = true ↔ ∀ i, p ≤ i → i < s.size → 32 ≤ byt s i ∧ byt s i ≠ 127)
  | 0, p, h, _ => by
    simp only [allF, true_iff]
    intro i h1 h2; omega
  | n + 1, p, h, hb => by
    unfold badR at hb
    unfold allF
    by_cases hp : p < s.size
    · rw [if_pos hp] at hb ⊢
      rw [decode_of_sz s p hp]
      by_cases hz : (szR s p).1 = 0
      · rw [if_pos hz] at hb; omega
      · rw [if_neg hz] at hb
        simp only [if_neg hz]
        have ih := allF_val s n (p + (szR s p).1) (by omega) hb
        have key : ((decide (32 ≤ (szR s p).2) && decide ((szR s p).2 ≠ 127)) = true) ↔ ∀ i, p ≤ i → i < p + (szR s p).1 → 32 ≤ byt s i ∧ byt s i ≠ 127 := sz_bytes s p hz
        by_cases hf : (decide (32 ≤ (szR s p).2) && decide ((szR s p).2 ≠ 127)) = true
        · rw [if_pos hf, ih]
          have hk := key.1 hf
          constructor
          · intro hh i h1 h2
            by_cases hi : i < p + (szR s p).1
            · exact hk i h1 hi
            · exact hh i (by omega) h2
          · intro hh i h1 h2
            exact hh i (by omega) h2
        · rw [if_neg hf]
          constructor
          · intro hh; cases hh
          · intro hh
            have := key.2 fun i h1 h2 => hh i h1 (by have := sz_end s p hz hp; omega)
            rw [this] at hf; exact absurd rfl hf
    · rw [if_neg hp]
      simp only [true_iff]
      intro i h1 h2; omega
/-! ### The library's decoder -/
def laysDecode_ren : Go.Shelf.Ren := ⟨fun | 197 => 118 | 260 => 119 | n => n, fun | 0 => 0 | 3 => 3 | 4 => 4 | 5 => 5 | 9 => 9 | 21 => 21 | 46 => 117 | 105 => 127 | 119 => 129 | 138 => 131 | 139 => 132 | n => n, fun | 3 => 0 | 4 => 1 | n => n⟩
theorem laysDecode : Lays.n197 Tryd.prog laysDecode_ren where
  mixed := by kernel_rfl
  f197 := Tryd.func118.trans (congrArg some (by kernel_rfl))
  f260 := Tryd.func119.trans (congrArg some (by kernel_rfl))
  t0 := Tryd.underlying0
  a0 := Tryd.isAgg0
  z0 := Tryd.sizeOf0
  v0 := Tryd.zeroValue0
  t3 := Tryd.underlying3
  a3 := Tryd.isAgg3
  z3 := Tryd.sizeOf3
  v3 := Tryd.zeroValue3
  t4 := Tryd.underlying4
  a4 := Tryd.isAgg4
  z4 := Tryd.sizeOf4
  v4 := Tryd.zeroValue4
  t5 := Tryd.underlying5
  a5 := Tryd.isAgg5
  z5 := Tryd.sizeOf5
  v5 := Tryd.zeroValue5
  t9 := Tryd.underlying9
  a9 := Tryd.isAgg9
  z9 := Tryd.sizeOf9
  v9 := Tryd.zeroValue9
  t21 := Tryd.underlying21
  a21 := Tryd.isAgg21
  z21 := Tryd.sizeOf21
  v21 := Tryd.zeroValue21
  t46 := Tryd.underlying117
  a46 := Tryd.isAgg117
  z46 := Tryd.sizeOf117
  v46 := Tryd.zeroValue117
  t105 := Tryd.underlying127
  a105 := Tryd.isAgg127
  z105 := Tryd.sizeOf127
  v105 := Tryd.zeroValue127
  t119 := Tryd.underlying129
  a119 := Tryd.isAgg129
  z119 := Tryd.sizeOf129
  t138 := Tryd.underlying131
  a138 := Tryd.isAgg131
  z138 := Tryd.sizeOf131
  v138 := Tryd.zeroValue131
  t139 := Tryd.underlying132
  a139 := Tryd.isAgg132
  z139 := Tryd.sizeOf132
  v139 := Tryd.zeroValue132
  g3 := by kernel_rfl
  g4 := by kernel_rfl

/-- What is frozen shows the two tables of unicode/utf8. -/
def TabsG (G : GH) : Prop := ∀ w : World, (∀ b o, G b = some o → w.heap[b]? = some o) → Lib.Utf8Tabs (laysDecode_ren.g 3) (laysDecode_ren.g 4) w
theorem TabsG.le {G G' : GH} (h : TabsG G) (hle : GH.le G G') : TabsG G' := fun w hw => h w fun b o hb => hw b o (hle b o hb)
attribute [local semireducible] Con in
theorem Con.ofCalls {P : Program} {f : FuncId} {args : Array Value} {G : GH} {μ : OH} {Φ : Value → GH → OH → Prop} (h : ∀ w, Mem G μ w → Calls P f args w fun e w' => ∃ v, e = .returned v ∧ ∃ G' μ', Step G μ w G' μ' w' ∧ Φ v G' μ') : Con P f args G μ Φ := by
  intro w hw
  exact (h w hw).mono fun e w' hq => by
    obtain ⟨v, rfl, hv⟩ := hq
    exact ⟨v, rfl, hv⟩
/-- A callee that leaves all below as it was is a step of ours that gives nothing back. -/
theorem Step.ofBelow {G : GH} {w w' : World} (hw : Mem G [] w) (hb : Below w.heap.size w w') : Step G [] w G [] w' :=
  ⟨⟨fun b o h => by rw [hb.block b (lt_of_heap (hw.g b o h))]; exact hw.g b o h, fun _ _ h => (by cases h), List.nodup_nil, fun _ _ h => (by cases h)⟩, GH.le_refl _, hb.os, hb.tape, hb.output, hb.size, fun b h _ => hb.block b h, fun _ _ h => (by cases h), fun b o h => .inl ⟨o, h⟩⟩
theorem decode_s {G : GH} (hT : TabsG G) (s : ByteArray) : Con Tryd.prog 118 #[.string s] G [] (Just (.tuple [.int .i32 ((Lib.decodeGo s).1 : Int), .int .i64 ((Lib.decodeGo s).2 : Int)].toArray) G) := by
  refine Con.ofCalls fun w hw => ?_
  refine (Any.utf8_DecodeRuneInString laysDecode s w (hT w hw.g)).mono ?_
  rintro e w' ⟨rfl, hb⟩
  exact ⟨_, rfl, G, [], Step.ofBelow hw hb, rfl, rfl, rfl⟩
end Go.Proofs.YtfckggkmiegokaaDoor
