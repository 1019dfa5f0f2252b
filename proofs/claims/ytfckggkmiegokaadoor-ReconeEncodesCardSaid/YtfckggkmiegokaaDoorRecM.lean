/-
  recone (layer 16), the fourteenth part: what a reader reads of a record, in plain Lean.
-/
import Derived.Test.YtfckggkmiegokaaDoorCmdG
import Derived.Test.YtfckggkmiegokaaDoorRecL
set_option linter.unusedSimpArgs false
set_option linter.unusedVariables false
namespace Go.Proofs.YtfckggkmiegokaaDoor
open Go.Vx Go.ChangeShapes Go.WideShapes Go.ChangeAt Go.RowKit
/-- Bytes, where there are any. -/
def byteS (s : Option (List Int)) : Prop := ∀ r, s = some r → ∀ x ∈ r, 0 ≤ x ∧ x ≤ 255
theorem numV_b {s : Option (List Int)} (h : byteS s) (most : Int) : 0 ≤ numV most s ∧ numV most s ≤ 9223372036854775807 := by
  unfold numV
  cases s with
  | none => simp
  | some r =>
    simp only
    cases hd : dvk 0 r with
    | none => simp
    | some p =>
      have := vbytes_dvk (m := p.1) (r' := p.2) (h r rfl) hd
      simp only
      split <;> omega
theorem dvk_sub {r : List Int} {m : Int} {r' : List Int} (h : dvk 0 r = some (m, r')) : ∀ x ∈ r', x ∈ r := fun x hx => by
  obtain ⟨-, h2⟩ := dvk_len r 0 m r' h
  rw [h2] at hx
  exact List.mem_of_mem_drop hx
theorem numS_b {s : Option (List Int)} (h : byteS s) (most : Int) : byteS (numS most s) := by
  unfold numS
  cases s with
  | none => exact h
  | some r =>
    simp only
    cases hd : dvk 0 r with
    | none => intro r h; cases h
    | some p =>
      simp only
      split
      · intro r h; cases h
      · intro r2 h2 x hx
        cases h2
        exact h r rfl x (dvk_sub (m := p.1) (r' := p.2) hd x hx)
theorem rawS_b {s : Option (List Int)} (h : byteS s) (most : Int) : byteS (rawS most s) := by
  unfold rawS
  cases s with
  | none => exact h
  | some r =>
    simp only
    cases hd : dvk 0 r with
    | none => intro r h; cases h
    | some p =>
      simp only
      split
      · intro r h; cases h
      · intro r2 h2 x hx
        cases h2
        exact h r rfl x (dvk_sub (m := p.1) (r' := p.2) hd x (List.mem_of_mem_drop hx))
theorem rawB_len (s : Option (List Int)) (most : Nat) : (rawB most s).length ≤ most := by
  unfold rawB
  cases s with
  | none => simp
  | some r =>
    simp only
    cases hd : dvk 0 r with
    | none => simp
    | some p =>
      simp only
      split
      · simp
      · rw [List.length_take]; omega
theorem partS_b {s : Option (List Int)} (h : byteS s) (j : Nat) : byteS (partS j s) := by
  unfold partS
  split
  · exact numS_b h _
  · exact rawS_b h _
theorem wf64 {n : Int} (h0 : 0 ≤ n ∧ n ≤ 9223372036854775807) : (Lit.int .i64 n).wf = true := by
  simp [Lit.wf, IntKind.min, IntKind.max, IntKind.signed, IntKind.bits]
  omega
theorem txt_len (s : Option (List Int)) : (strL (rawB 1048576 s)).size ≤ maxLen := by
  rw [strL_size]
  have := rawB_len s 1048576
  simp only [maxLen]
  exact Nat.le_trans this (by decide)
theorem setP_ok {c : Cm} (hc : c.ok) {s : Option (List Int)} (h : byteS s) (j : Nat) : (c.setP j s).ok := by
  obtain ⟨h1, h2, h3, h4, h5, h6, h7⟩ := hc
  have hn := wf64 (numV_b h 9223372036854775807)
  have ht := txt_len s
  unfold Cm.setP
  split <;> exact ⟨by assumption, by assumption, by assumption, by assumption, by assumption, by assumption, by assumption⟩
theorem zeroC_ok : zeroC.ok := ⟨by decide, by decide, by decide, by decide, by decide, by decide, by decide⟩
theorem getK_ok {s : Option (List Int)} (h : byteS s) : ∀ k, (getK s k).1.ok ∧ byteS (getK s k).2
  | 0 => ⟨⟨wf64 (numV_b h _), zeroC_ok.2⟩, numS_b h _⟩
  | k + 1 => by
    obtain ⟨h1, h2⟩ := getK_ok h k
    rw [getK]
    split
    · exact ⟨h1, h2⟩
    · exact ⟨setP_ok h1 h2 k, partS_b h2 k⟩
abbrev nV (s : Option (List Int)) : Int := numV 9223372036854775807 s
abbrev nS (s : Option (List Int)) : Option (List Int) := numS 9223372036854775807 s
/-- What is read of a record. -/
def decX (s : Option (List Int)) : Rc :=
  if nV s = 2 ∨ nV s = 3 then ⟨nV s, nV (nS s), nV (nS (nS s)), nV (nS (nS (nS s))), (getK (nS (nS (nS (nS s)))) 6).1, []⟩
  else if nV s = 4 then ⟨nV s, nV (nS s), nV (nS (nS s)), nV (nS (nS (nS s))), zeroC, rawB 32768 (nS (nS (nS (nS s))))⟩
  else ⟨nV s, nV (nS s), nV (nS (nS s)), nV (nS (nS (nS s))), zeroC, []⟩
def decS (s : Option (List Int)) : Option (List Int) :=
  if nV s = 2 ∨ nV s = 3 then (getK (nS (nS (nS (nS s)))) 6).2
  else if nV s = 4 then rawS 32768 (nS (nS (nS (nS s))))
  else nS (nS (nS (nS s)))
theorem decX_ok {s : Option (List Int)} (h : byteS s) : (decX s).cmd.ok := by
  have h4 := numS_b (numS_b (numS_b (numS_b h 9223372036854775807) 9223372036854775807) 9223372036854775807) 9223372036854775807
  unfold decX
  split
  · exact (getK_ok h4 6).1
  · split <;> exact zeroC_ok
/-! ### The bytes of a record lead back to it -/
theorem num_v {m : Int} (r : List Int) (h0 : 0 ≤ m) (h1 : m ≤ 9223372036854775807) : nV (some (vbytes m ++ r)) = m ∧ nS (some (vbytes m ++ r)) = some r := by
  simp only [nV, nS, numV, numS, dvk_vbytes r h0 h1]
  rw [if_neg (by omega), if_neg (by omega)]
  exact ⟨rfl, rfl⟩
theorem raw_v {most : Int} (bl r : List Int) (h : (bl.length : Int) ≤ most) (hm : bl.length ≤ 1048576) : rawB most (some (vbytes bl.length ++ bl ++ r)) = bl ∧ rawS most (some (vbytes bl.length ++ bl ++ r)) = some r := by
  rw [List.append_assoc]
  simp only [rawB, rawS, dvk_vbytes (m := bl.length) (bl ++ r) (by omega) (by omega), List.length_append]
  have e : ¬ (most < (bl.length : Int) ∨ ((bl.length + r.length : Nat) : Int) < bl.length) := by omega
  rw [if_neg e, if_neg e]
  simp
theorem part_num {c : Cm} {j : Nat} (hj : isNum j = true) (h0 : 0 ≤ c.num j) (h1 : c.num j ≤ 9223372036854775807) (r : List Int) : partS j (some (pbytes c j ++ r)) = some r ∧ nV (some (pbytes c j ++ r)) = c.num j := by
  have := num_v r h0 h1
  unfold partS pbytes
  rw [if_pos hj, if_pos hj]
  exact ⟨this.2, this.1⟩
theorem part_txt {c : Cm} {j : Nat} (hj : isNum j = false) (h1 : (c.txt j).size ≤ 1000) (r : List Int) : partS j (some (pbytes c j ++ r)) = some r ∧ strL (rawB 1048576 (some (pbytes c j ++ r))) = c.txt j := by
  have := raw_v (most := 1048576) (sbytes (c.txt j)) r (by rw [sbytes_length]; omega) (by rw [sbytes_length]; omega)
  rw [sbytes_length] at this
  unfold partS pbytes
  rw [if_neg (by rw [hj]; decide), if_neg (by rw [hj]; decide), this.1, this.2, strL_sbytes]
  exact ⟨rfl, rfl⟩
theorem getK_put {c : Cm} (hk : 0 ≤ c.kind ∧ c.kind ≤ 9223372036854775807) (hc : 0 ≤ c.client ∧ c.client ≤ 9223372036854775807) (hs : 0 ≤ c.seq ∧ c.seq ≤ 9223372036854775807) (hn : 0 ≤ c.node ∧ c.node ≤ 9223372036854775807) (hkey : c.key.size ≤ 1000) (hval : c.val.size ≤ 1000) (hold : c.old = .empty) (r : List Int) :
    getK (some (vbytes c.kind ++ putL c 6 ++ r)) 6 = (c, some r) := by
  have e : vbytes c.kind ++ putL c 6 ++ r = vbytes c.kind ++ (pbytes c 0 ++ (pbytes c 1 ++ (pbytes c 2 ++ (pbytes c 4 ++ (pbytes c 5 ++ r))))) := by simp [putL, hasOf]
  rw [e]
  have k0 := num_v (pbytes c 0 ++ (pbytes c 1 ++ (pbytes c 2 ++ (pbytes c 4 ++ (pbytes c 5 ++ r))))) hk.1 hk.2
  have p0 := part_num (c := c) (j := 0) rfl hc.1 hc.2 (pbytes c 1 ++ (pbytes c 2 ++ (pbytes c 4 ++ (pbytes c 5 ++ r))))
  have p1 := part_num (c := c) (j := 1) rfl hs.1 hs.2 (pbytes c 2 ++ (pbytes c 4 ++ (pbytes c 5 ++ r)))
  have p2 := part_txt (c := c) (j := 2) rfl hkey (pbytes c 4 ++ (pbytes c 5 ++ r))
  have p4 := part_txt (c := c) (j := 4) rfl hval (pbytes c 5 ++ r)
  have p5 := part_num (c := c) (j := 5) rfl hn.1 hn.2 r
  simp only [nV, nS] at k0 p0 p1 p5
  simp only [getK, hasOf, Int.reduceEq, if_false, if_true, Cm.setP, k0, p0, p1, p2, p4, p5]
  obtain ⟨kind, client, seq, key, val, old, node⟩ := c
  simp only at hold
  subst hold
  rfl
theorem ite0 {p : Prop} [Decidable p] {a b : Int} (ha : a ≠ 0) (h : (if p then a else b) = 0) : ¬ p ∧ b = 0 := by
  by_cases hp : p
  · rw [if_pos hp] at h; exact absurd h ha
  · rw [if_neg hp] at h; exact ⟨hp, h⟩
theorem rec0 {k r n i : Int} {c : Cm} {len : Nat} (h : recI k r n i c len = 0) : (1 ≤ k ∧ k ≤ 4) ∧ ranP k r n i ∧ ¬ (k = 4 ∧ 32768 < len) ∧ ((k = 2 ∨ k = 3) → cmdI c = 0) ∧ ¬ othP k r n i c len := by
  unfold recI at h
  obtain ⟨h1, h⟩ := ite0 (by decide) h
  obtain ⟨h2, h⟩ := ite0 (by decide) h
  obtain ⟨h3, h⟩ := ite0 (by decide) h
  by_cases hc : (k = 2 ∨ k = 3) ∧ cmdI c ≠ 0
  · rw [if_pos hc] at h; exact absurd h hc.2
  · rw [if_neg hc] at h
    obtain ⟨h4, h⟩ := ite0 (by decide) h
    refine ⟨by omega, Decidable.not_not.1 h2, h3, fun hk => ?_, h4⟩
    exact Decidable.not_not.1 fun hn => hc ⟨hk, hn⟩
theorem cmd0 {c : Cm} (h : cmdI c = 0) : (1 ≤ c.kind ∧ c.kind ≤ 8) ∧ (0 ≤ c.client ∧ c.client ≤ 8) ∧ (0 ≤ c.seq ∧ c.seq ≤ 4294967296) ∧ (0 ≤ c.node ∧ c.node ≤ 9) ∧ (c.kind ≠ 5 → c.old = .empty) := by
  rw [cmdI_eq] at h
  unfold cmdE at h
  obtain ⟨h1, h⟩ := ite0 (by decide) h
  obtain ⟨h2, h⟩ := ite0 (by decide) h
  obtain ⟨h3, h⟩ := ite0 (by decide) h
  obtain ⟨h4, h⟩ := ite0 (by decide) h
  clear h3
  refine ⟨by omega, by omega, by omega, by omega, fun hk => ?_⟩
  exact nil_iff.2 (by omega)
theorem older0 {x : Rc} (h : olderI x = 0) : recI x.kind x.round x.node x.index x.cmd x.image.length = 0 ∧ ((x.kind = 2 ∨ x.kind = 3) → HasV 1 x.cmd.kind) := by
  unfold olderI at h
  by_cases h0 : recI x.kind x.round x.node x.index x.cmd x.image.length = 0
  · rw [if_neg (by rw [h0]; decide)] at h
    obtain ⟨h1, -⟩ := ite0 (by decide) h
    refine ⟨h0, fun hk => ?_⟩
    exact Decidable.not_not.1 fun hn => h1 ⟨hk, hn⟩
  · rw [if_pos h0] at h; exact absurd h h0
/-- What is written of a record leads back to it. -/
theorem dec_enc {x : Rc} (h : olderI x = 0) (hl : ¬ x.large) : decX (some (encL x)) = x ∧ decS (some (encL x)) = some [] := by
  obtain ⟨h0, hv⟩ := older0 h
  obtain ⟨hk, hr, hi, hc, ho⟩ := rec0 h0
  unfold Rc.large at hl
  obtain ⟨k, r, n, i, c, im⟩ := x
  simp only at hk hr hi hc ho hv hl
  unfold ranP mayP at hr
  have hcz : ¬ (k = 2 ∨ k = 3) → c = zeroCm := fun hh => Decidable.not_not.1 fun hn => ho (.inr (.inr (.inl ⟨hh, hn⟩)))
  have hr0 : 0 ≤ r ∧ r ≤ 4294967296 := by unfold othP at ho; omega
  have hn0 : 0 ≤ n ∧ n ≤ 9 := by unfold othP at ho; omega
  have hi0 : 0 ≤ i ∧ i ≤ 4294967296 := by unfold othP at ho; omega
  have him : k ≠ 4 → im = [] := fun hh => by
    have : im.length = 0 := by unfold othP at ho; omega
    exact List.eq_nil_of_length_eq_zero this
  have q1 := fun t => num_v (m := k) t (by omega) (by omega)
  have q2 := fun t => num_v (m := r) t (by omega) (by omega)
  have q3 := fun t => num_v (m := n) t (by omega) (by omega)
  have q4 := fun t => num_v (m := i) t (by omega) (by omega)
  by_cases h23 : k = 2 ∨ k = 3
  · have e : encL ⟨k, r, n, i, c, im⟩ = vbytes k ++ (vbytes r ++ (vbytes n ++ (vbytes i ++ (vbytes c.kind ++ putL c 6 ++ [])))) := by
      rw [encL, if_pos h23]; simp [headL]
    obtain ⟨c1, c2, c3, c4, c5⟩ := cmd0 (hc h23)
    have c6 := hv h23
    unfold HasV at c6
    have qk := getK_put (c := c) (by omega) (by omega) (by omega) (by omega) (by omega) (by omega) (c5 (by omega)) []
    rw [e]
    unfold decX decS
    simp only [q1, q2, q3, q4, qk]
    rw [if_pos h23, if_pos h23, him (by omega)]
    exact ⟨rfl, rfl⟩
  · rw [hcz h23]
    by_cases h4 : k = 4
    · have e : encL ⟨k, r, n, i, zeroCm, im⟩ = vbytes k ++ (vbytes r ++ (vbytes n ++ (vbytes i ++ (vbytes im.length ++ im ++ [])))) := by
        rw [encL, if_neg h23, if_pos h4]; simp [headL]
      have qk := raw_v (most := 32768) im [] (by omega) (by omega)
      rw [e]
      unfold decX decS
      simp only [q1, q2, q3, q4, qk]
      rw [if_neg h23, if_pos h4, if_neg h23, if_pos h4]
      exact ⟨rfl, rfl⟩
    · have e : encL ⟨k, r, n, i, zeroCm, im⟩ = vbytes k ++ (vbytes r ++ (vbytes n ++ (vbytes i ++ []))) := by
        rw [encL, if_neg h23, if_neg h4]; simp [headL]
      rw [e]
      unfold decX decS
      simp only [q1, q2, q3, q4]
      rw [if_neg h23, if_neg h4, if_neg h23, if_neg h4, him h4]
      exact ⟨rfl, rfl⟩
end Go.Proofs.YtfckggkmiegokaaDoor
