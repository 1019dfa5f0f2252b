/-
  conf (layer 11), the tenth part: the plain laws of changed and trimmed confs.
-/
import Derived.Test.YtmdeeokejdkceaaGreatDoorM4
import Derived.Lib.LaidU8T
import Derived.MakeChecks
import Derived.Test.YtmdeeokejdkceaaGreatDoorRows
import Derived.Test.YtmdeeokejdkceaaGreatDoorM1
import Derived.Test.YtmdeeokejdkceaaGreatDoorChecked
import Derived.JoinedOf
import Derived.SevenTiedAt
import Derived.LaidMore
import Derived.Lay
import Derived.Test.YtmdeeokejdkceaaGreatDoorTie
import Derived.Test.YtmdeeokejdkceaaGreatDoorCards
import Derived.Stop.Joined
set_option linter.unusedSimpArgs false
set_option linter.unusedVariables false
namespace Go.Proofs.YtmdeeokejdkceaaGreatDoor
open Go.Vx Go.ChangeShapes Go.WideShapes Go.ChangeAt Go.RowKit
theorem memOK_of {m : List Int} (h0 : 0 < m.length) (hs : m.Pairwise (· < ·)) (hr : ∀ x ∈ m, 1 ≤ x ∧ x ≤ 9) : MemOK m := by
  refine ⟨h0, fun k hk => ?_⟩
  obtain ⟨h1, h2⟩ := hr _ (List.getElem_mem hk)
  refine ⟨h1, h2, fun h => ?_⟩
  rw [List.pairwise_iff_getElem] at hs
  exact hs (k - 1) k (by omega) hk (by omega)
theorem changedL_ok {l : List Int} {kind n : Int} (hok : MemOK l) (h : (changedL l kind n).length ≠ 0) : MemOK (changedL l kind n) := by
  unfold changedL at h ⊢
  by_cases h7 : kind = 7 ∧ l.contains n = false ∧ 1 ≤ n ∧ n ≤ 9
  · rw [if_pos h7]
    have hn : n ∉ l := by simpa using h7.2.1
    refine memOK_of (by simp; omega) (insert_sorted hok.sorted hn) fun x hx => ?_
    simp only [List.mem_append, List.mem_singleton] at hx
    rcases hx with (hx | hx) | hx
    · exact hok.range (List.mem_of_mem_take hx)
    · omega
    · exact hok.range (List.mem_of_mem_drop hx)
  · rw [if_neg h7] at h ⊢
    by_cases h8 : kind = 8 ∧ l.contains n = true ∧ 1 < l.length
    · rw [if_pos h8] at h ⊢
      have hn : n ∈ l := by simpa using h8.2.1
      rw [delete_filter hok.sorted hn] at h ⊢
      exact memOK_of (by omega) (hok.sorted.filter _) fun x hx => hok.range (List.mem_filter.1 hx).1
    · rw [if_neg h8] at h; simp at h
theorem ConfOK.rises {l : List Co} (h : ConfOK l) : l.Pairwise (fun a b => a.1 < b.1) := by
  rw [List.pairwise_iff_getElem]
  have key : ∀ (d i : Nat) (hi : i + d + 1 < l.length), l[i].1 < l[i + d + 1].1 := by
    intro d
    induction d with
    | zero =>
      intro i hi
      have := (h.2 (i + 1) (by omega)).2.2 (by omega)
      simpa using this
    | succ d ih =>
      intro i hi
      have h1 := ih i (by omega)
      have h2 := (h.2 (i + (d + 1) + 1) hi).2.2 (by omega)
      have h3 : l[i + (d + 1) + 1 - 1] = l[i + d + 1] := by congr 1
      rw [h3] at h2
      omega
  intro i j hi hj hij
  have := key (j - i - 1) i (by omega)
  have h3 : l[i + (j - i - 1) + 1]'(by omega) = l[j] := by congr 1; omega
  rw [h3] at this
  exact this
theorem ConfOK.of {l : List Co} (h0 : ∃ h : 0 < l.length, l[0].1 = 1) (hr : l.Pairwise (fun a b => a.1 < b.1)) (hm : ∀ c ∈ l, MemOK c.2 ∧ c.1 ≤ 4294967296) : ConfOK l := by
  refine ⟨h0, fun i hi => ?_⟩
  obtain ⟨h1, h2⟩ := hm _ (List.getElem_mem hi)
  refine ⟨h1, h2, fun h => ?_⟩
  rw [List.pairwise_iff_getElem] at hr
  exact hr (i - 1) i (by omega) hi (by omega)
theorem ConfOK.mems {l : List Co} (h : ConfOK l) : ∀ c ∈ l, MemOK c.2 ∧ c.1 ≤ 4294967296 := fun c hc => by
  obtain ⟨i, hi, rfl⟩ := List.getElem_of_mem hc
  have := h.2 i hi
  exact ⟨this.1, this.2.1⟩
theorem lastC_mem {l : List Co} (h : 0 < l.length) : lastC l ∈ l := by
  rw [lastC_eq h]; exact List.getElem_mem _
theorem split_last {l : List Co} (h : 0 < l.length) : l = l.take (l.length - 1) ++ [lastC l] := by
  have h1 : l.take (l.length - 1 + 1) = l := by rw [List.take_of_length_le (by omega)]
  conv => lhs; rw [← h1, List.take_succ_eq_append_getElem (by omega)]
  rw [lastC_eq h]
theorem ConfOK.below {l : List Co} (h : ConfOK l) : ∀ c ∈ l.take (l.length - 1), c.1 < (lastC l).1 := by
  have hr := h.rises
  rw [split_last h.1.1, List.pairwise_append] at hr
  exact fun c hc => hr.2.2 c hc _ (by simp)
theorem changeL_ok {l : List Co} {x kind n : Int} (hok : ConfOK l) (hx : 1 ≤ x ∧ x ≤ 4294967292) (h : (changedL (lastC l).2 kind n).length ≠ 0) : ConfOK (changeL l x kind n) := by
  have hl := hok.mems (lastC l) (lastC_mem hok.1.1)
  have hm := changedL_ok hl.1 h
  have hb := hok.below
  have h0 := hok.1.1
  have h1 := hok.1.2
  have hF : fromOf l x ≤ 4294967296 ∧ 5 ≤ fromOf l x := by unfold fromOf; omega
  unfold changeL
  split
  · rename_i he
    have hlen : 1 < l.length := by
      apply Classical.byContradiction
      intro hc
      have : lastC l = l[0] := by rw [lastC_eq h0]; congr 1; omega
      rw [this, h1] at he
      omega
    refine ConfOK.of ⟨by simp, ?_⟩ ?_ ?_
    · rw [List.getElem_append_left (by simp; omega), List.getElem_take]; exact h1
    · rw [List.pairwise_append]
      refine ⟨hok.rises.sublist (List.take_sublist _ _), by simp, fun a ha b hb' => ?_⟩
      simp at hb'
      subst hb'
      have := hb a ha
      simp only; omega
    · intro c hc
      simp only [List.mem_append, List.mem_singleton] at hc
      rcases hc with hc | rfl
      · exact hok.mems c (List.mem_of_mem_take hc)
      · exact ⟨hm, hF.1⟩
  · rename_i he
    have hlast : (lastC l).1 < fromOf l x := by unfold fromOf at he ⊢; omega
    refine ConfOK.of ⟨by simp, ?_⟩ ?_ ?_
    · rw [List.getElem_append_left h0]; exact h1
    · rw [List.pairwise_append]
      refine ⟨hok.rises, by simp, fun a ha b hb' => ?_⟩
      simp at hb'
      subst hb'
      rw [split_last h0] at ha
      simp only [List.mem_append, List.mem_singleton] at ha
      rcases ha with ha | rfl
      · have := hb a ha
        simp only; omega
      · exact hlast
    · intro c hc
      simp only [List.mem_append, List.mem_singleton] at hc
      rcases hc with hc | rfl
      · exact hok.mems c hc
      · exact ⟨hm, hF.1⟩
theorem placeK_congr {a b : List Co} {y : Int} : ∀ {k : Nat}, (∀ i, i < k → a.getD i (0, []) = b.getD i (0, [])) → placeK a y k = placeK b y k
  | 0, _ => rfl
  | k + 1, h => by rw [placeK, placeK, h k (by omega), placeK_congr fun i hi => h i (by omega)]
theorem atK_congr {a b : List Co} {y : Int} {k : Nat} (h : ∀ i, i < k → a.getD i (0, []) = b.getD i (0, [])) : atK a y k = atK b y k := by
  have h1 := placeK_le a y k
  unfold atK
  rw [← placeK_congr h]
  split
  · rfl
  · rw [h _ (by omega)]
theorem atK_append {p : List Co} {c : Co} {y : Int} (h : ¬ c.1 ≤ y) : atK (p ++ [c]) y (p ++ [c]).length = atK p y p.length := by
  have e : (p ++ [c])[p.length]'(by simp) = c := by simp
  rw [List.length_append, List.length_singleton, atK_neg (l := p ++ [c]) (k := p.length) (by simp) (by rw [e]; exact h)]
  exact atK_congr fun i hi => by simp [List.getD_eq_getElem?_getD, List.getElem?_append_left hi]
theorem changeL_at {l : List Co} {x kind n y : Int} (hok : ConfOK l) (hy : y < x + 4) : atK (changeL l x kind n) y (changeL l x kind n).length = atK l y l.length := by
  have hF : ¬ fromOf l x ≤ y := by unfold fromOf; omega
  unfold changeL
  rw [atK_append hF]
  split
  · rename_i he
    conv => rhs; rw [split_last hok.1.1]
    rw [atK_append (by omega)]
  · rfl
theorem placeK_spec {l : List Co} {x : Int} : ∀ {k : Nat} (hk : k ≤ l.length), (0 ≤ placeK l x k → ∃ h : (placeK l x k).toNat < l.length, l[(placeK l x k).toNat].1 ≤ x) ∧ ∀ i (h : i < k), placeK l x k < i → ¬ l[i].1 ≤ x
  | 0, _ => by simp [placeK]
  | k + 1, hk => by
    have ih := placeK_spec (l := l) (x := x) (k := k) (by omega)
    rw [placeK_succ (by omega)]
    split
    · rename_i h
      refine ⟨fun _ => ⟨by omega, by simpa using h⟩, fun i hi hlt => by omega⟩
    · rename_i h
      refine ⟨ih.1, fun i hi hlt => ?_⟩
      by_cases hik : i = k
      · subst hik; exact h
      · exact ih.2 i (by omega) hlt
theorem trimL_eq {l : List Co} {p : Nat} {x : Int} (hp : placeK l x l.length = (p : Int)) (hlt : p < l.length) : trimL l x = (1, l[p].2) :: l.drop (p + 1) := by
  unfold trimL
  rw [hp, Int.toNat_natCast, List.drop_eq_getElem_cons hlt]
theorem trim_ok {l : List Co} {x : Int} (hok : ConfOK l) (hx : 1 ≤ x) : ∃ (p : Nat) (hlt : p < l.length), placeK l x l.length = (p : Int) ∧ trimL l x = (1, l[p].2) :: l.drop (p + 1) ∧ ConfOK (trimL l x) ∧ (trimL l x).length ≤ l.length ∧ (∀ h : 1 < (trimL l x).length, x < (trimL l x)[1].1) ∧
    ∀ y, x ≤ y → atK (trimL l x) y (trimL l x).length = atK l y l.length := by
  have h0 := hok.1.1
  have h1 := hok.1.2
  have hn := placeK_nonneg h0 (x := x) (by omega) l.length h0 (Nat.le_refl _)
  have hle := placeK_le l x l.length
  obtain ⟨p, hp⟩ := Int.eq_ofNat_of_zero_le hn
  have hlt : p < l.length := by omega
  obtain ⟨hs1, hs2⟩ := placeK_spec (l := l) (x := x) (Nat.le_refl l.length)
  have hpx : l[p].1 ≤ x := by
    obtain ⟨_, h⟩ := hs1 hn
    have e : (placeK l x l.length).toNat = p := by omega
    simpa [e] using h
  have ht := trimL_eq hp hlt
  have hrise := hok.rises
  rw [List.pairwise_iff_getElem] at hrise
  have h1p : 1 ≤ l[p].1 := by
    by_cases hz : p = 0
    · subst hz; omega
    · have := hrise 0 p h0 hlt (by omega); omega
  refine ⟨p, hlt, hp, ht, ?_, ?_, ?_, ?_⟩
  · rw [ht]
    refine ConfOK.of ⟨by simp, rfl⟩ ?_ ?_
    · rw [List.pairwise_cons]
      refine ⟨fun c hc => ?_, hok.rises.sublist (List.drop_sublist _ _)⟩
      obtain ⟨i, hi, rfl⟩ := List.getElem_of_mem hc
      rw [List.getElem_drop]
      have := hrise p (p + 1 + i) hlt (by simp at hi; omega) (by omega)
      simp only; omega
    · intro c hc
      simp only [List.mem_cons] at hc
      rcases hc with rfl | hc
      · exact ⟨(hok.mems _ (List.getElem_mem hlt)).1, by simp⟩
      · exact hok.mems c (List.mem_of_mem_drop hc)
  · rw [ht]; simp; omega
  · rw [ht]
    intro h
    have hi : p + 1 < l.length := by simp at h; omega
    have e : ((1, l[p].2) :: l.drop (p + 1))[1]'h = l[p + 1] := by simp
    rw [e]
    have := hs2 (p + 1) hi (by omega)
    omega
  · intro y hy
    have key : ∀ j, p + 1 + j ≤ l.length → atK (trimL l x) y (1 + j) = atK l y (p + 1 + j) := by
      intro j
      induction j with
      | zero =>
        intro hj
        rw [ht, atK_pos (l := (1, l[p].2) :: l.drop (p + 1)) (k := 0) (by simp) (by simp; omega), atK_pos hlt (by omega)]
        rfl
      | succ j ih =>
        intro hj
        have hi : p + 1 + j < l.length := by omega
        have hi' : 1 + j < (trimL l x).length := by rw [ht]; simp; omega
        have e : (trimL l x)[1 + j]'hi' = l[p + 1 + j] := by
          simp only [ht]
          rw [List.getElem_cons, dif_neg (by omega), List.getElem_drop]
          congr 1; omega
        by_cases hc : l[p + 1 + j].1 ≤ y
        · rw [show 1 + (j + 1) = (1 + j) + 1 by omega, show p + 1 + (j + 1) = (p + 1 + j) + 1 by omega, atK_pos hi (by omega), atK_pos hi' (by rw [e]; exact hc), e]
        · rw [show 1 + (j + 1) = (1 + j) + 1 by omega, show p + 1 + (j + 1) = (p + 1 + j) + 1 by omega, atK_neg hi hc, atK_neg hi' (by rw [e]; exact hc)]
          exact ih (by omega)
    have hl : (trimL l x).length = 1 + (l.length - (p + 1)) := by rw [ht]; simp; omega
    rw [hl, key _ (by omega)]
    congr 1; omega
structure Im where
  index : Int
  active : Int
  confs : List Co
  st : St
def ImV (G : GH) (m : Im) (v : Value) : Prop := ∃ C cc A c A' c', v = .agg [.int .i64 m.index, .int .i64 m.active, .slice C m.confs.length cc, .int .i64 m.st.schema, .slice A m.st.pairs.length c, .slice A' m.st.sess.length c'].toArray ∧
  Cos G (.slice C m.confs.length cc) m.confs ∧ Prs G (.slice A m.st.pairs.length c) m.st.pairs ∧ Sss G (.slice A' m.st.sess.length c') m.st.sess
theorem ImV.up {G G' : GH} (hle : GH.le G G') {m : Im} {v : Value} (h : ImV G m v) : ImV G' m v := by
  obtain ⟨C, cc, A, c, A', c', e, h1, h2, h3⟩ := h
  exact ⟨C, cc, A, c, A', c', e, h1.le hle, h2.mono hle, h3.mono hle⟩
theorem ImV.mk' {G : GH} {x a : Int} {l : List Co} {s : St} {C : Option Addr} {cc : Nat} {A A' : Option Addr} {c c' : Nat} (h1 : Cos G (.slice C l.length cc) l) (h2 : StV G s (.agg [.int .i64 s.schema, .slice A s.pairs.length c, .slice A' s.sess.length c'].toArray)) :
    ImV G ⟨x, a, l, s⟩ (.agg [.int .i64 x, .int .i64 a, .slice C l.length cc, .int .i64 s.schema, .slice A s.pairs.length c, .slice A' s.sess.length c'].toArray) := by
  obtain ⟨B, d, B', d', e, h3, h4⟩ := h2
  cases e
  exact ⟨C, cc, A, c, A', c', rfl, h1, h3, h4⟩
def ImP (m : Im) : Prop := (0 ≤ m.index ∧ m.index ≤ 4294967296 ∧ 0 ≤ m.active ∧ m.active ≤ m.index) ∧ ConfOK m.confs ∧ StP m.st ∧ (m.st.schema = 2 ↔ 0 < m.active)
noncomputable instance (m : Im) : Decidable (ImP m) := Classical.propDecidable _
def CoZ (l : List Co) : Prop := l.length ≤ 900 ∧ ∀ c ∈ l, c.2.length ≤ 1000
def zeroIm : Im := ⟨0, 0, [], zeroSt⟩
noncomputable def confsI (m : Im) (c : Cm) : List Co := if (c.kind = 7 ∨ c.kind = 8) ∧ (changeR m.confs (m.index + 1) c.kind c.node).2 = 0 then changeL m.confs (m.index + 1) c.kind c.node else m.confs
def activeI (m : Im) (c : Cm) : Int := if c.kind = 6 ∧ m.active = 0 then m.index + 1 else m.active
noncomputable def nextI (m : Im) (c : Cm) : Im := ⟨m.index + 1, activeI m c, trimL (confsI m c) (m.index + 2), (applyS m.st c).1⟩
noncomputable def winS (m : Im) (c : Cm) : Im × An × Int :=
  if ¬ ImP m then (zeroIm, zA, 3) else if 4294967292 ≤ m.index then (zeroIm, zA, 11) else if cmdI c ≠ 0 then (zeroIm, zA, cmdI c) else (nextI m c, (applyS m.st c).2.1, 0)
theorem changeR_zero {l : List Co} {x k n : Int} (hok : ConfOK l) (hx : 1 ≤ x ∧ x ≤ 4294967292) : (changeR l x k n).2 = 0 ↔ (changedL (lastC l).2 k n).length ≠ 0 := by
  unfold changeR
  rw [if_neg (by simpa using hok), if_neg (by omega)]
  split <;> simp_all
theorem changeR_one {l : List Co} {x k n : Int} (h : (changeR l x k n).2 = 0) : (changeR l x k n).1 = changeL l x k n := by
  unfold changeR at *
  split at h
  · exact absurd h (by simp)
  split at h
  · exact absurd h (by simp)
  split at h
  · exact absurd h (by simp)
  rw [if_neg (by assumption), if_neg (by assumption), if_neg (by assumption)]
theorem applyS_schema {s : St} {c : Cm} (hs : StP s) (hc : cmdI c = 0) : (applyS s c).1.schema = if c.kind = 6 then 2 else s.schema := by
  have hz := (stP_iff.1 hs).2.1
  unfold applyS
  rw [if_neg (by simp [hc])]
  split
  · rw [if_neg (by omega)]
    unfold clientS
    (repeat' split) <;> rfl
  · split
    · rename_i h
      rw [if_pos h.1]; rfl
    · rename_i h1 h2
      split
      · rename_i h6
        have : s.schema ≠ 1 := fun h => h2 ⟨h6, h⟩
        simp only; omega
      · rfl
theorem confsI_ok {m : Im} {c : Cm} (h : ImP m) (hx : m.index < 4294967292) : ConfOK (confsI m c) := by
  unfold confsI
  split
  · rename_i hh
    have := (changeR_zero h.2.1 (by have := h.1; omega)).1 hh.2
    exact changeL_ok h.2.1 (by have := h.1; omega) this
  · exact h.2.1
theorem nextI_ok {m : Im} {c : Cm} (h : ImP m) (hx : m.index < 4294967292) (hc : cmdI c = 0) : ImP (nextI m c) := by
  obtain ⟨p, hlt, hp, ht, hok2, hlen, hnx, hat⟩ := trim_ok (x := m.index + 2) (confsI_ok (c := c) h hx) (by have := h.1; omega)
  have he : (applyS m.st c).2.2 = 0 := by
    unfold applyS
    rw [if_neg (by simp [hc])]
    (repeat' split) <;> rfl
  have hsch := applyS_schema h.2.2.1 hc
  have h4 := h.2.2.2
  have hz := (stP_iff.1 h.2.2.1).2.1
  obtain ⟨h1, h2, h3, h5⟩ := h.1
  refine ⟨?_, hok2, (applyS_ok h.2.2.1 he).1, ?_⟩
  · show 0 ≤ m.index + 1 ∧ m.index + 1 ≤ 4294967296 ∧ 0 ≤ activeI m c ∧ activeI m c ≤ m.index + 1
    unfold activeI
    split <;> omega
  · show (applyS m.st c).1.schema = 2 ↔ 0 < activeI m c
    rw [hsch]
    unfold activeI
    by_cases h6 : c.kind = 6
    · rw [if_pos h6]
      by_cases ha : m.active = 0
      · rw [if_pos ⟨h6, ha⟩]; constructor <;> intro _ <;> omega
      · rw [if_neg (fun h => ha h.2)]; constructor <;> intro _ <;> omega
    · rw [if_neg h6, if_neg (fun h => h6 h.1)]; exact h4
theorem nextI_at {m : Im} {c : Cm} (h : ImP m) (hx : m.index < 4294967292) {y : Int} (h1 : m.index + 2 ≤ y) (h2 : y ≤ m.index + 4) : atK (nextI m c).confs y (nextI m c).confs.length = atK m.confs y m.confs.length := by
  obtain ⟨p, hlt, hp, ht, hok2, hlen, hnx, hat⟩ := trim_ok (x := m.index + 2) (confsI_ok (c := c) h hx) (by have := h.1; omega)
  refine (hat y h1).trans ?_
  unfold confsI
  split
  · exact changeL_at h.2.1 (by omega)
  · rfl
theorem confsI_len {m : Im} {c : Cm} : (confsI m c).length ≤ m.confs.length + 1 := by
  unfold confsI changeL
  split
  · rw [List.length_append, List.length_singleton]
    split
    · rw [List.length_take]; omega
    · omega
  · omega
theorem memOK_len : ∀ (l : List Int) (a : Int), l.Pairwise (· < ·) → (∀ x ∈ l, a ≤ x ∧ x ≤ 9) → a ≤ 10 → (l.length : Int) ≤ 10 - a
  | [], a, _, _, ha => by simp; omega
  | x :: l, a, h, hx, ha => by
    have h1 := List.pairwise_cons.1 h
    have h2 := hx x List.mem_cons_self
    have := memOK_len l (x + 1) h1.2 (fun y hy => ⟨by have := h1.1 y hy; omega, (hx y (List.mem_cons_of_mem _ hy)).2⟩) (by omega)
    simp only [List.length_cons]
    omega
theorem ConfOK.few {l : List Co} (h : ConfOK l) : ∀ c ∈ l, c.2.length ≤ 9 := fun c hc => by
  have hm := (h.mems c hc).1
  have := memOK_len c.2 1 hm.sorted (fun x hx => hm.range hx) (by omega)
  omega
theorem nextI_len {m : Im} {c : Cm} (h : ImP m) (hx : m.index < 4294967292) : (nextI m c).confs.length ≤ m.confs.length + 1 := by
  obtain ⟨p, hlt, hp, ht, hok2, hlen, hnx, hat⟩ := trim_ok (x := m.index + 2) (confsI_ok (c := c) h hx) (by have := h.1; omega)
  exact Nat.le_trans hlen confsI_len
theorem ConfOK.coZ {l : List Co} (h : ConfOK l) (hl : l.length ≤ 900) : CoZ l := ⟨hl, fun c hc => by have := h.few c hc; omega⟩
theorem CoZ.one {l : List Co} (h : CoZ l) : ∀ c ∈ l, c.2.length ≤ 1048000 := fun c hc => by have := h.2 c hc; omega
theorem CoZ.two {l : List Co} (h : CoZ l) : ∀ c ∈ l, c.2.length ≤ 1048576 := fun c hc => by have := h.2 c hc; omega
theorem verFormat_s (G : GH) (a : Int) : Con Tryz.prog 88 #[.int .i64 a] G [] (Just (.int .i64 (if 0 < a then 2 else 1)) G) := by
  apply Con.just
  (refine v_enter Tryz.func88 rfl Tryz.ntmps88 rfl ?_; intro B _)
  repeat' (first | apply v_seq | apply v_region | apply v_nil | apply v_skip | (apply v_pure; (case hop => first | (apply p_move <;> rfl) | (apply p_gt <;> rfl) | (apply p_assign <;> rfl)); (case hd => rfl)) | (apply v_cond; (case hc => rfl); all_goals (intro h; (try simp only [reduceCtorEq, zzz] at h))) | fail)
  · refine v_ret [] (outsA1 rfl rfl) (by repeat (exact List.Sublist.refl _)) ?_
    rw [if_pos (by omega)]
    exact ⟨rfl, rfl⟩
  · refine v_ret [] (outsA1 rfl rfl) (by repeat (exact List.Sublist.refl _)) ?_
    rw [if_neg (by omega)]
    exact ⟨rfl, rfl⟩
theorem winCheck_s {G : GH} (hT : TabsG G) {m : Im} {v : Value} (hm : ImV G m v) (hz : StZ m.st) : Con Tryz.prog 32 #[v] G [] (Just (.int .i64 (if ImP m then 0 else 3)) G) := by
  obtain ⟨C, cc, A, c, A', c', rfl, hC, hp, hss⟩ := hm
  have hs : StV G m.st (.agg [.int .i64 m.st.schema, .slice A m.st.pairs.length c, .slice A' m.st.sess.length c'].toArray) := ⟨_, _, _, _, rfl, hp, hss⟩
  have q1 := check_s hC
  have q2 := migCheck_s hT hs hz
  have q3 := verFormat_s G m.active
  have hst : ImP m ↔ (0 ≤ m.index ∧ m.index ≤ 4294967296 ∧ 0 ≤ m.active ∧ m.active ≤ m.index) ∧ ConfOK m.confs ∧ StP m.st ∧ (m.st.schema = 2 ↔ 0 < m.active) := Iff.rfl
  have h12 : StP m.st → m.st.schema = 1 ∨ m.st.schema = 2 := fun h => (stP_iff.1 h).2.1
  apply Con.just
  generalize hi : (if ImP m then (0 : Int) else 3) = iv
  have hyes : ImP m → iv = 0 := fun h => by rw [← hi, if_pos h]
  have hnot : ¬ ImP m → iv = 3 := fun h => by rw [← hi, if_neg h]
  rw [hst] at hyes hnot
  clear hi hst hC hp hss hs
  obtain ⟨ix, ac, lc, st⟩ := m
  simp only at *
  obtain ⟨z, lp, ls⟩ := st
  simp only at *
  generalize lp.length = np at *
  generalize ls.length = ns at *
  generalize lc.length = nl at *
  by_cases h1 : ConfOK lc
  · rw [if_pos h1] at q1
    by_cases h2 : StP ⟨z, lp, ls⟩
    · rw [if_pos h2] at q2
      have h12 := h12 h2
      by_cases h3 : 0 < ac
      · rw [if_pos h3] at q3
        (refine v_enter Tryz.func32 rfl Tryz.ntmps32 rfl ?_; intro B _)
        repeat' (first | (apply v_box (d := 1) (zs := [.int .i64 ix, .int .i64 ac, .slice C nl cc, .int .i64 z, .slice A np c, .slice A' ns c']); (case hx => rfl); (case hz => rfl); (case hd => rfl); intro b1) | apply v_seq | apply v_region | apply v_nil | apply v_skip | (apply v_take; (case hg => rfl)) | (apply v_pass; (case hg => rfl); (case hn => rfl); (case hd => rfl)) | (apply v_pure; (case hop => first | (apply p_move <;> rfl) | (apply p_nes <;> rfl) | (apply p_lt <;> rfl) | (apply p_gt <;> rfl) | (apply p_assign <;> rfl) | (apply p_pickT <;> rfl) | (apply p_pickF <;> rfl) | (apply p_fieldAddrB <;> rfl) | fail); (case hd => rfl)) | (apply v_condT; (case hc => rfl)) | (apply v_condF; (case hc => rfl)) | (apply v_cond; (case hc => rfl); all_goals (intro h; (try simp only [reduceCtorEq, zzz] at h))) | (apply v_guardB; (case h1 => rfl); (case h2 => rfl); all_goals (intro h; (try simp only [reduceCtorEq, zzz] at h); first | (exfalso; omega) | skip)) | (apply v_callJ (hs := q1); (case ha => rfl); (case hd => rfl)) | (apply v_callJ (hs := q2); (case ha => rfl); (case hd => rfl)) | (apply v_read; (case hop => first | (apply r_loadNo; (case hx => rfl); (case h => (repeat (exact mhd _))); (case hd => (repeat (first | with_reducible exact dt_nil | apply dt_here))); (case hn => rfl)) | (apply r_load1; rfl; (apply Cell.own; (case h => (repeat (exact mhd _))); rfl)) | fail); (case hd => rfl)) | fail)
        all_goals try
          (refine v_ret [] (outsA1 rfl rfl) (by repeat (first | exact List.Sublist.refl _ | exact List.nil_sublist _ | fail)) ?_
           exact ⟨by rw [hnot (by rintro ⟨h, -⟩; omega)], rfl⟩)
        refine d_start _ (by kernel_rfl) (by kernel_rfl) (by kernel_rfl) (fun _ he => he) ?_
        all_goals (apply dtk 0; (case hi => rfl); (case hop => (apply prd; apply p_fieldAddrB <;> rfl)); (case hq => kernel_rfl))
        all_goals (apply dtk 1; (case hi => rfl); (case hop => (apply prd; apply p_fieldAddrB <;> rfl)); (case hq => kernel_rfl))
        all_goals (apply dtk 2; (case hi => rfl); (case hop => first | (apply r_loadNo; (case hx => rfl); (case h => (repeat (fail))); (case hd => (repeat (fail))); (case hn => rfl)) | (apply r_load1; rfl; (apply Cell.own; (case h => (repeat (exact mhd _))); rfl)) | (apply r_loadN; rfl; (apply CellsAt.own; (case h => (repeat (fail)))); rfl)); (case hq => kernel_rfl))
        all_goals (apply dtk 3; (case hi => rfl); (case hop => (apply prd; apply p_fieldAddrB <;> rfl)); (case hq => kernel_rfl))
        all_goals (apply dtk 4; (case hi => rfl); (case hop => first | (apply r_loadNo; (case hx => rfl); (case h => (repeat (fail))); (case hd => (repeat (fail))); (case hn => rfl)) | (apply r_load1; rfl; (apply Cell.own; (case h => (repeat (exact mhd _))); rfl)) | (apply r_loadN; rfl; (apply CellsAt.own; (case h => (repeat (fail)))); rfl)); (case hq => kernel_rfl))
        all_goals ((apply d_callJ 5 (hs := q3); (case hi => rfl); (case hr => kernel_rfl);  (case ha => rfl); (case hd => rfl)))
        all_goals (apply dtk 6; (case hi => rfl); (case hop => (apply prd; apply p_ne <;> rfl)); (case hq => kernel_rfl))
        all_goals (apply d_done; (case hr => kernel_rfl))
        repeat' (first | apply v_seq | apply v_region | apply v_nil | apply v_skip | (apply v_pure; (case hop => (apply p_assign <;> rfl)); (case hd => rfl)) | (apply v_cond; (case hc => rfl); all_goals (intro h; (try simp only [reduceCtorEq, zzz] at h))) | fail)
        all_goals
          (refine v_ret [] (outsA1 rfl rfl) (by repeat (exact List.nil_sublist _)) ?_
           refine ⟨?_, rfl⟩
           first
             | (rw [hyes ⟨by omega, h1, h2, by omega⟩])
             | (rw [hnot (by rintro ⟨h, -, -, h'⟩; omega)]))
      · rw [if_neg h3] at q3
        (refine v_enter Tryz.func32 rfl Tryz.ntmps32 rfl ?_; intro B _)
        repeat' (first | (apply v_box (d := 1) (zs := [.int .i64 ix, .int .i64 ac, .slice C nl cc, .int .i64 z, .slice A np c, .slice A' ns c']); (case hx => rfl); (case hz => rfl); (case hd => rfl); intro b1) | apply v_seq | apply v_region | apply v_nil | apply v_skip | (apply v_take; (case hg => rfl)) | (apply v_pass; (case hg => rfl); (case hn => rfl); (case hd => rfl)) | (apply v_pure; (case hop => first | (apply p_move <;> rfl) | (apply p_nes <;> rfl) | (apply p_lt <;> rfl) | (apply p_gt <;> rfl) | (apply p_assign <;> rfl) | (apply p_pickT <;> rfl) | (apply p_pickF <;> rfl) | (apply p_fieldAddrB <;> rfl) | fail); (case hd => rfl)) | (apply v_condT; (case hc => rfl)) | (apply v_condF; (case hc => rfl)) | (apply v_cond; (case hc => rfl); all_goals (intro h; (try simp only [reduceCtorEq, zzz] at h); first | (exfalso; omega) | skip)) | (apply v_guardB; (case h1 => rfl); (case h2 => rfl); all_goals (intro h; (try simp only [reduceCtorEq, zzz] at h))) | (apply v_callJ (hs := q1); (case ha => rfl); (case hd => rfl)) | (apply v_callJ (hs := q2); (case ha => rfl); (case hd => rfl)) | (apply v_read; (case hop => first | (apply r_loadNo; (case hx => rfl); (case h => (repeat (exact mhd _))); (case hd => (repeat (first | with_reducible exact dt_nil | apply dt_here))); (case hn => rfl)) | (apply r_load1; rfl; (apply Cell.own; (case h => (repeat (exact mhd _))); rfl)) | fail); (case hd => rfl)) | fail)
        all_goals try
          (refine v_ret [] (outsA1 rfl rfl) (by repeat (first | exact List.Sublist.refl _ | exact List.nil_sublist _ | fail)) ?_
           exact ⟨by rw [hnot (by rintro ⟨h, -⟩; omega)], rfl⟩)
        refine d_start _ (by kernel_rfl) (by kernel_rfl) (by kernel_rfl) (fun _ he => he) ?_
        all_goals (apply dtk 0; (case hi => rfl); (case hop => (apply prd; apply p_fieldAddrB <;> rfl)); (case hq => kernel_rfl))
        all_goals (apply dtk 1; (case hi => rfl); (case hop => (apply prd; apply p_fieldAddrB <;> rfl)); (case hq => kernel_rfl))
        all_goals (apply dtk 2; (case hi => rfl); (case hop => first | (apply r_loadNo; (case hx => rfl); (case h => (repeat (fail))); (case hd => (repeat (fail))); (case hn => rfl)) | (apply r_load1; rfl; (apply Cell.own; (case h => (repeat (exact mhd _))); rfl)) | (apply r_loadN; rfl; (apply CellsAt.own; (case h => (repeat (fail)))); rfl)); (case hq => kernel_rfl))
        all_goals (apply dtk 3; (case hi => rfl); (case hop => (apply prd; apply p_fieldAddrB <;> rfl)); (case hq => kernel_rfl))
        all_goals (apply dtk 4; (case hi => rfl); (case hop => first | (apply r_loadNo; (case hx => rfl); (case h => (repeat (fail))); (case hd => (repeat (fail))); (case hn => rfl)) | (apply r_load1; rfl; (apply Cell.own; (case h => (repeat (exact mhd _))); rfl)) | (apply r_loadN; rfl; (apply CellsAt.own; (case h => (repeat (fail)))); rfl)); (case hq => kernel_rfl))
        all_goals ((apply d_callJ 5 (hs := q3); (case hi => rfl); (case hr => kernel_rfl);  (case ha => rfl); (case hd => rfl)))
        all_goals (apply dtk 6; (case hi => rfl); (case hop => (apply prd; apply p_ne <;> rfl)); (case hq => kernel_rfl))
        all_goals (apply d_done; (case hr => kernel_rfl))
        repeat' (first | apply v_seq | apply v_region | apply v_nil | apply v_skip | (apply v_pure; (case hop => (apply p_assign <;> rfl)); (case hd => rfl)) | (apply v_cond; (case hc => rfl); all_goals (intro h; (try simp only [reduceCtorEq, zzz] at h))) | fail)
        all_goals
          (refine v_ret [] (outsA1 rfl rfl) (by repeat (exact List.nil_sublist _)) ?_
           refine ⟨?_, rfl⟩
           first
             | (rw [hyes ⟨by omega, h1, h2, by omega⟩])
             | (rw [hnot (by rintro ⟨h, -, -, h'⟩; omega)]))
    · rw [if_neg h2] at q2
      rw [hnot (fun h => h2 h.2.2.1)]
      (refine v_enter Tryz.func32 rfl Tryz.ntmps32 rfl ?_; intro B _)
      repeat' (first | (apply v_box (d := 1) (zs := [.int .i64 ix, .int .i64 ac, .slice C nl cc, .int .i64 z, .slice A np c, .slice A' ns c']); (case hx => rfl); (case hz => rfl); (case hd => rfl); intro b1) | apply v_seq | apply v_region | apply v_nil | apply v_skip | (apply v_take; (case hg => rfl)) | (apply v_pass; (case hg => rfl); (case hn => rfl); (case hd => rfl)) | (apply v_pure; (case hop => first | (apply p_move <;> rfl) | (apply p_nes <;> rfl) | (apply p_lt <;> rfl) | (apply p_gt <;> rfl) | (apply p_ne <;> rfl) | (apply p_assign <;> rfl) | (apply p_pickT <;> rfl) | (apply p_pickF <;> rfl) | (apply p_fieldAddrB <;> rfl) | fail); (case hd => rfl)) | (apply v_condT; (case hc => rfl)) | (apply v_condF; (case hc => rfl)) | (apply v_cond; (case hc => rfl); all_goals (intro h; (try simp only [reduceCtorEq, zzz] at h); first | (exfalso; omega) | skip)) | (apply v_guardB; (case h1 => rfl); (case h2 => rfl); all_goals (intro h; (try simp only [reduceCtorEq, zzz] at h))) | (apply v_callJ (hs := q1); (case ha => rfl); (case hd => rfl)) | (apply v_callJ (hs := q2); (case ha => rfl); (case hd => rfl)) | (apply v_read; (case hop => first | (apply r_loadNo; (case hx => rfl); (case h => (repeat (exact mhd _))); (case hd => (repeat (first | with_reducible exact dt_nil | apply dt_here))); (case hn => rfl)) | (apply r_load1; rfl; (apply Cell.own; (case h => (repeat (exact mhd _))); rfl)) | fail); (case hd => rfl)) | fail)
      all_goals
        (refine v_ret [] (outsA1 rfl rfl) (by repeat (exact List.nil_sublist _)) ?_
         exact ⟨rfl, rfl⟩)
  · rw [if_neg h1] at q1
    rw [hnot (fun h => h1 h.2.1)]
    (refine v_enter Tryz.func32 rfl Tryz.ntmps32 rfl ?_; intro B _)
    repeat' (first | (apply v_box (d := 1) (zs := [.int .i64 ix, .int .i64 ac, .slice C nl cc, .int .i64 z, .slice A np c, .slice A' ns c']); (case hx => rfl); (case hz => rfl); (case hd => rfl); intro b1) | apply v_seq | apply v_region | apply v_nil | apply v_skip | (apply v_take; (case hg => rfl)) | (apply v_pass; (case hg => rfl); (case hn => rfl); (case hd => rfl)) | (apply v_pure; (case hop => first | (apply p_move <;> rfl) | (apply p_lt <;> rfl) | (apply p_gt <;> rfl) | (apply p_ne <;> rfl) | (apply p_assign <;> rfl) | (apply p_pickT <;> rfl) | (apply p_pickF <;> rfl) | (apply p_fieldAddrB <;> rfl) | fail); (case hd => rfl)) | (apply v_condT; (case hc => rfl)) | (apply v_cond; (case hc => rfl); all_goals (intro h; (try simp only [reduceCtorEq, zzz] at h); first | (exfalso; omega) | skip)) | (apply v_guardB; (case h1 => rfl); (case h2 => rfl); all_goals (intro h; (try simp only [reduceCtorEq, zzz] at h))) | (apply v_callJ (hs := q1); (case ha => rfl); (case hd => rfl)) | (apply v_read; (case hop => (apply r_load1; rfl; (apply Cell.own; (case h => (repeat (exact mhd _))); rfl))); (case hd => rfl)) | fail)
    all_goals
      (refine v_ret [] (outsA1 rfl rfl) (by repeat (exact List.nil_sublist _)) ?_
       exact ⟨rfl, rfl⟩)
def OpenP (m : Im) (i : Int) : Prop := m.index < i ∧ i - 4 ≤ m.index
noncomputable instance (m : Im) (i : Int) : Decidable (OpenP m i) := Classical.propDecidable _
theorem winOpen_s {G : GH} {m : Im} {v : Value} (i : Int) (hm : ImV G m v) (h0 : 0 ≤ m.index) (hi : (Lit.int .i64 i).wf = true) : Con Tryz.prog 25 #[v, .int .i64 i] G [] (Just (.bool (decide (OpenP m i))) G) := by
  obtain ⟨C, cc, A, c, A', c', rfl, hC, hp, hss⟩ := hm
  have hb := bounds_i64 hi
  have hst : decide (OpenP m i) = decide (m.index < i ∧ i - 4 ≤ m.index) := decide_eq_decide.2 Iff.rfl
  rw [hst]
  clear hst hC hp hss
  obtain ⟨ix, ac, lc, ⟨z, lp, ls⟩⟩ := m
  simp only at *
  generalize lp.length = np at *
  generalize ls.length = ns at *
  generalize lc.length = nl at *
  apply Con.just
  (refine v_enter Tryz.func25 rfl Tryz.ntmps25 rfl ?_; intro B _)
  repeat' (first | (apply v_box (d := 2) (zs := [.int .i64 ix, .int .i64 ac, .slice C nl cc, .int .i64 z, .slice A np c, .slice A' ns c']); (case hx => rfl); (case hz => rfl); (case hd => rfl); intro b2) | apply v_seq | apply v_region | apply v_nil | (apply v_take; (case hg => rfl)) | (apply v_pass; (case hg => rfl); (case hn => rfl); (case hd => rfl)) | (apply v_pure; (case hop => first | (apply p_move <;> rfl) | (apply p_gt <;> rfl) | (apply p_le <;> rfl) | (apply p_assign <;> rfl) | (apply p_pickT <;> rfl) | (apply p_pickF <;> rfl) | (apply p_fieldAddrB <;> rfl) | (apply p_sub; (case hx => rfl); (case hy => rfl); (case h => omega)) | fail); (case hd => rfl)) | (apply v_guardB; (case h1 => rfl); (case h2 => rfl); all_goals (intro h; (try simp only [reduceCtorEq, zzz] at h))) | (apply v_read; (case hop => (apply r_load1; rfl; (apply Cell.own; (case h => (repeat (exact mhd _))); rfl))); (case hd => rfl)) | fail)
  all_goals
    (refine v_ret [] (outsA1 rfl rfl) (by repeat (exact List.nil_sublist _)) ?_
     refine ⟨?_, rfl⟩
     (try simp only [dec_eq])
     congr 1
     first
       | (rw [decide_eq_decide]; omega)
       | (rw [eq_comm, decide_eq_false_iff_not]; omega)
       | (rw [eq_comm, decide_eq_true_iff]; omega))
noncomputable def membersI (m : Im) (i : Int) : List Int := if ImP m ∧ OpenP m i then atK m.confs i m.confs.length else []
theorem winMembers_s {G : GH} (hT : TabsG G) {m : Im} {v : Value} (i : Int) (hm : ImV G m v) (hz : StZ m.st) (hc : CoZ m.confs) (hi : (Lit.int .i64 i).wf = true) :
    Con Tryz.prog 23 #[v, .int .i64 i] G [] (fun r G' μ' => μ' = [] ∧ Sl G' 1 (IntR .i64) r (membersI m i)) := by
  have q1 := winCheck_s hT hm hz
  have q2 := fun h => winOpen_s i hm h hi
  have hmi : membersI m i = if ImP m ∧ OpenP m i then atK m.confs i m.confs.length else [] := rfl
  have h0 : ImP m → 0 ≤ m.index := fun h => h.1.1
  have hpos : ImP m → OpenP m i → 1 ≤ i := fun h h' => by have := h.1.1; have := h'.1; omega
  obtain ⟨C, cc, A, c, A', c', rfl, hC, hp, hss⟩ := hm
  have q3 := at_s i hC hc.two
  have hcok : ImP m → ConfOK m.confs := fun h => h.2.1
  have hat : atL m.confs i = if ConfOK m.confs ∧ 1 ≤ i then atK m.confs i m.confs.length else [] := rfl
  rw [hmi]
  clear hmi hC hp hss hc hz
  by_cases hP : ImP m
  · rw [if_pos hP] at q1
    have q2 := q2 (h0 hP)
    by_cases hO : OpenP m i
    · rw [if_pos ⟨hP, hO⟩]
      rw [if_pos ⟨hcok hP, hpos hP hO⟩] at hat
      rw [hat] at q3
      rw [decide_eq_true hO] at q2
      clear hat hcok hpos h0
      (obtain ⟨ix, ac, lc, ⟨z, lp, ls⟩⟩ := m; simp only at *; generalize lp.length = np at *; generalize ls.length = ns at *; generalize lc.length = nl at *)
      (refine v_enter Tryz.func23 rfl Tryz.ntmps23 rfl ?_; intro B _)
      repeat' (first | (apply v_box (d := 2) (zs := [.int .i64 ix, .int .i64 ac, .slice C nl cc, .int .i64 z, .slice A np c, .slice A' ns c']); (case hx => rfl); (case hz => rfl); (case hd => rfl); intro b2) | (apply v_read; (case hop => (apply r_loadNo; (case hx => rfl); (case h => repeat (exact mhd _)); (case hd => rfl); (case hn => rfl))); (case hd => rfl)) | apply v_seq | apply v_region | apply v_nil | apply v_skip | (apply v_take; (case hg => rfl)) | (apply v_pure; (case hop => first | (apply p_move <;> rfl) | (apply p_nes <;> rfl) | (apply p_assign <;> rfl) | (apply p_pickF <;> rfl) | (apply p_not <;> rfl) | (apply p_fieldAddrB <;> rfl) | fail); (case hd => rfl)) | (apply v_condF; (case hc => rfl)) | (apply v_callJ (hs := q1); (case ha => rfl); (case hd => rfl)) | (apply v_callJ (hs := q2); (case ha => rfl); (case hd => rfl)) | (apply v_read; (case hop => (apply r_load1; rfl; (apply Cell.own; (case h => (repeat (exact mhd _))); rfl))); (case hd => rfl)) | fail)
      refine v_call (μ1 := []) rfl q3 (List.Perm.refl _) rfl ?_
      rintro r G2 _ - ⟨rfl, hr⟩
      repeat' (first | apply v_nil | (apply v_pure; (case hop => (apply p_assign <;> rfl)); (case hd => rfl)) | fail)
      refine v_ret [] (outsA1 rfl rfl) (by repeat (exact List.nil_sublist _)) ?_
      exact ⟨rfl, hr⟩
    · rw [if_neg (fun h => hO h.2)]
      rw [decide_eq_false hO] at q2
      clear hat hcok hpos h0
      (obtain ⟨ix, ac, lc, ⟨z, lp, ls⟩⟩ := m; simp only at *; generalize lp.length = np at *; generalize ls.length = ns at *; generalize lc.length = nl at *)
      (refine v_enter Tryz.func23 rfl Tryz.ntmps23 rfl ?_; intro B _)
      repeat' (first | (apply v_box (d := 2) (zs := [.int .i64 ix, .int .i64 ac, .slice C nl cc, .int .i64 z, .slice A np c, .slice A' ns c']); (case hx => rfl); (case hz => rfl); (case hd => rfl); intro b2) | (apply v_read; (case hop => (apply r_loadNo; (case hx => rfl); (case h => repeat (exact mhd _)); (case hd => rfl); (case hn => rfl))); (case hd => rfl)) | apply v_seq | apply v_region | apply v_nil | (apply v_take; (case hg => rfl)) | (apply v_pure; (case hop => first | (apply p_move <;> rfl) | (apply p_nes <;> rfl) | (apply p_assign <;> rfl) | (apply p_pickF <;> rfl) | (apply p_not <;> rfl) | fail); (case hd => rfl)) | (apply v_condT; (case hc => rfl)) | (apply v_callJ (hs := q1); (case ha => rfl); (case hd => rfl)) | (apply v_callJ (hs := q2); (case ha => rfl); (case hd => rfl)) | fail)
      refine v_ret [] (outsA1 rfl rfl) (by repeat (exact List.nil_sublist _)) ?_
      exact ⟨rfl, Sl.nil⟩
  · rw [if_neg hP] at q1
    rw [if_neg (fun h => hP h.1)]
    clear hat hcok hpos h0 q2
    (obtain ⟨ix, ac, lc, ⟨z, lp, ls⟩⟩ := m; simp only at *; generalize lp.length = np at *; generalize ls.length = ns at *; generalize lc.length = nl at *)
    (refine v_enter Tryz.func23 rfl Tryz.ntmps23 rfl ?_; intro B _)
    repeat' (first | (apply v_box (d := 2) (zs := [.int .i64 ix, .int .i64 ac, .slice C nl cc, .int .i64 z, .slice A np c, .slice A' ns c']); (case hx => rfl); (case hz => rfl); (case hd => rfl); intro b2) | (apply v_read; (case hop => (apply r_loadNo; (case hx => rfl); (case h => repeat (exact mhd _)); (case hd => rfl); (case hn => rfl))); (case hd => rfl)) | apply v_seq | apply v_region | apply v_nil | (apply v_pass; (case hg => rfl); (case hn => rfl); (case hd => rfl)) | (apply v_pure; (case hop => first | (apply p_move <;> rfl) | (apply p_ne <;> rfl) | (apply p_assign <;> rfl) | (apply p_pickT <;> rfl) | fail); (case hd => rfl)) | (apply v_condT; (case hc => rfl)) | (apply v_guardB; (case h1 => rfl); (case h2 => rfl); all_goals (intro h; (try simp only [reduceCtorEq, zzz] at h); first | (exfalso; omega) | skip)) | (apply v_callJ (hs := q1); (case ha => rfl); (case hd => rfl)) | fail)
    refine v_ret [] (outsA1 rfl rfl) (by repeat (exact List.nil_sublist _)) ?_
    exact ⟨rfl, Sl.nil⟩
theorem winClone_s {G : GH} {m : Im} {v : Value} (hm : ImV G m v) (hz : StZ m.st) (hco : CoZ m.confs) : Con Tryz.prog 34 #[v] G [] (fun r G' μ' => μ' = [] ∧ ImV G' m r) := by
  obtain ⟨C, cc, A, c, A', c', rfl, hC, hp, hss⟩ := hm
  have hs : StV G m.st (.agg [.int .i64 m.st.schema, .slice A m.st.pairs.length c, .slice A' m.st.sess.length c'].toArray) := ⟨_, _, _, _, rfl, hp, hss⟩
  have hcn := fun G' (hle : GH.le G G') => migClone_s (G := G') (hs.up hle) (by have := hz.2.2.1; omega) (by have := hz.2.2.2; omega)
  have hsz : m.st.pairs.length ≤ 200 ∧ m.st.sess.length ≤ 200 := ⟨by have := hz.2.2.1; omega, by have := hz.2.2.2; omega⟩
  have hcl := hco.1
  have hbig := hco.2
  obtain ⟨C0, cc0, mA, mc, eC, hlc, hcm, hsome, hcp, hc0, hc1, hmv, hwf⟩ := coOpen hC
  cases eC
  simp only [maxLen] at hcm
  obtain ⟨ix, ac, lc, ⟨z, lp, ls⟩⟩ := m
  simp only at *
  (refine v_enter Tryz.func34 rfl Tryz.ntmps34 rfl ?_; intro B _)
  repeat' (first | (apply v_box (d := 1) (zs := [.int .i64 ix, .int .i64 ac, .slice C lc.length cc, .int .i64 z, .slice A lp.length c, .slice A' ls.length c']); (case hx => rfl); (case hz => rfl); (case hd => rfl); intro b1) | (apply v_alloc (d := 2); (case hz => rfl); (case hd => rfl); intro b2) | (apply v_alloc (d := 3); (case hz => rfl); (case hd => rfl); intro b3) | (apply v_read; (case hop => (apply r_loadNo; (case hx => rfl); (case h => repeat (first | exact mhd _ | apply mtl)); (case hd => rfl); (case hn => rfl))); (case hd => rfl)) | apply v_seq | apply v_region | apply v_nil | apply v_block | (apply v_pure; (case hop => first | (apply p_move <;> rfl) | (apply p_lenSlice <;> rfl) | (apply p_fieldAddrB <;> rfl) | fail); (case hd => rfl)) | (apply v_read; (case hop => (apply r_load1; rfl; (apply Cell.own; (case h => (repeat (first | exact mhd _ | apply mtl))); rfl))); (case hd => rfl)) | (apply v_store; (case hp => rfl); (case hx => rfl); (case hc => rfl); (case hsz => rfl); (case h1 => rfl); (case hb => (repeat (exact mhd _))); (case hfit => exact nle rfl); (case hov => (first | ((repeat (first | with_reducible exact ov_nil | apply ov_cons)); done) | rfl)); (case hu => repeat (exact Upd.here _ _))) | fail)
  refine v_loop [11, 10, 9, 3, 1, 2] (fun us G' μ' => GH.le G G' ∧ ∃ (k : Nat) (O : Option Addr) (oc : Nat) (css : List (List Value)) (ν : OH), k ≤ lc.length ∧ us = [Value.int .i64 (k : Int), .int .i64 lc.length, .slice C lc.length cc, .pointer (some ⟨b3, 0, none⟩), .pointer (some ⟨b1, 0, none⟩), .pointer (some ⟨b2, 0, none⟩)] ∧ CoCells G' (lc.take k) css ∧ Grow 61 2 (.slice O k oc) k css.flatten ν ∧ μ' = (b3, .cells [.int .i64 ix, .int .i64 ac, .slice O k oc, .int .i64 z, .slice A lp.length c, .slice A' ls.length c'].toArray 47 (0, 0)) :: (b2, .cells [.int .i64 0, .int .i64 0, .slice none 0 0, .int .i64 0, .slice none 0 0, .slice none 0 0].toArray 47 (0, 0)) :: (b1, .cells [.int .i64 ix, .int .i64 ac, .slice C lc.length cc, .int .i64 z, .slice A lp.length c, .slice A' ls.length c'].toArray 47 (0, 0)) :: ν) (fun us => lc.length - (headI us).toNat) rfl ⟨GH.le_refl _, 0, none, 0, [], [], by omega, rfl, CoCells.nil, Grow.nil _ _, rfl⟩ ?_
  rintro us G' _ ⟨hle, k, O, oc, css, ν, hk, rfl, hcc, hg, rfl⟩
  by_cases hlt : k < lc.length
  · have hlt2 := hbig _ (List.getElem_mem hlt)
    have hA := hsome (by omega)
    have e1 : ((k : Nat) : Int).toNat = k := by omega
    have qc := clone_s ((hmv _ hlt).mono hle) (by omega)
    have hck := (hcp k hlt).le hle
    have hwk := hwf k hlt
    have hmk := hmv k hlt
    have htk := List.take_succ_eq_append_getElem hlt
    clear hcp hc0 hc1 hmv hwf hbig
    generalize lc[k] = x at *
    obtain ⟨xf, xm⟩ := x
    generalize mA k = xA at *
    generalize mc k = xc at *
    simp only at *
    repeat' (first | (apply v_read; (case hop => (apply r_loadN; rfl; exact CellsAt.frozen hck; rfl)); (case hd => rfl)) | (apply v_alloc (d := 5); (case hz => rfl); (case hd => rfl); intro b5) | apply v_seq | apply v_region | apply v_nil | apply v_skip | apply v_block | (apply v_pure; (case hop => first | (apply p_lt <;> rfl) | (apply p_indexAddrS; (case hx => rfl); (case hi => rfl); (case h0 => omega); (case h => omega); (case hA => assumption)) | fail); (case hd => rfl)) | (apply v_cond; (case hc => rfl); all_goals (intro h; (try simp only [reduceCtorEq, zzz] at h); first | (exfalso; omega) | skip)) | (apply v_store; (case hp => rfl); (case hx => rfl); (case hc => rfl); (case hsz => rfl); (case h1 => rfl); (case hb => (repeat (exact mhd _))); (case hfit => exact nle rfl); (case hov => ((repeat (first | with_reducible exact ov_nil | apply ov_cons)); done)); (case hu => repeat (exact Upd.here _ _))) | fail)
    refine d_start [(b5, .cells ([.int .i64 xf, .slice xA xm.length xc]).toArray 61 (0, 0))] (by kernel_rfl) (by kernel_rfl) (by kernel_rfl) (by intro e he; (simp at he; simp [he]; done)) ?_
    all_goals (apply dtk 0; (case hi => rfl); (case hop => (apply prd; apply p_fieldAddrB <;> rfl)); (case hq => kernel_rfl))
    all_goals (apply dtk 2; (case hi => rfl); (case hop => (apply prd; apply p_fieldAddrB <;> rfl)); (case hq => kernel_rfl))
    all_goals (apply dtk 3; (case hi => rfl); (case hop => first | (apply r_loadNo; (case hx => rfl); (case h => (repeat (fail))); (case hd => (repeat (fail))); (case hn => rfl)) | (apply r_load1; rfl; (apply Cell.own; (case h => (repeat (exact mhd _))); rfl)) | (apply r_loadN; rfl; (apply CellsAt.own; (case h => (repeat (fail)))); rfl)); (case hq => kernel_rfl))
    all_goals (apply dtk 4; (case hi => rfl); (case hop => (apply prd; apply p_fieldAddrB <;> rfl)); (case hq => kernel_rfl))
    all_goals (apply dtk 5; (case hi => rfl); (case hop => first | (apply r_loadNo; (case hx => rfl); (case h => (repeat (fail))); (case hd => (repeat (fail))); (case hn => rfl)) | (apply r_load1; rfl; (apply Cell.own; (case h => (repeat (exact mhd _))); rfl)) | (apply r_loadN; rfl; (apply CellsAt.own; (case h => (repeat (fail)))); rfl)); (case hq => kernel_rfl))
    focus
      refine d_fork 1 6 (by kernel_rfl) ?_ ?_
      rotate_right
      focus
        (apply x_call 6 (hs := qc) (μ1 := []); (case hi => rfl);  (case ha => rfl); (case hp => exact List.Perm.refl _); (case hd => rfl); (case hν' => intro e he; simp at he; simp [he]); rintro r1 G1 ν1 - ⟨hG1, hg1⟩; subst G1; obtain ⟨A1, c1, rfl, -, -⟩ := hg1.shape)
        all_goals (apply dtk 7; (case hi => rfl); (case hop => (apply prd; apply p_build; (case hz => rfl); (case hv => (simp only [List.map_cons, List.map_nil]; repeat (first | with_reducible exact evs_nil | (apply evs_cons; (case h1 => rfl))))); (case hb => (apply bldL; repeat (first | exact bld_nil | (apply bld_cons; (case hpf => rfl); (case hc => rfl); (case hs => rfl); (case hl => rfl); (case ho => ((repeat (first | with_reducible exact ov_nil | apply ov_cons)); done)))))))); (case hq => kernel_rfl))
        focus
          refine d_fork 1 8 (by kernel_rfl) ?_ ?_
          rotate_right
          focus
            (apply x_buildSlice 8; (case hi => rfl); (case hT => infer_instance); (case hL => infer_instance); (case hz => rfl); (case hl => rfl); (case hv => (simp only [List.map_cons, List.map_nil]; repeat (first | with_reducible exact evs_nil | (apply evs_cons; (case h1 => rfl))))); (case hp => (apply pk_cons; (case hc => rfl); (case hs => rfl); (case h => (with_reducible exact pk_nil)); (case he => ((repeat (first | with_reducible exact ap_nil | apply ap_cons)); done)))); (case hb => rfl); (case hd => rfl); (case hν => intro e he; (simp at he; simp [he]; done)); intro b7)
            all_goals (apply d_keep 1 (hop := ReadOp.move ?hop); (case hi => rfl); (case hr => kernel_rfl); (case hop => (apply r_load1; rfl; (apply Cell.own; (case h => repeat (first | exact mhd _ | apply mtl | apply List.mem_append_right)); rfl))); (case hd => rfl))
            all_goals (apply d_append 9 (hg := hg) (q' := 1) (us := [.int .i64 xf, .slice A1 xm.length c1]) (hp := PickA.perm (PickA.cons _ (PickA.app _ (PickA.cons _ (PickA.cons _ (PickA.cons _ (PickA.cons _ PickA.last))))))) (hsrc := Src.own (e := 61) (List.Mem.head _) rfl); (case hi => rfl); (case hr => kernel_rfl); (case hT => infer_instance); (case hL => infer_instance); (case hzs => rfl); (case hsz => omega); (case hs => rfl); (case hx => rfl); (case hb => omega); (case hb' => simp only [maxLen]; omega); (case hd => rfl); (case h1 => rfl); (case hν => intro e he; (simp at he; simp [he]; done)); intro v5 n5 g5; obtain ⟨A5, c5, rfl, -, -⟩ := g5.shape)
            all_goals (apply dtk 10; (case hi => rfl); (case hop => (apply prd; apply p_fieldAddrB <;> rfl)); (case hq => kernel_rfl))
            all_goals (apply d_store 11; (case hi => rfl); (case hr => kernel_rfl); (case hL => infer_instance); (case hp => rfl); (case hx => rfl); (case hc => rfl); (case hsz => rfl); (case h1 => rfl); (case hb => (repeat (first | exact mhd _ | apply mtl | apply List.mem_append_right))); (case hfit => exact nle rfl); (case hov => ((repeat (first | with_reducible exact ov_nil | apply ov_cons)); done)); (case hu => repeat (first | exact Upd.here _ _ | apply Upd.there | apply Upd.app)); (case hν' => intro e he; (simp at he; simp [he]; done)))
            all_goals (apply d_done; (case hr => kernel_rfl))
          rotate_right
          focus
            (apply x_exec 1; (case hi => rfl);  (case hop => exact ReadOp.move (r_load1 rfl (Cell.own (by repeat (first | exact mhd _ | apply mtl | apply List.mem_append_right)) rfl))); (case hd => rfl); rintro _ G0 _ ⟨rfl, hG0, rfl⟩; subst G0; refine ⟨(by intro e he; simp at he; simp [he]), ?_⟩)
            all_goals (apply d_buildSlice 8; (case hi => rfl); (case hr => kernel_rfl); (case hT => infer_instance); (case hL => infer_instance); (case hz => rfl); (case hl => rfl); (case hv => (simp only [List.map_cons, List.map_nil]; repeat (first | with_reducible exact evs_nil | (apply evs_cons; (case h1 => rfl))))); (case hp => (apply pk_cons; (case hc => rfl); (case hs => rfl); (case h => (with_reducible exact pk_nil)); (case he => ((repeat (first | with_reducible exact ap_nil | apply ap_cons)); done)))); (case hb => rfl); (case hd => rfl); (case hν => intro e he; (simp at he; simp [he]; done)); intro b7)
            all_goals (apply d_append 9 (hg := hg) (q' := 1) (us := [.int .i64 xf, .slice A1 xm.length c1]) (hp := PickA.perm (PickA.cons _ (PickA.app _ (PickA.cons _ (PickA.cons _ (PickA.cons _ (PickA.cons _ PickA.last))))))) (hsrc := Src.own (e := 61) (List.Mem.head _) rfl); (case hi => rfl); (case hr => kernel_rfl); (case hT => infer_instance); (case hL => infer_instance); (case hzs => rfl); (case hsz => omega); (case hs => rfl); (case hx => rfl); (case hb => omega); (case hb' => simp only [maxLen]; omega); (case hd => rfl); (case h1 => rfl); (case hν => intro e he; (simp at he; simp [he]; done)); intro v5 n5 g5; obtain ⟨A5, c5, rfl, -, -⟩ := g5.shape)
            all_goals (apply dtk 10; (case hi => rfl); (case hop => (apply prd; apply p_fieldAddrB <;> rfl)); (case hq => kernel_rfl))
            all_goals (apply d_store 11; (case hi => rfl); (case hr => kernel_rfl); (case hL => infer_instance); (case hp => rfl); (case hx => rfl); (case hc => rfl); (case hsz => rfl); (case h1 => rfl); (case hb => (repeat (first | exact mhd _ | apply mtl | apply List.mem_append_right))); (case hfit => exact nle rfl); (case hov => ((repeat (first | with_reducible exact ov_nil | apply ov_cons)); done)); (case hu => repeat (first | exact Upd.here _ _ | apply Upd.there | apply Upd.app)); (case hν' => intro e he; (simp at he; simp [he]; done)))
            all_goals (apply d_done; (case hr => kernel_rfl))
      rotate_right
      focus
        (apply x_exec 1; (case hi => rfl);  (case hop => exact ReadOp.move (r_load1 rfl (Cell.own (by repeat (first | exact mhd _ | apply mtl)) rfl))); (case hd => rfl); rintro _ G0 _ ⟨rfl, hG0, rfl⟩; subst G0; refine ⟨(by intro e he; simp at he; simp [he]), ?_⟩)
        all_goals ((apply d_call 6 (hs := qc) (μ1 := []); (case hi => rfl); (case hr => kernel_rfl);  (case ha => rfl); (case hp => exact List.Perm.refl _); (case hd => rfl); (case hν' => intro e he; simp at he; simp [he]); rintro r1 G1 ν1 - ⟨hG1, hg1⟩; subst G1; obtain ⟨A1, c1, rfl, -, -⟩ := hg1.shape))
        all_goals (apply dtk 7; (case hi => rfl); (case hop => (apply prd; apply p_build; (case hz => rfl); (case hv => (simp only [List.map_cons, List.map_nil]; repeat (first | with_reducible exact evs_nil | (apply evs_cons; (case h1 => rfl))))); (case hb => (apply bldL; repeat (first | exact bld_nil | (apply bld_cons; (case hpf => rfl); (case hc => rfl); (case hs => rfl); (case hl => rfl); (case ho => ((repeat (first | with_reducible exact ov_nil | apply ov_cons)); done)))))))); (case hq => kernel_rfl))
        all_goals (apply d_buildSlice 8; (case hi => rfl); (case hr => kernel_rfl); (case hT => infer_instance); (case hL => infer_instance); (case hz => rfl); (case hl => rfl); (case hv => (simp only [List.map_cons, List.map_nil]; repeat (first | with_reducible exact evs_nil | (apply evs_cons; (case h1 => rfl))))); (case hp => (apply pk_cons; (case hc => rfl); (case hs => rfl); (case h => (with_reducible exact pk_nil)); (case he => ((repeat (first | with_reducible exact ap_nil | apply ap_cons)); done)))); (case hb => rfl); (case hd => rfl); (case hν => intro e he; (simp at he; simp [he]; done)); intro b7)
        all_goals (apply d_append 9 (hg := hg) (q' := 1) (us := [.int .i64 xf, .slice A1 xm.length c1]) (hp := PickA.perm (PickA.cons _ (PickA.app _ (PickA.cons _ (PickA.cons _ (PickA.cons _ (PickA.cons _ PickA.last))))))) (hsrc := Src.own (e := 61) (List.Mem.head _) rfl); (case hi => rfl); (case hr => kernel_rfl); (case hT => infer_instance); (case hL => infer_instance); (case hzs => rfl); (case hsz => omega); (case hs => rfl); (case hx => rfl); (case hb => omega); (case hb' => simp only [maxLen]; omega); (case hd => rfl); (case h1 => rfl); (case hν => intro e he; (simp at he; simp [he]; done)); intro v5 n5 g5; obtain ⟨A5, c5, rfl, -, -⟩ := g5.shape)
        all_goals (apply dtk 10; (case hi => rfl); (case hop => (apply prd; apply p_fieldAddrB <;> rfl)); (case hq => kernel_rfl))
        all_goals (apply d_store 11; (case hi => rfl); (case hr => kernel_rfl); (case hL => infer_instance); (case hp => rfl); (case hx => rfl); (case hc => rfl); (case hsz => rfl); (case h1 => rfl); (case hb => (repeat (first | exact mhd _ | apply mtl | apply List.mem_append_right))); (case hfit => exact nle rfl); (case hov => ((repeat (first | with_reducible exact ov_nil | apply ov_cons)); done)); (case hu => repeat (first | exact Upd.here _ _ | apply Upd.there | apply Upd.app)); (case hν' => intro e he; (simp at he; simp [he]; done)))
        all_goals (apply d_done; (case hr => kernel_rfl))
    all_goals repeat' (first | apply v_region | apply v_nil | apply v_blk | (apply v_pure; (case hop => first | (apply p_move <;> rfl) | (apply p_add; (case hx => rfl); (case hy => rfl); (case h => omega)) | fail); (case hd => rfl)) | fail)
    all_goals
      (refine v_freezeP ν1 ((b3, .cells [.int .i64 ix, .int .i64 ac, .slice A5 (k + 1) c5, .int .i64 z, .slice A lp.length c, .slice A' ls.length c'].toArray 47 (0, 0)) :: (b2, .cells [.int .i64 0, .int .i64 0, .slice none 0 0, .int .i64 0, .slice none 0 0, .slice none 0 0].toArray 47 (0, 0)) :: (b1, .cells [.int .i64 ix, .int .i64 ac, .slice C lc.length cc, .int .i64 z, .slice A lp.length c, .slice A' ls.length c'].toArray 47 (0, 0)) :: n5) [(b7, _), (b5, _)] (by apply perm_of_count; intro p; simp only [List.append_eq, List.countP_append, List.countP_cons, List.countP_nil, Nat.zero_add, Nat.add_zero]; try ac_rfl) ?_
       intro G1 hle1 hG1
       refine v_again rfl ⟨GH.le_trans hle hle1, k + 1, A5, c5, css ++ [[.int .i64 xf, .slice A1 xm.length c1]], n5, by omega, rfl, ?_, ?_, rfl⟩ (by simp [headI]; omega)
       · rw [htk]
         obtain ⟨_, _, _, _, _, _, _, hw⟩ := hmk.openInt
         exact (hcc.le hle1).push rfl ⟨_, rfl, hwk, hg1.ints hG1 hw⟩
       · simpa using g5)
  · obtain rfl : k = lc.length := by omega
    rw [List.take_length] at hcc
    have hcn := hcn G' hle
    repeat' (first | (apply v_read; (case hop => (apply r_loadNo; (case hx => rfl); (case h => repeat (first | exact mhd _ | apply mtl)); (case hd => rfl); (case hn => rfl))); (case hd => rfl)) | apply v_seq | apply v_region | apply v_nil | (apply v_exit; (case hp => rfl)) | (apply v_pure; (case hop => first | (apply p_lt <;> rfl) | (apply p_fieldAddrB <;> rfl) | fail); (case hd => rfl)) | (apply v_cond; (case hc => rfl); all_goals (intro h; (try simp only [reduceCtorEq, zzz] at h); first | (exfalso; omega) | skip)) | fail)
    refine v_call (μ1 := []) rfl hcn (List.Perm.refl _) rfl ?_
    rintro _ G2 ν2 - ⟨hG2, bp, bs, rfl, rfl⟩
    subst hG2
    refine v_frz [(bs, .cells (rowC Ss.cells ls).toArray 146 (0, 0)), (bp, .cells (rowC Pr.cells lp).toArray 144 (0, 0))] (PickA.here _) ?_
    intro G3 hle3 hG3
    have hs3 : StV G3 ⟨z, lp, ls⟩ _ := StV.made (s := ⟨z, lp, ls⟩) (bp := bp) (bs := bs) hsz.1 hsz.2 (hG3 _ _ (by (repeat (first | exact mhd _ | apply mtl)))) (hG3 _ _ (by (repeat (exact mhd _))))
    repeat' (first | (apply v_read; (case hop => (apply r_loadNo; (case hx => rfl); (case h => repeat (exact mhd _)); (case hd => rfl); (case hn => rfl))); (case hd => rfl)) | apply v_seq | apply v_region | apply v_nil | (apply v_pure; (case hop => (apply p_fieldAddrB <;> rfl)); (case hd => rfl)) | (apply v_store; (case hp => rfl); (case hx => rfl); (case hc => rfl); (case hsz => rfl); (case h1 => rfl); (case hb => (repeat (first | exact mhd _ | apply mtl))); (case hfit => exact nle rfl); (case hov => (first | ((repeat (first | with_reducible exact ov_nil | apply ov_cons)); done) | rfl)); (case hu => repeat (first | exact Upd.here _ _ | apply Upd.there))) | fail)
    refine v_frz ν (PickA.cons _ (PickA.cons _ (PickA.cons _ PickA.last))) ?_
    intro G4 hle4 hG4
    have hs4 := hs3.up hle4
    have hC4 := hcc.grow hg (GH.le_trans hle3 hle4) hG4
    refine v_retM [] (outsM_cell (sz := 6) (vs := [.int .i64 ix, .int .i64 ac, .slice O lc.length oc, .int .i64 z, .slice (some ⟨bp, 0, none⟩) lp.length lp.length, .slice (some ⟨bs, 0, none⟩) ls.length ls.length]) (e := 47) rfl rfl (by repeat (first | exact mhd _ | apply mtl)) rfl) (List.nil_sublist _) ⟨rfl, ?_⟩
    exact ImV.mk' hC4 hs4
theorem Cos.made1 {G : GH} {x : Int} {l : List Int} {A : Option Addr} {c b : Nat} (hx : (Lit.int .i64 x).wf = true) (hl : Sl G 1 (IntR .i64) (.slice A l.length c) l) (hb : G b = some (.cells [Value.int .i64 x, .slice A l.length c].toArray 61 (0, 0))) : Cos G (.slice (some ⟨b, 0, none⟩) 1 1) [(x, l)] := by
  have h0 : CoCells G [(x, l)] [[Value.int .i64 x, .slice A l.length c]] := CoCells.push (l := []) (css := []) CoCells.nil rfl ⟨_, rfl, hx, hl⟩
  refine h0.grow (ν := [(b, .cells [Value.int .i64 x, .slice A l.length c].toArray 61 (0, 0))]) ⟨rfl, .inr ⟨b, 1, [], rfl, rfl, by simp, by simp [maxLen], rfl⟩⟩ (GH.le_refl _) (fun b' o h => ?_)
  simp only [List.mem_singleton] at h
  cases h
  exact hb
noncomputable def firstI (l : List Int) : Im := if ConfOK [(1, l)] then ⟨0, 0, [(1, l)], emp⟩ else zeroIm
theorem ImV.zero (G : GH) : ImV G zeroIm (.agg [.int .i64 0, .int .i64 0, .slice none 0 0, .int .i64 0, .slice none 0 0, .slice none 0 0].toArray) := ImV.mk' Sl.nil (StV.zero G)
theorem winFirst_s {G : GH} {l : List Int} {v : Value} (hs : Sl G 1 (IntR .i64) v l) (hl : l.length ≤ 1000) :
    Con Tryz.prog 29 #[v] G [] (fun r G' μ' => μ' = [] ∧ ∃ v', r = .tuple [v', .int .i64 (if ConfOK [(1, l)] then 0 else 3)].toArray ∧ ImV G' (firstI l) v') := by
  have qc := clone_s hs (by omega)
  obtain ⟨_, _, _, _, _, _, _, hw⟩ := hs.openInt
  have hfi : firstI l = if ConfOK [(1, l)] then ⟨0, 0, [(1, l)], emp⟩ else zeroIm := rfl
  rw [hfi]
  clear hfi
  (refine v_enter Tryz.func29 rfl Tryz.ntmps29 rfl ?_; intro B _)
  repeat' (first | (apply v_alloc (d := 2); (case hz => rfl); (case hd => rfl); intro b2) | apply v_seq | apply v_region | apply v_nil | (apply v_pure; (case hop => first | (apply p_move <;> rfl) | (apply p_assign <;> rfl) | fail); (case hd => rfl)) | fail)
  refine v_call (μ1 := []) rfl qc (List.Perm.refl _) rfl ?_
  rintro r1 G1 ν1 - ⟨hG1, hg1⟩
  subst hG1
  obtain ⟨A1, c1, rfl, -, -⟩ := hg1.shape
  refine v_frz ν1 (PickA.here _) ?_
  intro G2 hle2 hG2
  have hl2 := hg1.ints hG2 hw
  repeat' (first | (apply v_buildSlice; (case hz => rfl); (case hi => rfl); (case hv => (simp only [List.map_cons, List.map_nil]; repeat (first | with_reducible exact evs_nil | (apply evs_cons; (case h1 => rfl))))); (case hp => (apply pk_cons; (case hc => rfl); (case hs => rfl); (case h => (with_reducible exact pk_nil)); (case he => ((repeat (first | with_reducible exact ap_nil | apply ap_cons)); done)))); (case hb => rfl); (case hd => rfl); intro b9) | apply v_seq | apply v_region | apply v_nil | (apply v_pure; (case hop => first | (apply p_move <;> rfl) | (apply p_assign <;> rfl) | (apply p_build; (case hz => rfl); (case hv => (simp only [List.map_cons, List.map_nil]; repeat (first | with_reducible exact evs_nil | (apply evs_cons; (case h1 => rfl))))); (case hb => (apply bldL; repeat (first | exact bld_nil | (apply bld_cons; (case hpf => rfl); (case hc => rfl); (case hs => rfl); (case hl => rfl); (case ho => ((repeat (first | with_reducible exact ov_nil | apply ov_cons)); done))))))) | fail); (case hd => rfl)) | fail)
  refine v_frz [(b9, .cells [Value.int .i64 1, .slice A1 l.length c1].toArray 61 (0, 0))] (PickA.here _) ?_
  intro G3 hle3 hG3
  have hC := Cos.made1 (x := 1) (WalkArith.wf_i64 (by decide)) (hl2.mono hle3) (hG3 _ _ (by (repeat (exact mhd _))))
  have qk := check_s hC
  by_cases hok : ConfOK [(1, l)]
  · rw [if_pos hok] at qk
    rw [if_pos hok, if_pos hok]
    have qe := empty_s G3
    repeat' (first | apply v_seq | apply v_region | apply v_nil | apply v_skip | (apply v_pure; (case hop => first | (apply p_move <;> rfl) | (apply p_nes <;> rfl) | (apply p_assign <;> rfl) | (apply p_build; (case hz => rfl); (case hv => (simp only [List.map_cons, List.map_nil]; repeat (first | with_reducible exact evs_nil | (apply evs_cons; (case h1 => rfl))))); (case hb => (apply bldL; repeat (first | exact bld_nil | (apply bld_cons; (case hpf => rfl); (case hc => rfl); (case hs => rfl); (case hl => rfl); (case ho => ((repeat (first | with_reducible exact ov_nil | apply ov_cons)); done))))))) | fail); (case hd => rfl)) | (apply v_condF; (case hc => rfl)) | (apply v_callJ (hs := qk); (case ha => rfl); (case hd => rfl)) | (apply v_callJ (hs := qe); (case ha => rfl); (case hd => rfl)) | (apply v_store; (case hp => rfl); (case hx => rfl); (case hc => rfl); (case hsz => rfl); (case h1 => rfl); (case hb => (repeat (exact mhd _))); (case hfit => exact nle rfl); (case hov => ((repeat (first | with_reducible exact ov_nil | apply ov_cons)); done)); (case hu => repeat (exact Upd.here _ _))) | fail)
    refine v_retM [] (outsM_cell_tmp (sz := 6) (vs := [.int .i64 0, .int .i64 0, .slice (some ⟨b9, 0, none⟩) 1 1, .int .i64 1, .slice none 0 0, .slice none 0 0]) (e := 47) rfl rfl rfl (by repeat (exact mhd _)) rfl) (List.nil_sublist _) ⟨rfl, _, rfl, ?_⟩
    exact ImV.mk' (l := [(1, l)]) hC (emp_v G3)
  · rw [if_neg hok] at qk
    rw [if_neg hok, if_neg hok]
    repeat' (first | apply v_seq | apply v_region | apply v_nil | (apply v_pure; (case hop => first | (apply p_move <;> rfl) | (apply p_ne <;> rfl) | (apply p_assign <;> rfl) | (apply p_build; (case hz => rfl); (case hv => (simp only [List.map_cons, List.map_nil]; repeat (with_reducible exact evs_nil))); (case hb => (apply bldL; repeat (exact bld_nil)))) | fail); (case hd => rfl)) | (apply v_cond; (case hc => rfl); all_goals (intro h; (try simp only [reduceCtorEq, zzz] at h); first | (exfalso; omega) | skip)) | (apply v_callJ (hs := qk); (case ha => rfl); (case hd => rfl)) | (apply v_store; (case hp => rfl); (case hx => rfl); (case hc => rfl); (case hsz => rfl); (case h1 => rfl); (case hb => (repeat (exact mhd _))); (case hfit => exact nle rfl); (case hov => ((repeat (first | with_reducible exact ov_nil | apply ov_cons)); done)); (case hu => repeat (exact Upd.here _ _))) | fail)
    refine v_retM [] (outsM_cell_tmp (sz := 6) (vs := [.int .i64 0, .int .i64 0, .slice none 0 0, .int .i64 0, .slice none 0 0, .slice none 0 0]) (e := 47) rfl rfl rfl (by repeat (exact mhd _)) rfl) (List.nil_sublist _) ⟨rfl, _, rfl, ?_⟩
    exact ImV.zero G3
abbrev boxI (b : Nat) (ix ac : Int) (C : Value) (z : Int) (P S : Value) : Nat × Obj := (b, .cells [.int .i64 ix, .int .i64 ac, C, .int .i64 z, P, S].toArray 151 (0, 0))
theorem imOther_s {G : GH} {b : Nat} {ix ac z : Int} {C P S : Value} (c : Cm) : Con Tryz.prog 149 #[.pointer (some ⟨b, 0, none⟩), .agg c.cells.toArray] G [boxI b ix ac C z P S] (fun _ G' μ' => G' = G ∧ μ' = [boxI b ix ac C z P S]) := by
  obtain ⟨kind, cl, seq, key, val, old, node⟩ := c
  (refine v_enter Tryz.func149 rfl Tryz.ntmps149 rfl ?_; intro B _)
  repeat' (first | (apply v_box (d := 3) (zs := Cm.cells ⟨kind, cl, seq, key, val, old, node⟩); (case hx => rfl); (case hz => rfl); (case hd => rfl); intro b3) | apply v_region | apply v_nil)
  refine v_end [boxI b ix ac C z P S] (outsA0 rfl) (by repeat (first | exact List.Sublist.refl _ | apply List.Sublist.cons)) ?_
  exact ⟨rfl, rfl⟩
theorem imActivate_s {G : GH} {b : Nat} {ix ac z : Int} {C P S : Value} (c : Cm) : Con Tryz.prog 148 #[.pointer (some ⟨b, 0, none⟩), .agg c.cells.toArray] G [boxI b ix ac C z P S] (fun _ G' μ' => G' = G ∧ μ' = [boxI b ix (if ac = 0 then ix else ac) C z P S]) := by
  obtain ⟨kind, cl, seq, key, val, old, node⟩ := c
  (refine v_enter Tryz.func148 rfl Tryz.ntmps148 rfl ?_; intro B _)
  repeat' (first | (apply v_box (d := 3) (zs := Cm.cells ⟨kind, cl, seq, key, val, old, node⟩); (case hx => rfl); (case hz => rfl); (case hd => rfl); intro b3) | apply v_seq | apply v_region | apply v_nil | apply v_skip | (apply v_pure; (case hop => first | (apply p_move <;> rfl) | (apply p_eq <;> rfl) | (apply p_fieldAddrB <;> rfl) | (apply p_nilCheck <;> rfl) | fail); (case hd => rfl)) | (apply v_cond; (case hc => rfl); all_goals (intro h; (try simp only [reduceCtorEq, zzz] at h))) | (apply v_read; (case hop => (apply r_load1; rfl; (apply Cell.own; (case h => (repeat (first | exact mhd _ | apply mtl))); rfl))); (case hd => rfl)) | (apply v_store; (case hp => rfl); (case hx => rfl); (case hc => rfl); (case hsz => rfl); (case h1 => rfl); (case hb => (repeat (first | exact mhd _ | apply mtl))); (case hfit => exact nle rfl); (case hov => ((repeat (first | with_reducible exact ov_nil | apply ov_cons)); done)); (case hu => repeat (first | exact Upd.here _ _ | apply Upd.there))) | fail)
  · have h0 : ac = 0 := by assumption
    rw [if_pos h0]
    refine v_end [boxI b ix ix C z P S] (outsA0 rfl) (by repeat (first | exact List.Sublist.refl _ | apply List.Sublist.cons)) ?_
    exact ⟨rfl, rfl⟩
  · have h0 : ¬ ac = 0 := by assumption
    rw [if_neg h0]
    refine v_end [boxI b ix ac C z P S] (outsA0 rfl) (by repeat (first | exact List.Sublist.refl _ | apply List.Sublist.cons)) ?_
    exact ⟨rfl, rfl⟩
theorem imMember_s {G : GH} {b : Nat} {ix ac z : Int} {C P S : Value} {l : List Co} (c : Cm) (hC : Cos G C l) (hl : l.length ≤ 1000) (hbig : ∀ c ∈ l, c.2.length ≤ 1048000) (hn : (Lit.int .i64 c.node).wf = true) :
    Con Tryz.prog 147 #[.pointer (some ⟨b, 0, none⟩), .agg c.cells.toArray] G [boxI b ix ac C z P S]
      (fun _ G' μ' => ∃ C', Cos G' C' (if (changeR l ix c.kind c.node).2 = 0 then changeL l ix c.kind c.node else l) ∧ μ' = [boxI b ix ac C' z P S]) := by
  obtain ⟨kind, cl, seq, key, val, old, node⟩ := c
  have q := change_s ix kind node hC hl hbig hn
  have h1 := fun h => changeR_one (l := l) (x := ix) (k := kind) (n := node) h
  obtain ⟨A, cc, rfl, -⟩ := id hC.open
  simp only at *
  generalize changeR l ix kind node = cr at *
  obtain ⟨cl', ce⟩ := cr
  simp only at *
  (refine v_enter Tryz.func147 rfl Tryz.ntmps147 rfl ?_; intro B _)
  repeat' (first | (apply v_box (d := 3) (zs := Cm.cells ⟨kind, cl, seq, key, val, old, node⟩); (case hx => rfl); (case hz => rfl); (case hd => rfl); intro b3) | apply v_seq | apply v_region | apply v_nil)
  refine d_start [boxI b ix ac (.slice A l.length cc) z P S, (b3, .cells (Cm.cells ⟨kind, cl, seq, key, val, old, node⟩).toArray 28 (0, 0))] (by kernel_rfl) (by kernel_rfl) (by kernel_rfl) (by intro e he; (simp only [List.mem_cons, List.not_mem_nil, or_false] at he; rcases he with rfl | rfl <;> simp; done)) ?_
  all_goals (apply dtk 0; (case hi => rfl); (case hop => (apply prd; apply p_move <;> rfl)); (case hq => kernel_rfl))
  all_goals (apply dtk 1; (case hi => rfl); (case hop => (apply prd; apply p_nilCheck <;> rfl)); (case hq => kernel_rfl))
  all_goals (apply dtk 2; (case hi => rfl); (case hop => (apply prd; apply p_fieldAddrB <;> rfl)); (case hq => kernel_rfl))
  all_goals (apply dtk 3; (case hi => rfl); (case hop => (apply prd; apply p_fieldAddrB <;> rfl)); (case hq => kernel_rfl))
  all_goals (apply dtk 4; (case hi => rfl); (case hop => first | (apply r_loadNo; (case hx => rfl); (case h => (repeat (fail))); (case hd => (repeat (fail))); (case hn => rfl)) | (apply r_load1; rfl; (apply Cell.own; (case h => (repeat (exact mhd _))); rfl)) | (apply r_loadN; rfl; (apply CellsAt.own; (case h => (repeat (fail)))); rfl)); (case hq => kernel_rfl))
  all_goals (apply dtk 5; (case hi => rfl); (case hop => (apply prd; apply p_move <;> rfl)); (case hq => kernel_rfl))
  all_goals (apply dtk 6; (case hi => rfl); (case hop => (apply prd; apply p_nilCheck <;> rfl)); (case hq => kernel_rfl))
  all_goals (apply dtk 7; (case hi => rfl); (case hop => (apply prd; apply p_fieldAddrB <;> rfl)); (case hq => kernel_rfl))
  all_goals (apply dtk 8; (case hi => rfl); (case hop => (apply prd; apply p_fieldAddrB <;> rfl)); (case hq => kernel_rfl))
  all_goals (apply dtk 9; (case hi => rfl); (case hop => first | (apply r_loadNo; (case hx => rfl); (case h => (repeat (fail))); (case hd => (repeat (fail))); (case hn => rfl)) | (apply r_load1; rfl; (apply Cell.own; (case h => (repeat (exact mhd _))); rfl)) | (apply r_loadN; rfl; (apply CellsAt.own; (case h => (repeat (fail)))); rfl)); (case hq => kernel_rfl))
  all_goals (apply dtk 10; (case hi => rfl); (case hop => (apply prd; apply p_fieldAddrB <;> rfl)); (case hq => kernel_rfl))
  all_goals (apply dtk 11; (case hi => rfl); (case hop => first | (apply r_loadNo; (case hx => rfl); (case h => (repeat (fail))); (case hd => (repeat (fail))); (case hn => rfl)) | (apply r_load1; rfl; (apply Cell.own; (case h => (repeat (first | exact mhd _ | apply mtl))); rfl)) | (apply r_loadN; rfl; (apply CellsAt.own; (case h => (repeat (fail)))); rfl)); (case hq => kernel_rfl))
  all_goals (apply dtk 12; (case hi => rfl); (case hop => (apply prd; apply p_fieldAddrB <;> rfl)); (case hq => kernel_rfl))
  all_goals (apply dtk 13; (case hi => rfl); (case hop => first | (apply r_loadNo; (case hx => rfl); (case h => (repeat (fail))); (case hd => (repeat (fail))); (case hn => rfl)) | (apply r_load1; rfl; (apply Cell.own; (case h => (repeat (first | exact mhd _ | apply mtl))); rfl)) | (apply r_loadN; rfl; (apply CellsAt.own; (case h => (repeat (fail)))); rfl)); (case hq => kernel_rfl))
  all_goals ((apply d_call 14 (hs := q) (μ1 := []); (case hi => rfl); (case hr => kernel_rfl);  (case ha => rfl); (case hp => exact List.Perm.refl _); (case hd => rfl); (case hν' => intro e he; simp at he; simp; rcases he with rfl | rfl <;> simp); rintro r1 G1 ν1 hle1 ⟨rfl, v1, rfl, hv1⟩))
  all_goals (apply dtk 15; (case hi => rfl); (case hop => (apply prd; apply p_move <;> rfl)); (case hq => kernel_rfl))
  all_goals (apply dtk 16; (case hi => rfl); (case hop => (apply prd; apply p_extract0 <;> rfl)); (case hq => kernel_rfl))
  all_goals (apply dtk 17; (case hi => rfl); (case hop => (apply prd; apply p_extract1 <;> rfl)); (case hq => kernel_rfl))
  all_goals (apply dtk 18; (case hi => rfl); (case hop => (apply prd; apply p_assign <;> rfl)); (case hq => kernel_rfl))
  all_goals (apply dtk 19; (case hi => rfl); (case hop => (apply prd; apply p_assign <;> rfl)); (case hq => kernel_rfl))
  all_goals (apply d_done; (case hr => kernel_rfl))
  repeat' (first | apply v_seq | apply v_region | apply v_nil | apply v_skip | (apply v_pure; (case hop => first | (apply p_move <;> rfl) | (apply p_eq <;> rfl) | (apply p_fieldAddrB <;> rfl) | (apply p_nilCheck <;> rfl) | fail); (case hd => rfl)) | (apply v_cond; (case hc => rfl); all_goals (intro h; (try simp only [reduceCtorEq, zzz] at h))) | fail)
  · obtain ⟨A1, c1, rfl, -⟩ := id hv1.open
    have h0 : ce = 0 := by assumption
    rw [if_pos h0, ← h1 h0]
    repeat' (first | apply v_nil | (apply v_store; (case hp => rfl); (case hx => rfl); (case hc => rfl); (case hsz => rfl); (case h1 => rfl); (case hb => (repeat (first | exact mhd _ | apply mtl))); (case hfit => exact nle rfl); (case hov => ((repeat (first | with_reducible exact ov_nil | apply ov_cons)); done)); (case hu => repeat (first | exact Upd.here _ _ | apply Upd.there))) | fail)
    refine v_end [boxI b ix ac _ z P S] (outsA0 rfl) (by repeat (first | exact List.Sublist.refl _ | apply List.Sublist.cons)) ?_
    exact ⟨_, hv1, rfl⟩
  · rw [if_neg (by assumption)]
    refine v_end [boxI b ix ac (.slice A l.length cc) z P S] (outsA0 rfl) (by repeat (first | exact List.Sublist.refl _ | apply List.Sublist.cons)) ?_
    exact ⟨_, hC.le hle1, rfl⟩
noncomputable def doesF (kind : Int) : Nat := if kind = 7 ∨ kind = 8 then 147 else if kind = 6 then 148 else 149
theorem imDoes_s {G : GH} {b : Nat} (kind : Int) : Con Tryz.prog 83 #[.pointer (some ⟨b, 0, none⟩), .int .i64 kind] G [] (Just (.func (.func (doesF kind)) #[.pointer (some ⟨b, 0, none⟩)] #[]) G) := by
  apply Con.just
  unfold doesF
  (refine v_enter Tryz.func83 rfl Tryz.ntmps83 rfl ?_; intro B _)
  by_cases h7 : kind = 7
  · repeat' (first | apply v_seq | apply v_region | apply v_nil | apply v_skip | apply v_block | (apply v_pure; (case hop => first | (apply p_move <;> rfl) | (apply p_eq <;> rfl) | (apply p_assign <;> rfl) | (apply p_makeFunc <;> rfl) | fail); (case hd => rfl)) | (apply v_cond; (case hc => rfl); all_goals (intro h; (try simp only [reduceCtorEq, zzz] at h); first | (exfalso; omega) | skip)) | fail)
    refine v_ret [] (outsA1 rfl rfl) (by repeat (exact List.Sublist.refl _)) ?_
    rw [if_pos (.inl h7)]
    exact ⟨rfl, rfl⟩
  · by_cases h8 : kind = 8
    · repeat' (first | apply v_seq | apply v_region | apply v_nil | apply v_block | (apply v_pure; (case hop => first | (apply p_move <;> rfl) | (apply p_eq <;> rfl) | (apply p_assign <;> rfl) | (apply p_makeFunc <;> rfl) | fail); (case hd => rfl)) | (apply v_cond; (case hc => rfl); all_goals (intro h; (try simp only [reduceCtorEq, zzz] at h); first | (exfalso; omega) | skip)) | fail)
      refine v_ret [] (outsA1 rfl rfl) (by repeat (exact List.Sublist.refl _)) ?_
      rw [if_pos (.inr h8)]
      exact ⟨rfl, rfl⟩
    · by_cases h6 : kind = 6
      · repeat' (first | apply v_seq | apply v_region | apply v_nil | apply v_block | (apply v_pure; (case hop => first | (apply p_move <;> rfl) | (apply p_eq <;> rfl) | (apply p_assign <;> rfl) | (apply p_makeFunc <;> rfl) | fail); (case hd => rfl)) | (apply v_cond; (case hc => rfl); all_goals (intro h; (try simp only [reduceCtorEq, zzz] at h); first | (exfalso; omega) | skip)) | fail)
        refine v_ret [] (outsA1 rfl rfl) (by repeat (exact List.Sublist.refl _)) ?_
        rw [if_neg (by omega), if_pos h6]
        exact ⟨rfl, rfl⟩
      · repeat' (first | apply v_seq | apply v_region | apply v_nil | apply v_skip | apply v_block | apply v_blk | (apply v_pure; (case hop => first | (apply p_move <;> rfl) | (apply p_eq <;> rfl) | (apply p_assign <;> rfl) | (apply p_makeFunc <;> rfl) | fail); (case hd => rfl)) | (apply v_cond; (case hc => rfl); all_goals (intro h; (try simp only [reduceCtorEq, zzz] at h); first | (exfalso; omega) | skip)) | fail)
        refine v_ret [] (outsA1 rfl rfl) (by repeat (exact List.Sublist.refl _)) ?_
        rw [if_neg (by omega), if_neg h6]
        exact ⟨rfl, rfl⟩
theorem winNone_s (G : GH) (e : Int) : Con Tryz.prog 81 #[.int .i64 e] G [] (Just (.tuple [.agg [.int .i64 0, .int .i64 0, .slice none 0 0, .int .i64 0, .slice none 0 0, .slice none 0 0].toArray, .agg zA.cells.toArray, .int .i64 e].toArray) G) := by
  apply Con.just
  (refine v_enter Tryz.func81 rfl Tryz.ntmps81 rfl ?_; intro B _)
  repeat' (first | (apply v_alloc (d := 2); (case hz => rfl); (case hd => rfl); intro b2) | (apply v_alloc (d := 3); (case hz => rfl); (case hd => rfl); intro b3) | apply v_seq | apply v_region | apply v_nil | (apply v_pure; (case hop => first | (apply p_move <;> rfl) | (apply p_assign <;> rfl) | (apply p_build; (case hz => rfl); (case hv => (simp only [List.map_cons, List.map_nil]; repeat (with_reducible exact evs_nil))); (case hb => (apply bldL; repeat (exact bld_nil))))); (case hd => rfl)) | (apply v_store; (case hp => rfl); (case hx => rfl); (case hc => rfl); (case hsz => rfl); (case h1 => rfl); (case hb => (repeat (first | exact mhd _ | apply mtl))); (case hfit => exact nle rfl); (case hov => ((repeat (first | with_reducible exact ov_nil | apply ov_cons)); done)); (case hu => repeat (first | exact Upd.here _ _ | apply Upd.there))) | fail)
  refine v_retM [] (outsM_cct (sz0 := 6) (vs0 := [.int .i64 0, .int .i64 0, .slice none 0 0, .int .i64 0, .slice none 0 0, .slice none 0 0]) (e0 := 47) (sz1 := 6) (vs1 := zA.cells) (e1 := 40) rfl rfl (by repeat (first | exact mhd _ | apply mtl)) rfl rfl (by repeat (exact mhd _)) rfl rfl) (List.nil_sublist _) ⟨rfl, rfl⟩
noncomputable instance (kind : Int) : Callable Tryz.prog (doesF kind) := by
  unfold doesF
  split
  · exact callable_of Tryz.func147 (by kernel_rfl) (by kernel_rfl)
  · split
    · exact callable_of Tryz.func148 (by kernel_rfl) (by kernel_rfl)
    · exact callable_of Tryz.func149 (by kernel_rfl) (by kernel_rfl)
theorem imDo_s {G : GH} {b : Nat} {ix ac z : Int} {C P S : Value} {l : List Co} (c : Cm) (hC : Cos G C l) (hl : l.length ≤ 1000) (hbig : ∀ c ∈ l, c.2.length ≤ 1048000) (hn : (Lit.int .i64 c.node).wf = true) :
    Con Tryz.prog (doesF c.kind) #[.pointer (some ⟨b, 0, none⟩), .agg c.cells.toArray] G [boxI b ix ac C z P S]
      (fun _ G' μ' => ∃ C', Cos G' C' (if (c.kind = 7 ∨ c.kind = 8) ∧ (changeR l ix c.kind c.node).2 = 0 then changeL l ix c.kind c.node else l) ∧ μ' = [boxI b ix (if c.kind = 6 ∧ ac = 0 then ix else ac) C' z P S]) := by
  unfold doesF
  by_cases h7 : c.kind = 7 ∨ c.kind = 8
  · rw [if_pos h7]
    refine (imMember_s c hC hl hbig hn).mono fun r G' μ' h => ?_
    obtain ⟨C', h1, h2⟩ := h
    refine ⟨C', ?_, ?_⟩
    · by_cases h0 : (changeR l ix c.kind c.node).2 = 0
      · rw [if_pos h0] at h1; rw [if_pos ⟨h7, h0⟩]; exact h1
      · rw [if_neg h0] at h1; rw [if_neg (fun h => h0 h.2)]; exact h1
    · rw [if_neg (fun h => by omega)]; exact h2
  · rw [if_neg h7]
    by_cases h6 : c.kind = 6
    · rw [if_pos h6]
      refine (imActivate_s c).mono fun r G' μ' h => ?_
      obtain ⟨rfl, h2⟩ := h
      refine ⟨C, by rw [if_neg (fun h => h7 h.1)]; exact hC, ?_⟩
      by_cases h0 : ac = 0
      · rw [if_pos h0] at h2; rw [if_pos ⟨h6, h0⟩]; exact h2
      · rw [if_neg h0] at h2; rw [if_neg (fun h => h0 h.2)]; exact h2
    · rw [if_neg h6]
      refine (imOther_s c).mono fun r G' μ' h => ?_
      obtain ⟨rfl, h2⟩ := h
      exact ⟨C, by rw [if_neg (fun h => h7 h.1)]; exact hC, by rw [if_neg (fun h => h6 h.1)]; exact h2⟩
theorem winApply_s {G : GH} (hT : TabsG G) {m : Im} {v : Value} (hm : ImV G m v) (hz : StZ m.st) (hco : CoZ m.confs) (c : Cm) (hc : c.ok) (hcw : CmW c) :
    Con Tryz.prog 28 #[v, .agg c.cells.toArray] G [] (fun r G' μ' => μ' = [] ∧ ∃ v', r = .tuple [v', .agg (winS m c).2.1.cells.toArray, .int .i64 (winS m c).2.2].toArray ∧ ImV G' (winS m c).1 v') := by
  have q1 := winCheck_s hT hm hz
  have q2 := cmdCheck_s hT c hc
  have q3 := fun G' (h : GH.le G G') => winClone_s (hm.up h) hz hco
  have q4 := fun G' (hT : TabsG G') v' (hs : StV G' m.st v') (hok : StP m.st) => apply_s hT c hs hz hok hc hcw
  have hst : winS m c = if ¬ ImP m then (zeroIm, zA, 3) else if 4294967292 ≤ m.index then (zeroIm, zA, 11) else if cmdI c ≠ 0 then (zeroIm, zA, cmdI c) else (nextI m c, (applyS m.st c).2.1, 0) := rfl
  have hnx : nextI m c = ⟨m.index + 1, activeI m c, trimL (confsI m c) (m.index + 2), (applyS m.st c).1⟩ := rfl
  have hcI : confsI m c = if (c.kind = 7 ∨ c.kind = 8) ∧ (changeR m.confs (m.index + 1) c.kind c.node).2 = 0 then changeL m.confs (m.index + 1) c.kind c.node else m.confs := rfl
  have haI : activeI m c = if c.kind = 6 ∧ m.active = 0 then m.index + 1 else m.active := rfl
  have hcok := fun (h : ImP m) (h2 : m.index < 4294967292) => confsI_ok (c := c) h h2
  have hclen := confsI_len (m := m) (c := c)
  have hi0 : ImP m → 0 ≤ m.index := fun h => h.1.1
  have hstp : ImP m → StP m.st := fun h => h.2.2.1
  have hcz := hco.1
  have hcb := hco.one
  have hnode : (Lit.int .i64 c.node).wf = true := hc.2.2.2.2.2.2
  have q6 := fun G' (b : Nat) (x a z : Int) (C P S : Value) (hC : Cos G' C m.confs) => imDo_s (b := b) (ix := x) (ac := a) (z := z) (P := P) (S := S) c hC (by omega) hcb hnode
  have q5 := fun G' (b : Nat) => imDoes_s (G := G') (b := b) c.kind
  obtain ⟨C, cc, A, d, A', d', rfl, hC, hp, hss⟩ := id hm
  rw [hst]
  clear hst
  obtain ⟨kind, cl, seq, key, val, old, node⟩ := c
  generalize cmdI ⟨kind, cl, seq, key, val, old, node⟩ = ci at *
  generalize activeI m ⟨kind, cl, seq, key, val, old, node⟩ = aI at *
  generalize confsI m ⟨kind, cl, seq, key, val, old, node⟩ = cI at *
  generalize applyS m.st ⟨kind, cl, seq, key, val, old, node⟩ = ap at *
  generalize nextI m ⟨kind, cl, seq, key, val, old, node⟩ = nI at *
  by_cases hP : ImP m
  · rw [if_pos hP] at q1
    rw [if_neg (fun h => h hP)]
    have hi0 := hi0 hP
    have hstp := hstp hP
    have hcok := hcok hP
    clear hP
    obtain ⟨ix, ac, lc, ⟨z, lp, ls⟩⟩ := m
    simp only at *
    by_cases hfull : 4294967292 ≤ ix
    · rw [if_pos hfull]
      (refine v_enter Tryz.func28 rfl Tryz.ntmps28 rfl ?_; intro B _)
      repeat' (first | (apply v_box (d := 2) (zs := [.int .i64 ix, .int .i64 ac, .slice C lc.length cc, .int .i64 z, .slice A lp.length d, .slice A' ls.length d']); (case hx => rfl); (case hz => rfl); (case hd => rfl); intro b2) | (apply v_box (d := 3) (zs := Cm.cells ⟨kind, cl, seq, key, val, old, node⟩); (case hx => rfl); (case hz => rfl); (case hd => rfl); intro b3) | (apply v_alloc (d := 4); (case hz => rfl); (case hd => rfl); intro b4) | (apply v_alloc (d := 5); (case hz => rfl); (case hd => rfl); intro b5) | (apply v_read; (case hop => (apply r_loadNo; (case hx => rfl); (case h => repeat (first | exact mhd _ | apply mtl)); (case hd => rfl); (case hn => rfl))); (case hd => rfl)) | apply v_seq | apply v_region | apply v_nil | apply v_skip | (apply v_pure; (case hop => first | (apply p_move <;> rfl) | (apply p_nes <;> rfl) | (apply p_ge <;> rfl) | (apply p_assign <;> rfl) | (apply p_fieldAddrB <;> rfl) | (apply p_extract0 <;> rfl) | (apply p_extract1 <;> rfl) | (apply p_extract2 <;> rfl) | fail); (case hd => rfl)) | (apply v_condF; (case hc => rfl)) | (apply v_cond; (case hc => rfl); all_goals (intro h; (try simp only [reduceCtorEq, zzz] at h); first | (exfalso; omega) | skip)) | (apply v_callJ (hs := q1); (case ha => rfl); (case hd => rfl)) | (apply v_callFJ0 (hs := winNone_s _ _); (case hx => rfl); (case ha => rfl); (case hd => rfl)) | (apply v_read; (case hop => (apply r_load1; rfl; (apply Cell.own; (case h => (repeat (first | exact mhd _ | apply mtl))); rfl))); (case hd => rfl)) | (apply v_store; (case hp => rfl); (case hx => rfl); (case hc => rfl); (case hsz => rfl); (case h1 => rfl); (case hb => (repeat (first | exact mhd _ | apply mtl))); (case hfit => exact nle rfl); (case hov => ((repeat (first | with_reducible exact ov_nil | apply ov_cons)); done)); (case hu => repeat (first | exact Upd.here _ _ | apply Upd.there))) | fail)
      refine v_retM [] (outsM_cct (sz0 := 6) (vs0 := [.int .i64 0, .int .i64 0, .slice none 0 0, .int .i64 0, .slice none 0 0, .slice none 0 0]) (e0 := 47) (sz1 := 6) (vs1 := zA.cells) (e1 := 40) rfl rfl (by repeat (first | exact mhd _ | apply mtl)) rfl rfl (by repeat (exact mhd _)) rfl rfl) (List.nil_sublist _) ⟨rfl, _, rfl, ImV.zero _⟩
    · rw [if_neg hfull]
      have hcok := hcok (by omega)
      have hcf : ∀ x ∈ cI, x.2.length ≤ 1048000 := fun x hx => by have := hcok.few x hx; omega
      (refine v_enter Tryz.func28 rfl Tryz.ntmps28 rfl ?_; intro B _)
      repeat' (first | (apply v_box (d := 2) (zs := [.int .i64 ix, .int .i64 ac, .slice C lc.length cc, .int .i64 z, .slice A lp.length d, .slice A' ls.length d']); (case hx => rfl); (case hz => rfl); (case hd => rfl); intro b2) | (apply v_box (d := 3) (zs := Cm.cells ⟨kind, cl, seq, key, val, old, node⟩); (case hx => rfl); (case hz => rfl); (case hd => rfl); intro b3) | (apply v_alloc (d := 4); (case hz => rfl); (case hd => rfl); intro b4) | (apply v_alloc (d := 5); (case hz => rfl); (case hd => rfl); intro b5) | (apply v_read; (case hop => (apply r_loadNo; (case hx => rfl); (case h => repeat (first | exact mhd _ | apply mtl)); (case hd => rfl); (case hn => rfl))); (case hd => rfl)) | apply v_seq | apply v_region | apply v_nil | apply v_skip | (apply v_pure; (case hop => first | (apply p_move <;> rfl) | (apply p_nes <;> rfl) | (apply p_ge <;> rfl) | (apply p_assign <;> rfl) | (apply p_fieldAddrB <;> rfl) | fail); (case hd => rfl)) | (apply v_condF; (case hc => rfl)) | (apply v_cond; (case hc => rfl); all_goals (intro h; (try simp only [reduceCtorEq, zzz] at h); first | (exfalso; omega) | skip)) | (apply v_callJ (hs := q1); (case ha => rfl); (case hd => rfl)) | (apply v_read; (case hop => (apply r_load1; rfl; (apply Cell.own; (case h => (repeat (first | exact mhd _ | apply mtl))); rfl))); (case hd => rfl)) | fail)
      refine v_call (μ1 := []) rfl q2 (List.Perm.refl _) rfl ?_
      rintro _ G1 _ hle1 ⟨rfl, rfl⟩
      by_cases hci : ci = 0
      · subst hci
        rw [if_neg (by simp)]
        repeat' (first | (apply v_read; (case hop => (apply r_loadNo; (case hx => rfl); (case h => repeat (first | exact mhd _ | apply mtl)); (case hd => rfl); (case hn => rfl))); (case hd => rfl)) | apply v_seq | apply v_region | apply v_nil | apply v_skip | (apply v_pure; (case hop => first | (apply p_move <;> rfl) | (apply p_nes <;> rfl) | (apply p_assign <;> rfl) | fail); (case hd => rfl)) | (apply v_condF; (case hc => rfl)) | fail)
        refine v_call (μ1 := []) rfl (q3 G1 hle1) (List.Perm.refl _) rfl ?_
        rintro _ G2 _ hle2 ⟨rfl, C2, cc2, A2, d2, A2', d2', rfl, hC2, hp2, hss2⟩
        have hs2 : StV G2 ⟨z, lp, ls⟩ (.agg [.int .i64 z, .slice A2 lp.length d2, .slice A2' ls.length d2'].toArray) := ⟨_, _, _, _, rfl, hp2, hss2⟩
        repeat' (first | (apply v_box (d := 46) (zs := [.int .i64 ix, .int .i64 ac, .slice C2 lc.length cc2, .int .i64 z, .slice A2 lp.length d2, .slice A2' ls.length d2']); (case hx => rfl); (case hz => rfl); (case hd => rfl); intro b46) | (apply v_read; (case hop => (apply r_loadNo; (case hx => rfl); (case h => repeat (first | exact mhd _ | apply mtl)); (case hd => rfl); (case hn => rfl))); (case hd => rfl)) | apply v_seq | apply v_region | apply v_nil | (apply v_pure; (case hop => first | (apply p_move <;> rfl) | (apply p_assign <;> rfl) | (apply p_fieldAddrB <;> rfl) | (apply p_nilCheck <;> rfl) | (apply p_add; (case hx => rfl); (case hy => rfl); (case h => omega)) | (apply p_build; (case hz => rfl); (case hv => (simp only [List.map_cons, List.map_nil]; repeat (first | with_reducible exact evs_nil | (apply evs_cons; (case h1 => rfl))))); (case hb => (apply bldL; repeat (first | exact bld_nil | (apply bld_cons; (case hpf => rfl); (case hc => rfl); (case hs => rfl); (case hl => rfl); (case ho => ((repeat (first | with_reducible exact ov_nil | apply ov_cons)); done))))))) | fail); (case hd => rfl)) | (apply v_callJ (hs := q5 _ _); (case ha => rfl); (case hd => rfl)) | (apply v_read; (case hop => (apply r_load1; rfl; (apply Cell.own; (case h => (repeat (first | exact mhd _ | apply mtl))); rfl))); (case hd => rfl)) | (apply v_store; (case hp => rfl); (case hx => rfl); (case hc => rfl); (case hsz => rfl); (case h1 => rfl); (case hb => (repeat (exact mhd _))); (case hfit => exact nle rfl); (case hov => ((repeat (first | with_reducible exact ov_nil | apply ov_cons)); done)); (case hu => repeat (exact Upd.here _ _))) | fail)
        refine v_callC (first := [.pointer (some ⟨b46, 0, none⟩)]) (captured := []) (μ1 := [boxI b46 (ix + 1) ac (.slice C2 lc.length cc2) z (.slice A2 lp.length d2) (.slice A2' ls.length d2')]) rfl rfl (q6 G2 b46 (ix + 1) ac z _ _ _ hC2) (List.Perm.refl _) rfl ?_
        rintro _ G3 _ hle3 ⟨C3, hC3, rfl⟩
        rw [← haI, ← hcI] at *
        obtain ⟨CA, cc3, rfl, -⟩ := id hC3.open
        have qa := q4 G3 (((hT.up hle1).up hle2).up hle3) _ (hs2.up hle3) hstp
        have htr : trimR cI (ix + 1 + 1) = trimL cI (ix + 2) := by
          rw [trimR, if_pos ⟨hcok, by omega⟩]
          congr 1; omega
        obtain ⟨s5, ⟨xc, xq, xe, xf, xv, xr⟩, e5⟩ := ap
        simp only at *
        have qt := fun G' (h : GH.le G3 G') => trim_s (ix + 1 + 1) (hC3.le h) (by omega) hcf
        rw [htr] at qt
        clear hnode hcz hcb q5 q6 q4 hcf hcI haI htr
        repeat' (first | apply v_seq | apply v_nil)
        refine d_start [boxI b46 (ix + 1) aI (.slice CA cI.length cc3) z (.slice A2 lp.length d2) (.slice A2' ls.length d2'), (b3, .cells (Cm.cells ⟨kind, cl, seq, key, val, old, node⟩).toArray 28 (0, 0))] (by kernel_rfl) (by kernel_rfl) (by kernel_rfl) (by intro e he; (simp only [List.mem_cons, List.not_mem_nil, or_false] at he; rcases he with rfl | rfl <;> simp; done)) ?_
        all_goals (apply dtk 0; (case hi => rfl); (case hop => (apply prd; apply p_move <;> rfl)); (case hq => kernel_rfl))
        all_goals (apply dtk 1; (case hi => rfl); (case hop => (apply prd; apply p_nilCheck <;> rfl)); (case hq => kernel_rfl))
        all_goals (apply dtk 2; (case hi => rfl); (case hop => (apply prd; apply p_fieldAddrB <;> rfl)); (case hq => kernel_rfl))
        all_goals (apply dtk 3; (case hi => rfl); (case hop => (apply prd; apply p_fieldAddrB <;> rfl)); (case hq => kernel_rfl))
        all_goals (apply dtk 4; (case hi => rfl); (case hop => first | (apply r_loadNo; (case hx => rfl); (case h => (repeat (exact mhd _))); (case hd => (repeat (first | with_reducible exact dt_nil | apply dt_here))); (case hn => rfl)) | (apply r_load1; rfl; (apply Cell.own; (case h => (repeat (fail))); rfl)) | (apply r_loadN; rfl; (apply CellsAt.own; (case h => (repeat (fail)))); rfl)); (case hq => kernel_rfl))
        all_goals (apply dtk 5; (case hi => rfl); (case hop => first | (apply r_loadNo; (case hx => rfl); (case h => (repeat (first | exact mhd _ | apply mtl))); (case hd => (repeat (first | with_reducible exact dt_nil | apply dt_here))); (case hn => rfl)) | (apply r_load1; rfl; (apply Cell.own; (case h => (repeat (fail))); rfl)) | (apply r_loadN; rfl; (apply CellsAt.own; (case h => (repeat (fail)))); rfl)); (case hq => kernel_rfl))
        focus
          refine d_fork3 6 11 12 (by kernel_rfl) ?_ ?_ ?_
          rotate_right
          focus
            (apply x_exec (d := 13) 12; (case hi => rfl);  (case hop => exact m_alloc rfl); (case hd => rfl); rintro _ G0 _ ⟨b13, rfl, hG0, rfl⟩; subst G0; refine ⟨(by intro e he; simp only [List.mem_cons, List.not_mem_nil, or_false] at he; rcases he with rfl | rfl <;> simp), ?_⟩)
            focus
              refine d_fork 6 11 (by kernel_rfl) ?_ ?_
              rotate_right
              focus
                (apply x_exec (d := 12) 11; (case hi => rfl);  (case hop => exact m_alloc rfl); (case hd => rfl); rintro _ G0 _ ⟨b12, rfl, hG0, rfl⟩; subst G0; refine ⟨(by intro e he; simp only [List.mem_cons, List.not_mem_nil, or_false] at he; rcases he with rfl | rfl <;> simp), ?_⟩)
                all_goals ((apply d_call 6 (hs := qa) (μ1 := []); (case hi => rfl); (case hr => kernel_rfl);  (case ha => rfl); (case hp => exact List.Perm.refl _); (case hd => rfl); (case hν' => intro e he; simp only [List.mem_cons, List.not_mem_nil, or_false] at he; rcases he with rfl | rfl <;> simp); rintro _ G6 _ hle6 ⟨rfl, v6, rfl, hs6⟩; obtain ⟨A6, c6, A6', c6', rfl, -, -⟩ := id hs6))
                all_goals (apply dtk 7; (case hi => rfl); (case hop => (apply prd; apply p_move <;> rfl)); (case hq => kernel_rfl))
                all_goals (apply dtk 8; (case hi => rfl); (case hop => (apply prd; apply p_extract0 <;> rfl)); (case hq => kernel_rfl))
                all_goals (apply dtk 9; (case hi => rfl); (case hop => (apply prd; apply p_extract1 <;> rfl)); (case hq => kernel_rfl))
                all_goals (apply dtk 10; (case hi => rfl); (case hop => (apply prd; apply p_extract2 <;> rfl)); (case hq => kernel_rfl))
                all_goals (apply d_store 13; (case hi => rfl); (case hr => kernel_rfl); (case hL => infer_instance); (case hp => rfl); (case hx => rfl); (case hc => rfl); (case hsz => rfl); (case h1 => rfl); (case hb => (repeat (exact mhd _))); (case hfit => exact nle rfl); (case hov => ((repeat (first | with_reducible exact ov_nil | apply ov_cons)); done)); (case hu => repeat (exact Upd.here _ _)); (case hν' => intro e he; (simp only [List.mem_cons, List.not_mem_nil, or_false] at he; rcases he with rfl | rfl <;> simp; done)))
                all_goals (apply d_store 14; (case hi => rfl); (case hr => kernel_rfl); (case hL => infer_instance); (case hp => rfl); (case hx => rfl); (case hc => rfl); (case hsz => rfl); (case h1 => rfl); (case hb => (repeat (first | exact mhd _ | apply mtl))); (case hfit => exact nle rfl); (case hov => ((repeat (first | with_reducible exact ov_nil | apply ov_cons)); done)); (case hu => repeat (first | exact Upd.here _ _ | apply Upd.there)); (case hν' => intro e he; (simp only [List.mem_cons, List.not_mem_nil, or_false] at he; rcases he with rfl | rfl <;> simp; done)))
                all_goals (apply dtk 15; (case hi => rfl); (case hop => (apply prd; apply p_assign <;> rfl)); (case hq => kernel_rfl))
                all_goals (apply d_done; (case hr => kernel_rfl))
              rotate_right
              focus
                (apply x_call 6 (hs := qa) (μ1 := []); (case hi => rfl);  (case ha => rfl); (case hp => exact List.Perm.refl _); (case hd => rfl); (case hν' => intro e he; simp only [List.mem_cons, List.not_mem_nil, or_false] at he; rcases he with rfl | rfl <;> simp); rintro _ G6 _ hle6 ⟨rfl, v6, rfl, hs6⟩; obtain ⟨A6, c6, A6', c6', rfl, -, -⟩ := id hs6)
                all_goals (apply dtk 7; (case hi => rfl); (case hop => (apply prd; apply p_move <;> rfl)); (case hq => kernel_rfl))
                all_goals (apply dtk 8; (case hi => rfl); (case hop => (apply prd; apply p_extract0 <;> rfl)); (case hq => kernel_rfl))
                all_goals (apply dtk 9; (case hi => rfl); (case hop => (apply prd; apply p_extract1 <;> rfl)); (case hq => kernel_rfl))
                all_goals (apply dtk 10; (case hi => rfl); (case hop => (apply prd; apply p_extract2 <;> rfl)); (case hq => kernel_rfl))
                all_goals ((apply d_exec (d := 12) 11; (case hi => rfl); (case hr => kernel_rfl);  (case hop => exact m_alloc rfl); (case hd => rfl); rintro _ G0 _ ⟨b12, rfl, hG0, rfl⟩; subst G0; refine ⟨(by intro e he; simp only [List.mem_cons, List.not_mem_nil, or_false] at he; rcases he with rfl | rfl <;> simp), ?_⟩))
                all_goals (apply d_store 13; (case hi => rfl); (case hr => kernel_rfl); (case hL => infer_instance); (case hp => rfl); (case hx => rfl); (case hc => rfl); (case hsz => rfl); (case h1 => rfl); (case hb => (repeat (exact mhd _))); (case hfit => exact nle rfl); (case hov => ((repeat (first | with_reducible exact ov_nil | apply ov_cons)); done)); (case hu => repeat (exact Upd.here _ _)); (case hν' => intro e he; (simp only [List.mem_cons, List.not_mem_nil, or_false] at he; rcases he with rfl | rfl <;> simp; done)))
                all_goals (apply d_store 14; (case hi => rfl); (case hr => kernel_rfl); (case hL => infer_instance); (case hp => rfl); (case hx => rfl); (case hc => rfl); (case hsz => rfl); (case h1 => rfl); (case hb => (repeat (first | exact mhd _ | apply mtl))); (case hfit => exact nle rfl); (case hov => ((repeat (first | with_reducible exact ov_nil | apply ov_cons)); done)); (case hu => repeat (first | exact Upd.here _ _ | apply Upd.there)); (case hν' => intro e he; (simp only [List.mem_cons, List.not_mem_nil, or_false] at he; rcases he with rfl | rfl <;> simp; done)))
                all_goals (apply dtk 15; (case hi => rfl); (case hop => (apply prd; apply p_assign <;> rfl)); (case hq => kernel_rfl))
                all_goals (apply d_done; (case hr => kernel_rfl))
          rotate_right
          focus
            (apply x_exec (d := 12) 11; (case hi => rfl);  (case hop => exact m_alloc rfl); (case hd => rfl); rintro _ G0 _ ⟨b12, rfl, hG0, rfl⟩; subst G0; refine ⟨(by intro e he; simp only [List.mem_cons, List.not_mem_nil, or_false] at he; rcases he with rfl | rfl <;> simp), ?_⟩)
            focus
              refine d_fork 6 12 (by kernel_rfl) ?_ ?_
              rotate_right
              focus
                (apply x_exec (d := 13) 12; (case hi => rfl);  (case hop => exact m_alloc rfl); (case hd => rfl); rintro _ G0 _ ⟨b13, rfl, hG0, rfl⟩; subst G0; refine ⟨(by intro e he; simp only [List.mem_cons, List.not_mem_nil, or_false] at he; rcases he with rfl | rfl <;> simp), ?_⟩)
                all_goals ((apply d_call 6 (hs := qa) (μ1 := []); (case hi => rfl); (case hr => kernel_rfl);  (case ha => rfl); (case hp => exact List.Perm.refl _); (case hd => rfl); (case hν' => intro e he; simp only [List.mem_cons, List.not_mem_nil, or_false] at he; rcases he with rfl | rfl <;> simp); rintro _ G6 _ hle6 ⟨rfl, v6, rfl, hs6⟩; obtain ⟨A6, c6, A6', c6', rfl, -, -⟩ := id hs6))
                all_goals (apply dtk 7; (case hi => rfl); (case hop => (apply prd; apply p_move <;> rfl)); (case hq => kernel_rfl))
                all_goals (apply dtk 8; (case hi => rfl); (case hop => (apply prd; apply p_extract0 <;> rfl)); (case hq => kernel_rfl))
                all_goals (apply dtk 9; (case hi => rfl); (case hop => (apply prd; apply p_extract1 <;> rfl)); (case hq => kernel_rfl))
                all_goals (apply dtk 10; (case hi => rfl); (case hop => (apply prd; apply p_extract2 <;> rfl)); (case hq => kernel_rfl))
                all_goals (apply d_store 13; (case hi => rfl); (case hr => kernel_rfl); (case hL => infer_instance); (case hp => rfl); (case hx => rfl); (case hc => rfl); (case hsz => rfl); (case h1 => rfl); (case hb => (repeat (first | exact mhd _ | apply mtl))); (case hfit => exact nle rfl); (case hov => ((repeat (first | with_reducible exact ov_nil | apply ov_cons)); done)); (case hu => repeat (first | exact Upd.here _ _ | apply Upd.there)); (case hν' => intro e he; (simp only [List.mem_cons, List.not_mem_nil, or_false] at he; rcases he with rfl | rfl <;> simp; done)))
                all_goals (apply d_store 14; (case hi => rfl); (case hr => kernel_rfl); (case hL => infer_instance); (case hp => rfl); (case hx => rfl); (case hc => rfl); (case hsz => rfl); (case h1 => rfl); (case hb => (repeat (exact mhd _))); (case hfit => exact nle rfl); (case hov => ((repeat (first | with_reducible exact ov_nil | apply ov_cons)); done)); (case hu => repeat (exact Upd.here _ _)); (case hν' => intro e he; (simp only [List.mem_cons, List.not_mem_nil, or_false] at he; rcases he with rfl | rfl <;> simp; done)))
                all_goals (apply dtk 15; (case hi => rfl); (case hop => (apply prd; apply p_assign <;> rfl)); (case hq => kernel_rfl))
                all_goals (apply d_done; (case hr => kernel_rfl))
              rotate_right
              focus
                (apply x_call 6 (hs := qa) (μ1 := []); (case hi => rfl);  (case ha => rfl); (case hp => exact List.Perm.refl _); (case hd => rfl); (case hν' => intro e he; simp only [List.mem_cons, List.not_mem_nil, or_false] at he; rcases he with rfl | rfl <;> simp); rintro _ G6 _ hle6 ⟨rfl, v6, rfl, hs6⟩; obtain ⟨A6, c6, A6', c6', rfl, -, -⟩ := id hs6)
                all_goals (apply dtk 7; (case hi => rfl); (case hop => (apply prd; apply p_move <;> rfl)); (case hq => kernel_rfl))
                all_goals (apply dtk 8; (case hi => rfl); (case hop => (apply prd; apply p_extract0 <;> rfl)); (case hq => kernel_rfl))
                all_goals (apply dtk 9; (case hi => rfl); (case hop => (apply prd; apply p_extract1 <;> rfl)); (case hq => kernel_rfl))
                all_goals (apply dtk 10; (case hi => rfl); (case hop => (apply prd; apply p_extract2 <;> rfl)); (case hq => kernel_rfl))
                all_goals ((apply d_exec (d := 13) 12; (case hi => rfl); (case hr => kernel_rfl);  (case hop => exact m_alloc rfl); (case hd => rfl); rintro _ G0 _ ⟨b13, rfl, hG0, rfl⟩; subst G0; refine ⟨(by intro e he; simp only [List.mem_cons, List.not_mem_nil, or_false] at he; rcases he with rfl | rfl <;> simp), ?_⟩))
                all_goals (apply d_store 13; (case hi => rfl); (case hr => kernel_rfl); (case hL => infer_instance); (case hp => rfl); (case hx => rfl); (case hc => rfl); (case hsz => rfl); (case h1 => rfl); (case hb => (repeat (first | exact mhd _ | apply mtl))); (case hfit => exact nle rfl); (case hov => ((repeat (first | with_reducible exact ov_nil | apply ov_cons)); done)); (case hu => repeat (first | exact Upd.here _ _ | apply Upd.there)); (case hν' => intro e he; (simp only [List.mem_cons, List.not_mem_nil, or_false] at he; rcases he with rfl | rfl <;> simp; done)))
                all_goals (apply d_store 14; (case hi => rfl); (case hr => kernel_rfl); (case hL => infer_instance); (case hp => rfl); (case hx => rfl); (case hc => rfl); (case hsz => rfl); (case h1 => rfl); (case hb => (repeat (exact mhd _))); (case hfit => exact nle rfl); (case hov => ((repeat (first | with_reducible exact ov_nil | apply ov_cons)); done)); (case hu => repeat (exact Upd.here _ _)); (case hν' => intro e he; (simp only [List.mem_cons, List.not_mem_nil, or_false] at he; rcases he with rfl | rfl <;> simp; done)))
                all_goals (apply dtk 15; (case hi => rfl); (case hop => (apply prd; apply p_assign <;> rfl)); (case hq => kernel_rfl))
                all_goals (apply d_done; (case hr => kernel_rfl))
          rotate_right
          focus
            (apply x_call 6 (hs := qa) (μ1 := []); (case hi => rfl);  (case ha => rfl); (case hp => exact List.Perm.refl _); (case hd => rfl); (case hν' => intro e he; simp only [List.mem_cons, List.not_mem_nil, or_false] at he; rcases he with rfl | rfl <;> simp); rintro _ G6 _ hle6 ⟨rfl, v6, rfl, hs6⟩; obtain ⟨A6, c6, A6', c6', rfl, -, -⟩ := id hs6)
            all_goals (apply dtk 7; (case hi => rfl); (case hop => (apply prd; apply p_move <;> rfl)); (case hq => kernel_rfl))
            all_goals (apply dtk 8; (case hi => rfl); (case hop => (apply prd; apply p_extract0 <;> rfl)); (case hq => kernel_rfl))
            all_goals (apply dtk 9; (case hi => rfl); (case hop => (apply prd; apply p_extract1 <;> rfl)); (case hq => kernel_rfl))
            all_goals (apply dtk 10; (case hi => rfl); (case hop => (apply prd; apply p_extract2 <;> rfl)); (case hq => kernel_rfl))
            focus
              refine d_fork 11 12 (by kernel_rfl) ?_ ?_
              rotate_right
              focus
                (apply x_exec (d := 13) 12; (case hi => rfl);  (case hop => exact m_alloc rfl); (case hd => rfl); rintro _ G0 _ ⟨b13, rfl, hG0, rfl⟩; subst G0; refine ⟨(by intro e he; simp only [List.mem_cons, List.not_mem_nil, or_false] at he; rcases he with rfl | rfl <;> simp), ?_⟩)
                all_goals ((apply d_exec (d := 12) 11; (case hi => rfl); (case hr => kernel_rfl);  (case hop => exact m_alloc rfl); (case hd => rfl); rintro _ G0 _ ⟨b12, rfl, hG0, rfl⟩; subst G0; refine ⟨(by intro e he; simp only [List.mem_cons, List.not_mem_nil, or_false] at he; rcases he with rfl | rfl <;> simp), ?_⟩))
                all_goals (apply d_store 13; (case hi => rfl); (case hr => kernel_rfl); (case hL => infer_instance); (case hp => rfl); (case hx => rfl); (case hc => rfl); (case hsz => rfl); (case h1 => rfl); (case hb => (repeat (exact mhd _))); (case hfit => exact nle rfl); (case hov => ((repeat (first | with_reducible exact ov_nil | apply ov_cons)); done)); (case hu => repeat (exact Upd.here _ _)); (case hν' => intro e he; (simp only [List.mem_cons, List.not_mem_nil, or_false] at he; rcases he with rfl | rfl <;> simp; done)))
                all_goals (apply d_store 14; (case hi => rfl); (case hr => kernel_rfl); (case hL => infer_instance); (case hp => rfl); (case hx => rfl); (case hc => rfl); (case hsz => rfl); (case h1 => rfl); (case hb => (repeat (first | exact mhd _ | apply mtl))); (case hfit => exact nle rfl); (case hov => ((repeat (first | with_reducible exact ov_nil | apply ov_cons)); done)); (case hu => repeat (first | exact Upd.here _ _ | apply Upd.there)); (case hν' => intro e he; (simp only [List.mem_cons, List.not_mem_nil, or_false] at he; rcases he with rfl | rfl <;> simp; done)))
                all_goals (apply dtk 15; (case hi => rfl); (case hop => (apply prd; apply p_assign <;> rfl)); (case hq => kernel_rfl))
                all_goals (apply d_done; (case hr => kernel_rfl))
              rotate_right
              focus
                (apply x_exec (d := 12) 11; (case hi => rfl);  (case hop => exact m_alloc rfl); (case hd => rfl); rintro _ G0 _ ⟨b12, rfl, hG0, rfl⟩; subst G0; refine ⟨(by intro e he; simp only [List.mem_cons, List.not_mem_nil, or_false] at he; rcases he with rfl | rfl <;> simp), ?_⟩)
                all_goals ((apply d_exec (d := 13) 12; (case hi => rfl); (case hr => kernel_rfl);  (case hop => exact m_alloc rfl); (case hd => rfl); rintro _ G0 _ ⟨b13, rfl, hG0, rfl⟩; subst G0; refine ⟨(by intro e he; simp only [List.mem_cons, List.not_mem_nil, or_false] at he; rcases he with rfl | rfl <;> simp), ?_⟩))
                all_goals (apply d_store 13; (case hi => rfl); (case hr => kernel_rfl); (case hL => infer_instance); (case hp => rfl); (case hx => rfl); (case hc => rfl); (case hsz => rfl); (case h1 => rfl); (case hb => (repeat (first | exact mhd _ | apply mtl))); (case hfit => exact nle rfl); (case hov => ((repeat (first | with_reducible exact ov_nil | apply ov_cons)); done)); (case hu => repeat (first | exact Upd.here _ _ | apply Upd.there)); (case hν' => intro e he; (simp only [List.mem_cons, List.not_mem_nil, or_false] at he; rcases he with rfl | rfl <;> simp; done)))
                all_goals (apply d_store 14; (case hi => rfl); (case hr => kernel_rfl); (case hL => infer_instance); (case hp => rfl); (case hx => rfl); (case hc => rfl); (case hsz => rfl); (case h1 => rfl); (case hb => (repeat (exact mhd _))); (case hfit => exact nle rfl); (case hov => ((repeat (first | with_reducible exact ov_nil | apply ov_cons)); done)); (case hu => repeat (exact Upd.here _ _)); (case hν' => intro e he; (simp only [List.mem_cons, List.not_mem_nil, or_false] at he; rcases he with rfl | rfl <;> simp; done)))
                all_goals (apply dtk 15; (case hi => rfl); (case hop => (apply prd; apply p_assign <;> rfl)); (case hq => kernel_rfl))
                all_goals (apply d_done; (case hr => kernel_rfl))
        all_goals repeat' (first | (apply v_read; (case hop => (apply r_loadNo; (case hx => rfl); (case h => repeat (first | exact mhd _ | apply mtl)); (case hd => rfl); (case hn => rfl))); (case hd => rfl)) | apply v_seq | apply v_region | apply v_nil | (apply v_pure; (case hop => first | (apply p_move <;> rfl) | (apply p_fieldAddrB <;> rfl) | (apply p_nilCheck <;> rfl) | fail); (case hd => rfl)) | (apply v_store; (case hp => rfl); (case hx => rfl); (case hc => rfl); (case hsz => rfl); (case h1 => rfl); (case hb => (repeat (first | exact mhd _ | apply mtl))); (case hfit => exact nle rfl); (case hov => (rfl)); (case hu => repeat (first | exact Upd.here _ _ | apply Upd.there))) | fail)
        all_goals
          (first
            | refine v_perm (ν := (b12, Obj.cells [.int .i64 s5.schema, .slice A6 s5.pairs.length c6, .slice A6' s5.sess.length c6'].toArray 32 (0, 0)) :: (b13, Obj.cells [.int .i64 xc, .int .i64 xq, .int .i64 xe, .bool xf, .string xv, .int .i64 xr].toArray 40 (0, 0)) :: ((b46, Obj.cells [.int .i64 (ix + 1), .int .i64 aI, .slice CA cI.length cc3, .int .i64 s5.schema, .slice A6 s5.pairs.length c6, .slice A6' s5.sess.length c6'].toArray 151 (0, 0)) :: [(b5, Obj.cells zA.cells.toArray 40 (0, 0)), (b4, Obj.cells [.int .i64 0, .int .i64 0, .slice none 0 0, .int .i64 0, .slice none 0 0, .slice none 0 0].toArray 47 (0, 0)), (b3, Obj.cells (Cm.cells ⟨kind, cl, seq, key, val, old, node⟩).toArray 28 (0, 0)), (b2, Obj.cells [.int .i64 ix, .int .i64 ac, .slice C lc.length cc, .int .i64 z, .slice A lp.length d, .slice A' ls.length d'].toArray 47 (0, 0))])) (List.Perm.refl _) ?_
            | refine v_perm (ν := (b12, Obj.cells [.int .i64 s5.schema, .slice A6 s5.pairs.length c6, .slice A6' s5.sess.length c6'].toArray 32 (0, 0)) :: (b13, Obj.cells [.int .i64 xc, .int .i64 xq, .int .i64 xe, .bool xf, .string xv, .int .i64 xr].toArray 40 (0, 0)) :: ((b46, Obj.cells [.int .i64 (ix + 1), .int .i64 aI, .slice CA cI.length cc3, .int .i64 s5.schema, .slice A6 s5.pairs.length c6, .slice A6' s5.sess.length c6'].toArray 151 (0, 0)) :: [(b5, Obj.cells zA.cells.toArray 40 (0, 0)), (b4, Obj.cells [.int .i64 0, .int .i64 0, .slice none 0 0, .int .i64 0, .slice none 0 0, .slice none 0 0].toArray 47 (0, 0)), (b3, Obj.cells (Cm.cells ⟨kind, cl, seq, key, val, old, node⟩).toArray 28 (0, 0)), (b2, Obj.cells [.int .i64 ix, .int .i64 ac, .slice C lc.length cc, .int .i64 z, .slice A lp.length d, .slice A' ls.length d'].toArray 47 (0, 0))])) (List.Perm.swap (b12, Obj.cells [.int .i64 s5.schema, .slice A6 s5.pairs.length c6, .slice A6' s5.sess.length c6'].toArray 32 (0, 0)) (b13, Obj.cells [.int .i64 xc, .int .i64 xq, .int .i64 xe, .bool xf, .string xv, .int .i64 xr].toArray 40 (0, 0)) _) ?_)
        all_goals
          (refine d_start [] (by kernel_rfl) (by kernel_rfl) (by kernel_rfl) (by intro e he; (simp at he ⊢; try omega)) ?_
           all_goals (apply dtk 0; (case hi => rfl); (case hop => (apply prd; apply p_move <;> rfl)); (case hq => kernel_rfl))
           all_goals (apply dtk 1; (case hi => rfl); (case hop => (apply prd; apply p_move <;> rfl)); (case hq => kernel_rfl))
           all_goals (apply dtk 2; (case hi => rfl); (case hop => (apply prd; apply p_nilCheck <;> rfl)); (case hq => kernel_rfl))
           all_goals (apply dtk 3; (case hi => rfl); (case hop => (apply prd; apply p_fieldAddrB <;> rfl)); (case hq => kernel_rfl))
           all_goals (apply dtk 4; (case hi => rfl); (case hop => (apply prd; apply p_fieldAddrB <;> rfl)); (case hq => kernel_rfl))
           all_goals (apply dtk 6; (case hi => rfl); (case hop => (apply prd; apply p_move <;> rfl)); (case hq => kernel_rfl))
           all_goals (apply dtk 7; (case hi => rfl); (case hop => (apply prd; apply p_nilCheck <;> rfl)); (case hq => kernel_rfl))
           all_goals (apply dtk 8; (case hi => rfl); (case hop => (apply prd; apply p_fieldAddrB <;> rfl)); (case hq => kernel_rfl))
           all_goals (apply dtk 9; (case hi => rfl); (case hop => (apply prd; apply p_fieldAddrB <;> rfl)); (case hq => kernel_rfl))
           focus
             refine d_fork 5 10 (by kernel_rfl) ?_ ?_
             rotate_right
             focus
               (apply x_exec 10; (case hi => rfl);  (case hop => exact ReadOp.move (r_load1 rfl (Cell.own (by repeat (first | exact mhd _ | apply mtl)) rfl))); (case hd => rfl); rintro _ G0 _ ⟨rfl, hG0, rfl⟩; subst G0; refine ⟨(by intro e he; cases he), ?_⟩)
               all_goals (apply dtk 11; (case hi => rfl); (case hop => (apply prd; apply p_add; (case hx => rfl); (case hy => rfl); (case h => omega))); (case hq => kernel_rfl))
               all_goals (apply d_keep 5 (hop := ReadOp.move ?hop); (case hi => rfl); (case hr => kernel_rfl); (case hop => (apply r_load1; rfl; (apply Cell.own; (case h => repeat (first | exact mhd _ | apply mtl)); rfl))); (case hd => rfl))
               all_goals ((apply d_call 12 (hs := qt _ hle6) (μ1 := []); (case hi => rfl); (case hr => kernel_rfl);  (case ha => rfl); (case hp => exact List.Perm.refl _); (case hd => rfl); (case hν' => intro e he; cases he); rintro r1 G7 ν1 hle7 ⟨rfl, hC7⟩; obtain ⟨A7, c7, rfl, -⟩ := id hC7.open))
               all_goals (apply dtk 13; (case hi => rfl); (case hop => (apply prd; apply p_nilCheck <;> rfl)); (case hq => kernel_rfl))
               all_goals (apply dtk 14; (case hi => rfl); (case hop => (apply prd; apply p_fieldAddrB <;> rfl)); (case hq => kernel_rfl))
               all_goals (apply dtk 15; (case hi => rfl); (case hop => (apply prd; apply p_fieldAddrB <;> rfl)); (case hq => kernel_rfl))
               all_goals (apply d_store 16; (case hi => rfl); (case hr => kernel_rfl); (case hL => infer_instance); (case hp => rfl); (case hx => rfl); (case hc => rfl); (case hsz => rfl); (case h1 => rfl); (case hb => (repeat (first | exact mhd _ | apply mtl))); (case hfit => exact nle rfl); (case hov => ((repeat (first | with_reducible exact ov_nil | apply ov_cons)); done)); (case hu => repeat (first | exact Upd.here _ _ | apply Upd.there)); (case hν' => intro e he; (cases he; done)))
               all_goals (apply d_done; (case hr => kernel_rfl))
             rotate_right
             focus
               (apply x_exec 5; (case hi => rfl);  (case hop => exact ReadOp.move (r_load1 rfl (Cell.own (by repeat (first | exact mhd _ | apply mtl)) rfl))); (case hd => rfl); rintro _ G0 _ ⟨rfl, hG0, rfl⟩; subst G0; refine ⟨(by intro e he; cases he), ?_⟩)
               all_goals (apply d_keep 10 (hop := ReadOp.move ?hop); (case hi => rfl); (case hr => kernel_rfl); (case hop => (apply r_load1; rfl; (apply Cell.own; (case h => repeat (first | exact mhd _ | apply mtl)); rfl))); (case hd => rfl))
               all_goals (apply dtk 11; (case hi => rfl); (case hop => (apply prd; apply p_add; (case hx => rfl); (case hy => rfl); (case h => omega))); (case hq => kernel_rfl))
               all_goals ((apply d_call 12 (hs := qt _ hle6) (μ1 := []); (case hi => rfl); (case hr => kernel_rfl);  (case ha => rfl); (case hp => exact List.Perm.refl _); (case hd => rfl); (case hν' => intro e he; cases he); rintro r1 G7 ν1 hle7 ⟨rfl, hC7⟩; obtain ⟨A7, c7, rfl, -⟩ := id hC7.open))
               all_goals (apply dtk 13; (case hi => rfl); (case hop => (apply prd; apply p_nilCheck <;> rfl)); (case hq => kernel_rfl))
               all_goals (apply dtk 14; (case hi => rfl); (case hop => (apply prd; apply p_fieldAddrB <;> rfl)); (case hq => kernel_rfl))
               all_goals (apply dtk 15; (case hi => rfl); (case hop => (apply prd; apply p_fieldAddrB <;> rfl)); (case hq => kernel_rfl))
               all_goals (apply d_store 16; (case hi => rfl); (case hr => kernel_rfl); (case hL => infer_instance); (case hp => rfl); (case hx => rfl); (case hc => rfl); (case hsz => rfl); (case h1 => rfl); (case hb => (repeat (first | exact mhd _ | apply mtl))); (case hfit => exact nle rfl); (case hov => ((repeat (first | with_reducible exact ov_nil | apply ov_cons)); done)); (case hu => repeat (first | exact Upd.here _ _ | apply Upd.there)); (case hν' => intro e he; (cases he; done)))
               all_goals (apply d_done; (case hr => kernel_rfl))
           )
        all_goals repeat' (first | apply v_seq)
        all_goals
          (refine d_start [(b46, .cells [.int .i64 (ix + 1), .int .i64 aI, .slice A7 (trimL cI (ix + 2)).length c7, .int .i64 s5.schema, .slice A6 s5.pairs.length c6, .slice A6' s5.sess.length c6'].toArray 151 (0, 0)), (b13, Obj.cells [.int .i64 xc, .int .i64 xq, .int .i64 xe, .bool xf, .string xv, .int .i64 xr].toArray 40 (0, 0))] (by kernel_rfl) (by kernel_rfl) (by kernel_rfl) (by intro e he; (simp only [List.mem_cons, List.not_mem_nil, or_false] at he; rcases he with rfl | rfl <;> simp; done)) ?_
           all_goals (apply dtk 0; (case hi => rfl); (case hop => (apply prd; apply p_move <;> rfl)); (case hq => kernel_rfl))
           all_goals (apply dtk 1; (case hi => rfl); (case hop => (apply prd; apply p_nilCheck <;> rfl)); (case hq => kernel_rfl))
           all_goals (apply dtk 2; (case hi => rfl); (case hop => (apply prd; apply p_fieldAddrB <;> rfl)); (case hq => kernel_rfl))
           all_goals (apply dtk 3; (case hi => rfl); (case hop => first | (apply r_loadNo; (case hx => rfl); (case h => (repeat (exact mhd _))); (case hd => (repeat (first | with_reducible exact dt_nil | apply dt_here))); (case hn => rfl)) | (apply r_load1; rfl; (apply Cell.own; (case h => (repeat (fail))); rfl)) | (apply r_loadN; rfl; (apply CellsAt.own; (case h => (repeat (fail)))); rfl)); (case hq => kernel_rfl))
           all_goals (apply dtk 4; (case hi => rfl); (case hop => first | (apply r_loadNo; (case hx => rfl); (case h => (repeat (first | exact mhd _ | apply mtl))); (case hd => (repeat (first | with_reducible exact dt_nil | apply dt_here))); (case hn => rfl)) | (apply r_load1; rfl; (apply Cell.own; (case h => (repeat (fail))); rfl)) | (apply r_loadN; rfl; (apply CellsAt.own; (case h => (repeat (fail)))); rfl)); (case hq => kernel_rfl))
           all_goals (apply d_store 5; (case hi => rfl); (case hr => kernel_rfl); (case hL => infer_instance); (case hp => rfl); (case hx => rfl); (case hc => rfl); (case hsz => rfl); (case h1 => rfl); (case hb => (repeat (first | exact mhd _ | apply mtl))); (case hfit => exact nle rfl); (case hov => ((repeat (first | with_reducible exact ov_nil | apply ov_cons)); done)); (case hu => repeat (first | exact Upd.here _ _ | apply Upd.there)); (case hν' => intro e he; (simp only [List.mem_cons, List.not_mem_nil, or_false] at he; rcases he with rfl | rfl <;> simp; done)))
           all_goals (apply d_store 6; (case hi => rfl); (case hr => kernel_rfl); (case hL => infer_instance); (case hp => rfl); (case hx => rfl); (case hc => rfl); (case hsz => rfl); (case h1 => rfl); (case hb => (repeat (first | exact mhd _ | apply mtl))); (case hfit => exact nle rfl); (case hov => ((repeat (first | with_reducible exact ov_nil | apply ov_cons)); done)); (case hu => repeat (first | exact Upd.here _ _ | apply Upd.there)); (case hν' => intro e he; (simp only [List.mem_cons, List.not_mem_nil, or_false] at he; rcases he with rfl | rfl <;> simp; done)))
           all_goals (apply dtk 7; (case hi => rfl); (case hop => (apply prd; apply p_assign <;> rfl)); (case hq => kernel_rfl))
           all_goals (apply d_done; (case hr => kernel_rfl))
           )
        all_goals repeat' (fail)
        all_goals
          (refine v_retM [] (outsM_cct (sz0 := 6) (vs0 := [.int .i64 (ix + 1), .int .i64 aI, .slice A7 (trimL cI (ix + 2)).length c7, .int .i64 s5.schema, .slice A6 s5.pairs.length c6, .slice A6' s5.sess.length c6']) (e0 := 47) (sz1 := 6) (vs1 := [.int .i64 xc, .int .i64 xq, .int .i64 xe, .bool xf, .string xv, .int .i64 xr]) (e1 := 40) rfl rfl (by repeat (first | exact mhd _ | apply mtl)) rfl rfl (by repeat (first | exact mhd _ | apply mtl)) rfl rfl) (List.nil_sublist _) ⟨rfl, _, rfl, ?_⟩
           rw [hnx]
           exact ImV.mk' (l := trimL cI (ix + 2)) (s := s5) hC7 (hs6.up hle7))
      · rw [if_pos hci]
        repeat' (first | apply v_seq | apply v_region | apply v_nil | (apply v_pure; (case hop => first | (apply p_move <;> rfl) | (apply p_ne <;> rfl) | (apply p_assign <;> rfl) | (apply p_extract0 <;> rfl) | (apply p_extract1 <;> rfl) | (apply p_extract2 <;> rfl) | fail); (case hd => rfl)) | (apply v_cond; (case hc => rfl); all_goals (intro h; (try simp only [reduceCtorEq, zzz] at h); first | (exfalso; omega) | skip)) | (apply v_callFJ0 (hs := winNone_s _ _); (case hx => rfl); (case ha => rfl); (case hd => rfl)) | (apply v_store; (case hp => rfl); (case hx => rfl); (case hc => rfl); (case hsz => rfl); (case h1 => rfl); (case hb => (repeat (first | exact mhd _ | apply mtl))); (case hfit => exact nle rfl); (case hov => ((repeat (first | with_reducible exact ov_nil | apply ov_cons)); done)); (case hu => repeat (first | exact Upd.here _ _ | apply Upd.there))) | fail)
        refine v_retM [] (outsM_cct (sz0 := 6) (vs0 := [.int .i64 0, .int .i64 0, .slice none 0 0, .int .i64 0, .slice none 0 0, .slice none 0 0]) (e0 := 47) (sz1 := 6) (vs1 := zA.cells) (e1 := 40) rfl rfl (by repeat (first | exact mhd _ | apply mtl)) rfl rfl (by repeat (exact mhd _)) rfl rfl) (List.nil_sublist _) ⟨rfl, _, rfl, ImV.zero _⟩
  · rw [if_neg hP] at q1
    rw [if_pos hP]
    clear hi0 hstp hcok hP q3 q4 q5 q6 q2 hnx hcI haI hclen
    obtain ⟨ix, ac, lc, ⟨z, lp, ls⟩⟩ := m
    simp only at *
    generalize lp.length = np at *
    generalize ls.length = ns at *
    generalize lc.length = nl at *
    (refine v_enter Tryz.func28 rfl Tryz.ntmps28 rfl ?_; intro B _)
    repeat' (first | (apply v_box (d := 2) (zs := [.int .i64 ix, .int .i64 ac, .slice C nl cc, .int .i64 z, .slice A np d, .slice A' ns d']); (case hx => rfl); (case hz => rfl); (case hd => rfl); intro b2) | (apply v_box (d := 3) (zs := Cm.cells ⟨kind, cl, seq, key, val, old, node⟩); (case hx => rfl); (case hz => rfl); (case hd => rfl); intro b3) | (apply v_alloc (d := 4); (case hz => rfl); (case hd => rfl); intro b4) | (apply v_alloc (d := 5); (case hz => rfl); (case hd => rfl); intro b5) | (apply v_read; (case hop => (apply r_loadNo; (case hx => rfl); (case h => repeat (first | exact mhd _ | apply mtl)); (case hd => rfl); (case hn => rfl))); (case hd => rfl)) | apply v_seq | apply v_region | apply v_nil | (apply v_pure; (case hop => first | (apply p_move <;> rfl) | (apply p_ne <;> rfl) | (apply p_assign <;> rfl) | (apply p_extract0 <;> rfl) | (apply p_extract1 <;> rfl) | (apply p_extract2 <;> rfl) | fail); (case hd => rfl)) | (apply v_cond; (case hc => rfl); all_goals (intro h; (try simp only [reduceCtorEq, zzz] at h); first | (exfalso; omega) | skip)) | (apply v_callJ (hs := q1); (case ha => rfl); (case hd => rfl)) | (apply v_callFJ0 (hs := winNone_s _ _); (case hx => rfl); (case ha => rfl); (case hd => rfl)) | (apply v_store; (case hp => rfl); (case hx => rfl); (case hc => rfl); (case hsz => rfl); (case h1 => rfl); (case hb => (repeat (first | exact mhd _ | apply mtl))); (case hfit => exact nle rfl); (case hov => ((repeat (first | with_reducible exact ov_nil | apply ov_cons)); done)); (case hu => repeat (first | exact Upd.here _ _ | apply Upd.there))) | fail)
    refine v_retM [] (outsM_cct (sz0 := 6) (vs0 := [.int .i64 0, .int .i64 0, .slice none 0 0, .int .i64 0, .slice none 0 0, .slice none 0 0]) (e0 := 47) (sz1 := 6) (vs1 := zA.cells) (e1 := 40) rfl rfl (by repeat (first | exact mhd _ | apply mtl)) rfl rfl (by repeat (exact mhd _)) rfl rfl) (List.nil_sublist _) ⟨rfl, _, rfl, ImV.zero _⟩
theorem refWCheck_s {G : GH} {m : Im} {v : Value} (hm : ImV G m v) (hz : StZ m.st) : Con Tryz.prog 24 #[v] G [] (Just (.bool (decide (ImP m))) G) := by
  obtain ⟨C, cc, A, c, A', c', rfl, hC, hp, hss⟩ := hm
  have hs : StV G m.st (.agg [.int .i64 m.st.schema, .slice A m.st.pairs.length c, .slice A' m.st.sess.length c'].toArray) := ⟨_, _, _, _, rfl, hp, hss⟩
  have q1 := refConfCheck_s hC
  have q2 := refCheck_s hs hz
  have hst : ImP m ↔ (0 ≤ m.index ∧ m.index ≤ 4294967296 ∧ 0 ≤ m.active ∧ m.active ≤ m.index) ∧ ConfOK m.confs ∧ StP m.st ∧ (m.st.schema = 2 ↔ 0 < m.active) := Iff.rfl
  apply Con.just
  generalize hi : decide (ImP m) = iv
  have hyes : ImP m → iv = true := fun h => by rw [← hi]; exact decide_eq_true h
  have hnot : ¬ ImP m → iv = false := fun h => by rw [← hi]; exact decide_eq_false h
  rw [hst] at hyes hnot
  clear hi hst hC hp hss hs
  (obtain ⟨ix, ac, lc, ⟨z, lp, ls⟩⟩ := m; simp only at *; generalize lp.length = np at *; generalize ls.length = ns at *; generalize lc.length = nl at *)
  by_cases h1 : ConfOK lc
  · rw [decide_eq_true h1] at q1
    by_cases h2 : StP ⟨z, lp, ls⟩
    · rw [decide_eq_true h2] at q2
      (refine v_enter Tryz.func24 rfl Tryz.ntmps24 rfl ?_; intro B _)
      repeat' (first | (apply v_box (d := 1) (zs := [.int .i64 ix, .int .i64 ac, .slice C nl cc, .int .i64 z, .slice A np c, .slice A' ns c']); (case hx => rfl); (case hz => rfl); (case hd => rfl); intro b1) | apply v_seq | apply v_region | apply v_nil | apply v_skip | (apply v_take; (case hg => rfl)) | (apply v_pass; (case hg => rfl); (case hn => rfl); (case hd => rfl)) | (apply v_pure; (case hop => first | (apply p_move <;> rfl) | (apply p_eq <;> rfl) | (apply p_lt <;> rfl) | (apply p_gt <;> rfl) | (apply p_assign <;> rfl) | (apply p_pickT <;> rfl) | (apply p_pickF <;> rfl) | (apply p_not <;> rfl) | (apply p_fieldAddrB <;> rfl) | (apply p_eqB <;> rfl) | fail); (case hd => rfl)) | (apply v_condT; (case hc => rfl)) | (apply v_condF; (case hc => rfl)) | (apply v_guardB; (case h1 => rfl); (case h2 => rfl); all_goals (intro h; (try simp only [reduceCtorEq, zzz] at h))) | (apply v_callJ (hs := q1); (case ha => rfl); (case hd => rfl)) | (apply v_callJ (hs := q2); (case ha => rfl); (case hd => rfl)) | (apply v_read; (case hop => first | (apply r_loadNo; (case hx => rfl); (case h => (repeat (exact mhd _))); (case hd => (repeat (first | with_reducible exact dt_nil | apply dt_here))); (case hn => rfl)) | (apply r_load1; rfl; (apply Cell.own; (case h => (repeat (exact mhd _))); rfl)) | fail); (case hd => rfl)) | fail)
      all_goals
        (refine v_ret [] (outsA1 rfl rfl) (by repeat (exact List.nil_sublist _)) ?_
         refine ⟨?_, rfl⟩
         (try simp only [dec_eq])
         congr 1
         first
           | (rw [hnot (by rintro ⟨h, -⟩; omega)]; done)
           | (by_cases hz : z = 2 ↔ 0 < ac
              · rw [hyes ⟨by omega, h1, h2, hz⟩]
                simp only [beq_iff_eq, decide_eq_decide]
                exact hz
              · rw [hnot (fun h => hz h.2.2.2)]
                simp only [beq_eq_false_iff_ne, ne_eq, decide_eq_decide]
                exact hz))
    · rw [decide_eq_false h2] at q2
      rw [hnot (fun h => h2 h.2.2.1)]
      (refine v_enter Tryz.func24 rfl Tryz.ntmps24 rfl ?_; intro B _)
      repeat' (first | (apply v_box (d := 1) (zs := [.int .i64 ix, .int .i64 ac, .slice C nl cc, .int .i64 z, .slice A np c, .slice A' ns c']); (case hx => rfl); (case hz => rfl); (case hd => rfl); intro b1) | apply v_seq | apply v_region | apply v_nil | (apply v_take; (case hg => rfl)) | (apply v_pass; (case hg => rfl); (case hn => rfl); (case hd => rfl)) | (apply v_pure; (case hop => first | (apply p_move <;> rfl) | (apply p_lt <;> rfl) | (apply p_gt <;> rfl) | (apply p_assign <;> rfl) | (apply p_pickT <;> rfl) | (apply p_pickF <;> rfl) | (apply p_not <;> rfl) | (apply p_fieldAddrB <;> rfl) | fail); (case hd => rfl)) | (apply v_condT; (case hc => rfl)) | (apply v_guardB; (case h1 => rfl); (case h2 => rfl); all_goals (intro h; (try simp only [reduceCtorEq, zzz] at h))) | (apply v_callJ (hs := q1); (case ha => rfl); (case hd => rfl)) | (apply v_callJ (hs := q2); (case ha => rfl); (case hd => rfl)) | (apply v_read; (case hop => first | (apply r_loadNo; (case hx => rfl); (case h => (repeat (exact mhd _))); (case hd => (repeat (first | with_reducible exact dt_nil | apply dt_here))); (case hn => rfl)) | (apply r_load1; rfl; (apply Cell.own; (case h => (repeat (exact mhd _))); rfl)) | fail); (case hd => rfl)) | fail)
      all_goals
        (refine v_ret [] (outsA1 rfl rfl) (by repeat (exact List.nil_sublist _)) ?_
         exact ⟨rfl, rfl⟩)
  · rw [decide_eq_false h1] at q1
    rw [hnot (fun h => h1 h.2.1)]
    (refine v_enter Tryz.func24 rfl Tryz.ntmps24 rfl ?_; intro B _)
    repeat' (first | (apply v_box (d := 1) (zs := [.int .i64 ix, .int .i64 ac, .slice C nl cc, .int .i64 z, .slice A np c, .slice A' ns c']); (case hx => rfl); (case hz => rfl); (case hd => rfl); intro b1) | apply v_seq | apply v_region | apply v_nil | (apply v_take; (case hg => rfl)) | (apply v_pass; (case hg => rfl); (case hn => rfl); (case hd => rfl)) | (apply v_pure; (case hop => first | (apply p_move <;> rfl) | (apply p_lt <;> rfl) | (apply p_gt <;> rfl) | (apply p_assign <;> rfl) | (apply p_pickT <;> rfl) | (apply p_pickF <;> rfl) | (apply p_not <;> rfl) | (apply p_fieldAddrB <;> rfl) | fail); (case hd => rfl)) | (apply v_condT; (case hc => rfl)) | (apply v_guardB; (case h1 => rfl); (case h2 => rfl); all_goals (intro h; (try simp only [reduceCtorEq, zzz] at h))) | (apply v_callJ (hs := q1); (case ha => rfl); (case hd => rfl)) | (apply v_read; (case hop => (apply r_load1; rfl; (apply Cell.own; (case h => (repeat (exact mhd _))); rfl))); (case hd => rfl)) | fail)
    all_goals
      (refine v_ret [] (outsA1 rfl rfl) (by repeat (exact List.nil_sublist _)) ?_
       exact ⟨rfl, rfl⟩)
theorem refWLarge_s {G : GH} {m : Im} {v : Value} (hm : ImV G m v) : Con Tryz.prog 21 #[v] G [] (Lg (CoZ m.confs ∧ m.confs.length ≤ 40 ∧ StZ m.st) G) := by
  obtain ⟨C, cc, A, c, A', c', rfl, hC, hp, hss⟩ := hm
  have hs : StV G m.st (.agg [.int .i64 m.st.schema, .slice A m.st.pairs.length c, .slice A' m.st.sess.length c'].toArray) := ⟨_, _, _, _, rfl, hp, hss⟩
  have q1 := large_s hC
  have q2 := lg25_s hs
  have h1 : largeB m.confs = false → CoZ m.confs ∧ m.confs.length ≤ 40 := fun h => by
    obtain ⟨a, b⟩ := largeB_no h
    exact ⟨⟨by omega, fun c hc => by have := b c hc; omega⟩, a⟩
  have h2 : ((m.st.sess.length ≤ 40 ∧ SizedS m.st.sess) ∧ m.st.pairs.length ≤ 80 ∧ Sized m.st.pairs) → StZ m.st := fun h => ⟨h.2.2, h.1.2, by have := h.2.1; omega, by have := h.1.1; omega⟩
  clear hC hp hss hs
  (obtain ⟨ix, ac, lc, ⟨z, lp, ls⟩⟩ := m; simp only at *; generalize lp.length = np at *; generalize ls.length = ns at *; generalize lc.length = nl at *)
  generalize largeB lc = lb at *
  (refine v_enter Tryz.func21 rfl Tryz.ntmps21 rfl ?_; intro B _)
  repeat' (first | (apply v_box (d := 1) (zs := [.int .i64 ix, .int .i64 ac, .slice C nl cc, .int .i64 z, .slice A np c, .slice A' ns c']); (case hx => rfl); (case hz => rfl); (case hd => rfl); intro b1) | apply v_seq | apply v_region | apply v_nil | (apply v_take; (case hg => rfl)) | (apply v_pass; (case hg => rfl); (case hn => rfl); (case hd => rfl)) | (apply v_pure; (case hop => first | (apply p_move <;> rfl) | (apply p_assign <;> rfl) | (apply p_pickT <;> rfl) | (apply p_fieldAddrB <;> rfl) | fail); (case hd => rfl)) | (apply v_guardB; (case h1 => rfl); (case h2 => rfl); all_goals (intro h; (try simp only [reduceCtorEq, zzz] at h))) | (apply v_callJ (hs := q1); (case ha => rfl); (case hd => rfl)) | (apply v_read; (case hop => first | (apply r_loadNo; (case hx => rfl); (case h => (repeat (exact mhd _))); (case hd => (repeat (first | with_reducible exact dt_nil | apply dt_here))); (case hn => rfl)) | (apply r_load1; rfl; (apply Cell.own; (case h => (repeat (exact mhd _))); rfl)) | fail); (case hd => rfl)) | fail)
  · refine v_ret [] (outsA1 rfl rfl) (by repeat (exact List.nil_sublist _)) ?_
    exact ⟨rfl, rfl, _, rfl, fun h => by simp_all⟩
  refine v_call (μ1 := []) rfl q2 (List.Perm.refl _) rfl ?_
  rintro _ G1 _ - ⟨hG1, rfl, b4, rfl, h4⟩
  subst hG1
  repeat' (first | apply v_nil | (apply v_pure; (case hop => first | (apply p_assign <;> rfl) | (apply p_pickF <;> rfl) | fail); (case hd => rfl)) | fail)
  refine v_ret [] (outsA1 rfl rfl) (by repeat (exact List.nil_sublist _)) ?_
  exact ⟨rfl, rfl, _, rfl, fun h => ⟨(h1 (by assumption)).1, (h1 (by assumption)).2, h2 (h4 h)⟩⟩
abbrev exIm : Im := ⟨0, 0, [(1, [1, 2, 3])], emp⟩
abbrev addC : Cm := ⟨7, 0, 0, ByteArray.empty, ByteArray.empty, ByteArray.empty, 4⟩
theorem addC_ok : cmdI addC = 0 := by
  rw [cmdI_eq]
  unfold cmdE
  simp
theorem exC_ok : ConfOK [(1, [1, 2, 3])] :=
  ConfOK.of ⟨by decide, rfl⟩ (by simp) (fun c hc => by simp at hc; subst hc; exact ⟨memOK_of (by decide) (by decide) (by decide), by decide⟩)
theorem exIm_ok : ImP exIm := ⟨⟨by simp, by simp, by simp, by simp⟩, exC_ok, emp_ok, by simp⟩
abbrev exN : Im := ⟨1, 0, [(1, [1, 2, 3]), (5, [1, 2, 3, 4])], emp⟩
theorem ex_app : applyS emp addC = (emp, zA, 0) := by
  unfold applyS
  rw [addC_ok]
  simp
theorem ex_next : nextI exIm addC = exN := by
  unfold nextI confsI
  rw [ex_app, if_pos ⟨.inl rfl, (changeR_zero exC_ok (by decide)).2 (by decide)⟩]
  rfl
theorem exN_ok : ImP exN := by
  have h := nextI_ok exIm_ok (by decide) addC_ok
  rw [ex_next] at h
  exact h
theorem ex_win : winS exIm addC = (exN, zA, 0) := by
  unfold winS
  rw [if_neg (fun h => h exIm_ok), if_neg (by decide), if_neg (by simp [addC_ok]), ex_next, ex_app]
theorem ex_m4 : membersI exN 4 = [1, 2, 3] := by
  unfold membersI
  rw [if_pos ⟨exN_ok, by unfold OpenP; decide⟩]
  rfl
theorem ex_m5 : membersI exN 5 = [1, 2, 3, 4] := by
  unfold membersI
  rw [if_pos ⟨exN_ok, by unfold OpenP; decide⟩]
  rfl
theorem awake30_s {G : GH} (hT : TabsG G) : Con Tryz.prog 22 #[] G [] (fun r G' μ' => r = .bool true ∧ μ' = []) := by
  have hz := emp_ok.small
  (refine v_enter Tryz.func22 rfl Tryz.ntmps22 rfl ?_; intro B _)
  repeat' (first | (apply v_buildSlice; (case hz => rfl); (case hi => rfl); (case hv => (simp only [List.map_cons, List.map_nil]; repeat (first | with_reducible exact evs_nil | (apply evs_cons; (case h1 => rfl))))); (case hp => (apply pk_cons; (case hc => rfl); (case hs => rfl); (case h => (apply pk_cons; (case hc => rfl); (case hs => rfl); (case h => (apply pk_cons; (case hc => rfl); (case hs => rfl); (case h => (with_reducible exact pk_nil)); (case he => ((repeat (first | with_reducible exact ap_nil | apply ap_cons)); done)))); (case he => ((repeat (first | with_reducible exact ap_nil | apply ap_cons)); done)))); (case he => ((repeat (first | with_reducible exact ap_nil | apply ap_cons)); done)))); (case hb => rfl); (case hd => rfl); intro b7) | apply v_seq | apply v_region | apply v_nil | (apply v_pure; (case hop => (apply p_assign <;> rfl)); (case hd => rfl)) | fail)
  refine v_frz [(b7, .cells [Value.int .i64 1, .int .i64 2, .int .i64 3].toArray 3 (0, 0))] (by repeat (exact PickA.last)) ?_
  intro G1 hle1 hG1
  have hm : Sl G1 1 (IntR .i64) (.slice (some ⟨b7, 0, none⟩) 3 3) [1, 2, 3] := Sl.ofInts (l := [1, 2, 3]) rfl (hG1 b7 _ (by (repeat (exact mhd _)))) (by decide) (by decide)
  refine v_call (μ1 := []) rfl (winFirst_s hm (by decide)) (List.Perm.refl _) rfl ?_
  rw [if_pos exC_ok, show firstI [1, 2, 3] = exIm from if_pos exC_ok]
  rintro _ G2 _ hle2 ⟨rfl, v2, rfl, hv2⟩
  obtain ⟨C2, cc2, A2, c2, A2', c2', rfl, hC2, hp2, hss2⟩ := id hv2
  repeat' (first | (apply v_alloc (d := 1); (case hz => rfl); (case hd => rfl); intro b1) | (apply v_read; (case hop => (apply r_loadNo; (case hx => rfl); (case h => repeat (exact mhd _)); (case hd => rfl); (case hn => rfl))); (case hd => rfl)) | apply v_seq | apply v_region | apply v_nil | (apply v_pure; (case hop => first | (apply p_move <;> rfl) | (apply p_assign <;> rfl) | (apply p_extract0 <;> rfl) | (apply p_extract1 <;> rfl) | (apply p_build; (case hz => rfl); (case hv => (simp only [List.map_cons, List.map_nil]; repeat (first | with_reducible exact evs_nil | (apply evs_cons; (case h1 => rfl))))); (case hb => (apply bldL; repeat (first | exact bld_nil | (apply bld_cons; (case hpf => rfl); (case hc => rfl); (case hs => rfl); (case hl => rfl); (case ho => ((repeat (first | with_reducible exact ov_nil | apply ov_cons)); done))))))) | fail); (case hd => rfl)) | (apply v_store; (case hp => rfl); (case hx => rfl); (case hc => rfl); (case hsz => rfl); (case h1 => rfl); (case hb => (repeat (exact mhd _))); (case hfit => exact nle rfl); (case hov => ((repeat (first | with_reducible exact ov_nil | apply ov_cons)); done)); (case hu => repeat (exact Upd.here _ _))) | fail)
  refine v_call (μ1 := []) rfl (winApply_s ((hT.up hle1).up hle2) hv2 hz (exC_ok.coZ (by decide)) addC ⟨by decide, by decide, by decide, Nat.zero_le _, Nat.zero_le _, Nat.zero_le _, by decide⟩ ⟨by decide, by decide⟩) (List.Perm.refl _) rfl ?_
  rw [ex_win]
  rintro _ G3 _ hle3 ⟨rfl, v3, rfl, hv3⟩
  obtain ⟨C3, cc3, A3, c3, A3', c3', rfl, hC3, hp3, hss3⟩ := id hv3
  have q4 := winMembers_s (((hT.up hle1).up hle2).up hle3) 4 hv3 hz (exN_ok.2.1.coZ (by decide)) (by decide)
  have q5 := fun G' (h : GH.le G3 G') => winMembers_s ((((hT.up hle1).up hle2).up hle3).up h) 5 (hv3.up h) hz (exN_ok.2.1.coZ (by decide)) (by decide)
  rw [ex_m4] at q4
  rw [ex_m5] at q5
  repeat' (first | (apply v_alloc (d := 3); (case hz => rfl); (case hd => rfl); intro b3) | (apply v_alloc (d := 4); (case hz => rfl); (case hd => rfl); intro b4) | (apply v_read; (case hop => (apply r_loadNo; (case hx => rfl); (case h => repeat (first | exact mhd _ | apply mtl)); (case hd => rfl); (case hn => rfl))); (case hd => rfl)) | apply v_seq | apply v_region | apply v_nil | (apply v_take; (case hg => rfl)) | (apply v_pure; (case hop => first | (apply p_move <;> rfl) | (apply p_eqs <;> rfl) | (apply p_assign <;> rfl) | (apply p_pickT <;> rfl) | (apply p_fieldAddrB <;> rfl) | (apply p_extract0 <;> rfl) | (apply p_extract1 <;> rfl) | (apply p_extract2 <;> rfl) | fail); (case hd => rfl)) | (apply v_read; (case hop => (apply r_load1; rfl; (apply Cell.own; (case h => (repeat (first | exact mhd _ | apply mtl))); rfl))); (case hd => rfl)) | (apply v_store; (case hp => rfl); (case hx => rfl); (case hc => rfl); (case hsz => rfl); (case h1 => rfl); (case hb => (repeat (first | exact mhd _ | apply mtl))); (case hfit => exact nle rfl); (case hov => ((repeat (first | with_reducible exact ov_nil | apply ov_cons)); done)); (case hu => repeat (first | exact Upd.here _ _ | apply Upd.there))) | fail)
  refine v_call (μ1 := []) rfl q4 (List.Perm.refl _) rfl ?_
  rintro _ G4 _ hle4 ⟨rfl, hr4⟩
  obtain ⟨A4, c4, rfl, -⟩ := id hr4.openInt
  repeat' (first | (apply v_read; (case hop => (apply r_loadNo; (case hx => rfl); (case h => repeat (first | exact mhd _ | apply mtl)); (case hd => rfl); (case hn => rfl))); (case hd => rfl)) | (apply v_take; (case hg => rfl)) | (apply v_pure; (case hop => first | (apply p_move <;> rfl) | (apply p_eqs <;> rfl) | (apply p_pickT <;> rfl) | (apply p_lenSlice <;> rfl) | fail); (case hd => rfl)) | fail)
  refine v_call (μ1 := []) rfl (q5 G4 hle4) (List.Perm.refl _) rfl ?_
  rintro _ G5 _ hle5 ⟨rfl, hr5⟩
  obtain ⟨A5, c5, rfl, -⟩ := id hr5.openInt
  repeat' (first | apply v_nil | (apply v_take; (case hg => rfl)) | (apply v_pure; (case hop => first | (apply p_eqs <;> rfl) | (apply p_assign <;> rfl) | (apply p_pickT <;> rfl) | (apply p_lenSlice <;> rfl) | fail); (case hd => rfl)) | fail)
  refine v_ret [] (outsA1 rfl rfl) (by repeat (exact List.nil_sublist _)) ?_
  exact ⟨rfl, rfl⟩
def CmR (c : Cm) (cs : List Value) : Prop := cs = c.cells ∧ c.ok
theorem el_cm {H : Type} {enc : TypeId × Value → H} {W : World} : Elem enc Tryz.prog W 28 CmR := by
  intro fuel cs x hf
  have h1 := el_flen (n := 7) Tryz.underlying28 (by kernel_rfl) hf
  obtain ⟨a0, h0, w0⟩ := el_fld (i := 0) (sz := 1) (by kernel_rfl) (el_int Tryz.underlying3) hf
  obtain ⟨a1, e1, w1⟩ := el_fld (i := 1) (sz := 1) (by kernel_rfl) (el_int Tryz.underlying3) hf
  obtain ⟨a2, e2, w2⟩ := el_fld (i := 2) (sz := 1) (by kernel_rfl) (el_int Tryz.underlying3) hf
  obtain ⟨a3, e3, w3⟩ := el_fld (i := 3) (sz := 1) (by kernel_rfl) (el_string Tryz.underlying9) hf
  obtain ⟨a4, e4, w4⟩ := el_fld (i := 4) (sz := 1) (by kernel_rfl) (el_string Tryz.underlying9) hf
  obtain ⟨a5, e5, w5⟩ := el_fld (i := 5) (sz := 1) (by kernel_rfl) (el_string Tryz.underlying9) hf
  obtain ⟨a6, e6, w6⟩ := el_fld (i := 6) (sz := 1) (by kernel_rfl) (el_int Tryz.underlying3) hf
  match cs, h1 with
  | [c0, c1, c2, c3, c4, c5, c6], _ =>
    simp only [List.drop_succ_cons, List.drop_zero, List.take_succ_cons, List.take_zero, List.cons.injEq, and_true] at h0 e1 e2 e3 e4 e5 e6
    exact ⟨⟨a0, a1, a2, a3, a4, a5, a6⟩, by rw [h0, e1, e2, e3, e4, e5, e6]; rfl, w0, w1, w2, w3, w4, w5, w6⟩
theorem el_pr {H : Type} {enc : TypeId × Value → H} {W : World} : Elem enc Tryz.prog W 144 (RowR Pr.cells) := by
  intro fuel cs x hf
  have h1 := el_flen (n := 3) Tryz.underlying144 (by kernel_rfl) hf
  obtain ⟨a0, e0, w0⟩ := el_fld (i := 0) (sz := 1) (by kernel_rfl) (el_string Tryz.underlying9) hf
  obtain ⟨a1, e1, w1⟩ := el_fld (i := 1) (sz := 1) (by kernel_rfl) (el_string Tryz.underlying9) hf
  obtain ⟨a2, e2, w2⟩ := el_fld (i := 2) (sz := 1) (by kernel_rfl) (el_int Tryz.underlying3) hf
  match cs, h1 with
  | [c0, c1, c2], _ =>
    simp only [List.drop_succ_cons, List.drop_zero, List.take_succ_cons, List.take_zero, List.cons.injEq, and_true] at e0 e1 e2
    exact ⟨⟨a0, a1, a2⟩, by rw [e0, e1, e2]; rfl⟩
theorem el_an {H : Type} {enc : TypeId × Value → H} {W : World} : Elem enc Tryz.prog W 40 (RowR An.cells) := by
  intro fuel cs x hf
  have h1 := el_flen (n := 6) Tryz.underlying40 (by kernel_rfl) hf
  obtain ⟨a0, e0, w0⟩ := el_fld (i := 0) (sz := 1) (by kernel_rfl) (el_int Tryz.underlying3) hf
  obtain ⟨a1, e1, w1⟩ := el_fld (i := 1) (sz := 1) (by kernel_rfl) (el_int Tryz.underlying3) hf
  obtain ⟨a2, e2, w2⟩ := el_fld (i := 2) (sz := 1) (by kernel_rfl) (el_int (k := .i64) Tryz.underlying25) hf
  obtain ⟨a3, e3⟩ := el_fld (i := 3) (sz := 1) (by kernel_rfl) (el_bool Tryz.underlying4) hf
  obtain ⟨a4, e4, w4⟩ := el_fld (i := 4) (sz := 1) (by kernel_rfl) (el_string Tryz.underlying9) hf
  obtain ⟨a5, e5, w5⟩ := el_fld (i := 5) (sz := 1) (by kernel_rfl) (el_int Tryz.underlying3) hf
  match cs, h1 with
  | [c0, c1, c2, c3, c4, c5], _ =>
    simp only [BoolR, List.drop_succ_cons, List.drop_zero, List.take_succ_cons, List.take_zero, List.cons.injEq, and_true] at e0 e1 e2 e3 e4 e5
    exact ⟨⟨a0, a1, a2, a3, a4, a5⟩, by rw [e0, e1, e2, e3, e4, e5]; rfl⟩
theorem el_ss {H : Type} {enc : TypeId × Value → H} {W : World} : Elem enc Tryz.prog W 146 (RowR Ss.cells) := by
  intro fuel cs x hf
  have h1 := el_flen (n := 8) Tryz.underlying146 (by kernel_rfl) hf
  obtain ⟨a0, e0, w0⟩ := el_fld (i := 0) (sz := 1) (by kernel_rfl) (el_int Tryz.underlying3) hf
  obtain ⟨a1, e1, w1⟩ := el_fld (i := 1) (sz := 1) (by kernel_rfl) (el_int Tryz.underlying3) hf
  obtain ⟨a2, e2⟩ := el_fld (i := 2) (sz := 6) (by kernel_rfl) el_an hf
  match cs, h1 with
  | [c0, c1, c2, c3, c4, c5, c6, c7], _ =>
    simp only [RowR, An.cells, List.drop_succ_cons, List.drop_zero, List.take_succ_cons, List.take_zero, List.cons.injEq, and_true] at e0 e1 e2
    obtain ⟨rfl, rfl, rfl, rfl, rfl, rfl⟩ := e2
    subst e0; subst e1
    exact ⟨⟨a0, a1, a2⟩, rfl⟩
theorem el_st {H : Type} {enc : TypeId × Value → H} {W : World} {fuel : Nat} {cs : List Value} {x : DataW H × List MemPlace} (hf : DataW.trod enc Tryz.prog W 0 (fun _ => true) true fuel 32 cs = some x) : ∃ s : St, StV (ghost W) s (.agg cs.toArray) := by
  have h1 := el_flen (n := 3) Tryz.underlying32 (by kernel_rfl) hf
  obtain ⟨a0, e0, w0⟩ := el_fld (i := 0) (sz := 1) (by kernel_rfl) (el_int Tryz.underlying3) hf
  obtain ⟨l1, v1, e1, s1⟩ := el_fld (i := 1) (sz := 1) (by kernel_rfl) (el_slice (sz := 3) Tryz.underlying29 (by kernel_rfl) el_pr) hf
  obtain ⟨l2, v2, e2, s2⟩ := el_fld (i := 2) (sz := 1) (by kernel_rfl) (el_slice (sz := 8) Tryz.underlying30 (by kernel_rfl) el_ss) hf
  match cs, h1 with
  | [c0, c1, c2], _ =>
    simp only [List.drop_succ_cons, List.drop_zero, List.take_succ_cons, List.take_zero, List.cons.injEq, and_true] at e0 e1 e2
    subst e0; subst e1; subst e2
    exact ⟨⟨a0, l1, l2⟩, StV.mk' s1 s2⟩
set_option maxRecDepth 100000 in
theorem arg_t28 {H : Type} {enc : TypeId × Value → H} {W : World} {base : Nat} {v : Value} {d : DataW H} {p : List MemPlace} (hv : Value.okWide Tryz.prog W .any base 28 v) (h : DataW.Trod enc Tryz.prog W 0 (fun _ => true) true 28 v d p) : ∃ c : Cm, v = .agg c.cells.toArray ∧ c.ok := by
  obtain ⟨cs, rfl⟩ := okWide_agg (by kernel_rfl) hv
  obtain ⟨fuel, hf⟩ := h
  obtain ⟨c, e, hc⟩ := el_cm _ _ _ hf
  have e2 : cs.toList.toArray = c.cells.toArray := congrArg List.toArray e
  rw [Array.toArray_toList] at e2
  exact ⟨c, by rw [e2], hc⟩
theorem firstEq : (Rows.laid_unicode_utf8_first : DataW Unit) = Lib.firstData := by kernel_rfl
theorem acceptEq : (Rows.laid_unicode_utf8_acceptRanges : DataW Unit) = Lib.acceptData := by kernel_rfl
abbrev tabsLaid : List (String × DataW Unit) := [("unicode/utf8.acceptRanges", Rows.laid_unicode_utf8_acceptRanges), ("unicode/utf8.first", Rows.laid_unicode_utf8_first)]
theorem tabs_plain : (tabsLaid.all fun x => x.2.handleName?.isNone) = true := by kernel_rfl
theorem tabs_of_laid {W : World} (hL : laidMetH Tryz.prog tabsLaid W) : TabsG (ghost W) := by
  rw [MakeChecks.laidMetH_plain _ _ _ tabs_plain] at hL
  have r1 := Lib.laidMet.reads hL (.tail _ (.head _))
  have r2 := Lib.laidMet.reads hL (.head _)
  rw [firstEq] at r1
  rw [acceptEq] at r2
  have hU := utf8Tabs_of_readsT (ρ := laysDecode_ren) { laysDecode with } ⟨by kernel_rfl, by kernel_rfl, by kernel_rfl, by kernel_rfl, by kernel_rfl, by kernel_rfl, by kernel_rfl⟩ r1 r2
  clear hL r1 r2
  intro w hw
  have lift : ∀ (a : Addr) v, W.cell? a = some v → w.cell? a = some v := by
    intro a v h
    unfold World.cell? at h ⊢
    cases hb : W.heap[a.block]? with
    | none => rw [hb] at h; simp at h
    | some o => rw [hw _ _ hb]; rw [hb] at h; exact h
  exact ⟨fun c hc => lift _ _ (hU.1 c hc), fun i hi => ⟨lift _ _ (hU.2 i hi).1, lift _ _ (hU.2 i hi).2⟩⟩
theorem el_co {H : Type} {enc : TypeId × Value → H} {W : World} : Elem enc Tryz.prog W 61 (CoR (ghost W)) := by
  intro fuel cs x hx
  have h1 := el_flen (n := 2) Tryz.underlying61 (by kernel_rfl) hx
  obtain ⟨y, hy⟩ := el_fld (i := 0) (sz := 1) (by kernel_rfl) (el_int Tryz.underlying3) hx
  obtain ⟨m, hm⟩ := el_fld (i := 1) (sz := 1) (by kernel_rfl) (el_slice (sz := 1) Tryz.underlying49 (by kernel_rfl) (el_int Tryz.underlying3)) hx
  match cs, h1, hy, hm with
  | [c0, c1], _, hy, hm =>
    obtain ⟨hy, hw⟩ := hy
    obtain ⟨u, hu, hl⟩ := hm
    simp at hy hu
    subst hy; subst hu
    exact ⟨(y, m), _, rfl, hw, hl⟩
theorem el_stR {H : Type} {enc : TypeId × Value → H} {W : World} : Elem enc Tryz.prog W 32 (fun (s : St) cs => StV (ghost W) s (.agg cs.toArray)) := fun fuel cs x hf => el_st hf
theorem el_im {H : Type} {enc : TypeId × Value → H} {W : World} {fuel : Nat} {cs : List Value} {x : DataW H × List MemPlace} (hf : DataW.trod enc Tryz.prog W 0 (fun _ => true) true fuel 47 cs = some x) : ∃ m : Im, ImV (ghost W) m (.agg cs.toArray) := by
  have h1 := el_flen (n := 6) Tryz.underlying47 (by kernel_rfl) hf
  obtain ⟨a0, e0, w0⟩ := el_fld (i := 0) (sz := 1) (by kernel_rfl) (el_int Tryz.underlying3) hf
  obtain ⟨a1, e1, w1⟩ := el_fld (i := 1) (sz := 1) (by kernel_rfl) (el_int Tryz.underlying3) hf
  obtain ⟨l2, v2, e2, s2⟩ := el_fld (i := 2) (sz := 1) (by kernel_rfl) (el_slice (sz := 2) Tryz.underlying45 (by kernel_rfl) el_co) hf
  obtain ⟨s3, h3⟩ := el_fld (i := 3) (sz := 3) (by kernel_rfl) el_stR hf
  match cs, h1 with
  | [c0, c1, c2, c3, c4, c5], _ =>
    simp only [List.drop_succ_cons, List.drop_zero, List.take_succ_cons, List.take_zero, List.cons.injEq, and_true] at e0 e1 e2 h3
    subst e0; subst e1; subst e2
    obtain ⟨A, c, A', c', e, hp, hss⟩ := h3
    cases e
    obtain ⟨C, cc, rfl, -⟩ := id s2.open
    exact ⟨⟨a0, a1, l2, s3⟩, C, cc, A, c, A', c', rfl, s2, hp, hss⟩
set_option maxRecDepth 100000 in
theorem arg_t47 {H : Type} {enc : TypeId × Value → H} {W : World} {base : Nat} {v : Value} {d : DataW H} {p : List MemPlace} (hv : Value.okWide Tryz.prog W .any base 47 v) (h : DataW.Trod enc Tryz.prog W 0 (fun _ => true) true 47 v d p) : ∃ m : Im, ImV (ghost W) m v := by
  obtain ⟨cs, rfl⟩ := okWide_agg (by kernel_rfl) hv
  obtain ⟨fuel, hf⟩ := h
  exact el_im hf
abbrev IsInt (v : Value) : Prop := ∃ a, v = .int .i64 a ∧ (Lit.int .i64 a).wf = true
set_option maxRecDepth 100000 in
theorem arg_t3 {H : Type} {enc : TypeId × Value → H} {W : World} {base : Nat} {v : Value} {d : DataW H} {p : List MemPlace} (hv : Value.okWide Tryz.prog W .any base 3 v) (h : DataW.Trod enc Tryz.prog W 0 (fun _ => true) true 3 v d p) : IsInt v := arg_int Tryz.underlying3 hv h
theorem Cms.one {G : GH} {b : Nat} {c : Cm} (hb : G b = some (.cells c.cells.toArray 28 (0, 0))) : Cms G (.slice (some ⟨b, 0, none⟩) 1 1) [c] :=
  row_of_grow (e := 28) (l := [c]) (ν := [(b, .cells c.cells.toArray 28 (0, 0))]) Cm.len ⟨by simp [rowC, Cm.len], .inr ⟨b, 1, [], rfl, by simp [rowC], by simp, by simp [maxLen], by simp [rowC, Cm.len]⟩⟩ (fun b' o h => by simp only [List.mem_singleton] at h; cases h; exact hb)
theorem windowMembers_law {W : World} {v0 v1 v2 : Value} (hT : TabsG (ghost W)) (g0 : ∃ m : Im, ImV (ghost W) m v0) (g1 : ∃ c : Cm, v1 = .agg c.cells.toArray ∧ c.ok) (g2 : IsInt v2) : LawCon Tryz.prog 4 #[v0, v1, v2] W := by
  obtain ⟨m, hm⟩ := g0
  obtain ⟨c, rfl, hcok⟩ := g1
  obtain ⟨i, rfl, hi⟩ := g2
  unfold LawCon
  generalize ghost W = G at *
  have hib := bounds_i64 hi
  have qa := fun G' (h : GH.le G G') => awake30_s (hT.up h)
  have q1 := refWLarge_s hm
  obtain ⟨C, cc, A, d, A', d', rfl, hC, hp, hss⟩ := id hm
  obtain ⟨kind, cl, seq, key, val, old, node⟩ := c
  (refine v_enter Tryz.func4 rfl Tryz.ntmps4 rfl ?_; intro B _)
  repeat' (first | (apply v_box (d := 3) (zs := [.int .i64 m.index, .int .i64 m.active, .slice C m.confs.length cc, .int .i64 m.st.schema, .slice A m.st.pairs.length d, .slice A' m.st.sess.length d']); (case hx => rfl); (case hz => rfl); (case hd => rfl); intro b3) | (apply v_box (d := 4) (zs := Cm.cells ⟨kind, cl, seq, key, val, old, node⟩); (case hx => rfl); (case hz => rfl); (case hd => rfl); intro b4) | (apply v_read; (case hop => (apply r_loadNo; (case hx => rfl); (case h => repeat (first | exact mhd _ | apply mtl)); (case hd => rfl); (case hn => rfl))); (case hd => rfl)) | apply v_seq | apply v_region | apply v_nil | (apply v_pure; (case hop => (apply p_assign <;> rfl)); (case hd => rfl)) | fail)
  refine v_call (μ1 := []) rfl q1 (List.Perm.refl _) rfl ?_
  rintro _ G1 _ - ⟨hG1, rfl, b1, rfl, h1⟩
  subst hG1
  cases b1 with
  | true =>
    repeat' (first | apply v_seq | apply v_region | apply v_nil | (apply v_pass; (case hg => rfl); (case hn => rfl); (case hd => rfl)) | (apply v_pure; (case hop => first | (apply p_move <;> rfl) | (apply p_pickT <;> rfl) | fail); (case hd => rfl)) | (apply v_condT; (case hc => rfl)) | fail)
    refine v_call (μ1 := []) rfl (qa _ (GH.le_refl _)) (List.Perm.refl _) rfl ?_
    rintro _ G9 _ - ⟨rfl, rfl⟩
    repeat' (first | apply v_nil | (apply v_pure; (case hop => (apply p_assign <;> rfl)); (case hd => rfl)) | fail)
    refine v_ret [] (outsA1 rfl rfl) (by repeat (exact List.nil_sublist _)) ?_
    rfl
  | false =>
    obtain ⟨hco, hcl, hz⟩ := h1 rfl
    repeat' (first | (apply v_read; (case hop => (apply r_loadNo; (case hx => rfl); (case h => repeat (exact mhd _)); (case hd => rfl); (case hn => rfl))); (case hd => rfl)) | (apply v_buildSlice; (case hz => rfl); (case hi => rfl); (case hv => (simp only [List.map_cons, List.map_nil]; repeat (first | with_reducible exact evs_nil | (apply evs_cons; (case h1 => rfl))))); (case hp => (apply pk_cons; (case hc => rfl); (case hs => rfl); (case h => (with_reducible exact pk_nil)); (case he => (rfl)))); (case hb => rfl); (case hd => rfl); intro b7) | (apply v_take; (case hg => rfl)) | (apply v_pure; (case hop => (apply p_move <;> rfl)); (case hd => rfl)) | fail)
    refine v_frz [(b7, .cells (Cm.cells ⟨kind, cl, seq, key, val, old, node⟩).toArray 28 (0, 0))] (PickA.here _) ?_
    intro G2 hle2 hG2
    refine v_call (μ1 := []) rfl (lg28_s (Cms.one (hG2 b7 _ (by (repeat (exact mhd _)))))) (List.Perm.refl _) rfl ?_
    rintro _ G1 _ - ⟨hG1, rfl, b1, rfl, h2⟩
    subst hG1
    cases b1 with
    | true =>
      repeat' (first | apply v_seq | apply v_region | apply v_nil | (apply v_pure; (case hop => (apply p_pickF <;> rfl)); (case hd => rfl)) | (apply v_condT; (case hc => rfl)) | fail)
      refine v_call (μ1 := []) rfl (qa _ hle2) (List.Perm.refl _) rfl ?_
      rintro _ G9 _ - ⟨rfl, rfl⟩
      repeat' (first | apply v_nil | (apply v_pure; (case hop => (apply p_assign <;> rfl)); (case hd => rfl)) | fail)
      refine v_ret [] (outsA1 rfl rfl) (by repeat (exact List.nil_sublist _)) ?_
      rfl
    | false =>
      have hcw : CmW ⟨kind, cl, seq, key, val, old, node⟩ := ⟨((h2 rfl).2 _ (List.Mem.head _)).1, ((h2 rfl).2 _ (List.Mem.head _)).2.1⟩
      have hm2 := hm.up hle2
      have qM := winMembers_s (hT.up hle2) i hm2 hz hco hi
      have hmi : membersI m i = if ImP m ∧ OpenP m i then atK m.confs i m.confs.length else [] := rfl
      have hop : OpenP m i ↔ m.index < i ∧ i - 4 ≤ m.index := Iff.rfl
      repeat' (first | (apply v_read; (case hop => (apply r_loadNo; (case hx => rfl); (case h => repeat (first | exact mhd _ | apply mtl)); (case hd => rfl); (case hn => rfl))); (case hd => rfl)) | apply v_seq | apply v_region | apply v_nil | apply v_skip | (apply v_pure; (case hop => first | (apply p_move <;> rfl) | (apply p_pickF <;> rfl) | fail); (case hd => rfl)) | (apply v_condF; (case hc => rfl)) | fail)
      refine v_call (μ1 := []) rfl qM (List.Perm.refl _) rfl ?_
      rintro _ G3 _ hle3 ⟨rfl, hl3⟩
      obtain ⟨L3, lc3, rfl, -⟩ := id hl3.openInt
      have hm3 := hm2.up hle3
      have qc := refWCheck_s hm3 hz
      by_cases hP : ImP m
      · rw [decide_eq_true hP] at qc
        have h0 := hP.1.1
        have qo := winOpen_s i hm3 h0 hi
        by_cases hO : OpenP m i
        · rw [decide_eq_true hO] at qo
          rw [if_pos ⟨hP, hO⟩] at hmi
          rw [hop] at hO
          repeat' (first | (apply v_read; (case hop => (apply r_loadNo; (case hx => rfl); (case h => repeat (first | exact mhd _ | apply mtl)); (case hd => rfl); (case hn => rfl))); (case hd => rfl)) | apply v_seq | apply v_region | apply v_nil | apply v_skip | (apply v_take; (case hg => rfl)) | (apply v_pure; (case hop => first | (apply p_move <;> rfl) | (apply p_gt <;> rfl) | (apply p_le <;> rfl) | (apply p_assign <;> rfl) | (apply p_pickT <;> rfl) | (apply p_pickF <;> rfl) | (apply p_not <;> rfl) | (apply p_fieldAddrB <;> rfl) | (apply p_sub; (case hx => rfl); (case hy => rfl); (case h => omega)) | fail); (case hd => rfl)) | (apply v_cond; (case hc => rfl); all_goals (intro h; (try simp only [reduceCtorEq, zzz] at h); first | (exfalso; omega) | skip)) | (apply v_guardB; (case h1 => rfl); (case h2 => rfl); all_goals (intro h; (try simp only [reduceCtorEq, zzz] at h); first | (exfalso; omega) | skip)) | (apply v_callJ (hs := qc); (case ha => rfl); (case hd => rfl)) | (apply v_read; (case hop => (apply r_load1; rfl; (apply Cell.own; (case h => (repeat (first | exact mhd _ | apply mtl))); rfl))); (case hd => rfl)) | fail)
          have qat := refAt_s i (hC.le (GH.le_trans hle2 hle3))
          refine v_call (μ1 := []) rfl qat (List.Perm.refl _) rfl ?_
          rintro _ G4 _ - ⟨hG4, rfl, hr4⟩
          subst hG4
          have qi := ints_s hl3 hr4
          rw [intsB, decide_eq_true hmi] at qi
          obtain ⟨R4, rc4, rfl, -⟩ := id hr4.openInt
          have qA := winApply_s ((hT.up hle2).up hle3) hm3 hz hco ⟨kind, cl, seq, key, val, old, node⟩ hcok hcw
          have hst : winS m ⟨kind, cl, seq, key, val, old, node⟩ = if ¬ ImP m then (zeroIm, zA, 3) else if 4294967292 ≤ m.index then (zeroIm, zA, 11) else if cmdI ⟨kind, cl, seq, key, val, old, node⟩ ≠ 0 then (zeroIm, zA, cmdI ⟨kind, cl, seq, key, val, old, node⟩) else (nextI m ⟨kind, cl, seq, key, val, old, node⟩, (applyS m.st ⟨kind, cl, seq, key, val, old, node⟩).2.1, 0) := rfl
          rw [hst, if_neg (fun h => h hP)] at qA
          by_cases hfull : 4294967292 ≤ m.index
          · rw [if_pos hfull] at qA
            repeat' (first | (apply v_read; (case hop => (apply r_loadNo; (case hx => rfl); (case h => repeat (first | exact mhd _ | apply mtl)); (case hd => rfl); (case hn => rfl))); (case hd => rfl)) | apply v_seq | apply v_region | apply v_nil | apply v_skip | (apply v_take; (case hg => rfl)) | (apply v_pure; (case hop => first | (apply p_move <;> rfl) | (apply p_pickF <;> rfl) | (apply p_not <;> rfl) | fail); (case hd => rfl)) | (apply v_condF; (case hc => rfl)) | (apply v_callJ (hs := qi); (case ha => rfl); (case hd => rfl)) | (apply v_callJ (hs := qo); (case ha => rfl); (case hd => rfl)) | fail)
            refine v_call (μ1 := []) rfl qA (List.Perm.refl _) rfl ?_
            rintro _ G5 _ hle5 ⟨rfl, v5, rfl, hv5⟩
            obtain ⟨C5, cc5, A5, c5, A5', c5', rfl, -, -, -⟩ := id hv5
            repeat' (first | (apply v_alloc (d := 9); (case hz => rfl); (case hd => rfl); intro b9) | (apply v_alloc (d := 10); (case hz => rfl); (case hd => rfl); intro b10) | apply v_seq | apply v_region | apply v_nil | (apply v_pass; (case hg => rfl); (case hn => rfl); (case hd => rfl)) | (apply v_pure; (case hop => first | (apply p_move <;> rfl) | (apply p_ne <;> rfl) | (apply p_assign <;> rfl) | (apply p_pickT <;> rfl) | (apply p_extract0 <;> rfl) | (apply p_extract1 <;> rfl) | (apply p_extract2 <;> rfl) | fail); (case hd => rfl)) | (apply v_condT; (case hc => rfl)) | (apply v_guardB; (case h1 => rfl); (case h2 => rfl); all_goals (intro h; (try simp only [reduceCtorEq, zzz] at h); first | (exfalso; omega) | skip)) | (apply v_store; (case hp => rfl); (case hx => rfl); (case hc => rfl); (case hsz => rfl); (case h1 => rfl); (case hb => (repeat (first | exact mhd _ | apply mtl))); (case hfit => exact nle rfl); (case hov => ((repeat (first | with_reducible exact ov_nil | apply ov_cons)); done)); (case hu => repeat (first | exact Upd.here _ _ | apply Upd.there))) | fail)
            refine v_call (μ1 := []) rfl (qa _ (GH.le_trans hle2 (GH.le_trans hle3 hle5))) (List.Perm.refl _) rfl ?_
            rintro _ G9 _ - ⟨rfl, rfl⟩
            repeat' (first | apply v_nil | (apply v_pure; (case hop => (apply p_assign <;> rfl)); (case hd => rfl)) | fail)
            refine v_ret [] (outsA1 rfl rfl) (by repeat (exact List.nil_sublist _)) ?_
            rfl
          · rw [if_neg hfull] at qA
            by_cases hci : cmdI ⟨kind, cl, seq, key, val, old, node⟩ = 0
            · rw [if_neg (by simp [hci])] at qA
              have hok' := nextI_ok hP (by omega) hci
              have hlen := nextI_len (c := ⟨kind, cl, seq, key, val, old, node⟩) hP (by omega)
              have hat := fun h1 h2 => nextI_at (c := ⟨kind, cl, seq, key, val, old, node⟩) (y := i) hP (by omega) h1 h2
              have hix : (nextI m ⟨kind, cl, seq, key, val, old, node⟩).index = m.index + 1 := rfl
              generalize nextI m ⟨kind, cl, seq, key, val, old, node⟩ = m5 at *
              generalize (applyS m.st ⟨kind, cl, seq, key, val, old, node⟩).2.1 = a5 at *
              repeat' (first | (apply v_read; (case hop => (apply r_loadNo; (case hx => rfl); (case h => repeat (first | exact mhd _ | apply mtl)); (case hd => rfl); (case hn => rfl))); (case hd => rfl)) | apply v_seq | apply v_region | apply v_nil | apply v_skip | (apply v_take; (case hg => rfl)) | (apply v_pure; (case hop => first | (apply p_move <;> rfl) | (apply p_pickF <;> rfl) | (apply p_not <;> rfl) | fail); (case hd => rfl)) | (apply v_condF; (case hc => rfl)) | (apply v_callJ (hs := qi); (case ha => rfl); (case hd => rfl)) | (apply v_callJ (hs := qo); (case ha => rfl); (case hd => rfl)) | fail)
              refine v_call (μ1 := []) rfl qA (List.Perm.refl _) rfl ?_
              rintro _ G5 _ hle5 ⟨rfl, v5, rfl, hv5⟩
              obtain ⟨C5, cc5, A5, c5, A5', c5', rfl, -, -, -⟩ := id hv5
              repeat' (first | (apply v_alloc (d := 9); (case hz => rfl); (case hd => rfl); intro b9) | (apply v_alloc (d := 10); (case hz => rfl); (case hd => rfl); intro b10) | (apply v_read; (case hop => (apply r_loadNo; (case hx => rfl); (case h => repeat (first | exact mhd _ | apply mtl)); (case hd => rfl); (case hn => rfl))); (case hd => rfl)) | apply v_seq | apply v_region | apply v_nil | apply v_skip | (apply v_take; (case hg => rfl)) | (apply v_pure; (case hop => first | (apply p_move <;> rfl) | (apply p_nes <;> rfl) | (apply p_eq <;> rfl) | (apply p_assign <;> rfl) | (apply p_pickF <;> rfl) | (apply p_fieldAddrB <;> rfl) | (apply p_extract0 <;> rfl) | (apply p_extract1 <;> rfl) | (apply p_extract2 <;> rfl) | (apply p_add; (case hx => rfl); (case hy => rfl); (case h => omega)) | fail); (case hd => rfl)) | (apply v_cond; (case hc => rfl); all_goals (intro h; (try simp only [reduceCtorEq, zzz] at h))) | (apply v_read; (case hop => (apply r_load1; rfl; (apply Cell.own; (case h => (repeat (first | exact mhd _ | apply mtl))); rfl))); (case hd => rfl)) | (apply v_store; (case hp => rfl); (case hx => rfl); (case hc => rfl); (case hsz => rfl); (case h1 => rfl); (case hb => (repeat (first | exact mhd _ | apply mtl))); (case hfit => exact nle rfl); (case hov => ((repeat (first | with_reducible exact ov_nil | apply ov_cons)); done)); (case hu => repeat (first | exact Upd.here _ _ | apply Upd.there))) | fail)
              · refine v_call (μ1 := []) rfl (qa _ (GH.le_trans hle2 (GH.le_trans hle3 hle5))) (List.Perm.refl _) rfl ?_
                rintro _ G9 _ - ⟨rfl, rfl⟩
                repeat' (first | apply v_nil | (apply v_pure; (case hop => (apply p_assign <;> rfl)); (case hd => rfl)) | fail)
                refine v_ret [] (outsA1 rfl rfl) (by repeat (exact List.nil_sublist _)) ?_
                rfl
              · have hm5 : membersI m5 i = membersI m i := by
                  rw [hmi, ← hat (by omega) (by omega)]
                  unfold membersI
                  rw [if_pos ⟨hok', by unfold OpenP; omega⟩]
                have qM5 := winMembers_s (((hT.up hle2).up hle3).up hle5) i hv5 hok'.2.2.1.small (hok'.2.1.coZ (by omega)) hi
                rw [hm5] at qM5
                refine v_call (μ1 := []) rfl qM5 (List.Perm.refl _) rfl ?_
                rintro _ G6 _ hle6 ⟨rfl, hr6⟩
                obtain ⟨R6, rc6, rfl, -⟩ := id hr6.openInt
                have qi6 := ints_s hr6 (hl3.mono (GH.le_trans hle5 hle6))
                rw [intsB, decide_eq_true rfl] at qi6
                repeat' (first | (apply v_take; (case hg => rfl)) | (apply v_pure; (case hop => (apply p_move <;> rfl)); (case hd => rfl)) | (apply v_callJ (hs := qi6); (case ha => rfl); (case hd => rfl)) | fail)
                refine v_call (μ1 := []) rfl (qa _ (GH.le_trans hle2 (GH.le_trans hle3 (GH.le_trans hle5 hle6)))) (List.Perm.refl _) rfl ?_
                rintro _ G9 _ - ⟨rfl, rfl⟩
                repeat' (first | apply v_nil | (apply v_pure; (case hop => first | (apply p_assign <;> rfl) | (apply p_pickT <;> rfl) | fail); (case hd => rfl)) | fail)
                refine v_ret [] (outsA1 rfl rfl) (by repeat (exact List.nil_sublist _)) ?_
                rfl
            · rw [if_pos hci] at qA
              generalize cmdI ⟨kind, cl, seq, key, val, old, node⟩ = ci at *
              repeat' (first | (apply v_read; (case hop => (apply r_loadNo; (case hx => rfl); (case h => repeat (first | exact mhd _ | apply mtl)); (case hd => rfl); (case hn => rfl))); (case hd => rfl)) | apply v_seq | apply v_region | apply v_nil | apply v_skip | (apply v_take; (case hg => rfl)) | (apply v_pure; (case hop => first | (apply p_move <;> rfl) | (apply p_pickF <;> rfl) | (apply p_not <;> rfl) | fail); (case hd => rfl)) | (apply v_condF; (case hc => rfl)) | (apply v_callJ (hs := qi); (case ha => rfl); (case hd => rfl)) | (apply v_callJ (hs := qo); (case ha => rfl); (case hd => rfl)) | fail)
              refine v_call (μ1 := []) rfl qA (List.Perm.refl _) rfl ?_
              rintro _ G5 _ hle5 ⟨rfl, v5, rfl, hv5⟩
              obtain ⟨C5, cc5, A5, c5, A5', c5', rfl, -, -, -⟩ := id hv5
              repeat' (first | (apply v_alloc (d := 9); (case hz => rfl); (case hd => rfl); intro b9) | (apply v_alloc (d := 10); (case hz => rfl); (case hd => rfl); intro b10) | apply v_seq | apply v_region | apply v_nil | (apply v_pass; (case hg => rfl); (case hn => rfl); (case hd => rfl)) | (apply v_pure; (case hop => first | (apply p_move <;> rfl) | (apply p_ne <;> rfl) | (apply p_assign <;> rfl) | (apply p_pickT <;> rfl) | (apply p_extract0 <;> rfl) | (apply p_extract1 <;> rfl) | (apply p_extract2 <;> rfl) | fail); (case hd => rfl)) | (apply v_condT; (case hc => rfl)) | (apply v_guardB; (case h1 => rfl); (case h2 => rfl); all_goals (intro h; (try simp only [reduceCtorEq, zzz] at h); first | (exfalso; omega) | skip)) | (apply v_store; (case hp => rfl); (case hx => rfl); (case hc => rfl); (case hsz => rfl); (case h1 => rfl); (case hb => (repeat (first | exact mhd _ | apply mtl))); (case hfit => exact nle rfl); (case hov => ((repeat (first | with_reducible exact ov_nil | apply ov_cons)); done)); (case hu => repeat (first | exact Upd.here _ _ | apply Upd.there))) | fail)
              refine v_call (μ1 := []) rfl (qa _ (GH.le_trans hle2 (GH.le_trans hle3 hle5))) (List.Perm.refl _) rfl ?_
              rintro _ G9 _ - ⟨rfl, rfl⟩
              repeat' (first | apply v_nil | (apply v_pure; (case hop => (apply p_assign <;> rfl)); (case hd => rfl)) | fail)
              refine v_ret [] (outsA1 rfl rfl) (by repeat (exact List.nil_sublist _)) ?_
              rfl
        · rw [decide_eq_false hO] at qo
          rw [if_neg (fun h => hO h.2)] at hmi
          rw [hmi]
          rw [hop] at hO
          repeat' (first | (apply v_read; (case hop => (apply r_loadNo; (case hx => rfl); (case h => repeat (first | exact mhd _ | apply mtl)); (case hd => rfl); (case hn => rfl))); (case hd => rfl)) | apply v_seq | apply v_region | apply v_nil | (apply v_take; (case hg => rfl)) | (apply v_pass; (case hg => rfl); (case hn => rfl); (case hd => rfl)) | (apply v_pure; (case hop => first | (apply p_move <;> rfl) | (apply p_eqs <;> rfl) | (apply p_gt <;> rfl) | (apply p_le <;> rfl) | (apply p_assign <;> rfl) | (apply p_pickT <;> rfl) | (apply p_pickF <;> rfl) | (apply p_not <;> rfl) | (apply p_lenSlice <;> rfl) | (apply p_fieldAddrB <;> rfl) | (apply p_sub; (case hx => rfl); (case hy => rfl); (case h => omega)) | fail); (case hd => rfl)) | (apply v_condT; (case hc => rfl)) | (apply v_cond; (case hc => rfl); all_goals (intro h; (try simp only [reduceCtorEq, zzz] at h); first | (exfalso; omega) | skip)) | (apply v_guardB; (case h1 => rfl); (case h2 => rfl); all_goals (intro h; (try simp only [reduceCtorEq, zzz] at h))) | (apply v_callJ (hs := qc); (case ha => rfl); (case hd => rfl)) | (apply v_callJ (hs := qo); (case ha => rfl); (case hd => rfl)) | (apply v_read; (case hop => (apply r_load1; rfl; (apply Cell.own; (case h => (repeat (first | exact mhd _ | apply mtl))); rfl))); (case hd => rfl)) | fail)
          all_goals
            (refine v_call (μ1 := []) rfl (qa _ (GH.le_trans hle2 hle3)) (List.Perm.refl _) rfl ?_
             rintro _ G9 _ - ⟨rfl, rfl⟩
             repeat' (first | apply v_nil | (apply v_pure; (case hop => first | (apply p_assign <;> rfl) | (apply p_pickT <;> rfl) | fail); (case hd => rfl)) | fail)
             refine v_ret [] (outsA1 rfl rfl) (by repeat (exact List.nil_sublist _)) ?_
             rfl)
      · rw [decide_eq_false hP] at qc
        rw [if_neg (fun h => hP h.1)] at hmi
        rw [hmi]
        repeat' (first | (apply v_read; (case hop => (apply r_loadNo; (case hx => rfl); (case h => repeat (first | exact mhd _ | apply mtl)); (case hd => rfl); (case hn => rfl))); (case hd => rfl)) | apply v_seq | apply v_region | apply v_nil | (apply v_take; (case hg => rfl)) | (apply v_pass; (case hg => rfl); (case hn => rfl); (case hd => rfl)) | (apply v_pure; (case hop => first | (apply p_move <;> rfl) | (apply p_eqs <;> rfl) | (apply p_gt <;> rfl) | (apply p_le <;> rfl) | (apply p_assign <;> rfl) | (apply p_pickT <;> rfl) | (apply p_pickF <;> rfl) | (apply p_not <;> rfl) | (apply p_lenSlice <;> rfl) | (apply p_fieldAddrB <;> rfl) | fail); (case hd => rfl)) | (apply v_condT; (case hc => rfl)) | (apply v_guardB; (case h1 => rfl); (case h2 => rfl); all_goals (intro h; (try simp only [reduceCtorEq, zzz] at h))) | (apply v_callJ (hs := qc); (case ha => rfl); (case hd => rfl)) | (apply v_pure; (case hop => (apply p_subw <;> rfl)); (case hd => rfl)) | (apply v_read; (case hop => (apply r_load1; rfl; (apply Cell.own; (case h => (repeat (first | exact mhd _ | apply mtl))); rfl))); (case hd => rfl)) | fail)
        all_goals
          (refine v_call (μ1 := []) rfl (qa _ (GH.le_trans hle2 hle3)) (List.Perm.refl _) rfl ?_
           rintro _ G9 _ - ⟨rfl, rfl⟩
           repeat' (first | apply v_nil | (apply v_pure; (case hop => first | (apply p_assign <;> rfl) | (apply p_pickT <;> rfl) | fail); (case hd => rfl)) | fail)
           refine v_ret [] (outsA1 rfl rfl) (by repeat (exact List.nil_sublist _)) ?_
           rfl)
theorem clos_laid : laidOutB Tryz.prog = true := by kernel_rfl
theorem clos_rowed : mapsRowed Tryz.prog = true := by kernel_rfl
theorem clos_heard : Tryz.prog.stopsHeard = true := by kernel_rfl
theorem clos_may : Tryz.prog.mayEnter = true := by kernel_rfl
theorem clos_lifts : (Rows.specAppRow.lifted == Tryz.prog.liftsFinal) = true := by kernel_rfl
theorem clos_make : (Tryz.prog.make == some Rows.specAppRow.make) = true := by kernel_rfl
theorem clos_plain : (Rows.specAppRow.plainKeys == Tryz.prog.plainKeys) = true := by kernel_rfl
theorem clos_main : Tryz.prog.mainIs = some (true, "fd00f198de0f1bbff99678f964db4a91607ae39a2c1c259642fb503572231bd3".toList) := by kernel_rfl
theorem clos_looks : true = Tryz.prog.looks [] := by kernel_rfl
theorem windowMembers_own : ownKnob Tryz.prog.godebug = none := by kernel_rfl
theorem windowMembers_laidOut : laidOutB Tryz.prog = true := clos_laid
theorem windowMembers_spec : LawSpec Rows.windowMembersSpec 3 := ⟨rfl, fun H ds h => by match ds, h with | [d0, d1, d2], _ => rfl⟩
set_option maxRecDepth 100000 in
theorem windowMembers_lifted (os : Os) (started : os.Started) (H : Type) (enc : TypeId × Value → H) :
    ReturnsInHanded {} Tryz.checked os 4 .any (fun w args => (Rows.windowMembersSpec.pre enc Tryz.prog Tryz.f4 Rows.windowMembersRow.domain false w args ∧ laidMetH Tryz.prog tabsLaid w) ∧ sizedMet enc Tryz.prog Tryz.f4 (OpenSpec.ofChange Rows.windowMembersSpec) false w args)
      (Rows.windowMembersSpec.post enc Tryz.prog Tryz.f4 false true false false) := by
  refine returnsInHanded_of_change_and (C := Tryz.checked) (X := fun w _ => laidMetH Tryz.prog tabsLaid w) (fun _ _ _ hh h => h.of_heap hh) windowMembers_own started (by kernel_rfl) Tryz.func4
    (ChangeSpec.witness_shaped (enc := enc) (C := Tryz.checked) (os := os) (X := fun w _ => laidMetH Tryz.prog tabsLaid w) false (World.laidAll Tryz.prog os tabsLaid) #[.agg #[.int .i64 0, .int .i64 0, .slice none 0 0, .int .i64 0, .slice none 0 0, .slice none 0 0], .agg #[.int .i64 0, .int .i64 0, .int .i64 0, .string ByteArray.empty, .string ByteArray.empty, .string ByteArray.empty, .int .i64 0], .int .i64 0] 8 (World.laidAll_os _ _ _)
      (World.shaped_of_ZipB (by kernel_rfl) (by kernel_rfl)) (by kernel_rfl) (by kernel_rfl) (by kernel_rfl)
      (by rw [MakeChecks.laidMetH_plain _ _ _ tabs_plain]; exact laidMet_laidAll _ (by kernel_rfl) (by kernel_rfl))) ?_
  intro W base args ds gs before hval0 hW hcnd _ hL _
  have hval : ∀ (j : Nat) t v, Tryz.f4.params[j]? = some t → args[j]? = some v → Value.okWide Tryz.prog W .any base t v := hval0
  refine law_post windowMembers_laidOut Tryz.underlying4 rfl windowMembers_spec rfl (by kernel_rfl) hW ?_
  obtain ⟨p, q, hA0, hV, rfl, hfz, hnd⟩ := hW
  have hA : DataW.TrodAll enc Tryz.prog W 0 (fun _ => true) true Tryz.f4.params.toList args.toList ds p := hA0
  rw [Tryz.params4] at hA hval
  obtain ⟨v0, vs0, d0, ds0, p0, q0, hargs, rfl, rfl, h0, r0⟩ := trodAll_cons hA
  obtain ⟨v1, vs1, d1, ds1, p1, q1, rfl, rfl, rfl, h1, r1⟩ := trodAll_cons r0
  obtain ⟨v2, vs2, d2, ds2, p2, q2, rfl, rfl, rfl, h2, r2⟩ := trodAll_cons r1
  obtain ⟨rfl, rfl, rfl⟩ := trodAll_nil r2
  obtain rfl : args = #[v0, v1, v2] := by cases args; simp_all
  have g0 := arg_t47 (hval 0 47 v0 rfl rfl) h0
  have g1 := arg_t28 (hval 1 28 v1 rfl rfl) h1
  have g2 := arg_t3 (hval 2 3 v2 rfl rfl) h2
  exact windowMembers_law (tabs_of_laid hL) g0 g1 g2
theorem windowMembers_c_inPlace : (Rows.windowMembersRow.inPlace == Tryz.prog.inPlace 4) = true := by kernel_rfl
theorem windowMembers_c_unfollowed : (Rows.windowMembersRow.unfollowed == Tryz.prog.unfollowed 4) = true := by kernel_rfl
theorem windowMembers_c_recurses : (Rows.windowMembersRow.recurses == Tryz.prog.recurses 4) = true := by kernel_rfl
theorem windowMembers_c_named : (Rows.windowMembersRow.named == Tryz.prog.varsNamed 4) = true := by kernel_rfl
theorem windowMembers_c_lifted : (Rows.windowMembersRow.lifted == Tryz.prog.liftsFinal) = true := clos_lifts
theorem windowMembers_c_make : (Tryz.prog.make == some Rows.windowMembersRow.make) = true := clos_make
theorem windowMembers_c_plainKeys : (Rows.windowMembersRow.plainKeys == Tryz.prog.plainKeys) = true := clos_plain
theorem windowMembers_closed : joinedFacts Tryz.prog 4 Tryz.f4 Rows.windowMembersSpec Rows.windowMembersRow = true := by
  unfold joinedFacts
  rw [clos_laid, clos_rowed, clos_heard, clos_may, windowMembers_c_inPlace, windowMembers_c_unfollowed, windowMembers_c_recurses, windowMembers_c_named, windowMembers_c_lifted, windowMembers_c_make, windowMembers_c_plainKeys]
  kernel_rfl
theorem windowMembers_over : Rows.windowMembersRow.holds Tryz.pinned (OpenSpec.ofChange Rows.windowMembersSpec) :=
  OpenClaim.holds_of_wide 4 Tryz.f4 rfl rfl rfl rfl rfl rfl rfl ⟨rfl, rfl, rfl, rfl, rfl⟩ rfl rfl rfl rfl rfl (by kernel_rfl) Tryz.func4 windowMembers_closed
    (of_decide_eq_true (by kernel_rfl)) (by unfold Func.isWrapper; (rw [if_neg (by decide +kernel)]; exact ⟨rfl, rfl⟩))
    (fun os started H enc _ => windowMembers_lifted os started H enc)
theorem windowMembers_holds : Rows.WindowMembersSaid := windowMembers_over
theorem windowMembers_c_wft : Rows.windowMembersRow.wfByText (OpenSpec.ofChange Rows.windowMembersSpec) = true := by kernel_rfl
theorem windowMembers_c_func : Tryz.prog.funcNamed Rows.windowMembersRow.func = some 4 := by kernel_rfl
theorem windowMembers_c_stand : ([47, 28, 3].all fun u => !Tryz.prog.wantsStandIn u) = true := by kernel_rfl
theorem windowMembers_c_goes : false = Rows.windowMembersRow.goesBy Tryz.prog := by kernel_rfl
theorem windowMembersCard_holds : Rows.WindowMembersCardSaid :=
  Claim7.holds_tied_plain_at .later [] [.data, .pinned] true (true, "fd00f198de0f1bbff99678f964db4a91607ae39a2c1c259642fb503572231bd3") true windowMembers_holds (fun _ h => by cases h) windowMembers_c_wft (fun _ h => by cases h) windowMembers_row_tie rfl ⟨rfl, rfl⟩ clos_main rfl
    (fun f fn hf hfn => by
      obtain rfl : f = 4 := Option.some.inj (windowMembers_c_func.symm.trans hf) |>.symm
      obtain rfl : fn = Tryz.f4 := (Option.some.inj (Tryz.func4.symm.trans hfn)).symm
      exact ⟨clos_looks, fun j t ht => by
        rw [Tryz.params4] at ht
        have hm : t ∈ [47, 28, 3] := by simpa using Array.mem_of_getElem? ht
        exact (show Tryz.prog.wantsStandIn t = false by simpa using List.all_eq_true.1 windowMembers_c_stand t hm)⟩)
    windowMembers_c_goes
end Go.Proofs.YtmdeeokejdkceaaGreatDoor
