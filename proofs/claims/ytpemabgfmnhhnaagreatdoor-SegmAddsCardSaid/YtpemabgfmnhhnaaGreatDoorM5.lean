/-
  entry (layer 12): what lies from an index on; places.
-/
import Derived.Test.YtpemabgfmnhhnaaGreatDoorM4
import Derived.Test.YtpemabgfmnhhnaaGreatDoorM2
import Derived.Test.YtpemabgfmnhhnaaGreatDoorM1
import Derived.Test.YtpemabgfmnhhnaaGreatDoorM3
import VxDev
set_option linter.unusedSimpArgs false
set_option linter.unusedVariables false
namespace Go.Proofs.YtpemabgfmnhhnaaGreatDoor
open Go.Vx Go.ChangeShapes Go.WideShapes Go.ChangeAt Go.RowKit
theorem rise_of_step {l : List Ent} (h : ∀ i (hi : i < l.length), 0 < i → (l[i - 1]'(by omega)).index < l[i].index) : RiseL l := by
  intro i j hj hij
  induction j with
  | zero => omega
  | succ j ih =>
    have h1 := h (j + 1) hj (by omega)
    simp only [Nat.add_sub_cancel] at h1
    by_cases he : i = j
    · subst he; exact h1
    · have := ih (by omega) (by omega)
      omega
theorem es_drop {G : GH} {A : Option Addr} {c p : Nat} {l : List Ent} (hs : Es G (.slice A l.length c) l) (hp : p ≤ l.length) : Es G (.slice (if c = p then A else A.map (·.add (p * 10))) (l.length - p) (c - p)) (l.drop p) := by
  obtain ⟨A', c', he, h1, h2, h3⟩ := hs
  cases he
  refine ⟨_, _, by rw [List.length_drop], by rw [List.length_drop]; omega, by omega, fun h0 => ?_⟩
  rw [List.length_drop] at h0
  obtain ⟨a, rfl, h4⟩ := h3 (by omega)
  refine ⟨a.add (p * 10), by rw [if_neg (by omega)]; rfl, fun i x hx => ?_⟩
  rw [List.getElem?_drop] at hx
  obtain ⟨cs, q1, q2, q3⟩ := h4 (p + i) x hx
  refine ⟨cs, q1, q2, ?_⟩
  rw [adr_add, ← Nat.add_mul]
  exact q3
def Mine (l : List Ent) (G : GH) (r : Value) (G' : GH) (μ' : OH) : Prop := G' = G ∧ Grow 97 10 r l.length (esC l) μ'
theorem from_s {G : GH} {l : List Ent} {sv : Value} (n : Int) (hs : Es G sv l) (hr : RiseL l) (hn : l.length ≤ 200) : Con Tryz.prog 182 #[sv, .int .i64 n] G [] (Mine (l.drop (placeN l n)) G) := by
  have qp := place_s n hs hr
  have hp := placeN_le l n
  obtain ⟨A, c, rfl, hlc, hcm, -⟩ := esOpen hs
  simp only [maxLen] at hcm
  have qc := entClone_s (es_drop hs hp) (by rw [List.length_drop]; omega)
  (refine v_enter Tryz.func182 rfl Tryz.ntmps182 rfl ?_; intro B _)
  repeat' (first | apply v_seq | apply v_region | apply v_nil | (apply v_pure; (case hop => first | (apply p_move <;> rfl) | (apply p_assign <;> rfl) | (apply p_extract0 <;> rfl) | (apply p_extract1 <;> rfl) | (apply p_sliceL; (case hx => rfl); (case hl => rfl); all_goals omega) | fail); (case hd => rfl)) | (apply v_callJ (hs := qp); (case ha => rfl); (case hd => rfl)) | fail)
  refine v_call (μ1 := []) (μ2 := _) rfl qc (List.Perm.refl _) rfl ?_
  rintro r G' μ1 _ ⟨rfl, hg⟩
  repeat' (first | apply v_nil | (apply v_pure; (case hop => (apply p_assign <;> rfl)); (case hd => rfl)) | fail)
  refine v_ret _ (outsA1 rfl rfl) (by repeat (exact List.Sublist.refl _)) ?_
  exact ⟨rfl, by simpa using hg⟩
theorem placeN_lt {l : List Ent} (hr : RiseL l) {n : Int} {m : Nat} (hm : m < l.length) : m < placeN l n ↔ l[m].index < n := by
  constructor
  · intro h
    by_cases hc : l[m].index < n
    · exact hc
    · exfalso
      have := placeN_le l n
      have hle : placeN l n ≤ m := by
        have e : l = l.take m ++ l.drop m := (List.take_append_drop m l).symm
        have z : (l.drop m).countP (fun x => decide (x.index < n)) = 0 := by
          rw [List.countP_eq_zero]
          intro x hx
          obtain ⟨q, hq, rfl⟩ := List.getElem_of_mem hx
          rw [List.length_drop] at hq
          rw [List.getElem_drop]
          simp only [decide_eq_true_eq]
          by_cases h0 : q = 0
          · subst h0; exact hc
          · have := hr m (m + q) (by omega) (by omega)
            omega
        have z2 : placeN l n = (l.take m).countP (fun x => decide (x.index < n)) := by
          rw [placeN]
          conv => lhs; rw [e]
          rw [List.countP_append, z, Nat.add_zero]
        have z3 : (l.take m).countP (fun x => decide (x.index < n)) ≤ (l.take m).length := List.countP_le_length
        rw [List.length_take] at z3
        omega
      omega
  · intro h
    have e : l = l.take (m + 1) ++ l.drop (m + 1) := (List.take_append_drop (m + 1) l).symm
    have h1 : (l.take (m + 1)).countP (fun x => decide (x.index < n)) = m + 1 := by
      rw [List.countP_eq_length.2, List.length_take]
      · omega
      · intro x hx
        obtain ⟨q, hq, rfl⟩ := List.getElem_of_mem hx
        rw [List.length_take] at hq
        rw [List.getElem_take]
        simp only [decide_eq_true_eq]
        by_cases h0 : q = m
        · subst h0; exact h
        · have := hr q m hm (by omega)
          omega
    have h2 : placeN l n = m + 1 + (l.drop (m + 1)).countP (fun x => decide (x.index < n)) := by
      rw [placeN]
      conv => lhs; rw [e]
      rw [List.countP_append, h1]
    omega
theorem withL_hit {l : List Ent} {x : Ent} (h : hitB l x.index = true) : withL l x = l.set (placeN l x.index) x := by rw [withL, if_pos h]
theorem withL_no {l : List Ent} {x : Ent} (h : ¬ hitB l x.index = true) : withL l x = l.take (placeN l x.index) ++ x :: l.drop (placeN l x.index) := by rw [withL, if_neg h]
theorem withL_lo {l : List Ent} {x : Ent} {k : Nat} (hk : k ≤ placeN l x.index) : (withL l x).take k = l.take k := by
  have hp := placeN_le l x.index
  by_cases h : hitB l x.index = true
  · rw [withL_hit h, List.take_set, List.set_eq_of_length_le (by rw [List.length_take]; omega)]
  · rw [withL_no h, List.take_append_of_le_length (by rw [List.length_take]; omega), List.take_take, Nat.min_eq_left hk]
theorem withL_at (l : List Ent) (x : Ent) : (withL l x)[placeN l x.index]? = some x := by
  have hp := placeN_le l x.index
  by_cases h : hitB l x.index = true
  · rw [withL_hit h, List.getElem?_set_self (hitB_lt h)]
  · rw [withL_no h, List.getElem?_append_right (by rw [List.length_take]; omega), List.length_take, Nat.min_eq_left hp, Nat.sub_self]
    rfl
theorem withL_hi {l : List Ent} {x : Ent} {k : Nat} (hk : placeN l x.index < k) (h : hitB l x.index = true) : (withL l x)[k]? = l[k]? := by
  rw [withL_hit h, List.getElem?_set_ne (by omega)]
theorem withL_hi' {l : List Ent} {x : Ent} {k : Nat} (hk : placeN l x.index ≤ k) (h : ¬ hitB l x.index = true) : (withL l x)[k + 1]? = l[k]? := by
  have hp := placeN_le l x.index
  rw [withL_no h, List.getElem?_append_right (by rw [List.length_take]; omega), List.length_take, Nat.min_eq_left hp, show k + 1 - placeN l x.index = (k - placeN l x.index) + 1 by omega, List.getElem?_cons_succ, List.getElem?_drop, show placeN l x.index + (k - placeN l x.index) = k by omega]
theorem get_of {W l : List Ent} {a b : Nat} (h : W[a]? = l[b]?) (ha : a < W.length) : ∃ hb : b < l.length, W[a] = l[b] := by
  rw [List.getElem?_eq_getElem ha] at h
  obtain ⟨hb, e⟩ := List.getElem?_eq_some_iff.1 h.symm
  exact ⟨hb, e.symm⟩
theorem withL_lo' {l : List Ent} {x : Ent} {k : Nat} (hk : k < placeN l x.index) : (withL l x)[k]? = l[k]? := by
  have h := congrArg (·[k]?) (withL_lo (l := l) (x := x) (k := k + 1) hk)
  simpa [List.getElem?_take] using h
theorem withL_x {l : List Ent} {x : Ent} {k : Nat} (hk : k = placeN l x.index) (h : k < (withL l x).length) : (withL l x)[k] = x := by
  have h1 := withL_at l x
  rw [← hk, List.getElem?_eq_getElem h] at h1
  exact Option.some.inj h1
theorem withL_rise {l : List Ent} {x : Ent} (hr : RiseL l) : RiseL (withL l x) := by
  refine rise_of_step fun i hi h0 => ?_
  by_cases h1 : i < placeN l x.index
  · obtain ⟨ha, ea⟩ := get_of (withL_lo' h1) hi
    obtain ⟨hb, eb⟩ := get_of (withL_lo' (k := i - 1) (by omega)) (show i - 1 < (withL l x).length by omega)
    rw [ea, eb]
    exact hr _ _ ha (by omega)
  by_cases h2 : i = placeN l x.index
  · obtain ⟨hb, eb⟩ := get_of (withL_lo' (k := i - 1) (by omega)) (show i - 1 < (withL l x).length by omega)
    rw [withL_x h2 hi, eb]
    exact (placeN_lt hr hb).1 (by omega)
  by_cases hh : hitB l x.index = true
  · obtain ⟨ha, ea⟩ := get_of (withL_hi (by omega) hh) hi
    by_cases h3 : i - 1 = placeN l x.index
    · have h4 := hitB_index hh
      rw [withL_x h3 (by omega), ea, ← h4]
      exact hr _ _ ha (by omega)
    · obtain ⟨hb, eb⟩ := get_of (withL_hi (k := i - 1) (by omega) hh) (show i - 1 < (withL l x).length by omega)
      rw [ea, eb]
      exact hr _ _ ha (by omega)
  · have e0 : i = (i - 1) + 1 := by omega
    obtain ⟨ha, ea⟩ := get_of (a := i) (b := i - 1) (by have := withL_hi' (l := l) (x := x) (k := i - 1) (by omega) hh; rwa [← e0] at this) hi
    by_cases h3 : i - 1 = placeN l x.index
    · rw [withL_x h3 (by omega), ea]
      have h4 := mt (placeN_lt hr ha).2 (show ¬ i - 1 < placeN l x.index by omega)
      have h5 : l[i - 1].index ≠ x.index := fun e => hh (by rw [← e]; exact hitB_at hr ha)
      omega
    · obtain ⟨hb, eb⟩ := get_of (a := i - 1) (b := i - 2) (by have := withL_hi' (l := l) (x := x) (k := i - 2) (by omega) hh; rwa [show i - 2 + 1 = i - 1 by omega] at this) (show i - 1 < (withL l x).length by omega)
      rw [ea, eb]
      exact hr _ _ ha (by omega)
theorem withL_ok {l : List Ent} {x : Ent} (hl : ∀ y ∈ l, y.ok) (hx : x.ok) : ∀ y ∈ withL l x, y.ok := by
  intro y hy
  by_cases h : hitB l x.index = true
  · rw [withL_hit h] at hy
    rcases List.mem_or_eq_of_mem_set hy with h1 | h1
    · exact hl y h1
    · rw [h1]; exact hx
  · rw [withL_no h] at hy
    rcases List.mem_append.1 hy with h1 | h1
    · exact hl y (List.mem_of_mem_take h1)
    · rcases List.mem_cons.1 h1 with h2 | h2
      · rw [h2]; exact hx
      · exact hl y (List.mem_of_mem_drop h2)
theorem chk_all {l : List Ent} : ∀ (n k : Nat), l.length - k = n → chkK l k = 0 → ∀ i (h : i < l.length), k ≤ i → oneI l[i] = 0
  | 0, k, hn, _, i, h, hk => by omega
  | n + 1, k, hn, hc, i, h, hk => by
    have hlt : k < l.length := by omega
    rw [chkK, dif_pos hlt] at hc
    by_cases h1 : oneI l[k] ≠ 0
    · rw [if_pos h1] at hc; exact absurd hc h1
    · rw [if_neg h1] at hc
      by_cases hik : i = k
      · subst hik; exact Decidable.not_not.1 h1
      · have hnext : chkK l (k + 1) = 0 := by
          by_cases h0 : 0 < k
          · rw [dif_pos h0] at hc
            split at hc
            · cases hc
            · exact hc
          · rw [dif_neg h0] at hc; exact hc
        exact chk_all n (k + 1) (by omega) hnext i h (by omega)
def ins (x : Ent) : List Ent → List Ent
  | [] => [x]
  | y :: l => if y.index < x.index then y :: ins x l else if y.index = x.index then x :: l else x :: y :: l
theorem ins_cons (x y : Ent) (l : List Ent) : ins x (y :: l) = if y.index < x.index then y :: ins x l else if y.index = x.index then x :: l else x :: y :: l := rfl
theorem rise_pw {l : List Ent} : RiseL l ↔ l.Pairwise (fun a b => a.index < b.index) := by
  rw [List.pairwise_iff_getElem]
  exact ⟨fun h i j hi hj hij => h i j hj hij, fun h i j hj hij => h i j (by omega) hj hij⟩
theorem placeN_cons (y : Ent) (l : List Ent) (n : Int) : placeN (y :: l) n = placeN l n + (if y.index < n then 1 else 0) := by
  unfold placeN
  rw [List.countP_cons]
  simp
theorem placeN_zero {l : List Ent} {n : Int} (h : ∀ x ∈ l, n ≤ x.index) : placeN l n = 0 := by
  unfold placeN
  rw [List.countP_eq_zero]
  intro x hx
  have := h x hx
  simp; omega
theorem hitB_iff {l : List Ent} (hr : RiseL l) (n : Int) : hitB l n = true ↔ ∃ x ∈ l, x.index = n := by
  induction l with
  | nil => simp [hitB]
  | cons y l ih =>
    have hp := rise_pw.1 hr
    rw [List.pairwise_cons] at hp
    have hr' := rise_pw.2 hp.2
    have ih' := ih hr'
    by_cases hy : y.index < n
    · have e : hitB (y :: l) n = hitB l n := by
        unfold hitB
        simp only [placeN_cons, if_pos hy, List.length_cons]
        by_cases hh : placeN l n < l.length
        · rw [dif_pos (by omega), dif_pos hh]
          congr 1
        · rw [dif_neg (by omega), dif_neg hh]
      rw [e, ih']
      simp only [List.mem_cons, exists_eq_or_imp]
      constructor
      · exact .inr
      · rintro (h | h)
        · omega
        · exact h
    · have e : placeN (y :: l) n = 0 := by
        refine placeN_zero fun x hx => ?_
        rw [List.mem_cons] at hx
        obtain rfl | hx := hx
        · omega
        · have := hp.1 x hx; omega
      unfold hitB
      simp only [e, List.length_cons]
      rw [dif_pos (by omega)]
      simp only [List.getElem_cons_zero, decide_eq_true_eq, List.mem_cons, exists_eq_or_imp]
      constructor
      · exact .inl
      · rintro (h | ⟨x, hx, h⟩)
        · exact h
        · have := hp.1 x hx; omega
theorem withL_ins {l : List Ent} (hr : RiseL l) (x : Ent) : withL l x = ins x l := by
  induction l with
  | nil => simp [withL, hitB, placeN, ins]
  | cons y l ih =>
    have hp := rise_pw.1 hr
    rw [List.pairwise_cons] at hp
    have hr' := rise_pw.2 hp.2
    have ih' := ih hr'
    have hh := hitB_iff hr x.index
    have hh' := hitB_iff hr' x.index
    unfold ins
    by_cases hy : y.index < x.index
    · rw [if_pos hy, ← ih']
      have e : placeN (y :: l) x.index = placeN l x.index + 1 := by rw [placeN_cons, if_pos hy]
      have eh : hitB (y :: l) x.index = hitB l x.index := by
        rw [Bool.eq_iff_iff, hh, hh']
        simp only [List.mem_cons, exists_eq_or_imp]
        constructor
        · rintro (h | h)
          · omega
          · exact h
        · exact .inr
      unfold withL
      rw [e, eh]
      split <;> simp
    · rw [if_neg hy]
      have e : placeN (y :: l) x.index = 0 := by
        refine placeN_zero fun z hz => ?_
        rw [List.mem_cons] at hz
        obtain rfl | hz := hz
        · omega
        · have := hp.1 z hz; omega
      unfold withL
      rw [e]
      by_cases he : y.index = x.index
      · rw [if_pos he, if_pos (hh.2 ⟨y, by simp, he⟩)]
        rfl
      · rw [if_neg he, if_neg]
        · rfl
        · rw [hh]
          rintro ⟨z, hz, h⟩
          rw [List.mem_cons] at hz
          obtain rfl | hz := hz
          · exact he h
          · have := hp.1 z hz; omega
theorem mem_ins {x z : Ent} : ∀ {l : List Ent}, z ∈ ins x l → z = x ∨ z ∈ l
  | [], h => by simp [ins] at h; exact .inl h
  | y :: l, h => by
    unfold ins at h
    split at h
    · rw [List.mem_cons] at h ⊢
      obtain h | h := h
      · exact .inr (.inl h)
      · obtain h | h := mem_ins h
        · exact .inl h
        · exact .inr (.inr h)
    · split at h
      · rw [List.mem_cons] at h ⊢
        obtain h | h := h
        · exact .inl h
        · exact .inr (.inr h)
      · rw [List.mem_cons] at h
        exact h
theorem rise_ins {l : List Ent} (hr : RiseL l) (x : Ent) : RiseL (ins x l) := by
  rw [← withL_ins hr]
  exact withL_rise hr
theorem rise_filter {l : List Ent} (hr : RiseL l) (p : Ent → Bool) : RiseL (l.filter p) := rise_pw.2 ((rise_pw.1 hr).filter p)
theorem drop_filter {l : List Ent} (hr : RiseL l) (n : Int) : l.drop (placeN l (n + 1)) = l.filter (fun e => decide (n < e.index)) := by
  induction l with
  | nil => simp [placeN]
  | cons y l ih =>
    have hp := rise_pw.1 hr
    rw [List.pairwise_cons] at hp
    have ih' := ih (rise_pw.2 hp.2)
    rw [placeN_cons, List.filter_cons]
    by_cases hy : y.index < n + 1
    · rw [if_pos hy, List.drop_succ_cons, ih']
      have : ¬ n < y.index := by omega
      simp [this]
    · have hy' : n < y.index := by omega
      have e : placeN l (n + 1) = 0 := placeN_zero fun z hz => by have := hp.1 z hz; omega
      rw [if_neg hy, e]
      simp only [hy', decide_true, if_true, List.drop_zero, Nat.add_zero]
      congr 1
      symm
      rw [List.filter_eq_self]
      intro z hz
      have := hp.1 z hz
      simp; omega
def lessP (r n r' n' : Int) : Prop := r < r' ∨ (r = r' ∧ n < n')
instance (r n r' n' : Int) : Decidable (lessP r n r' n') := by unfold lessP; infer_instance
abbrev twoI (a b : Int) : Obj := .cells [.int .i64 a, .int .i64 b].toArray 3 (0, 0)
theorem cmpOr_s (G : GH) (sb : Nat) (a b : Int) : Con Tryz.prog 126 #[.slice (some ⟨sb, 0, none⟩) 2 2] G [(sb, twoI a b)] (Keeps (.int .i64 (if a ≠ 0 then a else b)) G [(sb, twoI a b)]) := by
  apply Con.keeps
  (refine v_enter Tryz.func126 rfl Tryz.ntmps126 rfl ?_; intro B _)
  repeat' (first | apply v_seq | apply v_region | apply v_nil | apply v_block | (apply v_pure; (case hop => first | (apply p_move <;> rfl) | (apply p_assign <;> rfl) | (apply p_lenSlice <;> rfl) | fail); (case hd => rfl)) | fail)
  refine v_loop [8, 7, 6, 3, 2] (fun us G' μ' => G' = G ∧ μ' = [(sb, twoI a b)] ∧ ∃ k : Nat, k ≤ 2 ∧ us = [Value.int .i64 (k : Nat), .int .i64 2, .slice (some ⟨sb, 0, none⟩) 2 2, .int .i64 0, .int .i64 0] ∧ (1 ≤ k → a = 0) ∧ (2 ≤ k → b = 0)) (fun us => 3 - (headI us).toNat) rfl ⟨rfl, rfl, 0, by omega, rfl, by omega, by omega⟩ ?_
  rintro us G' μ' ⟨rfl, rfl, k, hk, rfl, h1, h2⟩
  obtain rfl | rfl | rfl : k = 0 ∨ k = 1 ∨ k = 2 := by omega
  · repeat' (first | apply v_seq | apply v_region | apply v_nil | apply v_skip | apply v_block | apply v_blk | (apply v_pure; (case hop => first | (apply p_move <;> rfl) | (apply p_lt <;> rfl) | (apply p_ne <;> rfl) | (apply p_assign <;> rfl) | (apply p_add; (case hx => rfl); (case hy => rfl); (case h => omega)) | (apply p_indexAddr; (case hx => rfl); (case hi => rfl); (case h0 => omega); (case h => omega)) | fail); (case hd => rfl)) | (apply v_cond; (case hc => rfl); all_goals (intro h; (try simp only [reduceCtorEq, zzz] at h); first | (exfalso; omega) | skip)) | (apply v_read; (case hop => (apply r_load1; rfl; (apply Cell.own; (case h => (repeat (exact mhd _))); rfl))); (case hd => rfl)) | fail)
    · refine v_ret [(sb, _)] (outsA1 rfl rfl) (by repeat (exact List.Sublist.refl _)) ?_
      exact ⟨by rw [if_pos (by assumption)], rfl⟩
    · refine v_again rfl ⟨rfl, rfl, 1, by omega, rfl, fun _ => by omega, by omega⟩ (by simp [headI])
  · have h1 := h1 (by omega)
    repeat' (first | apply v_seq | apply v_region | apply v_nil | apply v_skip | apply v_block | apply v_blk | (apply v_pure; (case hop => first | (apply p_move <;> rfl) | (apply p_lt <;> rfl) | (apply p_ne <;> rfl) | (apply p_assign <;> rfl) | (apply p_add; (case hx => rfl); (case hy => rfl); (case h => omega)) | (apply p_indexAddr; (case hx => rfl); (case hi => rfl); (case h0 => omega); (case h => omega)) | fail); (case hd => rfl)) | (apply v_cond; (case hc => rfl); all_goals (intro h; (try simp only [reduceCtorEq, zzz] at h); first | (exfalso; omega) | skip)) | (apply v_read; (case hop => (apply r_load1; rfl; (apply Cell.own; (case h => (repeat (exact mhd _))); rfl))); (case hd => rfl)) | fail)
    · refine v_ret [(sb, _)] (outsA1 rfl rfl) (by repeat (exact List.Sublist.refl _)) ?_
      exact ⟨by rw [if_neg (by omega)], rfl⟩
    · refine v_again rfl ⟨rfl, rfl, 2, by omega, rfl, fun _ => by omega, fun _ => by omega⟩ (by simp [headI])
  · have h1 := h1 (by omega)
    have h2 := h2 (by omega)
    repeat' (first | apply v_seq | apply v_region | apply v_nil | (apply v_exit; (case hp => rfl)) | (apply v_pure; (case hop => first | (apply p_move <;> rfl) | (apply p_lt <;> rfl) | (apply p_assign <;> rfl) | fail); (case hd => rfl)) | (apply v_cond; (case hc => rfl); all_goals (intro h; (try simp only [reduceCtorEq, zzz] at h); first | (exfalso; omega) | skip)) | fail)
    refine v_ret [(sb, _)] (outsA1 rfl rfl) (by repeat (exact List.Sublist.refl _)) ?_
    exact ⟨by rw [if_neg (by omega), h2], rfl⟩
theorem less_s (G : GH) (r n r' n' : Int) : Con Tryz.prog 83 #[.agg #[.int .i64 r, .int .i64 n], .agg #[.int .i64 r', .int .i64 n']] G [] (Just (.bool (decide (lessP r n r' n'))) G) := by
  have q1 := cmp_s G r r'
  have q2 := cmp_s G n n'
  have qo := fun sb => cmpOr_s G sb (cmpI r r') (cmpI n n')
  have key : dec ((if cmpI r r' ≠ 0 then cmpI r r' else cmpI n n') < 0) = decide (lessP r n r' n') := by
    rw [dec_eq]
    congr 1
    rw [eq_iff_iff]
    have a1 := @cmpI_lt r r'
    have a2 := @cmpI_eq r r'
    have a3 := @cmpI_lt n n'
    unfold lessP
    by_cases h : cmpI r r' = 0
    · rw [if_neg (by omega)]; omega
    · rw [if_pos h]; omega
  apply Con.just
  (refine v_enter Tryz.func83 rfl Tryz.ntmps83 rfl ?_; intro B _)
  repeat' (first | apply v_seq | apply v_region | apply v_nil | (apply v_pure; (case hop => (apply p_assign <;> rfl)); (case hd => rfl)) | (apply v_box; (case hx => rfl); (case hz => rfl); (case hd => rfl); intro b) | fail)
  refine d_start _ (by kernel_rfl) (by kernel_rfl) (by kernel_rfl) (fun _ he => he) ?_
  all_goals (apply dtk 0; (case hi => rfl); (case hop => (apply prd; apply p_fieldAddrB <;> rfl)); (case hq => kernel_rfl))
  all_goals (apply dtk 1; (case hi => rfl); (case hop => first | (apply r_loadNo; (case hx => rfl); (case h => (repeat (fail))); (case hd => (repeat (fail))); (case hn => rfl)) | (apply r_load1; rfl; (apply Cell.own; (case h => (repeat (first | exact mhd _ | apply mtl))); rfl)) | (apply r_loadN; rfl; (apply CellsAt.own; (case h => (repeat (fail)))); rfl)); (case hq => kernel_rfl))
  all_goals (apply dtk 2; (case hi => rfl); (case hop => (apply prd; apply p_fieldAddrB <;> rfl)); (case hq => kernel_rfl))
  all_goals (apply dtk 3; (case hi => rfl); (case hop => first | (apply r_loadNo; (case hx => rfl); (case h => (repeat (fail))); (case hd => (repeat (fail))); (case hn => rfl)) | (apply r_load1; rfl; (apply Cell.own; (case h => (repeat (exact mhd _))); rfl)) | (apply r_loadN; rfl; (apply CellsAt.own; (case h => (repeat (fail)))); rfl)); (case hq => kernel_rfl))
  all_goals (apply dtk 5; (case hi => rfl); (case hop => (apply prd; apply p_fieldAddrB <;> rfl)); (case hq => kernel_rfl))
  all_goals (apply dtk 6; (case hi => rfl); (case hop => first | (apply r_loadNo; (case hx => rfl); (case h => (repeat (fail))); (case hd => (repeat (fail))); (case hn => rfl)) | (apply r_load1; rfl; (apply Cell.own; (case h => (repeat (first | exact mhd _ | apply mtl))); rfl)) | (apply r_loadN; rfl; (apply CellsAt.own; (case h => (repeat (fail)))); rfl)); (case hq => kernel_rfl))
  all_goals (apply dtk 7; (case hi => rfl); (case hop => (apply prd; apply p_fieldAddrB <;> rfl)); (case hq => kernel_rfl))
  all_goals (apply dtk 8; (case hi => rfl); (case hop => first | (apply r_loadNo; (case hx => rfl); (case h => (repeat (fail))); (case hd => (repeat (fail))); (case hn => rfl)) | (apply r_load1; rfl; (apply Cell.own; (case h => (repeat (exact mhd _))); rfl)) | (apply r_loadN; rfl; (apply CellsAt.own; (case h => (repeat (fail)))); rfl)); (case hq => kernel_rfl))
  all_goals (apply d_callJ 4 (hs := q1); (case hi => rfl); (case hr => kernel_rfl); (case ha => rfl); (case hd => rfl))
  all_goals (apply d_callJ 9 (hs := q2); (case hi => rfl); (case hr => kernel_rfl); (case ha => rfl); (case hd => rfl))
  all_goals (apply d_buildSlice 10; (case hi => rfl); (case hr => kernel_rfl); (case hT => infer_instance); (case hL => infer_instance); (case hz => rfl); (case hl => rfl); (case hv => (simp only [List.map_cons, List.map_nil]; repeat (first | with_reducible exact evs_nil | (apply evs_cons; (case h1 => rfl))))); (case hp => (apply pk_cons; (case hc => rfl); (case hs => rfl); (case h => (apply pk_cons; (case hc => rfl); (case hs => rfl); (case h => (with_reducible exact pk_nil)); (case he => ((repeat (first | with_reducible exact ap_nil | apply ap_cons)); done)))); (case he => ((repeat (first | with_reducible exact ap_nil | apply ap_cons)); done)))); (case hb => rfl); (case hd => rfl); (case hν => intro e he; exact he); intro sb)
  all_goals (apply d_callK 11 (hs := qo _); (case hi => rfl); (case hr => kernel_rfl); (case ha => rfl); (case hp => exact (Pick.perm (by repeat (exact Pick.here _)))); (case hd => rfl))
  all_goals (apply dtk 12; (case hi => rfl); (case hop => (apply prd; apply p_lt <;> rfl)); (case hq => kernel_rfl))
  all_goals (apply dtk 13; (case hi => rfl); (case hop => (apply prd; apply p_assign <;> rfl)); (case hq => kernel_rfl))
  all_goals (apply d_done; (case hr => kernel_rfl))
  repeat' (fail)
  refine v_ret [] (outsA1 rfl rfl) (by repeat (exact List.nil_sublist _)) ?_
  exact ⟨by rw [key], rfl⟩
structure Hd where
  pr : Int
  pn : Int
  base : Int
  image : List Int
  acc : List Ent
  cho : List Ent
def Hd.zero : Hd := ⟨0, 0, 0, [], [], []⟩
def entOf (x : Rc) : Ent := ⟨x.index, x.round, x.node, x.cmd⟩
def Hd.prom (h : Hd) (x : Rc) : Hd := if lessP h.pr h.pn x.round x.node then { h with pr := x.round, pn := x.node } else h
noncomputable def chg (h : Hd) (x : Rc) : Hd :=
  if x.kind = 1 then h.prom x
  else if x.kind = 2 then (if (h.prom x).base < x.index then { h.prom x with acc := withL (h.prom x).acc (entOf x) } else h.prom x)
  else if x.kind = 3 then (if hitB h.cho x.index = false ∧ h.base < x.index then { h with cho := withL h.cho ⟨x.index, 0, 0, x.cmd⟩ } else h)
  else if x.index ≤ h.base then h
  else { h with base := x.index, image := x.image, acc := h.acc.drop (placeN h.acc (x.index + 1)), cho := h.cho.drop (placeN h.cho (x.index + 1)) }
noncomputable def stepH (h : Hd) (x : Rc) : Hd := if chkI x = 0 then chg h x else h
noncomputable def hardOf (l : List Rc) : Hd := l.foldl stepH Hd.zero
noncomputable def r1 (h : Hd) (x : Rc) : Hd :=
  if chkI x = 0 then (if x.kind = 1 ∨ x.kind = 2 then h.prom x else if x.kind = 4 ∧ h.base < x.index then { h with base := x.index, image := x.image } else h) else h
structure Good (n : Nat) (h : Hd) : Prop where
  may : mayP h.pr h.pn
  base : 0 ≤ h.base ∧ h.base ≤ 4294967296
  img : h.image.length ≤ 32768 ∧ (0 < h.base ↔ 0 < h.image.length)
  racc : RiseL h.acc
  rcho : RiseL h.cho
  nacc : h.acc.length ≤ n
  ncho : h.cho.length ≤ n
  acc : ∀ e ∈ h.acc, oneI e = 0 ∧ e.ok ∧ h.base < e.index ∧ e.round ≠ 0 ∧ ¬ lessP h.pr h.pn e.round e.node
  cho : ∀ e ∈ h.cho, oneI e = 0 ∧ e.ok ∧ h.base < e.index ∧ e.round = 0 ∧ e.node = 0
theorem good_zero : Good 0 Hd.zero := by
  refine ⟨.inl ⟨rfl, rfl⟩, by decide, by decide, ?_, ?_, by decide, by decide, ?_, ?_⟩
  · intro i j hj; simp [Hd.zero] at hj
  · intro i j hj; simp [Hd.zero] at hj
  · intro e he; simp [Hd.zero] at he
  · intro e he; simp [Hd.zero] at he
theorem ins_len (x : Ent) : ∀ l : List Ent, (ins x l).length ≤ l.length + 1
  | [] => by simp [ins]
  | y :: l => by
    have := ins_len x l
    rw [ins_cons]
    split
    · simp; omega
    · split <;> simp
theorem Good.more {n m : Nat} {h : Hd} (g : Good n h) (hm : n ≤ m) : Good m h := ⟨g.may, g.base, g.img, g.racc, g.rcho, Nat.le_trans g.nacc hm, Nat.le_trans g.ncho hm, g.acc, g.cho⟩
theorem good_prom {n : Nat} {h : Hd} (g : Good n h) {x : Rc} (hm : mayP x.round x.node) : Good n (h.prom x) ∧ ¬ lessP (h.prom x).pr (h.prom x).pn x.round x.node := by
  unfold Hd.prom
  by_cases hl : lessP h.pr h.pn x.round x.node
  · rw [if_pos hl]
    refine ⟨⟨hm, g.base, g.img, g.racc, g.rcho, g.nacc, g.ncho, fun e he => ?_, g.cho⟩, by unfold lessP; simp only; omega⟩
    obtain ⟨h1, h2, h3, h4, h5⟩ := g.acc e he
    refine ⟨h1, h2, h3, h4, ?_⟩
    unfold lessP at hl h5 ⊢
    simp only
    omega
  · rw [if_neg hl]
    exact ⟨g, hl⟩
theorem good_chg {n : Nat} {h : Hd} (g : Good n h) {x : Rc} (hx : chkI x = 0) (hc : x.cmd.ok) : Good (n + 1) (chg h x) := by
  have h0 : recI x.kind x.round x.node x.index x.cmd x.image.length = 0 := hx
  obtain ⟨hk, hr, hi, hcc, ho⟩ := rec0 h0
  obtain ⟨hfit, hsm, him, hsz⟩ := fits0 h0
  unfold ranP at hr
  unfold chg
  by_cases k1 : x.kind = 1
  · rw [if_pos k1]
    exact (good_prom g (hr.1 (.inl k1)).1).1.more (by omega)
  rw [if_neg k1]
  by_cases k2 : x.kind = 2
  · rw [if_pos k2]
    obtain ⟨g1, hnl⟩ := good_prom g (x := x) (hr.1 (.inr k2)).1
    have hm := (hr.1 (.inr k2))
    split
    · rename_i hlt
      have hcmd := hcc (.inl k2)
      have hidx := hr.2 (.inl k2)
      have hone : oneI (entOf x) = 0 := by
        unfold oneI entOf
        rw [if_neg]
        · exact hcmd
        · rintro (hh | hh | hh)
          · simp only at hh; omega
          · simp only at hh; omega
          · exact hh hm.1
      have hok : (entOf x).ok := by
        have hw := hm.1
        unfold mayP at hw
        exact ⟨wf64 (n := x.index) (by omega), wf64 (n := x.round) (by omega), wf64 (n := x.node) (by omega), hc⟩
      rw [withL_ins g1.racc]
      refine ⟨g1.may, g1.base, g1.img, rise_ins g1.racc _, g1.rcho, Nat.le_trans (ins_len _ _) (by have := g1.nacc; omega), Nat.le_trans g1.ncho (by omega), fun e he => ?_, g1.cho⟩
      obtain rfl | he := mem_ins he
      · refine ⟨hone, hok, hlt, ?_, hnl⟩
        have hm1 := hm.1
        unfold mayP at hm1
        intro hz
        have : x.round = 0 := hz
        have hm2 := hm.2
        omega
      · exact g1.acc e he
    · exact g1.more (by omega)
  rw [if_neg k2]
  by_cases k3 : x.kind = 3
  · rw [if_pos k3]
    split
    · rename_i hcond
      have hcmd := hcc (.inr k3)
      have hidx := hr.2 (.inr (.inl k3))
      have hone : oneI ⟨x.index, 0, 0, x.cmd⟩ = 0 := by
        unfold oneI
        rw [if_neg]
        · exact hcmd
        · rintro (hh | hh | hh)
          · simp only at hh; omega
          · simp only at hh; omega
          · exact hh (.inl ⟨rfl, rfl⟩)
      have hok : (⟨x.index, 0, 0, x.cmd⟩ : Ent).ok := ⟨wf64 (n := x.index) (by omega), wf64 (n := 0) (by omega), wf64 (n := 0) (by omega), hc⟩
      rw [withL_ins g.rcho]
      refine ⟨g.may, g.base, g.img, g.racc, rise_ins g.rcho _, Nat.le_trans g.nacc (by omega), Nat.le_trans (ins_len _ _) (by have := g.ncho; omega), g.acc, fun e he => ?_⟩
      obtain rfl | he := mem_ins he
      · exact ⟨hone, hok, hcond.2, rfl, rfl⟩
      · exact g.cho e he
    · exact g.more (by omega)
  rw [if_neg k3]
  have k4 : x.kind = 4 := by omega
  have hidx := hr.2 (.inr (.inr k4))
  split
  · exact g.more (by omega)
  · rename_i hlt
    have hpos : 0 < x.image.length := by unfold othP at ho; omega
    rw [drop_filter g.racc, drop_filter g.rcho]
    refine ⟨g.may, by simp only; omega, by simp only; omega, rise_filter g.racc _, rise_filter g.rcho _, Nat.le_trans (List.length_filter_le _ _) (by have := g.nacc; omega), Nat.le_trans (List.length_filter_le _ _) (by have := g.ncho; omega), fun e he => ?_, fun e he => ?_⟩
    · obtain ⟨h1, h2⟩ := List.mem_filter.1 he
      obtain ⟨a1, a2, a3, a4, a5⟩ := g.acc e h1
      exact ⟨a1, a2, of_decide_eq_true h2, a4, a5⟩
    · obtain ⟨h1, h2⟩ := List.mem_filter.1 he
      obtain ⟨a1, a2, a3, a4, a5⟩ := g.cho e h1
      exact ⟨a1, a2, of_decide_eq_true h2, a4, a5⟩
theorem chk_of {l : List Ent} (h : ∀ x ∈ l, oneI x = 0) (hr : RiseL l) : ∀ (n k : Nat), l.length - k = n → chkK l k = 0
  | 0, k, hn => by rw [chkK, dif_neg (by omega)]
  | n + 1, k, hn => by
    have hlt : k < l.length := by omega
    rw [chkK, dif_pos hlt, if_neg (by rw [h _ (List.getElem_mem hlt)]; simp)]
    have hnext := chk_of h hr n (k + 1) (by omega)
    by_cases h0 : 0 < k
    · rw [dif_pos h0, if_neg, hnext]
      have := hr (k - 1) k hlt (by omega)
      omega
    · rw [dif_neg h0, hnext]
abbrev balO (r n : Int) : Obj := .cells [.int .i64 r, .int .i64 n].toArray 23 (0, 0)
abbrev twoB (r n r' n' : Int) : Obj := .cells [.int .i64 r, .int .i64 n, .int .i64 r', .int .i64 n'].toArray 23 (0, 0)
def maxR (r n r' n' : Int) : Int × Int := if lessP r n r' n' then (r', n') else (r, n)
theorem max_s (G : GH) (sb : Nat) (r n r' n' : Int) : Con Tryz.prog 179 #[.slice (some ⟨sb, 0, none⟩) 2 2] G [(sb, twoB r n r' n')] (Keeps (.agg #[.int .i64 (maxR r n r' n').1, .int .i64 (maxR r n r' n').2]) G [(sb, twoB r n r' n')]) := by
  have ql := less_s G r n r' n'
  apply Con.keeps
  (refine v_enter Tryz.func179 rfl Tryz.ntmps179 rfl ?_; intro B _)
  repeat' (first | apply v_seq | apply v_region | apply v_nil | apply v_block | (apply v_pure; (case hop => first | (apply p_move <;> rfl) | (apply p_lenSlice <;> rfl) | fail); (case hd => rfl)) | (apply v_alloc; (case hz => rfl); (case hd => rfl); intro b) | fail)
  rename_i ob
  rename Nat => tb
  refine v_loop [8, 7, 6, 3, 2] (fun us G' μ' => G' = G ∧ ∃ (k : Nat) (o1 o2 : Int), μ' = [(tb, balO o1 o2), (ob, balO 0 0), (sb, twoB r n r' n')] ∧ k ≤ 2 ∧ us = [Value.int .i64 (k : Nat), .int .i64 2, .slice (some ⟨sb, 0, none⟩) 2 2, .pointer (some ⟨tb, 0, none⟩), .pointer (some ⟨ob, 0, none⟩)] ∧ (k = 1 → o1 = r ∧ o2 = n) ∧ (k = 2 → o1 = (maxR r n r' n').1 ∧ o2 = (maxR r n r' n').2)) (fun us => 3 - (headI us).toNat) rfl ⟨rfl, 0, 0, 0, rfl, by omega, rfl, by omega, by omega⟩ ?_
  rintro us G' μ' ⟨rfl, k, o1, o2, rfl, hk, rfl, h1, h2⟩
  obtain rfl | rfl | rfl : k = 0 ∨ k = 1 ∨ k = 2 := by omega
  · repeat' (first | apply v_seq | apply v_region | apply v_nil | apply v_skip | apply v_block | apply v_blk | (apply v_pass; (case hg => rfl); (case hn => rfl); (case hd => rfl)) | (apply v_pure; (case hop => first | (apply p_move <;> rfl) | (apply p_eqs <;> rfl) | (apply p_lt <;> rfl) | (apply p_assign <;> rfl) | (apply p_pickT <;> rfl) | (apply p_add; (case hx => rfl); (case hy => rfl); (case h => omega)) | (apply p_indexAddr; (case hx => rfl); (case hi => rfl); (case h0 => omega); (case h => omega)) | fail); (case hd => rfl)) | (apply v_condT; (case hc => rfl)) | (apply v_cond; (case hc => rfl); all_goals (intro h; (try simp only [reduceCtorEq, zzz] at h); first | (exfalso; omega) | skip)) | (apply v_read; (case hop => (apply r_loadNo; (case hx => rfl); (case h => (repeat (first | exact mhd _ | apply mtl))); (case hd => (repeat (first | with_reducible exact dt_nil | apply dt_here))); (case hn => rfl))); (case hd => rfl)) | (apply v_alloc; (case hz => rfl); (case hd => rfl); intro b) | (apply v_store; (case hp => rfl); (case hx => rfl); (case hc => rfl); (case hsz => rfl); (case h1 => rfl); (case hb => (repeat (first | exact mhd _ | apply mtl))); (case hfit => exact nle rfl); (case hov => ((repeat (first | with_reducible exact ov_nil | apply ov_cons)); done)); (case hu => repeat (first | exact Upd.here _ _ | apply Upd.there))) | fail)
    refine v_drop (ν := [(tb, _), (ob, _), (sb, _)]) (by repeat (first | exact List.Sublist.refl _ | apply List.Sublist.cons)) ?_
    refine v_again rfl ⟨rfl, 1, r, n, rfl, by omega, rfl, fun _ => ⟨rfl, rfl⟩, by omega⟩ (by simp [headI])
  · obtain ⟨rfl, rfl⟩ := h1 rfl
    unfold maxR at *
    by_cases hl : lessP o1 o2 r' n'
    · rw [decide_eq_true hl] at ql
      rw [if_pos hl] at *
      repeat' (first | apply v_seq | apply v_region | apply v_nil | apply v_skip | apply v_block | apply v_blk | (apply v_take; (case hg => rfl)) | (apply v_pure; (case hop => first | (apply p_move <;> rfl) | (apply p_eq <;> rfl) | (apply p_lt <;> rfl) | (apply p_assign <;> rfl) | (apply p_pickF <;> rfl) | (apply p_add; (case hx => rfl); (case hy => rfl); (case h => omega)) | (apply p_indexAddr; (case hx => rfl); (case hi => rfl); (case h0 => omega); (case h => omega)) | fail); (case hd => rfl)) | (apply v_condT; (case hc => rfl)) | (apply v_cond; (case hc => rfl); all_goals (intro h; (try simp only [reduceCtorEq, zzz] at h); first | (exfalso; omega) | skip)) | (apply v_guardB; (case h1 => rfl); (case h2 => rfl); all_goals (intro h; (try simp only [reduceCtorEq, zzz] at h); first | (exfalso; omega) | skip)) | (apply v_callJ (hs := ql); (case ha => rfl); (case hd => rfl)) | (apply v_read; (case hop => (apply r_loadNo; (case hx => rfl); (case h => (repeat (first | exact mhd _ | apply mtl))); (case hd => (repeat (first | with_reducible exact dt_nil | apply dt_here))); (case hn => rfl))); (case hd => rfl)) | (apply v_alloc; (case hz => rfl); (case hd => rfl); intro b) | (apply v_store; (case hp => rfl); (case hx => rfl); (case hc => rfl); (case hsz => rfl); (case h1 => rfl); (case hb => (repeat (first | exact mhd _ | apply mtl))); (case hfit => exact nle rfl); (case hov => ((repeat (first | with_reducible exact ov_nil | apply ov_cons)); done)); (case hu => repeat (first | exact Upd.here _ _ | apply Upd.there))) | fail)
      refine v_drop (ν := [(tb, _), (ob, _), (sb, _)]) (by repeat (first | exact List.Sublist.refl _ | apply List.Sublist.cons)) ?_
      refine v_again rfl ⟨rfl, 2, r', n', rfl, by omega, rfl, by omega, fun _ => ⟨rfl, rfl⟩⟩ (by simp [headI])
    · rw [decide_eq_false hl] at ql
      rw [if_neg hl] at *
      repeat' (first | apply v_seq | apply v_region | apply v_nil | apply v_skip | apply v_block | apply v_blk | (apply v_take; (case hg => rfl)) | (apply v_pure; (case hop => first | (apply p_move <;> rfl) | (apply p_eq <;> rfl) | (apply p_lt <;> rfl) | (apply p_assign <;> rfl) | (apply p_pickF <;> rfl) | (apply p_add; (case hx => rfl); (case hy => rfl); (case h => omega)) | (apply p_indexAddr; (case hx => rfl); (case hi => rfl); (case h0 => omega); (case h => omega)) | fail); (case hd => rfl)) | (apply v_condF; (case hc => rfl)) | (apply v_cond; (case hc => rfl); all_goals (intro h; (try simp only [reduceCtorEq, zzz] at h); first | (exfalso; omega) | skip)) | (apply v_guardB; (case h1 => rfl); (case h2 => rfl); all_goals (intro h; (try simp only [reduceCtorEq, zzz] at h); first | (exfalso; omega) | skip)) | (apply v_callJ (hs := ql); (case ha => rfl); (case hd => rfl)) | (apply v_read; (case hop => (apply r_loadNo; (case hx => rfl); (case h => (repeat (first | exact mhd _ | apply mtl))); (case hd => (repeat (first | with_reducible exact dt_nil | apply dt_here))); (case hn => rfl))); (case hd => rfl)) | (apply v_alloc; (case hz => rfl); (case hd => rfl); intro b) | (apply v_store; (case hp => rfl); (case hx => rfl); (case hc => rfl); (case hsz => rfl); (case h1 => rfl); (case hb => (repeat (exact mhd _))); (case hfit => exact nle rfl); (case hov => ((repeat (first | with_reducible exact ov_nil | apply ov_cons)); done)); (case hu => repeat (exact Upd.here _ _))) | fail)
      refine v_drop (ν := [(tb, _), (ob, _), (sb, _)]) (by repeat (first | exact List.Sublist.refl _ | apply List.Sublist.cons)) ?_
      refine v_again rfl ⟨rfl, 2, o1, o2, rfl, by omega, rfl, by omega, fun _ => ⟨rfl, rfl⟩⟩ (by simp [headI])
  · obtain ⟨rfl, rfl⟩ := h2 rfl
    repeat' (first | apply v_seq | apply v_region | apply v_nil | (apply v_exit; (case hp => rfl)) | (apply v_pure; (case hop => (apply p_lt <;> rfl)); (case hd => rfl)) | (apply v_cond; (case hc => rfl); all_goals (intro h; (try simp only [reduceCtorEq, zzz] at h); first | (exfalso; omega) | skip)) | (apply v_read; (case hop => (apply r_loadNo; (case hx => rfl); (case h => (repeat (exact mhd _))); (case hd => (repeat (first | with_reducible exact dt_nil | apply dt_here))); (case hn => rfl))); (case hd => rfl)) | (apply v_store; (case hp => rfl); (case hx => rfl); (case hc => rfl); (case hsz => rfl); (case h1 => rfl); (case hb => (repeat (first | exact mhd _ | apply mtl))); (case hfit => exact nle rfl); (case hov => ((repeat (first | with_reducible exact ov_nil | apply ov_cons)); done)); (case hu => repeat (first | exact Upd.here _ _ | apply Upd.there))) | fail)
    refine v_retM [(sb, _)] (outsM_cell (vs := [.int .i64 (maxR r n r' n').1, .int .i64 (maxR r n r' n').2]) (e := 23) rfl rfl (by repeat (first | exact mhd _ | apply mtl)) rfl) (by repeat (first | exact List.Sublist.refl _ | apply List.Sublist.cons)) ?_
    exact ⟨rfl, rfl⟩
def hdL (pr pn base : Int) (iv av cv : Value) : List Value := [.int .i64 pr, .int .i64 pn, .int .i64 base, iv, av, cv]
theorem prom_max (h : Hd) (x : Rc) : h.prom x = { h with pr := (maxR h.pr h.pn x.round x.node).1, pn := (maxR h.pr h.pn x.round x.node).2 } := by
  unfold Hd.prom maxR
  split <;> rfl
theorem promise_s (G : GH) (hb : Nat) (pr pn base r n : Int) (iv av cv : Value) : Con Tryz.prog 153 #[.pointer (some ⟨hb, 0, none⟩), .agg #[.int .i64 r, .int .i64 n]] G [(hb, .cells (hdL pr pn base iv av cv).toArray 153 (0, 0))]
    (fun _ G' μ' => G' = G ∧ μ' = [(hb, .cells (hdL (maxR pr pn r n).1 (maxR pr pn r n).2 base iv av cv).toArray 153 (0, 0))]) := by
  have qm := fun sb => max_s G sb pr pn r n
  (refine v_enter Tryz.func153 rfl Tryz.ntmps153 rfl ?_; intro B _)
  repeat' (first | apply v_seq | apply v_region | apply v_nil | (apply v_box; (case hx => rfl); (case hz => rfl); (case hd => rfl); intro b) | fail)
  refine d_start [(b, balO r n)] (by kernel_rfl) (by kernel_rfl) (by kernel_rfl) (by intro e he; (simp at he; simp [he]; done)) ?_
  all_goals (apply dtk 0; (case hi => rfl); (case hop => (apply prd; apply p_move <;> rfl)); (case hq => kernel_rfl))
  all_goals (apply dtk 1; (case hi => rfl); (case hop => (apply prd; apply p_move <;> rfl)); (case hq => kernel_rfl))
  all_goals (apply dtk 2; (case hi => rfl); (case hop => (apply prd; apply p_nilCheck <;> rfl)); (case hq => kernel_rfl))
  all_goals (apply dtk 3; (case hi => rfl); (case hop => (apply prd; apply p_fieldAddrB <;> rfl)); (case hq => kernel_rfl))
  all_goals (apply dtk 4; (case hi => rfl); (case hop => (apply prd; apply p_fieldAddrB <;> rfl)); (case hq => kernel_rfl))
  all_goals (apply dtk 6; (case hi => rfl); (case hop => first | (apply r_loadNo; (case hx => rfl); (case h => (repeat (exact mhd _))); (case hd => (repeat (first | with_reducible exact dt_nil | apply dt_here))); (case hn => rfl)) | (apply r_load1; rfl; (apply Cell.own; (case h => (repeat (fail))); rfl)) | (apply r_loadN; rfl; (apply CellsAt.own; (case h => (repeat (fail)))); rfl)); (case hq => kernel_rfl))
  all_goals (apply d_keep 5 (hop := ReadOp.move ?hop); (case hi => rfl); (case hr => kernel_rfl); (case hop => (apply r_loadNo; (case hx => rfl); (case h => repeat (first | exact mhd _ | apply mtl)); (case hd => repeat (first | with_reducible exact dt_nil | apply dt_here)); (case hn => rfl))); (case hd => rfl))
  all_goals (apply d_buildSlice 7; (case hi => rfl); (case hr => kernel_rfl); (case hT => infer_instance); (case hL => infer_instance); (case hz => rfl); (case hl => rfl); (case hv => (simp only [List.map_cons, List.map_nil]; repeat (first | with_reducible exact evs_nil | (apply evs_cons; (case h1 => rfl))))); (case hp => (apply pk_cons; (case hc => rfl); (case hs => rfl); (case h => (apply pk_cons; (case hc => rfl); (case hs => rfl); (case h => (with_reducible exact pk_nil)); (case he => ((repeat (first | with_reducible exact ap_nil | apply ap_cons)); done)))); (case he => ((repeat (first | with_reducible exact ap_nil | apply ap_cons)); done)))); (case hb => rfl); (case hd => rfl); (case hν => intro e he; (simp at he; simp [he]; done)); intro sb)
  all_goals (apply d_callK 8 (hs := qm _); (case hi => rfl); (case hr => kernel_rfl); (case ha => rfl); (case hp => exact (Pick.perm (by repeat (exact Pick.here _)))); (case hd => rfl))
  all_goals (apply dtk 9; (case hi => rfl); (case hop => (apply prd; apply p_nilCheck <;> rfl)); (case hq => kernel_rfl))
  all_goals (apply dtk 10; (case hi => rfl); (case hop => (apply prd; apply p_fieldAddrB <;> rfl)); (case hq => kernel_rfl))
  all_goals (apply dtk 11; (case hi => rfl); (case hop => (apply prd; apply p_fieldAddrB <;> rfl)); (case hq => kernel_rfl))
  all_goals (apply d_store 12; (case hi => rfl); (case hr => kernel_rfl); (case hL => infer_instance); (case hp => rfl); (case hx => rfl); (case hc => rfl); (case hsz => rfl); (case h1 => rfl); (case hb => (repeat (first | exact mhd _ | apply mtl))); (case hfit => exact nle rfl); (case hov => ((repeat (first | with_reducible exact ov_nil | apply ov_cons)); done)); (case hu => repeat (first | exact Upd.here _ _ | apply Upd.there)); (case hν' => intro e he; (simp at he; simp [he]; done)))
  all_goals (apply d_done; (case hr => kernel_rfl))
  repeat' (fail)
  refine v_end [(hb, _)] (outsA0 rfl) (by repeat (first | exact List.Sublist.refl _ | apply List.Sublist.cons)) ?_
  exact ⟨rfl, rfl⟩
def HdV (G : GH) (h : Hd) (L : List Value) : Prop := ∃ iv av cv, L = hdL h.pr h.pn h.base iv av cv ∧ Sl G 1 (IntR .u8) iv h.image ∧ Es G av h.acc ∧ Es G cv h.cho
theorem esle {G G' : GH} {v : Value} {l : List Ent} (h : Es G v l) (hle : GH.le G G') : Es G' v l := Sl.le h hle fun _ _ h => h
abbrev hdO (L : List Value) : Obj := .cells L.toArray 153 (0, 0)
noncomputable def accH (h : Hd) (x : Rc) : Hd := if (h.prom x).base < x.index then { h.prom x with acc := withL (h.prom x).acc (entOf x) } else h.prom x
theorem accept_s {G : GH} {H : Hd} {L : List Value} {x : Rc} {xv : Value} {n : Nat} (hb : Nat) (hh : HdV G H L) (g : Good n H) (hn : n ≤ 200) (hx : RcV G x xv) (hok : ∀ e ∈ withL H.acc (entOf x), e.ok) :
    Con Tryz.prog 154 #[.pointer (some ⟨hb, 0, none⟩), xv] G [(hb, hdO L)] (fun _ G' μ' => ∃ L', μ' = [(hb, hdO L')] ∧ HdV G' (accH H x) L') := by
  obtain ⟨im, av, cv, rfl, hi, ha, hc⟩ := hh
  obtain ⟨A1, c1, rfl, -⟩ := id ha.open
  obtain ⟨iv, rfl, hxi⟩ := hx
  have qp := promise_s G hb H.pr H.pn H.base x.round x.node im (.slice A1 H.acc.length c1) cv
  have qw := with_s (entOf x) ha g.racc (by have := g.nacc; omega)
  have ep := prom_max H x
  unfold accH
  rw [ep]
  generalize hm : maxR H.pr H.pn x.round x.node = m at *
  (refine v_enter Tryz.func154 rfl Tryz.ntmps154 rfl ?_; intro B _)
  repeat' (first | apply v_seq | apply v_region | apply v_nil | (apply v_pure; (case hop => first | (apply p_move <;> rfl) | (apply p_fieldAddrB <;> rfl) | fail); (case hd => rfl)) | (apply v_box (zs := recL x.kind x.round x.node x.index x.cmd iv); (case hx => rfl); (case hz => rfl); (case hd => rfl); intro xb) | (apply v_read; (case hop => (apply r_loadNo; (case hx => rfl); (case h => (repeat (exact mhd _))); (case hd => (repeat (first | with_reducible exact dt_nil | apply dt_here))); (case hn => rfl))); (case hd => rfl)) | fail)
  refine v_call (μ1 := [(hb, _)]) (μ2 := _) rfl qp (PickA.perm (by repeat (first | exact PickA.last | apply PickA.cons))) rfl ?_
  rintro _ _ _ - ⟨rfl, rfl⟩
  repeat' (first | apply v_seq | apply v_nil)
  refine d_start _ (by kernel_rfl) (by kernel_rfl) (by kernel_rfl) (fun _ he => he) ?_
  all_goals (apply dtk 0; (case hi => rfl); (case hop => (apply prd; apply p_fieldAddrB <;> rfl)); (case hq => kernel_rfl))
  all_goals (apply dtk 1; (case hi => rfl); (case hop => first | (apply r_loadNo; (case hx => rfl); (case h => (repeat (fail))); (case hd => (repeat (fail))); (case hn => rfl)) | (apply r_load1; rfl; (apply Cell.own; (case h => (repeat (first | exact mhd _ | apply mtl))); rfl)) | (apply r_loadN; rfl; (apply CellsAt.own; (case h => (repeat (fail)))); rfl)); (case hq => kernel_rfl))
  all_goals (apply dtk 2; (case hi => rfl); (case hop => (apply prd; apply p_move <;> rfl)); (case hq => kernel_rfl))
  all_goals (apply dtk 3; (case hi => rfl); (case hop => (apply prd; apply p_nilCheck <;> rfl)); (case hq => kernel_rfl))
  all_goals (apply dtk 4; (case hi => rfl); (case hop => (apply prd; apply p_fieldAddrB <;> rfl)); (case hq => kernel_rfl))
  all_goals (apply dtk 5; (case hi => rfl); (case hop => (apply prd; apply p_fieldAddrB <;> rfl)); (case hq => kernel_rfl))
  all_goals (apply dtk 6; (case hi => rfl); (case hop => first | (apply r_loadNo; (case hx => rfl); (case h => (repeat (fail))); (case hd => (repeat (fail))); (case hn => rfl)) | (apply r_load1; rfl; (apply Cell.own; (case h => (repeat (exact mhd _))); rfl)) | (apply r_loadN; rfl; (apply CellsAt.own; (case h => (repeat (fail)))); rfl)); (case hq => kernel_rfl))
  all_goals (apply dtk 7; (case hi => rfl); (case hop => (apply prd; apply p_gt <;> rfl)); (case hq => kernel_rfl))
  all_goals (apply d_done; (case hr => kernel_rfl))
  repeat' (first | apply v_skip | (apply v_cond; (case hc => rfl); all_goals (intro h; (try simp only [reduceCtorEq, zzz] at h))) | fail)
  · have hlt := h
    refine d_start [(xb, .cells (recL x.kind x.round x.node x.index x.cmd iv).toArray 42 (0, 0))] (by kernel_rfl) (by kernel_rfl) (by kernel_rfl) (by intro e he; (simp at he; simp [he]; done)) ?_
    all_goals (apply dtk 0; (case hi => rfl); (case hop => (apply prd; apply p_move <;> rfl)); (case hq => kernel_rfl))
    all_goals (apply dtk 1; (case hi => rfl); (case hop => (apply prd; apply p_move <;> rfl)); (case hq => kernel_rfl))
    all_goals (apply dtk 2; (case hi => rfl); (case hop => (apply prd; apply p_nilCheck <;> rfl)); (case hq => kernel_rfl))
    all_goals (apply dtk 3; (case hi => rfl); (case hop => (apply prd; apply p_fieldAddrB <;> rfl)); (case hq => kernel_rfl))
    all_goals (apply dtk 4; (case hi => rfl); (case hop => (apply prd; apply p_fieldAddrB <;> rfl)); (case hq => kernel_rfl))
    all_goals (apply dtk 6; (case hi => rfl); (case hop => (apply prd; apply p_fieldAddrB <;> rfl)); (case hq => kernel_rfl))
    all_goals (apply dtk 7; (case hi => rfl); (case hop => first | (apply r_loadNo; (case hx => rfl); (case h => (repeat (fail))); (case hd => (repeat (fail))); (case hn => rfl)) | (apply r_load1; rfl; (apply Cell.own; (case h => (repeat (exact mhd _))); rfl)) | (apply r_loadN; rfl; (apply CellsAt.own; (case h => (repeat (fail)))); rfl)); (case hq => kernel_rfl))
    all_goals (apply dtk 8; (case hi => rfl); (case hop => (apply prd; apply p_fieldAddrB <;> rfl)); (case hq => kernel_rfl))
    all_goals (apply dtk 9; (case hi => rfl); (case hop => first | (apply r_loadNo; (case hx => rfl); (case h => (repeat (exact mhd _))); (case hd => (repeat (first | with_reducible exact dt_nil | apply dt_here))); (case hn => rfl)) | (apply r_load1; rfl; (apply Cell.own; (case h => (repeat (fail))); rfl)) | (apply r_loadN; rfl; (apply CellsAt.own; (case h => (repeat (fail)))); rfl)); (case hq => kernel_rfl))
    all_goals (apply dtk 10; (case hi => rfl); (case hop => (apply prd; apply p_fieldAddrB <;> rfl)); (case hq => kernel_rfl))
    all_goals (apply dtk 11; (case hi => rfl); (case hop => first | (apply r_loadNo; (case hx => rfl); (case h => (repeat (exact mhd _))); (case hd => (repeat (first | with_reducible exact dt_nil | apply dt_here))); (case hn => rfl)) | (apply r_load1; rfl; (apply Cell.own; (case h => (repeat (fail))); rfl)) | (apply r_loadN; rfl; (apply CellsAt.own; (case h => (repeat (fail)))); rfl)); (case hq => kernel_rfl))
    all_goals (apply dtk 12; (case hi => rfl); (case hop => (apply prd; apply p_build; (case hz => rfl); (case hv => (simp only [List.map_cons, List.map_nil]; repeat (first | with_reducible exact evs_nil | (apply evs_cons; (case h1 => rfl))))); (case hb => (apply bldL; repeat (first | exact bld_nil | (apply bld_cons; (case hpf => rfl); (case hc => rfl); (case hs => rfl); (case hl => rfl); (case ho => ((repeat (first | with_reducible exact ov_nil | apply ov_cons)); done)))))))); (case hq => kernel_rfl))
    all_goals (apply d_keep 5 (hop := ReadOp.move ?hop); (case hi => rfl); (case hr => kernel_rfl); (case hop => (apply r_load1; rfl; (apply Cell.own; (case h => repeat (exact mhd _)); rfl))); (case hd => rfl))
    all_goals ((apply d_call 13 (hs := qw); (case hi => rfl); (case hr => kernel_rfl);  (case ha => rfl); (case hp => exact List.Perm.refl _); (case hd => rfl); (case hν' => intro e he; simp at he; simp [he]); rintro r1 G1 ν1 - ⟨rfl, hg1⟩; obtain ⟨A2, c2, rfl, -, -⟩ := hg1.shape))
    all_goals (apply dtk 14; (case hi => rfl); (case hop => (apply prd; apply p_nilCheck <;> rfl)); (case hq => kernel_rfl))
    all_goals (apply dtk 15; (case hi => rfl); (case hop => (apply prd; apply p_fieldAddrB <;> rfl)); (case hq => kernel_rfl))
    all_goals (apply dtk 16; (case hi => rfl); (case hop => (apply prd; apply p_fieldAddrB <;> rfl)); (case hq => kernel_rfl))
    all_goals (apply d_store 17; (case hi => rfl); (case hr => kernel_rfl); (case hL => infer_instance); (case hp => rfl); (case hx => rfl); (case hc => rfl); (case hsz => rfl); (case h1 => rfl); (case hb => (repeat (first | exact mhd _ | apply List.mem_append_right))); (case hfit => exact nle rfl); (case hov => ((repeat (first | with_reducible exact ov_nil | apply ov_cons)); done)); (case hu => repeat (first | exact Upd.here _ _ | apply Upd.app)); (case hν' => intro e he; (simp at he; simp [he]; done)))
    all_goals (apply d_done; (case hr => kernel_rfl))
    repeat' (fail)
    refine v_frz ν1 (by repeat (exact PickA.here _)) ?_
    intro G2 hle2 hG2
    refine v_end [(hb, _)] (outsA0 rfl) (by repeat (first | exact List.nil_sublist _ | apply List.Sublist.cons_cons)) ?_
    rw [if_pos hlt]
    exact ⟨_, rfl, _, _, _, rfl, hi.mono hle2, es_of_grow hg1 hG2 hok, esle hc hle2⟩
  · have hlt := h
    refine v_end [(hb, _)] (outsA0 rfl) (by repeat (first | exact List.nil_sublist _ | apply List.Sublist.cons_cons)) ?_
    rw [if_neg hlt]
    exact ⟨_, rfl, _, _, _, rfl, hi, ha, hc⟩
noncomputable def choH (h : Hd) (x : Rc) : Hd := if hitB h.cho x.index = false ∧ h.base < x.index then { h with cho := withL h.cho ⟨x.index, 0, 0, x.cmd⟩ } else h
theorem choose_s {G : GH} {H : Hd} {L : List Value} {x : Rc} {xv : Value} {n : Nat} (hb : Nat) (hh : HdV G H L) (g : Good n H) (hn : n ≤ 200) (hx : RcV G x xv) (hok : ∀ e ∈ withL H.cho ⟨x.index, 0, 0, x.cmd⟩, e.ok) :
    Con Tryz.prog 155 #[.pointer (some ⟨hb, 0, none⟩), xv] G [(hb, hdO L)] (fun _ G' μ' => ∃ L', μ' = [(hb, hdO L')] ∧ HdV G' (choH H x) L') := by
  obtain ⟨im, av, cv, rfl, hi, ha, hc⟩ := hh
  obtain ⟨A1, c1, rfl, -⟩ := id hc.open
  obtain ⟨iv, rfl, hxi⟩ := hx
  have qf := find_s x.index hc g.rcho
  have qw := with_s ⟨x.index, 0, 0, x.cmd⟩ hc g.rcho (by have := g.ncho; omega)
  generalize findE H.cho x.index = fe at *
  unfold choH
  cases hbit : hitB H.cho x.index
  all_goals
    rw [hbit] at qf
  · (refine v_enter Tryz.func155 rfl Tryz.ntmps155 rfl ?_; intro B _)
    repeat' (first | apply v_seq | apply v_region | apply v_nil | (apply v_box (zs := recL x.kind x.round x.node x.index x.cmd iv); (case hx => rfl); (case hz => rfl); (case hd => rfl); intro xb) | fail)
    refine d_start _ (by kernel_rfl) (by kernel_rfl) (by kernel_rfl) (fun _ he => he) ?_
    all_goals (apply dtk 0; (case hi => rfl); (case hop => (apply prd; apply p_move <;> rfl)); (case hq => kernel_rfl))
    all_goals (apply dtk 1; (case hi => rfl); (case hop => (apply prd; apply p_nilCheck <;> rfl)); (case hq => kernel_rfl))
    all_goals (apply dtk 2; (case hi => rfl); (case hop => (apply prd; apply p_fieldAddrB <;> rfl)); (case hq => kernel_rfl))
    all_goals (apply dtk 3; (case hi => rfl); (case hop => (apply prd; apply p_fieldAddrB <;> rfl)); (case hq => kernel_rfl))
    all_goals (apply dtk 4; (case hi => rfl); (case hop => first | (apply r_loadNo; (case hx => rfl); (case h => (repeat (fail))); (case hd => (repeat (fail))); (case hn => rfl)) | (apply r_load1; rfl; (apply Cell.own; (case h => (repeat (first | exact mhd _ | apply mtl))); rfl)) | (apply r_loadN; rfl; (apply CellsAt.own; (case h => (repeat (fail)))); rfl)); (case hq => kernel_rfl))
    all_goals (apply dtk 5; (case hi => rfl); (case hop => (apply prd; apply p_fieldAddrB <;> rfl)); (case hq => kernel_rfl))
    all_goals (apply dtk 6; (case hi => rfl); (case hop => first | (apply r_loadNo; (case hx => rfl); (case h => (repeat (fail))); (case hd => (repeat (fail))); (case hn => rfl)) | (apply r_load1; rfl; (apply Cell.own; (case h => (repeat (exact mhd _))); rfl)) | (apply r_loadN; rfl; (apply CellsAt.own; (case h => (repeat (fail)))); rfl)); (case hq => kernel_rfl))
    focus
      refine d_fork 7 11 (by kernel_rfl) ?_ ?_
      rotate_right
      focus
        (apply x_exec 11; (case hi => rfl); (case hop => exact m_alloc rfl); (case hd => rfl); rintro _ _ _ ⟨eb, rfl, rfl, rfl⟩; refine ⟨(by intro e he; (simp at he; simp [he]; done)), ?_⟩)
        all_goals (apply d_callJ 7 (hs := qf); (case hi => rfl); (case hr => kernel_rfl); (case ha => rfl); (case hd => rfl))
        all_goals (apply dtk 8; (case hi => rfl); (case hop => (apply prd; apply p_move <;> rfl)); (case hq => kernel_rfl))
        all_goals (apply dtk 9; (case hi => rfl); (case hop => (apply prd; apply p_extract0 <;> rfl)); (case hq => kernel_rfl))
        all_goals (apply dtk 10; (case hi => rfl); (case hop => (apply prd; apply p_extract1 <;> rfl)); (case hq => kernel_rfl))
        all_goals (apply d_store 12; (case hi => rfl); (case hr => kernel_rfl); (case hL => infer_instance); (case hp => rfl); (case hx => rfl); (case hc => rfl); (case hsz => rfl); (case h1 => rfl); (case hb => (repeat (exact mhd _))); (case hfit => exact nle rfl); (case hov => ((repeat (first | with_reducible exact ov_nil | apply ov_cons)); done)); (case hu => repeat (exact Upd.here _ _)); (case hν' => intro e he; (simp at he; simp [he]; done)))
        all_goals (apply dtk 13; (case hi => rfl); (case hop => (apply prd; apply p_assign <;> rfl)); (case hq => kernel_rfl))
        all_goals (apply d_done; (case hr => kernel_rfl))
      rotate_right
      focus
        (apply x_exec 7; (case hi => rfl); (case hop => apply m_callFJ (hs := qf) <;> rfl); (case hd => rfl); rintro _ _ _ ⟨rfl, rfl, rfl⟩; refine ⟨(by intro e he; exact he), ?_⟩)
        all_goals (apply dtk 8; (case hi => rfl); (case hop => (apply prd; apply p_move <;> rfl)); (case hq => kernel_rfl))
        all_goals (apply dtk 9; (case hi => rfl); (case hop => (apply prd; apply p_extract0 <;> rfl)); (case hq => kernel_rfl))
        all_goals (apply dtk 10; (case hi => rfl); (case hop => (apply prd; apply p_extract1 <;> rfl)); (case hq => kernel_rfl))
        all_goals (apply d_exec 11; (case hi => rfl); (case hr => kernel_rfl); (case hop => exact m_alloc rfl); (case hd => rfl); rintro _ _ _ ⟨eb, rfl, rfl, rfl⟩; refine ⟨(by intro e he; (simp at he; simp [he]; done)), ?_⟩)
        all_goals (apply d_store 12; (case hi => rfl); (case hr => kernel_rfl); (case hL => infer_instance); (case hp => rfl); (case hx => rfl); (case hc => rfl); (case hsz => rfl); (case h1 => rfl); (case hb => (repeat (exact mhd _))); (case hfit => exact nle rfl); (case hov => ((repeat (first | with_reducible exact ov_nil | apply ov_cons)); done)); (case hu => repeat (exact Upd.here _ _)); (case hν' => intro e he; (simp at he; simp [he]; done)))
        all_goals (apply dtk 13; (case hi => rfl); (case hop => (apply prd; apply p_assign <;> rfl)); (case hq => kernel_rfl))
        all_goals (apply d_done; (case hr => kernel_rfl))
    all_goals
      repeat' (first | apply v_seq)
    all_goals
      refine d_start _ (by kernel_rfl) (by kernel_rfl) (by kernel_rfl) (fun _ he => he) ?_
      all_goals (apply dtk 0; (case hi => rfl); (case hop => (apply prd; apply p_move <;> rfl)); (case hq => kernel_rfl))
      all_goals (apply dtk 1; (case hi => rfl); (case hop => (apply prd; apply p_not <;> rfl)); (case hq => kernel_rfl))
      all_goals (apply dtk 2; (case hi => rfl); (case hop => (apply prd; apply p_move <;> rfl)); (case hq => kernel_rfl))
      all_goals (try (apply d_guardB 3; (case hi => rfl); (case hgd => rfl); (case h1 => rfl); (case h2 => rfl); all_goals (intro h; (try simp only [reduceCtorEq, zzz] at h))))
      all_goals (apply dtg 3; (case hi => rfl); (case hg => rfl); (case hop => (apply prd; apply p_fieldAddrB <;> rfl)); (case hq => kernel_rfl))
      all_goals (try (apply d_guardB 4; (case hi => rfl); (case hgd => rfl); (case h1 => rfl); (case h2 => rfl); all_goals (intro h; (try simp only [reduceCtorEq, zzz] at h))))
      all_goals (apply dtg 4; (case hi => rfl); (case hg => rfl); (case hop => first | (apply r_loadNo; (case hx => rfl); (case h => (repeat (fail))); (case hd => (repeat (fail))); (case hn => rfl)) | (apply r_load1; rfl; (apply Cell.own; (case h => (repeat (first | exact mhd _ | apply mtl))); rfl)) | (apply r_loadN; rfl; (apply CellsAt.own; (case h => (repeat (fail)))); rfl)); (case hq => kernel_rfl))
      all_goals (try (apply d_guardB 5; (case hi => rfl); (case hgd => rfl); (case h1 => rfl); (case h2 => rfl); all_goals (intro h; (try simp only [reduceCtorEq, zzz] at h))))
      all_goals (apply dtg 5; (case hi => rfl); (case hg => rfl); (case hop => (apply prd; apply p_move <;> rfl)); (case hq => kernel_rfl))
      all_goals (try (apply d_guardB 6; (case hi => rfl); (case hgd => rfl); (case h1 => rfl); (case h2 => rfl); all_goals (intro h; (try simp only [reduceCtorEq, zzz] at h))))
      all_goals (apply dtg 6; (case hi => rfl); (case hg => rfl); (case hop => (apply prd; apply p_nilCheck <;> rfl)); (case hq => kernel_rfl))
      all_goals (try (apply d_guardB 7; (case hi => rfl); (case hgd => rfl); (case h1 => rfl); (case h2 => rfl); all_goals (intro h; (try simp only [reduceCtorEq, zzz] at h))))
      all_goals (apply dtg 7; (case hi => rfl); (case hg => rfl); (case hop => (apply prd; apply p_fieldAddrB <;> rfl)); (case hq => kernel_rfl))
      all_goals (try (apply d_guardB 8; (case hi => rfl); (case hgd => rfl); (case h1 => rfl); (case h2 => rfl); all_goals (intro h; (try simp only [reduceCtorEq, zzz] at h))))
      all_goals (apply dtg 8; (case hi => rfl); (case hg => rfl); (case hop => (apply prd; apply p_fieldAddrB <;> rfl)); (case hq => kernel_rfl))
      all_goals (try (apply d_guardB 9; (case hi => rfl); (case hgd => rfl); (case h1 => rfl); (case h2 => rfl); all_goals (intro h; (try simp only [reduceCtorEq, zzz] at h))))
      all_goals (apply dtg 9; (case hi => rfl); (case hg => rfl); (case hop => first | (apply r_loadNo; (case hx => rfl); (case h => (repeat (fail))); (case hd => (repeat (fail))); (case hn => rfl)) | (apply r_load1; rfl; (apply Cell.own; (case h => (repeat (first | exact mhd _ | apply mtl))); rfl)) | (apply r_loadN; rfl; (apply CellsAt.own; (case h => (repeat (fail)))); rfl)); (case hq => kernel_rfl))
      all_goals (try (apply d_guardB 10; (case hi => rfl); (case hgd => rfl); (case h1 => rfl); (case h2 => rfl); all_goals (intro h; (try simp only [reduceCtorEq, zzz] at h))))
      all_goals (apply dtg 10; (case hi => rfl); (case hg => rfl); (case hop => (apply prd; apply p_gt <;> rfl)); (case hq => kernel_rfl))
      all_goals (apply dtk 11; (case hi => rfl); (case hop => (apply prd; apply p_pickT <;> rfl)); (case hq => kernel_rfl))
      all_goals (apply d_done; (case hr => kernel_rfl))
    all_goals
      repeat' (first | apply v_skip | (apply v_cond; (case hc => rfl); all_goals (intro h; (try simp only [reduceCtorEq, zzz] at h))) | fail)
    · have hlt := h
      refine d_start [(xb, .cells (recL x.kind x.round x.node x.index x.cmd iv).toArray 42 (0, 0))] (by kernel_rfl) (by kernel_rfl) (by kernel_rfl) (by intro e he; (simp at he; simp [he]; done)) ?_
      all_goals (apply dtk 0; (case hi => rfl); (case hop => (apply prd; apply p_move <;> rfl)); (case hq => kernel_rfl))
      all_goals (apply dtk 1; (case hi => rfl); (case hop => (apply prd; apply p_move <;> rfl)); (case hq => kernel_rfl))
      all_goals (apply dtk 2; (case hi => rfl); (case hop => (apply prd; apply p_nilCheck <;> rfl)); (case hq => kernel_rfl))
      all_goals (apply dtk 3; (case hi => rfl); (case hop => (apply prd; apply p_fieldAddrB <;> rfl)); (case hq => kernel_rfl))
      all_goals (apply dtk 4; (case hi => rfl); (case hop => (apply prd; apply p_fieldAddrB <;> rfl)); (case hq => kernel_rfl))
      all_goals (apply dtk 6; (case hi => rfl); (case hop => (apply prd; apply p_fieldAddrB <;> rfl)); (case hq => kernel_rfl))
      all_goals (apply dtk 7; (case hi => rfl); (case hop => first | (apply r_loadNo; (case hx => rfl); (case h => (repeat (fail))); (case hd => (repeat (fail))); (case hn => rfl)) | (apply r_load1; rfl; (apply Cell.own; (case h => (repeat (exact mhd _))); rfl)) | (apply r_loadN; rfl; (apply CellsAt.own; (case h => (repeat (fail)))); rfl)); (case hq => kernel_rfl))
      all_goals (apply dtk 8; (case hi => rfl); (case hop => (apply prd; apply p_fieldAddrB <;> rfl)); (case hq => kernel_rfl))
      all_goals (apply dtk 9; (case hi => rfl); (case hop => first | (apply r_loadNo; (case hx => rfl); (case h => (repeat (exact mhd _))); (case hd => (repeat (first | with_reducible exact dt_nil | apply dt_here))); (case hn => rfl)) | (apply r_load1; rfl; (apply Cell.own; (case h => (repeat (fail))); rfl)) | (apply r_loadN; rfl; (apply CellsAt.own; (case h => (repeat (fail)))); rfl)); (case hq => kernel_rfl))
      all_goals (apply dtk 10; (case hi => rfl); (case hop => (apply prd; apply p_build; (case hz => rfl); (case hv => (simp only [List.map_cons, List.map_nil]; repeat (first | with_reducible exact evs_nil | (apply evs_cons; (case h1 => rfl))))); (case hb => (apply bldL; repeat (first | exact bld_nil | (apply bld_cons; (case hpf => rfl); (case hc => rfl); (case hs => rfl); (case hl => rfl); (case ho => ((repeat (first | with_reducible exact ov_nil | apply ov_cons)); done)))))))); (case hq => kernel_rfl))
      all_goals (apply d_keep 5 (hop := ReadOp.move ?hop); (case hi => rfl); (case hr => kernel_rfl); (case hop => (apply r_load1; rfl; (apply Cell.own; (case h => repeat (first | exact mhd _ | apply mtl)); rfl))); (case hd => rfl))
      all_goals ((apply d_call 11 (hs := qw); (case hi => rfl); (case hr => kernel_rfl);  (case ha => rfl); (case hp => exact List.Perm.refl _); (case hd => rfl); (case hν' => intro e he; simp at he; simp [he]); rintro r1 G1 ν1 - ⟨rfl, hg1⟩; obtain ⟨A2, c2, rfl, -, -⟩ := hg1.shape))
      all_goals (apply dtk 12; (case hi => rfl); (case hop => (apply prd; apply p_nilCheck <;> rfl)); (case hq => kernel_rfl))
      all_goals (apply dtk 13; (case hi => rfl); (case hop => (apply prd; apply p_fieldAddrB <;> rfl)); (case hq => kernel_rfl))
      all_goals (apply dtk 14; (case hi => rfl); (case hop => (apply prd; apply p_fieldAddrB <;> rfl)); (case hq => kernel_rfl))
      all_goals (apply d_store 15; (case hi => rfl); (case hr => kernel_rfl); (case hL => infer_instance); (case hp => rfl); (case hx => rfl); (case hc => rfl); (case hsz => rfl); (case h1 => rfl); (case hb => (repeat (first | exact mhd _ | apply mtl | apply List.mem_append_right))); (case hfit => exact nle rfl); (case hov => ((repeat (first | with_reducible exact ov_nil | apply ov_cons)); done)); (case hu => repeat (first | exact Upd.here _ _ | apply Upd.there | apply Upd.app)); (case hν' => intro e he; (simp at he; simp [he]; done)))
      all_goals (apply d_done; (case hr => kernel_rfl))
      repeat' (fail)
      refine v_frz ν1 (by repeat (exact PickA.here _)) ?_
      intro G2 hle2 hG2
      refine v_end [(hb, _)] (outsA0 rfl) (by repeat (first | exact List.Sublist.refl _ | apply List.Sublist.cons)) ?_
      rw [if_pos ⟨rfl, hlt⟩]
      exact ⟨_, rfl, _, _, _, rfl, hi.mono hle2, esle ha hle2, es_of_grow hg1 hG2 hok⟩
    · have hlt := h
      refine v_end [(hb, _)] (outsA0 rfl) (by repeat (first | exact List.Sublist.refl _ | apply List.Sublist.cons)) ?_
      rw [if_neg fun hh => hlt hh.2]
      exact ⟨_, rfl, _, _, _, rfl, hi, ha, hc⟩
    · have hlt := h
      refine d_start [(xb, .cells (recL x.kind x.round x.node x.index x.cmd iv).toArray 42 (0, 0))] (by kernel_rfl) (by kernel_rfl) (by kernel_rfl) (by intro e he; (simp at he; simp [he]; done)) ?_
      all_goals (apply dtk 0; (case hi => rfl); (case hop => (apply prd; apply p_move <;> rfl)); (case hq => kernel_rfl))
      all_goals (apply dtk 1; (case hi => rfl); (case hop => (apply prd; apply p_move <;> rfl)); (case hq => kernel_rfl))
      all_goals (apply dtk 2; (case hi => rfl); (case hop => (apply prd; apply p_nilCheck <;> rfl)); (case hq => kernel_rfl))
      all_goals (apply dtk 3; (case hi => rfl); (case hop => (apply prd; apply p_fieldAddrB <;> rfl)); (case hq => kernel_rfl))
      all_goals (apply dtk 4; (case hi => rfl); (case hop => (apply prd; apply p_fieldAddrB <;> rfl)); (case hq => kernel_rfl))
      all_goals (apply dtk 6; (case hi => rfl); (case hop => (apply prd; apply p_fieldAddrB <;> rfl)); (case hq => kernel_rfl))
      all_goals (apply dtk 7; (case hi => rfl); (case hop => first | (apply r_loadNo; (case hx => rfl); (case h => (repeat (fail))); (case hd => (repeat (fail))); (case hn => rfl)) | (apply r_load1; rfl; (apply Cell.own; (case h => (repeat (exact mhd _))); rfl)) | (apply r_loadN; rfl; (apply CellsAt.own; (case h => (repeat (fail)))); rfl)); (case hq => kernel_rfl))
      all_goals (apply dtk 8; (case hi => rfl); (case hop => (apply prd; apply p_fieldAddrB <;> rfl)); (case hq => kernel_rfl))
      all_goals (apply dtk 9; (case hi => rfl); (case hop => first | (apply r_loadNo; (case hx => rfl); (case h => (repeat (exact mhd _))); (case hd => (repeat (first | with_reducible exact dt_nil | apply dt_here))); (case hn => rfl)) | (apply r_load1; rfl; (apply Cell.own; (case h => (repeat (fail))); rfl)) | (apply r_loadN; rfl; (apply CellsAt.own; (case h => (repeat (fail)))); rfl)); (case hq => kernel_rfl))
      all_goals (apply dtk 10; (case hi => rfl); (case hop => (apply prd; apply p_build; (case hz => rfl); (case hv => (simp only [List.map_cons, List.map_nil]; repeat (first | with_reducible exact evs_nil | (apply evs_cons; (case h1 => rfl))))); (case hb => (apply bldL; repeat (first | exact bld_nil | (apply bld_cons; (case hpf => rfl); (case hc => rfl); (case hs => rfl); (case hl => rfl); (case ho => ((repeat (first | with_reducible exact ov_nil | apply ov_cons)); done)))))))); (case hq => kernel_rfl))
      all_goals (apply d_keep 5 (hop := ReadOp.move ?hop); (case hi => rfl); (case hr => kernel_rfl); (case hop => (apply r_load1; rfl; (apply Cell.own; (case h => repeat (first | exact mhd _ | apply mtl)); rfl))); (case hd => rfl))
      all_goals ((apply d_call 11 (hs := qw); (case hi => rfl); (case hr => kernel_rfl);  (case ha => rfl); (case hp => exact List.Perm.refl _); (case hd => rfl); (case hν' => intro e he; simp at he; simp [he]); rintro r1 G1 ν1 - ⟨rfl, hg1⟩; obtain ⟨A2, c2, rfl, -, -⟩ := hg1.shape))
      all_goals (apply dtk 12; (case hi => rfl); (case hop => (apply prd; apply p_nilCheck <;> rfl)); (case hq => kernel_rfl))
      all_goals (apply dtk 13; (case hi => rfl); (case hop => (apply prd; apply p_fieldAddrB <;> rfl)); (case hq => kernel_rfl))
      all_goals (apply dtk 14; (case hi => rfl); (case hop => (apply prd; apply p_fieldAddrB <;> rfl)); (case hq => kernel_rfl))
      all_goals (apply d_store 15; (case hi => rfl); (case hr => kernel_rfl); (case hL => infer_instance); (case hp => rfl); (case hx => rfl); (case hc => rfl); (case hsz => rfl); (case h1 => rfl); (case hb => (repeat (first | exact mhd _ | apply mtl | apply List.mem_append_right))); (case hfit => exact nle rfl); (case hov => ((repeat (first | with_reducible exact ov_nil | apply ov_cons)); done)); (case hu => repeat (first | exact Upd.here _ _ | apply Upd.there | apply Upd.app)); (case hν' => intro e he; (simp at he; simp [he]; done)))
      all_goals (apply d_done; (case hr => kernel_rfl))
      repeat' (fail)
      refine v_frz ν1 (by repeat (exact PickA.here _)) ?_
      intro G2 hle2 hG2
      refine v_end [(hb, _)] (outsA0 rfl) (by repeat (first | exact List.Sublist.refl _ | apply List.Sublist.cons)) ?_
      rw [if_pos ⟨rfl, hlt⟩]
      exact ⟨_, rfl, _, _, _, rfl, hi.mono hle2, esle ha hle2, es_of_grow hg1 hG2 hok⟩
    · have hlt := h
      refine v_end [(hb, _)] (outsA0 rfl) (by repeat (first | exact List.Sublist.refl _ | apply List.Sublist.cons)) ?_
      rw [if_neg fun hh => hlt hh.2]
      exact ⟨_, rfl, _, _, _, rfl, hi, ha, hc⟩
  · (refine v_enter Tryz.func155 rfl Tryz.ntmps155 rfl ?_; intro B _)
    repeat' (first | apply v_seq | apply v_region | apply v_nil | (apply v_box (zs := recL x.kind x.round x.node x.index x.cmd iv); (case hx => rfl); (case hz => rfl); (case hd => rfl); intro xb) | fail)
    refine d_start _ (by kernel_rfl) (by kernel_rfl) (by kernel_rfl) (fun _ he => he) ?_
    all_goals (apply dtk 0; (case hi => rfl); (case hop => (apply prd; apply p_move <;> rfl)); (case hq => kernel_rfl))
    all_goals (apply dtk 1; (case hi => rfl); (case hop => (apply prd; apply p_nilCheck <;> rfl)); (case hq => kernel_rfl))
    all_goals (apply dtk 2; (case hi => rfl); (case hop => (apply prd; apply p_fieldAddrB <;> rfl)); (case hq => kernel_rfl))
    all_goals (apply dtk 3; (case hi => rfl); (case hop => (apply prd; apply p_fieldAddrB <;> rfl)); (case hq => kernel_rfl))
    all_goals (apply dtk 4; (case hi => rfl); (case hop => first | (apply r_loadNo; (case hx => rfl); (case h => (repeat (fail))); (case hd => (repeat (fail))); (case hn => rfl)) | (apply r_load1; rfl; (apply Cell.own; (case h => (repeat (first | exact mhd _ | apply mtl))); rfl)) | (apply r_loadN; rfl; (apply CellsAt.own; (case h => (repeat (fail)))); rfl)); (case hq => kernel_rfl))
    all_goals (apply dtk 5; (case hi => rfl); (case hop => (apply prd; apply p_fieldAddrB <;> rfl)); (case hq => kernel_rfl))
    all_goals (apply dtk 6; (case hi => rfl); (case hop => first | (apply r_loadNo; (case hx => rfl); (case h => (repeat (fail))); (case hd => (repeat (fail))); (case hn => rfl)) | (apply r_load1; rfl; (apply Cell.own; (case h => (repeat (exact mhd _))); rfl)) | (apply r_loadN; rfl; (apply CellsAt.own; (case h => (repeat (fail)))); rfl)); (case hq => kernel_rfl))
    focus
      refine d_fork 7 11 (by kernel_rfl) ?_ ?_
      rotate_right
      focus
        (apply x_exec 11; (case hi => rfl); (case hop => exact m_alloc rfl); (case hd => rfl); rintro _ _ _ ⟨eb, rfl, rfl, rfl⟩; refine ⟨(by intro e he; (simp at he; simp [he]; done)), ?_⟩)
        all_goals (apply d_callJ 7 (hs := qf); (case hi => rfl); (case hr => kernel_rfl); (case ha => rfl); (case hd => rfl))
        all_goals (apply dtk 8; (case hi => rfl); (case hop => (apply prd; apply p_move <;> rfl)); (case hq => kernel_rfl))
        all_goals (apply dtk 9; (case hi => rfl); (case hop => (apply prd; apply p_extract0 <;> rfl)); (case hq => kernel_rfl))
        all_goals (apply dtk 10; (case hi => rfl); (case hop => (apply prd; apply p_extract1 <;> rfl)); (case hq => kernel_rfl))
        all_goals (apply d_store 12; (case hi => rfl); (case hr => kernel_rfl); (case hL => infer_instance); (case hp => rfl); (case hx => rfl); (case hc => rfl); (case hsz => rfl); (case h1 => rfl); (case hb => (repeat (exact mhd _))); (case hfit => exact nle rfl); (case hov => ((repeat (first | with_reducible exact ov_nil | apply ov_cons)); done)); (case hu => repeat (exact Upd.here _ _)); (case hν' => intro e he; (simp at he; simp [he]; done)))
        all_goals (apply dtk 13; (case hi => rfl); (case hop => (apply prd; apply p_assign <;> rfl)); (case hq => kernel_rfl))
        all_goals (apply d_done; (case hr => kernel_rfl))
      rotate_right
      focus
        (apply x_exec 7; (case hi => rfl); (case hop => apply m_callFJ (hs := qf) <;> rfl); (case hd => rfl); rintro _ _ _ ⟨rfl, rfl, rfl⟩; refine ⟨(by intro e he; exact he), ?_⟩)
        all_goals (apply dtk 8; (case hi => rfl); (case hop => (apply prd; apply p_move <;> rfl)); (case hq => kernel_rfl))
        all_goals (apply dtk 9; (case hi => rfl); (case hop => (apply prd; apply p_extract0 <;> rfl)); (case hq => kernel_rfl))
        all_goals (apply dtk 10; (case hi => rfl); (case hop => (apply prd; apply p_extract1 <;> rfl)); (case hq => kernel_rfl))
        all_goals (apply d_exec 11; (case hi => rfl); (case hr => kernel_rfl); (case hop => exact m_alloc rfl); (case hd => rfl); rintro _ _ _ ⟨eb, rfl, rfl, rfl⟩; refine ⟨(by intro e he; (simp at he; simp [he]; done)), ?_⟩)
        all_goals (apply d_store 12; (case hi => rfl); (case hr => kernel_rfl); (case hL => infer_instance); (case hp => rfl); (case hx => rfl); (case hc => rfl); (case hsz => rfl); (case h1 => rfl); (case hb => (repeat (exact mhd _))); (case hfit => exact nle rfl); (case hov => ((repeat (first | with_reducible exact ov_nil | apply ov_cons)); done)); (case hu => repeat (exact Upd.here _ _)); (case hν' => intro e he; (simp at he; simp [he]; done)))
        all_goals (apply dtk 13; (case hi => rfl); (case hop => (apply prd; apply p_assign <;> rfl)); (case hq => kernel_rfl))
        all_goals (apply d_done; (case hr => kernel_rfl))
    all_goals
      repeat' (first | apply v_seq)
    all_goals
      refine d_start _ (by kernel_rfl) (by kernel_rfl) (by kernel_rfl) (fun _ he => he) ?_
      all_goals (apply dtk 0; (case hi => rfl); (case hop => (apply prd; apply p_move <;> rfl)); (case hq => kernel_rfl))
      all_goals (apply dtk 1; (case hi => rfl); (case hop => (apply prd; apply p_not <;> rfl)); (case hq => kernel_rfl))
      all_goals (apply dtk 2; (case hi => rfl); (case hop => (apply prd; apply p_move <;> rfl)); (case hq => kernel_rfl))
      all_goals (try (apply d_guardB 3; (case hi => rfl); (case hgd => rfl); (case h1 => rfl); (case h2 => rfl); all_goals (intro h; (try simp only [reduceCtorEq, zzz] at h))))
      all_goals (apply dpa 3; (case hi => rfl); (case hg => rfl); (case hn => rfl); (case hq => kernel_rfl))
      all_goals (try (apply d_guardB 4; (case hi => rfl); (case hgd => rfl); (case h1 => rfl); (case h2 => rfl); all_goals (intro h; (try simp only [reduceCtorEq, zzz] at h))))
      all_goals (apply dpa 4; (case hi => rfl); (case hg => rfl); (case hn => rfl); (case hq => kernel_rfl))
      all_goals (try (apply d_guardB 5; (case hi => rfl); (case hgd => rfl); (case h1 => rfl); (case h2 => rfl); all_goals (intro h; (try simp only [reduceCtorEq, zzz] at h))))
      all_goals (apply dpa 5; (case hi => rfl); (case hg => rfl); (case hn => rfl); (case hq => kernel_rfl))
      all_goals (try (apply d_guardB 6; (case hi => rfl); (case hgd => rfl); (case h1 => rfl); (case h2 => rfl); all_goals (intro h; (try simp only [reduceCtorEq, zzz] at h))))
      all_goals (apply dpa 6; (case hi => rfl); (case hg => rfl); (case hn => rfl); (case hq => kernel_rfl))
      all_goals (try (apply d_guardB 7; (case hi => rfl); (case hgd => rfl); (case h1 => rfl); (case h2 => rfl); all_goals (intro h; (try simp only [reduceCtorEq, zzz] at h))))
      all_goals (apply dpa 7; (case hi => rfl); (case hg => rfl); (case hn => rfl); (case hq => kernel_rfl))
      all_goals (try (apply d_guardB 8; (case hi => rfl); (case hgd => rfl); (case h1 => rfl); (case h2 => rfl); all_goals (intro h; (try simp only [reduceCtorEq, zzz] at h))))
      all_goals (apply dpa 8; (case hi => rfl); (case hg => rfl); (case hn => rfl); (case hq => kernel_rfl))
      all_goals (try (apply d_guardB 9; (case hi => rfl); (case hgd => rfl); (case h1 => rfl); (case h2 => rfl); all_goals (intro h; (try simp only [reduceCtorEq, zzz] at h))))
      all_goals (apply dpa 9; (case hi => rfl); (case hg => rfl); (case hn => rfl); (case hq => kernel_rfl))
      all_goals (try (apply d_guardB 10; (case hi => rfl); (case hgd => rfl); (case h1 => rfl); (case h2 => rfl); all_goals (intro h; (try simp only [reduceCtorEq, zzz] at h))))
      all_goals (apply dpa 10; (case hi => rfl); (case hg => rfl); (case hn => rfl); (case hq => kernel_rfl))
      all_goals (apply dtk 11; (case hi => rfl); (case hop => (apply prd; apply p_pickF <;> rfl)); (case hq => kernel_rfl))
      all_goals (apply d_done; (case hr => kernel_rfl))
    all_goals
      repeat' (first | apply v_skip | (apply v_condF; (case hc => rfl)) | fail)
    all_goals
      (refine v_end [(hb, _)] (outsA0 rfl) (by repeat (first | exact List.Sublist.refl _ | apply List.Sublist.cons)) ?_
       rw [if_neg (by simp)]
       exact ⟨_, rfl, _, _, _, rfl, hi, ha, hc⟩)
noncomputable def takeH (h : Hd) (x : Rc) : Hd := if x.index ≤ h.base then h else { h with base := x.index, image := x.image, acc := h.acc.drop (placeN h.acc (x.index + 1)), cho := h.cho.drop (placeN h.cho (x.index + 1)) }
theorem take_s {G : GH} {H : Hd} {L : List Value} {x : Rc} {xv : Value} {n : Nat} (hb : Nat) (hh : HdV G H L) (g : Good n H) (hn : n ≤ 200) (hx : RcV G x xv) (him : x.image.length ≤ 40000) (hxi : 0 ≤ x.index ∧ x.index ≤ 4294967296) :
    Con Tryz.prog 156 #[.pointer (some ⟨hb, 0, none⟩), xv] G [(hb, hdO L)] (fun _ G' μ' => ∃ L', μ' = [(hb, hdO L')] ∧ HdV G' (takeH H x) L') := by
  obtain ⟨im, av, cv, rfl, hi, ha, hc⟩ := hh
  obtain ⟨A0, c0, rfl, -⟩ := id hi.openInt
  obtain ⟨A1, c1, rfl, -⟩ := id ha.open
  obtain ⟨A2, c2, rfl, -⟩ := id hc.open
  obtain ⟨iv, rfl, hxv⟩ := hx
  obtain ⟨A3, c3, rfl, -⟩ := id hxv.openInt
  have qc := bclone_s hxv (by omega)
  have hwf := hxv.openInt
  obtain ⟨_, _, -, -, -, -, -, hwx⟩ := hwf
  have hna := g.nacc
  have hnc := g.ncho
  unfold takeH
  generalize hivl : Value.slice A3 x.image.length c3 = iv at *
  (refine v_enter Tryz.func156 rfl Tryz.ntmps156 rfl ?_; intro B _)
  repeat' (first | apply v_seq | apply v_region | apply v_nil | (apply v_box (zs := recL x.kind x.round x.node x.index x.cmd iv); (case hx => rfl); (case hz => rfl); (case hd => rfl); intro xb) | fail)
  refine d_start _ (by kernel_rfl) (by kernel_rfl) (by kernel_rfl) (fun _ he => he) ?_
  all_goals (apply dtk 0; (case hi => rfl); (case hop => (apply prd; apply p_fieldAddrB <;> rfl)); (case hq => kernel_rfl))
  all_goals (apply dtk 1; (case hi => rfl); (case hop => first | (apply r_loadNo; (case hx => rfl); (case h => (repeat (fail))); (case hd => (repeat (fail))); (case hn => rfl)) | (apply r_load1; rfl; (apply Cell.own; (case h => (repeat (exact mhd _))); rfl)) | (apply r_loadN; rfl; (apply CellsAt.own; (case h => (repeat (fail)))); rfl)); (case hq => kernel_rfl))
  all_goals (apply dtk 2; (case hi => rfl); (case hop => (apply prd; apply p_move <;> rfl)); (case hq => kernel_rfl))
  all_goals (apply dtk 3; (case hi => rfl); (case hop => (apply prd; apply p_nilCheck <;> rfl)); (case hq => kernel_rfl))
  all_goals (apply dtk 4; (case hi => rfl); (case hop => (apply prd; apply p_fieldAddrB <;> rfl)); (case hq => kernel_rfl))
  all_goals (apply dtk 5; (case hi => rfl); (case hop => (apply prd; apply p_fieldAddrB <;> rfl)); (case hq => kernel_rfl))
  all_goals (apply dtk 6; (case hi => rfl); (case hop => first | (apply r_loadNo; (case hx => rfl); (case h => (repeat (fail))); (case hd => (repeat (fail))); (case hn => rfl)) | (apply r_load1; rfl; (apply Cell.own; (case h => (repeat (first | exact mhd _ | apply mtl))); rfl)) | (apply r_loadN; rfl; (apply CellsAt.own; (case h => (repeat (fail)))); rfl)); (case hq => kernel_rfl))
  all_goals (apply dtk 7; (case hi => rfl); (case hop => (apply prd; apply p_le <;> rfl)); (case hq => kernel_rfl))
  all_goals (apply d_done; (case hr => kernel_rfl))
  repeat' (first | apply v_seq | apply v_skip | (apply v_cond; (case hc => rfl); all_goals (intro h; (try simp only [reduceCtorEq, zzz] at h))) | fail)
  · have hle := h
    refine v_ret [(hb, _)] (outsA0 rfl) (by repeat (first | exact List.Sublist.refl _ | apply List.Sublist.cons)) ?_
    rw [if_pos hle]
    exact ⟨_, rfl, _, _, _, rfl, hi, ha, hc⟩
  · have hgt := h
    rw [if_neg hgt]
    subst hivl
    refine d_start [(xb, .cells (recL x.kind x.round x.node x.index x.cmd (.slice A3 x.image.length c3)).toArray 42 (0, 0))] (by kernel_rfl) (by kernel_rfl) (by kernel_rfl) (by intro e he; (simp at he; simp [he]; done)) ?_
    all_goals (apply dtk 0; (case hi => rfl); (case hop => (apply prd; apply p_move <;> rfl)); (case hq => kernel_rfl))
    all_goals (apply dtk 1; (case hi => rfl); (case hop => (apply prd; apply p_move <;> rfl)); (case hq => kernel_rfl))
    all_goals (apply dtk 2; (case hi => rfl); (case hop => (apply prd; apply p_fieldAddrB <;> rfl)); (case hq => kernel_rfl))
    all_goals (apply dtk 3; (case hi => rfl); (case hop => first | (apply r_loadNo; (case hx => rfl); (case h => (repeat (fail))); (case hd => (repeat (fail))); (case hn => rfl)) | (apply r_load1; rfl; (apply Cell.own; (case h => (repeat (exact mhd _))); rfl)) | (apply r_loadN; rfl; (apply CellsAt.own; (case h => (repeat (fail)))); rfl)); (case hq => kernel_rfl))
    all_goals (apply dtk 4; (case hi => rfl); (case hop => (apply prd; apply p_fieldAddrB <;> rfl)); (case hq => kernel_rfl))
    all_goals (apply dtk 5; (case hi => rfl); (case hop => first | (apply r_loadNo; (case hx => rfl); (case h => (repeat (fail))); (case hd => (repeat (fail))); (case hn => rfl)) | (apply r_load1; rfl; (apply Cell.own; (case h => (repeat (exact mhd _))); rfl)) | (apply r_loadN; rfl; (apply CellsAt.own; (case h => (repeat (fail)))); rfl)); (case hq => kernel_rfl))
    all_goals ((apply d_call 6 (hs := qc); (case hi => rfl); (case hr => kernel_rfl);  (case ha => rfl); (case hp => exact List.Perm.refl _); (case hd => rfl); (case hν' => intro e he; simp at he; simp [he]); rintro r1 G1 ν1 - ⟨rfl, hg1⟩; obtain ⟨A4, c4, rfl, -, -⟩ := hg1.shape))
    all_goals (apply dtk 7; (case hi => rfl); (case hop => (apply prd; apply p_nilCheck <;> rfl)); (case hq => kernel_rfl))
    all_goals (apply dtk 8; (case hi => rfl); (case hop => (apply prd; apply p_fieldAddrB <;> rfl)); (case hq => kernel_rfl))
    all_goals (apply dtk 9; (case hi => rfl); (case hop => (apply prd; apply p_fieldAddrB <;> rfl)); (case hq => kernel_rfl))
    all_goals (apply d_store 10; (case hi => rfl); (case hr => kernel_rfl); (case hL => infer_instance); (case hp => rfl); (case hx => rfl); (case hc => rfl); (case hsz => rfl); (case h1 => rfl); (case hb => (repeat (first | exact mhd _ | apply mtl | apply List.mem_append_right))); (case hfit => exact nle rfl); (case hov => ((repeat (first | with_reducible exact ov_nil | apply ov_cons)); done)); (case hu => repeat (first | exact Upd.here _ _ | apply Upd.there | apply Upd.app)); (case hν' => intro e he; (simp at he; simp [he]; done)))
    all_goals (apply dtk 11; (case hi => rfl); (case hop => (apply prd; apply p_nilCheck <;> rfl)); (case hq => kernel_rfl))
    all_goals (apply dtk 12; (case hi => rfl); (case hop => (apply prd; apply p_fieldAddrB <;> rfl)); (case hq => kernel_rfl))
    all_goals (apply dtk 13; (case hi => rfl); (case hop => (apply prd; apply p_fieldAddrB <;> rfl)); (case hq => kernel_rfl))
    all_goals (apply d_store 14; (case hi => rfl); (case hr => kernel_rfl); (case hL => infer_instance); (case hp => rfl); (case hx => rfl); (case hc => rfl); (case hsz => rfl); (case h1 => rfl); (case hb => (repeat (first | exact mhd _ | apply mtl | apply List.mem_append_right))); (case hfit => exact nle rfl); (case hov => ((repeat (first | with_reducible exact ov_nil | apply ov_cons)); done)); (case hu => repeat (first | exact Upd.here _ _ | apply Upd.there | apply Upd.app)); (case hν' => intro e he; (simp at he; simp [he]; done)))
    all_goals (apply d_done; (case hr => kernel_rfl))
    repeat' (first | apply v_seq)
    refine v_frz ν1 (by repeat (exact PickA.here _)) ?_
    intro G2 hle2 hG2
    have hi2 := hg1.ints hG2 hwx
    have ha2 := esle ha hle2
    have qa := from_s (x.index + 1) ha2 g.racc (by omega)
    refine d_start [(xb, .cells (recL x.kind x.round x.node x.index x.cmd (.slice A3 x.image.length c3)).toArray 42 (0, 0))] (by kernel_rfl) (by kernel_rfl) (by kernel_rfl) (by intro e he; (simp at he; simp [he]; done)) ?_
    all_goals (apply dtk 0; (case hi => rfl); (case hop => (apply prd; apply p_move <;> rfl)); (case hq => kernel_rfl))
    all_goals (apply dtk 1; (case hi => rfl); (case hop => (apply prd; apply p_move <;> rfl)); (case hq => kernel_rfl))
    all_goals (apply dtk 2; (case hi => rfl); (case hop => (apply prd; apply p_nilCheck <;> rfl)); (case hq => kernel_rfl))
    all_goals (apply dtk 3; (case hi => rfl); (case hop => (apply prd; apply p_fieldAddrB <;> rfl)); (case hq => kernel_rfl))
    all_goals (apply dtk 4; (case hi => rfl); (case hop => (apply prd; apply p_fieldAddrB <;> rfl)); (case hq => kernel_rfl))
    all_goals (apply dtk 6; (case hi => rfl); (case hop => (apply prd; apply p_fieldAddrB <;> rfl)); (case hq => kernel_rfl))
    all_goals (apply dtk 7; (case hi => rfl); (case hop => first | (apply r_loadNo; (case hx => rfl); (case h => (repeat (fail))); (case hd => (repeat (fail))); (case hn => rfl)) | (apply r_load1; rfl; (apply Cell.own; (case h => (repeat (exact mhd _))); rfl)) | (apply r_loadN; rfl; (apply CellsAt.own; (case h => (repeat (fail)))); rfl)); (case hq => kernel_rfl))
    all_goals (apply dtk 8; (case hi => rfl); (case hop => (apply prd; apply p_add; (case hx => rfl); (case hy => rfl); (case h => omega))); (case hq => kernel_rfl))
    all_goals (apply d_keep 5 (hop := ReadOp.move ?hop); (case hi => rfl); (case hr => kernel_rfl); (case hop => (apply r_load1; rfl; (apply Cell.own; (case h => repeat (first | exact mhd _ | apply mtl)); rfl))); (case hd => rfl))
    all_goals ((apply d_call 9 (hs := qa); (case hi => rfl); (case hr => kernel_rfl);  (case ha => rfl); (case hp => exact List.Perm.refl _); (case hd => rfl); (case hν' => intro e he; simp at he; simp [he]); rintro r1 G1 ν5 - ⟨rfl, hg5⟩; obtain ⟨A5, c5, rfl, -, -⟩ := hg5.shape))
    all_goals (apply dtk 10; (case hi => rfl); (case hop => (apply prd; apply p_nilCheck <;> rfl)); (case hq => kernel_rfl))
    all_goals (apply dtk 11; (case hi => rfl); (case hop => (apply prd; apply p_fieldAddrB <;> rfl)); (case hq => kernel_rfl))
    all_goals (apply dtk 12; (case hi => rfl); (case hop => (apply prd; apply p_fieldAddrB <;> rfl)); (case hq => kernel_rfl))
    all_goals (apply d_store 13; (case hi => rfl); (case hr => kernel_rfl); (case hL => infer_instance); (case hp => rfl); (case hx => rfl); (case hc => rfl); (case hsz => rfl); (case h1 => rfl); (case hb => (repeat (first | exact mhd _ | apply mtl | apply List.mem_append_right))); (case hfit => exact nle rfl); (case hov => ((repeat (first | with_reducible exact ov_nil | apply ov_cons)); done)); (case hu => repeat (first | exact Upd.here _ _ | apply Upd.there | apply Upd.app)); (case hν' => intro e he; (simp at he; simp [he]; done)))
    all_goals (apply d_done; (case hr => kernel_rfl))
    repeat' (fail)
    refine v_frz ν5 (by repeat (exact PickA.here _)) ?_
    intro G4 hle4 hG4
    have hc4 := esle (esle hc hle2) hle4
    have hi4 := hi2.mono hle4
    have ha4 := es_of_grow hg5 hG4 (fun y hy => by
      have := (g.acc y (List.mem_of_mem_drop hy))
      exact this.2.1)
    have qc := from_s (x.index + 1) hc4 g.rcho (by omega)
    refine d_start [(xb, .cells (recL x.kind x.round x.node x.index x.cmd (.slice A3 x.image.length c3)).toArray 42 (0, 0))] (by kernel_rfl) (by kernel_rfl) (by kernel_rfl) (by intro e he; (simp at he; simp [he]; done)) ?_
    all_goals (apply dtk 0; (case hi => rfl); (case hop => (apply prd; apply p_move <;> rfl)); (case hq => kernel_rfl))
    all_goals (apply dtk 1; (case hi => rfl); (case hop => (apply prd; apply p_move <;> rfl)); (case hq => kernel_rfl))
    all_goals (apply dtk 2; (case hi => rfl); (case hop => (apply prd; apply p_nilCheck <;> rfl)); (case hq => kernel_rfl))
    all_goals (apply dtk 3; (case hi => rfl); (case hop => (apply prd; apply p_fieldAddrB <;> rfl)); (case hq => kernel_rfl))
    all_goals (apply dtk 4; (case hi => rfl); (case hop => (apply prd; apply p_fieldAddrB <;> rfl)); (case hq => kernel_rfl))
    all_goals (apply dtk 6; (case hi => rfl); (case hop => (apply prd; apply p_fieldAddrB <;> rfl)); (case hq => kernel_rfl))
    all_goals (apply dtk 7; (case hi => rfl); (case hop => first | (apply r_loadNo; (case hx => rfl); (case h => (repeat (fail))); (case hd => (repeat (fail))); (case hn => rfl)) | (apply r_load1; rfl; (apply Cell.own; (case h => (repeat (exact mhd _))); rfl)) | (apply r_loadN; rfl; (apply CellsAt.own; (case h => (repeat (fail)))); rfl)); (case hq => kernel_rfl))
    all_goals (apply dtk 8; (case hi => rfl); (case hop => (apply prd; apply p_add; (case hx => rfl); (case hy => rfl); (case h => omega))); (case hq => kernel_rfl))
    all_goals (apply d_keep 5 (hop := ReadOp.move ?hop); (case hi => rfl); (case hr => kernel_rfl); (case hop => (apply r_load1; rfl; (apply Cell.own; (case h => repeat (first | exact mhd _ | apply mtl)); rfl))); (case hd => rfl))
    all_goals ((apply d_call 9 (hs := qc); (case hi => rfl); (case hr => kernel_rfl);  (case ha => rfl); (case hp => exact List.Perm.refl _); (case hd => rfl); (case hν' => intro e he; simp at he; simp [he]); rintro r1 G1 ν6 - ⟨rfl, hg6⟩; obtain ⟨A6, c6, rfl, -, -⟩ := hg6.shape))
    all_goals (apply dtk 10; (case hi => rfl); (case hop => (apply prd; apply p_nilCheck <;> rfl)); (case hq => kernel_rfl))
    all_goals (apply dtk 11; (case hi => rfl); (case hop => (apply prd; apply p_fieldAddrB <;> rfl)); (case hq => kernel_rfl))
    all_goals (apply dtk 12; (case hi => rfl); (case hop => (apply prd; apply p_fieldAddrB <;> rfl)); (case hq => kernel_rfl))
    all_goals (apply d_store 13; (case hi => rfl); (case hr => kernel_rfl); (case hL => infer_instance); (case hp => rfl); (case hx => rfl); (case hc => rfl); (case hsz => rfl); (case h1 => rfl); (case hb => (repeat (first | exact mhd _ | apply mtl | apply List.mem_append_right))); (case hfit => exact nle rfl); (case hov => ((repeat (first | with_reducible exact ov_nil | apply ov_cons)); done)); (case hu => repeat (first | exact Upd.here _ _ | apply Upd.there | apply Upd.app)); (case hν' => intro e he; (simp at he; simp [he]; done)))
    all_goals (apply d_done; (case hr => kernel_rfl))
    repeat' (fail)
    refine v_frz ν6 (by repeat (exact PickA.here _)) ?_
    intro G6 hle6 hG6
    have hc6 := es_of_grow hg6 hG6 (fun y hy => by
      have := (g.cho y (List.mem_of_mem_drop hy))
      exact this.2.1)
    refine v_end [(hb, _)] (outsA0 rfl) (by repeat (first | exact List.Sublist.refl _ | apply List.Sublist.cons)) ?_
    exact ⟨_, rfl, _, _, _, rfl, hi4.mono hle6, esle ha4 hle6, hc6⟩
theorem chg_eq (h : Hd) (x : Rc) : chg h x = if x.kind = 1 then h.prom x else if x.kind = 2 then accH h x else if x.kind = 3 then choH h x else takeH h x := rfl
theorem entOf_ok {x : Rc} (hx : chkI x = 0) (hc : x.cmd.ok) : (entOf x).ok ∧ (⟨x.index, 0, 0, x.cmd⟩ : Ent).ok ∧ 0 ≤ x.index ∧ x.index ≤ 4294967296 ∧ x.image.length ≤ 32768 := by
  have h0 : recI x.kind x.round x.node x.index x.cmd x.image.length = 0 := hx
  obtain ⟨hk, hr, hi, hcc, ho⟩ := rec0 h0
  obtain ⟨hfit, hsm, him, hsz⟩ := fits0 h0
  unfold ranP mayP at hr
  have hr0 : 0 ≤ x.round ∧ x.round ≤ 4294967296 := by unfold othP at ho; omega
  have hn0 : 0 ≤ x.node ∧ x.node ≤ 9 := by unfold othP at ho; omega
  have hi0 : 0 ≤ x.index ∧ x.index ≤ 4294967296 := by unfold othP at ho; omega
  exact ⟨⟨wf64 (n := x.index) (by omega), wf64 (n := x.round) (by omega), wf64 (n := x.node) (by omega), hc⟩, ⟨wf64 (n := x.index) (by omega), wf64 (n := 0) (by omega), wf64 (n := 0) (by omega), hc⟩, hi0.1, hi0.2, him⟩
theorem change_s {G : GH} {H : Hd} {L : List Value} {x : Rc} {xv : Value} {n : Nat} (hb : Nat) (hh : HdV G H L) (g : Good n H) (hn : n ≤ 200) (hx : RcV G x xv) (hv : chkI x = 0) (hc : x.cmd.ok) :
    Con Tryz.prog 108 #[.pointer (some ⟨hb, 0, none⟩), xv] G [(hb, hdO L)] (fun _ G' μ' => ∃ L', μ' = [(hb, hdO L')] ∧ HdV G' (chg H x) L') := by
  obtain ⟨e1, e2, e3, e4, e5⟩ := entOf_ok hv hc
  have hk := (rec0 (show recI x.kind x.round x.node x.index x.cmd x.image.length = 0 from hv)).1
  have q2 := accept_s hb hh g hn hx (withL_ok (fun e he => (g.acc e he).2.1) e1)
  have q3 := choose_s hb hh g hn hx (withL_ok (fun e he => (g.cho e he).2.1) e2)
  have q4 := take_s hb hh g hn hx (by omega) ⟨e3, e4⟩
  have hh' := hh
  obtain ⟨im, av, cv, rfl, hi, ha, hcv⟩ := hh
  have q1 := promise_s G hb H.pr H.pn H.base x.round x.node im av cv
  obtain ⟨iv, rfl, hxv⟩ := hx
  rw [chg_eq]
  (refine v_enter Tryz.func108 rfl Tryz.ntmps108 rfl ?_; intro B _)
  obtain k | k | k | k : x.kind = 1 ∨ x.kind = 2 ∨ x.kind = 3 ∨ x.kind = 4 := by omega
  · rw [if_pos k, prom_max]
    repeat' (first | apply v_seq | apply v_region | apply v_nil | apply v_block | (apply v_pure; (case hop => first | (apply p_move <;> rfl) | (apply p_eq <;> rfl) | (apply p_assign <;> rfl) | (apply p_fieldAddrB <;> rfl) | fail); (case hd => rfl)) | (apply v_cond; (case hc => rfl); all_goals (intro h; (try simp only [reduceCtorEq, zzz] at h); first | (exfalso; omega) | skip)) | (apply v_box (zs := recL x.kind x.round x.node x.index x.cmd iv); (case hx => rfl); (case hz => rfl); (case hd => rfl); intro xb) | (apply v_read; (case hop => first | (apply r_loadNo; (case hx => rfl); (case h => (repeat (exact mhd _))); (case hd => (repeat (first | with_reducible exact dt_nil | apply dt_here))); (case hn => rfl)) | (apply r_load1; rfl; (apply Cell.own; (case h => (repeat (exact mhd _))); rfl)) | fail); (case hd => rfl)) | fail)
    refine v_call (μ1 := [(hb, _)]) (μ2 := _) rfl q1 (PickA.perm (by repeat (first | exact PickA.last | apply PickA.cons))) rfl ?_
    rintro _ _ _ - ⟨rfl, rfl⟩
    repeat' (first | apply v_nil | apply v_blk)
    refine v_end [(hb, _)] (outsA0 rfl) (by repeat (first | exact List.nil_sublist _ | apply List.Sublist.cons_cons)) ?_
    exact ⟨_, rfl, _, _, _, rfl, hi, ha, hcv⟩
  · rw [if_neg (by omega), if_pos k]
    repeat' (first | apply v_seq | apply v_region | apply v_nil | apply v_block | (apply v_pure; (case hop => first | (apply p_move <;> rfl) | (apply p_eq <;> rfl) | (apply p_assign <;> rfl) | (apply p_fieldAddrB <;> rfl) | fail); (case hd => rfl)) | (apply v_cond; (case hc => rfl); all_goals (intro h; (try simp only [reduceCtorEq, zzz] at h); first | (exfalso; omega) | skip)) | (apply v_box (zs := recL x.kind x.round x.node x.index x.cmd iv); (case hx => rfl); (case hz => rfl); (case hd => rfl); intro xb) | (apply v_read; (case hop => first | (apply r_loadNo; (case hx => rfl); (case h => (repeat (exact mhd _))); (case hd => (repeat (first | with_reducible exact dt_nil | apply dt_here))); (case hn => rfl)) | (apply r_load1; rfl; (apply Cell.own; (case h => (repeat (exact mhd _))); rfl)) | fail); (case hd => rfl)) | fail)
    refine v_call (μ1 := [(hb, _)]) (μ2 := _) rfl q2 (PickA.perm (by repeat (first | exact PickA.last | apply PickA.cons))) rfl ?_
    rintro _ G1 _ - ⟨L', rfl, h'⟩
    repeat' (first | apply v_nil | apply v_blk)
    refine v_end [(hb, _)] (outsA0 rfl) (by repeat (first | exact List.nil_sublist _ | apply List.Sublist.cons_cons)) ?_
    exact ⟨_, rfl, h'⟩
  · rw [if_neg (by omega), if_neg (by omega), if_pos k]
    repeat' (first | apply v_seq | apply v_region | apply v_nil | apply v_block | (apply v_pure; (case hop => first | (apply p_move <;> rfl) | (apply p_eq <;> rfl) | (apply p_assign <;> rfl) | (apply p_fieldAddrB <;> rfl) | fail); (case hd => rfl)) | (apply v_cond; (case hc => rfl); all_goals (intro h; (try simp only [reduceCtorEq, zzz] at h); first | (exfalso; omega) | skip)) | (apply v_box (zs := recL x.kind x.round x.node x.index x.cmd iv); (case hx => rfl); (case hz => rfl); (case hd => rfl); intro xb) | (apply v_read; (case hop => first | (apply r_loadNo; (case hx => rfl); (case h => (repeat (exact mhd _))); (case hd => (repeat (first | with_reducible exact dt_nil | apply dt_here))); (case hn => rfl)) | (apply r_load1; rfl; (apply Cell.own; (case h => (repeat (exact mhd _))); rfl)) | fail); (case hd => rfl)) | fail)
    refine v_call (μ1 := [(hb, _)]) (μ2 := _) rfl q3 (PickA.perm (by repeat (first | exact PickA.last | apply PickA.cons))) rfl ?_
    rintro _ G1 _ - ⟨L', rfl, h'⟩
    repeat' (first | apply v_nil | apply v_blk)
    refine v_end [(hb, _)] (outsA0 rfl) (by repeat (first | exact List.nil_sublist _ | apply List.Sublist.cons_cons)) ?_
    exact ⟨_, rfl, h'⟩
  · rw [if_neg (by omega), if_neg (by omega), if_neg (by omega)]
    repeat' (first | apply v_seq | apply v_region | apply v_nil | apply v_block | (apply v_pure; (case hop => first | (apply p_move <;> rfl) | (apply p_eq <;> rfl) | (apply p_assign <;> rfl) | (apply p_fieldAddrB <;> rfl) | fail); (case hd => rfl)) | (apply v_cond; (case hc => rfl); all_goals (intro h; (try simp only [reduceCtorEq, zzz] at h); first | (exfalso; omega) | skip)) | (apply v_box (zs := recL x.kind x.round x.node x.index x.cmd iv); (case hx => rfl); (case hz => rfl); (case hd => rfl); intro xb) | (apply v_read; (case hop => first | (apply r_loadNo; (case hx => rfl); (case h => (repeat (exact mhd _))); (case hd => (repeat (first | with_reducible exact dt_nil | apply dt_here))); (case hn => rfl)) | (apply r_load1; rfl; (apply Cell.own; (case h => (repeat (exact mhd _))); rfl)) | fail); (case hd => rfl)) | fail)
    refine v_call (μ1 := [(hb, _)]) (μ2 := _) rfl q4 (PickA.perm (by repeat (first | exact PickA.last | apply PickA.cons))) rfl ?_
    rintro _ G1 _ - ⟨L', rfl, h'⟩
    repeat' (first | apply v_nil | apply v_blk)
    refine v_end [(hb, _)] (outsA0 rfl) (by repeat (first | exact List.nil_sublist _ | apply List.Sublist.cons_cons)) ?_
    exact ⟨_, rfl, h'⟩
def RcR (G : GH) (x : Rc) (cs : List Value) : Prop := ∃ iv, cs = recL x.kind x.round x.node x.index x.cmd iv ∧ x.cmd.ok ∧ x.small ∧ Sl G 1 (IntR .u8) iv x.image
theorem RcR.le {G G' : GH} (h : GH.le G G') {x : Rc} {cs : List Value} (hc : RcR G x cs) : RcR G' x cs := let ⟨iv, h1, h2, h3, h4⟩ := hc; ⟨iv, h1, h2, h3, h4.mono h⟩
abbrev Rs (G : GH) (v : Value) (l : List Rc) : Prop := Sl G 12 (RcR G) v l
theorem Rs.le' {G G' : GH} (h : GH.le G G') {v : Value} {l : List Rc} (hs : Rs G v l) : Rs G' v l := Sl.le hs h fun _ _ => RcR.le h
theorem rsOpen {G : GH} {v : Value} {l : List Rc} (h : Rs G v l) : ∃ A c, ∃ (iv : Nat → Value), v = .slice A l.length c ∧ l.length ≤ c ∧ c ≤ maxLen ∧ (0 < l.length → A.isSome = true) ∧
    (∀ i (h : i < l.length), CellsG G ((adr A).add (i * 12)) (recL l[i].kind l[i].round l[i].node l[i].index l[i].cmd (iv i))) ∧ (∀ i (h : i < l.length), Sl G 1 (IntR .u8) (iv i) l[i].image) ∧ (∀ x ∈ l, x.cmd.ok ∧ x.small) := by
  obtain ⟨A, c, rfl, h1, h2, h3, h4⟩ := h.open
  have key : ∀ i, ∃ m : Value, ∀ (h : i < l.length), CellsG G ((adr A).add (i * 12)) (recL l[i].kind l[i].round l[i].node l[i].index l[i].cmd m) ∧ Sl G 1 (IntR .u8) m l[i].image ∧ (l[i].cmd.ok ∧ l[i].small) := fun i => by
    by_cases hi : i < l.length
    · obtain ⟨cs, _, ⟨iv, rfl, h6, h7, h8⟩, h5⟩ := h4 i _ (List.getElem?_eq_getElem hi)
      exact ⟨iv, fun _ => ⟨h5, h8, h6, h7⟩⟩
    · exact ⟨.slice none 0 0, fun h => absurd h hi⟩
  have hk := fun i => Classical.choose_spec (key i)
  refine ⟨A, c, fun i => Classical.choose (key i), rfl, h1, h2, h3, fun i hi => (hk i hi).1, fun i hi => (hk i hi).2.1, fun x hx => ?_⟩
  obtain ⟨i, hi, rfl⟩ := List.getElem_of_mem hx
  exact (hk i hi).2.2
theorem good_step {n : Nat} {h : Hd} (g : Good n h) {x : Rc} (hc : x.cmd.ok) : Good (n + 1) (stepH h x) := by
  unfold stepH
  by_cases hx : chkI x = 0
  · rw [if_pos hx]; exact good_chg g hx hc
  · rw [if_neg hx]; exact g.more (by omega)
theorem foldl_take {l : List Rc} {k : Nat} (h : k < l.length) : (l.take (k + 1)).foldl stepH Hd.zero = stepH ((l.take k).foldl stepH Hd.zero) l[k] := by
  rw [List.take_add_one, List.getElem?_eq_getElem h, List.foldl_append]
  rfl
theorem hd_zero (G : GH) : HdV G Hd.zero (hdL 0 0 0 (.slice none 0 0) (.slice none 0 0) (.slice none 0 0)) := ⟨_, _, _, rfl, Sl.nil, Sl.nil, Sl.nil⟩
theorem of_s {G : GH} (hT : TabsG G) {l : List Rc} {lv : Value} (hs : Rs G lv l) (hn : l.length ≤ 200) : Con Tryz.prog 64 #[lv] G [] (fun r G' μ' => μ' = [] ∧ ∃ L, r = .agg L.toArray ∧ HdV G' (hardOf l) L) := by
  obtain ⟨A, c, ivf, rfl, hlc, hcm, hsome, hcp, him, hok⟩ := rsOpen hs
  simp only [maxLen] at hcm
  (refine v_enter Tryz.func64 rfl Tryz.ntmps64 rfl ?_; intro B _)
  repeat' (first | apply v_seq | apply v_region | apply v_nil | apply v_block | (apply v_pure; (case hop => first | (apply p_move <;> rfl) | (apply p_assign <;> rfl) | (apply p_lenSlice <;> rfl) | (apply p_build; (case hz => rfl); (case hv => (simp only [List.map_cons, List.map_nil]; repeat (with_reducible exact evs_nil))); (case hb => (apply bldL; repeat (exact bld_nil)))) | fail); (case hd => rfl)) | (apply v_alloc; (case hz => rfl); (case hd => rfl); intro b) | (apply v_box; (case hx => rfl); (case hz => rfl); (case hd => rfl); intro b) | fail)
  rename_i ob
  rename Nat => hb
  refine v_loop [10, 9, 8, 3, 2] (fun us G' μ' => GH.le G G' ∧ ∃ (k : Nat) (L : List Value), k ≤ l.length ∧ us = [Value.int .i64 (k : Nat), .int .i64 (l.length : Nat), .slice A l.length c, .pointer (some ⟨hb, 0, none⟩), .pointer (some ⟨ob, 0, none⟩)] ∧ μ' = [(hb, hdO L), (ob, .cells (hdL 0 0 0 (.slice none 0 0) (.slice none 0 0) (.slice none 0 0)).toArray 27 (0, 0))] ∧ HdV G' ((l.take k).foldl stepH Hd.zero) L ∧ Good k ((l.take k).foldl stepH Hd.zero)) (fun us => l.length - (headI us).toNat) rfl ⟨GH.le_refl _, 0, _, by omega, rfl, rfl, hd_zero G, good_zero⟩ ?_
  rintro us G2 μ' ⟨hle, k, L, hk, rfl, rfl, hh, hg⟩
  by_cases hlt : k < l.length
  · have e1 : ((k : Nat) : Int).toNat = k := by omega
    have hcx := (hcp k hlt).le hle
    have hix := (him k hlt).mono hle
    have hcok := hok _ (List.getElem_mem hlt)
    have hft := foldl_take hlt
    have hgs := good_step hg hcok.1
    rw [← hft] at hgs
    generalize hxe : l[k] = x at *
    generalize ivf k = iv at *
    obtain ⟨Ai, ci, rfl, hic, him2, -⟩ := id hix.openInt
    simp only [maxLen] at him2
    have hx : RcV G2 x (.agg (recL x.kind x.round x.node x.index x.cmd (.slice Ai x.image.length ci)).toArray) := ⟨_, rfl, hix⟩
    have qc := recCheck_s (hT.le hle) x.kind x.round x.node x.index x.cmd hcok.1 Ai x.image.length ci (by omega)
    by_cases hv : chkI x = 0
    · have q := change_s hb hh hg (by omega) hx hv hcok.1
      have es : stepH ((l.take k).foldl stepH Hd.zero) x = chg ((l.take k).foldl stepH Hd.zero) x := by unfold stepH; rw [if_pos hv]
      rw [es] at hft
      rw [show recI x.kind x.round x.node x.index x.cmd x.image.length = 0 from hv] at qc
      repeat' (first | apply v_seq | apply v_region | apply v_nil | apply v_skip | apply v_block | (apply v_pure; (case hop => first | (apply p_move <;> rfl) | (apply p_eqs <;> rfl) | (apply p_lt <;> rfl) | (apply p_indexAddrS; (case hx => rfl); (case hi => rfl); (case h0 => omega); (case h => omega); (case hA => (apply_assumption; omega))) | fail); (case hd => rfl)) | (apply v_condT; (case hc => rfl)) | (apply v_cond; (case hc => rfl); all_goals (intro h; (try simp only [reduceCtorEq, zzz] at h); first | (exfalso; omega) | skip)) | (apply v_read; (case hop => (apply r_loadN; rfl; exact CellsAt.frozen hcx; rfl)); (case hd => rfl)) | (apply v_callJ (hs := qc); (case ha => rfl); (case hd => rfl)) | (apply v_read; (case hop => (apply r_loadNo; (case hx => rfl); (case h => (repeat (exact mhd _))); (case hd => (repeat (first | with_reducible exact dt_nil | apply dt_here))); (case hn => rfl))); (case hd => rfl)) | (apply v_alloc; (case hz => rfl); (case hd => rfl); intro b) | (apply v_store; (case hp => rfl); (case hx => rfl); (case hc => rfl); (case hsz => rfl); (case h1 => rfl); (case hb => (repeat (exact mhd _))); (case hfit => exact nle rfl); (case hov => ((repeat (first | with_reducible exact ov_nil | apply ov_cons)); done)); (case hu => repeat (exact Upd.here _ _))) | fail)
      refine v_call (μ1 := [(hb, _)]) (μ2 := _) rfl q (PickA.perm (by repeat (first | exact PickA.here _ | apply PickA.cons))) rfl ?_
      rintro _ G3 _ hle3 ⟨L', rfl, h'⟩
      rw [← hft] at h'
      repeat' (first | apply v_region | apply v_nil | apply v_blk | (apply v_pure; (case hop => first | (apply p_move <;> rfl) | (apply p_add; (case hx => rfl); (case hy => rfl); (case h => omega)) | fail); (case hd => rfl)) | fail)
      refine v_drop (ν := [(hb, _), (ob, _)]) (by repeat (first | exact List.Sublist.refl _ | apply List.Sublist.cons_cons | apply List.Sublist.cons)) ?_
      refine v_again rfl ⟨GH.le_trans hle hle3, k + 1, L', by omega, rfl, rfl, h', hgs⟩ (by simp [headI]; omega)
    · have es : stepH ((l.take k).foldl stepH Hd.zero) x = (l.take k).foldl stepH Hd.zero := by unfold stepH; rw [if_neg hv]
      rw [es] at hft
      have hv' : ¬ recI x.kind x.round x.node x.index x.cmd x.image.length = 0 := hv
      generalize recI x.kind x.round x.node x.index x.cmd x.image.length = I at *
      repeat' (first | apply v_seq | apply v_region | apply v_nil | apply v_skip | apply v_block | apply v_blk | (apply v_pure; (case hop => first | (apply p_move <;> rfl) | (apply p_eq <;> rfl) | (apply p_lt <;> rfl) | (apply p_add; (case hx => rfl); (case hy => rfl); (case h => omega)) | (apply p_indexAddrS; (case hx => rfl); (case hi => rfl); (case h0 => omega); (case h => omega); (case hA => (apply_assumption; omega))) | fail); (case hd => rfl)) | (apply v_cond; (case hc => rfl); all_goals (intro h; (try simp only [reduceCtorEq, zzz] at h); first | (exfalso; omega) | skip)) | (apply v_read; (case hop => (apply r_loadN; rfl; exact CellsAt.frozen hcx; rfl)); (case hd => rfl)) | (apply v_callJ (hs := qc); (case ha => rfl); (case hd => rfl)) | (apply v_read; (case hop => (apply r_loadNo; (case hx => rfl); (case h => (repeat (exact mhd _))); (case hd => (repeat (first | with_reducible exact dt_nil | apply dt_here))); (case hn => rfl))); (case hd => rfl)) | (apply v_alloc; (case hz => rfl); (case hd => rfl); intro b) | (apply v_store; (case hp => rfl); (case hx => rfl); (case hc => rfl); (case hsz => rfl); (case h1 => rfl); (case hb => (repeat (exact mhd _))); (case hfit => exact nle rfl); (case hov => ((repeat (first | with_reducible exact ov_nil | apply ov_cons)); done)); (case hu => repeat (exact Upd.here _ _))) | fail)
      refine v_drop (ν := [(hb, _), (ob, _)]) (by repeat (first | exact List.Sublist.refl _ | apply List.Sublist.cons)) ?_
      refine v_again rfl ⟨hle, k + 1, L, by omega, rfl, rfl, by rw [hft]; exact hh, hgs⟩ (by simp [headI]; omega)
  · obtain rfl : k = l.length := by omega
    rw [List.take_length] at hh
    obtain ⟨im, av, cv, rfl, hi, ha, hc⟩ := hh
    obtain ⟨A0, c0, rfl, -⟩ := id hi.openInt
    obtain ⟨A1, c1, rfl, -⟩ := id ha.open
    obtain ⟨A2, c2, rfl, -⟩ := id hc.open
    repeat' (first | apply v_seq | apply v_region | apply v_nil | (apply v_exit; (case hp => rfl)) | (apply v_pure; (case hop => first | (apply p_move <;> rfl) | (apply p_lt <;> rfl) | (apply p_fieldAddrB <;> rfl) | (apply p_nilCheck <;> rfl) | fail); (case hd => rfl)) | (apply v_cond; (case hc => rfl); all_goals (intro h; (try simp only [reduceCtorEq, zzz] at h); first | (exfalso; omega) | skip)) | (apply v_read; (case hop => (apply r_loadNo; (case hx => rfl); (case h => (repeat (exact mhd _))); (case hd => (repeat (first | with_reducible exact dt_nil | apply dt_here))); (case hn => rfl))); (case hd => rfl)) | (apply v_store; (case hp => rfl); (case hx => rfl); (case hc => rfl); (case hsz => rfl); (case h1 => rfl); (case hb => (repeat (first | exact mhd _ | apply mtl))); (case hfit => exact nle rfl); (case hov => ((repeat (first | with_reducible exact ov_nil | apply ov_cons)); done)); (case hu => repeat (first | exact Upd.here _ _ | apply Upd.there))) | fail)
    refine v_retM [] (outsM_cell (vs := hdL (l.foldl stepH Hd.zero).pr (l.foldl stepH Hd.zero).pn (l.foldl stepH Hd.zero).base (.slice A0 (l.foldl stepH Hd.zero).image.length c0) (.slice A1 (l.foldl stepH Hd.zero).acc.length c1) (.slice A2 (l.foldl stepH Hd.zero).cho.length c2)) (e := 27) rfl rfl (by repeat (first | exact mhd _ | apply mtl)) rfl) (by repeat (exact List.nil_sublist _)) ?_
    exact ⟨rfl, _, rfl, _, _, _, rfl, hi, ha, hc⟩
abbrev hardO (L : List Value) : Obj := .cells L.toArray 27 (0, 0)
structure Two (k : Nat) (acc cho : List Ent) : Prop where
  ra : RiseL acc
  rc : RiseL cho
  na : acc.length ≤ k
  nc : cho.length ≤ k
  oa : ∀ e ∈ acc, e.ok
  oc : ∀ e ∈ cho, e.ok
theorem flat_get {sz : Nat} : ∀ {css : List (List Value)} {j : Nat} {u : Value}, (∀ c ∈ css, c.length = sz) → css.flatten[j]? = some u → ∃ i r cs, j = i * sz + r ∧ css[i]? = some cs ∧ cs[r]? = some u
  | [], j, u, _, h => by simp at h
  | c :: css, j, u, hs, h => by
    rw [List.flatten_cons] at h
    have hc := hs c (by simp)
    by_cases hj : j < c.length
    · rw [List.getElem?_append_left hj] at h
      exact ⟨0, j, c, by rw [Nat.zero_mul, Nat.zero_add], rfl, h⟩
    · rw [List.getElem?_append_right (by omega)] at h
      obtain ⟨i, r, cs, h1, h2, h3⟩ := flat_get (fun x hx => hs x (List.mem_cons_of_mem _ hx)) h
      refine ⟨i + 1, r, cs, ?_, h2, h3⟩
      rw [Nat.add_mul, Nat.one_mul]
      omega
theorem flat_len {sz : Nat} : ∀ {css : List (List Value)}, (∀ c ∈ css, c.length = sz) → css.flatten.length = css.length * sz
  | [], _ => by simp
  | c :: css, hs => by
    rw [List.flatten_cons, List.length_append, hs c (by simp), flat_len fun x hx => hs x (List.mem_cons_of_mem _ hx), List.length_cons, Nat.add_mul]
    omega
theorem rec_one {G : GH} {x : Rc} {cs : List Value} (h : RcR G x cs) : cs.length = 12 ∧ cs.all Value.oneCell' = true := by
  obtain ⟨iv, rfl, -, -, hi⟩ := h
  obtain ⟨A, c, rfl, -⟩ := hi.openInt
  exact ⟨rfl, rfl⟩
theorem rsFlat {G : GH} {v : Value} {l : List Rc} (hs : Rs G v l) : ∃ css : List (List Value), css.length = l.length ∧ (∀ (i : Nat) x cs, l[i]? = some x → css[i]? = some cs → RcR G x cs) ∧ (∀ μ, Go.Vx.Src G μ v l.length 12 css.flatten) ∧ css.flatten.all Value.oneCell' = true := by
  obtain ⟨A, c, rfl, h1, h2, h3, h4⟩ := hs.open
  have key : ∀ i, ∃ cs : List Value, ∀ x, l[i]? = some x → cs.length = 12 ∧ RcR G x cs ∧ CellsG G ((adr A).add (i * 12)) cs := fun i => by
    cases hx : l[i]? with
    | none => exact ⟨[], fun x h => by cases h⟩
    | some y =>
      obtain ⟨cs, k1, k2, k3⟩ := h4 i y hx
      exact ⟨cs, fun x h => by cases h; exact ⟨k1, k2, k3⟩⟩
  let f := fun i => Classical.choose (key i)
  have hf : ∀ i x, l[i]? = some x → (f i).length = 12 ∧ RcR G x (f i) ∧ CellsG G ((adr A).add (i * 12)) (f i) := fun i => Classical.choose_spec (key i)
  have hget : ∀ i cs, ((List.range l.length).map f)[i]? = some cs → ∃ x, l[i]? = some x ∧ cs = f i := fun i cs hc => by
    rw [List.getElem?_map] at hc
    obtain ⟨j, hj, rfl⟩ := Option.map_eq_some_iff.1 hc
    obtain ⟨hj1, hj2⟩ := List.getElem?_eq_some_iff.1 hj
    rw [List.length_range] at hj1
    rw [List.getElem_range] at hj2
    subst hj2
    exact ⟨_, List.getElem?_eq_getElem hj1, rfl⟩
  have hlen : ∀ cs ∈ (List.range l.length).map f, cs.length = 12 := fun cs hc => by
    obtain ⟨i, hi, rfl⟩ := List.getElem_of_mem hc
    obtain ⟨x, hx, he⟩ := hget i _ (List.getElem?_eq_getElem hi)
    rw [he]
    exact (hf i x hx).1
  refine ⟨(List.range l.length).map f, by simp, fun i x cs hx hc => ?_, fun μ => ?_, ?_⟩
  · obtain ⟨y, hy, rfl⟩ := hget i cs hc
    exact (hf i x hx).2.1
  · refine ⟨by rw [flat_len hlen]; simp, A, c, rfl, fun h0 => ?_⟩
    have hA := h3 h0
    obtain ⟨a, rfl⟩ := Option.isSome_iff_exists.1 hA
    refine ⟨a, rfl, CellsAt.frozen fun j u hu => ?_⟩
    obtain ⟨i, r, cs, rfl, hi, hr⟩ := flat_get hlen hu
    obtain ⟨y, hy, rfl⟩ := hget i cs hi
    have := (hf i y hy).2.2 r u hr
    rw [add_add] at this
    exact this
  · rw [List.all_eq_true]
    intro u hu
    obtain ⟨cs, hcs, hu⟩ := List.mem_flatten.1 hu
    obtain ⟨i, hi, rfl⟩ := List.getElem_of_mem hcs
    obtain ⟨x, hx, he⟩ := hget i _ (List.getElem?_eq_getElem hi)
    rw [he] at hu
    exact List.all_eq_true.1 (rec_one (hf i x hx).2.1).2 u hu
theorem one_rs {G : GH} {b : Nat} {e : TypeId} {x : Rc} {rx : List Value} (h : G b = some (.cells rx.toArray e (0, 0))) (hx : RcR G x rx) : Rs G (.slice (some ⟨b, 0, none⟩) 1 1) [x] := by
  refine ⟨some ⟨b, 0, none⟩, 1, rfl, by simp, by simp [maxLen], fun _ => ⟨_, rfl, fun i y hy => ?_⟩⟩
  have hi : i < 1 := by
    have := (List.getElem?_eq_some_iff.1 hy).1
    simpa using this
  obtain rfl : i = 0 := by omega
  have : y = x := by simpa using hy.symm
  subst this
  refine ⟨rx, (rec_one hx).1, hx, fun j v hv => ?_⟩
  rw [add_mk, add_mk, Nat.zero_add]
  simp only [GH.cell?, h, Option.isSome_none, Bool.false_eq_true, if_false]
  rw [List.getElem?_toArray]
  simpa using hv
theorem zeroCm_okV : zeroCm.ok := ⟨by decide, by decide, by decide, by decide, by decide, by decide, by decide⟩
theorem chk_one {l : List Ent} (h : chkK l 0 = 0) : ∀ e ∈ l, oneI e = 0 := fun e he => by
  obtain ⟨i, hi, rfl⟩ := List.getElem_of_mem he
  exact chk_all (l.length - 0) 0 rfl h i hi (by omega)
def CheckP (H : Hd) : Prop := mayP H.pr H.pn ∧ (0 ≤ H.base ∧ H.base ≤ 4294967296) ∧ H.image.length ≤ 32768 ∧ (0 < H.base ↔ 0 < H.image.length) ∧ chkK H.acc 0 = 0 ∧ chkK H.cho 0 = 0 ∧ (∀ e ∈ H.acc, H.base < e.index ∧ e.round ≠ 0 ∧ ¬ lessP H.pr H.pn e.round e.node) ∧ (∀ e ∈ H.cho, H.base < e.index ∧ e.round = 0)
noncomputable instance (H : Hd) : Decidable (CheckP H) := Classical.propDecidable _
theorem one_parts {e : Ent} (h : oneI e = 0) : 1 ≤ e.index ∧ e.index ≤ 4294967296 ∧ mayP e.round e.node ∧ cmdI e.cmd = 0 := by
  unfold oneI at h
  split at h
  · omega
  · rename_i hc
    have h1 : ¬ e.index < 1 := fun hh => hc (.inl hh)
    have h2 : ¬ 4294967296 < e.index := fun hh => hc (.inr (.inl hh))
    have h3 : mayP e.round e.node := Decidable.not_not.1 fun hh => hc (.inr (.inr hh))
    exact ⟨by omega, by omega, h3, h⟩
def imgRec (b : Int) (im : List Int) : Rc := ⟨4, 0, 0, b, zeroCm, im⟩
theorem img_ok {b : Int} {im : List Int} (hb : 1 ≤ b ∧ b ≤ 4294967296) (hl : 0 < im.length ∧ im.length ≤ 32768) : chkI (imgRec b im) = 0 := by
  show recI 4 0 0 b zeroCm im.length = 0
  unfold recI ranP
  rw [if_neg (by omega), if_neg (fun hh => hh ⟨fun h => by omega, fun _ => hb⟩), if_neg (by omega), if_neg (by omega), if_neg]
  unfold othP
  rintro (⟨_, h⟩ | ⟨h, _⟩ | ⟨_, h⟩ | h)
  · exact h ⟨rfl, rfl⟩
  · omega
  · exact h rfl
  · exact h ⟨fun _ => hl.1, fun _ => rfl⟩
theorem idx_s {G : GH} {l : List Ent} {sv : Value} (hs : Es G sv l) (f : FuncId) [Callable Tryz.prog f] (cap : List Value) (μ1 : OH) (p : Ent → Bool) (hf : ∀ e ∈ l, Con Tryz.prog f ([] ++ [Value.agg e.cells.toArray] ++ cap).toArray G μ1 (Keeps (.bool (p e)) G μ1)) :
    Con Tryz.prog 128 #[sv, .func (.func f) #[] cap.toArray] G μ1 (fun r G' μ' => G' = G ∧ μ' = μ1 ∧ ∃ z, r = .int .i64 z ∧ (0 ≤ z ↔ l.any p = true) ∧ -1 ≤ z) := by
  obtain ⟨A, c, rfl, hlc, hcm, hsome, hcp, -, -, hok⟩ := esOpen hs
  simp only [maxLen] at hcm
  (refine v_enter Tryz.func128 rfl Tryz.ntmps128 rfl ?_; intro B _)
  repeat' (first | apply v_seq | apply v_region | apply v_nil | apply v_block | (apply v_pure; (case hop => first | (apply p_move <;> rfl) | (apply p_assign <;> rfl) | (apply p_lenSlice <;> rfl) | fail); (case hd => rfl)) | fail)
  refine v_loop [8, 7, 0, 1] (fun us G' μ' => G' = G ∧ μ' = μ1 ∧ ∃ k, k ≤ l.length ∧ us = [Value.int .i64 (k : Nat), .int .i64 (l.length : Nat), .slice A l.length c, .func (.func f) #[] cap.toArray] ∧ ∀ i (h : i < l.length), i < k → p l[i] = false) (fun us => l.length - (headI us).toNat) rfl ⟨rfl, rfl, 0, by omega, rfl, by omega⟩ ?_
  rintro us G' μ' ⟨rfl, rfl, k, hk, rfl, hno⟩
  have e1 : ((k : Nat) : Int).toNat = k := by omega
  by_cases hlt : k < l.length
  · have kc := hcp k hlt
    have hfk := hf _ (List.getElem_mem hlt)
    cases hpe : p l[k]
    · rw [hpe] at hfk
      repeat' (first | apply v_seq | apply v_region | apply v_nil | apply v_skip | apply v_block | apply v_blk | (apply v_pure; (case hop => first | (apply p_move <;> rfl) | (apply p_lt <;> rfl) | (apply p_assign <;> rfl) | (apply p_add; (case hx => rfl); (case hy => rfl); (case h => omega)) | (apply p_indexAddrS; (case hx => rfl); (case hi => rfl); (case h0 => omega); (case h => omega); (case hA => (apply_assumption; omega))) | fail); (case hd => rfl)) | (apply v_condF; (case hc => rfl)) | (apply v_cond; (case hc => rfl); all_goals (intro h; (try simp only [reduceCtorEq, zzz] at h); first | (exfalso; omega) | skip)) | (apply v_read; (case hop => (apply r_loadN; rfl; exact CellsAt.frozen kc; rfl)); (case hd => rfl)) | (apply v_callCK (first := []) (captured := cap) (hs := hfk) (hx := rfl) (ha := rfl) (hp := (by simp : List.Perm _ (_ ++ [])));  (case hd => rfl)) | fail)
      refine v_again rfl ⟨rfl, rfl, k + 1, by omega, rfl, fun i h hi => ?_⟩ (by simp [headI]; omega)
      by_cases hik : i = k
      · subst hik; exact hpe
      · exact hno i h (by omega)
    · rw [hpe] at hfk
      repeat' (first | apply v_seq | apply v_region | apply v_nil | apply v_skip | apply v_block | (apply v_pure; (case hop => first | (apply p_move <;> rfl) | (apply p_lt <;> rfl) | (apply p_assign <;> rfl) | (apply p_indexAddrS; (case hx => rfl); (case hi => rfl); (case h0 => omega); (case h => omega); (case hA => (apply_assumption; omega))) | fail); (case hd => rfl)) | (apply v_condT; (case hc => rfl)) | (apply v_cond; (case hc => rfl); all_goals (intro h; (try simp only [reduceCtorEq, zzz] at h); first | (exfalso; omega) | skip)) | (apply v_read; (case hop => (apply r_loadN; rfl; exact CellsAt.frozen kc; rfl)); (case hd => rfl)) | (apply v_callCK (first := []) (captured := cap) (hs := hfk) (hx := rfl) (ha := rfl) (hp := (by simp : List.Perm _ (_ ++ [])));  (case hd => rfl)) | fail)
      refine v_ret μ' (outsA1 rfl rfl) (List.Sublist.refl _) ?_
      refine ⟨rfl, rfl, _, rfl, ⟨fun _ => ?_, fun _ => by omega⟩, by omega⟩
      rw [List.any_eq_true]
      exact ⟨_, List.getElem_mem hlt, hpe⟩
  · repeat' (first | apply v_seq | apply v_region | apply v_nil | (apply v_exit; (case hp => rfl)) | (apply v_pure; (case hop => first | (apply p_lt <;> rfl) | (apply p_assign <;> rfl) | fail); (case hd => rfl)) | (apply v_cond; (case hc => rfl); all_goals (intro h; (try simp only [reduceCtorEq, zzz] at h); first | (exfalso; omega) | skip)) | fail)
    refine v_ret μ' (outsA1 rfl rfl) (List.Sublist.refl _) ?_
    refine ⟨rfl, rfl, _, rfl, ⟨fun h => by omega, fun h => ?_⟩, by omega⟩
    rw [List.any_eq_true] at h
    obtain ⟨e, he, h⟩ := h
    obtain ⟨i, hi, rfl⟩ := List.getElem_of_mem he
    rw [hno i hi (by omega)] at h
    cases h
theorem has_s {G : GH} {l : List Ent} {sv : Value} (hs : Es G sv l) (f : FuncId) [Callable Tryz.prog f] (cap : List Value) (μ1 : OH) (p : Ent → Bool) (hf : ∀ e ∈ l, Con Tryz.prog f ([] ++ [Value.agg e.cells.toArray] ++ cap).toArray G μ1 (Keeps (.bool (p e)) G μ1)) :
    Con Tryz.prog 85 #[sv, .func (.func f) #[] cap.toArray] G μ1 (Keeps (.bool (l.any p)) G μ1) := by
  have q := idx_s hs f cap μ1 p hf
  apply Con.keeps
  (refine v_enter Tryz.func85 rfl Tryz.ntmps85 rfl ?_; intro B _)
  repeat' (first | apply v_seq | apply v_region | apply v_nil | (apply v_pure; (case hop => first | (apply p_move <;> rfl) | (apply p_assign <;> rfl)); (case hd => rfl)) | fail)
  refine v_call (μ1 := μ1) (μ2 := []) rfl q (by simp) rfl ?_
  rintro _ G1 μ1 - ⟨rfl, rfl, z, rfl, hz, -⟩
  repeat' (first | apply v_nil | (apply v_pure; (case hop => first | (apply p_ge <;> rfl) | (apply p_assign <;> rfl)); (case hd => rfl)) | fail)
  refine v_ret μ1 (outsA1 rfl rfl) (List.sublist_append_left _ _) ?_
  refine ⟨?_, rfl⟩
  rw [dec_eq]
  congr 1
  rw [Bool.eq_iff_iff, decide_eq_true_iff, hz]
def accBad (H : Hd) (e : Ent) : Bool := decide (e.index ≤ H.base ∨ (e.round = 0 ∧ e.node = 0) ∨ lessP H.pr H.pn e.round e.node)
def choBad (H : Hd) (e : Ent) : Bool := decide (e.index ≤ H.base ∨ ¬ (e.round = 0 ∧ e.node = 0))
theorem acc1_s (G : GH) (hb : Nat) (H : Hd) (iv av cv : Value) (x : Ent) : Con Tryz.prog 82 #[.agg x.cells.toArray, .pointer (some ⟨hb, 0, none⟩)] G [(hb, hardO (hdL H.pr H.pn H.base iv av cv))] (Keeps (.bool (accBad H x)) G [(hb, hardO (hdL H.pr H.pn H.base iv av cv))]) := by
  have ql := less_s G H.pr H.pn x.round x.node
  unfold accBad
  generalize hlb : decide (lessP H.pr H.pn x.round x.node) = lb at *
  apply Con.keeps
  (refine v_enter Tryz.func82 rfl Tryz.ntmps82 rfl ?_; intro B _)
  repeat' (first | (apply v_pure; (case hop => (apply eqBal; (case hx => rfl); (case hy => rfl))); (case hd => rfl)) | apply v_seq | apply v_region | apply v_nil | (apply v_take; (case hg => rfl)) | (apply v_pass; (case hg => rfl); (case hn => rfl); (case hd => rfl)) | (apply v_pure; (case hop => first | (apply p_move <;> rfl) | (apply p_le <;> rfl) | (apply p_assign <;> rfl) | (apply p_pickT <;> rfl) | (apply p_pickF <;> rfl) | (apply p_fieldAddrB <;> rfl) | (apply p_build; (case hz => rfl); (case hv => (simp only [List.map_cons, List.map_nil]; repeat (with_reducible exact evs_nil))); (case hb => (apply bldL; repeat (exact bld_nil)))) | fail); (case hd => rfl)) | (apply v_guardB; (case h1 => rfl); (case h2 => rfl); all_goals (intro h; (try simp only [reduceCtorEq, zzz] at h))) | (apply v_box (zs := x.cells); (case hx => rfl); (case hz => rfl); (case hd => rfl); intro b) | (apply v_callJ (hs := ql); (case ha => rfl); (case hd => rfl)) | (apply v_read; (case hop => first | (apply r_loadNo; (case hx => rfl); (case h => (repeat (first | exact mhd _ | apply mtl))); (case hd => (repeat (first | with_reducible exact dt_nil | apply dt_here))); (case hn => rfl)) | (apply r_load1; rfl; (apply Cell.own; (case h => (repeat (first | exact mhd _ | apply mtl))); rfl)) | fail); (case hd => rfl)) | fail)
  all_goals
    (refine v_ret [(hb, _)] (outsA1 rfl rfl) (by repeat (first | exact List.Sublist.refl _ | apply List.Sublist.cons)) ?_
     refine ⟨?_, rfl⟩)
  · rw [decide_eq_true (.inl h)]
  · rw [decide_eq_true (.inr (.inl h))]
  · subst hlb
    congr 1
    rw [decide_eq_decide]
    exact ⟨fun hh => .inr (.inr hh), fun hh => by
      obtain hh | hh | hh := hh
      · contradiction
      · contradiction
      · exact hh⟩
theorem cho1_s (G : GH) (hb : Nat) (H : Hd) (iv av cv : Value) (x : Ent) : Con Tryz.prog 84 #[.agg x.cells.toArray, .pointer (some ⟨hb, 0, none⟩)] G [(hb, hardO (hdL H.pr H.pn H.base iv av cv))] (Keeps (.bool (choBad H x)) G [(hb, hardO (hdL H.pr H.pn H.base iv av cv))]) := by
  unfold choBad
  apply Con.keeps
  (refine v_enter Tryz.func84 rfl Tryz.ntmps84 rfl ?_; intro B _)
  repeat' (first | (apply v_pure; (case hop => (apply neBal; (case hx => rfl); (case hy => rfl))); (case hd => rfl)) | apply v_seq | apply v_region | apply v_nil | (apply v_take; (case hg => rfl)) | (apply v_pass; (case hg => rfl); (case hn => rfl); (case hd => rfl)) | (apply v_pure; (case hop => first | (apply p_move <;> rfl) | (apply p_le <;> rfl) | (apply p_assign <;> rfl) | (apply p_pickT <;> rfl) | (apply p_pickF <;> rfl) | (apply p_fieldAddrB <;> rfl) | (apply p_build; (case hz => rfl); (case hv => (simp only [List.map_cons, List.map_nil]; repeat (with_reducible exact evs_nil))); (case hb => (apply bldL; repeat (exact bld_nil)))) | fail); (case hd => rfl)) | (apply v_guardB; (case h1 => rfl); (case h2 => rfl); all_goals (intro h; (try simp only [reduceCtorEq, zzz] at h))) | (apply v_box (zs := x.cells); (case hx => rfl); (case hz => rfl); (case hd => rfl); intro b) | (apply v_read; (case hop => first | (apply r_loadNo; (case hx => rfl); (case h => (repeat (exact mhd _))); (case hd => (repeat (first | with_reducible exact dt_nil | apply dt_here))); (case hn => rfl)) | (apply r_load1; rfl; (apply Cell.own; (case h => (repeat (first | exact mhd _ | apply mtl))); rfl)) | fail); (case hd => rfl)) | fail)
  all_goals
    (refine v_ret [(hb, _)] (outsA1 rfl rfl) (by repeat (first | exact List.Sublist.refl _ | apply List.Sublist.cons)) ?_
     refine ⟨?_, rfl⟩)
  · rw [decide_eq_true (.inl h)]
  · congr 1
    rw [dec_eq, ← decide_not, decide_eq_decide]
    exact ⟨fun hh => .inr hh, fun hh => by
      obtain hh | hh := hh
      · contradiction
      · exact hh⟩
theorem chk_iff (H : Hd) : CheckP H ↔ mayP H.pr H.pn ∧ ¬ H.base < 0 ∧ ¬ (H.base = 0 ∧ 0 < H.image.length) ∧ (0 < H.base → recI 4 0 0 H.base zeroCm H.image.length = 0) ∧ chkK H.acc 0 = 0 ∧ chkK H.cho 0 = 0 ∧ H.acc.any (accBad H) = false ∧ H.cho.any (choBad H) = false := by
  constructor
  · rintro ⟨h1, h2, h3, h4, h5, h6, h7, h8⟩
    refine ⟨h1, by omega, by omega, fun hb => img_ok (b := H.base) (im := H.image) (by omega) (by omega), h5, h6, ?_, ?_⟩
    · rw [List.any_eq_false]
      intro e he
      obtain ⟨a1, a2, a3⟩ := h7 e he
      unfold accBad
      rw [decide_eq_true_iff]
      rintro (h | h | h)
      · omega
      · exact a2 h.1
      · exact a3 h
    · rw [List.any_eq_false]
      intro e he
      obtain ⟨a1, a2⟩ := h8 e he
      have hm := (one_parts (chk_one h6 e he)).2.2.1
      unfold mayP at hm
      unfold choBad
      rw [decide_eq_true_iff]
      omega
  · rintro ⟨h1, h2, h3, h4, h5, h6, h7, h8⟩
    have hb : H.base ≤ 4294967296 ∧ H.image.length ≤ 32768 ∧ (0 < H.base ↔ 0 < H.image.length) := by
      by_cases h0 : 0 < H.base
      · obtain ⟨-, r2, r3, -, r5⟩ := rec0 (h4 h0)
        have r2' := r2.2 (.inr (.inr rfl))
        have r6 : (4 : Int) = 4 ↔ 0 < H.image.length := Decidable.not_not.1 fun hh => r5 (.inr (.inr (.inr hh)))
        have := r6.1 rfl
        omega
      · omega
    refine ⟨h1, by omega, hb.2.1, hb.2.2, h5, h6, fun e he => ?_, fun e he => ?_⟩
    · have ha := List.any_eq_false.1 h7 e he
      have hm := (one_parts (chk_one h5 e he)).2.2.1
      unfold accBad at ha
      rw [decide_eq_true_iff] at ha
      unfold mayP at hm
      exact ⟨by omega, by omega, fun h => ha (.inr (.inr h))⟩
    · have ha := List.any_eq_false.1 h8 e he
      unfold choBad at ha
      rw [decide_eq_true_iff] at ha
      omega
theorem hChk_s {G : GH} (hT : TabsG G) {H : Hd} {L : List Value} (hh : HdV G H L) : Con Tryz.prog 48 #[.agg L.toArray] G [] (Just (.int .i64 (if CheckP H then 0 else 3)) G) := by
  obtain ⟨iv, av, cv, rfl, hi, ha, hc⟩ := hh
  obtain ⟨A0, c0, rfl, hl0, hm0, -⟩ := hi.openInt
  simp only [maxLen] at hm0
  have qm := may_s G H.pr H.pn
  have qr := recCheck_s hT 4 0 0 H.base zeroCm zeroCm_okV A0 H.image.length c0 (by omega)
  have qa := entCheck_s hT ha
  have qc := entCheck_s hT hc
  have qA := fun hb => has_s ha 82 [.pointer (some ⟨hb, 0, none⟩)] [(hb, hardO (hdL H.pr H.pn H.base (.slice A0 H.image.length c0) av cv))] (accBad H) (fun e _ => acc1_s G hb H (.slice A0 H.image.length c0) av cv e)
  have qC := fun hb => has_s hc 84 [.pointer (some ⟨hb, 0, none⟩)] [(hb, hardO (hdL H.pr H.pn H.base (.slice A0 H.image.length c0) av cv))] (choBad H) (fun e _ => cho1_s G hb H (.slice A0 H.image.length c0) av cv e)
  have hiff := chk_iff H
  obtain ⟨A1, c1, rfl, -⟩ := ha.open
  obtain ⟨A2, c2, rfl, -⟩ := hc.open
  generalize hb1 : decide (mayP H.pr H.pn) = b1 at *
  generalize recI 4 0 0 H.base zeroCm H.image.length = I1 at *
  generalize chkK H.acc 0 = I2 at *
  generalize chkK H.cho 0 = I3 at *
  generalize hb4 : H.acc.any (accBad H) = b4 at *
  generalize hb5 : H.cho.any (choBad H) = b5 at *
  apply Con.just
  (refine v_enter Tryz.func48 rfl Tryz.ntmps48 rfl ?_; intro B _)
  repeat' (first | apply v_seq | apply v_region | apply v_nil | apply v_skip | (apply v_take; (case hg => rfl)) | (apply v_pass; (case hg => rfl); (case hn => rfl); (case hd => rfl)) | (apply v_passN; (case hg => rfl); (case hn => rfl); (case hd => rfl)) | (apply v_pure; (case hop => first | (apply p_move <;> rfl) | (apply p_eq <;> rfl) | (apply p_lt <;> rfl) | (apply p_gt <;> rfl) | (apply p_ne <;> rfl) | (apply p_assign <;> rfl) | (apply p_pickT <;> rfl) | (apply p_pickF <;> rfl) | (apply p_not <;> rfl) | (apply p_lenSlice <;> rfl) | (apply p_fieldAddrB <;> rfl) | (apply p_makeFunc <;> rfl) | (apply p_build; (case hz => rfl); (case hv => (simp only [List.map_cons, List.map_nil]; repeat (first | with_reducible exact evs_nil | (apply evs_cons; (case h1 => rfl))))); (case hb => (apply bldL; repeat (first | exact bld_nil | (apply bld_cons; (case hpf => rfl); (case hc => rfl); (case hs => rfl); (case hl => rfl); (case ho => ((repeat (first | with_reducible exact ov_nil | apply ov_cons)); done))))))) | fail); (case hd => rfl)) | (apply v_condT; (case hc => rfl)) | (apply v_condF; (case hc => rfl)) | (apply v_cond; (case hc => rfl); all_goals (intro h; (try simp only [reduceCtorEq, zzz] at h))) | (apply v_guardB; (case h1 => rfl); (case h2 => rfl); all_goals (intro h; (try simp only [reduceCtorEq, zzz] at h); first | (exfalso; omega) | skip)) | (apply v_callJ (hs := qm); (case ha => rfl); (case hd => rfl)) | (apply v_callJ (hs := qr); (case ha => rfl); (case hd => rfl)) | (apply v_callJ (hs := qa); (case ha => rfl); (case hd => rfl)) | (apply v_callJ (hs := qc); (case ha => rfl); (case hd => rfl)) | (apply v_callK (hs := qA _); (case ha => rfl); (case hp => exact (Pick.perm (by repeat (exact Pick.here _)))); (case hd => rfl)) | (apply v_callK (hs := qC _); (case ha => rfl); (case hp => exact (Pick.perm (by repeat (exact Pick.here _)))); (case hd => rfl)) | (apply v_read; (case hop => first | (apply r_loadNo; (case hx => rfl); (case h => (repeat (exact mhd _))); (case hd => (repeat (first | with_reducible exact dt_nil | apply dt_here))); (case hn => rfl)) | (apply r_load1; rfl; (apply Cell.own; (case h => (repeat (exact mhd _))); rfl)) | fail); (case hd => rfl)) | (apply v_box; (case hx => rfl); (case hz => rfl); (case hd => rfl); intro b) | fail)
  all_goals
    (refine v_ret [] (outsA1 rfl rfl) (by repeat (exact List.nil_sublist _)) ?_
     refine ⟨?_, rfl⟩
     first
       | (rw [if_pos (hiff.2 ⟨of_decide_eq_true (hb1.trans (by assumption)), by omega, by omega, fun _ => by omega, by assumption, by assumption, by assumption, by assumption⟩)]; done)
       | (rw [if_neg (fun hh => by
            obtain ⟨z1, z2, z3, z4, z5, z6, z7, z8⟩ := hiff.1 hh
            first
              | omega
              | exact absurd ((decide_eq_true z1).symm.trans (hb1.trans ‹b1 = false›)) (by decide)
              | exact absurd (z7.symm.trans ‹b4 = true›) (by decide)
              | exact absurd (z8.symm.trans ‹b5 = true›) (by decide))]; done)
       | skip)
def promRec (r n : Int) : Rc := ⟨1, r, n, 0, zeroC, []⟩
def accRec (e : Ent) : Rc := ⟨2, e.round, e.node, e.index, e.cmd, []⟩
def choRec (e : Ent) : Rc := ⟨3, 0, 0, e.index, e.cmd, []⟩
def recsOf (H : Hd) : List Rc := (if 0 < H.base then [imgRec H.base H.image] else []) ++ ((if H.pr = 0 ∧ H.pn = 0 then [] else [promRec H.pr H.pn]) ++ (H.acc.map accRec ++ H.cho.map choRec))
theorem recs_ok {H : Hd} {n : Nat} (g : Good n H) : ∀ x ∈ recsOf H, x.cmd.ok ∧ x.small := by
  have hm := g.may
  have hb := g.base
  unfold mayP at hm
  intro x hx
  unfold recsOf at hx
  simp only [List.mem_append, List.mem_map] at hx
  obtain hx | hx | ⟨e, he, rfl⟩ | ⟨e, he, rfl⟩ := hx
  · split at hx
    · rw [List.mem_singleton] at hx
      subst hx
      refine ⟨zeroC_ok, ?_⟩
      unfold Rc.small imgRec
      simp only
      omega
    · simp at hx
  · split at hx
    · simp at hx
    · rw [List.mem_singleton] at hx
      subst hx
      refine ⟨zeroC_ok, ?_⟩
      unfold Rc.small promRec
      simp only
      omega
  · obtain ⟨a1, a2, a3, a4, a5⟩ := g.acc e he
    obtain ⟨b1, b2, b3, b4⟩ := one_parts a1
    unfold mayP at b3
    refine ⟨a2.2.2.2, ?_⟩
    unfold Rc.small accRec
    simp only
    omega
  · obtain ⟨a1, a2, a3, a4, a5⟩ := g.cho e he
    obtain ⟨b1, b2, b3, b4⟩ := one_parts a1
    refine ⟨a2.2.2.2, ?_⟩
    unfold Rc.small choRec
    simp only
    omega
noncomputable def errsF (f : Int) : List Rc → Int
  | [] => 0
  | x :: l => if errF f x = 0 then errsF f l else errF f x
noncomputable def hasF (f : Int) (l : List Rc) : Int := if f = 1 ∨ f = 2 then errsF f l else 8
theorem errsF_drop {f : Int} {l : List Rc} {k : Nat} (h : k < l.length) : errsF f (l.drop k) = if errF f l[k] = 0 then errsF f (l.drop (k + 1)) else errF f l[k] := by
  rw [List.drop_eq_getElem_cons h]
  rfl
theorem has20_s {G : GH} (f : Int) {l : List Rc} {lv : Value} (hs : Rs G lv l) : Con Tryz.prog 13 #[.int .i64 f, lv] G [] (Just (.int .i64 (hasF f l)) G) := by
  obtain ⟨A, c, ivf, rfl, hlc, hcm, hsome, hcp, him, hok⟩ := rsOpen hs
  simp only [maxLen] at hcm
  apply Con.just
  unfold hasF
  by_cases hf : f = 1 ∨ f = 2
  · rw [if_pos hf]
    (refine v_enter Tryz.func13 rfl Tryz.ntmps13 rfl ?_; intro B _)
    repeat' (first | apply v_seq | apply v_region | apply v_nil | apply v_skip | apply v_block | (apply v_take; (case hg => rfl)) | (apply v_pure; (case hop => first | (apply p_move <;> rfl) | (apply p_lt <;> rfl) | (apply p_gt <;> rfl) | (apply p_assign <;> rfl) | (apply p_pickF <;> rfl) | fail); (case hd => rfl)) | (apply v_cond; (case hc => rfl); all_goals (intro h; (try simp only [reduceCtorEq, zzz] at h); first | (exfalso; omega) | skip)) | (apply v_guardB; (case h1 => rfl); (case h2 => rfl); all_goals (intro h; (try simp only [reduceCtorEq, zzz] at h); first | (exfalso; omega) | skip)) | fail)
    all_goals first
      | (exfalso; omega)
      | skip
    refine v_loop [5, 0, 1] (fun us G' μ' => G' = G ∧ ∃ k : Nat, k ≤ l.length ∧ errsF f l = errsF f (l.drop k) ∧ us = [Value.int .i64 (k : Nat), .int .i64 f, .slice A l.length c] ∧ μ' = []) (fun us => l.length - (headI us).toNat) rfl ⟨rfl, 0, by omega, rfl, rfl, rfl⟩ ?_
    rintro us G' _ ⟨hG', k, hk, he, rfl, rfl⟩
    subst G'
    have e1 : ((k : Nat) : Int).toNat = k := by omega
    by_cases hlt : k < l.length
    · have hA := hsome (by omega)
      have hcx := hcp k hlt
      have hix := him k hlt
      have hcok := hok _ (List.getElem_mem hlt)
      have hd := errsF_drop (f := f) hlt
      have hx : RcV G l[k] (.agg (recL l[k].kind l[k].round l[k].node l[k].index l[k].cmd (ivf k)).toArray) := ⟨_, rfl, hix⟩
      have q := refHasV_s f hx hcok.1
      rw [show hasI f l[k] = errF f l[k] by unfold errF; rw [if_pos hf]] at q
      obtain ⟨Ai, ci, hie, -⟩ := hix.openInt
      rw [hie] at q hcx
      generalize l[k] = x at *
      generalize errF f x = e at *
      repeat' (first | apply v_seq | apply v_region | apply v_nil | apply v_skip | apply v_block | apply v_blk | (apply v_pure; (case hop => first | (apply p_move <;> rfl) | (apply p_lt <;> rfl) | (apply p_ne <;> rfl) | (apply p_assign <;> rfl) | (apply p_lenSlice <;> rfl) | (apply p_add; (case hx => rfl); (case hy => rfl); (case h => omega)) | (apply p_indexAddrS; (case hx => rfl); (case hi => rfl); (case h0 => omega); (case h => omega); (case hA => assumption)) | fail); (case hd => rfl)) | (apply v_cond; (case hc => rfl); all_goals (intro h; (try simp only [reduceCtorEq, zzz] at h); first | (exfalso; omega) | skip)) | (apply v_read; (case hop => (apply r_loadN; rfl; exact CellsAt.frozen hcx; rfl)); (case hd => rfl)) | (apply v_callJ (hs := q); (case ha => rfl); (case hd => rfl)) | fail)
      all_goals first
        | (refine v_ret [] (outsA1 rfl rfl) (by repeat (exact List.Sublist.refl _)) ?_
           exact ⟨by rw [he, hd, if_neg (by assumption)], rfl⟩)
        | exact v_again rfl ⟨rfl, k + 1, by omega, by rw [he, hd, if_pos (by assumption)], rfl, rfl⟩ (by simp [headI]; omega)
        | skip
      all_goals vx_show
    · obtain rfl : k = l.length := by omega
      rw [List.drop_length] at he
      repeat' (first | apply v_seq | apply v_region | apply v_nil | (apply v_exit; (case hp => rfl)) | (apply v_pure; (case hop => first | (apply p_move <;> rfl) | (apply p_lt <;> rfl) | (apply p_assign <;> rfl) | (apply p_lenSlice <;> rfl) | fail); (case hd => rfl)) | (apply v_cond; (case hc => rfl); all_goals (intro h; (try simp only [reduceCtorEq, zzz] at h); first | (exfalso; omega) | skip)) | fail)
      refine v_ret [] (outsA1 rfl rfl) (by repeat (exact List.Sublist.refl _)) ?_
      exact ⟨by rw [he]; rfl, rfl⟩
  · rw [if_neg hf]
    (refine v_enter Tryz.func13 rfl Tryz.ntmps13 rfl ?_; intro B _)
    repeat' (first | apply v_seq | apply v_region | apply v_nil | (apply v_take; (case hg => rfl)) | (apply v_pass; (case hg => rfl); (case hn => rfl); (case hd => rfl)) | (apply v_pure; (case hop => first | (apply p_move <;> rfl) | (apply p_lt <;> rfl) | (apply p_gt <;> rfl) | (apply p_assign <;> rfl) | (apply p_pickT <;> rfl) | (apply p_pickF <;> rfl) | fail); (case hd => rfl)) | (apply v_condT; (case hc => rfl)) | (apply v_cond; (case hc => rfl); all_goals (intro h; (try simp only [reduceCtorEq, zzz] at h); first | (exfalso; omega) | skip)) | (apply v_guardB; (case h1 => rfl); (case h2 => rfl); all_goals (intro h; (try simp only [reduceCtorEq, zzz] at h))) | fail)
    all_goals first
      | (refine v_ret [] (outsA1 rfl rfl) (by repeat (exact List.Sublist.refl _)) ?_
         exact ⟨rfl, rfl⟩)
      | (exfalso; omega)
      | skip
    all_goals vx_show
def GrowR (G : GH) (v : Value) (l : List Rc) (ν : OH) : Prop := ∃ css : List (List Value), css.length = l.length ∧ (∀ (i : Nat) y cs, l[i]? = some y → css[i]? = some cs → RcR G y cs) ∧ Grow 42 12 v l.length css.flatten ν
theorem GrowR.none (G : GH) : GrowR G (.slice none 0 0) [] [] := ⟨[], rfl, fun i y cs h => by simp at h, Grow.nil _ _⟩
theorem GrowR.le {G G' : GH} (hle : GH.le G G') {v : Value} {l : List Rc} {ν : OH} (h : GrowR G v l ν) : GrowR G' v l ν := by
  obtain ⟨css, h1, h2, h3⟩ := h
  exact ⟨css, h1, fun i y cs hy hc => (h2 i y cs hy hc).le hle, h3⟩
theorem GrowR.snoc {G : GH} {v' : Value} {l : List Rc} {x : Rc} {rx : List Value} {ν' : OH} {css : List (List Value)} (h1 : css.length = l.length) (h2 : ∀ (i : Nat) y cs, l[i]? = some y → css[i]? = some cs → RcR G y cs) (h : Grow 42 12 v' (l.length + 1) (css.flatten ++ rx) ν') (hx : RcR G x rx) : GrowR G v' (l ++ [x]) ν' := by
  refine ⟨css ++ [rx], by simp [h1], fun i y cs hy hc => ?_, by simpa using h⟩
  by_cases hi : i < l.length
  · rw [List.getElem?_append_left hi] at hy
    rw [List.getElem?_append_left (by omega)] at hc
    exact h2 i y cs hy hc
  · rw [List.getElem?_append_right (by omega)] at hy hc
    obtain ⟨k1, k2⟩ := List.getElem?_eq_some_iff.1 hy
    have e : i = l.length := by simp at k1; omega
    subst e
    rw [Nat.sub_self] at hy
    rw [h1, Nat.sub_self] at hc
    simp only [List.getElem?_cons_zero, Option.some.injEq] at hy hc
    subst hy hc
    exact hx
theorem GrowR.rs {G G' : GH} {v : Value} {l : List Rc} {ν : OH} (h : GrowR G v l ν) (hle : GH.le G G') (hG : ∀ b o, (b, o) ∈ ν → G' b = some o) : Rs G' v l := by
  obtain ⟨css, h1, h2, h3⟩ := h
  refine Grow.sl h3 hG h1 fun i y cs hy hc => ?_
  have := (h2 i y cs hy hc).le hle
  exact ⟨(rec_one this).1, this⟩
theorem rcR_nil {G : GH} {x : Rc} (h : x.image = []) (hc : x.cmd.ok) (hs : x.small) : RcR G x (recL x.kind x.round x.node x.index x.cmd (.slice none 0 0)) := ⟨_, rfl, hc, hs, by rw [h]; exact Sl.nil⟩
def part1 (H : Hd) : List Rc := if 0 < H.base then [imgRec H.base H.image] else []
def part2 (H : Hd) : List Rc := part1 H ++ (if H.pr = 0 ∧ H.pn = 0 then [] else [promRec H.pr H.pn])
theorem recsOf_parts (H : Hd) : recsOf H = part2 H ++ H.acc.map accRec ++ H.cho.map choRec := by
  unfold recsOf part2 part1
  simp only [List.append_assoc]
theorem img_rcR {G : GH} {b : Int} {im : List Int} {iv : Value} (h : Sl G 1 (IntR .u8) iv im) (hs : (imgRec b im).small) : RcR G (imgRec b im) (recL 4 0 0 b zeroC iv) := ⟨iv, rfl, zeroC_ok, hs, h⟩
theorem records_s {G : GH} {H : Hd} {L : List Value} {n : Nat} (hh : HdV G H L) (g : Good n H) (hn : n ≤ 40) :
    Con Tryz.prog 49 #[.agg L.toArray] G [] (fun r G' μ' => μ' = [] ∧ Rs G' r (recsOf H)) := by
  have hrok := recs_ok g
  obtain ⟨iv, av, cv, rfl, hi, ha, hc⟩ := hh
  have him := g.img
  have hbs := g.base
  have hnacc := g.nacc
  have hncho := g.ncho
  have qb := bclone_s hi (by omega)
  obtain ⟨A0, c0, rfl, hl0, hm0, -, -, hwx⟩ := id hi.openInt
  obtain ⟨A1, c1, rfl, hl1, hm1, hs1, hcp1, hcb1, hcc1, -⟩ := esOpen ha
  obtain ⟨A2, c2, rfl, hl2, hm2, hs2, hcp2, hcb2, hcc2, -⟩ := esOpen hc
  simp only [maxLen] at hm0 hm1 hm2
  rw [recsOf_parts] at hrok ⊢
  have hp1 : (part1 H).length ≤ 1 := by unfold part1; split <;> simp
  have hp2 : (part2 H).length ≤ 2 := by
    unfold part2
    rw [List.length_append]
    split <;> simp <;> omega
  have hp1o : ∀ x ∈ part1 H, x.cmd.ok ∧ x.small := fun x hx => hrok x (by unfold part2; simp [hx])
  have hp2o : ∀ x ∈ part2 H, x.cmd.ok ∧ x.small := fun x hx => hrok x (by simp [hx])
  (refine v_enter Tryz.func49 rfl Tryz.ntmps49 rfl ?_; intro B _)
  repeat' (first | apply v_seq | apply v_region | apply v_nil | (apply v_pure; (case hop => first | (apply p_gt <;> rfl) | (apply p_assign <;> rfl) | (apply p_fieldAddrB <;> rfl) | fail); (case hd => rfl)) | (apply v_read; (case hop => (apply r_load1; rfl; (apply Cell.own; (case h => (repeat (exact mhd _))); rfl))); (case hd => rfl)) | (apply v_box; (case hx => rfl); (case hz => rfl); (case hd => rfl); intro b) | fail)
  rename Nat => hb
  refine v_cut (fun σ1 G' μ' => GH.le G G' ∧ ∃ v ν, EnvHas σ1 [(3, v), (1, .pointer (some ⟨hb, 0, none⟩))] ∧ GrowR G' v (part1 H) ν ∧ List.Sublist (ν ++ [(hb, hardO (hdL H.pr H.pn H.base (.slice A0 H.image.length c0) (.slice A1 H.acc.length c1) (.slice A2 H.cho.length c2)))]) μ') ?_ ?_
  · intro hcut
    refine v_cond rfl (fun h => ?_) (fun h => ?_)
    · rw [dec_true] at h
      have e1 : part1 H = [imgRec H.base H.image] := by unfold part1; rw [if_pos h]
      have hio := hp1o _ (by rw [e1]; exact List.mem_singleton.2 rfl)
      repeat' (fail)
      refine d_start _ (by kernel_rfl) (by kernel_rfl) (by kernel_rfl) (fun _ he => he) ?_
      all_goals (apply dtk 0; (case hi => rfl); (case hop => (apply prd; apply p_move <;> rfl)); (case hq => kernel_rfl))
      all_goals (apply dtk 1; (case hi => rfl); (case hop => (apply prd; apply p_fieldAddrB <;> rfl)); (case hq => kernel_rfl))
      all_goals (apply dtk 2; (case hi => rfl); (case hop => first | (apply r_loadNo; (case hx => rfl); (case h => (repeat (fail))); (case hd => (repeat (fail))); (case hn => rfl)) | (apply r_load1; rfl; (apply Cell.own; (case h => (repeat (exact mhd _))); rfl)) | (apply r_loadN; rfl; (apply CellsAt.own; (case h => (repeat (fail)))); rfl)); (case hq => kernel_rfl))
      all_goals (apply dtk 3; (case hi => rfl); (case hop => (apply prd; apply p_fieldAddrB <;> rfl)); (case hq => kernel_rfl))
      all_goals (apply dtk 4; (case hi => rfl); (case hop => first | (apply r_loadNo; (case hx => rfl); (case h => (repeat (fail))); (case hd => (repeat (fail))); (case hn => rfl)) | (apply r_load1; rfl; (apply Cell.own; (case h => (repeat (exact mhd _))); rfl)) | (apply r_loadN; rfl; (apply CellsAt.own; (case h => (repeat (fail)))); rfl)); (case hq => kernel_rfl))
      all_goals ((apply d_call 5 (hs := qb); (case hi => rfl); (case hr => kernel_rfl);  (case ha => rfl); (case hp => exact List.Perm.refl _); (case hd => rfl); (case hν' => intro e he; simp at he; simp [he]); rintro r1 _ ν1 - ⟨rfl, hg1⟩; obtain ⟨A4, c4, rfl, -, -⟩ := hg1.shape; refine d_frz ν1 (by repeat (exact PickA.here _)) (by intro e he; simp at he; simp [he]) ?_; intro G2 hle2 hG2; have k1 := img_rcR (b := H.base) (im := H.image) (hg1.ints hG2 hwx) hio.2))
      all_goals (apply dtk 6; (case hi => rfl); (case hop => (apply prd; apply p_build; (case hz => rfl); (case hv => (simp only [List.map_cons, List.map_nil]; repeat (first | with_reducible exact evs_nil | (apply evs_cons; (case h1 => rfl))))); (case hb => (apply bldL; repeat (first | exact bld_nil | (apply bld_cons; (case hpf => rfl); (case hc => rfl); (case hs => rfl); (case hl => rfl); (case ho => ((repeat (first | with_reducible exact ov_nil | apply ov_cons)); done)))))))); (case hq => kernel_rfl))
      all_goals (apply d_buildSlice 7; (case hi => rfl); (case hr => kernel_rfl); (case hT => infer_instance); (case hL => infer_instance); (case hz => rfl); (case hl => rfl); (case hv => (simp only [List.map_cons, List.map_nil]; repeat (first | with_reducible exact evs_nil | (apply evs_cons; (case h1 => rfl))))); (case hp => (apply pk_cons; (case hc => rfl); (case hs => rfl); (case h => (with_reducible exact pk_nil)); (case he => ((repeat (first | with_reducible exact ap_nil | apply ap_cons)); done)))); (case hb => rfl); (case hd => rfl); (case hν => intro e he; exact he); intro bb)
      all_goals (apply d_append 8 (hg := Grow.nil 42 12) (q' := 1) (us := recL 4 0 0 H.base zeroC (.slice A4 H.image.length c4)) (hp := PickA.perm (by repeat (exact PickA.here _))) (hsrc := Src.own (e := 42) (by repeat (exact mhd _)) rfl); (case hi => rfl); (case hr => kernel_rfl); (case hT => infer_instance); (case hL => infer_instance); (case hzs => rfl); (case hsz => omega); (case hs => rfl); (case hx => rfl); (case hb => omega); (case hb' => simp only [maxLen]; omega); (case hd => rfl); (case h1 => rfl); (case hν => intro e he; (simp at he; simp [he]; done)); intro v3 n3 hg3)
      all_goals (apply dtk 9; (case hi => rfl); (case hop => (apply prd; apply p_assign <;> rfl)); (case hq => kernel_rfl))
      all_goals (apply d_done; (case hr => kernel_rfl))
      rw [e1] at hcut
      refine hcut _ _ _ ⟨hle2, v3, n3, ⟨rfl, rfl, trivial⟩, ?_, (List.Sublist.append_left (by repeat (first | exact List.Sublist.refl _ | apply List.Sublist.cons)) _)⟩
      exact GrowR.snoc (css := []) (l := []) rfl (fun i y cs h => by simp at h) hg3 k1
    · rw [dec_false] at h
      have e1 : part1 H = [] := by unfold part1; rw [if_neg h]
      rw [e1] at hcut
      apply v_skip
      exact hcut _ _ _ ⟨GH.le_refl _, .slice none 0 0, [], ⟨rfl, rfl, trivial⟩, GrowR.none _, (by repeat (exact List.Sublist.refl _))⟩
  rintro σ1 G1 μ1 ⟨hle1, v1, ν1, hE, hg1, hμ⟩
  refine v_drop hμ (v_has hE ?_)
  clear hE hμ
  repeat' (first | apply v_seq | apply v_region | apply v_nil | (apply v_pure; (case hop => first | (apply p_fieldAddrB <;> rfl) | (apply p_build; (case hz => rfl); (case hv => (simp only [List.map_cons, List.map_nil]; repeat (with_reducible exact evs_nil))); (case hb => (apply bldL; repeat (exact bld_nil)))) | fail); (case hd => rfl)) | (apply v_pure; (case hop => (apply neBal; (case hx => rfl); (case hy => rfl))); (case hd => rfl)) | (apply v_read; (case hop => (apply r_loadNo; (case hx => rfl); (case h => (repeat (first | exact mhd _ | apply List.mem_append_right))); (case hd => (repeat (first | with_reducible exact dt_nil | apply dt_here))); (case hn => rfl))); (case hd => rfl)) | fail)
  refine v_cut (fun σ1 G' μ' => GH.le G1 G' ∧ ∃ v ν, EnvHas σ1 [(3, v), (1, .pointer (some ⟨hb, 0, none⟩))] ∧ GrowR G' v (part2 H) ν ∧ List.Sublist (ν ++ [(hb, hardO (hdL H.pr H.pn H.base (.slice A0 H.image.length c0) (.slice A1 H.acc.length c1) (.slice A2 H.cho.length c2)))]) μ') ?_ ?_
  · intro hcut
    refine v_cond rfl (fun h => ?_) (fun h => ?_)
    · have h' : ¬ (H.pr = 0 ∧ H.pn = 0) := fun hh => by rw [dec_pos hh] at h; cases h
      have e2 : part2 H = part1 H ++ [promRec H.pr H.pn] := by unfold part2; rw [if_neg h']
      have hio := hp2o _ (by rw [e2]; exact List.mem_append_right _ (List.mem_singleton.2 rfl))
      obtain ⟨css, hcl, hcr, hgr⟩ := id hg1
      repeat' (first | (refine hcut _ _ _ ?_; exact ⟨GH.le_refl _, _, _, ⟨rfl, rfl, trivial⟩, by rw [e2]; exact GrowR.snoc hcl hcr (by assumption) (rcR_nil rfl hio.1 hio.2), (List.Sublist.append_left (by repeat (first | exact List.Sublist.refl _ | apply List.Sublist.cons)) _)⟩) | apply v_region | apply v_nil | (apply v_pure; (case hop => first | (apply p_move <;> rfl) | (apply p_assign <;> rfl) | (apply p_fieldAddrB <;> rfl) | (apply p_build; (case hz => rfl); (case hv => (simp only [List.map_cons, List.map_nil]; repeat (first | with_reducible exact evs_nil | (apply evs_cons; (case h1 => rfl))))); (case hb => (apply bldL; repeat (first | exact bld_nil | (apply bld_cons; (case hpf => rfl); (case hc => rfl); (case hs => rfl); (case hl => rfl); (case ho => ((repeat (first | with_reducible exact ov_nil | apply ov_cons)); done))))))) | fail); (case hd => rfl)) | (apply v_append (hg := hgr) (m' := 1) (us := recL 1 H.pr H.pn 0 zeroC (.slice none 0 0)) (hp := PickA.perm (by repeat (first | exact PickA.here _ | apply PickA.cons))) (hsrc := Src.own (e := 42) (by repeat (exact mhd _)) rfl); (case hzs => rfl); (case hsz => omega); (case hs => rfl); (case hx => rfl); (case hb => omega); (case hb' => simp only [maxLen]; omega); (case hd => rfl); (case h1 => rfl); intro v3 n3 hg3) | (apply v_read; (case hop => (apply r_loadNo; (case hx => rfl); (case h => (repeat (first | exact mhd _ | apply List.mem_append_right))); (case hd => (repeat (first | with_reducible exact dt_nil | apply dt_here))); (case hn => rfl))); (case hd => rfl)) | (apply v_buildSlice; (case hz => rfl); (case hi => rfl); (case hv => (simp only [List.map_cons, List.map_nil]; repeat (first | with_reducible exact evs_nil | (apply evs_cons; (case h1 => rfl))))); (case hp => (apply pk_cons; (case hc => rfl); (case hs => rfl); (case h => (with_reducible exact pk_nil)); (case he => ((repeat (first | with_reducible exact ap_nil | apply ap_cons)); done)))); (case hb => rfl); (case hd => rfl); intro b) | fail)
    · have h' : H.pr = 0 ∧ H.pn = 0 := Decidable.byContradiction fun hh => by rw [dec_neg hh] at h; cases h
      have e2 : part2 H = part1 H := by unfold part2; rw [if_pos h', List.append_nil]
      apply v_skip
      refine hcut _ _ _ ?_
      exact ⟨GH.le_refl _, v1, ν1, ⟨rfl, rfl, trivial⟩, by rw [e2]; exact hg1, List.Sublist.refl _⟩
  rintro σ2 G2 μ2 ⟨hle2, v2, ν2, hE, hg2, hμ⟩
  refine v_drop hμ (v_has hE ?_)
  clear hE hμ
  have hle := GH.le_trans hle1 hle2
  have hcp1' := fun i h => (hcp1 i h).le hle
  have hcp2' := fun i h => (hcp2 i h).le hle
  clear hcp1 hcp2
  repeat' (first | apply v_seq | apply v_region | apply v_nil | apply v_block | (apply v_pure; (case hop => first | (apply p_move <;> rfl) | (apply p_lenSlice <;> rfl) | (apply p_fieldAddrB <;> rfl) | fail); (case hd => rfl)) | (apply v_read; (case hop => (apply r_load1; rfl; (apply Cell.own; (case h => (repeat (first | exact mhd _ | apply List.mem_append_right))); rfl))); (case hd => rfl)) | fail)
  refine v_loop [33, 3, 31, 32, 1] (fun us G' μ' => G' = G2 ∧ ∃ k v ν, k ≤ H.acc.length ∧ us = [Value.int .i64 (k : Nat), v, .slice A1 H.acc.length c1, .int .i64 (H.acc.length : Nat), .pointer (some ⟨hb, 0, none⟩)] ∧ GrowR G2 v (part2 H ++ (H.acc.take k).map accRec) ν ∧ μ' = ν ++ [(hb, hardO (hdL H.pr H.pn H.base (.slice A0 H.image.length c0) (.slice A1 H.acc.length c1) (.slice A2 H.cho.length c2)))]) (fun us => H.acc.length - (headI us).toNat) rfl ⟨rfl, 0, v2, ν2, by omega, rfl, by simpa using hg2, rfl⟩ ?_
  rintro us G' _ ⟨rfl, k, v, ν, hk, rfl, hgk, rfl⟩
  by_cases hlt : k < H.acc.length
  · have e1 : ((k : Nat) : Int).toNat = k := by omega
    have kc := hcp1' k hlt
    have hA := hs1 (by omega)
    have htk : part2 H ++ (H.acc.take (k + 1)).map accRec = (part2 H ++ (H.acc.take k).map accRec) ++ [accRec H.acc[k]] := by
      rw [List.take_succ_eq_append_getElem hlt, List.map_append, ← List.append_assoc]
      rfl
    have hio := hrok (accRec H.acc[k]) (by
      simp only [List.mem_append, List.mem_map]
      exact .inl (.inr ⟨_, List.getElem_mem hlt, rfl⟩))
    have hln : (part2 H ++ (H.acc.take k).map accRec).length ≤ 100 := by
      rw [List.length_append, List.length_map, List.length_take]
      omega
    obtain ⟨css, hcl, hcr, hgr⟩ := id hgk
    generalize hxe : H.acc[k] = e at *
    generalize part2 H ++ (H.acc.take k).map accRec = l0 at *
    repeat' (first | apply v_seq | apply v_region | apply v_nil | apply v_skip | apply v_block | apply v_blk | (apply v_pure; (case hop => first | (apply p_move <;> rfl) | (apply p_lt <;> rfl) | (apply p_assign <;> rfl) | (apply p_fieldAddrB <;> rfl) | (apply p_add; (case hx => rfl); (case hy => rfl); (case h => omega)) | (apply p_indexAddrS; (case hx => rfl); (case hi => rfl); (case h0 => omega); (case h => omega); (case hA => assumption)) | (apply p_build; (case hz => rfl); (case hv => (simp only [List.map_cons, List.map_nil]; repeat (first | with_reducible exact evs_nil | (apply evs_cons; (case h1 => rfl))))); (case hb => (apply bldL; repeat (first | exact bld_nil | (apply bld_cons; (case hpf => rfl); (case hc => rfl); (case hs => rfl); (case hl => rfl); (case ho => ((repeat (first | with_reducible exact ov_nil | apply ov_cons)); done))))))) | fail); (case hd => rfl)) | (apply v_cond; (case hc => rfl); all_goals (intro h; (try simp only [reduceCtorEq, zzz] at h); first | (exfalso; omega) | skip)) | (apply v_read; (case hop => (apply r_loadN; rfl; exact CellsAt.frozen kc; rfl)); (case hd => rfl)) | (apply v_append (hg := hgr) (m' := 1) (us := recL 2 e.round e.node e.index e.cmd (.slice none 0 0)) (hp := PickA.perm (by repeat (first | exact PickA.here _ | apply PickA.cons))) (hsrc := Src.own (e := 42) (by repeat (exact mhd _)) rfl); (case hzs => rfl); (case hsz => omega); (case hs => rfl); (case hx => rfl); (case hb => omega); (case hb' => simp only [maxLen]; omega); (case hd => rfl); (case h1 => rfl); intro v3 n3 hg3) | (apply v_read; (case hop => first | (apply r_loadNo; (case hx => rfl); (case h => (repeat (exact mhd _))); (case hd => (repeat (first | with_reducible exact dt_nil | apply dt_here))); (case hn => rfl)) | (apply r_load1; rfl; (apply Cell.own; (case h => (repeat (exact mhd _))); rfl)) | fail); (case hd => rfl)) | (apply v_buildSlice; (case hz => rfl); (case hi => rfl); (case hv => (simp only [List.map_cons, List.map_nil]; repeat (first | with_reducible exact evs_nil | (apply evs_cons; (case h1 => rfl))))); (case hp => (apply pk_cons; (case hc => rfl); (case hs => rfl); (case h => (with_reducible exact pk_nil)); (case he => ((repeat (first | with_reducible exact ap_nil | apply ap_cons)); done)))); (case hb => rfl); (case hd => rfl); intro b) | (apply v_alloc; (case hz => rfl); (case hd => rfl); intro b) | (apply v_store; (case hp => rfl); (case hx => rfl); (case hc => rfl); (case hsz => rfl); (case h1 => rfl); (case hb => (repeat (exact mhd _))); (case hfit => exact nle rfl); (case hov => ((repeat (first | with_reducible exact ov_nil | apply ov_cons)); done)); (case hu => repeat (first | exact Upd.here _ _ | fail))) | fail)
    refine v_drop (ν := n3 ++ [(hb, hardO (hdL H.pr H.pn H.base (.slice A0 H.image.length c0) (.slice A1 H.acc.length c1) (.slice A2 H.cho.length c2)))]) (List.Sublist.append_left (by repeat (first | exact List.Sublist.refl _ | apply List.Sublist.cons)) _) ?_
    refine v_again rfl ⟨rfl, k + 1, v3, n3, by omega, rfl, ?_, rfl⟩ (by simp [headI]; omega)
    rw [htk]
    exact GrowR.snoc hcl hcr hg3 (rcR_nil rfl hio.1 hio.2)
  · have htk : part2 H ++ (H.acc.take k).map accRec = part2 H ++ H.acc.map accRec := by rw [List.take_of_length_le (by omega)]
    rw [htk] at hgk
    repeat' (first | apply v_seq | apply v_region | apply v_nil | apply v_block | (apply v_exit; (case hp => rfl)) | (apply v_pure; (case hop => first | (apply p_move <;> rfl) | (apply p_lt <;> rfl) | (apply p_lenSlice <;> rfl) | (apply p_fieldAddrB <;> rfl) | fail); (case hd => rfl)) | (apply v_cond; (case hc => rfl); all_goals (intro h; (try simp only [reduceCtorEq, zzz] at h); first | (exfalso; omega) | skip)) | (apply v_read; (case hop => (apply r_load1; rfl; (apply Cell.own; (case h => (repeat (first | exact mhd _ | apply List.mem_append_right))); rfl))); (case hd => rfl)) | fail)
    clear htk hk hlt
    refine v_loop [51, 3, 49, 50, 1] (fun us G2 μ' => G2 = G' ∧ ∃ k v ν, k ≤ H.cho.length ∧ us = [Value.int .i64 (k : Nat), v, .slice A2 H.cho.length c2, .int .i64 (H.cho.length : Nat), .pointer (some ⟨hb, 0, none⟩)] ∧ GrowR G' v (part2 H ++ H.acc.map accRec ++ (H.cho.take k).map choRec) ν ∧ μ' = ν ++ [(hb, hardO (hdL H.pr H.pn H.base (.slice A0 H.image.length c0) (.slice A1 H.acc.length c1) (.slice A2 H.cho.length c2)))]) (fun us => H.cho.length - (headI us).toNat) rfl ⟨rfl, 0, v, ν, by omega, rfl, by simpa using hgk, rfl⟩ ?_
    rintro us _ _ ⟨rfl, k, v, ν, hk, rfl, hgk, rfl⟩
    by_cases hlt : k < H.cho.length
    · have e1 : ((k : Nat) : Int).toNat = k := by omega
      have kc := hcp2' k hlt
      have hA := hs2 (by omega)
      have htk : part2 H ++ H.acc.map accRec ++ (H.cho.take (k + 1)).map choRec = (part2 H ++ H.acc.map accRec ++ (H.cho.take k).map choRec) ++ [choRec H.cho[k]] := by
        rw [List.take_succ_eq_append_getElem hlt, List.map_append, ← List.append_assoc]
        rfl
      have hio := hrok (choRec H.cho[k]) (by
        simp only [List.mem_append, List.mem_map]
        exact .inr ⟨_, List.getElem_mem hlt, rfl⟩)
      have hln : (part2 H ++ H.acc.map accRec ++ (H.cho.take k).map choRec).length ≤ 100 := by
        rw [List.length_append, List.length_append, List.length_map, List.length_map, List.length_take]
        omega
      obtain ⟨css, hcl, hcr, hgr⟩ := id hgk
      generalize hxe : H.cho[k] = e at *
      generalize part2 H ++ H.acc.map accRec ++ (H.cho.take k).map choRec = l0 at *
      repeat' (first | apply v_seq | apply v_region | apply v_nil | apply v_skip | apply v_block | apply v_blk | (apply v_pure; (case hop => first | (apply p_move <;> rfl) | (apply p_lt <;> rfl) | (apply p_assign <;> rfl) | (apply p_fieldAddrB <;> rfl) | (apply p_add; (case hx => rfl); (case hy => rfl); (case h => omega)) | (apply p_indexAddrS; (case hx => rfl); (case hi => rfl); (case h0 => omega); (case h => omega); (case hA => assumption)) | (apply p_build; (case hz => rfl); (case hv => (simp only [List.map_cons, List.map_nil]; repeat (first | with_reducible exact evs_nil | (apply evs_cons; (case h1 => rfl))))); (case hb => (apply bldL; repeat (first | exact bld_nil | (apply bld_cons; (case hpf => rfl); (case hc => rfl); (case hs => rfl); (case hl => rfl); (case ho => ((repeat (first | with_reducible exact ov_nil | apply ov_cons)); done))))))) | fail); (case hd => rfl)) | (apply v_cond; (case hc => rfl); all_goals (intro h; (try simp only [reduceCtorEq, zzz] at h); first | (exfalso; omega) | skip)) | (apply v_read; (case hop => (apply r_loadN; rfl; exact CellsAt.frozen kc; rfl)); (case hd => rfl)) | (apply v_append (hg := hgr) (m' := 1) (us := recL 3 0 0 e.index e.cmd (.slice none 0 0)) (hp := PickA.perm (by repeat (first | exact PickA.here _ | apply PickA.cons))) (hsrc := Src.own (e := 42) (by repeat (exact mhd _)) rfl); (case hzs => rfl); (case hsz => omega); (case hs => rfl); (case hx => rfl); (case hb => omega); (case hb' => simp only [maxLen]; omega); (case hd => rfl); (case h1 => rfl); intro v3 n3 hg3) | (apply v_read; (case hop => first | (apply r_loadNo; (case hx => rfl); (case h => (repeat (exact mhd _))); (case hd => (repeat (first | with_reducible exact dt_nil | apply dt_here))); (case hn => rfl)) | (apply r_load1; rfl; (apply Cell.own; (case h => (repeat (exact mhd _))); rfl)) | fail); (case hd => rfl)) | (apply v_buildSlice; (case hz => rfl); (case hi => rfl); (case hv => (simp only [List.map_cons, List.map_nil]; repeat (first | with_reducible exact evs_nil | (apply evs_cons; (case h1 => rfl))))); (case hp => (apply pk_cons; (case hc => rfl); (case hs => rfl); (case h => (with_reducible exact pk_nil)); (case he => ((repeat (first | with_reducible exact ap_nil | apply ap_cons)); done)))); (case hb => rfl); (case hd => rfl); intro b) | (apply v_alloc; (case hz => rfl); (case hd => rfl); intro b) | (apply v_store; (case hp => rfl); (case hx => rfl); (case hc => rfl); (case hsz => rfl); (case h1 => rfl); (case hb => (repeat (exact mhd _))); (case hfit => exact nle rfl); (case hov => ((repeat (first | with_reducible exact ov_nil | apply ov_cons)); done)); (case hu => repeat (first | exact Upd.here _ _ | fail))) | fail)
      refine v_drop (ν := n3 ++ [(hb, hardO (hdL H.pr H.pn H.base (.slice A0 H.image.length c0) (.slice A1 H.acc.length c1) (.slice A2 H.cho.length c2)))]) (List.Sublist.append_left (by repeat (first | exact List.Sublist.refl _ | apply List.Sublist.cons)) _) ?_
      refine v_again rfl ⟨rfl, k + 1, v3, n3, by omega, rfl, ?_, rfl⟩ (by simp [headI]; omega)
      rw [htk]
      exact GrowR.snoc hcl hcr hg3 (rcR_nil rfl hio.1 hio.2)
    · have htk : part2 H ++ H.acc.map accRec ++ (H.cho.take k).map choRec = part2 H ++ H.acc.map accRec ++ H.cho.map choRec := by rw [List.take_of_length_le (by omega)]
      rw [htk] at hgk
      repeat' (first | apply v_seq | apply v_region | apply v_nil | (apply v_exit; (case hp => rfl)) | (apply v_pure; (case hop => first | (apply p_move <;> rfl) | (apply p_lt <;> rfl) | (apply p_assign <;> rfl) | fail); (case hd => rfl)) | (apply v_cond; (case hc => rfl); all_goals (intro h; (try simp only [reduceCtorEq, zzz] at h); first | (exfalso; omega) | skip)) | fail)
      refine v_frz ν (by repeat (exact PickA.here _)) ?_
      intro G3 hle3 hG3
      refine v_ret [] (outsA1 rfl rfl) (by repeat (exact List.nil_sublist _)) ?_
      exact ⟨rfl, hgk.rs hle3 hG3⟩
noncomputable def headNo (f : Int) (H : Hd) : Int := if f = 1 ∨ f = 2 then (if CheckP H then errsF f (recsOf H) else 3) else 8
theorem frB_max (b : List Int) : (frB b).length ≤ b.length + 15 := by
  have := (vbytes_len (b.length : Int)).1
  rw [frB_len]; omega
theorem flat_take {f : Int} {l : List Rc} {k : Nat} (h : k < l.length) : flatF (encF f) (l.take (k + 1)) = flatF (encF f) (l.take k) ++ frB (encF f l[k]) := by
  rw [List.take_succ_eq_append_getElem h, flatF_app]
  congr 1
  simp [flatF]
set_option maxHeartbeats 1000000 in
theorem head_s {G : GH} (hT : TabsG G) (hC : CrcG G) (f : Int) {H : Hd} {L : List Value} {n : Nat} (hh : HdV G H L) (g : CheckP H → Good n H) (hn : n ≤ 40) (hfw : f ≤ 9223372036854775807) (hlen : (recsOf H).length ≤ 100) (hlg : CheckP H → ∀ x ∈ recsOf H, ¬ x.large) :
    Con Tryz.prog 12 #[.int .i64 f, .agg L.toArray] G [] (fun r G' μ' => μ' = [] ∧ ∃ v, r = .tuple [v, .int .i64 (headNo f H)].toArray ∧ Sl G' 1 (IntR .u8) v (if headNo f H = 0 then fileB encF f (recsOf H).length (recsOf H) else [])) := by
  have qc := hChk_s hT hh
  have qm := vmay_s G f
  unfold headNo
  by_cases hf : f = 1 ∨ f = 2
  · rw [if_pos hf]
    rw [decide_eq_true hf] at qm
    by_cases hck : CheckP H
    · rw [if_pos hck] at qc ⊢
      have qr := records_s hh (g hck) hn
      have hlg := hlg hck
      obtain ⟨iv, av, cv, rfl, hi, ha, hcv⟩ := id hh
      obtain ⟨A0, c0, rfl, -⟩ := hi.openInt
      obtain ⟨A1, c1, rfl, -⟩ := ha.open
      obtain ⟨A2, c2, rfl, -⟩ := hcv.open
      generalize recsOf H = l at *
      (refine v_enter Tryz.func12 rfl Tryz.ntmps12 rfl ?_; intro B _)
      repeat' (first | apply v_seq | apply v_region | apply v_nil | apply v_skip | (apply v_pure; (case hop => first | (apply p_move <;> rfl) | (apply p_nes <;> rfl) | (apply p_assign <;> rfl) | (apply p_not <;> rfl) | fail); (case hd => rfl)) | (apply v_condF; (case hc => rfl)) | (apply v_callJ (hs := qm); (case ha => rfl); (case hd => rfl)) | (apply v_callJ (hs := qc); (case ha => rfl); (case hd => rfl)) | (apply v_read; (case hop => (apply r_loadNo; (case hx => rfl); (case h => (repeat (exact mhd _))); (case hd => (repeat (first | with_reducible exact dt_nil | apply dt_here))); (case hn => rfl))); (case hd => rfl)) | (apply v_box; (case hx => rfl); (case hz => rfl); (case hd => rfl); intro b) | fail)
      refine v_call (μ1 := []) rfl qr (List.Perm.refl _) rfl ?_
      rintro r1 G1 _ hle1 ⟨rfl, hrs⟩
      obtain ⟨A, c, ivf, rfl, hlc, hcm, hsome, hcp, him, hok⟩ := rsOpen hrs
      simp only [maxLen] at hcm
      repeat' (first | apply v_seq | apply v_region | apply v_nil | (apply v_pure; (case hop => first | (apply p_move <;> rfl) | (apply p_assign <;> rfl) | (apply p_lenSlice <;> rfl) | fail); (case hd => rfl)) | fail)
      refine v_call (μ1 := []) rfl (first_s (hC.le hle1) f (l.length : Nat) hfw (by omega)) (List.Perm.refl _) rfl ?_
      rintro r2 G2 ν2 hle2 g2
      repeat' (first | apply v_seq | apply v_region | apply v_nil | apply v_block | (apply v_pure; (case hop => first | (apply p_move <;> rfl) | (apply p_assign <;> rfl) | (apply p_lenSlice <;> rfl) | fail); (case hd => rfl)) | fail)
      refine v_drop (ν := ν2) (List.sublist_append_left _ _) ?_
      refine v_loop [29, 8, 28, 27, 0] (fun us G' μ' => GH.le G2 G' ∧ ∃ (k : Nat) (v : Value), k ≤ l.length ∧ errsF f l = errsF f (l.drop k) ∧ us = [Value.int .i64 (k : Nat), v, .int .i64 (l.length : Nat), .slice A l.length c, .int .i64 f] ∧ (fileB encF f l.length (l.take k)).length ≤ 100 + k * 60000 ∧ byteL (fileB encF f l.length (l.take k)) ∧ Grow 5 1 v (fileB encF f l.length (l.take k)).length ((fileB encF f l.length (l.take k)).map (.int .u8 ·)) μ') (fun us => l.length - (headI us).toNat) rfl ⟨GH.le_refl _, 0, _, by omega, rfl, rfl, ?_, ?_, ?_⟩ ?_
      · have h1 := vbytes_len f
        have h2 := vbytes_len (l.length : Nat)
        have h3 := frB_max (vbytes f ++ vbytes (l.length : Nat))
        rw [List.length_append] at h3
        simp [fileB, flatF]
        omega
      · have := frB_byte ((vbytes_byte hfw).app (vbytes_byte (n := (l.length : Nat)) (by omega))) (headB_ok (f := f) (n := l.length))
        simpa [fileB, flatF] using this
      · simpa [fileB, flatF] using g2
      rintro us G' μ' ⟨hle3, k, v, hk, he, rfl, hsz, hby, hg⟩
      obtain ⟨A3, c3, rfl, -, -⟩ := hg.shape
      have e1 : ((k : Nat) : Int).toNat = k := by omega
      by_cases hlt : k < l.length
      · have hA := hsome (by omega)
        have hle23 := GH.le_trans hle2 hle3
        have hcx := (hcp k hlt).le hle23
        have hix := (him k hlt).mono hle23
        have hcok := hok _ (List.getElem_mem hlt)
        have hd := errsF_drop (f := f) hlt
        have hx : RcV G' l[k] (.agg (recL l[k].kind l[k].round l[k].node l[k].index l[k].cmd (ivf k)).toArray) := ⟨_, rfl, hix⟩
        have hle13 := GH.le_trans hle1 hle23
        have q := sadd_s (hT.le hle13) (hC.le hle13) f hx hcok.1 (hlg _ (List.getElem_mem hlt)) hcok.2
        obtain ⟨Ai, ci, hie, -, -, -, -, hiw⟩ := hix.openInt
        have hmax : errF f (l[k]'hlt) = 0 → (encF f (l[k]'hlt)).length ≤ 50000 ∧ wfL (encF f (l[k]'hlt)) := fun h' => encF_ok h' hcok.1 hiw
        have hone := encF_one (f := f) (x := l[k]'hlt)
        rw [hie] at q hcx
        have hft := flat_take (f := f) hlt
        have hfb := frB_max (encF f l[k])
        have hfile : fileB encF f l.length (l.take (k + 1)) = fileB encF f l.length (l.take k) ++ frB (encF f l[k]) := by
          unfold fileB
          rw [hft, List.append_assoc]
        unfold AddS at q
        clear hft hx hix hcok hcp him hok qr qc g2
        generalize l[k] = x at *
        repeat' (first | apply v_seq | apply v_region | apply v_nil | apply v_skip | apply v_block | (apply v_pure; (case hop => first | (apply p_move <;> rfl) | (apply p_lt <;> rfl) | (apply p_indexAddrS; (case hx => rfl); (case hi => rfl); (case h0 => omega); (case h => omega); (case hA => assumption)) | fail); (case hd => rfl)) | (apply v_cond; (case hc => rfl); all_goals (intro h; (try simp only [reduceCtorEq, zzz] at h); first | (exfalso; omega) | skip)) | (apply v_read; (case hop => (apply r_loadN; rfl; exact CellsAt.frozen hcx; rfl)); (case hd => rfl)) | (apply v_read; (case hop => (apply r_loadNo; (case hx => rfl); (case h => (repeat (exact mhd _))); (case hd => (repeat (first | with_reducible exact dt_nil | apply dt_here))); (case hn => rfl))); (case hd => rfl)) | (apply v_alloc; (case hz => rfl); (case hd => rfl); intro b) | (apply v_store; (case hp => rfl); (case hx => rfl); (case hc => rfl); (case hsz => rfl); (case h1 => rfl); (case hb => (repeat (exact mhd _))); (case hfit => exact nle rfl); (case hov => ((repeat (first | with_reducible exact ov_nil | apply ov_cons)); done)); (case hu => repeat (exact Upd.here _ _))) | fail)
        refine v_call (μ1 := []) rfl q (List.Perm.refl _) rfl ?_
        rintro _ G4 _ hle4 ⟨rfl, v4, rfl, s4⟩
        by_cases h0 : errF f x = 0
        · rw [if_pos h0] at s4 hd
          rw [h0]
          obtain ⟨hm1, hm2⟩ := hmax h0
          have hsd := fun μ => Src.ints (μ := μ) s4
          obtain ⟨A4, c4, rfl, hlc4, hcm4, -⟩ := s4.openInt
          have hb2 := frB_byte (wfL.byte hm2) ⟨hone, by omega⟩
          generalize fileB encF f l.length (l.take k) = P at *
          generalize frB (encF f x) = Q at *
          repeat' (first | apply v_seq | apply v_region | apply v_nil | apply v_skip | apply v_blk | (apply v_pure; (case hop => first | (apply p_move <;> rfl) | (apply p_nes <;> rfl) | (apply p_assign <;> rfl) | (apply p_extract0 <;> rfl) | (apply p_extract1 <;> rfl) | (apply p_add; (case hx => rfl); (case hy => rfl); (case h => omega)) | fail); (case hd => rfl)) | (apply v_condF; (case hc => rfl)) | (apply v_append (hg := hg) (m' := Q.length) (us := Q.map (.int .u8 ·)) (hp := PickA.perm (by repeat (first | exact PickA.last | apply PickA.cons))) (hsrc := hsd _); (case hzs => rfl); (case hsz => omega); (case hs => rfl); (case hx => rfl); (case hb => omega); (case hb' => simp only [maxLen]; omega); (case hd => rfl); (case h1 => exact allOne_ints Q); intro v5 n5 hg5) | fail)
          refine v_only n5 (by repeat (exact PickA.here _)) ?_
          refine v_again rfl ⟨GH.le_trans hle3 hle4, k + 1, v5, by omega, by rw [he, hd], rfl, ?_, ?_, ?_⟩ (by simp [headI]; omega)
          · rw [hfile, List.length_append]; omega
          · rw [hfile]; exact hby.app hb2
          · rw [hfile, List.length_append, List.map_append]; exact hg5
        · rw [if_neg h0] at s4 hd
          obtain ⟨A4, c4, rfl, -⟩ := s4.openInt
          repeat' (first | apply v_seq | apply v_region | apply v_nil | (apply v_pure; (case hop => first | (apply p_move <;> rfl) | (apply p_ne <;> rfl) | (apply p_assign <;> rfl) | (apply p_extract0 <;> rfl) | (apply p_extract1 <;> rfl) | fail); (case hd => rfl)) | (apply v_cond; (case hc => rfl); all_goals (intro h; (try simp only [reduceCtorEq, zzz] at h); first | (exfalso; omega) | skip)) | fail)
          refine v_ret [] (outsA2 rfl rfl rfl) (List.nil_sublist _) ?_
          exact ⟨rfl, _, by rw [he, hd], by rw [he, hd, if_neg h0]; exact Sl.nil⟩
      · obtain rfl : k = l.length := by omega
        rw [List.drop_length] at he
        rw [List.take_length] at hg hby ⊢
        repeat' (first | apply v_seq | apply v_region | apply v_nil | (apply v_exit; (case hp => rfl)) | (apply v_pure; (case hop => first | (apply p_move <;> rfl) | (apply p_lt <;> rfl) | (apply p_assign <;> rfl) | fail); (case hd => rfl)) | (apply v_cond; (case hc => rfl); all_goals (intro h; (try simp only [reduceCtorEq, zzz] at h); first | (exfalso; omega) | skip)) | fail)
        refine v_frzP (r := []) μ' (List.Perm.of_eq (by simp)) ?_
        intro G5 hle5 hG5
        have s5 := hg.ints hG5 (byteL.wf hby)
        refine v_ret [] (outsA2 rfl rfl rfl) (List.nil_sublist _) ?_
        exact ⟨rfl, _, by rw [he]; rfl, by rw [he, if_pos (show errsF f [] = 0 from rfl)]; exact s5⟩
    · rw [if_neg hck] at qc ⊢
      obtain ⟨iv, av, cv, rfl, hi, ha, hcv⟩ := id hh
      obtain ⟨A0, c0, rfl, -⟩ := hi.openInt
      obtain ⟨A1, c1, rfl, -⟩ := ha.open
      obtain ⟨A2, c2, rfl, -⟩ := hcv.open
      (refine v_enter Tryz.func12 rfl Tryz.ntmps12 rfl ?_; intro B _)
      repeat' (first | apply v_seq | apply v_region | apply v_nil | apply v_skip | (apply v_pure; (case hop => first | (apply p_move <;> rfl) | (apply p_ne <;> rfl) | (apply p_assign <;> rfl) | (apply p_not <;> rfl) | fail); (case hd => rfl)) | (apply v_condF; (case hc => rfl)) | (apply v_cond; (case hc => rfl); all_goals (intro h; (try simp only [reduceCtorEq, zzz] at h); first | (exfalso; omega) | skip)) | (apply v_callJ (hs := qm); (case ha => rfl); (case hd => rfl)) | (apply v_callJ (hs := qc); (case ha => rfl); (case hd => rfl)) | (apply v_read; (case hop => (apply r_loadNo; (case hx => rfl); (case h => (repeat (exact mhd _))); (case hd => (repeat (first | with_reducible exact dt_nil | apply dt_here))); (case hn => rfl))); (case hd => rfl)) | (apply v_box; (case hx => rfl); (case hz => rfl); (case hd => rfl); intro b) | fail)
      all_goals
        (refine v_ret [] (outsA2 rfl rfl rfl) (by repeat (exact List.nil_sublist _)) ?_
         exact ⟨rfl, _, rfl, by rw [if_neg (by decide)]; exact Sl.nil⟩)
  · rw [if_neg hf]
    rw [decide_eq_false hf] at qm
    obtain ⟨iv, av, cv, rfl, hi, ha, hcv⟩ := id hh
    obtain ⟨A0, c0, rfl, -⟩ := hi.openInt
    obtain ⟨A1, c1, rfl, -⟩ := ha.open
    obtain ⟨A2, c2, rfl, -⟩ := hcv.open
    (refine v_enter Tryz.func12 rfl Tryz.ntmps12 rfl ?_; intro B _)
    repeat' (first | apply v_seq | apply v_region | apply v_nil | (apply v_pure; (case hop => first | (apply p_move <;> rfl) | (apply p_assign <;> rfl) | (apply p_not <;> rfl) | fail); (case hd => rfl)) | (apply v_condT; (case hc => rfl)) | (apply v_callJ (hs := qm); (case ha => rfl); (case hd => rfl)) | (apply v_box; (case hx => rfl); (case hz => rfl); (case hd => rfl); intro b) | fail)
    all_goals
      (refine v_ret [] (outsA2 rfl rfl rfl) (by repeat (exact List.nil_sublist _)) ?_
       exact ⟨rfl, _, rfl, by rw [if_neg (by decide)]; exact Sl.nil⟩)
open Classical in
noncomputable def decF (f : Int) (b : List Int) : Option Rc := if f = 1 then (if decOk (some b) then some (decX (some b)) else none) else if f = 2 then (if decTOk (some b) then some (decT (some b)).1 else none) else none
theorem decF1 (b : List Int) : (decOk (some b) ∧ decF 1 b = some (decX (some b))) ∨ (¬ decOk (some b) ∧ decF 1 b = none) := by
  unfold decF
  rw [if_pos rfl]
  by_cases h : decOk (some b)
  · rw [if_pos h]; exact .inl ⟨h, rfl⟩
  · rw [if_neg h]; exact .inr ⟨h, rfl⟩
theorem decF2 (b : List Int) : (decTOk (some b) ∧ decF 2 b = some (decT (some b)).1) ∨ (¬ decTOk (some b) ∧ decF 2 b = none) := by
  unfold decF
  rw [if_neg (by decide), if_pos rfl]
  by_cases h : decTOk (some b)
  · rw [if_pos h]; exact .inl ⟨h, rfl⟩
  · rw [if_neg h]; exact .inr ⟨h, rfl⟩
theorem decFN {f : Int} (h : ¬ (f = 1 ∨ f = 2)) (b : List Int) : decF f b = none := by
  unfold decF
  rw [if_neg (by omega), if_neg (by omega)]
theorem decF_inv {f : Int} {b : List Int} {x : Rc} (hb : byteL b) (h : decF f b = some x) : (f = 1 ∨ f = 2) ∧ errF f x = 0 ∧ encF f x = b ∧ x.cmd.ok ∧ x.small := by
  have hby : byteS (some b) := fun r hr y hy => by cases hr; exact hb y hy
  by_cases h1 : f = 1
  · subst h1
    obtain ⟨h2, h3⟩ | ⟨-, h3⟩ := decF1 b
    · rw [h3] at h
      obtain rfl := Option.some.inj h
      have ho := h2.2.2
      exact ⟨.inl rfl, by rw [errF1]; exact ho, by unfold encF; rw [if_pos rfl]; exact enc_dec hby h2, decX_ok hby, (fits0 (older0 ho).1).2.1⟩
    · rw [h3] at h
      cases h
  · by_cases h2 : f = 2
    · subst h2
      obtain ⟨h2, h3⟩ | ⟨-, h3⟩ := decF2 b
      · rw [h3] at h
        obtain rfl := Option.some.inj h
        have ho := h2.2.2.2
        exact ⟨.inr rfl, by rw [errF2]; exact ho, by unfold encF; rw [if_neg (by decide)]; exact encT_dec hby h2, rdX_ok (numS_b hby _), (fits0 (show recI _ _ _ _ _ _ = 0 from ho)).2.1⟩
      · rw [h3] at h
        cases h
    · rw [decFN (by omega)] at h
      cases h
theorem encL_size {x : Rc} (h : olderI x = 0) (hi : x.image.length ≤ 300) : 3 ≤ (encL x).length ∧ (encL x).length ≤ 7000 := by
  obtain ⟨hf, hsm, him, hsz⟩ := fits0 (older0 h).1
  have hh := headL_len x
  have h3 : 3 ≤ (headL x).length := by
    have h1 := (vbytes_len x.kind).2
    have h2 := (vbytes_len x.round).2
    have h3 := (vbytes_len x.node).2
    unfold headL
    simp only [List.length_append]
    omega
  have h4 := (vbytes_len x.cmd.kind).1
  have h5 := putL_len x.cmd (by omega) (by omega) (by omega) 6
  have h6 := (vbytes_len (x.image.length : Nat)).1
  unfold encL
  split
  · rw [List.length_append, List.length_append]; omega
  · split
    · rw [List.length_append, List.length_append]; omega
    · omega
theorem encT_size {x : Rc} (h : chkI x = 0) (hi : x.image.length ≤ 300) : 3 ≤ (encT x).length ∧ (encT x).length ≤ 7000 := by
  have h0 : recI x.kind x.round x.node x.index x.cmd x.image.length = 0 := h
  obtain ⟨hf, hsm, him, hsz⟩ := fits0 h0
  have hk := (rec0 h0).1
  have h1 := vbytes_len (x.kind + 16)
  have h2 := vbytes_len x.round
  have h3 := vbytes_len x.node
  have h4 := vbytes_len x.index
  have h5 := vbytes_len x.cmd.kind
  have h6 := vbytes_len (x.image.length : Nat)
  have h7 := putW_len (wantB 2 x.cmd.kind) x.cmd (by omega) (by omega) (by omega) 6
  unfold encT tailT
  generalize vbytes (x.kind + 16) = V at *
  obtain h | h | h | h : x.kind = 1 ∨ x.kind = 2 ∨ x.kind = 3 ∨ x.kind = 4 := by omega
  all_goals
    simp [h]
    omega
theorem encF_size {f : Int} {x : Rc} (h : errF f x = 0) (hi : x.image.length ≤ 300) : 3 ≤ (encF f x).length ∧ (encF f x).length ≤ 7000 := by
  by_cases h1 : f = 1
  · subst h1
    rw [errF1] at h
    unfold encF
    rw [if_pos rfl]
    exact encL_size h hi
  · by_cases h2 : f = 2
    · subst h2
      rw [errF2] at h
      unfold encF
      rw [if_neg (by decide)]
      exact encT_size h hi
    · rw [errFN (by omega)] at h
      cases h
def GetR (f : Int) (l : List Int) (r : Value) (G' : GH) (μ' : OH) : Prop := μ' = [] ∧ ∃ x v e, r = .tuple [v, .int .i64 e].toArray ∧ RcV G' x v ∧ ((decF f l = some x ∧ e = 0) ∨ (decF f l = none ∧ e ≠ 0))
theorem getF_s {G : GH} (hT : TabsG G) (f : Int) {l : List Int} {bv : Value} (hs : Sl G 1 (IntR .u8) bv l) (hl : l.length ≤ 1048000) : Con Tryz.prog 107 #[.int .i64 f, bv] G [] (GetR f l) := by
  by_cases h1 : f = 1
  · subst h1
    refine (get1_s hT hs hl).mono ?_
    rintro r G' μ' ⟨rfl, x, v, e, rfl, hx, hc⟩
    refine ⟨rfl, x, v, e, rfl, hx, ?_⟩
    obtain ⟨g1, g2⟩ | ⟨g1, g2⟩ := decF1 l
    · obtain ⟨-, rfl, rfl⟩ | ⟨h, -⟩ := hc
      · exact .inl ⟨g2, rfl⟩
      · exact absurd g1 h
    · obtain ⟨h, -⟩ | ⟨-, rfl, h⟩ := hc
      · exact absurd h g1
      · exact .inr ⟨g2, h⟩
  · by_cases h2 : f = 2
    · subst h2
      refine (get2_s hT hs hl).mono ?_
      rintro r G' μ' ⟨rfl, x, v, e, rfl, hx, hc⟩
      refine ⟨rfl, x, v, e, rfl, hx, ?_⟩
      obtain ⟨g1, g2⟩ | ⟨g1, g2⟩ := decF2 l
      · obtain ⟨-, rfl, rfl⟩ | ⟨h, -⟩ := hc
        · exact .inl ⟨g2, rfl⟩
        · exact absurd g1 h
      · obtain ⟨h, -⟩ | ⟨-, rfl, h⟩ := hc
        · exact absurd h g1
        · exact .inr ⟨g2, h⟩
    · refine (getN_s (by omega) bv).mono ?_
      rintro r G' μ' ⟨rfl, rfl, rfl⟩
      exact ⟨rfl, zeroRc, _, 8, rfl, ⟨_, rfl, Sl.nil⟩, .inr ⟨decFN (by omega) _, by decide⟩⟩
def rdL (bv : Value) (at_ f : Int) (lv : Value) : List Value := [bv, .int .i64 at_, .int .i64 f, .int .i64 0, .int .i64 0, .int .i64 0, .slice none 0 0, .slice none 0 0, .slice none 0 0, .int .i64 0, .int .i64 0, lv]
abbrev sgO (bv : Value) (at_ f : Int) (lv : Value) : Obj := .cells (rdL bv at_ f lv).toArray 106 (0, 0)
def BegR (B : List Int) (rb : Nat) (sv : Value) (r : Value) (μ' : OH) : Prop := ∃ (at_ : Nat) (f n : Int) (is : Bool), at_ ≤ B.length ∧ r = .tuple [.int .i64 n, .bool is].toArray ∧ μ' = [(rb, sgO sv (at_ : Nat) f (.slice none 0 0))] ∧ ((nextF B = none ∧ is = false) ∨ ∃ hd t, nextF B = some (hd, t) ∧ at_ = B.length - t.length ∧ f = (headF B.length hd).1 ∧ n = (headF B.length hd).2.1 ∧ is = decide ((headF B.length hd).2.2 = true ∧ ((headF B.length hd).1 = 1 ∨ (headF B.length hd).1 = 2)))
theorem nextF_body {l b r : List Int} (hw : byteL l) (h : nextF l = some (b, r)) : b.length ≤ l.length ∧ r.length ≤ l.length := by
  obtain ⟨e, -⟩ := nextF_inv hw h
  have h1 := congrArg List.length e
  have h2 := frB_len b
  rw [List.length_append] at h1
  omega
theorem begin_s {G : GH} (hC : CrcG G) {D : List Int} {sv : Value} (rb : Nat) (hs : Sl G 1 (IntR .u8) sv D) (hl : D.length ≤ 1048000) : Con Tryz.prog 61 #[.pointer (some ⟨rb, 0, none⟩)] G [(rb, sgO sv 0 0 (.slice none 0 0))] (fun r G' μ' => BegR D rb sv r μ') := by
  have q1 := fnext_s hC 0 hs (by omega) (by omega)
  have hbd := fun b r => nextF_body (l := D) (b := b) (r := r) (fun y hy => sl_byte hs y hy)
  unfold BegR
  unfold NextR at q1
  rw [List.drop_zero] at q1
  obtain ⟨A, c, rfl, -⟩ := id hs.openInt
  (refine v_enter Tryz.func61 rfl Tryz.ntmps61 rfl ?_; intro B _)
  repeat' (first | apply v_seq | apply v_region | apply v_nil | (apply v_pure; (case hop => first | (apply p_move <;> rfl) | (apply p_assign <;> rfl) | (apply p_fieldAddrB <;> rfl) | (apply p_nilCheck <;> rfl) | fail); (case hd => rfl)) | (apply v_read; (case hop => (apply r_load1; rfl; (apply Cell.own; (case h => (repeat (exact mhd _))); rfl))); (case hd => rfl)) | fail)
  refine v_call (μ1 := []) rfl q1 (List.Perm.refl _) rfl ?_
  rintro _ G1 _ hle1 ⟨rfl, v, z, e, rfl, ⟨hd, t, hn, sv1, rfl, rfl⟩ | ⟨hn, he, rfl, rfl⟩⟩
  · obtain ⟨A1, c1, rfl, -⟩ := id sv1.openInt
    have hbl := hbd _ _ hn
    repeat' (first | apply v_seq | apply v_region | apply v_nil | apply v_skip | (apply v_pure; (case hop => first | (apply p_move <;> rfl) | (apply p_nes <;> rfl) | (apply p_assign <;> rfl) | (apply p_extract0 <;> rfl) | (apply p_extract1 <;> rfl) | (apply p_extract2 <;> rfl) | fail); (case hd => rfl)) | (apply v_condF; (case hc => rfl)) | fail)
    refine v_call (μ1 := []) rfl (newReader_s sv1 (by omega)) (List.Perm.refl _) rfl ?_
    rintro _ G2 _ - ⟨hle2, b1, bv1, rfl, rfl, hs1⟩
    have hr0 : RdS hd 0 0 (some hd) := ⟨by omega, .inr ⟨by simp, rfl⟩⟩
    repeat' (first | apply v_seq | apply v_region | apply v_nil | (apply v_pure; (case hop => first | (apply p_move <;> rfl) | (apply p_assign <;> rfl) | fail); (case hd => rfl)) | fail)
    refine v_call (μ1 := [(b1, _)]) rfl (rdNumber_s b1 _ _ 2 hs1 (by omega) hr0) (PickA.perm (by repeat (exact PickA.here _))) rfl ?_
    rintro _ _ _ - ⟨rfl, rfl, a1, no1, rfl, hr1⟩
    repeat' (first | apply v_seq | apply v_region | apply v_nil | (apply v_pure; (case hop => first | (apply p_move <;> rfl) | (apply p_lenSlice <;> rfl) | (apply p_fieldAddrB <;> rfl) | (apply p_nilCheck <;> rfl) | fail); (case hd => rfl)) | (apply v_read; (case hop => (apply r_load1; rfl; (apply Cell.own; (case h => (repeat (first | exact mhd _ | apply mtl))); rfl))); (case hd => rfl)) | (apply v_store; (case hp => rfl); (case hx => rfl); (case hc => rfl); (case hsz => rfl); (case h1 => rfl); (case hb => (repeat (first | exact mhd _ | apply mtl))); (case hfit => exact nle rfl); (case hov => ((repeat (first | with_reducible exact ov_nil | apply ov_cons)); done)); (case hu => repeat (first | exact Upd.here _ _ | apply Upd.there))) | fail)
    refine v_call (μ1 := [(b1, _)]) rfl (rdNumber_s b1 _ _ (D.length : Nat) hs1 (by omega) hr1) (PickA.perm (by repeat (exact PickA.here _))) rfl ?_
    rintro _ _ _ - ⟨rfl, rfl, a2, no2, rfl, hr2⟩
    repeat' (first | apply v_seq | apply v_region | apply v_nil | (apply v_pure; (case hop => first | (apply p_move <;> rfl) | (apply p_assign <;> rfl) | (apply p_fieldAddrB <;> rfl) | (apply p_nilCheck <;> rfl) | fail); (case hd => rfl)) | (apply v_store; (case hp => rfl); (case hx => rfl); (case hc => rfl); (case hsz => rfl); (case h1 => rfl); (case hb => (repeat (first | exact mhd _ | apply mtl))); (case hfit => exact nle rfl); (case hov => ((repeat (first | with_reducible exact ov_nil | apply ov_cons)); done)); (case hu => repeat (first | exact Upd.here _ _ | apply Upd.there))) | fail)
    refine v_call (μ1 := [(b1, _)]) rfl (rdDone_s b1 _ _ hs1 (by omega) hr2) (PickA.perm (by repeat (exact PickA.here _))) rfl ?_
    rintro _ _ _ - ⟨rfl, ⟨ed, rfl, hed⟩, rfl⟩
    have qm := fun G => vmay_s G (numV 2 (some hd))
    have hh : headF (D.length : Nat) hd = (numV 2 (some hd), numV (D.length : Nat) (numS 2 (some hd)), decide (ed = 0)) := by unfold headF; simp only [← hed]
    clear hed hr0 hr1 hr2
    generalize numV (D.length : Nat) (numS 2 (some hd)) = nn at *
    generalize numV 2 (some hd) = f at *
    repeat' (first | apply v_nil | (apply v_take; (case hg => rfl)) | (apply v_pass; (case hg => rfl); (case hn => rfl); (case hd => rfl)) | (apply v_pure; (case hop => first | (apply p_move <;> rfl) | (apply p_eq <;> rfl) | (apply p_assign <;> rfl) | (apply p_pickT <;> rfl) | (apply p_pickF <;> rfl) | (apply p_fieldAddrB <;> rfl) | (apply p_nilCheck <;> rfl) | fail); (case hd => rfl)) | (apply v_guardB; (case h1 => rfl); (case h2 => rfl); all_goals (intro h; (try simp only [reduceCtorEq, zzz] at h))) | (apply v_callJ (hs := qm _); (case ha => rfl); (case hd => rfl)) | (apply v_read; (case hop => (apply r_load1; rfl; (apply Cell.own; (case h => (repeat (first | exact mhd _ | apply mtl))); rfl))); (case hd => rfl)) | fail)
    all_goals
      refine v_ret [(rb, _)] (outsA2 rfl rfl rfl) (by repeat (first | exact List.Sublist.refl _ | apply List.Sublist.cons)) ?_
      refine ⟨_, _, _, _, (by omega : D.length - t.length ≤ D.length), rfl, rfl, .inr ⟨hd, t, hn, rfl, by rw [hh], by rw [hh], ?_⟩⟩
      simp only [hh, decide_eq_true_eq]
      simp [*]
    all_goals vx_show
  · repeat' (first | apply v_seq | apply v_region | apply v_nil | (apply v_pure; (case hop => first | (apply p_move <;> rfl) | (apply p_ne <;> rfl) | (apply p_assign <;> rfl) | (apply p_extract0 <;> rfl) | (apply p_extract1 <;> rfl) | (apply p_extract2 <;> rfl) | fail); (case hd => rfl)) | (apply v_cond; (case hc => rfl); all_goals (intro h; (try simp only [reduceCtorEq, zzz] at h); first | (exfalso; omega) | skip)) | fail)
    refine v_ret [(rb, _)] (outsA2 rfl rfl rfl) (by repeat (exact List.Sublist.refl _)) ?_
    exact ⟨0, _, _, _, by omega, rfl, rfl, .inl ⟨hn, rfl⟩⟩
def NxtR (D : List Int) (rb : Nat) (sv : Value) (at_ : Nat) (f : Int) (xs : List Rc) (r : Value) (G' : GH) (μ' : OH) : Prop := ∃ (ok : Bool) (at' : Nat) (lv' : Value) (ν' : OH) (xs' : List Rc), r = .bool ok ∧ μ'.Perm ((rb, sgO sv (at' : Nat) f lv') :: ν') ∧ GrowR G' lv' xs' ν' ∧ ((ok = false ∧ at' = at_ ∧ xs' = xs ∧ (nextF (D.drop at_) = none ∨ ∃ b t, nextF (D.drop at_) = some (b, t) ∧ decF f b = none)) ∨ (ok = true ∧ ∃ b t x, nextF (D.drop at_) = some (b, t) ∧ decF f b = some x ∧ xs' = xs ++ [x] ∧ at' = D.length - t.length))
set_option maxHeartbeats 1000000 in
theorem next_s {G : GH} (hT : TabsG G) (hC : CrcG G) {D : List Int} {sv lv : Value} (rb at_ : Nat) (f : Int) {xs : List Rc} {ν : OH} (hs : Sl G 1 (IntR .u8) sv D) (hl : D.length ≤ 1048000) (ha : at_ ≤ D.length) (hx : xs.length ≤ 1048000) (hg : GrowR G lv xs ν) : Con Tryz.prog 63 #[.pointer (some ⟨rb, 0, none⟩)] G ((rb, sgO sv (at_ : Nat) f lv) :: ν) (NxtR D rb sv at_ f xs) := by
  have q1 := fnext_s hC at_ hs (by omega) ha
  have hbd := fun b r => nextF_body (l := D.drop at_) (b := b) (r := r) (fun y hy => sl_byte hs y (List.mem_of_mem_drop hy))
  unfold NxtR
  unfold NextR at q1
  obtain ⟨A, c, rfl, -⟩ := id hs.openInt
  obtain ⟨css, hcl, hcr, hgr⟩ := id hg
  obtain ⟨Ag, cg, rfl, hgl, hgm⟩ := id hgr.shape
  (refine v_enter Tryz.func63 rfl Tryz.ntmps63 rfl ?_; intro B _)
  repeat' (first | apply v_seq | apply v_region | apply v_nil | (apply v_pure; (case hop => (apply p_assign <;> rfl)); (case hd => rfl)) | fail)
  refine d_start [(rb, sgO (.slice A D.length c) (at_ : Nat) f (.slice Ag xs.length cg))] (by kernel_rfl) (by kernel_rfl) (by kernel_rfl) (by intro e he; (simp at he; simp [he]; done)) ?_
  all_goals (apply dtk 0; (case hi => rfl); (case hop => (apply prd; apply p_move <;> rfl)); (case hq => kernel_rfl))
  all_goals (apply dtk 1; (case hi => rfl); (case hop => (apply prd; apply p_nilCheck <;> rfl)); (case hq => kernel_rfl))
  all_goals (apply dtk 2; (case hi => rfl); (case hop => (apply prd; apply p_fieldAddrB <;> rfl)); (case hq => kernel_rfl))
  all_goals (apply dtk 3; (case hi => rfl); (case hop => first | (apply r_loadNo; (case hx => rfl); (case h => (repeat (fail))); (case hd => (repeat (fail))); (case hn => rfl)) | (apply r_load1; rfl; (apply Cell.own; (case h => (repeat (exact mhd _))); rfl)) | (apply r_loadN; rfl; (apply CellsAt.own; (case h => (repeat (fail)))); rfl)); (case hq => kernel_rfl))
  all_goals (apply dtk 4; (case hi => rfl); (case hop => (apply prd; apply p_move <;> rfl)); (case hq => kernel_rfl))
  all_goals (apply dtk 5; (case hi => rfl); (case hop => (apply prd; apply p_nilCheck <;> rfl)); (case hq => kernel_rfl))
  all_goals (apply dtk 6; (case hi => rfl); (case hop => (apply prd; apply p_fieldAddrB <;> rfl)); (case hq => kernel_rfl))
  all_goals (apply dtk 7; (case hi => rfl); (case hop => first | (apply r_loadNo; (case hx => rfl); (case h => (repeat (fail))); (case hd => (repeat (fail))); (case hn => rfl)) | (apply r_load1; rfl; (apply Cell.own; (case h => (repeat (exact mhd _))); rfl)) | (apply r_loadN; rfl; (apply CellsAt.own; (case h => (repeat (fail)))); rfl)); (case hq => kernel_rfl))
  all_goals ((apply d_call 8 (hs := q1) (μ1 := []); (case hi => rfl); (case hr => kernel_rfl);  (case ha => rfl); (case hp => exact List.Perm.refl _); (case hd => rfl); (case hν' => intro e he; simp at he; simp [he]); rintro _ G1 _ hle1 ⟨rfl, v, z, e, rfl, hcase⟩))
  all_goals (apply dtk 9; (case hi => rfl); (case hop => (apply prd; apply p_move <;> rfl)); (case hq => kernel_rfl))
  all_goals (apply dtk 10; (case hi => rfl); (case hop => (apply prd; apply p_extract0 <;> rfl)); (case hq => kernel_rfl))
  all_goals (apply dtk 11; (case hi => rfl); (case hop => (apply prd; apply p_extract1 <;> rfl)); (case hq => kernel_rfl))
  all_goals (apply dtk 12; (case hi => rfl); (case hop => (apply prd; apply p_extract2 <;> rfl)); (case hq => kernel_rfl))
  all_goals (apply dtk 13; (case hi => rfl); (case hop => (apply prd; apply p_assign <;> rfl)); (case hq => kernel_rfl))
  all_goals (apply dtk 14; (case hi => rfl); (case hop => (apply prd; apply p_assign <;> rfl)); (case hq => kernel_rfl))
  all_goals (apply dtk 15; (case hi => rfl); (case hop => (apply prd; apply p_assign <;> rfl)); (case hq => kernel_rfl))
  all_goals (apply d_done; (case hr => kernel_rfl))
  obtain ⟨bd, t, hn, sv1, rfl, rfl⟩ | ⟨hn, he, rfl, rfl⟩ := hcase
  rotate_left
  · repeat' (first | apply v_seq | apply v_region | apply v_nil | (apply v_pure; (case hop => first | (apply p_move <;> rfl) | (apply p_ne <;> rfl) | (apply p_assign <;> rfl) | fail); (case hd => rfl)) | (apply v_cond; (case hc => rfl); all_goals (intro h; (try simp only [reduceCtorEq, zzz] at h); first | (exfalso; omega) | skip)) | fail)
    refine v_ret _ (outsA1 rfl rfl) (List.Sublist.refl _) ?_
    exact ⟨_, at_, _, ν, xs, rfl, List.Perm.refl _, hg.le hle1, .inl ⟨rfl, rfl, rfl, .inl hn⟩⟩
  obtain ⟨A1, c1, rfl, -⟩ := id sv1.openInt
  have hbl := hbd _ _ hn
  rw [List.length_drop] at hbl
  repeat' (first | apply v_seq | apply v_region | apply v_nil | apply v_skip | (apply v_pure; (case hop => first | (apply p_move <;> rfl) | (apply p_nes <;> rfl) | (apply p_fieldAddrB <;> rfl) | (apply p_nilCheck <;> rfl) | fail); (case hd => rfl)) | (apply v_condF; (case hc => rfl)) | (apply v_read; (case hop => (apply r_load1; rfl; (apply Cell.own; (case h => (repeat (exact mhd _))); rfl))); (case hd => rfl)) | fail)
  refine v_call (μ1 := []) rfl (getF_s (hT.le hle1) f sv1 (by omega)) (List.Perm.refl _) rfl ?_
  rintro _ G2 _ hle2 ⟨rfl, x, xv, e, rfl, hxv, hcase⟩
  have hle := GH.le_trans hle1 hle2
  obtain ⟨iv, rfl, hix⟩ := id hxv
  obtain ⟨Ai, ci, hie, -⟩ := id hix.openInt
  subst hie
  obtain ⟨hd, rfl⟩ | ⟨hd, he⟩ := hcase
  rotate_left
  · repeat' (first | apply v_seq | apply v_region | apply v_nil | (apply v_pure; (case hop => first | (apply p_move <;> rfl) | (apply p_ne <;> rfl) | (apply p_assign <;> rfl) | (apply p_extract0 <;> rfl) | (apply p_extract1 <;> rfl) | fail); (case hd => rfl)) | (apply v_cond; (case hc => rfl); all_goals (intro h; (try simp only [reduceCtorEq, zzz] at h); first | (exfalso; omega) | skip)) | (apply v_alloc; (case hz => rfl); (case hd => rfl); intro b) | (apply v_store; (case hp => rfl); (case hx => rfl); (case hc => rfl); (case hsz => rfl); (case h1 => rfl); (case hb => (repeat (exact mhd _))); (case hfit => exact nle rfl); (case hov => ((repeat (first | with_reducible exact ov_nil | apply ov_cons)); done)); (case hu => repeat (exact Upd.here _ _))) | fail)
    all_goals first
      | (exfalso; omega)
      | (refine v_ret ((rb, sgO _ _ _ _) :: ν) (outsA1 rfl rfl) (by repeat (first | exact List.Sublist.refl _ | apply List.Sublist.cons)) ?_
         exact ⟨_, at_, _, ν, xs, rfl, List.Perm.refl _, hg.le hle, .inl ⟨rfl, rfl, rfl, .inr ⟨bd, t, hn, hd⟩⟩⟩)
  obtain ⟨-, -, -, hco, hsm⟩ := decF_inv (fun y hy => sl_byte sv1 y hy) hd
  repeat' (first | apply v_seq | apply v_region | apply v_nil | apply v_skip | (apply v_pure; (case hop => first | (apply p_move <;> rfl) | (apply p_nes <;> rfl) | (apply p_assign <;> rfl) | (apply p_extract0 <;> rfl) | (apply p_extract1 <;> rfl) | fail); (case hd => rfl)) | (apply v_condF; (case hc => rfl)) | (apply v_alloc; (case hz => rfl); (case hd => rfl); intro b) | (apply v_store; (case hp => rfl); (case hx => rfl); (case hc => rfl); (case hsz => rfl); (case h1 => rfl); (case hb => (repeat (exact mhd _))); (case hfit => exact nle rfl); (case hov => ((repeat (first | with_reducible exact ov_nil | apply ov_cons)); done)); (case hu => repeat (exact Upd.here _ _))) | fail)
  revert b
  intro xb
  refine d_start [(xb, .cells #[.int .i64 x.kind, .int .i64 x.round, .int .i64 x.node, .int .i64 x.index, .int .i64 x.cmd.kind, .int .i64 x.cmd.client, .int .i64 x.cmd.seq, .string x.cmd.key, .string x.cmd.val, .string x.cmd.old, .int .i64 x.cmd.node, .slice Ai x.image.length ci] 42 (0, 0))] (by kernel_rfl) (by kernel_rfl) (by kernel_rfl) (by intro e he; (simp at he; simp [he]; done)) ?_
  all_goals (apply dtk 0; (case hi => rfl); (case hop => (apply prd; apply p_move <;> rfl)); (case hq => kernel_rfl))
  all_goals (apply dtk 1; (case hi => rfl); (case hop => (apply prd; apply p_move <;> rfl)); (case hq => kernel_rfl))
  all_goals (apply dtk 2; (case hi => rfl); (case hop => (apply prd; apply p_nilCheck <;> rfl)); (case hq => kernel_rfl))
  all_goals (apply dtk 3; (case hi => rfl); (case hop => (apply prd; apply p_fieldAddrB <;> rfl)); (case hq => kernel_rfl))
  all_goals (apply dtk 5; (case hi => rfl); (case hop => first | (apply r_loadNo; (case hx => rfl); (case h => (repeat (exact mhd _))); (case hd => (repeat (first | with_reducible exact dt_nil | apply dt_here))); (case hn => rfl)) | (apply r_load1; rfl; (apply Cell.own; (case h => (repeat (fail))); rfl)) | (apply r_loadN; rfl; (apply CellsAt.own; (case h => (repeat (fail)))); rfl)); (case hq => kernel_rfl))
  focus
    refine d_fork 4 6 (by kernel_rfl) ?_ ?_
    rotate_right
    focus
      (apply x_buildSlice 6; (case hi => rfl); (case hT => infer_instance); (case hL => infer_instance); (case hz => rfl); (case hl => rfl); (case hv => (simp only [List.map_cons, List.map_nil]; repeat (first | with_reducible exact evs_nil | (apply evs_cons; (case h1 => rfl))))); (case hp => (apply pk_cons; (case hc => rfl); (case hs => rfl); (case h => (with_reducible exact pk_nil)); (case he => ((repeat (first | with_reducible exact ap_nil | apply ap_cons)); done)))); (case hb => rfl); (case hd => rfl); (case hν => intro e he; (simp at he; simp [he]; done)); intro bb)
      all_goals (apply d_keep 4 (hop := ReadOp.move ?hop); (case hi => rfl); (case hr => kernel_rfl); (case hop => (apply r_load1; rfl; (apply Cell.own; (case h => repeat (first | exact mhd _ | apply mtl)); rfl))); (case hd => rfl))
      all_goals (apply d_append 7 (hg := hgr) (q' := 1) (us := recL x.kind x.round x.node x.index x.cmd (.slice Ai x.image.length ci)) (hp := PickA.perm (by repeat (first | exact PickA.last | apply PickA.cons))) (hsrc := Src.own (e := 42) (by repeat (exact mhd _)) rfl); (case hi => rfl); (case hr => kernel_rfl); (case hT => infer_instance); (case hL => infer_instance); (case hzs => rfl); (case hsz => omega); (case hs => rfl); (case hx => rfl); (case hb => omega); (case hb' => simp only [maxLen]; omega); (case hd => rfl); (case h1 => rfl); (case hν => intro e he; (simp at he; simp [he]; done)); intro v3 n3 hg3; obtain ⟨A3, c3, rfl, -, -⟩ := hg3.shape)
      all_goals (apply dtk 8; (case hi => rfl); (case hop => (apply prd; apply p_nilCheck <;> rfl)); (case hq => kernel_rfl))
      all_goals (apply dtk 9; (case hi => rfl); (case hop => (apply prd; apply p_fieldAddrB <;> rfl)); (case hq => kernel_rfl))
      all_goals (apply d_store 10; (case hi => rfl); (case hr => kernel_rfl); (case hL => infer_instance); (case hp => rfl); (case hx => rfl); (case hc => rfl); (case hsz => rfl); (case h1 => rfl); (case hb => (repeat (first | exact mhd _ | apply mtl | apply List.mem_append_right))); (case hfit => exact nle rfl); (case hov => ((repeat (first | with_reducible exact ov_nil | apply ov_cons)); done)); (case hu => repeat (first | exact Upd.here _ _ | apply Upd.there | apply Upd.app)); (case hν' => intro e he; (simp at he; simp [he]; done)))
      all_goals (apply d_done; (case hr => kernel_rfl))
    rotate_right
    focus
      (apply x_exec 4; (case hi => rfl);  (case hop => exact ReadOp.move (r_load1 rfl (Cell.own (by repeat (first | exact mhd _ | apply mtl)) rfl))); (case hd => rfl); rintro _ G0 _ ⟨rfl, hG0, rfl⟩; subst G0; refine ⟨(by intro e he; simp at he; simp [he]), ?_⟩)
      all_goals (apply d_buildSlice 6; (case hi => rfl); (case hr => kernel_rfl); (case hT => infer_instance); (case hL => infer_instance); (case hz => rfl); (case hl => rfl); (case hv => (simp only [List.map_cons, List.map_nil]; repeat (first | with_reducible exact evs_nil | (apply evs_cons; (case h1 => rfl))))); (case hp => (apply pk_cons; (case hc => rfl); (case hs => rfl); (case h => (with_reducible exact pk_nil)); (case he => ((repeat (first | with_reducible exact ap_nil | apply ap_cons)); done)))); (case hb => rfl); (case hd => rfl); (case hν => intro e he; (simp at he; simp [he]; done)); intro bb)
      all_goals (apply d_append 7 (hg := hgr) (q' := 1) (us := recL x.kind x.round x.node x.index x.cmd (.slice Ai x.image.length ci)) (hp := PickA.perm (by repeat (first | exact PickA.last | apply PickA.cons))) (hsrc := Src.own (e := 42) (by repeat (exact mhd _)) rfl); (case hi => rfl); (case hr => kernel_rfl); (case hT => infer_instance); (case hL => infer_instance); (case hzs => rfl); (case hsz => omega); (case hs => rfl); (case hx => rfl); (case hb => omega); (case hb' => simp only [maxLen]; omega); (case hd => rfl); (case h1 => rfl); (case hν => intro e he; (simp at he; simp [he]; done)); intro v3 n3 hg3; obtain ⟨A3, c3, rfl, -, -⟩ := hg3.shape)
      all_goals (apply dtk 8; (case hi => rfl); (case hop => (apply prd; apply p_nilCheck <;> rfl)); (case hq => kernel_rfl))
      all_goals (apply dtk 9; (case hi => rfl); (case hop => (apply prd; apply p_fieldAddrB <;> rfl)); (case hq => kernel_rfl))
      all_goals (apply d_store 10; (case hi => rfl); (case hr => kernel_rfl); (case hL => infer_instance); (case hp => rfl); (case hx => rfl); (case hc => rfl); (case hsz => rfl); (case h1 => rfl); (case hb => (repeat (first | exact mhd _ | apply mtl | apply List.mem_append_right))); (case hfit => exact nle rfl); (case hov => ((repeat (first | with_reducible exact ov_nil | apply ov_cons)); done)); (case hu => repeat (first | exact Upd.here _ _ | apply Upd.there | apply Upd.app)); (case hν' => intro e he; (simp at he; simp [he]; done)))
      all_goals (apply d_done; (case hr => kernel_rfl))
  all_goals
    repeat' (first | apply v_seq | apply v_region | apply v_nil | (apply v_pure; (case hop => first | (apply p_move <;> rfl) | (apply p_assign <;> rfl) | (apply p_fieldAddrB <;> rfl) | (apply p_nilCheck <;> rfl) | fail); (case hd => rfl)) | (apply v_store; (case hp => rfl); (case hx => rfl); (case hc => rfl); (case hsz => rfl); (case h1 => rfl); (case hb => (repeat (first | exact mhd _ | apply mtl | apply List.mem_append_right))); (case hfit => exact nle rfl); (case hov => ((repeat (first | with_reducible exact ov_nil | apply ov_cons)); done)); (case hu => repeat (first | exact Upd.here _ _ | apply Upd.there | apply Upd.app))) | fail)
    refine v_ret (n3 ++ [(rb, sgO (.slice A D.length c) ((D.length - t.length : Nat) : Int) f (.slice A3 (xs.length + 1) c3))]) (outsA1 rfl rfl) (List.Sublist.append_left (by repeat (first | exact List.Sublist.refl _ | apply List.Sublist.cons)) _) ?_
    exact ⟨_, D.length - t.length, _, n3, xs ++ [x], rfl, List.perm_append_singleton _ _, GrowR.snoc hcl (fun i y cs h1 h2 => (hcr i y cs h1 h2).le hle) hg3 ⟨_, rfl, hco, hsm, hix⟩, .inr ⟨rfl, bd, t, x, hn, hd, rfl, rfl⟩⟩
theorem more_s {G : GH} {D : List Int} {sv lv : Value} (rb ib pb at_ : Nat) (f : Int) {xs : List Rc} {ν : OH} (is : Bool) (q : Con Tryz.prog 63 #[.pointer (some ⟨rb, 0, none⟩)] G ((rb, sgO sv (at_ : Nat) f lv) :: ν) (NxtR D rb sv at_ f xs)) :
    Con Tryz.prog 62 #[.pointer (some ⟨ib, 0, none⟩), .pointer (some ⟨pb, 0, none⟩)] G ([(ib, .cells #[.bool is] 4 (0, 0)), (pb, .cells #[.pointer (some ⟨rb, 0, none⟩)] 104 (0, 0))] ++ (rb, sgO sv (at_ : Nat) f lv) :: ν) (fun r G' μ' => ∃ ν', μ'.Perm ([(ib, .cells #[.bool is] 4 (0, 0)), (pb, .cells #[.pointer (some ⟨rb, 0, none⟩)] 104 (0, 0))] ++ ν') ∧ ((is = false ∧ r = .bool false ∧ G' = G ∧ ν' = (rb, sgO sv (at_ : Nat) f lv) :: ν) ∨ (is = true ∧ NxtR D rb sv at_ f xs r G' ν'))) := by
  (refine v_enter Tryz.func62 rfl Tryz.ntmps62 rfl ?_; intro B _)
  cases is
  · repeat' (first | apply v_seq | apply v_region | apply v_nil | (apply v_pass; (case hg => rfl); (case hn => rfl); (case hd => rfl)) | (apply v_pure; (case hop => first | (apply p_move <;> rfl) | (apply p_assign <;> rfl) | (apply p_pickF <;> rfl) | fail); (case hd => rfl)) | (apply v_read; (case hop => (apply r_load1; rfl; (apply Cell.own; (case h => (repeat (exact mhd _))); rfl))); (case hd => rfl)) | fail)
    exact v_ret _ (outsA1 rfl rfl) (List.Sublist.refl _) ⟨_, List.Perm.refl _, .inl ⟨rfl, rfl, rfl, rfl⟩⟩
  · repeat' (first | apply v_seq | apply v_region | apply v_nil | (apply v_take; (case hg => rfl)) | (apply v_pure; (case hop => first | (apply p_move <;> rfl) | (apply p_assign <;> rfl) | fail); (case hd => rfl)) | (apply v_read; (case hop => (apply r_load1; rfl; (apply Cell.own; (case h => (repeat (first | exact mhd _ | apply mtl))); rfl))); (case hd => rfl)) | fail)
    refine v_call (μ1 := (rb, sgO sv (at_ : Nat) f lv) :: ν) rfl q List.perm_append_comm rfl ?_
    rintro _ G1 ν1 - ⟨ok, at', lv', ν', xs', rfl, hp, hg, hc⟩
    repeat' (first | apply v_nil | (apply v_pure; (case hop => first | (apply p_assign <;> rfl) | (apply p_pickT <;> rfl) | fail); (case hd => rfl)) | fail)
    exact v_ret _ (outsA1 rfl rfl) (List.Sublist.refl _) ⟨ν1, List.perm_append_comm, .inr ⟨rfl, ok, at', lv', ν', xs', rfl, hp, hg, hc⟩⟩
section
attribute [local semireducible] Vc DVc Con PureOp ReadOp MoveOp
theorem d_fork3 {P : Program} {fn : Func} {n : Nat} {B : Base} {Φ : Value → GH → OH → Prop} {k : List It} {σ : Env} {G G0 : GH} {μ : OH} {all : Array Oper} {m : Nat} {listed : Array Bool} {ν : OH} (i j l : Nat) (hr : Region.ready .any all listed = [i, j, l]) (h1 : DX P fn n B Φ all G0 ν m listed k σ G μ i) (h2 : DX P fn n B Φ all G0 ν m listed k σ G μ j) (h3 : DX P fn n B Φ all G0 ν m listed k σ G μ l) : DVc P fn n B Φ all G0 ν (m + 1) listed k σ G μ := by
  intro hsel hle hν w hw a ha
  refine wpAnyH_all hr (by simp) fun x hx => ?_
  simp only [List.mem_cons, List.mem_singleton, List.not_mem_nil, or_false] at hx
  obtain rfl | rfl | rfl := hx
  · exact h1 hsel hle hν w hw a ha
  · exact h2 hsel hle hν w hw a ha
  · exact h3 hsel hle hν w hw a ha
end
end Go.Proofs.YtpemabgfmnhhnaaGreatDoor
