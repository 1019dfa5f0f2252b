/-
  conf (layer 11), the fifth part: the reference's members with a change.
-/
import Derived.Test.YtmdeeokejdkceaaGreatDoorM5
set_option linter.unusedSimpArgs false
set_option linter.unusedVariables false
namespace Go.Proofs.YtmdeeokejdkceaaGreatDoor
open Go.Vx Go.ChangeShapes Go.WideShapes Go.ChangeAt Go.RowKit
def nine (k : Nat) : List Int := (List.range k).map fun j : Nat => (j : Int) + 1
def refChangedL (l : List Int) (kind n : Int) : List Int :=
  if kind = 7 ∧ 1 ≤ n ∧ n ≤ 9 ∧ inB l n = false then (nine 9).filter fun m => decide (m = n) || inB l m
  else if kind = 8 ∧ inB l n = true then l.filter fun m => decide (m ≠ n) else []
theorem nine_succ (k : Nat) : nine (k + 1) = nine k ++ [(k : Int) + 1] := by simp [nine, List.range_succ]
theorem refChanged_s {G : GH} {l : List Int} {sv : Value} (kind n : Int) (hs : Sl G 1 (IntR .i64) sv l) (hbig : l.length ≤ 1048000) :
    Con Tryz.prog 152 #[sv, .int .i64 kind, .int .i64 n] G [] (fun r G' μ' => G' = G ∧ Grow 3 1 r (refChangedL l kind n).length ((refChangedL l kind n).map (Value.int .i64 ·)) μ') := by
  have hin := fun m => in_s m hs
  obtain ⟨A, c, rfl, hlc, hcm, hsome, hel, hwf⟩ := hs.openInt
  simp only [maxLen] at hcm
  (refine v_enter Tryz.func152 rfl Tryz.ntmps152 rfl ?_; intro B _)
  repeat' (first | apply v_seq | apply v_region | apply v_nil | apply v_skip | apply v_block | (apply v_take; (case hg => rfl)) | (apply v_pass; (case hg => rfl); (case hn => rfl); (case hd => rfl)) | (apply v_pure; (case hop => first | (apply p_move <;> rfl) | (apply p_eq <;> rfl) | (apply p_le <;> rfl) | (apply p_ge <;> rfl) | (apply p_assign <;> rfl) | (apply p_pickT <;> rfl) | (apply p_pickF <;> rfl) | (apply p_not <;> rfl) | fail); (case hd => rfl)) | (apply v_condF; (case hc => rfl)) | (apply v_cond; (case hc => rfl); all_goals (intro h; (try simp only [reduceCtorEq, zzz] at h))) | (apply v_guardB; (case h1 => rfl); (case h2 => rfl); all_goals (intro h; (try simp only [reduceCtorEq, zzz] at h); first | (exfalso; omega) | skip)) | (apply v_callJ (hs := hin _); (case ha => rfl); (case hd => rfl)) | fail)
  · have e : refChangedL l kind n = (nine 9).filter fun m => decide (m = n) || inB l m := by
      unfold refChangedL
      rw [if_pos ⟨by assumption, by assumption, by assumption, by assumption⟩]
    refine v_loop [8, 7, 0, 1, 2] (fun us G' μ' => G' = G ∧ ∃ (k : Nat) (out : Value), k ≤ 9 ∧ us = [Value.int .i64 ((k : Int) + 1), out, .slice A l.length c, .int .i64 kind, .int .i64 n] ∧ Grow 3 1 out ((nine k).filter fun m => decide (m = n) || inB l m).length (((nine k).filter fun m => decide (m = n) || inB l m).map (Value.int .i64 ·)) μ') (fun us => 10 - (headI us).toNat) rfl ⟨rfl, 0, _, by omega, rfl, Grow.nil _ _⟩ ?_
    rintro us G' μ' ⟨rfl, k, out, hk, rfl, hg⟩
    have hf := List.length_filter_le (fun m => decide (m = n) || inB l m) (nine k)
    have hnk : (nine k).length = k := by simp [nine]
    repeat' (first | apply v_seq | apply v_region | apply v_nil | apply v_skip | apply v_block | apply v_blk | (apply v_exit; (case hp => rfl)) | (apply v_take; (case hg => rfl)) | (apply v_pass; (case hg => rfl); (case hn => rfl); (case hd => rfl)) | (apply v_pure; (case hop => first | (apply p_move <;> rfl) | (apply p_eq <;> rfl) | (apply p_le <;> rfl) | (apply p_assign <;> rfl) | (apply p_pickT <;> rfl) | (apply p_pickF <;> rfl) | (apply p_add; (case hx => rfl); (case hy => rfl); (case h => omega)) | fail); (case hd => rfl)) | (apply v_condT; (case hc => rfl)) | (apply v_condF; (case hc => rfl)) | (apply v_cond; (case hc => rfl); all_goals (intro h; (try simp only [reduceCtorEq, zzz] at h))) | (apply v_guardB; (case h1 => rfl); (case h2 => rfl); all_goals (intro h; (try simp only [reduceCtorEq, zzz] at h); first | (exfalso; omega) | skip)) | (apply v_callJ (hs := hin _); (case ha => rfl); (case hd => rfl)) | (apply v_buildSlice; (case hz => rfl); (case hi => rfl); (case hv => (simp only [List.map_cons, List.map_nil]; repeat (first | with_reducible exact evs_nil | (apply evs_cons; (case h1 => rfl))))); (case hp => (apply pk_cons; (case hc => rfl); (case hs => rfl); (case h => (with_reducible exact pk_nil)); (case he => ((repeat (first | with_reducible exact ap_nil | apply ap_cons)); done)))); (case hb => rfl); (case hd => rfl); intro b) | fail)
    all_goals try
      (refine v_append (e := 3) (sz := 1) (zero := .int .i64 0) (us := [Value.int .i64 ((k : Int) + 1)]) (m' := 1) rfl (by omega) rfl rfl hg (List.perm_append_comm (l₁ := [_])) (Src.own (List.Mem.head _) rfl) rfl (by omega) (by simp only [maxLen]; omega) rfl ?_
       intro v' ν' hg'
       repeat' (first | apply v_region | apply v_nil | apply v_blk | (apply v_pure; (case hop => first | (apply p_move <;> rfl) | (apply p_assign <;> rfl) | (apply p_add; (case hx => rfl); (case hy => rfl); (case h => omega)) | fail); (case hd => rfl)) | fail)
       refine v_drop (ν := ν') (by simp) ?_
       refine v_again rfl ⟨rfl, k + 1, v', by omega, rfl, ?_⟩ (by simp [headI]; omega)
       have ef : ((nine (k + 1)).filter fun m => decide (m = n) || inB l m) = ((nine k).filter fun m => decide (m = n) || inB l m) ++ [(k : Int) + 1] := by
         rw [nine_succ, List.filter_append]
         congr 1
         simp [*]
       rw [ef]
       simpa using hg')
    · refine v_again rfl ⟨rfl, k + 1, out, by omega, rfl, ?_⟩ (by simp [headI]; omega)
      have ef : ((nine (k + 1)).filter fun m => decide (m = n) || inB l m) = ((nine k).filter fun m => decide (m = n) || inB l m) := by
        rw [nine_succ, List.filter_append]
        simp [*]
      rw [ef]
      exact hg
    · obtain rfl : k = 9 := by omega
      rw [← e] at hg
      repeat' (fail)
      all_goals first
        | (exfalso; omega)
        | (refine v_ret μ' (outsA1 rfl rfl) (List.Sublist.refl _) ?_
           exact ⟨rfl, hg⟩)
  all_goals try
    (refine v_ret [] (outsA1 rfl rfl) (by repeat (exact List.Sublist.refl _)) ?_
     have e : refChangedL l kind n = [] := by
       unfold refChangedL
       rw [if_neg, if_neg]
       · rintro ⟨h1, h2⟩
         first | omega | simp_all
       · rintro ⟨h1, h2, h3, h4⟩
         first | omega | simp_all
     rw [e]
     exact ⟨rfl, Grow.nil _ _⟩)
  all_goals
    (have e : refChangedL l kind n = l.filter fun m => decide (m ≠ n) := by
       unfold refChangedL
       rw [if_neg (by rintro ⟨h1, h2, h3, h4⟩; omega), if_pos ⟨by assumption, by assumption⟩]
     refine v_loop [9, 7, 0, 1, 2] (fun us G' μ' => G' = G ∧ ∃ (k : Nat) (out : Value), k ≤ l.length ∧ us = [Value.int .i64 (k : Int), out, .slice A l.length c, .int .i64 kind, .int .i64 n] ∧ Grow 3 1 out ((l.take k).filter fun m => decide (m ≠ n)).length (((l.take k).filter fun m => decide (m ≠ n)).map (Value.int .i64 ·)) μ') (fun us => l.length - (headI us).toNat) rfl ⟨rfl, 0, _, by omega, rfl, Grow.nil _ _⟩ ?_
     rintro us G' μ' ⟨rfl, k, out, hk, rfl, hg⟩
     have hf := List.length_filter_le (fun m => decide (m ≠ n)) (l.take k)
     have hlk : (l.take k).length ≤ k := by rw [List.length_take]; omega
     repeat' (first | apply v_seq | apply v_region | apply v_nil | apply v_skip | apply v_block | apply v_blk | (apply v_exit; (case hp => rfl)) | (apply v_pure; (case hop => first | (apply p_move <;> rfl) | (apply p_lt <;> rfl) | (apply p_ne <;> rfl) | (apply p_assign <;> rfl) | (apply p_lenSlice <;> rfl) | (apply p_add; (case hx => rfl); (case hy => rfl); (case h => omega)) | (apply p_indexAddrS; (case hx => rfl); (case hi => rfl); (case h0 => omega); (case h => omega); (case hA => (apply_assumption; omega))) | fail); (case hd => rfl)) | (apply v_cond; (case hc => rfl); all_goals (intro h; (try simp only [reduceCtorEq, zzz] at h))) | (apply v_read; (case hop => (apply r_load1; rfl; exact Cell.frozen (hel _ (by omega)))); (case hd => rfl)) | (apply v_buildSlice; (case hz => rfl); (case hi => rfl); (case hv => (simp only [List.map_cons, List.map_nil]; repeat (first | with_reducible exact evs_nil | (apply evs_cons; (case h1 => rfl))))); (case hp => (apply pk_cons; (case hc => rfl); (case hs => rfl); (case h => (with_reducible exact pk_nil)); (case he => ((repeat (first | with_reducible exact ap_nil | apply ap_cons)); done)))); (case hb => rfl); (case hd => rfl); intro b) | fail))
  all_goals first
    | (refine v_append (e := 3) (sz := 1) (zero := .int .i64 0) (us := [Value.int .i64 (l[k]'(by omega))]) (m' := 1) rfl (by omega) rfl rfl hg (List.perm_append_comm (l₁ := [_])) (Src.own (List.Mem.head _) rfl) rfl (by omega) (by simp only [maxLen]; omega) rfl ?_
       intro v' ν' hg'
       repeat' (first | apply v_region | apply v_nil | apply v_blk | (apply v_pure; (case hop => first | (apply p_move <;> rfl) | (apply p_assign <;> rfl) | (apply p_add; (case hx => rfl); (case hy => rfl); (case h => omega)) | fail); (case hd => rfl)) | fail)
       refine v_drop (ν := ν') (by simp) ?_
       refine v_again rfl ⟨rfl, k + 1, v', by omega, rfl, ?_⟩ (by simp [headI]; omega)
       have hne : ¬ l[k]'(by omega) = n := by assumption
       have ef : ((l.take (k + 1)).filter fun m => decide (m ≠ n)) = ((l.take k).filter fun m => decide (m ≠ n)) ++ [l[k]'(by omega)] := by
         rw [List.take_succ_eq_append_getElem (by omega), List.filter_append]
         congr 1
         simp [hne]
       rw [ef]
       simpa using hg')
    | (refine v_again rfl ⟨rfl, k + 1, out, by omega, rfl, ?_⟩ (by simp [headI]; omega)
       have hne : l[k]'(by omega) = n := by assumption
       have ef : ((l.take (k + 1)).filter fun m => decide (m ≠ n)) = ((l.take k).filter fun m => decide (m ≠ n)) := by
         rw [List.take_succ_eq_append_getElem (by omega), List.filter_append]
         simp [hne]
       rw [ef]
       exact hg)
    | (obtain rfl : k = l.length := by omega
       rw [List.take_length, ← e] at hg
       refine v_ret μ' (outsA1 rfl rfl) (List.Sublist.refl _) ?_
       exact ⟨rfl, hg⟩)
theorem sorted_ext : ∀ {a b : List Int}, a.Pairwise (· < ·) → b.Pairwise (· < ·) → (∀ x, x ∈ a ↔ x ∈ b) → a = b
  | [], [], _, _, _ => rfl
  | [], y :: b, _, _, h => by have := (h y).2 (by simp); simp at this
  | x :: a, [], _, _, h => by have := (h x).1 (by simp); simp at this
  | x :: a, y :: b, ha, hb, h => by
    rw [List.pairwise_cons] at ha hb
    have hxy : x = y := by
      have h1 := (h x).1 (by simp)
      have h2 := (h y).2 (by simp)
      simp only [List.mem_cons] at h1 h2
      rcases h1 with h1 | h1
      · exact h1
      · rcases h2 with h2 | h2
        · exact h2.symm
        · have := hb.1 x h1
          have := ha.1 y h2
          omega
    subst hxy
    congr 1
    refine sorted_ext ha.2 hb.2 fun z => ?_
    have hz := h z
    simp only [List.mem_cons] at hz
    constructor
    · intro hm
      have := ha.1 z hm
      rcases hz.1 (.inr hm) with e | e
      · omega
      · exact e
    · intro hm
      have := hb.1 z hm
      rcases hz.2 (.inr hm) with e | e
      · omega
      · exact e
theorem countP_zero {l : List Int} {n : Int} (h : ∀ x ∈ l, n ≤ x) : l.countP (· < n) = 0 := by
  rw [List.countP_eq_zero]
  intro x hx
  have := h x hx
  simp; omega
theorem insert_sorted {n : Int} : ∀ {l : List Int}, l.Pairwise (· < ·) → n ∉ l → (l.take (l.countP (· < n)) ++ [n] ++ l.drop (l.countP (· < n))).Pairwise (· < ·)
  | [], _, _ => by simp
  | a :: l, h, hn => by
    rw [List.pairwise_cons] at h
    simp only [List.mem_cons, not_or] at hn
    by_cases ha : a < n
    · have ih := insert_sorted h.2 hn.2
      rw [List.countP_cons_of_pos (by simpa using ha), List.take_succ_cons, List.drop_succ_cons]
      simp only [List.cons_append]
      rw [List.pairwise_cons]
      refine ⟨fun x hx => ?_, ih⟩
      simp only [List.mem_append, List.mem_singleton] at hx
      rcases hx with (hx | hx) | hx
      · exact h.1 x (List.mem_of_mem_take hx)
      · omega
      · exact h.1 x (List.mem_of_mem_drop hx)
    · have hz : (a :: l).countP (· < n) = 0 := countP_zero (by
        intro x hx
        simp only [List.mem_cons] at hx
        rcases hx with hx | hx
        · omega
        · have := h.1 x hx; omega)
      rw [hz]
      simp only [List.take_zero, List.drop_zero, List.nil_append, List.singleton_append]
      rw [List.pairwise_cons, List.pairwise_cons]
      refine ⟨fun x hx => ?_, h⟩
      simp only [List.mem_cons] at hx
      rcases hx with hx | hx
      · omega
      · have := h.1 x hx; omega
theorem delete_filter {n : Int} : ∀ {l : List Int}, l.Pairwise (· < ·) → n ∈ l → l.take (l.countP (· < n)) ++ l.drop (l.countP (· < n) + 1) = l.filter fun m => decide (m ≠ n)
  | [], _, hn => by simp at hn
  | a :: l, h, hn => by
    rw [List.pairwise_cons] at h
    simp only [List.mem_cons] at hn
    by_cases ha : a < n
    · have hn' : n ∈ l := by rcases hn with e | e; · omega
                             · exact e
      have ih := delete_filter h.2 hn'
      rw [List.countP_cons_of_pos (by simpa using ha), List.take_succ_cons, List.drop_succ_cons, List.cons_append, ih, List.filter_cons_of_pos (by simp; omega)]
    · have hz : (a :: l).countP (· < n) = 0 := countP_zero (by
        intro x hx
        simp only [List.mem_cons] at hx
        rcases hx with hx | hx
        · omega
        · have := h.1 x hx; omega)
      have hna : a = n := by
        rcases hn with e | e
        · exact e.symm
        · have := h.1 n e; omega
      rw [hz, List.filter_cons_of_neg (by simp [hna])]
      simp only [List.take_zero, List.nil_append, Nat.zero_add, List.drop_succ_cons, List.drop_zero]
      refine (List.filter_eq_self.2 fun x hx => ?_).symm
      have := h.1 x hx
      simp; omega
theorem nine_sorted : ∀ k, (nine k).Pairwise (· < ·)
  | 0 => by simp [nine]
  | k + 1 => by
    rw [nine_succ, List.pairwise_append]
    refine ⟨nine_sorted k, by simp, fun a ha b hb => ?_⟩
    simp only [nine, List.mem_map, List.mem_range] at ha
    obtain ⟨j, hj, rfl⟩ := ha
    simp at hb
    omega
theorem mem_nine {x : Int} : x ∈ nine 9 ↔ 1 ≤ x ∧ x ≤ 9 := by
  simp only [nine, List.mem_map, List.mem_range]
  exact ⟨by rintro ⟨j, hj, rfl⟩; omega, fun h => ⟨(x - 1).toNat, by omega, by omega⟩⟩
theorem MemOK.range {l : List Int} (h : MemOK l) {x : Int} (hx : x ∈ l) : 1 ≤ x ∧ x ≤ 9 := by
  obtain ⟨i, hi, rfl⟩ := List.getElem_of_mem hx
  have := h.2 i hi
  omega
theorem refChanged_eq {l : List Int} (kind n : Int) (hok : MemOK l) : refChangedL l kind n = changedL l kind n := by
  have hin : ∀ x, inB l x = l.contains x := fun x => by simp [inB]
  unfold refChangedL changedL
  by_cases h7 : kind = 7 ∧ 1 ≤ n ∧ n ≤ 9 ∧ inB l n = false
  · have hn : n ∉ l := by simpa [inB] using h7.2.2.2
    rw [if_pos h7, if_pos ⟨h7.1, by rw [← hin]; exact h7.2.2.2, h7.2.1, h7.2.2.1⟩]
    refine sorted_ext ((nine_sorted 9).filter _) (insert_sorted hok.sorted hn) fun x => ?_
    simp only [List.mem_filter, mem_nine, Bool.or_eq_true, decide_eq_true_eq, inB, List.mem_append, List.mem_singleton]
    have ht : x ∈ l ↔ x ∈ l.take (l.countP (· < n)) ∨ x ∈ l.drop (l.countP (· < n)) := by
      rw [← List.mem_append, List.take_append_drop]
    constructor
    · rintro ⟨_, h | h⟩
      · exact .inl (.inr h)
      · rcases ht.1 h with h | h
        · exact .inl (.inl h)
        · exact .inr h
    · rintro ((h | h) | h)
      · have hm := ht.2 (.inl h); exact ⟨hok.range hm, .inr hm⟩
      · exact ⟨by omega, .inl h⟩
      · have hm := ht.2 (.inr h); exact ⟨hok.range hm, .inr hm⟩
  · have h7' : ¬ (kind = 7 ∧ l.contains n = false ∧ 1 ≤ n ∧ n ≤ 9) := by rintro ⟨a, b, c, d⟩; exact h7 ⟨a, c, d, by rw [hin]; exact b⟩
    rw [if_neg h7, if_neg h7']
    by_cases h8 : kind = 8 ∧ inB l n = true
    · have hn : n ∈ l := by simpa [inB] using h8.2
      rw [if_pos h8, ← delete_filter hok.sorted hn]
      by_cases h1 : 1 < l.length
      · rw [if_pos ⟨h8.1, by rw [← hin]; exact h8.2, h1⟩]
      · rw [if_neg (fun h => h1 h.2.2)]
        have := countP_lt (l := l) (n := n) (by simpa using hn)
        apply List.eq_nil_of_length_eq_zero
        rw [List.length_append, List.length_take, List.length_drop]
        omega
    · rw [if_neg h8, if_neg (by rintro ⟨a, b, c⟩; exact h8 ⟨a, by rw [hin]; exact b⟩)]
def CoCells (G : GH) (l : List Co) (css : List (List Value)) : Prop := css.length = l.length ∧ ∀ (i : Nat) x cs, l[i]? = some x → css[i]? = some cs → cs.length = 2 ∧ CoR G x cs
theorem CoCells.le {G G' : GH} {l : List Co} {css : List (List Value)} (h : CoCells G l css) (hle : GH.le G G') : CoCells G' l css :=
  ⟨h.1, fun i x cs h1 h2 => let ⟨a, b⟩ := h.2 i x cs h1 h2; ⟨a, b.le hle⟩⟩
theorem CoCells.push {G : GH} {l : List Co} {css : List (List Value)} {x : Co} {cs : List Value} (h : CoCells G l css) (h2 : cs.length = 2) (hx : CoR G x cs) : CoCells G (l ++ [x]) (css ++ [cs]) := by
  refine ⟨by simp [h.1], fun i y ds h3 h4 => ?_⟩
  by_cases hi : i < l.length
  · rw [List.getElem?_append_left hi] at h3
    rw [List.getElem?_append_left (by rw [h.1]; exact hi)] at h4
    exact h.2 i y ds h3 h4
  · rw [List.getElem?_append_right (by omega)] at h3
    rw [List.getElem?_append_right (by rw [h.1]; omega), h.1] at h4
    have : i - l.length = 0 := by
      have := (List.getElem?_eq_some_iff.1 h3).1
      simp at this; omega
    rw [this] at h3 h4
    simp at h3 h4
    subst h3; subst h4
    exact ⟨h2, hx⟩
theorem CoCells.nil {G : GH} : CoCells G [] [] := ⟨rfl, fun i x cs h => by simp at h⟩
theorem CoCells.grow {G : GH} {l : List Co} {css : List (List Value)} {v : Value} {ν : OH} (h : CoCells G l css) (hg : Grow 61 2 v l.length css.flatten ν) {G' : GH} (hle : GH.le G G') (hG : ∀ b o, (b, o) ∈ ν → G' b = some o) : Cos G' v l :=
  hg.sl hG h.1 (h.le hle).2
theorem permR7 {x y : Nat × Obj} {ν μ : OH} : (x :: (ν ++ (y :: μ))).Perm (μ ++ (x :: (ν ++ [y]))) := by
  have h1 : (x :: (ν ++ (y :: μ))) = (x :: (ν ++ [y])) ++ μ := by simp
  rw [h1]
  exact List.perm_append_comm
theorem cloneL_s {G : GH} {l : List Co} {sv : Value} (hs : Cos G sv l) (hl : l.length ≤ 1000) (hbig : ∀ c ∈ l, c.2.length ≤ 1048576) :
    Con Tryz.prog 150 #[sv] G [] (fun r G' μ' => ∃ css, CoCells G' l css ∧ Grow 61 2 r l.length css.flatten μ') := by
  obtain ⟨A, c, mA, mc, rfl, hlc, hcm, hsome, hcp, hc0, hc1, hmv, hwf⟩ := coOpen hs
  simp only [maxLen] at hcm
  (refine v_enter Tryz.func150 rfl Tryz.ntmps150 rfl ?_; intro B _)
  repeat' (first | apply v_seq | apply v_region | apply v_nil | apply v_block | (apply v_pure; (case hop => first | (apply p_move <;> rfl) | (apply p_assign <;> rfl) | (apply p_lenSlice <;> rfl) | fail); (case hd => rfl)) | fail)
  refine v_loop [8, 7, 6, 3] (fun us G' μ' => GH.le G G' ∧ ∃ (k : Nat) (out : Value) (css : List (List Value)), k ≤ l.length ∧ us = [Value.int .i64 (k : Int), .int .i64 l.length, .slice A l.length c, out] ∧ CoCells G' (l.take k) css ∧ Grow 61 2 out k css.flatten μ') (fun us => l.length - (headI us).toNat) rfl ⟨GH.le_refl _, 0, _, [], by omega, rfl, CoCells.nil, Grow.nil _ _⟩ ?_
  rintro us G' μ' ⟨hle, k, out, css, hk, rfl, hcc, hg⟩
  repeat' (first | apply v_seq | apply v_region | apply v_nil | apply v_skip | apply v_block | (apply v_exit; (case hp => rfl)) | (apply v_pure; (case hop => first | (apply p_move <;> rfl) | (apply p_lt <;> rfl) | (apply p_assign <;> rfl) | (apply p_indexAddrS; (case hx => rfl); (case hi => rfl); (case h0 => omega); (case h => omega); (case hA => (apply_assumption; omega))) | fail); (case hd => rfl)) | (apply v_cond; (case hc => rfl); all_goals (intro h; (try simp only [reduceCtorEq, zzz] at h))) | (apply v_read; (case hop => (apply r_loadN; rfl; exact CellsAt.frozen ((hcp _ (by omega)).le hle); rfl)); (case hd => rfl)) | (apply v_alloc; (case hz => rfl); (case hd => rfl); intro b) | (apply v_store; (case hp => rfl); (case hx => rfl); (case hc => rfl); (case hsz => rfl); (case h1 => rfl); (case hb => (repeat (exact mhd _))); (case hfit => exact nle rfl); (case hov => ((repeat (first | with_reducible exact ov_nil | apply ov_cons)); done)); (case hu => repeat (exact Upd.here _ _))) | fail)
  · have hlt : k < l.length := by omega
    have hlt2 := hbig _ (List.getElem_mem hlt)
    refine d_start [(b, .cells ([.int .i64 (l[k]'hlt).1, .slice (mA k) (l[k]'hlt).2.length (mc k)]).toArray 61 (0, 0))] (by kernel_rfl) (by kernel_rfl) (by kernel_rfl) (by intro e he; (simp at he; simp [he]; done)) ?_
    all_goals (apply dtk 0; (case hi => rfl); (case hop => (apply prd; apply p_move <;> rfl)); (case hq => kernel_rfl))
    all_goals (apply dtk 1; (case hi => rfl); (case hop => (apply prd; apply p_fieldAddrB <;> rfl)); (case hq => kernel_rfl))
    all_goals (apply dtk 2; (case hi => rfl); (case hop => first | (apply r_loadNo; (case hx => rfl); (case h => (repeat (fail))); (case hd => (repeat (fail))); (case hn => rfl)) | (apply r_load1; rfl; (apply Cell.own; (case h => (repeat (exact mhd _))); rfl)) | (apply r_loadN; rfl; (apply CellsAt.own; (case h => (repeat (fail)))); rfl)); (case hq => kernel_rfl))
    all_goals (apply dtk 3; (case hi => rfl); (case hop => (apply prd; apply p_fieldAddrB <;> rfl)); (case hq => kernel_rfl))
    all_goals (apply dtk 4; (case hi => rfl); (case hop => first | (apply r_loadNo; (case hx => rfl); (case h => (repeat (fail))); (case hd => (repeat (fail))); (case hn => rfl)) | (apply r_load1; rfl; (apply Cell.own; (case h => (repeat (exact mhd _))); rfl)) | (apply r_loadN; rfl; (apply CellsAt.own; (case h => (repeat (fail)))); rfl)); (case hq => kernel_rfl))
    all_goals ((apply d_call 5 (hs := clone_s ((hmv _ hlt).mono hle) hlt2); (case hi => rfl); (case hr => kernel_rfl);  (case ha => rfl); (case hp => exact List.Perm.refl _); (case hd => rfl); (case hν' => intro e he; simp at he; simp [he]); rintro r1 _ ν1 _ ⟨rfl, hg1⟩; obtain ⟨A1, c1, rfl, -, -⟩ := hg1.shape))
    all_goals (apply dtk 6; (case hi => rfl); (case hop => (apply prd; apply p_build; (case hz => rfl); (case hv => (simp only [List.map_cons, List.map_nil]; repeat (first | with_reducible exact evs_nil | (apply evs_cons; (case h1 => rfl))))); (case hb => (apply bldL; repeat (first | exact bld_nil | (apply bld_cons; (case hpf => rfl); (case hc => rfl); (case hs => rfl); (case hl => rfl); (case ho => ((repeat (first | with_reducible exact ov_nil | apply ov_cons)); done)))))))); (case hq => kernel_rfl))
    all_goals (apply d_buildSlice 7; (case hi => rfl); (case hr => kernel_rfl); (case hT => infer_instance); (case hL => infer_instance); (case hz => rfl); (case hl => rfl); (case hv => (simp only [List.map_cons, List.map_nil]; repeat (first | with_reducible exact evs_nil | (apply evs_cons; (case h1 => rfl))))); (case hp => (apply pk_cons; (case hc => rfl); (case hs => rfl); (case h => (with_reducible exact pk_nil)); (case he => ((repeat (first | with_reducible exact ap_nil | apply ap_cons)); done)))); (case hb => rfl); (case hd => rfl); (case hν => intro e he; (simp at he; simp [he]; done)); intro b7)
    all_goals (apply d_append 8 (hg := hg) (q' := 1) (us := [.int .i64 (l[k]'hlt).1, .slice A1 _ c1]) (μr := (b7, _) :: (ν1 ++ [(b, _)])) (hp := permR7) (hsrc := Src.own (List.Mem.head _) rfl); (case hi => rfl); (case hr => kernel_rfl); (case hT => infer_instance); (case hL => infer_instance); (case hzs => rfl); (case hsz => omega); (case hs => rfl); (case hx => rfl); (case hb => omega); (case hb' => simp only [maxLen]; omega); (case hd => rfl); (case h1 => rfl); (case hν => intro e he; (simp at he; simp [he]; done)); intro out' ν' hg')
    all_goals (apply dtk 9; (case hi => rfl); (case hop => (apply prd; apply p_assign <;> rfl)); (case hq => kernel_rfl))
    all_goals (apply d_done; (case hr => kernel_rfl))
    repeat' (first | apply v_region | apply v_nil | apply v_blk | (apply v_pure; (case hop => first | (apply p_move <;> rfl) | (apply p_add; (case hx => rfl); (case hy => rfl); (case h => omega)) | fail); (case hd => rfl)) | fail)
    refine v_freezeP ν1 ν' [(b7, _), (b, _)] (by apply perm_of_count; intro p; simp only [List.append_eq, List.countP_append, List.countP_cons, List.countP_nil, Nat.zero_add, Nat.add_zero]; try ac_rfl) ?_
    intro G1 hle1 hG1
    refine v_again rfl ⟨GH.le_trans hle hle1, k + 1, out', css ++ [[.int .i64 (l[k]'hlt).1, .slice A1 (l[k]'hlt).2.length c1]], by omega, rfl, ?_, ?_⟩ (by simp [headI]; omega)
    · rw [List.take_succ_eq_append_getElem hlt]
      obtain ⟨_, _, _, _, _, _, _, hw⟩ := (hmv _ hlt).openInt
      exact (hcc.le hle1).push rfl ⟨_, rfl, hwf _ hlt, hg1.ints hG1 hw⟩
    · simpa using hg'
  · refine v_ret μ' (outsA1 rfl rfl) (List.Sublist.refl _) ?_
    obtain rfl : k = l.length := by omega
    rw [List.take_length] at hcc
    exact ⟨css, hcc, hg⟩
def lastC (l : List Co) : Co := l.getD (l.length - 1) (0, [])
theorem lastC_eq {l : List Co} (h : 0 < l.length) : lastC l = l[l.length - 1]'(by omega) := by
  rw [lastC, List.getD_eq_getElem?_getD, List.getElem?_eq_getElem (by omega)]; rfl
def fromOf (l : List Co) (x : Int) : Int := max (x + 4) (lastC l).1
def changeL (l : List Co) (x kind n : Int) : List Co := (if fromOf l x = (lastC l).1 then l.take (l.length - 1) else l) ++ [(fromOf l x, changedL (lastC l).2 kind n)]
open Classical in
noncomputable def changeR (l : List Co) (x kind n : Int) : List Co × Int :=
  if ¬ ConfOK l then ([], 3) else if x < 1 ∨ 4294967292 < x then ([], 6) else if (changedL (lastC l).2 kind n).length = 0 then ([], 16) else (changeL l x kind n, 0)
theorem CoCells.take {G : GH} {l : List Co} {css : List (List Value)} (h : CoCells G l css) (k : Nat) : CoCells G (l.take k) (css.take k) :=
  ⟨by simp [h.1], fun i x cs h1 h2 => by
    rw [List.getElem?_take] at h1 h2
    split at h1
    · rename_i hi
      rw [if_pos hi] at h2
      exact h.2 i x cs h1 h2
    · cases h1⟩
theorem flatten_take2 : ∀ (css : List (List Value)) (k : Nat), (∀ cs ∈ css, cs.length = 2) → css.flatten.take (k * 2) = (css.take k).flatten
  | [], k, _ => by simp
  | cs :: css, 0, _ => by simp
  | cs :: css, k + 1, h => by
    have h1 : cs.length = 2 := h cs (by simp)
    rw [List.take_succ_cons, List.flatten_cons, List.flatten_cons, List.take_append, h1, List.take_of_length_le (by omega), show (k + 1) * 2 - 2 = k * 2 by omega, flatten_take2 css k fun c hc => h c (by simp [hc])]
theorem CoCells.two {G : GH} {l : List Co} {css : List (List Value)} (h : CoCells G l css) : ∀ cs ∈ css, cs.length = 2 := fun cs hcs => by
  obtain ⟨i, hi, rfl⟩ := List.getElem_of_mem hcs
  have h1 := h.1
  exact (h.2 i _ _ (List.getElem?_eq_getElem (by omega)) (List.getElem?_eq_getElem hi)).1
theorem CoCells.flen {G : GH} {l : List Co} {css : List (List Value)} (h : CoCells G l css) : css.flatten.length = l.length * 2 := by
  rw [← h.1]
  have := h.two
  clear h
  induction css with
  | nil => simp
  | cons cs css ih =>
    rw [List.flatten_cons, List.length_append, ih fun c hc => this c (by simp [hc]), this cs (by simp), List.length_cons]; omega
theorem change_s {G : GH} {l : List Co} {sv : Value} (x kind n : Int) (hs : Cos G sv l) (hl : l.length ≤ 1000) (hbig : ∀ c ∈ l, c.2.length ≤ 1048000) (hn : (Lit.int .i64 n).wf = true) :
    Con Tryz.prog 223 #[sv, .int .i64 x, .int .i64 kind, .int .i64 n] G [] (fun r G' μ' => μ' = [] ∧ ∃ v, r = .tuple #[v, .int .i64 (changeR l x kind n).2] ∧ Cos G' v (changeR l x kind n).1) := by
  have hclone := fun (G' : GH) (hle : GH.le G G') => cloneL_s (hs.le hle) hl (fun c hc => by have := hbig c hc; omega)
  have hck := check_s hs
  obtain ⟨A, c, mA, mc, rfl, hlc, hcm, hsome, hcp, hc0, hc1, hmv, hwf⟩ := coOpen hs
  simp only [maxLen] at hcm
  by_cases hok : ConfOK l
  · rw [if_pos hok] at hck
    have h0 := hok.1.1
    have hlt : l.length - 1 < l.length := by omega
    have hlast := lastC_eq h0
    obtain ⟨lz, mz, hz⟩ : ∃ lz mz, lastC l = (lz, mz) := ⟨_, _, rfl⟩
    have hz' : l[l.length - 1]'hlt = (lz, mz) := by rw [← hlast, hz]
    obtain ⟨hmem, hfrom, -⟩ := hok.2 _ hlt
    have hfw := hwf _ hlt
    have hcP0 := hcp _ hlt
    have hmz := hmv _ hlt
    have hbz := hbig _ (List.getElem_mem hlt)
    rw [hz'] at hmem hfrom hfw hcP0 hmz hbz
    simp only at hmem hfrom hfw hcP0 hmz hbz
    have hch := changed_s kind n hmz hmem hbz hn
    have e1 : (((l.length : Nat) : Int) - 1).toNat = l.length - 1 := by omega
    have hcP1 : CellsG G ((adr A).add ((((l.length : Nat) : Int) - 1).toNat * 2)) [.int .i64 lz, .slice (mA (l.length - 1)) mz.length (mc (l.length - 1))] := by rw [e1]; exact hcP0
    have hwf' := bounds_i64 hfw
    (refine v_enter Tryz.func223 rfl Tryz.ntmps223 rfl ?_; intro B _)
    repeat' (first | apply v_seq | apply v_region | apply v_nil | apply v_skip | (apply v_take; (case hg => rfl)) | (apply v_pass; (case hg => rfl); (case hn => rfl); (case hd => rfl)) | (apply v_pure; (case hop => first | (apply p_move <;> rfl) | (apply p_nes <;> rfl) | (apply p_lt <;> rfl) | (apply p_gt <;> rfl) | (apply p_assign <;> rfl) | (apply p_pickT <;> rfl) | (apply p_pickF <;> rfl) | (apply p_lenSlice <;> rfl) | (apply p_fieldAddrB <;> rfl) | (apply p_sub; (case hx => rfl); (case hy => rfl); (case h => omega)) | (apply p_indexAddrS; (case hx => rfl); (case hi => rfl); (case h0 => omega); (case h => omega); (case hA => (apply_assumption; omega))) | fail); (case hd => rfl)) | (apply v_condT; (case hc => rfl)) | (apply v_condF; (case hc => rfl)) | (apply v_cond; (case hc => rfl); all_goals (intro h; (try simp only [reduceCtorEq, zzz] at h))) | (apply v_guardB; (case h1 => rfl); (case h2 => rfl); all_goals (intro h; (try simp only [reduceCtorEq, zzz] at h))) | (apply v_callJ (hs := hck); (case ha => rfl); (case hd => rfl)) | (apply v_read; (case hop => (apply r_loadN; rfl; exact CellsAt.frozen hcP1; rfl)); (case hd => rfl)) | (apply v_read; (case hop => (apply r_load1; rfl; (apply Cell.own; (case h => (repeat (exact mhd _))); rfl))); (case hd => rfl)) | (apply v_alloc; (case hz => rfl); (case hd => rfl); intro b) | (apply v_store; (case hp => rfl); (case hx => rfl); (case hc => rfl); (case hsz => rfl); (case h1 => rfl); (case hb => (repeat (exact mhd _))); (case hfit => exact nle rfl); (case hov => ((repeat (first | with_reducible exact ov_nil | apply ov_cons)); done)); (case hu => repeat (exact Upd.here _ _))) | fail)
    all_goals try
      (refine v_ret [] (outsA2 rfl rfl rfl) (by repeat (exact List.Sublist.refl _)) ?_
       have e : changeR l x kind n = ([], 6) := by
         unfold changeR
         rw [if_neg (by simpa using hok), if_pos (by omega)]
       rw [e]
       exact ⟨rfl, _, rfl, Sl.nil⟩)
    refine v_call (μ1 := []) (μ2 := _) rfl hch (List.Perm.refl _) rfl ?_
    rintro r G' μ1 hle ⟨rfl, mv, rfl, hmv'⟩
    by_cases hno : 0 < (changedL mz kind n).length
    · rw [decide_eq_true hno]
      repeat' (first | apply v_seq | apply v_region | apply v_nil | apply v_skip | (apply v_pure; (case hop => first | (apply p_move <;> rfl) | (apply p_assign <;> rfl) | (apply p_not <;> rfl) | (apply p_fieldAddrB <;> rfl) | (apply p_extract0 <;> rfl) | (apply p_extract1 <;> rfl) | (apply p_add; (case hx => rfl); (case hy => rfl); (case h => omega)) | (apply p_max <;> rfl) | fail); (case hd => rfl)) | (apply v_condF; (case hc => rfl)) | (apply v_read; (case hop => (apply r_load1; rfl; (apply Cell.own; (case h => (repeat (exact mhd _))); rfl))); (case hd => rfl)) | fail)
      refine v_call (μ1 := []) (μ2 := _) rfl (hclone G' hle) (List.Perm.refl _) rfl ?_
      rintro r G2 ν1 hle2 ⟨css, hcc, hg⟩
      have hG02 := GH.le_trans hle hle2
      obtain ⟨A2, c2, rfl, h2a, h2b⟩ := hg.shape
      simp only [maxLen] at h2b
      obtain ⟨mA', mc', rfl, hmc1, hmc2, _⟩ := hmv'.openInt
      have hF : fromOf l x = max (x + 4) lz := by rw [fromOf, hz]
      have hR : changeR l x kind n = (changeL l x kind n, 0) := by
        unfold changeR
        rw [if_neg (by simpa using hok), if_neg (by omega), hz, if_neg (by simp only; omega)]
      have hwF : (Lit.int .i64 (max (x + 4) lz)).wf = true := WalkArith.wf_i64 (by omega)
      repeat' (first | apply v_seq | apply v_region | apply v_nil | apply v_skip | (apply v_pure; (case hop => first | (apply p_move <;> rfl) | (apply p_eq <;> rfl) | (apply p_assign <;> rfl) | (apply p_lenSlice <;> rfl) | (apply p_fieldAddrB <;> rfl) | (apply p_sub; (case hx => rfl); (case hy => rfl); (case h => omega)) | (apply p_build; (case hz => rfl); (case hv => (simp only [List.map_cons, List.map_nil]; repeat (first | with_reducible exact evs_nil | (apply evs_cons; (case h1 => rfl))))); (case hb => (apply bldL; repeat (first | exact bld_nil | (apply bld_cons; (case hpf => rfl); (case hc => rfl); (case hs => rfl); (case hl => rfl); (case ho => ((repeat (first | with_reducible exact ov_nil | apply ov_cons)); done))))))) | (apply p_slice3; (case hx => rfl); (case hh => rfl); (case hq => rfl); all_goals omega) | fail); (case hd => rfl)) | (apply v_cond; (case hc => rfl); all_goals (intro h; (try simp only [reduceCtorEq, zzz] at h))) | (apply v_read; (case hop => (apply r_load1; rfl; (apply Cell.own; (case h => (repeat (first | exact mhd _ | apply List.mem_append_right))); rfl))); (case hd => rfl)) | (apply v_buildSlice; (case hz => rfl); (case hi => rfl); (case hv => (simp only [List.map_cons, List.map_nil]; repeat (first | with_reducible exact evs_nil | (apply evs_cons; (case h1 => rfl))))); (case hp => (apply pk_cons; (case hc => rfl); (case hs => rfl); (case h => (with_reducible exact pk_nil)); (case he => ((repeat (first | with_reducible exact ap_nil | apply ap_cons)); done)))); (case hb => rfl); (case hd => rfl); intro b) | fail)
      · have e4 : changeL l x kind n = l.take (l.length - 1) ++ [(max (x + 4) lz, changedL mz kind n)] := by
          rw [changeL, hF, hz, if_pos (by assumption)]
        have hlen : 1 < l.length := by
          apply Classical.byContradiction
          intro hc
          have h1 : l[l.length - 1]'hlt = l[0] := by congr 1; omega
          have h2 := hok.1.2
          rw [← h1, hz'] at h2
          simp only at h2
          omega
        refine v_frz ν1 (by repeat (first | exact PickA.here _ | apply PickA.cons)) ?_
        intro G3 hle3 hG3
        obtain ⟨A3, c3, he, _, _, hcl⟩ := hg.cells hG3
        injection he with ea _ ec
        subst ea; subst ec
        obtain ⟨a3, rfl, hcl3⟩ := hcl (by omega)
        have hct := hcl3.take ((l.length - 1) * 2)
        rw [flatten_take2 _ _ hcc.two] at hct
        have hcct := (hcc.take (l.length - 1)).le hle3
        have htl : (l.take (l.length - 1)).length = l.length - 1 := by simp
        rw [e1]
        refine v_appendFull (e := 61) (sz := 2) (m := l.length - 1) (m' := 1) (us := [.int .i64 (max (x + 4) lz), .slice mA' (changedL mz kind n).length mc']) rfl rfl rfl (Src.frozen hct (by rw [hcct.flen, htl])) (Src.own (List.Mem.head _) rfl) (by omega) (by omega) (by omega) (by simp only [maxLen]; omega) rfl ?_
        intro v' ν' hg'
        refine v_frz ν' (by repeat (exact PickA.here _)) ?_
        intro G4 hle4 hG4
        repeat' (first | apply v_nil | (apply v_pure; (case hop => (apply p_assign <;> rfl)); (case hd => rfl)) | fail)
        refine v_ret [] (outsA2 rfl rfl rfl) (by repeat (exact List.nil_sublist _)) ?_
        rw [hR]
        refine ⟨rfl, _, rfl, ?_⟩
        have hfin := (hcct.le hle4).push (x := (max (x + 4) lz, changedL mz kind n)) (cs := [.int .i64 (max (x + 4) lz), .slice mA' (changedL mz kind n).length mc']) rfl ⟨_, rfl, hwF, hmv'.mono (GH.le_trans hle2 (GH.le_trans hle3 hle4))⟩
        simp only [e4]
        refine hfin.grow ?_ (GH.le_refl _) hG4
        rw [List.length_append, htl]
        simpa using hg'
      · have e4 : changeL l x kind n = l ++ [(max (x + 4) lz, changedL mz kind n)] := by
          rw [changeL, hF, hz, if_neg (by assumption)]
        refine v_append (e := 61) (sz := 2) (m' := 1) (us := [.int .i64 (max (x + 4) lz), .slice mA' (changedL mz kind n).length mc']) rfl (by omega) rfl rfl hg (PickA.perm (by repeat (first | exact PickA.here _ | apply PickA.cons))) (Src.own (List.Mem.head _) rfl) rfl (by omega) (by simp only [maxLen]; omega) rfl ?_
        intro v' ν' hg'
        refine v_frz ν' (by repeat (exact PickA.here _)) ?_
        intro G4 hle4 hG4
        repeat' (first | apply v_nil | (apply v_pure; (case hop => (apply p_assign <;> rfl)); (case hd => rfl)) | fail)
        refine v_ret [] (outsA2 rfl rfl rfl) (by repeat (exact List.nil_sublist _)) ?_
        rw [hR]
        refine ⟨rfl, _, rfl, ?_⟩
        have hfin := (hcc.le hle4).push (x := (max (x + 4) lz, changedL mz kind n)) (cs := [.int .i64 (max (x + 4) lz), .slice mA' (changedL mz kind n).length mc']) rfl ⟨_, rfl, hwF, hmv'.mono (GH.le_trans hle2 hle4)⟩
        simp only [e4]
        refine hfin.grow ?_ (GH.le_refl _) hG4
        simpa using hg'
    · rw [decide_eq_false hno]
      repeat' (first | apply v_seq | apply v_region | apply v_nil | (apply v_pure; (case hop => first | (apply p_move <;> rfl) | (apply p_assign <;> rfl) | (apply p_not <;> rfl) | (apply p_extract0 <;> rfl) | (apply p_extract1 <;> rfl) | fail); (case hd => rfl)) | (apply v_condT; (case hc => rfl)) | fail)
      refine v_ret [] (outsA2 rfl rfl rfl) (by repeat (exact List.nil_sublist _)) ?_
      have e : changeR l x kind n = ([], 16) := by
        unfold changeR
        rw [if_neg (by simpa using hok), if_neg (by omega), hz, if_pos (by simp only; omega)]
      rw [e]
      exact ⟨rfl, _, rfl, Sl.nil⟩
  · rw [if_neg hok] at hck
    (refine v_enter Tryz.func223 rfl Tryz.ntmps223 rfl ?_; intro B _)
    repeat' (first | apply v_seq | apply v_region | apply v_nil | (apply v_pure; (case hop => first | (apply p_move <;> rfl) | (apply p_ne <;> rfl) | (apply p_assign <;> rfl) | fail); (case hd => rfl)) | (apply v_cond; (case hc => rfl); all_goals (intro h; (try simp only [reduceCtorEq, zzz] at h); first | (exfalso; omega) | skip)) | (apply v_callJ (hs := hck); (case ha => rfl); (case hd => rfl)) | fail)
    refine v_ret [] (outsA2 rfl rfl rfl) (by repeat (exact List.Sublist.refl _)) ?_
    have e : changeR l x kind n = ([], 3) := by
      unfold changeR
      rw [if_pos hok]
    rw [e]
    exact ⟨rfl, _, rfl, Sl.nil⟩
def trimL (l : List Co) (x : Int) : List Co :=
  match l.drop (placeK l x l.length).toNat with
  | [] => []
  | c :: r => (1, c.2) :: r
open Classical in
noncomputable def trimR (l : List Co) (x : Int) : List Co := if ConfOK l ∧ 1 ≤ x then trimL l x else l
theorem CoCells.cons {G : GH} {y : Co} {l : List Co} {cs : List Value} {css : List (List Value)} (h : CoCells G (y :: l) (cs :: css)) : cs.length = 2 ∧ CoR G y cs ∧ CoCells G l css :=
  ⟨(h.2 0 y cs rfl rfl).1, (h.2 0 y cs rfl rfl).2, by have := h.1; simpa using this, fun i x ds h1 h2 => h.2 (i + 1) x ds (by simpa using h1) (by simpa using h2)⟩
theorem CoCells.mk {G : GH} {y : Co} {l : List Co} {cs : List Value} {css : List (List Value)} (h1 : cs.length = 2) (h2 : CoR G y cs) (h3 : CoCells G l css) : CoCells G (y :: l) (cs :: css) :=
  ⟨by simp [h3.1], fun i x ds h4 h5 => by
    cases i with
    | zero => simp at h4 h5; subst h4; subst h5; exact ⟨h1, h2⟩
    | succ i => exact h3.2 i x ds (by simpa using h4) (by simpa using h5)⟩
theorem trim_s {G : GH} {l : List Co} {sv : Value} (x : Int) (hs : Cos G sv l) (hl : l.length ≤ 1000) (hbig : ∀ c ∈ l, c.2.length ≤ 1048000) :
    Con Tryz.prog 84 #[sv, .int .i64 x] G [] (fun r G' μ' => μ' = [] ∧ Cos G' r (trimR l x)) := by
  have hck := check_s hs
  have hpl := place_s x hs
  have hs0 := hs
  obtain ⟨A, c, mA, mc, rfl, hlc, hcm, hsome, hcp, hc0, hc1, hmv, hwf⟩ := coOpen hs
  simp only [maxLen] at hcm
  by_cases hok : ConfOK l
  · rw [if_pos hok] at hck
    have h0 := hok.1.1
    have hp := placeK_le l x l.length
    have hn := fun (hx : l[0].1 ≤ x) => placeK_nonneg h0 hx l.length h0 (Nat.le_refl _)
    have h1 := hok.1.2
    (refine v_enter Tryz.func84 rfl Tryz.ntmps84 rfl ?_; intro B _)
    repeat' (first | apply v_seq | apply v_region | apply v_nil | apply v_skip | (apply v_take; (case hg => rfl)) | (apply v_pure; (case hop => first | (apply p_move <;> rfl) | (apply p_nes <;> rfl) | (apply p_lt <;> rfl) | (apply p_assign <;> rfl) | (apply p_pickF <;> rfl) | fail); (case hd => rfl)) | (apply v_cond; (case hc => rfl); all_goals (intro h; (try simp only [reduceCtorEq, zzz] at h))) | (apply v_callJ (hs := hck); (case ha => rfl); (case hd => rfl)) | fail)
    · refine v_ret [] (outsA1 rfl rfl) (by repeat (exact List.Sublist.refl _)) ?_
      rw [trimR, if_neg (by rintro ⟨_, h⟩; omega)]
      exact ⟨rfl, hs0⟩
    have hn' := hn (by omega)
    repeat' (first | (apply v_pure; (case hop => (apply p_sliceL; (case hx => rfl); (case hl => rfl); all_goals omega)); (case hd => rfl)) | (apply v_callJ (hs := hpl); (case ha => rfl); (case hd => rfl)) | fail)
    have hk : (placeK l x l.length).toNat ≤ l.length := by omega
    have hsd := Sl.drop hs0 hk
    have hdl : (l.drop (placeK l x l.length).toNat).length = l.length - (placeK l x l.length).toNat := by simp
    refine v_call (μ1 := []) (μ2 := []) rfl (cloneL_s hsd (by omega) (fun c hc => by have := hbig c (List.mem_of_mem_drop hc); omega)) (List.Perm.refl _) rfl ?_
    rintro r G2 ν1 hle ⟨css, hcc, hlen, ⟨-, hz, -⟩ | ⟨b, cap, spare, rfl, rfl, h2a, h2b, h2c⟩⟩
    · omega
    have ht : trimR l x = trimL l x := by rw [trimR, if_pos ⟨hok, by omega⟩]
    rw [ht]
    unfold trimL
    generalize hD : l.drop (placeK l x l.length).toNat = D at *
    match D, css, hcc, hlen, hdl, h2a, h2c with
    | [], _, _, _, hdl, _, _ => simp at hdl; omega
    | y :: D, cs :: css, hcc, hlen, hdl, h2a, h2c =>
      obtain ⟨hc2, ⟨mv, rfl, hy1, hy2⟩, hcr⟩ := hcc.cons
      obtain ⟨Am, cm, rfl, _⟩ := hy2.openInt
      have h2b' := h2b
      simp only [maxLen] at h2b'
      have hyl : 0 < (y :: D).length := by simp
      repeat' (first | apply v_seq | apply v_region | apply v_nil | (apply v_pure; (case hop => first | (apply p_move <;> rfl) | (apply p_assign <;> rfl) | (apply p_fieldAddrB <;> rfl) | (apply p_indexAddr; (case hx => rfl); (case hi => rfl); (case h0 => omega); (case h => omega)) | fail); (case hd => rfl)) | (apply v_store; (case hp => rfl); (case hx => rfl); (case hc => rfl); (case hsz => rfl); (case h1 => rfl); (case hb => (repeat (exact mhd _))); (case hfit => exact nle rfl); (case hov => ((repeat (first | with_reducible exact ov_nil | apply ov_cons)); done)); (case hu => repeat (exact Upd.here _ _))) | fail)
      refine v_frz [(b, .cells ([Value.int .i64 1, .slice Am y.2.length cm] ++ css.flatten ++ spare).toArray 61 (0, 0))] (r := []) ?_ ?_
      · exact PickA.last
      intro G3 hle3 hG3
      refine v_ret [] (outsA1 rfl rfl) (by repeat (exact List.Sublist.refl _)) ?_
      refine ⟨rfl, ?_⟩
      have hfin := CoCells.mk (G := G3) (y := (1, y.2)) (cs := [Value.int .i64 1, .slice Am y.2.length cm]) rfl ⟨_, rfl, WalkArith.wf_i64 (by simp), hy2.mono hle3⟩ (hcr.le hle3)
      refine hfin.grow ⟨?_, .inr ⟨b, cap, spare, ?_, rfl, ?_, h2b, ?_⟩⟩ (GH.le_refl _) hG3
      · simpa using hlen
      · rfl
      · simpa using h2a
      · simpa using h2c
    | y :: D, [], hcc, _, _, _, _ => have := hcc.1; simp at this
  · rw [if_neg hok] at hck
    (refine v_enter Tryz.func84 rfl Tryz.ntmps84 rfl ?_; intro B _)
    repeat' (first | apply v_seq | apply v_region | apply v_nil | (apply v_pass; (case hg => rfl); (case hn => rfl); (case hd => rfl)) | (apply v_pure; (case hop => first | (apply p_move <;> rfl) | (apply p_ne <;> rfl) | (apply p_assign <;> rfl) | (apply p_pickT <;> rfl) | fail); (case hd => rfl)) | (apply v_condT; (case hc => rfl)) | (apply v_guardB; (case h1 => rfl); (case h2 => rfl); all_goals (intro h; (try simp only [reduceCtorEq, zzz] at h); first | (exfalso; omega) | skip)) | (apply v_callJ (hs := hck); (case ha => rfl); (case hd => rfl)) | fail)
    refine v_ret [] (outsA1 rfl rfl) (by repeat (exact List.Sublist.refl _)) ?_
    rw [trimR, if_neg (by rintro ⟨h, _⟩; exact hok h)]
    exact ⟨rfl, hs0⟩
def refFrom (l : List Co) (x : Int) : Int := if x + 4 < (lastC l).1 then (lastC l).1 else x + 4
def refChangeL (l : List Co) (x kind n : Int) : List Co := if (refChangedL (lastC l).2 kind n).length = 0 then [] else (l.filter fun c => decide (c.1 < refFrom l x)) ++ [(refFrom l x, refChangedL (lastC l).2 kind n)]
theorem take_filter_succ {l : List Co} {k : Nat} (h : k < l.length) (p : Co → Bool) : (l.take (k + 1)).filter p = (l.take k).filter p ++ (if p l[k] then [l[k]] else []) := by
  rw [List.take_succ_eq_append_getElem h, List.filter_append]
  congr 1
  by_cases hp : p l[k] = true <;> simp [List.filter, hp]
theorem refChangedL_wf {G : GH} {l : List Int} {v : Value} {kind n : Int} (hs : Sl G 1 (IntR .i64) v l) (hn : (Lit.int .i64 n).wf = true) {y : Int} (hy : y ∈ refChangedL l kind n) : (Lit.int .i64 y).wf = true := by
  obtain ⟨_, _, _, _, _, _, _, hw⟩ := hs.openInt
  unfold refChangedL at hy
  split at hy
  · simp only [List.mem_filter, mem_nine] at hy
    exact WalkArith.wf_i64 (by omega)
  · split at hy
    · simp only [List.mem_filter] at hy
      exact hw y hy.1
    · simp at hy
theorem refChange_s {G : GH} {l : List Co} {sv : Value} (x kind n : Int) (hs : Cos G sv l) (h0 : 0 < l.length) (hl : l.length ≤ 1000) (hbig : ∀ c ∈ l, c.2.length ≤ 1048000) (hn : (Lit.int .i64 n).wf = true) (hx : -9223372036854775808 ≤ x ∧ x ≤ 9223372036854770000) :
    Con Tryz.prog 89 #[sv, .int .i64 x, .int .i64 kind, .int .i64 n] G [] (fun r G' μ' => μ' = [] ∧ ∃ v, r = .tuple #[v, .bool (decide ((refChangedL (lastC l).2 kind n).length ≠ 0))] ∧ Cos G' v (refChangeL l x kind n)) := by
  obtain ⟨A, c, mA, mc, rfl, hlc, hcm, hsome, hcp, hc0, hc1, hmv, hwf⟩ := coOpen hs
  simp only [maxLen] at hcm
  have hlt : l.length - 1 < l.length := by omega
  have hlast := lastC_eq h0
  obtain ⟨lz, mz, hz⟩ : ∃ lz mz, lastC l = (lz, mz) := ⟨_, _, rfl⟩
  have hz' : l[l.length - 1]'hlt = (lz, mz) := by rw [← hlast, hz]
  have hfw := hwf _ hlt
  have hcP0 := hcp _ hlt
  have hmz := hmv _ hlt
  have hbz := hbig _ (List.getElem_mem hlt)
  rw [hz'] at hfw hcP0 hmz hbz
  simp only at hfw hcP0 hmz hbz
  have hch := refChanged_s kind n hmz hbz
  have e1 : (((l.length : Nat) : Int) - 1).toNat = l.length - 1 := by omega
  have hcP1 : CellsG G ((adr A).add ((((l.length : Nat) : Int) - 1).toNat * 2)) [.int .i64 lz, .slice (mA (l.length - 1)) mz.length (mc (l.length - 1))] := by rw [e1]; exact hcP0
  have hwf' := bounds_i64 hfw
  simp only [refChangeL, hz]
  (refine v_enter Tryz.func89 rfl Tryz.ntmps89 rfl ?_; intro B _)
  repeat' (first | apply v_seq | apply v_region | apply v_nil | (apply v_pure; (case hop => first | (apply p_move <;> rfl) | (apply p_assign <;> rfl) | (apply p_lenSlice <;> rfl) | (apply p_fieldAddrB <;> rfl) | (apply p_sub; (case hx => rfl); (case hy => rfl); (case h => omega)) | (apply p_indexAddrS; (case hx => rfl); (case hi => rfl); (case h0 => omega); (case h => omega); (case hA => (apply_assumption; omega))) | fail); (case hd => rfl)) | (apply v_read; (case hop => (apply r_loadN; rfl; exact CellsAt.frozen hcP1; rfl)); (case hd => rfl)) | (apply v_read; (case hop => (apply r_load1; rfl; (apply Cell.own; (case h => (repeat (exact mhd _))); rfl))); (case hd => rfl)) | (apply v_alloc; (case hz => rfl); (case hd => rfl); intro b) | (apply v_store; (case hp => rfl); (case hx => rfl); (case hc => rfl); (case hsz => rfl); (case h1 => rfl); (case hb => (repeat (exact mhd _))); (case hfit => exact nle rfl); (case hov => ((repeat (first | with_reducible exact ov_nil | apply ov_cons)); done)); (case hu => repeat (exact Upd.here _ _))) | fail)
  refine v_call (μ1 := []) (μ2 := _) rfl hch (List.Perm.refl _) rfl ?_
  rintro r G' ν1 - ⟨rfl, hg⟩
  have hsl := fun {G1 : GH} (h : ∀ b o, (b, o) ∈ ν1 → G1 b = some o) => hg.ints h (fun y hy => refChangedL_wf hmz hn hy)
  obtain ⟨Am, cm, rfl, hm1, hm2⟩ := hg.shape
  refine v_frz ν1 (by repeat (exact PickA.here _)) ?_
  intro G1 hle1 hG1
  have hmv1 := hsl hG1
  repeat' (first | apply v_seq | apply v_region | apply v_nil | apply v_skip | apply v_block | (apply v_pure; (case hop => first | (apply p_move <;> rfl) | (apply p_eq <;> rfl) | (apply p_gt <;> rfl) | (apply p_assign <;> rfl) | (apply p_lenSlice <;> rfl) | (apply p_fieldAddrB <;> rfl) | (apply p_add; (case hx => rfl); (case hy => rfl); (case h => omega)) | fail); (case hd => rfl)) | (apply v_cond; (case hc => rfl); all_goals (intro h; (try simp only [reduceCtorEq, zzz] at h))) | (apply v_read; (case hop => (apply r_load1; rfl; (apply Cell.own; (case h => (repeat (exact mhd _))); rfl))); (case hd => rfl)) | fail)
  · refine v_ret [] (outsA2 rfl rfl rfl) (by repeat (exact List.nil_sublist _)) ?_
    have e : (refChangedL mz kind n).length = 0 := by omega
    rw [if_pos e, decide_eq_false (by omega)]
    exact ⟨rfl, _, rfl, Sl.nil⟩
  all_goals
    have hne : (refChangedL mz kind n).length ≠ 0 := by omega
    have e5 : refFrom l x = refFrom l x := rfl
    rw [if_neg hne, decide_eq_true hne]
    conv at e5 => rhs; rw [refFrom, hz]
    simp only at e5
    first | rw [if_pos (by omega)] at e5 | rw [if_neg (by omega)] at e5
    generalize hF : refFrom l x = F at *
    refine v_drop (ν := []) (by repeat (exact List.nil_sublist _)) ?_
    refine v_loop [14, 13, 0, 12, 11] (fun us G' μ' => G' = G1 ∧ ∃ (k : Nat) (out : Value) (css : List (List Value)) (f : Int), k ≤ l.length ∧ us = [Value.int .i64 (k : Int), out, .slice A l.length c, .int .i64 f, .slice Am (refChangedL mz kind n).length cm] ∧ f = F ∧ CoCells G1 ((l.take k).filter fun c => decide (c.1 < F)) css ∧ Grow 61 2 out ((l.take k).filter fun c => decide (c.1 < F)).length css.flatten μ') (fun us => l.length - (headI us).toNat) rfl ⟨rfl, 0, _, [], _, by omega, rfl, e5.symm, CoCells.nil, Grow.nil _ _⟩ ?_
    rintro us G' μ' ⟨rfl, k, out, css, f, hk, rfl, rfl, hcc, hg⟩
    have hf := List.length_filter_le (fun c : Co => decide (c.1 < f)) (l.take k)
    have ek : ((k : Nat) : Int).toNat = k := Int.toNat_natCast k
    have hlk : (l.take k).length ≤ k := by rw [List.length_take]; omega
    repeat' (first | apply v_seq | apply v_region | apply v_nil | apply v_skip | apply v_block | apply v_blk | (apply v_exit; (case hp => rfl)) | (apply v_pure; (case hop => first | (apply p_move <;> rfl) | (apply p_lt <;> rfl) | (apply p_assign <;> rfl) | (apply p_lenSlice <;> rfl) | (apply p_fieldAddr <;> rfl) | (apply p_add; (case hx => rfl); (case hy => rfl); (case h => omega)) | (apply p_indexAddrS; (case hx => rfl); (case hi => rfl); (case h0 => omega); (case h => omega); (case hA => (apply_assumption; omega))) | (apply p_build; (case hz => rfl); (case hv => (simp only [List.map_cons, List.map_nil]; repeat (first | with_reducible exact evs_nil | (apply evs_cons; (case h1 => rfl))))); (case hb => (apply bldL; repeat (first | exact bld_nil | (apply bld_cons; (case hpf => rfl); (case hc => rfl); (case hs => rfl); (case hl => rfl); (case ho => ((repeat (first | with_reducible exact ov_nil | apply ov_cons)); done))))))) | fail); (case hd => rfl)) | (apply v_cond; (case hc => rfl); all_goals (intro h; (try simp only [reduceCtorEq, zzz] at h))) | (apply v_read; (case hop => first | (apply r_load1; rfl; exact Cell.frozen (GH.cell_le (GH.le_trans hle1 (GH.le_refl _)) (hc0 _ (by omega)))) | (apply r_loadN; rfl; exact CellsAt.frozen ((hcp _ (by omega)).le hle1); rfl)); (case hd => rfl)) | (apply v_buildSlice; (case hz => rfl); (case hi => rfl); (case hv => (simp only [List.map_cons, List.map_nil]; repeat (first | with_reducible exact evs_nil | (apply evs_cons; (case h1 => rfl))))); (case hp => (apply pk_cons; (case hc => rfl); (case hs => rfl); (case h => (with_reducible exact pk_nil)); (case he => ((repeat (first | with_reducible exact ap_nil | apply ap_cons)); done)))); (case hb => rfl); (case hd => rfl); intro b) | fail)
    · have hlt : k < l.length := by omega
      refine v_append (e := 61) (sz := 2) (m' := 1) (us := [.int .i64 (l[((k : Nat) : Int).toNat]'(by omega)).1, .slice (mA ((k : Nat) : Int).toNat) (l[((k : Nat) : Int).toNat]'(by omega)).2.length (mc ((k : Nat) : Int).toNat)]) rfl (by omega) rfl rfl hg (PickA.perm (by repeat (first | exact PickA.last | apply PickA.cons))) (Src.own (List.Mem.head _) rfl) rfl (by omega) (by simp only [maxLen]; omega) rfl ?_
      intro v' ν' hg'
      repeat' (first | apply v_region | apply v_nil | apply v_blk | (apply v_pure; (case hop => first | (apply p_move <;> rfl) | (apply p_assign <;> rfl) | (apply p_add; (case hx => rfl); (case hy => rfl); (case h => omega)) | fail); (case hd => rfl)) | fail)
      refine v_only ν' (by repeat (exact PickA.here _)) ?_
      refine v_again rfl ⟨rfl, k + 1, v', css ++ [[.int .i64 (l[k]'hlt).1, .slice (mA k) (l[k]'hlt).2.length (mc k)]], f, by omega, rfl, rfl, ?_, ?_⟩ (by simp [headI]; omega)
      · rw [take_filter_succ hlt, if_pos (by simp only [ek] at *; simpa)]
        exact hcc.push rfl ⟨_, rfl, hwf k hlt, (hmv k hlt).mono hle1⟩
      · rw [take_filter_succ hlt, if_pos (by simp only [ek] at *; simpa)]
        simp only [ek] at hg'
        simpa using hg'
    · have hlt : k < l.length := by omega
      refine v_again rfl ⟨rfl, k + 1, out, css, f, by omega, rfl, rfl, ?_, ?_⟩ (by simp [headI]; omega)
      · rw [take_filter_succ hlt, if_neg (by simp only [ek] at *; simp; omega), List.append_nil]
        exact hcc
      · rw [take_filter_succ hlt, if_neg (by simp only [ek] at *; simp; omega), List.append_nil]
        exact hg
    · obtain rfl : k = l.length := by omega
      refine v_append (e := 61) (sz := 2) (m' := 1) (us := [.int .i64 f, .slice Am (refChangedL mz kind n).length cm]) rfl (by omega) rfl rfl hg (PickA.perm (by repeat (first | exact PickA.last | apply PickA.cons))) (Src.own (List.Mem.head _) rfl) rfl (by omega) (by simp only [maxLen]; omega) rfl ?_
      intro v' ν' hg'
      refine v_frz ν' (by repeat (exact PickA.here _)) ?_
      intro G4 hle4 hG4
      repeat' (first | apply v_nil | (apply v_pure; (case hop => (apply p_assign <;> rfl)); (case hd => rfl)) | fail)
      refine v_ret [] (outsA2 rfl rfl rfl) (by repeat (exact List.nil_sublist _)) ?_
      refine ⟨rfl, _, rfl, ?_⟩
      have hwF : (Lit.int .i64 f).wf = true := WalkArith.wf_i64 (by omega)
      rw [List.take_length] at hcc hg'
      have hfin := (hcc.le hle4).push (x := (f, refChangedL mz kind n)) (cs := [.int .i64 f, .slice Am (refChangedL mz kind n).length cm]) rfl ⟨_, rfl, hwF, hmv1.mono hle4⟩
      refine hfin.grow ?_ (GH.le_refl _) hG4
      simpa using hg'
theorem memOK_of {m : List Int} (h0 : 0 < m.length) (hs : m.Pairwise (· < ·)) (hr : ∀ x ∈ m, 1 ≤ x ∧ x ≤ 9) : MemOK m := by
  refine ⟨h0, fun k hk => ?_⟩
  obtain ⟨h1, h2⟩ := hr _ (List.getElem_mem hk)
  refine ⟨h1, h2, fun h => ?_⟩
  rw [List.pairwise_iff_getElem] at hs
  exact hs (k - 1) k (by omega) hk (by omega)
theorem changedL_ok {l : List Int} {kind n : Int} (hok : MemOK l) (h : (changedL l kind n).length ≠ 0) : MemOK (changedL l kind n) := by
  unfold changedL at h ⊢
  by_cases h7 : kind = 7 ∧ l.contains n = false ∧ 1 ≤ n ∧ n ≤ 9
  · rw [if_pos h7]
    have hn : n ∉ l := by simpa using h7.2.1
    refine memOK_of (by simp; omega) (insert_sorted hok.sorted hn) fun x hx => ?_
    simp only [List.mem_append, List.mem_singleton] at hx
    rcases hx with (hx | hx) | hx
    · exact hok.range (List.mem_of_mem_take hx)
    · omega
    · exact hok.range (List.mem_of_mem_drop hx)
  · rw [if_neg h7] at h ⊢
    by_cases h8 : kind = 8 ∧ l.contains n = true ∧ 1 < l.length
    · rw [if_pos h8] at h ⊢
      have hn : n ∈ l := by simpa using h8.2.1
      rw [delete_filter hok.sorted hn] at h ⊢
      exact memOK_of (by omega) (hok.sorted.filter _) fun x hx => hok.range (List.mem_filter.1 hx).1
    · rw [if_neg h8] at h; simp at h
theorem ConfOK.rises {l : List Co} (h : ConfOK l) : l.Pairwise (fun a b => a.1 < b.1) := by
  rw [List.pairwise_iff_getElem]
  have key : ∀ (d i : Nat) (hi : i + d + 1 < l.length), l[i].1 < l[i + d + 1].1 := by
    intro d
    induction d with
    | zero =>
      intro i hi
      have := (h.2 (i + 1) (by omega)).2.2 (by omega)
      simpa using this
    | succ d ih =>
      intro i hi
      have h1 := ih i (by omega)
      have h2 := (h.2 (i + (d + 1) + 1) hi).2.2 (by omega)
      have h3 : l[i + (d + 1) + 1 - 1] = l[i + d + 1] := by congr 1
      rw [h3] at h2
      omega
  intro i j hi hj hij
  have := key (j - i - 1) i (by omega)
  have h3 : l[i + (j - i - 1) + 1]'(by omega) = l[j] := by congr 1; omega
  rw [h3] at this
  exact this
theorem ConfOK.of {l : List Co} (h0 : ∃ h : 0 < l.length, l[0].1 = 1) (hr : l.Pairwise (fun a b => a.1 < b.1)) (hm : ∀ c ∈ l, MemOK c.2 ∧ c.1 ≤ 4294967296) : ConfOK l := by
  refine ⟨h0, fun i hi => ?_⟩
  obtain ⟨h1, h2⟩ := hm _ (List.getElem_mem hi)
  refine ⟨h1, h2, fun h => ?_⟩
  rw [List.pairwise_iff_getElem] at hr
  exact hr (i - 1) i (by omega) hi (by omega)
theorem ConfOK.mems {l : List Co} (h : ConfOK l) : ∀ c ∈ l, MemOK c.2 ∧ c.1 ≤ 4294967296 := fun c hc => by
  obtain ⟨i, hi, rfl⟩ := List.getElem_of_mem hc
  have := h.2 i hi
  exact ⟨this.1, this.2.1⟩
theorem lastC_mem {l : List Co} (h : 0 < l.length) : lastC l ∈ l := by
  rw [lastC_eq h]; exact List.getElem_mem _
theorem split_last {l : List Co} (h : 0 < l.length) : l = l.take (l.length - 1) ++ [lastC l] := by
  have h1 : l.take (l.length - 1 + 1) = l := by rw [List.take_of_length_le (by omega)]
  conv => lhs; rw [← h1, List.take_succ_eq_append_getElem (by omega)]
  rw [lastC_eq h]
theorem ConfOK.below {l : List Co} (h : ConfOK l) : ∀ c ∈ l.take (l.length - 1), c.1 < (lastC l).1 := by
  have hr := h.rises
  rw [split_last h.1.1, List.pairwise_append] at hr
  exact fun c hc => hr.2.2 c hc _ (by simp)
theorem refFrom_eq (l : List Co) (x : Int) : refFrom l x = fromOf l x := by
  unfold refFrom fromOf
  split <;> omega
theorem refChangeL_eq {l : List Co} {x kind n : Int} (hok : ConfOK l) (h : (changedL (lastC l).2 kind n).length ≠ 0) : refChangeL l x kind n = changeL l x kind n := by
  have hl := (hok.mems (lastC l) (lastC_mem hok.1.1)).1
  have e := refChanged_eq kind n hl
  unfold refChangeL changeL
  rw [e, if_neg h, refFrom_eq]
  congr 1
  have hb := hok.below
  have hFd : fromOf l x = max (x + 4) (lastC l).1 := rfl
  generalize fromOf l x = F at *
  split
  · rename_i hF
    conv => lhs; rw [split_last hok.1.1, List.filter_append]
    rw [List.filter_eq_self.2 (fun c hc => by have := hb c hc; simp; omega)]
    simp [hF]
  · rename_i hF
    rw [List.filter_eq_self]
    intro c hc
    rw [split_last hok.1.1] at hc
    have hlast : (lastC l).1 < F := by omega
    simp only [List.mem_append, List.mem_singleton] at hc
    rcases hc with hc | hc
    · have := hb c hc; simp; omega
    · rw [hc]; simpa using hlast
theorem changeL_ok {l : List Co} {x kind n : Int} (hok : ConfOK l) (hx : 1 ≤ x ∧ x ≤ 4294967292) (h : (changedL (lastC l).2 kind n).length ≠ 0) : ConfOK (changeL l x kind n) := by
  have hl := hok.mems (lastC l) (lastC_mem hok.1.1)
  have hm := changedL_ok hl.1 h
  have hb := hok.below
  have h0 := hok.1.1
  have h1 := hok.1.2
  have hF : fromOf l x ≤ 4294967296 ∧ 5 ≤ fromOf l x := by unfold fromOf; omega
  unfold changeL
  split
  · rename_i he
    have hlen : 1 < l.length := by
      apply Classical.byContradiction
      intro hc
      have : lastC l = l[0] := by rw [lastC_eq h0]; congr 1; omega
      rw [this, h1] at he
      omega
    refine ConfOK.of ⟨by simp, ?_⟩ ?_ ?_
    · rw [List.getElem_append_left (by simp; omega), List.getElem_take]; exact h1
    · rw [List.pairwise_append]
      refine ⟨hok.rises.sublist (List.take_sublist _ _), by simp, fun a ha b hb' => ?_⟩
      simp at hb'
      subst hb'
      have := hb a ha
      simp only; omega
    · intro c hc
      simp only [List.mem_append, List.mem_singleton] at hc
      rcases hc with hc | rfl
      · exact hok.mems c (List.mem_of_mem_take hc)
      · exact ⟨hm, hF.1⟩
  · rename_i he
    have hlast : (lastC l).1 < fromOf l x := by unfold fromOf at he ⊢; omega
    refine ConfOK.of ⟨by simp, ?_⟩ ?_ ?_
    · rw [List.getElem_append_left h0]; exact h1
    · rw [List.pairwise_append]
      refine ⟨hok.rises, by simp, fun a ha b hb' => ?_⟩
      simp at hb'
      subst hb'
      rw [split_last h0] at ha
      simp only [List.mem_append, List.mem_singleton] at ha
      rcases ha with ha | rfl
      · have := hb a ha
        simp only; omega
      · exact hlast
    · intro c hc
      simp only [List.mem_append, List.mem_singleton] at hc
      rcases hc with hc | rfl
      · exact hok.mems c hc
      · exact ⟨hm, hF.1⟩
theorem placeK_spec {l : List Co} {x : Int} : ∀ {k : Nat} (hk : k ≤ l.length), (0 ≤ placeK l x k → ∃ h : (placeK l x k).toNat < l.length, l[(placeK l x k).toNat].1 ≤ x) ∧ ∀ i (h : i < k), placeK l x k < i → ¬ l[i].1 ≤ x
  | 0, _ => by simp [placeK]
  | k + 1, hk => by
    have ih := placeK_spec (l := l) (x := x) (k := k) (by omega)
    rw [placeK_succ (by omega)]
    split
    · rename_i h
      refine ⟨fun _ => ⟨by omega, by simpa using h⟩, fun i hi hlt => by omega⟩
    · rename_i h
      refine ⟨ih.1, fun i hi hlt => ?_⟩
      by_cases hik : i = k
      · subst hik; exact h
      · exact ih.2 i (by omega) hlt
theorem trimL_eq {l : List Co} {p : Nat} {x : Int} (hp : placeK l x l.length = (p : Int)) (hlt : p < l.length) : trimL l x = (1, l[p].2) :: l.drop (p + 1) := by
  unfold trimL
  rw [hp, Int.toNat_natCast, List.drop_eq_getElem_cons hlt]
theorem trim_ok {l : List Co} {x : Int} (hok : ConfOK l) (hx : 1 ≤ x) : ∃ (p : Nat) (hlt : p < l.length), placeK l x l.length = (p : Int) ∧ trimL l x = (1, l[p].2) :: l.drop (p + 1) ∧ ConfOK (trimL l x) ∧ (trimL l x).length ≤ l.length ∧ (∀ h : 1 < (trimL l x).length, x < (trimL l x)[1].1) ∧
    ∀ y, x ≤ y → atK (trimL l x) y (trimL l x).length = atK l y l.length := by
  have h0 := hok.1.1
  have h1 := hok.1.2
  have hn := placeK_nonneg h0 (x := x) (by omega) l.length h0 (Nat.le_refl _)
  have hle := placeK_le l x l.length
  obtain ⟨p, hp⟩ := Int.eq_ofNat_of_zero_le hn
  have hlt : p < l.length := by omega
  obtain ⟨hs1, hs2⟩ := placeK_spec (l := l) (x := x) (Nat.le_refl l.length)
  have hpx : l[p].1 ≤ x := by
    obtain ⟨_, h⟩ := hs1 hn
    have e : (placeK l x l.length).toNat = p := by omega
    simpa [e] using h
  have ht := trimL_eq hp hlt
  have hrise := hok.rises
  rw [List.pairwise_iff_getElem] at hrise
  have h1p : 1 ≤ l[p].1 := by
    by_cases hz : p = 0
    · subst hz; omega
    · have := hrise 0 p h0 hlt (by omega); omega
  refine ⟨p, hlt, hp, ht, ?_, ?_, ?_, ?_⟩
  · rw [ht]
    refine ConfOK.of ⟨by simp, rfl⟩ ?_ ?_
    · rw [List.pairwise_cons]
      refine ⟨fun c hc => ?_, hok.rises.sublist (List.drop_sublist _ _)⟩
      obtain ⟨i, hi, rfl⟩ := List.getElem_of_mem hc
      rw [List.getElem_drop]
      have := hrise p (p + 1 + i) hlt (by simp at hi; omega) (by omega)
      simp only; omega
    · intro c hc
      simp only [List.mem_cons] at hc
      rcases hc with rfl | hc
      · exact ⟨(hok.mems _ (List.getElem_mem hlt)).1, by simp⟩
      · exact hok.mems c (List.mem_of_mem_drop hc)
  · rw [ht]; simp; omega
  · rw [ht]
    intro h
    have hi : p + 1 < l.length := by simp at h; omega
    have e : ((1, l[p].2) :: l.drop (p + 1))[1]'h = l[p + 1] := by simp
    rw [e]
    have := hs2 (p + 1) hi (by omega)
    omega
  · intro y hy
    have key : ∀ j, p + 1 + j ≤ l.length → atK (trimL l x) y (1 + j) = atK l y (p + 1 + j) := by
      intro j
      induction j with
      | zero =>
        intro hj
        rw [ht, atK_pos (l := (1, l[p].2) :: l.drop (p + 1)) (k := 0) (by simp) (by simp; omega), atK_pos hlt (by omega)]
        rfl
      | succ j ih =>
        intro hj
        have hi : p + 1 + j < l.length := by omega
        have hi' : 1 + j < (trimL l x).length := by rw [ht]; simp; omega
        have e : (trimL l x)[1 + j]'hi' = l[p + 1 + j] := by
          simp only [ht]
          rw [List.getElem_cons, dif_neg (by omega), List.getElem_drop]
          congr 1; omega
        by_cases hc : l[p + 1 + j].1 ≤ y
        · rw [show 1 + (j + 1) = (1 + j) + 1 by omega, show p + 1 + (j + 1) = (p + 1 + j) + 1 by omega, atK_pos hi (by omega), atK_pos hi' (by rw [e]; exact hc), e]
        · rw [show 1 + (j + 1) = (1 + j) + 1 by omega, show p + 1 + (j + 1) = (p + 1 + j) + 1 by omega, atK_neg hi hc, atK_neg hi' (by rw [e]; exact hc)]
          exact ih (by omega)
    have hl : (trimL l x).length = 1 + (l.length - (p + 1)) := by rw [ht]; simp; omega
    rw [hl, key _ (by omega)]
    congr 1; omega
structure Im where
  index : Int
  active : Int
  confs : List Co
  st : St
def ImV (G : GH) (m : Im) (v : Value) : Prop := ∃ C cc A c A' c', v = .agg [.int .i64 m.index, .int .i64 m.active, .slice C m.confs.length cc, .int .i64 m.st.schema, .slice A m.st.pairs.length c, .slice A' m.st.sess.length c'].toArray ∧
  Cos G (.slice C m.confs.length cc) m.confs ∧ Prs G (.slice A m.st.pairs.length c) m.st.pairs ∧ Sss G (.slice A' m.st.sess.length c') m.st.sess
theorem ImV.up {G G' : GH} (hle : GH.le G G') {m : Im} {v : Value} (h : ImV G m v) : ImV G' m v := by
  obtain ⟨C, cc, A, c, A', c', e, h1, h2, h3⟩ := h
  exact ⟨C, cc, A, c, A', c', e, h1.le hle, h2.mono hle, h3.mono hle⟩
theorem ImV.mk' {G : GH} {x a : Int} {l : List Co} {s : St} {C : Option Addr} {cc : Nat} {A A' : Option Addr} {c c' : Nat} (h1 : Cos G (.slice C l.length cc) l) (h2 : StV G s (.agg [.int .i64 s.schema, .slice A s.pairs.length c, .slice A' s.sess.length c'].toArray)) :
    ImV G ⟨x, a, l, s⟩ (.agg [.int .i64 x, .int .i64 a, .slice C l.length cc, .int .i64 s.schema, .slice A s.pairs.length c, .slice A' s.sess.length c'].toArray) := by
  obtain ⟨B, d, B', d', e, h3, h4⟩ := h2
  cases e
  exact ⟨C, cc, A, c, A', c', rfl, h1, h3, h4⟩
def ImP (m : Im) : Prop := (0 ≤ m.index ∧ m.index ≤ 4294967296 ∧ 0 ≤ m.active ∧ m.active ≤ m.index) ∧ ConfOK m.confs ∧ StP m.st ∧ (m.st.schema = 2 ↔ 0 < m.active)
noncomputable instance (m : Im) : Decidable (ImP m) := Classical.propDecidable _
def CoZ (l : List Co) : Prop := l.length ≤ 900 ∧ ∀ c ∈ l, c.2.length ≤ 1000
def zeroIm : Im := ⟨0, 0, [], zeroSt⟩
noncomputable def confsI (m : Im) (c : Cm) : List Co := if (c.kind = 7 ∨ c.kind = 8) ∧ (changeR m.confs (m.index + 1) c.kind c.node).2 = 0 then changeL m.confs (m.index + 1) c.kind c.node else m.confs
def activeI (m : Im) (c : Cm) : Int := if c.kind = 6 ∧ m.active = 0 then m.index + 1 else m.active
noncomputable def nextI (m : Im) (c : Cm) : Im := ⟨m.index + 1, activeI m c, trimL (confsI m c) (m.index + 2), (applyS m.st c).1⟩
noncomputable def winS (m : Im) (c : Cm) : Im × An × Int :=
  if ¬ ImP m then (zeroIm, zA, 3) else if 4294967292 ≤ m.index then (zeroIm, zA, 11) else if cmdI c ≠ 0 then (zeroIm, zA, cmdI c) else (nextI m c, (applyS m.st c).2.1, 0)
theorem changeR_zero {l : List Co} {x k n : Int} (hok : ConfOK l) (hx : 1 ≤ x ∧ x ≤ 4294967292) : (changeR l x k n).2 = 0 ↔ (changedL (lastC l).2 k n).length ≠ 0 := by
  unfold changeR
  rw [if_neg (by simpa using hok), if_neg (by omega)]
  split <;> simp_all
theorem changeR_one {l : List Co} {x k n : Int} (h : (changeR l x k n).2 = 0) : (changeR l x k n).1 = changeL l x k n := by
  unfold changeR at *
  split at h
  · exact absurd h (by simp)
  split at h
  · exact absurd h (by simp)
  split at h
  · exact absurd h (by simp)
  rw [if_neg (by assumption), if_neg (by assumption), if_neg (by assumption)]
theorem applyS_schema {s : St} {c : Cm} (hs : StP s) (hc : cmdI c = 0) : (applyS s c).1.schema = if c.kind = 6 then 2 else s.schema := by
  have hz := (stP_iff.1 hs).2.1
  unfold applyS
  rw [if_neg (by simp [hc])]
  split
  · rw [if_neg (by omega)]
    unfold clientS
    (repeat' split) <;> rfl
  · split
    · rename_i h
      rw [if_pos h.1]; rfl
    · rename_i h1 h2
      split
      · rename_i h6
        have : s.schema ≠ 1 := fun h => h2 ⟨h6, h⟩
        simp only; omega
      · rfl
theorem confsI_ok {m : Im} {c : Cm} (h : ImP m) (hx : m.index < 4294967292) : ConfOK (confsI m c) := by
  unfold confsI
  split
  · rename_i hh
    have := (changeR_zero h.2.1 (by have := h.1; omega)).1 hh.2
    exact changeL_ok h.2.1 (by have := h.1; omega) this
  · exact h.2.1
theorem nextI_ok {m : Im} {c : Cm} (h : ImP m) (hx : m.index < 4294967292) (hc : cmdI c = 0) : ImP (nextI m c) := by
  obtain ⟨p, hlt, hp, ht, hok2, hlen, hnx, hat⟩ := trim_ok (x := m.index + 2) (confsI_ok (c := c) h hx) (by have := h.1; omega)
  have he : (applyS m.st c).2.2 = 0 := by
    unfold applyS
    rw [if_neg (by simp [hc])]
    (repeat' split) <;> rfl
  have hsch := applyS_schema h.2.2.1 hc
  have h4 := h.2.2.2
  have hz := (stP_iff.1 h.2.2.1).2.1
  obtain ⟨h1, h2, h3, h5⟩ := h.1
  refine ⟨?_, hok2, (applyS_ok h.2.2.1 he).1, ?_⟩
  · show 0 ≤ m.index + 1 ∧ m.index + 1 ≤ 4294967296 ∧ 0 ≤ activeI m c ∧ activeI m c ≤ m.index + 1
    unfold activeI
    split <;> omega
  · show (applyS m.st c).1.schema = 2 ↔ 0 < activeI m c
    rw [hsch]
    unfold activeI
    by_cases h6 : c.kind = 6
    · rw [if_pos h6]
      by_cases ha : m.active = 0
      · rw [if_pos ⟨h6, ha⟩]; constructor <;> intro _ <;> omega
      · rw [if_neg (fun h => ha h.2)]; constructor <;> intro _ <;> omega
    · rw [if_neg h6, if_neg (fun h => h6 h.1)]; exact h4
theorem confsI_len {m : Im} {c : Cm} : (confsI m c).length ≤ m.confs.length + 1 := by
  unfold confsI changeL
  split
  · rw [List.length_append, List.length_singleton]
    split
    · rw [List.length_take]; omega
    · omega
  · omega
theorem memOK_len : ∀ (l : List Int) (a : Int), l.Pairwise (· < ·) → (∀ x ∈ l, a ≤ x ∧ x ≤ 9) → a ≤ 10 → (l.length : Int) ≤ 10 - a
  | [], a, _, _, ha => by simp; omega
  | x :: l, a, h, hx, ha => by
    have h1 := List.pairwise_cons.1 h
    have h2 := hx x List.mem_cons_self
    have := memOK_len l (x + 1) h1.2 (fun y hy => ⟨by have := h1.1 y hy; omega, (hx y (List.mem_cons_of_mem _ hy)).2⟩) (by omega)
    simp only [List.length_cons]
    omega
theorem ConfOK.few {l : List Co} (h : ConfOK l) : ∀ c ∈ l, c.2.length ≤ 9 := fun c hc => by
  have hm := (h.mems c hc).1
  have := memOK_len c.2 1 hm.sorted (fun x hx => hm.range hx) (by omega)
  omega
theorem nextI_len {m : Im} {c : Cm} (h : ImP m) (hx : m.index < 4294967292) : (nextI m c).confs.length ≤ m.confs.length + 1 := by
  obtain ⟨p, hlt, hp, ht, hok2, hlen, hnx, hat⟩ := trim_ok (x := m.index + 2) (confsI_ok (c := c) h hx) (by have := h.1; omega)
  exact Nat.le_trans hlen confsI_len
theorem ConfOK.coZ {l : List Co} (h : ConfOK l) (hl : l.length ≤ 900) : CoZ l := ⟨hl, fun c hc => by have := h.few c hc; omega⟩
theorem CoZ.one {l : List Co} (h : CoZ l) : ∀ c ∈ l, c.2.length ≤ 1048000 := fun c hc => by have := h.2 c hc; omega
theorem CoZ.two {l : List Co} (h : CoZ l) : ∀ c ∈ l, c.2.length ≤ 1048576 := fun c hc => by have := h.2 c hc; omega
theorem verFormat_s (G : GH) (a : Int) : Con Tryz.prog 88 #[.int .i64 a] G [] (Just (.int .i64 (if 0 < a then 2 else 1)) G) := by
  apply Con.just
  (refine v_enter Tryz.func88 rfl Tryz.ntmps88 rfl ?_; intro B _)
  repeat' (first | apply v_seq | apply v_region | apply v_nil | apply v_skip | (apply v_pure; (case hop => first | (apply p_move <;> rfl) | (apply p_gt <;> rfl) | (apply p_assign <;> rfl)); (case hd => rfl)) | (apply v_cond; (case hc => rfl); all_goals (intro h; (try simp only [reduceCtorEq, zzz] at h))) | fail)
  · refine v_ret [] (outsA1 rfl rfl) (by repeat (exact List.Sublist.refl _)) ?_
    rw [if_pos (by omega)]
    exact ⟨rfl, rfl⟩
  · refine v_ret [] (outsA1 rfl rfl) (by repeat (exact List.Sublist.refl _)) ?_
    rw [if_neg (by omega)]
    exact ⟨rfl, rfl⟩
theorem winCheck_s {G : GH} (hT : TabsG G) {m : Im} {v : Value} (hm : ImV G m v) (hz : StZ m.st) : Con Tryz.prog 32 #[v] G [] (Just (.int .i64 (if ImP m then 0 else 3)) G) := by
  obtain ⟨C, cc, A, c, A', c', rfl, hC, hp, hss⟩ := hm
  have hs : StV G m.st (.agg [.int .i64 m.st.schema, .slice A m.st.pairs.length c, .slice A' m.st.sess.length c'].toArray) := ⟨_, _, _, _, rfl, hp, hss⟩
  have q1 := check_s hC
  have q2 := migCheck_s hT hs hz
  have q3 := verFormat_s G m.active
  have hst : ImP m ↔ (0 ≤ m.index ∧ m.index ≤ 4294967296 ∧ 0 ≤ m.active ∧ m.active ≤ m.index) ∧ ConfOK m.confs ∧ StP m.st ∧ (m.st.schema = 2 ↔ 0 < m.active) := Iff.rfl
  have h12 : StP m.st → m.st.schema = 1 ∨ m.st.schema = 2 := fun h => (stP_iff.1 h).2.1
  apply Con.just
  generalize hi : (if ImP m then (0 : Int) else 3) = iv
  have hyes : ImP m → iv = 0 := fun h => by rw [← hi, if_pos h]
  have hnot : ¬ ImP m → iv = 3 := fun h => by rw [← hi, if_neg h]
  rw [hst] at hyes hnot
  clear hi hst hC hp hss hs
  obtain ⟨ix, ac, lc, st⟩ := m
  simp only at *
  obtain ⟨z, lp, ls⟩ := st
  simp only at *
  generalize lp.length = np at *
  generalize ls.length = ns at *
  generalize lc.length = nl at *
  by_cases h1 : ConfOK lc
  · rw [if_pos h1] at q1
    by_cases h2 : StP ⟨z, lp, ls⟩
    · rw [if_pos h2] at q2
      have h12 := h12 h2
      by_cases h3 : 0 < ac
      · rw [if_pos h3] at q3
        (refine v_enter Tryz.func32 rfl Tryz.ntmps32 rfl ?_; intro B _)
        repeat' (first | (apply v_box (d := 1) (zs := [.int .i64 ix, .int .i64 ac, .slice C nl cc, .int .i64 z, .slice A np c, .slice A' ns c']); (case hx => rfl); (case hz => rfl); (case hd => rfl); intro b1) | apply v_seq | apply v_region | apply v_nil | apply v_skip | (apply v_take; (case hg => rfl)) | (apply v_pass; (case hg => rfl); (case hn => rfl); (case hd => rfl)) | (apply v_pure; (case hop => first | (apply p_move <;> rfl) | (apply p_nes <;> rfl) | (apply p_lt <;> rfl) | (apply p_gt <;> rfl) | (apply p_assign <;> rfl) | (apply p_pickT <;> rfl) | (apply p_pickF <;> rfl) | (apply p_fieldAddrB <;> rfl) | fail); (case hd => rfl)) | (apply v_condT; (case hc => rfl)) | (apply v_condF; (case hc => rfl)) | (apply v_cond; (case hc => rfl); all_goals (intro h; (try simp only [reduceCtorEq, zzz] at h))) | (apply v_guardB; (case h1 => rfl); (case h2 => rfl); all_goals (intro h; (try simp only [reduceCtorEq, zzz] at h); first | (exfalso; omega) | skip)) | (apply v_callJ (hs := q1); (case ha => rfl); (case hd => rfl)) | (apply v_callJ (hs := q2); (case ha => rfl); (case hd => rfl)) | (apply v_read; (case hop => first | (apply r_loadNo; (case hx => rfl); (case h => (repeat (exact mhd _))); (case hd => (repeat (first | with_reducible exact dt_nil | apply dt_here))); (case hn => rfl)) | (apply r_load1; rfl; (apply Cell.own; (case h => (repeat (exact mhd _))); rfl)) | fail); (case hd => rfl)) | fail)
        all_goals try
          (refine v_ret [] (outsA1 rfl rfl) (by repeat (first | exact List.Sublist.refl _ | exact List.nil_sublist _ | fail)) ?_
           exact ⟨by rw [hnot (by rintro ⟨h, -⟩; omega)], rfl⟩)
        refine d_start _ (by kernel_rfl) (by kernel_rfl) (by kernel_rfl) (fun _ he => he) ?_
        all_goals (apply dtk 0; (case hi => rfl); (case hop => (apply prd; apply p_fieldAddrB <;> rfl)); (case hq => kernel_rfl))
        all_goals (apply dtk 1; (case hi => rfl); (case hop => (apply prd; apply p_fieldAddrB <;> rfl)); (case hq => kernel_rfl))
        all_goals (apply dtk 2; (case hi => rfl); (case hop => first | (apply r_loadNo; (case hx => rfl); (case h => (repeat (fail))); (case hd => (repeat (fail))); (case hn => rfl)) | (apply r_load1; rfl; (apply Cell.own; (case h => (repeat (exact mhd _))); rfl)) | (apply r_loadN; rfl; (apply CellsAt.own; (case h => (repeat (fail)))); rfl)); (case hq => kernel_rfl))
        all_goals (apply dtk 3; (case hi => rfl); (case hop => (apply prd; apply p_fieldAddrB <;> rfl)); (case hq => kernel_rfl))
        all_goals (apply dtk 4; (case hi => rfl); (case hop => first | (apply r_loadNo; (case hx => rfl); (case h => (repeat (fail))); (case hd => (repeat (fail))); (case hn => rfl)) | (apply r_load1; rfl; (apply Cell.own; (case h => (repeat (exact mhd _))); rfl)) | (apply r_loadN; rfl; (apply CellsAt.own; (case h => (repeat (fail)))); rfl)); (case hq => kernel_rfl))
        all_goals ((apply d_callJ 5 (hs := q3); (case hi => rfl); (case hr => kernel_rfl);  (case ha => rfl); (case hd => rfl)))
        all_goals (apply dtk 6; (case hi => rfl); (case hop => (apply prd; apply p_ne <;> rfl)); (case hq => kernel_rfl))
        all_goals (apply d_done; (case hr => kernel_rfl))
        repeat' (first | apply v_seq | apply v_region | apply v_nil | apply v_skip | (apply v_pure; (case hop => (apply p_assign <;> rfl)); (case hd => rfl)) | (apply v_cond; (case hc => rfl); all_goals (intro h; (try simp only [reduceCtorEq, zzz] at h))) | fail)
        all_goals
          (refine v_ret [] (outsA1 rfl rfl) (by repeat (exact List.nil_sublist _)) ?_
           refine ⟨?_, rfl⟩
           first
             | (rw [hyes ⟨by omega, h1, h2, by omega⟩])
             | (rw [hnot (by rintro ⟨h, -, -, h'⟩; omega)]))
      · rw [if_neg h3] at q3
        (refine v_enter Tryz.func32 rfl Tryz.ntmps32 rfl ?_; intro B _)
        repeat' (first | (apply v_box (d := 1) (zs := [.int .i64 ix, .int .i64 ac, .slice C nl cc, .int .i64 z, .slice A np c, .slice A' ns c']); (case hx => rfl); (case hz => rfl); (case hd => rfl); intro b1) | apply v_seq | apply v_region | apply v_nil | apply v_skip | (apply v_take; (case hg => rfl)) | (apply v_pass; (case hg => rfl); (case hn => rfl); (case hd => rfl)) | (apply v_pure; (case hop => first | (apply p_move <;> rfl) | (apply p_nes <;> rfl) | (apply p_lt <;> rfl) | (apply p_gt <;> rfl) | (apply p_assign <;> rfl) | (apply p_pickT <;> rfl) | (apply p_pickF <;> rfl) | (apply p_fieldAddrB <;> rfl) | fail); (case hd => rfl)) | (apply v_condT; (case hc => rfl)) | (apply v_condF; (case hc => rfl)) | (apply v_cond; (case hc => rfl); all_goals (intro h; (try simp only [reduceCtorEq, zzz] at h); first | (exfalso; omega) | skip)) | (apply v_guardB; (case h1 => rfl); (case h2 => rfl); all_goals (intro h; (try simp only [reduceCtorEq, zzz] at h))) | (apply v_callJ (hs := q1); (case ha => rfl); (case hd => rfl)) | (apply v_callJ (hs := q2); (case ha => rfl); (case hd => rfl)) | (apply v_read; (case hop => first | (apply r_loadNo; (case hx => rfl); (case h => (repeat (exact mhd _))); (case hd => (repeat (first | with_reducible exact dt_nil | apply dt_here))); (case hn => rfl)) | (apply r_load1; rfl; (apply Cell.own; (case h => (repeat (exact mhd _))); rfl)) | fail); (case hd => rfl)) | fail)
        all_goals try
          (refine v_ret [] (outsA1 rfl rfl) (by repeat (first | exact List.Sublist.refl _ | exact List.nil_sublist _ | fail)) ?_
           exact ⟨by rw [hnot (by rintro ⟨h, -⟩; omega)], rfl⟩)
        refine d_start _ (by kernel_rfl) (by kernel_rfl) (by kernel_rfl) (fun _ he => he) ?_
        all_goals (apply dtk 0; (case hi => rfl); (case hop => (apply prd; apply p_fieldAddrB <;> rfl)); (case hq => kernel_rfl))
        all_goals (apply dtk 1; (case hi => rfl); (case hop => (apply prd; apply p_fieldAddrB <;> rfl)); (case hq => kernel_rfl))
        all_goals (apply dtk 2; (case hi => rfl); (case hop => first | (apply r_loadNo; (case hx => rfl); (case h => (repeat (fail))); (case hd => (repeat (fail))); (case hn => rfl)) | (apply r_load1; rfl; (apply Cell.own; (case h => (repeat (exact mhd _))); rfl)) | (apply r_loadN; rfl; (apply CellsAt.own; (case h => (repeat (fail)))); rfl)); (case hq => kernel_rfl))
        all_goals (apply dtk 3; (case hi => rfl); (case hop => (apply prd; apply p_fieldAddrB <;> rfl)); (case hq => kernel_rfl))
        all_goals (apply dtk 4; (case hi => rfl); (case hop => first | (apply r_loadNo; (case hx => rfl); (case h => (repeat (fail))); (case hd => (repeat (fail))); (case hn => rfl)) | (apply r_load1; rfl; (apply Cell.own; (case h => (repeat (exact mhd _))); rfl)) | (apply r_loadN; rfl; (apply CellsAt.own; (case h => (repeat (fail)))); rfl)); (case hq => kernel_rfl))
        all_goals ((apply d_callJ 5 (hs := q3); (case hi => rfl); (case hr => kernel_rfl);  (case ha => rfl); (case hd => rfl)))
        all_goals (apply dtk 6; (case hi => rfl); (case hop => (apply prd; apply p_ne <;> rfl)); (case hq => kernel_rfl))
        all_goals (apply d_done; (case hr => kernel_rfl))
        repeat' (first | apply v_seq | apply v_region | apply v_nil | apply v_skip | (apply v_pure; (case hop => (apply p_assign <;> rfl)); (case hd => rfl)) | (apply v_cond; (case hc => rfl); all_goals (intro h; (try simp only [reduceCtorEq, zzz] at h))) | fail)
        all_goals
          (refine v_ret [] (outsA1 rfl rfl) (by repeat (exact List.nil_sublist _)) ?_
           refine ⟨?_, rfl⟩
           first
             | (rw [hyes ⟨by omega, h1, h2, by omega⟩])
             | (rw [hnot (by rintro ⟨h, -, -, h'⟩; omega)]))
    · rw [if_neg h2] at q2
      rw [hnot (fun h => h2 h.2.2.1)]
      (refine v_enter Tryz.func32 rfl Tryz.ntmps32 rfl ?_; intro B _)
      repeat' (first | (apply v_box (d := 1) (zs := [.int .i64 ix, .int .i64 ac, .slice C nl cc, .int .i64 z, .slice A np c, .slice A' ns c']); (case hx => rfl); (case hz => rfl); (case hd => rfl); intro b1) | apply v_seq | apply v_region | apply v_nil | apply v_skip | (apply v_take; (case hg => rfl)) | (apply v_pass; (case hg => rfl); (case hn => rfl); (case hd => rfl)) | (apply v_pure; (case hop => first | (apply p_move <;> rfl) | (apply p_nes <;> rfl) | (apply p_lt <;> rfl) | (apply p_gt <;> rfl) | (apply p_ne <;> rfl) | (apply p_assign <;> rfl) | (apply p_pickT <;> rfl) | (apply p_pickF <;> rfl) | (apply p_fieldAddrB <;> rfl) | fail); (case hd => rfl)) | (apply v_condT; (case hc => rfl)) | (apply v_condF; (case hc => rfl)) | (apply v_cond; (case hc => rfl); all_goals (intro h; (try simp only [reduceCtorEq, zzz] at h); first | (exfalso; omega) | skip)) | (apply v_guardB; (case h1 => rfl); (case h2 => rfl); all_goals (intro h; (try simp only [reduceCtorEq, zzz] at h))) | (apply v_callJ (hs := q1); (case ha => rfl); (case hd => rfl)) | (apply v_callJ (hs := q2); (case ha => rfl); (case hd => rfl)) | (apply v_read; (case hop => first | (apply r_loadNo; (case hx => rfl); (case h => (repeat (exact mhd _))); (case hd => (repeat (first | with_reducible exact dt_nil | apply dt_here))); (case hn => rfl)) | (apply r_load1; rfl; (apply Cell.own; (case h => (repeat (exact mhd _))); rfl)) | fail); (case hd => rfl)) | fail)
      all_goals
        (refine v_ret [] (outsA1 rfl rfl) (by repeat (exact List.nil_sublist _)) ?_
         exact ⟨rfl, rfl⟩)
  · rw [if_neg h1] at q1
    rw [hnot (fun h => h1 h.2.1)]
    (refine v_enter Tryz.func32 rfl Tryz.ntmps32 rfl ?_; intro B _)
    repeat' (first | (apply v_box (d := 1) (zs := [.int .i64 ix, .int .i64 ac, .slice C nl cc, .int .i64 z, .slice A np c, .slice A' ns c']); (case hx => rfl); (case hz => rfl); (case hd => rfl); intro b1) | apply v_seq | apply v_region | apply v_nil | apply v_skip | (apply v_take; (case hg => rfl)) | (apply v_pass; (case hg => rfl); (case hn => rfl); (case hd => rfl)) | (apply v_pure; (case hop => first | (apply p_move <;> rfl) | (apply p_lt <;> rfl) | (apply p_gt <;> rfl) | (apply p_ne <;> rfl) | (apply p_assign <;> rfl) | (apply p_pickT <;> rfl) | (apply p_pickF <;> rfl) | (apply p_fieldAddrB <;> rfl) | fail); (case hd => rfl)) | (apply v_condT; (case hc => rfl)) | (apply v_cond; (case hc => rfl); all_goals (intro h; (try simp only [reduceCtorEq, zzz] at h); first | (exfalso; omega) | skip)) | (apply v_guardB; (case h1 => rfl); (case h2 => rfl); all_goals (intro h; (try simp only [reduceCtorEq, zzz] at h))) | (apply v_callJ (hs := q1); (case ha => rfl); (case hd => rfl)) | (apply v_read; (case hop => (apply r_load1; rfl; (apply Cell.own; (case h => (repeat (exact mhd _))); rfl))); (case hd => rfl)) | fail)
    all_goals
      (refine v_ret [] (outsA1 rfl rfl) (by repeat (exact List.nil_sublist _)) ?_
       exact ⟨rfl, rfl⟩)
def OpenP (m : Im) (i : Int) : Prop := m.index < i ∧ i - 4 ≤ m.index
noncomputable instance (m : Im) (i : Int) : Decidable (OpenP m i) := Classical.propDecidable _
theorem winOpen_s {G : GH} {m : Im} {v : Value} (i : Int) (hm : ImV G m v) (h0 : 0 ≤ m.index) (hi : (Lit.int .i64 i).wf = true) : Con Tryz.prog 25 #[v, .int .i64 i] G [] (Just (.bool (decide (OpenP m i))) G) := by
  obtain ⟨C, cc, A, c, A', c', rfl, hC, hp, hss⟩ := hm
  have hb := bounds_i64 hi
  have hst : decide (OpenP m i) = decide (m.index < i ∧ i - 4 ≤ m.index) := decide_eq_decide.2 Iff.rfl
  rw [hst]
  clear hst hC hp hss
  obtain ⟨ix, ac, lc, ⟨z, lp, ls⟩⟩ := m
  simp only at *
  generalize lp.length = np at *
  generalize ls.length = ns at *
  generalize lc.length = nl at *
  apply Con.just
  (refine v_enter Tryz.func25 rfl Tryz.ntmps25 rfl ?_; intro B _)
  repeat' (first | (apply v_box (d := 2) (zs := [.int .i64 ix, .int .i64 ac, .slice C nl cc, .int .i64 z, .slice A np c, .slice A' ns c']); (case hx => rfl); (case hz => rfl); (case hd => rfl); intro b2) | apply v_seq | apply v_region | apply v_nil | (apply v_take; (case hg => rfl)) | (apply v_pass; (case hg => rfl); (case hn => rfl); (case hd => rfl)) | (apply v_pure; (case hop => first | (apply p_move <;> rfl) | (apply p_gt <;> rfl) | (apply p_le <;> rfl) | (apply p_assign <;> rfl) | (apply p_pickT <;> rfl) | (apply p_pickF <;> rfl) | (apply p_fieldAddrB <;> rfl) | (apply p_sub; (case hx => rfl); (case hy => rfl); (case h => omega)) | fail); (case hd => rfl)) | (apply v_guardB; (case h1 => rfl); (case h2 => rfl); all_goals (intro h; (try simp only [reduceCtorEq, zzz] at h))) | (apply v_read; (case hop => (apply r_load1; rfl; (apply Cell.own; (case h => (repeat (exact mhd _))); rfl))); (case hd => rfl)) | fail)
  all_goals
    (refine v_ret [] (outsA1 rfl rfl) (by repeat (exact List.nil_sublist _)) ?_
     refine ⟨?_, rfl⟩
     (try simp only [dec_eq])
     congr 1
     first
       | (rw [decide_eq_decide]; omega)
       | (rw [eq_comm, decide_eq_false_iff_not]; omega)
       | (rw [eq_comm, decide_eq_true_iff]; omega))
noncomputable def membersI (m : Im) (i : Int) : List Int := if ImP m ∧ OpenP m i then atK m.confs i m.confs.length else []
theorem winMembers_s {G : GH} (hT : TabsG G) {m : Im} {v : Value} (i : Int) (hm : ImV G m v) (hz : StZ m.st) (hc : CoZ m.confs) (hi : (Lit.int .i64 i).wf = true) :
    Con Tryz.prog 23 #[v, .int .i64 i] G [] (fun r G' μ' => μ' = [] ∧ Sl G' 1 (IntR .i64) r (membersI m i)) := by
  have q1 := winCheck_s hT hm hz
  have q2 := fun h => winOpen_s i hm h hi
  have hmi : membersI m i = if ImP m ∧ OpenP m i then atK m.confs i m.confs.length else [] := rfl
  have h0 : ImP m → 0 ≤ m.index := fun h => h.1.1
  have hpos : ImP m → OpenP m i → 1 ≤ i := fun h h' => by have := h.1.1; have := h'.1; omega
  obtain ⟨C, cc, A, c, A', c', rfl, hC, hp, hss⟩ := hm
  have q3 := at_s i hC hc.two
  have hcok : ImP m → ConfOK m.confs := fun h => h.2.1
  have hat : atL m.confs i = if ConfOK m.confs ∧ 1 ≤ i then atK m.confs i m.confs.length else [] := rfl
  rw [hmi]
  clear hmi hC hp hss hc hz
  by_cases hP : ImP m
  · rw [if_pos hP] at q1
    have q2 := q2 (h0 hP)
    by_cases hO : OpenP m i
    · rw [if_pos ⟨hP, hO⟩]
      rw [if_pos ⟨hcok hP, hpos hP hO⟩] at hat
      rw [hat] at q3
      rw [decide_eq_true hO] at q2
      clear hat hcok hpos h0
      (obtain ⟨ix, ac, lc, ⟨z, lp, ls⟩⟩ := m; simp only at *; generalize lp.length = np at *; generalize ls.length = ns at *; generalize lc.length = nl at *)
      (refine v_enter Tryz.func23 rfl Tryz.ntmps23 rfl ?_; intro B _)
      repeat' (first | (apply v_box (d := 2) (zs := [.int .i64 ix, .int .i64 ac, .slice C nl cc, .int .i64 z, .slice A np c, .slice A' ns c']); (case hx => rfl); (case hz => rfl); (case hd => rfl); intro b2) | (apply v_read; (case hop => (apply r_loadNo; (case hx => rfl); (case h => repeat (exact mhd _)); (case hd => rfl); (case hn => rfl))); (case hd => rfl)) | apply v_seq | apply v_region | apply v_nil | apply v_skip | (apply v_take; (case hg => rfl)) | (apply v_pure; (case hop => first | (apply p_move <;> rfl) | (apply p_nes <;> rfl) | (apply p_assign <;> rfl) | (apply p_pickF <;> rfl) | (apply p_not <;> rfl) | (apply p_fieldAddrB <;> rfl) | fail); (case hd => rfl)) | (apply v_condF; (case hc => rfl)) | (apply v_callJ (hs := q1); (case ha => rfl); (case hd => rfl)) | (apply v_callJ (hs := q2); (case ha => rfl); (case hd => rfl)) | (apply v_read; (case hop => (apply r_load1; rfl; (apply Cell.own; (case h => (repeat (exact mhd _))); rfl))); (case hd => rfl)) | fail)
      refine v_call (μ1 := []) rfl q3 (List.Perm.refl _) rfl ?_
      rintro r G2 _ - ⟨rfl, hr⟩
      repeat' (first | apply v_nil | (apply v_pure; (case hop => (apply p_assign <;> rfl)); (case hd => rfl)) | fail)
      refine v_ret [] (outsA1 rfl rfl) (by repeat (exact List.nil_sublist _)) ?_
      exact ⟨rfl, hr⟩
    · rw [if_neg (fun h => hO h.2)]
      rw [decide_eq_false hO] at q2
      clear hat hcok hpos h0
      (obtain ⟨ix, ac, lc, ⟨z, lp, ls⟩⟩ := m; simp only at *; generalize lp.length = np at *; generalize ls.length = ns at *; generalize lc.length = nl at *)
      (refine v_enter Tryz.func23 rfl Tryz.ntmps23 rfl ?_; intro B _)
      repeat' (first | (apply v_box (d := 2) (zs := [.int .i64 ix, .int .i64 ac, .slice C nl cc, .int .i64 z, .slice A np c, .slice A' ns c']); (case hx => rfl); (case hz => rfl); (case hd => rfl); intro b2) | (apply v_read; (case hop => (apply r_loadNo; (case hx => rfl); (case h => repeat (exact mhd _)); (case hd => rfl); (case hn => rfl))); (case hd => rfl)) | apply v_seq | apply v_region | apply v_nil | (apply v_take; (case hg => rfl)) | (apply v_pure; (case hop => first | (apply p_move <;> rfl) | (apply p_nes <;> rfl) | (apply p_assign <;> rfl) | (apply p_pickF <;> rfl) | (apply p_not <;> rfl) | fail); (case hd => rfl)) | (apply v_condT; (case hc => rfl)) | (apply v_callJ (hs := q1); (case ha => rfl); (case hd => rfl)) | (apply v_callJ (hs := q2); (case ha => rfl); (case hd => rfl)) | fail)
      refine v_ret [] (outsA1 rfl rfl) (by repeat (exact List.nil_sublist _)) ?_
      exact ⟨rfl, Sl.nil⟩
  · rw [if_neg hP] at q1
    rw [if_neg (fun h => hP h.1)]
    clear hat hcok hpos h0 q2
    (obtain ⟨ix, ac, lc, ⟨z, lp, ls⟩⟩ := m; simp only at *; generalize lp.length = np at *; generalize ls.length = ns at *; generalize lc.length = nl at *)
    (refine v_enter Tryz.func23 rfl Tryz.ntmps23 rfl ?_; intro B _)
    repeat' (first | (apply v_box (d := 2) (zs := [.int .i64 ix, .int .i64 ac, .slice C nl cc, .int .i64 z, .slice A np c, .slice A' ns c']); (case hx => rfl); (case hz => rfl); (case hd => rfl); intro b2) | (apply v_read; (case hop => (apply r_loadNo; (case hx => rfl); (case h => repeat (exact mhd _)); (case hd => rfl); (case hn => rfl))); (case hd => rfl)) | apply v_seq | apply v_region | apply v_nil | (apply v_pass; (case hg => rfl); (case hn => rfl); (case hd => rfl)) | (apply v_pure; (case hop => first | (apply p_move <;> rfl) | (apply p_ne <;> rfl) | (apply p_assign <;> rfl) | (apply p_pickT <;> rfl) | fail); (case hd => rfl)) | (apply v_condT; (case hc => rfl)) | (apply v_guardB; (case h1 => rfl); (case h2 => rfl); all_goals (intro h; (try simp only [reduceCtorEq, zzz] at h); first | (exfalso; omega) | skip)) | (apply v_callJ (hs := q1); (case ha => rfl); (case hd => rfl)) | fail)
    refine v_ret [] (outsA1 rfl rfl) (by repeat (exact List.nil_sublist _)) ?_
    exact ⟨rfl, Sl.nil⟩
theorem winClone_s {G : GH} {m : Im} {v : Value} (hm : ImV G m v) (hz : StZ m.st) (hco : CoZ m.confs) : Con Tryz.prog 34 #[v] G [] (fun r G' μ' => μ' = [] ∧ ImV G' m r) := by
  obtain ⟨C, cc, A, c, A', c', rfl, hC, hp, hss⟩ := hm
  have hs : StV G m.st (.agg [.int .i64 m.st.schema, .slice A m.st.pairs.length c, .slice A' m.st.sess.length c'].toArray) := ⟨_, _, _, _, rfl, hp, hss⟩
  have hcn := fun G' (hle : GH.le G G') => migClone_s (G := G') (hs.up hle) (by have := hz.2.2.1; omega) (by have := hz.2.2.2; omega)
  have hsz : m.st.pairs.length ≤ 200 ∧ m.st.sess.length ≤ 200 := ⟨by have := hz.2.2.1; omega, by have := hz.2.2.2; omega⟩
  have hcl := hco.1
  have hbig := hco.2
  obtain ⟨C0, cc0, mA, mc, eC, hlc, hcm, hsome, hcp, hc0, hc1, hmv, hwf⟩ := coOpen hC
  cases eC
  simp only [maxLen] at hcm
  obtain ⟨ix, ac, lc, ⟨z, lp, ls⟩⟩ := m
  simp only at *
  (refine v_enter Tryz.func34 rfl Tryz.ntmps34 rfl ?_; intro B _)
  repeat' (first | (apply v_box (d := 1) (zs := [.int .i64 ix, .int .i64 ac, .slice C lc.length cc, .int .i64 z, .slice A lp.length c, .slice A' ls.length c']); (case hx => rfl); (case hz => rfl); (case hd => rfl); intro b1) | (apply v_alloc (d := 2); (case hz => rfl); (case hd => rfl); intro b2) | (apply v_alloc (d := 3); (case hz => rfl); (case hd => rfl); intro b3) | (apply v_read; (case hop => (apply r_loadNo; (case hx => rfl); (case h => repeat (first | exact mhd _ | apply mtl)); (case hd => rfl); (case hn => rfl))); (case hd => rfl)) | apply v_seq | apply v_region | apply v_nil | apply v_block | (apply v_pure; (case hop => first | (apply p_move <;> rfl) | (apply p_lenSlice <;> rfl) | (apply p_fieldAddrB <;> rfl) | fail); (case hd => rfl)) | (apply v_read; (case hop => (apply r_load1; rfl; (apply Cell.own; (case h => (repeat (first | exact mhd _ | apply mtl))); rfl))); (case hd => rfl)) | (apply v_store; (case hp => rfl); (case hx => rfl); (case hc => rfl); (case hsz => rfl); (case h1 => rfl); (case hb => (repeat (exact mhd _))); (case hfit => exact nle rfl); (case hov => (first | ((repeat (first | with_reducible exact ov_nil | apply ov_cons)); done) | rfl)); (case hu => repeat (exact Upd.here _ _))) | fail)
  refine v_loop [11, 10, 9, 3, 1, 2] (fun us G' μ' => GH.le G G' ∧ ∃ (k : Nat) (O : Option Addr) (oc : Nat) (css : List (List Value)) (ν : OH), k ≤ lc.length ∧ us = [Value.int .i64 (k : Int), .int .i64 lc.length, .slice C lc.length cc, .pointer (some ⟨b3, 0, none⟩), .pointer (some ⟨b1, 0, none⟩), .pointer (some ⟨b2, 0, none⟩)] ∧ CoCells G' (lc.take k) css ∧ Grow 61 2 (.slice O k oc) k css.flatten ν ∧ μ' = (b3, .cells [.int .i64 ix, .int .i64 ac, .slice O k oc, .int .i64 z, .slice A lp.length c, .slice A' ls.length c'].toArray 47 (0, 0)) :: (b2, .cells [.int .i64 0, .int .i64 0, .slice none 0 0, .int .i64 0, .slice none 0 0, .slice none 0 0].toArray 47 (0, 0)) :: (b1, .cells [.int .i64 ix, .int .i64 ac, .slice C lc.length cc, .int .i64 z, .slice A lp.length c, .slice A' ls.length c'].toArray 47 (0, 0)) :: ν) (fun us => lc.length - (headI us).toNat) rfl ⟨GH.le_refl _, 0, none, 0, [], [], by omega, rfl, CoCells.nil, Grow.nil _ _, rfl⟩ ?_
  rintro us G' _ ⟨hle, k, O, oc, css, ν, hk, rfl, hcc, hg, rfl⟩
  by_cases hlt : k < lc.length
  · have hlt2 := hbig _ (List.getElem_mem hlt)
    have hA := hsome (by omega)
    have e1 : ((k : Nat) : Int).toNat = k := by omega
    have qc := clone_s ((hmv _ hlt).mono hle) (by omega)
    have hck := (hcp k hlt).le hle
    have hwk := hwf k hlt
    have hmk := hmv k hlt
    have htk := List.take_succ_eq_append_getElem hlt
    clear hcp hc0 hc1 hmv hwf hbig
    generalize lc[k] = x at *
    obtain ⟨xf, xm⟩ := x
    generalize mA k = xA at *
    generalize mc k = xc at *
    simp only at *
    repeat' (first | (apply v_read; (case hop => (apply r_loadN; rfl; exact CellsAt.frozen hck; rfl)); (case hd => rfl)) | (apply v_alloc (d := 5); (case hz => rfl); (case hd => rfl); intro b5) | apply v_seq | apply v_region | apply v_nil | apply v_skip | apply v_block | (apply v_pure; (case hop => first | (apply p_lt <;> rfl) | (apply p_indexAddrS; (case hx => rfl); (case hi => rfl); (case h0 => omega); (case h => omega); (case hA => assumption)) | fail); (case hd => rfl)) | (apply v_cond; (case hc => rfl); all_goals (intro h; (try simp only [reduceCtorEq, zzz] at h); first | (exfalso; omega) | skip)) | (apply v_store; (case hp => rfl); (case hx => rfl); (case hc => rfl); (case hsz => rfl); (case h1 => rfl); (case hb => (repeat (exact mhd _))); (case hfit => exact nle rfl); (case hov => ((repeat (first | with_reducible exact ov_nil | apply ov_cons)); done)); (case hu => repeat (exact Upd.here _ _))) | fail)
    refine d_start [(b5, .cells ([.int .i64 xf, .slice xA xm.length xc]).toArray 61 (0, 0))] (by kernel_rfl) (by kernel_rfl) (by kernel_rfl) (by intro e he; (simp at he; simp [he]; done)) ?_
    all_goals (apply dtk 0; (case hi => rfl); (case hop => (apply prd; apply p_fieldAddrB <;> rfl)); (case hq => kernel_rfl))
    all_goals (apply dtk 2; (case hi => rfl); (case hop => (apply prd; apply p_fieldAddrB <;> rfl)); (case hq => kernel_rfl))
    all_goals (apply dtk 3; (case hi => rfl); (case hop => first | (apply r_loadNo; (case hx => rfl); (case h => (repeat (fail))); (case hd => (repeat (fail))); (case hn => rfl)) | (apply r_load1; rfl; (apply Cell.own; (case h => (repeat (exact mhd _))); rfl)) | (apply r_loadN; rfl; (apply CellsAt.own; (case h => (repeat (fail)))); rfl)); (case hq => kernel_rfl))
    all_goals (apply dtk 4; (case hi => rfl); (case hop => (apply prd; apply p_fieldAddrB <;> rfl)); (case hq => kernel_rfl))
    all_goals (apply dtk 5; (case hi => rfl); (case hop => first | (apply r_loadNo; (case hx => rfl); (case h => (repeat (fail))); (case hd => (repeat (fail))); (case hn => rfl)) | (apply r_load1; rfl; (apply Cell.own; (case h => (repeat (exact mhd _))); rfl)) | (apply r_loadN; rfl; (apply CellsAt.own; (case h => (repeat (fail)))); rfl)); (case hq => kernel_rfl))
    focus
      refine d_fork 1 6 (by kernel_rfl) ?_ ?_
      rotate_right
      focus
        (apply x_call 6 (hs := qc) (μ1 := []); (case hi => rfl);  (case ha => rfl); (case hp => exact List.Perm.refl _); (case hd => rfl); (case hν' => intro e he; simp at he; simp [he]); rintro r1 G1 ν1 - ⟨hG1, hg1⟩; subst G1; obtain ⟨A1, c1, rfl, -, -⟩ := hg1.shape)
        all_goals (apply dtk 7; (case hi => rfl); (case hop => (apply prd; apply p_build; (case hz => rfl); (case hv => (simp only [List.map_cons, List.map_nil]; repeat (first | with_reducible exact evs_nil | (apply evs_cons; (case h1 => rfl))))); (case hb => (apply bldL; repeat (first | exact bld_nil | (apply bld_cons; (case hpf => rfl); (case hc => rfl); (case hs => rfl); (case hl => rfl); (case ho => ((repeat (first | with_reducible exact ov_nil | apply ov_cons)); done)))))))); (case hq => kernel_rfl))
        focus
          refine d_fork 1 8 (by kernel_rfl) ?_ ?_
          rotate_right
          focus
            (apply x_buildSlice 8; (case hi => rfl); (case hT => infer_instance); (case hL => infer_instance); (case hz => rfl); (case hl => rfl); (case hv => (simp only [List.map_cons, List.map_nil]; repeat (first | with_reducible exact evs_nil | (apply evs_cons; (case h1 => rfl))))); (case hp => (apply pk_cons; (case hc => rfl); (case hs => rfl); (case h => (with_reducible exact pk_nil)); (case he => ((repeat (first | with_reducible exact ap_nil | apply ap_cons)); done)))); (case hb => rfl); (case hd => rfl); (case hν => intro e he; (simp at he; simp [he]; done)); intro b7)
            all_goals (apply d_keep 1 (hop := ReadOp.move ?hop); (case hi => rfl); (case hr => kernel_rfl); (case hop => (apply r_load1; rfl; (apply Cell.own; (case h => repeat (first | exact mhd _ | apply mtl | apply List.mem_append_right)); rfl))); (case hd => rfl))
            all_goals (apply d_append 9 (hg := hg) (q' := 1) (us := [.int .i64 xf, .slice A1 xm.length c1]) (hp := PickA.perm (PickA.cons _ (PickA.app _ (PickA.cons _ (PickA.cons _ (PickA.cons _ (PickA.cons _ PickA.last))))))) (hsrc := Src.own (e := 61) (List.Mem.head _) rfl); (case hi => rfl); (case hr => kernel_rfl); (case hT => infer_instance); (case hL => infer_instance); (case hzs => rfl); (case hsz => omega); (case hs => rfl); (case hx => rfl); (case hb => omega); (case hb' => simp only [maxLen]; omega); (case hd => rfl); (case h1 => rfl); (case hν => intro e he; (simp at he; simp [he]; done)); intro v5 n5 g5; obtain ⟨A5, c5, rfl, -, -⟩ := g5.shape)
            all_goals (apply dtk 10; (case hi => rfl); (case hop => (apply prd; apply p_fieldAddrB <;> rfl)); (case hq => kernel_rfl))
            all_goals (apply d_store 11; (case hi => rfl); (case hr => kernel_rfl); (case hL => infer_instance); (case hp => rfl); (case hx => rfl); (case hc => rfl); (case hsz => rfl); (case h1 => rfl); (case hb => (repeat (first | exact mhd _ | apply mtl | apply List.mem_append_right))); (case hfit => exact nle rfl); (case hov => ((repeat (first | with_reducible exact ov_nil | apply ov_cons)); done)); (case hu => repeat (first | exact Upd.here _ _ | apply Upd.there | apply Upd.app)); (case hν' => intro e he; (simp at he; simp [he]; done)))
            all_goals (apply d_done; (case hr => kernel_rfl))
          rotate_right
          focus
            (apply x_exec 1; (case hi => rfl);  (case hop => exact ReadOp.move (r_load1 rfl (Cell.own (by repeat (first | exact mhd _ | apply mtl | apply List.mem_append_right)) rfl))); (case hd => rfl); rintro _ G0 _ ⟨rfl, hG0, rfl⟩; subst G0; refine ⟨(by intro e he; simp at he; simp [he]), ?_⟩)
            all_goals (apply d_buildSlice 8; (case hi => rfl); (case hr => kernel_rfl); (case hT => infer_instance); (case hL => infer_instance); (case hz => rfl); (case hl => rfl); (case hv => (simp only [List.map_cons, List.map_nil]; repeat (first | with_reducible exact evs_nil | (apply evs_cons; (case h1 => rfl))))); (case hp => (apply pk_cons; (case hc => rfl); (case hs => rfl); (case h => (with_reducible exact pk_nil)); (case he => ((repeat (first | with_reducible exact ap_nil | apply ap_cons)); done)))); (case hb => rfl); (case hd => rfl); (case hν => intro e he; (simp at he; simp [he]; done)); intro b7)
            all_goals (apply d_append 9 (hg := hg) (q' := 1) (us := [.int .i64 xf, .slice A1 xm.length c1]) (hp := PickA.perm (PickA.cons _ (PickA.app _ (PickA.cons _ (PickA.cons _ (PickA.cons _ (PickA.cons _ PickA.last))))))) (hsrc := Src.own (e := 61) (List.Mem.head _) rfl); (case hi => rfl); (case hr => kernel_rfl); (case hT => infer_instance); (case hL => infer_instance); (case hzs => rfl); (case hsz => omega); (case hs => rfl); (case hx => rfl); (case hb => omega); (case hb' => simp only [maxLen]; omega); (case hd => rfl); (case h1 => rfl); (case hν => intro e he; (simp at he; simp [he]; done)); intro v5 n5 g5; obtain ⟨A5, c5, rfl, -, -⟩ := g5.shape)
            all_goals (apply dtk 10; (case hi => rfl); (case hop => (apply prd; apply p_fieldAddrB <;> rfl)); (case hq => kernel_rfl))
            all_goals (apply d_store 11; (case hi => rfl); (case hr => kernel_rfl); (case hL => infer_instance); (case hp => rfl); (case hx => rfl); (case hc => rfl); (case hsz => rfl); (case h1 => rfl); (case hb => (repeat (first | exact mhd _ | apply mtl | apply List.mem_append_right))); (case hfit => exact nle rfl); (case hov => ((repeat (first | with_reducible exact ov_nil | apply ov_cons)); done)); (case hu => repeat (first | exact Upd.here _ _ | apply Upd.there | apply Upd.app)); (case hν' => intro e he; (simp at he; simp [he]; done)))
            all_goals (apply d_done; (case hr => kernel_rfl))
      rotate_right
      focus
        (apply x_exec 1; (case hi => rfl);  (case hop => exact ReadOp.move (r_load1 rfl (Cell.own (by repeat (first | exact mhd _ | apply mtl)) rfl))); (case hd => rfl); rintro _ G0 _ ⟨rfl, hG0, rfl⟩; subst G0; refine ⟨(by intro e he; simp at he; simp [he]), ?_⟩)
        all_goals ((apply d_call 6 (hs := qc) (μ1 := []); (case hi => rfl); (case hr => kernel_rfl);  (case ha => rfl); (case hp => exact List.Perm.refl _); (case hd => rfl); (case hν' => intro e he; simp at he; simp [he]); rintro r1 G1 ν1 - ⟨hG1, hg1⟩; subst G1; obtain ⟨A1, c1, rfl, -, -⟩ := hg1.shape))
        all_goals (apply dtk 7; (case hi => rfl); (case hop => (apply prd; apply p_build; (case hz => rfl); (case hv => (simp only [List.map_cons, List.map_nil]; repeat (first | with_reducible exact evs_nil | (apply evs_cons; (case h1 => rfl))))); (case hb => (apply bldL; repeat (first | exact bld_nil | (apply bld_cons; (case hpf => rfl); (case hc => rfl); (case hs => rfl); (case hl => rfl); (case ho => ((repeat (first | with_reducible exact ov_nil | apply ov_cons)); done)))))))); (case hq => kernel_rfl))
        all_goals (apply d_buildSlice 8; (case hi => rfl); (case hr => kernel_rfl); (case hT => infer_instance); (case hL => infer_instance); (case hz => rfl); (case hl => rfl); (case hv => (simp only [List.map_cons, List.map_nil]; repeat (first | with_reducible exact evs_nil | (apply evs_cons; (case h1 => rfl))))); (case hp => (apply pk_cons; (case hc => rfl); (case hs => rfl); (case h => (with_reducible exact pk_nil)); (case he => ((repeat (first | with_reducible exact ap_nil | apply ap_cons)); done)))); (case hb => rfl); (case hd => rfl); (case hν => intro e he; (simp at he; simp [he]; done)); intro b7)
        all_goals (apply d_append 9 (hg := hg) (q' := 1) (us := [.int .i64 xf, .slice A1 xm.length c1]) (hp := PickA.perm (PickA.cons _ (PickA.app _ (PickA.cons _ (PickA.cons _ (PickA.cons _ (PickA.cons _ PickA.last))))))) (hsrc := Src.own (e := 61) (List.Mem.head _) rfl); (case hi => rfl); (case hr => kernel_rfl); (case hT => infer_instance); (case hL => infer_instance); (case hzs => rfl); (case hsz => omega); (case hs => rfl); (case hx => rfl); (case hb => omega); (case hb' => simp only [maxLen]; omega); (case hd => rfl); (case h1 => rfl); (case hν => intro e he; (simp at he; simp [he]; done)); intro v5 n5 g5; obtain ⟨A5, c5, rfl, -, -⟩ := g5.shape)
        all_goals (apply dtk 10; (case hi => rfl); (case hop => (apply prd; apply p_fieldAddrB <;> rfl)); (case hq => kernel_rfl))
        all_goals (apply d_store 11; (case hi => rfl); (case hr => kernel_rfl); (case hL => infer_instance); (case hp => rfl); (case hx => rfl); (case hc => rfl); (case hsz => rfl); (case h1 => rfl); (case hb => (repeat (first | exact mhd _ | apply mtl | apply List.mem_append_right))); (case hfit => exact nle rfl); (case hov => ((repeat (first | with_reducible exact ov_nil | apply ov_cons)); done)); (case hu => repeat (first | exact Upd.here _ _ | apply Upd.there | apply Upd.app)); (case hν' => intro e he; (simp at he; simp [he]; done)))
        all_goals (apply d_done; (case hr => kernel_rfl))
    all_goals repeat' (first | apply v_region | apply v_nil | apply v_blk | (apply v_pure; (case hop => first | (apply p_move <;> rfl) | (apply p_add; (case hx => rfl); (case hy => rfl); (case h => omega)) | fail); (case hd => rfl)) | fail)
    all_goals
      (refine v_freezeP ν1 ((b3, .cells [.int .i64 ix, .int .i64 ac, .slice A5 (k + 1) c5, .int .i64 z, .slice A lp.length c, .slice A' ls.length c'].toArray 47 (0, 0)) :: (b2, .cells [.int .i64 0, .int .i64 0, .slice none 0 0, .int .i64 0, .slice none 0 0, .slice none 0 0].toArray 47 (0, 0)) :: (b1, .cells [.int .i64 ix, .int .i64 ac, .slice C lc.length cc, .int .i64 z, .slice A lp.length c, .slice A' ls.length c'].toArray 47 (0, 0)) :: n5) [(b7, _), (b5, _)] (by apply perm_of_count; intro p; simp only [List.append_eq, List.countP_append, List.countP_cons, List.countP_nil, Nat.zero_add, Nat.add_zero]; try ac_rfl) ?_
       intro G1 hle1 hG1
       refine v_again rfl ⟨GH.le_trans hle hle1, k + 1, A5, c5, css ++ [[.int .i64 xf, .slice A1 xm.length c1]], n5, by omega, rfl, ?_, ?_, rfl⟩ (by simp [headI]; omega)
       · rw [htk]
         obtain ⟨_, _, _, _, _, _, _, hw⟩ := hmk.openInt
         exact (hcc.le hle1).push rfl ⟨_, rfl, hwk, hg1.ints hG1 hw⟩
       · simpa using g5)
  · obtain rfl : k = lc.length := by omega
    rw [List.take_length] at hcc
    have hcn := hcn G' hle
    repeat' (first | (apply v_read; (case hop => (apply r_loadNo; (case hx => rfl); (case h => repeat (first | exact mhd _ | apply mtl)); (case hd => rfl); (case hn => rfl))); (case hd => rfl)) | apply v_seq | apply v_region | apply v_nil | (apply v_exit; (case hp => rfl)) | (apply v_pure; (case hop => first | (apply p_lt <;> rfl) | (apply p_fieldAddrB <;> rfl) | fail); (case hd => rfl)) | (apply v_cond; (case hc => rfl); all_goals (intro h; (try simp only [reduceCtorEq, zzz] at h); first | (exfalso; omega) | skip)) | fail)
    refine v_call (μ1 := []) rfl hcn (List.Perm.refl _) rfl ?_
    rintro _ G2 ν2 - ⟨hG2, bp, bs, rfl, rfl⟩
    subst hG2
    refine v_frz [(bs, .cells (rowC Ss.cells ls).toArray 146 (0, 0)), (bp, .cells (rowC Pr.cells lp).toArray 144 (0, 0))] (PickA.here _) ?_
    intro G3 hle3 hG3
    have hs3 : StV G3 ⟨z, lp, ls⟩ _ := StV.made (s := ⟨z, lp, ls⟩) (bp := bp) (bs := bs) hsz.1 hsz.2 (hG3 _ _ (by (repeat (first | exact mhd _ | apply mtl)))) (hG3 _ _ (by (repeat (exact mhd _))))
    repeat' (first | (apply v_read; (case hop => (apply r_loadNo; (case hx => rfl); (case h => repeat (exact mhd _)); (case hd => rfl); (case hn => rfl))); (case hd => rfl)) | apply v_seq | apply v_region | apply v_nil | (apply v_pure; (case hop => (apply p_fieldAddrB <;> rfl)); (case hd => rfl)) | (apply v_store; (case hp => rfl); (case hx => rfl); (case hc => rfl); (case hsz => rfl); (case h1 => rfl); (case hb => (repeat (first | exact mhd _ | apply mtl))); (case hfit => exact nle rfl); (case hov => (first | ((repeat (first | with_reducible exact ov_nil | apply ov_cons)); done) | rfl)); (case hu => repeat (first | exact Upd.here _ _ | apply Upd.there))) | fail)
    refine v_frz ν (PickA.cons _ (PickA.cons _ (PickA.cons _ PickA.last))) ?_
    intro G4 hle4 hG4
    have hs4 := hs3.up hle4
    have hC4 := hcc.grow hg (GH.le_trans hle3 hle4) hG4
    refine v_retM [] (outsM_cell (sz := 6) (vs := [.int .i64 ix, .int .i64 ac, .slice O lc.length oc, .int .i64 z, .slice (some ⟨bp, 0, none⟩) lp.length lp.length, .slice (some ⟨bs, 0, none⟩) ls.length ls.length]) (e := 47) rfl rfl (by repeat (first | exact mhd _ | apply mtl)) rfl) (List.nil_sublist _) ⟨rfl, ?_⟩
    exact ImV.mk' hC4 hs4
theorem Cos.made1 {G : GH} {x : Int} {l : List Int} {A : Option Addr} {c b : Nat} (hx : (Lit.int .i64 x).wf = true) (hl : Sl G 1 (IntR .i64) (.slice A l.length c) l) (hb : G b = some (.cells [Value.int .i64 x, .slice A l.length c].toArray 61 (0, 0))) : Cos G (.slice (some ⟨b, 0, none⟩) 1 1) [(x, l)] := by
  have h0 : CoCells G [(x, l)] [[Value.int .i64 x, .slice A l.length c]] := CoCells.push (l := []) (css := []) CoCells.nil rfl ⟨_, rfl, hx, hl⟩
  refine h0.grow (ν := [(b, .cells [Value.int .i64 x, .slice A l.length c].toArray 61 (0, 0))]) ⟨rfl, .inr ⟨b, 1, [], rfl, rfl, by simp, by simp [maxLen], rfl⟩⟩ (GH.le_refl _) (fun b' o h => ?_)
  simp only [List.mem_singleton] at h
  cases h
  exact hb
noncomputable def firstI (l : List Int) : Im := if ConfOK [(1, l)] then ⟨0, 0, [(1, l)], emp⟩ else zeroIm
theorem ImV.zero (G : GH) : ImV G zeroIm (.agg [.int .i64 0, .int .i64 0, .slice none 0 0, .int .i64 0, .slice none 0 0, .slice none 0 0].toArray) := ImV.mk' Sl.nil (StV.zero G)
theorem winFirst_s {G : GH} {l : List Int} {v : Value} (hs : Sl G 1 (IntR .i64) v l) (hl : l.length ≤ 1000) :
    Con Tryz.prog 29 #[v] G [] (fun r G' μ' => μ' = [] ∧ ∃ v', r = .tuple [v', .int .i64 (if ConfOK [(1, l)] then 0 else 3)].toArray ∧ ImV G' (firstI l) v') := by
  have qc := clone_s hs (by omega)
  obtain ⟨_, _, _, _, _, _, _, hw⟩ := hs.openInt
  have hfi : firstI l = if ConfOK [(1, l)] then ⟨0, 0, [(1, l)], emp⟩ else zeroIm := rfl
  rw [hfi]
  clear hfi
  (refine v_enter Tryz.func29 rfl Tryz.ntmps29 rfl ?_; intro B _)
  repeat' (first | (apply v_alloc (d := 2); (case hz => rfl); (case hd => rfl); intro b2) | apply v_seq | apply v_region | apply v_nil | (apply v_pure; (case hop => first | (apply p_move <;> rfl) | (apply p_assign <;> rfl) | fail); (case hd => rfl)) | fail)
  refine v_call (μ1 := []) rfl qc (List.Perm.refl _) rfl ?_
  rintro r1 G1 ν1 - ⟨hG1, hg1⟩
  subst hG1
  obtain ⟨A1, c1, rfl, -, -⟩ := hg1.shape
  refine v_frz ν1 (PickA.here _) ?_
  intro G2 hle2 hG2
  have hl2 := hg1.ints hG2 hw
  repeat' (first | (apply v_buildSlice; (case hz => rfl); (case hi => rfl); (case hv => (simp only [List.map_cons, List.map_nil]; repeat (first | with_reducible exact evs_nil | (apply evs_cons; (case h1 => rfl))))); (case hp => (apply pk_cons; (case hc => rfl); (case hs => rfl); (case h => (with_reducible exact pk_nil)); (case he => ((repeat (first | with_reducible exact ap_nil | apply ap_cons)); done)))); (case hb => rfl); (case hd => rfl); intro b9) | apply v_seq | apply v_region | apply v_nil | (apply v_pure; (case hop => first | (apply p_move <;> rfl) | (apply p_assign <;> rfl) | (apply p_build; (case hz => rfl); (case hv => (simp only [List.map_cons, List.map_nil]; repeat (first | with_reducible exact evs_nil | (apply evs_cons; (case h1 => rfl))))); (case hb => (apply bldL; repeat (first | exact bld_nil | (apply bld_cons; (case hpf => rfl); (case hc => rfl); (case hs => rfl); (case hl => rfl); (case ho => ((repeat (first | with_reducible exact ov_nil | apply ov_cons)); done))))))) | fail); (case hd => rfl)) | fail)
  refine v_frz [(b9, .cells [Value.int .i64 1, .slice A1 l.length c1].toArray 61 (0, 0))] (PickA.here _) ?_
  intro G3 hle3 hG3
  have hC := Cos.made1 (x := 1) (WalkArith.wf_i64 (by decide)) (hl2.mono hle3) (hG3 _ _ (by (repeat (exact mhd _))))
  have qk := check_s hC
  by_cases hok : ConfOK [(1, l)]
  · rw [if_pos hok] at qk
    rw [if_pos hok, if_pos hok]
    have qe := empty_s G3
    repeat' (first | apply v_seq | apply v_region | apply v_nil | apply v_skip | (apply v_pure; (case hop => first | (apply p_move <;> rfl) | (apply p_nes <;> rfl) | (apply p_assign <;> rfl) | (apply p_build; (case hz => rfl); (case hv => (simp only [List.map_cons, List.map_nil]; repeat (first | with_reducible exact evs_nil | (apply evs_cons; (case h1 => rfl))))); (case hb => (apply bldL; repeat (first | exact bld_nil | (apply bld_cons; (case hpf => rfl); (case hc => rfl); (case hs => rfl); (case hl => rfl); (case ho => ((repeat (first | with_reducible exact ov_nil | apply ov_cons)); done))))))) | fail); (case hd => rfl)) | (apply v_condF; (case hc => rfl)) | (apply v_callJ (hs := qk); (case ha => rfl); (case hd => rfl)) | (apply v_callJ (hs := qe); (case ha => rfl); (case hd => rfl)) | (apply v_store; (case hp => rfl); (case hx => rfl); (case hc => rfl); (case hsz => rfl); (case h1 => rfl); (case hb => (repeat (exact mhd _))); (case hfit => exact nle rfl); (case hov => ((repeat (first | with_reducible exact ov_nil | apply ov_cons)); done)); (case hu => repeat (exact Upd.here _ _))) | fail)
    refine v_retM [] (outsM_cell_tmp (sz := 6) (vs := [.int .i64 0, .int .i64 0, .slice (some ⟨b9, 0, none⟩) 1 1, .int .i64 1, .slice none 0 0, .slice none 0 0]) (e := 47) rfl rfl rfl (by repeat (exact mhd _)) rfl) (List.nil_sublist _) ⟨rfl, _, rfl, ?_⟩
    exact ImV.mk' (l := [(1, l)]) hC (emp_v G3)
  · rw [if_neg hok] at qk
    rw [if_neg hok, if_neg hok]
    repeat' (first | apply v_seq | apply v_region | apply v_nil | (apply v_pure; (case hop => first | (apply p_move <;> rfl) | (apply p_ne <;> rfl) | (apply p_assign <;> rfl) | (apply p_build; (case hz => rfl); (case hv => (simp only [List.map_cons, List.map_nil]; repeat (with_reducible exact evs_nil))); (case hb => (apply bldL; repeat (exact bld_nil)))) | fail); (case hd => rfl)) | (apply v_cond; (case hc => rfl); all_goals (intro h; (try simp only [reduceCtorEq, zzz] at h); first | (exfalso; omega) | skip)) | (apply v_callJ (hs := qk); (case ha => rfl); (case hd => rfl)) | (apply v_store; (case hp => rfl); (case hx => rfl); (case hc => rfl); (case hsz => rfl); (case h1 => rfl); (case hb => (repeat (exact mhd _))); (case hfit => exact nle rfl); (case hov => ((repeat (first | with_reducible exact ov_nil | apply ov_cons)); done)); (case hu => repeat (exact Upd.here _ _))) | fail)
    refine v_retM [] (outsM_cell_tmp (sz := 6) (vs := [.int .i64 0, .int .i64 0, .slice none 0 0, .int .i64 0, .slice none 0 0, .slice none 0 0]) (e := 47) rfl rfl rfl (by repeat (exact mhd _)) rfl) (List.nil_sublist _) ⟨rfl, _, rfl, ?_⟩
    exact ImV.zero G3
abbrev boxI (b : Nat) (ix ac : Int) (C : Value) (z : Int) (P S : Value) : Nat × Obj := (b, .cells [.int .i64 ix, .int .i64 ac, C, .int .i64 z, P, S].toArray 151 (0, 0))
theorem imOther_s {G : GH} {b : Nat} {ix ac z : Int} {C P S : Value} (c : Cm) : Con Tryz.prog 149 #[.pointer (some ⟨b, 0, none⟩), .agg c.cells.toArray] G [boxI b ix ac C z P S] (fun _ G' μ' => G' = G ∧ μ' = [boxI b ix ac C z P S]) := by
  obtain ⟨kind, cl, seq, key, val, old, node⟩ := c
  (refine v_enter Tryz.func149 rfl Tryz.ntmps149 rfl ?_; intro B _)
  repeat' (first | (apply v_box (d := 3) (zs := Cm.cells ⟨kind, cl, seq, key, val, old, node⟩); (case hx => rfl); (case hz => rfl); (case hd => rfl); intro b3) | apply v_region | apply v_nil)
  refine v_end [boxI b ix ac C z P S] (outsA0 rfl) (by repeat (first | exact List.Sublist.refl _ | apply List.Sublist.cons)) ?_
  exact ⟨rfl, rfl⟩
theorem imActivate_s {G : GH} {b : Nat} {ix ac z : Int} {C P S : Value} (c : Cm) : Con Tryz.prog 148 #[.pointer (some ⟨b, 0, none⟩), .agg c.cells.toArray] G [boxI b ix ac C z P S] (fun _ G' μ' => G' = G ∧ μ' = [boxI b ix (if ac = 0 then ix else ac) C z P S]) := by
  obtain ⟨kind, cl, seq, key, val, old, node⟩ := c
  (refine v_enter Tryz.func148 rfl Tryz.ntmps148 rfl ?_; intro B _)
  repeat' (first | (apply v_box (d := 3) (zs := Cm.cells ⟨kind, cl, seq, key, val, old, node⟩); (case hx => rfl); (case hz => rfl); (case hd => rfl); intro b3) | apply v_seq | apply v_region | apply v_nil | apply v_skip | (apply v_pure; (case hop => first | (apply p_move <;> rfl) | (apply p_eq <;> rfl) | (apply p_fieldAddrB <;> rfl) | (apply p_nilCheck <;> rfl) | fail); (case hd => rfl)) | (apply v_cond; (case hc => rfl); all_goals (intro h; (try simp only [reduceCtorEq, zzz] at h))) | (apply v_read; (case hop => (apply r_load1; rfl; (apply Cell.own; (case h => (repeat (first | exact mhd _ | apply mtl))); rfl))); (case hd => rfl)) | (apply v_store; (case hp => rfl); (case hx => rfl); (case hc => rfl); (case hsz => rfl); (case h1 => rfl); (case hb => (repeat (first | exact mhd _ | apply mtl))); (case hfit => exact nle rfl); (case hov => ((repeat (first | with_reducible exact ov_nil | apply ov_cons)); done)); (case hu => repeat (first | exact Upd.here _ _ | apply Upd.there))) | fail)
  · have h0 : ac = 0 := by assumption
    rw [if_pos h0]
    refine v_end [boxI b ix ix C z P S] (outsA0 rfl) (by repeat (first | exact List.Sublist.refl _ | apply List.Sublist.cons)) ?_
    exact ⟨rfl, rfl⟩
  · have h0 : ¬ ac = 0 := by assumption
    rw [if_neg h0]
    refine v_end [boxI b ix ac C z P S] (outsA0 rfl) (by repeat (first | exact List.Sublist.refl _ | apply List.Sublist.cons)) ?_
    exact ⟨rfl, rfl⟩
theorem imMember_s {G : GH} {b : Nat} {ix ac z : Int} {C P S : Value} {l : List Co} (c : Cm) (hC : Cos G C l) (hl : l.length ≤ 1000) (hbig : ∀ c ∈ l, c.2.length ≤ 1048000) (hn : (Lit.int .i64 c.node).wf = true) :
    Con Tryz.prog 147 #[.pointer (some ⟨b, 0, none⟩), .agg c.cells.toArray] G [boxI b ix ac C z P S]
      (fun _ G' μ' => ∃ C', Cos G' C' (if (changeR l ix c.kind c.node).2 = 0 then changeL l ix c.kind c.node else l) ∧ μ' = [boxI b ix ac C' z P S]) := by
  obtain ⟨kind, cl, seq, key, val, old, node⟩ := c
  have q := change_s ix kind node hC hl hbig hn
  have h1 := fun h => changeR_one (l := l) (x := ix) (k := kind) (n := node) h
  obtain ⟨A, cc, rfl, -⟩ := id hC.open
  simp only at *
  generalize changeR l ix kind node = cr at *
  obtain ⟨cl', ce⟩ := cr
  simp only at *
  (refine v_enter Tryz.func147 rfl Tryz.ntmps147 rfl ?_; intro B _)
  repeat' (first | (apply v_box (d := 3) (zs := Cm.cells ⟨kind, cl, seq, key, val, old, node⟩); (case hx => rfl); (case hz => rfl); (case hd => rfl); intro b3) | apply v_seq | apply v_region | apply v_nil)
  refine d_start [boxI b ix ac (.slice A l.length cc) z P S, (b3, .cells (Cm.cells ⟨kind, cl, seq, key, val, old, node⟩).toArray 28 (0, 0))] (by kernel_rfl) (by kernel_rfl) (by kernel_rfl) (by intro e he; (simp only [List.mem_cons, List.not_mem_nil, or_false] at he; rcases he with rfl | rfl <;> simp; done)) ?_
  all_goals (apply dtk 0; (case hi => rfl); (case hop => (apply prd; apply p_move <;> rfl)); (case hq => kernel_rfl))
  all_goals (apply dtk 1; (case hi => rfl); (case hop => (apply prd; apply p_nilCheck <;> rfl)); (case hq => kernel_rfl))
  all_goals (apply dtk 2; (case hi => rfl); (case hop => (apply prd; apply p_fieldAddrB <;> rfl)); (case hq => kernel_rfl))
  all_goals (apply dtk 3; (case hi => rfl); (case hop => (apply prd; apply p_fieldAddrB <;> rfl)); (case hq => kernel_rfl))
  all_goals (apply dtk 4; (case hi => rfl); (case hop => first | (apply r_loadNo; (case hx => rfl); (case h => (repeat (fail))); (case hd => (repeat (fail))); (case hn => rfl)) | (apply r_load1; rfl; (apply Cell.own; (case h => (repeat (exact mhd _))); rfl)) | (apply r_loadN; rfl; (apply CellsAt.own; (case h => (repeat (fail)))); rfl)); (case hq => kernel_rfl))
  all_goals (apply dtk 5; (case hi => rfl); (case hop => (apply prd; apply p_move <;> rfl)); (case hq => kernel_rfl))
  all_goals (apply dtk 6; (case hi => rfl); (case hop => (apply prd; apply p_nilCheck <;> rfl)); (case hq => kernel_rfl))
  all_goals (apply dtk 7; (case hi => rfl); (case hop => (apply prd; apply p_fieldAddrB <;> rfl)); (case hq => kernel_rfl))
  all_goals (apply dtk 8; (case hi => rfl); (case hop => (apply prd; apply p_fieldAddrB <;> rfl)); (case hq => kernel_rfl))
  all_goals (apply dtk 9; (case hi => rfl); (case hop => first | (apply r_loadNo; (case hx => rfl); (case h => (repeat (fail))); (case hd => (repeat (fail))); (case hn => rfl)) | (apply r_load1; rfl; (apply Cell.own; (case h => (repeat (exact mhd _))); rfl)) | (apply r_loadN; rfl; (apply CellsAt.own; (case h => (repeat (fail)))); rfl)); (case hq => kernel_rfl))
  all_goals (apply dtk 10; (case hi => rfl); (case hop => (apply prd; apply p_fieldAddrB <;> rfl)); (case hq => kernel_rfl))
  all_goals (apply dtk 11; (case hi => rfl); (case hop => first | (apply r_loadNo; (case hx => rfl); (case h => (repeat (fail))); (case hd => (repeat (fail))); (case hn => rfl)) | (apply r_load1; rfl; (apply Cell.own; (case h => (repeat (first | exact mhd _ | apply mtl))); rfl)) | (apply r_loadN; rfl; (apply CellsAt.own; (case h => (repeat (fail)))); rfl)); (case hq => kernel_rfl))
  all_goals (apply dtk 12; (case hi => rfl); (case hop => (apply prd; apply p_fieldAddrB <;> rfl)); (case hq => kernel_rfl))
  all_goals (apply dtk 13; (case hi => rfl); (case hop => first | (apply r_loadNo; (case hx => rfl); (case h => (repeat (fail))); (case hd => (repeat (fail))); (case hn => rfl)) | (apply r_load1; rfl; (apply Cell.own; (case h => (repeat (first | exact mhd _ | apply mtl))); rfl)) | (apply r_loadN; rfl; (apply CellsAt.own; (case h => (repeat (fail)))); rfl)); (case hq => kernel_rfl))
  all_goals ((apply d_call 14 (hs := q) (μ1 := []); (case hi => rfl); (case hr => kernel_rfl);  (case ha => rfl); (case hp => exact List.Perm.refl _); (case hd => rfl); (case hν' => intro e he; simp at he; simp; rcases he with rfl | rfl <;> simp); rintro r1 G1 ν1 hle1 ⟨rfl, v1, rfl, hv1⟩))
  all_goals (apply dtk 15; (case hi => rfl); (case hop => (apply prd; apply p_move <;> rfl)); (case hq => kernel_rfl))
  all_goals (apply dtk 16; (case hi => rfl); (case hop => (apply prd; apply p_extract0 <;> rfl)); (case hq => kernel_rfl))
  all_goals (apply dtk 17; (case hi => rfl); (case hop => (apply prd; apply p_extract1 <;> rfl)); (case hq => kernel_rfl))
  all_goals (apply dtk 18; (case hi => rfl); (case hop => (apply prd; apply p_assign <;> rfl)); (case hq => kernel_rfl))
  all_goals (apply dtk 19; (case hi => rfl); (case hop => (apply prd; apply p_assign <;> rfl)); (case hq => kernel_rfl))
  all_goals (apply d_done; (case hr => kernel_rfl))
  repeat' (first | apply v_seq | apply v_region | apply v_nil | apply v_skip | (apply v_pure; (case hop => first | (apply p_move <;> rfl) | (apply p_eq <;> rfl) | (apply p_fieldAddrB <;> rfl) | (apply p_nilCheck <;> rfl) | fail); (case hd => rfl)) | (apply v_cond; (case hc => rfl); all_goals (intro h; (try simp only [reduceCtorEq, zzz] at h))) | fail)
  · obtain ⟨A1, c1, rfl, -⟩ := id hv1.open
    have h0 : ce = 0 := by assumption
    rw [if_pos h0, ← h1 h0]
    repeat' (first | apply v_nil | (apply v_store; (case hp => rfl); (case hx => rfl); (case hc => rfl); (case hsz => rfl); (case h1 => rfl); (case hb => (repeat (first | exact mhd _ | apply mtl))); (case hfit => exact nle rfl); (case hov => ((repeat (first | with_reducible exact ov_nil | apply ov_cons)); done)); (case hu => repeat (first | exact Upd.here _ _ | apply Upd.there))) | fail)
    refine v_end [boxI b ix ac _ z P S] (outsA0 rfl) (by repeat (first | exact List.Sublist.refl _ | apply List.Sublist.cons)) ?_
    exact ⟨_, hv1, rfl⟩
  · rw [if_neg (by assumption)]
    refine v_end [boxI b ix ac (.slice A l.length cc) z P S] (outsA0 rfl) (by repeat (first | exact List.Sublist.refl _ | apply List.Sublist.cons)) ?_
    exact ⟨_, hC.le hle1, rfl⟩
noncomputable def doesF (kind : Int) : Nat := if kind = 7 ∨ kind = 8 then 147 else if kind = 6 then 148 else 149
theorem imDoes_s {G : GH} {b : Nat} (kind : Int) : Con Tryz.prog 83 #[.pointer (some ⟨b, 0, none⟩), .int .i64 kind] G [] (Just (.func (.func (doesF kind)) #[.pointer (some ⟨b, 0, none⟩)] #[]) G) := by
  apply Con.just
  unfold doesF
  (refine v_enter Tryz.func83 rfl Tryz.ntmps83 rfl ?_; intro B _)
  by_cases h7 : kind = 7
  · repeat' (first | apply v_seq | apply v_region | apply v_nil | apply v_skip | apply v_block | (apply v_pure; (case hop => first | (apply p_move <;> rfl) | (apply p_eq <;> rfl) | (apply p_assign <;> rfl) | (apply p_makeFunc <;> rfl) | fail); (case hd => rfl)) | (apply v_cond; (case hc => rfl); all_goals (intro h; (try simp only [reduceCtorEq, zzz] at h); first | (exfalso; omega) | skip)) | fail)
    refine v_ret [] (outsA1 rfl rfl) (by repeat (exact List.Sublist.refl _)) ?_
    rw [if_pos (.inl h7)]
    exact ⟨rfl, rfl⟩
  · by_cases h8 : kind = 8
    · repeat' (first | apply v_seq | apply v_region | apply v_nil | apply v_block | (apply v_pure; (case hop => first | (apply p_move <;> rfl) | (apply p_eq <;> rfl) | (apply p_assign <;> rfl) | (apply p_makeFunc <;> rfl) | fail); (case hd => rfl)) | (apply v_cond; (case hc => rfl); all_goals (intro h; (try simp only [reduceCtorEq, zzz] at h); first | (exfalso; omega) | skip)) | fail)
      refine v_ret [] (outsA1 rfl rfl) (by repeat (exact List.Sublist.refl _)) ?_
      rw [if_pos (.inr h8)]
      exact ⟨rfl, rfl⟩
    · by_cases h6 : kind = 6
      · repeat' (first | apply v_seq | apply v_region | apply v_nil | apply v_block | (apply v_pure; (case hop => first | (apply p_move <;> rfl) | (apply p_eq <;> rfl) | (apply p_assign <;> rfl) | (apply p_makeFunc <;> rfl) | fail); (case hd => rfl)) | (apply v_cond; (case hc => rfl); all_goals (intro h; (try simp only [reduceCtorEq, zzz] at h); first | (exfalso; omega) | skip)) | fail)
        refine v_ret [] (outsA1 rfl rfl) (by repeat (exact List.Sublist.refl _)) ?_
        rw [if_neg (by omega), if_pos h6]
        exact ⟨rfl, rfl⟩
      · repeat' (first | apply v_seq | apply v_region | apply v_nil | apply v_skip | apply v_block | apply v_blk | (apply v_pure; (case hop => first | (apply p_move <;> rfl) | (apply p_eq <;> rfl) | (apply p_assign <;> rfl) | (apply p_makeFunc <;> rfl) | fail); (case hd => rfl)) | (apply v_cond; (case hc => rfl); all_goals (intro h; (try simp only [reduceCtorEq, zzz] at h); first | (exfalso; omega) | skip)) | fail)
        refine v_ret [] (outsA1 rfl rfl) (by repeat (exact List.Sublist.refl _)) ?_
        rw [if_neg (by omega), if_neg h6]
        exact ⟨rfl, rfl⟩
theorem winNone_s (G : GH) (e : Int) : Con Tryz.prog 81 #[.int .i64 e] G [] (Just (.tuple [.agg [.int .i64 0, .int .i64 0, .slice none 0 0, .int .i64 0, .slice none 0 0, .slice none 0 0].toArray, .agg zA.cells.toArray, .int .i64 e].toArray) G) := by
  apply Con.just
  (refine v_enter Tryz.func81 rfl Tryz.ntmps81 rfl ?_; intro B _)
  repeat' (first | (apply v_alloc (d := 2); (case hz => rfl); (case hd => rfl); intro b2) | (apply v_alloc (d := 3); (case hz => rfl); (case hd => rfl); intro b3) | apply v_seq | apply v_region | apply v_nil | (apply v_pure; (case hop => first | (apply p_move <;> rfl) | (apply p_assign <;> rfl) | (apply p_build; (case hz => rfl); (case hv => (simp only [List.map_cons, List.map_nil]; repeat (with_reducible exact evs_nil))); (case hb => (apply bldL; repeat (exact bld_nil))))); (case hd => rfl)) | (apply v_store; (case hp => rfl); (case hx => rfl); (case hc => rfl); (case hsz => rfl); (case h1 => rfl); (case hb => (repeat (first | exact mhd _ | apply mtl))); (case hfit => exact nle rfl); (case hov => ((repeat (first | with_reducible exact ov_nil | apply ov_cons)); done)); (case hu => repeat (first | exact Upd.here _ _ | apply Upd.there))) | fail)
  refine v_retM [] (outsM_cct (sz0 := 6) (vs0 := [.int .i64 0, .int .i64 0, .slice none 0 0, .int .i64 0, .slice none 0 0, .slice none 0 0]) (e0 := 47) (sz1 := 6) (vs1 := zA.cells) (e1 := 40) rfl rfl (by repeat (first | exact mhd _ | apply mtl)) rfl rfl (by repeat (exact mhd _)) rfl rfl) (List.nil_sublist _) ⟨rfl, rfl⟩
noncomputable instance (kind : Int) : Callable Tryz.prog (doesF kind) := by
  unfold doesF
  split
  · exact callable_of Tryz.func147 (by kernel_rfl) (by kernel_rfl)
  · split
    · exact callable_of Tryz.func148 (by kernel_rfl) (by kernel_rfl)
    · exact callable_of Tryz.func149 (by kernel_rfl) (by kernel_rfl)
theorem imDo_s {G : GH} {b : Nat} {ix ac z : Int} {C P S : Value} {l : List Co} (c : Cm) (hC : Cos G C l) (hl : l.length ≤ 1000) (hbig : ∀ c ∈ l, c.2.length ≤ 1048000) (hn : (Lit.int .i64 c.node).wf = true) :
    Con Tryz.prog (doesF c.kind) #[.pointer (some ⟨b, 0, none⟩), .agg c.cells.toArray] G [boxI b ix ac C z P S]
      (fun _ G' μ' => ∃ C', Cos G' C' (if (c.kind = 7 ∨ c.kind = 8) ∧ (changeR l ix c.kind c.node).2 = 0 then changeL l ix c.kind c.node else l) ∧ μ' = [boxI b ix (if c.kind = 6 ∧ ac = 0 then ix else ac) C' z P S]) := by
  unfold doesF
  by_cases h7 : c.kind = 7 ∨ c.kind = 8
  · rw [if_pos h7]
    refine (imMember_s c hC hl hbig hn).mono fun r G' μ' h => ?_
    obtain ⟨C', h1, h2⟩ := h
    refine ⟨C', ?_, ?_⟩
    · by_cases h0 : (changeR l ix c.kind c.node).2 = 0
      · rw [if_pos h0] at h1; rw [if_pos ⟨h7, h0⟩]; exact h1
      · rw [if_neg h0] at h1; rw [if_neg (fun h => h0 h.2)]; exact h1
    · rw [if_neg (fun h => by omega)]; exact h2
  · rw [if_neg h7]
    by_cases h6 : c.kind = 6
    · rw [if_pos h6]
      refine (imActivate_s c).mono fun r G' μ' h => ?_
      obtain ⟨rfl, h2⟩ := h
      refine ⟨C, by rw [if_neg (fun h => h7 h.1)]; exact hC, ?_⟩
      by_cases h0 : ac = 0
      · rw [if_pos h0] at h2; rw [if_pos ⟨h6, h0⟩]; exact h2
      · rw [if_neg h0] at h2; rw [if_neg (fun h => h0 h.2)]; exact h2
    · rw [if_neg h6]
      refine (imOther_s c).mono fun r G' μ' h => ?_
      obtain ⟨rfl, h2⟩ := h
      exact ⟨C, by rw [if_neg (fun h => h7 h.1)]; exact hC, by rw [if_neg (fun h => h6 h.1)]; exact h2⟩
theorem winApply_s {G : GH} (hT : TabsG G) {m : Im} {v : Value} (hm : ImV G m v) (hz : StZ m.st) (hco : CoZ m.confs) (c : Cm) (hc : c.ok) (hcw : CmW c) :
    Con Tryz.prog 28 #[v, .agg c.cells.toArray] G [] (fun r G' μ' => μ' = [] ∧ ∃ v', r = .tuple [v', .agg (winS m c).2.1.cells.toArray, .int .i64 (winS m c).2.2].toArray ∧ ImV G' (winS m c).1 v') := by
  have q1 := winCheck_s hT hm hz
  have q2 := cmdCheck_s hT c hc
  have q3 := fun G' (h : GH.le G G') => winClone_s (hm.up h) hz hco
  have q4 := fun G' (hT : TabsG G') v' (hs : StV G' m.st v') (hok : StP m.st) => apply_s hT c hs hz hok hc hcw
  have hst : winS m c = if ¬ ImP m then (zeroIm, zA, 3) else if 4294967292 ≤ m.index then (zeroIm, zA, 11) else if cmdI c ≠ 0 then (zeroIm, zA, cmdI c) else (nextI m c, (applyS m.st c).2.1, 0) := rfl
  have hnx : nextI m c = ⟨m.index + 1, activeI m c, trimL (confsI m c) (m.index + 2), (applyS m.st c).1⟩ := rfl
  have hcI : confsI m c = if (c.kind = 7 ∨ c.kind = 8) ∧ (changeR m.confs (m.index + 1) c.kind c.node).2 = 0 then changeL m.confs (m.index + 1) c.kind c.node else m.confs := rfl
  have haI : activeI m c = if c.kind = 6 ∧ m.active = 0 then m.index + 1 else m.active := rfl
  have hcok := fun (h : ImP m) (h2 : m.index < 4294967292) => confsI_ok (c := c) h h2
  have hclen := confsI_len (m := m) (c := c)
  have hi0 : ImP m → 0 ≤ m.index := fun h => h.1.1
  have hstp : ImP m → StP m.st := fun h => h.2.2.1
  have hcz := hco.1
  have hcb := hco.one
  have hnode : (Lit.int .i64 c.node).wf = true := hc.2.2.2.2.2.2
  have q6 := fun G' (b : Nat) (x a z : Int) (C P S : Value) (hC : Cos G' C m.confs) => imDo_s (b := b) (ix := x) (ac := a) (z := z) (P := P) (S := S) c hC (by omega) hcb hnode
  have q5 := fun G' (b : Nat) => imDoes_s (G := G') (b := b) c.kind
  obtain ⟨C, cc, A, d, A', d', rfl, hC, hp, hss⟩ := id hm
  rw [hst]
  clear hst
  obtain ⟨kind, cl, seq, key, val, old, node⟩ := c
  generalize cmdI ⟨kind, cl, seq, key, val, old, node⟩ = ci at *
  generalize activeI m ⟨kind, cl, seq, key, val, old, node⟩ = aI at *
  generalize confsI m ⟨kind, cl, seq, key, val, old, node⟩ = cI at *
  generalize applyS m.st ⟨kind, cl, seq, key, val, old, node⟩ = ap at *
  generalize nextI m ⟨kind, cl, seq, key, val, old, node⟩ = nI at *
  by_cases hP : ImP m
  · rw [if_pos hP] at q1
    rw [if_neg (fun h => h hP)]
    have hi0 := hi0 hP
    have hstp := hstp hP
    have hcok := hcok hP
    clear hP
    obtain ⟨ix, ac, lc, ⟨z, lp, ls⟩⟩ := m
    simp only at *
    by_cases hfull : 4294967292 ≤ ix
    · rw [if_pos hfull]
      (refine v_enter Tryz.func28 rfl Tryz.ntmps28 rfl ?_; intro B _)
      repeat' (first | (apply v_box (d := 2) (zs := [.int .i64 ix, .int .i64 ac, .slice C lc.length cc, .int .i64 z, .slice A lp.length d, .slice A' ls.length d']); (case hx => rfl); (case hz => rfl); (case hd => rfl); intro b2) | (apply v_box (d := 3) (zs := Cm.cells ⟨kind, cl, seq, key, val, old, node⟩); (case hx => rfl); (case hz => rfl); (case hd => rfl); intro b3) | (apply v_alloc (d := 4); (case hz => rfl); (case hd => rfl); intro b4) | (apply v_alloc (d := 5); (case hz => rfl); (case hd => rfl); intro b5) | (apply v_read; (case hop => (apply r_loadNo; (case hx => rfl); (case h => repeat (first | exact mhd _ | apply mtl)); (case hd => rfl); (case hn => rfl))); (case hd => rfl)) | apply v_seq | apply v_region | apply v_nil | apply v_skip | (apply v_pure; (case hop => first | (apply p_move <;> rfl) | (apply p_nes <;> rfl) | (apply p_ge <;> rfl) | (apply p_assign <;> rfl) | (apply p_fieldAddrB <;> rfl) | (apply p_extract0 <;> rfl) | (apply p_extract1 <;> rfl) | (apply p_extract2 <;> rfl) | fail); (case hd => rfl)) | (apply v_condF; (case hc => rfl)) | (apply v_cond; (case hc => rfl); all_goals (intro h; (try simp only [reduceCtorEq, zzz] at h); first | (exfalso; omega) | skip)) | (apply v_callJ (hs := q1); (case ha => rfl); (case hd => rfl)) | (apply v_callFJ0 (hs := winNone_s _ _); (case hx => rfl); (case ha => rfl); (case hd => rfl)) | (apply v_read; (case hop => (apply r_load1; rfl; (apply Cell.own; (case h => (repeat (first | exact mhd _ | apply mtl))); rfl))); (case hd => rfl)) | (apply v_store; (case hp => rfl); (case hx => rfl); (case hc => rfl); (case hsz => rfl); (case h1 => rfl); (case hb => (repeat (first | exact mhd _ | apply mtl))); (case hfit => exact nle rfl); (case hov => ((repeat (first | with_reducible exact ov_nil | apply ov_cons)); done)); (case hu => repeat (first | exact Upd.here _ _ | apply Upd.there))) | fail)
      refine v_retM [] (outsM_cct (sz0 := 6) (vs0 := [.int .i64 0, .int .i64 0, .slice none 0 0, .int .i64 0, .slice none 0 0, .slice none 0 0]) (e0 := 47) (sz1 := 6) (vs1 := zA.cells) (e1 := 40) rfl rfl (by repeat (first | exact mhd _ | apply mtl)) rfl rfl (by repeat (exact mhd _)) rfl rfl) (List.nil_sublist _) ⟨rfl, _, rfl, ImV.zero _⟩
    · rw [if_neg hfull]
      have hcok := hcok (by omega)
      have hcf : ∀ x ∈ cI, x.2.length ≤ 1048000 := fun x hx => by have := hcok.few x hx; omega
      (refine v_enter Tryz.func28 rfl Tryz.ntmps28 rfl ?_; intro B _)
      repeat' (first | (apply v_box (d := 2) (zs := [.int .i64 ix, .int .i64 ac, .slice C lc.length cc, .int .i64 z, .slice A lp.length d, .slice A' ls.length d']); (case hx => rfl); (case hz => rfl); (case hd => rfl); intro b2) | (apply v_box (d := 3) (zs := Cm.cells ⟨kind, cl, seq, key, val, old, node⟩); (case hx => rfl); (case hz => rfl); (case hd => rfl); intro b3) | (apply v_alloc (d := 4); (case hz => rfl); (case hd => rfl); intro b4) | (apply v_alloc (d := 5); (case hz => rfl); (case hd => rfl); intro b5) | (apply v_read; (case hop => (apply r_loadNo; (case hx => rfl); (case h => repeat (first | exact mhd _ | apply mtl)); (case hd => rfl); (case hn => rfl))); (case hd => rfl)) | apply v_seq | apply v_region | apply v_nil | apply v_skip | (apply v_pure; (case hop => first | (apply p_move <;> rfl) | (apply p_nes <;> rfl) | (apply p_ge <;> rfl) | (apply p_assign <;> rfl) | (apply p_fieldAddrB <;> rfl) | fail); (case hd => rfl)) | (apply v_condF; (case hc => rfl)) | (apply v_cond; (case hc => rfl); all_goals (intro h; (try simp only [reduceCtorEq, zzz] at h); first | (exfalso; omega) | skip)) | (apply v_callJ (hs := q1); (case ha => rfl); (case hd => rfl)) | (apply v_read; (case hop => (apply r_load1; rfl; (apply Cell.own; (case h => (repeat (first | exact mhd _ | apply mtl))); rfl))); (case hd => rfl)) | fail)
      refine v_call (μ1 := []) rfl q2 (List.Perm.refl _) rfl ?_
      rintro _ G1 _ hle1 ⟨rfl, rfl⟩
      by_cases hci : ci = 0
      · subst hci
        rw [if_neg (by simp)]
        repeat' (first | (apply v_read; (case hop => (apply r_loadNo; (case hx => rfl); (case h => repeat (first | exact mhd _ | apply mtl)); (case hd => rfl); (case hn => rfl))); (case hd => rfl)) | apply v_seq | apply v_region | apply v_nil | apply v_skip | (apply v_pure; (case hop => first | (apply p_move <;> rfl) | (apply p_nes <;> rfl) | (apply p_assign <;> rfl) | fail); (case hd => rfl)) | (apply v_condF; (case hc => rfl)) | fail)
        refine v_call (μ1 := []) rfl (q3 G1 hle1) (List.Perm.refl _) rfl ?_
        rintro _ G2 _ hle2 ⟨rfl, C2, cc2, A2, d2, A2', d2', rfl, hC2, hp2, hss2⟩
        have hs2 : StV G2 ⟨z, lp, ls⟩ (.agg [.int .i64 z, .slice A2 lp.length d2, .slice A2' ls.length d2'].toArray) := ⟨_, _, _, _, rfl, hp2, hss2⟩
        repeat' (first | (apply v_box (d := 46) (zs := [.int .i64 ix, .int .i64 ac, .slice C2 lc.length cc2, .int .i64 z, .slice A2 lp.length d2, .slice A2' ls.length d2']); (case hx => rfl); (case hz => rfl); (case hd => rfl); intro b46) | (apply v_read; (case hop => (apply r_loadNo; (case hx => rfl); (case h => repeat (first | exact mhd _ | apply mtl)); (case hd => rfl); (case hn => rfl))); (case hd => rfl)) | apply v_seq | apply v_region | apply v_nil | (apply v_pure; (case hop => first | (apply p_move <;> rfl) | (apply p_assign <;> rfl) | (apply p_fieldAddrB <;> rfl) | (apply p_nilCheck <;> rfl) | (apply p_add; (case hx => rfl); (case hy => rfl); (case h => omega)) | (apply p_build; (case hz => rfl); (case hv => (simp only [List.map_cons, List.map_nil]; repeat (first | with_reducible exact evs_nil | (apply evs_cons; (case h1 => rfl))))); (case hb => (apply bldL; repeat (first | exact bld_nil | (apply bld_cons; (case hpf => rfl); (case hc => rfl); (case hs => rfl); (case hl => rfl); (case ho => ((repeat (first | with_reducible exact ov_nil | apply ov_cons)); done))))))) | fail); (case hd => rfl)) | (apply v_callJ (hs := q5 _ _); (case ha => rfl); (case hd => rfl)) | (apply v_read; (case hop => (apply r_load1; rfl; (apply Cell.own; (case h => (repeat (first | exact mhd _ | apply mtl))); rfl))); (case hd => rfl)) | (apply v_store; (case hp => rfl); (case hx => rfl); (case hc => rfl); (case hsz => rfl); (case h1 => rfl); (case hb => (repeat (exact mhd _))); (case hfit => exact nle rfl); (case hov => ((repeat (first | with_reducible exact ov_nil | apply ov_cons)); done)); (case hu => repeat (exact Upd.here _ _))) | fail)
        refine v_callC (first := [.pointer (some ⟨b46, 0, none⟩)]) (captured := []) (μ1 := [boxI b46 (ix + 1) ac (.slice C2 lc.length cc2) z (.slice A2 lp.length d2) (.slice A2' ls.length d2')]) rfl rfl (q6 G2 b46 (ix + 1) ac z _ _ _ hC2) (List.Perm.refl _) rfl ?_
        rintro _ G3 _ hle3 ⟨C3, hC3, rfl⟩
        rw [← haI, ← hcI] at *
        obtain ⟨CA, cc3, rfl, -⟩ := id hC3.open
        have qa := q4 G3 (((hT.up hle1).up hle2).up hle3) _ (hs2.up hle3) hstp
        have htr : trimR cI (ix + 1 + 1) = trimL cI (ix + 2) := by
          rw [trimR, if_pos ⟨hcok, by omega⟩]
          congr 1; omega
        obtain ⟨s5, ⟨xc, xq, xe, xf, xv, xr⟩, e5⟩ := ap
        simp only at *
        have qt := fun G' (h : GH.le G3 G') => trim_s (ix + 1 + 1) (hC3.le h) (by omega) hcf
        rw [htr] at qt
        clear hnode hcz hcb q5 q6 q4 hcf hcI haI htr
        repeat' (first | apply v_seq | apply v_nil)
        refine d_start [boxI b46 (ix + 1) aI (.slice CA cI.length cc3) z (.slice A2 lp.length d2) (.slice A2' ls.length d2'), (b3, .cells (Cm.cells ⟨kind, cl, seq, key, val, old, node⟩).toArray 28 (0, 0))] (by kernel_rfl) (by kernel_rfl) (by kernel_rfl) (by intro e he; (simp only [List.mem_cons, List.not_mem_nil, or_false] at he; rcases he with rfl | rfl <;> simp; done)) ?_
        all_goals (apply dtk 0; (case hi => rfl); (case hop => (apply prd; apply p_move <;> rfl)); (case hq => kernel_rfl))
        all_goals (apply dtk 1; (case hi => rfl); (case hop => (apply prd; apply p_nilCheck <;> rfl)); (case hq => kernel_rfl))
        all_goals (apply dtk 2; (case hi => rfl); (case hop => (apply prd; apply p_fieldAddrB <;> rfl)); (case hq => kernel_rfl))
        all_goals (apply dtk 3; (case hi => rfl); (case hop => (apply prd; apply p_fieldAddrB <;> rfl)); (case hq => kernel_rfl))
        all_goals (apply dtk 4; (case hi => rfl); (case hop => first | (apply r_loadNo; (case hx => rfl); (case h => (repeat (exact mhd _))); (case hd => (repeat (first | with_reducible exact dt_nil | apply dt_here))); (case hn => rfl)) | (apply r_load1; rfl; (apply Cell.own; (case h => (repeat (fail))); rfl)) | (apply r_loadN; rfl; (apply CellsAt.own; (case h => (repeat (fail)))); rfl)); (case hq => kernel_rfl))
        all_goals (apply dtk 5; (case hi => rfl); (case hop => first | (apply r_loadNo; (case hx => rfl); (case h => (repeat (first | exact mhd _ | apply mtl))); (case hd => (repeat (first | with_reducible exact dt_nil | apply dt_here))); (case hn => rfl)) | (apply r_load1; rfl; (apply Cell.own; (case h => (repeat (fail))); rfl)) | (apply r_loadN; rfl; (apply CellsAt.own; (case h => (repeat (fail)))); rfl)); (case hq => kernel_rfl))
        focus
          refine d_fork3 6 11 12 (by kernel_rfl) ?_ ?_ ?_
          rotate_right
          focus
            (apply x_exec (d := 13) 12; (case hi => rfl);  (case hop => exact m_alloc rfl); (case hd => rfl); rintro _ G0 _ ⟨b13, rfl, hG0, rfl⟩; subst G0; refine ⟨(by intro e he; simp only [List.mem_cons, List.not_mem_nil, or_false] at he; rcases he with rfl | rfl <;> simp), ?_⟩)
            focus
              refine d_fork 6 11 (by kernel_rfl) ?_ ?_
              rotate_right
              focus
                (apply x_exec (d := 12) 11; (case hi => rfl);  (case hop => exact m_alloc rfl); (case hd => rfl); rintro _ G0 _ ⟨b12, rfl, hG0, rfl⟩; subst G0; refine ⟨(by intro e he; simp only [List.mem_cons, List.not_mem_nil, or_false] at he; rcases he with rfl | rfl <;> simp), ?_⟩)
                all_goals ((apply d_call 6 (hs := qa) (μ1 := []); (case hi => rfl); (case hr => kernel_rfl);  (case ha => rfl); (case hp => exact List.Perm.refl _); (case hd => rfl); (case hν' => intro e he; simp only [List.mem_cons, List.not_mem_nil, or_false] at he; rcases he with rfl | rfl <;> simp); rintro _ G6 _ hle6 ⟨rfl, v6, rfl, hs6⟩; obtain ⟨A6, c6, A6', c6', rfl, -, -⟩ := id hs6))
                all_goals (apply dtk 7; (case hi => rfl); (case hop => (apply prd; apply p_move <;> rfl)); (case hq => kernel_rfl))
                all_goals (apply dtk 8; (case hi => rfl); (case hop => (apply prd; apply p_extract0 <;> rfl)); (case hq => kernel_rfl))
                all_goals (apply dtk 9; (case hi => rfl); (case hop => (apply prd; apply p_extract1 <;> rfl)); (case hq => kernel_rfl))
                all_goals (apply dtk 10; (case hi => rfl); (case hop => (apply prd; apply p_extract2 <;> rfl)); (case hq => kernel_rfl))
                all_goals (apply d_store 13; (case hi => rfl); (case hr => kernel_rfl); (case hL => infer_instance); (case hp => rfl); (case hx => rfl); (case hc => rfl); (case hsz => rfl); (case h1 => rfl); (case hb => (repeat (exact mhd _))); (case hfit => exact nle rfl); (case hov => ((repeat (first | with_reducible exact ov_nil | apply ov_cons)); done)); (case hu => repeat (exact Upd.here _ _)); (case hν' => intro e he; (simp only [List.mem_cons, List.not_mem_nil, or_false] at he; rcases he with rfl | rfl <;> simp; done)))
                all_goals (apply d_store 14; (case hi => rfl); (case hr => kernel_rfl); (case hL => infer_instance); (case hp => rfl); (case hx => rfl); (case hc => rfl); (case hsz => rfl); (case h1 => rfl); (case hb => (repeat (first | exact mhd _ | apply mtl))); (case hfit => exact nle rfl); (case hov => ((repeat (first | with_reducible exact ov_nil | apply ov_cons)); done)); (case hu => repeat (first | exact Upd.here _ _ | apply Upd.there)); (case hν' => intro e he; (simp only [List.mem_cons, List.not_mem_nil, or_false] at he; rcases he with rfl | rfl <;> simp; done)))
                all_goals (apply dtk 15; (case hi => rfl); (case hop => (apply prd; apply p_assign <;> rfl)); (case hq => kernel_rfl))
                all_goals (apply d_done; (case hr => kernel_rfl))
              rotate_right
              focus
                (apply x_call 6 (hs := qa) (μ1 := []); (case hi => rfl);  (case ha => rfl); (case hp => exact List.Perm.refl _); (case hd => rfl); (case hν' => intro e he; simp only [List.mem_cons, List.not_mem_nil, or_false] at he; rcases he with rfl | rfl <;> simp); rintro _ G6 _ hle6 ⟨rfl, v6, rfl, hs6⟩; obtain ⟨A6, c6, A6', c6', rfl, -, -⟩ := id hs6)
                all_goals (apply dtk 7; (case hi => rfl); (case hop => (apply prd; apply p_move <;> rfl)); (case hq => kernel_rfl))
                all_goals (apply dtk 8; (case hi => rfl); (case hop => (apply prd; apply p_extract0 <;> rfl)); (case hq => kernel_rfl))
                all_goals (apply dtk 9; (case hi => rfl); (case hop => (apply prd; apply p_extract1 <;> rfl)); (case hq => kernel_rfl))
                all_goals (apply dtk 10; (case hi => rfl); (case hop => (apply prd; apply p_extract2 <;> rfl)); (case hq => kernel_rfl))
                all_goals ((apply d_exec (d := 12) 11; (case hi => rfl); (case hr => kernel_rfl);  (case hop => exact m_alloc rfl); (case hd => rfl); rintro _ G0 _ ⟨b12, rfl, hG0, rfl⟩; subst G0; refine ⟨(by intro e he; simp only [List.mem_cons, List.not_mem_nil, or_false] at he; rcases he with rfl | rfl <;> simp), ?_⟩))
                all_goals (apply d_store 13; (case hi => rfl); (case hr => kernel_rfl); (case hL => infer_instance); (case hp => rfl); (case hx => rfl); (case hc => rfl); (case hsz => rfl); (case h1 => rfl); (case hb => (repeat (exact mhd _))); (case hfit => exact nle rfl); (case hov => ((repeat (first | with_reducible exact ov_nil | apply ov_cons)); done)); (case hu => repeat (exact Upd.here _ _)); (case hν' => intro e he; (simp only [List.mem_cons, List.not_mem_nil, or_false] at he; rcases he with rfl | rfl <;> simp; done)))
                all_goals (apply d_store 14; (case hi => rfl); (case hr => kernel_rfl); (case hL => infer_instance); (case hp => rfl); (case hx => rfl); (case hc => rfl); (case hsz => rfl); (case h1 => rfl); (case hb => (repeat (first | exact mhd _ | apply mtl))); (case hfit => exact nle rfl); (case hov => ((repeat (first | with_reducible exact ov_nil | apply ov_cons)); done)); (case hu => repeat (first | exact Upd.here _ _ | apply Upd.there)); (case hν' => intro e he; (simp only [List.mem_cons, List.not_mem_nil, or_false] at he; rcases he with rfl | rfl <;> simp; done)))
                all_goals (apply dtk 15; (case hi => rfl); (case hop => (apply prd; apply p_assign <;> rfl)); (case hq => kernel_rfl))
                all_goals (apply d_done; (case hr => kernel_rfl))
          rotate_right
          focus
            (apply x_exec (d := 12) 11; (case hi => rfl);  (case hop => exact m_alloc rfl); (case hd => rfl); rintro _ G0 _ ⟨b12, rfl, hG0, rfl⟩; subst G0; refine ⟨(by intro e he; simp only [List.mem_cons, List.not_mem_nil, or_false] at he; rcases he with rfl | rfl <;> simp), ?_⟩)
            focus
              refine d_fork 6 12 (by kernel_rfl) ?_ ?_
              rotate_right
              focus
                (apply x_exec (d := 13) 12; (case hi => rfl);  (case hop => exact m_alloc rfl); (case hd => rfl); rintro _ G0 _ ⟨b13, rfl, hG0, rfl⟩; subst G0; refine ⟨(by intro e he; simp only [List.mem_cons, List.not_mem_nil, or_false] at he; rcases he with rfl | rfl <;> simp), ?_⟩)
                all_goals ((apply d_call 6 (hs := qa) (μ1 := []); (case hi => rfl); (case hr => kernel_rfl);  (case ha => rfl); (case hp => exact List.Perm.refl _); (case hd => rfl); (case hν' => intro e he; simp only [List.mem_cons, List.not_mem_nil, or_false] at he; rcases he with rfl | rfl <;> simp); rintro _ G6 _ hle6 ⟨rfl, v6, rfl, hs6⟩; obtain ⟨A6, c6, A6', c6', rfl, -, -⟩ := id hs6))
                all_goals (apply dtk 7; (case hi => rfl); (case hop => (apply prd; apply p_move <;> rfl)); (case hq => kernel_rfl))
                all_goals (apply dtk 8; (case hi => rfl); (case hop => (apply prd; apply p_extract0 <;> rfl)); (case hq => kernel_rfl))
                all_goals (apply dtk 9; (case hi => rfl); (case hop => (apply prd; apply p_extract1 <;> rfl)); (case hq => kernel_rfl))
                all_goals (apply dtk 10; (case hi => rfl); (case hop => (apply prd; apply p_extract2 <;> rfl)); (case hq => kernel_rfl))
                all_goals (apply d_store 13; (case hi => rfl); (case hr => kernel_rfl); (case hL => infer_instance); (case hp => rfl); (case hx => rfl); (case hc => rfl); (case hsz => rfl); (case h1 => rfl); (case hb => (repeat (first | exact mhd _ | apply mtl))); (case hfit => exact nle rfl); (case hov => ((repeat (first | with_reducible exact ov_nil | apply ov_cons)); done)); (case hu => repeat (first | exact Upd.here _ _ | apply Upd.there)); (case hν' => intro e he; (simp only [List.mem_cons, List.not_mem_nil, or_false] at he; rcases he with rfl | rfl <;> simp; done)))
                all_goals (apply d_store 14; (case hi => rfl); (case hr => kernel_rfl); (case hL => infer_instance); (case hp => rfl); (case hx => rfl); (case hc => rfl); (case hsz => rfl); (case h1 => rfl); (case hb => (repeat (exact mhd _))); (case hfit => exact nle rfl); (case hov => ((repeat (first | with_reducible exact ov_nil | apply ov_cons)); done)); (case hu => repeat (exact Upd.here _ _)); (case hν' => intro e he; (simp only [List.mem_cons, List.not_mem_nil, or_false] at he; rcases he with rfl | rfl <;> simp; done)))
                all_goals (apply dtk 15; (case hi => rfl); (case hop => (apply prd; apply p_assign <;> rfl)); (case hq => kernel_rfl))
                all_goals (apply d_done; (case hr => kernel_rfl))
              rotate_right
              focus
                (apply x_call 6 (hs := qa) (μ1 := []); (case hi => rfl);  (case ha => rfl); (case hp => exact List.Perm.refl _); (case hd => rfl); (case hν' => intro e he; simp only [List.mem_cons, List.not_mem_nil, or_false] at he; rcases he with rfl | rfl <;> simp); rintro _ G6 _ hle6 ⟨rfl, v6, rfl, hs6⟩; obtain ⟨A6, c6, A6', c6', rfl, -, -⟩ := id hs6)
                all_goals (apply dtk 7; (case hi => rfl); (case hop => (apply prd; apply p_move <;> rfl)); (case hq => kernel_rfl))
                all_goals (apply dtk 8; (case hi => rfl); (case hop => (apply prd; apply p_extract0 <;> rfl)); (case hq => kernel_rfl))
                all_goals (apply dtk 9; (case hi => rfl); (case hop => (apply prd; apply p_extract1 <;> rfl)); (case hq => kernel_rfl))
                all_goals (apply dtk 10; (case hi => rfl); (case hop => (apply prd; apply p_extract2 <;> rfl)); (case hq => kernel_rfl))
                all_goals ((apply d_exec (d := 13) 12; (case hi => rfl); (case hr => kernel_rfl);  (case hop => exact m_alloc rfl); (case hd => rfl); rintro _ G0 _ ⟨b13, rfl, hG0, rfl⟩; subst G0; refine ⟨(by intro e he; simp only [List.mem_cons, List.not_mem_nil, or_false] at he; rcases he with rfl | rfl <;> simp), ?_⟩))
                all_goals (apply d_store 13; (case hi => rfl); (case hr => kernel_rfl); (case hL => infer_instance); (case hp => rfl); (case hx => rfl); (case hc => rfl); (case hsz => rfl); (case h1 => rfl); (case hb => (repeat (first | exact mhd _ | apply mtl))); (case hfit => exact nle rfl); (case hov => ((repeat (first | with_reducible exact ov_nil | apply ov_cons)); done)); (case hu => repeat (first | exact Upd.here _ _ | apply Upd.there)); (case hν' => intro e he; (simp only [List.mem_cons, List.not_mem_nil, or_false] at he; rcases he with rfl | rfl <;> simp; done)))
                all_goals (apply d_store 14; (case hi => rfl); (case hr => kernel_rfl); (case hL => infer_instance); (case hp => rfl); (case hx => rfl); (case hc => rfl); (case hsz => rfl); (case h1 => rfl); (case hb => (repeat (exact mhd _))); (case hfit => exact nle rfl); (case hov => ((repeat (first | with_reducible exact ov_nil | apply ov_cons)); done)); (case hu => repeat (exact Upd.here _ _)); (case hν' => intro e he; (simp only [List.mem_cons, List.not_mem_nil, or_false] at he; rcases he with rfl | rfl <;> simp; done)))
                all_goals (apply dtk 15; (case hi => rfl); (case hop => (apply prd; apply p_assign <;> rfl)); (case hq => kernel_rfl))
                all_goals (apply d_done; (case hr => kernel_rfl))
          rotate_right
          focus
            (apply x_call 6 (hs := qa) (μ1 := []); (case hi => rfl);  (case ha => rfl); (case hp => exact List.Perm.refl _); (case hd => rfl); (case hν' => intro e he; simp only [List.mem_cons, List.not_mem_nil, or_false] at he; rcases he with rfl | rfl <;> simp); rintro _ G6 _ hle6 ⟨rfl, v6, rfl, hs6⟩; obtain ⟨A6, c6, A6', c6', rfl, -, -⟩ := id hs6)
            all_goals (apply dtk 7; (case hi => rfl); (case hop => (apply prd; apply p_move <;> rfl)); (case hq => kernel_rfl))
            all_goals (apply dtk 8; (case hi => rfl); (case hop => (apply prd; apply p_extract0 <;> rfl)); (case hq => kernel_rfl))
            all_goals (apply dtk 9; (case hi => rfl); (case hop => (apply prd; apply p_extract1 <;> rfl)); (case hq => kernel_rfl))
            all_goals (apply dtk 10; (case hi => rfl); (case hop => (apply prd; apply p_extract2 <;> rfl)); (case hq => kernel_rfl))
            focus
              refine d_fork 11 12 (by kernel_rfl) ?_ ?_
              rotate_right
              focus
                (apply x_exec (d := 13) 12; (case hi => rfl);  (case hop => exact m_alloc rfl); (case hd => rfl); rintro _ G0 _ ⟨b13, rfl, hG0, rfl⟩; subst G0; refine ⟨(by intro e he; simp only [List.mem_cons, List.not_mem_nil, or_false] at he; rcases he with rfl | rfl <;> simp), ?_⟩)
                all_goals ((apply d_exec (d := 12) 11; (case hi => rfl); (case hr => kernel_rfl);  (case hop => exact m_alloc rfl); (case hd => rfl); rintro _ G0 _ ⟨b12, rfl, hG0, rfl⟩; subst G0; refine ⟨(by intro e he; simp only [List.mem_cons, List.not_mem_nil, or_false] at he; rcases he with rfl | rfl <;> simp), ?_⟩))
                all_goals (apply d_store 13; (case hi => rfl); (case hr => kernel_rfl); (case hL => infer_instance); (case hp => rfl); (case hx => rfl); (case hc => rfl); (case hsz => rfl); (case h1 => rfl); (case hb => (repeat (exact mhd _))); (case hfit => exact nle rfl); (case hov => ((repeat (first | with_reducible exact ov_nil | apply ov_cons)); done)); (case hu => repeat (exact Upd.here _ _)); (case hν' => intro e he; (simp only [List.mem_cons, List.not_mem_nil, or_false] at he; rcases he with rfl | rfl <;> simp; done)))
                all_goals (apply d_store 14; (case hi => rfl); (case hr => kernel_rfl); (case hL => infer_instance); (case hp => rfl); (case hx => rfl); (case hc => rfl); (case hsz => rfl); (case h1 => rfl); (case hb => (repeat (first | exact mhd _ | apply mtl))); (case hfit => exact nle rfl); (case hov => ((repeat (first | with_reducible exact ov_nil | apply ov_cons)); done)); (case hu => repeat (first | exact Upd.here _ _ | apply Upd.there)); (case hν' => intro e he; (simp only [List.mem_cons, List.not_mem_nil, or_false] at he; rcases he with rfl | rfl <;> simp; done)))
                all_goals (apply dtk 15; (case hi => rfl); (case hop => (apply prd; apply p_assign <;> rfl)); (case hq => kernel_rfl))
                all_goals (apply d_done; (case hr => kernel_rfl))
              rotate_right
              focus
                (apply x_exec (d := 12) 11; (case hi => rfl);  (case hop => exact m_alloc rfl); (case hd => rfl); rintro _ G0 _ ⟨b12, rfl, hG0, rfl⟩; subst G0; refine ⟨(by intro e he; simp only [List.mem_cons, List.not_mem_nil, or_false] at he; rcases he with rfl | rfl <;> simp), ?_⟩)
                all_goals ((apply d_exec (d := 13) 12; (case hi => rfl); (case hr => kernel_rfl);  (case hop => exact m_alloc rfl); (case hd => rfl); rintro _ G0 _ ⟨b13, rfl, hG0, rfl⟩; subst G0; refine ⟨(by intro e he; simp only [List.mem_cons, List.not_mem_nil, or_false] at he; rcases he with rfl | rfl <;> simp), ?_⟩))
                all_goals (apply d_store 13; (case hi => rfl); (case hr => kernel_rfl); (case hL => infer_instance); (case hp => rfl); (case hx => rfl); (case hc => rfl); (case hsz => rfl); (case h1 => rfl); (case hb => (repeat (first | exact mhd _ | apply mtl))); (case hfit => exact nle rfl); (case hov => ((repeat (first | with_reducible exact ov_nil | apply ov_cons)); done)); (case hu => repeat (first | exact Upd.here _ _ | apply Upd.there)); (case hν' => intro e he; (simp only [List.mem_cons, List.not_mem_nil, or_false] at he; rcases he with rfl | rfl <;> simp; done)))
                all_goals (apply d_store 14; (case hi => rfl); (case hr => kernel_rfl); (case hL => infer_instance); (case hp => rfl); (case hx => rfl); (case hc => rfl); (case hsz => rfl); (case h1 => rfl); (case hb => (repeat (exact mhd _))); (case hfit => exact nle rfl); (case hov => ((repeat (first | with_reducible exact ov_nil | apply ov_cons)); done)); (case hu => repeat (exact Upd.here _ _)); (case hν' => intro e he; (simp only [List.mem_cons, List.not_mem_nil, or_false] at he; rcases he with rfl | rfl <;> simp; done)))
                all_goals (apply dtk 15; (case hi => rfl); (case hop => (apply prd; apply p_assign <;> rfl)); (case hq => kernel_rfl))
                all_goals (apply d_done; (case hr => kernel_rfl))
        all_goals repeat' (first | (apply v_read; (case hop => (apply r_loadNo; (case hx => rfl); (case h => repeat (first | exact mhd _ | apply mtl)); (case hd => rfl); (case hn => rfl))); (case hd => rfl)) | apply v_seq | apply v_region | apply v_nil | (apply v_pure; (case hop => first | (apply p_move <;> rfl) | (apply p_fieldAddrB <;> rfl) | (apply p_nilCheck <;> rfl) | fail); (case hd => rfl)) | (apply v_store; (case hp => rfl); (case hx => rfl); (case hc => rfl); (case hsz => rfl); (case h1 => rfl); (case hb => (repeat (first | exact mhd _ | apply mtl))); (case hfit => exact nle rfl); (case hov => (rfl)); (case hu => repeat (first | exact Upd.here _ _ | apply Upd.there))) | fail)
        all_goals
          (first
            | refine v_perm (ν := (b12, Obj.cells [.int .i64 s5.schema, .slice A6 s5.pairs.length c6, .slice A6' s5.sess.length c6'].toArray 32 (0, 0)) :: (b13, Obj.cells [.int .i64 xc, .int .i64 xq, .int .i64 xe, .bool xf, .string xv, .int .i64 xr].toArray 40 (0, 0)) :: ((b46, Obj.cells [.int .i64 (ix + 1), .int .i64 aI, .slice CA cI.length cc3, .int .i64 s5.schema, .slice A6 s5.pairs.length c6, .slice A6' s5.sess.length c6'].toArray 151 (0, 0)) :: [(b5, Obj.cells zA.cells.toArray 40 (0, 0)), (b4, Obj.cells [.int .i64 0, .int .i64 0, .slice none 0 0, .int .i64 0, .slice none 0 0, .slice none 0 0].toArray 47 (0, 0)), (b3, Obj.cells (Cm.cells ⟨kind, cl, seq, key, val, old, node⟩).toArray 28 (0, 0)), (b2, Obj.cells [.int .i64 ix, .int .i64 ac, .slice C lc.length cc, .int .i64 z, .slice A lp.length d, .slice A' ls.length d'].toArray 47 (0, 0))])) (List.Perm.refl _) ?_
            | refine v_perm (ν := (b12, Obj.cells [.int .i64 s5.schema, .slice A6 s5.pairs.length c6, .slice A6' s5.sess.length c6'].toArray 32 (0, 0)) :: (b13, Obj.cells [.int .i64 xc, .int .i64 xq, .int .i64 xe, .bool xf, .string xv, .int .i64 xr].toArray 40 (0, 0)) :: ((b46, Obj.cells [.int .i64 (ix + 1), .int .i64 aI, .slice CA cI.length cc3, .int .i64 s5.schema, .slice A6 s5.pairs.length c6, .slice A6' s5.sess.length c6'].toArray 151 (0, 0)) :: [(b5, Obj.cells zA.cells.toArray 40 (0, 0)), (b4, Obj.cells [.int .i64 0, .int .i64 0, .slice none 0 0, .int .i64 0, .slice none 0 0, .slice none 0 0].toArray 47 (0, 0)), (b3, Obj.cells (Cm.cells ⟨kind, cl, seq, key, val, old, node⟩).toArray 28 (0, 0)), (b2, Obj.cells [.int .i64 ix, .int .i64 ac, .slice C lc.length cc, .int .i64 z, .slice A lp.length d, .slice A' ls.length d'].toArray 47 (0, 0))])) (List.Perm.swap (b12, Obj.cells [.int .i64 s5.schema, .slice A6 s5.pairs.length c6, .slice A6' s5.sess.length c6'].toArray 32 (0, 0)) (b13, Obj.cells [.int .i64 xc, .int .i64 xq, .int .i64 xe, .bool xf, .string xv, .int .i64 xr].toArray 40 (0, 0)) _) ?_)
        all_goals
          (refine d_start [] (by kernel_rfl) (by kernel_rfl) (by kernel_rfl) (by intro e he; (simp at he ⊢; try omega)) ?_
           all_goals (apply dtk 0; (case hi => rfl); (case hop => (apply prd; apply p_move <;> rfl)); (case hq => kernel_rfl))
           all_goals (apply dtk 1; (case hi => rfl); (case hop => (apply prd; apply p_move <;> rfl)); (case hq => kernel_rfl))
           all_goals (apply dtk 2; (case hi => rfl); (case hop => (apply prd; apply p_nilCheck <;> rfl)); (case hq => kernel_rfl))
           all_goals (apply dtk 3; (case hi => rfl); (case hop => (apply prd; apply p_fieldAddrB <;> rfl)); (case hq => kernel_rfl))
           all_goals (apply dtk 4; (case hi => rfl); (case hop => (apply prd; apply p_fieldAddrB <;> rfl)); (case hq => kernel_rfl))
           all_goals (apply dtk 6; (case hi => rfl); (case hop => (apply prd; apply p_move <;> rfl)); (case hq => kernel_rfl))
           all_goals (apply dtk 7; (case hi => rfl); (case hop => (apply prd; apply p_nilCheck <;> rfl)); (case hq => kernel_rfl))
           all_goals (apply dtk 8; (case hi => rfl); (case hop => (apply prd; apply p_fieldAddrB <;> rfl)); (case hq => kernel_rfl))
           all_goals (apply dtk 9; (case hi => rfl); (case hop => (apply prd; apply p_fieldAddrB <;> rfl)); (case hq => kernel_rfl))
           focus
             refine d_fork 5 10 (by kernel_rfl) ?_ ?_
             rotate_right
             focus
               (apply x_exec 10; (case hi => rfl);  (case hop => exact ReadOp.move (r_load1 rfl (Cell.own (by repeat (first | exact mhd _ | apply mtl)) rfl))); (case hd => rfl); rintro _ G0 _ ⟨rfl, hG0, rfl⟩; subst G0; refine ⟨(by intro e he; cases he), ?_⟩)
               all_goals (apply dtk 11; (case hi => rfl); (case hop => (apply prd; apply p_add; (case hx => rfl); (case hy => rfl); (case h => omega))); (case hq => kernel_rfl))
               all_goals (apply d_keep 5 (hop := ReadOp.move ?hop); (case hi => rfl); (case hr => kernel_rfl); (case hop => (apply r_load1; rfl; (apply Cell.own; (case h => repeat (first | exact mhd _ | apply mtl)); rfl))); (case hd => rfl))
               all_goals ((apply d_call 12 (hs := qt _ hle6) (μ1 := []); (case hi => rfl); (case hr => kernel_rfl);  (case ha => rfl); (case hp => exact List.Perm.refl _); (case hd => rfl); (case hν' => intro e he; cases he); rintro r1 G7 ν1 hle7 ⟨rfl, hC7⟩; obtain ⟨A7, c7, rfl, -⟩ := id hC7.open))
               all_goals (apply dtk 13; (case hi => rfl); (case hop => (apply prd; apply p_nilCheck <;> rfl)); (case hq => kernel_rfl))
               all_goals (apply dtk 14; (case hi => rfl); (case hop => (apply prd; apply p_fieldAddrB <;> rfl)); (case hq => kernel_rfl))
               all_goals (apply dtk 15; (case hi => rfl); (case hop => (apply prd; apply p_fieldAddrB <;> rfl)); (case hq => kernel_rfl))
               all_goals (apply d_store 16; (case hi => rfl); (case hr => kernel_rfl); (case hL => infer_instance); (case hp => rfl); (case hx => rfl); (case hc => rfl); (case hsz => rfl); (case h1 => rfl); (case hb => (repeat (first | exact mhd _ | apply mtl))); (case hfit => exact nle rfl); (case hov => ((repeat (first | with_reducible exact ov_nil | apply ov_cons)); done)); (case hu => repeat (first | exact Upd.here _ _ | apply Upd.there)); (case hν' => intro e he; (cases he; done)))
               all_goals (apply d_done; (case hr => kernel_rfl))
             rotate_right
             focus
               (apply x_exec 5; (case hi => rfl);  (case hop => exact ReadOp.move (r_load1 rfl (Cell.own (by repeat (first | exact mhd _ | apply mtl)) rfl))); (case hd => rfl); rintro _ G0 _ ⟨rfl, hG0, rfl⟩; subst G0; refine ⟨(by intro e he; cases he), ?_⟩)
               all_goals (apply d_keep 10 (hop := ReadOp.move ?hop); (case hi => rfl); (case hr => kernel_rfl); (case hop => (apply r_load1; rfl; (apply Cell.own; (case h => repeat (first | exact mhd _ | apply mtl)); rfl))); (case hd => rfl))
               all_goals (apply dtk 11; (case hi => rfl); (case hop => (apply prd; apply p_add; (case hx => rfl); (case hy => rfl); (case h => omega))); (case hq => kernel_rfl))
               all_goals ((apply d_call 12 (hs := qt _ hle6) (μ1 := []); (case hi => rfl); (case hr => kernel_rfl);  (case ha => rfl); (case hp => exact List.Perm.refl _); (case hd => rfl); (case hν' => intro e he; cases he); rintro r1 G7 ν1 hle7 ⟨rfl, hC7⟩; obtain ⟨A7, c7, rfl, -⟩ := id hC7.open))
               all_goals (apply dtk 13; (case hi => rfl); (case hop => (apply prd; apply p_nilCheck <;> rfl)); (case hq => kernel_rfl))
               all_goals (apply dtk 14; (case hi => rfl); (case hop => (apply prd; apply p_fieldAddrB <;> rfl)); (case hq => kernel_rfl))
               all_goals (apply dtk 15; (case hi => rfl); (case hop => (apply prd; apply p_fieldAddrB <;> rfl)); (case hq => kernel_rfl))
               all_goals (apply d_store 16; (case hi => rfl); (case hr => kernel_rfl); (case hL => infer_instance); (case hp => rfl); (case hx => rfl); (case hc => rfl); (case hsz => rfl); (case h1 => rfl); (case hb => (repeat (first | exact mhd _ | apply mtl))); (case hfit => exact nle rfl); (case hov => ((repeat (first | with_reducible exact ov_nil | apply ov_cons)); done)); (case hu => repeat (first | exact Upd.here _ _ | apply Upd.there)); (case hν' => intro e he; (cases he; done)))
               all_goals (apply d_done; (case hr => kernel_rfl))
           )
        all_goals repeat' (first | apply v_seq)
        all_goals
          (refine d_start [(b46, .cells [.int .i64 (ix + 1), .int .i64 aI, .slice A7 (trimL cI (ix + 2)).length c7, .int .i64 s5.schema, .slice A6 s5.pairs.length c6, .slice A6' s5.sess.length c6'].toArray 151 (0, 0)), (b13, Obj.cells [.int .i64 xc, .int .i64 xq, .int .i64 xe, .bool xf, .string xv, .int .i64 xr].toArray 40 (0, 0))] (by kernel_rfl) (by kernel_rfl) (by kernel_rfl) (by intro e he; (simp only [List.mem_cons, List.not_mem_nil, or_false] at he; rcases he with rfl | rfl <;> simp; done)) ?_
           all_goals (apply dtk 0; (case hi => rfl); (case hop => (apply prd; apply p_move <;> rfl)); (case hq => kernel_rfl))
           all_goals (apply dtk 1; (case hi => rfl); (case hop => (apply prd; apply p_nilCheck <;> rfl)); (case hq => kernel_rfl))
           all_goals (apply dtk 2; (case hi => rfl); (case hop => (apply prd; apply p_fieldAddrB <;> rfl)); (case hq => kernel_rfl))
           all_goals (apply dtk 3; (case hi => rfl); (case hop => first | (apply r_loadNo; (case hx => rfl); (case h => (repeat (exact mhd _))); (case hd => (repeat (first | with_reducible exact dt_nil | apply dt_here))); (case hn => rfl)) | (apply r_load1; rfl; (apply Cell.own; (case h => (repeat (fail))); rfl)) | (apply r_loadN; rfl; (apply CellsAt.own; (case h => (repeat (fail)))); rfl)); (case hq => kernel_rfl))
           all_goals (apply dtk 4; (case hi => rfl); (case hop => first | (apply r_loadNo; (case hx => rfl); (case h => (repeat (first | exact mhd _ | apply mtl))); (case hd => (repeat (first | with_reducible exact dt_nil | apply dt_here))); (case hn => rfl)) | (apply r_load1; rfl; (apply Cell.own; (case h => (repeat (fail))); rfl)) | (apply r_loadN; rfl; (apply CellsAt.own; (case h => (repeat (fail)))); rfl)); (case hq => kernel_rfl))
           all_goals (apply d_store 5; (case hi => rfl); (case hr => kernel_rfl); (case hL => infer_instance); (case hp => rfl); (case hx => rfl); (case hc => rfl); (case hsz => rfl); (case h1 => rfl); (case hb => (repeat (first | exact mhd _ | apply mtl))); (case hfit => exact nle rfl); (case hov => ((repeat (first | with_reducible exact ov_nil | apply ov_cons)); done)); (case hu => repeat (first | exact Upd.here _ _ | apply Upd.there)); (case hν' => intro e he; (simp only [List.mem_cons, List.not_mem_nil, or_false] at he; rcases he with rfl | rfl <;> simp; done)))
           all_goals (apply d_store 6; (case hi => rfl); (case hr => kernel_rfl); (case hL => infer_instance); (case hp => rfl); (case hx => rfl); (case hc => rfl); (case hsz => rfl); (case h1 => rfl); (case hb => (repeat (first | exact mhd _ | apply mtl))); (case hfit => exact nle rfl); (case hov => ((repeat (first | with_reducible exact ov_nil | apply ov_cons)); done)); (case hu => repeat (first | exact Upd.here _ _ | apply Upd.there)); (case hν' => intro e he; (simp only [List.mem_cons, List.not_mem_nil, or_false] at he; rcases he with rfl | rfl <;> simp; done)))
           all_goals (apply dtk 7; (case hi => rfl); (case hop => (apply prd; apply p_assign <;> rfl)); (case hq => kernel_rfl))
           all_goals (apply d_done; (case hr => kernel_rfl))
           )
        all_goals repeat' (fail)
        all_goals
          (refine v_retM [] (outsM_cct (sz0 := 6) (vs0 := [.int .i64 (ix + 1), .int .i64 aI, .slice A7 (trimL cI (ix + 2)).length c7, .int .i64 s5.schema, .slice A6 s5.pairs.length c6, .slice A6' s5.sess.length c6']) (e0 := 47) (sz1 := 6) (vs1 := [.int .i64 xc, .int .i64 xq, .int .i64 xe, .bool xf, .string xv, .int .i64 xr]) (e1 := 40) rfl rfl (by repeat (first | exact mhd _ | apply mtl)) rfl rfl (by repeat (first | exact mhd _ | apply mtl)) rfl rfl) (List.nil_sublist _) ⟨rfl, _, rfl, ?_⟩
           rw [hnx]
           exact ImV.mk' (l := trimL cI (ix + 2)) (s := s5) hC7 (hs6.up hle7))
      · rw [if_pos hci]
        repeat' (first | apply v_seq | apply v_region | apply v_nil | (apply v_pure; (case hop => first | (apply p_move <;> rfl) | (apply p_ne <;> rfl) | (apply p_assign <;> rfl) | (apply p_extract0 <;> rfl) | (apply p_extract1 <;> rfl) | (apply p_extract2 <;> rfl) | fail); (case hd => rfl)) | (apply v_cond; (case hc => rfl); all_goals (intro h; (try simp only [reduceCtorEq, zzz] at h); first | (exfalso; omega) | skip)) | (apply v_callFJ0 (hs := winNone_s _ _); (case hx => rfl); (case ha => rfl); (case hd => rfl)) | (apply v_store; (case hp => rfl); (case hx => rfl); (case hc => rfl); (case hsz => rfl); (case h1 => rfl); (case hb => (repeat (first | exact mhd _ | apply mtl))); (case hfit => exact nle rfl); (case hov => ((repeat (first | with_reducible exact ov_nil | apply ov_cons)); done)); (case hu => repeat (first | exact Upd.here _ _ | apply Upd.there))) | fail)
        refine v_retM [] (outsM_cct (sz0 := 6) (vs0 := [.int .i64 0, .int .i64 0, .slice none 0 0, .int .i64 0, .slice none 0 0, .slice none 0 0]) (e0 := 47) (sz1 := 6) (vs1 := zA.cells) (e1 := 40) rfl rfl (by repeat (first | exact mhd _ | apply mtl)) rfl rfl (by repeat (exact mhd _)) rfl rfl) (List.nil_sublist _) ⟨rfl, _, rfl, ImV.zero _⟩
  · rw [if_neg hP] at q1
    rw [if_pos hP]
    clear hi0 hstp hcok hP q3 q4 q5 q6 q2 hnx hcI haI hclen
    obtain ⟨ix, ac, lc, ⟨z, lp, ls⟩⟩ := m
    simp only at *
    generalize lp.length = np at *
    generalize ls.length = ns at *
    generalize lc.length = nl at *
    (refine v_enter Tryz.func28 rfl Tryz.ntmps28 rfl ?_; intro B _)
    repeat' (first | (apply v_box (d := 2) (zs := [.int .i64 ix, .int .i64 ac, .slice C nl cc, .int .i64 z, .slice A np d, .slice A' ns d']); (case hx => rfl); (case hz => rfl); (case hd => rfl); intro b2) | (apply v_box (d := 3) (zs := Cm.cells ⟨kind, cl, seq, key, val, old, node⟩); (case hx => rfl); (case hz => rfl); (case hd => rfl); intro b3) | (apply v_alloc (d := 4); (case hz => rfl); (case hd => rfl); intro b4) | (apply v_alloc (d := 5); (case hz => rfl); (case hd => rfl); intro b5) | (apply v_read; (case hop => (apply r_loadNo; (case hx => rfl); (case h => repeat (first | exact mhd _ | apply mtl)); (case hd => rfl); (case hn => rfl))); (case hd => rfl)) | apply v_seq | apply v_region | apply v_nil | (apply v_pure; (case hop => first | (apply p_move <;> rfl) | (apply p_ne <;> rfl) | (apply p_assign <;> rfl) | (apply p_extract0 <;> rfl) | (apply p_extract1 <;> rfl) | (apply p_extract2 <;> rfl) | fail); (case hd => rfl)) | (apply v_cond; (case hc => rfl); all_goals (intro h; (try simp only [reduceCtorEq, zzz] at h); first | (exfalso; omega) | skip)) | (apply v_callJ (hs := q1); (case ha => rfl); (case hd => rfl)) | (apply v_callFJ0 (hs := winNone_s _ _); (case hx => rfl); (case ha => rfl); (case hd => rfl)) | (apply v_store; (case hp => rfl); (case hx => rfl); (case hc => rfl); (case hsz => rfl); (case h1 => rfl); (case hb => (repeat (first | exact mhd _ | apply mtl))); (case hfit => exact nle rfl); (case hov => ((repeat (first | with_reducible exact ov_nil | apply ov_cons)); done)); (case hu => repeat (first | exact Upd.here _ _ | apply Upd.there))) | fail)
    refine v_retM [] (outsM_cct (sz0 := 6) (vs0 := [.int .i64 0, .int .i64 0, .slice none 0 0, .int .i64 0, .slice none 0 0, .slice none 0 0]) (e0 := 47) (sz1 := 6) (vs1 := zA.cells) (e1 := 40) rfl rfl (by repeat (first | exact mhd _ | apply mtl)) rfl rfl (by repeat (exact mhd _)) rfl rfl) (List.nil_sublist _) ⟨rfl, _, rfl, ImV.zero _⟩
theorem refWSame_s {G : GH} {m m' : Im} {v v' : Value} (hm : ImV G m v) (hm' : ImV G m' v') : Con Tryz.prog 31 #[v, v'] G [] (Sm (m = m') G) := by
  obtain ⟨C, cc, A, c, A', c', rfl, hC, hp, hss⟩ := hm
  obtain ⟨C2, cc2, B, d, B', d', rfl, hC2, hp2, hss2⟩ := hm'
  have hs : StV G m.st (.agg [.int .i64 m.st.schema, .slice A m.st.pairs.length c, .slice A' m.st.sess.length c'].toArray) := ⟨_, _, _, _, rfl, hp, hss⟩
  have hs2 : StV G m'.st (.agg [.int .i64 m'.st.schema, .slice B m'.st.pairs.length d, .slice B' m'.st.sess.length d'].toArray) := ⟨_, _, _, _, rfl, hp2, hss2⟩
  have q1 := same_s hC hC2
  have q2 := refSame_s hs hs2
  have hin : m = m' → m.index = m'.index ∧ m.active = m'.active ∧ sameB m.confs m'.confs = true ∧ m.st = m'.st := fun h => by subst h; exact ⟨rfl, rfl, by simp [sameB], rfl⟩
  clear hC hp hss hs hC2 hp2 hss2 hs2
  obtain ⟨ix2, ac2, lc2, ⟨z2, lp2, ls2⟩⟩ := m'
  simp only at *
  generalize lp2.length = np2 at *
  generalize ls2.length = ns2 at *
  generalize lc2.length = nl2 at *
  (obtain ⟨ix, ac, lc, ⟨z, lp, ls⟩⟩ := m; simp only at *; generalize lp.length = np at *; generalize ls.length = ns at *; generalize lc.length = nl at *)
  generalize sameB lc lc2 = sb at *
  (refine v_enter Tryz.func31 rfl Tryz.ntmps31 rfl ?_; intro B _)
  repeat' (first | (apply v_box (d := 2) (zs := [.int .i64 ix, .int .i64 ac, .slice C nl cc, .int .i64 z, .slice A np c, .slice A' ns c']); (case hx => rfl); (case hz => rfl); (case hd => rfl); intro b2) | apply v_seq | apply v_region | apply v_nil | (apply v_take; (case hg => rfl)) | (apply v_pass; (case hg => rfl); (case hn => rfl); (case hd => rfl)) | (apply v_pure; (case hop => first | (apply p_move <;> rfl) | (apply p_eq <;> rfl) | (apply p_assign <;> rfl) | (apply p_pickT <;> rfl) | (apply p_pickF <;> rfl) | (apply p_fieldAddrB <;> rfl) | fail); (case hd => rfl)) | (apply v_guardB; (case h1 => rfl); (case h2 => rfl); all_goals (intro h; (try simp only [reduceCtorEq, zzz] at h))) | (apply v_callJ (hs := q1); (case ha => rfl); (case hd => rfl)) | (apply v_read; (case hop => first | (apply r_loadNo; (case hx => rfl); (case h => (repeat (first | exact mhd _ | apply mtl))); (case hd => (repeat (first | with_reducible exact dt_nil | apply dt_here))); (case hn => rfl)) | (apply r_load1; rfl; (apply Cell.own; (case h => (repeat (first | exact mhd _ | apply mtl))); rfl)) | fail); (case hd => rfl)) | (apply v_box; (case hx => rfl); (case hz => rfl); (case hd => rfl); intro b) | fail)
  all_goals first
    | (refine v_ret [] (outsA1 rfl rfl) (by repeat (first | exact List.Sublist.refl _ | exact List.nil_sublist _ | fail)) ?_
       exact ⟨rfl, rfl, _, rfl, fun h => by have := hin h; simp_all⟩)
    | skip
  refine v_call (μ1 := []) rfl q2 (List.Perm.refl _) rfl ?_
  rintro _ G1 _ - ⟨hG1, rfl, b4, rfl, h4⟩
  subst hG1
  repeat' (first | apply v_nil | (apply v_pure; (case hop => first | (apply p_assign <;> rfl) | (apply p_pickT <;> rfl) | fail); (case hd => rfl)) | fail)
  refine v_ret [] (outsA1 rfl rfl) (by repeat (exact List.nil_sublist _)) ?_
  exact ⟨rfl, rfl, _, rfl, fun h => h4 (hin h).2.2.2⟩
theorem trimL_at (l : List Co) (x : Int) : (trimL l x).length = l.length - (placeK l x l.length).toNat ∧ ∀ j (h : j < (trimL l x).length) (h' : (placeK l x l.length).toNat + j < l.length), (trimL l x)[j] = ((if j = 0 then 1 else l[(placeK l x l.length).toNat + j].1), l[(placeK l x l.length).toNat + j].2) := by
  by_cases h0 : (placeK l x l.length).toNat < l.length
  · have e : trimL l x = (1, l[(placeK l x l.length).toNat].2) :: l.drop ((placeK l x l.length).toNat + 1) := by
      unfold trimL
      rw [List.drop_eq_getElem_cons h0]
    rw [e]
    refine ⟨by simp; omega, fun j h h' => ?_⟩
    cases j with
    | zero => simp
    | succ j =>
      have e3 : (placeK l x l.length).toNat + 1 + j = (placeK l x l.length).toNat + (j + 1) := by omega
      simp only [List.getElem_cons_succ, List.getElem_drop, e3]
      rw [if_neg (by omega)]
  · have e : trimL l x = [] := by
      unfold trimL
      rw [List.drop_of_length_le (by omega)]
    rw [e]
    exact ⟨by simp; omega, fun j h => by simp at h⟩
theorem refWTrim_s {G : GH} {l : List Co} {sv : Value} (x : Int) (hs : Cos G sv l) (hl : l.length ≤ 1000) : Con Tryz.prog 91 #[sv, .int .i64 x] G [] (fun r G' μ' => μ' = [] ∧ Cos G' r (trimL l x)) := by
  obtain ⟨A, c, mA, mc, rfl, hlc, hcm, hsome, hcp, hc0, hc1, hmv, hwf⟩ := coOpen hs
  simp only [maxLen] at hcm
  (refine v_enter Tryz.func91 rfl Tryz.ntmps91 rfl ?_; intro B _)
  repeat' (first | apply v_seq | apply v_region | apply v_nil | apply v_block | (apply v_pure; (case hop => (apply p_assign <;> rfl)); (case hd => rfl)) | fail)
  refine v_loop [6, 5, 0, 1] (fun us G' μ' => G' = G ∧ μ' = [] ∧ ∃ k : Nat, k ≤ l.length ∧ us = [Value.int .i64 (k : Int), .int .i64 ((placeK l x k).toNat : Nat), .slice A l.length c, .int .i64 x]) (fun us => l.length - (headI us).toNat) rfl ⟨rfl, rfl, 0, by omega, rfl⟩ ?_
  rintro us G' _ ⟨rfl, rfl, k, hk, rfl⟩
  have hpk := placeK_le l x k
  by_cases hlt : k < l.length
  · have hA := hsome (by omega)
    have e1 : ((k : Nat) : Int).toNat = k := by omega
    have hsu := placeK_succ (x := x) hlt
    have hck := hc0 k hlt
    repeat' (first | apply v_seq | apply v_region | apply v_nil | apply v_skip | apply v_block | apply v_blk | (apply v_pure; (case hop => first | (apply p_move <;> rfl) | (apply p_lt <;> rfl) | (apply p_le <;> rfl) | (apply p_assign <;> rfl) | (apply p_lenSlice <;> rfl) | (apply p_fieldAddr <;> rfl) | (apply p_add; (case hx => rfl); (case hy => rfl); (case h => omega)) | (apply p_indexAddrS; (case hx => rfl); (case hi => rfl); (case h0 => omega); (case h => omega); (case hA => assumption)) | fail); (case hd => rfl)) | (apply v_cond; (case hc => rfl); all_goals (intro h; (try simp only [reduceCtorEq, zzz] at h); first | (exfalso; omega) | skip)) | (apply v_read; (case hop => (apply r_load1; rfl; exact Cell.frozen hck)); (case hd => rfl)) | fail)
    · rw [if_pos (by assumption)] at hsu
      exact v_again rfl ⟨rfl, rfl, k + 1, by omega, by rw [hsu]; rfl⟩ (by simp [headI]; omega)
    · rw [if_neg (by assumption)] at hsu
      exact v_again rfl ⟨rfl, rfl, k + 1, by omega, by rw [hsu]; rfl⟩ (by simp [headI]; omega)
  · obtain rfl : k = l.length := by omega
    obtain ⟨hTl, hTa⟩ := trimL_at l x
    generalize trimL l x = T at *
    generalize hp : (placeK l x l.length).toNat = p at *
    clear hpk hc1
    repeat' (first | apply v_seq | apply v_region | apply v_nil | apply v_block | (apply v_exit; (case hp => rfl)) | (apply v_pure; (case hop => first | (apply p_move <;> rfl) | (apply p_lt <;> rfl) | (apply p_assign <;> rfl) | (apply p_lenSlice <;> rfl) | fail); (case hd => rfl)) | (apply v_cond; (case hc => rfl); all_goals (intro h; (try simp only [reduceCtorEq, zzz] at h); first | (exfalso; omega) | skip)) | fail)
    refine v_loop [8, 5, 0, 7] (fun us G2 μ' => G2 = G' ∧ ∃ (j : Nat) (out : Value) (css : List (List Value)), j ≤ T.length ∧ us = [Value.int .i64 ((p + j : Nat) : Int), .int .i64 (p : Nat), .slice A l.length c, out] ∧ CoCells G' (T.take j) css ∧ Grow 61 2 out j css.flatten μ') (fun us => l.length - (headI us).toNat) rfl ⟨rfl, 0, _, [], by omega, rfl, CoCells.nil, Grow.nil _ _⟩ ?_
    rintro us G2 ν ⟨rfl, j, out, css, hj, rfl, hcc, hg⟩
    by_cases hjt : j < T.length
    · have hlt2 : p + j < l.length := by omega
      have hA := hsome (by omega)
      have e1 : (((p + j : Nat) : Int)).toNat = p + j := by omega
      have hck := hcp (p + j) hlt2
      have hmk := hmv (p + j) hlt2
      have hwk := hwf (p + j) hlt2
      have hTj := hTa j hjt hlt2
      have htk := List.take_succ_eq_append_getElem hjt
      clear hcp hc0 hmv hwf hTa
      generalize l[p + j] = y at *
      obtain ⟨yf, ym⟩ := y
      generalize mA (p + j) = yA at *
      generalize mc (p + j) = yc at *
      simp only at *
      obtain ⟨OA, oc, rfl, -, hoc⟩ := id hg.shape
      by_cases h0 : j = 0
      · subst h0
        repeat' (first | (apply v_read; (case hop => (apply r_loadN; rfl; exact CellsAt.frozen hck; rfl)); (case hd => rfl)) | (apply v_alloc (d := 9); (case hz => rfl); (case hd => rfl); intro b9) | apply v_seq | apply v_region | apply v_nil | apply v_skip | apply v_block | (apply v_pure; (case hop => first | (apply p_move <;> rfl) | (apply p_eqs <;> rfl) | (apply p_lt <;> rfl) | (apply p_lenSlice <;> rfl) | (apply p_fieldAddrB <;> rfl) | (apply p_indexAddrS; (case hx => rfl); (case hi => rfl); (case h0 => omega); (case h => omega); (case hA => assumption)) | fail); (case hd => rfl)) | (apply v_condT; (case hc => rfl)) | (apply v_cond; (case hc => rfl); all_goals (intro h; (try simp only [reduceCtorEq, zzz] at h); first | (exfalso; omega) | skip)) | (apply v_read; (case hop => (apply r_loadNo; (case hx => rfl); (case h => (repeat (exact mhd _))); (case hd => (repeat (first | with_reducible exact dt_nil | apply dt_here))); (case hn => rfl))); (case hd => rfl)) | (apply v_buildSlice; (case hz => rfl); (case hi => rfl); (case hv => (simp only [List.map_cons, List.map_nil]; repeat (first | with_reducible exact evs_nil | (apply evs_cons; (case h1 => rfl))))); (case hp => (apply pk_cons; (case hc => rfl); (case hs => rfl); (case h => (with_reducible exact pk_nil)); (case he => ((repeat (first | with_reducible exact ap_nil | apply ap_cons)); done)))); (case hb => rfl); (case hd => rfl); intro b) | (apply v_store; (case hp => rfl); (case hx => rfl); (case hc => rfl); (case hsz => rfl); (case h1 => rfl); (case hb => (repeat (exact mhd _))); (case hfit => exact nle rfl); (case hov => ((repeat (first | with_reducible exact ov_nil | apply ov_cons)); done)); (case hu => repeat (exact Upd.here _ _))) | fail)
        rw [if_pos rfl] at hTj
        have hpm := List.perm_append_comm (l₁ := ([(b, .cells [Value.int .i64 1, .slice yA ym.length yc].toArray 61 (0, 0)), (b9, .cells [Value.int .i64 1, .slice yA ym.length yc].toArray 61 (0, 0))] : OH)) (l₂ := ν)
        refine v_append (e := 61) (agg := true) (sz := 2) (bytes := 32) (zero := .agg #[.int .i64 0, .slice none 0 0]) rfl (by omega) rfl rfl hg hpm (m' := 1) (us := [Value.int .i64 1, .slice yA ym.length yc]) (Src.own (e := 61) (List.Mem.head _) rfl) rfl (by omega) (by simp only [maxLen]; omega) rfl fun v' ν' hg' => ?_
        refine v_drop (List.sublist_append_left _ _) ?_
        repeat' (first | apply v_region | apply v_nil | apply v_blk | (apply v_pure; (case hop => first | (apply p_move <;> rfl) | (apply p_assign <;> rfl) | (apply p_add; (case hx => rfl); (case hy => rfl); (case h => omega)) | fail); (case hd => rfl)) | fail)
        refine v_again rfl ⟨rfl, 0 + 1, v', css ++ [[Value.int .i64 1, .slice yA ym.length yc]], by omega, by rw [show ((p + (0 + 1) : Nat) : Int) = ((p + 0 : Nat) : Int) + 1 by omega], ?_, by simpa using hg'⟩ (by simp [headI]; omega)
        rw [htk]
        exact hcc.push rfl ⟨_, by rw [hTj], by rw [hTj]; (exact WalkArith.wf_i64 (n := 1) (by decide)), by rw [hTj]; exact hmk⟩
      · repeat' (first | (apply v_read; (case hop => (apply r_loadN; rfl; exact CellsAt.frozen hck; rfl)); (case hd => rfl)) | (apply v_alloc (d := 9); (case hz => rfl); (case hd => rfl); intro b9) | apply v_seq | apply v_region | apply v_nil | apply v_skip | apply v_block | (apply v_pure; (case hop => first | (apply p_move <;> rfl) | (apply p_eq <;> rfl) | (apply p_lt <;> rfl) | (apply p_lenSlice <;> rfl) | (apply p_indexAddrS; (case hx => rfl); (case hi => rfl); (case h0 => omega); (case h => omega); (case hA => assumption)) | fail); (case hd => rfl)) | (apply v_cond; (case hc => rfl); all_goals (intro h; (try simp only [reduceCtorEq, zzz] at h); first | (exfalso; omega) | skip)) | (apply v_read; (case hop => (apply r_loadNo; (case hx => rfl); (case h => (repeat (exact mhd _))); (case hd => (repeat (first | with_reducible exact dt_nil | apply dt_here))); (case hn => rfl))); (case hd => rfl)) | (apply v_buildSlice; (case hz => rfl); (case hi => rfl); (case hv => (simp only [List.map_cons, List.map_nil]; repeat (first | with_reducible exact evs_nil | (apply evs_cons; (case h1 => rfl))))); (case hp => (apply pk_cons; (case hc => rfl); (case hs => rfl); (case h => (with_reducible exact pk_nil)); (case he => ((repeat (first | with_reducible exact ap_nil | apply ap_cons)); done)))); (case hb => rfl); (case hd => rfl); intro b) | (apply v_store; (case hp => rfl); (case hx => rfl); (case hc => rfl); (case hsz => rfl); (case h1 => rfl); (case hb => (repeat (exact mhd _))); (case hfit => exact nle rfl); (case hov => ((repeat (first | with_reducible exact ov_nil | apply ov_cons)); done)); (case hu => repeat (exact Upd.here _ _))) | fail)
        rw [if_neg h0] at hTj
        have hpm := List.perm_append_comm (l₁ := ([(b, .cells [Value.int .i64 yf, .slice yA ym.length yc].toArray 61 (0, 0)), (b9, .cells [Value.int .i64 yf, .slice yA ym.length yc].toArray 61 (0, 0))] : OH)) (l₂ := ν)
        refine v_append (e := 61) (agg := true) (sz := 2) (bytes := 32) (zero := .agg #[.int .i64 0, .slice none 0 0]) rfl (by omega) rfl rfl hg hpm (m' := 1) (us := [Value.int .i64 yf, .slice yA ym.length yc]) (Src.own (e := 61) (List.Mem.head _) rfl) rfl (by omega) (by simp only [maxLen]; omega) rfl fun v' ν' hg' => ?_
        refine v_drop (List.sublist_append_left _ _) ?_
        repeat' (first | apply v_region | apply v_nil | apply v_blk | (apply v_pure; (case hop => first | (apply p_move <;> rfl) | (apply p_assign <;> rfl) | (apply p_add; (case hx => rfl); (case hy => rfl); (case h => omega)) | fail); (case hd => rfl)) | fail)
        refine v_again rfl ⟨rfl, j + 1, v', css ++ [[Value.int .i64 yf, .slice yA ym.length yc]], by omega, by rw [show ((p + (j + 1) : Nat) : Int) = ((p + j : Nat) : Int) + 1 by omega], ?_, by simpa using hg'⟩ (by simp [headI]; omega)
        rw [htk]
        exact hcc.push rfl ⟨_, by rw [hTj], by rw [hTj]; (exact hwk), by rw [hTj]; exact hmk⟩
    · obtain rfl : j = T.length := by omega
      rw [List.take_length] at hcc
      repeat' (first | apply v_seq | apply v_region | apply v_nil | (apply v_exit; (case hp => rfl)) | (apply v_pure; (case hop => first | (apply p_move <;> rfl) | (apply p_lt <;> rfl) | (apply p_assign <;> rfl) | (apply p_lenSlice <;> rfl) | fail); (case hd => rfl)) | (apply v_cond; (case hc => rfl); all_goals (intro h; (try simp only [reduceCtorEq, zzz] at h); first | (exfalso; omega) | skip)) | fail)
      refine v_frz ν (PickA.last) ?_
      intro G3 hle3 hG3
      refine v_ret [] (outsA1 rfl rfl) (by repeat (exact List.Sublist.refl _)) ?_
      exact ⟨rfl, hcc.grow hg hle3 hG3⟩
set_option maxHeartbeats 1000000 in
theorem refWApply_s {G : GH} {m : Im} {v : Value} (hm : ImV G m v) (hok : ImP m) (hx : m.index < 4294967292) (hco : CoZ m.confs) (c : Cm) (hc : cmdI c = 0) (hcok : c.ok) (hkz : c.key.size ≤ 200) :
    Con Tryz.prog 35 #[v, .agg c.cells.toArray] G [] (fun r G' μ' => μ' = [] ∧ ∃ v', r = .tuple [v', .agg (applyS m.st c).2.1.cells.toArray].toArray ∧ ImV G' (nextI m c) v') := by
  have hnx : nextI m c = ⟨m.index + 1, activeI m c, trimL (confsI m c) (m.index + 2), (applyS m.st c).1⟩ := rfl
  have hcI : confsI m c = if (c.kind = 7 ∨ c.kind = 8) ∧ (changeR m.confs (m.index + 1) c.kind c.node).2 = 0 then changeL m.confs (m.index + 1) c.kind c.node else m.confs := rfl
  have haI : activeI m c = if c.kind = 6 ∧ m.active = 0 then m.index + 1 else m.active := rfl
  have hclen := confsI_len (m := m) (c := c)
  have hi0 := hok.1.1
  have hnode : (Lit.int .i64 c.node).wf = true := hcok.2.2.2.2.2.2
  have hmem := (hok.2.1.mems _ (lastC_mem hok.2.1.1.1)).1
  have hzero := changeR_zero (l := m.confs) (x := m.index + 1) (k := c.kind) (n := c.node) hok.2.1 (by omega)
  have hceq := fun h => refChangeL_eq (x := m.index + 1) (kind := c.kind) (n := c.node) hok.2.1 h
  have hrce := refChanged_eq c.kind c.node hmem
  have hstp := hok.2.2.1
  obtain ⟨C, cc, A, d, A', d', rfl, hC, hp, hss⟩ := id hm
  have hs : StV G m.st (.agg [.int .i64 m.st.schema, .slice A m.st.pairs.length d, .slice A' m.st.sess.length d'].toArray) := ⟨_, _, _, _, rfl, hp, hss⟩
  have q1 := refChange_s (m.index + 1) c.kind c.node hC hok.2.1.1.1 (by have := hco.1; omega) hco.one hnode (by omega)
  have q2 := fun G' (h : GH.le G G') => refApply_s c (hs.up h) hstp hc hkz
  have q3 := fun G' (l : List Co) (sv : Value) (h : Cos G' sv l) (hl : l.length ≤ 1000) => refWTrim_s (m.index + 1 + 1) h hl
  have hcz := hco.1
  rw [hrce] at q1
  clear hok hco hm hrce hp hss hs hc hcok hmem
  obtain ⟨kind, cl, seq, key, val, old, node⟩ := c
  generalize activeI m ⟨kind, cl, seq, key, val, old, node⟩ = aI at *
  generalize confsI m ⟨kind, cl, seq, key, val, old, node⟩ = cI at *
  generalize applyS m.st ⟨kind, cl, seq, key, val, old, node⟩ = ap at *
  generalize nextI m ⟨kind, cl, seq, key, val, old, node⟩ = nI at *
  obtain ⟨ix, ac, lc, ⟨z, lp, ls⟩⟩ := m
  simp only at *
  rw [show ix + 2 = ix + 1 + 1 by omega] at hnx
  obtain ⟨s5, ⟨xc, xq, xe, xf, xv, xr⟩, e5⟩ := ap
  simp only at *
  (refine v_enter Tryz.func35 rfl Tryz.ntmps35 rfl ?_; intro B _)
  by_cases h78 : kind = 7 ∨ kind = 8
  · rw [if_neg (fun h => by omega)] at haI
    rw [haI] at hnx
    repeat' (first | (apply v_box (d := 2) (zs := [.int .i64 ix, .int .i64 ac, .slice C lc.length cc, .int .i64 z, .slice A lp.length d, .slice A' ls.length d']); (case hx => rfl); (case hz => rfl); (case hd => rfl); intro b2) | (apply v_box (d := 3) (zs := Cm.cells ⟨kind, cl, seq, key, val, old, node⟩); (case hx => rfl); (case hz => rfl); (case hd => rfl); intro b3) | (apply v_alloc (d := 4); (case hz => rfl); (case hd => rfl); intro b4) | (apply v_alloc (d := 5); (case hz => rfl); (case hd => rfl); intro b5) | (apply v_alloc (d := 7); (case hz => rfl); (case hd => rfl); intro b7) | apply v_seq | apply v_region | apply v_nil | (apply v_take; (case hg => rfl)) | (apply v_pass; (case hg => rfl); (case hn => rfl); (case hd => rfl)) | (apply v_pure; (case hop => first | (apply p_move <;> rfl) | (apply p_eq <;> rfl) | (apply p_assign <;> rfl) | (apply p_pickT <;> rfl) | (apply p_pickF <;> rfl) | (apply p_fieldAddrB <;> rfl) | (apply p_add; (case hx => rfl); (case hy => rfl); (case h => omega)) | (apply p_build; (case hz => rfl); (case hv => (simp only [List.map_cons, List.map_nil]; repeat (first | with_reducible exact evs_nil | (apply evs_cons; (case h1 => rfl))))); (case hb => (apply bldL; repeat (first | exact bld_nil | (apply bld_cons; (case hpf => rfl); (case hc => rfl); (case hs => rfl); (case hl => rfl); (case ho => ((repeat (first | with_reducible exact ov_nil | apply ov_cons)); done))))))) | fail); (case hd => rfl)) | (apply v_condT; (case hc => rfl)) | (apply v_cond; (case hc => rfl); all_goals (intro h; (try simp only [reduceCtorEq, zzz] at h); first | (exfalso; omega) | skip)) | (apply v_guardB; (case h1 => rfl); (case h2 => rfl); all_goals (intro h; (try simp only [reduceCtorEq, zzz] at h))) | (apply v_read; (case hop => (apply r_load1; rfl; (apply Cell.own; (case h => (repeat (first | exact mhd _ | apply mtl))); rfl))); (case hd => rfl)) | (apply v_store; (case hp => rfl); (case hx => rfl); (case hc => rfl); (case hsz => rfl); (case h1 => rfl); (case hb => (repeat (exact mhd _))); (case hfit => exact nle rfl); (case hov => ((repeat (first | with_reducible exact ov_nil | apply ov_cons)); done)); (case hu => repeat (exact Upd.here _ _))) | fail)
    all_goals
      (refine v_call (μ1 := []) rfl q1 (List.Perm.refl _) rfl ?_
       rintro _ G2 _ hle2 ⟨rfl, w, rfl, hw⟩
       obtain ⟨WA, wc, rfl, -⟩ := id hw.open
       by_cases hz : (changedL (lastC lc).2 kind node).length ≠ 0
       · rw [if_pos ⟨h78, hzero.2 hz⟩] at hcI
         rw [decide_eq_true hz]
         rw [hceq hz, ← hcI] at hw
         rw [show refChangeL lc (ix + 1) kind node = cI by rw [hceq hz, hcI]]
         have hCx := hw
         clear hw hcI hceq
         repeat' (first | (apply v_read; (case hop => (apply r_loadNo; (case hx => rfl); (case h => repeat (first | exact mhd _ | apply mtl)); (case hd => rfl); (case hn => rfl))); (case hd => rfl)) | apply v_seq | apply v_region | apply v_nil | apply v_skip | (apply v_pass; (case hg => rfl); (case hn => rfl); (case hd => rfl)) | (apply v_pure; (case hop => first | (apply p_move <;> rfl) | (apply p_eq <;> rfl) | (apply p_assign <;> rfl) | (apply p_pickF <;> rfl) | (apply p_fieldAddrB <;> rfl) | (apply p_extract0 <;> rfl) | (apply p_extract1 <;> rfl) | fail); (case hd => rfl)) | (apply v_condT; (case hc => rfl)) | (apply v_condF; (case hc => rfl)) | (apply v_guardB; (case h1 => rfl); (case h2 => rfl); all_goals (intro h; (try simp only [reduceCtorEq, zzz] at h); first | (exfalso; omega) | skip)) | (apply v_read; (case hop => (apply r_load1; rfl; (apply Cell.own; (case h => (repeat (first | exact mhd _ | apply mtl))); rfl))); (case hd => rfl)) | (apply v_store; (case hp => rfl); (case hx => rfl); (case hc => rfl); (case hsz => rfl); (case h1 => rfl); (case hb => (repeat (exact mhd _))); (case hfit => exact nle rfl); (case hov => ((repeat (first | with_reducible exact ov_nil | apply ov_cons)); done)); (case hu => repeat (exact Upd.here _ _))) | fail)
         refine v_call (μ1 := []) rfl (q2 G2 hle2) (List.Perm.refl _) rfl ?_
         rintro _ G3 _ - ⟨hle3, rfl, v3, rfl, hs3⟩
         obtain ⟨A3, c3, A3', c3', rfl, -, -⟩ := id hs3
         repeat' (first | (apply v_alloc (d := 10); (case hz => rfl); (case hd => rfl); intro b10) | (apply v_alloc (d := 11); (case hz => rfl); (case hd => rfl); intro b11) | (apply v_read; (case hop => (apply r_loadNo; (case hx => rfl); (case h => repeat (first | exact mhd _ | apply mtl)); (case hd => rfl); (case hn => rfl))); (case hd => rfl)) | apply v_seq | apply v_region | apply v_nil | (apply v_pure; (case hop => first | (apply p_move <;> rfl) | (apply p_fieldAddrB <;> rfl) | (apply p_extract0 <;> rfl) | (apply p_extract1 <;> rfl) | (apply p_add; (case hx => rfl); (case hy => rfl); (case h => omega)) | fail); (case hd => rfl)) | (apply v_read; (case hop => (apply r_load1; rfl; (apply Cell.own; (case h => (repeat (first | exact mhd _ | apply mtl))); rfl))); (case hd => rfl)) | (apply v_store; (case hp => rfl); (case hx => rfl); (case hc => rfl); (case hsz => rfl); (case h1 => rfl); (case hb => (repeat (first | exact mhd _ | apply mtl))); (case hfit => exact nle rfl); (case hov => (first | ((repeat (first | with_reducible exact ov_nil | apply ov_cons)); done) | rfl)); (case hu => repeat (first | exact Upd.here _ _ | apply Upd.there))) | fail)
         refine v_call (μ1 := []) rfl (q3 G3 cI _ (hCx.le hle3) (by omega)) (List.Perm.refl _) rfl ?_
         rintro _ G4 _ hle4 ⟨rfl, hC4⟩
         obtain ⟨A4, c4, rfl, -⟩ := id hC4.open
         repeat' (first | apply v_seq | apply v_nil | (apply v_pure; (case hop => (apply p_fieldAddrB <;> rfl)); (case hd => rfl)) | (apply v_store; (case hp => rfl); (case hx => rfl); (case hc => rfl); (case hsz => rfl); (case h1 => rfl); (case hb => (repeat (first | exact mhd _ | apply mtl))); (case hfit => exact nle rfl); (case hov => ((repeat (first | with_reducible exact ov_nil | apply ov_cons)); done)); (case hu => repeat (first | exact Upd.here _ _ | apply Upd.there))) | fail)
         refine d_start [(b7, .cells [.int .i64 (ix + 1), .int .i64 ac, .slice A4 (trimL cI (ix + 1 + 1)).length c4, .int .i64 s5.schema, .slice A3 s5.pairs.length c3, .slice A3' s5.sess.length c3'].toArray 47 (0, 0)), (b11, .cells [.int .i64 xc, .int .i64 xq, .int .i64 xe, .bool xf, .string xv, .int .i64 xr].toArray 40 (0, 0))] (by kernel_rfl) (by kernel_rfl) (by kernel_rfl) (by intro e he; (simp only [List.mem_cons, List.not_mem_nil, or_false] at he; rcases he with rfl | rfl <;> simp; done)) ?_
         all_goals (apply dtk 0; (case hi => rfl); (case hop => first | (apply r_loadNo; (case hx => rfl); (case h => (repeat (exact mhd _))); (case hd => (repeat (first | with_reducible exact dt_nil | apply dt_here))); (case hn => rfl)) | (apply r_load1; rfl; (apply Cell.own; (case h => (repeat (fail))); rfl)) | (apply r_loadN; rfl; (apply CellsAt.own; (case h => (repeat (fail)))); rfl)); (case hq => kernel_rfl))
         all_goals (apply dtk 1; (case hi => rfl); (case hop => first | (apply r_loadNo; (case hx => rfl); (case h => (repeat (first | exact mhd _ | apply mtl))); (case hd => (repeat (first | with_reducible exact dt_nil | apply dt_here))); (case hn => rfl)) | (apply r_load1; rfl; (apply Cell.own; (case h => (repeat (fail))); rfl)) | (apply r_loadN; rfl; (apply CellsAt.own; (case h => (repeat (fail)))); rfl)); (case hq => kernel_rfl))
         all_goals (apply d_store 2; (case hi => rfl); (case hr => kernel_rfl); (case hL => infer_instance); (case hp => rfl); (case hx => rfl); (case hc => rfl); (case hsz => rfl); (case h1 => rfl); (case hb => (repeat (first | exact mhd _ | apply mtl))); (case hfit => exact nle rfl); (case hov => ((repeat (first | with_reducible exact ov_nil | apply ov_cons)); done)); (case hu => repeat (first | exact Upd.here _ _ | apply Upd.there)); (case hν' => intro e he; (simp only [List.mem_cons, List.not_mem_nil, or_false] at he; rcases he with rfl | rfl <;> simp; done)))
         all_goals (apply d_store 3; (case hi => rfl); (case hr => kernel_rfl); (case hL => infer_instance); (case hp => rfl); (case hx => rfl); (case hc => rfl); (case hsz => rfl); (case h1 => rfl); (case hb => (repeat (first | exact mhd _ | apply mtl))); (case hfit => exact nle rfl); (case hov => ((repeat (first | with_reducible exact ov_nil | apply ov_cons)); done)); (case hu => repeat (first | exact Upd.here _ _ | apply Upd.there)); (case hν' => intro e he; (simp only [List.mem_cons, List.not_mem_nil, or_false] at he; rcases he with rfl | rfl <;> simp; done)))
         all_goals (apply d_done; (case hr => kernel_rfl))
         repeat' (fail)
         refine v_retM [] (outsM_cc (sz0 := 6) (vs0 := [.int .i64 (ix + 1), .int .i64 ac, .slice A4 (trimL cI (ix + 1 + 1)).length c4, .int .i64 s5.schema, .slice A3 s5.pairs.length c3, .slice A3' s5.sess.length c3']) (e0 := 47) (sz1 := 6) (vs1 := [.int .i64 xc, .int .i64 xq, .int .i64 xe, .bool xf, .string xv, .int .i64 xr]) (e1 := 40) rfl rfl (by repeat (first | exact mhd _ | apply mtl)) rfl rfl (by repeat (first | exact mhd _ | apply mtl)) rfl) (List.nil_sublist _) ⟨rfl, _, rfl, ?_⟩
         rw [hnx]
         exact ImV.mk' (l := trimL cI (ix + 1 + 1)) (s := s5) hC4 (hs3.up hle4)
       · rw [if_neg (fun h => hz (hzero.1 h.2))] at hcI
         rw [decide_eq_false hz]
         have hCx := hC.le hle2
         rw [hcI] at hnx
         repeat' (first | (apply v_read; (case hop => (apply r_loadNo; (case hx => rfl); (case h => repeat (first | exact mhd _ | apply mtl)); (case hd => rfl); (case hn => rfl))); (case hd => rfl)) | apply v_seq | apply v_region | apply v_nil | apply v_skip | (apply v_pass; (case hg => rfl); (case hn => rfl); (case hd => rfl)) | (apply v_pure; (case hop => first | (apply p_move <;> rfl) | (apply p_eq <;> rfl) | (apply p_assign <;> rfl) | (apply p_pickF <;> rfl) | (apply p_fieldAddrB <;> rfl) | (apply p_extract0 <;> rfl) | (apply p_extract1 <;> rfl) | fail); (case hd => rfl)) | (apply v_condF; (case hc => rfl)) | (apply v_guardB; (case h1 => rfl); (case h2 => rfl); all_goals (intro h; (try simp only [reduceCtorEq, zzz] at h); first | (exfalso; omega) | skip)) | (apply v_read; (case hop => (apply r_load1; rfl; (apply Cell.own; (case h => (repeat (first | exact mhd _ | apply mtl))); rfl))); (case hd => rfl)) | fail)
         refine v_call (μ1 := []) rfl (q2 G2 hle2) (List.Perm.refl _) rfl ?_
         rintro _ G3 _ - ⟨hle3, rfl, v3, rfl, hs3⟩
         obtain ⟨A3, c3, A3', c3', rfl, -, -⟩ := id hs3
         repeat' (first | (apply v_alloc (d := 10); (case hz => rfl); (case hd => rfl); intro b10) | (apply v_alloc (d := 11); (case hz => rfl); (case hd => rfl); intro b11) | (apply v_read; (case hop => (apply r_loadNo; (case hx => rfl); (case h => repeat (first | exact mhd _ | apply mtl)); (case hd => rfl); (case hn => rfl))); (case hd => rfl)) | apply v_seq | apply v_region | apply v_nil | (apply v_pure; (case hop => first | (apply p_move <;> rfl) | (apply p_fieldAddrB <;> rfl) | (apply p_extract0 <;> rfl) | (apply p_extract1 <;> rfl) | (apply p_add; (case hx => rfl); (case hy => rfl); (case h => omega)) | fail); (case hd => rfl)) | (apply v_read; (case hop => (apply r_load1; rfl; (apply Cell.own; (case h => (repeat (first | exact mhd _ | apply mtl))); rfl))); (case hd => rfl)) | (apply v_store; (case hp => rfl); (case hx => rfl); (case hc => rfl); (case hsz => rfl); (case h1 => rfl); (case hb => (repeat (first | exact mhd _ | apply mtl))); (case hfit => exact nle rfl); (case hov => (first | ((repeat (first | with_reducible exact ov_nil | apply ov_cons)); done) | rfl)); (case hu => repeat (first | exact Upd.here _ _ | apply Upd.there))) | fail)
         refine v_call (μ1 := []) rfl (q3 G3 lc _ (hCx.le hle3) (by omega)) (List.Perm.refl _) rfl ?_
         rintro _ G4 _ hle4 ⟨rfl, hC4⟩
         obtain ⟨A4, c4, rfl, -⟩ := id hC4.open
         repeat' (first | apply v_seq | apply v_nil | (apply v_pure; (case hop => (apply p_fieldAddrB <;> rfl)); (case hd => rfl)) | (apply v_store; (case hp => rfl); (case hx => rfl); (case hc => rfl); (case hsz => rfl); (case h1 => rfl); (case hb => (repeat (first | exact mhd _ | apply mtl))); (case hfit => exact nle rfl); (case hov => ((repeat (first | with_reducible exact ov_nil | apply ov_cons)); done)); (case hu => repeat (first | exact Upd.here _ _ | apply Upd.there))) | fail)
         refine d_start [(b7, .cells [.int .i64 (ix + 1), .int .i64 ac, .slice A4 (trimL lc (ix + 1 + 1)).length c4, .int .i64 s5.schema, .slice A3 s5.pairs.length c3, .slice A3' s5.sess.length c3'].toArray 47 (0, 0)), (b11, .cells [.int .i64 xc, .int .i64 xq, .int .i64 xe, .bool xf, .string xv, .int .i64 xr].toArray 40 (0, 0))] (by kernel_rfl) (by kernel_rfl) (by kernel_rfl) (by intro e he; (simp only [List.mem_cons, List.not_mem_nil, or_false] at he; rcases he with rfl | rfl <;> simp; done)) ?_
         all_goals (apply dtk 0; (case hi => rfl); (case hop => first | (apply r_loadNo; (case hx => rfl); (case h => (repeat (exact mhd _))); (case hd => (repeat (first | with_reducible exact dt_nil | apply dt_here))); (case hn => rfl)) | (apply r_load1; rfl; (apply Cell.own; (case h => (repeat (fail))); rfl)) | (apply r_loadN; rfl; (apply CellsAt.own; (case h => (repeat (fail)))); rfl)); (case hq => kernel_rfl))
         all_goals (apply dtk 1; (case hi => rfl); (case hop => first | (apply r_loadNo; (case hx => rfl); (case h => (repeat (first | exact mhd _ | apply mtl))); (case hd => (repeat (first | with_reducible exact dt_nil | apply dt_here))); (case hn => rfl)) | (apply r_load1; rfl; (apply Cell.own; (case h => (repeat (fail))); rfl)) | (apply r_loadN; rfl; (apply CellsAt.own; (case h => (repeat (fail)))); rfl)); (case hq => kernel_rfl))
         all_goals (apply d_store 2; (case hi => rfl); (case hr => kernel_rfl); (case hL => infer_instance); (case hp => rfl); (case hx => rfl); (case hc => rfl); (case hsz => rfl); (case h1 => rfl); (case hb => (repeat (first | exact mhd _ | apply mtl))); (case hfit => exact nle rfl); (case hov => ((repeat (first | with_reducible exact ov_nil | apply ov_cons)); done)); (case hu => repeat (first | exact Upd.here _ _ | apply Upd.there)); (case hν' => intro e he; (simp only [List.mem_cons, List.not_mem_nil, or_false] at he; rcases he with rfl | rfl <;> simp; done)))
         all_goals (apply d_store 3; (case hi => rfl); (case hr => kernel_rfl); (case hL => infer_instance); (case hp => rfl); (case hx => rfl); (case hc => rfl); (case hsz => rfl); (case h1 => rfl); (case hb => (repeat (first | exact mhd _ | apply mtl))); (case hfit => exact nle rfl); (case hov => ((repeat (first | with_reducible exact ov_nil | apply ov_cons)); done)); (case hu => repeat (first | exact Upd.here _ _ | apply Upd.there)); (case hν' => intro e he; (simp only [List.mem_cons, List.not_mem_nil, or_false] at he; rcases he with rfl | rfl <;> simp; done)))
         all_goals (apply d_done; (case hr => kernel_rfl))
         repeat' (fail)
         refine v_retM [] (outsM_cc (sz0 := 6) (vs0 := [.int .i64 (ix + 1), .int .i64 ac, .slice A4 (trimL lc (ix + 1 + 1)).length c4, .int .i64 s5.schema, .slice A3 s5.pairs.length c3, .slice A3' s5.sess.length c3']) (e0 := 47) (sz1 := 6) (vs1 := [.int .i64 xc, .int .i64 xq, .int .i64 xe, .bool xf, .string xv, .int .i64 xr]) (e1 := 40) rfl rfl (by repeat (first | exact mhd _ | apply mtl)) rfl rfl (by repeat (first | exact mhd _ | apply mtl)) rfl) (List.nil_sublist _) ⟨rfl, _, rfl, ?_⟩
         rw [hnx]
         exact ImV.mk' (l := trimL lc (ix + 1 + 1)) (s := s5) hC4 (hs3.up hle4)
       )
  · rw [if_neg (fun h => h78 h.1)] at hcI
    rw [hcI] at hnx
    have hCx := hC
    have hle2 := GH.le_refl G
    obtain ⟨G2, hG2⟩ : ∃ G2, G2 = G := ⟨_, rfl⟩
    subst hG2
    by_cases h6 : kind = 6 ∧ ac = 0
    · rw [if_pos h6] at haI
      obtain ⟨h6, h0⟩ := h6
      rw [haI] at hnx
      repeat' (first | (apply v_box (d := 2) (zs := [.int .i64 ix, .int .i64 ac, .slice C lc.length cc, .int .i64 z, .slice A lp.length d, .slice A' ls.length d']); (case hx => rfl); (case hz => rfl); (case hd => rfl); intro b2) | (apply v_box (d := 3) (zs := Cm.cells ⟨kind, cl, seq, key, val, old, node⟩); (case hx => rfl); (case hz => rfl); (case hd => rfl); intro b3) | (apply v_alloc (d := 4); (case hz => rfl); (case hd => rfl); intro b4) | (apply v_alloc (d := 5); (case hz => rfl); (case hd => rfl); intro b5) | (apply v_alloc (d := 7); (case hz => rfl); (case hd => rfl); intro b7) | (apply v_read; (case hop => (apply r_loadNo; (case hx => rfl); (case h => repeat (first | exact mhd _ | apply mtl)); (case hd => rfl); (case hn => rfl))); (case hd => rfl)) | apply v_seq | apply v_region | apply v_nil | apply v_skip | (apply v_take; (case hg => rfl)) | (apply v_pure; (case hop => first | (apply p_move <;> rfl) | (apply p_eq <;> rfl) | (apply p_assign <;> rfl) | (apply p_pickT <;> rfl) | (apply p_pickF <;> rfl) | (apply p_fieldAddrB <;> rfl) | (apply p_add; (case hx => rfl); (case hy => rfl); (case h => omega)) | (apply p_build; (case hz => rfl); (case hv => (simp only [List.map_cons, List.map_nil]; repeat (first | with_reducible exact evs_nil | (apply evs_cons; (case h1 => rfl))))); (case hb => (apply bldL; repeat (first | exact bld_nil | (apply bld_cons; (case hpf => rfl); (case hc => rfl); (case hs => rfl); (case hl => rfl); (case ho => ((repeat (first | with_reducible exact ov_nil | apply ov_cons)); done))))))) | fail); (case hd => rfl)) | (apply v_cond; (case hc => rfl); all_goals (intro h; (try simp only [reduceCtorEq, zzz] at h); first | (exfalso; omega) | skip)) | (apply v_guardB; (case h1 => rfl); (case h2 => rfl); all_goals (intro h; (try simp only [reduceCtorEq, zzz] at h); first | (exfalso; omega) | skip)) | (apply v_read; (case hop => (apply r_load1; rfl; (apply Cell.own; (case h => (repeat (first | exact mhd _ | apply mtl))); rfl))); (case hd => rfl)) | (apply v_store; (case hp => rfl); (case hx => rfl); (case hc => rfl); (case hsz => rfl); (case h1 => rfl); (case hb => (repeat (exact mhd _))); (case hfit => exact nle rfl); (case hov => ((repeat (first | with_reducible exact ov_nil | apply ov_cons)); done)); (case hu => repeat (exact Upd.here _ _))) | fail)
      refine v_call (μ1 := []) rfl (q2 G2 hle2) (List.Perm.refl _) rfl ?_
      rintro _ G3 _ - ⟨hle3, rfl, v3, rfl, hs3⟩
      obtain ⟨A3, c3, A3', c3', rfl, -, -⟩ := id hs3
      repeat' (first | (apply v_alloc (d := 10); (case hz => rfl); (case hd => rfl); intro b10) | (apply v_alloc (d := 11); (case hz => rfl); (case hd => rfl); intro b11) | (apply v_read; (case hop => (apply r_loadNo; (case hx => rfl); (case h => repeat (first | exact mhd _ | apply mtl)); (case hd => rfl); (case hn => rfl))); (case hd => rfl)) | apply v_seq | apply v_region | apply v_nil | (apply v_pure; (case hop => first | (apply p_move <;> rfl) | (apply p_fieldAddrB <;> rfl) | (apply p_extract0 <;> rfl) | (apply p_extract1 <;> rfl) | (apply p_add; (case hx => rfl); (case hy => rfl); (case h => omega)) | fail); (case hd => rfl)) | (apply v_read; (case hop => (apply r_load1; rfl; (apply Cell.own; (case h => (repeat (first | exact mhd _ | apply mtl))); rfl))); (case hd => rfl)) | (apply v_store; (case hp => rfl); (case hx => rfl); (case hc => rfl); (case hsz => rfl); (case h1 => rfl); (case hb => (repeat (first | exact mhd _ | apply mtl))); (case hfit => exact nle rfl); (case hov => (first | ((repeat (first | with_reducible exact ov_nil | apply ov_cons)); done) | rfl)); (case hu => repeat (first | exact Upd.here _ _ | apply Upd.there))) | fail)
      refine v_call (μ1 := []) rfl (q3 G3 lc _ (hCx.le hle3) (by omega)) (List.Perm.refl _) rfl ?_
      rintro _ G4 _ hle4 ⟨rfl, hC4⟩
      obtain ⟨A4, c4, rfl, -⟩ := id hC4.open
      repeat' (first | apply v_seq | apply v_nil | (apply v_pure; (case hop => (apply p_fieldAddrB <;> rfl)); (case hd => rfl)) | (apply v_store; (case hp => rfl); (case hx => rfl); (case hc => rfl); (case hsz => rfl); (case h1 => rfl); (case hb => (repeat (first | exact mhd _ | apply mtl))); (case hfit => exact nle rfl); (case hov => ((repeat (first | with_reducible exact ov_nil | apply ov_cons)); done)); (case hu => repeat (first | exact Upd.here _ _ | apply Upd.there))) | fail)
      refine d_start [(b7, .cells [.int .i64 (ix + 1), .int .i64 (ix + 1), .slice A4 (trimL lc (ix + 1 + 1)).length c4, .int .i64 s5.schema, .slice A3 s5.pairs.length c3, .slice A3' s5.sess.length c3'].toArray 47 (0, 0)), (b11, .cells [.int .i64 xc, .int .i64 xq, .int .i64 xe, .bool xf, .string xv, .int .i64 xr].toArray 40 (0, 0))] (by kernel_rfl) (by kernel_rfl) (by kernel_rfl) (by intro e he; (simp only [List.mem_cons, List.not_mem_nil, or_false] at he; rcases he with rfl | rfl <;> simp; done)) ?_
      all_goals (apply dtk 0; (case hi => rfl); (case hop => first | (apply r_loadNo; (case hx => rfl); (case h => (repeat (exact mhd _))); (case hd => (repeat (first | with_reducible exact dt_nil | apply dt_here))); (case hn => rfl)) | (apply r_load1; rfl; (apply Cell.own; (case h => (repeat (fail))); rfl)) | (apply r_loadN; rfl; (apply CellsAt.own; (case h => (repeat (fail)))); rfl)); (case hq => kernel_rfl))
      all_goals (apply dtk 1; (case hi => rfl); (case hop => first | (apply r_loadNo; (case hx => rfl); (case h => (repeat (first | exact mhd _ | apply mtl))); (case hd => (repeat (first | with_reducible exact dt_nil | apply dt_here))); (case hn => rfl)) | (apply r_load1; rfl; (apply Cell.own; (case h => (repeat (fail))); rfl)) | (apply r_loadN; rfl; (apply CellsAt.own; (case h => (repeat (fail)))); rfl)); (case hq => kernel_rfl))
      all_goals (apply d_store 2; (case hi => rfl); (case hr => kernel_rfl); (case hL => infer_instance); (case hp => rfl); (case hx => rfl); (case hc => rfl); (case hsz => rfl); (case h1 => rfl); (case hb => (repeat (first | exact mhd _ | apply mtl))); (case hfit => exact nle rfl); (case hov => ((repeat (first | with_reducible exact ov_nil | apply ov_cons)); done)); (case hu => repeat (first | exact Upd.here _ _ | apply Upd.there)); (case hν' => intro e he; (simp only [List.mem_cons, List.not_mem_nil, or_false] at he; rcases he with rfl | rfl <;> simp; done)))
      all_goals (apply d_store 3; (case hi => rfl); (case hr => kernel_rfl); (case hL => infer_instance); (case hp => rfl); (case hx => rfl); (case hc => rfl); (case hsz => rfl); (case h1 => rfl); (case hb => (repeat (first | exact mhd _ | apply mtl))); (case hfit => exact nle rfl); (case hov => ((repeat (first | with_reducible exact ov_nil | apply ov_cons)); done)); (case hu => repeat (first | exact Upd.here _ _ | apply Upd.there)); (case hν' => intro e he; (simp only [List.mem_cons, List.not_mem_nil, or_false] at he; rcases he with rfl | rfl <;> simp; done)))
      all_goals (apply d_done; (case hr => kernel_rfl))
      repeat' (fail)
      refine v_retM [] (outsM_cc (sz0 := 6) (vs0 := [.int .i64 (ix + 1), .int .i64 (ix + 1), .slice A4 (trimL lc (ix + 1 + 1)).length c4, .int .i64 s5.schema, .slice A3 s5.pairs.length c3, .slice A3' s5.sess.length c3']) (e0 := 47) (sz1 := 6) (vs1 := [.int .i64 xc, .int .i64 xq, .int .i64 xe, .bool xf, .string xv, .int .i64 xr]) (e1 := 40) rfl rfl (by repeat (first | exact mhd _ | apply mtl)) rfl rfl (by repeat (first | exact mhd _ | apply mtl)) rfl) (List.nil_sublist _) ⟨rfl, _, rfl, ?_⟩
      rw [hnx]
      exact ImV.mk' (l := trimL lc (ix + 1 + 1)) (s := s5) hC4 (hs3.up hle4)
    · rw [if_neg h6] at haI
      rw [haI] at hnx
      by_cases h6' : kind = 6
      · have h0 : ¬ ac = 0 := fun h => h6 ⟨h6', h⟩
        repeat' (first | (apply v_box (d := 2) (zs := [.int .i64 ix, .int .i64 ac, .slice C lc.length cc, .int .i64 z, .slice A lp.length d, .slice A' ls.length d']); (case hx => rfl); (case hz => rfl); (case hd => rfl); intro b2) | (apply v_box (d := 3) (zs := Cm.cells ⟨kind, cl, seq, key, val, old, node⟩); (case hx => rfl); (case hz => rfl); (case hd => rfl); intro b3) | (apply v_alloc (d := 4); (case hz => rfl); (case hd => rfl); intro b4) | (apply v_alloc (d := 5); (case hz => rfl); (case hd => rfl); intro b5) | (apply v_alloc (d := 7); (case hz => rfl); (case hd => rfl); intro b7) | (apply v_read; (case hop => (apply r_loadNo; (case hx => rfl); (case h => repeat (first | exact mhd _ | apply mtl)); (case hd => rfl); (case hn => rfl))); (case hd => rfl)) | apply v_seq | apply v_region | apply v_nil | apply v_skip | (apply v_take; (case hg => rfl)) | (apply v_pure; (case hop => first | (apply p_move <;> rfl) | (apply p_eq <;> rfl) | (apply p_assign <;> rfl) | (apply p_pickT <;> rfl) | (apply p_pickF <;> rfl) | (apply p_fieldAddrB <;> rfl) | (apply p_add; (case hx => rfl); (case hy => rfl); (case h => omega)) | (apply p_build; (case hz => rfl); (case hv => (simp only [List.map_cons, List.map_nil]; repeat (first | with_reducible exact evs_nil | (apply evs_cons; (case h1 => rfl))))); (case hb => (apply bldL; repeat (first | exact bld_nil | (apply bld_cons; (case hpf => rfl); (case hc => rfl); (case hs => rfl); (case hl => rfl); (case ho => ((repeat (first | with_reducible exact ov_nil | apply ov_cons)); done))))))) | fail); (case hd => rfl)) | (apply v_cond; (case hc => rfl); all_goals (intro h; (try simp only [reduceCtorEq, zzz] at h); first | (exfalso; omega) | skip)) | (apply v_guardB; (case h1 => rfl); (case h2 => rfl); all_goals (intro h; (try simp only [reduceCtorEq, zzz] at h); first | (exfalso; omega) | skip)) | (apply v_read; (case hop => (apply r_load1; rfl; (apply Cell.own; (case h => (repeat (first | exact mhd _ | apply mtl))); rfl))); (case hd => rfl)) | (apply v_store; (case hp => rfl); (case hx => rfl); (case hc => rfl); (case hsz => rfl); (case h1 => rfl); (case hb => (repeat (exact mhd _))); (case hfit => exact nle rfl); (case hov => ((repeat (first | with_reducible exact ov_nil | apply ov_cons)); done)); (case hu => repeat (exact Upd.here _ _))) | fail)
        refine v_call (μ1 := []) rfl (q2 G2 hle2) (List.Perm.refl _) rfl ?_
        rintro _ G3 _ - ⟨hle3, rfl, v3, rfl, hs3⟩
        obtain ⟨A3, c3, A3', c3', rfl, -, -⟩ := id hs3
        repeat' (first | (apply v_alloc (d := 10); (case hz => rfl); (case hd => rfl); intro b10) | (apply v_alloc (d := 11); (case hz => rfl); (case hd => rfl); intro b11) | (apply v_read; (case hop => (apply r_loadNo; (case hx => rfl); (case h => repeat (first | exact mhd _ | apply mtl)); (case hd => rfl); (case hn => rfl))); (case hd => rfl)) | apply v_seq | apply v_region | apply v_nil | (apply v_pure; (case hop => first | (apply p_move <;> rfl) | (apply p_fieldAddrB <;> rfl) | (apply p_extract0 <;> rfl) | (apply p_extract1 <;> rfl) | (apply p_add; (case hx => rfl); (case hy => rfl); (case h => omega)) | fail); (case hd => rfl)) | (apply v_read; (case hop => (apply r_load1; rfl; (apply Cell.own; (case h => (repeat (first | exact mhd _ | apply mtl))); rfl))); (case hd => rfl)) | (apply v_store; (case hp => rfl); (case hx => rfl); (case hc => rfl); (case hsz => rfl); (case h1 => rfl); (case hb => (repeat (first | exact mhd _ | apply mtl))); (case hfit => exact nle rfl); (case hov => (first | ((repeat (first | with_reducible exact ov_nil | apply ov_cons)); done) | rfl)); (case hu => repeat (first | exact Upd.here _ _ | apply Upd.there))) | fail)
        refine v_call (μ1 := []) rfl (q3 G3 lc _ (hCx.le hle3) (by omega)) (List.Perm.refl _) rfl ?_
        rintro _ G4 _ hle4 ⟨rfl, hC4⟩
        obtain ⟨A4, c4, rfl, -⟩ := id hC4.open
        repeat' (first | apply v_seq | apply v_nil | (apply v_pure; (case hop => (apply p_fieldAddrB <;> rfl)); (case hd => rfl)) | (apply v_store; (case hp => rfl); (case hx => rfl); (case hc => rfl); (case hsz => rfl); (case h1 => rfl); (case hb => (repeat (first | exact mhd _ | apply mtl))); (case hfit => exact nle rfl); (case hov => ((repeat (first | with_reducible exact ov_nil | apply ov_cons)); done)); (case hu => repeat (first | exact Upd.here _ _ | apply Upd.there))) | fail)
        refine d_start [(b7, .cells [.int .i64 (ix + 1), .int .i64 ac, .slice A4 (trimL lc (ix + 1 + 1)).length c4, .int .i64 s5.schema, .slice A3 s5.pairs.length c3, .slice A3' s5.sess.length c3'].toArray 47 (0, 0)), (b11, .cells [.int .i64 xc, .int .i64 xq, .int .i64 xe, .bool xf, .string xv, .int .i64 xr].toArray 40 (0, 0))] (by kernel_rfl) (by kernel_rfl) (by kernel_rfl) (by intro e he; (simp only [List.mem_cons, List.not_mem_nil, or_false] at he; rcases he with rfl | rfl <;> simp; done)) ?_
        all_goals (apply dtk 0; (case hi => rfl); (case hop => first | (apply r_loadNo; (case hx => rfl); (case h => (repeat (exact mhd _))); (case hd => (repeat (first | with_reducible exact dt_nil | apply dt_here))); (case hn => rfl)) | (apply r_load1; rfl; (apply Cell.own; (case h => (repeat (fail))); rfl)) | (apply r_loadN; rfl; (apply CellsAt.own; (case h => (repeat (fail)))); rfl)); (case hq => kernel_rfl))
        all_goals (apply dtk 1; (case hi => rfl); (case hop => first | (apply r_loadNo; (case hx => rfl); (case h => (repeat (first | exact mhd _ | apply mtl))); (case hd => (repeat (first | with_reducible exact dt_nil | apply dt_here))); (case hn => rfl)) | (apply r_load1; rfl; (apply Cell.own; (case h => (repeat (fail))); rfl)) | (apply r_loadN; rfl; (apply CellsAt.own; (case h => (repeat (fail)))); rfl)); (case hq => kernel_rfl))
        all_goals (apply d_store 2; (case hi => rfl); (case hr => kernel_rfl); (case hL => infer_instance); (case hp => rfl); (case hx => rfl); (case hc => rfl); (case hsz => rfl); (case h1 => rfl); (case hb => (repeat (first | exact mhd _ | apply mtl))); (case hfit => exact nle rfl); (case hov => ((repeat (first | with_reducible exact ov_nil | apply ov_cons)); done)); (case hu => repeat (first | exact Upd.here _ _ | apply Upd.there)); (case hν' => intro e he; (simp only [List.mem_cons, List.not_mem_nil, or_false] at he; rcases he with rfl | rfl <;> simp; done)))
        all_goals (apply d_store 3; (case hi => rfl); (case hr => kernel_rfl); (case hL => infer_instance); (case hp => rfl); (case hx => rfl); (case hc => rfl); (case hsz => rfl); (case h1 => rfl); (case hb => (repeat (first | exact mhd _ | apply mtl))); (case hfit => exact nle rfl); (case hov => ((repeat (first | with_reducible exact ov_nil | apply ov_cons)); done)); (case hu => repeat (first | exact Upd.here _ _ | apply Upd.there)); (case hν' => intro e he; (simp only [List.mem_cons, List.not_mem_nil, or_false] at he; rcases he with rfl | rfl <;> simp; done)))
        all_goals (apply d_done; (case hr => kernel_rfl))
        repeat' (fail)
        refine v_retM [] (outsM_cc (sz0 := 6) (vs0 := [.int .i64 (ix + 1), .int .i64 ac, .slice A4 (trimL lc (ix + 1 + 1)).length c4, .int .i64 s5.schema, .slice A3 s5.pairs.length c3, .slice A3' s5.sess.length c3']) (e0 := 47) (sz1 := 6) (vs1 := [.int .i64 xc, .int .i64 xq, .int .i64 xe, .bool xf, .string xv, .int .i64 xr]) (e1 := 40) rfl rfl (by repeat (first | exact mhd _ | apply mtl)) rfl rfl (by repeat (first | exact mhd _ | apply mtl)) rfl) (List.nil_sublist _) ⟨rfl, _, rfl, ?_⟩
        rw [hnx]
        exact ImV.mk' (l := trimL lc (ix + 1 + 1)) (s := s5) hC4 (hs3.up hle4)
      · repeat' (first | (apply v_box (d := 2) (zs := [.int .i64 ix, .int .i64 ac, .slice C lc.length cc, .int .i64 z, .slice A lp.length d, .slice A' ls.length d']); (case hx => rfl); (case hz => rfl); (case hd => rfl); intro b2) | (apply v_box (d := 3) (zs := Cm.cells ⟨kind, cl, seq, key, val, old, node⟩); (case hx => rfl); (case hz => rfl); (case hd => rfl); intro b3) | (apply v_alloc (d := 4); (case hz => rfl); (case hd => rfl); intro b4) | (apply v_alloc (d := 5); (case hz => rfl); (case hd => rfl); intro b5) | (apply v_alloc (d := 7); (case hz => rfl); (case hd => rfl); intro b7) | (apply v_read; (case hop => (apply r_loadNo; (case hx => rfl); (case h => repeat (first | exact mhd _ | apply mtl)); (case hd => rfl); (case hn => rfl))); (case hd => rfl)) | apply v_seq | apply v_region | apply v_nil | apply v_skip | (apply v_take; (case hg => rfl)) | (apply v_pass; (case hg => rfl); (case hn => rfl); (case hd => rfl)) | (apply v_pure; (case hop => first | (apply p_move <;> rfl) | (apply p_eq <;> rfl) | (apply p_assign <;> rfl) | (apply p_pickF <;> rfl) | (apply p_fieldAddrB <;> rfl) | (apply p_add; (case hx => rfl); (case hy => rfl); (case h => omega)) | (apply p_build; (case hz => rfl); (case hv => (simp only [List.map_cons, List.map_nil]; repeat (first | with_reducible exact evs_nil | (apply evs_cons; (case h1 => rfl))))); (case hb => (apply bldL; repeat (first | exact bld_nil | (apply bld_cons; (case hpf => rfl); (case hc => rfl); (case hs => rfl); (case hl => rfl); (case ho => ((repeat (first | with_reducible exact ov_nil | apply ov_cons)); done))))))) | fail); (case hd => rfl)) | (apply v_condF; (case hc => rfl)) | (apply v_cond; (case hc => rfl); all_goals (intro h; (try simp only [reduceCtorEq, zzz] at h); first | (exfalso; omega) | skip)) | (apply v_guardB; (case h1 => rfl); (case h2 => rfl); all_goals (intro h; (try simp only [reduceCtorEq, zzz] at h); first | (exfalso; omega) | skip)) | (apply v_read; (case hop => (apply r_load1; rfl; (apply Cell.own; (case h => (repeat (first | exact mhd _ | apply mtl))); rfl))); (case hd => rfl)) | (apply v_store; (case hp => rfl); (case hx => rfl); (case hc => rfl); (case hsz => rfl); (case h1 => rfl); (case hb => (repeat (exact mhd _))); (case hfit => exact nle rfl); (case hov => ((repeat (first | with_reducible exact ov_nil | apply ov_cons)); done)); (case hu => repeat (exact Upd.here _ _))) | fail)
        refine v_call (μ1 := []) rfl (q2 G2 hle2) (List.Perm.refl _) rfl ?_
        rintro _ G3 _ - ⟨hle3, rfl, v3, rfl, hs3⟩
        obtain ⟨A3, c3, A3', c3', rfl, -, -⟩ := id hs3
        repeat' (first | (apply v_alloc (d := 10); (case hz => rfl); (case hd => rfl); intro b10) | (apply v_alloc (d := 11); (case hz => rfl); (case hd => rfl); intro b11) | (apply v_read; (case hop => (apply r_loadNo; (case hx => rfl); (case h => repeat (first | exact mhd _ | apply mtl)); (case hd => rfl); (case hn => rfl))); (case hd => rfl)) | apply v_seq | apply v_region | apply v_nil | (apply v_pure; (case hop => first | (apply p_move <;> rfl) | (apply p_fieldAddrB <;> rfl) | (apply p_extract0 <;> rfl) | (apply p_extract1 <;> rfl) | (apply p_add; (case hx => rfl); (case hy => rfl); (case h => omega)) | fail); (case hd => rfl)) | (apply v_read; (case hop => (apply r_load1; rfl; (apply Cell.own; (case h => (repeat (first | exact mhd _ | apply mtl))); rfl))); (case hd => rfl)) | (apply v_store; (case hp => rfl); (case hx => rfl); (case hc => rfl); (case hsz => rfl); (case h1 => rfl); (case hb => (repeat (first | exact mhd _ | apply mtl))); (case hfit => exact nle rfl); (case hov => (first | ((repeat (first | with_reducible exact ov_nil | apply ov_cons)); done) | rfl)); (case hu => repeat (first | exact Upd.here _ _ | apply Upd.there))) | fail)
        refine v_call (μ1 := []) rfl (q3 G3 lc _ (hCx.le hle3) (by omega)) (List.Perm.refl _) rfl ?_
        rintro _ G4 _ hle4 ⟨rfl, hC4⟩
        obtain ⟨A4, c4, rfl, -⟩ := id hC4.open
        repeat' (first | apply v_seq | apply v_nil | (apply v_pure; (case hop => (apply p_fieldAddrB <;> rfl)); (case hd => rfl)) | (apply v_store; (case hp => rfl); (case hx => rfl); (case hc => rfl); (case hsz => rfl); (case h1 => rfl); (case hb => (repeat (first | exact mhd _ | apply mtl))); (case hfit => exact nle rfl); (case hov => ((repeat (first | with_reducible exact ov_nil | apply ov_cons)); done)); (case hu => repeat (first | exact Upd.here _ _ | apply Upd.there))) | fail)
        refine d_start [(b7, .cells [.int .i64 (ix + 1), .int .i64 ac, .slice A4 (trimL lc (ix + 1 + 1)).length c4, .int .i64 s5.schema, .slice A3 s5.pairs.length c3, .slice A3' s5.sess.length c3'].toArray 47 (0, 0)), (b11, .cells [.int .i64 xc, .int .i64 xq, .int .i64 xe, .bool xf, .string xv, .int .i64 xr].toArray 40 (0, 0))] (by kernel_rfl) (by kernel_rfl) (by kernel_rfl) (by intro e he; (simp only [List.mem_cons, List.not_mem_nil, or_false] at he; rcases he with rfl | rfl <;> simp; done)) ?_
        all_goals (apply dtk 0; (case hi => rfl); (case hop => first | (apply r_loadNo; (case hx => rfl); (case h => (repeat (exact mhd _))); (case hd => (repeat (first | with_reducible exact dt_nil | apply dt_here))); (case hn => rfl)) | (apply r_load1; rfl; (apply Cell.own; (case h => (repeat (fail))); rfl)) | (apply r_loadN; rfl; (apply CellsAt.own; (case h => (repeat (fail)))); rfl)); (case hq => kernel_rfl))
        all_goals (apply dtk 1; (case hi => rfl); (case hop => first | (apply r_loadNo; (case hx => rfl); (case h => (repeat (first | exact mhd _ | apply mtl))); (case hd => (repeat (first | with_reducible exact dt_nil | apply dt_here))); (case hn => rfl)) | (apply r_load1; rfl; (apply Cell.own; (case h => (repeat (fail))); rfl)) | (apply r_loadN; rfl; (apply CellsAt.own; (case h => (repeat (fail)))); rfl)); (case hq => kernel_rfl))
        all_goals (apply d_store 2; (case hi => rfl); (case hr => kernel_rfl); (case hL => infer_instance); (case hp => rfl); (case hx => rfl); (case hc => rfl); (case hsz => rfl); (case h1 => rfl); (case hb => (repeat (first | exact mhd _ | apply mtl))); (case hfit => exact nle rfl); (case hov => ((repeat (first | with_reducible exact ov_nil | apply ov_cons)); done)); (case hu => repeat (first | exact Upd.here _ _ | apply Upd.there)); (case hν' => intro e he; (simp only [List.mem_cons, List.not_mem_nil, or_false] at he; rcases he with rfl | rfl <;> simp; done)))
        all_goals (apply d_store 3; (case hi => rfl); (case hr => kernel_rfl); (case hL => infer_instance); (case hp => rfl); (case hx => rfl); (case hc => rfl); (case hsz => rfl); (case h1 => rfl); (case hb => (repeat (first | exact mhd _ | apply mtl))); (case hfit => exact nle rfl); (case hov => ((repeat (first | with_reducible exact ov_nil | apply ov_cons)); done)); (case hu => repeat (first | exact Upd.here _ _ | apply Upd.there)); (case hν' => intro e he; (simp only [List.mem_cons, List.not_mem_nil, or_false] at he; rcases he with rfl | rfl <;> simp; done)))
        all_goals (apply d_done; (case hr => kernel_rfl))
        repeat' (fail)
        refine v_retM [] (outsM_cc (sz0 := 6) (vs0 := [.int .i64 (ix + 1), .int .i64 ac, .slice A4 (trimL lc (ix + 1 + 1)).length c4, .int .i64 s5.schema, .slice A3 s5.pairs.length c3, .slice A3' s5.sess.length c3']) (e0 := 47) (sz1 := 6) (vs1 := [.int .i64 xc, .int .i64 xq, .int .i64 xe, .bool xf, .string xv, .int .i64 xr]) (e1 := 40) rfl rfl (by repeat (first | exact mhd _ | apply mtl)) rfl rfl (by repeat (first | exact mhd _ | apply mtl)) rfl) (List.nil_sublist _) ⟨rfl, _, rfl, ?_⟩
        rw [hnx]
        exact ImV.mk' (l := trimL lc (ix + 1 + 1)) (s := s5) hC4 (hs3.up hle4)
end Go.Proofs.YtmdeeokejdkceaaGreatDoor
