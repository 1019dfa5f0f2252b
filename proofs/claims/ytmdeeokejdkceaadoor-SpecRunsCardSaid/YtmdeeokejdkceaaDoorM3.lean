/-
  The references 22, 23, 25: lists built up; the last answer. (Printed by genW.py.)
-/
import Derived.Test.YtmdeeokejdkceaaDoorM2
set_option linter.unusedSimpArgs false
set_option linter.unusedVariables false
namespace Go.Proofs.YtmdeeokejdkceaaDoor
open Go.Vx Go.ChangeShapes Go.WideShapes Go.ChangeAt Go.RowKit
section
variable {α : Type} {key : α → Int}
def wK (key : α → Int) (l : List α) (p : α) (k : Nat) (d : Bool) : List α := (l.take k).filter (fun x => decide (key x < key p)) ++ (if d = true then p :: (l.take k).filter (fun x => decide (key p < key x)) else [])
theorem wK_zero (l : List α) (p : α) : wK key l p 0 false = [] := by unfold wK; simp
theorem wK_less {l : List α} {p : α} {k : Nat} (hk : k < l.length) (h : key l[k] < key p) : wK key l p k false ++ [l[k]] = wK key l p (k + 1) false := by
  unfold wK
  rw [List.take_succ_eq_append_getElem hk, List.filter_append, List.filter_cons_of_pos (by simpa using h)]
  simp
theorem wK_more {l : List α} {p : α} {k : Nat} (hk : k < l.length) (h : key p < key l[k]) : wK key l p k true ++ [l[k]] = wK key l p (k + 1) true := by
  unfold wK
  rw [List.take_succ_eq_append_getElem hk, List.filter_append, List.filter_append, List.filter_cons_of_neg (by simp; omega), List.filter_cons_of_pos (by simpa using h)]
  simp
theorem wK_same {l : List α} {p : α} {k : Nat} (hk : k < l.length) (h : key l[k] = key p) : wK key l p k true = wK key l p (k + 1) true := by
  unfold wK
  rw [List.take_succ_eq_append_getElem hk, List.filter_append, List.filter_append, List.filter_cons_of_neg (by simp; omega), List.filter_cons_of_neg (by simp; omega)]
  simp
theorem wK_put {l : List α} {p : α} {k : Nat} (h : ∀ i (hi : i < l.length), i < k → key l[i] < key p) : wK key l p k false ++ [p] = wK key l p k true := by
  unfold wK
  have e : (l.take k).filter (fun x => decide (key p < key x)) = [] := List.filter_eq_nil_iff.2 fun x hx => by
    obtain ⟨i, hi, rfl⟩ := List.getElem_of_mem hx
    rw [List.length_take] at hi
    rw [List.getElem_take]
    have := h i (by omega) (by omega)
    simp; omega
  rw [e]; simp
theorem wK_end (l : List α) (p : α) : wK key l p l.length true = withG key l p := by unfold wK withG; rw [List.take_length, if_pos rfl]
theorem wK_len (l : List α) (p : α) (k : Nat) (d : Bool) : (wK key l p k d).length ≤ 2 * k + 1 := by
  unfold wK
  have h1 := List.length_filter_le (fun x => decide (key x < key p)) (l.take k)
  have h2 := List.length_filter_le (fun x => decide (key p < key x)) (l.take k)
  have h3 : (l.take k).length ≤ k := by rw [List.length_take]; omega
  rw [List.length_append]
  split
  · rw [List.length_cons]; omega
  · rw [List.length_nil]; omega
end
theorem GrP.snoc {v : Value} {l : List Pr} {a : Pr} {ν : OH} (h : Grow 85 3 v (l.length + 1) (rowC Pr.cells l ++ a.cells) ν) : GrP v (l ++ [a]) ν := by
  unfold GrP
  rw [List.length_append, List.length_singleton, rowC_append, rowC_cons, rowC_nil, List.append_nil]
  exact h
theorem GrS.snoc {v : Value} {l : List Ss} {a : Ss} {ν : OH} (h : Grow 87 8 v (l.length + 1) (rowC Ss.cells l ++ a.cells) ν) : GrS v (l ++ [a]) ν := by
  unfold GrS
  rw [List.length_append, List.length_singleton, rowC_append, rowC_cons, rowC_nil, List.append_nil]
  exact h
theorem refSWith_s {G : GH} {l : List Ss} {sv : Value} (a : An) (hs : Sss G sv l) (hr : RiseW ksS l) (hn : l.length ≤ 200) : Con Tryd.prog 57 #[sv, .agg a.cells.toArray] G [] (fun r G' μ' => GH.le G G' ∧ μ' = [] ∧ Sss G' r (withG ksS l (sesOf a))) := by
  obtain ⟨A, c, rfl, hlc, hcm, hsome, hcp⟩ := rowOpen hs
  simp only [maxLen] at hcm
  have hrg := riseG_pw.2 hr
  have hkp : ksS (sesOf a) = a.client := rfl
  generalize hpp : sesOf a = p at *
  obtain ⟨ac, aq, ae, af, av5, ar⟩ := a
  subst hpp
  (refine v_enter Tryd.func57 rfl Tryd.ntmps57 rfl ?_; intro B _)
  repeat' (first | (apply v_box (zs := An.cells ⟨ac, aq, ae, af, av5, ar⟩); (case hx => rfl); (case hz => rfl); (case hd => rfl); intro b3) | apply v_seq | apply v_region | apply v_nil | apply v_block | (apply v_pure; (case hop => (apply p_assign <;> rfl)); (case hd => rfl)) | fail)
  refine v_loop [7, 0, 5, 6, 3] (fun us G' μ' => G' = G ∧ ∃ (k : Nat) (d : Bool) (av : Value) (ν : OH), k ≤ l.length ∧ us = [Value.int .i64 (k : Nat), .slice A l.length c, av, .bool d, .pointer (some ⟨b3, 0, none⟩)] ∧ μ' = [(b3, .cells [.int .i64 ac, .int .i64 aq, .int .i64 ae, .bool af, .string av5, .int .i64 ar].toArray 29 (0, 0))] ++ ν ∧ GrS av (wK ksS l (sesOf ⟨ac, aq, ae, af, av5, ar⟩) k d) ν ∧ (d = false → ∀ i (hi : i < l.length), i < k → ksS l[i] < ksS (sesOf ⟨ac, aq, ae, af, av5, ar⟩)) ∧ (d = true → ∀ i (hi : i < l.length), k ≤ i → ksS (sesOf ⟨ac, aq, ae, af, av5, ar⟩) < ksS l[i])) (fun us => l.length - (headI us).toNat) rfl ⟨rfl, 0, false, .slice none 0 0, [], by omega, rfl, rfl, by rw [wK_zero]; exact Grow.nil _ _, fun _ i hi h => by omega, fun h => by cases h⟩ ?_
  rintro us G' _ ⟨hG', k, d, av, ν, hk, rfl, rfl, hga, hd0, hd1⟩
  subst hG'
  have hwl := wK_len (key := ksS) l (sesOf ⟨ac, aq, ae, af, av5, ar⟩) k d
  by_cases hlt : k < l.length
  · have e1 : ((k : Nat) : Int).toNat = k := by omega
    have hA := hsome (by omega)
    have hck := hcp k hlt
    have hup : ∀ i (hi : i < l.length), k + 1 ≤ i → ksS l[k] < ksS l[i] := fun i hi h => hrg k i hi (by omega)
    rcases Int.lt_trichotomy (ksS l[k]) (ksS (sesOf ⟨ac, aq, ae, af, av5, ar⟩)) with hlt1 | heq | hgt
    · have ew := wK_less (key := ksS) (l := l) (p := (sesOf ⟨ac, aq, ae, af, av5, ar⟩)) hlt hlt1
      have hd0' : ∀ i (hi : i < l.length), i < k + 1 → ksS l[i] < ksS (sesOf ⟨ac, aq, ae, af, av5, ar⟩) := fun i hi h => by
        by_cases e : i = k
        · subst e; exact hlt1
        · cases d with
          | false => exact hd0 rfl i hi (by omega)
          | true => have := hd1 rfl k hlt (Nat.le_refl _); omega
      cases d with
      | true => have := hd1 rfl k hlt (Nat.le_refl _); omega
      | false =>
        clear hup hd0 hd1
        generalize l[k] = x at *
        obtain ⟨xc, xs, ⟨lc, ls, le, lf, lv, lr⟩⟩ := x
        have hc0 := hck.cell (j := 0) rfl
        simp only [ksS, hkp] at hlt1
        repeat' (first | apply v_seq | apply v_region | apply v_nil | apply v_skip | apply v_block | (apply v_pure; (case hop => first | (apply p_move <;> rfl) | (apply p_lt <;> rfl) | (apply p_lenSlice <;> rfl) | fail); (case hd => rfl)) | (apply v_cond; (case hc => rfl); all_goals (intro h; (try simp only [reduceCtorEq, zzz] at h); first | (exfalso; omega) | skip)) | fail)
        refine d_start [(b3, .cells [.int .i64 ac, .int .i64 aq, .int .i64 ae, .bool af, .string av5, .int .i64 ar].toArray 29 (0, 0))] (by kernel_rfl) (by kernel_rfl) (by kernel_rfl) (by intro e he; (simp at he; simp [he]; done)) ?_
        all_goals (apply dtk 0; (case hi => rfl); (case hop => (apply prd; apply p_move <;> rfl)); (case hq => kernel_rfl))
        all_goals (apply dtk 1; (case hi => rfl); (case hop => (apply prd; apply p_not <;> rfl)); (case hq => kernel_rfl))
        all_goals (apply dtk 2; (case hi => rfl); (case hop => (apply prd; apply p_move <;> rfl)); (case hq => kernel_rfl))
        all_goals (try (apply d_guardB 3; (case hi => rfl); (case hgd => rfl); (case h1 => rfl); (case h2 => rfl); all_goals (intro h; (try simp only [reduceCtorEq, zzz] at h))))
        all_goals (apply dtg 3; (case hi => rfl); (case hg => rfl); (case hop => (apply prd; apply p_move <;> rfl)); (case hq => kernel_rfl))
        all_goals (try (apply d_guardB 4; (case hi => rfl); (case hgd => rfl); (case h1 => rfl); (case h2 => rfl); all_goals (intro h; (try simp only [reduceCtorEq, zzz] at h))))
        all_goals (apply dtg 4; (case hi => rfl); (case hg => rfl); (case hop => (apply prd; apply p_move <;> rfl)); (case hq => kernel_rfl))
        all_goals (try (apply d_guardB 5; (case hi => rfl); (case hgd => rfl); (case h1 => rfl); (case h2 => rfl); all_goals (intro h; (try simp only [reduceCtorEq, zzz] at h))))
        all_goals (apply dtg 5; (case hi => rfl); (case hg => rfl); (case hop => (apply prd; apply p_indexAddrS; (case hx => rfl); (case hi => rfl); (case h0 => omega); (case h => omega); (case hA => assumption))); (case hq => kernel_rfl))
        all_goals (try (apply d_guardB 6; (case hi => rfl); (case hgd => rfl); (case h1 => rfl); (case h2 => rfl); all_goals (intro h; (try simp only [reduceCtorEq, zzz] at h))))
        all_goals (apply dtg 6; (case hi => rfl); (case hg => rfl); (case hop => (apply prd; apply p_fieldAddr <;> rfl)); (case hq => kernel_rfl))
        all_goals (try (apply d_guardB 7; (case hi => rfl); (case hgd => rfl); (case h1 => rfl); (case h2 => rfl); all_goals (intro h; (try simp only [reduceCtorEq, zzz] at h))))
        all_goals (apply dtg 7; (case hi => rfl); (case hg => rfl); (case hop => ((apply r_load1; rfl; exact Cell.frozen hc0))); (case hq => kernel_rfl))
        all_goals (try (apply d_guardB 8; (case hi => rfl); (case hgd => rfl); (case h1 => rfl); (case h2 => rfl); all_goals (intro h; (try simp only [reduceCtorEq, zzz] at h))))
        all_goals (apply dtg 8; (case hi => rfl); (case hg => rfl); (case hop => (apply prd; apply p_fieldAddrB <;> rfl)); (case hq => kernel_rfl))
        all_goals (try (apply d_guardB 9; (case hi => rfl); (case hgd => rfl); (case h1 => rfl); (case h2 => rfl); all_goals (intro h; (try simp only [reduceCtorEq, zzz] at h))))
        all_goals (apply dtg 9; (case hi => rfl); (case hg => rfl); (case hop => (apply r_load1; rfl; (apply Cell.own; (case h => (repeat (exact mhd _))); rfl))); (case hq => kernel_rfl))
        all_goals (try (apply d_guardB 10; (case hi => rfl); (case hgd => rfl); (case h1 => rfl); (case h2 => rfl); all_goals (intro h; (try simp only [reduceCtorEq, zzz] at h))))
        all_goals (apply dtg 10; (case hi => rfl); (case hg => rfl); (case hop => (apply prd; apply p_ge <;> rfl)); (case hq => kernel_rfl))
        all_goals (apply dtk 11; (case hi => rfl); (case hop => (apply prd; apply p_pickT <;> rfl)); (case hq => kernel_rfl))
        all_goals (apply d_done; (case hr => kernel_rfl))
        repeat' (first | apply v_seq | apply v_skip | (apply v_cond; (case hc => rfl); all_goals (intro h; (try simp only [reduceCtorEq, zzz] at h); first | (exfalso; omega) | skip)) | fail)
        refine d_start [(b3, .cells [.int .i64 ac, .int .i64 aq, .int .i64 ae, .bool af, .string av5, .int .i64 ar].toArray 29 (0, 0))] (by kernel_rfl) (by kernel_rfl) (by kernel_rfl) (by intro e he; (simp at he; simp [he]; done)) ?_
        all_goals (apply dtk 0; (case hi => rfl); (case hop => (apply prd; apply p_move <;> rfl)); (case hq => kernel_rfl))
        all_goals (apply dtk 1; (case hi => rfl); (case hop => (apply prd; apply p_move <;> rfl)); (case hq => kernel_rfl))
        all_goals (apply dtk 2; (case hi => rfl); (case hop => (apply prd; apply p_indexAddrS; (case hx => rfl); (case hi => rfl); (case h0 => omega); (case h => omega); (case hA => assumption))); (case hq => kernel_rfl))
        all_goals (apply dtk 3; (case hi => rfl); (case hop => (apply prd; apply p_fieldAddr <;> rfl)); (case hq => kernel_rfl))
        all_goals (apply dtk 4; (case hi => rfl); (case hop => ((apply r_load1; rfl; exact Cell.frozen hc0))); (case hq => kernel_rfl))
        all_goals (apply dtk 5; (case hi => rfl); (case hop => (apply prd; apply p_fieldAddrB <;> rfl)); (case hq => kernel_rfl))
        all_goals (apply dtk 6; (case hi => rfl); (case hop => (apply r_load1; rfl; (apply Cell.own; (case h => (repeat (exact mhd _))); rfl))); (case hq => kernel_rfl))
        all_goals (apply dtk 7; (case hi => rfl); (case hop => (apply prd; apply p_ne <;> rfl)); (case hq => kernel_rfl))
        all_goals (apply d_done; (case hr => kernel_rfl))
        repeat' (first | apply v_region | (apply v_pure; (case hop => first | (apply p_move <;> rfl) | (apply p_indexAddrS; (case hx => rfl); (case hi => rfl); (case h0 => omega); (case h => omega); (case hA => assumption)) | fail); (case hd => rfl)) | (apply v_cond; (case hc => rfl); all_goals (intro h; (try simp only [reduceCtorEq, zzz] at h); first | (exfalso; omega) | skip)) | (apply v_read; (case hop => (apply r_loadN; rfl; exact CellsAt.frozen hck; rfl)); (case hd => rfl)) | (apply v_buildSlice; (case hz => rfl); (case hi => rfl); (case hv => (simp only [List.map_cons, List.map_nil]; repeat (first | with_reducible exact evs_nil | (apply evs_cons; (case h1 => rfl))))); (case hp => (apply pk_cons; (case hc => rfl); (case hs => rfl); (case h => (with_reducible exact pk_nil)); (case he => ((repeat (first | with_reducible exact ap_nil | apply ap_cons)); done)))); (case hb => rfl); (case hd => rfl); intro b) | fail)
        have hpm := List.perm_append_comm (l₁ := ([(b, .cells (Ss.cells ⟨xc, xs, ⟨lc, ls, le, lf, lv, lr⟩⟩).toArray 87 (0, 0)), (b3, .cells [.int .i64 ac, .int .i64 aq, .int .i64 ae, .bool af, .string av5, .int .i64 ar].toArray 29 (0, 0))] : OH)) (l₂ := ν)
        refine v_append (e := 87) (agg := true) (sz := 8) (bytes := 72) (zero := zS) rfl (by omega) rfl rfl hga hpm (m' := 1) (us := (Ss.cells ⟨xc, xs, ⟨lc, ls, le, lf, lv, lr⟩⟩)) (Src.own (e := 87) (List.Mem.head _) rfl) rfl (by omega) (by simp only [maxLen]; omega) rfl fun v' ν' hg' => ?_
        have hga' := GrS.snoc hg'
        refine v_perm (List.perm_append_comm (l₁ := ν')) ?_
        refine v_drop (ν := [(b3, .cells [.int .i64 ac, .int .i64 aq, .int .i64 ae, .bool af, .string av5, .int .i64 ar].toArray 29 (0, 0))] ++ ν') (List.Sublist.cons _ (List.Sublist.refl _)) ?_
        repeat' (first | apply v_region | apply v_nil | apply v_blk | (apply v_pure; (case hop => first | (apply p_move <;> rfl) | (apply p_assign <;> rfl) | (apply p_add; (case hx => rfl); (case hy => rfl); (case h => omega)) | fail); (case hd => rfl)) | fail)
        exact v_again rfl ⟨rfl, k + 1, false, _, _, by omega, rfl, rfl, by rw [← ew]; exact hga', fun _ => hd0', (fun h => by cases h)⟩ (by simp [headI]; omega)
    · have ew := wK_same (key := ksS) (l := l) (p := (sesOf ⟨ac, aq, ae, af, av5, ar⟩)) hlt heq
      have hd1' : ∀ i (hi : i < l.length), k + 1 ≤ i → ksS (sesOf ⟨ac, aq, ae, af, av5, ar⟩) < ksS l[i] := fun i hi h => by have := hup i hi h; omega
      cases d with
      | true => have := hd1 rfl k hlt (Nat.le_refl _); omega
      | false =>
        have ep := wK_put (hd0 rfl)
        clear hup hd0 hd1
        generalize l[k] = x at *
        obtain ⟨xc, xs, ⟨lc, ls, le, lf, lv, lr⟩⟩ := x
        have hc0 := hck.cell (j := 0) rfl
        simp only [ksS, hkp] at heq
        repeat' (first | apply v_seq | apply v_region | apply v_nil | apply v_skip | apply v_block | (apply v_pure; (case hop => first | (apply p_move <;> rfl) | (apply p_lt <;> rfl) | (apply p_lenSlice <;> rfl) | fail); (case hd => rfl)) | (apply v_cond; (case hc => rfl); all_goals (intro h; (try simp only [reduceCtorEq, zzz] at h); first | (exfalso; omega) | skip)) | fail)
        refine d_start [(b3, .cells [.int .i64 ac, .int .i64 aq, .int .i64 ae, .bool af, .string av5, .int .i64 ar].toArray 29 (0, 0))] (by kernel_rfl) (by kernel_rfl) (by kernel_rfl) (by intro e he; (simp at he; simp [he]; done)) ?_
        all_goals (apply dtk 0; (case hi => rfl); (case hop => (apply prd; apply p_move <;> rfl)); (case hq => kernel_rfl))
        all_goals (apply dtk 1; (case hi => rfl); (case hop => (apply prd; apply p_not <;> rfl)); (case hq => kernel_rfl))
        all_goals (apply dtk 2; (case hi => rfl); (case hop => (apply prd; apply p_move <;> rfl)); (case hq => kernel_rfl))
        all_goals (try (apply d_guardB 3; (case hi => rfl); (case hgd => rfl); (case h1 => rfl); (case h2 => rfl); all_goals (intro h; (try simp only [reduceCtorEq, zzz] at h))))
        all_goals (apply dtg 3; (case hi => rfl); (case hg => rfl); (case hop => (apply prd; apply p_move <;> rfl)); (case hq => kernel_rfl))
        all_goals (try (apply d_guardB 4; (case hi => rfl); (case hgd => rfl); (case h1 => rfl); (case h2 => rfl); all_goals (intro h; (try simp only [reduceCtorEq, zzz] at h))))
        all_goals (apply dtg 4; (case hi => rfl); (case hg => rfl); (case hop => (apply prd; apply p_move <;> rfl)); (case hq => kernel_rfl))
        all_goals (try (apply d_guardB 5; (case hi => rfl); (case hgd => rfl); (case h1 => rfl); (case h2 => rfl); all_goals (intro h; (try simp only [reduceCtorEq, zzz] at h))))
        all_goals (apply dtg 5; (case hi => rfl); (case hg => rfl); (case hop => (apply prd; apply p_indexAddrS; (case hx => rfl); (case hi => rfl); (case h0 => omega); (case h => omega); (case hA => assumption))); (case hq => kernel_rfl))
        all_goals (try (apply d_guardB 6; (case hi => rfl); (case hgd => rfl); (case h1 => rfl); (case h2 => rfl); all_goals (intro h; (try simp only [reduceCtorEq, zzz] at h))))
        all_goals (apply dtg 6; (case hi => rfl); (case hg => rfl); (case hop => (apply prd; apply p_fieldAddr <;> rfl)); (case hq => kernel_rfl))
        all_goals (try (apply d_guardB 7; (case hi => rfl); (case hgd => rfl); (case h1 => rfl); (case h2 => rfl); all_goals (intro h; (try simp only [reduceCtorEq, zzz] at h))))
        all_goals (apply dtg 7; (case hi => rfl); (case hg => rfl); (case hop => ((apply r_load1; rfl; exact Cell.frozen hc0))); (case hq => kernel_rfl))
        all_goals (try (apply d_guardB 8; (case hi => rfl); (case hgd => rfl); (case h1 => rfl); (case h2 => rfl); all_goals (intro h; (try simp only [reduceCtorEq, zzz] at h))))
        all_goals (apply dtg 8; (case hi => rfl); (case hg => rfl); (case hop => (apply prd; apply p_fieldAddrB <;> rfl)); (case hq => kernel_rfl))
        all_goals (try (apply d_guardB 9; (case hi => rfl); (case hgd => rfl); (case h1 => rfl); (case h2 => rfl); all_goals (intro h; (try simp only [reduceCtorEq, zzz] at h))))
        all_goals (apply dtg 9; (case hi => rfl); (case hg => rfl); (case hop => (apply r_load1; rfl; (apply Cell.own; (case h => (repeat (exact mhd _))); rfl))); (case hq => kernel_rfl))
        all_goals (try (apply d_guardB 10; (case hi => rfl); (case hgd => rfl); (case h1 => rfl); (case h2 => rfl); all_goals (intro h; (try simp only [reduceCtorEq, zzz] at h))))
        all_goals (apply dtg 10; (case hi => rfl); (case hg => rfl); (case hop => (apply prd; apply p_ge <;> rfl)); (case hq => kernel_rfl))
        all_goals (apply dtk 11; (case hi => rfl); (case hop => (apply prd; apply p_pickT <;> rfl)); (case hq => kernel_rfl))
        all_goals (apply d_done; (case hr => kernel_rfl))
        repeat' (first | (apply v_read; (case hop => (apply r_loadNo; (case hx => rfl); (case h => repeat (exact mhd _)); (case hd => rfl); (case hn => rfl))); (case hd => rfl)) | apply v_seq | apply v_region | (apply v_pure; (case hop => first | (apply p_move <;> rfl) | (apply p_fieldAddrB <;> rfl) | (apply p_build; (case hz => rfl); (case hv => (simp only [List.map_cons, List.map_nil]; repeat (first | with_reducible exact evs_nil | (apply evs_cons; (case h1 => rfl))))); (case hb => (apply bldL; repeat (first | exact bld_nil | (apply bld_cons; (case hpf => rfl); (case hc => rfl); (case hs => rfl); (case hl => rfl); (case ho => (first | ((repeat (first | with_reducible exact ov_nil | apply ov_cons)); done) | rfl))))))) | fail); (case hd => rfl)) | (apply v_cond; (case hc => rfl); all_goals (intro h; (try simp only [reduceCtorEq, zzz] at h); first | (exfalso; omega) | skip)) | (apply v_read; (case hop => (apply r_load1; rfl; (apply Cell.own; (case h => (repeat (exact mhd _))); rfl))); (case hd => rfl)) | (apply v_buildSlice; (case hz => rfl); (case hi => rfl); (case hv => (simp only [List.map_cons, List.map_nil]; repeat (first | with_reducible exact evs_nil | (apply evs_cons; (case h1 => rfl))))); (case hp => (apply pk_cons; (case hc => rfl); (case hs => rfl); (case h => (with_reducible exact pk_nil)); (case he => (rfl)))); (case hb => rfl); (case hd => rfl); intro b) | fail)
        have hpm := List.perm_append_comm (l₁ := ([(b, .cells (sesOf ⟨ac, aq, ae, af, av5, ar⟩).cells.toArray 87 (0, 0)), (b3, .cells [.int .i64 ac, .int .i64 aq, .int .i64 ae, .bool af, .string av5, .int .i64 ar].toArray 29 (0, 0))] : OH)) (l₂ := ν)
        refine v_append (e := 87) (agg := true) (sz := 8) (bytes := 72) (zero := zS) rfl (by omega) rfl rfl hga hpm (m' := 1) (us := (sesOf ⟨ac, aq, ae, af, av5, ar⟩).cells) (Src.own (e := 87) (List.Mem.head _) rfl) rfl (by omega) (by simp only [maxLen]; omega) rfl fun v' ν' hg' => ?_
        have hga' := GrS.snoc hg'
        refine v_perm (List.perm_append_comm (l₁ := ν')) ?_
        refine v_drop (ν := [(b3, .cells [.int .i64 ac, .int .i64 aq, .int .i64 ae, .bool af, .string av5, .int .i64 ar].toArray 29 (0, 0))] ++ ν') (List.Sublist.cons _ (List.Sublist.refl _)) ?_
        repeat' (first | apply v_seq | apply v_region | apply v_nil | (apply v_pure; (case hop => (apply p_assign <;> rfl)); (case hd => rfl)) | fail)
        refine d_start [(b3, .cells [.int .i64 ac, .int .i64 aq, .int .i64 ae, .bool af, .string av5, .int .i64 ar].toArray 29 (0, 0))] (by kernel_rfl) (by kernel_rfl) (by kernel_rfl) (by intro e he; (simp at he; simp [he]; done)) ?_
        all_goals (apply dtk 0; (case hi => rfl); (case hop => (apply prd; apply p_move <;> rfl)); (case hq => kernel_rfl))
        all_goals (apply dtk 1; (case hi => rfl); (case hop => (apply prd; apply p_move <;> rfl)); (case hq => kernel_rfl))
        all_goals (apply dtk 2; (case hi => rfl); (case hop => (apply prd; apply p_indexAddrS; (case hx => rfl); (case hi => rfl); (case h0 => omega); (case h => omega); (case hA => assumption))); (case hq => kernel_rfl))
        all_goals (apply dtk 3; (case hi => rfl); (case hop => (apply prd; apply p_fieldAddr <;> rfl)); (case hq => kernel_rfl))
        all_goals (apply dtk 4; (case hi => rfl); (case hop => ((apply r_load1; rfl; exact Cell.frozen hc0))); (case hq => kernel_rfl))
        all_goals (apply dtk 5; (case hi => rfl); (case hop => (apply prd; apply p_fieldAddrB <;> rfl)); (case hq => kernel_rfl))
        all_goals (apply dtk 6; (case hi => rfl); (case hop => (apply r_load1; rfl; (apply Cell.own; (case h => (repeat (exact mhd _))); rfl))); (case hq => kernel_rfl))
        all_goals (apply dtk 7; (case hi => rfl); (case hop => (apply prd; apply p_ne <;> rfl)); (case hq => kernel_rfl))
        all_goals (apply d_done; (case hr => kernel_rfl))
        repeat' (first | apply v_region | apply v_nil | apply v_skip | apply v_blk | (apply v_pure; (case hop => first | (apply p_move <;> rfl) | (apply p_assign <;> rfl) | (apply p_add; (case hx => rfl); (case hy => rfl); (case h => omega)) | fail); (case hd => rfl)) | (apply v_cond; (case hc => rfl); all_goals (intro h; (try simp only [reduceCtorEq, zzz] at h); first | (exfalso; omega) | skip)) | fail)
        exact v_again rfl ⟨rfl, k + 1, true, _, _, by omega, rfl, rfl, by rw [← ew, ← ep]; exact hga', (fun h => by cases h), fun _ => hd1'⟩ (by simp [headI]; omega)
    · have ew := wK_more (key := ksS) (l := l) (p := (sesOf ⟨ac, aq, ae, af, av5, ar⟩)) hlt hgt
      have hd1' : ∀ i (hi : i < l.length), k + 1 ≤ i → ksS (sesOf ⟨ac, aq, ae, af, av5, ar⟩) < ksS l[i] := fun i hi h => by have := hup i hi h; omega
      cases d with
      | true =>
        clear hup hd0 hd1
        generalize l[k] = x at *
        obtain ⟨xc, xs, ⟨lc, ls, le, lf, lv, lr⟩⟩ := x
        have hc0 := hck.cell (j := 0) rfl
        simp only [ksS, hkp] at hgt
        repeat' (first | apply v_seq | apply v_region | apply v_nil | apply v_skip | apply v_block | (apply v_pure; (case hop => first | (apply p_move <;> rfl) | (apply p_lt <;> rfl) | (apply p_lenSlice <;> rfl) | fail); (case hd => rfl)) | (apply v_cond; (case hc => rfl); all_goals (intro h; (try simp only [reduceCtorEq, zzz] at h); first | (exfalso; omega) | skip)) | fail)
        refine d_start [(b3, .cells [.int .i64 ac, .int .i64 aq, .int .i64 ae, .bool af, .string av5, .int .i64 ar].toArray 29 (0, 0))] (by kernel_rfl) (by kernel_rfl) (by kernel_rfl) (by intro e he; (simp at he; simp [he]; done)) ?_
        all_goals (apply dtk 0; (case hi => rfl); (case hop => (apply prd; apply p_move <;> rfl)); (case hq => kernel_rfl))
        all_goals (apply dtk 1; (case hi => rfl); (case hop => (apply prd; apply p_not <;> rfl)); (case hq => kernel_rfl))
        all_goals (apply dtk 2; (case hi => rfl); (case hop => (apply prd; apply p_move <;> rfl)); (case hq => kernel_rfl))
        all_goals (try (apply d_guardB 3; (case hi => rfl); (case hgd => rfl); (case h1 => rfl); (case h2 => rfl); all_goals (intro h; (try simp only [reduceCtorEq, zzz] at h))))
        all_goals (apply dpa 3; (case hi => rfl); (case hg => rfl); (case hn => rfl); (case hq => kernel_rfl))
        all_goals (try (apply d_guardB 4; (case hi => rfl); (case hgd => rfl); (case h1 => rfl); (case h2 => rfl); all_goals (intro h; (try simp only [reduceCtorEq, zzz] at h))))
        all_goals (apply dpa 4; (case hi => rfl); (case hg => rfl); (case hn => rfl); (case hq => kernel_rfl))
        all_goals (try (apply d_guardB 5; (case hi => rfl); (case hgd => rfl); (case h1 => rfl); (case h2 => rfl); all_goals (intro h; (try simp only [reduceCtorEq, zzz] at h))))
        all_goals (apply dpa 5; (case hi => rfl); (case hg => rfl); (case hn => rfl); (case hq => kernel_rfl))
        all_goals (try (apply d_guardB 6; (case hi => rfl); (case hgd => rfl); (case h1 => rfl); (case h2 => rfl); all_goals (intro h; (try simp only [reduceCtorEq, zzz] at h))))
        all_goals (apply dpa 6; (case hi => rfl); (case hg => rfl); (case hn => rfl); (case hq => kernel_rfl))
        all_goals (try (apply d_guardB 7; (case hi => rfl); (case hgd => rfl); (case h1 => rfl); (case h2 => rfl); all_goals (intro h; (try simp only [reduceCtorEq, zzz] at h))))
        all_goals (apply dpa 7; (case hi => rfl); (case hg => rfl); (case hn => rfl); (case hq => kernel_rfl))
        all_goals (try (apply d_guardB 8; (case hi => rfl); (case hgd => rfl); (case h1 => rfl); (case h2 => rfl); all_goals (intro h; (try simp only [reduceCtorEq, zzz] at h))))
        all_goals (apply dpa 8; (case hi => rfl); (case hg => rfl); (case hn => rfl); (case hq => kernel_rfl))
        all_goals (try (apply d_guardB 9; (case hi => rfl); (case hgd => rfl); (case h1 => rfl); (case h2 => rfl); all_goals (intro h; (try simp only [reduceCtorEq, zzz] at h))))
        all_goals (apply dpa 9; (case hi => rfl); (case hg => rfl); (case hn => rfl); (case hq => kernel_rfl))
        all_goals (try (apply d_guardB 10; (case hi => rfl); (case hgd => rfl); (case h1 => rfl); (case h2 => rfl); all_goals (intro h; (try simp only [reduceCtorEq, zzz] at h))))
        all_goals (apply dpa 10; (case hi => rfl); (case hg => rfl); (case hn => rfl); (case hq => kernel_rfl))
        all_goals (apply dtk 11; (case hi => rfl); (case hop => (apply prd; apply p_pickF <;> rfl)); (case hq => kernel_rfl))
        all_goals (apply d_done; (case hr => kernel_rfl))
        repeat' (first | apply v_seq | apply v_skip | (apply v_condF; (case hc => rfl)) | fail)
        refine d_start [(b3, .cells [.int .i64 ac, .int .i64 aq, .int .i64 ae, .bool af, .string av5, .int .i64 ar].toArray 29 (0, 0))] (by kernel_rfl) (by kernel_rfl) (by kernel_rfl) (by intro e he; (simp at he; simp [he]; done)) ?_
        all_goals (apply dtk 0; (case hi => rfl); (case hop => (apply prd; apply p_move <;> rfl)); (case hq => kernel_rfl))
        all_goals (apply dtk 1; (case hi => rfl); (case hop => (apply prd; apply p_move <;> rfl)); (case hq => kernel_rfl))
        all_goals (apply dtk 2; (case hi => rfl); (case hop => (apply prd; apply p_indexAddrS; (case hx => rfl); (case hi => rfl); (case h0 => omega); (case h => omega); (case hA => assumption))); (case hq => kernel_rfl))
        all_goals (apply dtk 3; (case hi => rfl); (case hop => (apply prd; apply p_fieldAddr <;> rfl)); (case hq => kernel_rfl))
        all_goals (apply dtk 4; (case hi => rfl); (case hop => ((apply r_load1; rfl; exact Cell.frozen hc0))); (case hq => kernel_rfl))
        all_goals (apply dtk 5; (case hi => rfl); (case hop => (apply prd; apply p_fieldAddrB <;> rfl)); (case hq => kernel_rfl))
        all_goals (apply dtk 6; (case hi => rfl); (case hop => (apply r_load1; rfl; (apply Cell.own; (case h => (repeat (exact mhd _))); rfl))); (case hq => kernel_rfl))
        all_goals (apply dtk 7; (case hi => rfl); (case hop => (apply prd; apply p_ne <;> rfl)); (case hq => kernel_rfl))
        all_goals (apply d_done; (case hr => kernel_rfl))
        repeat' (first | apply v_region | (apply v_pure; (case hop => first | (apply p_move <;> rfl) | (apply p_indexAddrS; (case hx => rfl); (case hi => rfl); (case h0 => omega); (case h => omega); (case hA => assumption)) | fail); (case hd => rfl)) | (apply v_cond; (case hc => rfl); all_goals (intro h; (try simp only [reduceCtorEq, zzz] at h); first | (exfalso; omega) | skip)) | (apply v_read; (case hop => (apply r_loadN; rfl; exact CellsAt.frozen hck; rfl)); (case hd => rfl)) | (apply v_buildSlice; (case hz => rfl); (case hi => rfl); (case hv => (simp only [List.map_cons, List.map_nil]; repeat (first | with_reducible exact evs_nil | (apply evs_cons; (case h1 => rfl))))); (case hp => (apply pk_cons; (case hc => rfl); (case hs => rfl); (case h => (with_reducible exact pk_nil)); (case he => ((repeat (first | with_reducible exact ap_nil | apply ap_cons)); done)))); (case hb => rfl); (case hd => rfl); intro b) | fail)
        have hpm := List.perm_append_comm (l₁ := ([(b, .cells (Ss.cells ⟨xc, xs, ⟨lc, ls, le, lf, lv, lr⟩⟩).toArray 87 (0, 0)), (b3, .cells [.int .i64 ac, .int .i64 aq, .int .i64 ae, .bool af, .string av5, .int .i64 ar].toArray 29 (0, 0))] : OH)) (l₂ := ν)
        refine v_append (e := 87) (agg := true) (sz := 8) (bytes := 72) (zero := zS) rfl (by omega) rfl rfl hga hpm (m' := 1) (us := (Ss.cells ⟨xc, xs, ⟨lc, ls, le, lf, lv, lr⟩⟩)) (Src.own (e := 87) (List.Mem.head _) rfl) rfl (by omega) (by simp only [maxLen]; omega) rfl fun v' ν' hg' => ?_
        have hga' := GrS.snoc hg'
        refine v_perm (List.perm_append_comm (l₁ := ν')) ?_
        refine v_drop (ν := [(b3, .cells [.int .i64 ac, .int .i64 aq, .int .i64 ae, .bool af, .string av5, .int .i64 ar].toArray 29 (0, 0))] ++ ν') (List.Sublist.cons _ (List.Sublist.refl _)) ?_
        repeat' (first | apply v_region | apply v_nil | apply v_blk | (apply v_pure; (case hop => first | (apply p_move <;> rfl) | (apply p_assign <;> rfl) | (apply p_add; (case hx => rfl); (case hy => rfl); (case h => omega)) | fail); (case hd => rfl)) | fail)
        exact v_again rfl ⟨rfl, k + 1, true, _, _, by omega, rfl, rfl, by rw [← ew]; exact hga', (fun h => by cases h), fun _ => hd1'⟩ (by simp [headI]; omega)
      | false =>
        have ep := wK_put (hd0 rfl)
        clear hup hd0 hd1
        generalize l[k] = x at *
        obtain ⟨xc, xs, ⟨lc, ls, le, lf, lv, lr⟩⟩ := x
        have hc0 := hck.cell (j := 0) rfl
        simp only [ksS, hkp] at hgt
        repeat' (first | apply v_seq | apply v_region | apply v_nil | apply v_skip | apply v_block | (apply v_pure; (case hop => first | (apply p_move <;> rfl) | (apply p_lt <;> rfl) | (apply p_lenSlice <;> rfl) | fail); (case hd => rfl)) | (apply v_cond; (case hc => rfl); all_goals (intro h; (try simp only [reduceCtorEq, zzz] at h); first | (exfalso; omega) | skip)) | fail)
        refine d_start [(b3, .cells [.int .i64 ac, .int .i64 aq, .int .i64 ae, .bool af, .string av5, .int .i64 ar].toArray 29 (0, 0))] (by kernel_rfl) (by kernel_rfl) (by kernel_rfl) (by intro e he; (simp at he; simp [he]; done)) ?_
        all_goals (apply dtk 0; (case hi => rfl); (case hop => (apply prd; apply p_move <;> rfl)); (case hq => kernel_rfl))
        all_goals (apply dtk 1; (case hi => rfl); (case hop => (apply prd; apply p_not <;> rfl)); (case hq => kernel_rfl))
        all_goals (apply dtk 2; (case hi => rfl); (case hop => (apply prd; apply p_move <;> rfl)); (case hq => kernel_rfl))
        all_goals (try (apply d_guardB 3; (case hi => rfl); (case hgd => rfl); (case h1 => rfl); (case h2 => rfl); all_goals (intro h; (try simp only [reduceCtorEq, zzz] at h))))
        all_goals (apply dtg 3; (case hi => rfl); (case hg => rfl); (case hop => (apply prd; apply p_move <;> rfl)); (case hq => kernel_rfl))
        all_goals (try (apply d_guardB 4; (case hi => rfl); (case hgd => rfl); (case h1 => rfl); (case h2 => rfl); all_goals (intro h; (try simp only [reduceCtorEq, zzz] at h))))
        all_goals (apply dtg 4; (case hi => rfl); (case hg => rfl); (case hop => (apply prd; apply p_move <;> rfl)); (case hq => kernel_rfl))
        all_goals (try (apply d_guardB 5; (case hi => rfl); (case hgd => rfl); (case h1 => rfl); (case h2 => rfl); all_goals (intro h; (try simp only [reduceCtorEq, zzz] at h))))
        all_goals (apply dtg 5; (case hi => rfl); (case hg => rfl); (case hop => (apply prd; apply p_indexAddrS; (case hx => rfl); (case hi => rfl); (case h0 => omega); (case h => omega); (case hA => assumption))); (case hq => kernel_rfl))
        all_goals (try (apply d_guardB 6; (case hi => rfl); (case hgd => rfl); (case h1 => rfl); (case h2 => rfl); all_goals (intro h; (try simp only [reduceCtorEq, zzz] at h))))
        all_goals (apply dtg 6; (case hi => rfl); (case hg => rfl); (case hop => (apply prd; apply p_fieldAddr <;> rfl)); (case hq => kernel_rfl))
        all_goals (try (apply d_guardB 7; (case hi => rfl); (case hgd => rfl); (case h1 => rfl); (case h2 => rfl); all_goals (intro h; (try simp only [reduceCtorEq, zzz] at h))))
        all_goals (apply dtg 7; (case hi => rfl); (case hg => rfl); (case hop => ((apply r_load1; rfl; exact Cell.frozen hc0))); (case hq => kernel_rfl))
        all_goals (try (apply d_guardB 8; (case hi => rfl); (case hgd => rfl); (case h1 => rfl); (case h2 => rfl); all_goals (intro h; (try simp only [reduceCtorEq, zzz] at h))))
        all_goals (apply dtg 8; (case hi => rfl); (case hg => rfl); (case hop => (apply prd; apply p_fieldAddrB <;> rfl)); (case hq => kernel_rfl))
        all_goals (try (apply d_guardB 9; (case hi => rfl); (case hgd => rfl); (case h1 => rfl); (case h2 => rfl); all_goals (intro h; (try simp only [reduceCtorEq, zzz] at h))))
        all_goals (apply dtg 9; (case hi => rfl); (case hg => rfl); (case hop => (apply r_load1; rfl; (apply Cell.own; (case h => (repeat (exact mhd _))); rfl))); (case hq => kernel_rfl))
        all_goals (try (apply d_guardB 10; (case hi => rfl); (case hgd => rfl); (case h1 => rfl); (case h2 => rfl); all_goals (intro h; (try simp only [reduceCtorEq, zzz] at h))))
        all_goals (apply dtg 10; (case hi => rfl); (case hg => rfl); (case hop => (apply prd; apply p_ge <;> rfl)); (case hq => kernel_rfl))
        all_goals (apply dtk 11; (case hi => rfl); (case hop => (apply prd; apply p_pickT <;> rfl)); (case hq => kernel_rfl))
        all_goals (apply d_done; (case hr => kernel_rfl))
        repeat' (first | (apply v_read; (case hop => (apply r_loadNo; (case hx => rfl); (case h => repeat (exact mhd _)); (case hd => rfl); (case hn => rfl))); (case hd => rfl)) | apply v_seq | apply v_region | (apply v_pure; (case hop => first | (apply p_move <;> rfl) | (apply p_fieldAddrB <;> rfl) | (apply p_build; (case hz => rfl); (case hv => (simp only [List.map_cons, List.map_nil]; repeat (first | with_reducible exact evs_nil | (apply evs_cons; (case h1 => rfl))))); (case hb => (apply bldL; repeat (first | exact bld_nil | (apply bld_cons; (case hpf => rfl); (case hc => rfl); (case hs => rfl); (case hl => rfl); (case ho => (first | ((repeat (first | with_reducible exact ov_nil | apply ov_cons)); done) | rfl))))))) | fail); (case hd => rfl)) | (apply v_cond; (case hc => rfl); all_goals (intro h; (try simp only [reduceCtorEq, zzz] at h); first | (exfalso; omega) | skip)) | (apply v_read; (case hop => (apply r_load1; rfl; (apply Cell.own; (case h => (repeat (exact mhd _))); rfl))); (case hd => rfl)) | (apply v_buildSlice; (case hz => rfl); (case hi => rfl); (case hv => (simp only [List.map_cons, List.map_nil]; repeat (first | with_reducible exact evs_nil | (apply evs_cons; (case h1 => rfl))))); (case hp => (apply pk_cons; (case hc => rfl); (case hs => rfl); (case h => (with_reducible exact pk_nil)); (case he => (rfl)))); (case hb => rfl); (case hd => rfl); intro b) | fail)
        have hpm := List.perm_append_comm (l₁ := ([(b, .cells (sesOf ⟨ac, aq, ae, af, av5, ar⟩).cells.toArray 87 (0, 0)), (b3, .cells [.int .i64 ac, .int .i64 aq, .int .i64 ae, .bool af, .string av5, .int .i64 ar].toArray 29 (0, 0))] : OH)) (l₂ := ν)
        refine v_append (e := 87) (agg := true) (sz := 8) (bytes := 72) (zero := zS) rfl (by omega) rfl rfl hga hpm (m' := 1) (us := (sesOf ⟨ac, aq, ae, af, av5, ar⟩).cells) (Src.own (e := 87) (List.Mem.head _) rfl) rfl (by omega) (by simp only [maxLen]; omega) rfl fun v' ν' hg' => ?_
        have hga' := GrS.snoc hg'
        refine v_perm (List.perm_append_comm (l₁ := ν')) ?_
        refine v_drop (ν := [(b3, .cells [.int .i64 ac, .int .i64 aq, .int .i64 ae, .bool af, .string av5, .int .i64 ar].toArray 29 (0, 0))] ++ ν') (List.Sublist.cons _ (List.Sublist.refl _)) ?_
        repeat' (first | apply v_seq | apply v_region | apply v_nil | (apply v_pure; (case hop => (apply p_assign <;> rfl)); (case hd => rfl)) | fail)
        refine d_start [(b3, .cells [.int .i64 ac, .int .i64 aq, .int .i64 ae, .bool af, .string av5, .int .i64 ar].toArray 29 (0, 0))] (by kernel_rfl) (by kernel_rfl) (by kernel_rfl) (by intro e he; (simp at he; simp [he]; done)) ?_
        all_goals (apply dtk 0; (case hi => rfl); (case hop => (apply prd; apply p_move <;> rfl)); (case hq => kernel_rfl))
        all_goals (apply dtk 1; (case hi => rfl); (case hop => (apply prd; apply p_move <;> rfl)); (case hq => kernel_rfl))
        all_goals (apply dtk 2; (case hi => rfl); (case hop => (apply prd; apply p_indexAddrS; (case hx => rfl); (case hi => rfl); (case h0 => omega); (case h => omega); (case hA => assumption))); (case hq => kernel_rfl))
        all_goals (apply dtk 3; (case hi => rfl); (case hop => (apply prd; apply p_fieldAddr <;> rfl)); (case hq => kernel_rfl))
        all_goals (apply dtk 4; (case hi => rfl); (case hop => ((apply r_load1; rfl; exact Cell.frozen hc0))); (case hq => kernel_rfl))
        all_goals (apply dtk 5; (case hi => rfl); (case hop => (apply prd; apply p_fieldAddrB <;> rfl)); (case hq => kernel_rfl))
        all_goals (apply dtk 6; (case hi => rfl); (case hop => (apply r_load1; rfl; (apply Cell.own; (case h => (repeat (exact mhd _))); rfl))); (case hq => kernel_rfl))
        all_goals (apply dtk 7; (case hi => rfl); (case hop => (apply prd; apply p_ne <;> rfl)); (case hq => kernel_rfl))
        all_goals (apply d_done; (case hr => kernel_rfl))
        repeat' (first | apply v_region | (apply v_pure; (case hop => first | (apply p_move <;> rfl) | (apply p_indexAddrS; (case hx => rfl); (case hi => rfl); (case h0 => omega); (case h => omega); (case hA => assumption)) | fail); (case hd => rfl)) | (apply v_cond; (case hc => rfl); all_goals (intro h; (try simp only [reduceCtorEq, zzz] at h); first | (exfalso; omega) | skip)) | (apply v_read; (case hop => (apply r_loadN; rfl; exact CellsAt.frozen hck; rfl)); (case hd => rfl)) | (apply v_buildSlice; (case hz => rfl); (case hi => rfl); (case hv => (simp only [List.map_cons, List.map_nil]; repeat (first | with_reducible exact evs_nil | (apply evs_cons; (case h1 => rfl))))); (case hp => (apply pk_cons; (case hc => rfl); (case hs => rfl); (case h => (with_reducible exact pk_nil)); (case he => ((repeat (first | with_reducible exact ap_nil | apply ap_cons)); done)))); (case hb => rfl); (case hd => rfl); intro b) | fail)
        rw [ep] at hga'
        have hwl' := wK_len (key := ksS) l (sesOf ⟨ac, aq, ae, af, av5, ar⟩) k true
        have hpm := List.perm_append_comm (l₁ := ([(b, .cells (Ss.cells ⟨xc, xs, ⟨lc, ls, le, lf, lv, lr⟩⟩).toArray 87 (0, 0)), (b3, .cells [.int .i64 ac, .int .i64 aq, .int .i64 ae, .bool af, .string av5, .int .i64 ar].toArray 29 (0, 0))] : OH)) (l₂ := ν')
        refine v_append (e := 87) (agg := true) (sz := 8) (bytes := 72) (zero := zS) rfl (by omega) rfl rfl hga' hpm (m' := 1) (us := (Ss.cells ⟨xc, xs, ⟨lc, ls, le, lf, lv, lr⟩⟩)) (Src.own (e := 87) (List.Mem.head _) rfl) rfl (by omega) (by simp only [maxLen]; omega) rfl fun v' ν' hg' => ?_
        have hga2 := GrS.snoc hg'
        refine v_perm (List.perm_append_comm (l₁ := ν')) ?_
        refine v_drop (ν := [(b3, .cells [.int .i64 ac, .int .i64 aq, .int .i64 ae, .bool af, .string av5, .int .i64 ar].toArray 29 (0, 0))] ++ ν') (List.Sublist.cons _ (List.Sublist.refl _)) ?_
        repeat' (first | apply v_region | apply v_nil | apply v_blk | (apply v_pure; (case hop => first | (apply p_move <;> rfl) | (apply p_assign <;> rfl) | (apply p_add; (case hx => rfl); (case hy => rfl); (case h => omega)) | fail); (case hd => rfl)) | fail)
        exact v_again rfl ⟨rfl, k + 1, true, _, _, by omega, rfl, rfl, by rw [← ew]; exact hga2, (fun h => by cases h), fun _ => hd1'⟩ (by simp [headI]; omega)
  · obtain rfl : k = l.length := by omega
    cases d with
    | true =>
      rw [wK_end] at hga
      repeat' (first | apply v_seq | apply v_region | apply v_nil | apply v_skip | (apply v_exit; (case hp => rfl)) | (apply v_pure; (case hop => first | (apply p_move <;> rfl) | (apply p_lt <;> rfl) | (apply p_assign <;> rfl) | (apply p_not <;> rfl) | (apply p_lenSlice <;> rfl) | fail); (case hd => rfl)) | (apply v_condF; (case hc => rfl)) | (apply v_cond; (case hc => rfl); all_goals (intro h; (try simp only [reduceCtorEq, zzz] at h); first | (exfalso; omega) | skip)) | fail)
      have hpm := List.perm_append_comm (l₁ := ([(b3, .cells [.int .i64 ac, .int .i64 aq, .int .i64 ae, .bool af, .string av5, .int .i64 ar].toArray 29 (0, 0))] : OH)) (l₂ := ν)
      refine v_perm hpm ?_
      refine v_frz ν (PickA.here _) ?_
      intro G2 hle2 hG2
      refine v_ret [] (outsA1 rfl rfl) (List.nil_sublist _) ⟨hle2, rfl, row_of_grow Ss.len hga hG2⟩
    | false =>
      have ep := wK_put (hd0 rfl)
      rw [wK_end] at ep
      repeat' (first | (apply v_read; (case hop => (apply r_loadNo; (case hx => rfl); (case h => repeat (exact mhd _)); (case hd => rfl); (case hn => rfl))); (case hd => rfl)) | apply v_seq | apply v_region | apply v_nil | (apply v_exit; (case hp => rfl)) | (apply v_pure; (case hop => first | (apply p_move <;> rfl) | (apply p_lt <;> rfl) | (apply p_not <;> rfl) | (apply p_lenSlice <;> rfl) | (apply p_fieldAddrB <;> rfl) | (apply p_build; (case hz => rfl); (case hv => (simp only [List.map_cons, List.map_nil]; repeat (first | with_reducible exact evs_nil | (apply evs_cons; (case h1 => rfl))))); (case hb => (apply bldL; repeat (first | exact bld_nil | (apply bld_cons; (case hpf => rfl); (case hc => rfl); (case hs => rfl); (case hl => rfl); (case ho => (first | ((repeat (first | with_reducible exact ov_nil | apply ov_cons)); done) | rfl))))))) | fail); (case hd => rfl)) | (apply v_condT; (case hc => rfl)) | (apply v_cond; (case hc => rfl); all_goals (intro h; (try simp only [reduceCtorEq, zzz] at h); first | (exfalso; omega) | skip)) | (apply v_read; (case hop => (apply r_load1; rfl; (apply Cell.own; (case h => (repeat (exact mhd _))); rfl))); (case hd => rfl)) | (apply v_buildSlice; (case hz => rfl); (case hi => rfl); (case hv => (simp only [List.map_cons, List.map_nil]; repeat (first | with_reducible exact evs_nil | (apply evs_cons; (case h1 => rfl))))); (case hp => (apply pk_cons; (case hc => rfl); (case hs => rfl); (case h => (with_reducible exact pk_nil)); (case he => (rfl)))); (case hb => rfl); (case hd => rfl); intro b) | fail)
      have hpm := List.perm_append_comm (l₁ := ([(b, .cells (sesOf ⟨ac, aq, ae, af, av5, ar⟩).cells.toArray 87 (0, 0)), (b3, .cells [.int .i64 ac, .int .i64 aq, .int .i64 ae, .bool af, .string av5, .int .i64 ar].toArray 29 (0, 0))] : OH)) (l₂ := ν)
      refine v_append (e := 87) (agg := true) (sz := 8) (bytes := 72) (zero := zS) rfl (by omega) rfl rfl hga hpm (m' := 1) (us := (sesOf ⟨ac, aq, ae, af, av5, ar⟩).cells) (Src.own (e := 87) (List.Mem.head _) rfl) rfl (by omega) (by simp only [maxLen]; omega) rfl fun v' ν' hg' => ?_
      have hga' := GrS.snoc hg'
      refine v_perm (List.perm_append_comm (l₁ := ν')) ?_
      refine v_drop (ν := [(b3, .cells [.int .i64 ac, .int .i64 aq, .int .i64 ae, .bool af, .string av5, .int .i64 ar].toArray 29 (0, 0))] ++ ν') (List.Sublist.cons _ (List.Sublist.refl _)) ?_
      rw [ep] at hga'
      repeat' (first | apply v_seq | apply v_region | apply v_nil | (apply v_pure; (case hop => first | (apply p_move <;> rfl) | (apply p_assign <;> rfl) | fail); (case hd => rfl)) | fail)
      have hpm := List.perm_append_comm (l₁ := ([(b3, .cells [.int .i64 ac, .int .i64 aq, .int .i64 ae, .bool af, .string av5, .int .i64 ar].toArray 29 (0, 0))] : OH)) (l₂ := ν')
      refine v_perm hpm ?_
      refine v_frz ν' (PickA.here _) ?_
      intro G2 hle2 hG2
      refine v_ret [] (outsA1 rfl rfl) (List.nil_sublist _) ⟨hle2, rfl, row_of_grow Ss.len hga' hG2⟩
theorem refPWith_s {G : GH} {l : List Pr} {sv : Value} (p : Pr) (hs : Prs G sv l) (hr : RiseW ksP l) (hn : l.length ≤ 200) (hz : Sized l) (hpz : p.key.size ≤ 200) : Con Tryd.prog 85 #[sv, .agg p.cells.toArray] G [] (fun r G' μ' => GH.le G G' ∧ μ' = [] ∧ Prs G' r (withG ksP l p)) := by
  obtain ⟨A, c, rfl, hlc, hcm, hsome, hcp⟩ := rowOpen hs
  simp only [maxLen] at hcm
  have hrg := riseG_pw.2 hr
  obtain ⟨pk, pv, pr⟩ := p
  simp only at hpz
  (refine v_enter Tryd.func85 rfl Tryd.ntmps85 rfl ?_; intro B _)
  repeat' (first | (apply v_box (zs := Pr.cells ⟨pk, pv, pr⟩); (case hx => rfl); (case hz => rfl); (case hd => rfl); intro b3) | apply v_seq | apply v_region | apply v_nil | apply v_block | (apply v_pure; (case hop => (apply p_assign <;> rfl)); (case hd => rfl)) | fail)
  refine v_loop [7, 0, 5, 6, 3] (fun us G' μ' => G' = G ∧ ∃ (k : Nat) (d : Bool) (av : Value) (ν : OH), k ≤ l.length ∧ us = [Value.int .i64 (k : Nat), .slice A l.length c, av, .bool d, .pointer (some ⟨b3, 0, none⟩)] ∧ μ' = [(b3, .cells [.string pk, .string pv, .int .i64 pr].toArray 85 (0, 0))] ++ ν ∧ GrP av (wK ksP l (⟨pk, pv, pr⟩ : Pr) k d) ν ∧ (d = false → ∀ i (hi : i < l.length), i < k → ksP l[i] < ksP (⟨pk, pv, pr⟩ : Pr)) ∧ (d = true → ∀ i (hi : i < l.length), k ≤ i → ksP (⟨pk, pv, pr⟩ : Pr) < ksP l[i])) (fun us => l.length - (headI us).toNat) rfl ⟨rfl, 0, false, .slice none 0 0, [], by omega, rfl, rfl, by rw [wK_zero]; exact Grow.nil _ _, fun _ i hi h => by omega, fun h => by cases h⟩ ?_
  rintro us G' _ ⟨hG', k, d, av, ν, hk, rfl, rfl, hga, hd0, hd1⟩
  subst hG'
  have hwl := wK_len (key := ksP) l (⟨pk, pv, pr⟩ : Pr) k d
  by_cases hlt : k < l.length
  · have e1 : ((k : Nat) : Int).toNat = k := by omega
    have hA := hsome (by omega)
    have hck := hcp k hlt
    have hxz := (hz _ (List.getElem_mem hlt)).1
    have hup : ∀ i (hi : i < l.length), k + 1 ≤ i → ksP l[k] < ksP l[i] := fun i hi h => hrg k i hi (by omega)
    rcases Int.lt_trichotomy (ksP l[k]) (ksP (⟨pk, pv, pr⟩ : Pr)) with hlt1 | heq | hgt
    · have ew := wK_less (key := ksP) (l := l) (p := (⟨pk, pv, pr⟩ : Pr)) hlt hlt1
      have hd0' : ∀ i (hi : i < l.length), i < k + 1 → ksP l[i] < ksP (⟨pk, pv, pr⟩ : Pr) := fun i hi h => by
        by_cases e : i = k
        · subst e; exact hlt1
        · cases d with
          | false => exact hd0 rfl i hi (by omega)
          | true => have := hd1 rfl k hlt (Nat.le_refl _); omega
      cases d with
      | true => have := hd1 rfl k hlt (Nat.le_refl _); omega
      | false =>
        clear hup hd0 hd1
        generalize l[k] = x at *
        obtain ⟨xk, xv, xr⟩ := x
        simp only at hxz
        have hc0 := hck.cell (j := 0) rfl
        simp only [ksP] at hlt1
        repeat' (first | apply v_seq | apply v_region | apply v_nil | apply v_skip | apply v_block | (apply v_pure; (case hop => first | (apply p_move <;> rfl) | (apply p_lt <;> rfl) | (apply p_lenSlice <;> rfl) | fail); (case hd => rfl)) | (apply v_cond; (case hc => rfl); all_goals (intro h; (try simp only [reduceCtorEq, zzz] at h); first | (exfalso; omega) | skip)) | fail)
        refine d_start [(b3, .cells [.string pk, .string pv, .int .i64 pr].toArray 85 (0, 0))] (by kernel_rfl) (by kernel_rfl) (by kernel_rfl) (by intro e he; (simp at he; simp [he]; done)) ?_
        all_goals (apply dtk 0; (case hi => rfl); (case hop => (apply prd; apply p_move <;> rfl)); (case hq => kernel_rfl))
        all_goals (apply dtk 1; (case hi => rfl); (case hop => (apply prd; apply p_not <;> rfl)); (case hq => kernel_rfl))
        all_goals (apply dtk 2; (case hi => rfl); (case hop => (apply prd; apply p_move <;> rfl)); (case hq => kernel_rfl))
        all_goals (try (apply d_guardB 3; (case hi => rfl); (case hgd => rfl); (case h1 => rfl); (case h2 => rfl); all_goals (intro h; (try simp only [reduceCtorEq, zzz] at h))))
        all_goals (apply dtg 3; (case hi => rfl); (case hg => rfl); (case hop => (apply prd; apply p_move <;> rfl)); (case hq => kernel_rfl))
        all_goals (try (apply d_guardB 4; (case hi => rfl); (case hgd => rfl); (case h1 => rfl); (case h2 => rfl); all_goals (intro h; (try simp only [reduceCtorEq, zzz] at h))))
        all_goals (apply dtg 4; (case hi => rfl); (case hg => rfl); (case hop => (apply prd; apply p_move <;> rfl)); (case hq => kernel_rfl))
        all_goals (try (apply d_guardB 5; (case hi => rfl); (case hgd => rfl); (case h1 => rfl); (case h2 => rfl); all_goals (intro h; (try simp only [reduceCtorEq, zzz] at h))))
        all_goals (apply dtg 5; (case hi => rfl); (case hg => rfl); (case hop => (apply prd; apply p_indexAddrS; (case hx => rfl); (case hi => rfl); (case h0 => omega); (case h => omega); (case hA => assumption))); (case hq => kernel_rfl))
        all_goals (try (apply d_guardB 6; (case hi => rfl); (case hgd => rfl); (case h1 => rfl); (case h2 => rfl); all_goals (intro h; (try simp only [reduceCtorEq, zzz] at h))))
        all_goals (apply dtg 6; (case hi => rfl); (case hg => rfl); (case hop => (apply prd; apply p_fieldAddr <;> rfl)); (case hq => kernel_rfl))
        all_goals (try (apply d_guardB 7; (case hi => rfl); (case hgd => rfl); (case h1 => rfl); (case h2 => rfl); all_goals (intro h; (try simp only [reduceCtorEq, zzz] at h))))
        all_goals (apply dtg 7; (case hi => rfl); (case hg => rfl); (case hop => ((apply r_load1; rfl; exact Cell.frozen hc0))); (case hq => kernel_rfl))
        all_goals (try (apply d_guardB 8; (case hi => rfl); (case hgd => rfl); (case h1 => rfl); (case h2 => rfl); all_goals (intro h; (try simp only [reduceCtorEq, zzz] at h))))
        all_goals (apply dtg 8; (case hi => rfl); (case hg => rfl); (case hop => (apply prd; apply p_fieldAddrB <;> rfl)); (case hq => kernel_rfl))
        all_goals (try (apply d_guardB 9; (case hi => rfl); (case hgd => rfl); (case h1 => rfl); (case h2 => rfl); all_goals (intro h; (try simp only [reduceCtorEq, zzz] at h))))
        all_goals (apply dtg 9; (case hi => rfl); (case hg => rfl); (case hop => (apply r_load1; rfl; (apply Cell.own; (case h => (repeat (exact mhd _))); rfl))); (case hq => kernel_rfl))
        all_goals (try (apply d_guardB 10; (case hi => rfl); (case hgd => rfl); (case h1 => rfl); (case h2 => rfl); all_goals (intro h; (try simp only [reduceCtorEq, zzz] at h))))
        all_goals (apply dtg 10; (case hi => rfl); (case hg => rfl); (case hop => ((apply prd; apply p_geK; (case hx => rfl); (case hy => rfl); (case ha => assumption); (case hb => assumption)))); (case hq => kernel_rfl))
        all_goals (apply dtk 11; (case hi => rfl); (case hop => (apply prd; apply p_pickT <;> rfl)); (case hq => kernel_rfl))
        all_goals (apply d_done; (case hr => kernel_rfl))
        repeat' (first | apply v_seq | apply v_skip | (apply v_cond; (case hc => rfl); all_goals (intro h; (try simp only [reduceCtorEq, zzz] at h); first | (exfalso; omega) | skip)) | fail)
        refine d_start [(b3, .cells [.string pk, .string pv, .int .i64 pr].toArray 85 (0, 0))] (by kernel_rfl) (by kernel_rfl) (by kernel_rfl) (by intro e he; (simp at he; simp [he]; done)) ?_
        all_goals (apply dtk 0; (case hi => rfl); (case hop => (apply prd; apply p_move <;> rfl)); (case hq => kernel_rfl))
        all_goals (apply dtk 1; (case hi => rfl); (case hop => (apply prd; apply p_move <;> rfl)); (case hq => kernel_rfl))
        all_goals (apply dtk 2; (case hi => rfl); (case hop => (apply prd; apply p_indexAddrS; (case hx => rfl); (case hi => rfl); (case h0 => omega); (case h => omega); (case hA => assumption))); (case hq => kernel_rfl))
        all_goals (apply dtk 3; (case hi => rfl); (case hop => (apply prd; apply p_fieldAddr <;> rfl)); (case hq => kernel_rfl))
        all_goals (apply dtk 4; (case hi => rfl); (case hop => ((apply r_load1; rfl; exact Cell.frozen hc0))); (case hq => kernel_rfl))
        all_goals (apply dtk 5; (case hi => rfl); (case hop => (apply prd; apply p_fieldAddrB <;> rfl)); (case hq => kernel_rfl))
        all_goals (apply dtk 6; (case hi => rfl); (case hop => (apply r_load1; rfl; (apply Cell.own; (case h => (repeat (exact mhd _))); rfl))); (case hq => kernel_rfl))
        all_goals (apply dtk 7; (case hi => rfl); (case hop => ((apply prd; apply p_neK; (case hx => rfl); (case hy => rfl); (case ha => assumption); (case hb => assumption)))); (case hq => kernel_rfl))
        all_goals (apply d_done; (case hr => kernel_rfl))
        repeat' (first | apply v_region | (apply v_pure; (case hop => first | (apply p_move <;> rfl) | (apply p_indexAddrS; (case hx => rfl); (case hi => rfl); (case h0 => omega); (case h => omega); (case hA => assumption)) | fail); (case hd => rfl)) | (apply v_cond; (case hc => rfl); all_goals (intro h; (try simp only [reduceCtorEq, zzz] at h); first | (exfalso; omega) | skip)) | (apply v_read; (case hop => (apply r_loadN; rfl; exact CellsAt.frozen hck; rfl)); (case hd => rfl)) | (apply v_buildSlice; (case hz => rfl); (case hi => rfl); (case hv => (simp only [List.map_cons, List.map_nil]; repeat (first | with_reducible exact evs_nil | (apply evs_cons; (case h1 => rfl))))); (case hp => (apply pk_cons; (case hc => rfl); (case hs => rfl); (case h => (with_reducible exact pk_nil)); (case he => ((repeat (first | with_reducible exact ap_nil | apply ap_cons)); done)))); (case hb => rfl); (case hd => rfl); intro b) | fail)
        have hpm := List.perm_append_comm (l₁ := ([(b, .cells (Pr.cells ⟨xk, xv, xr⟩).toArray 85 (0, 0)), (b3, .cells [.string pk, .string pv, .int .i64 pr].toArray 85 (0, 0))] : OH)) (l₂ := ν)
        refine v_append (e := 85) (agg := true) (sz := 3) (bytes := 40) (zero := zP) rfl (by omega) rfl rfl hga hpm (m' := 1) (us := (Pr.cells ⟨xk, xv, xr⟩)) (Src.own (e := 85) (List.Mem.head _) rfl) rfl (by omega) (by simp only [maxLen]; omega) rfl fun v' ν' hg' => ?_
        have hga' := GrP.snoc hg'
        refine v_perm (List.perm_append_comm (l₁ := ν')) ?_
        refine v_drop (ν := [(b3, .cells [.string pk, .string pv, .int .i64 pr].toArray 85 (0, 0))] ++ ν') (List.Sublist.cons _ (List.Sublist.refl _)) ?_
        repeat' (first | apply v_region | apply v_nil | apply v_blk | (apply v_pure; (case hop => first | (apply p_move <;> rfl) | (apply p_assign <;> rfl) | (apply p_add; (case hx => rfl); (case hy => rfl); (case h => omega)) | fail); (case hd => rfl)) | fail)
        exact v_again rfl ⟨rfl, k + 1, false, _, _, by omega, rfl, rfl, by rw [← ew]; exact hga', fun _ => hd0', (fun h => by cases h)⟩ (by simp [headI]; omega)
    · have ew := wK_same (key := ksP) (l := l) (p := (⟨pk, pv, pr⟩ : Pr)) hlt heq
      have hd1' : ∀ i (hi : i < l.length), k + 1 ≤ i → ksP (⟨pk, pv, pr⟩ : Pr) < ksP l[i] := fun i hi h => by have := hup i hi h; omega
      cases d with
      | true => have := hd1 rfl k hlt (Nat.le_refl _); omega
      | false =>
        have ep := wK_put (hd0 rfl)
        clear hup hd0 hd1
        generalize l[k] = x at *
        obtain ⟨xk, xv, xr⟩ := x
        simp only at hxz
        have hc0 := hck.cell (j := 0) rfl
        simp only [ksP] at heq
        repeat' (first | apply v_seq | apply v_region | apply v_nil | apply v_skip | apply v_block | (apply v_pure; (case hop => first | (apply p_move <;> rfl) | (apply p_lt <;> rfl) | (apply p_lenSlice <;> rfl) | fail); (case hd => rfl)) | (apply v_cond; (case hc => rfl); all_goals (intro h; (try simp only [reduceCtorEq, zzz] at h); first | (exfalso; omega) | skip)) | fail)
        refine d_start [(b3, .cells [.string pk, .string pv, .int .i64 pr].toArray 85 (0, 0))] (by kernel_rfl) (by kernel_rfl) (by kernel_rfl) (by intro e he; (simp at he; simp [he]; done)) ?_
        all_goals (apply dtk 0; (case hi => rfl); (case hop => (apply prd; apply p_move <;> rfl)); (case hq => kernel_rfl))
        all_goals (apply dtk 1; (case hi => rfl); (case hop => (apply prd; apply p_not <;> rfl)); (case hq => kernel_rfl))
        all_goals (apply dtk 2; (case hi => rfl); (case hop => (apply prd; apply p_move <;> rfl)); (case hq => kernel_rfl))
        all_goals (try (apply d_guardB 3; (case hi => rfl); (case hgd => rfl); (case h1 => rfl); (case h2 => rfl); all_goals (intro h; (try simp only [reduceCtorEq, zzz] at h))))
        all_goals (apply dtg 3; (case hi => rfl); (case hg => rfl); (case hop => (apply prd; apply p_move <;> rfl)); (case hq => kernel_rfl))
        all_goals (try (apply d_guardB 4; (case hi => rfl); (case hgd => rfl); (case h1 => rfl); (case h2 => rfl); all_goals (intro h; (try simp only [reduceCtorEq, zzz] at h))))
        all_goals (apply dtg 4; (case hi => rfl); (case hg => rfl); (case hop => (apply prd; apply p_move <;> rfl)); (case hq => kernel_rfl))
        all_goals (try (apply d_guardB 5; (case hi => rfl); (case hgd => rfl); (case h1 => rfl); (case h2 => rfl); all_goals (intro h; (try simp only [reduceCtorEq, zzz] at h))))
        all_goals (apply dtg 5; (case hi => rfl); (case hg => rfl); (case hop => (apply prd; apply p_indexAddrS; (case hx => rfl); (case hi => rfl); (case h0 => omega); (case h => omega); (case hA => assumption))); (case hq => kernel_rfl))
        all_goals (try (apply d_guardB 6; (case hi => rfl); (case hgd => rfl); (case h1 => rfl); (case h2 => rfl); all_goals (intro h; (try simp only [reduceCtorEq, zzz] at h))))
        all_goals (apply dtg 6; (case hi => rfl); (case hg => rfl); (case hop => (apply prd; apply p_fieldAddr <;> rfl)); (case hq => kernel_rfl))
        all_goals (try (apply d_guardB 7; (case hi => rfl); (case hgd => rfl); (case h1 => rfl); (case h2 => rfl); all_goals (intro h; (try simp only [reduceCtorEq, zzz] at h))))
        all_goals (apply dtg 7; (case hi => rfl); (case hg => rfl); (case hop => ((apply r_load1; rfl; exact Cell.frozen hc0))); (case hq => kernel_rfl))
        all_goals (try (apply d_guardB 8; (case hi => rfl); (case hgd => rfl); (case h1 => rfl); (case h2 => rfl); all_goals (intro h; (try simp only [reduceCtorEq, zzz] at h))))
        all_goals (apply dtg 8; (case hi => rfl); (case hg => rfl); (case hop => (apply prd; apply p_fieldAddrB <;> rfl)); (case hq => kernel_rfl))
        all_goals (try (apply d_guardB 9; (case hi => rfl); (case hgd => rfl); (case h1 => rfl); (case h2 => rfl); all_goals (intro h; (try simp only [reduceCtorEq, zzz] at h))))
        all_goals (apply dtg 9; (case hi => rfl); (case hg => rfl); (case hop => (apply r_load1; rfl; (apply Cell.own; (case h => (repeat (exact mhd _))); rfl))); (case hq => kernel_rfl))
        all_goals (try (apply d_guardB 10; (case hi => rfl); (case hgd => rfl); (case h1 => rfl); (case h2 => rfl); all_goals (intro h; (try simp only [reduceCtorEq, zzz] at h))))
        all_goals (apply dtg 10; (case hi => rfl); (case hg => rfl); (case hop => ((apply prd; apply p_geK; (case hx => rfl); (case hy => rfl); (case ha => assumption); (case hb => assumption)))); (case hq => kernel_rfl))
        all_goals (apply dtk 11; (case hi => rfl); (case hop => (apply prd; apply p_pickT <;> rfl)); (case hq => kernel_rfl))
        all_goals (apply d_done; (case hr => kernel_rfl))
        repeat' (first | (apply v_read; (case hop => (apply r_loadNo; (case hx => rfl); (case h => repeat (exact mhd _)); (case hd => rfl); (case hn => rfl))); (case hd => rfl)) | apply v_seq | apply v_region | (apply v_pure; (case hop => (apply p_move <;> rfl)); (case hd => rfl)) | (apply v_cond; (case hc => rfl); all_goals (intro h; (try simp only [reduceCtorEq, zzz] at h); first | (exfalso; omega) | skip)) | (apply v_buildSlice; (case hz => rfl); (case hi => rfl); (case hv => (simp only [List.map_cons, List.map_nil]; repeat (first | with_reducible exact evs_nil | (apply evs_cons; (case h1 => rfl))))); (case hp => (apply pk_cons; (case hc => rfl); (case hs => rfl); (case h => (with_reducible exact pk_nil)); (case he => (rfl)))); (case hb => rfl); (case hd => rfl); intro b) | fail)
        have hpm := List.perm_append_comm (l₁ := ([(b, .cells (Pr.cells ⟨pk, pv, pr⟩).toArray 85 (0, 0)), (b3, .cells [.string pk, .string pv, .int .i64 pr].toArray 85 (0, 0))] : OH)) (l₂ := ν)
        refine v_append (e := 85) (agg := true) (sz := 3) (bytes := 40) (zero := zP) rfl (by omega) rfl rfl hga hpm (m' := 1) (us := (Pr.cells ⟨pk, pv, pr⟩)) (Src.own (e := 85) (List.Mem.head _) rfl) rfl (by omega) (by simp only [maxLen]; omega) rfl fun v' ν' hg' => ?_
        have hga' := GrP.snoc hg'
        refine v_perm (List.perm_append_comm (l₁ := ν')) ?_
        refine v_drop (ν := [(b3, .cells [.string pk, .string pv, .int .i64 pr].toArray 85 (0, 0))] ++ ν') (List.Sublist.cons _ (List.Sublist.refl _)) ?_
        repeat' (first | apply v_seq | apply v_region | apply v_nil | (apply v_pure; (case hop => (apply p_assign <;> rfl)); (case hd => rfl)) | fail)
        refine d_start [(b3, .cells [.string pk, .string pv, .int .i64 pr].toArray 85 (0, 0))] (by kernel_rfl) (by kernel_rfl) (by kernel_rfl) (by intro e he; (simp at he; simp [he]; done)) ?_
        all_goals (apply dtk 0; (case hi => rfl); (case hop => (apply prd; apply p_move <;> rfl)); (case hq => kernel_rfl))
        all_goals (apply dtk 1; (case hi => rfl); (case hop => (apply prd; apply p_move <;> rfl)); (case hq => kernel_rfl))
        all_goals (apply dtk 2; (case hi => rfl); (case hop => (apply prd; apply p_indexAddrS; (case hx => rfl); (case hi => rfl); (case h0 => omega); (case h => omega); (case hA => assumption))); (case hq => kernel_rfl))
        all_goals (apply dtk 3; (case hi => rfl); (case hop => (apply prd; apply p_fieldAddr <;> rfl)); (case hq => kernel_rfl))
        all_goals (apply dtk 4; (case hi => rfl); (case hop => ((apply r_load1; rfl; exact Cell.frozen hc0))); (case hq => kernel_rfl))
        all_goals (apply dtk 5; (case hi => rfl); (case hop => (apply prd; apply p_fieldAddrB <;> rfl)); (case hq => kernel_rfl))
        all_goals (apply dtk 6; (case hi => rfl); (case hop => (apply r_load1; rfl; (apply Cell.own; (case h => (repeat (exact mhd _))); rfl))); (case hq => kernel_rfl))
        all_goals (apply dtk 7; (case hi => rfl); (case hop => ((apply prd; apply p_neK; (case hx => rfl); (case hy => rfl); (case ha => assumption); (case hb => assumption)))); (case hq => kernel_rfl))
        all_goals (apply d_done; (case hr => kernel_rfl))
        repeat' (first | apply v_region | apply v_nil | apply v_skip | apply v_blk | (apply v_pure; (case hop => first | (apply p_move <;> rfl) | (apply p_assign <;> rfl) | (apply p_add; (case hx => rfl); (case hy => rfl); (case h => omega)) | fail); (case hd => rfl)) | (apply v_cond; (case hc => rfl); all_goals (intro h; (try simp only [reduceCtorEq, zzz] at h); first | (exfalso; omega) | skip)) | fail)
        exact v_again rfl ⟨rfl, k + 1, true, _, _, by omega, rfl, rfl, by rw [← ew, ← ep]; exact hga', (fun h => by cases h), fun _ => hd1'⟩ (by simp [headI]; omega)
    · have ew := wK_more (key := ksP) (l := l) (p := (⟨pk, pv, pr⟩ : Pr)) hlt hgt
      have hd1' : ∀ i (hi : i < l.length), k + 1 ≤ i → ksP (⟨pk, pv, pr⟩ : Pr) < ksP l[i] := fun i hi h => by have := hup i hi h; omega
      cases d with
      | true =>
        clear hup hd0 hd1
        generalize l[k] = x at *
        obtain ⟨xk, xv, xr⟩ := x
        simp only at hxz
        have hc0 := hck.cell (j := 0) rfl
        simp only [ksP] at hgt
        repeat' (first | apply v_seq | apply v_region | apply v_nil | apply v_skip | apply v_block | (apply v_pure; (case hop => first | (apply p_move <;> rfl) | (apply p_lt <;> rfl) | (apply p_lenSlice <;> rfl) | fail); (case hd => rfl)) | (apply v_cond; (case hc => rfl); all_goals (intro h; (try simp only [reduceCtorEq, zzz] at h); first | (exfalso; omega) | skip)) | fail)
        refine d_start [(b3, .cells [.string pk, .string pv, .int .i64 pr].toArray 85 (0, 0))] (by kernel_rfl) (by kernel_rfl) (by kernel_rfl) (by intro e he; (simp at he; simp [he]; done)) ?_
        all_goals (apply dtk 0; (case hi => rfl); (case hop => (apply prd; apply p_move <;> rfl)); (case hq => kernel_rfl))
        all_goals (apply dtk 1; (case hi => rfl); (case hop => (apply prd; apply p_not <;> rfl)); (case hq => kernel_rfl))
        all_goals (apply dtk 2; (case hi => rfl); (case hop => (apply prd; apply p_move <;> rfl)); (case hq => kernel_rfl))
        all_goals (try (apply d_guardB 3; (case hi => rfl); (case hgd => rfl); (case h1 => rfl); (case h2 => rfl); all_goals (intro h; (try simp only [reduceCtorEq, zzz] at h))))
        all_goals (apply dpa 3; (case hi => rfl); (case hg => rfl); (case hn => rfl); (case hq => kernel_rfl))
        all_goals (try (apply d_guardB 4; (case hi => rfl); (case hgd => rfl); (case h1 => rfl); (case h2 => rfl); all_goals (intro h; (try simp only [reduceCtorEq, zzz] at h))))
        all_goals (apply dpa 4; (case hi => rfl); (case hg => rfl); (case hn => rfl); (case hq => kernel_rfl))
        all_goals (try (apply d_guardB 5; (case hi => rfl); (case hgd => rfl); (case h1 => rfl); (case h2 => rfl); all_goals (intro h; (try simp only [reduceCtorEq, zzz] at h))))
        all_goals (apply dpa 5; (case hi => rfl); (case hg => rfl); (case hn => rfl); (case hq => kernel_rfl))
        all_goals (try (apply d_guardB 6; (case hi => rfl); (case hgd => rfl); (case h1 => rfl); (case h2 => rfl); all_goals (intro h; (try simp only [reduceCtorEq, zzz] at h))))
        all_goals (apply dpa 6; (case hi => rfl); (case hg => rfl); (case hn => rfl); (case hq => kernel_rfl))
        all_goals (try (apply d_guardB 7; (case hi => rfl); (case hgd => rfl); (case h1 => rfl); (case h2 => rfl); all_goals (intro h; (try simp only [reduceCtorEq, zzz] at h))))
        all_goals (apply dpa 7; (case hi => rfl); (case hg => rfl); (case hn => rfl); (case hq => kernel_rfl))
        all_goals (try (apply d_guardB 8; (case hi => rfl); (case hgd => rfl); (case h1 => rfl); (case h2 => rfl); all_goals (intro h; (try simp only [reduceCtorEq, zzz] at h))))
        all_goals (apply dpa 8; (case hi => rfl); (case hg => rfl); (case hn => rfl); (case hq => kernel_rfl))
        all_goals (try (apply d_guardB 9; (case hi => rfl); (case hgd => rfl); (case h1 => rfl); (case h2 => rfl); all_goals (intro h; (try simp only [reduceCtorEq, zzz] at h))))
        all_goals (apply dpa 9; (case hi => rfl); (case hg => rfl); (case hn => rfl); (case hq => kernel_rfl))
        all_goals (try (apply d_guardB 10; (case hi => rfl); (case hgd => rfl); (case h1 => rfl); (case h2 => rfl); all_goals (intro h; (try simp only [reduceCtorEq, zzz] at h))))
        all_goals (apply dpa 10; (case hi => rfl); (case hg => rfl); (case hn => rfl); (case hq => kernel_rfl))
        all_goals (apply dtk 11; (case hi => rfl); (case hop => (apply prd; apply p_pickF <;> rfl)); (case hq => kernel_rfl))
        all_goals (apply d_done; (case hr => kernel_rfl))
        repeat' (first | apply v_seq | apply v_skip | (apply v_condF; (case hc => rfl)) | fail)
        refine d_start [(b3, .cells [.string pk, .string pv, .int .i64 pr].toArray 85 (0, 0))] (by kernel_rfl) (by kernel_rfl) (by kernel_rfl) (by intro e he; (simp at he; simp [he]; done)) ?_
        all_goals (apply dtk 0; (case hi => rfl); (case hop => (apply prd; apply p_move <;> rfl)); (case hq => kernel_rfl))
        all_goals (apply dtk 1; (case hi => rfl); (case hop => (apply prd; apply p_move <;> rfl)); (case hq => kernel_rfl))
        all_goals (apply dtk 2; (case hi => rfl); (case hop => (apply prd; apply p_indexAddrS; (case hx => rfl); (case hi => rfl); (case h0 => omega); (case h => omega); (case hA => assumption))); (case hq => kernel_rfl))
        all_goals (apply dtk 3; (case hi => rfl); (case hop => (apply prd; apply p_fieldAddr <;> rfl)); (case hq => kernel_rfl))
        all_goals (apply dtk 4; (case hi => rfl); (case hop => ((apply r_load1; rfl; exact Cell.frozen hc0))); (case hq => kernel_rfl))
        all_goals (apply dtk 5; (case hi => rfl); (case hop => (apply prd; apply p_fieldAddrB <;> rfl)); (case hq => kernel_rfl))
        all_goals (apply dtk 6; (case hi => rfl); (case hop => (apply r_load1; rfl; (apply Cell.own; (case h => (repeat (exact mhd _))); rfl))); (case hq => kernel_rfl))
        all_goals (apply dtk 7; (case hi => rfl); (case hop => ((apply prd; apply p_neK; (case hx => rfl); (case hy => rfl); (case ha => assumption); (case hb => assumption)))); (case hq => kernel_rfl))
        all_goals (apply d_done; (case hr => kernel_rfl))
        repeat' (first | apply v_region | (apply v_pure; (case hop => first | (apply p_move <;> rfl) | (apply p_indexAddrS; (case hx => rfl); (case hi => rfl); (case h0 => omega); (case h => omega); (case hA => assumption)) | fail); (case hd => rfl)) | (apply v_cond; (case hc => rfl); all_goals (intro h; (try simp only [reduceCtorEq, zzz] at h); first | (exfalso; omega) | skip)) | (apply v_read; (case hop => (apply r_loadN; rfl; exact CellsAt.frozen hck; rfl)); (case hd => rfl)) | (apply v_buildSlice; (case hz => rfl); (case hi => rfl); (case hv => (simp only [List.map_cons, List.map_nil]; repeat (first | with_reducible exact evs_nil | (apply evs_cons; (case h1 => rfl))))); (case hp => (apply pk_cons; (case hc => rfl); (case hs => rfl); (case h => (with_reducible exact pk_nil)); (case he => ((repeat (first | with_reducible exact ap_nil | apply ap_cons)); done)))); (case hb => rfl); (case hd => rfl); intro b) | fail)
        have hpm := List.perm_append_comm (l₁ := ([(b, .cells (Pr.cells ⟨xk, xv, xr⟩).toArray 85 (0, 0)), (b3, .cells [.string pk, .string pv, .int .i64 pr].toArray 85 (0, 0))] : OH)) (l₂ := ν)
        refine v_append (e := 85) (agg := true) (sz := 3) (bytes := 40) (zero := zP) rfl (by omega) rfl rfl hga hpm (m' := 1) (us := (Pr.cells ⟨xk, xv, xr⟩)) (Src.own (e := 85) (List.Mem.head _) rfl) rfl (by omega) (by simp only [maxLen]; omega) rfl fun v' ν' hg' => ?_
        have hga' := GrP.snoc hg'
        refine v_perm (List.perm_append_comm (l₁ := ν')) ?_
        refine v_drop (ν := [(b3, .cells [.string pk, .string pv, .int .i64 pr].toArray 85 (0, 0))] ++ ν') (List.Sublist.cons _ (List.Sublist.refl _)) ?_
        repeat' (first | apply v_region | apply v_nil | apply v_blk | (apply v_pure; (case hop => first | (apply p_move <;> rfl) | (apply p_assign <;> rfl) | (apply p_add; (case hx => rfl); (case hy => rfl); (case h => omega)) | fail); (case hd => rfl)) | fail)
        exact v_again rfl ⟨rfl, k + 1, true, _, _, by omega, rfl, rfl, by rw [← ew]; exact hga', (fun h => by cases h), fun _ => hd1'⟩ (by simp [headI]; omega)
      | false =>
        have ep := wK_put (hd0 rfl)
        clear hup hd0 hd1
        generalize l[k] = x at *
        obtain ⟨xk, xv, xr⟩ := x
        simp only at hxz
        have hc0 := hck.cell (j := 0) rfl
        simp only [ksP] at hgt
        repeat' (first | apply v_seq | apply v_region | apply v_nil | apply v_skip | apply v_block | (apply v_pure; (case hop => first | (apply p_move <;> rfl) | (apply p_lt <;> rfl) | (apply p_lenSlice <;> rfl) | fail); (case hd => rfl)) | (apply v_cond; (case hc => rfl); all_goals (intro h; (try simp only [reduceCtorEq, zzz] at h); first | (exfalso; omega) | skip)) | fail)
        refine d_start [(b3, .cells [.string pk, .string pv, .int .i64 pr].toArray 85 (0, 0))] (by kernel_rfl) (by kernel_rfl) (by kernel_rfl) (by intro e he; (simp at he; simp [he]; done)) ?_
        all_goals (apply dtk 0; (case hi => rfl); (case hop => (apply prd; apply p_move <;> rfl)); (case hq => kernel_rfl))
        all_goals (apply dtk 1; (case hi => rfl); (case hop => (apply prd; apply p_not <;> rfl)); (case hq => kernel_rfl))
        all_goals (apply dtk 2; (case hi => rfl); (case hop => (apply prd; apply p_move <;> rfl)); (case hq => kernel_rfl))
        all_goals (try (apply d_guardB 3; (case hi => rfl); (case hgd => rfl); (case h1 => rfl); (case h2 => rfl); all_goals (intro h; (try simp only [reduceCtorEq, zzz] at h))))
        all_goals (apply dtg 3; (case hi => rfl); (case hg => rfl); (case hop => (apply prd; apply p_move <;> rfl)); (case hq => kernel_rfl))
        all_goals (try (apply d_guardB 4; (case hi => rfl); (case hgd => rfl); (case h1 => rfl); (case h2 => rfl); all_goals (intro h; (try simp only [reduceCtorEq, zzz] at h))))
        all_goals (apply dtg 4; (case hi => rfl); (case hg => rfl); (case hop => (apply prd; apply p_move <;> rfl)); (case hq => kernel_rfl))
        all_goals (try (apply d_guardB 5; (case hi => rfl); (case hgd => rfl); (case h1 => rfl); (case h2 => rfl); all_goals (intro h; (try simp only [reduceCtorEq, zzz] at h))))
        all_goals (apply dtg 5; (case hi => rfl); (case hg => rfl); (case hop => (apply prd; apply p_indexAddrS; (case hx => rfl); (case hi => rfl); (case h0 => omega); (case h => omega); (case hA => assumption))); (case hq => kernel_rfl))
        all_goals (try (apply d_guardB 6; (case hi => rfl); (case hgd => rfl); (case h1 => rfl); (case h2 => rfl); all_goals (intro h; (try simp only [reduceCtorEq, zzz] at h))))
        all_goals (apply dtg 6; (case hi => rfl); (case hg => rfl); (case hop => (apply prd; apply p_fieldAddr <;> rfl)); (case hq => kernel_rfl))
        all_goals (try (apply d_guardB 7; (case hi => rfl); (case hgd => rfl); (case h1 => rfl); (case h2 => rfl); all_goals (intro h; (try simp only [reduceCtorEq, zzz] at h))))
        all_goals (apply dtg 7; (case hi => rfl); (case hg => rfl); (case hop => ((apply r_load1; rfl; exact Cell.frozen hc0))); (case hq => kernel_rfl))
        all_goals (try (apply d_guardB 8; (case hi => rfl); (case hgd => rfl); (case h1 => rfl); (case h2 => rfl); all_goals (intro h; (try simp only [reduceCtorEq, zzz] at h))))
        all_goals (apply dtg 8; (case hi => rfl); (case hg => rfl); (case hop => (apply prd; apply p_fieldAddrB <;> rfl)); (case hq => kernel_rfl))
        all_goals (try (apply d_guardB 9; (case hi => rfl); (case hgd => rfl); (case h1 => rfl); (case h2 => rfl); all_goals (intro h; (try simp only [reduceCtorEq, zzz] at h))))
        all_goals (apply dtg 9; (case hi => rfl); (case hg => rfl); (case hop => (apply r_load1; rfl; (apply Cell.own; (case h => (repeat (exact mhd _))); rfl))); (case hq => kernel_rfl))
        all_goals (try (apply d_guardB 10; (case hi => rfl); (case hgd => rfl); (case h1 => rfl); (case h2 => rfl); all_goals (intro h; (try simp only [reduceCtorEq, zzz] at h))))
        all_goals (apply dtg 10; (case hi => rfl); (case hg => rfl); (case hop => ((apply prd; apply p_geK; (case hx => rfl); (case hy => rfl); (case ha => assumption); (case hb => assumption)))); (case hq => kernel_rfl))
        all_goals (apply dtk 11; (case hi => rfl); (case hop => (apply prd; apply p_pickT <;> rfl)); (case hq => kernel_rfl))
        all_goals (apply d_done; (case hr => kernel_rfl))
        repeat' (first | (apply v_read; (case hop => (apply r_loadNo; (case hx => rfl); (case h => repeat (exact mhd _)); (case hd => rfl); (case hn => rfl))); (case hd => rfl)) | apply v_seq | apply v_region | (apply v_pure; (case hop => (apply p_move <;> rfl)); (case hd => rfl)) | (apply v_cond; (case hc => rfl); all_goals (intro h; (try simp only [reduceCtorEq, zzz] at h); first | (exfalso; omega) | skip)) | (apply v_buildSlice; (case hz => rfl); (case hi => rfl); (case hv => (simp only [List.map_cons, List.map_nil]; repeat (first | with_reducible exact evs_nil | (apply evs_cons; (case h1 => rfl))))); (case hp => (apply pk_cons; (case hc => rfl); (case hs => rfl); (case h => (with_reducible exact pk_nil)); (case he => (rfl)))); (case hb => rfl); (case hd => rfl); intro b) | fail)
        have hpm := List.perm_append_comm (l₁ := ([(b, .cells (Pr.cells ⟨pk, pv, pr⟩).toArray 85 (0, 0)), (b3, .cells [.string pk, .string pv, .int .i64 pr].toArray 85 (0, 0))] : OH)) (l₂ := ν)
        refine v_append (e := 85) (agg := true) (sz := 3) (bytes := 40) (zero := zP) rfl (by omega) rfl rfl hga hpm (m' := 1) (us := (Pr.cells ⟨pk, pv, pr⟩)) (Src.own (e := 85) (List.Mem.head _) rfl) rfl (by omega) (by simp only [maxLen]; omega) rfl fun v' ν' hg' => ?_
        have hga' := GrP.snoc hg'
        refine v_perm (List.perm_append_comm (l₁ := ν')) ?_
        refine v_drop (ν := [(b3, .cells [.string pk, .string pv, .int .i64 pr].toArray 85 (0, 0))] ++ ν') (List.Sublist.cons _ (List.Sublist.refl _)) ?_
        repeat' (first | apply v_seq | apply v_region | apply v_nil | (apply v_pure; (case hop => (apply p_assign <;> rfl)); (case hd => rfl)) | fail)
        refine d_start [(b3, .cells [.string pk, .string pv, .int .i64 pr].toArray 85 (0, 0))] (by kernel_rfl) (by kernel_rfl) (by kernel_rfl) (by intro e he; (simp at he; simp [he]; done)) ?_
        all_goals (apply dtk 0; (case hi => rfl); (case hop => (apply prd; apply p_move <;> rfl)); (case hq => kernel_rfl))
        all_goals (apply dtk 1; (case hi => rfl); (case hop => (apply prd; apply p_move <;> rfl)); (case hq => kernel_rfl))
        all_goals (apply dtk 2; (case hi => rfl); (case hop => (apply prd; apply p_indexAddrS; (case hx => rfl); (case hi => rfl); (case h0 => omega); (case h => omega); (case hA => assumption))); (case hq => kernel_rfl))
        all_goals (apply dtk 3; (case hi => rfl); (case hop => (apply prd; apply p_fieldAddr <;> rfl)); (case hq => kernel_rfl))
        all_goals (apply dtk 4; (case hi => rfl); (case hop => ((apply r_load1; rfl; exact Cell.frozen hc0))); (case hq => kernel_rfl))
        all_goals (apply dtk 5; (case hi => rfl); (case hop => (apply prd; apply p_fieldAddrB <;> rfl)); (case hq => kernel_rfl))
        all_goals (apply dtk 6; (case hi => rfl); (case hop => (apply r_load1; rfl; (apply Cell.own; (case h => (repeat (exact mhd _))); rfl))); (case hq => kernel_rfl))
        all_goals (apply dtk 7; (case hi => rfl); (case hop => ((apply prd; apply p_neK; (case hx => rfl); (case hy => rfl); (case ha => assumption); (case hb => assumption)))); (case hq => kernel_rfl))
        all_goals (apply d_done; (case hr => kernel_rfl))
        repeat' (first | apply v_region | (apply v_pure; (case hop => first | (apply p_move <;> rfl) | (apply p_indexAddrS; (case hx => rfl); (case hi => rfl); (case h0 => omega); (case h => omega); (case hA => assumption)) | fail); (case hd => rfl)) | (apply v_cond; (case hc => rfl); all_goals (intro h; (try simp only [reduceCtorEq, zzz] at h); first | (exfalso; omega) | skip)) | (apply v_read; (case hop => (apply r_loadN; rfl; exact CellsAt.frozen hck; rfl)); (case hd => rfl)) | (apply v_buildSlice; (case hz => rfl); (case hi => rfl); (case hv => (simp only [List.map_cons, List.map_nil]; repeat (first | with_reducible exact evs_nil | (apply evs_cons; (case h1 => rfl))))); (case hp => (apply pk_cons; (case hc => rfl); (case hs => rfl); (case h => (with_reducible exact pk_nil)); (case he => ((repeat (first | with_reducible exact ap_nil | apply ap_cons)); done)))); (case hb => rfl); (case hd => rfl); intro b) | fail)
        rw [ep] at hga'
        have hwl' := wK_len (key := ksP) l (⟨pk, pv, pr⟩ : Pr) k true
        have hpm := List.perm_append_comm (l₁ := ([(b, .cells (Pr.cells ⟨xk, xv, xr⟩).toArray 85 (0, 0)), (b3, .cells [.string pk, .string pv, .int .i64 pr].toArray 85 (0, 0))] : OH)) (l₂ := ν')
        refine v_append (e := 85) (agg := true) (sz := 3) (bytes := 40) (zero := zP) rfl (by omega) rfl rfl hga' hpm (m' := 1) (us := (Pr.cells ⟨xk, xv, xr⟩)) (Src.own (e := 85) (List.Mem.head _) rfl) rfl (by omega) (by simp only [maxLen]; omega) rfl fun v' ν' hg' => ?_
        have hga2 := GrP.snoc hg'
        refine v_perm (List.perm_append_comm (l₁ := ν')) ?_
        refine v_drop (ν := [(b3, .cells [.string pk, .string pv, .int .i64 pr].toArray 85 (0, 0))] ++ ν') (List.Sublist.cons _ (List.Sublist.refl _)) ?_
        repeat' (first | apply v_region | apply v_nil | apply v_blk | (apply v_pure; (case hop => first | (apply p_move <;> rfl) | (apply p_assign <;> rfl) | (apply p_add; (case hx => rfl); (case hy => rfl); (case h => omega)) | fail); (case hd => rfl)) | fail)
        exact v_again rfl ⟨rfl, k + 1, true, _, _, by omega, rfl, rfl, by rw [← ew]; exact hga2, (fun h => by cases h), fun _ => hd1'⟩ (by simp [headI]; omega)
  · obtain rfl : k = l.length := by omega
    cases d with
    | true =>
      rw [wK_end] at hga
      repeat' (first | apply v_seq | apply v_region | apply v_nil | apply v_skip | (apply v_exit; (case hp => rfl)) | (apply v_pure; (case hop => first | (apply p_move <;> rfl) | (apply p_lt <;> rfl) | (apply p_assign <;> rfl) | (apply p_not <;> rfl) | (apply p_lenSlice <;> rfl) | fail); (case hd => rfl)) | (apply v_condF; (case hc => rfl)) | (apply v_cond; (case hc => rfl); all_goals (intro h; (try simp only [reduceCtorEq, zzz] at h); first | (exfalso; omega) | skip)) | fail)
      have hpm := List.perm_append_comm (l₁ := ([(b3, .cells [.string pk, .string pv, .int .i64 pr].toArray 85 (0, 0))] : OH)) (l₂ := ν)
      refine v_perm hpm ?_
      refine v_frz ν (PickA.here _) ?_
      intro G2 hle2 hG2
      refine v_ret [] (outsA1 rfl rfl) (List.nil_sublist _) ⟨hle2, rfl, row_of_grow Pr.len hga hG2⟩
    | false =>
      have ep := wK_put (hd0 rfl)
      rw [wK_end] at ep
      repeat' (first | (apply v_read; (case hop => (apply r_loadNo; (case hx => rfl); (case h => repeat (exact mhd _)); (case hd => rfl); (case hn => rfl))); (case hd => rfl)) | apply v_seq | apply v_region | apply v_nil | (apply v_exit; (case hp => rfl)) | (apply v_pure; (case hop => first | (apply p_move <;> rfl) | (apply p_lt <;> rfl) | (apply p_not <;> rfl) | (apply p_lenSlice <;> rfl) | fail); (case hd => rfl)) | (apply v_condT; (case hc => rfl)) | (apply v_cond; (case hc => rfl); all_goals (intro h; (try simp only [reduceCtorEq, zzz] at h); first | (exfalso; omega) | skip)) | (apply v_buildSlice; (case hz => rfl); (case hi => rfl); (case hv => (simp only [List.map_cons, List.map_nil]; repeat (first | with_reducible exact evs_nil | (apply evs_cons; (case h1 => rfl))))); (case hp => (apply pk_cons; (case hc => rfl); (case hs => rfl); (case h => (with_reducible exact pk_nil)); (case he => (rfl)))); (case hb => rfl); (case hd => rfl); intro b) | fail)
      have hpm := List.perm_append_comm (l₁ := ([(b, .cells (Pr.cells ⟨pk, pv, pr⟩).toArray 85 (0, 0)), (b3, .cells [.string pk, .string pv, .int .i64 pr].toArray 85 (0, 0))] : OH)) (l₂ := ν)
      refine v_append (e := 85) (agg := true) (sz := 3) (bytes := 40) (zero := zP) rfl (by omega) rfl rfl hga hpm (m' := 1) (us := (Pr.cells ⟨pk, pv, pr⟩)) (Src.own (e := 85) (List.Mem.head _) rfl) rfl (by omega) (by simp only [maxLen]; omega) rfl fun v' ν' hg' => ?_
      have hga' := GrP.snoc hg'
      refine v_perm (List.perm_append_comm (l₁ := ν')) ?_
      refine v_drop (ν := [(b3, .cells [.string pk, .string pv, .int .i64 pr].toArray 85 (0, 0))] ++ ν') (List.Sublist.cons _ (List.Sublist.refl _)) ?_
      rw [ep] at hga'
      repeat' (first | apply v_seq | apply v_region | apply v_nil | (apply v_pure; (case hop => first | (apply p_move <;> rfl) | (apply p_assign <;> rfl) | fail); (case hd => rfl)) | fail)
      have hpm := List.perm_append_comm (l₁ := ([(b3, .cells [.string pk, .string pv, .int .i64 pr].toArray 85 (0, 0))] : OH)) (l₂ := ν')
      refine v_perm hpm ?_
      refine v_frz ν' (PickA.here _) ?_
      intro G2 hle2 hG2
      refine v_ret [] (outsA1 rfl rfl) (List.nil_sublist _) ⟨hle2, rfl, row_of_grow Pr.len hga' hG2⟩
theorem refWithout_s {G : GH} {l : List Pr} {sv : Value} (key : ByteArray) (hs : Prs G sv l) (hn : l.length ≤ 200) (hz : Sized l) (hkz : key.size ≤ 200) : Con Tryd.prog 86 #[sv, .string key] G [] (fun r G' μ' => GH.le G G' ∧ μ' = [] ∧ Prs G' r (l.filter (fun x => decide (ksP x ≠ kn key)))) := by
  obtain ⟨A, c, rfl, hlc, hcm, hsome, hcp⟩ := rowOpen hs
  simp only [maxLen] at hcm
  (refine v_enter Tryd.func86 rfl Tryd.ntmps86 rfl ?_; intro B _)
  repeat' (first | apply v_seq | apply v_region | apply v_nil | apply v_block | (apply v_pure; (case hop => (apply p_assign <;> rfl)); (case hd => rfl)) | fail)
  refine v_loop [6, 0, 5, 1] (fun us G' μ' => G' = G ∧ ∃ (k : Nat) (av : Value), k ≤ l.length ∧ us = [Value.int .i64 (k : Nat), .slice A l.length c, av, .string key] ∧ GrP av ((l.take k).filter (fun x => decide (ksP x ≠ kn key))) μ') (fun us => l.length - (headI us).toNat) rfl ⟨rfl, 0, .slice none 0 0, by omega, rfl, Grow.nil _ _⟩ ?_
  rintro us G' ν ⟨hG', k, av, hk, rfl, hga⟩
  subst hG'
  have hwl : ((l.take k).filter (fun x => decide (ksP x ≠ kn key))).length ≤ k := Nat.le_trans (List.length_filter_le _ _) (by rw [List.length_take]; omega)
  by_cases hlt : k < l.length
  · have e1 : ((k : Nat) : Int).toNat = k := by omega
    have hA := hsome (by omega)
    have hck := hcp k hlt
    have hxz := (hz _ (List.getElem_mem hlt)).1
    by_cases he : (l[k]).key = key
    · have ew : (l.take (k + 1)).filter (fun x => decide (ksP x ≠ kn key)) = (l.take k).filter (fun x => decide (ksP x ≠ kn key)) := by
        rw [List.take_succ_eq_append_getElem hlt, List.filter_append, List.filter_cons_of_neg (by simp [ksP, he])]
        simp
      generalize l[k] = x at *
      obtain ⟨xk, xv, xr⟩ := x
      have hc0 := hck.cell (j := 0) rfl
      simp only at he
      repeat' (first | apply v_seq | apply v_region | apply v_nil | apply v_skip | apply v_block | apply v_blk | (apply v_pure; (case hop => first | (apply p_move <;> rfl) | (apply p_lt <;> rfl) | (apply p_assign <;> rfl) | (apply p_lenSlice <;> rfl) | (apply p_fieldAddr <;> rfl) | (apply p_add; (case hx => rfl); (case hy => rfl); (case h => omega)) | (apply p_indexAddrS; (case hx => rfl); (case hi => rfl); (case h0 => omega); (case h => omega); (case hA => assumption)) | (apply p_neS <;> rfl) | fail); (case hd => rfl)) | (apply v_cond; (case hc => rfl); all_goals (intro h; (try simp only [reduceCtorEq, zzz] at h); first | (exfalso; omega) | (exfalso; exact h (by with_reducible assumption)) | skip)) | (apply v_read; (case hop => (apply r_load1; rfl; exact Cell.frozen hc0)); (case hd => rfl)) | fail)
      all_goals first
        | (exfalso; exact absurd he (by assumption))
        | exact v_again rfl ⟨rfl, k + 1, _, by omega, rfl, by rw [ew]; exact hga⟩ (by simp [headI]; omega)
    · have ew : (l.take (k + 1)).filter (fun x => decide (ksP x ≠ kn key)) = (l.take k).filter (fun x => decide (ksP x ≠ kn key)) ++ [l[k]] := by
        rw [List.take_succ_eq_append_getElem hlt, List.filter_append, List.filter_cons_of_pos (by simp only [decide_eq_true_eq]; intro h; exact he ((kn_inj hxz hkz).1 h))]
        simp
      generalize l[k] = x at *
      obtain ⟨xk, xv, xr⟩ := x
      have hc0 := hck.cell (j := 0) rfl
      simp only at he
      repeat' (first | apply v_seq | apply v_region | apply v_nil | apply v_skip | apply v_block | (apply v_pure; (case hop => first | (apply p_move <;> rfl) | (apply p_lt <;> rfl) | (apply p_lenSlice <;> rfl) | (apply p_fieldAddr <;> rfl) | (apply p_indexAddrS; (case hx => rfl); (case hi => rfl); (case h0 => omega); (case h => omega); (case hA => assumption)) | (apply p_neS <;> rfl) | fail); (case hd => rfl)) | (apply v_cond; (case hc => rfl); all_goals (intro h; (try simp only [reduceCtorEq, zzz] at h); first | (exfalso; omega) | (exfalso; revert h; rw [imp_false]; with_reducible assumption) | skip)) | (apply v_read; (case hop => (apply r_load1; rfl; exact Cell.frozen hc0)); (case hd => rfl)) | (apply v_read; (case hop => (apply r_loadN; rfl; exact CellsAt.frozen hck; rfl)); (case hd => rfl)) | (apply v_buildSlice; (case hz => rfl); (case hi => rfl); (case hv => (simp only [List.map_cons, List.map_nil]; repeat (first | with_reducible exact evs_nil | (apply evs_cons; (case h1 => rfl))))); (case hp => (apply pk_cons; (case hc => rfl); (case hs => rfl); (case h => (with_reducible exact pk_nil)); (case he => ((repeat (first | with_reducible exact ap_nil | apply ap_cons)); done)))); (case hb => rfl); (case hd => rfl); intro b) | fail)
      all_goals first
        | (exfalso; exact absurd (by assumption) he)
        | skip
      have hpm := List.perm_append_comm (l₁ := ([(b, .cells (Pr.cells ⟨xk, xv, xr⟩).toArray 85 (0, 0))] : OH)) (l₂ := ν)
      refine v_append (e := 85) (agg := true) (sz := 3) (bytes := 40) (zero := zP) rfl (by omega) rfl rfl hga hpm (m' := 1) (us := (Pr.cells ⟨xk, xv, xr⟩)) (Src.own (e := 85) (List.Mem.head _) rfl) rfl (by omega) (by simp only [maxLen]; omega) rfl fun v' ν' hg' => ?_
      have hga' := GrP.snoc hg'
      refine v_drop (ν := ν') (List.sublist_append_left _ _) ?_
      repeat' (first | apply v_region | apply v_nil | apply v_blk | (apply v_pure; (case hop => first | (apply p_move <;> rfl) | (apply p_assign <;> rfl) | (apply p_add; (case hx => rfl); (case hy => rfl); (case h => omega)) | fail); (case hd => rfl)) | fail)
      exact v_again rfl ⟨rfl, k + 1, _, by omega, rfl, by rw [ew]; exact hga'⟩ (by simp [headI]; omega)
  · obtain rfl : k = l.length := by omega
    rw [List.take_length] at hga
    repeat' (first | apply v_seq | apply v_region | apply v_nil | (apply v_exit; (case hp => rfl)) | (apply v_pure; (case hop => first | (apply p_move <;> rfl) | (apply p_lt <;> rfl) | (apply p_assign <;> rfl) | (apply p_lenSlice <;> rfl) | fail); (case hd => rfl)) | (apply v_cond; (case hc => rfl); all_goals (intro h; (try simp only [reduceCtorEq, zzz] at h); first | (exfalso; omega) | skip)) | fail)
    refine v_perm (ν := ν ++ []) (by rw [List.append_nil]) ?_
    refine v_frz ν (PickA.here _) ?_
    intro G2 hle2 hG2
    refine v_ret [] (outsA1 rfl rfl) (List.nil_sublist _) ⟨hle2, rfl, row_of_grow Pr.len hga hG2⟩
def lastS (l : List Ss) (n : Int) : Int × An := if hitG ksS l n = true then ((sesAt l n).seq, (sesAt l n).last) else (0, zA)
theorem refLast_s {G : GH} {l : List Ss} {sv : Value} (n : Int) (hs : Sss G sv l) (hr : RiseW ksS l) : Con Tryd.prog 54 #[sv, .int .i64 n] G [] (Just (.tuple [.int .i64 (lastS l n).1, .agg (lastS l n).2.cells.toArray].toArray) G) := by
  obtain ⟨A, c, rfl, hlc, hcm, hsome, hcp⟩ := rowOpen hs
  simp only [maxLen] at hcm
  have hrg := riseG_pw.2 hr
  apply Con.just
  (refine v_enter Tryd.func54 rfl Tryd.ntmps54 rfl ?_; intro B _)
  repeat' (first | (apply v_alloc (d := 5); (case hz => rfl); (case hd => rfl); intro b5) | apply v_seq | apply v_region | apply v_nil | apply v_block | (apply v_pure; (case hop => (apply p_assign <;> rfl)); (case hd => rfl)) | fail)
  refine v_loop [6, 0, 1, 5] (fun us G' μ' => G' = G ∧ μ' = [(b5, .cells [.int .i64 0, .int .i64 0, .int .i64 0, .bool false, .string ByteArray.empty, .int .i64 0].toArray 29 (0, 0))] ∧ ∃ k : Nat, k ≤ l.length ∧ us = [Value.int .i64 (k : Nat), .slice A l.length c, .int .i64 n, .pointer (some ⟨b5, 0, none⟩)] ∧ ∀ i (h : i < l.length), i < k → l[i].client ≠ n) (fun us => l.length - (headI us).toNat) rfl ⟨rfl, rfl, 0, by omega, rfl, by omega⟩ ?_
  rintro us G' _ ⟨rfl, rfl, k, hk, rfl, hno⟩
  by_cases hlt : k < l.length
  · have e1 : ((k : Nat) : Int).toNat = k := by omega
    have hA := hsome (by omega)
    have hck := hcp k hlt
    have hyes : (l[k]).client = n → lastS l n = ((l[k]).seq, (l[k]).last) := fun h => by
      have hp : placeG ksS l n = k := placeG_eq hk (fun m hm hmk => by have := hrg m k hlt hmk; rw [← h]; exact this) (fun m hm hkm => by
        by_cases e : m = k
        · subst e; show ¬ (l[m]).client < n; omega
        · have := hrg k m hm (by omega); rw [← h]; simp only [ksS] at this ⊢; omega)
      have hh : hitG ksS l n = true := by
        unfold hitG
        rw [dif_pos (by rw [hp]; exact hlt)]
        refine decide_eq_true ?_
        have : l[placeG ksS l n]'(by rw [hp]; exact hlt) = l[k] := by congr 1
        rw [this, ← h]
      have hs : sesAt l n = l[k] := by
        unfold sesAt
        rw [dif_pos hh]
        congr 1
      unfold lastS
      rw [if_pos hh, hs]
    have hnx : (l[k]).client ≠ n → ∀ i (h : i < l.length), i < k + 1 → l[i].client ≠ n := fun a2 i hi hik => by
      by_cases e : i = k
      · subst e; exact a2
      · exact hno i hi (by omega)
    generalize l[k] = x at *
    obtain ⟨xc, xs, ⟨lc, ls, le, lf, lv, lr⟩⟩ := x
    have hl : CellsG G' (((adr A).add (k * 8)).add 2) (An.cells ⟨lc, ls, le, lf, lv, lr⟩) := lastAt hck
    have hc0 := hck.cell (j := 0) rfl
    have hc1 := hck.cell (j := 1) rfl
    simp only at hyes hnx
    by_cases he : xc = n
    · rw [hyes he]
      repeat' (first | apply v_seq | apply v_region | apply v_nil | apply v_skip | apply v_block | (apply v_pure; (case hop => first | (apply p_move <;> rfl) | (apply p_eq <;> rfl) | (apply p_lt <;> rfl) | (apply p_lenSlice <;> rfl) | (apply p_fieldAddr <;> rfl) | (apply p_indexAddrS; (case hx => rfl); (case hi => rfl); (case h0 => omega); (case h => omega); (case hA => assumption)) | fail); (case hd => rfl)) | (apply v_cond; (case hc => rfl); all_goals (intro h; (try simp only [reduceCtorEq, zzz] at h); first | (exfalso; omega) | skip)) | (apply v_read; (case hop => (apply r_load1; rfl; exact Cell.frozen hc0)); (case hd => rfl)) | fail)
      refine d_start [] (by kernel_rfl) (by kernel_rfl) (by kernel_rfl) (by intro e he; (simp at he ⊢; try omega)) ?_
      all_goals (apply dtk 0; (case hi => rfl); (case hop => (apply prd; apply p_move <;> rfl)); (case hq => kernel_rfl))
      all_goals (apply dtk 1; (case hi => rfl); (case hop => (apply prd; apply p_move <;> rfl)); (case hq => kernel_rfl))
      all_goals (apply dtk 2; (case hi => rfl); (case hop => (apply prd; apply p_indexAddrS; (case hx => rfl); (case hi => rfl); (case h0 => omega); (case h => omega); (case hA => assumption))); (case hq => kernel_rfl))
      all_goals (apply dtk 3; (case hi => rfl); (case hop => (apply prd; apply p_fieldAddr <;> rfl)); (case hq => kernel_rfl))
      all_goals (apply dtk 4; (case hi => rfl); (case hop => ((apply r_load1; rfl; exact Cell.frozen hc1))); (case hq => kernel_rfl))
      all_goals (apply dtk 5; (case hi => rfl); (case hop => (apply prd; apply p_move <;> rfl)); (case hq => kernel_rfl))
      all_goals (apply dtk 6; (case hi => rfl); (case hop => (apply prd; apply p_move <;> rfl)); (case hq => kernel_rfl))
      all_goals (apply dtk 7; (case hi => rfl); (case hop => (apply prd; apply p_indexAddrS; (case hx => rfl); (case hi => rfl); (case h0 => omega); (case h => omega); (case hA => assumption))); (case hq => kernel_rfl))
      all_goals (apply dtk 8; (case hi => rfl); (case hop => (apply prd; apply p_fieldAddr <;> rfl)); (case hq => kernel_rfl))
      all_goals (apply dtk 9; (case hi => rfl); (case hop => ((apply r_loadN; rfl; exact CellsAt.frozen hl; rfl))); (case hq => kernel_rfl))
      all_goals (apply dtk 10; (case hi => rfl); (case hop => (apply prd; apply p_assign <;> rfl)); (case hq => kernel_rfl))
      all_goals (apply d_store 11; (case hi => rfl); (case hr => kernel_rfl); (case hL => infer_instance); (case hp => rfl); (case hx => rfl); (case hc => rfl); (case hsz => rfl); (case h1 => rfl); (case hb => (repeat (exact mhd _))); (case hfit => exact nle rfl); (case hov => ((repeat (first | with_reducible exact ov_nil | apply ov_cons)); done)); (case hu => repeat (exact Upd.here _ _)); (case hν' => intro e he; (cases he; done)))
      all_goals (apply d_done; (case hr => kernel_rfl))
      repeat' (fail)
      refine v_retM [] (outsM_tc (sz1 := 6) (vs1 := An.cells ⟨lc, ls, le, lf, lv, lr⟩) (e1 := 29) rfl rfl rfl (by repeat (exact mhd _)) rfl) (List.nil_sublist _) ⟨rfl, rfl⟩
    · repeat' (first | apply v_seq | apply v_region | apply v_nil | apply v_skip | apply v_block | apply v_blk | (apply v_pure; (case hop => first | (apply p_move <;> rfl) | (apply p_eq <;> rfl) | (apply p_lt <;> rfl) | (apply p_assign <;> rfl) | (apply p_lenSlice <;> rfl) | (apply p_fieldAddr <;> rfl) | (apply p_add; (case hx => rfl); (case hy => rfl); (case h => omega)) | (apply p_indexAddrS; (case hx => rfl); (case hi => rfl); (case h0 => omega); (case h => omega); (case hA => assumption)) | fail); (case hd => rfl)) | (apply v_cond; (case hc => rfl); all_goals (intro h; (try simp only [reduceCtorEq, zzz] at h); first | (exfalso; omega) | skip)) | (apply v_read; (case hop => (apply r_load1; rfl; exact Cell.frozen hc0)); (case hd => rfl)) | fail)
      refine v_again rfl ⟨rfl, rfl, k + 1, by omega, rfl, hnx he⟩ (by simp [headI]; omega)
  · have hh : hitG ksS l n = false := by
      cases hh : hitG ksS l n with
      | false => rfl
      | true =>
        obtain ⟨x, hx, e⟩ := (hit_iff hr).1 hh
        obtain ⟨i, hi, rfl⟩ := List.getElem_of_mem hx
        exact absurd e (hno i hi (by omega))
    have hl : lastS l n = (0, zA) := by unfold lastS; rw [hh, if_neg (by simp)]
    rw [hl]
    repeat' (first | apply v_seq | apply v_region | apply v_nil | (apply v_exit; (case hp => rfl)) | (apply v_pure; (case hop => first | (apply p_move <;> rfl) | (apply p_lt <;> rfl) | (apply p_assign <;> rfl) | (apply p_lenSlice <;> rfl) | (apply p_build; (case hz => rfl); (case hv => (simp only [List.map_cons, List.map_nil]; repeat (with_reducible exact evs_nil))); (case hb => (apply bldL; repeat (exact bld_nil)))) | fail); (case hd => rfl)) | (apply v_cond; (case hc => rfl); all_goals (intro h; (try simp only [reduceCtorEq, zzz] at h); first | (exfalso; omega) | skip)) | (apply v_store; (case hp => rfl); (case hx => rfl); (case hc => rfl); (case hsz => rfl); (case h1 => rfl); (case hb => (repeat (exact mhd _))); (case hfit => exact nle rfl); (case hov => ((repeat (first | with_reducible exact ov_nil | apply ov_cons)); done)); (case hu => repeat (exact Upd.here _ _))) | fail)
    refine v_retM [] (outsM_tc (sz1 := 6) (vs1 := zA.cells) (e1 := 29) rfl rfl rfl (by repeat (exact mhd _)) rfl) (List.nil_sublist _) ⟨rfl, rfl⟩
def revsS (s : St) (z r : Int) : St := ⟨z, s.pairs.map (revOf r), s.sess⟩
theorem refRevs_s {G : GH} {s : St} {v : Value} (z r : Int) (hs : StV G s v) (hn : s.pairs.length ≤ 200) : Con Tryd.prog 53 #[v, .int .i64 z, .int .i64 r] G [] (fun r' G' μ' => GH.le G G' ∧ μ' = [] ∧ StV G' (revsS s z r) r') := by
  obtain ⟨A, c, A', c', rfl, hp, hss⟩ := id hs
  obtain ⟨schema, lp, ls⟩ := s
  unfold revsS
  simp only at *
  obtain ⟨B0, e0, e, hlc, hcm, hsome, hcp⟩ := rowOpen hp
  cases e
  simp only [maxLen] at hcm
  (refine v_enter Tryd.func53 rfl Tryd.ntmps53 rfl ?_; intro B _)
  repeat' (first | (apply v_box (zs := [.int .i64 schema, .slice A lp.length c, .slice A' ls.length c']); (case hx => rfl); (case hz => rfl); (case hd => rfl); intro b3) | (apply v_alloc (d := 6); (case hz => rfl); (case hd => rfl); intro b6) | (apply v_alloc (d := 7); (case hz => rfl); (case hd => rfl); intro b7) | apply v_seq | apply v_region | apply v_nil | apply v_block | (apply v_pure; (case hop => first | (apply p_move <;> rfl) | (apply p_assign <;> rfl) | (apply p_fieldAddrB <;> rfl) | (apply p_build; (case hz => rfl); (case hv => (simp only [List.map_cons, List.map_nil]; repeat (first | with_reducible exact evs_nil | (apply evs_cons; (case h1 => rfl))))); (case hb => (apply bldL; repeat (first | exact bld_nil | (apply bld_cons; (case hpf => rfl); (case hc => rfl); (case hs => rfl); (case hl => rfl); (case ho => ((repeat (first | with_reducible exact ov_nil | apply ov_cons)); done)))))))); (case hd => rfl)) | (apply v_read; (case hop => (apply r_load1; rfl; (apply Cell.own; (case h => (repeat (first | exact mhd _ | apply mtl))); rfl))); (case hd => rfl)) | (apply v_store; (case hp => rfl); (case hx => rfl); (case hc => rfl); (case hsz => rfl); (case h1 => rfl); (case hb => (repeat (exact mhd _))); (case hfit => exact nle rfl); (case hov => ((repeat (first | with_reducible exact ov_nil | apply ov_cons)); done)); (case hu => repeat (exact Upd.here _ _))) | fail)
  refine v_perm (ν := [(b7, .cells [.int .i64 z, .slice none 0 0, .slice A' ls.length c'].toArray 36 (0, 0)), (b6, .cells [.int .i64 0, .slice none 0 0, .slice none 0 0].toArray 36 (0, 0)), (b3, .cells [.int .i64 schema, .slice A lp.length c, .slice A' ls.length c'].toArray 36 (0, 0))]) (by apply perm_of_count; intro p; simp only [List.append_eq, List.countP_append, List.countP_cons, List.countP_nil, Nat.zero_add, Nat.add_zero]; try ac_rfl) ?_
  refine v_loop [8, 3, 7, 2, 6] (fun us G' μ' => G' = G ∧ ∃ (k : Nat) (A2 : Option Addr) (c2 : Nat) (ν : OH), k ≤ lp.length ∧ us = [Value.int .i64 (k : Nat), .pointer (some ⟨b3, 0, none⟩), .pointer (some ⟨b7, 0, none⟩), .int .i64 r, .pointer (some ⟨b6, 0, none⟩)] ∧ μ' = (b7, .cells [.int .i64 z, .slice A2 k c2, .slice A' ls.length c'].toArray 36 (0, 0)) :: (b6, .cells [.int .i64 0, .slice none 0 0, .slice none 0 0].toArray 36 (0, 0)) :: (b3, .cells [.int .i64 schema, .slice A lp.length c, .slice A' ls.length c'].toArray 36 (0, 0)) :: ν ∧ GrP (.slice A2 k c2) ((lp.take k).map (revOf r)) ν) (fun us => lp.length - (headI us).toNat) rfl ⟨rfl, 0, none, 0, [], by omega, rfl, rfl, Grow.nil _ _⟩ ?_
  rintro us G' _ ⟨hG', k, A2, c2, ν, hk, rfl, rfl, hga⟩
  subst hG'
  have hwl : ((lp.take k).map (revOf r)).length = k := by rw [List.length_map, List.length_take]; omega
  by_cases hlt : k < lp.length
  · have e1 : ((k : Nat) : Int).toNat = k := by omega
    have hA := hsome (by omega)
    have hck := hcp k hlt
    have ew : (lp.take (k + 1)).map (revOf r) = (lp.take k).map (revOf r) ++ [revOf r lp[k]] := by
      rw [List.take_succ_eq_append_getElem hlt, List.map_append]; rfl
    generalize lp[k] = x at *
    obtain ⟨xk, xv, xr⟩ := x
    repeat' (first | (apply v_alloc (d := 9); (case hz => rfl); (case hd => rfl); intro b9) | (apply v_read; (case hop => (apply r_loadNo; (case hx => rfl); (case h => repeat (exact mhd _)); (case hd => rfl); (case hn => rfl))); (case hd => rfl)) | apply v_seq | apply v_region | apply v_nil | apply v_skip | apply v_block | (apply v_pure; (case hop => first | (apply p_move <;> rfl) | (apply p_lt <;> rfl) | (apply p_lenSlice <;> rfl) | (apply p_fieldAddrB <;> rfl) | (apply p_indexAddrS; (case hx => rfl); (case hi => rfl); (case h0 => omega); (case h => omega); (case hA => assumption)) | fail); (case hd => rfl)) | (apply v_cond; (case hc => rfl); all_goals (intro h; (try simp only [reduceCtorEq, zzz] at h); first | (exfalso; omega) | skip)) | (apply v_read; (case hop => (apply r_loadN; rfl; exact CellsAt.frozen hck; rfl)); (case hd => rfl)) | (apply v_read; (case hop => (apply r_load1; rfl; (apply Cell.own; (case h => (repeat (first | exact mhd _ | apply mtl))); rfl))); (case hd => rfl)) | (apply v_buildSlice; (case hz => rfl); (case hi => rfl); (case hv => (simp only [List.map_cons, List.map_nil]; repeat (first | with_reducible exact evs_nil | (apply evs_cons; (case h1 => rfl))))); (case hp => (apply pk_cons; (case hc => rfl); (case hs => rfl); (case h => (with_reducible exact pk_nil)); (case he => (rfl)))); (case hb => rfl); (case hd => rfl); intro b) | (apply v_store; (case hp => rfl); (case hx => rfl); (case hc => rfl); (case hsz => rfl); (case h1 => rfl); (case hb => (repeat (exact mhd _))); (case hfit => exact nle rfl); (case hov => ((repeat (first | with_reducible exact ov_nil | apply ov_cons)); done)); (case hu => repeat (exact Upd.here _ _))) | fail)
    have hpm := List.perm_append_comm (l₁ := ([(b, .cells (Pr.cells ⟨xk, xv, r⟩).toArray 85 (0, 0)), (b9, .cells (Pr.cells ⟨xk, xv, r⟩).toArray 85 (0, 0)), (b7, .cells [.int .i64 z, .slice A2 k c2, .slice A' ls.length c'].toArray 36 (0, 0)), (b6, .cells [.int .i64 0, .slice none 0 0, .slice none 0 0].toArray 36 (0, 0)), (b3, .cells [.int .i64 schema, .slice A lp.length c, .slice A' ls.length c'].toArray 36 (0, 0))] : OH)) (l₂ := ν)
    refine v_append (e := 85) (agg := true) (sz := 3) (bytes := 40) (zero := zP) rfl (by omega) rfl rfl (m := k) (by unfold GrP at hga; rw [hwl] at hga; exact hga) hpm (m' := 1) (us := (Pr.cells ⟨xk, xv, r⟩)) (Src.own (e := 85) (List.Mem.head _) rfl) rfl (by omega) (by simp only [maxLen]; omega) rfl fun v' ν' hg' => ?_
    have hga' : GrP v' ((lp.take (k + 1)).map (revOf r)) ν' := by rw [ew]; exact GrP.snoc (a := ⟨xk, xv, r⟩) (by rw [hwl]; exact hg')
    have hwl' : ((lp.take (k + 1)).map (revOf r)).length = k + 1 := by rw [List.length_map, List.length_take]; omega
    obtain ⟨A3, c3, e3, -, -⟩ := id hga'.shape
    rw [hwl'] at e3
    subst e3
    refine v_perm (List.perm_append_comm (l₁ := ν')) ?_
    refine v_drop (ν := [(b7, .cells [.int .i64 z, .slice A2 k c2, .slice A' ls.length c'].toArray 36 (0, 0)), (b6, .cells [.int .i64 0, .slice none 0 0, .slice none 0 0].toArray 36 (0, 0)), (b3, .cells [.int .i64 schema, .slice A lp.length c, .slice A' ls.length c'].toArray 36 (0, 0))] ++ ν') (List.Sublist.cons _ (List.Sublist.cons _ (List.Sublist.refl _))) ?_
    repeat' (first | apply v_region | apply v_nil | apply v_blk | (apply v_pure; (case hop => first | (apply p_move <;> rfl) | (apply p_assign <;> rfl) | (apply p_fieldAddrB <;> rfl) | (apply p_add; (case hx => rfl); (case hy => rfl); (case h => omega)) | fail); (case hd => rfl)) | (apply v_store; (case hp => rfl); (case hx => rfl); (case hc => rfl); (case hsz => rfl); (case h1 => rfl); (case hb => (repeat (exact mhd _))); (case hfit => exact nle rfl); (case hov => ((repeat (first | with_reducible exact ov_nil | apply ov_cons)); done)); (case hu => repeat (exact Upd.here _ _))) | fail)
    exact v_again rfl ⟨rfl, k + 1, A3, c3, ν', by omega, rfl, rfl, hga'⟩ (by simp [headI]; omega)
  · obtain rfl : k = lp.length := by omega
    rw [List.take_length] at hga
    have hl2 : (lp.map (revOf r)).length = lp.length := List.length_map ..
    repeat' (first | apply v_seq | apply v_region | apply v_nil | (apply v_exit; (case hp => rfl)) | (apply v_pure; (case hop => first | (apply p_move <;> rfl) | (apply p_lt <;> rfl) | (apply p_lenSlice <;> rfl) | (apply p_fieldAddrB <;> rfl) | fail); (case hd => rfl)) | (apply v_cond; (case hc => rfl); all_goals (intro h; (try simp only [reduceCtorEq, zzz] at h); first | (exfalso; omega) | skip)) | (apply v_read; (case hop => first | (apply r_loadNo; (case hx => rfl); (case h => (repeat (exact mhd _))); (case hd => (repeat (first | with_reducible exact dt_nil | apply dt_here))); (case hn => rfl)) | (apply r_load1; rfl; (apply Cell.own; (case h => (repeat (first | exact mhd _ | apply mtl))); rfl)) | fail); (case hd => rfl)) | (apply v_store; (case hp => rfl); (case hx => rfl); (case hc => rfl); (case hsz => rfl); (case h1 => rfl); (case hb => (repeat (first | exact mhd _ | apply mtl))); (case hfit => exact nle rfl); (case hov => ((repeat (first | with_reducible exact ov_nil | apply ov_cons)); done)); (case hu => repeat (first | exact Upd.here _ _ | apply Upd.there))) | fail)
    have hpm := List.perm_append_comm (l₁ := ([(b7, .cells [.int .i64 z, .slice A2 lp.length c2, .slice A' ls.length c'].toArray 36 (0, 0)), (b6, .cells [.int .i64 z, .slice A2 lp.length c2, .slice A' ls.length c'].toArray 36 (0, 0)), (b3, .cells [.int .i64 schema, .slice A lp.length c, .slice A' ls.length c'].toArray 36 (0, 0))] : OH)) (l₂ := ν)
    refine v_perm hpm ?_
    refine v_frz ν (PickA.here _) ?_
    intro G2 hle2 hG2
    have hp2 := row_of_grow Pr.len hga hG2
    refine v_retM [] (outsM_cell (sz := 3) (vs := [.int .i64 z, .slice A2 lp.length c2, .slice A' ls.length c']) (e := 36) rfl rfl (by repeat (first | exact mhd _ | apply mtl)) rfl) (List.nil_sublist _) ⟨hle2, rfl, A2, c2, A', c', by simp only [hl2], by rw [← hl2] at hp2; exact hp2, hss.mono hle2⟩
def prR (z : Int) (f : Pr) : Int := if z = 2 then nextR f.rev else 0
noncomputable def doR (z : Int) (l : List Pr) (c : Cm) : List Pr × An :=
  if c.kind = 2 then (if hitG ksP l (kn c.key) = false ∧ 64 ≤ l.length then (l, { ans0 c with err := 11 }) else (withG ksP l ⟨c.key, c.val, prR z (findP l (kn c.key))⟩, { ans0 c with found := hitG ksP l (kn c.key), val := (findP l (kn c.key)).val }))
  else if c.kind = 4 then (l.filter (fun x => decide (ksP x ≠ kn c.key)), { ans0 c with found := hitG ksP l (kn c.key), val := (findP l (kn c.key)).val })
  else if c.kind = 5 then (if hitG ksP l (kn c.key) = false then (l, { ans0 c with err := 10 }) else if (findP l (kn c.key)).val = c.old then (withG ksP l ⟨c.key, c.val, prR z (findP l (kn c.key))⟩, { ans0 c with found := true, val := (findP l (kn c.key)).val, rev := prR z (findP l (kn c.key)) }) else (l, { ans0 c with err := 15, found := true, val := (findP l (kn c.key)).val, rev := (findP l (kn c.key)).rev }))
  else (l, { ans0 c with found := hitG ksP l (kn c.key), val := (findP l (kn c.key)).val })
theorem roomB_iff {l : List Pr} {n : Int} : roomB l n = true ↔ ¬ (hitG ksP l n = false ∧ 64 ≤ l.length) := by
  unfold roomB
  cases hitG ksP l n <;> simp
theorem doR_eq {z : Int} {l : List Pr} (c : Cm) (hz : z = 1 ∨ z = 2) (hk : 2 ≤ c.kind ∧ c.kind ≤ 5) (h5 : c.kind = 5 → z = 2) : doS z l c = doR z l c := by
  have hroom := roomB_iff (l := l) (n := kn c.key)
  unfold doS doR prR
  rcases hz with rfl | rfl
  · rw [if_pos rfl]
    unfold doOne
    by_cases h2 : c.kind = 2
    · rw [if_pos h2, if_pos h2]
      by_cases hr : roomB l (kn c.key) = true
      · rw [if_pos hr, if_neg (hroom.1 hr)]
        simp
      · rw [if_neg hr, if_pos (Classical.not_not.1 (fun h => hr (hroom.2 h)))]
    · rw [if_neg h2, if_neg h2]
      by_cases h3 : c.kind = 3
      · rw [if_pos h3, if_neg (by omega), if_neg (by omega)]
      · by_cases h4 : c.kind = 4
        · rw [if_neg h3, if_pos h4, if_pos h4]
        · exact absurd (h5 (by omega)) (by omega)
  · rw [if_neg (by omega)]
    unfold doTwo
    by_cases h5 : c.kind = 5
    · rw [if_pos h5, if_neg (by omega), if_neg (by omega), if_pos h5]
      unfold casP
      simp
    · rw [if_neg h5]
      by_cases h2 : c.kind = 2
      · rw [if_pos h2]
        by_cases hr : roomB l (kn c.key) = true
        · have e : doOne l c = (withG ksP l ⟨c.key, c.val, 0⟩, { ans0 c with found := hitG ksP l (kn c.key), val := (findP l (kn c.key)).val }) := by
            unfold doOne; rw [if_pos h2, if_pos hr]
          rw [e, if_pos ⟨h2, rfl⟩, if_neg (hroom.1 hr)]
          simp only
          rw [withG_twice (by rfl)]
          simp
        · have e : doOne l c = (l, { ans0 c with err := 11 }) := by
            unfold doOne; rw [if_pos h2, if_neg hr]
          rw [e, if_neg (fun h => absurd h.2 (by simp)), if_pos (Classical.not_not.1 (fun h => hr (hroom.2 h)))]
      · rw [if_neg (fun h => h2 h.1), if_neg h2]
        unfold doOne
        rw [if_neg h2]
        by_cases h3 : c.kind = 3
        · rw [if_pos h3, if_neg (by omega), if_neg h5]
        · rw [if_neg h3, if_pos (by omega), if_pos (by omega)]
abbrev DoPost (G : GH) (o : List Pr × An) : Value → GH → OH → Prop := fun r G' μ' => GH.le G G' ∧ μ' = [] ∧ ∃ v', r = .tuple [v', .agg o.2.cells.toArray].toArray ∧ Prs G' v' o.1
theorem doN1 {G : GH} {l : List Pr} {A : Option Addr} {c : Nat} (kind client seq : Int) (key val old : ByteArray) (node : Int) (hs : Prs G (.slice A l.length c) l) (hr : RiseW ksP l) (hz : Sized l) (hn : l.length ≤ 200) (hkz : key.size ≤ 200) (hk : 2 ≤ kind ∧ kind ≤ 5) (h5 : kind ≠ 5)
    (qp : Con Tryd.prog 84 #[.slice A l.length c, .string key] G [] (Just (.int .i64 (-1)) G)) :
    Con Tryd.prog 56 #[.int .i64 1, .slice A l.length c, .agg (Cm.cells ⟨kind, client, seq, key, val, old, node⟩).toArray] G [] (DoPost G (if kind = 2 then (if 64 ≤ l.length then (l, ⟨client, seq, 11, false, ByteArray.empty, 0⟩) else (withG ksP l ⟨key, val, 0⟩, ⟨client, seq, 0, false, ByteArray.empty, 0⟩)) else if kind = 4 then (l.filter (fun x => decide (ksP x ≠ kn key)), ⟨client, seq, 0, false, ByteArray.empty, 0⟩) else if kind = 5 then (l, ⟨client, seq, 10, false, ByteArray.empty, 0⟩) else (l, ⟨client, seq, 0, false, ByteArray.empty, 0⟩) : List Pr × An)) := by
  obtain ⟨B0, e0, e, hlc, hcm, hsome, hcp⟩ := rowOpen hs
  cases e
  simp only [maxLen] at hcm
  have qw := refPWith_s ⟨key, val, 0⟩ hs hr hn hz hkz
  have qo := refWithout_s key hs hn hz hkz
  have hdf : dec ((0 : Int) ≤ -1) = false := dec_neg (by omega)
  (refine v_enter Tryd.func56 rfl Tryd.ntmps56 rfl ?_; intro B _)
  repeat' (first | (apply v_box (d := 5) (zs := Cm.cells ⟨kind, client, seq, key, val, old, node⟩); (case hx => rfl); (case hz => rfl); (case hd => rfl); intro b5) | (apply v_alloc (d := 7); (case hz => rfl); (case hd => rfl); intro b7) | (apply v_alloc (d := 8); (case hz => rfl); (case hd => rfl); intro b8) | (apply v_alloc (d := 10); (case hz => rfl); (case hd => rfl); intro b10) | (apply v_alloc (d := 11); (case hz => rfl); (case hd => rfl); intro b11) | (apply v_read; (case hop => (apply r_loadNo; (case hx => rfl); (case h => repeat (exact mhd _)); (case hd => rfl); (case hn => rfl))); (case hd => rfl)) | apply v_seq | apply v_region | apply v_nil | apply v_skip | apply v_block | apply v_blk | (apply v_take; (case hg => rfl)) | (apply v_pass; (case hg => rfl); (case hn => rfl); (case hd => rfl)) | (apply v_pure; (case hop => first | (apply p_move <;> rfl) | (apply p_eq <;> rfl) | (apply p_lt <;> rfl) | (apply p_ne <;> rfl) | (apply p_ge <;> rfl) | (apply p_assign <;> rfl) | (apply p_pickT <;> rfl) | (apply p_pickF <;> rfl) | (apply p_lenSlice <;> rfl) | (apply p_fieldAddrB <;> rfl) | (apply p_build; (case hz => rfl); (case hv => (simp only [List.map_cons, List.map_nil]; repeat (first | with_reducible exact evs_nil | (apply evs_cons; (case h1 => rfl))))); (case hb => (apply bldL; repeat (first | exact bld_nil | (apply bld_cons; (case hpf => rfl); (case hc => rfl); (case hs => rfl); (case hl => rfl); (case ho => ((repeat (first | with_reducible exact ov_nil | apply ov_cons)); done))))))) | fail); (case hd => rfl)) | (apply v_condF; (case hc => rfl)) | (apply v_cond; (case hc => rfl); all_goals (intro h; (try simp only [reduceCtorEq, zzz] at h); first | (exfalso; omega) | skip)) | (apply v_guardB; (case h1 => rfl); (case h2 => rfl); all_goals (intro h; (try simp only [reduceCtorEq, zzz] at h); first | (exfalso; omega) | skip)) | (apply v_callJ (hs := qp); (case ha => rfl); (case hd => rfl)) | (apply v_read; (case hop => (apply r_load1; rfl; (apply Cell.own; (case h => (repeat (first | exact mhd _ | apply mtl))); rfl))); (case hd => rfl)) | (apply v_store; (case hp => rfl); (case hx => rfl); (case hc => rfl); (case hsz => rfl); (case h1 => rfl); (case hb => (repeat (first | exact mhd _ | apply mtl))); (case hfit => exact nle rfl); (case hov => ((repeat (first | with_reducible exact ov_nil | apply ov_cons)); done)); (case hu => repeat (first | exact Upd.here _ _ | apply Upd.there))) | fail)
  · rw [if_pos (by assumption), if_pos (show 64 ≤ l.length by omega)]
    refine d_start [(b8, .cells [.int .i64 client, .int .i64 seq, .int .i64 11, .bool false, .string ByteArray.empty, .int .i64 0].toArray 29 (0, 0))] (by kernel_rfl) (by kernel_rfl) (by kernel_rfl) (by intro e he; (simp at he; simp [he]; done)) ?_
    all_goals (apply dtk 0; (case hi => rfl); (case hop => (apply prd; apply p_move <;> rfl)); (case hq => kernel_rfl))
    all_goals (apply dtk 1; (case hi => rfl); (case hop => first | (apply r_loadNo; (case hx => rfl); (case h => (repeat (exact mhd _))); (case hd => (repeat (first | with_reducible exact dt_nil | apply dt_here))); (case hn => rfl)) | (apply r_load1; rfl; (apply Cell.own; (case h => (repeat (fail))); rfl)) | (apply r_loadN; rfl; (apply CellsAt.own; (case h => (repeat (fail)))); rfl)); (case hq => kernel_rfl))
    all_goals (apply dtk 2; (case hi => rfl); (case hop => (apply prd; apply p_assign <;> rfl)); (case hq => kernel_rfl))
    all_goals (apply d_store 3; (case hi => rfl); (case hr => kernel_rfl); (case hL => infer_instance); (case hp => rfl); (case hx => rfl); (case hc => rfl); (case hsz => rfl); (case h1 => rfl); (case hb => (repeat (first | exact mhd _ | apply mtl))); (case hfit => exact nle rfl); (case hov => ((repeat (first | with_reducible exact ov_nil | apply ov_cons)); done)); (case hu => repeat (first | exact Upd.here _ _ | apply Upd.there)); (case hν' => intro e he; (simp at he; simp [he]; done)))
    all_goals (apply d_done; (case hr => kernel_rfl))
    repeat' (fail)
    refine v_retM [] (outsM_tc (sz1 := 6) (vs1 := [.int .i64 client, .int .i64 seq, .int .i64 11, .bool false, .string ByteArray.empty, .int .i64 0]) (e1 := 29) rfl rfl rfl (by repeat (first | exact mhd _ | apply mtl)) rfl) (List.nil_sublist _) ⟨GH.le_refl _, rfl, _, rfl, hs⟩
  · rw [if_pos (by assumption), if_neg (show ¬ 64 ≤ l.length by omega)]
    refine v_call (μ1 := []) rfl qw (List.Perm.refl _) rfl ?_
    rintro v3 G3 _ hle3 ⟨-, rfl, hw3⟩
    repeat' (first | apply v_seq | apply v_region | apply v_nil | apply v_blk | (apply v_pure; (case hop => first | (apply p_move <;> rfl) | (apply p_ge <;> rfl) | (apply p_assign <;> rfl) | (apply p_fieldAddrB <;> rfl) | fail); (case hd => rfl)) | (apply v_read; (case hop => (apply r_load1; rfl; (apply Cell.own; (case h => (repeat (first | exact mhd _ | apply mtl))); rfl))); (case hd => rfl)) | (apply v_store; (case hp => rfl); (case hx => rfl); (case hc => rfl); (case hsz => rfl); (case h1 => rfl); (case hb => (repeat (first | exact mhd _ | apply mtl))); (case hfit => exact nle rfl); (case hov => ((repeat (first | with_reducible exact ov_nil | apply ov_cons)); done)); (case hu => repeat (first | exact Upd.here _ _ | apply Upd.there))) | fail)
    try rw [hdf]
    refine d_start [(b8, .cells [.int .i64 client, .int .i64 seq, .int .i64 0, .bool false, .string ByteArray.empty, .int .i64 0].toArray 29 (0, 0))] (by kernel_rfl) (by kernel_rfl) (by kernel_rfl) (by intro e he; (simp at he; simp [he]; done)) ?_
    all_goals (apply dtk 0; (case hi => rfl); (case hop => (apply prd; apply p_move <;> rfl)); (case hq => kernel_rfl))
    all_goals (apply dtk 1; (case hi => rfl); (case hop => first | (apply r_loadNo; (case hx => rfl); (case h => (repeat (exact mhd _))); (case hd => (repeat (first | with_reducible exact dt_nil | apply dt_here))); (case hn => rfl)) | (apply r_load1; rfl; (apply Cell.own; (case h => (repeat (fail))); rfl)) | (apply r_loadN; rfl; (apply CellsAt.own; (case h => (repeat (fail)))); rfl)); (case hq => kernel_rfl))
    all_goals (apply dtk 2; (case hi => rfl); (case hop => (apply prd; apply p_assign <;> rfl)); (case hq => kernel_rfl))
    all_goals (apply d_store 3; (case hi => rfl); (case hr => kernel_rfl); (case hL => infer_instance); (case hp => rfl); (case hx => rfl); (case hc => rfl); (case hsz => rfl); (case h1 => rfl); (case hb => (repeat (first | exact mhd _ | apply mtl))); (case hfit => exact nle rfl); (case hov => ((repeat (first | with_reducible exact ov_nil | apply ov_cons)); done)); (case hu => repeat (first | exact Upd.here _ _ | apply Upd.there)); (case hν' => intro e he; (simp at he; simp [he]; done)))
    all_goals (apply d_done; (case hr => kernel_rfl))
    repeat' (fail)
    refine v_retM [] (outsM_tc (sz1 := 6) (vs1 := [.int .i64 client, .int .i64 seq, .int .i64 0, .bool false, .string ByteArray.empty, .int .i64 0]) (e1 := 29) rfl rfl rfl (by repeat (first | exact mhd _ | apply mtl)) rfl) (List.nil_sublist _) ⟨hle3, rfl, _, rfl, hw3⟩
  · rw [if_neg (by assumption), if_pos (by assumption)]
    refine v_call (μ1 := []) rfl qo (List.Perm.refl _) rfl ?_
    rintro v3 G3 _ hle3 ⟨-, rfl, hw3⟩
    repeat' (first | apply v_seq | apply v_region | apply v_nil | apply v_blk | (apply v_pure; (case hop => first | (apply p_move <;> rfl) | (apply p_ge <;> rfl) | (apply p_assign <;> rfl) | (apply p_fieldAddrB <;> rfl) | fail); (case hd => rfl)) | (apply v_read; (case hop => (apply r_load1; rfl; (apply Cell.own; (case h => (repeat (first | exact mhd _ | apply mtl))); rfl))); (case hd => rfl)) | (apply v_store; (case hp => rfl); (case hx => rfl); (case hc => rfl); (case hsz => rfl); (case h1 => rfl); (case hb => (repeat (first | exact mhd _ | apply mtl))); (case hfit => exact nle rfl); (case hov => ((repeat (first | with_reducible exact ov_nil | apply ov_cons)); done)); (case hu => repeat (first | exact Upd.here _ _ | apply Upd.there))) | fail)
    try rw [hdf]
    refine d_start [(b8, .cells [.int .i64 client, .int .i64 seq, .int .i64 0, .bool false, .string ByteArray.empty, .int .i64 0].toArray 29 (0, 0))] (by kernel_rfl) (by kernel_rfl) (by kernel_rfl) (by intro e he; (simp at he; simp [he]; done)) ?_
    all_goals (apply dtk 0; (case hi => rfl); (case hop => (apply prd; apply p_move <;> rfl)); (case hq => kernel_rfl))
    all_goals (apply dtk 1; (case hi => rfl); (case hop => first | (apply r_loadNo; (case hx => rfl); (case h => (repeat (exact mhd _))); (case hd => (repeat (first | with_reducible exact dt_nil | apply dt_here))); (case hn => rfl)) | (apply r_load1; rfl; (apply Cell.own; (case h => (repeat (fail))); rfl)) | (apply r_loadN; rfl; (apply CellsAt.own; (case h => (repeat (fail)))); rfl)); (case hq => kernel_rfl))
    all_goals (apply dtk 2; (case hi => rfl); (case hop => (apply prd; apply p_assign <;> rfl)); (case hq => kernel_rfl))
    all_goals (apply d_store 3; (case hi => rfl); (case hr => kernel_rfl); (case hL => infer_instance); (case hp => rfl); (case hx => rfl); (case hc => rfl); (case hsz => rfl); (case h1 => rfl); (case hb => (repeat (first | exact mhd _ | apply mtl))); (case hfit => exact nle rfl); (case hov => ((repeat (first | with_reducible exact ov_nil | apply ov_cons)); done)); (case hu => repeat (first | exact Upd.here _ _ | apply Upd.there)); (case hν' => intro e he; (simp at he; simp [he]; done)))
    all_goals (apply d_done; (case hr => kernel_rfl))
    repeat' (fail)
    refine v_retM [] (outsM_tc (sz1 := 6) (vs1 := [.int .i64 client, .int .i64 seq, .int .i64 0, .bool false, .string ByteArray.empty, .int .i64 0]) (e1 := 29) rfl rfl rfl (by repeat (first | exact mhd _ | apply mtl)) rfl) (List.nil_sublist _) ⟨hle3, rfl, _, rfl, hw3⟩
  · rw [if_neg (by assumption), if_neg (by assumption), if_neg (by assumption)]
    try rw [hdf]
    refine d_start [(b8, .cells [.int .i64 client, .int .i64 seq, .int .i64 0, .bool false, .string ByteArray.empty, .int .i64 0].toArray 29 (0, 0))] (by kernel_rfl) (by kernel_rfl) (by kernel_rfl) (by intro e he; (simp at he; simp [he]; done)) ?_
    all_goals (apply dtk 0; (case hi => rfl); (case hop => (apply prd; apply p_move <;> rfl)); (case hq => kernel_rfl))
    all_goals (apply dtk 1; (case hi => rfl); (case hop => first | (apply r_loadNo; (case hx => rfl); (case h => (repeat (exact mhd _))); (case hd => (repeat (first | with_reducible exact dt_nil | apply dt_here))); (case hn => rfl)) | (apply r_load1; rfl; (apply Cell.own; (case h => (repeat (fail))); rfl)) | (apply r_loadN; rfl; (apply CellsAt.own; (case h => (repeat (fail)))); rfl)); (case hq => kernel_rfl))
    all_goals (apply dtk 2; (case hi => rfl); (case hop => (apply prd; apply p_assign <;> rfl)); (case hq => kernel_rfl))
    all_goals (apply d_store 3; (case hi => rfl); (case hr => kernel_rfl); (case hL => infer_instance); (case hp => rfl); (case hx => rfl); (case hc => rfl); (case hsz => rfl); (case h1 => rfl); (case hb => (repeat (first | exact mhd _ | apply mtl))); (case hfit => exact nle rfl); (case hov => ((repeat (first | with_reducible exact ov_nil | apply ov_cons)); done)); (case hu => repeat (first | exact Upd.here _ _ | apply Upd.there)); (case hν' => intro e he; (simp at he; simp [he]; done)))
    all_goals (apply d_done; (case hr => kernel_rfl))
    repeat' (fail)
    refine v_retM [] (outsM_tc (sz1 := 6) (vs1 := [.int .i64 client, .int .i64 seq, .int .i64 0, .bool false, .string ByteArray.empty, .int .i64 0]) (e1 := 29) rfl rfl rfl (by repeat (first | exact mhd _ | apply mtl)) rfl) (List.nil_sublist _) ⟨GH.le_refl _, rfl, _, rfl, hs⟩
theorem doN2 {G : GH} {l : List Pr} {A : Option Addr} {c : Nat} (kind client seq : Int) (key val old : ByteArray) (node : Int) (hs : Prs G (.slice A l.length c) l) (hr : RiseW ksP l) (hz : Sized l) (hn : l.length ≤ 200) (hkz : key.size ≤ 200) (hk : 2 ≤ kind ∧ kind ≤ 5)
    (qp : Con Tryd.prog 84 #[.slice A l.length c, .string key] G [] (Just (.int .i64 (-1)) G)) :
    Con Tryd.prog 56 #[.int .i64 2, .slice A l.length c, .agg (Cm.cells ⟨kind, client, seq, key, val, old, node⟩).toArray] G [] (DoPost G (if kind = 2 then (if 64 ≤ l.length then (l, ⟨client, seq, 11, false, ByteArray.empty, 0⟩) else (withG ksP l ⟨key, val, 1⟩, ⟨client, seq, 0, false, ByteArray.empty, 0⟩)) else if kind = 4 then (l.filter (fun x => decide (ksP x ≠ kn key)), ⟨client, seq, 0, false, ByteArray.empty, 0⟩) else if kind = 5 then (l, ⟨client, seq, 10, false, ByteArray.empty, 0⟩) else (l, ⟨client, seq, 0, false, ByteArray.empty, 0⟩) : List Pr × An)) := by
  obtain ⟨B0, e0, e, hlc, hcm, hsome, hcp⟩ := rowOpen hs
  cases e
  simp only [maxLen] at hcm
  have qw := refPWith_s ⟨key, val, 1⟩ hs hr hn hz hkz
  have qo := refWithout_s key hs hn hz hkz
  have hdf : dec ((0 : Int) ≤ -1) = false := dec_neg (by omega)
  (refine v_enter Tryd.func56 rfl Tryd.ntmps56 rfl ?_; intro B _)
  repeat' (first | (apply v_box (d := 5) (zs := Cm.cells ⟨kind, client, seq, key, val, old, node⟩); (case hx => rfl); (case hz => rfl); (case hd => rfl); intro b5) | (apply v_alloc (d := 7); (case hz => rfl); (case hd => rfl); intro b7) | (apply v_alloc (d := 8); (case hz => rfl); (case hd => rfl); intro b8) | (apply v_alloc (d := 10); (case hz => rfl); (case hd => rfl); intro b10) | (apply v_alloc (d := 11); (case hz => rfl); (case hd => rfl); intro b11) | (apply v_read; (case hop => (apply r_loadNo; (case hx => rfl); (case h => repeat (exact mhd _)); (case hd => rfl); (case hn => rfl))); (case hd => rfl)) | apply v_seq | apply v_region | apply v_nil | apply v_skip | apply v_block | apply v_blk | (apply v_take; (case hg => rfl)) | (apply v_pass; (case hg => rfl); (case hn => rfl); (case hd => rfl)) | (apply v_pure; (case hop => first | (apply p_move <;> rfl) | (apply p_eqs <;> rfl) | (apply p_eq <;> rfl) | (apply p_lt <;> rfl) | (apply p_ne <;> rfl) | (apply p_ge <;> rfl) | (apply p_assign <;> rfl) | (apply p_pickT <;> rfl) | (apply p_pickF <;> rfl) | (apply p_lenSlice <;> rfl) | (apply p_fieldAddrB <;> rfl) | (apply p_build; (case hz => rfl); (case hv => (simp only [List.map_cons, List.map_nil]; repeat (first | with_reducible exact evs_nil | (apply evs_cons; (case h1 => rfl))))); (case hb => (apply bldL; repeat (first | exact bld_nil | (apply bld_cons; (case hpf => rfl); (case hc => rfl); (case hs => rfl); (case hl => rfl); (case ho => ((repeat (first | with_reducible exact ov_nil | apply ov_cons)); done))))))) | fail); (case hd => rfl)) | (apply v_condT; (case hc => rfl)) | (apply v_condF; (case hc => rfl)) | (apply v_cond; (case hc => rfl); all_goals (intro h; (try simp only [reduceCtorEq, zzz] at h); first | (exfalso; omega) | skip)) | (apply v_guardB; (case h1 => rfl); (case h2 => rfl); all_goals (intro h; (try simp only [reduceCtorEq, zzz] at h); first | (exfalso; omega) | skip)) | (apply v_callJ (hs := qp); (case ha => rfl); (case hd => rfl)) | (apply v_read; (case hop => (apply r_load1; rfl; (apply Cell.own; (case h => (repeat (first | exact mhd _ | apply mtl))); rfl))); (case hd => rfl)) | (apply v_store; (case hp => rfl); (case hx => rfl); (case hc => rfl); (case hsz => rfl); (case h1 => rfl); (case hb => (repeat (first | exact mhd _ | apply mtl))); (case hfit => exact nle rfl); (case hov => ((repeat (first | with_reducible exact ov_nil | apply ov_cons)); done)); (case hu => repeat (first | exact Upd.here _ _ | apply Upd.there))) | fail)
  · rw [if_pos (by assumption), if_pos (show 64 ≤ l.length by omega)]
    refine d_start [(b8, .cells [.int .i64 client, .int .i64 seq, .int .i64 11, .bool false, .string ByteArray.empty, .int .i64 0].toArray 29 (0, 0))] (by kernel_rfl) (by kernel_rfl) (by kernel_rfl) (by intro e he; (simp at he; simp [he]; done)) ?_
    all_goals (apply dtk 0; (case hi => rfl); (case hop => (apply prd; apply p_move <;> rfl)); (case hq => kernel_rfl))
    all_goals (apply dtk 1; (case hi => rfl); (case hop => first | (apply r_loadNo; (case hx => rfl); (case h => (repeat (exact mhd _))); (case hd => (repeat (first | with_reducible exact dt_nil | apply dt_here))); (case hn => rfl)) | (apply r_load1; rfl; (apply Cell.own; (case h => (repeat (fail))); rfl)) | (apply r_loadN; rfl; (apply CellsAt.own; (case h => (repeat (fail)))); rfl)); (case hq => kernel_rfl))
    all_goals (apply dtk 2; (case hi => rfl); (case hop => (apply prd; apply p_assign <;> rfl)); (case hq => kernel_rfl))
    all_goals (apply d_store 3; (case hi => rfl); (case hr => kernel_rfl); (case hL => infer_instance); (case hp => rfl); (case hx => rfl); (case hc => rfl); (case hsz => rfl); (case h1 => rfl); (case hb => (repeat (first | exact mhd _ | apply mtl))); (case hfit => exact nle rfl); (case hov => ((repeat (first | with_reducible exact ov_nil | apply ov_cons)); done)); (case hu => repeat (first | exact Upd.here _ _ | apply Upd.there)); (case hν' => intro e he; (simp at he; simp [he]; done)))
    all_goals (apply d_done; (case hr => kernel_rfl))
    repeat' (fail)
    refine v_retM [] (outsM_tc (sz1 := 6) (vs1 := [.int .i64 client, .int .i64 seq, .int .i64 11, .bool false, .string ByteArray.empty, .int .i64 0]) (e1 := 29) rfl rfl rfl (by repeat (first | exact mhd _ | apply mtl)) rfl) (List.nil_sublist _) ⟨GH.le_refl _, rfl, _, rfl, hs⟩
  · rw [if_pos (by assumption), if_neg (show ¬ 64 ≤ l.length by omega)]
    refine v_call (μ1 := []) rfl qw (List.Perm.refl _) rfl ?_
    rintro v3 G3 _ hle3 ⟨-, rfl, hw3⟩
    repeat' (first | apply v_seq | apply v_region | apply v_nil | apply v_blk | (apply v_pure; (case hop => first | (apply p_move <;> rfl) | (apply p_ge <;> rfl) | (apply p_assign <;> rfl) | (apply p_fieldAddrB <;> rfl) | fail); (case hd => rfl)) | (apply v_read; (case hop => (apply r_load1; rfl; (apply Cell.own; (case h => (repeat (first | exact mhd _ | apply mtl))); rfl))); (case hd => rfl)) | (apply v_store; (case hp => rfl); (case hx => rfl); (case hc => rfl); (case hsz => rfl); (case h1 => rfl); (case hb => (repeat (first | exact mhd _ | apply mtl))); (case hfit => exact nle rfl); (case hov => ((repeat (first | with_reducible exact ov_nil | apply ov_cons)); done)); (case hu => repeat (first | exact Upd.here _ _ | apply Upd.there))) | fail)
    try rw [hdf]
    refine d_start [(b8, .cells [.int .i64 client, .int .i64 seq, .int .i64 0, .bool false, .string ByteArray.empty, .int .i64 0].toArray 29 (0, 0))] (by kernel_rfl) (by kernel_rfl) (by kernel_rfl) (by intro e he; (simp at he; simp [he]; done)) ?_
    all_goals (apply dtk 0; (case hi => rfl); (case hop => (apply prd; apply p_move <;> rfl)); (case hq => kernel_rfl))
    all_goals (apply dtk 1; (case hi => rfl); (case hop => first | (apply r_loadNo; (case hx => rfl); (case h => (repeat (exact mhd _))); (case hd => (repeat (first | with_reducible exact dt_nil | apply dt_here))); (case hn => rfl)) | (apply r_load1; rfl; (apply Cell.own; (case h => (repeat (fail))); rfl)) | (apply r_loadN; rfl; (apply CellsAt.own; (case h => (repeat (fail)))); rfl)); (case hq => kernel_rfl))
    all_goals (apply dtk 2; (case hi => rfl); (case hop => (apply prd; apply p_assign <;> rfl)); (case hq => kernel_rfl))
    all_goals (apply d_store 3; (case hi => rfl); (case hr => kernel_rfl); (case hL => infer_instance); (case hp => rfl); (case hx => rfl); (case hc => rfl); (case hsz => rfl); (case h1 => rfl); (case hb => (repeat (first | exact mhd _ | apply mtl))); (case hfit => exact nle rfl); (case hov => ((repeat (first | with_reducible exact ov_nil | apply ov_cons)); done)); (case hu => repeat (first | exact Upd.here _ _ | apply Upd.there)); (case hν' => intro e he; (simp at he; simp [he]; done)))
    all_goals (apply d_done; (case hr => kernel_rfl))
    repeat' (fail)
    refine v_retM [] (outsM_tc (sz1 := 6) (vs1 := [.int .i64 client, .int .i64 seq, .int .i64 0, .bool false, .string ByteArray.empty, .int .i64 0]) (e1 := 29) rfl rfl rfl (by repeat (first | exact mhd _ | apply mtl)) rfl) (List.nil_sublist _) ⟨hle3, rfl, _, rfl, hw3⟩
  · rw [if_neg (by assumption), if_pos (by assumption)]
    refine v_call (μ1 := []) rfl qo (List.Perm.refl _) rfl ?_
    rintro v3 G3 _ hle3 ⟨-, rfl, hw3⟩
    repeat' (first | apply v_seq | apply v_region | apply v_nil | apply v_blk | (apply v_pure; (case hop => first | (apply p_move <;> rfl) | (apply p_ge <;> rfl) | (apply p_assign <;> rfl) | (apply p_fieldAddrB <;> rfl) | fail); (case hd => rfl)) | (apply v_read; (case hop => (apply r_load1; rfl; (apply Cell.own; (case h => (repeat (first | exact mhd _ | apply mtl))); rfl))); (case hd => rfl)) | (apply v_store; (case hp => rfl); (case hx => rfl); (case hc => rfl); (case hsz => rfl); (case h1 => rfl); (case hb => (repeat (first | exact mhd _ | apply mtl))); (case hfit => exact nle rfl); (case hov => ((repeat (first | with_reducible exact ov_nil | apply ov_cons)); done)); (case hu => repeat (first | exact Upd.here _ _ | apply Upd.there))) | fail)
    try rw [hdf]
    refine d_start [(b8, .cells [.int .i64 client, .int .i64 seq, .int .i64 0, .bool false, .string ByteArray.empty, .int .i64 0].toArray 29 (0, 0))] (by kernel_rfl) (by kernel_rfl) (by kernel_rfl) (by intro e he; (simp at he; simp [he]; done)) ?_
    all_goals (apply dtk 0; (case hi => rfl); (case hop => (apply prd; apply p_move <;> rfl)); (case hq => kernel_rfl))
    all_goals (apply dtk 1; (case hi => rfl); (case hop => first | (apply r_loadNo; (case hx => rfl); (case h => (repeat (exact mhd _))); (case hd => (repeat (first | with_reducible exact dt_nil | apply dt_here))); (case hn => rfl)) | (apply r_load1; rfl; (apply Cell.own; (case h => (repeat (fail))); rfl)) | (apply r_loadN; rfl; (apply CellsAt.own; (case h => (repeat (fail)))); rfl)); (case hq => kernel_rfl))
    all_goals (apply dtk 2; (case hi => rfl); (case hop => (apply prd; apply p_assign <;> rfl)); (case hq => kernel_rfl))
    all_goals (apply d_store 3; (case hi => rfl); (case hr => kernel_rfl); (case hL => infer_instance); (case hp => rfl); (case hx => rfl); (case hc => rfl); (case hsz => rfl); (case h1 => rfl); (case hb => (repeat (first | exact mhd _ | apply mtl))); (case hfit => exact nle rfl); (case hov => ((repeat (first | with_reducible exact ov_nil | apply ov_cons)); done)); (case hu => repeat (first | exact Upd.here _ _ | apply Upd.there)); (case hν' => intro e he; (simp at he; simp [he]; done)))
    all_goals (apply d_done; (case hr => kernel_rfl))
    repeat' (fail)
    refine v_retM [] (outsM_tc (sz1 := 6) (vs1 := [.int .i64 client, .int .i64 seq, .int .i64 0, .bool false, .string ByteArray.empty, .int .i64 0]) (e1 := 29) rfl rfl rfl (by repeat (first | exact mhd _ | apply mtl)) rfl) (List.nil_sublist _) ⟨hle3, rfl, _, rfl, hw3⟩
  · rw [if_neg (by assumption), if_neg (by assumption), if_pos (by assumption)]
    try rw [hdf]
    refine d_start [(b8, .cells [.int .i64 client, .int .i64 seq, .int .i64 10, .bool false, .string ByteArray.empty, .int .i64 0].toArray 29 (0, 0))] (by kernel_rfl) (by kernel_rfl) (by kernel_rfl) (by intro e he; (simp at he; simp [he]; done)) ?_
    all_goals (apply dtk 0; (case hi => rfl); (case hop => (apply prd; apply p_move <;> rfl)); (case hq => kernel_rfl))
    all_goals (apply dtk 1; (case hi => rfl); (case hop => first | (apply r_loadNo; (case hx => rfl); (case h => (repeat (exact mhd _))); (case hd => (repeat (first | with_reducible exact dt_nil | apply dt_here))); (case hn => rfl)) | (apply r_load1; rfl; (apply Cell.own; (case h => (repeat (fail))); rfl)) | (apply r_loadN; rfl; (apply CellsAt.own; (case h => (repeat (fail)))); rfl)); (case hq => kernel_rfl))
    all_goals (apply dtk 2; (case hi => rfl); (case hop => (apply prd; apply p_assign <;> rfl)); (case hq => kernel_rfl))
    all_goals (apply d_store 3; (case hi => rfl); (case hr => kernel_rfl); (case hL => infer_instance); (case hp => rfl); (case hx => rfl); (case hc => rfl); (case hsz => rfl); (case h1 => rfl); (case hb => (repeat (first | exact mhd _ | apply mtl))); (case hfit => exact nle rfl); (case hov => ((repeat (first | with_reducible exact ov_nil | apply ov_cons)); done)); (case hu => repeat (first | exact Upd.here _ _ | apply Upd.there)); (case hν' => intro e he; (simp at he; simp [he]; done)))
    all_goals (apply d_done; (case hr => kernel_rfl))
    repeat' (fail)
    refine v_retM [] (outsM_tc (sz1 := 6) (vs1 := [.int .i64 client, .int .i64 seq, .int .i64 10, .bool false, .string ByteArray.empty, .int .i64 0]) (e1 := 29) rfl rfl rfl (by repeat (first | exact mhd _ | apply mtl)) rfl) (List.nil_sublist _) ⟨GH.le_refl _, rfl, _, rfl, hs⟩
  · rw [if_neg (by assumption), if_neg (by assumption), if_neg (by assumption)]
    try rw [hdf]
    refine d_start [(b8, .cells [.int .i64 client, .int .i64 seq, .int .i64 0, .bool false, .string ByteArray.empty, .int .i64 0].toArray 29 (0, 0))] (by kernel_rfl) (by kernel_rfl) (by kernel_rfl) (by intro e he; (simp at he; simp [he]; done)) ?_
    all_goals (apply dtk 0; (case hi => rfl); (case hop => (apply prd; apply p_move <;> rfl)); (case hq => kernel_rfl))
    all_goals (apply dtk 1; (case hi => rfl); (case hop => first | (apply r_loadNo; (case hx => rfl); (case h => (repeat (exact mhd _))); (case hd => (repeat (first | with_reducible exact dt_nil | apply dt_here))); (case hn => rfl)) | (apply r_load1; rfl; (apply Cell.own; (case h => (repeat (fail))); rfl)) | (apply r_loadN; rfl; (apply CellsAt.own; (case h => (repeat (fail)))); rfl)); (case hq => kernel_rfl))
    all_goals (apply dtk 2; (case hi => rfl); (case hop => (apply prd; apply p_assign <;> rfl)); (case hq => kernel_rfl))
    all_goals (apply d_store 3; (case hi => rfl); (case hr => kernel_rfl); (case hL => infer_instance); (case hp => rfl); (case hx => rfl); (case hc => rfl); (case hsz => rfl); (case h1 => rfl); (case hb => (repeat (first | exact mhd _ | apply mtl))); (case hfit => exact nle rfl); (case hov => ((repeat (first | with_reducible exact ov_nil | apply ov_cons)); done)); (case hu => repeat (first | exact Upd.here _ _ | apply Upd.there)); (case hν' => intro e he; (simp at he; simp [he]; done)))
    all_goals (apply d_done; (case hr => kernel_rfl))
    repeat' (fail)
    refine v_retM [] (outsM_tc (sz1 := 6) (vs1 := [.int .i64 client, .int .i64 seq, .int .i64 0, .bool false, .string ByteArray.empty, .int .i64 0]) (e1 := 29) rfl rfl rfl (by repeat (first | exact mhd _ | apply mtl)) rfl) (List.nil_sublist _) ⟨GH.le_refl _, rfl, _, rfl, hs⟩
theorem doH1 {G : GH} {l : List Pr} {A : Option Addr} {c : Nat} (kind client seq : Int) (key val old : ByteArray) (node : Int) (hs : Prs G (.slice A l.length c) l) (hr : RiseW ksP l) (hz : Sized l) (hn : l.length ≤ 200) (hkz : key.size ≤ 200) (hk : 2 ≤ kind ∧ kind ≤ 5) (h5 : kind ≠ 5) (i : Nat) (hi : i < l.length) (f : Pr) (hck : CellsG G ((adr A).add (i * 3)) f.cells)
    (qp : Con Tryd.prog 84 #[.slice A l.length c, .string key] G [] (Just (.int .i64 (i : Nat)) G)) :
    Con Tryd.prog 56 #[.int .i64 1, .slice A l.length c, .agg (Cm.cells ⟨kind, client, seq, key, val, old, node⟩).toArray] G [] (DoPost G (if kind = 2 then (withG ksP l ⟨key, val, 0⟩, ⟨client, seq, 0, true, f.val, 0⟩) else if kind = 4 then (l.filter (fun x => decide (ksP x ≠ kn key)), ⟨client, seq, 0, true, f.val, 0⟩) else if kind = 5 then (if f.val = old then (withG ksP l ⟨key, val, 0⟩, ⟨client, seq, 0, true, f.val, 0⟩) else (l, ⟨client, seq, 15, true, f.val, f.rev⟩)) else (l, ⟨client, seq, 0, true, f.val, 0⟩) : List Pr × An)) := by
  obtain ⟨B0, e0, e, hlc, hcm, hsome, hcp⟩ := rowOpen hs
  cases e
  simp only [maxLen] at hcm
  have qw := refPWith_s ⟨key, val, 0⟩ hs hr hn hz hkz
  have qo := refWithout_s key hs hn hz hkz
  have e1 : ((i : Nat) : Int).toNat = i := by omega
  have hA := hsome (by omega)
  skip
  have hdf : dec ((0 : Int) ≤ (i : Nat)) = true := dec_pos (by omega)
  (refine v_enter Tryd.func56 rfl Tryd.ntmps56 rfl ?_; intro B _)
  repeat' (first | (apply v_box (d := 5) (zs := Cm.cells ⟨kind, client, seq, key, val, old, node⟩); (case hx => rfl); (case hz => rfl); (case hd => rfl); intro b5) | (apply v_alloc (d := 7); (case hz => rfl); (case hd => rfl); intro b7) | (apply v_alloc (d := 8); (case hz => rfl); (case hd => rfl); intro b8) | (apply v_alloc (d := 10); (case hz => rfl); (case hd => rfl); intro b10) | (apply v_alloc (d := 11); (case hz => rfl); (case hd => rfl); intro b11) | (apply v_read; (case hop => (apply r_loadNo; (case hx => rfl); (case h => repeat (exact mhd _)); (case hd => rfl); (case hn => rfl))); (case hd => rfl)) | apply v_seq | apply v_region | apply v_nil | apply v_skip | apply v_block | apply v_blk | (apply v_take; (case hg => rfl)) | (apply v_pass; (case hg => rfl); (case hn => rfl); (case hd => rfl)) | (apply v_pure; (case hop => first | (apply p_move <;> rfl) | (apply p_eq <;> rfl) | (apply p_lt <;> rfl) | (apply p_ne <;> rfl) | (apply p_ge <;> rfl) | (apply p_assign <;> rfl) | (apply p_pickT <;> rfl) | (apply p_pickF <;> rfl) | (apply p_fieldAddrB <;> rfl) | (apply p_indexAddrS; (case hx => rfl); (case hi => rfl); (case h0 => omega); (case h => omega); (case hA => assumption)) | (apply p_build; (case hz => rfl); (case hv => (simp only [List.map_cons, List.map_nil]; repeat (first | with_reducible exact evs_nil | (apply evs_cons; (case h1 => rfl))))); (case hb => (apply bldL; repeat (first | exact bld_nil | (apply bld_cons; (case hpf => rfl); (case hc => rfl); (case hs => rfl); (case hl => rfl); (case ho => ((repeat (first | with_reducible exact ov_nil | apply ov_cons)); done))))))) | fail); (case hd => rfl)) | (apply v_condF; (case hc => rfl)) | (apply v_cond; (case hc => rfl); all_goals (intro h; (try simp only [reduceCtorEq, zzz] at h); first | (exfalso; omega) | skip)) | (apply v_guardB; (case h1 => rfl); (case h2 => rfl); all_goals (intro h; (try simp only [reduceCtorEq, zzz] at h); first | (exfalso; omega) | skip)) | (apply v_read; (case hop => (apply r_loadN; rfl; exact CellsAt.frozen hck; rfl)); (case hd => rfl)) | (apply v_callJ (hs := qp); (case ha => rfl); (case hd => rfl)) | (apply v_read; (case hop => (apply r_load1; rfl; (apply Cell.own; (case h => (repeat (first | exact mhd _ | apply mtl))); rfl))); (case hd => rfl)) | (apply v_store; (case hp => rfl); (case hx => rfl); (case hc => rfl); (case hsz => rfl); (case h1 => rfl); (case hb => (repeat (first | exact mhd _ | apply mtl))); (case hfit => exact nle rfl); (case hov => ((repeat (first | with_reducible exact ov_nil | apply ov_cons)); done)); (case hu => repeat (first | exact Upd.here _ _ | apply Upd.there))) | fail)
  · rw [if_pos (by assumption)]
    refine v_call (μ1 := []) rfl qw (List.Perm.refl _) rfl ?_
    rintro v3 G3 _ hle3 ⟨-, rfl, hw3⟩
    repeat' (first | apply v_seq | apply v_region | apply v_nil | apply v_blk | (apply v_pure; (case hop => first | (apply p_move <;> rfl) | (apply p_ge <;> rfl) | (apply p_assign <;> rfl) | (apply p_fieldAddrB <;> rfl) | fail); (case hd => rfl)) | (apply v_read; (case hop => (apply r_load1; rfl; (apply Cell.own; (case h => (repeat (first | exact mhd _ | apply mtl))); rfl))); (case hd => rfl)) | (apply v_store; (case hp => rfl); (case hx => rfl); (case hc => rfl); (case hsz => rfl); (case h1 => rfl); (case hb => (repeat (first | exact mhd _ | apply mtl))); (case hfit => exact nle rfl); (case hov => ((repeat (first | with_reducible exact ov_nil | apply ov_cons)); done)); (case hu => repeat (first | exact Upd.here _ _ | apply Upd.there))) | fail)
    try rw [hdf]
    refine d_start [(b8, .cells [.int .i64 client, .int .i64 seq, .int .i64 0, .bool true, .string f.val, .int .i64 0].toArray 29 (0, 0))] (by kernel_rfl) (by kernel_rfl) (by kernel_rfl) (by intro e he; (simp at he; simp [he]; done)) ?_
    all_goals (apply dtk 0; (case hi => rfl); (case hop => (apply prd; apply p_move <;> rfl)); (case hq => kernel_rfl))
    all_goals (apply dtk 1; (case hi => rfl); (case hop => first | (apply r_loadNo; (case hx => rfl); (case h => (repeat (exact mhd _))); (case hd => (repeat (first | with_reducible exact dt_nil | apply dt_here))); (case hn => rfl)) | (apply r_load1; rfl; (apply Cell.own; (case h => (repeat (fail))); rfl)) | (apply r_loadN; rfl; (apply CellsAt.own; (case h => (repeat (fail)))); rfl)); (case hq => kernel_rfl))
    all_goals (apply dtk 2; (case hi => rfl); (case hop => (apply prd; apply p_assign <;> rfl)); (case hq => kernel_rfl))
    all_goals (apply d_store 3; (case hi => rfl); (case hr => kernel_rfl); (case hL => infer_instance); (case hp => rfl); (case hx => rfl); (case hc => rfl); (case hsz => rfl); (case h1 => rfl); (case hb => (repeat (first | exact mhd _ | apply mtl))); (case hfit => exact nle rfl); (case hov => ((repeat (first | with_reducible exact ov_nil | apply ov_cons)); done)); (case hu => repeat (first | exact Upd.here _ _ | apply Upd.there)); (case hν' => intro e he; (simp at he; simp [he]; done)))
    all_goals (apply d_done; (case hr => kernel_rfl))
    repeat' (fail)
    refine v_retM [] (outsM_tc (sz1 := 6) (vs1 := [.int .i64 client, .int .i64 seq, .int .i64 0, .bool true, .string f.val, .int .i64 0]) (e1 := 29) rfl rfl rfl (by repeat (first | exact mhd _ | apply mtl)) rfl) (List.nil_sublist _) ⟨hle3, rfl, _, rfl, hw3⟩
  · rw [if_neg (by assumption), if_pos (by assumption)]
    refine v_call (μ1 := []) rfl qo (List.Perm.refl _) rfl ?_
    rintro v3 G3 _ hle3 ⟨-, rfl, hw3⟩
    repeat' (first | apply v_seq | apply v_region | apply v_nil | apply v_blk | (apply v_pure; (case hop => first | (apply p_move <;> rfl) | (apply p_ge <;> rfl) | (apply p_assign <;> rfl) | (apply p_fieldAddrB <;> rfl) | fail); (case hd => rfl)) | (apply v_read; (case hop => (apply r_load1; rfl; (apply Cell.own; (case h => (repeat (first | exact mhd _ | apply mtl))); rfl))); (case hd => rfl)) | (apply v_store; (case hp => rfl); (case hx => rfl); (case hc => rfl); (case hsz => rfl); (case h1 => rfl); (case hb => (repeat (first | exact mhd _ | apply mtl))); (case hfit => exact nle rfl); (case hov => ((repeat (first | with_reducible exact ov_nil | apply ov_cons)); done)); (case hu => repeat (first | exact Upd.here _ _ | apply Upd.there))) | fail)
    try rw [hdf]
    refine d_start [(b8, .cells [.int .i64 client, .int .i64 seq, .int .i64 0, .bool true, .string f.val, .int .i64 0].toArray 29 (0, 0))] (by kernel_rfl) (by kernel_rfl) (by kernel_rfl) (by intro e he; (simp at he; simp [he]; done)) ?_
    all_goals (apply dtk 0; (case hi => rfl); (case hop => (apply prd; apply p_move <;> rfl)); (case hq => kernel_rfl))
    all_goals (apply dtk 1; (case hi => rfl); (case hop => first | (apply r_loadNo; (case hx => rfl); (case h => (repeat (exact mhd _))); (case hd => (repeat (first | with_reducible exact dt_nil | apply dt_here))); (case hn => rfl)) | (apply r_load1; rfl; (apply Cell.own; (case h => (repeat (fail))); rfl)) | (apply r_loadN; rfl; (apply CellsAt.own; (case h => (repeat (fail)))); rfl)); (case hq => kernel_rfl))
    all_goals (apply dtk 2; (case hi => rfl); (case hop => (apply prd; apply p_assign <;> rfl)); (case hq => kernel_rfl))
    all_goals (apply d_store 3; (case hi => rfl); (case hr => kernel_rfl); (case hL => infer_instance); (case hp => rfl); (case hx => rfl); (case hc => rfl); (case hsz => rfl); (case h1 => rfl); (case hb => (repeat (first | exact mhd _ | apply mtl))); (case hfit => exact nle rfl); (case hov => ((repeat (first | with_reducible exact ov_nil | apply ov_cons)); done)); (case hu => repeat (first | exact Upd.here _ _ | apply Upd.there)); (case hν' => intro e he; (simp at he; simp [he]; done)))
    all_goals (apply d_done; (case hr => kernel_rfl))
    repeat' (fail)
    refine v_retM [] (outsM_tc (sz1 := 6) (vs1 := [.int .i64 client, .int .i64 seq, .int .i64 0, .bool true, .string f.val, .int .i64 0]) (e1 := 29) rfl rfl rfl (by repeat (first | exact mhd _ | apply mtl)) rfl) (List.nil_sublist _) ⟨hle3, rfl, _, rfl, hw3⟩
  · rw [if_neg (by assumption), if_neg (by assumption), if_neg (by assumption)]
    try rw [hdf]
    refine d_start [(b8, .cells [.int .i64 client, .int .i64 seq, .int .i64 0, .bool true, .string f.val, .int .i64 0].toArray 29 (0, 0))] (by kernel_rfl) (by kernel_rfl) (by kernel_rfl) (by intro e he; (simp at he; simp [he]; done)) ?_
    all_goals (apply dtk 0; (case hi => rfl); (case hop => (apply prd; apply p_move <;> rfl)); (case hq => kernel_rfl))
    all_goals (apply dtk 1; (case hi => rfl); (case hop => first | (apply r_loadNo; (case hx => rfl); (case h => (repeat (exact mhd _))); (case hd => (repeat (first | with_reducible exact dt_nil | apply dt_here))); (case hn => rfl)) | (apply r_load1; rfl; (apply Cell.own; (case h => (repeat (fail))); rfl)) | (apply r_loadN; rfl; (apply CellsAt.own; (case h => (repeat (fail)))); rfl)); (case hq => kernel_rfl))
    all_goals (apply dtk 2; (case hi => rfl); (case hop => (apply prd; apply p_assign <;> rfl)); (case hq => kernel_rfl))
    all_goals (apply d_store 3; (case hi => rfl); (case hr => kernel_rfl); (case hL => infer_instance); (case hp => rfl); (case hx => rfl); (case hc => rfl); (case hsz => rfl); (case h1 => rfl); (case hb => (repeat (first | exact mhd _ | apply mtl))); (case hfit => exact nle rfl); (case hov => ((repeat (first | with_reducible exact ov_nil | apply ov_cons)); done)); (case hu => repeat (first | exact Upd.here _ _ | apply Upd.there)); (case hν' => intro e he; (simp at he; simp [he]; done)))
    all_goals (apply d_done; (case hr => kernel_rfl))
    repeat' (fail)
    refine v_retM [] (outsM_tc (sz1 := 6) (vs1 := [.int .i64 client, .int .i64 seq, .int .i64 0, .bool true, .string f.val, .int .i64 0]) (e1 := 29) rfl rfl rfl (by repeat (first | exact mhd _ | apply mtl)) rfl) (List.nil_sublist _) ⟨GH.le_refl _, rfl, _, rfl, hs⟩
theorem doH2 {G : GH} {l : List Pr} {A : Option Addr} {c : Nat} (kind client seq : Int) (key val old : ByteArray) (node : Int) (hs : Prs G (.slice A l.length c) l) (hr : RiseW ksP l) (hz : Sized l) (hn : l.length ≤ 200) (hkz : key.size ≤ 200) (hk : 2 ≤ kind ∧ kind ≤ 5) (i : Nat) (hi : i < l.length) (f : Pr) (hck : CellsG G ((adr A).add (i * 3)) f.cells) (hrev : f.rev < 4294967296) (hrev2 : 1 ≤ f.rev)
    (qp : Con Tryd.prog 84 #[.slice A l.length c, .string key] G [] (Just (.int .i64 (i : Nat)) G)) :
    Con Tryd.prog 56 #[.int .i64 2, .slice A l.length c, .agg (Cm.cells ⟨kind, client, seq, key, val, old, node⟩).toArray] G [] (DoPost G (if kind = 2 then (withG ksP l ⟨key, val, (f.rev + 1)⟩, ⟨client, seq, 0, true, f.val, 0⟩) else if kind = 4 then (l.filter (fun x => decide (ksP x ≠ kn key)), ⟨client, seq, 0, true, f.val, 0⟩) else if kind = 5 then (if f.val = old then (withG ksP l ⟨key, val, (f.rev + 1)⟩, ⟨client, seq, 0, true, f.val, (f.rev + 1)⟩) else (l, ⟨client, seq, 15, true, f.val, f.rev⟩)) else (l, ⟨client, seq, 0, true, f.val, 0⟩) : List Pr × An)) := by
  obtain ⟨B0, e0, e, hlc, hcm, hsome, hcp⟩ := rowOpen hs
  cases e
  simp only [maxLen] at hcm
  have qw := refPWith_s ⟨key, val, (f.rev + 1)⟩ hs hr hn hz hkz
  have qo := refWithout_s key hs hn hz hkz
  have e1 : ((i : Nat) : Int).toNat = i := by omega
  have hA := hsome (by omega)
  skip
  have hdf : dec ((0 : Int) ≤ (i : Nat)) = true := dec_pos (by omega)
  (refine v_enter Tryd.func56 rfl Tryd.ntmps56 rfl ?_; intro B _)
  repeat' (first | (apply v_box (d := 5) (zs := Cm.cells ⟨kind, client, seq, key, val, old, node⟩); (case hx => rfl); (case hz => rfl); (case hd => rfl); intro b5) | (apply v_alloc (d := 7); (case hz => rfl); (case hd => rfl); intro b7) | (apply v_alloc (d := 8); (case hz => rfl); (case hd => rfl); intro b8) | (apply v_alloc (d := 10); (case hz => rfl); (case hd => rfl); intro b10) | (apply v_alloc (d := 11); (case hz => rfl); (case hd => rfl); intro b11) | (apply v_read; (case hop => (apply r_loadNo; (case hx => rfl); (case h => repeat (exact mhd _)); (case hd => rfl); (case hn => rfl))); (case hd => rfl)) | apply v_seq | apply v_region | apply v_nil | apply v_skip | apply v_block | apply v_blk | (apply v_take; (case hg => rfl)) | (apply v_pass; (case hg => rfl); (case hn => rfl); (case hd => rfl)) | (apply v_pure; (case hop => first | (apply p_move <;> rfl) | (apply p_eqs <;> rfl) | (apply p_eq <;> rfl) | (apply p_lt <;> rfl) | (apply p_ne <;> rfl) | (apply p_ge <;> rfl) | (apply p_assign <;> rfl) | (apply p_pickT <;> rfl) | (apply p_pickF <;> rfl) | (apply p_fieldAddrB <;> rfl) | (apply p_add; (case hx => rfl); (case hy => rfl); (case h => omega)) | (apply p_indexAddrS; (case hx => rfl); (case hi => rfl); (case h0 => omega); (case h => omega); (case hA => assumption)) | (apply p_build; (case hz => rfl); (case hv => (simp only [List.map_cons, List.map_nil]; repeat (first | with_reducible exact evs_nil | (apply evs_cons; (case h1 => rfl))))); (case hb => (apply bldL; repeat (first | exact bld_nil | (apply bld_cons; (case hpf => rfl); (case hc => rfl); (case hs => rfl); (case hl => rfl); (case ho => ((repeat (first | with_reducible exact ov_nil | apply ov_cons)); done))))))) | (apply p_neS <;> rfl) | fail); (case hd => rfl)) | (apply v_condT; (case hc => rfl)) | (apply v_condF; (case hc => rfl)) | (apply v_cond; (case hc => rfl); all_goals (intro h; (try simp only [reduceCtorEq, zzz] at h); first | (exfalso; omega) | skip)) | (apply v_guardB; (case h1 => rfl); (case h2 => rfl); all_goals (intro h; (try simp only [reduceCtorEq, zzz] at h); first | (exfalso; omega) | skip)) | (apply v_read; (case hop => (apply r_loadN; rfl; exact CellsAt.frozen hck; rfl)); (case hd => rfl)) | (apply v_callJ (hs := qp); (case ha => rfl); (case hd => rfl)) | (apply v_read; (case hop => (apply r_load1; rfl; (apply Cell.own; (case h => (repeat (first | exact mhd _ | apply mtl))); rfl))); (case hd => rfl)) | (apply v_store; (case hp => rfl); (case hx => rfl); (case hc => rfl); (case hsz => rfl); (case h1 => rfl); (case hb => (repeat (first | exact mhd _ | apply mtl))); (case hfit => exact nle rfl); (case hov => ((repeat (first | with_reducible exact ov_nil | apply ov_cons)); done)); (case hu => repeat (first | exact Upd.here _ _ | apply Upd.there))) | fail)
  · rw [if_pos (by assumption)]
    refine v_call (μ1 := []) rfl qw (List.Perm.refl _) rfl ?_
    rintro v3 G3 _ hle3 ⟨-, rfl, hw3⟩
    repeat' (first | apply v_seq | apply v_region | apply v_nil | apply v_blk | (apply v_pure; (case hop => first | (apply p_move <;> rfl) | (apply p_ge <;> rfl) | (apply p_assign <;> rfl) | (apply p_fieldAddrB <;> rfl) | fail); (case hd => rfl)) | (apply v_read; (case hop => (apply r_load1; rfl; (apply Cell.own; (case h => (repeat (first | exact mhd _ | apply mtl))); rfl))); (case hd => rfl)) | (apply v_store; (case hp => rfl); (case hx => rfl); (case hc => rfl); (case hsz => rfl); (case h1 => rfl); (case hb => (repeat (first | exact mhd _ | apply mtl))); (case hfit => exact nle rfl); (case hov => ((repeat (first | with_reducible exact ov_nil | apply ov_cons)); done)); (case hu => repeat (first | exact Upd.here _ _ | apply Upd.there))) | fail)
    try rw [hdf]
    refine d_start [(b8, .cells [.int .i64 client, .int .i64 seq, .int .i64 0, .bool true, .string f.val, .int .i64 0].toArray 29 (0, 0))] (by kernel_rfl) (by kernel_rfl) (by kernel_rfl) (by intro e he; (simp at he; simp [he]; done)) ?_
    all_goals (apply dtk 0; (case hi => rfl); (case hop => (apply prd; apply p_move <;> rfl)); (case hq => kernel_rfl))
    all_goals (apply dtk 1; (case hi => rfl); (case hop => first | (apply r_loadNo; (case hx => rfl); (case h => (repeat (exact mhd _))); (case hd => (repeat (first | with_reducible exact dt_nil | apply dt_here))); (case hn => rfl)) | (apply r_load1; rfl; (apply Cell.own; (case h => (repeat (fail))); rfl)) | (apply r_loadN; rfl; (apply CellsAt.own; (case h => (repeat (fail)))); rfl)); (case hq => kernel_rfl))
    all_goals (apply dtk 2; (case hi => rfl); (case hop => (apply prd; apply p_assign <;> rfl)); (case hq => kernel_rfl))
    all_goals (apply d_store 3; (case hi => rfl); (case hr => kernel_rfl); (case hL => infer_instance); (case hp => rfl); (case hx => rfl); (case hc => rfl); (case hsz => rfl); (case h1 => rfl); (case hb => (repeat (first | exact mhd _ | apply mtl))); (case hfit => exact nle rfl); (case hov => ((repeat (first | with_reducible exact ov_nil | apply ov_cons)); done)); (case hu => repeat (first | exact Upd.here _ _ | apply Upd.there)); (case hν' => intro e he; (simp at he; simp [he]; done)))
    all_goals (apply d_done; (case hr => kernel_rfl))
    repeat' (fail)
    refine v_retM [] (outsM_tc (sz1 := 6) (vs1 := [.int .i64 client, .int .i64 seq, .int .i64 0, .bool true, .string f.val, .int .i64 0]) (e1 := 29) rfl rfl rfl (by repeat (first | exact mhd _ | apply mtl)) rfl) (List.nil_sublist _) ⟨hle3, rfl, _, rfl, hw3⟩
  · rw [if_neg (by assumption), if_pos (by assumption)]
    refine v_call (μ1 := []) rfl qo (List.Perm.refl _) rfl ?_
    rintro v3 G3 _ hle3 ⟨-, rfl, hw3⟩
    repeat' (first | apply v_seq | apply v_region | apply v_nil | apply v_blk | (apply v_pure; (case hop => first | (apply p_move <;> rfl) | (apply p_ge <;> rfl) | (apply p_assign <;> rfl) | (apply p_fieldAddrB <;> rfl) | fail); (case hd => rfl)) | (apply v_read; (case hop => (apply r_load1; rfl; (apply Cell.own; (case h => (repeat (first | exact mhd _ | apply mtl))); rfl))); (case hd => rfl)) | (apply v_store; (case hp => rfl); (case hx => rfl); (case hc => rfl); (case hsz => rfl); (case h1 => rfl); (case hb => (repeat (first | exact mhd _ | apply mtl))); (case hfit => exact nle rfl); (case hov => ((repeat (first | with_reducible exact ov_nil | apply ov_cons)); done)); (case hu => repeat (first | exact Upd.here _ _ | apply Upd.there))) | fail)
    try rw [hdf]
    refine d_start [(b8, .cells [.int .i64 client, .int .i64 seq, .int .i64 0, .bool true, .string f.val, .int .i64 0].toArray 29 (0, 0))] (by kernel_rfl) (by kernel_rfl) (by kernel_rfl) (by intro e he; (simp at he; simp [he]; done)) ?_
    all_goals (apply dtk 0; (case hi => rfl); (case hop => (apply prd; apply p_move <;> rfl)); (case hq => kernel_rfl))
    all_goals (apply dtk 1; (case hi => rfl); (case hop => first | (apply r_loadNo; (case hx => rfl); (case h => (repeat (exact mhd _))); (case hd => (repeat (first | with_reducible exact dt_nil | apply dt_here))); (case hn => rfl)) | (apply r_load1; rfl; (apply Cell.own; (case h => (repeat (fail))); rfl)) | (apply r_loadN; rfl; (apply CellsAt.own; (case h => (repeat (fail)))); rfl)); (case hq => kernel_rfl))
    all_goals (apply dtk 2; (case hi => rfl); (case hop => (apply prd; apply p_assign <;> rfl)); (case hq => kernel_rfl))
    all_goals (apply d_store 3; (case hi => rfl); (case hr => kernel_rfl); (case hL => infer_instance); (case hp => rfl); (case hx => rfl); (case hc => rfl); (case hsz => rfl); (case h1 => rfl); (case hb => (repeat (first | exact mhd _ | apply mtl))); (case hfit => exact nle rfl); (case hov => ((repeat (first | with_reducible exact ov_nil | apply ov_cons)); done)); (case hu => repeat (first | exact Upd.here _ _ | apply Upd.there)); (case hν' => intro e he; (simp at he; simp [he]; done)))
    all_goals (apply d_done; (case hr => kernel_rfl))
    repeat' (fail)
    refine v_retM [] (outsM_tc (sz1 := 6) (vs1 := [.int .i64 client, .int .i64 seq, .int .i64 0, .bool true, .string f.val, .int .i64 0]) (e1 := 29) rfl rfl rfl (by repeat (first | exact mhd _ | apply mtl)) rfl) (List.nil_sublist _) ⟨hle3, rfl, _, rfl, hw3⟩
  · rw [if_neg (by assumption), if_neg (by assumption), if_pos (by assumption), if_neg (by assumption)]
    try rw [hdf]
    refine d_start [(b8, .cells [.int .i64 client, .int .i64 seq, .int .i64 15, .bool true, .string f.val, .int .i64 f.rev].toArray 29 (0, 0))] (by kernel_rfl) (by kernel_rfl) (by kernel_rfl) (by intro e he; (simp at he; simp [he]; done)) ?_
    all_goals (apply dtk 0; (case hi => rfl); (case hop => (apply prd; apply p_move <;> rfl)); (case hq => kernel_rfl))
    all_goals (apply dtk 1; (case hi => rfl); (case hop => first | (apply r_loadNo; (case hx => rfl); (case h => (repeat (exact mhd _))); (case hd => (repeat (first | with_reducible exact dt_nil | apply dt_here))); (case hn => rfl)) | (apply r_load1; rfl; (apply Cell.own; (case h => (repeat (fail))); rfl)) | (apply r_loadN; rfl; (apply CellsAt.own; (case h => (repeat (fail)))); rfl)); (case hq => kernel_rfl))
    all_goals (apply dtk 2; (case hi => rfl); (case hop => (apply prd; apply p_assign <;> rfl)); (case hq => kernel_rfl))
    all_goals (apply d_store 3; (case hi => rfl); (case hr => kernel_rfl); (case hL => infer_instance); (case hp => rfl); (case hx => rfl); (case hc => rfl); (case hsz => rfl); (case h1 => rfl); (case hb => (repeat (first | exact mhd _ | apply mtl))); (case hfit => exact nle rfl); (case hov => ((repeat (first | with_reducible exact ov_nil | apply ov_cons)); done)); (case hu => repeat (first | exact Upd.here _ _ | apply Upd.there)); (case hν' => intro e he; (simp at he; simp [he]; done)))
    all_goals (apply d_done; (case hr => kernel_rfl))
    repeat' (fail)
    refine v_retM [] (outsM_tc (sz1 := 6) (vs1 := [.int .i64 client, .int .i64 seq, .int .i64 15, .bool true, .string f.val, .int .i64 f.rev]) (e1 := 29) rfl rfl rfl (by repeat (first | exact mhd _ | apply mtl)) rfl) (List.nil_sublist _) ⟨GH.le_refl _, rfl, _, rfl, hs⟩
  · rw [if_neg (by assumption), if_neg (by assumption), if_pos (by assumption), if_pos (by assumption)]
    try rw [hdf]
    refine d_start [(b8, .cells [.int .i64 client, .int .i64 seq, .int .i64 0, .bool true, .string f.val, .int .i64 (f.rev + 1)].toArray 29 (0, 0)), (b11, .cells [.string key, .string val, .int .i64 (f.rev + 1)].toArray 85 (0, 0))] (by kernel_rfl) (by kernel_rfl) (by kernel_rfl) (by intro e he; (simp only [List.mem_cons, List.not_mem_nil, or_false] at he; rcases he with rfl | rfl <;> simp; done)) ?_
    all_goals (apply dtk 0; (case hi => rfl); (case hop => (apply prd; apply p_move <;> rfl)); (case hq => kernel_rfl))
    all_goals (apply dtk 1; (case hi => rfl); (case hop => first | (apply r_loadNo; (case hx => rfl); (case h => (repeat (first | exact mhd _ | apply mtl))); (case hd => (repeat (first | with_reducible exact dt_nil | apply dt_here))); (case hn => rfl)) | (apply r_load1; rfl; (apply Cell.own; (case h => (repeat (fail))); rfl)) | (apply r_loadN; rfl; (apply CellsAt.own; (case h => (repeat (fail)))); rfl)); (case hq => kernel_rfl))
    all_goals (apply dtk 3; (case hi => rfl); (case hop => first | (apply r_loadNo; (case hx => rfl); (case h => (repeat (exact mhd _))); (case hd => (repeat (first | with_reducible exact dt_nil | apply dt_here))); (case hn => rfl)) | (apply r_load1; rfl; (apply Cell.own; (case h => (repeat (fail))); rfl)) | (apply r_loadN; rfl; (apply CellsAt.own; (case h => (repeat (fail)))); rfl)); (case hq => kernel_rfl))
    all_goals ((apply d_call 2 (hs := qw) (μ1 := []) (μ2 := [(b11, .cells [.string key, .string val, .int .i64 (f.rev + 1)].toArray 85 (0, 0)), (b10, .cells [.string f.key, .string f.val, .int .i64 f.rev].toArray 85 (0, 0)), (b8, .cells [.int .i64 client, .int .i64 seq, .int .i64 0, .bool true, .string f.val, .int .i64 (f.rev + 1)].toArray 29 (0, 0)), (b7, .cells [.int .i64 0, .int .i64 0, .int .i64 0, .bool false, .string ByteArray.empty, .int .i64 0].toArray 29 (0, 0)), (b5, .cells (Cm.cells ⟨kind, client, seq, key, val, old, node⟩).toArray 32 (0, 0))]); (case hi => rfl); (case hr => kernel_rfl);  (case ha => rfl); (case hp => exact List.Perm.refl _); (case hd => rfl); (case hν' => intro e he; simp only [List.mem_cons, List.not_mem_nil, or_false] at he; rcases he with rfl | rfl <;> simp); rintro v3 G3 _ hle3 ⟨-, rfl, hw3⟩))
    all_goals (apply dtk 4; (case hi => rfl); (case hop => (apply prd; apply p_assign <;> rfl)); (case hq => kernel_rfl))
    all_goals (apply d_store 5; (case hi => rfl); (case hr => kernel_rfl); (case hL => infer_instance); (case hp => rfl); (case hx => rfl); (case hc => rfl); (case hsz => rfl); (case h1 => rfl); (case hb => (repeat (first | exact mhd _ | apply mtl))); (case hfit => exact nle rfl); (case hov => ((repeat (first | with_reducible exact ov_nil | apply ov_cons)); done)); (case hu => repeat (first | exact Upd.here _ _ | apply Upd.there)); (case hν' => intro e he; (simp only [List.mem_cons, List.not_mem_nil, or_false] at he; rcases he with rfl | rfl <;> simp; done)))
    all_goals (apply d_done; (case hr => kernel_rfl))
    repeat' (fail)
    refine v_retM [] (outsM_tc (sz1 := 6) (vs1 := [.int .i64 client, .int .i64 seq, .int .i64 0, .bool true, .string f.val, .int .i64 (f.rev + 1)]) (e1 := 29) rfl rfl rfl (by repeat (first | exact mhd _ | apply mtl)) rfl) (List.nil_sublist _) ⟨hle3, rfl, _, rfl, hw3⟩
  · rw [if_neg (by assumption), if_neg (by assumption), if_neg (by assumption)]
    try rw [hdf]
    refine d_start [(b8, .cells [.int .i64 client, .int .i64 seq, .int .i64 0, .bool true, .string f.val, .int .i64 0].toArray 29 (0, 0))] (by kernel_rfl) (by kernel_rfl) (by kernel_rfl) (by intro e he; (simp at he; simp [he]; done)) ?_
    all_goals (apply dtk 0; (case hi => rfl); (case hop => (apply prd; apply p_move <;> rfl)); (case hq => kernel_rfl))
    all_goals (apply dtk 1; (case hi => rfl); (case hop => first | (apply r_loadNo; (case hx => rfl); (case h => (repeat (exact mhd _))); (case hd => (repeat (first | with_reducible exact dt_nil | apply dt_here))); (case hn => rfl)) | (apply r_load1; rfl; (apply Cell.own; (case h => (repeat (fail))); rfl)) | (apply r_loadN; rfl; (apply CellsAt.own; (case h => (repeat (fail)))); rfl)); (case hq => kernel_rfl))
    all_goals (apply dtk 2; (case hi => rfl); (case hop => (apply prd; apply p_assign <;> rfl)); (case hq => kernel_rfl))
    all_goals (apply d_store 3; (case hi => rfl); (case hr => kernel_rfl); (case hL => infer_instance); (case hp => rfl); (case hx => rfl); (case hc => rfl); (case hsz => rfl); (case h1 => rfl); (case hb => (repeat (first | exact mhd _ | apply mtl))); (case hfit => exact nle rfl); (case hov => ((repeat (first | with_reducible exact ov_nil | apply ov_cons)); done)); (case hu => repeat (first | exact Upd.here _ _ | apply Upd.there)); (case hν' => intro e he; (simp at he; simp [he]; done)))
    all_goals (apply d_done; (case hr => kernel_rfl))
    repeat' (fail)
    refine v_retM [] (outsM_tc (sz1 := 6) (vs1 := [.int .i64 client, .int .i64 seq, .int .i64 0, .bool true, .string f.val, .int .i64 0]) (e1 := 29) rfl rfl rfl (by repeat (first | exact mhd _ | apply mtl)) rfl) (List.nil_sublist _) ⟨GH.le_refl _, rfl, _, rfl, hs⟩
theorem doF2 {G : GH} {l : List Pr} {A : Option Addr} {c : Nat} (kind client seq : Int) (key val old : ByteArray) (node : Int) (hs : Prs G (.slice A l.length c) l) (hr : RiseW ksP l) (hz : Sized l) (hn : l.length ≤ 200) (hkz : key.size ≤ 200) (hk : 2 ≤ kind ∧ kind ≤ 5) (i : Nat) (hi : i < l.length) (f : Pr) (hck : CellsG G ((adr A).add (i * 3)) f.cells) (hrev : 4294967296 ≤ f.rev) (hrev2 : f.rev ≤ 4294967296)
    (qp : Con Tryd.prog 84 #[.slice A l.length c, .string key] G [] (Just (.int .i64 (i : Nat)) G)) :
    Con Tryd.prog 56 #[.int .i64 2, .slice A l.length c, .agg (Cm.cells ⟨kind, client, seq, key, val, old, node⟩).toArray] G [] (DoPost G (if kind = 2 then (withG ksP l ⟨key, val, f.rev⟩, ⟨client, seq, 0, true, f.val, 0⟩) else if kind = 4 then (l.filter (fun x => decide (ksP x ≠ kn key)), ⟨client, seq, 0, true, f.val, 0⟩) else if kind = 5 then (if f.val = old then (withG ksP l ⟨key, val, f.rev⟩, ⟨client, seq, 0, true, f.val, f.rev⟩) else (l, ⟨client, seq, 15, true, f.val, f.rev⟩)) else (l, ⟨client, seq, 0, true, f.val, 0⟩) : List Pr × An)) := by
  obtain ⟨B0, e0, e, hlc, hcm, hsome, hcp⟩ := rowOpen hs
  cases e
  simp only [maxLen] at hcm
  have qw := refPWith_s ⟨key, val, f.rev⟩ hs hr hn hz hkz
  have qo := refWithout_s key hs hn hz hkz
  have e1 : ((i : Nat) : Int).toNat = i := by omega
  have hA := hsome (by omega)
  skip
  have hdf : dec ((0 : Int) ≤ (i : Nat)) = true := dec_pos (by omega)
  (refine v_enter Tryd.func56 rfl Tryd.ntmps56 rfl ?_; intro B _)
  repeat' (first | (apply v_box (d := 5) (zs := Cm.cells ⟨kind, client, seq, key, val, old, node⟩); (case hx => rfl); (case hz => rfl); (case hd => rfl); intro b5) | (apply v_alloc (d := 7); (case hz => rfl); (case hd => rfl); intro b7) | (apply v_alloc (d := 8); (case hz => rfl); (case hd => rfl); intro b8) | (apply v_alloc (d := 10); (case hz => rfl); (case hd => rfl); intro b10) | (apply v_alloc (d := 11); (case hz => rfl); (case hd => rfl); intro b11) | (apply v_read; (case hop => (apply r_loadNo; (case hx => rfl); (case h => repeat (exact mhd _)); (case hd => rfl); (case hn => rfl))); (case hd => rfl)) | apply v_seq | apply v_region | apply v_nil | apply v_skip | apply v_block | apply v_blk | (apply v_take; (case hg => rfl)) | (apply v_pass; (case hg => rfl); (case hn => rfl); (case hd => rfl)) | (apply v_pure; (case hop => first | (apply p_move <;> rfl) | (apply p_eqs <;> rfl) | (apply p_eq <;> rfl) | (apply p_lt <;> rfl) | (apply p_ne <;> rfl) | (apply p_ge <;> rfl) | (apply p_assign <;> rfl) | (apply p_pickT <;> rfl) | (apply p_pickF <;> rfl) | (apply p_fieldAddrB <;> rfl) | (apply p_indexAddrS; (case hx => rfl); (case hi => rfl); (case h0 => omega); (case h => omega); (case hA => assumption)) | (apply p_build; (case hz => rfl); (case hv => (simp only [List.map_cons, List.map_nil]; repeat (first | with_reducible exact evs_nil | (apply evs_cons; (case h1 => rfl))))); (case hb => (apply bldL; repeat (first | exact bld_nil | (apply bld_cons; (case hpf => rfl); (case hc => rfl); (case hs => rfl); (case hl => rfl); (case ho => ((repeat (first | with_reducible exact ov_nil | apply ov_cons)); done))))))) | (apply p_neS <;> rfl) | fail); (case hd => rfl)) | (apply v_condT; (case hc => rfl)) | (apply v_condF; (case hc => rfl)) | (apply v_cond; (case hc => rfl); all_goals (intro h; (try simp only [reduceCtorEq, zzz] at h); first | (exfalso; omega) | skip)) | (apply v_guardB; (case h1 => rfl); (case h2 => rfl); all_goals (intro h; (try simp only [reduceCtorEq, zzz] at h); first | (exfalso; omega) | skip)) | (apply v_read; (case hop => (apply r_loadN; rfl; exact CellsAt.frozen hck; rfl)); (case hd => rfl)) | (apply v_callJ (hs := qp); (case ha => rfl); (case hd => rfl)) | (apply v_read; (case hop => (apply r_load1; rfl; (apply Cell.own; (case h => (repeat (first | exact mhd _ | apply mtl))); rfl))); (case hd => rfl)) | (apply v_store; (case hp => rfl); (case hx => rfl); (case hc => rfl); (case hsz => rfl); (case h1 => rfl); (case hb => (repeat (first | exact mhd _ | apply mtl))); (case hfit => exact nle rfl); (case hov => ((repeat (first | with_reducible exact ov_nil | apply ov_cons)); done)); (case hu => repeat (first | exact Upd.here _ _ | apply Upd.there))) | fail)
  · rw [if_pos (by assumption)]
    refine v_call (μ1 := []) rfl qw (List.Perm.refl _) rfl ?_
    rintro v3 G3 _ hle3 ⟨-, rfl, hw3⟩
    repeat' (first | apply v_seq | apply v_region | apply v_nil | apply v_blk | (apply v_pure; (case hop => first | (apply p_move <;> rfl) | (apply p_ge <;> rfl) | (apply p_assign <;> rfl) | (apply p_fieldAddrB <;> rfl) | fail); (case hd => rfl)) | (apply v_read; (case hop => (apply r_load1; rfl; (apply Cell.own; (case h => (repeat (first | exact mhd _ | apply mtl))); rfl))); (case hd => rfl)) | (apply v_store; (case hp => rfl); (case hx => rfl); (case hc => rfl); (case hsz => rfl); (case h1 => rfl); (case hb => (repeat (first | exact mhd _ | apply mtl))); (case hfit => exact nle rfl); (case hov => ((repeat (first | with_reducible exact ov_nil | apply ov_cons)); done)); (case hu => repeat (first | exact Upd.here _ _ | apply Upd.there))) | fail)
    try rw [hdf]
    refine d_start [(b8, .cells [.int .i64 client, .int .i64 seq, .int .i64 0, .bool true, .string f.val, .int .i64 0].toArray 29 (0, 0))] (by kernel_rfl) (by kernel_rfl) (by kernel_rfl) (by intro e he; (simp at he; simp [he]; done)) ?_
    all_goals (apply dtk 0; (case hi => rfl); (case hop => (apply prd; apply p_move <;> rfl)); (case hq => kernel_rfl))
    all_goals (apply dtk 1; (case hi => rfl); (case hop => first | (apply r_loadNo; (case hx => rfl); (case h => (repeat (exact mhd _))); (case hd => (repeat (first | with_reducible exact dt_nil | apply dt_here))); (case hn => rfl)) | (apply r_load1; rfl; (apply Cell.own; (case h => (repeat (fail))); rfl)) | (apply r_loadN; rfl; (apply CellsAt.own; (case h => (repeat (fail)))); rfl)); (case hq => kernel_rfl))
    all_goals (apply dtk 2; (case hi => rfl); (case hop => (apply prd; apply p_assign <;> rfl)); (case hq => kernel_rfl))
    all_goals (apply d_store 3; (case hi => rfl); (case hr => kernel_rfl); (case hL => infer_instance); (case hp => rfl); (case hx => rfl); (case hc => rfl); (case hsz => rfl); (case h1 => rfl); (case hb => (repeat (first | exact mhd _ | apply mtl))); (case hfit => exact nle rfl); (case hov => ((repeat (first | with_reducible exact ov_nil | apply ov_cons)); done)); (case hu => repeat (first | exact Upd.here _ _ | apply Upd.there)); (case hν' => intro e he; (simp at he; simp [he]; done)))
    all_goals (apply d_done; (case hr => kernel_rfl))
    repeat' (fail)
    refine v_retM [] (outsM_tc (sz1 := 6) (vs1 := [.int .i64 client, .int .i64 seq, .int .i64 0, .bool true, .string f.val, .int .i64 0]) (e1 := 29) rfl rfl rfl (by repeat (first | exact mhd _ | apply mtl)) rfl) (List.nil_sublist _) ⟨hle3, rfl, _, rfl, hw3⟩
  · rw [if_neg (by assumption), if_pos (by assumption)]
    refine v_call (μ1 := []) rfl qo (List.Perm.refl _) rfl ?_
    rintro v3 G3 _ hle3 ⟨-, rfl, hw3⟩
    repeat' (first | apply v_seq | apply v_region | apply v_nil | apply v_blk | (apply v_pure; (case hop => first | (apply p_move <;> rfl) | (apply p_ge <;> rfl) | (apply p_assign <;> rfl) | (apply p_fieldAddrB <;> rfl) | fail); (case hd => rfl)) | (apply v_read; (case hop => (apply r_load1; rfl; (apply Cell.own; (case h => (repeat (first | exact mhd _ | apply mtl))); rfl))); (case hd => rfl)) | (apply v_store; (case hp => rfl); (case hx => rfl); (case hc => rfl); (case hsz => rfl); (case h1 => rfl); (case hb => (repeat (first | exact mhd _ | apply mtl))); (case hfit => exact nle rfl); (case hov => ((repeat (first | with_reducible exact ov_nil | apply ov_cons)); done)); (case hu => repeat (first | exact Upd.here _ _ | apply Upd.there))) | fail)
    try rw [hdf]
    refine d_start [(b8, .cells [.int .i64 client, .int .i64 seq, .int .i64 0, .bool true, .string f.val, .int .i64 0].toArray 29 (0, 0))] (by kernel_rfl) (by kernel_rfl) (by kernel_rfl) (by intro e he; (simp at he; simp [he]; done)) ?_
    all_goals (apply dtk 0; (case hi => rfl); (case hop => (apply prd; apply p_move <;> rfl)); (case hq => kernel_rfl))
    all_goals (apply dtk 1; (case hi => rfl); (case hop => first | (apply r_loadNo; (case hx => rfl); (case h => (repeat (exact mhd _))); (case hd => (repeat (first | with_reducible exact dt_nil | apply dt_here))); (case hn => rfl)) | (apply r_load1; rfl; (apply Cell.own; (case h => (repeat (fail))); rfl)) | (apply r_loadN; rfl; (apply CellsAt.own; (case h => (repeat (fail)))); rfl)); (case hq => kernel_rfl))
    all_goals (apply dtk 2; (case hi => rfl); (case hop => (apply prd; apply p_assign <;> rfl)); (case hq => kernel_rfl))
    all_goals (apply d_store 3; (case hi => rfl); (case hr => kernel_rfl); (case hL => infer_instance); (case hp => rfl); (case hx => rfl); (case hc => rfl); (case hsz => rfl); (case h1 => rfl); (case hb => (repeat (first | exact mhd _ | apply mtl))); (case hfit => exact nle rfl); (case hov => ((repeat (first | with_reducible exact ov_nil | apply ov_cons)); done)); (case hu => repeat (first | exact Upd.here _ _ | apply Upd.there)); (case hν' => intro e he; (simp at he; simp [he]; done)))
    all_goals (apply d_done; (case hr => kernel_rfl))
    repeat' (fail)
    refine v_retM [] (outsM_tc (sz1 := 6) (vs1 := [.int .i64 client, .int .i64 seq, .int .i64 0, .bool true, .string f.val, .int .i64 0]) (e1 := 29) rfl rfl rfl (by repeat (first | exact mhd _ | apply mtl)) rfl) (List.nil_sublist _) ⟨hle3, rfl, _, rfl, hw3⟩
  · rw [if_neg (by assumption), if_neg (by assumption), if_pos (by assumption), if_neg (by assumption)]
    try rw [hdf]
    refine d_start [(b8, .cells [.int .i64 client, .int .i64 seq, .int .i64 15, .bool true, .string f.val, .int .i64 f.rev].toArray 29 (0, 0))] (by kernel_rfl) (by kernel_rfl) (by kernel_rfl) (by intro e he; (simp at he; simp [he]; done)) ?_
    all_goals (apply dtk 0; (case hi => rfl); (case hop => (apply prd; apply p_move <;> rfl)); (case hq => kernel_rfl))
    all_goals (apply dtk 1; (case hi => rfl); (case hop => first | (apply r_loadNo; (case hx => rfl); (case h => (repeat (exact mhd _))); (case hd => (repeat (first | with_reducible exact dt_nil | apply dt_here))); (case hn => rfl)) | (apply r_load1; rfl; (apply Cell.own; (case h => (repeat (fail))); rfl)) | (apply r_loadN; rfl; (apply CellsAt.own; (case h => (repeat (fail)))); rfl)); (case hq => kernel_rfl))
    all_goals (apply dtk 2; (case hi => rfl); (case hop => (apply prd; apply p_assign <;> rfl)); (case hq => kernel_rfl))
    all_goals (apply d_store 3; (case hi => rfl); (case hr => kernel_rfl); (case hL => infer_instance); (case hp => rfl); (case hx => rfl); (case hc => rfl); (case hsz => rfl); (case h1 => rfl); (case hb => (repeat (first | exact mhd _ | apply mtl))); (case hfit => exact nle rfl); (case hov => ((repeat (first | with_reducible exact ov_nil | apply ov_cons)); done)); (case hu => repeat (first | exact Upd.here _ _ | apply Upd.there)); (case hν' => intro e he; (simp at he; simp [he]; done)))
    all_goals (apply d_done; (case hr => kernel_rfl))
    repeat' (fail)
    refine v_retM [] (outsM_tc (sz1 := 6) (vs1 := [.int .i64 client, .int .i64 seq, .int .i64 15, .bool true, .string f.val, .int .i64 f.rev]) (e1 := 29) rfl rfl rfl (by repeat (first | exact mhd _ | apply mtl)) rfl) (List.nil_sublist _) ⟨GH.le_refl _, rfl, _, rfl, hs⟩
  · rw [if_neg (by assumption), if_neg (by assumption), if_pos (by assumption), if_pos (by assumption)]
    try rw [hdf]
    refine d_start [(b8, .cells [.int .i64 client, .int .i64 seq, .int .i64 0, .bool true, .string f.val, .int .i64 f.rev].toArray 29 (0, 0)), (b11, .cells [.string key, .string val, .int .i64 f.rev].toArray 85 (0, 0))] (by kernel_rfl) (by kernel_rfl) (by kernel_rfl) (by intro e he; (simp only [List.mem_cons, List.not_mem_nil, or_false] at he; rcases he with rfl | rfl <;> simp; done)) ?_
    all_goals (apply dtk 0; (case hi => rfl); (case hop => (apply prd; apply p_move <;> rfl)); (case hq => kernel_rfl))
    all_goals (apply dtk 1; (case hi => rfl); (case hop => first | (apply r_loadNo; (case hx => rfl); (case h => (repeat (first | exact mhd _ | apply mtl))); (case hd => (repeat (first | with_reducible exact dt_nil | apply dt_here))); (case hn => rfl)) | (apply r_load1; rfl; (apply Cell.own; (case h => (repeat (fail))); rfl)) | (apply r_loadN; rfl; (apply CellsAt.own; (case h => (repeat (fail)))); rfl)); (case hq => kernel_rfl))
    all_goals (apply dtk 3; (case hi => rfl); (case hop => first | (apply r_loadNo; (case hx => rfl); (case h => (repeat (exact mhd _))); (case hd => (repeat (first | with_reducible exact dt_nil | apply dt_here))); (case hn => rfl)) | (apply r_load1; rfl; (apply Cell.own; (case h => (repeat (fail))); rfl)) | (apply r_loadN; rfl; (apply CellsAt.own; (case h => (repeat (fail)))); rfl)); (case hq => kernel_rfl))
    all_goals ((apply d_call 2 (hs := qw) (μ1 := []) (μ2 := [(b11, .cells [.string key, .string val, .int .i64 f.rev].toArray 85 (0, 0)), (b10, .cells [.string f.key, .string f.val, .int .i64 f.rev].toArray 85 (0, 0)), (b8, .cells [.int .i64 client, .int .i64 seq, .int .i64 0, .bool true, .string f.val, .int .i64 f.rev].toArray 29 (0, 0)), (b7, .cells [.int .i64 0, .int .i64 0, .int .i64 0, .bool false, .string ByteArray.empty, .int .i64 0].toArray 29 (0, 0)), (b5, .cells (Cm.cells ⟨kind, client, seq, key, val, old, node⟩).toArray 32 (0, 0))]); (case hi => rfl); (case hr => kernel_rfl);  (case ha => rfl); (case hp => exact List.Perm.refl _); (case hd => rfl); (case hν' => intro e he; simp only [List.mem_cons, List.not_mem_nil, or_false] at he; rcases he with rfl | rfl <;> simp); rintro v3 G3 _ hle3 ⟨-, rfl, hw3⟩))
    all_goals (apply dtk 4; (case hi => rfl); (case hop => (apply prd; apply p_assign <;> rfl)); (case hq => kernel_rfl))
    all_goals (apply d_store 5; (case hi => rfl); (case hr => kernel_rfl); (case hL => infer_instance); (case hp => rfl); (case hx => rfl); (case hc => rfl); (case hsz => rfl); (case h1 => rfl); (case hb => (repeat (first | exact mhd _ | apply mtl))); (case hfit => exact nle rfl); (case hov => ((repeat (first | with_reducible exact ov_nil | apply ov_cons)); done)); (case hu => repeat (first | exact Upd.here _ _ | apply Upd.there)); (case hν' => intro e he; (simp only [List.mem_cons, List.not_mem_nil, or_false] at he; rcases he with rfl | rfl <;> simp; done)))
    all_goals (apply d_done; (case hr => kernel_rfl))
    repeat' (fail)
    refine v_retM [] (outsM_tc (sz1 := 6) (vs1 := [.int .i64 client, .int .i64 seq, .int .i64 0, .bool true, .string f.val, .int .i64 f.rev]) (e1 := 29) rfl rfl rfl (by repeat (first | exact mhd _ | apply mtl)) rfl) (List.nil_sublist _) ⟨hle3, rfl, _, rfl, hw3⟩
  · rw [if_neg (by assumption), if_neg (by assumption), if_neg (by assumption)]
    try rw [hdf]
    refine d_start [(b8, .cells [.int .i64 client, .int .i64 seq, .int .i64 0, .bool true, .string f.val, .int .i64 0].toArray 29 (0, 0))] (by kernel_rfl) (by kernel_rfl) (by kernel_rfl) (by intro e he; (simp at he; simp [he]; done)) ?_
    all_goals (apply dtk 0; (case hi => rfl); (case hop => (apply prd; apply p_move <;> rfl)); (case hq => kernel_rfl))
    all_goals (apply dtk 1; (case hi => rfl); (case hop => first | (apply r_loadNo; (case hx => rfl); (case h => (repeat (exact mhd _))); (case hd => (repeat (first | with_reducible exact dt_nil | apply dt_here))); (case hn => rfl)) | (apply r_load1; rfl; (apply Cell.own; (case h => (repeat (fail))); rfl)) | (apply r_loadN; rfl; (apply CellsAt.own; (case h => (repeat (fail)))); rfl)); (case hq => kernel_rfl))
    all_goals (apply dtk 2; (case hi => rfl); (case hop => (apply prd; apply p_assign <;> rfl)); (case hq => kernel_rfl))
    all_goals (apply d_store 3; (case hi => rfl); (case hr => kernel_rfl); (case hL => infer_instance); (case hp => rfl); (case hx => rfl); (case hc => rfl); (case hsz => rfl); (case h1 => rfl); (case hb => (repeat (first | exact mhd _ | apply mtl))); (case hfit => exact nle rfl); (case hov => ((repeat (first | with_reducible exact ov_nil | apply ov_cons)); done)); (case hu => repeat (first | exact Upd.here _ _ | apply Upd.there)); (case hν' => intro e he; (simp at he; simp [he]; done)))
    all_goals (apply d_done; (case hr => kernel_rfl))
    repeat' (fail)
    refine v_retM [] (outsM_tc (sz1 := 6) (vs1 := [.int .i64 client, .int .i64 seq, .int .i64 0, .bool true, .string f.val, .int .i64 0]) (e1 := 29) rfl rfl rfl (by repeat (first | exact mhd _ | apply mtl)) rfl) (List.nil_sublist _) ⟨GH.le_refl _, rfl, _, rfl, hs⟩
theorem psOk_sized {z : Int} {l : List Pr} (h : PsOk z l) : Sized l := fun x hx => by
  have := (h.2.2 x hx).1
  have a := keyB_size this.1
  have b := valB_size this.2
  omega
theorem refDo_s {G : GH} {l : List Pr} {sv : Value} {z : Int} (c : Cm) (hs : Prs G sv l) (hok : PsOk z l) (hz : z = 1 ∨ z = 2) (hk : 2 ≤ c.kind ∧ c.kind ≤ 5) (h5 : c.kind = 5 → z = 2) (hkz : c.key.size ≤ 200) :
    Con Tryd.prog 56 #[.int .i64 z, sv, .agg c.cells.toArray] G [] (DoPost G (doS z l c)) := by
  have hsz := psOk_sized hok
  have hn : l.length ≤ 200 := by have := hok.1; omega
  have qp := refPlace_s c.key hs hok.2.1 hsz hkz
  rw [doR_eq c hz hk h5]
  unfold doR prR
  obtain ⟨A, c0, rfl, hlc, hcm, hsome, hcp⟩ := rowOpen hs
  obtain ⟨kind, client, seq, key, val, old, node⟩ := c
  simp only at *
  cases hh : hitG ksP l (kn key) with
  | false =>
    have hf : findP l (kn key) = zeroPr := by unfold findP; rw [dif_neg (by rw [hh]; simp)]
    rw [hh, if_neg (by simp)] at qp
    rw [hf]
    have e2 : nextR zeroPr.rev = 1 := by decide
    rcases hz with rfl | rfl
    · have := doN1 kind client seq key val old node hs hok.2.1 hsz hn hkz hk (fun h => absurd (h5 h) (by omega)) qp
      simpa [ans0, zeroPr] using this
    · have := doN2 kind client seq key val old node hs hok.2.1 hsz hn hkz hk qp
      rw [e2]
      simpa [ans0, zeroPr] using this
  | true =>
    have hlt := hitG_lt hh
    have hf : findP l (kn key) = l[placeG ksP l (kn key)] := by unfold findP; rw [dif_pos hh]
    rw [hh, if_pos rfl] at qp
    rw [hf]
    have hck := hcp _ hlt
    have hrev := (hok.2.2 _ (List.getElem_mem hlt)).2
    unfold RevOk at hrev
    generalize l[placeG ksP l (kn key)] = f at *
    generalize placeG ksP l (kn key) = i at *
    rcases hz with rfl | rfl
    · have := doH1 kind client seq key val old node hs hok.2.1 hsz hn hkz hk (fun h => absurd (h5 h) (by omega)) i hlt f hck qp
      simpa [ans0] using this
    · by_cases hb : f.rev < 4294967296
      · have e2 : nextR f.rev = f.rev + 1 := by unfold nextR; omega
        have := doH2 kind client seq key val old node hs hok.2.1 hsz hn hkz hk i hlt f hck hb (by omega) qp
        rw [e2]
        simpa [ans0] using this
      · have e2 : nextR f.rev = f.rev := by unfold nextR; omega
        have := doF2 kind client seq key val old node hs hok.2.1 hsz hn hkz hk i hlt f hck (by omega) (by omega) qp
        rw [e2]
        simpa [ans0] using this
theorem which_last {l : List Ss} (h : SesP l) {n q : Int} (hq : 1 ≤ q) :
    ((whichS l n q).1 = 1 ↔ (0 < (lastS l n).1 ∧ q = (lastS l n).1)) ∧ ((whichS l n q).1 = 2 ↔ q < (lastS l n).1) ∧ ((whichS l n q).1 = 1 → (whichS l n q).2 = (lastS l n).2) := by
  unfold whichS lastS
  cases hh : hitG ksS l n with
  | false => simp; omega
  | true =>
    have hm := sesAt_mem (riseG_pw.1 (adjS_rise h.1)) hh
    obtain ⟨h1, h2, h3⟩ := h.2 _ hm.1
    have h4 := (ansI_zero.1 h3).1.2.1
    simp only [Bool.true_eq_false, if_false, if_true]
    by_cases a : (sesAt l n).seq < q
    · rw [if_pos a]; simp; omega
    · rw [if_neg a]
      by_cases b : q = (sesAt l n).seq
      · rw [if_pos b]; simp; omega
      · rw [if_neg b]; simp; omega
set_option maxHeartbeats 1000000 in
theorem refApply_s {G : GH} {s : St} {v : Value} (c : Cm) (hs : StV G s v) (hok : StP s) (hc : cmdI c = 0) (hkz : c.key.size ≤ 200) :
    Con Tryd.prog 30 #[v, .agg c.cells.toArray] G [] (fun r G' μ' => GH.le G G' ∧ μ' = [] ∧ ∃ v', r = .tuple [v', .agg (applyS s c).2.1.cells.toArray].toArray ∧ StV G' (applyS s c).1 v') := by
  obtain ⟨A, c0, A', c', rfl, hp, hss⟩ := id hs
  obtain ⟨h1, h2, h3, h4⟩ := stP_iff.1 hok
  have hrw := riseG_pw.1 (adjS_rise h1.1)
  have qo := owned_s G c.kind
  have qh := refHas7_s s.schema c.kind G
  have ql := refLast_s c.client hss hrw
  have qr := refRevs_s 2 1 hs (by have := h3.1; omega)
  have qd := fun a b => refDo_s (z := s.schema) c hp h3 h2 a b hkz
  have qs := fun G' (hle : GH.le G G') a => refSWith_s a (hss.mono hle) hrw (by have := sesP_few h1; omega)
  have hc' := (cmd_ok hc).2.1
  have hwl := fun (hq : 1 ≤ c.seq) => which_last (n := c.client) (q := c.seq) h1 hq
  have hup : revsS s 2 1 = upS s := rfl
  have hvs : verS s.schema = s.schema := by unfold verS; rcases h2 with h | h <;> rw [h] <;> simp
  unfold applyS clientS
  rw [if_neg (by simp [hc]), hvs]
  clear hc hvs
  obtain ⟨schema, lp, ls⟩ := s
  obtain ⟨kind, cl, seq, key, val, old, node⟩ := c
  simp only at *
  generalize whichS ls cl seq = w at *
  obtain ⟨wk, wa⟩ := w
  generalize lastS ls cl = la at *
  obtain ⟨lq, ⟨ac, aq, ae, af, av, ar⟩⟩ := la
  generalize doS schema lp ⟨kind, cl, seq, key, val, old, node⟩ = dd at *
  obtain ⟨l1, d⟩ := dd
  obtain ⟨dc, dq, de, df, dv, dr⟩ := d
  simp only at *
  (refine v_enter Tryd.func30 rfl Tryd.ntmps30 rfl ?_; intro B _)
  by_cases ho : 2 ≤ kind ∧ kind ≤ 5
  · rw [decide_eq_true ho] at qo
    rw [if_pos ho]
    obtain ⟨hc1, hc2, hc3⟩ := hc' ho
    obtain ⟨w1, w2, w3⟩ := hwl hc2.1
    by_cases hh : HasP schema kind
    · rw [decide_eq_true hh] at qh
      repeat' (first | (apply v_box (d := 2) (zs := [.int .i64 schema, .slice A lp.length c0, .slice A' ls.length c']); (case hx => rfl); (case hz => rfl); (case hd => rfl); intro b2) | (apply v_box (d := 3) (zs := Cm.cells ⟨kind, cl, seq, key, val, old, node⟩); (case hx => rfl); (case hz => rfl); (case hd => rfl); intro b3) | (apply v_alloc (d := 4); (case hz => rfl); (case hd => rfl); intro b4) | (apply v_alloc (d := 5); (case hz => rfl); (case hd => rfl); intro b5) | (apply v_alloc (d := 7); (case hz => rfl); (case hd => rfl); intro b7) | (apply v_alloc (d := 8); (case hz => rfl); (case hd => rfl); intro b8) | (apply v_read; (case hop => (apply r_loadNo; (case hx => rfl); (case h => repeat (first | exact mhd _ | apply mtl)); (case hd => rfl); (case hn => rfl))); (case hd => rfl)) | apply v_seq | apply v_region | apply v_nil | apply v_skip | (apply v_take; (case hg => rfl)) | (apply v_pass; (case hg => rfl); (case hn => rfl); (case hd => rfl)) | (apply v_pure; (case hop => first | (apply p_move <;> rfl) | (apply p_eq <;> rfl) | (apply p_lt <;> rfl) | (apply p_gt <;> rfl) | (apply p_assign <;> rfl) | (apply p_pickT <;> rfl) | (apply p_pickF <;> rfl) | (apply p_not <;> rfl) | (apply p_fieldAddrB <;> rfl) | (apply p_extract0 <;> rfl) | (apply p_extract1 <;> rfl) | (apply p_build; (case hz => rfl); (case hv => (simp only [List.map_cons, List.map_nil]; repeat (first | with_reducible exact evs_nil | (apply evs_cons; (case h1 => rfl))))); (case hb => (apply bldL; repeat (first | exact bld_nil | (apply bld_cons; (case hpf => rfl); (case hc => rfl); (case hs => rfl); (case hl => rfl); (case ho => ((repeat (first | with_reducible exact ov_nil | apply ov_cons)); done))))))) | fail); (case hd => rfl)) | (apply v_condF; (case hc => rfl)) | (apply v_cond; (case hc => rfl); all_goals (intro h; (try simp only [reduceCtorEq, zzz] at h); first | (exfalso; omega) | skip)) | (apply v_guardB; (case h1 => rfl); (case h2 => rfl); all_goals (intro h; (try simp only [reduceCtorEq, zzz] at h))) | (apply v_callJ (hs := qo); (case ha => rfl); (case hd => rfl)) | (apply v_callJ (hs := qh); (case ha => rfl); (case hd => rfl)) | (apply v_callJ (hs := ql); (case ha => rfl); (case hd => rfl)) | (apply v_read; (case hop => (apply r_load1; rfl; (apply Cell.own; (case h => (repeat (first | exact mhd _ | apply mtl))); rfl))); (case hd => rfl)) | (apply v_store; (case hp => rfl); (case hx => rfl); (case hc => rfl); (case hsz => rfl); (case h1 => rfl); (case hb => (repeat (exact mhd _))); (case hfit => exact nle rfl); (case hov => ((repeat (first | with_reducible exact ov_nil | apply ov_cons)); done)); (case hu => repeat (exact Upd.here _ _))) | fail)
      · have hw1 : wk = 1 := w1.2 ⟨by omega, by omega⟩
        obtain rfl := w3 hw1
        rw [if_pos hw1]
        refine d_start [(b2, .cells [.int .i64 schema, .slice A lp.length c0, .slice A' ls.length c'].toArray 36 (0, 0)), (b7, .cells [.int .i64 ac, .int .i64 aq, .int .i64 ae, .bool af, .string av, .int .i64 ar].toArray 29 (0, 0))] (by kernel_rfl) (by kernel_rfl) (by kernel_rfl) (by intro e he; (simp only [List.mem_cons, List.not_mem_nil, or_false] at he; rcases he with rfl | rfl <;> simp; done)) ?_
        all_goals (apply dtk 0; (case hi => rfl); (case hop => first | (apply r_loadNo; (case hx => rfl); (case h => (repeat (exact mhd _))); (case hd => (repeat (first | with_reducible exact dt_nil | apply dt_here))); (case hn => rfl)) | (apply r_load1; rfl; (apply Cell.own; (case h => (repeat (fail))); rfl)) | (apply r_loadN; rfl; (apply CellsAt.own; (case h => (repeat (fail)))); rfl)); (case hq => kernel_rfl))
        all_goals (apply dtk 1; (case hi => rfl); (case hop => first | (apply r_loadNo; (case hx => rfl); (case h => (repeat (first | exact mhd _ | apply mtl))); (case hd => (repeat (first | with_reducible exact dt_nil | apply dt_here))); (case hn => rfl)) | (apply r_load1; rfl; (apply Cell.own; (case h => (repeat (fail))); rfl)) | (apply r_loadN; rfl; (apply CellsAt.own; (case h => (repeat (fail)))); rfl)); (case hq => kernel_rfl))
        all_goals (apply d_store 2; (case hi => rfl); (case hr => kernel_rfl); (case hL => infer_instance); (case hp => rfl); (case hx => rfl); (case hc => rfl); (case hsz => rfl); (case h1 => rfl); (case hb => (repeat (first | exact mhd _ | apply mtl))); (case hfit => exact nle rfl); (case hov => ((repeat (first | with_reducible exact ov_nil | apply ov_cons)); done)); (case hu => repeat (first | exact Upd.here _ _ | apply Upd.there)); (case hν' => intro e he; (simp only [List.mem_cons, List.not_mem_nil, or_false] at he; rcases he with rfl | rfl <;> simp; done)))
        all_goals (apply d_store 3; (case hi => rfl); (case hr => kernel_rfl); (case hL => infer_instance); (case hp => rfl); (case hx => rfl); (case hc => rfl); (case hsz => rfl); (case h1 => rfl); (case hb => (repeat (first | exact mhd _ | apply mtl))); (case hfit => exact nle rfl); (case hov => ((repeat (first | with_reducible exact ov_nil | apply ov_cons)); done)); (case hu => repeat (first | exact Upd.here _ _ | apply Upd.there)); (case hν' => intro e he; (simp only [List.mem_cons, List.not_mem_nil, or_false] at he; rcases he with rfl | rfl <;> simp; done)))
        all_goals (apply d_done; (case hr => kernel_rfl))
        repeat' (fail)
        refine v_retM [] (outsM_cc (sz0 := 3) (vs0 := [.int .i64 schema, .slice A lp.length c0, .slice A' ls.length c']) (e0 := 36) (sz1 := 6) (vs1 := [.int .i64 ac, .int .i64 aq, .int .i64 ae, .bool af, .string av, .int .i64 ar]) (e1 := 29) rfl rfl (by repeat (first | exact mhd _ | apply mtl)) rfl rfl (by repeat (first | exact mhd _ | apply mtl)) rfl) (List.nil_sublist _) ⟨GH.le_refl _, rfl, _, rfl, hs⟩
      · rw [if_neg (fun h => by have := w1.1 h; omega), if_pos (w2.2 (by omega))]
        refine d_start [(b2, .cells [.int .i64 schema, .slice A lp.length c0, .slice A' ls.length c'].toArray 36 (0, 0)), (b8, .cells [.int .i64 cl, .int .i64 seq, .int .i64 15, .bool false, .string ByteArray.empty, .int .i64 0].toArray 29 (0, 0))] (by kernel_rfl) (by kernel_rfl) (by kernel_rfl) (by intro e he; (simp only [List.mem_cons, List.not_mem_nil, or_false] at he; rcases he with rfl | rfl <;> simp; done)) ?_
        all_goals (apply dtk 0; (case hi => rfl); (case hop => first | (apply r_loadNo; (case hx => rfl); (case h => (repeat (exact mhd _))); (case hd => (repeat (first | with_reducible exact dt_nil | apply dt_here))); (case hn => rfl)) | (apply r_load1; rfl; (apply Cell.own; (case h => (repeat (fail))); rfl)) | (apply r_loadN; rfl; (apply CellsAt.own; (case h => (repeat (fail)))); rfl)); (case hq => kernel_rfl))
        all_goals (apply dtk 1; (case hi => rfl); (case hop => first | (apply r_loadNo; (case hx => rfl); (case h => (repeat (first | exact mhd _ | apply mtl))); (case hd => (repeat (first | with_reducible exact dt_nil | apply dt_here))); (case hn => rfl)) | (apply r_load1; rfl; (apply Cell.own; (case h => (repeat (fail))); rfl)) | (apply r_loadN; rfl; (apply CellsAt.own; (case h => (repeat (fail)))); rfl)); (case hq => kernel_rfl))
        all_goals (apply d_store 2; (case hi => rfl); (case hr => kernel_rfl); (case hL => infer_instance); (case hp => rfl); (case hx => rfl); (case hc => rfl); (case hsz => rfl); (case h1 => rfl); (case hb => (repeat (first | exact mhd _ | apply mtl))); (case hfit => exact nle rfl); (case hov => ((repeat (first | with_reducible exact ov_nil | apply ov_cons)); done)); (case hu => repeat (first | exact Upd.here _ _ | apply Upd.there)); (case hν' => intro e he; (simp only [List.mem_cons, List.not_mem_nil, or_false] at he; rcases he with rfl | rfl <;> simp; done)))
        all_goals (apply d_store 3; (case hi => rfl); (case hr => kernel_rfl); (case hL => infer_instance); (case hp => rfl); (case hx => rfl); (case hc => rfl); (case hsz => rfl); (case h1 => rfl); (case hb => (repeat (first | exact mhd _ | apply mtl))); (case hfit => exact nle rfl); (case hov => ((repeat (first | with_reducible exact ov_nil | apply ov_cons)); done)); (case hu => repeat (first | exact Upd.here _ _ | apply Upd.there)); (case hν' => intro e he; (simp only [List.mem_cons, List.not_mem_nil, or_false] at he; rcases he with rfl | rfl <;> simp; done)))
        all_goals (apply d_done; (case hr => kernel_rfl))
        repeat' (fail)
        refine v_retM [] (outsM_cc (sz0 := 3) (vs0 := [.int .i64 schema, .slice A lp.length c0, .slice A' ls.length c']) (e0 := 36) (sz1 := 6) (vs1 := [.int .i64 cl, .int .i64 seq, .int .i64 15, .bool false, .string ByteArray.empty, .int .i64 0]) (e1 := 29) rfl rfl (by repeat (first | exact mhd _ | apply mtl)) rfl rfl (by repeat (first | exact mhd _ | apply mtl)) rfl) (List.nil_sublist _) ⟨GH.le_refl _, rfl, _, rfl, hs⟩
      · rw [if_neg (fun h => by have := w1.1 h; omega), if_neg (fun h => by have := w2.1 h; omega), if_pos hh]
        refine v_call (μ1 := []) rfl (qd ho (fun h => by have := hh.2.2.2 h; omega)) (List.Perm.refl _) rfl ?_
        rintro _ G3 _ hle3 ⟨-, rfl, v3, rfl, hp3⟩
        obtain ⟨A3, c3, rfl, -⟩ := id hp3.open
        have qw := qs G3 hle3 ⟨dc, dq, de, df, dv, dr⟩
        repeat' (first | (apply v_alloc (d := 10); (case hz => rfl); (case hd => rfl); intro b10) | apply v_seq | apply v_nil | (apply v_pure; (case hop => first | (apply p_move <;> rfl) | (apply p_assign <;> rfl) | (apply p_extract0 <;> rfl) | (apply p_extract1 <;> rfl) | fail); (case hd => rfl)) | (apply v_store; (case hp => rfl); (case hx => rfl); (case hc => rfl); (case hsz => rfl); (case h1 => rfl); (case hb => (repeat (exact mhd _))); (case hfit => exact nle rfl); (case hov => ((repeat (first | with_reducible exact ov_nil | apply ov_cons)); done)); (case hu => repeat (exact Upd.here _ _))) | fail)
        refine d_start [(b2, .cells [.int .i64 schema, .slice A lp.length c0, .slice A' ls.length c'].toArray 36 (0, 0)), (b10, .cells [.int .i64 dc, .int .i64 dq, .int .i64 de, .bool df, .string dv, .int .i64 dr].toArray 29 (0, 0))] (by kernel_rfl) (by kernel_rfl) (by kernel_rfl) (by intro e he; (simp only [List.mem_cons, List.not_mem_nil, or_false] at he; rcases he with rfl | rfl <;> simp; done)) ?_
        all_goals (apply dtk 0; (case hi => rfl); (case hop => (apply prd; apply p_fieldAddrB <;> rfl)); (case hq => kernel_rfl))
        all_goals (apply dtk 1; (case hi => rfl); (case hop => first | (apply r_loadNo; (case hx => rfl); (case h => (repeat (fail))); (case hd => (repeat (fail))); (case hn => rfl)) | (apply r_load1; rfl; (apply Cell.own; (case h => (repeat (exact mhd _))); rfl)) | (apply r_loadN; rfl; (apply CellsAt.own; (case h => (repeat (fail)))); rfl)); (case hq => kernel_rfl))
        all_goals (apply dtk 2; (case hi => rfl); (case hop => (apply prd; apply p_move <;> rfl)); (case hq => kernel_rfl))
        all_goals (apply dtk 3; (case hi => rfl); (case hop => (apply prd; apply p_fieldAddrB <;> rfl)); (case hq => kernel_rfl))
        all_goals (apply dtk 4; (case hi => rfl); (case hop => first | (apply r_loadNo; (case hx => rfl); (case h => (repeat (fail))); (case hd => (repeat (fail))); (case hn => rfl)) | (apply r_load1; rfl; (apply Cell.own; (case h => (repeat (exact mhd _))); rfl)) | (apply r_loadN; rfl; (apply CellsAt.own; (case h => (repeat (fail)))); rfl)); (case hq => kernel_rfl))
        all_goals (apply dtk 5; (case hi => rfl); (case hop => first | (apply r_loadNo; (case hx => rfl); (case h => (repeat (first | exact mhd _ | apply mtl))); (case hd => (repeat (first | with_reducible exact dt_nil | apply dt_here))); (case hn => rfl)) | (apply r_load1; rfl; (apply Cell.own; (case h => (repeat (fail))); rfl)) | (apply r_loadN; rfl; (apply CellsAt.own; (case h => (repeat (fail)))); rfl)); (case hq => kernel_rfl))
        all_goals (apply dtk 8; (case hi => rfl); (case hop => first | (apply r_loadNo; (case hx => rfl); (case h => (repeat (first | exact mhd _ | apply mtl))); (case hd => (repeat (first | with_reducible exact dt_nil | apply dt_here))); (case hn => rfl)) | (apply r_load1; rfl; (apply Cell.own; (case h => (repeat (fail))); rfl)) | (apply r_loadN; rfl; (apply CellsAt.own; (case h => (repeat (fail)))); rfl)); (case hq => kernel_rfl))
        all_goals ((apply d_call 6 (hs := qw) (μ1 := []) (μ2 := [(b10, .cells [.int .i64 dc, .int .i64 dq, .int .i64 de, .bool df, .string dv, .int .i64 dr].toArray 29 (0, 0)), (b8, .cells [.int .i64 cl, .int .i64 seq, .int .i64 0, .bool false, .string ByteArray.empty, .int .i64 0].toArray 29 (0, 0)), (b7, .cells [.int .i64 ac, .int .i64 aq, .int .i64 ae, .bool af, .string av, .int .i64 ar].toArray 29 (0, 0)), (b5, .cells [.int .i64 0, .int .i64 0, .int .i64 0, .bool false, .string ByteArray.empty, .int .i64 0].toArray 29 (0, 0)), (b4, .cells [.int .i64 0, .slice none 0 0, .slice none 0 0].toArray 36 (0, 0)), (b3, .cells (Cm.cells ⟨kind, cl, seq, key, val, old, node⟩).toArray 32 (0, 0)), (b2, .cells [.int .i64 schema, .slice A lp.length c0, .slice A' ls.length c'].toArray 36 (0, 0))]); (case hi => rfl); (case hr => kernel_rfl);  (case ha => rfl); (case hp => exact List.Perm.refl _); (case hd => rfl); (case hν' => intro e he; simp only [List.mem_cons, List.not_mem_nil, or_false] at he; rcases he with rfl | rfl <;> simp); rintro v4 G4 _ hle4 ⟨-, rfl, hw4⟩; obtain ⟨A4, c4, rfl, -⟩ := id hw4.open))
        all_goals (apply dtk 7; (case hi => rfl); (case hop => (apply prd; apply p_build; (case hz => rfl); (case hv => (simp only [List.map_cons, List.map_nil]; repeat (first | with_reducible exact evs_nil | (apply evs_cons; (case h1 => rfl))))); (case hb => (apply bldL; repeat (first | exact bld_nil | (apply bld_cons; (case hpf => rfl); (case hc => rfl); (case hs => rfl); (case hl => rfl); (case ho => ((repeat (first | with_reducible exact ov_nil | apply ov_cons)); done)))))))); (case hq => kernel_rfl))
        all_goals (apply d_store 9; (case hi => rfl); (case hr => kernel_rfl); (case hL => infer_instance); (case hp => rfl); (case hx => rfl); (case hc => rfl); (case hsz => rfl); (case h1 => rfl); (case hb => (repeat (first | exact mhd _ | apply mtl))); (case hfit => exact nle rfl); (case hov => ((repeat (first | with_reducible exact ov_nil | apply ov_cons)); done)); (case hu => repeat (first | exact Upd.here _ _ | apply Upd.there)); (case hν' => intro e he; (simp only [List.mem_cons, List.not_mem_nil, or_false] at he; rcases he with rfl | rfl <;> simp; done)))
        all_goals (apply d_store 10; (case hi => rfl); (case hr => kernel_rfl); (case hL => infer_instance); (case hp => rfl); (case hx => rfl); (case hc => rfl); (case hsz => rfl); (case h1 => rfl); (case hb => (repeat (first | exact mhd _ | apply mtl))); (case hfit => exact nle rfl); (case hov => ((repeat (first | with_reducible exact ov_nil | apply ov_cons)); done)); (case hu => repeat (first | exact Upd.here _ _ | apply Upd.there)); (case hν' => intro e he; (simp only [List.mem_cons, List.not_mem_nil, or_false] at he; rcases he with rfl | rfl <;> simp; done)))
        all_goals (apply d_done; (case hr => kernel_rfl))
        repeat' (fail)
        refine v_retM [] (outsM_cc (sz0 := 3) (vs0 := [.int .i64 schema, .slice A3 l1.length c3, .slice A4 (withG ksS ls (sesOf ⟨dc, dq, de, df, dv, dr⟩)).length c4]) (e0 := 36) (sz1 := 6) (vs1 := [.int .i64 dc, .int .i64 dq, .int .i64 de, .bool df, .string dv, .int .i64 dr]) (e1 := 29) rfl rfl (by repeat (first | exact mhd _ | apply mtl)) rfl rfl (by repeat (first | exact mhd _ | apply mtl)) rfl) (List.nil_sublist _) ⟨GH.le_trans hle3 hle4, rfl, _, rfl, A3, c3, A4, c4, rfl, hp3.mono hle4, hw4⟩
      · rw [if_neg (fun h => by have := w1.1 h; omega), if_neg (fun h => by have := w2.1 h; omega), if_pos hh]
        refine v_call (μ1 := []) rfl (qd ho (fun h => by have := hh.2.2.2 h; omega)) (List.Perm.refl _) rfl ?_
        rintro _ G3 _ hle3 ⟨-, rfl, v3, rfl, hp3⟩
        obtain ⟨A3, c3, rfl, -⟩ := id hp3.open
        have qw := qs G3 hle3 ⟨dc, dq, de, df, dv, dr⟩
        repeat' (first | (apply v_alloc (d := 10); (case hz => rfl); (case hd => rfl); intro b10) | apply v_seq | apply v_nil | (apply v_pure; (case hop => first | (apply p_move <;> rfl) | (apply p_assign <;> rfl) | (apply p_extract0 <;> rfl) | (apply p_extract1 <;> rfl) | fail); (case hd => rfl)) | (apply v_store; (case hp => rfl); (case hx => rfl); (case hc => rfl); (case hsz => rfl); (case h1 => rfl); (case hb => (repeat (exact mhd _))); (case hfit => exact nle rfl); (case hov => ((repeat (first | with_reducible exact ov_nil | apply ov_cons)); done)); (case hu => repeat (exact Upd.here _ _))) | fail)
        refine d_start [(b2, .cells [.int .i64 schema, .slice A lp.length c0, .slice A' ls.length c'].toArray 36 (0, 0)), (b10, .cells [.int .i64 dc, .int .i64 dq, .int .i64 de, .bool df, .string dv, .int .i64 dr].toArray 29 (0, 0))] (by kernel_rfl) (by kernel_rfl) (by kernel_rfl) (by intro e he; (simp only [List.mem_cons, List.not_mem_nil, or_false] at he; rcases he with rfl | rfl <;> simp; done)) ?_
        all_goals (apply dtk 0; (case hi => rfl); (case hop => (apply prd; apply p_fieldAddrB <;> rfl)); (case hq => kernel_rfl))
        all_goals (apply dtk 1; (case hi => rfl); (case hop => first | (apply r_loadNo; (case hx => rfl); (case h => (repeat (fail))); (case hd => (repeat (fail))); (case hn => rfl)) | (apply r_load1; rfl; (apply Cell.own; (case h => (repeat (exact mhd _))); rfl)) | (apply r_loadN; rfl; (apply CellsAt.own; (case h => (repeat (fail)))); rfl)); (case hq => kernel_rfl))
        all_goals (apply dtk 2; (case hi => rfl); (case hop => (apply prd; apply p_move <;> rfl)); (case hq => kernel_rfl))
        all_goals (apply dtk 3; (case hi => rfl); (case hop => (apply prd; apply p_fieldAddrB <;> rfl)); (case hq => kernel_rfl))
        all_goals (apply dtk 4; (case hi => rfl); (case hop => first | (apply r_loadNo; (case hx => rfl); (case h => (repeat (fail))); (case hd => (repeat (fail))); (case hn => rfl)) | (apply r_load1; rfl; (apply Cell.own; (case h => (repeat (exact mhd _))); rfl)) | (apply r_loadN; rfl; (apply CellsAt.own; (case h => (repeat (fail)))); rfl)); (case hq => kernel_rfl))
        all_goals (apply dtk 5; (case hi => rfl); (case hop => first | (apply r_loadNo; (case hx => rfl); (case h => (repeat (first | exact mhd _ | apply mtl))); (case hd => (repeat (first | with_reducible exact dt_nil | apply dt_here))); (case hn => rfl)) | (apply r_load1; rfl; (apply Cell.own; (case h => (repeat (fail))); rfl)) | (apply r_loadN; rfl; (apply CellsAt.own; (case h => (repeat (fail)))); rfl)); (case hq => kernel_rfl))
        all_goals (apply dtk 8; (case hi => rfl); (case hop => first | (apply r_loadNo; (case hx => rfl); (case h => (repeat (first | exact mhd _ | apply mtl))); (case hd => (repeat (first | with_reducible exact dt_nil | apply dt_here))); (case hn => rfl)) | (apply r_load1; rfl; (apply Cell.own; (case h => (repeat (fail))); rfl)) | (apply r_loadN; rfl; (apply CellsAt.own; (case h => (repeat (fail)))); rfl)); (case hq => kernel_rfl))
        all_goals ((apply d_call 6 (hs := qw) (μ1 := []) (μ2 := [(b10, .cells [.int .i64 dc, .int .i64 dq, .int .i64 de, .bool df, .string dv, .int .i64 dr].toArray 29 (0, 0)), (b8, .cells [.int .i64 cl, .int .i64 seq, .int .i64 0, .bool false, .string ByteArray.empty, .int .i64 0].toArray 29 (0, 0)), (b7, .cells [.int .i64 ac, .int .i64 aq, .int .i64 ae, .bool af, .string av, .int .i64 ar].toArray 29 (0, 0)), (b5, .cells [.int .i64 0, .int .i64 0, .int .i64 0, .bool false, .string ByteArray.empty, .int .i64 0].toArray 29 (0, 0)), (b4, .cells [.int .i64 0, .slice none 0 0, .slice none 0 0].toArray 36 (0, 0)), (b3, .cells (Cm.cells ⟨kind, cl, seq, key, val, old, node⟩).toArray 32 (0, 0)), (b2, .cells [.int .i64 schema, .slice A lp.length c0, .slice A' ls.length c'].toArray 36 (0, 0))]); (case hi => rfl); (case hr => kernel_rfl);  (case ha => rfl); (case hp => exact List.Perm.refl _); (case hd => rfl); (case hν' => intro e he; simp only [List.mem_cons, List.not_mem_nil, or_false] at he; rcases he with rfl | rfl <;> simp); rintro v4 G4 _ hle4 ⟨-, rfl, hw4⟩; obtain ⟨A4, c4, rfl, -⟩ := id hw4.open))
        all_goals (apply dtk 7; (case hi => rfl); (case hop => (apply prd; apply p_build; (case hz => rfl); (case hv => (simp only [List.map_cons, List.map_nil]; repeat (first | with_reducible exact evs_nil | (apply evs_cons; (case h1 => rfl))))); (case hb => (apply bldL; repeat (first | exact bld_nil | (apply bld_cons; (case hpf => rfl); (case hc => rfl); (case hs => rfl); (case hl => rfl); (case ho => ((repeat (first | with_reducible exact ov_nil | apply ov_cons)); done)))))))); (case hq => kernel_rfl))
        all_goals (apply d_store 9; (case hi => rfl); (case hr => kernel_rfl); (case hL => infer_instance); (case hp => rfl); (case hx => rfl); (case hc => rfl); (case hsz => rfl); (case h1 => rfl); (case hb => (repeat (first | exact mhd _ | apply mtl))); (case hfit => exact nle rfl); (case hov => ((repeat (first | with_reducible exact ov_nil | apply ov_cons)); done)); (case hu => repeat (first | exact Upd.here _ _ | apply Upd.there)); (case hν' => intro e he; (simp only [List.mem_cons, List.not_mem_nil, or_false] at he; rcases he with rfl | rfl <;> simp; done)))
        all_goals (apply d_store 10; (case hi => rfl); (case hr => kernel_rfl); (case hL => infer_instance); (case hp => rfl); (case hx => rfl); (case hc => rfl); (case hsz => rfl); (case h1 => rfl); (case hb => (repeat (first | exact mhd _ | apply mtl))); (case hfit => exact nle rfl); (case hov => ((repeat (first | with_reducible exact ov_nil | apply ov_cons)); done)); (case hu => repeat (first | exact Upd.here _ _ | apply Upd.there)); (case hν' => intro e he; (simp only [List.mem_cons, List.not_mem_nil, or_false] at he; rcases he with rfl | rfl <;> simp; done)))
        all_goals (apply d_done; (case hr => kernel_rfl))
        repeat' (fail)
        refine v_retM [] (outsM_cc (sz0 := 3) (vs0 := [.int .i64 schema, .slice A3 l1.length c3, .slice A4 (withG ksS ls (sesOf ⟨dc, dq, de, df, dv, dr⟩)).length c4]) (e0 := 36) (sz1 := 6) (vs1 := [.int .i64 dc, .int .i64 dq, .int .i64 de, .bool df, .string dv, .int .i64 dr]) (e1 := 29) rfl rfl (by repeat (first | exact mhd _ | apply mtl)) rfl rfl (by repeat (first | exact mhd _ | apply mtl)) rfl) (List.nil_sublist _) ⟨GH.le_trans hle3 hle4, rfl, _, rfl, A3, c3, A4, c4, rfl, hp3.mono hle4, hw4⟩
    · rw [decide_eq_false hh] at qh
      repeat' (first | (apply v_box (d := 2) (zs := [.int .i64 schema, .slice A lp.length c0, .slice A' ls.length c']); (case hx => rfl); (case hz => rfl); (case hd => rfl); intro b2) | (apply v_box (d := 3) (zs := Cm.cells ⟨kind, cl, seq, key, val, old, node⟩); (case hx => rfl); (case hz => rfl); (case hd => rfl); intro b3) | (apply v_alloc (d := 4); (case hz => rfl); (case hd => rfl); intro b4) | (apply v_alloc (d := 5); (case hz => rfl); (case hd => rfl); intro b5) | (apply v_alloc (d := 7); (case hz => rfl); (case hd => rfl); intro b7) | (apply v_alloc (d := 8); (case hz => rfl); (case hd => rfl); intro b8) | apply v_seq | apply v_region | apply v_nil | apply v_skip | (apply v_take; (case hg => rfl)) | (apply v_pass; (case hg => rfl); (case hn => rfl); (case hd => rfl)) | (apply v_pure; (case hop => first | (apply p_move <;> rfl) | (apply p_eq <;> rfl) | (apply p_lt <;> rfl) | (apply p_gt <;> rfl) | (apply p_assign <;> rfl) | (apply p_pickT <;> rfl) | (apply p_pickF <;> rfl) | (apply p_not <;> rfl) | (apply p_fieldAddrB <;> rfl) | (apply p_extract0 <;> rfl) | (apply p_extract1 <;> rfl) | (apply p_build; (case hz => rfl); (case hv => (simp only [List.map_cons, List.map_nil]; repeat (first | with_reducible exact evs_nil | (apply evs_cons; (case h1 => rfl))))); (case hb => (apply bldL; repeat (first | exact bld_nil | (apply bld_cons; (case hpf => rfl); (case hc => rfl); (case hs => rfl); (case hl => rfl); (case ho => ((repeat (first | with_reducible exact ov_nil | apply ov_cons)); done))))))) | fail); (case hd => rfl)) | (apply v_condT; (case hc => rfl)) | (apply v_condF; (case hc => rfl)) | (apply v_cond; (case hc => rfl); all_goals (intro h; (try simp only [reduceCtorEq, zzz] at h); first | (exfalso; omega) | skip)) | (apply v_guardB; (case h1 => rfl); (case h2 => rfl); all_goals (intro h; (try simp only [reduceCtorEq, zzz] at h))) | (apply v_callJ (hs := qo); (case ha => rfl); (case hd => rfl)) | (apply v_callJ (hs := qh); (case ha => rfl); (case hd => rfl)) | (apply v_callJ (hs := ql); (case ha => rfl); (case hd => rfl)) | (apply v_read; (case hop => (apply r_load1; rfl; (apply Cell.own; (case h => (repeat (first | exact mhd _ | apply mtl))); rfl))); (case hd => rfl)) | (apply v_store; (case hp => rfl); (case hx => rfl); (case hc => rfl); (case hsz => rfl); (case h1 => rfl); (case hb => (repeat (exact mhd _))); (case hfit => exact nle rfl); (case hov => ((repeat (first | with_reducible exact ov_nil | apply ov_cons)); done)); (case hu => repeat (exact Upd.here _ _))) | fail)
      · have hw1 : wk = 1 := w1.2 ⟨by omega, by omega⟩
        obtain rfl := w3 hw1
        rw [if_pos hw1]
        refine d_start [(b2, .cells [.int .i64 schema, .slice A lp.length c0, .slice A' ls.length c'].toArray 36 (0, 0)), (b7, .cells [.int .i64 ac, .int .i64 aq, .int .i64 ae, .bool af, .string av, .int .i64 ar].toArray 29 (0, 0))] (by kernel_rfl) (by kernel_rfl) (by kernel_rfl) (by intro e he; (simp only [List.mem_cons, List.not_mem_nil, or_false] at he; rcases he with rfl | rfl <;> simp; done)) ?_
        all_goals (apply dtk 0; (case hi => rfl); (case hop => first | (apply r_loadNo; (case hx => rfl); (case h => (repeat (exact mhd _))); (case hd => (repeat (first | with_reducible exact dt_nil | apply dt_here))); (case hn => rfl)) | (apply r_load1; rfl; (apply Cell.own; (case h => (repeat (fail))); rfl)) | (apply r_loadN; rfl; (apply CellsAt.own; (case h => (repeat (fail)))); rfl)); (case hq => kernel_rfl))
        all_goals (apply dtk 1; (case hi => rfl); (case hop => first | (apply r_loadNo; (case hx => rfl); (case h => (repeat (first | exact mhd _ | apply mtl))); (case hd => (repeat (first | with_reducible exact dt_nil | apply dt_here))); (case hn => rfl)) | (apply r_load1; rfl; (apply Cell.own; (case h => (repeat (fail))); rfl)) | (apply r_loadN; rfl; (apply CellsAt.own; (case h => (repeat (fail)))); rfl)); (case hq => kernel_rfl))
        all_goals (apply d_store 2; (case hi => rfl); (case hr => kernel_rfl); (case hL => infer_instance); (case hp => rfl); (case hx => rfl); (case hc => rfl); (case hsz => rfl); (case h1 => rfl); (case hb => (repeat (first | exact mhd _ | apply mtl))); (case hfit => exact nle rfl); (case hov => ((repeat (first | with_reducible exact ov_nil | apply ov_cons)); done)); (case hu => repeat (first | exact Upd.here _ _ | apply Upd.there)); (case hν' => intro e he; (simp only [List.mem_cons, List.not_mem_nil, or_false] at he; rcases he with rfl | rfl <;> simp; done)))
        all_goals (apply d_store 3; (case hi => rfl); (case hr => kernel_rfl); (case hL => infer_instance); (case hp => rfl); (case hx => rfl); (case hc => rfl); (case hsz => rfl); (case h1 => rfl); (case hb => (repeat (first | exact mhd _ | apply mtl))); (case hfit => exact nle rfl); (case hov => ((repeat (first | with_reducible exact ov_nil | apply ov_cons)); done)); (case hu => repeat (first | exact Upd.here _ _ | apply Upd.there)); (case hν' => intro e he; (simp only [List.mem_cons, List.not_mem_nil, or_false] at he; rcases he with rfl | rfl <;> simp; done)))
        all_goals (apply d_done; (case hr => kernel_rfl))
        repeat' (fail)
        refine v_retM [] (outsM_cc (sz0 := 3) (vs0 := [.int .i64 schema, .slice A lp.length c0, .slice A' ls.length c']) (e0 := 36) (sz1 := 6) (vs1 := [.int .i64 ac, .int .i64 aq, .int .i64 ae, .bool af, .string av, .int .i64 ar]) (e1 := 29) rfl rfl (by repeat (first | exact mhd _ | apply mtl)) rfl rfl (by repeat (first | exact mhd _ | apply mtl)) rfl) (List.nil_sublist _) ⟨GH.le_refl _, rfl, _, rfl, hs⟩
      · rw [if_neg (fun h => by have := w1.1 h; omega), if_pos (w2.2 (by omega))]
        refine d_start [(b2, .cells [.int .i64 schema, .slice A lp.length c0, .slice A' ls.length c'].toArray 36 (0, 0)), (b8, .cells [.int .i64 cl, .int .i64 seq, .int .i64 15, .bool false, .string ByteArray.empty, .int .i64 0].toArray 29 (0, 0))] (by kernel_rfl) (by kernel_rfl) (by kernel_rfl) (by intro e he; (simp only [List.mem_cons, List.not_mem_nil, or_false] at he; rcases he with rfl | rfl <;> simp; done)) ?_
        all_goals (apply dtk 0; (case hi => rfl); (case hop => first | (apply r_loadNo; (case hx => rfl); (case h => (repeat (exact mhd _))); (case hd => (repeat (first | with_reducible exact dt_nil | apply dt_here))); (case hn => rfl)) | (apply r_load1; rfl; (apply Cell.own; (case h => (repeat (fail))); rfl)) | (apply r_loadN; rfl; (apply CellsAt.own; (case h => (repeat (fail)))); rfl)); (case hq => kernel_rfl))
        all_goals (apply dtk 1; (case hi => rfl); (case hop => first | (apply r_loadNo; (case hx => rfl); (case h => (repeat (first | exact mhd _ | apply mtl))); (case hd => (repeat (first | with_reducible exact dt_nil | apply dt_here))); (case hn => rfl)) | (apply r_load1; rfl; (apply Cell.own; (case h => (repeat (fail))); rfl)) | (apply r_loadN; rfl; (apply CellsAt.own; (case h => (repeat (fail)))); rfl)); (case hq => kernel_rfl))
        all_goals (apply d_store 2; (case hi => rfl); (case hr => kernel_rfl); (case hL => infer_instance); (case hp => rfl); (case hx => rfl); (case hc => rfl); (case hsz => rfl); (case h1 => rfl); (case hb => (repeat (first | exact mhd _ | apply mtl))); (case hfit => exact nle rfl); (case hov => ((repeat (first | with_reducible exact ov_nil | apply ov_cons)); done)); (case hu => repeat (first | exact Upd.here _ _ | apply Upd.there)); (case hν' => intro e he; (simp only [List.mem_cons, List.not_mem_nil, or_false] at he; rcases he with rfl | rfl <;> simp; done)))
        all_goals (apply d_store 3; (case hi => rfl); (case hr => kernel_rfl); (case hL => infer_instance); (case hp => rfl); (case hx => rfl); (case hc => rfl); (case hsz => rfl); (case h1 => rfl); (case hb => (repeat (first | exact mhd _ | apply mtl))); (case hfit => exact nle rfl); (case hov => ((repeat (first | with_reducible exact ov_nil | apply ov_cons)); done)); (case hu => repeat (first | exact Upd.here _ _ | apply Upd.there)); (case hν' => intro e he; (simp only [List.mem_cons, List.not_mem_nil, or_false] at he; rcases he with rfl | rfl <;> simp; done)))
        all_goals (apply d_done; (case hr => kernel_rfl))
        repeat' (fail)
        refine v_retM [] (outsM_cc (sz0 := 3) (vs0 := [.int .i64 schema, .slice A lp.length c0, .slice A' ls.length c']) (e0 := 36) (sz1 := 6) (vs1 := [.int .i64 cl, .int .i64 seq, .int .i64 15, .bool false, .string ByteArray.empty, .int .i64 0]) (e1 := 29) rfl rfl (by repeat (first | exact mhd _ | apply mtl)) rfl rfl (by repeat (first | exact mhd _ | apply mtl)) rfl) (List.nil_sublist _) ⟨GH.le_refl _, rfl, _, rfl, hs⟩
      · rw [if_neg (fun h => by have := w1.1 h; omega), if_neg (fun h => by have := w2.1 h; omega), if_neg hh]
        refine d_start [(b2, .cells [.int .i64 schema, .slice A lp.length c0, .slice A' ls.length c'].toArray 36 (0, 0)), (b8, .cells [.int .i64 cl, .int .i64 seq, .int .i64 14, .bool false, .string ByteArray.empty, .int .i64 0].toArray 29 (0, 0))] (by kernel_rfl) (by kernel_rfl) (by kernel_rfl) (by intro e he; (simp only [List.mem_cons, List.not_mem_nil, or_false] at he; rcases he with rfl | rfl <;> simp; done)) ?_
        all_goals (apply dtk 0; (case hi => rfl); (case hop => first | (apply r_loadNo; (case hx => rfl); (case h => (repeat (exact mhd _))); (case hd => (repeat (first | with_reducible exact dt_nil | apply dt_here))); (case hn => rfl)) | (apply r_load1; rfl; (apply Cell.own; (case h => (repeat (fail))); rfl)) | (apply r_loadN; rfl; (apply CellsAt.own; (case h => (repeat (fail)))); rfl)); (case hq => kernel_rfl))
        all_goals (apply dtk 1; (case hi => rfl); (case hop => first | (apply r_loadNo; (case hx => rfl); (case h => (repeat (first | exact mhd _ | apply mtl))); (case hd => (repeat (first | with_reducible exact dt_nil | apply dt_here))); (case hn => rfl)) | (apply r_load1; rfl; (apply Cell.own; (case h => (repeat (fail))); rfl)) | (apply r_loadN; rfl; (apply CellsAt.own; (case h => (repeat (fail)))); rfl)); (case hq => kernel_rfl))
        all_goals (apply d_store 2; (case hi => rfl); (case hr => kernel_rfl); (case hL => infer_instance); (case hp => rfl); (case hx => rfl); (case hc => rfl); (case hsz => rfl); (case h1 => rfl); (case hb => (repeat (first | exact mhd _ | apply mtl))); (case hfit => exact nle rfl); (case hov => ((repeat (first | with_reducible exact ov_nil | apply ov_cons)); done)); (case hu => repeat (first | exact Upd.here _ _ | apply Upd.there)); (case hν' => intro e he; (simp only [List.mem_cons, List.not_mem_nil, or_false] at he; rcases he with rfl | rfl <;> simp; done)))
        all_goals (apply d_store 3; (case hi => rfl); (case hr => kernel_rfl); (case hL => infer_instance); (case hp => rfl); (case hx => rfl); (case hc => rfl); (case hsz => rfl); (case h1 => rfl); (case hb => (repeat (first | exact mhd _ | apply mtl))); (case hfit => exact nle rfl); (case hov => ((repeat (first | with_reducible exact ov_nil | apply ov_cons)); done)); (case hu => repeat (first | exact Upd.here _ _ | apply Upd.there)); (case hν' => intro e he; (simp only [List.mem_cons, List.not_mem_nil, or_false] at he; rcases he with rfl | rfl <;> simp; done)))
        all_goals (apply d_done; (case hr => kernel_rfl))
        repeat' (fail)
        refine v_retM [] (outsM_cc (sz0 := 3) (vs0 := [.int .i64 schema, .slice A lp.length c0, .slice A' ls.length c']) (e0 := 36) (sz1 := 6) (vs1 := [.int .i64 cl, .int .i64 seq, .int .i64 14, .bool false, .string ByteArray.empty, .int .i64 0]) (e1 := 29) rfl rfl (by repeat (first | exact mhd _ | apply mtl)) rfl rfl (by repeat (first | exact mhd _ | apply mtl)) rfl) (List.nil_sublist _) ⟨GH.le_refl _, rfl, _, rfl, hs⟩
      · rw [if_neg (fun h => by have := w1.1 h; omega), if_neg (fun h => by have := w2.1 h; omega), if_neg hh]
        refine d_start [(b2, .cells [.int .i64 schema, .slice A lp.length c0, .slice A' ls.length c'].toArray 36 (0, 0)), (b8, .cells [.int .i64 cl, .int .i64 seq, .int .i64 14, .bool false, .string ByteArray.empty, .int .i64 0].toArray 29 (0, 0))] (by kernel_rfl) (by kernel_rfl) (by kernel_rfl) (by intro e he; (simp only [List.mem_cons, List.not_mem_nil, or_false] at he; rcases he with rfl | rfl <;> simp; done)) ?_
        all_goals (apply dtk 0; (case hi => rfl); (case hop => first | (apply r_loadNo; (case hx => rfl); (case h => (repeat (exact mhd _))); (case hd => (repeat (first | with_reducible exact dt_nil | apply dt_here))); (case hn => rfl)) | (apply r_load1; rfl; (apply Cell.own; (case h => (repeat (fail))); rfl)) | (apply r_loadN; rfl; (apply CellsAt.own; (case h => (repeat (fail)))); rfl)); (case hq => kernel_rfl))
        all_goals (apply dtk 1; (case hi => rfl); (case hop => first | (apply r_loadNo; (case hx => rfl); (case h => (repeat (first | exact mhd _ | apply mtl))); (case hd => (repeat (first | with_reducible exact dt_nil | apply dt_here))); (case hn => rfl)) | (apply r_load1; rfl; (apply Cell.own; (case h => (repeat (fail))); rfl)) | (apply r_loadN; rfl; (apply CellsAt.own; (case h => (repeat (fail)))); rfl)); (case hq => kernel_rfl))
        all_goals (apply d_store 2; (case hi => rfl); (case hr => kernel_rfl); (case hL => infer_instance); (case hp => rfl); (case hx => rfl); (case hc => rfl); (case hsz => rfl); (case h1 => rfl); (case hb => (repeat (first | exact mhd _ | apply mtl))); (case hfit => exact nle rfl); (case hov => ((repeat (first | with_reducible exact ov_nil | apply ov_cons)); done)); (case hu => repeat (first | exact Upd.here _ _ | apply Upd.there)); (case hν' => intro e he; (simp only [List.mem_cons, List.not_mem_nil, or_false] at he; rcases he with rfl | rfl <;> simp; done)))
        all_goals (apply d_store 3; (case hi => rfl); (case hr => kernel_rfl); (case hL => infer_instance); (case hp => rfl); (case hx => rfl); (case hc => rfl); (case hsz => rfl); (case h1 => rfl); (case hb => (repeat (first | exact mhd _ | apply mtl))); (case hfit => exact nle rfl); (case hov => ((repeat (first | with_reducible exact ov_nil | apply ov_cons)); done)); (case hu => repeat (first | exact Upd.here _ _ | apply Upd.there)); (case hν' => intro e he; (simp only [List.mem_cons, List.not_mem_nil, or_false] at he; rcases he with rfl | rfl <;> simp; done)))
        all_goals (apply d_done; (case hr => kernel_rfl))
        repeat' (fail)
        refine v_retM [] (outsM_cc (sz0 := 3) (vs0 := [.int .i64 schema, .slice A lp.length c0, .slice A' ls.length c']) (e0 := 36) (sz1 := 6) (vs1 := [.int .i64 cl, .int .i64 seq, .int .i64 14, .bool false, .string ByteArray.empty, .int .i64 0]) (e1 := 29) rfl rfl (by repeat (first | exact mhd _ | apply mtl)) rfl rfl (by repeat (first | exact mhd _ | apply mtl)) rfl) (List.nil_sublist _) ⟨GH.le_refl _, rfl, _, rfl, hs⟩
  · rw [decide_eq_false ho] at qo
    rw [if_neg ho]
    repeat' (first | (apply v_box (d := 2) (zs := [.int .i64 schema, .slice A lp.length c0, .slice A' ls.length c']); (case hx => rfl); (case hz => rfl); (case hd => rfl); intro b2) | (apply v_box (d := 3) (zs := Cm.cells ⟨kind, cl, seq, key, val, old, node⟩); (case hx => rfl); (case hz => rfl); (case hd => rfl); intro b3) | (apply v_alloc (d := 4); (case hz => rfl); (case hd => rfl); intro b4) | (apply v_alloc (d := 5); (case hz => rfl); (case hd => rfl); intro b5) | (apply v_read; (case hop => (apply r_loadNo; (case hx => rfl); (case h => repeat (first | exact mhd _ | apply mtl)); (case hd => rfl); (case hn => rfl))); (case hd => rfl)) | apply v_seq | apply v_region | apply v_nil | apply v_skip | (apply v_take; (case hg => rfl)) | (apply v_pass; (case hg => rfl); (case hn => rfl); (case hd => rfl)) | (apply v_pure; (case hop => first | (apply p_move <;> rfl) | (apply p_eq <;> rfl) | (apply p_pickT <;> rfl) | (apply p_pickF <;> rfl) | (apply p_not <;> rfl) | (apply p_fieldAddrB <;> rfl) | (apply p_build; (case hz => rfl); (case hv => (simp only [List.map_cons, List.map_nil]; repeat (with_reducible exact evs_nil))); (case hb => (apply bldL; repeat (exact bld_nil)))) | fail); (case hd => rfl)) | (apply v_condT; (case hc => rfl)) | (apply v_condF; (case hc => rfl)) | (apply v_cond; (case hc => rfl); all_goals (intro h; (try simp only [reduceCtorEq, zzz] at h))) | (apply v_guardB; (case h1 => rfl); (case h2 => rfl); all_goals (intro h; (try simp only [reduceCtorEq, zzz] at h))) | (apply v_callJ (hs := qo); (case ha => rfl); (case hd => rfl)) | (apply v_read; (case hop => (apply r_load1; rfl; (apply Cell.own; (case h => (repeat (first | exact mhd _ | apply mtl))); rfl))); (case hd => rfl)) | (apply v_store; (case hp => rfl); (case hx => rfl); (case hc => rfl); (case hsz => rfl); (case h1 => rfl); (case hb => (repeat (first | exact mhd _ | apply mtl))); (case hfit => exact nle rfl); (case hov => (first | ((repeat (first | with_reducible exact ov_nil | apply ov_cons)); done) | rfl)); (case hu => repeat (first | exact Upd.here _ _ | apply Upd.there))) | fail)
    · rw [if_pos ⟨by assumption, by assumption⟩]
      refine v_call (μ1 := []) rfl qr (List.Perm.refl _) rfl ?_
      rintro v3 G3 _ hle3 ⟨-, rfl, hs3⟩
      rw [hup] at hs3
      obtain ⟨A3, c3, A3', c3', rfl, -, -⟩ := id hs3
      repeat' (first | apply v_nil | (apply v_pure; (case hop => (apply p_build; (case hz => rfl); (case hv => (simp only [List.map_cons, List.map_nil]; repeat (with_reducible exact evs_nil))); (case hb => (apply bldL; repeat (exact bld_nil))))); (case hd => rfl)) | (apply v_store; (case hp => rfl); (case hx => rfl); (case hc => rfl); (case hsz => rfl); (case h1 => rfl); (case hb => (repeat (first | exact mhd _ | apply mtl))); (case hfit => exact nle rfl); (case hov => ((repeat (first | with_reducible exact ov_nil | apply ov_cons)); done)); (case hu => repeat (first | exact Upd.here _ _ | apply Upd.there))) | fail)
      refine v_retM [] (outsM_cc (sz0 := 3) (vs0 := [.int .i64 2, .slice A3 (upS ⟨schema, lp, ls⟩).pairs.length c3, .slice A3' (upS ⟨schema, lp, ls⟩).sess.length c3']) (e0 := 36) (sz1 := 6) (vs1 := zA.cells) (e1 := 29) rfl rfl (by repeat (first | exact mhd _ | apply mtl)) rfl rfl (by repeat (exact mhd _)) rfl) (List.nil_sublist _) ⟨hle3, rfl, _, rfl, hs3⟩
    all_goals
      (rw [if_neg (fun h => by have := h.1; have := h.2; omega)]
       refine v_retM [] (outsM_cc (sz0 := 3) (vs0 := [.int .i64 schema, .slice A lp.length c0, .slice A' ls.length c']) (e0 := 36) (sz1 := 6) (vs1 := zA.cells) (e1 := 29) rfl rfl (by repeat (first | exact mhd _ | apply mtl)) rfl rfl (by repeat (exact mhd _)) rfl) (List.nil_sublist _) ⟨GH.le_refl _, rfl, _, rfl, hs⟩)
end Go.Proofs.YtmdeeokejdkceaaDoor
