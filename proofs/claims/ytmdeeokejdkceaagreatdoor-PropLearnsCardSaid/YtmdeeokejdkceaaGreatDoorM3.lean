/-
  The reference 13: what is wrong with a message; of a promise just so, of any other something.
-/
import Derived.Test.YtmdeeokejdkceaaGreatDoorM2
set_option linter.unusedSimpArgs false
set_option linter.unusedVariables false
namespace Go.Proofs.YtmdeeokejdkceaaGreatDoor
open Go.Vx Go.ChangeShapes Go.WideShapes Go.ChangeAt Go.RowKit
set_option maxRecDepth 4000 in
set_option maxHeartbeats 8000000 in
theorem refMCheckO_s {G : GH} (m : Ms) {cs : List Value} (hm : MsR G m cs) (h4 : m.kind ≠ 4) : Con Tryz.prog 107 #[.agg cs.toArray] G [] (PrE m G) := by
  obtain ⟨A, c, I, ci, rfl, he, hi⟩ := hm
  have ql := letters_s G m.kind
  have qe := refEntCheck_s he
  have qb := refBal_s G m.round m.node
  have q98 := has13_s G m.kind 98
  have q105 := has13_s G m.kind 105
  have q99 := has13_s G m.kind 99
  have q118 := has13_s G m.kind 118
  have q101 := has13_s G m.kind 101
  have q109 := has13_s G m.kind 109
  obtain ⟨A0, c0, e0, hlc, hcm, hsome, hcp, hcb, hcc, hok⟩ := esOpen he
  cases e0
  have hcb0 := fun (h : 0 < m.ents.length) => hcb 0 h
  clear hcp hcb hcc hok hi he
  generalize chkK m.ents 0 = ck at *
  unfold PrE
  generalize hasB (lets m.kind) 98 = b98 at *
  generalize hasB (lets m.kind) 105 = b105 at *
  generalize hasB (lets m.kind) 99 = b99 at *
  generalize hasB (lets m.kind) 118 = b118 at *
  generalize hasB (lets m.kind) 101 = b101 at *
  generalize hasB (lets m.kind) 109 = b109 at *
  obtain ⟨kind, src, dst, round, node, index, commit, version, ents, img⟩ := m
  simp only at *
  generalize lets kind = le at *
  have hcb1 : ∀ (h : 0 < ents.length), ∃ r n, CellsG G (((adr A).add (0 * 10)).add 1) [.int .i64 r, .int .i64 n] := fun h => ⟨_, _, hcb0 h⟩
  clear hcb0
  generalize ents.length = n at *
  generalize img.length = n' at *
  have hcb2 : ∃ r5 n5, 0 < n → CellsG G (((adr A).add (0 * 10)).add 1) [.int .i64 r5, .int .i64 n5] := by
    by_cases h0 : 0 < n
    · obtain ⟨r, q, hq⟩ := hcb1 h0
      exact ⟨r, q, fun _ => hq⟩
    · exact ⟨0, 0, fun h' => absurd h' h0⟩
  obtain ⟨r5, n5, hb0⟩ := hcb2
  clear hcb1
  (refine v_enter Tryz.func107 rfl Tryz.ntmps107 rfl ?_; intro B _)
  repeat' (first | (apply v_box (d := 1) (zs := msL kind src dst round node index commit version (.slice A n c) (.slice I n' ci)); (case hx => rfl); (case hz => rfl); (case hd => rfl); intro b1) | apply v_seq | apply v_region | apply v_nil | (apply v_pure; (case hop => first | (apply p_move <;> rfl) | (apply p_assign <;> rfl) | (apply p_fieldAddrB <;> rfl) | (apply p_eqS <;> rfl) | fail); (case hd => rfl)) | (apply v_callJ (hs := ql); (case ha => rfl); (case hd => rfl)) | (apply v_read; (case hop => (apply r_load1; rfl; (apply Cell.own; (case h => (repeat (exact mhd _))); rfl))); (case hd => rfl)) | fail)
  apply v_cond
  · rfl
  · intro _
    repeat' (first | apply v_seq | apply v_region | apply v_nil | (apply v_pure; (case hop => (apply p_assign <;> rfl)); (case hd => rfl)) | fail)
    (refine v_ret [] (outsA1 rfl rfl) (by repeat (exact List.nil_sublist _)) ?_; exact ⟨rfl, rfl, _, rfl, fun h => absurd h h4⟩)
  intro _
  apply v_skip
  repeat apply v_seq
  refine v_cut (fun σ1 G' μ' => G' = G ∧ μ' = [(b1, .cells (msL kind src dst round node index commit version (.slice A n c) (.slice I n' ci)).toArray 89 (0, 0))] ∧ ∃ bq, EnvHas σ1 [(34, .bool bq), (3, .int .i64 kind), (1, .pointer (some ⟨b1, 0, none⟩))]) ?_ ?_
  · intro hk
    repeat' (first | exact hk _ _ _ ⟨rfl, rfl, _, rfl, rfl, rfl, trivial⟩ | apply v_region | apply v_nil | (apply v_take; (case hg => rfl)) | (apply v_pass; (case hg => rfl); (case hn => rfl); (case hd => rfl)) | (apply v_pure; (case hop => first | (apply p_move <;> rfl) | (apply p_eq <;> rfl) | (apply p_lt <;> rfl) | (apply p_gt <;> rfl) | (apply p_pickT <;> rfl) | (apply p_pickF <;> rfl) | (apply p_fieldAddrB <;> rfl) | fail); (case hd => rfl)) | (apply v_guardB; (case h1 => rfl); (case h2 => rfl); all_goals (intro h; (try simp only [reduceCtorEq, zzz] at h))) | (apply v_read; (case hop => (apply r_load1; rfl; (apply Cell.own; (case h => (repeat (exact mhd _))); rfl))); (case hd => rfl)) | fail)
  rintro σ1 G' _ ⟨hG', rfl, bq, hσ⟩
  subst G'
  refine v_has hσ ?_
  clear hσ
  apply v_cond
  · rfl
  · intro _
    repeat' (first | apply v_seq | apply v_region | apply v_nil | (apply v_pure; (case hop => (apply p_assign <;> rfl)); (case hd => rfl)) | fail)
    (refine v_ret [] (outsA1 rfl rfl) (by repeat (exact List.nil_sublist _)) ?_; exact ⟨rfl, rfl, _, rfl, fun h => absurd h h4⟩)
  intro _
  apply v_skip
  repeat apply v_seq
  refine v_cut (fun σ1 G' μ' => G' = G ∧ μ' = [(b1, .cells (msL kind src dst round node index commit version (.slice A n c) (.slice I n' ci)).toArray 89 (0, 0))] ∧ ∃ bq, EnvHas σ1 [(84, .bool bq), (3, .int .i64 kind), (1, .pointer (some ⟨b1, 0, none⟩))]) ?_ ?_
  · intro hk
    repeat' (first | exact hk _ _ _ ⟨rfl, rfl, _, rfl, rfl, rfl, trivial⟩ | (apply v_read; (case hop => (apply r_loadNo; (case hx => rfl); (case h => repeat (exact mhd _)); (case hd => rfl); (case hn => rfl))); (case hd => rfl)) | apply v_region | apply v_nil | (apply v_take; (case hg => rfl)) | (apply v_pass; (case hg => rfl); (case hn => rfl); (case hd => rfl)) | (apply v_passN; (case hg => rfl); (case hn => rfl); (case hd => rfl)) | (apply v_pure; (case hop => first | (apply p_move <;> rfl) | (apply p_lt <;> rfl) | (apply p_gt <;> rfl) | (apply p_ne <;> rfl) | (apply p_pickT <;> rfl) | (apply p_pickF <;> rfl) | (apply p_not <;> rfl) | (apply p_fieldAddrB <;> rfl) | fail); (case hd => rfl)) | (apply v_guardB; (case h1 => rfl); (case h2 => rfl); all_goals (intro h; (try simp only [reduceCtorEq, zzz] at h))) | (apply v_callJ (hs := qb); (case ha => rfl); (case hd => rfl)) | (apply v_callJ (hs := q98); (case ha => rfl); (case hd => rfl)) | (apply v_callJ (hs := q105); (case ha => rfl); (case hd => rfl)) | (apply v_callJ (hs := q99); (case ha => rfl); (case hd => rfl)) | (apply v_callJ (hs := q118); (case ha => rfl); (case hd => rfl)) | (apply v_read; (case hop => (apply r_load1; rfl; (apply Cell.own; (case h => (repeat (exact mhd _))); rfl))); (case hd => rfl)) | fail)
  rintro σ1 G' _ ⟨hG', rfl, bq, hσ⟩
  subst G'
  refine v_has hσ ?_
  clear hσ
  apply v_cond
  · rfl
  · intro _
    repeat' (first | apply v_seq | apply v_region | apply v_nil | (apply v_pure; (case hop => (apply p_assign <;> rfl)); (case hd => rfl)) | fail)
    (refine v_ret [] (outsA1 rfl rfl) (by repeat (exact List.nil_sublist _)) ?_; exact ⟨rfl, rfl, _, rfl, fun h => absurd h h4⟩)
  intro _
  apply v_skip
  repeat apply v_seq
  refine v_cut (fun σ1 G' μ' => G' = G ∧ μ' = [(b1, .cells (msL kind src dst round node index commit version (.slice A n c) (.slice I n' ci)).toArray 89 (0, 0))] ∧ ∃ bq, EnvHas σ1 [(102, .bool bq), (3, .int .i64 kind), (1, .pointer (some ⟨b1, 0, none⟩))]) ?_ ?_
  · intro hk
    repeat' (first | exact hk _ _ _ ⟨rfl, rfl, _, rfl, rfl, rfl, trivial⟩ | apply v_region | apply v_nil | (apply v_take; (case hg => rfl)) | (apply v_pass; (case hg => rfl); (case hn => rfl); (case hd => rfl)) | (apply v_passN; (case hg => rfl); (case hn => rfl); (case hd => rfl)) | (apply v_pure; (case hop => first | (apply p_move <;> rfl) | (apply p_gt <;> rfl) | (apply p_pickT <;> rfl) | (apply p_pickF <;> rfl) | (apply p_lenSlice <;> rfl) | (apply p_fieldAddrB <;> rfl) | fail); (case hd => rfl)) | (apply v_guardB; (case h1 => rfl); (case h2 => rfl); all_goals (intro h; (try simp only [reduceCtorEq, zzz] at h))) | (apply v_callJ (hs := q101); (case ha => rfl); (case hd => rfl)) | (apply v_callJ (hs := q109); (case ha => rfl); (case hd => rfl)) | (apply v_read; (case hop => (apply r_load1; rfl; (apply Cell.own; (case h => (repeat (exact mhd _))); rfl))); (case hd => rfl)) | fail)
  rintro σ1 G' _ ⟨hG', rfl, bq, hσ⟩
  subst G'
  refine v_has hσ ?_
  clear hσ
  apply v_cond
  · rfl
  · intro _
    repeat' (first | apply v_seq | apply v_region | apply v_nil | (apply v_pure; (case hop => (apply p_assign <;> rfl)); (case hd => rfl)) | fail)
    (refine v_ret [] (outsA1 rfl rfl) (by repeat (exact List.nil_sublist _)) ?_; exact ⟨rfl, rfl, _, rfl, fun h => absurd h h4⟩)
  intro _
  apply v_skip
  repeat apply v_seq
  repeat' (first | apply v_region | apply v_nil | (apply v_pure; (case hop => (apply p_move <;> rfl)); (case hd => rfl)) | (apply v_callJ (hs := q101); (case ha => rfl); (case hd => rfl)) | fail)
  refine v_cut (fun σ1 G' μ' => G' = G ∧ μ' = [(b1, .cells (msL kind src dst round node index commit version (.slice A n c) (.slice I n' ci)).toArray 89 (0, 0))] ∧ EnvHas σ1 [(3, .int .i64 kind), (1, .pointer (some ⟨b1, 0, none⟩))]) ?_ ?_
  · intro hk
    repeat' (first | exact hk _ _ _ ⟨rfl, rfl, rfl, rfl, trivial⟩ | apply v_seq | apply v_region | apply v_nil | apply v_skip | (apply v_pure; (case hop => first | (apply p_move <;> rfl) | (apply p_ne <;> rfl) | (apply p_assign <;> rfl) | (apply p_fieldAddrB <;> rfl) | fail); (case hd => rfl)) | (apply v_cond; (case hc => rfl); all_goals (intro h; (try simp only [reduceCtorEq, zzz] at h))) | (apply v_callJ (hs := qe); (case ha => rfl); (case hd => rfl)) | (apply v_read; (case hop => (apply r_load1; rfl; (apply Cell.own; (case h => (repeat (exact mhd _))); rfl))); (case hd => rfl)) | fail)
    all_goals (refine v_ret [] (outsA1 rfl rfl) (by repeat (exact List.nil_sublist _)) ?_; exact ⟨rfl, rfl, _, rfl, fun h => absurd h h4⟩)
  rintro σ1 G' _ ⟨hG', rfl, hσ⟩
  subst G'
  refine v_has hσ ?_
  clear hσ
  repeat apply v_seq
  refine v_cut (fun σ1 G' μ' => G' = G ∧ μ' = [(b1, .cells (msL kind src dst round node index commit version (.slice A n c) (.slice I n' ci)).toArray 89 (0, 0))] ∧ ∃ bq, EnvHas σ1 [(175, .bool bq), (3, .int .i64 kind), (1, .pointer (some ⟨b1, 0, none⟩))]) ?_ ?_
  · intro hk
    clear ql qe qb
    refine d_start _ (by kernel_rfl) (by kernel_rfl) (by kernel_rfl) (fun _ he => he) ?_
    all_goals (apply dtk 0; (case hi => rfl); (case hop => (apply prd; apply p_move <;> rfl)); (case hq => kernel_rfl))
    all_goals (apply d_callJ 1 (hs := q98); (case hi => rfl); (case hr => kernel_rfl); (case ha => rfl); (case hd => rfl))
    all_goals (apply dtk 2; (case hi => rfl); (case hop => (apply prd; apply p_not <;> rfl)); (case hq => kernel_rfl))
    all_goals (apply dtk 3; (case hi => rfl); (case hop => (apply prd; apply p_move <;> rfl)); (case hq => kernel_rfl))
    all_goals (try (apply d_guardB 4; (case hi => rfl); (case hgd => rfl); (case h1 => rfl); (case h2 => rfl); all_goals (intro h; (try simp only [reduceCtorEq, zzz] at h))))
    all_goals (first | (apply dpa 4; (case hi => rfl); (case hg => rfl); (case hn => rfl); (case hq => kernel_rfl)) | (apply dtg 4; (case hi => rfl); (case hg => rfl); (case hop => (apply prd; apply p_fieldAddrB <;> rfl)); (case hq => kernel_rfl)) | fail)
    all_goals (try (apply d_guardB 5; (case hi => rfl); (case hgd => rfl); (case h1 => rfl); (case h2 => rfl); all_goals (intro h; (try simp only [reduceCtorEq, zzz] at h))))
    all_goals (first | (apply dpa 5; (case hi => rfl); (case hg => rfl); (case hn => rfl); (case hq => kernel_rfl)) | (apply dtg 5; (case hi => rfl); (case hg => rfl); (case hop => (apply prd; apply p_fieldAddrB <;> rfl)); (case hq => kernel_rfl)) | fail)
    all_goals (try (apply d_guardB 6; (case hi => rfl); (case hgd => rfl); (case h1 => rfl); (case h2 => rfl); all_goals (intro h; (try simp only [reduceCtorEq, zzz] at h))))
    all_goals (first | (apply dpa 6; (case hi => rfl); (case hg => rfl); (case hn => rfl); (case hq => kernel_rfl)) | (apply dtg 6; (case hi => rfl); (case hg => rfl); (case hop => first | (apply r_loadNo; (case hx => rfl); (case h => (repeat (fail))); (case hd => (repeat (fail))); (case hn => rfl)) | (apply r_load1; rfl; (apply Cell.own; (case h => (repeat (exact mhd _))); rfl)) | (apply r_loadN; rfl; (apply CellsAt.own; (case h => (repeat (fail)))); rfl)); (case hq => kernel_rfl)) | fail)
    all_goals (try (apply d_guardB 7; (case hi => rfl); (case hgd => rfl); (case h1 => rfl); (case h2 => rfl); all_goals (intro h; (try simp only [reduceCtorEq, zzz] at h))))
    all_goals (first | (apply dpa 7; (case hi => rfl); (case hg => rfl); (case hn => rfl); (case hq => kernel_rfl)) | (apply dtg 7; (case hi => rfl); (case hg => rfl); (case hop => (apply prd; apply p_ne <;> rfl)); (case hq => kernel_rfl)) | fail)
    all_goals (try (apply d_guardB 8; (case hi => rfl); (case hgd => rfl); (case h1 => rfl); (case h2 => rfl); all_goals (intro h; (try simp only [reduceCtorEq, zzz] at h))))
    all_goals (first | (apply dpa 8; (case hi => rfl); (case hg => rfl); (case hn => rfl); (case hq => kernel_rfl)) | (apply dtg 8; (case hi => rfl); (case hg => rfl); (case hop => (apply prd; apply p_move <;> rfl)); (case hq => kernel_rfl)) | fail)
    all_goals (try (apply d_guardB 9; (case hi => rfl); (case hgd => rfl); (case h1 => rfl); (case h2 => rfl); all_goals (intro h; (try simp only [reduceCtorEq, zzz] at h))))
    all_goals (first | (apply dpa 9; (case hi => rfl); (case hg => rfl); (case hn => rfl); (case hq => kernel_rfl)) | (apply dpn 9; (case hi => rfl); (case hg => rfl); (case hn => rfl); (case hq => kernel_rfl)) | (apply dtg 9; (case hi => rfl); (case hg => rfl); (case hop => (apply prd; apply p_fieldAddrB <;> rfl)); (case hq => kernel_rfl)) | fail)
    all_goals (try (apply d_guardB 10; (case hi => rfl); (case hgd => rfl); (case h1 => rfl); (case h2 => rfl); all_goals (intro h; (try simp only [reduceCtorEq, zzz] at h))))
    all_goals (first | (apply dpa 10; (case hi => rfl); (case hg => rfl); (case hn => rfl); (case hq => kernel_rfl)) | (apply dpn 10; (case hi => rfl); (case hg => rfl); (case hn => rfl); (case hq => kernel_rfl)) | (apply dtg 10; (case hi => rfl); (case hg => rfl); (case hop => (apply prd; apply p_fieldAddrB <;> rfl)); (case hq => kernel_rfl)) | fail)
    all_goals (try (apply d_guardB 11; (case hi => rfl); (case hgd => rfl); (case h1 => rfl); (case h2 => rfl); all_goals (intro h; (try simp only [reduceCtorEq, zzz] at h))))
    all_goals (first | (apply dpa 11; (case hi => rfl); (case hg => rfl); (case hn => rfl); (case hq => kernel_rfl)) | (apply dpn 11; (case hi => rfl); (case hg => rfl); (case hn => rfl); (case hq => kernel_rfl)) | (apply dtg 11; (case hi => rfl); (case hg => rfl); (case hop => first | (apply r_loadNo; (case hx => rfl); (case h => (repeat (fail))); (case hd => (repeat (fail))); (case hn => rfl)) | (apply r_load1; rfl; (apply Cell.own; (case h => (repeat (exact mhd _))); rfl)) | (apply r_loadN; rfl; (apply CellsAt.own; (case h => (repeat (fail)))); rfl)); (case hq => kernel_rfl)) | fail)
    all_goals (try (apply d_guardB 12; (case hi => rfl); (case hgd => rfl); (case h1 => rfl); (case h2 => rfl); all_goals (intro h; (try simp only [reduceCtorEq, zzz] at h))))
    all_goals (first | (apply dpa 12; (case hi => rfl); (case hg => rfl); (case hn => rfl); (case hq => kernel_rfl)) | (apply dpn 12; (case hi => rfl); (case hg => rfl); (case hn => rfl); (case hq => kernel_rfl)) | (apply dtg 12; (case hi => rfl); (case hg => rfl); (case hop => (apply prd; apply p_ne <;> rfl)); (case hq => kernel_rfl)) | fail)
    all_goals (try (apply d_guardB 13; (case hi => rfl); (case hgd => rfl); (case h1 => rfl); (case h2 => rfl); all_goals (intro h; (try simp only [reduceCtorEq, zzz] at h))))
    all_goals (first | (apply dpa 13; (case hi => rfl); (case hg => rfl); (case hn => rfl); (case hq => kernel_rfl)) | (apply dtg 13; (case hi => rfl); (case hg => rfl); (case hop => first | (apply prd; apply p_pickT <;> rfl) | (apply prd; apply p_pickF <;> rfl) | fail); (case hq => kernel_rfl)) | fail)
    all_goals (apply dtk 14; (case hi => rfl); (case hop => first | (apply prd; apply p_pickT <;> rfl) | (apply prd; apply p_pickF <;> rfl) | fail); (case hq => kernel_rfl))
    all_goals (apply dtk 15; (case hi => rfl); (case hop => (apply prd; apply p_move <;> rfl)); (case hq => kernel_rfl))
    all_goals (try (apply d_guardB 16; (case hi => rfl); (case hgd => rfl); (case h1 => rfl); (case h2 => rfl); all_goals (intro h; (try simp only [reduceCtorEq, zzz] at h))))
    all_goals (first | (apply dpa 16; (case hi => rfl); (case hg => rfl); (case hn => rfl); (case hq => kernel_rfl)) | (apply dtg 16; (case hi => rfl); (case hg => rfl); (case hop => (apply prd; apply p_move <;> rfl)); (case hq => kernel_rfl)) | fail)
    all_goals (try (apply d_guardB 17; (case hi => rfl); (case hgd => rfl); (case h1 => rfl); (case h2 => rfl); all_goals (intro h; (try simp only [reduceCtorEq, zzz] at h))))
    all_goals (first | (apply dpa 17; (case hi => rfl); (case hg => rfl); (case hn => rfl); (case hq => kernel_rfl)) | (apply d_callJG 17 (hs := q105); (case hi => rfl); (case hg => rfl); (case hr => kernel_rfl); (case ha => rfl); (case hd => rfl)) | fail)
    all_goals (try (apply d_guardB 18; (case hi => rfl); (case hgd => rfl); (case h1 => rfl); (case h2 => rfl); all_goals (intro h; (try simp only [reduceCtorEq, zzz] at h))))
    all_goals (first | (apply dpa 18; (case hi => rfl); (case hg => rfl); (case hn => rfl); (case hq => kernel_rfl)) | (apply dtg 18; (case hi => rfl); (case hg => rfl); (case hop => (apply prd; apply p_not <;> rfl)); (case hq => kernel_rfl)) | fail)
    all_goals (try (apply d_guardB 19; (case hi => rfl); (case hgd => rfl); (case h1 => rfl); (case h2 => rfl); all_goals (intro h; (try simp only [reduceCtorEq, zzz] at h))))
    all_goals (first | (apply dpa 19; (case hi => rfl); (case hg => rfl); (case hn => rfl); (case hq => kernel_rfl)) | (apply dtg 19; (case hi => rfl); (case hg => rfl); (case hop => (apply prd; apply p_move <;> rfl)); (case hq => kernel_rfl)) | fail)
    all_goals (try (apply d_guardB 20; (case hi => rfl); (case hgd => rfl); (case h1 => rfl); (case h2 => rfl); all_goals (intro h; (try simp only [reduceCtorEq, zzz] at h))))
    all_goals (first | (apply dpa 20; (case hi => rfl); (case hg => rfl); (case hn => rfl); (case hq => kernel_rfl)) | (apply dpn 20; (case hi => rfl); (case hg => rfl); (case hn => rfl); (case hq => kernel_rfl)) | (apply dtg 20; (case hi => rfl); (case hg => rfl); (case hop => (apply prd; apply p_fieldAddrB <;> rfl)); (case hq => kernel_rfl)) | fail)
    all_goals (try (apply d_guardB 21; (case hi => rfl); (case hgd => rfl); (case h1 => rfl); (case h2 => rfl); all_goals (intro h; (try simp only [reduceCtorEq, zzz] at h))))
    all_goals (first | (apply dpa 21; (case hi => rfl); (case hg => rfl); (case hn => rfl); (case hq => kernel_rfl)) | (apply dpn 21; (case hi => rfl); (case hg => rfl); (case hn => rfl); (case hq => kernel_rfl)) | (apply dtg 21; (case hi => rfl); (case hg => rfl); (case hop => first | (apply r_loadNo; (case hx => rfl); (case h => (repeat (fail))); (case hd => (repeat (fail))); (case hn => rfl)) | (apply r_load1; rfl; (apply Cell.own; (case h => (repeat (exact mhd _))); rfl)) | (apply r_loadN; rfl; (apply CellsAt.own; (case h => (repeat (fail)))); rfl)); (case hq => kernel_rfl)) | fail)
    all_goals (try (apply d_guardB 22; (case hi => rfl); (case hgd => rfl); (case h1 => rfl); (case h2 => rfl); all_goals (intro h; (try simp only [reduceCtorEq, zzz] at h))))
    all_goals (first | (apply dpa 22; (case hi => rfl); (case hg => rfl); (case hn => rfl); (case hq => kernel_rfl)) | (apply dpn 22; (case hi => rfl); (case hg => rfl); (case hn => rfl); (case hq => kernel_rfl)) | (apply dtg 22; (case hi => rfl); (case hg => rfl); (case hop => (apply prd; apply p_ne <;> rfl)); (case hq => kernel_rfl)) | fail)
    all_goals (try (apply d_guardB 23; (case hi => rfl); (case hgd => rfl); (case h1 => rfl); (case h2 => rfl); all_goals (intro h; (try simp only [reduceCtorEq, zzz] at h))))
    all_goals (first | (apply dpa 23; (case hi => rfl); (case hg => rfl); (case hn => rfl); (case hq => kernel_rfl)) | (apply dtg 23; (case hi => rfl); (case hg => rfl); (case hop => first | (apply prd; apply p_pickT <;> rfl) | (apply prd; apply p_pickF <;> rfl) | fail); (case hq => kernel_rfl)) | fail)
    all_goals (apply dtk 24; (case hi => rfl); (case hop => first | (apply prd; apply p_pickT <;> rfl) | (apply prd; apply p_pickF <;> rfl) | fail); (case hq => kernel_rfl))
    all_goals (apply dtk 25; (case hi => rfl); (case hop => (apply prd; apply p_move <;> rfl)); (case hq => kernel_rfl))
    all_goals (try (apply d_guardB 26; (case hi => rfl); (case hgd => rfl); (case h1 => rfl); (case h2 => rfl); all_goals (intro h; (try simp only [reduceCtorEq, zzz] at h))))
    all_goals (first | (apply dpa 26; (case hi => rfl); (case hg => rfl); (case hn => rfl); (case hq => kernel_rfl)) | (apply dtg 26; (case hi => rfl); (case hg => rfl); (case hop => (apply prd; apply p_move <;> rfl)); (case hq => kernel_rfl)) | fail)
    all_goals (try (apply d_guardB 27; (case hi => rfl); (case hgd => rfl); (case h1 => rfl); (case h2 => rfl); all_goals (intro h; (try simp only [reduceCtorEq, zzz] at h))))
    all_goals (first | (apply dpa 27; (case hi => rfl); (case hg => rfl); (case hn => rfl); (case hq => kernel_rfl)) | (apply d_callJG 27 (hs := q99); (case hi => rfl); (case hg => rfl); (case hr => kernel_rfl); (case ha => rfl); (case hd => rfl)) | fail)
    all_goals (try (apply d_guardB 28; (case hi => rfl); (case hgd => rfl); (case h1 => rfl); (case h2 => rfl); all_goals (intro h; (try simp only [reduceCtorEq, zzz] at h))))
    all_goals (first | (apply dpa 28; (case hi => rfl); (case hg => rfl); (case hn => rfl); (case hq => kernel_rfl)) | (apply dtg 28; (case hi => rfl); (case hg => rfl); (case hop => (apply prd; apply p_not <;> rfl)); (case hq => kernel_rfl)) | fail)
    all_goals (try (apply d_guardB 29; (case hi => rfl); (case hgd => rfl); (case h1 => rfl); (case h2 => rfl); all_goals (intro h; (try simp only [reduceCtorEq, zzz] at h))))
    all_goals (first | (apply dpa 29; (case hi => rfl); (case hg => rfl); (case hn => rfl); (case hq => kernel_rfl)) | (apply dtg 29; (case hi => rfl); (case hg => rfl); (case hop => (apply prd; apply p_move <;> rfl)); (case hq => kernel_rfl)) | fail)
    all_goals (try (apply d_guardB 30; (case hi => rfl); (case hgd => rfl); (case h1 => rfl); (case h2 => rfl); all_goals (intro h; (try simp only [reduceCtorEq, zzz] at h))))
    all_goals (first | (apply dpa 30; (case hi => rfl); (case hg => rfl); (case hn => rfl); (case hq => kernel_rfl)) | (apply dpn 30; (case hi => rfl); (case hg => rfl); (case hn => rfl); (case hq => kernel_rfl)) | (apply dtg 30; (case hi => rfl); (case hg => rfl); (case hop => (apply prd; apply p_fieldAddrB <;> rfl)); (case hq => kernel_rfl)) | fail)
    all_goals (try (apply d_guardB 31; (case hi => rfl); (case hgd => rfl); (case h1 => rfl); (case h2 => rfl); all_goals (intro h; (try simp only [reduceCtorEq, zzz] at h))))
    all_goals (first | (apply dpa 31; (case hi => rfl); (case hg => rfl); (case hn => rfl); (case hq => kernel_rfl)) | (apply dpn 31; (case hi => rfl); (case hg => rfl); (case hn => rfl); (case hq => kernel_rfl)) | (apply dtg 31; (case hi => rfl); (case hg => rfl); (case hop => first | (apply r_loadNo; (case hx => rfl); (case h => (repeat (fail))); (case hd => (repeat (fail))); (case hn => rfl)) | (apply r_load1; rfl; (apply Cell.own; (case h => (repeat (exact mhd _))); rfl)) | (apply r_loadN; rfl; (apply CellsAt.own; (case h => (repeat (fail)))); rfl)); (case hq => kernel_rfl)) | fail)
    all_goals (try (apply d_guardB 32; (case hi => rfl); (case hgd => rfl); (case h1 => rfl); (case h2 => rfl); all_goals (intro h; (try simp only [reduceCtorEq, zzz] at h))))
    all_goals (first | (apply dpa 32; (case hi => rfl); (case hg => rfl); (case hn => rfl); (case hq => kernel_rfl)) | (apply dpn 32; (case hi => rfl); (case hg => rfl); (case hn => rfl); (case hq => kernel_rfl)) | (apply dtg 32; (case hi => rfl); (case hg => rfl); (case hop => (apply prd; apply p_ne <;> rfl)); (case hq => kernel_rfl)) | fail)
    all_goals (try (apply d_guardB 33; (case hi => rfl); (case hgd => rfl); (case h1 => rfl); (case h2 => rfl); all_goals (intro h; (try simp only [reduceCtorEq, zzz] at h))))
    all_goals (first | (apply dpa 33; (case hi => rfl); (case hg => rfl); (case hn => rfl); (case hq => kernel_rfl)) | (apply dtg 33; (case hi => rfl); (case hg => rfl); (case hop => first | (apply prd; apply p_pickT <;> rfl) | (apply prd; apply p_pickF <;> rfl) | fail); (case hq => kernel_rfl)) | fail)
    all_goals (apply dtk 34; (case hi => rfl); (case hop => first | (apply prd; apply p_pickT <;> rfl) | (apply prd; apply p_pickF <;> rfl) | fail); (case hq => kernel_rfl))
    all_goals (apply dtk 35; (case hi => rfl); (case hop => (apply prd; apply p_move <;> rfl)); (case hq => kernel_rfl))
    all_goals (try (apply d_guardB 36; (case hi => rfl); (case hgd => rfl); (case h1 => rfl); (case h2 => rfl); all_goals (intro h; (try simp only [reduceCtorEq, zzz] at h))))
    all_goals (first | (apply dpa 36; (case hi => rfl); (case hg => rfl); (case hn => rfl); (case hq => kernel_rfl)) | (apply dtg 36; (case hi => rfl); (case hg => rfl); (case hop => (apply prd; apply p_move <;> rfl)); (case hq => kernel_rfl)) | fail)
    all_goals (try (apply d_guardB 37; (case hi => rfl); (case hgd => rfl); (case h1 => rfl); (case h2 => rfl); all_goals (intro h; (try simp only [reduceCtorEq, zzz] at h))))
    all_goals (first | (apply dpa 37; (case hi => rfl); (case hg => rfl); (case hn => rfl); (case hq => kernel_rfl)) | (apply d_callJG 37 (hs := q118); (case hi => rfl); (case hg => rfl); (case hr => kernel_rfl); (case ha => rfl); (case hd => rfl)) | fail)
    all_goals (try (apply d_guardB 38; (case hi => rfl); (case hgd => rfl); (case h1 => rfl); (case h2 => rfl); all_goals (intro h; (try simp only [reduceCtorEq, zzz] at h))))
    all_goals (first | (apply dpa 38; (case hi => rfl); (case hg => rfl); (case hn => rfl); (case hq => kernel_rfl)) | (apply dtg 38; (case hi => rfl); (case hg => rfl); (case hop => (apply prd; apply p_not <;> rfl)); (case hq => kernel_rfl)) | fail)
    all_goals (try (apply d_guardB 39; (case hi => rfl); (case hgd => rfl); (case h1 => rfl); (case h2 => rfl); all_goals (intro h; (try simp only [reduceCtorEq, zzz] at h))))
    all_goals (first | (apply dpa 39; (case hi => rfl); (case hg => rfl); (case hn => rfl); (case hq => kernel_rfl)) | (apply dtg 39; (case hi => rfl); (case hg => rfl); (case hop => (apply prd; apply p_move <;> rfl)); (case hq => kernel_rfl)) | fail)
    all_goals (try (apply d_guardB 40; (case hi => rfl); (case hgd => rfl); (case h1 => rfl); (case h2 => rfl); all_goals (intro h; (try simp only [reduceCtorEq, zzz] at h))))
    all_goals (first | (apply dpa 40; (case hi => rfl); (case hg => rfl); (case hn => rfl); (case hq => kernel_rfl)) | (apply dpn 40; (case hi => rfl); (case hg => rfl); (case hn => rfl); (case hq => kernel_rfl)) | (apply dtg 40; (case hi => rfl); (case hg => rfl); (case hop => (apply prd; apply p_fieldAddrB <;> rfl)); (case hq => kernel_rfl)) | fail)
    all_goals (try (apply d_guardB 41; (case hi => rfl); (case hgd => rfl); (case h1 => rfl); (case h2 => rfl); all_goals (intro h; (try simp only [reduceCtorEq, zzz] at h))))
    all_goals (first | (apply dpa 41; (case hi => rfl); (case hg => rfl); (case hn => rfl); (case hq => kernel_rfl)) | (apply dpn 41; (case hi => rfl); (case hg => rfl); (case hn => rfl); (case hq => kernel_rfl)) | (apply dtg 41; (case hi => rfl); (case hg => rfl); (case hop => first | (apply r_loadNo; (case hx => rfl); (case h => (repeat (fail))); (case hd => (repeat (fail))); (case hn => rfl)) | (apply r_load1; rfl; (apply Cell.own; (case h => (repeat (exact mhd _))); rfl)) | (apply r_loadN; rfl; (apply CellsAt.own; (case h => (repeat (fail)))); rfl)); (case hq => kernel_rfl)) | fail)
    all_goals (try (apply d_guardB 42; (case hi => rfl); (case hgd => rfl); (case h1 => rfl); (case h2 => rfl); all_goals (intro h; (try simp only [reduceCtorEq, zzz] at h))))
    all_goals (first | (apply dpa 42; (case hi => rfl); (case hg => rfl); (case hn => rfl); (case hq => kernel_rfl)) | (apply dpn 42; (case hi => rfl); (case hg => rfl); (case hn => rfl); (case hq => kernel_rfl)) | (apply dtg 42; (case hi => rfl); (case hg => rfl); (case hop => (apply prd; apply p_ne <;> rfl)); (case hq => kernel_rfl)) | fail)
    all_goals (try (apply d_guardB 43; (case hi => rfl); (case hgd => rfl); (case h1 => rfl); (case h2 => rfl); all_goals (intro h; (try simp only [reduceCtorEq, zzz] at h))))
    all_goals (first | (apply dpa 43; (case hi => rfl); (case hg => rfl); (case hn => rfl); (case hq => kernel_rfl)) | (apply dtg 43; (case hi => rfl); (case hg => rfl); (case hop => first | (apply prd; apply p_pickT <;> rfl) | (apply prd; apply p_pickF <;> rfl) | fail); (case hq => kernel_rfl)) | fail)
    all_goals (apply dtk 44; (case hi => rfl); (case hop => first | (apply prd; apply p_pickT <;> rfl) | (apply prd; apply p_pickF <;> rfl) | fail); (case hq => kernel_rfl))
    all_goals (apply dtk 45; (case hi => rfl); (case hop => (apply prd; apply p_move <;> rfl)); (case hq => kernel_rfl))
    all_goals (try (apply d_guardB 46; (case hi => rfl); (case hgd => rfl); (case h1 => rfl); (case h2 => rfl); all_goals (intro h; (try simp only [reduceCtorEq, zzz] at h))))
    all_goals (first | (apply dpa 46; (case hi => rfl); (case hg => rfl); (case hn => rfl); (case hq => kernel_rfl)) | (apply dtg 46; (case hi => rfl); (case hg => rfl); (case hop => (apply prd; apply p_move <;> rfl)); (case hq => kernel_rfl)) | fail)
    all_goals (try (apply d_guardB 47; (case hi => rfl); (case hgd => rfl); (case h1 => rfl); (case h2 => rfl); all_goals (intro h; (try simp only [reduceCtorEq, zzz] at h))))
    all_goals (first | (apply dpa 47; (case hi => rfl); (case hg => rfl); (case hn => rfl); (case hq => kernel_rfl)) | (apply d_callJG 47 (hs := q101); (case hi => rfl); (case hg => rfl); (case hr => kernel_rfl); (case ha => rfl); (case hd => rfl)) | fail)
    all_goals (try (apply d_guardB 48; (case hi => rfl); (case hgd => rfl); (case h1 => rfl); (case h2 => rfl); all_goals (intro h; (try simp only [reduceCtorEq, zzz] at h))))
    all_goals (first | (apply dpa 48; (case hi => rfl); (case hg => rfl); (case hn => rfl); (case hq => kernel_rfl)) | (apply dtg 48; (case hi => rfl); (case hg => rfl); (case hop => (apply prd; apply p_not <;> rfl)); (case hq => kernel_rfl)) | fail)
    all_goals (try (apply d_guardB 49; (case hi => rfl); (case hgd => rfl); (case h1 => rfl); (case h2 => rfl); all_goals (intro h; (try simp only [reduceCtorEq, zzz] at h))))
    all_goals (first | (apply dpa 49; (case hi => rfl); (case hg => rfl); (case hn => rfl); (case hq => kernel_rfl)) | (apply dtg 49; (case hi => rfl); (case hg => rfl); (case hop => (apply prd; apply p_move <;> rfl)); (case hq => kernel_rfl)) | fail)
    all_goals (try (apply d_guardB 50; (case hi => rfl); (case hgd => rfl); (case h1 => rfl); (case h2 => rfl); all_goals (intro h; (try simp only [reduceCtorEq, zzz] at h))))
    all_goals (first | (apply dpa 50; (case hi => rfl); (case hg => rfl); (case hn => rfl); (case hq => kernel_rfl)) | (apply dpn 50; (case hi => rfl); (case hg => rfl); (case hn => rfl); (case hq => kernel_rfl)) | (apply dtg 50; (case hi => rfl); (case hg => rfl); (case hop => (apply prd; apply p_fieldAddrB <;> rfl)); (case hq => kernel_rfl)) | fail)
    all_goals (try (apply d_guardB 51; (case hi => rfl); (case hgd => rfl); (case h1 => rfl); (case h2 => rfl); all_goals (intro h; (try simp only [reduceCtorEq, zzz] at h))))
    all_goals (first | (apply dpa 51; (case hi => rfl); (case hg => rfl); (case hn => rfl); (case hq => kernel_rfl)) | (apply dpn 51; (case hi => rfl); (case hg => rfl); (case hn => rfl); (case hq => kernel_rfl)) | (apply dtg 51; (case hi => rfl); (case hg => rfl); (case hop => first | (apply r_loadNo; (case hx => rfl); (case h => (repeat (fail))); (case hd => (repeat (fail))); (case hn => rfl)) | (apply r_load1; rfl; (apply Cell.own; (case h => (repeat (exact mhd _))); rfl)) | (apply r_loadN; rfl; (apply CellsAt.own; (case h => (repeat (fail)))); rfl)); (case hq => kernel_rfl)) | fail)
    all_goals (try (apply d_guardB 52; (case hi => rfl); (case hgd => rfl); (case h1 => rfl); (case h2 => rfl); all_goals (intro h; (try simp only [reduceCtorEq, zzz] at h))))
    all_goals (first | (apply dpa 52; (case hi => rfl); (case hg => rfl); (case hn => rfl); (case hq => kernel_rfl)) | (apply dpn 52; (case hi => rfl); (case hg => rfl); (case hn => rfl); (case hq => kernel_rfl)) | (apply dtg 52; (case hi => rfl); (case hg => rfl); (case hop => (apply prd; apply p_lenSlice <;> rfl)); (case hq => kernel_rfl)) | fail)
    all_goals (try (apply d_guardB 53; (case hi => rfl); (case hgd => rfl); (case h1 => rfl); (case h2 => rfl); all_goals (intro h; (try simp only [reduceCtorEq, zzz] at h))))
    all_goals (first | (apply dpa 53; (case hi => rfl); (case hg => rfl); (case hn => rfl); (case hq => kernel_rfl)) | (apply dpn 53; (case hi => rfl); (case hg => rfl); (case hn => rfl); (case hq => kernel_rfl)) | (apply dtg 53; (case hi => rfl); (case hg => rfl); (case hop => (apply prd; apply p_gt <;> rfl)); (case hq => kernel_rfl)) | fail)
    all_goals (try (apply d_guardB 54; (case hi => rfl); (case hgd => rfl); (case h1 => rfl); (case h2 => rfl); all_goals (intro h; (try simp only [reduceCtorEq, zzz] at h))))
    all_goals (first | (apply dpa 54; (case hi => rfl); (case hg => rfl); (case hn => rfl); (case hq => kernel_rfl)) | (apply dtg 54; (case hi => rfl); (case hg => rfl); (case hop => first | (apply prd; apply p_pickT <;> rfl) | (apply prd; apply p_pickF <;> rfl) | fail); (case hq => kernel_rfl)) | fail)
    all_goals (apply dtk 55; (case hi => rfl); (case hop => first | (apply prd; apply p_pickT <;> rfl) | (apply prd; apply p_pickF <;> rfl) | fail); (case hq => kernel_rfl))
    all_goals (apply dtk 56; (case hi => rfl); (case hop => (apply prd; apply p_move <;> rfl)); (case hq => kernel_rfl))
    all_goals (try (apply d_guardB 57; (case hi => rfl); (case hgd => rfl); (case h1 => rfl); (case h2 => rfl); all_goals (intro h; (try simp only [reduceCtorEq, zzz] at h))))
    all_goals (first | (apply dpa 57; (case hi => rfl); (case hg => rfl); (case hn => rfl); (case hq => kernel_rfl)) | (apply dtg 57; (case hi => rfl); (case hg => rfl); (case hop => (apply prd; apply p_move <;> rfl)); (case hq => kernel_rfl)) | fail)
    all_goals (try (apply d_guardB 59; (case hi => rfl); (case hgd => rfl); (case h1 => rfl); (case h2 => rfl); all_goals (intro h; (try simp only [reduceCtorEq, zzz] at h))))
    all_goals (first | (apply dpa 59; (case hi => rfl); (case hg => rfl); (case hn => rfl); (case hq => kernel_rfl)) | (apply dtg 59; (case hi => rfl); (case hg => rfl); (case hop => (apply prd; apply p_fieldAddrB <;> rfl)); (case hq => kernel_rfl)) | fail)
    all_goals (try (apply d_guardB 60; (case hi => rfl); (case hgd => rfl); (case h1 => rfl); (case h2 => rfl); all_goals (intro h; (try simp only [reduceCtorEq, zzz] at h))))
    all_goals (first | (apply dpa 60; (case hi => rfl); (case hg => rfl); (case hn => rfl); (case hq => kernel_rfl)) | (apply dtg 60; (case hi => rfl); (case hg => rfl); (case hop => first | (apply r_loadNo; (case hx => rfl); (case h => (repeat (fail))); (case hd => (repeat (fail))); (case hn => rfl)) | (apply r_load1; rfl; (apply Cell.own; (case h => (repeat (exact mhd _))); rfl)) | (apply r_loadN; rfl; (apply CellsAt.own; (case h => (repeat (fail)))); rfl)); (case hq => kernel_rfl)) | fail)
    all_goals (try (apply d_guardB 61; (case hi => rfl); (case hgd => rfl); (case h1 => rfl); (case h2 => rfl); all_goals (intro h; (try simp only [reduceCtorEq, zzz] at h))))
    all_goals (first | (apply dpa 61; (case hi => rfl); (case hg => rfl); (case hn => rfl); (case hq => kernel_rfl)) | (apply dtg 61; (case hi => rfl); (case hg => rfl); (case hop => (apply prd; apply p_lenSlice <;> rfl)); (case hq => kernel_rfl)) | fail)
    all_goals (try (apply d_guardB 62; (case hi => rfl); (case hgd => rfl); (case h1 => rfl); (case h2 => rfl); all_goals (intro h; (try simp only [reduceCtorEq, zzz] at h))))
    all_goals (first | (apply dpa 62; (case hi => rfl); (case hg => rfl); (case hn => rfl); (case hq => kernel_rfl)) | (apply dtg 62; (case hi => rfl); (case hg => rfl); (case hop => (apply prd; apply p_gt <;> rfl)); (case hq => kernel_rfl)) | fail)
    all_goals (try (apply d_guardB 58; (case hi => rfl); (case hgd => rfl); (case h1 => rfl); (case h2 => rfl); all_goals (intro h; (try simp only [reduceCtorEq, zzz] at h))))
    all_goals (first | (apply dpa 58; (case hi => rfl); (case hg => rfl); (case hn => rfl); (case hq => kernel_rfl)) | (apply d_callJG 58 (hs := q109); (case hi => rfl); (case hg => rfl); (case hr => kernel_rfl); (case ha => rfl); (case hd => rfl)) | fail)
    all_goals (try (apply d_guardB 63; (case hi => rfl); (case hgd => rfl); (case h1 => rfl); (case h2 => rfl); all_goals (intro h; (try simp only [reduceCtorEq, zzz] at h))))
    all_goals (first | (apply dpa 63; (case hi => rfl); (case hg => rfl); (case hn => rfl); (case hq => kernel_rfl)) | (apply dtg 63; (case hi => rfl); (case hg => rfl); (case hop => (apply prd; apply p_neB <;> rfl)); (case hq => kernel_rfl)) | fail)
    all_goals (apply dtk 64; (case hi => rfl); (case hop => first | (apply prd; apply p_pickT <;> rfl) | (apply prd; apply p_pickF <;> rfl) | fail); (case hq => kernel_rfl))
    all_goals (apply d_done; (case hr => kernel_rfl))
    all_goals exact hk _ _ _ ⟨rfl, rfl, _, rfl, rfl, rfl, trivial⟩
  rintro σ1 G' _ ⟨hG', rfl, bq, hσ⟩
  subst G'
  refine v_has hσ ?_
  clear hσ q98 q105 q99 q118 q101 q109 ql qe qb
  apply v_cond
  · rfl
  · intro _
    repeat' (first | apply v_seq | apply v_region | apply v_nil | (apply v_pure; (case hop => (apply p_assign <;> rfl)); (case hd => rfl)) | fail)
    (refine v_ret [] (outsA1 rfl rfl) (by repeat (exact List.nil_sublist _)) ?_; exact ⟨rfl, rfl, _, rfl, fun h => absurd h h4⟩)
  intro _
  apply v_skip
  repeat apply v_seq
  refine d_start _ (by kernel_rfl) (by kernel_rfl) (by kernel_rfl) (fun _ he => he) ?_
  all_goals (apply dtk 0; (case hi => rfl); (case hop => (apply prd; apply p_move <;> rfl)); (case hq => kernel_rfl))
  all_goals (apply dtk 1; (case hi => rfl); (case hop => (apply prd; apply p_eq <;> rfl)); (case hq => kernel_rfl))
  all_goals (apply dtk 2; (case hi => rfl); (case hop => (apply prd; apply p_move <;> rfl)); (case hq => kernel_rfl))
  all_goals (try (apply d_guardB 3; (case hi => rfl); (case hgd => rfl); (case h1 => rfl); (case h2 => rfl); all_goals (intro h; (try simp only [reduceCtorEq, zzz] at h))))
  all_goals (first | (apply dpa 3; (case hi => rfl); (case hg => rfl); (case hn => rfl); (case hq => kernel_rfl)) | (apply dtg 3; (case hi => rfl); (case hg => rfl); (case hop => (apply prd; apply p_fieldAddrB <;> rfl)); (case hq => kernel_rfl)) | fail)
  all_goals (try (apply d_guardB 4; (case hi => rfl); (case hgd => rfl); (case h1 => rfl); (case h2 => rfl); all_goals (intro h; (try simp only [reduceCtorEq, zzz] at h))))
  all_goals (first | (apply dpa 4; (case hi => rfl); (case hg => rfl); (case hn => rfl); (case hq => kernel_rfl)) | (apply dtg 4; (case hi => rfl); (case hg => rfl); (case hop => (apply r_load1; rfl; (apply Cell.own; (case h => (repeat (exact mhd _))); rfl))); (case hq => kernel_rfl)) | fail)
  all_goals (try (apply d_guardB 5; (case hi => rfl); (case hgd => rfl); (case h1 => rfl); (case h2 => rfl); all_goals (intro h; (try simp only [reduceCtorEq, zzz] at h))))
  all_goals (first | (apply dpa 5; (case hi => rfl); (case hg => rfl); (case hn => rfl); (case hq => kernel_rfl)) | (apply dtg 5; (case hi => rfl); (case hg => rfl); (case hop => (apply prd; apply p_lenSlice <;> rfl)); (case hq => kernel_rfl)) | fail)
  all_goals (try (apply d_guardB 6; (case hi => rfl); (case hgd => rfl); (case h1 => rfl); (case h2 => rfl); all_goals (intro h; (try simp only [reduceCtorEq, zzz] at h))))
  all_goals (first | (apply dpa 6; (case hi => rfl); (case hg => rfl); (case hn => rfl); (case hq => kernel_rfl)) | (apply dtg 6; (case hi => rfl); (case hg => rfl); (case hop => (apply prd; apply p_ne <;> rfl)); (case hq => kernel_rfl)) | fail)
  all_goals (try (apply d_guardB 7; (case hi => rfl); (case hgd => rfl); (case h1 => rfl); (case h2 => rfl); all_goals (intro h; (try simp only [reduceCtorEq, zzz] at h))))
  all_goals (first | (apply dpa 7; (case hi => rfl); (case hg => rfl); (case hn => rfl); (case hq => kernel_rfl)) | (apply dtg 7; (case hi => rfl); (case hg => rfl); (case hop => (apply prd; apply p_move <;> rfl)); (case hq => kernel_rfl)) | fail)
  all_goals (try (apply d_guardB 8; (case hi => rfl); (case hgd => rfl); (case h1 => rfl); (case h2 => rfl); all_goals (intro h; (try simp only [reduceCtorEq, zzz] at h))))
  all_goals (first | (apply dpa 8; (case hi => rfl); (case hg => rfl); (case hn => rfl); (case hq => kernel_rfl)) | (apply dpn 8; (case hi => rfl); (case hg => rfl); (case hn => rfl); (case hq => kernel_rfl)) | (apply dtg 8; (case hi => rfl); (case hg => rfl); (case hop => (apply prd; apply p_fieldAddrB <;> rfl)); (case hq => kernel_rfl)) | fail)
  all_goals (try (apply d_guardB 9; (case hi => rfl); (case hgd => rfl); (case h1 => rfl); (case h2 => rfl); all_goals (intro h; (try simp only [reduceCtorEq, zzz] at h))))
  all_goals (first | (apply dpa 9; (case hi => rfl); (case hg => rfl); (case hn => rfl); (case hq => kernel_rfl)) | (apply dpn 9; (case hi => rfl); (case hg => rfl); (case hn => rfl); (case hq => kernel_rfl)) | (apply dtg 9; (case hi => rfl); (case hg => rfl); (case hop => (apply r_load1; rfl; (apply Cell.own; (case h => (repeat (exact mhd _))); rfl))); (case hq => kernel_rfl)) | fail)
  all_goals (try (apply d_guardB 10; (case hi => rfl); (case hgd => rfl); (case h1 => rfl); (case h2 => rfl); all_goals (intro h; (try simp only [reduceCtorEq, zzz] at h))))
  all_goals (first | (apply dpa 10; (case hi => rfl); (case hg => rfl); (case hn => rfl); (case hq => kernel_rfl)) | (apply dpn 10; (case hi => rfl); (case hg => rfl); (case hn => rfl); (case hq => kernel_rfl)) | (apply dtg 10; (case hi => rfl); (case hg => rfl); (case hop => (apply prd; apply p_indexAddrS; (case hx => rfl); (case hi => rfl); (case h0 => omega); (case h => omega); (case hA => (apply_assumption; omega)))); (case hq => kernel_rfl)) | fail)
  all_goals (try (apply d_guardB 11; (case hi => rfl); (case hgd => rfl); (case h1 => rfl); (case h2 => rfl); all_goals (intro h; (try simp only [reduceCtorEq, zzz] at h))))
  all_goals (first | (apply dpa 11; (case hi => rfl); (case hg => rfl); (case hn => rfl); (case hq => kernel_rfl)) | (apply dpn 11; (case hi => rfl); (case hg => rfl); (case hn => rfl); (case hq => kernel_rfl)) | (apply dtg 11; (case hi => rfl); (case hg => rfl); (case hop => (apply prd; apply p_fieldAddr <;> rfl)); (case hq => kernel_rfl)) | fail)
  all_goals (try (apply d_guardB 12; (case hi => rfl); (case hgd => rfl); (case h1 => rfl); (case h2 => rfl); all_goals (intro h; (try simp only [reduceCtorEq, zzz] at h))))
  all_goals (first | (apply dpa 12; (case hi => rfl); (case hg => rfl); (case hn => rfl); (case hq => kernel_rfl)) | (apply dpn 12; (case hi => rfl); (case hg => rfl); (case hn => rfl); (case hq => kernel_rfl)) | (apply dtg 12; (case hi => rfl); (case hg => rfl); (case hop => ((apply r_loadN; rfl; exact CellsAt.frozen (hb0 (by omega)); rfl))); (case hq => kernel_rfl)) | fail)
  all_goals (try (apply d_guardB 13; (case hi => rfl); (case hgd => rfl); (case h1 => rfl); (case h2 => rfl); all_goals (intro h; (try simp only [reduceCtorEq, zzz] at h))))
  all_goals (first | (apply dpa 13; (case hi => rfl); (case hg => rfl); (case hn => rfl); (case hq => kernel_rfl)) | (apply dpn 13; (case hi => rfl); (case hg => rfl); (case hn => rfl); (case hq => kernel_rfl)) | (apply dtg 13; (case hi => rfl); (case hg => rfl); (case hop => (apply prd; apply p_fieldAddrB <;> rfl)); (case hq => kernel_rfl)) | fail)
  all_goals (try (apply d_guardB 14; (case hi => rfl); (case hgd => rfl); (case h1 => rfl); (case h2 => rfl); all_goals (intro h; (try simp only [reduceCtorEq, zzz] at h))))
  all_goals (first | (apply dpa 14; (case hi => rfl); (case hg => rfl); (case hn => rfl); (case hq => kernel_rfl)) | (apply dpn 14; (case hi => rfl); (case hg => rfl); (case hn => rfl); (case hq => kernel_rfl)) | (apply dtg 14; (case hi => rfl); (case hg => rfl); (case hop => (apply r_loadNo; (case hx => rfl); (case h => (repeat (exact mhd _))); (case hd => (repeat (first | with_reducible exact dt_nil | apply dt_here))); (case hn => rfl))); (case hq => kernel_rfl)) | fail)
  all_goals (try (apply d_guardB 15; (case hi => rfl); (case hgd => rfl); (case h1 => rfl); (case h2 => rfl); all_goals (intro h; (try simp only [reduceCtorEq, zzz] at h))))
  all_goals (first | (apply dpa 15; (case hi => rfl); (case hg => rfl); (case hn => rfl); (case hq => kernel_rfl)) | (apply dpn 15; (case hi => rfl); (case hg => rfl); (case hn => rfl); (case hq => kernel_rfl)) | (apply dtg 15; (case hi => rfl); (case hg => rfl); (case hop => ((apply prd; apply neBal; (case hx => rfl); (case hy => rfl)))); (case hq => kernel_rfl)) | fail)
  all_goals (try (apply d_guardB 16; (case hi => rfl); (case hgd => rfl); (case h1 => rfl); (case h2 => rfl); all_goals (intro h; (try simp only [reduceCtorEq, zzz] at h))))
  all_goals (first | (apply dpa 16; (case hi => rfl); (case hg => rfl); (case hn => rfl); (case hq => kernel_rfl)) | (apply dtg 16; (case hi => rfl); (case hg => rfl); (case hop => first | (apply prd; apply p_pickT <;> rfl) | (apply prd; apply p_pickF <;> rfl) | fail); (case hq => kernel_rfl)) | fail)
  all_goals (apply dtk 17; (case hi => rfl); (case hop => first | (apply prd; apply p_pickT <;> rfl) | (apply prd; apply p_pickF <;> rfl) | fail); (case hq => kernel_rfl))
  all_goals (apply d_done; (case hr => kernel_rfl))
  all_goals repeat' (first | apply v_seq | apply v_region | apply v_nil | apply v_skip | (apply v_pure; (case hop => (apply p_assign <;> rfl)); (case hd => rfl)) | (apply v_condT; (case hc => rfl)) | (apply v_condF; (case hc => rfl)) | (apply v_cond; (case hc => rfl); all_goals (intro h; (try simp only [reduceCtorEq, zzz] at h))) | fail)
  all_goals (refine v_ret [] (outsA1 rfl rfl) (by repeat (exact List.nil_sublist _)) ?_; exact ⟨rfl, rfl, _, rfl, fun h => absurd h h4⟩)
end Go.Proofs.YtmdeeokejdkceaaGreatDoor
