/-
  conf (layer 11), the second part: what may be, by the reference; the place of an index; clones.
-/
import Derived.Test.YtmdeeokejdkceaaGreatDoorM5
import VxDev
import Derived.Test.YtmdeeokejdkceaaGreatDoorM3
import Derived.Test.YtmdeeokejdkceaaGreatDoorM1
import Derived.Test.YtmdeeokejdkceaaGreatDoorRows
import Derived.Test.YtmdeeokejdkceaaGreatDoorChecked
import Derived.JoinedOf
import Derived.SevenTiedAt
import Derived.LaidMore
import Derived.Lay
import Derived.Test.YtmdeeokejdkceaaGreatDoorTie
import Derived.Test.YtmdeeokejdkceaaGreatDoorCards
import Derived.Stop.Joined
set_option linter.unusedSimpArgs false
set_option linter.unusedVariables false
namespace Go.Proofs.YtmdeeokejdkceaaGreatDoor
open Go.Vx Go.ChangeShapes Go.WideShapes Go.ChangeAt Go.RowKit
set_option maxHeartbeats 1000000 in
theorem refConfCheck_s {G : GH} {l : List Co} {sv : Value} (hs : Cos G sv l) : Con Tryz.prog 30 #[sv] G [] (Just (.bool (decide (ConfOK l))) G) := by
  obtain ⟨A, c, mA, mc, rfl, hlc, hcm, hsome, hcp, hc0, hc1, hmv, hwf⟩ := coOpen hs
  simp only [maxLen] at hcm
  (refine v_enter Tryz.func30 rfl Tryz.ntmps30 rfl ?_; intro B _)
  repeat' (first | apply v_seq | apply v_region | apply v_nil | apply v_skip | apply v_block | (apply v_take; (case hg => rfl)) | (apply v_pass; (case hg => rfl); (case hn => rfl); (case hd => rfl)) | (apply v_pure; (case hop => first | (apply p_move <;> rfl) | (apply p_eq <;> rfl) | (apply p_ne <;> rfl) | (apply p_assign <;> rfl) | (apply p_pickT <;> rfl) | (apply p_pickF <;> rfl) | (apply p_lenSlice <;> rfl) | (apply p_fieldAddr <;> rfl) | (apply p_indexAddrS; (case hx => rfl); (case hi => rfl); (case h0 => omega); (case h => omega); (case hA => (apply_assumption; omega))) | fail); (case hd => rfl)) | (apply v_condT; (case hc => rfl)) | (apply v_cond; (case hc => rfl); all_goals (intro h; (try simp only [reduceCtorEq, zzz] at h))) | (apply v_guardB; (case h1 => rfl); (case h2 => rfl); all_goals (intro h; (try simp only [reduceCtorEq, zzz] at h))) | (apply v_read; (case hop => (apply r_load1; rfl; exact Cell.frozen (hc0 _ (by omega)))); (case hd => rfl)) | fail)
  · refine v_ret [] (outsA1 rfl rfl) (by repeat (exact List.Sublist.refl _)) ?_
    refine ⟨?_, rfl, rfl⟩
    rw [decide_eq_false]
    rintro ⟨⟨h0, _⟩, _⟩
    omega
  · refine v_ret [] (outsA1 rfl rfl) (by repeat (exact List.Sublist.refl _)) ?_
    refine ⟨?_, rfl, rfl⟩
    rw [decide_eq_false]
    rintro ⟨⟨_, h0⟩, _⟩
    contradiction
  refine v_loop [3, 0] (fun us G' μ' => G' = G ∧ μ' = [] ∧ ∃ k, k ≤ l.length ∧ us = [Value.int .i64 (k : Nat), .slice A l.length c] ∧ ∀ i (h : i < l.length), i < k → MemOK l[i].2 ∧ l[i].1 ≤ 4294967296 ∧ (0 < i → l[i - 1].1 < l[i].1)) (fun us => l.length - (headI us).toNat) rfl ⟨rfl, rfl, 0, by omega, rfl, by omega⟩ ?_
  rintro us G' μ' ⟨rfl, rfl, k, hk, rfl, hno⟩
  have e1 : ((k : Nat) : Int).toNat = k := by omega
  have e2 : (((k : Nat) : Int) - 1).toNat = k - 1 := by omega
  repeat' (first | apply v_seq | apply v_region | apply v_nil | apply v_skip | apply v_block | (apply v_exit; (case hp => rfl)) | (apply v_pure; (case hop => first | (apply p_move <;> rfl) | (apply p_lt <;> rfl) | (apply p_assign <;> rfl) | (apply p_lenSlice <;> rfl) | (apply p_fieldAddr <;> rfl) | (apply p_indexAddrS; (case hx => rfl); (case hi => rfl); (case h0 => omega); (case h => omega); (case hA => (apply_assumption; omega))) | fail); (case hd => rfl)) | (apply v_cond; (case hc => rfl); all_goals (intro h; (try simp only [reduceCtorEq, zzz] at h))) | (apply v_read; (case hop => (apply r_load1; rfl; exact Cell.frozen (hc1 _ (by omega)))); (case hd => rfl)) | fail)
  · have hlt : k < l.length := by omega
    refine d_start [] (by kernel_rfl) (by kernel_rfl) (by kernel_rfl) (by intro e he; exact he) ?_
    all_goals (apply dtk 0; (case hi => rfl); (case hop => (apply prd; apply p_move <;> rfl)); (case hq => kernel_rfl))
    all_goals (apply dtk 1; (case hi => rfl); (case hop => (apply prd; apply p_lenSlice <;> rfl)); (case hq => kernel_rfl))
    all_goals (apply dtk 2; (case hi => rfl); (case hop => (apply prd; apply p_eq <;> rfl)); (case hq => kernel_rfl))
    all_goals (apply dtk 3; (case hi => rfl); (case hop => (apply prd; apply p_move <;> rfl)); (case hq => kernel_rfl))
    all_goals (try (apply d_guardB 4; (case hi => rfl); (case hgd => rfl); (case h1 => rfl); (case h2 => rfl); all_goals (intro h; (try simp only [reduceCtorEq, zzz] at h))))
    all_goals (first | (apply dpa 4; (case hi => rfl); (case hg => rfl); (case hn => rfl); (case hq => kernel_rfl)) | (apply dtg 4; (case hi => rfl); (case hg => rfl); (case hop => (apply prd; apply p_move <;> rfl)); (case hq => kernel_rfl)) | fail)
    all_goals (try (apply d_guardB 5; (case hi => rfl); (case hgd => rfl); (case h1 => rfl); (case h2 => rfl); all_goals (intro h; (try simp only [reduceCtorEq, zzz] at h))))
    all_goals (first | (apply dpa 5; (case hi => rfl); (case hg => rfl); (case hn => rfl); (case hq => kernel_rfl)) | (apply dtg 5; (case hi => rfl); (case hg => rfl); (case hop => (apply prd; apply p_move <;> rfl)); (case hq => kernel_rfl)) | fail)
    all_goals (try (apply d_guardB 6; (case hi => rfl); (case hgd => rfl); (case h1 => rfl); (case h2 => rfl); all_goals (intro h; (try simp only [reduceCtorEq, zzz] at h))))
    all_goals (first | (apply dpa 6; (case hi => rfl); (case hg => rfl); (case hn => rfl); (case hq => kernel_rfl)) | (apply dtg 6; (case hi => rfl); (case hg => rfl); (case hop => (apply prd; apply p_indexAddrS; (case hx => rfl); (case hi => rfl); (case h0 => omega); (case h => omega); (case hA => (apply_assumption; omega)))); (case hq => kernel_rfl)) | fail)
    all_goals (try (apply d_guardB 7; (case hi => rfl); (case hgd => rfl); (case h1 => rfl); (case h2 => rfl); all_goals (intro h; (try simp only [reduceCtorEq, zzz] at h))))
    all_goals (first | (apply dpa 7; (case hi => rfl); (case hg => rfl); (case hn => rfl); (case hq => kernel_rfl)) | (apply dtg 7; (case hi => rfl); (case hg => rfl); (case hop => (apply prd; apply p_fieldAddr <;> rfl)); (case hq => kernel_rfl)) | fail)
    all_goals (try (apply d_guardB 8; (case hi => rfl); (case hgd => rfl); (case h1 => rfl); (case h2 => rfl); all_goals (intro h; (try simp only [reduceCtorEq, zzz] at h))))
    all_goals (first | (apply dpa 8; (case hi => rfl); (case hg => rfl); (case hn => rfl); (case hq => kernel_rfl)) | (apply dtg 8; (case hi => rfl); (case hg => rfl); (case hop => ((apply r_load1; rfl; exact Cell.frozen (hc0 _ (by omega))))); (case hq => kernel_rfl)) | fail)
    all_goals (try (apply d_guardB 9; (case hi => rfl); (case hgd => rfl); (case h1 => rfl); (case h2 => rfl); all_goals (intro h; (try simp only [reduceCtorEq, zzz] at h))))
    all_goals (first | (apply dpa 9; (case hi => rfl); (case hg => rfl); (case hn => rfl); (case hq => kernel_rfl)) | (apply dtg 9; (case hi => rfl); (case hg => rfl); (case hop => (apply prd; apply p_gt <;> rfl)); (case hq => kernel_rfl)) | fail)
    all_goals (apply dtk 10; (case hi => rfl); (case hop => first | (apply prd; apply p_pickT <;> rfl) | (apply prd; apply p_pickF <;> rfl) | fail); (case hq => kernel_rfl))
    all_goals (apply dtk 11; (case hi => rfl); (case hop => (apply prd; apply p_move <;> rfl)); (case hq => kernel_rfl))
    all_goals (try (apply d_guardB 12; (case hi => rfl); (case hgd => rfl); (case h1 => rfl); (case h2 => rfl); all_goals (intro h; (try simp only [reduceCtorEq, zzz] at h))))
    all_goals (first | (apply dpa 12; (case hi => rfl); (case hg => rfl); (case hn => rfl); (case hq => kernel_rfl)) | (apply dtg 12; (case hi => rfl); (case hg => rfl); (case hop => (apply prd; apply p_move <;> rfl)); (case hq => kernel_rfl)) | fail)
    all_goals (try (apply d_guardB 13; (case hi => rfl); (case hgd => rfl); (case h1 => rfl); (case h2 => rfl); all_goals (intro h; (try simp only [reduceCtorEq, zzz] at h))))
    all_goals (first | (apply dpa 13; (case hi => rfl); (case hg => rfl); (case hn => rfl); (case hq => kernel_rfl)) | (apply dtg 13; (case hi => rfl); (case hg => rfl); (case hop => (apply prd; apply p_gt <;> rfl)); (case hq => kernel_rfl)) | fail)
    all_goals (try (apply d_guardB 14; (case hi => rfl); (case hgd => rfl); (case h1 => rfl); (case h2 => rfl); all_goals (intro h; (try simp only [reduceCtorEq, zzz] at h))))
    all_goals (first | (apply dpa 14; (case hi => rfl); (case hg => rfl); (case hn => rfl); (case hq => kernel_rfl)) | (apply dtg 14; (case hi => rfl); (case hg => rfl); (case hop => (apply prd; apply p_move <;> rfl)); (case hq => kernel_rfl)) | fail)
    all_goals (try (apply d_guardB 15; (case hi => rfl); (case hgd => rfl); (case h1 => rfl); (case h2 => rfl); all_goals (intro h; (try simp only [reduceCtorEq, zzz] at h))))
    all_goals (first | (apply dpa 15; (case hi => rfl); (case hg => rfl); (case hn => rfl); (case hq => kernel_rfl)) | (apply dpn 15; (case hi => rfl); (case hg => rfl); (case hn => rfl); (case hq => kernel_rfl)) | (apply dtg 15; (case hi => rfl); (case hg => rfl); (case hop => (apply prd; apply p_move <;> rfl)); (case hq => kernel_rfl)) | fail)
    all_goals (try (apply d_guardB 16; (case hi => rfl); (case hgd => rfl); (case h1 => rfl); (case h2 => rfl); all_goals (intro h; (try simp only [reduceCtorEq, zzz] at h))))
    all_goals (first | (apply dpa 16; (case hi => rfl); (case hg => rfl); (case hn => rfl); (case hq => kernel_rfl)) | (apply dpn 16; (case hi => rfl); (case hg => rfl); (case hn => rfl); (case hq => kernel_rfl)) | (apply dtg 16; (case hi => rfl); (case hg => rfl); (case hop => (apply prd; apply p_move <;> rfl)); (case hq => kernel_rfl)) | fail)
    all_goals (try (apply d_guardB 17; (case hi => rfl); (case hgd => rfl); (case h1 => rfl); (case h2 => rfl); all_goals (intro h; (try simp only [reduceCtorEq, zzz] at h))))
    all_goals (first | (apply dpa 17; (case hi => rfl); (case hg => rfl); (case hn => rfl); (case hq => kernel_rfl)) | (apply dpn 17; (case hi => rfl); (case hg => rfl); (case hn => rfl); (case hq => kernel_rfl)) | (apply dtg 17; (case hi => rfl); (case hg => rfl); (case hop => (apply prd; apply p_indexAddrS; (case hx => rfl); (case hi => rfl); (case h0 => omega); (case h => omega); (case hA => (apply_assumption; omega)))); (case hq => kernel_rfl)) | fail)
    all_goals (try (apply d_guardB 18; (case hi => rfl); (case hgd => rfl); (case h1 => rfl); (case h2 => rfl); all_goals (intro h; (try simp only [reduceCtorEq, zzz] at h))))
    all_goals (first | (apply dpa 18; (case hi => rfl); (case hg => rfl); (case hn => rfl); (case hq => kernel_rfl)) | (apply dpn 18; (case hi => rfl); (case hg => rfl); (case hn => rfl); (case hq => kernel_rfl)) | (apply dtg 18; (case hi => rfl); (case hg => rfl); (case hop => (apply prd; apply p_fieldAddr <;> rfl)); (case hq => kernel_rfl)) | fail)
    all_goals (try (apply d_guardB 19; (case hi => rfl); (case hgd => rfl); (case h1 => rfl); (case h2 => rfl); all_goals (intro h; (try simp only [reduceCtorEq, zzz] at h))))
    all_goals (first | (apply dpa 19; (case hi => rfl); (case hg => rfl); (case hn => rfl); (case hq => kernel_rfl)) | (apply dpn 19; (case hi => rfl); (case hg => rfl); (case hn => rfl); (case hq => kernel_rfl)) | (apply dtg 19; (case hi => rfl); (case hg => rfl); (case hop => ((apply r_load1; rfl; exact Cell.frozen (hc0 _ (by omega))))); (case hq => kernel_rfl)) | fail)
    all_goals (try (apply d_guardB 20; (case hi => rfl); (case hgd => rfl); (case h1 => rfl); (case h2 => rfl); all_goals (intro h; (try simp only [reduceCtorEq, zzz] at h))))
    all_goals (first | (apply dpa 20; (case hi => rfl); (case hg => rfl); (case hn => rfl); (case hq => kernel_rfl)) | (apply dpn 20; (case hi => rfl); (case hg => rfl); (case hn => rfl); (case hq => kernel_rfl)) | (apply dtg 20; (case hi => rfl); (case hg => rfl); (case hop => (apply prd; apply p_move <;> rfl)); (case hq => kernel_rfl)) | fail)
    all_goals (try (apply d_guardB 21; (case hi => rfl); (case hgd => rfl); (case h1 => rfl); (case h2 => rfl); all_goals (intro h; (try simp only [reduceCtorEq, zzz] at h))))
    all_goals (first | (apply dpa 21; (case hi => rfl); (case hg => rfl); (case hn => rfl); (case hq => kernel_rfl)) | (apply dpn 21; (case hi => rfl); (case hg => rfl); (case hn => rfl); (case hq => kernel_rfl)) | (apply dtg 21; (case hi => rfl); (case hg => rfl); (case hop => (apply prd; apply p_move <;> rfl)); (case hq => kernel_rfl)) | fail)
    all_goals (try (apply d_guardB 22; (case hi => rfl); (case hgd => rfl); (case h1 => rfl); (case h2 => rfl); all_goals (intro h; (try simp only [reduceCtorEq, zzz] at h))))
    all_goals (first | (apply dpa 22; (case hi => rfl); (case hg => rfl); (case hn => rfl); (case hq => kernel_rfl)) | (apply dpn 22; (case hi => rfl); (case hg => rfl); (case hn => rfl); (case hq => kernel_rfl)) | (apply dtg 22; (case hi => rfl); (case hg => rfl); (case hop => (apply prd; apply p_sub; (case hx => rfl); (case hy => rfl); (case h => omega))); (case hq => kernel_rfl)) | fail)
    all_goals (try (apply d_guardB 23; (case hi => rfl); (case hgd => rfl); (case h1 => rfl); (case h2 => rfl); all_goals (intro h; (try simp only [reduceCtorEq, zzz] at h))))
    all_goals (first | (apply dpa 23; (case hi => rfl); (case hg => rfl); (case hn => rfl); (case hq => kernel_rfl)) | (apply dpn 23; (case hi => rfl); (case hg => rfl); (case hn => rfl); (case hq => kernel_rfl)) | (apply dtg 23; (case hi => rfl); (case hg => rfl); (case hop => (apply prd; apply p_indexAddrS; (case hx => rfl); (case hi => rfl); (case h0 => omega); (case h => omega); (case hA => (apply_assumption; omega)))); (case hq => kernel_rfl)) | fail)
    all_goals (try (apply d_guardB 24; (case hi => rfl); (case hgd => rfl); (case h1 => rfl); (case h2 => rfl); all_goals (intro h; (try simp only [reduceCtorEq, zzz] at h))))
    all_goals (first | (apply dpa 24; (case hi => rfl); (case hg => rfl); (case hn => rfl); (case hq => kernel_rfl)) | (apply dpn 24; (case hi => rfl); (case hg => rfl); (case hn => rfl); (case hq => kernel_rfl)) | (apply dtg 24; (case hi => rfl); (case hg => rfl); (case hop => (apply prd; apply p_fieldAddr <;> rfl)); (case hq => kernel_rfl)) | fail)
    all_goals (try (apply d_guardB 25; (case hi => rfl); (case hgd => rfl); (case h1 => rfl); (case h2 => rfl); all_goals (intro h; (try simp only [reduceCtorEq, zzz] at h))))
    all_goals (first | (apply dpa 25; (case hi => rfl); (case hg => rfl); (case hn => rfl); (case hq => kernel_rfl)) | (apply dpn 25; (case hi => rfl); (case hg => rfl); (case hn => rfl); (case hq => kernel_rfl)) | (apply dtg 25; (case hi => rfl); (case hg => rfl); (case hop => ((apply r_load1; rfl; exact Cell.frozen (hc0 _ (by omega))))); (case hq => kernel_rfl)) | fail)
    all_goals (try (apply d_guardB 26; (case hi => rfl); (case hgd => rfl); (case h1 => rfl); (case h2 => rfl); all_goals (intro h; (try simp only [reduceCtorEq, zzz] at h))))
    all_goals (first | (apply dpa 26; (case hi => rfl); (case hg => rfl); (case hn => rfl); (case hq => kernel_rfl)) | (apply dpn 26; (case hi => rfl); (case hg => rfl); (case hn => rfl); (case hq => kernel_rfl)) | (apply dtg 26; (case hi => rfl); (case hg => rfl); (case hop => (apply prd; apply p_le <;> rfl)); (case hq => kernel_rfl)) | fail)
    all_goals (try (apply d_guardB 27; (case hi => rfl); (case hgd => rfl); (case h1 => rfl); (case h2 => rfl); all_goals (intro h; (try simp only [reduceCtorEq, zzz] at h))))
    all_goals (first | (apply dpa 27; (case hi => rfl); (case hg => rfl); (case hn => rfl); (case hq => kernel_rfl)) | (apply dtg 27; (case hi => rfl); (case hg => rfl); (case hop => first | (apply prd; apply p_pickT <;> rfl) | (apply prd; apply p_pickF <;> rfl) | fail); (case hq => kernel_rfl)) | fail)
    all_goals (apply dtk 28; (case hi => rfl); (case hop => first | (apply prd; apply p_pickT <;> rfl) | (apply prd; apply p_pickF <;> rfl) | fail); (case hq => kernel_rfl))
    all_goals (apply d_done; (case hr => kernel_rfl))
    repeat' (first | apply v_seq | apply v_region | apply v_nil | apply v_skip | apply v_block | (apply v_pure; (case hop => (apply p_assign <;> rfl)); (case hd => rfl)) | (apply v_condT; (case hc => rfl)) | (apply v_condF; (case hc => rfl)) | (apply v_cond; (case hc => rfl); all_goals (intro h; (try simp only [reduceCtorEq, zzz] at h))) | fail)
    all_goals try
      (refine v_ret [] (outsA1 rfl rfl) (by repeat (exact List.Sublist.refl _)) ?_
       refine ⟨?_, rfl, rfl⟩
       rw [decide_eq_false]
       rintro ⟨_, hm⟩
       obtain ⟨⟨q1, q0⟩, q2, q3⟩ := hm k (by omega)
       simp only [e1, e2] at *
       omega)
    all_goals
      (have hne : ¬ ((l[k].2.length : Int) = 0) := by assumption
       obtain ⟨A', c', he, hlc', hcm', hsome', hel', _⟩ := (hmv k hlt).openInt
       injection he with ea _ ec
       subst ea
       subst ec
       simp only [maxLen] at hcm'
       refine v_loop [5, 4, 3, 0] (fun us G'' μ' => G'' = G' ∧ μ' = [] ∧ ∃ j, j ≤ l[k].2.length ∧ us = [Value.int .i64 (j : Nat), .slice (mA k) l[k].2.length (mc k), .int .i64 (k : Nat), .slice A l.length c] ∧ ∀ i (h : i < l[k].2.length), i < j → 1 ≤ l[k].2[i] ∧ l[k].2[i] ≤ 9 ∧ (0 < i → l[k].2[i - 1] < l[k].2[i])) (fun us => l[k].2.length - (headI us).toNat) rfl ⟨rfl, rfl, 0, by omega, rfl, by omega⟩ ?_
       rintro us G'' μ' ⟨rfl, rfl, j, hj, rfl, hin⟩
       have e3 : ((j : Nat) : Int).toNat = j := by omega
       have e4 : (((j : Nat) : Int) - 1).toNat = j - 1 := by omega
       repeat' (first | apply v_seq | apply v_region | apply v_nil | apply v_skip | apply v_block | apply v_blk | (apply v_exit; (case hp => rfl)) | (apply v_pure; (case hop => first | (apply p_move <;> rfl) | (apply p_lt <;> rfl) | (apply p_assign <;> rfl) | (apply p_lenSlice <;> rfl) | (apply p_add; (case hx => rfl); (case hy => rfl); (case h => omega)) | fail); (case hd => rfl)) | (apply v_cond; (case hc => rfl); all_goals (intro h; (try simp only [reduceCtorEq, zzz] at h))) | fail)
       · refine d_start [] (by kernel_rfl) (by kernel_rfl) (by kernel_rfl) (by intro e he; exact he) ?_
         all_goals (apply dtk 0; (case hi => rfl); (case hop => (apply prd; apply p_move <;> rfl)); (case hq => kernel_rfl))
         all_goals (apply dtk 1; (case hi => rfl); (case hop => (apply prd; apply p_move <;> rfl)); (case hq => kernel_rfl))
         all_goals (apply dtk 2; (case hi => rfl); (case hop => (apply prd; apply p_indexAddrS; (case hx => rfl); (case hi => rfl); (case h0 => omega); (case h => omega); (case hA => (apply_assumption; omega)))); (case hq => kernel_rfl))
         all_goals (apply dtk 3; (case hi => rfl); (case hop => ((apply r_load1; rfl; exact Cell.frozen (hel' _ (by omega))))); (case hq => kernel_rfl))
         all_goals (apply dtk 4; (case hi => rfl); (case hop => (apply prd; apply p_lt <;> rfl)); (case hq => kernel_rfl))
         all_goals (apply dtk 5; (case hi => rfl); (case hop => (apply prd; apply p_move <;> rfl)); (case hq => kernel_rfl))
         all_goals (try (apply d_guardB 6; (case hi => rfl); (case hgd => rfl); (case h1 => rfl); (case h2 => rfl); all_goals (intro h; (try simp only [reduceCtorEq, zzz] at h))))
         all_goals (first | (apply dpa 6; (case hi => rfl); (case hg => rfl); (case hn => rfl); (case hq => kernel_rfl)) | (apply dtg 6; (case hi => rfl); (case hg => rfl); (case hop => (apply prd; apply p_move <;> rfl)); (case hq => kernel_rfl)) | fail)
         all_goals (try (apply d_guardB 7; (case hi => rfl); (case hgd => rfl); (case h1 => rfl); (case h2 => rfl); all_goals (intro h; (try simp only [reduceCtorEq, zzz] at h))))
         all_goals (first | (apply dpa 7; (case hi => rfl); (case hg => rfl); (case hn => rfl); (case hq => kernel_rfl)) | (apply dtg 7; (case hi => rfl); (case hg => rfl); (case hop => (apply prd; apply p_move <;> rfl)); (case hq => kernel_rfl)) | fail)
         all_goals (try (apply d_guardB 8; (case hi => rfl); (case hgd => rfl); (case h1 => rfl); (case h2 => rfl); all_goals (intro h; (try simp only [reduceCtorEq, zzz] at h))))
         all_goals (first | (apply dpa 8; (case hi => rfl); (case hg => rfl); (case hn => rfl); (case hq => kernel_rfl)) | (apply dtg 8; (case hi => rfl); (case hg => rfl); (case hop => (apply prd; apply p_indexAddrS; (case hx => rfl); (case hi => rfl); (case h0 => omega); (case h => omega); (case hA => (apply_assumption; omega)))); (case hq => kernel_rfl)) | fail)
         all_goals (try (apply d_guardB 9; (case hi => rfl); (case hgd => rfl); (case h1 => rfl); (case h2 => rfl); all_goals (intro h; (try simp only [reduceCtorEq, zzz] at h))))
         all_goals (first | (apply dpa 9; (case hi => rfl); (case hg => rfl); (case hn => rfl); (case hq => kernel_rfl)) | (apply dtg 9; (case hi => rfl); (case hg => rfl); (case hop => ((apply r_load1; rfl; exact Cell.frozen (hel' _ (by omega))))); (case hq => kernel_rfl)) | fail)
         all_goals (try (apply d_guardB 10; (case hi => rfl); (case hgd => rfl); (case h1 => rfl); (case h2 => rfl); all_goals (intro h; (try simp only [reduceCtorEq, zzz] at h))))
         all_goals (first | (apply dpa 10; (case hi => rfl); (case hg => rfl); (case hn => rfl); (case hq => kernel_rfl)) | (apply dtg 10; (case hi => rfl); (case hg => rfl); (case hop => (apply prd; apply p_gt <;> rfl)); (case hq => kernel_rfl)) | fail)
         all_goals (apply dtk 11; (case hi => rfl); (case hop => first | (apply prd; apply p_pickT <;> rfl) | (apply prd; apply p_pickF <;> rfl) | fail); (case hq => kernel_rfl))
         all_goals (apply dtk 12; (case hi => rfl); (case hop => (apply prd; apply p_move <;> rfl)); (case hq => kernel_rfl))
         all_goals (try (apply d_guardB 13; (case hi => rfl); (case hgd => rfl); (case h1 => rfl); (case h2 => rfl); all_goals (intro h; (try simp only [reduceCtorEq, zzz] at h))))
         all_goals (first | (apply dpa 13; (case hi => rfl); (case hg => rfl); (case hn => rfl); (case hq => kernel_rfl)) | (apply dtg 13; (case hi => rfl); (case hg => rfl); (case hop => (apply prd; apply p_move <;> rfl)); (case hq => kernel_rfl)) | fail)
         all_goals (try (apply d_guardB 14; (case hi => rfl); (case hgd => rfl); (case h1 => rfl); (case h2 => rfl); all_goals (intro h; (try simp only [reduceCtorEq, zzz] at h))))
         all_goals (first | (apply dpa 14; (case hi => rfl); (case hg => rfl); (case hn => rfl); (case hq => kernel_rfl)) | (apply dtg 14; (case hi => rfl); (case hg => rfl); (case hop => (apply prd; apply p_gt <;> rfl)); (case hq => kernel_rfl)) | fail)
         all_goals (try (apply d_guardB 15; (case hi => rfl); (case hgd => rfl); (case h1 => rfl); (case h2 => rfl); all_goals (intro h; (try simp only [reduceCtorEq, zzz] at h))))
         all_goals (first | (apply dpa 15; (case hi => rfl); (case hg => rfl); (case hn => rfl); (case hq => kernel_rfl)) | (apply dtg 15; (case hi => rfl); (case hg => rfl); (case hop => (apply prd; apply p_move <;> rfl)); (case hq => kernel_rfl)) | fail)
         all_goals (try (apply d_guardB 16; (case hi => rfl); (case hgd => rfl); (case h1 => rfl); (case h2 => rfl); all_goals (intro h; (try simp only [reduceCtorEq, zzz] at h))))
         all_goals (first | (apply dpa 16; (case hi => rfl); (case hg => rfl); (case hn => rfl); (case hq => kernel_rfl)) | (apply dpn 16; (case hi => rfl); (case hg => rfl); (case hn => rfl); (case hq => kernel_rfl)) | (apply dtg 16; (case hi => rfl); (case hg => rfl); (case hop => (apply prd; apply p_move <;> rfl)); (case hq => kernel_rfl)) | fail)
         all_goals (try (apply d_guardB 17; (case hi => rfl); (case hgd => rfl); (case h1 => rfl); (case h2 => rfl); all_goals (intro h; (try simp only [reduceCtorEq, zzz] at h))))
         all_goals (first | (apply dpa 17; (case hi => rfl); (case hg => rfl); (case hn => rfl); (case hq => kernel_rfl)) | (apply dpn 17; (case hi => rfl); (case hg => rfl); (case hn => rfl); (case hq => kernel_rfl)) | (apply dtg 17; (case hi => rfl); (case hg => rfl); (case hop => (apply prd; apply p_move <;> rfl)); (case hq => kernel_rfl)) | fail)
         all_goals (try (apply d_guardB 18; (case hi => rfl); (case hgd => rfl); (case h1 => rfl); (case h2 => rfl); all_goals (intro h; (try simp only [reduceCtorEq, zzz] at h))))
         all_goals (first | (apply dpa 18; (case hi => rfl); (case hg => rfl); (case hn => rfl); (case hq => kernel_rfl)) | (apply dpn 18; (case hi => rfl); (case hg => rfl); (case hn => rfl); (case hq => kernel_rfl)) | (apply dtg 18; (case hi => rfl); (case hg => rfl); (case hop => (apply prd; apply p_indexAddrS; (case hx => rfl); (case hi => rfl); (case h0 => omega); (case h => omega); (case hA => (apply_assumption; omega)))); (case hq => kernel_rfl)) | fail)
         all_goals (try (apply d_guardB 19; (case hi => rfl); (case hgd => rfl); (case h1 => rfl); (case h2 => rfl); all_goals (intro h; (try simp only [reduceCtorEq, zzz] at h))))
         all_goals (first | (apply dpa 19; (case hi => rfl); (case hg => rfl); (case hn => rfl); (case hq => kernel_rfl)) | (apply dpn 19; (case hi => rfl); (case hg => rfl); (case hn => rfl); (case hq => kernel_rfl)) | (apply dtg 19; (case hi => rfl); (case hg => rfl); (case hop => ((apply r_load1; rfl; exact Cell.frozen (hel' _ (by omega))))); (case hq => kernel_rfl)) | fail)
         all_goals (try (apply d_guardB 20; (case hi => rfl); (case hgd => rfl); (case h1 => rfl); (case h2 => rfl); all_goals (intro h; (try simp only [reduceCtorEq, zzz] at h))))
         all_goals (first | (apply dpa 20; (case hi => rfl); (case hg => rfl); (case hn => rfl); (case hq => kernel_rfl)) | (apply dpn 20; (case hi => rfl); (case hg => rfl); (case hn => rfl); (case hq => kernel_rfl)) | (apply dtg 20; (case hi => rfl); (case hg => rfl); (case hop => (apply prd; apply p_move <;> rfl)); (case hq => kernel_rfl)) | fail)
         all_goals (try (apply d_guardB 21; (case hi => rfl); (case hgd => rfl); (case h1 => rfl); (case h2 => rfl); all_goals (intro h; (try simp only [reduceCtorEq, zzz] at h))))
         all_goals (first | (apply dpa 21; (case hi => rfl); (case hg => rfl); (case hn => rfl); (case hq => kernel_rfl)) | (apply dpn 21; (case hi => rfl); (case hg => rfl); (case hn => rfl); (case hq => kernel_rfl)) | (apply dtg 21; (case hi => rfl); (case hg => rfl); (case hop => (apply prd; apply p_move <;> rfl)); (case hq => kernel_rfl)) | fail)
         all_goals (try (apply d_guardB 22; (case hi => rfl); (case hgd => rfl); (case h1 => rfl); (case h2 => rfl); all_goals (intro h; (try simp only [reduceCtorEq, zzz] at h))))
         all_goals (first | (apply dpa 22; (case hi => rfl); (case hg => rfl); (case hn => rfl); (case hq => kernel_rfl)) | (apply dpn 22; (case hi => rfl); (case hg => rfl); (case hn => rfl); (case hq => kernel_rfl)) | (apply dtg 22; (case hi => rfl); (case hg => rfl); (case hop => (apply prd; apply p_sub; (case hx => rfl); (case hy => rfl); (case h => omega))); (case hq => kernel_rfl)) | fail)
         all_goals (try (apply d_guardB 23; (case hi => rfl); (case hgd => rfl); (case h1 => rfl); (case h2 => rfl); all_goals (intro h; (try simp only [reduceCtorEq, zzz] at h))))
         all_goals (first | (apply dpa 23; (case hi => rfl); (case hg => rfl); (case hn => rfl); (case hq => kernel_rfl)) | (apply dpn 23; (case hi => rfl); (case hg => rfl); (case hn => rfl); (case hq => kernel_rfl)) | (apply dtg 23; (case hi => rfl); (case hg => rfl); (case hop => (apply prd; apply p_indexAddrS; (case hx => rfl); (case hi => rfl); (case h0 => omega); (case h => omega); (case hA => (apply_assumption; omega)))); (case hq => kernel_rfl)) | fail)
         all_goals (try (apply d_guardB 24; (case hi => rfl); (case hgd => rfl); (case h1 => rfl); (case h2 => rfl); all_goals (intro h; (try simp only [reduceCtorEq, zzz] at h))))
         all_goals (first | (apply dpa 24; (case hi => rfl); (case hg => rfl); (case hn => rfl); (case hq => kernel_rfl)) | (apply dpn 24; (case hi => rfl); (case hg => rfl); (case hn => rfl); (case hq => kernel_rfl)) | (apply dtg 24; (case hi => rfl); (case hg => rfl); (case hop => ((apply r_load1; rfl; exact Cell.frozen (hel' _ (by omega))))); (case hq => kernel_rfl)) | fail)
         all_goals (try (apply d_guardB 25; (case hi => rfl); (case hgd => rfl); (case h1 => rfl); (case h2 => rfl); all_goals (intro h; (try simp only [reduceCtorEq, zzz] at h))))
         all_goals (first | (apply dpa 25; (case hi => rfl); (case hg => rfl); (case hn => rfl); (case hq => kernel_rfl)) | (apply dpn 25; (case hi => rfl); (case hg => rfl); (case hn => rfl); (case hq => kernel_rfl)) | (apply dtg 25; (case hi => rfl); (case hg => rfl); (case hop => (apply prd; apply p_le <;> rfl)); (case hq => kernel_rfl)) | fail)
         all_goals (try (apply d_guardB 26; (case hi => rfl); (case hgd => rfl); (case h1 => rfl); (case h2 => rfl); all_goals (intro h; (try simp only [reduceCtorEq, zzz] at h))))
         all_goals (first | (apply dpa 26; (case hi => rfl); (case hg => rfl); (case hn => rfl); (case hq => kernel_rfl)) | (apply dtg 26; (case hi => rfl); (case hg => rfl); (case hop => first | (apply prd; apply p_pickT <;> rfl) | (apply prd; apply p_pickF <;> rfl) | fail); (case hq => kernel_rfl)) | fail)
         all_goals (apply dtk 27; (case hi => rfl); (case hop => first | (apply prd; apply p_pickT <;> rfl) | (apply prd; apply p_pickF <;> rfl) | fail); (case hq => kernel_rfl))
         all_goals (apply d_done; (case hr => kernel_rfl))
         repeat' (first | apply v_seq | apply v_region | apply v_nil | apply v_skip | apply v_blk | (apply v_pure; (case hop => first | (apply p_move <;> rfl) | (apply p_assign <;> rfl) | (apply p_add; (case hx => rfl); (case hy => rfl); (case h => omega)) | fail); (case hd => rfl)) | (apply v_condT; (case hc => rfl)) | (apply v_condF; (case hc => rfl)) | (apply v_cond; (case hc => rfl); all_goals (intro h; (try simp only [reduceCtorEq, zzz] at h))) | fail)
         all_goals try
           (refine v_ret [] (outsA1 rfl rfl) (by repeat (exact List.Sublist.refl _)) ?_
            refine ⟨?_, rfl, rfl⟩
            rw [decide_eq_false]
            rintro ⟨_, hm⟩
            obtain ⟨⟨q1, q0⟩, q2, q3⟩ := hm k (by omega)
            have q4 := q0 j (by omega)
            simp only [e3, e4] at *
            omega)
         all_goals
           (refine v_again rfl ⟨rfl, rfl, j + 1, by omega, rfl, fun i h hi => ?_⟩ (by simp [headI]; omega)
            by_cases hik : i = j
            · subst hik; simp only [e3, e4] at *; omega
            · exact hin i h (by omega))
       · refine v_again rfl ⟨rfl, rfl, k + 1, by omega, rfl, fun i h hi => ?_⟩ (by simp [headI]; omega)
         by_cases hik : i = k
         · subst hik
           simp only [e1, e2] at *
           exact ⟨⟨by omega, fun i' h' => hin i' h' (by omega)⟩, by omega, by omega⟩
         · exact hno i h (by omega))
  · refine v_ret [] (outsA1 rfl rfl) (by repeat (exact List.Sublist.refl _)) ?_
    refine ⟨?_, rfl, rfl⟩
    rw [decide_eq_true]
    exact ⟨⟨by omega, by assumption⟩, fun i h => hno i h (by omega)⟩
section
variable {P : Program} {ty : TypeId} {σ : Env} {t t' : TypeId}
attribute [local semireducible] PureOp
theorem p_shrN {x y : Operand} {k' : IntKind} {a : Int} {n : Nat} (hx : Env.ev σ x = some (.int .u16 a)) (hy : Env.ev σ y = some (.int k' (n : Nat))) (hn : n < 16) : PureOp P (.binOp .shr t x y t') ty σ (.int .u16 (a / 2 ^ n)) := by
  intro dst pos af g ρ hρ w
  have := shift_shr .u16 k' a (n : Nat) (by omega) (by show ((n : Nat) : Int) ≤ ((16 : Nat) : Int); omega)
  simp [execOp, hρ _ _ hx, hρ _ _ hy, eqGuard, binOp_shr, this]
end
theorem one_sl {α : Type} {sz : Nat} {R : α → List Value → Prop} {G : GH} {b : Nat} {e : TypeId} {x : α} {rx : List Value} (h : G b = some (.cells rx.toArray e (0, 0))) (hl : rx.length = sz) (hx : R x rx) : Sl G sz R (.slice (some ⟨b, 0, none⟩) 1 1) [x] := by
  refine ⟨some ⟨b, 0, none⟩, 1, rfl, by simp, by simp [maxLen], fun _ => ⟨_, rfl, fun i y hy => ?_⟩⟩
  have hi : i < 1 := by
    have := (List.getElem?_eq_some_iff.1 hy).1
    simpa using this
  obtain rfl : i = 0 := by omega
  have : y = x := by simpa using hy.symm
  subst this
  refine ⟨rx, hl, hx, fun j v hv => ?_⟩
  rw [add_mk, add_mk, Nat.zero_add]
  simp only [GH.cell?, h, Option.isSome_none, Bool.false_eq_true, if_false]
  rw [List.getElem?_toArray]
  simpa using hv
section
attribute [local semireducible] Con
theorem Con.giveF {P : Program} {f : FuncId} {args : Array Value} {G : GH} {ν : OH} {Ψ : Value → GH → OH → Prop} (h : ∀ G', GH.le G G' → (∀ b o, (b, o) ∈ ν → G' b = some o) → Con P f args G' [] Ψ) : Con P f args G ν Ψ := by
  intro w hw
  have s1 : Step G ν w G (ν ++ []) w := by rw [List.append_nil]; exact Step.refl hw
  have s2 := s1.freeze
  have hn := s1.mem.nodup
  rw [List.append_nil] at hn
  refine (h _ (GH.le_put _ _) (fun b o hb => GH.put_mem hn (hw.apart b o hb) hb) w s2.mem).mono fun v w' ⟨G', μ', hs, hΦ⟩ => ⟨G', μ', s2.trans hs, hΦ⟩
end
theorem of_one {G : GH} (hT : TabsG G) {b : Nat} (e : Ent) (ho : e.ok) (h1 : oneI e = 0) (hr : e.round ≠ 0) :
    Con Tryz.prog 61 #[.slice (some ⟨b, 0, none⟩) 1 1] G [(b, .cells (recL 2 e.round e.node e.index e.cmd (.slice none 0 0)).toArray 113 (0, 0))] (fun r G' μ' => μ' = [] ∧ ∃ L, r = .agg L.toArray ∧ HdV G' (hdE e) L) := by
  obtain ⟨p1, p2, p3, p4⟩ := one_parts h1
  have hs : (accR e).small := ⟨by show (2 : Int) ≤ _; omega, by show e.round ≤ _; unfold mayP at p3; omega, by show e.node ≤ _; unfold mayP at p3; omega, by show e.index ≤ _; omega⟩
  refine Con.giveF fun G' hle hG => ?_
  have hb := hG _ _ (List.Mem.head _)
  have hrs : Rs G' (.slice (some ⟨b, 0, none⟩) 1 1) [accR e] := one_sl hb rfl ⟨.slice none 0 0, rfl, ho.2.2.2, hs, Sl.nil⟩
  have q := of_s (hT.le hle) hrs (by show 1 ≤ 200; omega)
  rw [hard_acc h1 hr] at q
  exact q
theorem mem_len {m : List Int} (h : MemOK m) : m.length ≤ 9 := by
  have key : ∀ k (hk : k < m.length), (k : Int) + 1 ≤ m[k] := by
    intro k
    induction k with
    | zero => intro hk; have := (h.2 0 hk).1; omega
    | succ k ih =>
      intro hk
      have h1 := ih (by omega)
      have h2 := (h.2 (k + 1) hk).2.2 (by omega)
      simp only [Nat.add_sub_cancel] at h2
      omega
  by_cases h0 : m.length = 0
  · omega
  · have h1 := key (m.length - 1) (by omega)
    have h2 := (h.2 (m.length - 1) (by omega)).2.1
    omega
theorem mem_nodup {m : List Int} (h : MemOK m) : m.Nodup := by
  have key : ∀ d i (hi : i + d + 1 < m.length), m[i]'(by omega) < m[i + d + 1] := by
    intro d
    induction d with
    | zero =>
      intro i hi
      have := (h.2 (i + 1) (by omega)).2.2 (by omega)
      simpa using this
    | succ d ih =>
      intro i hi
      have h1 := ih i (by omega)
      have h2 := (h.2 (i + (d + 1) + 1) (by omega)).2.2 (by omega)
      simp only [Nat.add_sub_cancel] at h2
      exact Int.lt_trans h1 h2
  rw [List.Nodup, List.pairwise_iff_getElem]
  intro i j hi hj hij e
  obtain ⟨d, rfl⟩ : ∃ d, j = i + d + 1 := ⟨j - i - 1, by omega⟩
  have := key d i hj
  omega
theorem mem_range {m : List Int} (h : MemOK m) {x : Int} (hx : x ∈ m) : 1 ≤ x ∧ x ≤ 9 := by
  obtain ⟨i, hi, rfl⟩ := List.getElem_of_mem hx
  exact ⟨(h.2 i hi).1, (h.2 i hi).2.1⟩
def entL (i r n : Int) (c : Cm) : List Value := [.int .i64 i, .int .i64 r, .int .i64 n, .int .i64 c.kind, .int .i64 c.client, .int .i64 c.seq, .string c.key, .string c.val, .string c.old, .int .i64 c.node]
theorem lowE_ok {e : Ent} (ho : e.ok) (hr : 1 ≤ e.round ∧ e.round ≤ 2147483648) : (lowE e).ok :=
  ⟨ho.1, WalkArith.wf_i64 (by show -9223372036854775808 ≤ e.round - 1 ∧ e.round - 1 ≤ 9223372036854775807; omega), WalkArith.wf_i64 (by show -9223372036854775808 ≤ (1 : Int) ∧ (1 : Int) ≤ 9223372036854775807; omega), nopF_ok⟩
theorem hdF_low {yes : List Int} {e : Ent} {a : Int} (h : inB yes a = false) (h1 : 1 < e.round) : hdF yes e a = hdE (lowE e) := by
  unfold hdF
  rw [if_neg (by rw [h]; exact Bool.false_ne_true), if_pos h1]
theorem hdF_eq {yes : List Int} {e : Ent} {a : Int} (h : ¬ (1 < e.round ∧ inB yes a = false)) : (if inB yes a = true then hdE e else Hd.zero) = hdF yes e a := by
  unfold hdF
  by_cases hb : inB yes a = true
  · rw [if_pos hb, if_pos hb]
  · rw [if_neg hb, if_neg hb, if_neg fun h1 => h ⟨h1, Bool.eq_false_iff.2 hb⟩]
theorem growSnoc {A : Option Addr} {c : Nat} {l : List Int} {x : Int} {ν : OH} (h : Grow 3 1 (.slice A (l.length + 1) c) (l.length + 1) (l.map (Value.int .i64 ·) ++ [.int .i64 x]) ν) : Grow 3 1 (.slice A (l ++ [x]).length c) (l ++ [x]).length ((l ++ [x]).map (Value.int .i64 ·)) ν := by
  rw [List.length_append, List.length_singleton, List.map_append]
  exact h
theorem sub_snoc {l m : List Int} {k : Nat} (h : l.Sublist (m.take k)) (hk : k < m.length) : (l ++ [m[k]]).Sublist (m.take (k + 1)) := by
  rw [List.take_succ_eq_append_getElem hk]
  exact h.append (List.Sublist.refl _)
theorem sub_more {l m : List Int} {k : Nat} (h : l.Sublist (m.take k)) (hk : k < m.length) : l.Sublist (m.take (k + 1)) := by
  rw [List.take_succ_eq_append_getElem hk]
  exact h.trans (List.sublist_append_left _ _)
set_option maxHeartbeats 8000000 in
theorem propFinds_law {W : World} {v0 v1 v2 : Value} (hT : TabsG (ghost W)) (g0 : ∃ l : List Int, Sl (ghost W) 1 (IntR .i64) v0 l) (g1 : ∃ a b : Int, v1 = .agg [.int .u16 a, .int .u16 b].toArray) (g2 : ∃ e : Ent, v2 = .agg e.cells.toArray ∧ e.ok) : LawCon Tryz.prog 9 #[v0, v1, v2] W := by
  obtain ⟨members, hmem⟩ := g0
  obtain ⟨x0, x1, rfl⟩ := g1
  obtain ⟨e, rfl, heok⟩ := g2
  unfold LawCon
  generalize ghost W = G at *
  have qa := fun G' (h : GH.le G G') => awake33_s (hT.le h)
  obtain ⟨MA, mc, rfl, hmlc, hmcm, hmsome, hmel, hmwf⟩ := id hmem.openInt
  simp only [maxLen] at hmcm
  obtain ⟨index, round, node, cmd⟩ := e
  (refine v_enter Tryz.func9 rfl Tryz.ntmps9 rfl ?_; intro B _)
  repeat' (first | (apply v_box (d := 4) (zs := [.int .u16 x0, .int .u16 x1]); (case hx => rfl); (case hz => rfl); (case hd => rfl); intro b4) | (apply v_box (d := 5) (zs := entL index round node cmd); (case hx => rfl); (case hz => rfl); (case hd => rfl); intro b5) | apply v_seq | apply v_region | apply v_nil | (apply v_pure; (case hop => first | (apply p_move <;> rfl) | (apply p_assign <;> rfl) | (apply p_build; (case hz => rfl); (case hv => (simp only [List.map_cons, List.map_nil]; repeat (first | with_reducible exact evs_nil | (apply evs_cons; (case h1 => rfl))))); (case hb => (apply bldL; repeat (first | exact bld_nil | (apply bld_cons; (case hpf => rfl); (case hc => rfl); (case hs => rfl); (case hl => rfl); (case ho => ((repeat (first | with_reducible exact ov_nil | apply ov_cons)); done))))))) | fail); (case hd => rfl)) | (apply v_buildSlice; (case hz => rfl); (case hi => rfl); (case hv => (simp only [List.map_cons, List.map_nil]; repeat (first | with_reducible exact evs_nil | (apply evs_cons; (case h1 => rfl))))); (case hp => (apply pk_cons; (case hc => rfl); (case hs => rfl); (case h => (with_reducible exact pk_nil)); (case he => ((repeat (first | with_reducible exact ap_nil | apply ap_cons)); done)))); (case hb => rfl); (case hd => rfl); intro b) | fail)
  refine v_frz [(b, _)] (by repeat (exact PickA.here _)) ?_
  intro G1 hle1 hG1
  have hcos : Cos G1 (.slice (some ⟨b, 0, none⟩) 1 1) [(1, members)] := one_sl (hG1 _ _ (List.Mem.head _)) rfl ⟨_, rfl, WalkArith.wf_i64 (by show -9223372036854775808 ≤ (1 : Int) ∧ (1 : Int) ≤ 9223372036854775807; omega), hmem.mono hle1⟩
  have qc := refConfCheck_s hcos
  have hiff : ConfOK [(1, members)] → MemOK members := fun h => (h.2 0 (by show 0 < 1; omega)).1
  clear hcos hG1
  generalize hcd : decide (ConfOK [(1, members)]) = cb at *
  repeat' (first | (apply v_read; (case hop => (apply r_loadNo; (case hx => rfl); (case h => repeat (exact mhd _)); (case hd => rfl); (case hn => rfl))); (case hd => rfl)) | apply v_seq | apply v_region | apply v_nil | (apply v_take; (case hg => rfl)) | (apply v_pass; (case hg => rfl); (case hn => rfl); (case hd => rfl)) | (apply v_pure; (case hop => first | (apply p_move <;> rfl) | (apply p_pickT <;> rfl) | (apply p_not <;> rfl) | fail); (case hd => rfl)) | (apply v_condT; (case hc => rfl)) | (apply v_guardB; (case h1 => rfl); (case h2 => rfl); all_goals (intro h; (try simp only [reduceCtorEq, zzz] at h))) | (apply v_callJ (hs := qc); (case ha => rfl); (case hd => rfl)) | (apply v_buildSlice; (case hz => rfl); (case hi => rfl); (case hv => (simp only [List.map_cons, List.map_nil]; repeat (first | with_reducible exact evs_nil | (apply evs_cons; (case h1 => rfl))))); (case hp => (apply pk_cons; (case hc => rfl); (case hs => rfl); (case h => (with_reducible exact pk_nil)); (case he => (rfl)))); (case hb => rfl); (case hd => rfl); intro b) | fail)
  · refine v_call (μ1 := []) rfl (qa _ hle1) (List.Perm.refl _) rfl ?_
    rintro _ G9 _ - ⟨rfl, rfl⟩
    repeat' (first | apply v_nil | (apply v_pure; (case hop => (apply p_assign <;> rfl)); (case hd => rfl)) | fail)
    refine v_ret [] (outsA1 rfl rfl) (List.nil_sublist _) ?_
    rfl
  · have hcT : MemOK members := hiff (of_decide_eq_true (hcd.trans (by assumption)))
    refine v_frz [(b, _)] (by repeat (exact PickA.here _)) ?_
    intro G2 hle2 hG2
    have hes : Es G2 (.slice (some ⟨b, 0, none⟩) 1 1) [⟨index, round, node, cmd⟩] := one_sl (hG2 _ _ (List.Mem.head _)) rfl ⟨rfl, heok⟩
    have qe := refEntCheck_s hes
    have hck := one_of (e := ⟨index, round, node, cmd⟩)
    clear hes hG2 qc
    generalize chkK [(⟨index, round, node, cmd⟩ : Ent)] 0 = ck at *
    have hle12 := GH.le_trans hle1 hle2
    repeat' (first | apply v_seq | apply v_region | apply v_nil | apply v_skip | apply v_block | (apply v_take; (case hg => rfl)) | (apply v_pass; (case hg => rfl); (case hn => rfl); (case hd => rfl)) | (apply v_pure; (case hop => first | (apply p_move <;> rfl) | (apply p_eq <;> rfl) | (apply p_gt <;> rfl) | (apply p_ne <;> rfl) | (apply p_assign <;> rfl) | (apply p_pickT <;> rfl) | (apply p_pickF <;> rfl) | (apply p_fieldAddrB <;> rfl) | fail); (case hd => rfl)) | (apply v_condT; (case hc => rfl)) | (apply v_cond; (case hc => rfl); all_goals (intro h; (try simp only [reduceCtorEq, zzz] at h))) | (apply v_guardB; (case h1 => rfl); (case h2 => rfl); all_goals (intro h; (try simp only [reduceCtorEq, zzz] at h))) | (apply v_callJ (hs := qe); (case ha => rfl); (case hd => rfl)) | (apply v_read; (case hop => (apply r_load1; rfl; (apply Cell.own; (case h => (repeat (exact mhd _))); rfl))); (case hd => rfl)) | fail)
    all_goals first
      | (refine v_call (μ1 := []) rfl (qa _ hle12) (List.Perm.refl _) rfl ?_
         rintro _ G9 _ - ⟨rfl, rfl⟩
         repeat' (first | apply v_nil | (apply v_pure; (case hop => (apply p_assign <;> rfl)); (case hd => rfl)) | fail)
         refine v_ret [] (outsA1 rfl rfl) (List.nil_sublist _) ?_
         rfl)
      | skip
    have h1 : oneI ⟨index, round, node, cmd⟩ = 0 := hck (by assumption)
    have hr : 1 ≤ round ∧ round ≤ 2147483648 := by
      have := (one_parts h1).2.2.1
      unfold mayP at this
      simp only at this
      omega
    have hml9 : members.length ≤ 9 := mem_len hcT
    have hle2' := hle12
    refine v_loop [9, 0, 4, 5, 7, 8] (fun us G' μ' => G' = G2 ∧ ∃ (k : Nat) (yes ask : List Int) (YA AA : Option Addr) (yc ac : Nat) (ν1 ν2 : OH), k ≤ members.length ∧ yes.Sublist (members.take k) ∧ ask.Sublist (members.take k) ∧ us = [Value.int .i64 (k : Nat), .slice MA members.length mc, .pointer (some ⟨b4, 0, none⟩), .pointer (some ⟨b5, 0, none⟩), .slice YA yes.length yc, .slice AA ask.length ac] ∧ Grow 3 1 (.slice YA yes.length yc) yes.length (yes.map (Value.int .i64 ·)) ν1 ∧ Grow 3 1 (.slice AA ask.length ac) ask.length (ask.map (Value.int .i64 ·)) ν2 ∧ μ' = ν1 ++ (ν2 ++ [(b5, .cells (entL index round node cmd).toArray 105 (0, 0)), (b4, .cells [.int .u16 x0, .int .u16 x1].toArray 103 (0, 0))])) (fun us => members.length - (headI us).toNat) rfl ⟨rfl, 0, [], [], none, none, 0, 0, [], [], by omega, List.Sublist.refl _, List.Sublist.refl _, rfl, Grow.nil _ _, Grow.nil _ _, rfl⟩ ?_
    rintro us G' _ ⟨hG', k, yes, ask, YA, AA, yc, ac, ν1, ν2, hk, hsy, hsa, rfl, hgy, hga, rfl⟩
    subst G'
    have hyl := hsy.length_le
    have hal := hsa.length_le
    rw [List.length_take] at hyl hal
    have e1 : ((k : Nat) : Int).toNat = k := by omega
    by_cases hlt : k < members.length
    · have hA := hmsome (by omega)
      have hc := GH.cell_le hle12 (hmel k hlt)
      obtain ⟨hm1, hm9, -⟩ := hcT.2 k hlt
      obtain ⟨mk, hmk⟩ : ∃ mk : Nat, members[k] = (mk : Nat) := ⟨members[k].toNat, by omega⟩
      have hsy1 := sub_snoc hsy hlt
      have hsa1 := sub_snoc hsa hlt
      have hsy2 := sub_more hsy hlt
      have hsa2 := sub_more hsa hlt
      rw [hmk] at hc hm1 hm9 hsy1 hsa1
      repeat' (first | apply v_seq | apply v_region | apply v_nil | apply v_skip | apply v_block | (apply v_pure; (case hop => first | (apply p_move <;> rfl) | (apply p_lt <;> rfl) | (apply p_lenSlice <;> rfl) | fail); (case hd => rfl)) | (apply v_cond; (case hc => rfl); all_goals (intro h; (try simp only [reduceCtorEq, zzz] at h); first | (exfalso; omega) | skip)) | fail)
      refine d_start [(b4, .cells [.int .u16 x0, .int .u16 x1].toArray 103 (0, 0))] (by kernel_rfl) (by kernel_rfl) (by kernel_rfl) (by intro e he; (simp at he; simp [he]; done)) ?_
      all_goals (apply dtk 0; (case hi => rfl); (case hop => (apply prd; apply p_indexAddrB; (case hx => rfl); (case hi => rfl); (case h0 => omega); (case h => omega))); (case hq => kernel_rfl))
      all_goals (apply dtk 1; (case hi => rfl); (case hop => (apply r_load1; rfl; (apply Cell.own; (case h => (repeat (exact mhd _))); rfl))); (case hq => kernel_rfl))
      all_goals (apply dtk 2; (case hi => rfl); (case hop => (apply prd; apply p_move <;> rfl)); (case hq => kernel_rfl))
      all_goals (apply dtk 3; (case hi => rfl); (case hop => (apply prd; apply p_move <;> rfl)); (case hq => kernel_rfl))
      all_goals (apply dtk 4; (case hi => rfl); (case hop => (apply prd; apply p_indexAddrS; (case hx => rfl); (case hi => rfl); (case h0 => omega); (case h => omega); (case hA => assumption))); (case hq => kernel_rfl))
      all_goals (apply dtk 5; (case hi => rfl); (case hop => ((apply r_load1; rfl; exact Cell.frozen hc))); (case hq => kernel_rfl))
      all_goals (apply dtk 6; (case hi => rfl); (case hop => ((apply prd; apply p_convE64 (a := ((mk : Nat) : Int)); (case hx => rfl); (case h => omega)))); (case hq => kernel_rfl))
      all_goals (apply dtk 7; (case hi => rfl); (case hop => ((apply prd; apply p_shrN (n := mk); (case hx => rfl); (case hy => rfl); (case hn => omega)))); (case hq => kernel_rfl))
      all_goals (apply dtk 8; (case hi => rfl); (case hop => ((apply prd; apply p_and; (case hx => rfl); (case hy => rfl)))); (case hq => kernel_rfl))
      all_goals (apply dtk 9; (case hi => rfl); (case hop => (apply prd; apply p_eq <;> rfl)); (case hq => kernel_rfl))
      all_goals (apply d_done; (case hr => kernel_rfl))
      repeat' (first | apply v_seq | apply v_region | apply v_nil | apply v_skip | (apply v_pure; (case hop => first | (apply p_move <;> rfl) | (apply p_assign <;> rfl) | (apply p_indexAddrS; (case hx => rfl); (case hi => rfl); (case h0 => omega); (case h => omega); (case hA => assumption)) | fail); (case hd => rfl)) | (apply v_cond; (case hc => rfl); all_goals (intro h; (try simp only [reduceCtorEq, zzz] at h))) | (apply v_read; (case hop => (apply r_load1; rfl; exact Cell.frozen hc)); (case hd => rfl)) | (apply v_append (hg := hgy) (m' := 1) (us := [.int .i64 (mk : Nat)]) (hp := PickA.perm (by repeat (first | exact PickA.here _ | apply PickA.cons))) (hsrc := Src.own (e := 3) (by repeat (exact mhd _)) rfl); (case hzs => rfl); (case hsz => omega); (case hs => rfl); (case hx => rfl); (case hb => omega); (case hb' => simp only [maxLen]; omega); (case hd => rfl); (case h1 => rfl); intro v3 n3 hg3; obtain ⟨A3, c3, rfl, -, -⟩ := hg3.shape; refine v_drop (List.Sublist.append_left (List.sublist_cons_self _ _) _) ?_) | (apply v_buildSlice; (case hz => rfl); (case hi => rfl); (case hv => (simp only [List.map_cons, List.map_nil]; repeat (first | with_reducible exact evs_nil | (apply evs_cons; (case h1 => rfl))))); (case hp => (apply pk_cons; (case hc => rfl); (case hs => rfl); (case h => (with_reducible exact pk_nil)); (case he => ((repeat (first | with_reducible exact ap_nil | apply ap_cons)); done)))); (case hb => rfl); (case hd => rfl); intro b) | fail)
      all_goals
        refine d_start [(b4, .cells [.int .u16 x0, .int .u16 x1].toArray 103 (0, 0))] (by kernel_rfl) (by kernel_rfl) (by kernel_rfl) (by intro e he; (simp at he; simp [he]; done)) ?_
        all_goals (apply dtk 0; (case hi => rfl); (case hop => (apply prd; apply p_indexAddrB; (case hx => rfl); (case hi => rfl); (case h0 => omega); (case h => omega))); (case hq => kernel_rfl))
        all_goals (apply dtk 1; (case hi => rfl); (case hop => (apply r_load1; rfl; (apply Cell.own; (case h => (repeat (exact mhd _))); rfl))); (case hq => kernel_rfl))
        all_goals (apply dtk 2; (case hi => rfl); (case hop => (apply prd; apply p_move <;> rfl)); (case hq => kernel_rfl))
        all_goals (apply dtk 3; (case hi => rfl); (case hop => (apply prd; apply p_move <;> rfl)); (case hq => kernel_rfl))
        all_goals (apply dtk 4; (case hi => rfl); (case hop => (apply prd; apply p_indexAddrS; (case hx => rfl); (case hi => rfl); (case h0 => omega); (case h => omega); (case hA => assumption))); (case hq => kernel_rfl))
        all_goals (apply dtk 5; (case hi => rfl); (case hop => ((apply r_load1; rfl; exact Cell.frozen hc))); (case hq => kernel_rfl))
        all_goals (apply dtk 6; (case hi => rfl); (case hop => ((apply prd; apply p_convE64 (a := ((mk : Nat) : Int)); (case hx => rfl); (case h => omega)))); (case hq => kernel_rfl))
        all_goals (apply dtk 7; (case hi => rfl); (case hop => ((apply prd; apply p_shrN (n := mk); (case hx => rfl); (case hy => rfl); (case hn => omega)))); (case hq => kernel_rfl))
        all_goals (apply dtk 8; (case hi => rfl); (case hop => ((apply prd; apply p_and; (case hx => rfl); (case hy => rfl)))); (case hq => kernel_rfl))
        all_goals (apply dtk 9; (case hi => rfl); (case hop => (apply prd; apply p_eq <;> rfl)); (case hq => kernel_rfl))
        all_goals (apply d_done; (case hr => kernel_rfl))
      all_goals repeat' (first | apply v_region | apply v_nil | apply v_skip | apply v_blk | (apply v_pure; (case hop => first | (apply p_move <;> rfl) | (apply p_assign <;> rfl) | (apply p_add; (case hx => rfl); (case hy => rfl); (case h => omega)) | (apply p_indexAddrS; (case hx => rfl); (case hi => rfl); (case h0 => omega); (case h => omega); (case hA => assumption)) | fail); (case hd => rfl)) | (apply v_cond; (case hc => rfl); all_goals (intro h; (try simp only [reduceCtorEq, zzz] at h))) | (apply v_read; (case hop => (apply r_load1; rfl; exact Cell.frozen hc)); (case hd => rfl)) | (apply v_append (hg := hga) (m' := 1) (us := [.int .i64 (mk : Nat)]) (hp := PickA.perm (by repeat (first | exact PickA.here _ | apply PickA.cons | apply PickA.app))) (hsrc := Src.own (e := 3) (by repeat (exact mhd _)) rfl); (case hzs => rfl); (case hsz => omega); (case hs => rfl); (case hx => rfl); (case hb => omega); (case hb' => simp only [maxLen]; omega); (case hd => rfl); (case h1 => rfl); intro v4 n4 hg4; obtain ⟨A4, c4, rfl, -, -⟩ := hg4.shape; refine v_drop (List.Sublist.append_left (List.sublist_cons_self _ _) _) ?_) | (apply v_buildSlice; (case hz => rfl); (case hi => rfl); (case hv => (simp only [List.map_cons, List.map_nil]; repeat (first | with_reducible exact evs_nil | (apply evs_cons; (case h1 => rfl))))); (case hp => (apply pk_cons; (case hc => rfl); (case hs => rfl); (case h => (with_reducible exact pk_nil)); (case he => ((repeat (first | with_reducible exact ap_nil | apply ap_cons)); done)))); (case hb => rfl); (case hd => rfl); intro b) | fail)
      · refine v_perm (ν := n3 ++ (n4 ++ [(b5, .cells (entL index round node cmd).toArray 105 (0, 0)), (b4, .cells [.int .u16 x0, .int .u16 x1].toArray 103 (0, 0))])) (by apply perm_of_count; intro p; simp only [List.append_eq, List.countP_append, List.countP_cons, List.countP_nil, Nat.zero_add, Nat.add_zero]; try ac_rfl) ?_
        exact v_again rfl ⟨rfl, k + 1, yes ++ [(mk : Int)], ask ++ [(mk : Int)], A3, A4, c3, c4, n3, n4, by omega, hsy1, hsa1, by simp only [List.length_append, List.length_singleton]; rfl, growSnoc hg3, growSnoc hg4, rfl⟩ (by simp [headI]; omega)
      · exact v_again rfl ⟨rfl, k + 1, yes ++ [(mk : Int)], ask, A3, AA, c3, ac, n3, ν2, by omega, hsy1, hsa2, by simp only [List.length_append, List.length_singleton]; rfl, growSnoc hg3, hga, rfl⟩ (by simp [headI]; omega)
      · refine v_perm (ν := ν1 ++ (n4 ++ [(b5, .cells (entL index round node cmd).toArray 105 (0, 0)), (b4, .cells [.int .u16 x0, .int .u16 x1].toArray 103 (0, 0))])) (by apply perm_of_count; intro p; simp only [List.append_eq, List.countP_append, List.countP_cons, List.countP_nil, Nat.zero_add, Nat.add_zero]; try ac_rfl) ?_
        exact v_again rfl ⟨rfl, k + 1, yes, ask ++ [(mk : Int)], YA, A4, yc, c4, ν1, n4, by omega, hsy2, hsa1, by simp only [List.length_append, List.length_singleton]; rfl, hgy, growSnoc hg4, rfl⟩ (by simp [headI]; omega)
      · exact v_again rfl ⟨rfl, k + 1, yes, ask, YA, AA, yc, ac, ν1, ν2, by omega, hsy2, hsa2, rfl, hgy, hga, rfl⟩ (by simp [headI]; omega)
    · obtain rfl : k = members.length := by omega
      rw [List.take_length] at hsy hsa
      have hyl9 : yes.length ≤ 9 := by omega
      have hal9 : ask.length ≤ 9 := by omega
      have hmr := fun x hx => mem_range hcT (x := x) hx
      have hnd := (mem_nodup hcT).sublist hsa
      refine v_perm (ν := (ν1 ++ ν2) ++ [(b5, .cells (entL index round node cmd).toArray 105 (0, 0)), (b4, .cells [.int .u16 x0, .int .u16 x1].toArray 103 (0, 0))]) (List.Perm.of_eq (List.append_assoc _ _ _).symm) ?_
      refine v_frzP (ν1 ++ ν2) (List.Perm.refl _) ?_
      intro G3 hle3 hG3
      have hY := hgy.ints (fun b o hb => hG3 b o (List.mem_append_left _ hb)) (fun x hx => hmwf x (hsy.subset hx))
      have hA := hga.ints (fun b o hb => hG3 b o (List.mem_append_right _ hb)) (fun x hx => hmwf x (hsa.subset hx))
      have hmem3 := hmem.mono (GH.le_trans hle12 hle3)
      have hle13 := GH.le_trans hle12 hle3
      have m1 := refMaj_s hmem3 hY (by omega)
      have m2 := refMaj_s hmem3 hA (by omega)
      clear hgy hga hG3 hmel hle12 hle1 hle2 hle2' hle3 qe hck hiff hcd
      generalize hj1 : majB members yes = j1 at *
      generalize hj2 : majB members ask = j2 at *
      repeat' (first | apply v_seq | apply v_region | apply v_nil | apply v_skip | (apply v_exit; (case hp => rfl)) | (apply v_take; (case hg => rfl)) | (apply v_pass; (case hg => rfl); (case hn => rfl); (case hd => rfl)) | (apply v_pure; (case hop => first | (apply p_move <;> rfl) | (apply p_lt <;> rfl) | (apply p_pickT <;> rfl) | (apply p_pickF <;> rfl) | (apply p_not <;> rfl) | (apply p_lenSlice <;> rfl) | (apply p_fieldAddrB <;> rfl) | (apply p_add; (case hx => rfl); (case hy => rfl); (case h => omega)) | (apply p_build; (case hz => rfl); (case hv => (simp only [List.map_cons, List.map_nil]; repeat (first | with_reducible exact evs_nil | (apply evs_cons; (case h1 => rfl))))); (case hb => (apply bldL; repeat (first | exact bld_nil | (apply bld_cons; (case hpf => rfl); (case hc => rfl); (case hs => rfl); (case hl => rfl); (case ho => ((repeat (first | with_reducible exact ov_nil | apply ov_cons)); done))))))) | fail); (case hd => rfl)) | (apply v_condT; (case hc => rfl)) | (apply v_cond; (case hc => rfl); all_goals (intro h; (try simp only [reduceCtorEq, zzz] at h); first | (exfalso; omega) | skip)) | (apply v_guardB; (case h1 => rfl); (case h2 => rfl); all_goals (intro h; (try simp only [reduceCtorEq, zzz] at h))) | (apply v_callJ (hs := m1); (case ha => rfl); (case hd => rfl)) | (apply v_callJ (hs := m2); (case ha => rfl); (case hd => rfl)) | (apply v_read; (case hop => first | (apply r_loadNo; (case hx => rfl); (case h => (repeat (exact mhd _))); (case hd => (repeat (first | with_reducible exact dt_nil | apply dt_here))); (case hn => rfl)) | (apply r_load1; rfl; (apply Cell.own; (case h => (repeat (exact mhd _))); rfl)) | fail); (case hd => rfl)) | (apply v_alloc; (case hz => rfl); (case hd => rfl); intro b) | (apply v_store; (case hp => rfl); (case hx => rfl); (case hc => rfl); (case hsz => rfl); (case h1 => rfl); (case hb => (repeat (exact mhd _))); (case hfit => exact nle rfl); (case hov => ((repeat (first | with_reducible exact ov_nil | apply ov_cons)); done)); (case hu => repeat (exact Upd.here _ _))) | fail)
      all_goals first
        | (refine v_call (μ1 := []) rfl (qa _ hle13) (List.Perm.refl _) rfl ?_
           rintro _ G9 _ - ⟨rfl, rfl⟩
           repeat' (first | apply v_nil | (apply v_pure; (case hop => (apply p_assign <;> rfl)); (case hd => rfl)) | fail)
           refine v_ret [] (outsA1 rfl rfl) (List.nil_sublist _) ?_
           rfl)
        | skip
      revert b
      intro b10
      have hcom : ∃ a ∈ ask, a ∈ yes := by
        obtain ⟨x, -, h1, h2⟩ := maj_common (hj1.trans (by assumption)) (hj2.trans (by assumption))
        exact ⟨x, List.contains_iff_mem.1 h2, List.contains_iff_mem.1 h1⟩
      have hj3 : majB members ask = true := hj2.trans (by assumption)
      have hm0 : QMay (round + 1) 9 1 := ⟨.inr ⟨by omega, by omega, by decide, by decide⟩, by omega, by decide, by decide⟩
      have qn := qnew_s (G := G3) (r := round + 1) (n := 9) (a := 1)
      repeat' (fail)
      refine v_call (μ1 := []) rfl qn (List.Perm.refl _) rfl ?_
      rintro _ G4 _ - ⟨hG4, h⟩
      subst hG4
      obtain ⟨hm, -, -⟩ | ⟨-, q, mp, rfl, rfl⟩ := h
      · exact absurd hm0 hm
      clear qn m1 m2
      obtain ⟨AA, ac, e7, -, -, hask, hael, -⟩ := id hA.openInt
      cases e7
      repeat' (first | apply v_seq | apply v_region | apply v_nil | apply v_block | (apply v_pure; (case hop => (apply p_assign <;> rfl)); (case hd => rfl)) | fail)
      refine v_loop [12, 0, 5, 7, 8, 10, 11] (fun us G' μ' => GH.le G4 G' ∧ ∃ (k : Nat) (got : List Ms) (ml : List (Int × Value)) (oM : Obj), k ≤ ask.length ∧ GotF yes (⟨index, round, node, cmd⟩ : Ent) (ask.take k) got ∧ MapB keyI ml oM ∧ GotR G' got ml ∧ us = [Value.int .i64 (k : Nat), .slice MA members.length mc, .pointer (some ⟨b5, 0, none⟩), .slice YA yes.length yc, .slice AA ask.length ac, .pointer (some ⟨b10, 0, none⟩), .pointer (some ⟨q, 0, none⟩)] ∧ μ' = [(q, qO (round + 1) 9 1 mp), (mp, oM), (b10, .cells [.int .i64 (round + 1), .int .i64 9].toArray 80 (0, 0)), (b5, .cells (entL index round node cmd).toArray 105 (0, 0)), (b4, .cells [.int .u16 x0, .int .u16 x1].toArray 103 (0, 0))]) (fun us => ask.length - (headI us).toNat) rfl ⟨GH.le_refl _, 0, [], [], .map #[] 0, by omega, GotF.nil, MapB.nil, GotR.nil, rfl, rfl⟩ ?_
      rintro us G' _ ⟨hle, k, got, ml, oM, hk2, hF, hM, hg, rfl, rfl⟩
      have e2 : ((k : Nat) : Int).toNat = k := by omega
      by_cases hlt2 : k < ask.length
      · have hAs := hask (by omega)
        have hc := GH.cell_le hle (hael k hlt2)
        obtain ⟨ha1, ha9⟩ := hmr _ (hsa.subset (List.getElem_mem hlt2))
        have hna : ask[k] ∉ ask.take k := by
          intro hm
          obtain ⟨i, hi, e⟩ := List.getElem_of_mem hm
          rw [List.getElem_take] at e
          rw [List.length_take] at hi
          exact List.pairwise_iff_getElem.1 (show List.Pairwise _ _ from hnd) i k (by omega) hlt2 (by omega) e
        have htk : ask.take (k + 1) = ask.take k ++ [ask[k]] := by rw [List.take_succ_eq_append_getElem hlt2]
        generalize ask[k] = a at *
        have hleG := GH.le_trans hle13 hle
        have qi := fun G' (h : GH.le G4 G') => in_s a (hY.mono h)
        have qi8 := fun G' (h : GH.le G4 G') => in_s 8 (hA.mono h)
        have q1 := qi _ hle
        repeat' (first | apply v_seq | apply v_region | apply v_nil | (apply v_pure; (case hop => first | (apply p_move <;> rfl) | (apply p_lt <;> rfl) | (apply p_lenSlice <;> rfl) | fail); (case hd => rfl)) | fail)
        apply v_cond
        · rfl
        · intro _
          repeat' (first | apply v_seq | apply v_region | apply v_nil | apply v_skip | apply v_block | (apply v_pure; (case hop => first | (apply p_move <;> rfl) | (apply p_indexAddrS; (case hx => rfl); (case hi => rfl); (case h0 => omega); (case h => omega); (case hA => assumption)) | fail); (case hd => rfl)) | (apply v_read; (case hop => (apply r_load1; rfl; exact Cell.frozen hc)); (case hd => rfl)) | (apply v_callJ (hs := q1); (case ha => rfl); (case hd => rfl)) | (apply v_alloc; (case hz => rfl); (case hd => rfl); intro b) | fail)
          revert b
          intro b13
          refine v_cut (fun σ1 G5 μ5 => GH.le G' G5 ∧ ∃ L, HdV G5 (if inB yes a = true then hdE (⟨index, round, node, cmd⟩ : Ent) else Hd.zero) L ∧ EnvHas σ1 [(12, .int .i64 (k : Nat)), (0, .slice MA members.length mc), (5, .pointer (some ⟨b5, 0, none⟩)), (7, .slice YA yes.length yc), (8, .slice AA ask.length ac), (10, .pointer (some ⟨b10, 0, none⟩)), (11, .pointer (some ⟨q, 0, none⟩)), (13, .pointer (some ⟨b13, 0, none⟩))] ∧ List.Sublist [(b13, .cells L.toArray 109 (0, 0)), (q, qO (round + 1) 9 1 mp), (mp, oM), (b10, .cells [.int .i64 (round + 1), .int .i64 9].toArray 80 (0, 0)), (b5, .cells (entL index round node cmd).toArray 105 (0, 0)), (b4, .cells [.int .u16 x0, .int .u16 x1].toArray 103 (0, 0))] μ5) ?_ ?_
          · intro hk
            apply v_cond
            · rfl
            · intro hin
              repeat' (first | (apply v_read; (case hop => (apply r_loadNo; (case hx => rfl); (case h => repeat (first | exact mhd _ | apply mtl)); (case hd => rfl); (case hn => rfl))); (case hd => rfl)) | apply v_region | (apply v_pure; (case hop => first | (apply p_fieldAddrB <;> rfl) | (apply p_build; (case hz => rfl); (case hv => (simp only [List.map_cons, List.map_nil]; repeat (first | with_reducible exact evs_nil | (apply evs_cons; (case h1 => rfl))))); (case hb => (apply bldL; repeat (first | exact bld_nil | (apply bld_cons; (case hpf => rfl); (case hc => rfl); (case hs => rfl); (case hl => rfl); (case ho => (first | ((repeat (first | with_reducible exact ov_nil | apply ov_cons)); done) | rfl))))))) | fail); (case hd => rfl)) | (apply v_read; (case hop => (apply r_load1; rfl; (apply Cell.own; (case h => (repeat (first | exact mhd _ | apply mtl))); rfl))); (case hd => rfl)) | (apply v_buildSlice; (case hz => rfl); (case hi => rfl); (case hv => (simp only [List.map_cons, List.map_nil]; repeat (first | with_reducible exact evs_nil | (apply evs_cons; (case h1 => rfl))))); (case hp => (apply pk_cons; (case hc => rfl); (case hs => rfl); (case h => (with_reducible exact pk_nil)); (case he => ((repeat (first | with_reducible exact ap_nil | apply ap_cons)); done)))); (case hb => rfl); (case hd => rfl); intro b) | fail)
              refine v_call (μ1 := [(b, _)]) rfl (of_one (hT.le hleG) (⟨index, round, node, cmd⟩ : Ent) heok h1 (by show round ≠ 0; omega)) (List.Perm.refl _) rfl ?_
              rintro _ G5 _ hle5 ⟨rfl, L, rfl, hL⟩
              obtain ⟨iv, av, cv, rfl, hi, hav, hcv⟩ := id hL
              obtain ⟨A0, c0, rfl, -⟩ := hi.openInt
              obtain ⟨A1, c1, rfl, -⟩ := hav.open
              obtain ⟨A2, c2, rfl, -⟩ := hcv.open
              repeat' (first | exact hk _ _ _ ⟨hle5, _, by rw [if_pos hin]; exact hL, ⟨rfl, rfl, rfl, rfl, rfl, rfl, rfl, rfl, trivial⟩, (by repeat (exact List.Sublist.refl _))⟩ | apply v_nil | (apply v_store; (case hp => rfl); (case hx => rfl); (case hc => rfl); (case hsz => rfl); (case h1 => rfl); (case hb => (repeat (exact mhd _))); (case hfit => exact nle rfl); (case hov => ((repeat (first | with_reducible exact ov_nil | apply ov_cons)); done)); (case hu => repeat (exact Upd.here _ _))) | fail)
            · intro hin
              repeat' (first | exact hk _ _ _ ⟨GH.le_refl _, _, by rw [if_neg (by rw [hin]; exact Bool.false_ne_true)]; exact hd_zero _, ⟨rfl, rfl, rfl, rfl, rfl, rfl, rfl, rfl, trivial⟩, (by repeat (exact List.Sublist.refl _))⟩ | apply v_skip)
          rintro σ1 G5 μ5 ⟨hle5, L, hL, hσ, hμ⟩
          refine v_has hσ (v_drop hμ ?_)
          clear hσ hμ
          have hle45 := GH.le_trans hle hle5
          have q2 := qi _ hle45
          have hc5 := GH.cell_le hle5 hc
          repeat apply v_seq
          refine v_cut (fun σ1 G6 μ6 => G6 = G5 ∧ μ6 = [(b13, .cells L.toArray 109 (0, 0)), (q, qO (round + 1) 9 1 mp), (mp, oM), (b10, .cells [.int .i64 (round + 1), .int .i64 9].toArray 80 (0, 0)), (b5, .cells (entL index round node cmd).toArray 105 (0, 0)), (b4, .cells [.int .u16 x0, .int .u16 x1].toArray 103 (0, 0))] ∧ ∃ bq, (bq = true ↔ 1 < round ∧ inB yes a = false) ∧ EnvHas σ1 [(135, .bool bq), (12, .int .i64 (k : Nat)), (0, .slice MA members.length mc), (5, .pointer (some ⟨b5, 0, none⟩)), (7, .slice YA yes.length yc), (8, .slice AA ask.length ac), (10, .pointer (some ⟨b10, 0, none⟩)), (11, .pointer (some ⟨q, 0, none⟩)), (13, .pointer (some ⟨b13, 0, none⟩))]) ?_ ?_
          · intro hk
            generalize hib : inB yes a = ib at *
            repeat' (first | exact hk _ _ _ ⟨rfl, rfl, _, (by cases ib <;> simp <;> omega), ⟨rfl, rfl, rfl, rfl, rfl, rfl, rfl, rfl, rfl, trivial⟩⟩ | apply v_region | apply v_nil | (apply v_take; (case hg => rfl)) | (apply v_pass; (case hg => rfl); (case hn => rfl); (case hd => rfl)) | (apply v_pure; (case hop => first | (apply p_move <;> rfl) | (apply p_gt <;> rfl) | (apply p_pickT <;> rfl) | (apply p_pickF <;> rfl) | (apply p_not <;> rfl) | (apply p_fieldAddrB <;> rfl) | (apply p_indexAddrS; (case hx => rfl); (case hi => rfl); (case h0 => omega); (case h => omega); (case hA => assumption)) | fail); (case hd => rfl)) | (apply v_guardB; (case h1 => rfl); (case h2 => rfl); all_goals (intro h; (try simp only [reduceCtorEq, zzz] at h))) | (apply v_read; (case hop => (apply r_load1; rfl; exact Cell.frozen hc5)); (case hd => rfl)) | (apply v_callJ (hs := q2); (case ha => rfl); (case hd => rfl)) | (apply v_read; (case hop => (apply r_load1; rfl; (apply Cell.own; (case h => (repeat (first | exact mhd _ | apply mtl))); rfl))); (case hd => rfl)) | fail)
            all_goals vx_show
          rintro σ1 G6 _ ⟨hG6, rfl, bq, hbq, hσ⟩
          subst hG6
          refine v_has hσ ?_
          clear hσ
          repeat apply v_seq
          refine v_cut (fun σ1 G7 μ7 => GH.le G6 G7 ∧ ∃ L, HdV G7 (hdF yes (⟨index, round, node, cmd⟩ : Ent) a) L ∧ EnvHas σ1 [(12, .int .i64 (k : Nat)), (0, .slice MA members.length mc), (5, .pointer (some ⟨b5, 0, none⟩)), (7, .slice YA yes.length yc), (8, .slice AA ask.length ac), (10, .pointer (some ⟨b10, 0, none⟩)), (11, .pointer (some ⟨q, 0, none⟩)), (13, .pointer (some ⟨b13, 0, none⟩))] ∧ List.Sublist [(b13, .cells L.toArray 109 (0, 0)), (q, qO (round + 1) 9 1 mp), (mp, oM), (b10, .cells [.int .i64 (round + 1), .int .i64 9].toArray 80 (0, 0)), (b5, .cells (entL index round node cmd).toArray 105 (0, 0)), (b4, .cells [.int .u16 x0, .int .u16 x1].toArray 103 (0, 0))] μ7) ?_ ?_
          · intro hk
            apply v_cond
            · rfl
            · intro hb
              obtain ⟨h1r, hin⟩ := hbq.1 hb
              obtain ⟨iv, av, cv, rfl, hi, hav, hcv⟩ := id hL
              obtain ⟨A0, c0, rfl, -⟩ := hi.openInt
              obtain ⟨A1, c1, rfl, -⟩ := hav.open
              obtain ⟨A2, c2, rfl, -⟩ := hcv.open
              clear hL
              repeat' (first | apply v_region | (apply v_pure; (case hop => first | (apply p_fieldAddrB <;> rfl) | (apply p_sub; (case hx => rfl); (case hy => rfl); (case h => omega)) | (apply p_build; (case hz => rfl); (case hv => (simp only [List.map_cons, List.map_nil]; repeat (first | with_reducible exact evs_nil | (apply evs_cons; (case h1 => rfl))))); (case hb => (apply bldL; repeat (first | exact bld_nil | (apply bld_cons; (case hpf => rfl); (case hc => rfl); (case hs => rfl); (case hl => rfl); (case ho => ((repeat (first | with_reducible exact ov_nil | apply ov_cons)); done))))))) | fail); (case hd => rfl)) | (apply v_read; (case hop => (apply r_load1; rfl; (apply Cell.own; (case h => (repeat (first | exact mhd _ | apply mtl))); rfl))); (case hd => rfl)) | (apply v_buildSlice; (case hz => rfl); (case hi => rfl); (case hv => (simp only [List.map_cons, List.map_nil]; repeat (first | with_reducible exact evs_nil | (apply evs_cons; (case h1 => rfl))))); (case hp => (apply pk_cons; (case hc => rfl); (case hs => rfl); (case h => (with_reducible exact pk_nil)); (case he => ((repeat (first | with_reducible exact ap_nil | apply ap_cons)); done)))); (case hb => rfl); (case hd => rfl); intro b) | fail)
              refine v_call (μ1 := [(b, _)]) rfl (of_one (hT.le (GH.le_trans hle13 hle45)) (lowE (⟨index, round, node, cmd⟩ : Ent)) (lowE_ok heok hr) (lowE_one h1 h1r) (by show round - 1 ≠ 0; omega)) (List.Perm.refl _) rfl ?_
              rintro _ G7 _ hle7 ⟨rfl, L, rfl, hL⟩
              obtain ⟨iv, av, cv, rfl, hi, hav, hcv⟩ := id hL
              obtain ⟨A0, c0, rfl, -⟩ := hi.openInt
              obtain ⟨A1, c1, rfl, -⟩ := hav.open
              obtain ⟨A2, c2, rfl, -⟩ := hcv.open
              repeat' (first | exact hk _ _ _ ⟨hle7, _, by rw [hdF_low hin h1r]; exact hL, ⟨rfl, rfl, rfl, rfl, rfl, rfl, rfl, rfl, trivial⟩, (by repeat (exact List.Sublist.refl _))⟩ | apply v_nil | (apply v_store; (case hp => rfl); (case hx => rfl); (case hc => rfl); (case hsz => rfl); (case h1 => rfl); (case hb => (repeat (exact mhd _))); (case hfit => exact nle rfl); (case hov => ((repeat (first | with_reducible exact ov_nil | apply ov_cons)); done)); (case hu => repeat (exact Upd.here _ _))) | fail)
            · intro hb
              repeat' (first | exact hk _ _ _ ⟨GH.le_refl _, _, by rw [hdF_eq (fun h => by rw [hbq.2 h] at hb; cases hb)] at hL; exact hL, ⟨rfl, rfl, rfl, rfl, rfl, rfl, rfl, rfl, trivial⟩, (by repeat (exact List.Sublist.refl _))⟩ | apply v_skip)
          clear hL hc5 q2 hbq
          rintro σ1 G7 μ7 ⟨hle7, L2, hL, hσ, hμ⟩
          refine v_has hσ (v_drop hμ ?_)
          clear hσ hμ
          have hle47 := GH.le_trans hle45 hle7
          have hle17 := GH.le_trans hle13 hle47
          have hc7 := GH.cell_le hle7 (GH.cell_le hle5 hc)
          repeat apply v_seq
          refine v_cut (fun σ1 G8 μ8 => G8 = G7 ∧ ∃ b14, EnvHas σ1 [(14, .pointer (some ⟨b14, 0, none⟩)), (12, .int .i64 (k : Nat)), (0, .slice MA members.length mc), (5, .pointer (some ⟨b5, 0, none⟩)), (7, .slice YA yes.length yc), (8, .slice AA ask.length ac), (10, .pointer (some ⟨b10, 0, none⟩)), (11, .pointer (some ⟨q, 0, none⟩)), (13, .pointer (some ⟨b13, 0, none⟩))] ∧ List.Sublist [(b14, .cells (msL 3 9 a (round + 1) 9 1 0 0 (.slice none 0 0) (.slice none 0 0)).toArray 89 (0, 0)), (b13, .cells L2.toArray 109 (0, 0)), (q, qO (round + 1) 9 1 mp), (mp, oM), (b10, .cells [.int .i64 (round + 1), .int .i64 9].toArray 80 (0, 0)), (b5, .cells (entL index round node cmd).toArray 105 (0, 0)), (b4, .cells [.int .u16 x0, .int .u16 x1].toArray 103 (0, 0))] μ8) ?_ ?_
          · intro hk
            refine d_start [(b13, .cells L2.toArray 109 (0, 0)), (q, qO (round + 1) 9 1 mp), (mp, oM), (b10, .cells [.int .i64 (round + 1), .int .i64 9].toArray 80 (0, 0)), (b5, .cells (entL index round node cmd).toArray 105 (0, 0)), (b4, .cells [.int .u16 x0, .int .u16 x1].toArray 103 (0, 0))] (by kernel_rfl) (by kernel_rfl) (by kernel_rfl) (by (intro e he; exact he)) ?_
            all_goals (apply dtk 0; (case hi => rfl); (case hop => (apply prd; apply p_move <;> rfl)); (case hq => kernel_rfl))
            all_goals (apply dtk 1; (case hi => rfl); (case hop => (apply prd; apply p_move <;> rfl)); (case hq => kernel_rfl))
            all_goals (apply dtk 2; (case hi => rfl); (case hop => (apply prd; apply p_indexAddrS; (case hx => rfl); (case hi => rfl); (case h0 => omega); (case h => omega); (case hA => assumption))); (case hq => kernel_rfl))
            all_goals (apply dtk 3; (case hi => rfl); (case hop => ((apply r_load1; rfl; exact Cell.frozen hc7))); (case hq => kernel_rfl))
            all_goals (apply dtk 4; (case hi => rfl); (case hop => ((apply r_loadNo; (case hx => rfl); (case h => repeat (first | exact mhd _ | apply mtl)); (case hd => rfl); (case hn => rfl)))); (case hq => kernel_rfl))
            all_goals (apply dtk 5; (case hi => rfl); (case hop => (apply prd; apply p_build; (case hz => rfl); (case hv => (simp only [List.map_cons, List.map_nil]; repeat (first | with_reducible exact evs_nil | (apply evs_cons; (case h1 => rfl))))); (case hb => (apply bldL; repeat (first | exact bld_nil | (apply bld_cons; (case hpf => rfl); (case hc => rfl); (case hs => rfl); (case hl => rfl); (case ho => (first | ((repeat (first | with_reducible exact ov_nil | apply ov_cons)); done) | rfl)))))))); (case hq => kernel_rfl))
            all_goals (apply d_exec 6; (case hi => rfl); (case hr => kernel_rfl); (case hop => exact m_alloc rfl); (case hd => rfl); rintro _ _ _ ⟨b14, rfl, rfl, rfl⟩; refine ⟨(by (repeat (first | exact List.forall_mem_nil _ | (refine List.forall_mem_cons.2 (And.intro (by repeat (first | exact mhd _ | apply mtl)) ?_))))), ?_⟩)
            all_goals (apply d_store 7; (case hi => rfl); (case hr => kernel_rfl); (case hL => infer_instance); (case hp => rfl); (case hx => rfl); (case hc => rfl); (case hsz => rfl); (case h1 => rfl); (case hb => (repeat (exact mhd _))); (case hfit => exact nle rfl); (case hov => ((repeat (first | with_reducible exact ov_nil | apply ov_cons)); done)); (case hu => repeat (exact Upd.here _ _)); (case hν' => (repeat (first | exact List.forall_mem_nil _ | (refine List.forall_mem_cons.2 (And.intro (by repeat (first | exact mhd _ | apply mtl)) ?_))))))
            all_goals (apply d_done; (case hr => kernel_rfl))
            all_goals exact hk _ _ _ ⟨rfl, _, ⟨rfl, rfl, rfl, rfl, rfl, rfl, rfl, rfl, rfl, trivial⟩, (by repeat (exact List.Sublist.refl _))⟩
          rintro σ1 G8 μ8 ⟨hG8, b14, hσ, hμ⟩
          subst hG8
          refine v_has hσ (v_drop hμ ?_)
          clear hσ hμ
          repeat apply v_seq
          have q8 := qi8 _ hle47
          repeat' (first | apply v_region | apply v_nil | (apply v_pure; (case hop => first | (apply p_move <;> rfl) | (apply p_eq <;> rfl) | (apply p_indexAddrS; (case hx => rfl); (case hi => rfl); (case h0 => omega); (case h => omega); (case hA => assumption)) | fail); (case hd => rfl)) | (apply v_read; (case hop => (apply r_load1; rfl; exact Cell.frozen hc7)); (case hd => rfl)) | fail)
          refine v_cut (fun σ1 G9 μ9 => G9 = G8 ∧ ∃ src, (1 ≤ src ∧ src ≤ 9 ∧ src ≠ a) ∧ EnvHas σ1 [(14, .pointer (some ⟨b14, 0, none⟩)), (12, .int .i64 (k : Nat)), (0, .slice MA members.length mc), (5, .pointer (some ⟨b5, 0, none⟩)), (7, .slice YA yes.length yc), (8, .slice AA ask.length ac), (10, .pointer (some ⟨b10, 0, none⟩)), (11, .pointer (some ⟨q, 0, none⟩)), (13, .pointer (some ⟨b13, 0, none⟩))] ∧ μ9 = [(b14, .cells (msL 3 src a (round + 1) 9 1 0 0 (.slice none 0 0) (.slice none 0 0)).toArray 89 (0, 0)), (b13, .cells L2.toArray 109 (0, 0)), (q, qO (round + 1) 9 1 mp), (mp, oM), (b10, .cells [.int .i64 (round + 1), .int .i64 9].toArray 80 (0, 0)), (b5, .cells (entL index round node cmd).toArray 105 (0, 0)), (b4, .cells [.int .u16 x0, .int .u16 x1].toArray 103 (0, 0))]) ?_ ?_
          · intro hk
            apply v_cond
            · rfl
            · intro h9
              have h9' := dec_true.1 h9
              repeat' (first | exact hk _ _ _ ⟨rfl, _, by omega, ⟨rfl, rfl, rfl, rfl, rfl, rfl, rfl, rfl, rfl, trivial⟩, rfl⟩ | apply v_seq | apply v_region | apply v_nil | apply v_skip | (apply v_pure; (case hop => first | (apply p_move <;> rfl) | (apply p_fieldAddrB <;> rfl) | fail); (case hd => rfl)) | (apply v_cond; (case hc => rfl); all_goals (intro h; (try simp only [reduceCtorEq, zzz] at h))) | (apply v_callJ (hs := q8); (case ha => rfl); (case hd => rfl)) | (apply v_store; (case hp => rfl); (case hx => rfl); (case hc => rfl); (case hsz => rfl); (case h1 => rfl); (case hb => (repeat (exact mhd _))); (case hfit => exact nle rfl); (case hov => ((repeat (first | with_reducible exact ov_nil | apply ov_cons)); done)); (case hu => repeat (exact Upd.here _ _))) | fail)
            · intro h9
              have h9' := dec_false.1 h9
              repeat' (first | exact hk _ _ _ ⟨rfl, _, by omega, ⟨rfl, rfl, rfl, rfl, rfl, rfl, rfl, rfl, rfl, trivial⟩, rfl⟩ | apply v_skip)
          rintro σ1 G9 _ ⟨hG9, src, hsrc, hσ, rfl⟩
          subst hG9
          refine v_has hσ ?_
          clear hσ q8
          obtain ⟨iv, av, cv, rfl, hi, hav, hcv⟩ := id hL
          obtain ⟨A0, c0, rfl, -⟩ := hi.openInt
          obtain ⟨A1, c1, rfl, -⟩ := hav.open
          obtain ⟨A2, c2, rfl, -⟩ := hcv.open
          have hlen := entsF_len yes (⟨index, round, node, cmd⟩ : Ent) a
          have qp := prepare_s (hT.le hle17) hL (hdF_ok h1 (by show round ≠ 0; omega)) hdF_base (by show (entsF yes (⟨index, round, node, cmd⟩ : Ent) a).length ≤ 200; omega) (entsF_ok heok hr) src a (round + 1) 9 ⟨by omega, by omega, ha1, ha9, by omega⟩ ⟨.inr ⟨by omega, by omega, by decide, by decide⟩, by omega⟩ (hdF_less h1 (by show 1 ≤ round; omega))
          have hPm := promF_prom (yes := yes) (a := a) (f := src) h1 hr ⟨ha1, ha9, by omega, by omega, by omega⟩
          have hTk : TakeP (round + 1) 9 1 got (promF yes (⟨index, round, node, cmd⟩ : Ent) a src) := hF.take hPm hna
          have hF2 := hF.snoc hPm
          rw [← htk] at hF2
          repeat apply v_seq
          repeat' (first | (apply v_read; (case hop => (apply r_loadNo; (case hx => rfl); (case h => repeat (first | exact mhd _ | apply mtl)); (case hd => rfl); (case hn => rfl))); (case hd => rfl)) | apply v_region)
          refine v_call (μ1 := []) rfl qp (List.Perm.refl _) rfl ?_
          rintro _ G10 μ10 hle10 ⟨ov, PA, pc, rfl, hE⟩
          refine v_drop (List.sublist_append_right _ _) (v_drop (ν := [(q, qO (round + 1) 9 1 mp), (mp, oM), (b10, .cells [.int .i64 (round + 1), .int .i64 9].toArray 80 (0, 0)), (b5, .cells (entL index round node cmd).toArray 105 (0, 0)), (b4, .cells [.int .u16 x0, .int .u16 x1].toArray 103 (0, 0))]) (by repeat (first | exact List.Sublist.refl _ | apply List.Sublist.cons)) ?_)
          have hm : MsR G10 (promF yes (⟨index, round, node, cmd⟩ : Ent) a src) (msL 4 a src (round + 1) 9 1 0 0 (.slice PA (hdF yes (⟨index, round, node, cmd⟩ : Ent) a).acc.length pc) (.slice none 0 0)) := ⟨PA, pc, none, 0, rfl, hE, Sl.nil⟩
          have qt := qtake_s (hT.le (GH.le_trans hle17 hle10)) (r := round + 1) (n := 9) (a := 1) (q := q) (mp := mp) (promF yes (⟨index, round, node, cmd⟩ : Ent) a src) hm hM (hg.le (GH.le_trans (GH.le_trans hle5 hle7) hle10)) (by show (entsF yes (⟨index, round, node, cmd⟩ : Ent) a).length ≤ 200; omega)
          rw [decide_eq_true hTk, if_pos hTk] at qt
          clear qp hi hav hcv hL hE
          repeat' (first | (apply v_read; (case hop => (apply r_loadNo; (case hx => rfl); (case h => repeat (exact mhd _)); (case hd => rfl); (case hn => rfl))); (case hd => rfl)) | apply v_seq | apply v_region | apply v_nil | (apply v_take; (case hg => rfl)) | (apply v_pure; (case hop => first | (apply p_move <;> rfl) | (apply p_nes <;> rfl) | (apply p_assign <;> rfl) | (apply p_extract0 <;> rfl) | (apply p_extract1 <;> rfl) | (apply p_extract2 <;> rfl) | fail); (case hd => rfl)) | (apply v_alloc; (case hz => rfl); (case hd => rfl); intro b) | (apply v_store; (case hp => rfl); (case hx => rfl); (case hc => rfl); (case hsz => rfl); (case h1 => rfl); (case hb => (repeat (exact mhd _))); (case hfit => exact nle rfl); (case hov => ((repeat (first | with_reducible exact ov_nil | apply ov_cons)); done)); (case hu => repeat (exact Upd.here _ _))) | fail)
          refine v_perm (ν := [(q, qO (round + 1) 9 1 mp), (mp, oM)] ++ [(b, _), (b10, .cells [.int .i64 (round + 1), .int .i64 9].toArray 80 (0, 0)), (b5, .cells (entL index round node cmd).toArray 105 (0, 0)), (b4, .cells [.int .u16 x0, .int .u16 x1].toArray 103 (0, 0))]) (by apply perm_of_count; intro p; simp only [List.append_eq, List.countP_append, List.countP_cons, List.countP_nil, Nat.zero_add, Nat.add_zero]; try ac_rfl) ?_
          refine v_call (μ1 := [(q, qO (round + 1) 9 1 mp), (mp, oM)]) rfl qt (List.Perm.refl _) rfl ?_
          rintro _ G11 _ hle11 ⟨-, rfl, ml', oM', hM', hg', rfl⟩
          repeat' (first | apply v_region | apply v_nil | apply v_skip | apply v_blk | (apply v_take; (case hg => rfl)) | (apply v_pure; (case hop => first | (apply p_move <;> rfl) | (apply p_assign <;> rfl) | (apply p_pickF <;> rfl) | (apply p_not <;> rfl) | (apply p_add; (case hx => rfl); (case hy => rfl); (case h => omega)) | fail); (case hd => rfl)) | (apply v_condF; (case hc => rfl)) | fail)
          refine v_drop (ν := [(q, qO (round + 1) 9 1 mp), (mp, oM'), (b10, .cells [.int .i64 (round + 1), .int .i64 9].toArray 80 (0, 0)), (b5, .cells (entL index round node cmd).toArray 105 (0, 0)), (b4, .cells [.int .u16 x0, .int .u16 x1].toArray 103 (0, 0))]) (by repeat (first | exact List.Sublist.refl _ | apply List.Sublist.cons_cons | apply List.Sublist.cons)) ?_
          exact v_again rfl ⟨GH.le_trans hle47 (GH.le_trans hle10 hle11), k + 1, _, ml', oM', by omega, hF2, hM', hg', rfl, rfl⟩ (by simp [headI]; omega)
        · intro h
          cases h.symm.trans (dec_pos (show ((k : Nat) : Int) < (ask.length : Nat) by omega))
      · obtain rfl : k = ask.length := by omega
        rw [List.take_length] at hF
        obtain ⟨hb, -, -⟩ := gotF_src hF h1 hr hnd hal9
        have ev : valueQ 1 got index = (true, cmd) := gotF_value hF h1 hr hnd hal9 hcom
        have et : topQ (floorQ 1 got) got = index := gotF_top hF h1 hr hnd hal9 hcom
        have ew : majB members (nodesL got) = true := gotF_maj hF h1 hr hnd hal9 hj3
        have r2 := value_s (r := round + 1) (n := 9) (a := 1) (q := q) (mp := mp) index hM hg hb ⟨by decide, by decide⟩
        have qw := fun (G : GH) (h : GotR G got ml) (hs : Sl G 1 (IntR .i64) (.slice MA members.length mc) members) => won_s (r := round + 1) (n := 9) (a := 1) (q := q) (mp := mp) hM h hb hs (by omega)
        have qt := fun (G : GH) (h : GotR G got ml) => top_s (r := round + 1) (n := 9) (a := 1) (q := q) (mp := mp) hM h hb ⟨by decide, by decide⟩
        have ql : ∀ G : GH, Con Tryz.prog 64 #[.agg #[.int .i64 round, .int .i64 node], .agg #[.int .i64 (round + 1), .int .i64 9]] G [] (Just (.bool true) G) := fun G => by
          have h := refLess_s G round node (round + 1) 9
          rwa [decide_eq_true (show lessP round node (round + 1) 9 from .inl (by omega))] at h
        rw [ev] at r2
        rw [ew] at qw
        rw [et] at qt
        clear ev et ew
        have hmem4 := hmem3.mono hle
        repeat' (first | apply v_seq | apply v_region | apply v_nil | (apply v_exit; (case hp => rfl)) | (apply v_pure; (case hop => first | (apply p_move <;> rfl) | (apply p_lt <;> rfl) | (apply p_lenSlice <;> rfl) | (apply p_fieldAddrB <;> rfl) | fail); (case hd => rfl)) | (apply v_cond; (case hc => rfl); all_goals (intro h; (try simp only [reduceCtorEq, zzz] at h); first | (exfalso; omega) | skip)) | (apply v_read; (case hop => (apply r_load1; rfl; (apply Cell.own; (case h => (repeat (first | exact mhd _ | apply mtl))); rfl))); (case hd => rfl)) | fail)
        refine v_call (μ1 := [(q, qO (round + 1) 9 1 mp), (mp, oM)]) (μ2 := [(b10, .cells [.int .i64 (round + 1), .int .i64 9].toArray 80 (0, 0)), (b5, .cells (entL index round node cmd).toArray 105 (0, 0)), (b4, .cells [.int .u16 x0, .int .u16 x1].toArray 103 (0, 0))]) rfl r2 (List.Perm.refl _) rfl ?_
        rintro _ G5 _ hle5 ⟨-, rfl, rfl⟩
        repeat' (first | apply v_seq | apply v_nil | (apply v_pure; (case hop => first | (apply p_move <;> rfl) | (apply p_assign <;> rfl) | (apply p_extract0 <;> rfl) | (apply p_extract1 <;> rfl) | fail); (case hd => rfl)) | (apply v_alloc; (case hz => rfl); (case hd => rfl); intro b) | (apply v_store; (case hp => rfl); (case hx => rfl); (case hc => rfl); (case hsz => rfl); (case h1 => rfl); (case hb => (repeat (exact mhd _))); (case hfit => exact nle rfl); (case hov => ((repeat (first | with_reducible exact ov_nil | apply ov_cons)); done)); (case hu => repeat (exact Upd.here _ _))) | fail)
        revert b
        intro b18
        have hpm : ((b18, .cells cmd.cells.toArray 28 (0, 0)) :: ([(q, qO (round + 1) 9 1 mp), (mp, oM)] ++ [(b10, .cells [.int .i64 (round + 1), .int .i64 9].toArray 80 (0, 0)), (b5, .cells (entL index round node cmd).toArray 105 (0, 0)), (b4, .cells [.int .u16 x0, .int .u16 x1].toArray 103 (0, 0))]) : OH).Perm ([(q, qO (round + 1) 9 1 mp), (mp, oM)] ++ [(b18, .cells cmd.cells.toArray 28 (0, 0)), (b10, .cells [.int .i64 (round + 1), .int .i64 9].toArray 80 (0, 0)), (b5, .cells (entL index round node cmd).toArray 105 (0, 0)), (b4, .cells [.int .u16 x0, .int .u16 x1].toArray 103 (0, 0))]) := List.perm_middle.symm
        refine v_perm hpm ?_
        have hg5 := hg.le hle5
        have hm5 := hmem4.mono hle5
        have qa5 := fun G (h : GH.le G5 G) => qa G (GH.le_trans hle13 (GH.le_trans hle (GH.le_trans hle5 h)))
        clear r2 hmem4 hmem3 hmem qa hg hF
        refine d_start [(b18, .cells cmd.cells.toArray 28 (0, 0)), (b10, .cells [.int .i64 (round + 1), .int .i64 9].toArray 80 (0, 0)), (b5, .cells (entL index round node cmd).toArray 105 (0, 0)), (b4, .cells [.int .u16 x0, .int .u16 x1].toArray 103 (0, 0))] (by kernel_rfl) (by kernel_rfl) (by kernel_rfl) (by (repeat (first | exact List.forall_mem_nil _ | (refine List.forall_mem_cons.2 (And.intro (by repeat (first | exact mhd _ | apply mtl)) ?_))))) ?_
        all_goals (apply dtk 0; (case hi => rfl); (case hop => (apply prd; apply p_move <;> rfl)); (case hq => kernel_rfl))
        all_goals (apply dtk 1; (case hi => rfl); (case hop => (apply prd; apply p_move <;> rfl)); (case hq => kernel_rfl))
        all_goals ((apply d_call 2 (hs := qw _ hg5 hm5) (μ1 := [(q, qO (round + 1) 9 1 mp), (mp, oM)]) (μ2 := [(b18, .cells cmd.cells.toArray 28 (0, 0)), (b10, .cells [.int .i64 (round + 1), .int .i64 9].toArray 80 (0, 0)), (b5, .cells (entL index round node cmd).toArray 105 (0, 0)), (b4, .cells [.int .u16 x0, .int .u16 x1].toArray 103 (0, 0))]); (case hi => rfl); (case hr => kernel_rfl);  (case ha => rfl); (case hp => exact List.Perm.refl _); (case hd => rfl); (case hν' => exact fun e he => he); rintro _ G6 _ hle6 ⟨-, rfl, rfl⟩))
        all_goals (apply dtk 3; (case hi => rfl); (case hop => (apply prd; apply p_move <;> rfl)); (case hq => kernel_rfl))
        all_goals (try (apply d_guardB 4; (case hi => rfl); (case hgd => rfl); (case h1 => rfl); (case h2 => rfl); all_goals (intro h; (try simp only [reduceCtorEq, zzz] at h))))
        all_goals (apply dtg 4; (case hi => rfl); (case hg => rfl); (case hop => (apply prd; apply p_move <;> rfl)); (case hq => kernel_rfl))
        all_goals (apply dtk 5; (case hi => rfl); (case hop => (apply prd; apply p_pickT <;> rfl)); (case hq => kernel_rfl))
        all_goals (apply dtk 6; (case hi => rfl); (case hop => (apply prd; apply p_move <;> rfl)); (case hq => kernel_rfl))
        all_goals (try (apply d_guardB 7; (case hi => rfl); (case hgd => rfl); (case h1 => rfl); (case h2 => rfl); all_goals (intro h; (try simp only [reduceCtorEq, zzz] at h))))
        all_goals (apply dtg 7; (case hi => rfl); (case hg => rfl); (case hop => first | (apply r_loadNo; (case hx => rfl); (case h => (repeat (exact mhd _))); (case hd => (repeat (first | with_reducible exact dt_nil | apply dt_here))); (case hn => rfl)) | (apply r_load1; rfl; (apply Cell.own; (case h => (repeat (fail))); rfl)) | (apply r_loadN; rfl; (apply CellsAt.own; (case h => (repeat (fail)))); rfl)); (case hq => kernel_rfl))
        all_goals (try (apply d_guardB 8; (case hi => rfl); (case hgd => rfl); (case h1 => rfl); (case h2 => rfl); all_goals (intro h; (try simp only [reduceCtorEq, zzz] at h))))
        all_goals (apply dtg 8; (case hi => rfl); (case hg => rfl); (case hop => (apply prd; apply p_fieldAddrB <;> rfl)); (case hq => kernel_rfl))
        all_goals (try (apply d_guardB 9; (case hi => rfl); (case hgd => rfl); (case h1 => rfl); (case h2 => rfl); all_goals (intro h; (try simp only [reduceCtorEq, zzz] at h))))
        all_goals (apply dtg 9; (case hi => rfl); (case hg => rfl); (case hop => first | (apply r_loadNo; (case hx => rfl); (case h => (repeat (first | exact mhd _ | apply mtl))); (case hd => (repeat (first | with_reducible exact dt_nil | apply dt_here))); (case hn => rfl)) | (apply r_load1; rfl; (apply Cell.own; (case h => (repeat (fail))); rfl)) | (apply r_loadN; rfl; (apply CellsAt.own; (case h => (repeat (fail)))); rfl)); (case hq => kernel_rfl))
        all_goals (try (apply d_guardB 10; (case hi => rfl); (case hgd => rfl); (case h1 => rfl); (case h2 => rfl); all_goals (intro h; (try simp only [reduceCtorEq, zzz] at h))))
        all_goals (apply dtg 10; (case hi => rfl); (case hg => rfl); (case hop => ((apply prd; apply eqCmSame cmd; (case hx => rfl); (case hy => rfl)))); (case hq => kernel_rfl))
        all_goals (apply dtk 11; (case hi => rfl); (case hop => (apply prd; apply p_pickT <;> rfl)); (case hq => kernel_rfl))
        all_goals (apply dtk 12; (case hi => rfl); (case hop => (apply prd; apply p_move <;> rfl)); (case hq => kernel_rfl))
        all_goals (try (apply d_guardB 13; (case hi => rfl); (case hgd => rfl); (case h1 => rfl); (case h2 => rfl); all_goals (intro h; (try simp only [reduceCtorEq, zzz] at h))))
        all_goals (apply dtg 13; (case hi => rfl); (case hg => rfl); (case hop => (apply prd; apply p_move <;> rfl)); (case hq => kernel_rfl))
        all_goals (try (apply d_guardB 15; (case hi => rfl); (case hgd => rfl); (case h1 => rfl); (case h2 => rfl); all_goals (intro h; (try simp only [reduceCtorEq, zzz] at h))))
        all_goals (apply dtg 15; (case hi => rfl); (case hg => rfl); (case hop => (apply prd; apply p_fieldAddrB <;> rfl)); (case hq => kernel_rfl))
        all_goals (try (apply d_guardB 16; (case hi => rfl); (case hgd => rfl); (case h1 => rfl); (case h2 => rfl); all_goals (intro h; (try simp only [reduceCtorEq, zzz] at h))))
        all_goals (apply dtg 16; (case hi => rfl); (case hg => rfl); (case hop => first | (apply r_loadNo; (case hx => rfl); (case h => (repeat (fail))); (case hd => (repeat (fail))); (case hn => rfl)) | (apply r_load1; rfl; (apply Cell.own; (case h => (repeat (first | exact mhd _ | apply mtl))); rfl)) | (apply r_loadN; rfl; (apply CellsAt.own; (case h => (repeat (fail)))); rfl)); (case hq => kernel_rfl))
        all_goals (try (apply d_guardB 14; (case hi => rfl); (case hgd => rfl); (case h1 => rfl); (case h2 => rfl); all_goals (intro h; (try simp only [reduceCtorEq, zzz] at h))))
        all_goals ((apply d_callG 14 (hs := qt _ (hg5.le hle6)) (μ1 := [(q, qO (round + 1) 9 1 mp), (mp, oM)]) (μ2 := [(b18, .cells cmd.cells.toArray 28 (0, 0)), (b10, .cells [.int .i64 (round + 1), .int .i64 9].toArray 80 (0, 0)), (b5, .cells (entL index round node cmd).toArray 105 (0, 0)), (b4, .cells [.int .u16 x0, .int .u16 x1].toArray 103 (0, 0))]); (case hi => rfl); (case hg => rfl); (case hr => kernel_rfl);  (case ha => rfl); (case hp => exact List.Perm.refl _); (case hd => rfl); (case hν' => exact fun e he => he); rintro _ G7 _ hle7 ⟨-, rfl, rfl⟩))
        all_goals (try (apply d_guardB 17; (case hi => rfl); (case hgd => rfl); (case h1 => rfl); (case h2 => rfl); all_goals (intro h; (try simp only [reduceCtorEq, zzz] at h))))
        all_goals (apply dtg 17; (case hi => rfl); (case hg => rfl); (case hop => ((apply prd; apply eqSame; (case hx => rfl); (case hy => rfl)))); (case hq => kernel_rfl))
        all_goals (apply dtk 18; (case hi => rfl); (case hop => (apply prd; apply p_pickT <;> rfl)); (case hq => kernel_rfl))
        all_goals (apply dtk 19; (case hi => rfl); (case hop => (apply prd; apply p_move <;> rfl)); (case hq => kernel_rfl))
        all_goals (try (apply d_guardB 20; (case hi => rfl); (case hgd => rfl); (case h1 => rfl); (case h2 => rfl); all_goals (intro h; (try simp only [reduceCtorEq, zzz] at h))))
        all_goals (apply dtg 20; (case hi => rfl); (case hg => rfl); (case hop => (apply prd; apply p_fieldAddrB <;> rfl)); (case hq => kernel_rfl))
        all_goals (try (apply d_guardB 21; (case hi => rfl); (case hgd => rfl); (case h1 => rfl); (case h2 => rfl); all_goals (intro h; (try simp only [reduceCtorEq, zzz] at h))))
        all_goals (apply dtg 21; (case hi => rfl); (case hg => rfl); (case hop => first | (apply r_loadNo; (case hx => rfl); (case h => (repeat (first | exact mhd _ | apply mtl))); (case hd => (repeat (first | with_reducible exact dt_nil | apply dt_here))); (case hn => rfl)) | (apply r_load1; rfl; (apply Cell.own; (case h => (repeat (fail))); rfl)) | (apply r_loadN; rfl; (apply CellsAt.own; (case h => (repeat (fail)))); rfl)); (case hq => kernel_rfl))
        all_goals (try (apply d_guardB 22; (case hi => rfl); (case hgd => rfl); (case h1 => rfl); (case h2 => rfl); all_goals (intro h; (try simp only [reduceCtorEq, zzz] at h))))
        all_goals (apply dtg 22; (case hi => rfl); (case hg => rfl); (case hop => first | (apply r_loadNo; (case hx => rfl); (case h => (repeat (first | exact mhd _ | apply mtl))); (case hd => (repeat (first | with_reducible exact dt_nil | apply dt_here))); (case hn => rfl)) | (apply r_load1; rfl; (apply Cell.own; (case h => (repeat (fail))); rfl)) | (apply r_loadN; rfl; (apply CellsAt.own; (case h => (repeat (fail)))); rfl)); (case hq => kernel_rfl))
        all_goals (try (apply d_guardB 23; (case hi => rfl); (case hgd => rfl); (case h1 => rfl); (case h2 => rfl); all_goals (intro h; (try simp only [reduceCtorEq, zzz] at h))))
        all_goals (apply d_callJG 23 (hs := (ql _)); (case hi => rfl); (case hg => rfl); (case hr => kernel_rfl); (case ha => rfl); (case hd => rfl))
        all_goals (apply dtk 24; (case hi => rfl); (case hop => (apply prd; apply p_pickT <;> rfl)); (case hq => kernel_rfl))
        all_goals (apply dtk 25; (case hi => rfl); (case hop => (apply prd; apply p_move <;> rfl)); (case hq => kernel_rfl))
        all_goals (try (apply d_guardB 26; (case hi => rfl); (case hgd => rfl); (case h1 => rfl); (case h2 => rfl); all_goals (intro h; (try simp only [reduceCtorEq, zzz] at h))))
        all_goals ((apply d_callG 26 (vs := []) (hs := qa5 _ (GH.le_trans hle6 hle7)) (μ1 := []); (case hi => rfl); (case hg => rfl); (case hr => kernel_rfl);  (case ha => rfl); (case hp => exact List.Perm.refl _); (case hd => rfl); (case hν' => exact fun e he => List.mem_append_right [(q, qO (round + 1) 9 1 mp), (mp, oM)] he); rintro _ G9 _ - ⟨rfl, rfl⟩))
        all_goals (apply dtk 27; (case hi => rfl); (case hop => (apply prd; apply p_pickT <;> rfl)); (case hq => kernel_rfl))
        all_goals (apply dtk 28; (case hi => rfl); (case hop => (apply prd; apply p_assign <;> rfl)); (case hq => kernel_rfl))
        all_goals (apply d_done; (case hr => kernel_rfl))
        all_goals repeat' (fail)
        all_goals
          (refine v_ret [] (outsA1 rfl rfl) (List.nil_sublist _) ?_
           rfl)
end Go.Proofs.YtmdeeokejdkceaaGreatDoor
/-
  The closed facts of the program, each by itself (one kernel's run for each).
-/
set_option linter.unusedSimpArgs false
set_option linter.unusedVariables false
namespace Go.Proofs.YtmdeeokejdkceaaGreatDoor
open Go.Vx Go.ChangeShapes Go.WideShapes Go.ChangeAt Go.RowKit
theorem clos_laid : laidOutB Tryz.prog = true := by kernel_rfl
theorem clos_rowed : mapsRowed Tryz.prog = true := by kernel_rfl
theorem clos_heard : Tryz.prog.stopsHeard = true := by kernel_rfl
theorem clos_may : Tryz.prog.mayEnter = true := by kernel_rfl
theorem clos_lifts : (Rows.specAppRow.lifted == Tryz.prog.liftsFinal) = true := by kernel_rfl
theorem clos_make : (Tryz.prog.make == some Rows.specAppRow.make) = true := by kernel_rfl
theorem clos_plain : (Rows.specAppRow.plainKeys == Tryz.prog.plainKeys) = true := by kernel_rfl
theorem clos_main : Tryz.prog.mainIs = some (true, "fd00f198de0f1bbff99678f964db4a91607ae39a2c1c259642fb503572231bd3".toList) := by kernel_rfl
theorem clos_looks : true = Tryz.prog.looks [] := by kernel_rfl
theorem propFinds_own : ownKnob Tryz.prog.godebug = none := by kernel_rfl
theorem propFinds_laidOut : laidOutB Tryz.prog = true := clos_laid
theorem propFinds_spec : LawSpec Rows.propFindsSpec 3 := ⟨rfl, fun H ds h => by match ds, h with | [d0, d1, d2], _ => rfl⟩
set_option maxRecDepth 100000 in
theorem propFinds_lifted (os : Os) (started : os.Started) (H : Type) (enc : TypeId × Value → H) :
    ReturnsInHanded {} Tryz.checked os 9 .any (fun w args => (Rows.propFindsSpec.pre enc Tryz.prog Tryz.f9 Rows.propFindsRow.domain false w args ∧ laidMetH Tryz.prog tabsLaid w) ∧ sizedMet enc Tryz.prog Tryz.f9 (OpenSpec.ofChange Rows.propFindsSpec) false w args)
      (Rows.propFindsSpec.post enc Tryz.prog Tryz.f9 false true false false) := by
  refine returnsInHanded_of_change_and (C := Tryz.checked) (X := fun w _ => laidMetH Tryz.prog tabsLaid w) (fun _ _ _ hh h => h.of_heap hh) propFinds_own started (by kernel_rfl) Tryz.func9
    (ChangeSpec.witness_shaped (enc := enc) (C := Tryz.checked) (os := os) (X := fun w _ => laidMetH Tryz.prog tabsLaid w) false (World.laidAll Tryz.prog os tabsLaid) #[.slice none 0 0, .agg #[.int .u16 0, .int .u16 0], .agg #[.int .i64 0, .int .i64 0, .int .i64 0, .int .i64 0, .int .i64 0, .int .i64 0, .string ByteArray.empty, .string ByteArray.empty, .string ByteArray.empty, .int .i64 0]] 8 (World.laidAll_os _ _ _)
      (World.shaped_of_ZipB (by kernel_rfl) (by kernel_rfl)) (by kernel_rfl) (by kernel_rfl) (by kernel_rfl)
      (by rw [MakeChecks.laidMetH_plain _ _ _ tabs_plain]; exact laidMet_laidAll _ (by kernel_rfl) (by kernel_rfl))) ?_
  intro W base args ds gs before hval0 hW hcnd _ hL _
  have hval : ∀ (j : Nat) t v, Tryz.f9.params[j]? = some t → args[j]? = some v → Value.okWide Tryz.prog W .any base t v := hval0
  refine law_post propFinds_laidOut Tryz.underlying4 rfl propFinds_spec rfl (by kernel_rfl) hW ?_
  obtain ⟨p, q, hA0, hV, rfl, hfz, hnd⟩ := hW
  have hA : DataW.TrodAll enc Tryz.prog W 0 (fun _ => true) true Tryz.f9.params.toList args.toList ds p := hA0
  rw [Tryz.params9] at hA hval
  obtain ⟨v0, vs0, d0, ds0, p0, q0, hargs, rfl, rfl, h0, r0⟩ := trodAll_cons hA
  obtain ⟨v1, vs1, d1, ds1, p1, q1, rfl, rfl, rfl, h1, r1⟩ := trodAll_cons r0
  obtain ⟨v2, vs2, d2, ds2, p2, q2, rfl, rfl, rfl, h2, r2⟩ := trodAll_cons r1
  obtain ⟨rfl, rfl, rfl⟩ := trodAll_nil r2
  obtain rfl : args = #[v0, v1, v2] := by cases args; simp_all
  have g0 := arg_t49 (hval 0 49 v0 rfl rfl) h0
  have g1 := arg_t103 (hval 1 103 v1 rfl rfl) h1
  have g2 := arg_t105 (hval 2 105 v2 rfl rfl) h2
  exact propFinds_law (tabs_of_laid hL) g0 g1 g2
theorem propFinds_c_inPlace : (Rows.propFindsRow.inPlace == Tryz.prog.inPlace 9) = true := by kernel_rfl
theorem propFinds_c_unfollowed : (Rows.propFindsRow.unfollowed == Tryz.prog.unfollowed 9) = true := by kernel_rfl
theorem propFinds_c_recurses : (Rows.propFindsRow.recurses == Tryz.prog.recurses 9) = true := by kernel_rfl
theorem propFinds_c_named : (Rows.propFindsRow.named == Tryz.prog.varsNamed 9) = true := by kernel_rfl
theorem propFinds_c_lifted : (Rows.propFindsRow.lifted == Tryz.prog.liftsFinal) = true := clos_lifts
theorem propFinds_c_make : (Tryz.prog.make == some Rows.propFindsRow.make) = true := clos_make
theorem propFinds_c_plainKeys : (Rows.propFindsRow.plainKeys == Tryz.prog.plainKeys) = true := clos_plain
theorem propFinds_closed : joinedFacts Tryz.prog 9 Tryz.f9 Rows.propFindsSpec Rows.propFindsRow = true := by
  unfold joinedFacts
  rw [clos_laid, clos_rowed, clos_heard, clos_may, propFinds_c_inPlace, propFinds_c_unfollowed, propFinds_c_recurses, propFinds_c_named, propFinds_c_lifted, propFinds_c_make, propFinds_c_plainKeys]
  kernel_rfl
theorem propFinds_over : Rows.propFindsRow.holds Tryz.pinned (OpenSpec.ofChange Rows.propFindsSpec) :=
  OpenClaim.holds_of_wide 9 Tryz.f9 rfl rfl rfl rfl rfl rfl rfl ⟨rfl, rfl, rfl, rfl, rfl⟩ rfl rfl rfl rfl rfl (by kernel_rfl) Tryz.func9 propFinds_closed
    (of_decide_eq_true (by kernel_rfl)) (by unfold Func.isWrapper; first | (rw [if_pos (by decide +kernel)]; kernel_rfl) | (rw [if_neg (by decide +kernel)]; exact ⟨rfl, rfl⟩))
    (fun os started H enc _ => propFinds_lifted os started H enc)
theorem propFinds_holds : Rows.PropFindsSaid := propFinds_over
theorem propFinds_c_wft : Rows.propFindsRow.wfByText (OpenSpec.ofChange Rows.propFindsSpec) = true := by kernel_rfl
theorem propFinds_c_func : Tryz.prog.funcNamed Rows.propFindsRow.func = some 9 := by kernel_rfl
theorem propFinds_c_stand : ([49, 103, 105].all fun u => !Tryz.prog.wantsStandIn u) = true := by kernel_rfl
theorem propFinds_c_goes : false = Rows.propFindsRow.goesBy Tryz.prog := by kernel_rfl
theorem propFindsCard_holds : Rows.PropFindsCardSaid :=
  Claim7.holds_tied_plain_at .later [] [.data, .pinned] true (true, "fd00f198de0f1bbff99678f964db4a91607ae39a2c1c259642fb503572231bd3") true propFinds_holds (fun _ h => by cases h) propFinds_c_wft (fun _ h => by cases h) propFinds_row_tie rfl ⟨rfl, rfl⟩ clos_main rfl
    (fun f fn hf hfn => by
      obtain rfl : f = 9 := Option.some.inj (propFinds_c_func.symm.trans hf) |>.symm
      obtain rfl : fn = Tryz.f9 := (Option.some.inj (Tryz.func9.symm.trans hfn)).symm
      exact ⟨clos_looks, fun j t ht => by
        rw [Tryz.params9] at ht
        have hm : t ∈ [49, 103, 105] := by simpa using Array.mem_of_getElem? ht
        exact (show Tryz.prog.wantsStandIn t = false by simpa using List.all_eq_true.1 propFinds_c_stand t hm)⟩)
    propFinds_c_goes
end Go.Proofs.YtmdeeokejdkceaaGreatDoor
