/-
  recone (layer 16), the twelfth part: the bytes of a command, by the reference.
-/
import Derived.Test.YtpemabgfmnhhnaaGreatDoorM3
import Derived.Test.YtpemabgfmnhhnaaGreatDoorM2
import Derived.Lib.LaidU8T
import Derived.MakeChecks
import Derived.Test.YtpemabgfmnhhnaaGreatDoorRows
set_option linter.unusedSimpArgs false
set_option linter.unusedVariables false
namespace Go.Proofs.YtpemabgfmnhhnaaGreatDoor
open Go.Vx Go.ChangeShapes Go.WideShapes Go.ChangeAt Go.RowKit
theorem sbytes_wf (s : ByteArray) : ∀ x ∈ sbytes s, (Lit.int .u8 x).wf = true := by
  intro x hx
  simp only [sbytes, List.mem_map] at hx
  obtain ⟨b, _, rfl⟩ := hx
  have := b.toNat_lt
  exact WalkArith.wf_u8 (by omega)
theorem tbytes_wf (s : ByteArray) (hz : s.size ≤ 100000) : ∀ x ∈ vbytes s.size ++ sbytes s, (Lit.int .u8 x).wf = true := fun x hx => by
  rcases List.mem_append.1 hx with hx | hx
  · exact vbytes_wf (by omega) x hx
  · exact sbytes_wf s x hx
theorem want2 {v k : Int} (hv : v ≠ 1) : wantB v k = fun j => decide (band (cmdFields k).1 (hasOf j) ≠ 0) := by
  funext j
  rw [wantB, if_neg hv]
theorem rcmdV_s (G : GH) (v : Int) (c : Cm) (hc : c.ok) (hk : c.key.size ≤ 1000) (hv : c.val.size ≤ 1000) (ho : c.old.size ≤ 1000) : Con Tryz.prog 96 #[.int .i64 v, .agg c.cells.toArray] G [] (fun r G' μ' => GH.le G G' ∧ Grow 5 1 r (vbytes c.kind ++ putW (wantB v c.kind) c 6).length ((vbytes c.kind ++ putW (wantB v c.kind) c 6).map (.int .u8 ·)) μ') := by
  obtain ⟨hk1, hc1, hs1, -, -, -, hn1⟩ := hc
  simp [Lit.wf, IntKind.min, IntKind.max, IntKind.signed, IntKind.bits] at hk1 hc1 hs1 hn1
  have qw := fun G => owned_s G c.kind
  have qm := fun G => member_s G c.kind
  have hL0 := (vbytes_len c.kind).1
  have hL1 := (vbytes_len c.client).1
  have hL2 := (vbytes_len c.seq).1
  have hL3 := (vbytes_len (c.key.size : Nat)).1
  have hL4 := (vbytes_len (c.val.size : Nat)).1
  have hL5 := (vbytes_len c.node).1
  have hL6 := (vbytes_len (c.old.size : Nat)).1
  (refine v_enter Tryz.func96 rfl Tryz.ntmps96 rfl ?_; intro B _)
  repeat' (first | apply v_seq | apply v_region | apply v_nil | (apply v_pure; (case hop => first | (apply p_assign <;> rfl) | (apply p_fieldAddrB <;> rfl) | fail); (case hd => rfl)) | (apply v_box (zs := c.cells); (case hx => rfl); (case hz => rfl); (case hd => rfl); intro cb) | (apply v_read; (case hop => (apply r_load1; rfl; (apply Cell.own; (case h => (repeat (exact mhd _))); rfl))); (case hd => rfl)) | fail)
  refine v_call (μ1 := []) (μ2 := _) rfl (rnum_s G c.kind (by omega)) (List.Perm.refl _) rfl ?_
  rintro v0 G0 ν0 - ⟨rfl, ho0⟩
  obtain hq | hq | hq | hq | hq | hq : v = 1 ∨ (v ≠ 1 ∧ c.kind = 2) ∨ (v ≠ 1 ∧ (c.kind = 3 ∨ c.kind = 4)) ∨ (v ≠ 1 ∧ c.kind = 5) ∨ (v ≠ 1 ∧ (c.kind = 7 ∨ c.kind = 8)) ∨ (v ≠ 1 ∧ (¬ (2 ≤ c.kind ∧ c.kind ≤ 5) ∧ ¬ (c.kind = 7 ∨ c.kind = 8))) := by omega
  · subst hq
    repeat' (first | apply v_seq | apply v_region | apply v_nil | (apply v_pass; (case hg => rfl); (case hn => rfl); (case hd => rfl)) | (apply v_pure; (case hop => first | (apply p_move <;> rfl) | (apply p_eqs <;> rfl) | (apply p_assign <;> rfl) | (apply p_pickT <;> rfl) | (apply p_fieldAddrB <;> rfl) | fail); (case hd => rfl)) | (apply v_condT; (case hc => rfl)) | (apply v_read; (case hop => (apply r_load1; rfl; (apply Cell.own; (case h => (repeat (first | exact mhd _ | apply List.mem_append_right))); rfl))); (case hd => rfl)) | fail)
    refine v_call (μ1 := []) (μ2 := _) rfl (rnum_s _ c.client (by omega)) (List.Perm.refl _) rfl ?_
    rintro r1 G1 μ1 - ⟨rfl, hg1⟩
    refine v_frz μ1 (by repeat (exact PickA.here _)) ?_
    intro H1 hle1 hG1
    have hs1 : Sl H1 1 (IntR .u8) r1 (vbytes c.client) := hg1.ints hG1 (fun x hx => vbytes_wf (by omega) x hx)
    have hsrc1 := fun μ => Src.ints (μ := μ) hs1
    obtain ⟨A1, c1, rfl, -, -⟩ := hg1.shape
    repeat' (fail)
    refine v_append (e := 5) (sz := 1) (zero := .int .u8 0) rfl (by omega) rfl rfl ho0 (PickA.perm (by repeat (exact PickA.here _))) (hsrc1 _) (allOne_ints _) (by (try simp only [List.length_append, sbytes_length]); omega) (by simp only [maxLen]; (try simp only [List.length_append, sbytes_length]); omega) rfl fun v1 ν1 ho1 => ?_
    rw [← List.map_append, ← List.length_append] at ho1
    repeat' (first | apply v_seq | apply v_region | apply v_nil | (apply v_pure; (case hop => first | (apply p_move <;> rfl) | (apply p_assign <;> rfl) | (apply p_fieldAddrB <;> rfl) | fail); (case hd => rfl)) | (apply v_read; (case hop => (apply r_load1; rfl; (apply Cell.own; (case h => (repeat (first | exact mhd _ | apply List.mem_append_right))); rfl))); (case hd => rfl)) | fail)
    refine v_call (μ1 := []) (μ2 := _) rfl (rnum_s _ c.seq (by omega)) (List.Perm.refl _) rfl ?_
    rintro r2 G2 μ2 - ⟨rfl, hg2⟩
    refine v_frz μ2 (by repeat (exact PickA.here _)) ?_
    intro H2 hle2 hG2
    have hs2 : Sl H2 1 (IntR .u8) r2 (vbytes c.seq) := hg2.ints hG2 (fun x hx => vbytes_wf (by omega) x hx)
    have hsrc2 := fun μ => Src.ints (μ := μ) hs2
    obtain ⟨A2, c2, rfl, -, -⟩ := hg2.shape
    repeat' (fail)
    refine v_append (e := 5) (sz := 1) (zero := .int .u8 0) rfl (by omega) rfl rfl ho1 (PickA.perm (by repeat (exact PickA.here _))) (hsrc2 _) (allOne_ints _) (by (try simp only [List.length_append, sbytes_length]); omega) (by simp only [maxLen]; (try simp only [List.length_append, sbytes_length]); omega) rfl fun v2 ν2 ho2 => ?_
    rw [← List.map_append, ← List.length_append] at ho2
    repeat' (first | apply v_region | apply v_nil | (apply v_pure; (case hop => first | (apply p_move <;> rfl) | (apply p_assign <;> rfl) | (apply p_fieldAddrB <;> rfl) | fail); (case hd => rfl)) | (apply v_read; (case hop => (apply r_load1; rfl; (apply Cell.own; (case h => (repeat (first | exact mhd _ | apply List.mem_append_right))); rfl))); (case hd => rfl)) | fail)
    refine v_call (μ1 := []) (μ2 := _) rfl (rtext_s _ c.key (by omega)) (List.Perm.refl _) rfl ?_
    rintro r3 G3 μ3 - ⟨rfl, hg3⟩
    refine v_frz μ3 (by repeat (exact PickA.here _)) ?_
    intro H3 hle3 hG3
    have hs3 : Sl H3 1 (IntR .u8) r3 (vbytes c.key.size ++ sbytes c.key) := hg3.ints hG3 (tbytes_wf c.key (by omega))
    have hsrc3 := fun μ => Src.ints (μ := μ) hs3
    obtain ⟨A3, c3, rfl, -, -⟩ := hg3.shape
    repeat' (fail)
    refine v_append (e := 5) (sz := 1) (zero := .int .u8 0) rfl (by omega) rfl rfl ho2 (PickA.perm (by repeat (exact PickA.here _))) (hsrc3 _) (allOne_ints _) (by (try simp only [List.length_append, sbytes_length]); omega) (by simp only [maxLen]; (try simp only [List.length_append, sbytes_length]); omega) rfl fun v3 ν3 ho3 => ?_
    rw [← List.map_append, ← List.length_append] at ho3
    repeat' (first | apply v_seq | apply v_region | apply v_nil | apply v_skip | (apply v_pass; (case hg => rfl); (case hn => rfl); (case hd => rfl)) | (apply v_pure; (case hop => first | (apply p_move <;> rfl) | (apply p_assign <;> rfl) | (apply p_pickT <;> rfl) | (apply p_pickF <;> rfl) | (apply p_not <;> rfl) | (apply p_fieldAddrB <;> rfl) | fail); (case hd => rfl)) | (apply v_condT; (case hc => rfl)) | (apply v_condF; (case hc => rfl)) | (apply v_read; (case hop => (apply r_load1; rfl; (apply Cell.own; (case h => (repeat (first | exact mhd _ | apply List.mem_append_right))); rfl))); (case hd => rfl)) | fail)
    refine v_call (μ1 := []) (μ2 := _) rfl (rtext_s _ c.val (by omega)) (List.Perm.refl _) rfl ?_
    rintro r4 G4 μ4 - ⟨rfl, hg4⟩
    refine v_frz μ4 (by repeat (exact PickA.here _)) ?_
    intro H4 hle4 hG4
    have hs4 : Sl H4 1 (IntR .u8) r4 (vbytes c.val.size ++ sbytes c.val) := hg4.ints hG4 (tbytes_wf c.val (by omega))
    have hsrc4 := fun μ => Src.ints (μ := μ) hs4
    obtain ⟨A4, c4, rfl, -, -⟩ := hg4.shape
    repeat' (fail)
    refine v_append (e := 5) (sz := 1) (zero := .int .u8 0) rfl (by omega) rfl rfl ho3 (PickA.perm (by repeat (exact PickA.here _))) (hsrc4 _) (allOne_ints _) (by (try simp only [List.length_append, sbytes_length]); omega) (by simp only [maxLen]; (try simp only [List.length_append, sbytes_length]); omega) rfl fun v4 ν4 ho4 => ?_
    rw [← List.map_append, ← List.length_append] at ho4
    repeat' (first | apply v_seq | apply v_region | apply v_nil | (apply v_pass; (case hg => rfl); (case hn => rfl); (case hd => rfl)) | (apply v_pure; (case hop => first | (apply p_move <;> rfl) | (apply p_assign <;> rfl) | (apply p_pickT <;> rfl) | (apply p_fieldAddrB <;> rfl) | fail); (case hd => rfl)) | (apply v_condT; (case hc => rfl)) | (apply v_read; (case hop => (apply r_load1; rfl; (apply Cell.own; (case h => (repeat (first | exact mhd _ | apply List.mem_append_right))); rfl))); (case hd => rfl)) | fail)
    refine v_call (μ1 := []) (μ2 := _) rfl (rnum_s _ c.node (by omega)) (List.Perm.refl _) rfl ?_
    rintro r5 G5 μ5 - ⟨rfl, hg5⟩
    refine v_frz μ5 (by repeat (exact PickA.here _)) ?_
    intro H5 hle5 hG5
    have hs5 : Sl H5 1 (IntR .u8) r5 (vbytes c.node) := hg5.ints hG5 (fun x hx => vbytes_wf (by omega) x hx)
    have hsrc5 := fun μ => Src.ints (μ := μ) hs5
    obtain ⟨A5, c5, rfl, -, -⟩ := hg5.shape
    repeat' (fail)
    refine v_append (e := 5) (sz := 1) (zero := .int .u8 0) rfl (by omega) rfl rfl ho4 (PickA.perm (by repeat (exact PickA.here _))) (hsrc5 _) (allOne_ints _) (by (try simp only [List.length_append, sbytes_length]); omega) (by simp only [maxLen]; (try simp only [List.length_append, sbytes_length]); omega) rfl fun v5 ν5 ho5 => ?_
    rw [← List.map_append, ← List.length_append] at ho5
    repeat' (first | apply v_seq | apply v_region | apply v_nil | (apply v_pure; (case hop => first | (apply p_move <;> rfl) | (apply p_assign <;> rfl) | fail); (case hd => rfl)) | fail)
    have el : vbytes c.kind ++ putW (wantB 1 c.kind) c 6 = vbytes c.kind ++ (vbytes c.client) ++ (vbytes c.seq) ++ (vbytes c.key.size ++ sbytes c.key) ++ (vbytes c.val.size ++ sbytes c.val) ++ (vbytes c.node) := by
      simp [putW, wantB, hasOf, pbytes, isNum, Cm.num, Cm.txt]
    rw [el]
    refine v_ret ν5 (outsA1 rfl rfl) (by repeat (exact List.sublist_append_left _ _)) ?_
    refine ⟨fun b o h => hle5 b o (hle4 b o (hle3 b o (hle2 b o (hle1 b o (h))))), ?_⟩
    simpa using ho5
  · have ow : decide (2 ≤ c.kind ∧ c.kind ≤ 5) = true := by rw [decide_eq_true_iff]; omega
    have om : decide (c.kind = 7 ∨ c.kind = 8) = false := by rw [decide_eq_false_iff_not]; omega
    simp only [ow, om] at qw qm
    repeat' (first | apply v_seq | apply v_region | apply v_nil | (apply v_take; (case hg => rfl)) | (apply v_pure; (case hop => first | (apply p_move <;> rfl) | (apply p_eq <;> rfl) | (apply p_assign <;> rfl) | (apply p_pickF <;> rfl) | (apply p_fieldAddrB <;> rfl) | fail); (case hd => rfl)) | (apply v_condT; (case hc => rfl)) | (apply v_guardB; (case h1 => rfl); (case h2 => rfl); all_goals (intro h; (try simp only [reduceCtorEq, zzz] at h); first | (exfalso; omega) | skip)) | (apply v_callJ (hs := qw _); (case ha => rfl); (case hd => rfl)) | (apply v_read; (case hop => (apply r_load1; rfl; (apply Cell.own; (case h => (repeat (first | exact mhd _ | apply List.mem_append_right))); rfl))); (case hd => rfl)) | fail)
    refine v_call (μ1 := []) (μ2 := _) rfl (rnum_s _ c.client (by omega)) (List.Perm.refl _) rfl ?_
    rintro r1 G1 μ1 - ⟨rfl, hg1⟩
    refine v_frz μ1 (by repeat (exact PickA.here _)) ?_
    intro H1 hle1 hG1
    have hs1 : Sl H1 1 (IntR .u8) r1 (vbytes c.client) := hg1.ints hG1 (fun x hx => vbytes_wf (by omega) x hx)
    have hsrc1 := fun μ => Src.ints (μ := μ) hs1
    obtain ⟨A1, c1, rfl, -, -⟩ := hg1.shape
    repeat' (fail)
    refine v_append (e := 5) (sz := 1) (zero := .int .u8 0) rfl (by omega) rfl rfl ho0 (PickA.perm (by repeat (exact PickA.here _))) (hsrc1 _) (allOne_ints _) (by (try simp only [List.length_append, sbytes_length]); omega) (by simp only [maxLen]; (try simp only [List.length_append, sbytes_length]); omega) rfl fun v1 ν1 ho1 => ?_
    rw [← List.map_append, ← List.length_append] at ho1
    repeat' (first | apply v_seq | apply v_region | apply v_nil | (apply v_pure; (case hop => first | (apply p_move <;> rfl) | (apply p_assign <;> rfl) | (apply p_fieldAddrB <;> rfl) | fail); (case hd => rfl)) | (apply v_read; (case hop => (apply r_load1; rfl; (apply Cell.own; (case h => (repeat (first | exact mhd _ | apply List.mem_append_right))); rfl))); (case hd => rfl)) | fail)
    refine v_call (μ1 := []) (μ2 := _) rfl (rnum_s _ c.seq (by omega)) (List.Perm.refl _) rfl ?_
    rintro r2 G2 μ2 - ⟨rfl, hg2⟩
    refine v_frz μ2 (by repeat (exact PickA.here _)) ?_
    intro H2 hle2 hG2
    have hs2 : Sl H2 1 (IntR .u8) r2 (vbytes c.seq) := hg2.ints hG2 (fun x hx => vbytes_wf (by omega) x hx)
    have hsrc2 := fun μ => Src.ints (μ := μ) hs2
    obtain ⟨A2, c2, rfl, -, -⟩ := hg2.shape
    repeat' (fail)
    refine v_append (e := 5) (sz := 1) (zero := .int .u8 0) rfl (by omega) rfl rfl ho1 (PickA.perm (by repeat (exact PickA.here _))) (hsrc2 _) (allOne_ints _) (by (try simp only [List.length_append, sbytes_length]); omega) (by simp only [maxLen]; (try simp only [List.length_append, sbytes_length]); omega) rfl fun v2 ν2 ho2 => ?_
    rw [← List.map_append, ← List.length_append] at ho2
    repeat' (first | apply v_region | apply v_nil | (apply v_pure; (case hop => first | (apply p_move <;> rfl) | (apply p_assign <;> rfl) | (apply p_fieldAddrB <;> rfl) | fail); (case hd => rfl)) | (apply v_read; (case hop => (apply r_load1; rfl; (apply Cell.own; (case h => (repeat (first | exact mhd _ | apply List.mem_append_right))); rfl))); (case hd => rfl)) | fail)
    refine v_call (μ1 := []) (μ2 := _) rfl (rtext_s _ c.key (by omega)) (List.Perm.refl _) rfl ?_
    rintro r3 G3 μ3 - ⟨rfl, hg3⟩
    refine v_frz μ3 (by repeat (exact PickA.here _)) ?_
    intro H3 hle3 hG3
    have hs3 : Sl H3 1 (IntR .u8) r3 (vbytes c.key.size ++ sbytes c.key) := hg3.ints hG3 (tbytes_wf c.key (by omega))
    have hsrc3 := fun μ => Src.ints (μ := μ) hs3
    obtain ⟨A3, c3, rfl, -, -⟩ := hg3.shape
    repeat' (fail)
    refine v_append (e := 5) (sz := 1) (zero := .int .u8 0) rfl (by omega) rfl rfl ho2 (PickA.perm (by repeat (exact PickA.here _))) (hsrc3 _) (allOne_ints _) (by (try simp only [List.length_append, sbytes_length]); omega) (by simp only [maxLen]; (try simp only [List.length_append, sbytes_length]); omega) rfl fun v3 ν3 ho3 => ?_
    rw [← List.map_append, ← List.length_append] at ho3
    repeat' (first | apply v_seq | apply v_region | apply v_nil | apply v_skip | (apply v_take; (case hg => rfl)) | (apply v_pass; (case hg => rfl); (case hn => rfl); (case hd => rfl)) | (apply v_pure; (case hop => first | (apply p_move <;> rfl) | (apply p_eq <;> rfl) | (apply p_assign <;> rfl) | (apply p_pickT <;> rfl) | (apply p_pickF <;> rfl) | (apply p_not <;> rfl) | (apply p_fieldAddrB <;> rfl) | fail); (case hd => rfl)) | (apply v_condT; (case hc => rfl)) | (apply v_cond; (case hc => rfl); all_goals (intro h; (try simp only [reduceCtorEq, zzz] at h); first | (exfalso; omega) | skip)) | (apply v_guardB; (case h1 => rfl); (case h2 => rfl); all_goals (intro h; (try simp only [reduceCtorEq, zzz] at h); first | (exfalso; omega) | skip)) | (apply v_read; (case hop => (apply r_load1; rfl; (apply Cell.own; (case h => (repeat (first | exact mhd _ | apply List.mem_append_right))); rfl))); (case hd => rfl)) | fail)
    refine v_call (μ1 := []) (μ2 := _) rfl (rtext_s _ c.val (by omega)) (List.Perm.refl _) rfl ?_
    rintro r4 G4 μ4 - ⟨rfl, hg4⟩
    refine v_frz μ4 (by repeat (exact PickA.here _)) ?_
    intro H4 hle4 hG4
    have hs4 : Sl H4 1 (IntR .u8) r4 (vbytes c.val.size ++ sbytes c.val) := hg4.ints hG4 (tbytes_wf c.val (by omega))
    have hsrc4 := fun μ => Src.ints (μ := μ) hs4
    obtain ⟨A4, c4, rfl, -, -⟩ := hg4.shape
    repeat' (fail)
    refine v_append (e := 5) (sz := 1) (zero := .int .u8 0) rfl (by omega) rfl rfl ho3 (PickA.perm (by repeat (exact PickA.here _))) (hsrc4 _) (allOne_ints _) (by (try simp only [List.length_append, sbytes_length]); omega) (by simp only [maxLen]; (try simp only [List.length_append, sbytes_length]); omega) rfl fun v4 ν4 ho4 => ?_
    rw [← List.map_append, ← List.length_append] at ho4
    repeat' (first | apply v_seq | apply v_region | apply v_nil | apply v_skip | (apply v_take; (case hg => rfl)) | (apply v_pure; (case hop => first | (apply p_move <;> rfl) | (apply p_assign <;> rfl) | (apply p_pickF <;> rfl) | (apply p_fieldAddrB <;> rfl) | fail); (case hd => rfl)) | (apply v_condF; (case hc => rfl)) | (apply v_guardB; (case h1 => rfl); (case h2 => rfl); all_goals (intro h; (try simp only [reduceCtorEq, zzz] at h); first | (exfalso; omega) | skip)) | (apply v_callJ (hs := qm _); (case ha => rfl); (case hd => rfl)) | (apply v_read; (case hop => (apply r_load1; rfl; (apply Cell.own; (case h => (repeat (first | exact mhd _ | apply List.mem_append_right))); rfl))); (case hd => rfl)) | fail)
    have el : vbytes c.kind ++ putW (wantB v c.kind) c 6 = vbytes c.kind ++ (vbytes c.client) ++ (vbytes c.seq) ++ (vbytes c.key.size ++ sbytes c.key) ++ (vbytes c.val.size ++ sbytes c.val) := by
      rw [want2 hq.1, hq.2]; simp [cmdFields, putW, hasOf, pbytes, isNum, Cm.num, Cm.txt, band_0_1, band_0_2, band_0_4, band_0_8, band_0_16, band_3_1, band_3_2, band_3_4, band_3_8, band_3_16, band_11_1, band_11_2, band_11_4, band_11_8, band_11_16, band_15_1, band_15_2, band_15_4, band_15_8, band_15_16, band_16_1, band_16_2, band_16_4, band_16_8, band_16_16]
    rw [el]
    refine v_ret ν4 (outsA1 rfl rfl) (by repeat (exact List.sublist_append_left _ _)) ?_
    refine ⟨fun b o h => hle4 b o (hle3 b o (hle2 b o (hle1 b o (h)))), ?_⟩
    simpa using ho4
  · have ow : decide (2 ≤ c.kind ∧ c.kind ≤ 5) = true := by rw [decide_eq_true_iff]; omega
    have om : decide (c.kind = 7 ∨ c.kind = 8) = false := by rw [decide_eq_false_iff_not]; omega
    simp only [ow, om] at qw qm
    repeat' (first | apply v_seq | apply v_region | apply v_nil | (apply v_take; (case hg => rfl)) | (apply v_pure; (case hop => first | (apply p_move <;> rfl) | (apply p_eq <;> rfl) | (apply p_assign <;> rfl) | (apply p_pickF <;> rfl) | (apply p_fieldAddrB <;> rfl) | fail); (case hd => rfl)) | (apply v_condT; (case hc => rfl)) | (apply v_guardB; (case h1 => rfl); (case h2 => rfl); all_goals (intro h; (try simp only [reduceCtorEq, zzz] at h); first | (exfalso; omega) | skip)) | (apply v_callJ (hs := qw _); (case ha => rfl); (case hd => rfl)) | (apply v_read; (case hop => (apply r_load1; rfl; (apply Cell.own; (case h => (repeat (first | exact mhd _ | apply List.mem_append_right))); rfl))); (case hd => rfl)) | fail)
    refine v_call (μ1 := []) (μ2 := _) rfl (rnum_s _ c.client (by omega)) (List.Perm.refl _) rfl ?_
    rintro r1 G1 μ1 - ⟨rfl, hg1⟩
    refine v_frz μ1 (by repeat (exact PickA.here _)) ?_
    intro H1 hle1 hG1
    have hs1 : Sl H1 1 (IntR .u8) r1 (vbytes c.client) := hg1.ints hG1 (fun x hx => vbytes_wf (by omega) x hx)
    have hsrc1 := fun μ => Src.ints (μ := μ) hs1
    obtain ⟨A1, c1, rfl, -, -⟩ := hg1.shape
    repeat' (fail)
    refine v_append (e := 5) (sz := 1) (zero := .int .u8 0) rfl (by omega) rfl rfl ho0 (PickA.perm (by repeat (exact PickA.here _))) (hsrc1 _) (allOne_ints _) (by (try simp only [List.length_append, sbytes_length]); omega) (by simp only [maxLen]; (try simp only [List.length_append, sbytes_length]); omega) rfl fun v1 ν1 ho1 => ?_
    rw [← List.map_append, ← List.length_append] at ho1
    repeat' (first | apply v_seq | apply v_region | apply v_nil | (apply v_pure; (case hop => first | (apply p_move <;> rfl) | (apply p_assign <;> rfl) | (apply p_fieldAddrB <;> rfl) | fail); (case hd => rfl)) | (apply v_read; (case hop => (apply r_load1; rfl; (apply Cell.own; (case h => (repeat (first | exact mhd _ | apply List.mem_append_right))); rfl))); (case hd => rfl)) | fail)
    refine v_call (μ1 := []) (μ2 := _) rfl (rnum_s _ c.seq (by omega)) (List.Perm.refl _) rfl ?_
    rintro r2 G2 μ2 - ⟨rfl, hg2⟩
    refine v_frz μ2 (by repeat (exact PickA.here _)) ?_
    intro H2 hle2 hG2
    have hs2 : Sl H2 1 (IntR .u8) r2 (vbytes c.seq) := hg2.ints hG2 (fun x hx => vbytes_wf (by omega) x hx)
    have hsrc2 := fun μ => Src.ints (μ := μ) hs2
    obtain ⟨A2, c2, rfl, -, -⟩ := hg2.shape
    repeat' (fail)
    refine v_append (e := 5) (sz := 1) (zero := .int .u8 0) rfl (by omega) rfl rfl ho1 (PickA.perm (by repeat (exact PickA.here _))) (hsrc2 _) (allOne_ints _) (by (try simp only [List.length_append, sbytes_length]); omega) (by simp only [maxLen]; (try simp only [List.length_append, sbytes_length]); omega) rfl fun v2 ν2 ho2 => ?_
    rw [← List.map_append, ← List.length_append] at ho2
    repeat' (first | apply v_region | apply v_nil | (apply v_pure; (case hop => first | (apply p_move <;> rfl) | (apply p_assign <;> rfl) | (apply p_fieldAddrB <;> rfl) | fail); (case hd => rfl)) | (apply v_read; (case hop => (apply r_load1; rfl; (apply Cell.own; (case h => (repeat (first | exact mhd _ | apply List.mem_append_right))); rfl))); (case hd => rfl)) | fail)
    refine v_call (μ1 := []) (μ2 := _) rfl (rtext_s _ c.key (by omega)) (List.Perm.refl _) rfl ?_
    rintro r3 G3 μ3 - ⟨rfl, hg3⟩
    refine v_frz μ3 (by repeat (exact PickA.here _)) ?_
    intro H3 hle3 hG3
    have hs3 : Sl H3 1 (IntR .u8) r3 (vbytes c.key.size ++ sbytes c.key) := hg3.ints hG3 (tbytes_wf c.key (by omega))
    have hsrc3 := fun μ => Src.ints (μ := μ) hs3
    obtain ⟨A3, c3, rfl, -, -⟩ := hg3.shape
    repeat' (fail)
    refine v_append (e := 5) (sz := 1) (zero := .int .u8 0) rfl (by omega) rfl rfl ho2 (PickA.perm (by repeat (exact PickA.here _))) (hsrc3 _) (allOne_ints _) (by (try simp only [List.length_append, sbytes_length]); omega) (by simp only [maxLen]; (try simp only [List.length_append, sbytes_length]); omega) rfl fun v3 ν3 ho3 => ?_
    rw [← List.map_append, ← List.length_append] at ho3
    repeat' (first | apply v_seq | apply v_region | apply v_nil | apply v_skip | (apply v_take; (case hg => rfl)) | (apply v_pure; (case hop => first | (apply p_move <;> rfl) | (apply p_eq <;> rfl) | (apply p_assign <;> rfl) | (apply p_pickT <;> rfl) | (apply p_pickF <;> rfl) | (apply p_not <;> rfl) | (apply p_fieldAddrB <;> rfl) | fail); (case hd => rfl)) | (apply v_condF; (case hc => rfl)) | (apply v_cond; (case hc => rfl); all_goals (intro h; (try simp only [reduceCtorEq, zzz] at h); first | (exfalso; omega) | skip)) | (apply v_guardB; (case h1 => rfl); (case h2 => rfl); all_goals (intro h; (try simp only [reduceCtorEq, zzz] at h); first | (exfalso; omega) | skip)) | (apply v_callJ (hs := qm _); (case ha => rfl); (case hd => rfl)) | (apply v_read; (case hop => (apply r_load1; rfl; (apply Cell.own; (case h => (repeat (first | exact mhd _ | apply List.mem_append_right))); rfl))); (case hd => rfl)) | fail)
    have el : vbytes c.kind ++ putW (wantB v c.kind) c 6 = vbytes c.kind ++ (vbytes c.client) ++ (vbytes c.seq) ++ (vbytes c.key.size ++ sbytes c.key) := by
      rw [want2 hq.1]
      obtain ⟨-, h | h⟩ := hq <;> rw [h] <;> simp [cmdFields, putW, hasOf, pbytes, isNum, Cm.num, Cm.txt, band_0_1, band_0_2, band_0_4, band_0_8, band_0_16, band_3_1, band_3_2, band_3_4, band_3_8, band_3_16, band_11_1, band_11_2, band_11_4, band_11_8, band_11_16, band_15_1, band_15_2, band_15_4, band_15_8, band_15_16, band_16_1, band_16_2, band_16_4, band_16_8, band_16_16]
    rw [el]
    refine v_ret ν3 (outsA1 rfl rfl) (by repeat (exact List.sublist_append_left _ _)) ?_
    refine ⟨fun b o h => hle3 b o (hle2 b o (hle1 b o (h))), ?_⟩
    simpa using ho3
  · have ow : decide (2 ≤ c.kind ∧ c.kind ≤ 5) = true := by rw [decide_eq_true_iff]; omega
    have om : decide (c.kind = 7 ∨ c.kind = 8) = false := by rw [decide_eq_false_iff_not]; omega
    simp only [ow, om] at qw qm
    repeat' (first | apply v_seq | apply v_region | apply v_nil | (apply v_take; (case hg => rfl)) | (apply v_pure; (case hop => first | (apply p_move <;> rfl) | (apply p_eq <;> rfl) | (apply p_assign <;> rfl) | (apply p_pickF <;> rfl) | (apply p_fieldAddrB <;> rfl) | fail); (case hd => rfl)) | (apply v_condT; (case hc => rfl)) | (apply v_guardB; (case h1 => rfl); (case h2 => rfl); all_goals (intro h; (try simp only [reduceCtorEq, zzz] at h); first | (exfalso; omega) | skip)) | (apply v_callJ (hs := qw _); (case ha => rfl); (case hd => rfl)) | (apply v_read; (case hop => (apply r_load1; rfl; (apply Cell.own; (case h => (repeat (first | exact mhd _ | apply List.mem_append_right))); rfl))); (case hd => rfl)) | fail)
    refine v_call (μ1 := []) (μ2 := _) rfl (rnum_s _ c.client (by omega)) (List.Perm.refl _) rfl ?_
    rintro r1 G1 μ1 - ⟨rfl, hg1⟩
    refine v_frz μ1 (by repeat (exact PickA.here _)) ?_
    intro H1 hle1 hG1
    have hs1 : Sl H1 1 (IntR .u8) r1 (vbytes c.client) := hg1.ints hG1 (fun x hx => vbytes_wf (by omega) x hx)
    have hsrc1 := fun μ => Src.ints (μ := μ) hs1
    obtain ⟨A1, c1, rfl, -, -⟩ := hg1.shape
    repeat' (fail)
    refine v_append (e := 5) (sz := 1) (zero := .int .u8 0) rfl (by omega) rfl rfl ho0 (PickA.perm (by repeat (exact PickA.here _))) (hsrc1 _) (allOne_ints _) (by (try simp only [List.length_append, sbytes_length]); omega) (by simp only [maxLen]; (try simp only [List.length_append, sbytes_length]); omega) rfl fun v1 ν1 ho1 => ?_
    rw [← List.map_append, ← List.length_append] at ho1
    repeat' (first | apply v_seq | apply v_region | apply v_nil | (apply v_pure; (case hop => first | (apply p_move <;> rfl) | (apply p_assign <;> rfl) | (apply p_fieldAddrB <;> rfl) | fail); (case hd => rfl)) | (apply v_read; (case hop => (apply r_load1; rfl; (apply Cell.own; (case h => (repeat (first | exact mhd _ | apply List.mem_append_right))); rfl))); (case hd => rfl)) | fail)
    refine v_call (μ1 := []) (μ2 := _) rfl (rnum_s _ c.seq (by omega)) (List.Perm.refl _) rfl ?_
    rintro r2 G2 μ2 - ⟨rfl, hg2⟩
    refine v_frz μ2 (by repeat (exact PickA.here _)) ?_
    intro H2 hle2 hG2
    have hs2 : Sl H2 1 (IntR .u8) r2 (vbytes c.seq) := hg2.ints hG2 (fun x hx => vbytes_wf (by omega) x hx)
    have hsrc2 := fun μ => Src.ints (μ := μ) hs2
    obtain ⟨A2, c2, rfl, -, -⟩ := hg2.shape
    repeat' (fail)
    refine v_append (e := 5) (sz := 1) (zero := .int .u8 0) rfl (by omega) rfl rfl ho1 (PickA.perm (by repeat (exact PickA.here _))) (hsrc2 _) (allOne_ints _) (by (try simp only [List.length_append, sbytes_length]); omega) (by simp only [maxLen]; (try simp only [List.length_append, sbytes_length]); omega) rfl fun v2 ν2 ho2 => ?_
    rw [← List.map_append, ← List.length_append] at ho2
    repeat' (first | apply v_region | apply v_nil | (apply v_pure; (case hop => first | (apply p_move <;> rfl) | (apply p_assign <;> rfl) | (apply p_fieldAddrB <;> rfl) | fail); (case hd => rfl)) | (apply v_read; (case hop => (apply r_load1; rfl; (apply Cell.own; (case h => (repeat (first | exact mhd _ | apply List.mem_append_right))); rfl))); (case hd => rfl)) | fail)
    refine v_call (μ1 := []) (μ2 := _) rfl (rtext_s _ c.key (by omega)) (List.Perm.refl _) rfl ?_
    rintro r3 G3 μ3 - ⟨rfl, hg3⟩
    refine v_frz μ3 (by repeat (exact PickA.here _)) ?_
    intro H3 hle3 hG3
    have hs3 : Sl H3 1 (IntR .u8) r3 (vbytes c.key.size ++ sbytes c.key) := hg3.ints hG3 (tbytes_wf c.key (by omega))
    have hsrc3 := fun μ => Src.ints (μ := μ) hs3
    obtain ⟨A3, c3, rfl, -, -⟩ := hg3.shape
    repeat' (fail)
    refine v_append (e := 5) (sz := 1) (zero := .int .u8 0) rfl (by omega) rfl rfl ho2 (PickA.perm (by repeat (exact PickA.here _))) (hsrc3 _) (allOne_ints _) (by (try simp only [List.length_append, sbytes_length]); omega) (by simp only [maxLen]; (try simp only [List.length_append, sbytes_length]); omega) rfl fun v3 ν3 ho3 => ?_
    rw [← List.map_append, ← List.length_append] at ho3
    repeat' (first | apply v_seq | apply v_region | apply v_nil | (apply v_take; (case hg => rfl)) | (apply v_pure; (case hop => first | (apply p_move <;> rfl) | (apply p_eq <;> rfl) | (apply p_assign <;> rfl) | (apply p_pickT <;> rfl) | (apply p_not <;> rfl) | (apply p_fieldAddrB <;> rfl) | fail); (case hd => rfl)) | (apply v_cond; (case hc => rfl); all_goals (intro h; (try simp only [reduceCtorEq, zzz] at h); first | (exfalso; omega) | skip)) | (apply v_guardB; (case h1 => rfl); (case h2 => rfl); all_goals (intro h; (try simp only [reduceCtorEq, zzz] at h); first | (exfalso; omega) | skip)) | (apply v_read; (case hop => (apply r_load1; rfl; (apply Cell.own; (case h => (repeat (first | exact mhd _ | apply List.mem_append_right))); rfl))); (case hd => rfl)) | fail)
    refine v_call (μ1 := []) (μ2 := _) rfl (rtext_s _ c.old (by omega)) (List.Perm.refl _) rfl ?_
    rintro r4 G4 μ4 - ⟨rfl, hg4⟩
    refine v_frz μ4 (by repeat (exact PickA.here _)) ?_
    intro H4 hle4 hG4
    have hs4 : Sl H4 1 (IntR .u8) r4 (vbytes c.old.size ++ sbytes c.old) := hg4.ints hG4 (tbytes_wf c.old (by omega))
    have hsrc4 := fun μ => Src.ints (μ := μ) hs4
    obtain ⟨A4, c4, rfl, -, -⟩ := hg4.shape
    repeat' (fail)
    refine v_append (e := 5) (sz := 1) (zero := .int .u8 0) rfl (by omega) rfl rfl ho3 (PickA.perm (by repeat (exact PickA.here _))) (hsrc4 _) (allOne_ints _) (by (try simp only [List.length_append, sbytes_length]); omega) (by simp only [maxLen]; (try simp only [List.length_append, sbytes_length]); omega) rfl fun v4 ν4 ho4 => ?_
    rw [← List.map_append, ← List.length_append] at ho4
    repeat' (first | apply v_seq | apply v_region | apply v_nil | (apply v_take; (case hg => rfl)) | (apply v_pure; (case hop => first | (apply p_move <;> rfl) | (apply p_eq <;> rfl) | (apply p_assign <;> rfl) | (apply p_pickF <;> rfl) | (apply p_fieldAddrB <;> rfl) | fail); (case hd => rfl)) | (apply v_cond; (case hc => rfl); all_goals (intro h; (try simp only [reduceCtorEq, zzz] at h); first | (exfalso; omega) | skip)) | (apply v_guardB; (case h1 => rfl); (case h2 => rfl); all_goals (intro h; (try simp only [reduceCtorEq, zzz] at h); first | (exfalso; omega) | skip)) | (apply v_read; (case hop => (apply r_load1; rfl; (apply Cell.own; (case h => (repeat (first | exact mhd _ | apply List.mem_append_right))); rfl))); (case hd => rfl)) | fail)
    refine v_call (μ1 := []) (μ2 := _) rfl (rtext_s _ c.val (by omega)) (List.Perm.refl _) rfl ?_
    rintro r5 G5 μ5 - ⟨rfl, hg5⟩
    refine v_frz μ5 (by repeat (exact PickA.here _)) ?_
    intro H5 hle5 hG5
    have hs5 : Sl H5 1 (IntR .u8) r5 (vbytes c.val.size ++ sbytes c.val) := hg5.ints hG5 (tbytes_wf c.val (by omega))
    have hsrc5 := fun μ => Src.ints (μ := μ) hs5
    obtain ⟨A5, c5, rfl, -, -⟩ := hg5.shape
    repeat' (fail)
    refine v_append (e := 5) (sz := 1) (zero := .int .u8 0) rfl (by omega) rfl rfl ho4 (PickA.perm (by repeat (exact PickA.here _))) (hsrc5 _) (allOne_ints _) (by (try simp only [List.length_append, sbytes_length]); omega) (by simp only [maxLen]; (try simp only [List.length_append, sbytes_length]); omega) rfl fun v5 ν5 ho5 => ?_
    rw [← List.map_append, ← List.length_append] at ho5
    repeat' (first | apply v_seq | apply v_region | apply v_nil | apply v_skip | (apply v_take; (case hg => rfl)) | (apply v_pure; (case hop => first | (apply p_move <;> rfl) | (apply p_assign <;> rfl) | (apply p_pickF <;> rfl) | (apply p_fieldAddrB <;> rfl) | fail); (case hd => rfl)) | (apply v_condF; (case hc => rfl)) | (apply v_guardB; (case h1 => rfl); (case h2 => rfl); all_goals (intro h; (try simp only [reduceCtorEq, zzz] at h); first | (exfalso; omega) | skip)) | (apply v_callJ (hs := qm _); (case ha => rfl); (case hd => rfl)) | (apply v_read; (case hop => (apply r_load1; rfl; (apply Cell.own; (case h => (repeat (first | exact mhd _ | apply List.mem_append_right))); rfl))); (case hd => rfl)) | fail)
    have el : vbytes c.kind ++ putW (wantB v c.kind) c 6 = vbytes c.kind ++ (vbytes c.client) ++ (vbytes c.seq) ++ (vbytes c.key.size ++ sbytes c.key) ++ (vbytes c.old.size ++ sbytes c.old) ++ (vbytes c.val.size ++ sbytes c.val) := by
      rw [want2 hq.1, hq.2]; simp [cmdFields, putW, hasOf, pbytes, isNum, Cm.num, Cm.txt, band_0_1, band_0_2, band_0_4, band_0_8, band_0_16, band_3_1, band_3_2, band_3_4, band_3_8, band_3_16, band_11_1, band_11_2, band_11_4, band_11_8, band_11_16, band_15_1, band_15_2, band_15_4, band_15_8, band_15_16, band_16_1, band_16_2, band_16_4, band_16_8, band_16_16]
    rw [el]
    refine v_ret ν5 (outsA1 rfl rfl) (by repeat (exact List.sublist_append_left _ _)) ?_
    refine ⟨fun b o h => hle5 b o (hle4 b o (hle3 b o (hle2 b o (hle1 b o (h))))), ?_⟩
    simpa using ho5
  · have ow : decide (2 ≤ c.kind ∧ c.kind ≤ 5) = false := by rw [decide_eq_false_iff_not]; omega
    have om : decide (c.kind = 7 ∨ c.kind = 8) = true := by rw [decide_eq_true_iff]; omega
    simp only [ow, om] at qw qm
    repeat' (first | apply v_seq | apply v_region | apply v_nil | apply v_skip | (apply v_take; (case hg => rfl)) | (apply v_pure; (case hop => first | (apply p_move <;> rfl) | (apply p_eq <;> rfl) | (apply p_assign <;> rfl) | (apply p_pickT <;> rfl) | (apply p_pickF <;> rfl) | (apply p_not <;> rfl) | (apply p_fieldAddrB <;> rfl) | fail); (case hd => rfl)) | (apply v_condT; (case hc => rfl)) | (apply v_condF; (case hc => rfl)) | (apply v_cond; (case hc => rfl); all_goals (intro h; (try simp only [reduceCtorEq, zzz] at h); first | (exfalso; omega) | skip)) | (apply v_guardB; (case h1 => rfl); (case h2 => rfl); all_goals (intro h; (try simp only [reduceCtorEq, zzz] at h); first | (exfalso; omega) | skip)) | (apply v_callJ (hs := qw _); (case ha => rfl); (case hd => rfl)) | (apply v_callJ (hs := qm _); (case ha => rfl); (case hd => rfl)) | (apply v_read; (case hop => (apply r_load1; rfl; (apply Cell.own; (case h => (repeat (first | exact mhd _ | apply List.mem_append_right))); rfl))); (case hd => rfl)) | fail)
    refine v_call (μ1 := []) (μ2 := _) rfl (rnum_s _ c.node (by omega)) (List.Perm.refl _) rfl ?_
    rintro r1 G1 μ1 - ⟨rfl, hg1⟩
    refine v_frz μ1 (by repeat (exact PickA.here _)) ?_
    intro H1 hle1 hG1
    have hs1 : Sl H1 1 (IntR .u8) r1 (vbytes c.node) := hg1.ints hG1 (fun x hx => vbytes_wf (by omega) x hx)
    have hsrc1 := fun μ => Src.ints (μ := μ) hs1
    obtain ⟨A1, c1, rfl, -, -⟩ := hg1.shape
    repeat' (fail)
    refine v_append (e := 5) (sz := 1) (zero := .int .u8 0) rfl (by omega) rfl rfl ho0 (PickA.perm (by repeat (exact PickA.here _))) (hsrc1 _) (allOne_ints _) (by (try simp only [List.length_append, sbytes_length]); omega) (by simp only [maxLen]; (try simp only [List.length_append, sbytes_length]); omega) rfl fun v1 ν1 ho1 => ?_
    rw [← List.map_append, ← List.length_append] at ho1
    repeat' (first | apply v_seq | apply v_region | apply v_nil | (apply v_pure; (case hop => first | (apply p_move <;> rfl) | (apply p_assign <;> rfl) | fail); (case hd => rfl)) | fail)
    have el : vbytes c.kind ++ putW (wantB v c.kind) c 6 = vbytes c.kind ++ (vbytes c.node) := by
      rw [want2 hq.1]
      obtain ⟨-, h | h⟩ := hq <;> rw [h] <;> simp [cmdFields, putW, hasOf, pbytes, isNum, Cm.num, Cm.txt, band_0_1, band_0_2, band_0_4, band_0_8, band_0_16, band_3_1, band_3_2, band_3_4, band_3_8, band_3_16, band_11_1, band_11_2, band_11_4, band_11_8, band_11_16, band_15_1, band_15_2, band_15_4, band_15_8, band_15_16, band_16_1, band_16_2, band_16_4, band_16_8, band_16_16]
    rw [el]
    refine v_ret ν1 (outsA1 rfl rfl) (by repeat (exact List.sublist_append_left _ _)) ?_
    refine ⟨fun b o h => hle1 b o (h), ?_⟩
    simpa using ho1
  · have ow : decide (2 ≤ c.kind ∧ c.kind ≤ 5) = false := by rw [decide_eq_false_iff_not]; omega
    have om : decide (c.kind = 7 ∨ c.kind = 8) = false := by rw [decide_eq_false_iff_not]; omega
    simp only [ow, om] at qw qm
    repeat' (first | apply v_seq | apply v_region | apply v_nil | apply v_skip | (apply v_take; (case hg => rfl)) | (apply v_pure; (case hop => first | (apply p_move <;> rfl) | (apply p_eq <;> rfl) | (apply p_assign <;> rfl) | (apply p_pickT <;> rfl) | (apply p_pickF <;> rfl) | (apply p_not <;> rfl) | (apply p_fieldAddrB <;> rfl) | fail); (case hd => rfl)) | (apply v_condF; (case hc => rfl)) | (apply v_cond; (case hc => rfl); all_goals (intro h; (try simp only [reduceCtorEq, zzz] at h); first | (exfalso; omega) | skip)) | (apply v_guardB; (case h1 => rfl); (case h2 => rfl); all_goals (intro h; (try simp only [reduceCtorEq, zzz] at h); first | (exfalso; omega) | skip)) | (apply v_callJ (hs := qw _); (case ha => rfl); (case hd => rfl)) | (apply v_callJ (hs := qm _); (case ha => rfl); (case hd => rfl)) | (apply v_read; (case hop => (apply r_load1; rfl; (apply Cell.own; (case h => (repeat (first | exact mhd _ | apply List.mem_append_right))); rfl))); (case hd => rfl)) | fail)
    have el : vbytes c.kind ++ putW (wantB v c.kind) c 6 = vbytes c.kind := by
      rw [want2 hq.1]
      have e0 : (cmdFields c.kind).1 = 0 := by unfold cmdFields; (repeat' split) <;> first | rfl | (exfalso; omega)
      simp [e0, putW, hasOf, band_0_1, band_0_2, band_0_4, band_0_8, band_0_16, band_3_1, band_3_2, band_3_4, band_3_8, band_3_16, band_11_1, band_11_2, band_11_4, band_11_8, band_11_16, band_15_1, band_15_2, band_15_4, band_15_8, band_15_16, band_16_1, band_16_2, band_16_4, band_16_8, band_16_16]
    rw [el]
    refine v_ret ν0 (outsA1 rfl rfl) (by repeat (exact List.sublist_append_left _ _)) ?_
    refine ⟨GH.le_refl _, ?_⟩
    simpa using ho0
theorem rcmd_s (G : GH) (c : Cm) (hc : c.ok) (hk : c.key.size ≤ 1000) (hv : c.val.size ≤ 1000) (ho : c.old.size ≤ 1000) : Con Tryz.prog 96 #[.int .i64 1, .agg c.cells.toArray] G [] (fun r G' μ' => GH.le G G' ∧ Grow 5 1 r (vbytes c.kind ++ putL c 6).length ((vbytes c.kind ++ putL c 6).map (.int .u8 ·)) μ') := rcmdV_s G 1 c hc hk hv ho
theorem memwf {a b : List Int} (ha : ∀ x ∈ a, (Lit.int .u8 x).wf = true) (hb : ∀ x ∈ b, (Lit.int .u8 x).wf = true) : ∀ x ∈ a ++ b, (Lit.int .u8 x).wf = true := fun x hx => by
  rcases List.mem_append.1 hx with h | h
  · exact ha x h
  · exact hb x h
theorem rrec_s {G : GH} {x : Rc} {xv : Value} (hx : RcV G x xv) (hc : x.cmd.ok) (hl : x.fits) (hw : x.small) (hk : 1 ≤ x.kind ∧ x.kind ≤ 4) : Con Tryz.prog 93 #[xv] G [] (fun r G' μ' => GH.le G G' ∧ Grow 5 1 r (encL x).length ((encL x).map (.int .u8 ·)) μ') := by
  have hcw : ∀ y ∈ vbytes x.cmd.kind ++ putL x.cmd 6, (Lit.int .u8 y).wf = true := by
    obtain ⟨hk1, hc1, hs1, -, -, -, hn1⟩ := hc
    simp [Lit.wf, IntKind.min, IntKind.max, IntKind.signed, IntKind.bits] at hk1 hc1 hs1 hn1
    unfold Rc.fits at hl
    have el : vbytes x.cmd.kind ++ vbytes x.cmd.client ++ vbytes x.cmd.seq ++ (vbytes x.cmd.key.size ++ sbytes x.cmd.key) ++ (vbytes x.cmd.val.size ++ sbytes x.cmd.val) ++ vbytes x.cmd.node = vbytes x.cmd.kind ++ putL x.cmd 6 := by
      simp [putL, putW, wantB, hasOf, pbytes, isNum, Cm.num, Cm.txt]
    rw [← el]
    exact memwf (memwf (memwf (memwf (memwf (vbytes_wf (by omega)) (vbytes_wf (by omega))) (vbytes_wf (by omega))) (tbytes_wf _ (by omega))) (tbytes_wf _ (by omega))) (vbytes_wf (by omega))
  have hcl := putL_len x.cmd (by unfold Rc.fits at hl; omega) (by unfold Rc.fits at hl; omega) (by unfold Rc.fits at hl; omega) 6
  unfold Rc.fits at hl
  obtain ⟨hw1, hw2, hw3, hw4⟩ := hw
  obtain ⟨iv, rfl, hi⟩ := hx
  have hL0 := (vbytes_len x.kind).1
  have hL1 := (vbytes_len x.round).1
  have hL2 := (vbytes_len x.node).1
  have hL3 := (vbytes_len x.index).1
  have hL4 := (vbytes_len x.cmd.kind).1
  have hL5 := (vbytes_len (x.image.length : Nat)).1
  have hh := fun G => hasCmd_s G x.kind
  obtain ⟨A, c, rfl, -⟩ := hi.openInt
  (refine v_enter Tryz.func93 rfl Tryz.ntmps93 rfl ?_; intro B _)
  repeat' (first | apply v_seq | apply v_region | apply v_nil | (apply v_pure; (case hop => first | (apply p_assign <;> rfl) | (apply p_fieldAddrB <;> rfl) | fail); (case hd => rfl)) | (apply v_box (zs := recL x.kind x.round x.node x.index x.cmd (.slice A x.image.length c)); (case hx => rfl); (case hz => rfl); (case hd => rfl); intro rb) | (apply v_read; (case hop => (apply r_load1; rfl; (apply Cell.own; (case h => (repeat (exact mhd _))); rfl))); (case hd => rfl)) | fail)
  refine v_call (μ1 := []) (μ2 := _) rfl (rnum_s _ x.kind (by omega)) (List.Perm.refl _) rfl ?_
  rintro v0 G0 ν0 - ⟨rfl, ho0⟩
  repeat' (first | apply v_seq | apply v_region | apply v_nil | (apply v_pure; (case hop => first | (apply p_move <;> rfl) | (apply p_assign <;> rfl) | (apply p_fieldAddrB <;> rfl) | fail); (case hd => rfl)) | (apply v_read; (case hop => (apply r_load1; rfl; (apply Cell.own; (case h => (repeat (first | exact mhd _ | apply List.mem_append_right))); rfl))); (case hd => rfl)) | fail)
  refine v_call (μ1 := []) (μ2 := _) rfl (rnum_s _ x.round (by omega)) (List.Perm.refl _) rfl ?_
  rintro r1 G1 μ1 - ⟨rfl, hg1⟩
  refine v_frz μ1 (by repeat (exact PickA.here _)) ?_
  intro H1 hle1 hG1
  have hs1 : Sl H1 1 (IntR .u8) r1 (vbytes x.round) := hg1.ints hG1 (fun x hx => vbytes_wf (by omega) x hx)
  have hsrc1 := fun μ => Src.ints (μ := μ) hs1
  obtain ⟨A1, c1, rfl, -, -⟩ := hg1.shape
  repeat' (fail)
  refine v_append (e := 5) (sz := 1) (zero := .int .u8 0) rfl (by omega) rfl rfl ho0 (PickA.perm (by repeat (exact PickA.here _))) (hsrc1 _) (allOne_ints _) (by (try simp only [List.length_append, sbytes_length]); omega) (by simp only [maxLen]; (try simp only [List.length_append, sbytes_length]); omega) rfl fun v1 ν1 ho1 => ?_
  rw [← List.map_append, ← List.length_append] at ho1
  repeat' (first | apply v_seq | apply v_region | apply v_nil | (apply v_pure; (case hop => first | (apply p_move <;> rfl) | (apply p_assign <;> rfl) | (apply p_fieldAddrB <;> rfl) | fail); (case hd => rfl)) | (apply v_read; (case hop => (apply r_load1; rfl; (apply Cell.own; (case h => (repeat (first | exact mhd _ | apply List.mem_append_right))); rfl))); (case hd => rfl)) | fail)
  refine v_call (μ1 := []) (μ2 := _) rfl (rnum_s _ x.node (by omega)) (List.Perm.refl _) rfl ?_
  rintro r2 G2 μ2 - ⟨rfl, hg2⟩
  refine v_frz μ2 (by repeat (exact PickA.here _)) ?_
  intro H2 hle2 hG2
  have hs2 : Sl H2 1 (IntR .u8) r2 (vbytes x.node) := hg2.ints hG2 (fun x hx => vbytes_wf (by omega) x hx)
  have hsrc2 := fun μ => Src.ints (μ := μ) hs2
  obtain ⟨A2, c2, rfl, -, -⟩ := hg2.shape
  repeat' (fail)
  refine v_append (e := 5) (sz := 1) (zero := .int .u8 0) rfl (by omega) rfl rfl ho1 (PickA.perm (by repeat (exact PickA.here _))) (hsrc2 _) (allOne_ints _) (by (try simp only [List.length_append, sbytes_length]); omega) (by simp only [maxLen]; (try simp only [List.length_append, sbytes_length]); omega) rfl fun v2 ν2 ho2 => ?_
  rw [← List.map_append, ← List.length_append] at ho2
  repeat' (first | apply v_seq | apply v_region | apply v_nil | (apply v_pure; (case hop => first | (apply p_move <;> rfl) | (apply p_assign <;> rfl) | (apply p_fieldAddrB <;> rfl) | fail); (case hd => rfl)) | (apply v_read; (case hop => (apply r_load1; rfl; (apply Cell.own; (case h => (repeat (first | exact mhd _ | apply List.mem_append_right))); rfl))); (case hd => rfl)) | fail)
  refine v_call (μ1 := []) (μ2 := _) rfl (rnum_s _ x.index (by omega)) (List.Perm.refl _) rfl ?_
  rintro r3 G3 μ3 - ⟨rfl, hg3⟩
  refine v_frz μ3 (by repeat (exact PickA.here _)) ?_
  intro H3 hle3 hG3
  have hs3 : Sl H3 1 (IntR .u8) r3 (vbytes x.index) := hg3.ints hG3 (fun x hx => vbytes_wf (by omega) x hx)
  have hsrc3 := fun μ => Src.ints (μ := μ) hs3
  obtain ⟨A3, c3, rfl, -, -⟩ := hg3.shape
  repeat' (fail)
  refine v_append (e := 5) (sz := 1) (zero := .int .u8 0) rfl (by omega) rfl rfl ho2 (PickA.perm (by repeat (exact PickA.here _))) (hsrc3 _) (allOne_ints _) (by (try simp only [List.length_append, sbytes_length]); omega) (by simp only [maxLen]; (try simp only [List.length_append, sbytes_length]); omega) rfl fun v3 ν3 ho3 => ?_
  rw [← List.map_append, ← List.length_append] at ho3
  repeat' (first | apply v_seq | apply v_region | apply v_nil | (apply v_pure; (case hop => first | (apply p_assign <;> rfl) | (apply p_fieldAddrB <;> rfl) | fail); (case hd => rfl)) | (apply v_read; (case hop => (apply r_load1; rfl; (apply Cell.own; (case h => (repeat (first | exact mhd _ | apply List.mem_append_right))); rfl))); (case hd => rfl)) | fail)
  have hi3 := ((hi.mono hle1).mono hle2).mono hle3
  have hlh : ∀ G', GH.le H3 G' → GH.le G1 G' := fun G' h b o q => h b o (hle3 b o (hle2 b o (hle1 b o q)))
  have e0 : vbytes x.kind ++ vbytes x.round ++ vbytes x.node ++ vbytes x.index = headL x := by simp [headL]
  rw [e0] at ho3
  have hhl := headL_len x
  obtain h | h | h | h : x.kind = 1 ∨ x.kind = 2 ∨ x.kind = 3 ∨ x.kind = 4 := by omega
  all_goals repeat' (first | apply v_seq | apply v_region | apply v_nil | apply v_skip | (apply v_pure; (case hop => first | (apply p_move <;> rfl) | (apply p_eq <;> rfl) | (apply p_assign <;> rfl) | (apply p_lenSlice <;> rfl) | (apply p_fieldAddrB <;> rfl) | fail); (case hd => rfl)) | (apply v_cond; (case hc => rfl); all_goals (intro h; (try simp only [reduceCtorEq, zzz] at h); first | (exfalso; omega) | skip)) | (apply v_callJ (hs := hh _); (case ha => rfl); (case hd => rfl)) | (apply v_read; (case hop => first | (apply r_loadNo; (case hx => rfl); (case h => (repeat (first | exact mhd _ | apply List.mem_append_right))); (case hd => (repeat (first | with_reducible exact dt_nil | apply dt_here))); (case hn => rfl)) | (apply r_load1; rfl; (apply Cell.own; (case h => (repeat (first | exact mhd _ | apply List.mem_append_right))); rfl)) | fail); (case hd => rfl)) | fail)
  · refine v_ret ν3 (outsA1 rfl rfl) (by repeat (exact List.sublist_append_left _ _)) ?_
    rw [show encL x = headL x by rw [encL, if_neg (by omega), if_neg (by omega)]]
    exact ⟨hlh _ (GH.le_refl _), ho3⟩
  · refine v_call (μ1 := []) (μ2 := _) rfl (rcmd_s _ x.cmd hc (by omega) (by omega) (by omega)) (List.Perm.refl _) rfl ?_
    rintro r4 G4 μ4 - ⟨hleR, hg4⟩
    refine v_frz μ4 (by repeat (exact PickA.here _)) ?_
    intro H4 hle4 hG4
    have hs4 : Sl H4 1 (IntR .u8) r4 (vbytes x.cmd.kind ++ putL x.cmd 6) := hg4.ints hG4 (hcw)
    have hsrc4 := fun μ => Src.ints (μ := μ) hs4
    obtain ⟨A4, c4, rfl, -, -⟩ := hg4.shape
    repeat' (fail)
    refine v_append (e := 5) (sz := 1) (zero := .int .u8 0) rfl (by omega) rfl rfl ho3 (PickA.perm (by repeat (exact PickA.here _))) (hsrc4 _) (allOne_ints _) (by (try simp only [List.length_append, sbytes_length]); omega) (by simp only [maxLen]; (try simp only [List.length_append, sbytes_length]); omega) rfl fun v4 ν4 ho4 => ?_
    rw [← List.map_append, ← List.length_append] at ho4
    repeat' (first | apply v_seq | apply v_region | apply v_nil | apply v_skip | (apply v_pure; (case hop => first | (apply p_move <;> rfl) | (apply p_eq <;> rfl) | (apply p_assign <;> rfl) | (apply p_fieldAddrB <;> rfl) | fail); (case hd => rfl)) | (apply v_cond; (case hc => rfl); all_goals (intro h; (try simp only [reduceCtorEq, zzz] at h); first | (exfalso; omega) | skip)) | (apply v_read; (case hop => (apply r_load1; rfl; (apply Cell.own; (case h => (repeat (first | exact mhd _ | apply List.mem_append_right))); rfl))); (case hd => rfl)) | fail)
    refine v_ret ν4 (outsA1 rfl rfl) (by repeat (exact List.sublist_append_left _ _)) ?_
    rw [show encL x = headL x ++ (vbytes x.cmd.kind ++ putL x.cmd 6) by rw [encL, if_pos (by omega)]; simp]
    exact ⟨hlh _ (fun b o q => hle4 b o (hleR b o q)), by simpa using ho4⟩
  · refine v_call (μ1 := []) (μ2 := _) rfl (rcmd_s _ x.cmd hc (by omega) (by omega) (by omega)) (List.Perm.refl _) rfl ?_
    rintro r4 G4 μ4 - ⟨hleR, hg4⟩
    refine v_frz μ4 (by repeat (exact PickA.here _)) ?_
    intro H4 hle4 hG4
    have hs4 : Sl H4 1 (IntR .u8) r4 (vbytes x.cmd.kind ++ putL x.cmd 6) := hg4.ints hG4 (hcw)
    have hsrc4 := fun μ => Src.ints (μ := μ) hs4
    obtain ⟨A4, c4, rfl, -, -⟩ := hg4.shape
    repeat' (fail)
    refine v_append (e := 5) (sz := 1) (zero := .int .u8 0) rfl (by omega) rfl rfl ho3 (PickA.perm (by repeat (exact PickA.here _))) (hsrc4 _) (allOne_ints _) (by (try simp only [List.length_append, sbytes_length]); omega) (by simp only [maxLen]; (try simp only [List.length_append, sbytes_length]); omega) rfl fun v4 ν4 ho4 => ?_
    rw [← List.map_append, ← List.length_append] at ho4
    repeat' (first | apply v_seq | apply v_region | apply v_nil | apply v_skip | (apply v_pure; (case hop => first | (apply p_move <;> rfl) | (apply p_eq <;> rfl) | (apply p_assign <;> rfl) | (apply p_fieldAddrB <;> rfl) | fail); (case hd => rfl)) | (apply v_cond; (case hc => rfl); all_goals (intro h; (try simp only [reduceCtorEq, zzz] at h); first | (exfalso; omega) | skip)) | (apply v_read; (case hop => (apply r_load1; rfl; (apply Cell.own; (case h => (repeat (first | exact mhd _ | apply List.mem_append_right))); rfl))); (case hd => rfl)) | fail)
    refine v_ret ν4 (outsA1 rfl rfl) (by repeat (exact List.sublist_append_left _ _)) ?_
    rw [show encL x = headL x ++ (vbytes x.cmd.kind ++ putL x.cmd 6) by rw [encL, if_pos (by omega)]; simp]
    exact ⟨hlh _ (fun b o q => hle4 b o (hleR b o q)), by simpa using ho4⟩
  · refine v_call (μ1 := []) (μ2 := _) rfl (rnum_s _ (x.image.length : Nat) (by omega)) (List.Perm.refl _) rfl ?_
    rintro r4 G4 μ4 - ⟨rfl, hg4⟩
    refine v_frz μ4 (by repeat (exact PickA.here _)) ?_
    intro H4 hle4 hG4
    have hs4 : Sl H4 1 (IntR .u8) r4 (vbytes x.image.length) := hg4.ints hG4 (fun x hx => vbytes_wf (by omega) x hx)
    have hsrc4 := fun μ => Src.ints (μ := μ) hs4
    obtain ⟨A4, c4, rfl, -, -⟩ := hg4.shape
    repeat' (fail)
    refine v_append (e := 5) (sz := 1) (zero := .int .u8 0) rfl (by omega) rfl rfl ho3 (PickA.perm (by repeat (exact PickA.here _))) (hsrc4 _) (allOne_ints _) (by (try simp only [List.length_append, sbytes_length]); omega) (by simp only [maxLen]; (try simp only [List.length_append, sbytes_length]); omega) rfl fun v4 ν4 ho4 => ?_
    rw [← List.map_append, ← List.length_append] at ho4
    repeat' (first | apply v_region | apply v_nil | (apply v_pure; (case hop => first | (apply p_move <;> rfl) | (apply p_assign <;> rfl) | (apply p_fieldAddrB <;> rfl) | fail); (case hd => rfl)) | (apply v_read; (case hop => (apply r_load1; rfl; (apply Cell.own; (case h => (repeat (first | exact mhd _ | apply List.mem_append_right))); rfl))); (case hd => rfl)) | fail)
    have hsi := fun μ => Src.ints (μ := μ) (hi3.mono hle4)
    refine v_append (e := 5) (sz := 1) (zero := .int .u8 0) rfl (by omega) rfl rfl ho4 (PickA.perm (by repeat (exact PickA.here _))) (hsi _) (allOne_ints _) (by (try simp only [List.length_append, sbytes_length]); omega) (by simp only [maxLen]; (try simp only [List.length_append, sbytes_length]); omega) rfl fun v5 ν5 ho5 => ?_
    rw [← List.map_append, ← List.length_append] at ho5
    repeat' (first | apply v_seq | apply v_region | apply v_nil | (apply v_pure; (case hop => first | (apply p_move <;> rfl) | (apply p_assign <;> rfl) | fail); (case hd => rfl)) | fail)
    refine v_ret ν5 (outsA1 rfl rfl) (by repeat (exact List.sublist_append_left _ _)) ?_
    rw [show encL x = headL x ++ vbytes x.image.length ++ x.image by rw [encL, if_neg (by omega), if_pos (by omega)]]
    exact ⟨hlh _ hle4, ho5⟩
def decX (s : Option (List Int)) : Rc :=
  if nV s = 2 ∨ nV s = 3 then ⟨nV s, nV (nS s), nV (nS (nS s)), nV (nS (nS (nS s))), (getK (nS (nS (nS (nS s)))) 6).1, []⟩
  else if nV s = 4 then ⟨nV s, nV (nS s), nV (nS (nS s)), nV (nS (nS (nS s))), zeroC, rawB 32768 (nS (nS (nS (nS s))))⟩
  else ⟨nV s, nV (nS s), nV (nS (nS s)), nV (nS (nS (nS s))), zeroC, []⟩
def decS (s : Option (List Int)) : Option (List Int) :=
  if nV s = 2 ∨ nV s = 3 then (getK (nS (nS (nS (nS s)))) 6).2
  else if nV s = 4 then rawS 32768 (nS (nS (nS (nS s))))
  else nS (nS (nS (nS s)))
theorem decX_ok {s : Option (List Int)} (h : byteS s) : (decX s).cmd.ok := by
  have h4 := numS_b (numS_b (numS_b (numS_b h 9223372036854775807) 9223372036854775807) 9223372036854775807) 9223372036854775807
  unfold decX
  split
  · exact (getW_ok _ h4 6).1
  · split <;> exact zeroC_ok
theorem older0 {x : Rc} (h : olderI x = 0) : recI x.kind x.round x.node x.index x.cmd x.image.length = 0 ∧ ((x.kind = 2 ∨ x.kind = 3) → HasV 1 x.cmd.kind) := by
  unfold olderI at h
  by_cases h0 : recI x.kind x.round x.node x.index x.cmd x.image.length = 0
  · rw [if_neg (by rw [h0]; decide)] at h
    obtain ⟨h1, -⟩ := ite0 (by decide) h
    refine ⟨h0, fun hk => ?_⟩
    exact Decidable.not_not.1 fun hn => h1 ⟨hk, hn⟩
  · rw [if_pos h0] at h; exact absurd h h0
theorem walkL_tail (x : Rc) : walkL x.kind (vbytes x.round ++ vbytes x.node) (vbytes x.index) (vbytes x.cmd.kind ++ putW (wantB 2 x.cmd.kind) x.cmd 6) (vbytes x.image.length ++ x.image) = tailT x := rfl
theorem tailT_len {x : Rc} (h : x.fits) : (tailT x).length ≤ 40000 := by
  unfold Rc.fits at h
  have h1 := (vbytes_len x.round).1
  have h2 := (vbytes_len x.node).1
  have h3 := (vbytes_len x.index).1
  have h4 := (vbytes_len x.cmd.kind).1
  have h5 := putW_len (wantB 2 x.cmd.kind) x.cmd (by omega) (by omega) (by omega) 6
  have h6 := (vbytes_len (x.image.length : Nat)).1
  have hif : ∀ (p : Prop) [Decidable p] (a b : List Int) (m : Nat), a.length ≤ m → b.length ≤ m → (if p then a else b).length ≤ m := fun p _ a b m ha hb => by split <;> assumption
  unfold tailT
  rw [List.length_append, List.length_append, List.length_append]
  have e1 := hif (x.kind = 1 ∨ x.kind = 2) (vbytes x.round ++ vbytes x.node) [] 22 (by rw [List.length_append]; omega) (by simp)
  have e2 := hif (x.kind = 1) [] (vbytes x.index) 11 (by simp) (by omega)
  have e3 := hif (x.kind = 2 ∨ x.kind = 3) (vbytes x.cmd.kind ++ putW (wantB 2 x.cmd.kind) x.cmd 6) [] 6077 (by rw [List.length_append]; omega) (by simp)
  have e4 := hif (x.kind = 4) (vbytes x.image.length ++ x.image) [] 32791 (by rw [List.length_append]; omega) (by simp)
  omega
def EncT (x : Rc) (r : Value) (G' : GH) (μ' : OH) : Prop := μ' = [] ∧ ∃ v, r = .tuple [v, .int .i64 (chkI x)].toArray ∧ Sl G' 1 (IntR .u8) v (if chkI x = 0 then encT x else [])
theorem encodeT_s {G : GH} (hT : TabsG G) {x : Rc} {xv : Value} (hx : RcV G x xv) (hc : x.cmd.ok) : Con Tryz.prog 98 #[xv] G [] (EncT x) := by
  obtain ⟨iv, rfl, hi⟩ := hx
  obtain ⟨A, cp, rfl, hlc, hcm, -⟩ := id hi.openInt
  simp only [maxLen] at hcm
  have qc := recCheck_s hT x.kind x.round x.node x.index x.cmd hc A x.image.length cp (by omega)
  unfold EncT
  by_cases h0 : chkI x = 0
  rotate_left
  · rw [if_neg h0]
    unfold chkI at h0 ⊢
    generalize recI x.kind x.round x.node x.index x.cmd x.image.length = o at *
    (refine v_enter Tryz.func98 rfl Tryz.ntmps98 rfl ?_; intro B _)
    repeat' (first | apply v_seq | apply v_region | apply v_nil | (apply v_pure; (case hop => first | (apply p_move <;> rfl) | (apply p_ne <;> rfl) | (apply p_assign <;> rfl) | fail); (case hd => rfl)) | (apply v_cond; (case hc => rfl); all_goals (intro h; (try simp only [reduceCtorEq, zzz] at h); first | (exfalso; omega) | skip)) | (apply v_box (zs := recL x.kind x.round x.node x.index x.cmd (.slice A x.image.length cp)); (case hx => rfl); (case hz => rfl); (case hd => rfl); intro xb) | (apply v_callJ (hs := qc); (case ha => rfl); (case hd => rfl)) | (apply v_read; (case hop => (apply r_loadNo; (case hx => rfl); (case h => (repeat (exact mhd _))); (case hd => (repeat (first | with_reducible exact dt_nil | apply dt_here))); (case hn => rfl))); (case hd => rfl)) | fail)
    refine v_ret [] (outsA2 rfl rfl rfl) (by repeat (exact List.nil_sublist _)) ?_
    exact ⟨rfl, _, rfl, Sl.nil⟩
  · rw [if_pos h0]
    have h0' : recI x.kind x.round x.node x.index x.cmd x.image.length = 0 := h0
    have hf := fits0 h0'
    obtain ⟨hfit, hsm, him, hsz⟩ := hf
    have hk := (rec0 h0').1
    have htl := tailT_len hfit
    unfold Rc.small at hsm
    rw [h0'] at qc
    rw [h0]
    (refine v_enter Tryz.func98 rfl Tryz.ntmps98 rfl ?_; intro B _)
    repeat' (first | apply v_seq | apply v_region | apply v_nil | apply v_skip | (apply v_pure; (case hop => first | (apply p_move <;> rfl) | (apply p_nes <;> rfl) | (apply p_assign <;> rfl) | (apply p_fieldAddrB <;> rfl) | (apply p_add; (case hx => rfl); (case hy => rfl); (case h => omega)) | (apply p_build; (case hz => rfl); (case hv => (simp only [List.map_cons, List.map_nil]; repeat (with_reducible exact evs_nil))); (case hb => (apply bldL; repeat (exact bld_nil)))) | fail); (case hd => rfl)) | (apply v_condF; (case hc => rfl)) | (apply v_box (zs := recL x.kind x.round x.node x.index x.cmd (.slice A x.image.length cp)); (case hx => rfl); (case hz => rfl); (case hd => rfl); intro xb) | (apply v_box (zs := [.slice none 0 0]); (case hx => rfl); (case hz => rfl); (case hd => rfl); intro wb) | (apply v_callJ (hs := qc); (case ha => rfl); (case hd => rfl)) | (apply v_read; (case hop => first | (apply r_loadNo; (case hx => rfl); (case h => (repeat (exact mhd _))); (case hd => (repeat (first | with_reducible exact dt_nil | apply dt_here))); (case hn => rfl)) | (apply r_load1; rfl; (apply Cell.own; (case h => (repeat (first | exact mhd _ | apply mtl))); rfl)) | fail); (case hd => rfl)) | (apply v_alloc; (case hz => rfl); (case hd => rfl); intro b) | (apply v_store; (case hp => rfl); (case hx => rfl); (case hc => rfl); (case hsz => rfl); (case h1 => rfl); (case hb => (repeat (exact mhd _))); (case hfit => exact nle rfl); (case hov => ((repeat (first | with_reducible exact ov_nil | apply ov_cons)); done)); (case hu => repeat (exact Upd.here _ _))) | fail)
    rename Nat => pb
    refine v_call (μ1 := [(wb, _)]) (μ2 := _) rfl (wnumber_s wb (x.kind + 16) Sl.nil (by simp) (by omega)) (PickA.perm (by repeat (first | exact PickA.here _ | apply PickA.cons))) rfl ?_
    rintro r1 G1 _ hle1 ⟨v1, rfl, s1⟩
    repeat' (first | apply v_seq | apply v_region | apply v_nil | (apply v_pure; (case hop => first | (apply p_fieldAddrB <;> rfl) | (apply p_makeFunc <;> rfl) | fail); (case hd => rfl)) | (apply v_read; (case hop => (apply r_load1; rfl; (apply Cell.own; (case h => (repeat (first | exact mhd _ | apply mtl))); rfl))); (case hd => rfl)) | fail)
    have e1 := enc1_s G wb pb xb x.kind x.round x.node x.index x.cmd (.slice A x.image.length cp) (by omega) (by omega)
    have e2 := enc2_s G wb pb xb x.kind x.round x.node x.index x.cmd (.slice A x.image.length cp) (by omega)
    have e3 := enc3_s G wb pb xb x.kind x.round x.node x.index x.cmd (.slice A x.image.length cp) hc (by omega) (by omega) (by omega)
    have e4 := enc4_s wb pb xb x.kind x.round x.node x.index x.cmd hi (by omega)
    have qk := walkW_s (k := x.kind) (by omega) e1 e2 e3 e4 (by have := (vbytes_len x.round).1; have := (vbytes_len x.node).1; rw [List.length_append]; omega) (by have := (vbytes_len x.index).1; omega) (by have := (vbytes_len x.cmd.kind).1; have := putW_len (wantB 2 x.cmd.kind) x.cmd (by omega) (by omega) (by omega) 6; rw [List.length_append]; omega) hle1 s1 (by have := (vbytes_len (x.kind + 16)).1; simp; omega)
    rw [walkL_tail] at qk
    refine v_call (μ1 := twoW wb pb xb v1 x.kind x.round x.node x.index x.cmd (.slice A x.image.length cp)) (μ2 := []) rfl qk (by apply perm_of_count; intro p; simp only [List.append_eq, List.countP_append, List.countP_cons, List.countP_nil, Nat.zero_add, Nat.add_zero]; try ac_rfl) rfl ?_
    rintro r2 G2 _ hle2 ⟨v2, rfl, s2⟩
    repeat' (first | apply v_seq | apply v_region | apply v_nil | (apply v_read; (case hop => (apply r_load1; rfl; (apply Cell.own; (case h => (repeat (first | exact mhd _ | apply mtl))); rfl))); (case hd => rfl)) | fail)
    refine v_call (μ1 := [(wb, _)]) (μ2 := _) rfl (wbytes_s wb s2 (by have := (vbytes_len (x.kind + 16)).1; rw [List.length_append, List.length_append]; simp; omega)) (PickA.perm (by repeat (exact PickA.here _))) rfl ?_
    rintro r3 G3 _ hle3 ⟨rfl, s3⟩
    repeat' (first | apply v_nil | (apply v_pure; (case hop => (apply p_assign <;> rfl)); (case hd => rfl)) | fail)
    refine v_ret [] (outsA2 rfl rfl rfl) (by repeat (exact List.nil_sublist _)) ?_
    exact ⟨rfl, _, rfl, s3⟩
def zeroRc : Rc := ⟨0, 0, 0, 0, zeroC, []⟩
def zeroRL : List Value := recL 0 0 0 0 zeroC (.slice none 0 0)
def decOk (s : Option (List Int)) : Prop := decS s = some [] ∧ (1 ≤ nV s ∧ nV s ≤ 4) ∧ olderI (decX s) = 0
def DecR (s : Option (List Int)) (r : Value) (G' : GH) (μ' : OH) : Prop := μ' = [] ∧ ∃ x v e, r = .tuple [v, .int .i64 e].toArray ∧ RcV G' x v ∧ ((decOk s ∧ x = decX s ∧ e = 0) ∨ (¬ decOk s ∧ x = zeroRc ∧ e ≠ 0))
set_option maxHeartbeats 4000000 in
theorem rdecode_s {G : GH} (hT : TabsG G) {l : List Int} {bv : Value} (hs : Sl G 1 (IntR .u8) bv l) (hl : l.length ≤ 1048000) : Con Tryz.prog 151 #[bv] G [] (DecR (some l)) := by
  have hby : byteS (some l) := fun r hr x hx => by cases hr; exact sl_byte hs x hx
  have hok := decX_ok hby
  have hb4 : byteS (numS 9223372036854775807 (numS 9223372036854775807 (numS 9223372036854775807 (numS 9223372036854775807 (some l))))) := numS_b (numS_b (numS_b (numS_b hby _) _) _) _
  have eX : decX (some l) = if numV 9223372036854775807 (some l) = 2 ∨ numV 9223372036854775807 (some l) = 3 then ⟨numV 9223372036854775807 (some l), numV 9223372036854775807 (numS 9223372036854775807 (some l)), numV 9223372036854775807 (numS 9223372036854775807 (numS 9223372036854775807 (some l))), numV 9223372036854775807 (numS 9223372036854775807 (numS 9223372036854775807 (numS 9223372036854775807 (some l)))), (getK (numS 9223372036854775807 (numS 9223372036854775807 (numS 9223372036854775807 (numS 9223372036854775807 (some l))))) 6).1, []⟩ else if numV 9223372036854775807 (some l) = 4 then ⟨numV 9223372036854775807 (some l), numV 9223372036854775807 (numS 9223372036854775807 (some l)), numV 9223372036854775807 (numS 9223372036854775807 (numS 9223372036854775807 (some l))), numV 9223372036854775807 (numS 9223372036854775807 (numS 9223372036854775807 (numS 9223372036854775807 (some l)))), zeroC, rawB 32768 (numS 9223372036854775807 (numS 9223372036854775807 (numS 9223372036854775807 (numS 9223372036854775807 (some l)))))⟩ else ⟨numV 9223372036854775807 (some l), numV 9223372036854775807 (numS 9223372036854775807 (some l)), numV 9223372036854775807 (numS 9223372036854775807 (numS 9223372036854775807 (some l))), numV 9223372036854775807 (numS 9223372036854775807 (numS 9223372036854775807 (numS 9223372036854775807 (some l)))), zeroC, []⟩ := rfl
  have eS : decS (some l) = if numV 9223372036854775807 (some l) = 2 ∨ numV 9223372036854775807 (some l) = 3 then (getK (numS 9223372036854775807 (numS 9223372036854775807 (numS 9223372036854775807 (numS 9223372036854775807 (some l))))) 6).2 else if numV 9223372036854775807 (some l) = 4 then rawS 32768 (numS 9223372036854775807 (numS 9223372036854775807 (numS 9223372036854775807 (numS 9223372036854775807 (some l))))) else numS 9223372036854775807 (numS 9223372036854775807 (numS 9223372036854775807 (numS 9223372036854775807 (some l)))) := rfl
  have eO : decOk (some l) ↔ (decS (some l) = some [] ∧ (1 ≤ numV 9223372036854775807 (some l) ∧ numV 9223372036854775807 (some l) ≤ 4) ∧ olderI (decX (some l)) = 0) := Iff.rfl
  unfold DecR
  generalize decX (some l) = X at *
  generalize decS (some l) = S at *
  generalize decOk (some l) = OK at *
  (refine v_enter Tryz.func151 rfl Tryz.ntmps151 rfl ?_; intro B _)
  repeat' (first | apply v_seq | apply v_region | apply v_nil | (apply v_pure; (case hop => first | (apply p_move <;> rfl) | (apply p_assign <;> rfl) | fail); (case hd => rfl)) | (apply v_alloc; (case hz => rfl); (case hd => rfl); intro b) | fail)
  refine v_call (μ1 := []) (μ2 := _) rfl (newReader_s hs hl) (List.Perm.refl _) rfl ?_
  rintro _ G1 _ - ⟨hle1, rb, bv1, rfl, rfl, hs1⟩
  have hr0 : RdS l 0 0 (some l) := ⟨by omega, .inr ⟨by simp, rfl⟩⟩
  repeat' (first | apply v_seq | apply v_region | apply v_nil | (apply v_pure; (case hop => first | (apply p_move <;> rfl) | (apply p_assign <;> rfl) | fail); (case hd => rfl)) | fail)
  refine v_call (μ1 := [(rb, _)]) (μ2 := _) rfl (rdNumber_s rb _ _ 9223372036854775807 hs1 (by omega) hr0) (PickA.perm (by repeat (exact PickA.here _))) rfl ?_
  rintro _ _ _ - ⟨rfl, rfl, a1, no1, rfl, hr1⟩
  repeat' (first | apply v_seq | apply v_region | apply v_nil | (apply v_pure; (case hop => first | (apply p_move <;> rfl) | (apply p_build; (case hz => rfl); (case hv => (simp only [List.map_cons, List.map_nil]; repeat (first | with_reducible exact evs_nil | (apply evs_cons; (case h1 => rfl))))); (case hb => (apply bldL; repeat (first | exact bld_nil | (apply bld_cons; (case hpf => rfl); (case hc => rfl); (case hs => rfl); (case hl => rfl); (case ho => ((repeat (first | with_reducible exact ov_nil | apply ov_cons)); done))))))) | fail); (case hd => rfl)) | (apply v_alloc; (case hz => rfl); (case hd => rfl); intro b) | (apply v_store; (case hp => rfl); (case hx => rfl); (case hc => rfl); (case hsz => rfl); (case h1 => rfl); (case hb => (repeat (exact mhd _))); (case hfit => exact nle rfl); (case hov => ((repeat (first | with_reducible exact ov_nil | apply ov_cons)); done)); (case hu => repeat (exact Upd.here _ _))) | fail)
  refine v_call (μ1 := [(rb, _)]) (μ2 := _) rfl (rdNumber_s rb _ _ 9223372036854775807 hs1 (by omega) hr1) (PickA.perm (by repeat (first | exact PickA.here _ | apply PickA.cons))) rfl ?_
  rintro _ _ _ - ⟨rfl, rfl, a2, no2, rfl, hr2⟩
  repeat' (first | apply v_seq | apply v_region | apply v_nil | (apply v_pure; (case hop => first | (apply p_move <;> rfl) | (apply p_fieldAddrB <;> rfl) | fail); (case hd => rfl)) | (apply v_store; (case hp => rfl); (case hx => rfl); (case hc => rfl); (case hsz => rfl); (case h1 => rfl); (case hb => (repeat (first | exact mhd _ | apply mtl))); (case hfit => exact nle rfl); (case hov => ((repeat (first | with_reducible exact ov_nil | apply ov_cons)); done)); (case hu => repeat (first | exact Upd.here _ _ | apply Upd.there))) | fail)
  refine v_call (μ1 := [(rb, _)]) (μ2 := _) rfl (rdNumber_s rb _ _ 9223372036854775807 hs1 (by omega) hr2) (PickA.perm (by repeat (exact PickA.here _))) rfl ?_
  rintro _ _ _ - ⟨rfl, rfl, a3, no3, rfl, hr3⟩
  repeat' (first | apply v_seq | apply v_region | apply v_nil | (apply v_pure; (case hop => first | (apply p_move <;> rfl) | (apply p_fieldAddrB <;> rfl) | fail); (case hd => rfl)) | (apply v_store; (case hp => rfl); (case hx => rfl); (case hc => rfl); (case hsz => rfl); (case h1 => rfl); (case hb => (repeat (first | exact mhd _ | apply mtl))); (case hfit => exact nle rfl); (case hov => ((repeat (first | with_reducible exact ov_nil | apply ov_cons)); done)); (case hu => repeat (first | exact Upd.here _ _ | apply Upd.there))) | fail)
  refine v_call (μ1 := [(rb, _)]) (μ2 := _) rfl (rdNumber_s rb _ _ 9223372036854775807 hs1 (by omega) hr3) (PickA.perm (by repeat (exact PickA.here _))) rfl ?_
  rintro _ _ _ - ⟨rfl, rfl, a4, no4, rfl, hr4⟩
  repeat' (first | apply v_seq | apply v_region | apply v_nil | (apply v_pure; (case hop => (apply p_fieldAddrB <;> rfl)); (case hd => rfl)) | (apply v_read; (case hop => (apply r_load1; rfl; (apply Cell.own; (case h => (repeat (first | exact mhd _ | apply mtl))); rfl))); (case hd => rfl)) | (apply v_store; (case hp => rfl); (case hx => rfl); (case hc => rfl); (case hsz => rfl); (case h1 => rfl); (case hb => (repeat (first | exact mhd _ | apply mtl))); (case hfit => exact nle rfl); (case hov => ((repeat (first | with_reducible exact ov_nil | apply ov_cons)); done)); (case hu => repeat (first | exact Upd.here _ _ | apply Upd.there))) | fail)
  clear hr0 hr1 hr2 hr3
  generalize numS 9223372036854775807 (numS 9223372036854775807 (numS 9223372036854775807 (numS 9223372036854775807 (some l)))) = s4 at *
  generalize numV 9223372036854775807 (numS 9223372036854775807 (numS 9223372036854775807 (numS 9223372036854775807 (some l)))) = ix at *
  generalize numV 9223372036854775807 (numS 9223372036854775807 (numS 9223372036854775807 (some l))) = nd at *
  generalize numV 9223372036854775807 (numS 9223372036854775807 (some l)) = rd at *
  generalize numV 9223372036854775807 (some l) = kd at *
  have qf := fun G => rfields_s G kd
  have qe := fun G no a => rerr_s G rb bv1 a no
  by_cases h23 : kd = 2 ∨ kd = 3
  · rw [if_pos h23] at eX eS
    have e : hasL kd = [.bool (decide (kd = 2)), .bool true, .bool true, .bool false] := by
      obtain rfl | rfl := h23 <;> rfl
    simp only [e, decide_eq_true (show 1 ≤ kd ∧ kd ≤ 4 by omega)] at qf
    repeat' (first | apply v_seq | apply v_region | apply v_nil | (apply v_pure; (case hop => first | (apply p_move <;> rfl) | (apply p_assign <;> rfl) | (apply p_fieldAddrB <;> rfl) | (apply p_extract0 <;> rfl) | (apply p_extract1 <;> rfl) | fail); (case hd => rfl)) | (apply v_condT; (case hc => rfl)) | (apply v_callJ (hs := qf _); (case ha => rfl); (case hd => rfl)) | (apply v_read; (case hop => (apply r_load1; rfl; (apply Cell.own; (case h => (repeat (exact mhd _))); rfl))); (case hd => rfl)) | (apply v_alloc; (case hz => rfl); (case hd => rfl); intro b) | (apply v_store; (case hp => rfl); (case hx => rfl); (case hc => rfl); (case hsz => rfl); (case h1 => rfl); (case hb => (repeat (exact mhd _))); (case hfit => exact nle rfl); (case hov => ((repeat (first | with_reducible exact ov_nil | apply ov_cons)); done)); (case hu => repeat (exact Upd.here _ _))) | fail)
    refine v_call (μ1 := [(rb, _)]) (μ2 := _) rfl (cgetV_s 1 rb _ _ hs1 (by omega) hr4) (PickA.perm (by repeat (first | exact PickA.here _ | apply PickA.cons))) rfl ?_
    rintro _ G2 _ hle2 ⟨rfl, a5, no5, rfl, hr5⟩
    have qo := older_s (x := X) (xv := .agg (recL kd rd nd ix (getK s4 6).1 (.slice none 0 0)).toArray) (hT.le (GH.le_trans hle1 hle2)) (by rw [eX]; exact ⟨_, rfl, Sl.nil⟩) hok
    generalize olderI X = o at *
    repeat' (first | apply v_seq | apply v_region | apply v_nil | apply v_skip | (apply v_take; (case hg => rfl)) | (apply v_pass; (case hg => rfl); (case hn => rfl); (case hd => rfl)) | (apply v_pure; (case hop => first | (apply p_move <;> rfl) | (apply p_eq <;> rfl) | (apply p_ne <;> rfl) | (apply p_assign <;> rfl) | (apply p_pickT <;> rfl) | (apply p_pickF <;> rfl) | (apply p_not <;> rfl) | (apply p_fieldAddrB <;> rfl) | (apply p_build; (case hz => rfl); (case hv => (simp only [List.map_cons, List.map_nil]; repeat (with_reducible exact evs_nil))); (case hb => (apply bldL; repeat (exact bld_nil)))) | fail); (case hd => rfl)) | (apply v_condF; (case hc => rfl)) | (apply v_cond; (case hc => rfl); all_goals (intro h; (try simp only [reduceCtorEq, zzz] at h); first | (exfalso; omega) | skip)) | (apply v_guardB; (case h1 => rfl); (case h2 => rfl); all_goals (intro h; (try simp only [reduceCtorEq, zzz] at h))) | (apply v_callK (hs := qe _ _ _); (case ha => rfl); (case hp => exact (Pick.perm (by repeat (exact Pick.here _)))); (case hd => rfl)) | (apply v_read; (case hop => (apply r_load1; rfl; (apply Cell.own; (case h => (repeat (first | exact mhd _ | apply mtl))); rfl))); (case hd => rfl)) | (apply v_store; (case hp => rfl); (case hx => rfl); (case hc => rfl); (case hsz => rfl); (case h1 => rfl); (case hb => (repeat (first | exact mhd _ | apply mtl))); (case hfit => exact nle rfl); (case hov => ((repeat (first | with_reducible exact ov_nil | apply ov_cons)); done)); (case hu => repeat (first | exact Upd.here _ _ | apply Upd.there))) | fail)
    · refine v_call (μ1 := [(rb, _)]) (μ2 := _) rfl (rdDone_s rb _ _ (hs1.mono hle2) (by omega) hr5) (PickA.perm (by repeat (exact PickA.here _))) rfl ?_
      rintro _ _ _ - ⟨rfl, ⟨ed, rfl, hed⟩, rfl⟩
      repeat' (first | apply v_seq | apply v_region | apply v_nil | apply v_skip | (apply v_pure; (case hop => first | (apply p_move <;> rfl) | (apply p_eq <;> rfl) | (apply p_ne <;> rfl) | (apply p_assign <;> rfl) | (apply p_build; (case hz => rfl); (case hv => (simp only [List.map_cons, List.map_nil]; repeat (with_reducible exact evs_nil))); (case hb => (apply bldL; repeat (exact bld_nil)))) | fail); (case hd => rfl)) | (apply v_cond; (case hc => rfl); all_goals (intro h; (try simp only [reduceCtorEq, zzz] at h); first | (exfalso; omega) | skip)) | (apply v_callJ (hs := qo); (case ha => rfl); (case hd => rfl)) | (apply v_read; (case hop => (apply r_loadNo; (case hx => rfl); (case h => (repeat (first | exact mhd _ | apply mtl))); (case hd => (repeat (first | with_reducible exact dt_nil | apply dt_here))); (case hn => rfl))); (case hd => rfl)) | (apply v_store; (case hp => rfl); (case hx => rfl); (case hc => rfl); (case hsz => rfl); (case h1 => rfl); (case hb => (repeat (first | exact mhd _ | apply mtl))); (case hfit => exact nle rfl); (case hov => ((repeat (first | with_reducible exact ov_nil | apply ov_cons)); done)); (case hu => repeat (first | exact Upd.here _ _ | apply Upd.there))) | fail)
      · refine v_retM [] (outsM_cell_tmp (vs := zeroRL) (e := 42) rfl rfl rfl (by repeat (first | exact mhd _ | apply mtl)) rfl) (by repeat (exact List.nil_sublist _)) ?_
        exact ⟨rfl, _, _, _, rfl, ⟨_, rfl, Sl.nil⟩, .inr ⟨fun hh => absurd (eO.1 hh).2.2 ‹_›, rfl, ‹_›⟩⟩
      · refine v_retM [] (outsM_cell_tmp (vs := recL kd rd nd ix (getK s4 6).1 (.slice none 0 0)) (e := 42) rfl rfl rfl (by repeat (first | exact mhd _ | apply mtl)) rfl) (by repeat (exact List.nil_sublist _)) ?_
        exact ⟨rfl, _, _, _, rfl, ⟨_, rfl, Sl.nil⟩, .inl ⟨eO.2 ⟨by rw [eS]; exact hed.1 ‹_›, by omega, ‹_›⟩, eX.symm, rfl⟩⟩
      · refine v_retM [] (outsM_cell_tmp (vs := zeroRL) (e := 42) rfl rfl rfl (by repeat (first | exact mhd _ | apply mtl)) rfl) (by repeat (exact List.nil_sublist _)) ?_
        exact ⟨rfl, _, _, _, rfl, ⟨_, rfl, Sl.nil⟩, .inr ⟨fun hh => absurd (hed.2 (by rw [← eS]; exact (eO.1 hh).1)) ‹_›, rfl, ‹_›⟩⟩
    · refine v_retM [] (outsM_cell_tmp (vs := zeroRL) (e := 42) rfl rfl rfl (by repeat (first | exact mhd _ | apply mtl)) rfl) (by repeat (exact List.nil_sublist _)) ?_
      refine ⟨rfl, _, _, _, rfl, ⟨_, rfl, Sl.nil⟩, .inr ⟨fun hh => ?_, rfl, ‹_›⟩⟩
      have h1 := (eO.1 hh).1
      rw [eS] at h1
      obtain ⟨-, ⟨h2, -⟩ | ⟨-, h2⟩⟩ := hr5
      · rw [h2] at h1; cases h1
      · exact absurd h2 ‹_›
  · rw [if_neg h23] at eX eS
    by_cases h4 : kd = 4
    · rw [if_pos h4] at eX eS
      have e : hasL kd = [.bool false, .bool true, .bool false, .bool true] := by rw [h4]; rfl
      simp only [e, decide_eq_true (show 1 ≤ kd ∧ kd ≤ 4 by omega)] at qf
      repeat' (first | apply v_seq | apply v_region | apply v_nil | apply v_skip | (apply v_pure; (case hop => first | (apply p_move <;> rfl) | (apply p_assign <;> rfl) | (apply p_fieldAddrB <;> rfl) | (apply p_extract0 <;> rfl) | (apply p_extract1 <;> rfl) | fail); (case hd => rfl)) | (apply v_condT; (case hc => rfl)) | (apply v_condF; (case hc => rfl)) | (apply v_callJ (hs := qf _); (case ha => rfl); (case hd => rfl)) | (apply v_read; (case hop => (apply r_load1; rfl; (apply Cell.own; (case h => (repeat (exact mhd _))); rfl))); (case hd => rfl)) | (apply v_alloc; (case hz => rfl); (case hd => rfl); intro b) | (apply v_store; (case hp => rfl); (case hx => rfl); (case hc => rfl); (case hsz => rfl); (case h1 => rfl); (case hb => (repeat (exact mhd _))); (case hfit => exact nle rfl); (case hov => ((repeat (first | with_reducible exact ov_nil | apply ov_cons)); done)); (case hu => repeat (exact Upd.here _ _))) | fail)
      refine v_call (μ1 := [(rb, _)]) (μ2 := _) rfl (rdRaw_s rb _ _ 32768 hs1 (by omega) hr4) (PickA.perm (by repeat (first | exact PickA.here _ | apply PickA.cons))) rfl ?_
      rintro _ G2 _ hle2 ⟨hraw, a5, no5, rfl, hr5⟩
      obtain ⟨A1, c1, rfl, -⟩ := hraw.openInt
      have qo := older_s (x := X) (xv := .agg (recL kd rd nd ix zeroC (.slice A1 (rawB 32768 s4).length c1)).toArray) (hT.le (GH.le_trans hle1 hle2)) (by rw [eX]; exact ⟨_, rfl, hraw⟩) hok
      generalize olderI X = o at *
      repeat' (first | apply v_seq | apply v_region | apply v_nil | apply v_skip | (apply v_take; (case hg => rfl)) | (apply v_pass; (case hg => rfl); (case hn => rfl); (case hd => rfl)) | (apply v_pure; (case hop => first | (apply p_move <;> rfl) | (apply p_eq <;> rfl) | (apply p_ne <;> rfl) | (apply p_assign <;> rfl) | (apply p_pickT <;> rfl) | (apply p_pickF <;> rfl) | (apply p_not <;> rfl) | (apply p_fieldAddrB <;> rfl) | (apply p_build; (case hz => rfl); (case hv => (simp only [List.map_cons, List.map_nil]; repeat (with_reducible exact evs_nil))); (case hb => (apply bldL; repeat (exact bld_nil)))) | fail); (case hd => rfl)) | (apply v_condF; (case hc => rfl)) | (apply v_cond; (case hc => rfl); all_goals (intro h; (try simp only [reduceCtorEq, zzz] at h); first | (exfalso; omega) | skip)) | (apply v_guardB; (case h1 => rfl); (case h2 => rfl); all_goals (intro h; (try simp only [reduceCtorEq, zzz] at h))) | (apply v_callK (hs := qe _ _ _); (case ha => rfl); (case hp => exact (Pick.perm (by repeat (exact Pick.here _)))); (case hd => rfl)) | (apply v_store; (case hp => rfl); (case hx => rfl); (case hc => rfl); (case hsz => rfl); (case h1 => rfl); (case hb => (repeat (first | exact mhd _ | apply mtl))); (case hfit => exact nle rfl); (case hov => ((repeat (first | with_reducible exact ov_nil | apply ov_cons)); done)); (case hu => repeat (first | exact Upd.here _ _ | apply Upd.there))) | fail)
      · refine v_call (μ1 := [(rb, _)]) (μ2 := _) rfl (rdDone_s rb _ _ (hs1.mono hle2) (by omega) hr5) (PickA.perm (by repeat (exact PickA.here _))) rfl ?_
        rintro _ _ _ - ⟨rfl, ⟨ed, rfl, hed⟩, rfl⟩
        repeat' (first | apply v_seq | apply v_region | apply v_nil | apply v_skip | (apply v_pure; (case hop => first | (apply p_move <;> rfl) | (apply p_eq <;> rfl) | (apply p_ne <;> rfl) | (apply p_assign <;> rfl) | (apply p_build; (case hz => rfl); (case hv => (simp only [List.map_cons, List.map_nil]; repeat (with_reducible exact evs_nil))); (case hb => (apply bldL; repeat (exact bld_nil)))) | fail); (case hd => rfl)) | (apply v_cond; (case hc => rfl); all_goals (intro h; (try simp only [reduceCtorEq, zzz] at h); first | (exfalso; omega) | skip)) | (apply v_callJ (hs := qo); (case ha => rfl); (case hd => rfl)) | (apply v_read; (case hop => (apply r_loadNo; (case hx => rfl); (case h => (repeat (first | exact mhd _ | apply mtl))); (case hd => (repeat (first | with_reducible exact dt_nil | apply dt_here))); (case hn => rfl))); (case hd => rfl)) | (apply v_store; (case hp => rfl); (case hx => rfl); (case hc => rfl); (case hsz => rfl); (case h1 => rfl); (case hb => (repeat (first | exact mhd _ | apply mtl))); (case hfit => exact nle rfl); (case hov => ((repeat (first | with_reducible exact ov_nil | apply ov_cons)); done)); (case hu => repeat (first | exact Upd.here _ _ | apply Upd.there))) | fail)
        · refine v_retM [] (outsM_cell_tmp (vs := zeroRL) (e := 42) rfl rfl rfl (by repeat (first | exact mhd _ | apply mtl)) rfl) (by repeat (exact List.nil_sublist _)) ?_
          exact ⟨rfl, _, _, _, rfl, ⟨_, rfl, Sl.nil⟩, .inr ⟨fun hh => absurd (eO.1 hh).2.2 ‹_›, rfl, ‹_›⟩⟩
        · refine v_retM [] (outsM_cell_tmp (vs := recL kd rd nd ix zeroC (.slice A1 (rawB 32768 s4).length c1)) (e := 42) rfl rfl rfl (by repeat (first | exact mhd _ | apply mtl)) rfl) (by repeat (exact List.nil_sublist _)) ?_
          exact ⟨rfl, _, _, _, rfl, ⟨_, rfl, hraw⟩, .inl ⟨eO.2 ⟨by rw [eS]; exact hed.1 ‹_›, by omega, ‹_›⟩, eX.symm, rfl⟩⟩
        · refine v_retM [] (outsM_cell_tmp (vs := zeroRL) (e := 42) rfl rfl rfl (by repeat (first | exact mhd _ | apply mtl)) rfl) (by repeat (exact List.nil_sublist _)) ?_
          exact ⟨rfl, _, _, _, rfl, ⟨_, rfl, Sl.nil⟩, .inr ⟨fun hh => absurd (hed.2 (by rw [← eS]; exact (eO.1 hh).1)) ‹_›, rfl, ‹_›⟩⟩
      · refine v_retM [] (outsM_cell_tmp (vs := zeroRL) (e := 42) rfl rfl rfl (by repeat (first | exact mhd _ | apply mtl)) rfl) (by repeat (exact List.nil_sublist _)) ?_
        refine ⟨rfl, _, _, _, rfl, ⟨_, rfl, Sl.nil⟩, .inr ⟨fun hh => ?_, rfl, ‹_›⟩⟩
        have h1 := (eO.1 hh).1
        rw [eS] at h1
        obtain ⟨-, ⟨h2, -⟩ | ⟨-, h2⟩⟩ := hr5
        · rw [h2] at h1; cases h1
        · exact absurd h2 ‹_›
    · rw [if_neg h4] at eX eS
      by_cases h1 : kd = 1
      · have e : hasL kd = [.bool true, .bool false, .bool false, .bool false] := by rw [h1]; rfl
        simp only [e, decide_eq_true (show 1 ≤ kd ∧ kd ≤ 4 by omega)] at qf
        repeat' (first | apply v_seq | apply v_region | apply v_nil | apply v_skip | (apply v_pure; (case hop => first | (apply p_move <;> rfl) | (apply p_assign <;> rfl) | (apply p_fieldAddrB <;> rfl) | (apply p_extract0 <;> rfl) | (apply p_extract1 <;> rfl) | fail); (case hd => rfl)) | (apply v_condF; (case hc => rfl)) | (apply v_callJ (hs := qf _); (case ha => rfl); (case hd => rfl)) | (apply v_read; (case hop => (apply r_load1; rfl; (apply Cell.own; (case h => (repeat (exact mhd _))); rfl))); (case hd => rfl)) | (apply v_alloc; (case hz => rfl); (case hd => rfl); intro b) | (apply v_store; (case hp => rfl); (case hx => rfl); (case hc => rfl); (case hsz => rfl); (case h1 => rfl); (case hb => (repeat (exact mhd _))); (case hfit => exact nle rfl); (case hov => ((repeat (first | with_reducible exact ov_nil | apply ov_cons)); done)); (case hu => repeat (exact Upd.here _ _))) | fail)
        have qo := older_s (x := X) (xv := .agg (recL kd rd nd ix zeroC (.slice none 0 0)).toArray) (hT.le hle1) (by rw [eX]; exact ⟨_, rfl, Sl.nil⟩) hok
        generalize olderI X = o at *
        repeat' (first | apply v_seq | apply v_region | apply v_nil | apply v_skip | (apply v_take; (case hg => rfl)) | (apply v_pass; (case hg => rfl); (case hn => rfl); (case hd => rfl)) | (apply v_pure; (case hop => first | (apply p_move <;> rfl) | (apply p_eq <;> rfl) | (apply p_ne <;> rfl) | (apply p_assign <;> rfl) | (apply p_pickT <;> rfl) | (apply p_pickF <;> rfl) | (apply p_not <;> rfl) | (apply p_build; (case hz => rfl); (case hv => (simp only [List.map_cons, List.map_nil]; repeat (with_reducible exact evs_nil))); (case hb => (apply bldL; repeat (exact bld_nil)))) | fail); (case hd => rfl)) | (apply v_condF; (case hc => rfl)) | (apply v_cond; (case hc => rfl); all_goals (intro h; (try simp only [reduceCtorEq, zzz] at h); first | (exfalso; omega) | skip)) | (apply v_guardB; (case h1 => rfl); (case h2 => rfl); all_goals (intro h; (try simp only [reduceCtorEq, zzz] at h))) | (apply v_callK (hs := qe _ _ _); (case ha => rfl); (case hp => first | exact (Pick.perm (by repeat (first | exact Pick.here _ | apply Pick.there))) | fail); (case hd => rfl)) | (apply v_store; (case hp => rfl); (case hx => rfl); (case hc => rfl); (case hsz => rfl); (case h1 => rfl); (case hb => (repeat (first | exact mhd _ | apply mtl))); (case hfit => exact nle rfl); (case hov => ((repeat (first | with_reducible exact ov_nil | apply ov_cons)); done)); (case hu => repeat (first | exact Upd.here _ _ | apply Upd.there))) | fail)
        · refine v_call (μ1 := [(rb, _)]) (μ2 := _) rfl (rdDone_s rb _ _ hs1 (by omega) hr4) (PickA.perm (by repeat (first | exact PickA.here _ | apply PickA.cons))) rfl ?_
          rintro _ _ _ - ⟨rfl, ⟨ed, rfl, hed⟩, rfl⟩
          repeat' (first | apply v_seq | apply v_region | apply v_nil | apply v_skip | (apply v_pure; (case hop => first | (apply p_move <;> rfl) | (apply p_eq <;> rfl) | (apply p_ne <;> rfl) | (apply p_assign <;> rfl) | (apply p_build; (case hz => rfl); (case hv => (simp only [List.map_cons, List.map_nil]; repeat (with_reducible exact evs_nil))); (case hb => (apply bldL; repeat (exact bld_nil)))) | fail); (case hd => rfl)) | (apply v_cond; (case hc => rfl); all_goals (intro h; (try simp only [reduceCtorEq, zzz] at h); first | (exfalso; omega) | skip)) | (apply v_callJ (hs := qo); (case ha => rfl); (case hd => rfl)) | (apply v_read; (case hop => (apply r_loadNo; (case hx => rfl); (case h => (repeat (first | exact mhd _ | apply mtl))); (case hd => (repeat (first | with_reducible exact dt_nil | apply dt_here))); (case hn => rfl))); (case hd => rfl)) | (apply v_store; (case hp => rfl); (case hx => rfl); (case hc => rfl); (case hsz => rfl); (case h1 => rfl); (case hb => (repeat (first | exact mhd _ | apply mtl))); (case hfit => exact nle rfl); (case hov => ((repeat (first | with_reducible exact ov_nil | apply ov_cons)); done)); (case hu => repeat (first | exact Upd.here _ _ | apply Upd.there))) | fail)
          · refine v_retM [] (outsM_cell_tmp (vs := zeroRL) (e := 42) rfl rfl rfl (by repeat (first | exact mhd _ | apply mtl)) rfl) (by repeat (exact List.nil_sublist _)) ?_
            exact ⟨rfl, _, _, _, rfl, ⟨_, rfl, Sl.nil⟩, .inr ⟨fun hh => absurd (eO.1 hh).2.2 ‹_›, rfl, ‹_›⟩⟩
          · refine v_retM [] (outsM_cell_tmp (vs := recL kd rd nd ix zeroC (.slice none 0 0)) (e := 42) rfl rfl rfl (by repeat (first | exact mhd _ | apply mtl)) rfl) (by repeat (exact List.nil_sublist _)) ?_
            exact ⟨rfl, _, _, _, rfl, ⟨_, rfl, Sl.nil⟩, .inl ⟨eO.2 ⟨by rw [eS]; exact hed.1 ‹_›, by omega, ‹_›⟩, eX.symm, rfl⟩⟩
          · refine v_retM [] (outsM_cell_tmp (vs := zeroRL) (e := 42) rfl rfl rfl (by repeat (first | exact mhd _ | apply mtl)) rfl) (by repeat (exact List.nil_sublist _)) ?_
            exact ⟨rfl, _, _, _, rfl, ⟨_, rfl, Sl.nil⟩, .inr ⟨fun hh => absurd (hed.2 (by rw [← eS]; exact (eO.1 hh).1)) ‹_›, rfl, ‹_›⟩⟩
        · refine v_retM [] (outsM_cell_tmp (vs := zeroRL) (e := 42) rfl rfl rfl (by repeat (first | exact mhd _ | apply mtl)) rfl) (by repeat (exact List.nil_sublist _)) ?_
          refine ⟨rfl, _, _, _, rfl, ⟨_, rfl, Sl.nil⟩, .inr ⟨fun hh => ?_, rfl, ‹_›⟩⟩
          have h1 := (eO.1 hh).1
          rw [eS] at h1
          obtain ⟨-, ⟨h2, -⟩ | ⟨-, h2⟩⟩ := hr4
          · rw [h2] at h1; cases h1
          · exact absurd h2 ‹_›
      · have e : hasL kd = [.bool false, .bool false, .bool false, .bool false] := by unfold hasL; rw [if_neg (by omega), if_neg (by omega), if_neg (by omega), if_neg (by omega)]
        simp only [e, decide_eq_false (show ¬ (1 ≤ kd ∧ kd ≤ 4) by omega)] at qf
        repeat' (first | apply v_seq | apply v_region | apply v_nil | apply v_skip | (apply v_take; (case hg => rfl)) | (apply v_pass; (case hg => rfl); (case hn => rfl); (case hd => rfl)) | (apply v_pure; (case hop => first | (apply p_move <;> rfl) | (apply p_eq <;> rfl) | (apply p_ne <;> rfl) | (apply p_assign <;> rfl) | (apply p_pickT <;> rfl) | (apply p_pickF <;> rfl) | (apply p_not <;> rfl) | (apply p_fieldAddrB <;> rfl) | (apply p_extract0 <;> rfl) | (apply p_extract1 <;> rfl) | (apply p_build; (case hz => rfl); (case hv => (simp only [List.map_cons, List.map_nil]; repeat (with_reducible exact evs_nil))); (case hb => (apply bldL; repeat (exact bld_nil)))) | fail); (case hd => rfl)) | (apply v_condT; (case hc => rfl)) | (apply v_condF; (case hc => rfl)) | (apply v_cond; (case hc => rfl); all_goals (intro h; (try simp only [reduceCtorEq, zzz] at h); first | (exfalso; omega) | skip)) | (apply v_guardB; (case h1 => rfl); (case h2 => rfl); all_goals (intro h; (try simp only [reduceCtorEq, zzz] at h))) | (apply v_callJ (hs := qf _); (case ha => rfl); (case hd => rfl)) | (apply v_callK (hs := qe _ _ _); (case ha => rfl); (case hp => first | exact (Pick.perm (by repeat (first | exact Pick.here _ | apply Pick.there))) | fail); (case hd => rfl)) | (apply v_read; (case hop => (apply r_load1; rfl; (apply Cell.own; (case h => (repeat (exact mhd _))); rfl))); (case hd => rfl)) | (apply v_alloc; (case hz => rfl); (case hd => rfl); intro b) | (apply v_store; (case hp => rfl); (case hx => rfl); (case hc => rfl); (case hsz => rfl); (case h1 => rfl); (case hb => (repeat (first | exact mhd _ | apply mtl))); (case hfit => exact nle rfl); (case hov => ((repeat (first | with_reducible exact ov_nil | apply ov_cons)); done)); (case hu => repeat (first | exact Upd.here _ _ | apply Upd.there))) | fail)
        · refine v_retM [] (outsM_cell_tmp (vs := zeroRL) (e := 42) rfl rfl rfl (by repeat (first | exact mhd _ | apply mtl)) rfl) (by repeat (exact List.nil_sublist _)) ?_
          exact ⟨rfl, _, _, _, rfl, ⟨_, rfl, Sl.nil⟩, .inr ⟨fun hh => by have := (eO.1 hh).2.1; omega, rfl, by decide⟩⟩
        · refine v_retM [] (outsM_cell_tmp (vs := zeroRL) (e := 42) rfl rfl rfl (by repeat (first | exact mhd _ | apply mtl)) rfl) (by repeat (exact List.nil_sublist _)) ?_
          exact ⟨rfl, _, _, _, rfl, ⟨_, rfl, Sl.nil⟩, .inr ⟨fun hh => by have := (eO.1 hh).2.1; omega, rfl, ‹_›⟩⟩
abbrev twoR (rb pb xb : Nat) (bv : Value) (a : Nat) (no : Int) (k r n i : Int) (c : Cm) (iv : Value) : OH := [(rb, rdO bv (a : Nat) no), (pb, pO rb), (xb, .cells (recL k r n i c iv).toArray 42 (0, 0))]
section
variable {G : GH} {l : List Int} {bv : Value} {s : Option (List Int)} {rb pb xb a : Nat} {no k r n i : Int} {c : Cm} {iv : Value}
theorem rd1_s (hs : Sl G 1 (IntR .u8) bv l) (hl : l.length ≤ 1048576) (hr : RdS l a no s) : Con Tryz.prog 200 #[.pointer (some ⟨pb, 0, none⟩), .pointer (some ⟨xb, 0, none⟩)] G (twoR rb pb xb bv a no k r n i c iv)
    (fun _ G' μ' => G' = G ∧ ∃ a' no', μ' = twoR rb pb xb bv a' no' k (nV s) (nV (nS s)) i c iv ∧ RdS l a' no' (nS (nS s))) := by
  (refine v_enter Tryz.func200 rfl Tryz.ntmps200 rfl ?_; intro B _)
  repeat' (first | apply v_seq | apply v_region | (apply v_read; (case hop => (apply r_load1; rfl; (apply Cell.own; (case h => (repeat (first | exact mhd _ | apply mtl))); rfl))); (case hd => rfl)) | fail)
  refine v_call (μ1 := [(rb, _)]) (μ2 := _) rfl (rdNumber_s rb _ _ 9223372036854775807 hs hl hr) (PickA.perm (by repeat (exact PickA.here _))) rfl ?_
  rintro _ _ _ - ⟨rfl, rfl, a1, no1, rfl, hr1⟩
  repeat' (first | apply v_region | apply v_nil | (apply v_pure; (case hop => (apply p_fieldAddrB <;> rfl)); (case hd => rfl)) | (apply v_read; (case hop => (apply r_load1; rfl; (apply Cell.own; (case h => (repeat (first | exact mhd _ | apply mtl))); rfl))); (case hd => rfl)) | (apply v_store; (case hp => rfl); (case hx => rfl); (case hc => rfl); (case hsz => rfl); (case h1 => rfl); (case hb => (repeat (first | exact mhd _ | apply mtl))); (case hfit => exact nle rfl); (case hov => ((repeat (first | with_reducible exact ov_nil | apply ov_cons)); done)); (case hu => repeat (first | exact Upd.here _ _ | apply Upd.there))) | fail)
  refine v_call (μ1 := [(rb, _)]) (μ2 := _) rfl (rdNumber_s rb _ _ 9223372036854775807 hs hl hr1) (PickA.perm (by repeat (exact PickA.here _))) rfl ?_
  rintro _ _ _ - ⟨rfl, rfl, a2, no2, rfl, hr2⟩
  repeat' (first | apply v_nil | (apply v_pure; (case hop => (apply p_fieldAddrB <;> rfl)); (case hd => rfl)) | (apply v_store; (case hp => rfl); (case hx => rfl); (case hc => rfl); (case hsz => rfl); (case h1 => rfl); (case hb => (repeat (first | exact mhd _ | apply mtl))); (case hfit => exact nle rfl); (case hov => ((repeat (first | with_reducible exact ov_nil | apply ov_cons)); done)); (case hu => repeat (first | exact Upd.here _ _ | apply Upd.there))) | fail)
  refine v_end [(rb, _), (pb, _), (xb, _)] (outsA0 rfl) (by repeat (exact List.Sublist.refl _)) ?_
  exact ⟨rfl, a2, no2, rfl, hr2⟩
theorem rd2_s (hs : Sl G 1 (IntR .u8) bv l) (hl : l.length ≤ 1048576) (hr : RdS l a no s) : Con Tryz.prog 201 #[.pointer (some ⟨pb, 0, none⟩), .pointer (some ⟨xb, 0, none⟩)] G (twoR rb pb xb bv a no k r n i c iv)
    (fun _ G' μ' => G' = G ∧ ∃ a' no', μ' = twoR rb pb xb bv a' no' k r n (nV s) c iv ∧ RdS l a' no' (nS s)) := by
  (refine v_enter Tryz.func201 rfl Tryz.ntmps201 rfl ?_; intro B _)
  repeat' (first | apply v_region | (apply v_read; (case hop => (apply r_load1; rfl; (apply Cell.own; (case h => (repeat (first | exact mhd _ | apply mtl))); rfl))); (case hd => rfl)) | fail)
  refine v_call (μ1 := [(rb, _)]) (μ2 := _) rfl (rdNumber_s rb _ _ 9223372036854775807 hs hl hr) (PickA.perm (by repeat (exact PickA.here _))) rfl ?_
  rintro _ _ _ - ⟨rfl, rfl, a1, no1, rfl, hr1⟩
  repeat' (first | apply v_nil | (apply v_pure; (case hop => (apply p_fieldAddrB <;> rfl)); (case hd => rfl)) | (apply v_store; (case hp => rfl); (case hx => rfl); (case hc => rfl); (case hsz => rfl); (case h1 => rfl); (case hb => (repeat (first | exact mhd _ | apply mtl))); (case hfit => exact nle rfl); (case hov => ((repeat (first | with_reducible exact ov_nil | apply ov_cons)); done)); (case hu => repeat (first | exact Upd.here _ _ | apply Upd.there))) | fail)
  refine v_end [(rb, _), (pb, _), (xb, _)] (outsA0 rfl) (by repeat (exact List.Sublist.refl _)) ?_
  exact ⟨rfl, a1, no1, rfl, hr1⟩
abbrev getT (s : Option (List Int)) : Cm × Option (List Int) := getW (wantB 2 (nV s)) s 6
theorem rd3_s (hs : Sl G 1 (IntR .u8) bv l) (hl : l.length ≤ 1048576) (hr : RdS l a no s) : Con Tryz.prog 202 #[.pointer (some ⟨pb, 0, none⟩), .pointer (some ⟨xb, 0, none⟩)] G (twoR rb pb xb bv a no k r n i c iv)
    (fun _ G' μ' => ∃ a' no', μ' = twoR rb pb xb bv a' no' k r n i (getT s).1 iv ∧ RdS l a' no' (getT s).2) := by
  have q := cgetV_s 2 rb _ _ hs hl hr
  have eg : getW (wantB 2 (nV s)) s 6 = getT s := rfl
  rw [eg] at q
  generalize getT s = g at *
  obtain ⟨gc, gs⟩ := g
  (refine v_enter Tryz.func202 rfl Tryz.ntmps202 rfl ?_; intro B _)
  repeat' (first | apply v_region | (apply v_read; (case hop => (apply r_load1; rfl; (apply Cell.own; (case h => (repeat (first | exact mhd _ | apply mtl))); rfl))); (case hd => rfl)) | fail)
  refine v_call (μ1 := [(rb, _)]) (μ2 := _) rfl q (PickA.perm (by repeat (exact PickA.here _))) rfl ?_
  rintro _ G1 _ hle ⟨rfl, a1, no1, rfl, hr1⟩
  repeat' (first | apply v_nil | (apply v_pure; (case hop => (apply p_fieldAddrB <;> rfl)); (case hd => rfl)) | (apply v_store; (case hp => rfl); (case hx => rfl); (case hc => rfl); (case hsz => rfl); (case h1 => rfl); (case hb => (repeat (first | exact mhd _ | apply mtl))); (case hfit => exact nle rfl); (case hov => ((repeat (first | with_reducible exact ov_nil | apply ov_cons)); done)); (case hu => repeat (first | exact Upd.here _ _ | apply Upd.there))) | fail)
  refine v_end [(rb, _), (pb, _), (xb, _)] (outsA0 rfl) (by repeat (exact List.Sublist.refl _)) ?_
  exact ⟨a1, no1, rfl, hr1⟩
theorem rd4_s (hs : Sl G 1 (IntR .u8) bv l) (hl : l.length ≤ 1048576) (hr : RdS l a no s) : Con Tryz.prog 203 #[.pointer (some ⟨pb, 0, none⟩), .pointer (some ⟨xb, 0, none⟩)] G (twoR rb pb xb bv a no k r n i c iv)
    (fun _ G' μ' => ∃ a' no' jv, μ' = twoR rb pb xb bv a' no' k r n i c jv ∧ Sl G' 1 (IntR .u8) jv (rawB 32768 s) ∧ RdS l a' no' (rawS 32768 s)) := by
  have q := rdRaw_s rb _ _ 32768 hs hl hr
  generalize rawB 32768 s = rl at *
  (refine v_enter Tryz.func203 rfl Tryz.ntmps203 rfl ?_; intro B _)
  repeat' (first | apply v_region | (apply v_read; (case hop => (apply r_load1; rfl; (apply Cell.own; (case h => (repeat (first | exact mhd _ | apply mtl))); rfl))); (case hd => rfl)) | fail)
  refine v_call (μ1 := [(rb, _)]) (μ2 := _) rfl q (PickA.perm (by repeat (exact PickA.here _))) rfl ?_
  rintro _ G1 _ hle ⟨h1, a1, no1, rfl, hr1⟩
  obtain ⟨A1, c1, rfl, -⟩ := h1.openInt
  repeat' (first | apply v_nil | (apply v_pure; (case hop => (apply p_fieldAddrB <;> rfl)); (case hd => rfl)) | (apply v_store; (case hp => rfl); (case hx => rfl); (case hc => rfl); (case hsz => rfl); (case h1 => rfl); (case hb => (repeat (first | exact mhd _ | apply mtl))); (case hfit => exact nle rfl); (case hov => ((repeat (first | with_reducible exact ov_nil | apply ov_cons)); done)); (case hu => repeat (first | exact Upd.here _ _ | apply Upd.there))) | fail)
  refine v_end [(rb, _), (pb, _), (xb, _)] (outsA0 rfl) (by repeat (exact List.Sublist.refl _)) ?_
  exact ⟨a1, no1, _, rfl, h1, hr1⟩
end
theorem whenR_s {f : FuncId} [Callable Tryz.prog f] {pb xb : Nat} (b : Bool) {G : GH} {μ : OH} {Ψ : GH → OH → Prop} (q : Con Tryz.prog f #[.pointer (some ⟨pb, 0, none⟩), .pointer (some ⟨xb, 0, none⟩)] G μ (fun _ G' μ' => Ψ G' μ')) :
    Con Tryz.prog 173 #[.bool b, clo f pb xb] G μ (fun _ G' μ' => (b = true ∧ Ψ G' μ') ∨ (b = false ∧ G' = G ∧ μ' = μ)) := by
  (refine v_enter Tryz.func173 rfl Tryz.ntmps173 rfl ?_; intro B _)
  cases b
  · repeat' (first | apply v_seq | apply v_region | apply v_nil | apply v_skip | (apply v_pure; (case hop => (apply p_move <;> rfl)); (case hd => rfl)) | (apply v_condF; (case hc => rfl)) | fail)
    refine v_end μ (outsA0 rfl) (List.Sublist.refl _) ?_
    exact .inr ⟨rfl, rfl, rfl⟩
  · repeat' (first | apply v_seq | apply v_region | apply v_nil | (apply v_pure; (case hop => (apply p_move <;> rfl)); (case hd => rfl)) | (apply v_condT; (case hc => rfl)) | fail)
    refine v_callC (μ1 := μ) (μ2 := []) (first := []) (captured := [.pointer (some ⟨pb, 0, none⟩), .pointer (some ⟨xb, 0, none⟩)]) (vs := []) rfl rfl q (by simp) rfl ?_
    rintro r1 G1 μ1 hle1 h1
    repeat' (first | apply v_nil)
    refine v_end μ1 (outsA0 rfl) (by simp) ?_
    exact .inl ⟨rfl, h1⟩
def rdX (k : Int) (s : Option (List Int)) : Rc × Option (List Int) :=
  if k = 1 then (⟨k, nV s, nV (nS s), 0, zeroC, []⟩, nS (nS s))
  else if k = 2 then (⟨k, nV s, nV (nS s), nV (nS (nS s)), (getT (nS (nS (nS s)))).1, []⟩, (getT (nS (nS (nS s)))).2)
  else if k = 3 then (⟨k, 0, 0, nV s, (getT (nS s)).1, []⟩, (getT (nS s)).2)
  else (⟨k, 0, 0, nV s, zeroC, rawB 32768 (nS s)⟩, rawS 32768 (nS s))
theorem walkR_s {G : GH} {l : List Int} {bv : Value} {s : Option (List Int)} {rb pb xb a : Nat} {no k : Int} (hk : k = 1 ∨ k = 2 ∨ k = 3 ∨ k = 4) (hs : Sl G 1 (IntR .u8) bv l) (hl : l.length ≤ 1048576) (hr : RdS l a no s) :
    Con Tryz.prog 137 #[.int .i64 k, clo 200 pb xb, clo 201 pb xb, clo 202 pb xb, clo 203 pb xb] G (twoR rb pb xb bv a no k 0 0 0 zeroC (.slice none 0 0))
    (fun _ G' μ' => ∃ a' no' iv, μ' = twoR rb pb xb bv a' no' k (rdX k s).1.round (rdX k s).1.node (rdX k s).1.index (rdX k s).1.cmd iv ∧ Sl G' 1 (IntR .u8) iv (rdX k s).1.image ∧ RdS l a' no' (rdX k s).2) := by
  (refine v_enter Tryz.func137 rfl Tryz.ntmps137 rfl ?_; intro B _)
  obtain rfl | rfl | rfl | rfl := hk
  · repeat' (first | apply v_seq | apply v_region | (apply v_pass; (case hg => rfl); (case hn => rfl); (case hd => rfl)) | (apply v_pure; (case hop => first | (apply p_move <;> rfl) | (apply p_eqs <;> rfl) | (apply p_pickT <;> rfl) | fail); (case hd => rfl)) | fail)
    refine v_call (μ1 := twoR rb pb xb bv a no 1 0 0 0 zeroC (.slice none 0 0)) (μ2 := []) rfl (whenR_s _ (rd1_s hs hl hr)) (by simp) rfl ?_
    rintro _ G1 _ hle1 (⟨hb, rfl, a1, no1, rfl, hr1⟩ | ⟨hb, rfl, rfl⟩)
    rotate_left
    · (exfalso; revert hb; simp [dec_eq])
    repeat' (first | apply v_seq | apply v_region | apply v_nil | (apply v_pure; (case hop => first | (apply p_move <;> rfl) | (apply p_nes <;> rfl) | fail); (case hd => rfl)) | fail)
    refine v_call (μ1 := twoR rb pb xb bv a1 no1 1 (nV s) (nV (nS s)) 0 zeroC (.slice none 0 0)) (μ2 := []) rfl (whenR_s _ (rd2_s hs hl hr1)) (by simp) rfl ?_
    rintro _ G2 _ hle2 (⟨hb, rfl, a2, no2, rfl, hr2⟩ | ⟨hb, rfl, rfl⟩)
    · (exfalso; revert hb; simp [dec_eq])
    repeat' (first | apply v_seq | apply v_region | apply v_nil | (apply v_take; (case hg => rfl)) | (apply v_pure; (case hop => first | (apply p_move <;> rfl) | (apply p_eq <;> rfl) | (apply p_pickF <;> rfl) | fail); (case hd => rfl)) | (apply v_guardB; (case h1 => rfl); (case h2 => rfl); all_goals (intro h; (try simp only [reduceCtorEq, zzz] at h); first | (exfalso; omega) | skip)) | fail)
    refine v_call (μ1 := twoR rb pb xb bv a1 no1 1 (nV s) (nV (nS s)) 0 zeroC (.slice none 0 0)) (μ2 := []) rfl (whenR_s _ (rd3_s hs hl hr1)) (by simp) rfl ?_
    rintro _ G3 _ hle3 (⟨hb, a3, no3, rfl, hr3⟩ | ⟨hb, rfl, rfl⟩)
    · (exfalso; revert hb; simp [dec_eq])
    repeat' (first | apply v_region | apply v_nil | (apply v_pure; (case hop => first | (apply p_move <;> rfl) | (apply p_eq <;> rfl) | fail); (case hd => rfl)) | fail)
    refine v_call (μ1 := twoR rb pb xb bv a1 no1 1 (nV s) (nV (nS s)) 0 zeroC (.slice none 0 0)) (μ2 := []) rfl (whenR_s _ (rd4_s hs hl hr1)) (by simp) rfl ?_
    rintro _ G4 _ hle4 (⟨hb, a4, no4, jv, rfl, hj, hr4⟩ | ⟨hb, rfl, rfl⟩)
    · (exfalso; revert hb; simp [dec_eq])
    repeat' (first | apply v_nil)
    refine v_end (twoR rb pb xb bv a1 no1 1 (nV s) (nV (nS s)) 0 zeroC (.slice none 0 0)) (outsA0 rfl) (by simp) ?_
    exact ⟨a1, no1, _, rfl, Sl.nil, hr1⟩
  · repeat' (first | apply v_seq | apply v_region | (apply v_take; (case hg => rfl)) | (apply v_pure; (case hop => first | (apply p_move <;> rfl) | (apply p_eqs <;> rfl) | (apply p_eq <;> rfl) | (apply p_pickF <;> rfl) | fail); (case hd => rfl)) | (apply v_guardB; (case h1 => rfl); (case h2 => rfl); all_goals (intro h; (try simp only [reduceCtorEq, zzz] at h); first | (exfalso; omega) | skip)) | fail)
    refine v_call (μ1 := twoR rb pb xb bv a no 2 0 0 0 zeroC (.slice none 0 0)) (μ2 := []) rfl (whenR_s _ (rd1_s hs hl hr)) (by simp) rfl ?_
    rintro _ G1 _ hle1 (⟨hb, rfl, a1, no1, rfl, hr1⟩ | ⟨hb, rfl, rfl⟩)
    rotate_left
    · (exfalso; revert hb; simp [dec_eq])
    repeat' (first | apply v_seq | apply v_region | apply v_nil | (apply v_pure; (case hop => first | (apply p_move <;> rfl) | (apply p_ne <;> rfl) | fail); (case hd => rfl)) | fail)
    refine v_call (μ1 := twoR rb pb xb bv a1 no1 2 (nV s) (nV (nS s)) 0 zeroC (.slice none 0 0)) (μ2 := []) rfl (whenR_s _ (rd2_s hs hl hr1)) (by simp) rfl ?_
    rintro _ G2 _ hle2 (⟨hb, rfl, a2, no2, rfl, hr2⟩ | ⟨hb, rfl, rfl⟩)
    rotate_left
    · (exfalso; revert hb; simp [dec_eq])
    repeat' (first | apply v_seq | apply v_region | apply v_nil | (apply v_pass; (case hg => rfl); (case hn => rfl); (case hd => rfl)) | (apply v_pure; (case hop => first | (apply p_move <;> rfl) | (apply p_eqs <;> rfl) | (apply p_pickT <;> rfl) | fail); (case hd => rfl)) | fail)
    refine v_call (μ1 := twoR rb pb xb bv a2 no2 2 (nV s) (nV (nS s)) (nV (nS (nS s))) zeroC (.slice none 0 0)) (μ2 := []) rfl (whenR_s _ (rd3_s hs hl hr2)) (by simp) rfl ?_
    rintro _ G3 _ hle3 (⟨hb, a3, no3, rfl, hr3⟩ | ⟨hb, rfl, rfl⟩)
    rotate_left
    · (exfalso; revert hb; simp [dec_eq])
    repeat' (first | apply v_region | apply v_nil | (apply v_pure; (case hop => first | (apply p_move <;> rfl) | (apply p_eq <;> rfl) | fail); (case hd => rfl)) | fail)
    refine v_call (μ1 := twoR rb pb xb bv a3 no3 2 (nV s) (nV (nS s)) (nV (nS (nS s))) (getT (nS (nS (nS s)))).1 (.slice none 0 0)) (μ2 := []) rfl (whenR_s _ (rd4_s (hs.mono hle3) hl hr3)) (by simp) rfl ?_
    rintro _ G4 _ hle4 (⟨hb, a4, no4, jv, rfl, hj, hr4⟩ | ⟨hb, rfl, rfl⟩)
    · (exfalso; revert hb; simp [dec_eq])
    repeat' (first | apply v_nil)
    refine v_end (twoR rb pb xb bv a3 no3 2 (nV s) (nV (nS s)) (nV (nS (nS s))) (getT (nS (nS (nS s)))).1 (.slice none 0 0)) (outsA0 rfl) (by simp) ?_
    exact ⟨a3, no3, _, rfl, Sl.nil, hr3⟩
  · repeat' (first | apply v_seq | apply v_region | (apply v_take; (case hg => rfl)) | (apply v_pure; (case hop => first | (apply p_move <;> rfl) | (apply p_eq <;> rfl) | (apply p_pickF <;> rfl) | fail); (case hd => rfl)) | (apply v_guardB; (case h1 => rfl); (case h2 => rfl); all_goals (intro h; (try simp only [reduceCtorEq, zzz] at h); first | (exfalso; omega) | skip)) | fail)
    refine v_call (μ1 := twoR rb pb xb bv a no 3 0 0 0 zeroC (.slice none 0 0)) (μ2 := []) rfl (whenR_s _ (rd1_s hs hl hr)) (by simp) rfl ?_
    rintro _ G1 _ hle1 (⟨hb, rfl, a1, no1, rfl, hr1⟩ | ⟨hb, rfl, rfl⟩)
    · (exfalso; revert hb; simp [dec_eq])
    repeat' (first | apply v_seq | apply v_region | apply v_nil | (apply v_pure; (case hop => first | (apply p_move <;> rfl) | (apply p_ne <;> rfl) | fail); (case hd => rfl)) | fail)
    refine v_call (μ1 := twoR rb pb xb bv a no 3 0 0 0 zeroC (.slice none 0 0)) (μ2 := []) rfl (whenR_s _ (rd2_s hs hl hr)) (by simp) rfl ?_
    rintro _ G2 _ hle2 (⟨hb, rfl, a2, no2, rfl, hr2⟩ | ⟨hb, rfl, rfl⟩)
    rotate_left
    · (exfalso; revert hb; simp [dec_eq])
    repeat' (first | apply v_seq | apply v_region | apply v_nil | (apply v_take; (case hg => rfl)) | (apply v_pure; (case hop => first | (apply p_move <;> rfl) | (apply p_eqs <;> rfl) | (apply p_eq <;> rfl) | (apply p_pickF <;> rfl) | fail); (case hd => rfl)) | (apply v_guardB; (case h1 => rfl); (case h2 => rfl); all_goals (intro h; (try simp only [reduceCtorEq, zzz] at h); first | (exfalso; omega) | skip)) | fail)
    refine v_call (μ1 := twoR rb pb xb bv a2 no2 3 0 0 (nV s) zeroC (.slice none 0 0)) (μ2 := []) rfl (whenR_s _ (rd3_s hs hl hr2)) (by simp) rfl ?_
    rintro _ G3 _ hle3 (⟨hb, a3, no3, rfl, hr3⟩ | ⟨hb, rfl, rfl⟩)
    rotate_left
    · (exfalso; revert hb; simp [dec_eq])
    repeat' (first | apply v_region | apply v_nil | (apply v_pure; (case hop => first | (apply p_move <;> rfl) | (apply p_eq <;> rfl) | fail); (case hd => rfl)) | fail)
    refine v_call (μ1 := twoR rb pb xb bv a3 no3 3 0 0 (nV s) (getT (nS s)).1 (.slice none 0 0)) (μ2 := []) rfl (whenR_s _ (rd4_s (hs.mono hle3) hl hr3)) (by simp) rfl ?_
    rintro _ G4 _ hle4 (⟨hb, a4, no4, jv, rfl, hj, hr4⟩ | ⟨hb, rfl, rfl⟩)
    · (exfalso; revert hb; simp [dec_eq])
    repeat' (first | apply v_nil)
    refine v_end (twoR rb pb xb bv a3 no3 3 0 0 (nV s) (getT (nS s)).1 (.slice none 0 0)) (outsA0 rfl) (by simp) ?_
    exact ⟨a3, no3, _, rfl, Sl.nil, hr3⟩
  · repeat' (first | apply v_seq | apply v_region | (apply v_take; (case hg => rfl)) | (apply v_pure; (case hop => first | (apply p_move <;> rfl) | (apply p_eq <;> rfl) | (apply p_pickF <;> rfl) | fail); (case hd => rfl)) | (apply v_guardB; (case h1 => rfl); (case h2 => rfl); all_goals (intro h; (try simp only [reduceCtorEq, zzz] at h); first | (exfalso; omega) | skip)) | fail)
    refine v_call (μ1 := twoR rb pb xb bv a no 4 0 0 0 zeroC (.slice none 0 0)) (μ2 := []) rfl (whenR_s _ (rd1_s hs hl hr)) (by simp) rfl ?_
    rintro _ G1 _ hle1 (⟨hb, rfl, a1, no1, rfl, hr1⟩ | ⟨hb, rfl, rfl⟩)
    · (exfalso; revert hb; simp [dec_eq])
    repeat' (first | apply v_seq | apply v_region | apply v_nil | (apply v_pure; (case hop => first | (apply p_move <;> rfl) | (apply p_ne <;> rfl) | fail); (case hd => rfl)) | fail)
    refine v_call (μ1 := twoR rb pb xb bv a no 4 0 0 0 zeroC (.slice none 0 0)) (μ2 := []) rfl (whenR_s _ (rd2_s hs hl hr)) (by simp) rfl ?_
    rintro _ G2 _ hle2 (⟨hb, rfl, a2, no2, rfl, hr2⟩ | ⟨hb, rfl, rfl⟩)
    rotate_left
    · (exfalso; revert hb; simp [dec_eq])
    repeat' (first | apply v_seq | apply v_region | apply v_nil | (apply v_take; (case hg => rfl)) | (apply v_pure; (case hop => first | (apply p_move <;> rfl) | (apply p_eq <;> rfl) | (apply p_pickF <;> rfl) | fail); (case hd => rfl)) | (apply v_guardB; (case h1 => rfl); (case h2 => rfl); all_goals (intro h; (try simp only [reduceCtorEq, zzz] at h); first | (exfalso; omega) | skip)) | fail)
    refine v_call (μ1 := twoR rb pb xb bv a2 no2 4 0 0 (nV s) zeroC (.slice none 0 0)) (μ2 := []) rfl (whenR_s _ (rd3_s hs hl hr2)) (by simp) rfl ?_
    rintro _ G3 _ hle3 (⟨hb, a3, no3, rfl, hr3⟩ | ⟨hb, rfl, rfl⟩)
    · (exfalso; revert hb; simp [dec_eq])
    repeat' (first | apply v_region | apply v_nil | (apply v_pure; (case hop => first | (apply p_move <;> rfl) | (apply p_eqs <;> rfl) | fail); (case hd => rfl)) | fail)
    refine v_call (μ1 := twoR rb pb xb bv a2 no2 4 0 0 (nV s) zeroC (.slice none 0 0)) (μ2 := []) rfl (whenR_s _ (rd4_s hs hl hr2)) (by simp) rfl ?_
    rintro _ G4 _ hle4 (⟨hb, a4, no4, jv, rfl, hj, hr4⟩ | ⟨hb, rfl, rfl⟩)
    rotate_left
    · (exfalso; revert hb; simp [dec_eq])
    repeat' (first | apply v_nil)
    refine v_end (twoR rb pb xb bv a4 no4 4 0 0 (nV s) zeroC jv) (outsA0 rfl) (by simp) ?_
    exact ⟨a4, no4, _, rfl, hj, hr4⟩
theorem tread_s {G : GH} {l : List Int} {bv : Value} {s : Option (List Int)} {rb a : Nat} {no k : Int} (hk : k = 1 ∨ k = 2 ∨ k = 3 ∨ k = 4) (hs : Sl G 1 (IntR .u8) bv l) (hl : l.length ≤ 1048576) (hr : RdS l a no s) :
    Con Tryz.prog 178 #[.pointer (some ⟨rb, 0, none⟩), .int .i64 k] G [(rb, rdO bv a no)] (fun r' G' μ' => RcV G' (rdX k s).1 r' ∧ ∃ a' no', μ' = [(rb, rdO bv (a' : Nat) no')] ∧ RdS l a' no' (rdX k s).2) := by
  have ek : (rdX k s).1.kind = k := by unfold rdX; (repeat' split) <;> rfl
  have q := fun pb xb => walkR_s (rb := rb) (pb := pb) (xb := xb) hk hs hl hr
  generalize rdX k s = X at *
  obtain ⟨x, s'⟩ := X
  simp only at ek q ⊢
  (refine v_enter Tryz.func178 rfl Tryz.ntmps178 rfl ?_; intro B _)
  repeat' (first | apply v_seq | apply v_region | apply v_nil | (apply v_pure; (case hop => first | (apply p_move <;> rfl) | (apply p_makeFunc <;> rfl) | (apply p_build; (case hz => rfl); (case hv => (simp only [List.map_cons, List.map_nil]; repeat (first | with_reducible exact evs_nil | (apply evs_cons; (case h1 => rfl))))); (case hb => (apply bldL; repeat (first | exact bld_nil | (apply bld_cons; (case hpf => rfl); (case hc => rfl); (case hs => rfl); (case hl => rfl); (case ho => ((repeat (first | with_reducible exact ov_nil | apply ov_cons)); done)))))))); (case hd => rfl)) | (apply v_alloc; (case hz => rfl); (case hd => rfl); intro b) | (apply v_box; (case hx => rfl); (case hz => rfl); (case hd => rfl); intro b) | (apply v_store; (case hp => rfl); (case hx => rfl); (case hc => rfl); (case hsz => rfl); (case h1 => rfl); (case hb => (repeat (exact mhd _))); (case hfit => exact nle rfl); (case hov => ((repeat (first | with_reducible exact ov_nil | apply ov_cons)); done)); (case hu => repeat (exact Upd.here _ _))) | fail)
  rename_i pb ob
  refine v_call (μ1 := twoR rb pb b bv a no k 0 0 0 zeroC (.slice none 0 0)) (μ2 := [(ob, .cells (recL 0 0 0 0 zeroC (.slice none 0 0)).toArray 42 (0, 0))]) rfl (q pb b) (by apply perm_of_count; intro p; simp only [List.append_eq, List.countP_append, List.countP_cons, List.countP_nil, Nat.zero_add, Nat.add_zero]; try ac_rfl) rfl ?_
  rintro _ G1 _ hle ⟨a', no', iv, rfl, hi, hr'⟩
  obtain ⟨A1, c1, rfl, -⟩ := hi.openInt
  repeat' (first | apply v_seq | apply v_region | apply v_nil | (apply v_read; (case hop => (apply r_loadNo; (case hx => rfl); (case h => (repeat (first | exact mhd _ | apply mtl))); (case hd => (repeat (first | with_reducible exact dt_nil | apply dt_here))); (case hn => rfl))); (case hd => rfl)) | (apply v_store; (case hp => rfl); (case hx => rfl); (case hc => rfl); (case hsz => rfl); (case h1 => rfl); (case hb => (repeat (first | exact mhd _ | apply mtl))); (case hfit => exact nle rfl); (case hov => ((repeat (first | with_reducible exact ov_nil | apply ov_cons)); done)); (case hu => repeat (first | exact Upd.here _ _ | apply Upd.there))) | fail)
  refine v_retM [(rb, _)] (outsM_cell (vs := recL k x.round x.node x.index x.cmd (.slice A1 x.image.length c1)) (e := 42) rfl rfl (by repeat (first | exact mhd _ | apply mtl)) rfl) (by repeat (first | exact List.nil_sublist _ | apply List.Sublist.cons_cons)) ?_
  exact ⟨⟨_, by rw [ek], hi⟩, a', no', rfl, hr'⟩
def decT (s : Option (List Int)) : Rc × Option (List Int) := rdX (nV s - 16) (nS s)
def decTOk (s : Option (List Int)) : Prop := nS s ≠ none ∧ (17 ≤ nV s ∧ nV s ≤ 20) ∧ (decT s).2 = some [] ∧ chkI (decT s).1 = 0
theorem rdX_ok {k : Int} {s : Option (List Int)} (h : byteS s) : (rdX k s).1.cmd.ok := by
  have h1 := numS_b h 9223372036854775807
  have h2 := numS_b h1 9223372036854775807
  have h3 := numS_b h2 9223372036854775807
  unfold rdX
  split
  · exact zeroC_ok
  · split
    · exact (getW_ok _ h3 6).1
    · split
      · exact (getW_ok _ h1 6).1
      · exact zeroC_ok
def DecT (s : Option (List Int)) (r : Value) (G' : GH) (μ' : OH) : Prop := μ' = [] ∧ ∃ x v e, r = .tuple [v, .int .i64 e].toArray ∧ RcV G' x v ∧ ((decTOk s ∧ x = (decT s).1 ∧ e = 0) ∨ (¬ decTOk s ∧ x = zeroRc ∧ e ≠ 0))
theorem tdecode_s {G : GH} (hT : TabsG G) {l : List Int} {bv : Value} (hs : Sl G 1 (IntR .u8) bv l) (hl : l.length ≤ 1048000) : Con Tryz.prog 152 #[bv] G [] (DecT (some l)) := by
  have hby : byteS (some l) := fun r hr x hx => by cases hr; exact sl_byte hs x hx
  have hok : (decT (some l)).1.cmd.ok := rdX_ok (numS_b hby _)
  have eT : decT (some l) = rdX (numV 9223372036854775807 (some l) - 16) (numS 9223372036854775807 (some l)) := rfl
  have eO : decTOk (some l) ↔ (numS 9223372036854775807 (some l) ≠ none ∧ (17 ≤ numV 9223372036854775807 (some l) ∧ numV 9223372036854775807 (some l) ≤ 20) ∧ (decT (some l)).2 = some [] ∧ chkI (decT (some l)).1 = 0) := Iff.rfl
  have hnb := numV_b hby 9223372036854775807
  unfold DecT
  generalize decT (some l) = X at *
  generalize decTOk (some l) = OK at *
  obtain ⟨x, s'⟩ := X
  simp only at hok eO ⊢
  (refine v_enter Tryz.func152 rfl Tryz.ntmps152 rfl ?_; intro B _)
  repeat' (first | apply v_seq | apply v_region | apply v_nil | (apply v_pure; (case hop => first | (apply p_move <;> rfl) | (apply p_assign <;> rfl) | fail); (case hd => rfl)) | (apply v_alloc; (case hz => rfl); (case hd => rfl); intro b) | fail)
  refine v_call (μ1 := []) (μ2 := _) rfl (newReader_s hs hl) (List.Perm.refl _) rfl ?_
  rintro _ G1 _ - ⟨hle1, rb, bv1, rfl, rfl, hs1⟩
  have hr0 : RdS l 0 0 (some l) := ⟨by omega, .inr ⟨by simp, rfl⟩⟩
  repeat' (first | apply v_seq | apply v_region | apply v_nil | (apply v_pure; (case hop => first | (apply p_move <;> rfl) | (apply p_assign <;> rfl) | fail); (case hd => rfl)) | fail)
  refine v_call (μ1 := [(rb, _)]) (μ2 := _) rfl (rdNumber_s rb _ _ 9223372036854775807 hs1 (by omega) hr0) (PickA.perm (by repeat (exact PickA.here _))) rfl ?_
  rintro _ _ _ - ⟨rfl, rfl, a1, no1, rfl, hr1⟩
  generalize numS 9223372036854775807 (some l) = s1 at *
  generalize numV 9223372036854775807 (some l) = fn at *
  have qe := fun G no a => rerr_s G rb bv1 a no
  repeat' (first | apply v_seq | apply v_region | apply v_nil | apply v_skip | (apply v_take; (case hg => rfl)) | (apply v_pass; (case hg => rfl); (case hn => rfl); (case hd => rfl)) | (apply v_pure; (case hop => first | (apply p_move <;> rfl) | (apply p_gt <;> rfl) | (apply p_ne <;> rfl) | (apply p_le <;> rfl) | (apply p_assign <;> rfl) | (apply p_pickT <;> rfl) | (apply p_pickF <;> rfl) | (apply p_sub; (case hx => rfl); (case hy => rfl); (case h => omega)) | (apply p_build; (case hz => rfl); (case hv => (simp only [List.map_cons, List.map_nil]; repeat (with_reducible exact evs_nil))); (case hb => (apply bldL; repeat (exact bld_nil)))) | fail); (case hd => rfl)) | (apply v_condT; (case hc => rfl)) | (apply v_cond; (case hc => rfl); all_goals (intro h; (try simp only [reduceCtorEq, zzz] at h))) | (apply v_guardB; (case h1 => rfl); (case h2 => rfl); all_goals (intro h; (try simp only [reduceCtorEq, zzz] at h))) | (apply v_callK (hs := qe _ _ _); (case ha => rfl); (case hp => exact (Pick.perm (by repeat (exact Pick.here _)))); (case hd => rfl)) | (apply v_store; (case hp => rfl); (case hx => rfl); (case hc => rfl); (case hsz => rfl); (case h1 => rfl); (case hb => (repeat (first | exact mhd _ | apply mtl))); (case hfit => exact nle rfl); (case hov => ((repeat (first | with_reducible exact ov_nil | apply ov_cons)); done)); (case hu => repeat (first | exact Upd.here _ _ | apply Upd.there))) | fail)
  · refine v_retM [] (outsM_cell_tmp (vs := zeroRL) (e := 42) rfl rfl rfl (by repeat (first | exact mhd _ | apply mtl)) rfl) (by repeat (exact List.nil_sublist _)) ?_
    obtain ⟨-, ⟨h2, -⟩ | ⟨-, h2⟩⟩ := hr1
    · exact ⟨rfl, _, _, _, rfl, ⟨_, rfl, Sl.nil⟩, .inr ⟨fun hh => (eO.1 hh).1 h2, rfl, ‹_›⟩⟩
    · exact absurd h2 ‹_›
  · refine v_retM [] (outsM_cell_tmp (vs := zeroRL) (e := 42) rfl rfl rfl (by repeat (first | exact mhd _ | apply mtl)) rfl) (by repeat (exact List.nil_sublist _)) ?_
    exact ⟨rfl, _, _, _, rfl, ⟨_, rfl, Sl.nil⟩, .inr ⟨fun hh => by have := (eO.1 hh).2.1; omega, rfl, by decide⟩⟩
  · refine v_retM [] (outsM_cell_tmp (vs := zeroRL) (e := 42) rfl rfl rfl (by repeat (first | exact mhd _ | apply mtl)) rfl) (by repeat (exact List.nil_sublist _)) ?_
    exact ⟨rfl, _, _, _, rfl, ⟨_, rfl, Sl.nil⟩, .inr ⟨fun hh => by have := (eO.1 hh).2.1; omega, rfl, by decide⟩⟩
  · have qr := tread_s (rb := rb) (k := fn - 16) (by omega) hs1 (by omega) hr1
    rw [← eT] at qr
    simp only at qr
    refine v_call (μ1 := [(rb, _)]) (μ2 := _) rfl qr (PickA.perm (by repeat (exact PickA.here _))) rfl ?_
    rintro r2 G2 _ hle2 ⟨hx, a2, no2, rfl, hr2⟩
    obtain ⟨iv, rfl, hi⟩ := id hx
    obtain ⟨A1, c1, rfl, hlc1, hcm1, -⟩ := id hi.openInt
    simp only [maxLen] at hcm1
    have qc := recCheck_s (hT.le (GH.le_trans hle1 hle2)) x.kind x.round x.node x.index x.cmd hok A1 x.image.length c1 (by omega)
    have hne : s1 ≠ none := by
      obtain ⟨-, ⟨h2, h3⟩ | ⟨h2, -⟩⟩ := hr1
      · exact absurd ‹no1 = 0› h3
      · rw [h2]; simp
    unfold chkI at eO
    generalize recI x.kind x.round x.node x.index x.cmd x.image.length = o at *
    unfold recL
    repeat' (first | apply v_seq | apply v_region | apply v_nil | (apply v_pure; (case hop => (apply p_move <;> rfl)); (case hd => rfl)) | (apply v_alloc; (case hz => rfl); (case hd => rfl); intro b) | (apply v_store; (case hp => rfl); (case hx => rfl); (case hc => rfl); (case hsz => rfl); (case h1 => rfl); (case hb => (repeat (exact mhd _))); (case hfit => exact nle rfl); (case hov => ((repeat (first | with_reducible exact ov_nil | apply ov_cons)); done)); (case hu => repeat (exact Upd.here _ _))) | fail)
    refine v_call (μ1 := [(rb, _)]) (μ2 := _) rfl (rdDone_s rb _ _ (hs1.mono hle2) (by omega) hr2) (PickA.perm (by repeat (first | exact PickA.here _ | apply PickA.cons))) rfl ?_
    rintro _ _ _ - ⟨rfl, ⟨ed, rfl, hed⟩, rfl⟩
    repeat' (first | apply v_seq | apply v_region | apply v_nil | apply v_skip | (apply v_pure; (case hop => first | (apply p_move <;> rfl) | (apply p_eq <;> rfl) | (apply p_ne <;> rfl) | (apply p_assign <;> rfl) | (apply p_build; (case hz => rfl); (case hv => (simp only [List.map_cons, List.map_nil]; repeat (with_reducible exact evs_nil))); (case hb => (apply bldL; repeat (exact bld_nil)))) | fail); (case hd => rfl)) | (apply v_cond; (case hc => rfl); all_goals (intro h; (try simp only [reduceCtorEq, zzz] at h); first | (exfalso; omega) | skip)) | (apply v_callJ (hs := qc); (case ha => rfl); (case hd => rfl)) | (apply v_read; (case hop => (apply r_loadNo; (case hx => rfl); (case h => (repeat (first | exact mhd _ | apply mtl))); (case hd => (repeat (first | with_reducible exact dt_nil | apply dt_here))); (case hn => rfl))); (case hd => rfl)) | (apply v_store; (case hp => rfl); (case hx => rfl); (case hc => rfl); (case hsz => rfl); (case h1 => rfl); (case hb => (repeat (first | exact mhd _ | apply mtl))); (case hfit => exact nle rfl); (case hov => ((repeat (first | with_reducible exact ov_nil | apply ov_cons)); done)); (case hu => repeat (first | exact Upd.here _ _ | apply Upd.there))) | fail)
    · refine v_retM [] (outsM_cell_tmp (vs := zeroRL) (e := 42) rfl rfl rfl (by repeat (first | exact mhd _ | apply mtl)) rfl) (by repeat (exact List.nil_sublist _)) ?_
      exact ⟨rfl, _, _, _, rfl, ⟨_, rfl, Sl.nil⟩, .inr ⟨fun hh => absurd (eO.1 hh).2.2.2 ‹_›, rfl, ‹_›⟩⟩
    · refine v_retM [] (outsM_cell_tmp (vs := recL x.kind x.round x.node x.index x.cmd (.slice A1 x.image.length c1)) (e := 42) rfl rfl rfl (by repeat (first | exact mhd _ | apply mtl)) rfl) (by repeat (exact List.nil_sublist _)) ?_
      exact ⟨rfl, _, _, _, rfl, hx, .inl ⟨eO.2 ⟨hne, by omega, hed.1 ‹_›, ‹_›⟩, rfl, rfl⟩⟩
    · refine v_retM [] (outsM_cell_tmp (vs := zeroRL) (e := 42) rfl rfl rfl (by repeat (first | exact mhd _ | apply mtl)) rfl) (by repeat (exact List.nil_sublist _)) ?_
      exact ⟨rfl, _, _, _, rfl, ⟨_, rfl, Sl.nil⟩, .inr ⟨fun hh => absurd (hed.2 (eO.1 hh).2.2.1) ‹_›, rfl, ‹_›⟩⟩
theorem enc_dec {l : List Int} (hb : byteS (some l)) (h : decOk (some l)) : encL (decX (some l)) = l := by
  obtain ⟨h1, h2, h3⟩ := h
  have b1 := numS_b hb 9223372036854775807
  have b2 := numS_b b1 9223372036854775807
  have b3 := numS_b b2 9223372036854775807
  have b4 := numS_b b3 9223372036854775807
  have key : ∀ t, nS (nS (nS (nS (some l)))) = some t → l = vbytes (nV (some l)) ++ (vbytes (nV (nS (some l))) ++ (vbytes (nV (nS (nS (some l)))) ++ (vbytes (nV (nS (nS (nS (some l))))) ++ t))) := fun t ht => by
    have q3 := num_inv b3 ht
    have q2 := num_inv b2 q3
    have q1 := num_inv b1 q2
    have q0 := num_inv hb q1
    exact Option.some.inj q0
  unfold decS at h1
  unfold decX encL headL
  by_cases h23 : nV (some l) = 2 ∨ nV (some l) = 3
  · rw [if_pos h23] at h1 ⊢
    have := key _ (getW_all _ b4 h1)
    have hk : putL (getK (nS (nS (nS (nS (some l))))) 6).1 6 = putW (wantB 1 (nV (nS (nS (nS (nS (some l))))))) (getK (nS (nS (nS (nS (some l))))) 6).1 6 := by unfold putL; rw [getW_kind]
    rw [if_pos h23, hk]
    simp only [List.append_nil, List.nil_append, List.append_assoc] at this ⊢
    exact this.symm
  · rw [if_neg h23] at h1 ⊢
    by_cases h4 : nV (some l) = 4
    · rw [if_pos h4] at h1 ⊢
      have := key _ (raw_inv b4 h1)
      rw [if_neg h23, if_pos h4]
      simp only [List.append_nil, List.nil_append, List.append_assoc] at this ⊢
      exact this.symm
    · rw [if_neg h4] at h1 ⊢
      have := key _ h1
      rw [if_neg h23, if_neg h4]
      simp only [List.append_nil, List.nil_append, List.append_assoc] at this ⊢
      exact this.symm
theorem getT_inv {s : Option (List Int)} (hb : byteS s) {t : List Int} (h : (getT s).2 = some t) : s = some (vbytes (getT s).1.kind ++ putW (wantB 2 (getT s).1.kind) (getT s).1 6 ++ t) := by
  have h1 := getW_all (wantB 2 (nV s)) hb h
  have hk : (getT s).1.kind = nV s := getW_kind _ _ _
  rw [hk] at h1 ⊢
  exact h1
theorem encT_dec {l : List Int} (hb : byteS (some l)) (h : decTOk (some l)) : encT (decT (some l)).1 = l := by
  obtain ⟨h1, h2, h3, h4⟩ := h
  have b1 : byteS (nS (some l)) := numS_b hb 9223372036854775807
  have b2 : byteS (nS (nS (some l))) := numS_b b1 9223372036854775807
  have b3 : byteS (nS (nS (nS (some l)))) := numS_b b2 9223372036854775807
  have b4 : byteS (nS (nS (nS (nS (some l))))) := numS_b b3 9223372036854775807
  unfold decT at h3 ⊢
  obtain ⟨t, ht⟩ : ∃ t, nS (some l) = some t := by
    cases hh : nS (some l) with
    | none => exact absurd hh h1
    | some t => exact ⟨t, rfl⟩
  have q0 := Option.some.inj (num_inv hb ht)
  have key : encT (rdX (nV (some l) - 16) (nS (some l))).1 = vbytes (nV (some l)) ++ tailT (rdX (nV (some l) - 16) (nS (some l))).1 := by
    have ek : (rdX (nV (some l) - 16) (nS (some l))).1.kind = nV (some l) - 16 := by unfold rdX; (repeat' split) <;> rfl
    rw [encT, ek, show nV (some l) - 16 + 16 = nV (some l) by omega]
  rw [key]
  have fin : tailT (rdX (nV (some l) - 16) (nS (some l))).1 = t := by
    have ht' := ht
    generalize nS (some l) = s1 at *
    obtain hk | hk | hk | hk : nV (some l) - 16 = 1 ∨ nV (some l) - 16 = 2 ∨ nV (some l) - 16 = 3 ∨ nV (some l) - 16 = 4 := by omega
    all_goals
      rw [hk] at h3 ⊢
      simp only [rdX, if_true, Int.reduceEq, if_false] at h3 ⊢
    · have q2 := num_inv b2 h3
      have q1 := num_inv b1 q2
      rw [ht'] at q1
      have q1 := Option.some.inj q1
      rw [q1]
      subst ht'
      simp [tailT]
    · have q4 := getT_inv b4 h3
      have q3 := num_inv b3 q4
      have q2 := num_inv b2 q3
      have q1 := num_inv b1 q2
      rw [ht'] at q1
      have q1 := Option.some.inj q1
      rw [q1]
      subst ht'
      simp [tailT]
    · have q4 := getT_inv b2 h3
      have q1 := num_inv b1 q4
      rw [ht'] at q1
      have q1 := Option.some.inj q1
      rw [q1]
      subst ht'
      simp [tailT]
    · have q4 := raw_inv b2 h3
      have q1 := num_inv b1 q4
      rw [ht'] at q1
      have q1 := Option.some.inj q1
      rw [q1]
      subst ht'
      simp [tailT]
  rw [fin, ← q0]
theorem pbytes_wf {c : Cm} (hc : c.ok) (hk : c.key.size ≤ 1000) (hv : c.val.size ≤ 1000) (ho : c.old.size ≤ 1000) (j : Nat) : ∀ y ∈ pbytes c j, (Lit.int .u8 y).wf = true := by
  obtain ⟨hk1, hc1, hs1, -, -, -, hn1⟩ := hc
  simp [Lit.wf, IntKind.min, IntKind.max, IntKind.signed, IntKind.bits] at hk1 hc1 hs1 hn1
  unfold pbytes
  split
  · exact fun y hy => vbytes_wf (by unfold Cm.num; split <;> omega) y hy
  · exact tbytes_wf _ (by unfold Cm.txt; split <;> omega)
theorem putW_wf {w : Nat → Bool} {c : Cm} (hc : c.ok) (hk : c.key.size ≤ 1000) (hv : c.val.size ≤ 1000) (ho : c.old.size ≤ 1000) : ∀ k, ∀ y ∈ putW w c k, (Lit.int .u8 y).wf = true
  | 0, y, hy => by simp [putW] at hy
  | k + 1, y, hy => by
    rw [putW] at hy
    rcases List.mem_append.1 hy with hy | hy
    · exact putW_wf hc hk hv ho k y hy
    · split at hy
      · exact pbytes_wf hc hk hv ho k y hy
      · cases hy
theorem rtwo_s {G : GH} {x : Rc} {xv : Value} (hx : RcV G x xv) (hc : x.cmd.ok) (hl : x.fits) (hw : x.small) (hk : 1 ≤ x.kind ∧ x.kind ≤ 4) : Con Tryz.prog 57 #[.int .i64 2, xv] G [] (fun r G' μ' => GH.le G G' ∧ Grow 5 1 r (encT x).length ((encT x).map (.int .u8 ·)) μ') := by
  have hcok := hc
  have hfit := hl
  unfold Rc.fits at hl
  have hcw : ∀ y ∈ vbytes x.cmd.kind ++ putW (wantB 2 x.cmd.kind) x.cmd 6, (Lit.int .u8 y).wf = true := fun y hy => by
    rcases List.mem_append.1 hy with hy | hy
    · obtain ⟨hk1, -⟩ := hc
      simp [Lit.wf, IntKind.min, IntKind.max, IntKind.signed, IntKind.bits] at hk1
      exact vbytes_wf (by omega) y hy
    · exact putW_wf hc (by omega) (by omega) (by omega) 6 y hy
  have hcl := putW_len (wantB 2 x.cmd.kind) x.cmd (by omega) (by omega) (by omega) 6
  unfold Rc.small at hw
  obtain ⟨hw1, hw2, hw3, hw4⟩ := hw
  obtain ⟨iv, rfl, hi⟩ := hx
  have hL0 := (vbytes_len (x.kind + 16)).1
  have hL1 := (vbytes_len x.round).1
  have hL2 := (vbytes_len x.node).1
  have hL3 := (vbytes_len x.index).1
  have hL4 := (vbytes_len x.cmd.kind).1
  have hL5 := (vbytes_len (x.image.length : Nat)).1
  have qb := fun G => hasBallot_s G x.kind
  have qi := fun G => hasIndex_s G x.kind
  have qh := fun G => hasCmd_s G x.kind
  obtain ⟨A, c, rfl, -⟩ := id hi.openInt
  (refine v_enter Tryz.func57 rfl Tryz.ntmps57 rfl ?_; intro B _)
  repeat' (first | apply v_seq | apply v_region | apply v_nil | apply v_skip | (apply v_pure; (case hop => first | (apply p_move <;> rfl) | (apply p_nes <;> rfl) | (apply p_assign <;> rfl) | (apply p_fieldAddrB <;> rfl) | (apply p_add; (case hx => rfl); (case hy => rfl); (case h => omega)) | fail); (case hd => rfl)) | (apply v_condF; (case hc => rfl)) | (apply v_box (zs := recL x.kind x.round x.node x.index x.cmd (.slice A x.image.length c)); (case hx => rfl); (case hz => rfl); (case hd => rfl); intro rb) | (apply v_read; (case hop => (apply r_load1; rfl; (apply Cell.own; (case h => (repeat (exact mhd _))); rfl))); (case hd => rfl)) | fail)
  refine v_call (μ1 := []) (μ2 := _) rfl (rnum_s _ (x.kind + 16) (by omega)) (List.Perm.refl _) rfl ?_
  rintro v0 G0 ν0 - ⟨rfl, ho0⟩
  obtain hkk | hkk | hkk | hkk : x.kind = 1 ∨ x.kind = 2 ∨ x.kind = 3 ∨ x.kind = 4 := by omega
  · repeat' (first | apply v_seq | apply v_region | apply v_nil | (apply v_pure; (case hop => first | (apply p_move <;> rfl) | (apply p_assign <;> rfl) | (apply p_fieldAddrB <;> rfl) | fail); (case hd => rfl)) | (apply v_cond; (case hc => rfl); all_goals (intro h; (try simp only [reduceCtorEq, zzz] at h); first | (exfalso; omega) | skip)) | (apply v_callJ (hs := qb _); (case ha => rfl); (case hd => rfl)) | (apply v_read; (case hop => (apply r_load1; rfl; (apply Cell.own; (case h => (repeat (first | exact mhd _ | apply List.mem_append_right))); rfl))); (case hd => rfl)) | fail)
    refine v_call (μ1 := []) (μ2 := _) rfl (rnum_s _ x.round (by omega)) (List.Perm.refl _) rfl ?_
    rintro r1 G1 μ1 - ⟨rfl, hg1⟩
    refine v_frz μ1 (by repeat (exact PickA.here _)) ?_
    intro H1 hle1 hG1
    have hs1 : Sl H1 1 (IntR .u8) r1 (vbytes x.round) := hg1.ints hG1 (fun x hx => vbytes_wf (by omega) x hx)
    have hsrc1 := fun μ => Src.ints (μ := μ) hs1
    obtain ⟨A1, c1, rfl, -, -⟩ := hg1.shape
    repeat' (fail)
    refine v_append (e := 5) (sz := 1) (zero := .int .u8 0) rfl (by omega) rfl rfl ho0 (PickA.perm (by repeat (exact PickA.here _))) (hsrc1 _) (allOne_ints _) (by (try simp only [List.length_append, sbytes_length]); omega) (by simp only [maxLen]; (try simp only [List.length_append, sbytes_length]); omega) rfl fun v1 ν1 ho1 => ?_
    rw [← List.map_append, ← List.length_append] at ho1
    repeat' (first | apply v_region | apply v_nil | (apply v_pure; (case hop => first | (apply p_move <;> rfl) | (apply p_assign <;> rfl) | (apply p_fieldAddrB <;> rfl) | fail); (case hd => rfl)) | (apply v_read; (case hop => (apply r_load1; rfl; (apply Cell.own; (case h => (repeat (first | exact mhd _ | apply List.mem_append_right))); rfl))); (case hd => rfl)) | fail)
    refine v_call (μ1 := []) (μ2 := _) rfl (rnum_s _ x.node (by omega)) (List.Perm.refl _) rfl ?_
    rintro r2 G2 μ2 - ⟨rfl, hg2⟩
    refine v_frz μ2 (by repeat (exact PickA.here _)) ?_
    intro H2 hle2 hG2
    have hs2 : Sl H2 1 (IntR .u8) r2 (vbytes x.node) := hg2.ints hG2 (fun x hx => vbytes_wf (by omega) x hx)
    have hsrc2 := fun μ => Src.ints (μ := μ) hs2
    obtain ⟨A2, c2, rfl, -, -⟩ := hg2.shape
    repeat' (fail)
    refine v_append (e := 5) (sz := 1) (zero := .int .u8 0) rfl (by omega) rfl rfl ho1 (PickA.perm (by repeat (exact PickA.here _))) (hsrc2 _) (allOne_ints _) (by (try simp only [List.length_append, sbytes_length]); omega) (by simp only [maxLen]; (try simp only [List.length_append, sbytes_length]); omega) rfl fun v2 ν2 ho2 => ?_
    rw [← List.map_append, ← List.length_append] at ho2
    repeat' (first | apply v_seq | apply v_region | apply v_nil | apply v_skip | (apply v_pure; (case hop => first | (apply p_move <;> rfl) | (apply p_eq <;> rfl) | (apply p_assign <;> rfl) | (apply p_fieldAddrB <;> rfl) | fail); (case hd => rfl)) | (apply v_cond; (case hc => rfl); all_goals (intro h; (try simp only [reduceCtorEq, zzz] at h); first | (exfalso; omega) | skip)) | (apply v_callJ (hs := qi _); (case ha => rfl); (case hd => rfl)) | (apply v_callJ (hs := qh _); (case ha => rfl); (case hd => rfl)) | (apply v_read; (case hop => (apply r_load1; rfl; (apply Cell.own; (case h => (repeat (first | exact mhd _ | apply List.mem_append_right))); rfl))); (case hd => rfl)) | fail)
    have el : encT x = vbytes (x.kind + 16) ++ (vbytes x.round) ++ (vbytes x.node) := by unfold encT tailT; rw [hkk]; simp
    rw [el]
    refine v_ret ν2 (outsA1 rfl rfl) (by repeat (exact List.sublist_append_left _ _)) ?_
    exact ⟨fun b o h' => hle2 b o (hle1 b o h'), by simpa using ho2⟩
  · repeat' (first | apply v_seq | apply v_region | apply v_nil | (apply v_pure; (case hop => first | (apply p_move <;> rfl) | (apply p_assign <;> rfl) | (apply p_fieldAddrB <;> rfl) | fail); (case hd => rfl)) | (apply v_cond; (case hc => rfl); all_goals (intro h; (try simp only [reduceCtorEq, zzz] at h); first | (exfalso; omega) | skip)) | (apply v_callJ (hs := qb _); (case ha => rfl); (case hd => rfl)) | (apply v_read; (case hop => (apply r_load1; rfl; (apply Cell.own; (case h => (repeat (first | exact mhd _ | apply List.mem_append_right))); rfl))); (case hd => rfl)) | fail)
    refine v_call (μ1 := []) (μ2 := _) rfl (rnum_s _ x.round (by omega)) (List.Perm.refl _) rfl ?_
    rintro r1 G1 μ1 - ⟨rfl, hg1⟩
    refine v_frz μ1 (by repeat (exact PickA.here _)) ?_
    intro H1 hle1 hG1
    have hs1 : Sl H1 1 (IntR .u8) r1 (vbytes x.round) := hg1.ints hG1 (fun x hx => vbytes_wf (by omega) x hx)
    have hsrc1 := fun μ => Src.ints (μ := μ) hs1
    obtain ⟨A1, c1, rfl, -, -⟩ := hg1.shape
    repeat' (fail)
    refine v_append (e := 5) (sz := 1) (zero := .int .u8 0) rfl (by omega) rfl rfl ho0 (PickA.perm (by repeat (exact PickA.here _))) (hsrc1 _) (allOne_ints _) (by (try simp only [List.length_append, sbytes_length]); omega) (by simp only [maxLen]; (try simp only [List.length_append, sbytes_length]); omega) rfl fun v1 ν1 ho1 => ?_
    rw [← List.map_append, ← List.length_append] at ho1
    repeat' (first | apply v_region | apply v_nil | (apply v_pure; (case hop => first | (apply p_move <;> rfl) | (apply p_assign <;> rfl) | (apply p_fieldAddrB <;> rfl) | fail); (case hd => rfl)) | (apply v_read; (case hop => (apply r_load1; rfl; (apply Cell.own; (case h => (repeat (first | exact mhd _ | apply List.mem_append_right))); rfl))); (case hd => rfl)) | fail)
    refine v_call (μ1 := []) (μ2 := _) rfl (rnum_s _ x.node (by omega)) (List.Perm.refl _) rfl ?_
    rintro r2 G2 μ2 - ⟨rfl, hg2⟩
    refine v_frz μ2 (by repeat (exact PickA.here _)) ?_
    intro H2 hle2 hG2
    have hs2 : Sl H2 1 (IntR .u8) r2 (vbytes x.node) := hg2.ints hG2 (fun x hx => vbytes_wf (by omega) x hx)
    have hsrc2 := fun μ => Src.ints (μ := μ) hs2
    obtain ⟨A2, c2, rfl, -, -⟩ := hg2.shape
    repeat' (fail)
    refine v_append (e := 5) (sz := 1) (zero := .int .u8 0) rfl (by omega) rfl rfl ho1 (PickA.perm (by repeat (exact PickA.here _))) (hsrc2 _) (allOne_ints _) (by (try simp only [List.length_append, sbytes_length]); omega) (by simp only [maxLen]; (try simp only [List.length_append, sbytes_length]); omega) rfl fun v2 ν2 ho2 => ?_
    rw [← List.map_append, ← List.length_append] at ho2
    repeat' (first | apply v_seq | apply v_region | apply v_nil | (apply v_pure; (case hop => first | (apply p_move <;> rfl) | (apply p_assign <;> rfl) | (apply p_fieldAddrB <;> rfl) | fail); (case hd => rfl)) | (apply v_cond; (case hc => rfl); all_goals (intro h; (try simp only [reduceCtorEq, zzz] at h); first | (exfalso; omega) | skip)) | (apply v_callJ (hs := qi _); (case ha => rfl); (case hd => rfl)) | (apply v_read; (case hop => (apply r_load1; rfl; (apply Cell.own; (case h => (repeat (first | exact mhd _ | apply List.mem_append_right))); rfl))); (case hd => rfl)) | fail)
    refine v_call (μ1 := []) (μ2 := _) rfl (rnum_s _ x.index (by omega)) (List.Perm.refl _) rfl ?_
    rintro r3 G3 μ3 - ⟨rfl, hg3⟩
    refine v_frz μ3 (by repeat (exact PickA.here _)) ?_
    intro H3 hle3 hG3
    have hs3 : Sl H3 1 (IntR .u8) r3 (vbytes x.index) := hg3.ints hG3 (fun x hx => vbytes_wf (by omega) x hx)
    have hsrc3 := fun μ => Src.ints (μ := μ) hs3
    obtain ⟨A3, c3, rfl, -, -⟩ := hg3.shape
    repeat' (fail)
    refine v_append (e := 5) (sz := 1) (zero := .int .u8 0) rfl (by omega) rfl rfl ho2 (PickA.perm (by repeat (exact PickA.here _))) (hsrc3 _) (allOne_ints _) (by (try simp only [List.length_append, sbytes_length]); omega) (by simp only [maxLen]; (try simp only [List.length_append, sbytes_length]); omega) rfl fun v3 ν3 ho3 => ?_
    rw [← List.map_append, ← List.length_append] at ho3
    repeat' (first | apply v_seq | apply v_region | apply v_nil | (apply v_pure; (case hop => first | (apply p_move <;> rfl) | (apply p_assign <;> rfl) | (apply p_fieldAddrB <;> rfl) | fail); (case hd => rfl)) | (apply v_cond; (case hc => rfl); all_goals (intro h; (try simp only [reduceCtorEq, zzz] at h); first | (exfalso; omega) | skip)) | (apply v_callJ (hs := qh _); (case ha => rfl); (case hd => rfl)) | (apply v_read; (case hop => first | (apply r_loadNo; (case hx => rfl); (case h => (repeat (first | exact mhd _ | apply List.mem_append_right))); (case hd => (repeat (first | with_reducible exact dt_nil | apply dt_here))); (case hn => rfl)) | (apply r_load1; rfl; (apply Cell.own; (case h => (repeat (first | exact mhd _ | apply List.mem_append_right))); rfl)) | fail); (case hd => rfl)) | fail)
    refine v_call (μ1 := []) (μ2 := _) rfl (rcmdV_s _ 2 x.cmd hc (by omega) (by omega) (by omega)) (List.Perm.refl _) rfl ?_
    rintro r4 G4 μ4 - ⟨hleR4, hg4⟩
    refine v_frz μ4 (by repeat (exact PickA.here _)) ?_
    intro H4 hle4 hG4
    have hs4 : Sl H4 1 (IntR .u8) r4 (vbytes x.cmd.kind ++ putW (wantB 2 x.cmd.kind) x.cmd 6) := hg4.ints hG4 hcw
    have hsrc4 := fun μ => Src.ints (μ := μ) hs4
    obtain ⟨A4, c4, rfl, -, -⟩ := hg4.shape
    repeat' (fail)
    refine v_append (e := 5) (sz := 1) (zero := .int .u8 0) rfl (by omega) rfl rfl ho3 (PickA.perm (by repeat (exact PickA.here _))) (hsrc4 _) (allOne_ints _) (by (try simp only [List.length_append, sbytes_length]); omega) (by simp only [maxLen]; (try simp only [List.length_append, sbytes_length]); omega) rfl fun v4 ν4 ho4 => ?_
    rw [← List.map_append, ← List.length_append] at ho4
    repeat' (first | apply v_seq | apply v_region | apply v_nil | apply v_skip | (apply v_pure; (case hop => first | (apply p_move <;> rfl) | (apply p_eq <;> rfl) | (apply p_assign <;> rfl) | (apply p_fieldAddrB <;> rfl) | fail); (case hd => rfl)) | (apply v_cond; (case hc => rfl); all_goals (intro h; (try simp only [reduceCtorEq, zzz] at h); first | (exfalso; omega) | skip)) | (apply v_read; (case hop => (apply r_load1; rfl; (apply Cell.own; (case h => (repeat (first | exact mhd _ | apply List.mem_append_right))); rfl))); (case hd => rfl)) | fail)
    have el : encT x = vbytes (x.kind + 16) ++ (vbytes x.round) ++ (vbytes x.node) ++ (vbytes x.index) ++ (vbytes x.cmd.kind ++ putW (wantB 2 x.cmd.kind) x.cmd 6) := by unfold encT tailT; rw [hkk]; simp
    rw [el]
    refine v_ret ν4 (outsA1 rfl rfl) (by repeat (exact List.sublist_append_left _ _)) ?_
    exact ⟨fun b o h' => hle4 b o (hleR4 b o (hle3 b o (hle2 b o (hle1 b o h')))), by simpa using ho4⟩
  · repeat' (first | apply v_seq | apply v_region | apply v_nil | apply v_skip | (apply v_pure; (case hop => first | (apply p_move <;> rfl) | (apply p_assign <;> rfl) | (apply p_fieldAddrB <;> rfl) | fail); (case hd => rfl)) | (apply v_cond; (case hc => rfl); all_goals (intro h; (try simp only [reduceCtorEq, zzz] at h); first | (exfalso; omega) | skip)) | (apply v_callJ (hs := qb _); (case ha => rfl); (case hd => rfl)) | (apply v_callJ (hs := qi _); (case ha => rfl); (case hd => rfl)) | (apply v_read; (case hop => (apply r_load1; rfl; (apply Cell.own; (case h => (repeat (first | exact mhd _ | apply List.mem_append_right))); rfl))); (case hd => rfl)) | fail)
    refine v_call (μ1 := []) (μ2 := _) rfl (rnum_s _ x.index (by omega)) (List.Perm.refl _) rfl ?_
    rintro r1 G1 μ1 - ⟨rfl, hg1⟩
    refine v_frz μ1 (by repeat (exact PickA.here _)) ?_
    intro H1 hle1 hG1
    have hs1 : Sl H1 1 (IntR .u8) r1 (vbytes x.index) := hg1.ints hG1 (fun x hx => vbytes_wf (by omega) x hx)
    have hsrc1 := fun μ => Src.ints (μ := μ) hs1
    obtain ⟨A1, c1, rfl, -, -⟩ := hg1.shape
    repeat' (fail)
    refine v_append (e := 5) (sz := 1) (zero := .int .u8 0) rfl (by omega) rfl rfl ho0 (PickA.perm (by repeat (exact PickA.here _))) (hsrc1 _) (allOne_ints _) (by (try simp only [List.length_append, sbytes_length]); omega) (by simp only [maxLen]; (try simp only [List.length_append, sbytes_length]); omega) rfl fun v1 ν1 ho1 => ?_
    rw [← List.map_append, ← List.length_append] at ho1
    repeat' (first | apply v_seq | apply v_region | apply v_nil | (apply v_pure; (case hop => first | (apply p_move <;> rfl) | (apply p_assign <;> rfl) | (apply p_fieldAddrB <;> rfl) | fail); (case hd => rfl)) | (apply v_cond; (case hc => rfl); all_goals (intro h; (try simp only [reduceCtorEq, zzz] at h); first | (exfalso; omega) | skip)) | (apply v_callJ (hs := qh _); (case ha => rfl); (case hd => rfl)) | (apply v_read; (case hop => first | (apply r_loadNo; (case hx => rfl); (case h => (repeat (first | exact mhd _ | apply List.mem_append_right))); (case hd => (repeat (first | with_reducible exact dt_nil | apply dt_here))); (case hn => rfl)) | (apply r_load1; rfl; (apply Cell.own; (case h => (repeat (first | exact mhd _ | apply List.mem_append_right))); rfl)) | fail); (case hd => rfl)) | fail)
    refine v_call (μ1 := []) (μ2 := _) rfl (rcmdV_s _ 2 x.cmd hc (by omega) (by omega) (by omega)) (List.Perm.refl _) rfl ?_
    rintro r2 G2 μ2 - ⟨hleR2, hg2⟩
    refine v_frz μ2 (by repeat (exact PickA.here _)) ?_
    intro H2 hle2 hG2
    have hs2 : Sl H2 1 (IntR .u8) r2 (vbytes x.cmd.kind ++ putW (wantB 2 x.cmd.kind) x.cmd 6) := hg2.ints hG2 hcw
    have hsrc2 := fun μ => Src.ints (μ := μ) hs2
    obtain ⟨A2, c2, rfl, -, -⟩ := hg2.shape
    repeat' (fail)
    refine v_append (e := 5) (sz := 1) (zero := .int .u8 0) rfl (by omega) rfl rfl ho1 (PickA.perm (by repeat (exact PickA.here _))) (hsrc2 _) (allOne_ints _) (by (try simp only [List.length_append, sbytes_length]); omega) (by simp only [maxLen]; (try simp only [List.length_append, sbytes_length]); omega) rfl fun v2 ν2 ho2 => ?_
    rw [← List.map_append, ← List.length_append] at ho2
    repeat' (first | apply v_seq | apply v_region | apply v_nil | apply v_skip | (apply v_pure; (case hop => first | (apply p_move <;> rfl) | (apply p_eq <;> rfl) | (apply p_assign <;> rfl) | (apply p_fieldAddrB <;> rfl) | fail); (case hd => rfl)) | (apply v_cond; (case hc => rfl); all_goals (intro h; (try simp only [reduceCtorEq, zzz] at h); first | (exfalso; omega) | skip)) | (apply v_read; (case hop => (apply r_load1; rfl; (apply Cell.own; (case h => (repeat (first | exact mhd _ | apply List.mem_append_right))); rfl))); (case hd => rfl)) | fail)
    have el : encT x = vbytes (x.kind + 16) ++ (vbytes x.index) ++ (vbytes x.cmd.kind ++ putW (wantB 2 x.cmd.kind) x.cmd 6) := by unfold encT tailT; rw [hkk]; simp
    rw [el]
    refine v_ret ν2 (outsA1 rfl rfl) (by repeat (exact List.sublist_append_left _ _)) ?_
    exact ⟨fun b o h' => hle2 b o (hleR2 b o (hle1 b o h')), by simpa using ho2⟩
  · repeat' (first | apply v_seq | apply v_region | apply v_nil | apply v_skip | (apply v_pure; (case hop => first | (apply p_move <;> rfl) | (apply p_assign <;> rfl) | (apply p_fieldAddrB <;> rfl) | fail); (case hd => rfl)) | (apply v_cond; (case hc => rfl); all_goals (intro h; (try simp only [reduceCtorEq, zzz] at h); first | (exfalso; omega) | skip)) | (apply v_callJ (hs := qb _); (case ha => rfl); (case hd => rfl)) | (apply v_callJ (hs := qi _); (case ha => rfl); (case hd => rfl)) | (apply v_read; (case hop => (apply r_load1; rfl; (apply Cell.own; (case h => (repeat (first | exact mhd _ | apply List.mem_append_right))); rfl))); (case hd => rfl)) | fail)
    refine v_call (μ1 := []) (μ2 := _) rfl (rnum_s _ x.index (by omega)) (List.Perm.refl _) rfl ?_
    rintro r1 G1 μ1 - ⟨rfl, hg1⟩
    refine v_frz μ1 (by repeat (exact PickA.here _)) ?_
    intro H1 hle1 hG1
    have hs1 : Sl H1 1 (IntR .u8) r1 (vbytes x.index) := hg1.ints hG1 (fun x hx => vbytes_wf (by omega) x hx)
    have hsrc1 := fun μ => Src.ints (μ := μ) hs1
    obtain ⟨A1, c1, rfl, -, -⟩ := hg1.shape
    repeat' (fail)
    refine v_append (e := 5) (sz := 1) (zero := .int .u8 0) rfl (by omega) rfl rfl ho0 (PickA.perm (by repeat (exact PickA.here _))) (hsrc1 _) (allOne_ints _) (by (try simp only [List.length_append, sbytes_length]); omega) (by simp only [maxLen]; (try simp only [List.length_append, sbytes_length]); omega) rfl fun v1 ν1 ho1 => ?_
    rw [← List.map_append, ← List.length_append] at ho1
    repeat' (first | apply v_seq | apply v_region | apply v_nil | apply v_skip | (apply v_pure; (case hop => first | (apply p_move <;> rfl) | (apply p_eq <;> rfl) | (apply p_assign <;> rfl) | (apply p_lenSlice <;> rfl) | (apply p_fieldAddrB <;> rfl) | fail); (case hd => rfl)) | (apply v_cond; (case hc => rfl); all_goals (intro h; (try simp only [reduceCtorEq, zzz] at h); first | (exfalso; omega) | skip)) | (apply v_callJ (hs := qh _); (case ha => rfl); (case hd => rfl)) | (apply v_read; (case hop => (apply r_load1; rfl; (apply Cell.own; (case h => (repeat (first | exact mhd _ | apply List.mem_append_right))); rfl))); (case hd => rfl)) | fail)
    refine v_call (μ1 := []) (μ2 := _) rfl (rnum_s _ (x.image.length : Nat) (by omega)) (List.Perm.refl _) rfl ?_
    rintro r2 G2 μ2 - ⟨rfl, hg2⟩
    refine v_frz μ2 (by repeat (exact PickA.here _)) ?_
    intro H2 hle2 hG2
    have hs2 : Sl H2 1 (IntR .u8) r2 (vbytes (x.image.length : Nat)) := hg2.ints hG2 (fun x hx => vbytes_wf (by omega) x hx)
    have hsrc2 := fun μ => Src.ints (μ := μ) hs2
    obtain ⟨A2, c2, rfl, -, -⟩ := hg2.shape
    repeat' (fail)
    refine v_append (e := 5) (sz := 1) (zero := .int .u8 0) rfl (by omega) rfl rfl ho1 (PickA.perm (by repeat (exact PickA.here _))) (hsrc2 _) (allOne_ints _) (by (try simp only [List.length_append, sbytes_length]); omega) (by simp only [maxLen]; (try simp only [List.length_append, sbytes_length]); omega) rfl fun v2 ν2 ho2 => ?_
    rw [← List.map_append, ← List.length_append] at ho2
    repeat' (first | apply v_region | apply v_nil | (apply v_pure; (case hop => first | (apply p_move <;> rfl) | (apply p_assign <;> rfl) | (apply p_fieldAddrB <;> rfl) | fail); (case hd => rfl)) | (apply v_read; (case hop => (apply r_load1; rfl; (apply Cell.own; (case h => (repeat (first | exact mhd _ | apply List.mem_append_right))); rfl))); (case hd => rfl)) | fail)
    have hsi := fun μ => Src.ints (μ := μ) ((hi.mono hle1).mono hle2)
    refine v_append (e := 5) (sz := 1) (zero := .int .u8 0) rfl (by omega) rfl rfl ho2 (PickA.perm (by repeat (exact PickA.here _))) (hsi _) (allOne_ints _) (by (try simp only [List.length_append, sbytes_length]); omega) (by simp only [maxLen]; (try simp only [List.length_append, sbytes_length]); omega) rfl fun v3 ν3 ho3 => ?_
    rw [← List.map_append, ← List.length_append] at ho3
    repeat' (first | apply v_seq | apply v_region | apply v_nil | (apply v_pure; (case hop => first | (apply p_move <;> rfl) | (apply p_assign <;> rfl) | fail); (case hd => rfl)) | fail)
    have el : encT x = vbytes (x.kind + 16) ++ (vbytes x.index) ++ (vbytes (x.image.length : Nat)) ++ x.image := by unfold encT tailT; rw [hkk]; simp
    rw [el]
    refine v_ret ν3 (outsA1 rfl rfl) (by repeat (exact List.sublist_append_left _ _)) ?_
    exact ⟨fun b o h' => hle2 b o (hle1 b o h'), by simpa using ho3⟩
noncomputable def hasI (v : Int) (x : Rc) : Int := if recI x.kind x.round x.node x.index x.cmd x.image.length ≠ 0 then recI x.kind x.round x.node x.index x.cmd x.image.length else if (x.kind = 2 ∨ x.kind = 3) ∧ ¬ HasV v x.cmd.kind then 8 else 0
theorem hasI_one (x : Rc) : hasI 1 x = olderI x := rfl
theorem hasI_two (x : Rc) : hasI 2 x = chkI x := by
  unfold hasI chkI
  by_cases h0 : recI x.kind x.round x.node x.index x.cmd x.image.length = 0
  · rw [if_neg (by rw [h0]; decide), h0, if_neg]
    rintro ⟨hk, hn⟩
    have := (cmd0 ((rec0 h0).2.2.2.1 hk)).1
    exact hn (.inr ⟨rfl, by omega⟩)
  · rw [if_pos h0]
theorem refHasV_s {G : GH} (v : Int) {x : Rc} {xv : Value} (hx : RcV G x xv) (hc : x.cmd.ok) : Con Tryz.prog 51 #[.int .i64 v, xv] G [] (Just (.int .i64 (hasI v x)) G) := by
  obtain ⟨k, r, n, i, c, im⟩ := x
  obtain ⟨iv, rfl, hi⟩ := hx
  obtain ⟨A, cp, rfl, hlc, hcm, _⟩ := hi.openInt
  simp only [maxLen] at hcm
  simp only at hc hlc hi
  have q := refRecCheck_s (G := G) k r n i c hc A im.length cp (by omega)
  have qf := hasCmd_s G k
  have qv := refVHas_s G v c.kind
  have ho : hasI v ⟨k, r, n, i, c, im⟩ = if recI k r n i c im.length ≠ 0 then recI k r n i c im.length else if (k = 2 ∨ k = 3) ∧ ¬ HasV v c.kind then 8 else 0 := rfl
  rw [ho]
  generalize recI k r n i c im.length = I at *
  apply Con.just
  (refine v_enter Tryz.func51 rfl Tryz.ntmps51 rfl ?_; intro B _)
  repeat' (first | apply v_seq | apply v_region | apply v_nil | apply v_skip | (apply v_take; (case hg => rfl)) | (apply v_pass; (case hg => rfl); (case hn => rfl); (case hd => rfl)) | (apply v_pure; (case hop => first | (apply p_move <;> rfl) | (apply p_ne <;> rfl) | (apply p_assign <;> rfl) | (apply p_pickT <;> rfl) | (apply p_pickF <;> rfl) | (apply p_not <;> rfl) | (apply p_fieldAddrB <;> rfl) | fail); (case hd => rfl)) | (apply v_condF; (case hc => rfl)) | (apply v_cond; (case hc => rfl); all_goals (intro h; (try simp only [reduceCtorEq, zzz] at h))) | (apply v_guardB; (case h1 => rfl); (case h2 => rfl); all_goals (intro h; (try simp only [reduceCtorEq, zzz] at h))) | (apply v_box (zs := recL k r n i c (.slice A im.length cp)); (case hx => rfl); (case hz => rfl); (case hd => rfl); intro b1) | (apply v_callJ (hs := q); (case ha => rfl); (case hd => rfl)) | (apply v_callJ (hs := qf); (case ha => rfl); (case hd => rfl)) | (apply v_callJ (hs := qv); (case ha => rfl); (case hd => rfl)) | (apply v_read; (case hop => first | (apply r_loadNo; (case hx => rfl); (case h => (repeat (exact mhd _))); (case hd => (repeat (first | with_reducible exact dt_nil | apply dt_here))); (case hn => rfl)) | (apply r_load1; rfl; (apply Cell.own; (case h => (repeat (exact mhd _))); rfl)) | fail); (case hd => rfl)) | fail)
  all_goals
    (refine v_ret [] (outsA1 rfl rfl) (by repeat (exact List.nil_sublist _)) ?_
     refine ⟨?_, rfl⟩
     clear q qf qv
     simp [*])
theorem rone_s {G : GH} {x : Rc} {xv : Value} (hx : RcV G x xv) (hc : x.cmd.ok) (hl : x.fits) (hw : x.small) (hk : 1 ≤ x.kind ∧ x.kind ≤ 4) : Con Tryz.prog 57 #[.int .i64 1, xv] G [] (fun r G' μ' => GH.le G G' ∧ Grow 5 1 r (encL x).length ((encL x).map (.int .u8 ·)) μ') := by
  have q := rrec_s hx hc hl hw hk
  obtain ⟨iv, rfl, hi⟩ := hx
  (refine v_enter Tryz.func57 rfl Tryz.ntmps57 rfl ?_; intro B _)
  repeat' (first | apply v_seq | apply v_region | apply v_nil | (apply v_pure; (case hop => first | (apply p_move <;> rfl) | (apply p_ne <;> rfl) | (apply p_assign <;> rfl) | fail); (case hd => rfl)) | (apply v_cond; (case hc => rfl); all_goals (intro h; (try simp only [reduceCtorEq, zzz] at h); first | (exfalso; omega) | skip)) | (apply v_box (zs := recL x.kind x.round x.node x.index x.cmd iv); (case hx => rfl); (case hz => rfl); (case hd => rfl); intro xb) | (apply v_read; (case hop => (apply r_loadNo; (case hx => rfl); (case h => (repeat (exact mhd _))); (case hd => (repeat (first | with_reducible exact dt_nil | apply dt_here))); (case hn => rfl))); (case hd => rfl)) | fail)
  refine v_call (μ1 := []) (μ2 := _) rfl q (List.Perm.refl _) rfl ?_
  rintro r G1 ν1 - ⟨hle, hg⟩
  obtain ⟨A1, c1, rfl, -, -⟩ := hg.shape
  repeat' (first | apply v_nil | (apply v_pure; (case hop => (apply p_assign <;> rfl)); (case hd => rfl)) | fail)
  refine v_ret ν1 (outsA1 rfl rfl) (by repeat (exact List.sublist_append_left _ _)) ?_
  exact ⟨hle, hg⟩
theorem put1_s {G : GH} (hT : TabsG G) {x : Rc} {xv : Value} (hx : RcV G x xv) (hc : x.cmd.ok) (hl : ¬ x.large) (hw : x.small) : Con Tryz.prog 59 #[.int .i64 1, xv] G [] (EncR x) := by
  have q := encode_s hT hx hc hl hw
  have qm := vmay_s G 1
  rw [decide_eq_true (by omega)] at qm
  unfold EncR at *
  generalize (if olderI x = 0 then encL x else []) = L at *
  obtain ⟨iv, rfl, hi⟩ := hx
  (refine v_enter Tryz.func59 rfl Tryz.ntmps59 rfl ?_; intro B _)
  repeat' (first | apply v_seq | apply v_region | apply v_nil | apply v_block | (apply v_pure; (case hop => first | (apply p_move <;> rfl) | (apply p_eqs <;> rfl) | (apply p_assign <;> rfl) | (apply p_not <;> rfl) | fail); (case hd => rfl)) | (apply v_condT; (case hc => rfl)) | (apply v_condF; (case hc => rfl)) | (apply v_box (zs := recL x.kind x.round x.node x.index x.cmd iv); (case hx => rfl); (case hz => rfl); (case hd => rfl); intro xb) | (apply v_callJ (hs := qm); (case ha => rfl); (case hd => rfl)) | (apply v_read; (case hop => (apply r_loadNo; (case hx => rfl); (case h => (repeat (exact mhd _))); (case hd => (repeat (first | with_reducible exact dt_nil | apply dt_here))); (case hn => rfl))); (case hd => rfl)) | fail)
  refine v_call (μ1 := []) (μ2 := _) rfl q (List.Perm.refl _) rfl ?_
  rintro r G1 ν1 - ⟨rfl, v, rfl, hg⟩
  repeat' (first | apply v_nil | (apply v_pure; (case hop => first | (apply p_assign <;> rfl) | (apply p_extract0 <;> rfl) | (apply p_extract1 <;> rfl) | fail); (case hd => rfl)) | fail)
  refine v_ret [] (outsA2 rfl rfl rfl) (by repeat (exact List.nil_sublist _)) ?_
  exact ⟨rfl, _, rfl, hg⟩
theorem put2_s {G : GH} (hT : TabsG G) {x : Rc} {xv : Value} (hx : RcV G x xv) (hc : x.cmd.ok) : Con Tryz.prog 59 #[.int .i64 2, xv] G [] (EncT x) := by
  have q := encodeT_s hT hx hc
  have qm := vmay_s G 2
  rw [decide_eq_true (by omega)] at qm
  unfold EncT at *
  generalize (if chkI x = 0 then encT x else []) = L at *
  obtain ⟨iv, rfl, hi⟩ := hx
  (refine v_enter Tryz.func59 rfl Tryz.ntmps59 rfl ?_; intro B _)
  repeat' (first | apply v_seq | apply v_region | apply v_nil | apply v_skip | apply v_block | apply v_blk | (apply v_pure; (case hop => first | (apply p_move <;> rfl) | (apply p_eq <;> rfl) | (apply p_assign <;> rfl) | (apply p_not <;> rfl) | fail); (case hd => rfl)) | (apply v_condF; (case hc => rfl)) | (apply v_cond; (case hc => rfl); all_goals (intro h; (try simp only [reduceCtorEq, zzz] at h); first | (exfalso; omega) | skip)) | (apply v_box (zs := recL x.kind x.round x.node x.index x.cmd iv); (case hx => rfl); (case hz => rfl); (case hd => rfl); intro xb) | (apply v_callJ (hs := qm); (case ha => rfl); (case hd => rfl)) | (apply v_read; (case hop => (apply r_loadNo; (case hx => rfl); (case h => (repeat (exact mhd _))); (case hd => (repeat (first | with_reducible exact dt_nil | apply dt_here))); (case hn => rfl))); (case hd => rfl)) | fail)
  refine v_call (μ1 := []) (μ2 := _) rfl q (List.Perm.refl _) rfl ?_
  rintro r G1 ν1 - ⟨rfl, v, rfl, hg⟩
  repeat' (first | apply v_nil | (apply v_pure; (case hop => first | (apply p_assign <;> rfl) | (apply p_extract0 <;> rfl) | (apply p_extract1 <;> rfl) | fail); (case hd => rfl)) | fail)
  refine v_ret [] (outsA2 rfl rfl rfl) (by repeat (exact List.nil_sublist _)) ?_
  exact ⟨rfl, _, rfl, hg⟩
theorem putN_s {G : GH} {f : Int} (hf : ¬ (f = 1 ∨ f = 2)) {x : Rc} {xv : Value} (hx : RcV G x xv) : Con Tryz.prog 59 #[.int .i64 f, xv] G [] (Just (.tuple [.slice none 0 0, .int .i64 8].toArray) G) := by
  have qm := vmay_s G f
  rw [decide_eq_false hf] at qm
  obtain ⟨iv, rfl, hi⟩ := hx
  apply Con.just
  (refine v_enter Tryz.func59 rfl Tryz.ntmps59 rfl ?_; intro B _)
  repeat' (first | apply v_seq | apply v_region | apply v_nil | apply v_block | (apply v_pure; (case hop => first | (apply p_move <;> rfl) | (apply p_assign <;> rfl) | (apply p_not <;> rfl) | fail); (case hd => rfl)) | (apply v_condT; (case hc => rfl)) | (apply v_box (zs := recL x.kind x.round x.node x.index x.cmd iv); (case hx => rfl); (case hz => rfl); (case hd => rfl); intro xb) | (apply v_callJ (hs := qm); (case ha => rfl); (case hd => rfl)) | fail)
  refine v_ret [] (outsA2 rfl rfl rfl) (by repeat (exact List.nil_sublist _)) ?_
  exact ⟨rfl, rfl⟩
theorem get1_s {G : GH} (hT : TabsG G) {l : List Int} {bv : Value} (hs : Sl G 1 (IntR .u8) bv l) (hl : l.length ≤ 1048000) : Con Tryz.prog 107 #[.int .i64 1, bv] G [] (DecR (some l)) := by
  have q := rdecode_s hT hs hl
  have qm := vmay_s G 1
  rw [decide_eq_true (by omega)] at qm
  unfold DecR at *
  generalize decOk (some l) = OK at *
  generalize decX (some l) = X at *
  obtain ⟨A0, c0, rfl, -⟩ := id hs.openInt
  (refine v_enter Tryz.func107 rfl Tryz.ntmps107 rfl ?_; intro B _)
  repeat' (first | apply v_seq | apply v_region | apply v_nil | apply v_block | (apply v_pure; (case hop => first | (apply p_move <;> rfl) | (apply p_eqs <;> rfl) | (apply p_assign <;> rfl) | (apply p_not <;> rfl) | fail); (case hd => rfl)) | (apply v_condT; (case hc => rfl)) | (apply v_condF; (case hc => rfl)) | (apply v_callJ (hs := qm); (case ha => rfl); (case hd => rfl)) | (apply v_alloc; (case hz => rfl); (case hd => rfl); intro b) | fail)
  refine v_call (μ1 := []) (μ2 := _) rfl q (List.Perm.refl _) rfl ?_
  rintro r G1 ν1 - ⟨rfl, x, v, e, rfl, hx, hcase⟩
  obtain ⟨iv, rfl, hi⟩ := id hx
  obtain ⟨A1, c1, rfl, -⟩ := hi.openInt
  unfold recL
  repeat' (first | apply v_nil | (apply v_pure; (case hop => first | (apply p_assign <;> rfl) | (apply p_extract0 <;> rfl) | (apply p_extract1 <;> rfl) | fail); (case hd => rfl)) | (apply v_store; (case hp => rfl); (case hx => rfl); (case hc => rfl); (case hsz => rfl); (case h1 => rfl); (case hb => (repeat (exact mhd _))); (case hfit => exact nle rfl); (case hov => ((repeat (first | with_reducible exact ov_nil | apply ov_cons)); done)); (case hu => repeat (exact Upd.here _ _))) | fail)
  refine v_retM [] (outsM_cell_tmp (vs := recL x.kind x.round x.node x.index x.cmd (.slice A1 x.image.length c1)) (e := 42) rfl rfl rfl (by repeat (exact mhd _)) rfl) (by repeat (exact List.nil_sublist _)) ?_
  exact ⟨rfl, x, _, e, rfl, hx, hcase⟩
theorem get2_s {G : GH} (hT : TabsG G) {l : List Int} {bv : Value} (hs : Sl G 1 (IntR .u8) bv l) (hl : l.length ≤ 1048000) : Con Tryz.prog 107 #[.int .i64 2, bv] G [] (DecT (some l)) := by
  have q := tdecode_s hT hs hl
  have qm := vmay_s G 2
  rw [decide_eq_true (by omega)] at qm
  unfold DecT at *
  generalize decTOk (some l) = OK at *
  generalize decT (some l) = X at *
  obtain ⟨A0, c0, rfl, -⟩ := id hs.openInt
  (refine v_enter Tryz.func107 rfl Tryz.ntmps107 rfl ?_; intro B _)
  repeat' (first | apply v_seq | apply v_region | apply v_nil | apply v_skip | apply v_block | apply v_blk | (apply v_pure; (case hop => first | (apply p_move <;> rfl) | (apply p_eq <;> rfl) | (apply p_assign <;> rfl) | (apply p_not <;> rfl) | fail); (case hd => rfl)) | (apply v_condF; (case hc => rfl)) | (apply v_cond; (case hc => rfl); all_goals (intro h; (try simp only [reduceCtorEq, zzz] at h); first | (exfalso; omega) | skip)) | (apply v_callJ (hs := qm); (case ha => rfl); (case hd => rfl)) | (apply v_alloc; (case hz => rfl); (case hd => rfl); intro b) | fail)
  refine v_call (μ1 := []) (μ2 := _) rfl q (List.Perm.refl _) rfl ?_
  rintro r G1 ν1 - ⟨rfl, x, v, e, rfl, hx, hcase⟩
  obtain ⟨iv, rfl, hi⟩ := id hx
  obtain ⟨A1, c1, rfl, -⟩ := hi.openInt
  unfold recL
  repeat' (first | apply v_nil | (apply v_pure; (case hop => first | (apply p_assign <;> rfl) | (apply p_extract0 <;> rfl) | (apply p_extract1 <;> rfl) | fail); (case hd => rfl)) | (apply v_store; (case hp => rfl); (case hx => rfl); (case hc => rfl); (case hsz => rfl); (case h1 => rfl); (case hb => (repeat (exact mhd _))); (case hfit => exact nle rfl); (case hov => ((repeat (first | with_reducible exact ov_nil | apply ov_cons)); done)); (case hu => repeat (exact Upd.here _ _))) | fail)
  refine v_retM [] (outsM_cell_tmp (vs := recL x.kind x.round x.node x.index x.cmd (.slice A1 x.image.length c1)) (e := 42) rfl rfl rfl (by repeat (exact mhd _)) rfl) (by repeat (exact List.nil_sublist _)) ?_
  exact ⟨rfl, x, _, e, rfl, hx, hcase⟩
theorem getN_s {G : GH} {f : Int} (hf : ¬ (f = 1 ∨ f = 2)) (bv : Value) : Con Tryz.prog 107 #[.int .i64 f, bv] G [] (Just (.tuple [.agg zeroRL.toArray, .int .i64 8].toArray) G) := by
  have qm := vmay_s G f
  rw [decide_eq_false hf] at qm
  apply Con.just
  (refine v_enter Tryz.func107 rfl Tryz.ntmps107 rfl ?_; intro B _)
  repeat' (first | apply v_seq | apply v_region | apply v_nil | apply v_block | (apply v_pure; (case hop => first | (apply p_move <;> rfl) | (apply p_assign <;> rfl) | (apply p_not <;> rfl) | (apply p_build; (case hz => rfl); (case hv => (simp only [List.map_cons, List.map_nil]; repeat (with_reducible exact evs_nil))); (case hb => (apply bldL; repeat (exact bld_nil)))) | fail); (case hd => rfl)) | (apply v_condT; (case hc => rfl)) | (apply v_callJ (hs := qm); (case ha => rfl); (case hd => rfl)) | (apply v_alloc; (case hz => rfl); (case hd => rfl); intro b) | (apply v_store; (case hp => rfl); (case hx => rfl); (case hc => rfl); (case hsz => rfl); (case h1 => rfl); (case hb => (repeat (exact mhd _))); (case hfit => exact nle rfl); (case hov => ((repeat (first | with_reducible exact ov_nil | apply ov_cons)); done)); (case hu => repeat (exact Upd.here _ _))) | fail)
  refine v_retM [] (outsM_cell_tmp (vs := zeroRL) (e := 42) rfl rfl rfl (by repeat (exact mhd _)) rfl) (by repeat (exact List.nil_sublist _)) ?_
  exact ⟨rfl, rfl⟩
def CmR (c : Cm) (cs : List Value) : Prop := cs = c.cells ∧ c.ok
theorem el_cm {H : Type} {enc : TypeId × Value → H} {W : World} : Elem enc Tryz.prog W 40 CmR := by
  intro fuel cs x hf
  have h1 := el_flen (n := 7) Tryz.underlying40 (by kernel_rfl) hf
  obtain ⟨a0, h0, w0⟩ := el_fld (i := 0) (sz := 1) (by kernel_rfl) (el_int Tryz.underlying3) hf
  obtain ⟨a1, e1, w1⟩ := el_fld (i := 1) (sz := 1) (by kernel_rfl) (el_int Tryz.underlying3) hf
  obtain ⟨a2, e2, w2⟩ := el_fld (i := 2) (sz := 1) (by kernel_rfl) (el_int Tryz.underlying3) hf
  obtain ⟨a3, e3, w3⟩ := el_fld (i := 3) (sz := 1) (by kernel_rfl) (el_string Tryz.underlying9) hf
  obtain ⟨a4, e4, w4⟩ := el_fld (i := 4) (sz := 1) (by kernel_rfl) (el_string Tryz.underlying9) hf
  obtain ⟨a5, e5, w5⟩ := el_fld (i := 5) (sz := 1) (by kernel_rfl) (el_string Tryz.underlying9) hf
  obtain ⟨a6, e6, w6⟩ := el_fld (i := 6) (sz := 1) (by kernel_rfl) (el_int Tryz.underlying3) hf
  match cs, h1 with
  | [c0, c1, c2, c3, c4, c5, c6], _ =>
    simp only [List.drop_succ_cons, List.drop_zero, List.take_succ_cons, List.take_zero, List.cons.injEq, and_true] at h0 e1 e2 e3 e4 e5 e6
    exact ⟨⟨a0, a1, a2, a3, a4, a5, a6⟩, by rw [h0, e1, e2, e3, e4, e5, e6]; rfl, w0, w1, w2, w3, w4, w5, w6⟩
theorem firstEq : (Rows.laid_unicode_utf8_first : DataW Unit) = Lib.firstData := by kernel_rfl
theorem acceptEq : (Rows.laid_unicode_utf8_acceptRanges : DataW Unit) = Lib.acceptData := by kernel_rfl
abbrev IsInt (v : Value) : Prop := ∃ a, v = .int .i64 a ∧ (Lit.int .i64 a).wf = true
set_option maxRecDepth 100000 in
theorem arg_t3 {H : Type} {enc : TypeId × Value → H} {W : World} {base : Nat} {v : Value} {d : DataW H} {p : List MemPlace} (hv : Value.okWide Tryz.prog W .any base 3 v) (h : DataW.Trod enc Tryz.prog W 0 (fun _ => true) true 3 v d p) : IsInt v := arg_int Tryz.underlying3 hv h
theorem vb_wf2 {n : Int} (h : n ≤ 9223372036854775807) : ∀ x ∈ vbytes n, (Lit.int .u8 x).wf = true := vbytes_wf h
theorem encL_ok {x : Rc} (h0 : olderI x = 0) (hc : x.cmd.ok) (hi : ∀ y ∈ x.image, (Lit.int .u8 y).wf = true) : (encL x).length ≤ 50000 ∧ ∀ y ∈ encL x, (Lit.int .u8 y).wf = true := by
  obtain ⟨hf, hsm, him, hsz⟩ := fits0 (older0 h0).1
  unfold Rc.small at hsm
  have hh := headL_len x
  have hwh : ∀ y ∈ headL x, (Lit.int .u8 y).wf = true := by
    unfold headL
    rw [List.nil_append]
    exact memwf (memwf (memwf (vb_wf2 hsm.1) (vb_wf2 hsm.2.1)) (vb_wf2 hsm.2.2.1)) (vb_wf2 hsm.2.2.2)
  have hk : x.cmd.kind ≤ 9223372036854775807 := by
    have := hc.1
    simp [Lit.wf, IntKind.min, IntKind.max, IntKind.signed, IntKind.bits] at this
    omega
  have h4 := (vbytes_len x.cmd.kind).1
  have h5 := putL_len x.cmd (by omega) (by omega) (by omega) 6
  have h6 := (vbytes_len (x.image.length : Nat)).1
  unfold encL
  split
  · exact ⟨by rw [List.length_append, List.length_append]; omega, memwf (memwf hwh (vb_wf2 hk)) (putW_wf hc (by omega) (by omega) (by omega) 6)⟩
  · split
    · exact ⟨by rw [List.length_append, List.length_append]; omega, memwf (memwf hwh (vb_wf2 (by omega))) hi⟩
    · exact ⟨by omega, hwh⟩
theorem encT_ok {x : Rc} (h0 : chkI x = 0) (hc : x.cmd.ok) (hi : ∀ y ∈ x.image, (Lit.int .u8 y).wf = true) : (encT x).length ≤ 50000 ∧ ∀ y ∈ encT x, (Lit.int .u8 y).wf = true := by
  obtain ⟨hf, hsm, him, hsz⟩ := fits0 (show recI x.kind x.round x.node x.index x.cmd x.image.length = 0 from h0)
  have hkk := (rec0 (show recI x.kind x.round x.node x.index x.cmd x.image.length = 0 from h0)).1
  have ht := tailT_len hf
  have h1 := (vbytes_len (x.kind + 16)).1
  unfold Rc.small at hsm
  have hk : x.cmd.kind ≤ 9223372036854775807 := by
    have := hc.1
    simp [Lit.wf, IntKind.min, IntKind.max, IntKind.signed, IntKind.bits] at this
    omega
  have hn : ∀ y ∈ ([] : List Int), (Lit.int .u8 y).wf = true := fun y hy => by cases hy
  refine ⟨by unfold encT; rw [List.length_append]; omega, ?_⟩
  unfold encT tailT
  refine memwf (vb_wf2 (by omega)) (memwf (memwf (memwf ?_ ?_) ?_) ?_)
  · split
    · exact memwf (vb_wf2 hsm.2.1) (vb_wf2 hsm.2.2.1)
    · exact hn
  · split
    · exact hn
    · exact vb_wf2 hsm.2.2.2
  · split
    · exact memwf (vb_wf2 hk) (putW_wf hc (by omega) (by omega) (by omega) 6)
    · exact hn
  · split
    · exact memwf (vb_wf2 (by omega)) hi
    · exact hn
theorem first_s {G : GH} (hC : CrcG G) (f n : Int) (hf : f ≤ 9223372036854775807) (hn : n ≤ 9223372036854775807) : Con Tryz.prog 50 #[.int .i64 f, .int .i64 n] G [] (fun r G' μ' => Grow 5 1 r (frB (vbytes f ++ vbytes n)).length ((frB (vbytes f ++ vbytes n)).map (.int .u8 ·)) μ') := by
  have h1 := vbytes_len f
  have h2 := vbytes_len n
  (refine v_enter Tryz.func50 rfl Tryz.ntmps50 rfl ?_; intro B _)
  repeat' (first | apply v_seq | apply v_region | apply v_nil | (apply v_pure; (case hop => first | (apply p_move <;> rfl) | (apply p_assign <;> rfl) | (apply p_build; (case hz => rfl); (case hv => (simp only [List.map_cons, List.map_nil]; repeat (with_reducible exact evs_nil))); (case hb => (apply bldL; repeat (exact bld_nil))))); (case hd => rfl)) | (apply v_box; (case hx => rfl); (case hz => rfl); (case hd => rfl); intro b) | fail)
  refine v_call (μ1 := [(b, _)]) rfl (wnumber_s b f (l := []) (sv := .slice none 0 0) Sl.nil (by simp) hf) (List.Perm.refl _) rfl ?_
  rintro _ G1 _ hle1 ⟨v1, rfl, s1⟩
  repeat' (first | apply v_seq | apply v_region | apply v_nil | (apply v_pure; (case hop => (apply p_move <;> rfl)); (case hd => rfl)) | fail)
  refine v_call (μ1 := [(b, _)]) rfl (wnumber_s b n s1 (by simp; omega) hn) (List.Perm.refl _) rfl ?_
  rintro _ G2 _ hle2 ⟨v2, rfl, s2⟩
  repeat' (first | apply v_seq | apply v_region | apply v_nil | (apply v_pure; (case hop => (apply p_move <;> rfl)); (case hd => rfl)) | fail)
  refine v_call (μ1 := [(b, _)]) rfl (wbytes_s b s2 (by simp; omega)) (List.Perm.refl _) rfl ?_
  rintro r3 G3 _ hle3 ⟨rfl, s3⟩
  have hl : (([] : List Int) ++ vbytes f ++ vbytes n).length ≤ 22 := by simp; omega
  have hl1 : 1 ≤ (([] : List Int) ++ vbytes f ++ vbytes n).length := by simp; omega
  obtain ⟨A3, c3, rfl, -⟩ := s3.openInt
  have h0 : addNo (([] : List Int) ++ vbytes f ++ vbytes n).length = 0 := addNo0.2 (by omega)
  repeat' (fail)
  refine v_call (μ1 := []) rfl (faddO_s (hC.le (GH.le_trans hle1 (GH.le_trans hle2 hle3))) s3 (by omega) h0) (List.Perm.refl _) rfl ?_
  rintro _ G4 ν4 hle4 ⟨v4, rfl, g4⟩
  rw [List.nil_append] at g4
  obtain ⟨A4, c4, rfl, -, -⟩ := g4.shape
  repeat' (first | apply v_seq | apply v_region | apply v_nil | (apply v_pure; (case hop => first | (apply p_move <;> rfl) | (apply p_assign <;> rfl) | (apply p_extract0 <;> rfl) | (apply p_extract1 <;> rfl) | fail); (case hd => rfl)) | fail)
  refine v_drop (ν := ν4) (List.sublist_append_left _ _) ?_
  refine v_ret ν4 (outsA1 rfl rfl) (List.Sublist.refl _) g4
def encF (f : Int) (x : Rc) : List Int := if f = 1 then encL x else encT x
noncomputable def errF (f : Int) (x : Rc) : Int := if f = 1 ∨ f = 2 then hasI f x else 8
theorem errF1 (x : Rc) : errF 1 x = olderI x := by unfold errF; rw [if_pos (.inl rfl)]; exact hasI_one x
theorem errF2 (x : Rc) : errF 2 x = chkI x := by unfold errF; rw [if_pos (.inr rfl)]; exact hasI_two x
theorem errFN {f : Int} (h : ¬ (f = 1 ∨ f = 2)) (x : Rc) : errF f x = 8 := by unfold errF; rw [if_neg h]
theorem encF_one {f : Int} {x : Rc} : 1 ≤ (encF f x).length := by
  unfold encF
  split
  · have h1 := (vbytes_len x.kind).2
    have h2 : 1 ≤ (headL x).length := by
      unfold headL
      simp only [List.length_append]
      omega
    unfold encL
    split
    · simp only [List.length_append]; omega
    · split
      · simp only [List.length_append]; omega
      · exact h2
  · have := (vbytes_len (x.kind + 16)).2
    unfold encT
    simp
    omega
theorem encF_ok {f : Int} {x : Rc} (h0 : errF f x = 0) (hc : x.cmd.ok) (hi : wfL x.image) : (encF f x).length ≤ 50000 ∧ wfL (encF f x) := by
  by_cases h1 : f = 1
  · subst h1
    rw [errF1] at h0
    unfold encF
    rw [if_pos rfl]
    exact encL_ok h0 hc hi
  · by_cases h2 : f = 2
    · subst h2
      rw [errF2] at h0
      unfold encF
      rw [if_neg (by decide)]
      exact encT_ok h0 hc hi
    · rw [errFN (by omega)] at h0
      cases h0
theorem putF_s {G : GH} (hT : TabsG G) (f : Int) {x : Rc} {xv : Value} (hx : RcV G x xv) (hc : x.cmd.ok) (hl : ¬ x.large) (hw : x.small) : Con Tryz.prog 59 #[.int .i64 f, xv] G [] (fun r G' μ' => μ' = [] ∧ ∃ v, r = .tuple [v, .int .i64 (errF f x)].toArray ∧ Sl G' 1 (IntR .u8) v (if errF f x = 0 then encF f x else [])) := by
  by_cases h1 : f = 1
  · subst h1
    rw [errF1]
    exact put1_s hT hx hc hl hw
  · by_cases h2 : f = 2
    · subst h2
      rw [errF2]
      exact put2_s hT hx hc
    · rw [errFN (by omega)]
      refine (putN_s (by omega) hx).mono ?_
      rintro r G' μ' ⟨rfl, rfl, rfl⟩
      exact ⟨rfl, _, rfl, by rw [if_neg (by decide)]; exact Sl.nil⟩
def AddS (f : Int) (x : Rc) (r : Value) (G' : GH) (μ' : OH) : Prop := μ' = [] ∧ ∃ v, r = .tuple [v, .int .i64 (errF f x)].toArray ∧ Sl G' 1 (IntR .u8) v (if errF f x = 0 then frB (encF f x) else [])
theorem sadd_s {G : GH} (hT : TabsG G) (hC : CrcG G) (f : Int) {x : Rc} {xv : Value} (hx : RcV G x xv) (hc : x.cmd.ok) (hl : ¬ x.large) (hw : x.small) : Con Tryz.prog 19 #[.int .i64 f, xv] G [] (AddS f x) := by
  have q1 := putF_s hT f hx hc hl hw
  have hx0 := id hx
  obtain ⟨iv, rfl, hi⟩ := hx
  obtain ⟨A, c, rfl, -, -, -, -, hwf⟩ := id hi.openInt
  have hok := fun h => encF_ok (f := f) (x := x) h hc hwf
  have h1 := encF_one (f := f) (x := x)
  unfold AddS
  generalize errF f x = e at *
  generalize encF f x = el at *
  (refine v_enter Tryz.func19 rfl Tryz.ntmps19 rfl ?_; intro B _)
  repeat' (first | apply v_seq | apply v_region | apply v_nil | (apply v_pure; (case hop => first | (apply p_move <;> rfl) | (apply p_assign <;> rfl) | fail); (case hd => rfl)) | (apply v_read; (case hop => (apply r_loadNo; (case hx => rfl); (case h => (repeat (exact mhd _))); (case hd => (repeat (first | with_reducible exact dt_nil | apply dt_here))); (case hn => rfl))); (case hd => rfl)) | (apply v_box; (case hx => rfl); (case hz => rfl); (case hd => rfl); intro b) | fail)
  refine v_call (μ1 := []) rfl q1 (List.Perm.refl _) rfl ?_
  rintro _ G1 _ hle1 ⟨rfl, v1, rfl, s1⟩
  by_cases he : e = 0
  · subst he
    rw [if_pos rfl] at s1
    obtain ⟨ho1, ho2⟩ := hok rfl
    have h0 : addNo el.length = 0 := addNo0.2 (by omega)
    obtain ⟨A1, c1, rfl, -⟩ := s1.openInt
    repeat' (first | apply v_seq | apply v_region | apply v_nil | apply v_skip | (apply v_pure; (case hop => first | (apply p_move <;> rfl) | (apply p_nes <;> rfl) | (apply p_assign <;> rfl) | (apply p_extract0 <;> rfl) | (apply p_extract1 <;> rfl) | fail); (case hd => rfl)) | (apply v_condF; (case hc => rfl)) | fail)
    refine v_call (μ1 := []) rfl (fadd_s (hC.le hle1) s1 (by omega)) (List.Perm.refl _) rfl ?_
    rintro _ G2 _ hle2 ⟨rfl, v2, rfl, s2⟩
    rw [if_pos h0] at s2
    rw [h0]
    obtain ⟨A2, c2, rfl, -⟩ := s2.openInt
    repeat' (first | apply v_nil | (apply v_pure; (case hop => first | (apply p_assign <;> rfl) | (apply p_extract0 <;> rfl) | (apply p_extract1 <;> rfl) | fail); (case hd => rfl)) | fail)
    refine v_ret [] (outsA2 rfl rfl rfl) (by repeat (exact List.nil_sublist _)) ?_
    exact ⟨rfl, _, rfl, by rw [if_pos rfl]; exact s2⟩
  · rw [if_neg he] at s1
    obtain ⟨A1, c1, rfl, -⟩ := s1.openInt
    repeat' (first | apply v_seq | apply v_region | apply v_nil | (apply v_pure; (case hop => first | (apply p_move <;> rfl) | (apply p_ne <;> rfl) | (apply p_assign <;> rfl) | (apply p_extract0 <;> rfl) | (apply p_extract1 <;> rfl) | fail); (case hd => rfl)) | (apply v_cond; (case hc => rfl); all_goals (intro h; (try simp only [reduceCtorEq, zzz] at h); first | (exfalso; omega) | skip)) | fail)
    refine v_ret [] (outsA2 rfl rfl rfl) (by repeat (exact List.nil_sublist _)) ?_
    exact ⟨rfl, _, rfl, by rw [if_neg he]; exact Sl.nil⟩
structure Ent where
  index : Int
  round : Int
  node : Int
  cmd : Cm
def Ent.cells (x : Ent) : List Value := [.int .i64 x.index, .int .i64 x.round, .int .i64 x.node, .int .i64 x.cmd.kind, .int .i64 x.cmd.client, .int .i64 x.cmd.seq, .string x.cmd.key, .string x.cmd.val, .string x.cmd.old, .int .i64 x.cmd.node]
def Ent.ok (x : Ent) : Prop := (Lit.int .i64 x.index).wf = true ∧ (Lit.int .i64 x.round).wf = true ∧ (Lit.int .i64 x.node).wf = true ∧ x.cmd.ok
def EntR (x : Ent) (cs : List Value) : Prop := cs = x.cells ∧ x.ok
abbrev Es (G : GH) (v : Value) (l : List Ent) : Prop := Sl G 10 EntR v l
theorem adr_add (X : Addr) (a b : Nat) : (X.add a).add b = X.add (a + b) := by
  by_cases ha : a = 0 <;> by_cases hb : b = 0 <;> simp [Addr.add, ha, hb, Nat.add_assoc]
theorem cellsG_drop {G : GH} {X : Addr} {cs : List Value} (n : Nat) (h : CellsG G X cs) : CellsG G (X.add n) (cs.drop n) := by
  intro j u hu
  rw [adr_add]
  exact h _ _ (by simpa using hu)
theorem cellsG_take {G : GH} {X : Addr} {cs : List Value} (n : Nat) (h : CellsG G X cs) : CellsG G X (cs.take n) := by
  intro j u hu
  exact h _ _ (by rw [List.getElem?_take] at hu; split at hu; exact hu; cases hu)
theorem esOpen {G : GH} {v : Value} {l : List Ent} (h : Es G v l) : ∃ A c, v = .slice A l.length c ∧ l.length ≤ c ∧ c ≤ maxLen ∧ (0 < l.length → A.isSome = true) ∧
    (∀ i (h : i < l.length), CellsG G ((adr A).add (i * 10)) l[i].cells) ∧ (∀ i (h : i < l.length), CellsG G (((adr A).add (i * 10)).add 1) [.int .i64 l[i].round, .int .i64 l[i].node]) ∧
    (∀ i (h : i < l.length), CellsG G (((adr A).add (i * 10)).add 3) l[i].cmd.cells) ∧ (∀ i (h : i < l.length), l[i].ok) := by
  obtain ⟨A, c, rfl, h1, h2, h3, h4⟩ := h.open
  have key : ∀ i (h : i < l.length), CellsG G ((adr A).add (i * 10)) l[i].cells ∧ l[i].ok := fun i hi => by
    obtain ⟨cs, _, ⟨rfl, h6⟩, h5⟩ := h4 i _ (List.getElem?_eq_getElem hi)
    exact ⟨h5, h6⟩
  refine ⟨A, c, rfl, h1, h2, h3, fun i hi => (key i hi).1, fun i hi => ?_, fun i hi => ?_, fun i hi => (key i hi).2⟩
  · exact cellsG_take 2 (cellsG_drop 1 (key i hi).1)
  · exact cellsG_drop 3 (key i hi).1
noncomputable def oneI (x : Ent) : Int := if x.index < 1 ∨ 4294967296 < x.index ∨ ¬ mayP x.round x.node then 6 else cmdI x.cmd
theorem one_s {G : GH} (hT : TabsG G) (x : Ent) (hx : x.ok) : Con Tryz.prog 125 #[.agg x.cells.toArray] G [] (Just (.int .i64 (oneI x)) G) := by
  have qm := may_s G x.round x.node
  have qc := Con.just (cmdCheck_s hT x.cmd hx.2.2.2)
  apply Con.just
  (refine v_enter Tryz.func125 rfl Tryz.ntmps125 rfl ?_; intro B _)
  repeat' (first | apply v_seq | apply v_region | apply v_nil | apply v_skip | (apply v_take; (case hg => rfl)) | (apply v_pass; (case hg => rfl); (case hn => rfl); (case hd => rfl)) | (apply v_pure; (case hop => first | (apply p_move <;> rfl) | (apply p_lt <;> rfl) | (apply p_gt <;> rfl) | (apply p_assign <;> rfl) | (apply p_pickT <;> rfl) | (apply p_pickF <;> rfl) | (apply p_not <;> rfl) | (apply p_fieldAddrB <;> rfl) | fail); (case hd => rfl)) | (apply v_condT; (case hc => rfl)) | (apply v_cond; (case hc => rfl); all_goals (intro h; (try simp only [reduceCtorEq, zzz] at h))) | (apply v_guardB; (case h1 => rfl); (case h2 => rfl); all_goals (intro h; (try simp only [reduceCtorEq, zzz] at h))) | (apply v_box (zs := x.cells); (case hx => rfl); (case hz => rfl); (case hd => rfl); intro b) | (apply v_callJ (hs := qm); (case ha => rfl); (case hd => rfl)) | (apply v_callJ (hs := qc); (case ha => rfl); (case hd => rfl)) | (apply v_read; (case hop => first | (apply r_loadNo; (case hx => rfl); (case h => (repeat (exact mhd _))); (case hd => (repeat (first | with_reducible exact dt_nil | apply dt_here))); (case hn => rfl)) | (apply r_load1; rfl; (apply Cell.own; (case h => (repeat (exact mhd _))); rfl)) | fail); (case hd => rfl)) | fail)
  all_goals
    (refine v_ret [] (outsA1 rfl rfl) (by repeat (exact List.nil_sublist _)) ?_
     refine ⟨?_, rfl⟩
     (simp [oneI, *]; done))
theorem esCell {G : GH} {A : Option Addr} {l : List Ent} (hcp : ∀ i (h : i < l.length), CellsG G ((adr A).add (i * 10)) l[i].cells) (i : Nat) (h : i < l.length) : GH.cell? G (((adr A).add (i * 10)).add 0) = some (.int .i64 l[i].index) := (hcp i h).cell (j := 0) rfl
noncomputable def chkK (l : List Ent) (k : Nat) : Int :=
  if h : k < l.length then if oneI l[k] ≠ 0 then oneI l[k] else if h0 : 0 < k then if l[k].index ≤ (l[k - 1]'(by omega)).index then 12 else chkK l (k + 1) else chkK l (k + 1) else 0
termination_by l.length - k
theorem entCheck_s {G : GH} (hT : TabsG G) {l : List Ent} {sv : Value} (hs : Es G sv l) : Con Tryz.prog 81 #[sv] G [] (Just (.int .i64 (chkK l 0)) G) := by
  obtain ⟨A, c, rfl, hlc, hcm, hsome, hcp, hcb, hcc, hok⟩ := esOpen hs
  simp only [maxLen] at hcm
  apply Con.just
  (refine v_enter Tryz.func81 rfl Tryz.ntmps81 rfl ?_; intro B _)
  repeat' (first | apply v_seq | apply v_region | apply v_nil | apply v_block | (apply v_pure; (case hop => first | (apply p_move <;> rfl) | (apply p_assign <;> rfl) | (apply p_lenSlice <;> rfl) | fail); (case hd => rfl)) | fail)
  refine v_loop [8, 7, 6, 0] (fun us G' μ' => G' = G ∧ μ' = [] ∧ ∃ k, k ≤ l.length ∧ us = [Value.int .i64 (k : Nat), .int .i64 l.length, .slice A l.length c, .slice A l.length c] ∧ chkK l 0 = chkK l k) (fun us => l.length - (headI us).toNat) rfl ⟨rfl, rfl, 0, by omega, rfl, rfl⟩ ?_
  rintro us G' μ' ⟨rfl, rfl, k, hk, rfl, hno⟩
  have e1 : ((k : Nat) : Int).toNat = k := by omega
  have e2 : (((k : Nat) : Int) - 1).toNat = k - 1 := by omega
  have q1 := fun (h : k < l.length) => one_s hT l[k] (hok k h)
  repeat' (first | apply v_seq | apply v_region | apply v_nil | apply v_skip | apply v_block | (apply v_exit; (case hp => rfl)) | (apply v_pure; (case hop => first | (apply p_move <;> rfl) | (apply p_lt <;> rfl) | (apply p_ne <;> rfl) | (apply p_assign <;> rfl) | (apply p_indexAddrS; (case hx => rfl); (case hi => rfl); (case h0 => omega); (case h => omega); (case hA => (apply_assumption; omega))) | fail); (case hd => rfl)) | (apply v_cond; (case hc => rfl); all_goals (intro h; (try simp only [reduceCtorEq, zzz] at h))) | (apply v_read; (case hop => (apply r_loadN; rfl; exact CellsAt.frozen (hcp _ (by omega)); rfl)); (case hd => rfl)) | (apply v_callJ (hs := q1 (by omega)); (case ha => rfl); (case hd => rfl)) | (apply v_read; (case hop => (apply r_loadNo; (case hx => rfl); (case h => (repeat (exact mhd _))); (case hd => (repeat (first | with_reducible exact dt_nil | apply dt_here))); (case hn => rfl))); (case hd => rfl)) | (apply v_alloc; (case hz => rfl); (case hd => rfl); intro b) | (apply v_store; (case hp => rfl); (case hx => rfl); (case hc => rfl); (case hsz => rfl); (case h1 => rfl); (case hb => (repeat (exact mhd _))); (case hfit => exact nle rfl); (case hov => ((repeat (first | with_reducible exact ov_nil | apply ov_cons)); done)); (case hu => repeat (exact Upd.here _ _))) | fail)
  · refine v_ret [] (outsA1 rfl rfl) (by repeat (exact List.nil_sublist _)) ?_
    refine ⟨?_, rfl⟩
    rw [hno, chkK, dif_pos (by omega), if_pos (by assumption)]
  · have hlt : k < l.length := by omega
    refine d_start _ (by kernel_rfl) (by kernel_rfl) (by kernel_rfl) (fun _ he => he) ?_
    all_goals (apply dtk 0; (case hi => rfl); (case hop => (apply prd; apply p_move <;> rfl)); (case hq => kernel_rfl))
    all_goals (apply dtk 1; (case hi => rfl); (case hop => (apply prd; apply p_gt <;> rfl)); (case hq => kernel_rfl))
    all_goals (apply dtk 2; (case hi => rfl); (case hop => (apply prd; apply p_move <;> rfl)); (case hq => kernel_rfl))
    all_goals (try (apply d_guardB 3; (case hi => rfl); (case hgd => rfl); (case h1 => rfl); (case h2 => rfl); all_goals (intro h; (try simp only [reduceCtorEq, zzz] at h))))
    all_goals (first | (apply dpa 3; (case hi => rfl); (case hg => rfl); (case hn => rfl); (case hq => kernel_rfl)) | (apply dtg 3; (case hi => rfl); (case hg => rfl); (case hop => (apply prd; apply p_fieldAddrB <;> rfl)); (case hq => kernel_rfl)) | fail)
    all_goals (try (apply d_guardB 4; (case hi => rfl); (case hgd => rfl); (case h1 => rfl); (case h2 => rfl); all_goals (intro h; (try simp only [reduceCtorEq, zzz] at h))))
    all_goals (first | (apply dpa 4; (case hi => rfl); (case hg => rfl); (case hn => rfl); (case hq => kernel_rfl)) | (apply dtg 4; (case hi => rfl); (case hg => rfl); (case hop => (apply r_load1; rfl; (apply Cell.own; (case h => (repeat (exact mhd _))); rfl))); (case hq => kernel_rfl)) | fail)
    all_goals (try (apply d_guardB 5; (case hi => rfl); (case hgd => rfl); (case h1 => rfl); (case h2 => rfl); all_goals (intro h; (try simp only [reduceCtorEq, zzz] at h))))
    all_goals (first | (apply dpa 5; (case hi => rfl); (case hg => rfl); (case hn => rfl); (case hq => kernel_rfl)) | (apply dtg 5; (case hi => rfl); (case hg => rfl); (case hop => (apply prd; apply p_move <;> rfl)); (case hq => kernel_rfl)) | fail)
    all_goals (try (apply d_guardB 6; (case hi => rfl); (case hgd => rfl); (case h1 => rfl); (case h2 => rfl); all_goals (intro h; (try simp only [reduceCtorEq, zzz] at h))))
    all_goals (first | (apply dpa 6; (case hi => rfl); (case hg => rfl); (case hn => rfl); (case hq => kernel_rfl)) | (apply dtg 6; (case hi => rfl); (case hg => rfl); (case hop => (apply prd; apply p_move <;> rfl)); (case hq => kernel_rfl)) | fail)
    all_goals (try (apply d_guardB 7; (case hi => rfl); (case hgd => rfl); (case h1 => rfl); (case h2 => rfl); all_goals (intro h; (try simp only [reduceCtorEq, zzz] at h))))
    all_goals (first | (apply dpa 7; (case hi => rfl); (case hg => rfl); (case hn => rfl); (case hq => kernel_rfl)) | (apply dtg 7; (case hi => rfl); (case hg => rfl); (case hop => (apply prd; apply p_sub; (case hx => rfl); (case hy => rfl); (case h => omega))); (case hq => kernel_rfl)) | fail)
    all_goals (try (apply d_guardB 8; (case hi => rfl); (case hgd => rfl); (case h1 => rfl); (case h2 => rfl); all_goals (intro h; (try simp only [reduceCtorEq, zzz] at h))))
    all_goals (first | (apply dpa 8; (case hi => rfl); (case hg => rfl); (case hn => rfl); (case hq => kernel_rfl)) | (apply dtg 8; (case hi => rfl); (case hg => rfl); (case hop => (apply prd; apply p_indexAddrS; (case hx => rfl); (case hi => rfl); (case h0 => omega); (case h => omega); (case hA => (apply_assumption; omega)))); (case hq => kernel_rfl)) | fail)
    all_goals (try (apply d_guardB 9; (case hi => rfl); (case hgd => rfl); (case h1 => rfl); (case h2 => rfl); all_goals (intro h; (try simp only [reduceCtorEq, zzz] at h))))
    all_goals (first | (apply dpa 9; (case hi => rfl); (case hg => rfl); (case hn => rfl); (case hq => kernel_rfl)) | (apply dtg 9; (case hi => rfl); (case hg => rfl); (case hop => (apply prd; apply p_fieldAddr <;> rfl)); (case hq => kernel_rfl)) | fail)
    all_goals (try (apply d_guardB 10; (case hi => rfl); (case hgd => rfl); (case h1 => rfl); (case h2 => rfl); all_goals (intro h; (try simp only [reduceCtorEq, zzz] at h))))
    all_goals (first | (apply dpa 10; (case hi => rfl); (case hg => rfl); (case hn => rfl); (case hq => kernel_rfl)) | (apply dtg 10; (case hi => rfl); (case hg => rfl); (case hop => ((apply r_load1; rfl; exact Cell.frozen (esCell hcp _ (by omega))))); (case hq => kernel_rfl)) | fail)
    all_goals (try (apply d_guardB 11; (case hi => rfl); (case hgd => rfl); (case h1 => rfl); (case h2 => rfl); all_goals (intro h; (try simp only [reduceCtorEq, zzz] at h))))
    all_goals (first | (apply dpa 11; (case hi => rfl); (case hg => rfl); (case hn => rfl); (case hq => kernel_rfl)) | (apply dtg 11; (case hi => rfl); (case hg => rfl); (case hop => (apply prd; apply p_le <;> rfl)); (case hq => kernel_rfl)) | fail)
    all_goals (apply dtk 12; (case hi => rfl); (case hop => first | (apply prd; apply p_pickT <;> rfl) | (apply prd; apply p_pickF <;> rfl) | fail); (case hq => kernel_rfl))
    all_goals (apply d_done; (case hr => kernel_rfl))
    repeat' (first | apply v_seq | apply v_region | apply v_nil | apply v_skip | apply v_blk | (apply v_pure; (case hop => first | (apply p_move <;> rfl) | (apply p_assign <;> rfl) | (apply p_add; (case hx => rfl); (case hy => rfl); (case h => omega)) | fail); (case hd => rfl)) | (apply v_condF; (case hc => rfl)) | (apply v_cond; (case hc => rfl); all_goals (intro h; (try simp only [reduceCtorEq, zzz] at h))) | fail)
    all_goals try
      (refine v_ret [] (outsA1 rfl rfl) (by repeat (first | exact List.Sublist.refl _ | exact List.nil_sublist _ | fail)) ?_
       refine ⟨?_, rfl⟩
       rw [hno, chkK, dif_pos hlt, if_neg (by simpa using ‹oneI l[k] = 0›), dif_pos (by omega), if_pos (by simp only [e1, e2] at *; omega)])
    all_goals
      (refine v_drop (ν := []) (by repeat (exact List.nil_sublist _)) ?_
       refine v_again rfl ⟨rfl, rfl, k + 1, by omega, rfl, ?_⟩ (by simp [headI]; omega)
       rw [hno, chkK, dif_pos hlt, if_neg (by simpa using ‹oneI l[k] = 0›)]
       by_cases h0 : 0 < k
       · rw [dif_pos h0, if_neg (by simp only [e1, e2] at *; omega)]
       · rw [dif_neg h0])
  · refine v_ret [] (outsA1 rfl rfl) (by repeat (exact List.Sublist.refl _)) ?_
    refine ⟨?_, rfl⟩
    rw [hno, chkK, dif_neg (by omega)]
theorem cmCell {G : GH} {A : Option Addr} {l : List Ent} (hcc : ∀ i (h : i < l.length), CellsG G (((adr A).add (i * 10)).add 3) l[i].cmd.cells) (i : Nat) (h : i < l.length) (j : Nat) (v : Value) (hv : l[i].cmd.cells[j]? = some v) : GH.cell? G ((((adr A).add (i * 10)).add 3).add j) = some v := (hcc i h).cell hv
theorem oneI_six {x : Ent} (h : x.index < 1 ∨ 4294967296 < x.index ∨ ¬ mayP x.round x.node) : oneI x = 6 := by rw [oneI, if_pos h]
theorem oneI_cmd {x : Ent} (h : ¬ x.index < 1) (h1 : ¬ 4294967296 < x.index) (h2 : mayP x.round x.node) : oneI x = cmdI x.cmd := by
  rw [oneI, if_neg]
  rintro (h' | h' | h')
  · exact h h'
  · exact h1 h'
  · exact h' h2
theorem chkK_bad {l : List Ent} {k : Nat} (hlt : k < l.length) {z : Int} (h : oneI l[k] = z) (hz : z ≠ 0) : chkK l k = z := by rw [chkK, dif_pos hlt, if_pos (by rw [h]; exact hz), h]
theorem chkK_low {l : List Ent} {k : Nat} (hlt : k < l.length) (h : oneI l[k] = 0) (h0 : 0 < k) (h1 : l[k].index ≤ (l[k - 1]'(by omega)).index) : chkK l k = 12 := by rw [chkK, dif_pos hlt, if_neg (by simpa using h), dif_pos h0, if_pos h1]
theorem chkK_next {l : List Ent} {k : Nat} (hlt : k < l.length) (h : oneI l[k] = 0) (h1 : ∀ h0 : 0 < k, ¬ l[k].index ≤ (l[k - 1]'(by omega)).index) : chkK l k = chkK l (k + 1) := by
  rw [chkK, dif_pos hlt, if_neg (by simpa using h)]
  by_cases h0 : 0 < k
  · rw [dif_pos h0, if_neg (h1 h0)]
  · rw [dif_neg h0]
theorem chkK_end {l : List Ent} {k : Nat} (h : ¬ k < l.length) : chkK l k = 0 := by rw [chkK, dif_neg h]
theorem refEntCheck_s {G : GH} {l : List Ent} {sv : Value} (hs : Es G sv l) : Con Tryz.prog 53 #[sv] G [] (Just (.int .i64 (chkK l 0)) G) := by
  obtain ⟨A, c, rfl, hlc, hcm, hsome, hcp, hcb, hcc, hok⟩ := esOpen hs
  simp only [maxLen] at hcm
  apply Con.just
  (refine v_enter Tryz.func53 rfl Tryz.ntmps53 rfl ?_; intro B _)
  repeat' (first | apply v_seq | apply v_region | apply v_nil | apply v_block | (apply v_pure; (case hop => (apply p_assign <;> rfl)); (case hd => rfl)) | fail)
  refine v_loop [3, 0] (fun us G' μ' => G' = G ∧ μ' = [] ∧ ∃ k, k ≤ l.length ∧ us = [Value.int .i64 (k : Nat), .slice A l.length c] ∧ chkK l 0 = chkK l k) (fun us => l.length - (headI us).toNat) rfl ⟨rfl, rfl, 0, by omega, rfl, rfl⟩ ?_
  rintro us G' μ' ⟨rfl, rfl, k, hk, rfl, hno⟩
  have e1 : ((k : Nat) : Int).toNat = k := by omega
  have e2 : (((k : Nat) : Int) - 1).toNat = k - 1 := by omega
  have qc := fun (h : k < l.length) => Con.just (refCmdCheck_s (G := G') l[k].cmd (hok k h).2.2.2)
  have qm := fun (h : k < l.length) => refMay_s G' l[k].round l[k].node
  repeat' (first | apply v_seq | apply v_region | apply v_nil | apply v_skip | apply v_block | (apply v_exit; (case hp => rfl)) | (apply v_take; (case hg => rfl)) | (apply v_pass; (case hg => rfl); (case hn => rfl); (case hd => rfl)) | (apply v_pure; (case hop => first | (apply p_move <;> rfl) | (apply p_lt <;> rfl) | (apply p_gt <;> rfl) | (apply p_ne <;> rfl) | (apply p_assign <;> rfl) | (apply p_pickT <;> rfl) | (apply p_pickF <;> rfl) | (apply p_not <;> rfl) | (apply p_lenSlice <;> rfl) | (apply p_fieldAddr <;> rfl) | (apply p_indexAddrS; (case hx => rfl); (case hi => rfl); (case h0 => omega); (case h => omega); (case hA => (apply_assumption; omega))) | fail); (case hd => rfl)) | (apply v_condT; (case hc => rfl)) | (apply v_cond; (case hc => rfl); all_goals (intro h; (try simp only [reduceCtorEq, zzz] at h))) | (apply v_guardB; (case h1 => rfl); (case h2 => rfl); all_goals (intro h; (try simp only [reduceCtorEq, zzz] at h))) | (apply v_read; (case hop => first | (apply r_load1; rfl; exact Cell.frozen (esCell hcp _ (by omega))) | (apply r_loadN; rfl; exact CellsAt.frozen (hcb _ (by omega)); rfl) | (apply r_loadN; rfl; exact CellsAt.frozen (hcc _ (by omega)); rfl) | fail); (case hd => rfl)) | (apply v_callJ (hs := qm (by omega)); (case ha => rfl); (case hd => rfl)) | (apply v_callJ (hs := qc (by omega)); (case ha => rfl); (case hd => rfl)) | fail)
  · refine v_ret [] (outsA1 rfl rfl) (by repeat (exact List.Sublist.refl _)) ?_
    refine ⟨?_, rfl⟩
    rw [hno, chkK_bad (by omega) (oneI_six (.inl (by assumption))) (by decide)]
  · refine v_ret [] (outsA1 rfl rfl) (by repeat (exact List.Sublist.refl _)) ?_
    refine ⟨?_, rfl⟩
    rw [hno, chkK_bad (by omega) (oneI_six (.inr (.inl (by assumption)))) (by decide)]
  · refine v_ret [] (outsA1 rfl rfl) (by repeat (exact List.Sublist.refl _)) ?_
    refine ⟨?_, rfl⟩
    rw [hno, chkK_bad (by omega) (oneI_six (.inr (.inr (by assumption)))) (by decide)]
  · refine v_ret [] (outsA1 rfl rfl) (by repeat (exact List.Sublist.refl _)) ?_
    refine ⟨?_, rfl⟩
    rw [hno, chkK_bad (by omega) (oneI_cmd (by assumption) (by assumption) (by assumption)) (by assumption)]
  · have hlt : k < l.length := by omega
    have q0 : oneI l[k] = 0 := by rw [oneI_cmd (by assumption) (by assumption) (by assumption)]; assumption
    clear qc qm
    refine d_start [] (by kernel_rfl) (by kernel_rfl) (by kernel_rfl) (by intro e he; exact he) ?_
    all_goals (apply dtk 0; (case hi => rfl); (case hop => (apply prd; apply p_move <;> rfl)); (case hq => kernel_rfl))
    all_goals (apply dtk 1; (case hi => rfl); (case hop => (apply prd; apply p_gt <;> rfl)); (case hq => kernel_rfl))
    all_goals (apply dtk 2; (case hi => rfl); (case hop => (apply prd; apply p_move <;> rfl)); (case hq => kernel_rfl))
    all_goals (try (apply d_guardB 3; (case hi => rfl); (case hgd => rfl); (case h1 => rfl); (case h2 => rfl); all_goals (intro h; (try simp only [reduceCtorEq, zzz] at h))))
    all_goals (first | (apply dpa 3; (case hi => rfl); (case hg => rfl); (case hn => rfl); (case hq => kernel_rfl)) | (apply dtg 3; (case hi => rfl); (case hg => rfl); (case hop => (apply prd; apply p_move <;> rfl)); (case hq => kernel_rfl)) | fail)
    all_goals (try (apply d_guardB 4; (case hi => rfl); (case hgd => rfl); (case h1 => rfl); (case h2 => rfl); all_goals (intro h; (try simp only [reduceCtorEq, zzz] at h))))
    all_goals (first | (apply dpa 4; (case hi => rfl); (case hg => rfl); (case hn => rfl); (case hq => kernel_rfl)) | (apply dtg 4; (case hi => rfl); (case hg => rfl); (case hop => (apply prd; apply p_move <;> rfl)); (case hq => kernel_rfl)) | fail)
    all_goals (try (apply d_guardB 5; (case hi => rfl); (case hgd => rfl); (case h1 => rfl); (case h2 => rfl); all_goals (intro h; (try simp only [reduceCtorEq, zzz] at h))))
    all_goals (first | (apply dpa 5; (case hi => rfl); (case hg => rfl); (case hn => rfl); (case hq => kernel_rfl)) | (apply dtg 5; (case hi => rfl); (case hg => rfl); (case hop => (apply prd; apply p_indexAddrS; (case hx => rfl); (case hi => rfl); (case h0 => omega); (case h => omega); (case hA => (apply_assumption; omega)))); (case hq => kernel_rfl)) | fail)
    all_goals (try (apply d_guardB 6; (case hi => rfl); (case hgd => rfl); (case h1 => rfl); (case h2 => rfl); all_goals (intro h; (try simp only [reduceCtorEq, zzz] at h))))
    all_goals (first | (apply dpa 6; (case hi => rfl); (case hg => rfl); (case hn => rfl); (case hq => kernel_rfl)) | (apply dtg 6; (case hi => rfl); (case hg => rfl); (case hop => (apply prd; apply p_fieldAddr <;> rfl)); (case hq => kernel_rfl)) | fail)
    all_goals (try (apply d_guardB 7; (case hi => rfl); (case hgd => rfl); (case h1 => rfl); (case h2 => rfl); all_goals (intro h; (try simp only [reduceCtorEq, zzz] at h))))
    all_goals (first | (apply dpa 7; (case hi => rfl); (case hg => rfl); (case hn => rfl); (case hq => kernel_rfl)) | (apply dtg 7; (case hi => rfl); (case hg => rfl); (case hop => ((apply r_load1; rfl; exact Cell.frozen (esCell hcp _ (by omega))))); (case hq => kernel_rfl)) | fail)
    all_goals (try (apply d_guardB 8; (case hi => rfl); (case hgd => rfl); (case h1 => rfl); (case h2 => rfl); all_goals (intro h; (try simp only [reduceCtorEq, zzz] at h))))
    all_goals (first | (apply dpa 8; (case hi => rfl); (case hg => rfl); (case hn => rfl); (case hq => kernel_rfl)) | (apply dtg 8; (case hi => rfl); (case hg => rfl); (case hop => (apply prd; apply p_move <;> rfl)); (case hq => kernel_rfl)) | fail)
    all_goals (try (apply d_guardB 9; (case hi => rfl); (case hgd => rfl); (case h1 => rfl); (case h2 => rfl); all_goals (intro h; (try simp only [reduceCtorEq, zzz] at h))))
    all_goals (first | (apply dpa 9; (case hi => rfl); (case hg => rfl); (case hn => rfl); (case hq => kernel_rfl)) | (apply dtg 9; (case hi => rfl); (case hg => rfl); (case hop => (apply prd; apply p_move <;> rfl)); (case hq => kernel_rfl)) | fail)
    all_goals (try (apply d_guardB 10; (case hi => rfl); (case hgd => rfl); (case h1 => rfl); (case h2 => rfl); all_goals (intro h; (try simp only [reduceCtorEq, zzz] at h))))
    all_goals (first | (apply dpa 10; (case hi => rfl); (case hg => rfl); (case hn => rfl); (case hq => kernel_rfl)) | (apply dtg 10; (case hi => rfl); (case hg => rfl); (case hop => (apply prd; apply p_sub; (case hx => rfl); (case hy => rfl); (case h => omega))); (case hq => kernel_rfl)) | fail)
    all_goals (try (apply d_guardB 11; (case hi => rfl); (case hgd => rfl); (case h1 => rfl); (case h2 => rfl); all_goals (intro h; (try simp only [reduceCtorEq, zzz] at h))))
    all_goals (first | (apply dpa 11; (case hi => rfl); (case hg => rfl); (case hn => rfl); (case hq => kernel_rfl)) | (apply dtg 11; (case hi => rfl); (case hg => rfl); (case hop => (apply prd; apply p_indexAddrS; (case hx => rfl); (case hi => rfl); (case h0 => omega); (case h => omega); (case hA => (apply_assumption; omega)))); (case hq => kernel_rfl)) | fail)
    all_goals (try (apply d_guardB 12; (case hi => rfl); (case hgd => rfl); (case h1 => rfl); (case h2 => rfl); all_goals (intro h; (try simp only [reduceCtorEq, zzz] at h))))
    all_goals (first | (apply dpa 12; (case hi => rfl); (case hg => rfl); (case hn => rfl); (case hq => kernel_rfl)) | (apply dtg 12; (case hi => rfl); (case hg => rfl); (case hop => (apply prd; apply p_fieldAddr <;> rfl)); (case hq => kernel_rfl)) | fail)
    all_goals (try (apply d_guardB 13; (case hi => rfl); (case hgd => rfl); (case h1 => rfl); (case h2 => rfl); all_goals (intro h; (try simp only [reduceCtorEq, zzz] at h))))
    all_goals (first | (apply dpa 13; (case hi => rfl); (case hg => rfl); (case hn => rfl); (case hq => kernel_rfl)) | (apply dtg 13; (case hi => rfl); (case hg => rfl); (case hop => ((apply r_load1; rfl; exact Cell.frozen (esCell hcp _ (by omega))))); (case hq => kernel_rfl)) | fail)
    all_goals (try (apply d_guardB 14; (case hi => rfl); (case hgd => rfl); (case h1 => rfl); (case h2 => rfl); all_goals (intro h; (try simp only [reduceCtorEq, zzz] at h))))
    all_goals (first | (apply dpa 14; (case hi => rfl); (case hg => rfl); (case hn => rfl); (case hq => kernel_rfl)) | (apply dtg 14; (case hi => rfl); (case hg => rfl); (case hop => (apply prd; apply p_le <;> rfl)); (case hq => kernel_rfl)) | fail)
    all_goals (apply dtk 15; (case hi => rfl); (case hop => first | (apply prd; apply p_pickT <;> rfl) | (apply prd; apply p_pickF <;> rfl) | fail); (case hq => kernel_rfl))
    all_goals (apply d_done; (case hr => kernel_rfl))
    repeat' (first | apply v_seq | apply v_region | apply v_nil | apply v_skip | apply v_blk | (apply v_pure; (case hop => first | (apply p_move <;> rfl) | (apply p_assign <;> rfl) | (apply p_add; (case hx => rfl); (case hy => rfl); (case h => omega)) | fail); (case hd => rfl)) | (apply v_condF; (case hc => rfl)) | (apply v_cond; (case hc => rfl); all_goals (intro h; (try simp only [reduceCtorEq, zzz] at h))) | fail)
    all_goals try
      (refine v_ret [] (outsA1 rfl rfl) (by repeat (exact List.Sublist.refl _)) ?_
       refine ⟨?_, rfl⟩
       rw [hno, chkK_low hlt q0 (by omega) (by simp only [e1, e2] at *; omega)])
    all_goals
      (refine v_again rfl ⟨rfl, rfl, k + 1, by omega, rfl, ?_⟩ (by simp [headI]; omega)
       rw [hno]
       exact chkK_next hlt q0 (fun h0 => by simp only [e1, e2] at *; omega))
  · refine v_ret [] (outsA1 rfl rfl) (by repeat (exact List.Sublist.refl _)) ?_
    refine ⟨?_, rfl⟩
    rw [hno, chkK_end (by omega)]
theorem p_convUW {σ : Env} {ty : TypeId} {x : Operand} {k'' : IntKind} {a : Int} {t u : TypeId} [Ty Tryz.prog t (.int k'')] [Ty Tryz.prog u (.int .u64)] (hx : Env.ev σ x = some (.int .i64 (IntKind.i64.wrap a))) (h : 0 ≤ a ∧ a ≤ 18446744073709551615) : PureOp Tryz.prog (.convert t u x) ty σ (.int .u64 a) := by
  have e : IntKind.u64.wrap (IntKind.i64.wrap a) = a := by rw [IntKind.wrap_u64, IntKind.wrap_i64]; omega
  have := p_conv (P := Tryz.prog) (ty := ty) (t := t) (u := u) hx
  rwa [e] at this
attribute [local semireducible] PureOp in
theorem p_shr1 {σ : Env} {ty : TypeId} {x y : Operand} {k' : IntKind} {a : Int} {t t' : TypeId} (hx : Env.ev σ x = some (.int .u64 a)) (hy : Env.ev σ y = some (.int k' 1)) : PureOp Tryz.prog (.binOp .shr t x y t') ty σ (.int .u64 (a / 2)) := by
  intro dst pos af g ρ hρ w
  have := shift_shr .u64 k' a 1 (by decide) (by decide)
  simp [execOp, hρ _ _ hx, hρ _ _ hy, eqGuard, binOp_shr, this]
theorem isNaN_s (G : GH) (a : Int) : Con Tryz.prog 166 #[.int .i64 a] G [] (Just (.bool false) G) := by
  apply Con.just
  (refine v_enter Tryz.func166 rfl Tryz.ntmps166 rfl ?_; intro B _)
  repeat' (first | apply v_seq | apply v_region | apply v_nil | (apply v_pure; (case hop => first | (apply p_move <;> rfl) | (apply p_nes <;> rfl) | (apply p_assign <;> rfl) | fail); (case hd => rfl)) | fail)
  refine v_ret [] (outsA1 rfl rfl) (by repeat (exact List.Sublist.refl _)) ?_
  refine ⟨?_, rfl⟩
  simp [dec_eq]
def cmpI (a b : Int) : Int := if a < b then -1 else if b < a then 1 else 0
theorem cmp_s (G : GH) (a b : Int) : Con Tryz.prog 127 #[.int .i64 a, .int .i64 b] G [] (Just (.int .i64 (cmpI a b)) G) := by
  have qa := isNaN_s G a
  have qb := isNaN_s G b
  apply Con.just
  (refine v_enter Tryz.func127 rfl Tryz.ntmps127 rfl ?_; intro B _)
  repeat' (first | apply v_seq | apply v_region | apply v_nil | apply v_skip | (apply v_pure; (case hop => first | (apply p_move <;> rfl) | (apply p_lt <;> rfl) | (apply p_gt <;> rfl) | (apply p_assign <;> rfl)); (case hd => rfl)) | (apply v_condF; (case hc => rfl)) | (apply v_cond; (case hc => rfl); all_goals (intro h; (try simp only [reduceCtorEq, zzz] at h))) | (apply v_callJ (hs := qa); (case ha => rfl); (case hd => rfl)) | (apply v_callJ (hs := qb); (case ha => rfl); (case hd => rfl)) | fail)
  all_goals
    (refine v_ret [] (outsA1 rfl rfl) (by repeat (exact List.Sublist.refl _)) ?_
     refine ⟨?_, rfl⟩
     simp [cmpI, *])
theorem cmpI_lt {a b : Int} : cmpI a b < 0 ↔ a < b := by unfold cmpI; split <;> (try split) <;> simp <;> omega
theorem cmpI_eq {a b : Int} : cmpI a b = 0 ↔ a = b := by unfold cmpI; split <;> (try split) <;> simp <;> omega
theorem place1_s (G : GH) (x : Ent) (n : Int) : Con Tryz.prog 224 #[.agg x.cells.toArray, .int .i64 n] G [] (Just (.int .i64 (cmpI x.index n)) G) := by
  have qc := cmp_s G x.index n
  apply Con.just
  (refine v_enter Tryz.func224 rfl Tryz.ntmps224 rfl ?_; intro B _)
  repeat' (first | apply v_seq | apply v_region | apply v_nil | (apply v_pure; (case hop => first | (apply p_move <;> rfl) | (apply p_assign <;> rfl) | (apply p_fieldAddrB <;> rfl) | fail); (case hd => rfl)) | (apply v_box (zs := x.cells); (case hx => rfl); (case hz => rfl); (case hd => rfl); intro b) | (apply v_callJ (hs := qc); (case ha => rfl); (case hd => rfl)) | (apply v_read; (case hop => (apply r_load1; rfl; (apply Cell.own; (case h => (repeat (exact mhd _))); rfl))); (case hd => rfl)) | fail)
  refine v_ret [] (outsA1 rfl rfl) (by repeat (exact List.nil_sublist _)) ?_
  exact ⟨rfl, rfl⟩
def RiseL (l : List Ent) : Prop := ∀ i j (hj : j < l.length) (h : i < j), (l[i]'(by omega)).index < l[j].index
def placeN (l : List Ent) (n : Int) : Nat := l.countP fun x => decide (x.index < n)
theorem placeN_eq {l : List Ent} {n : Int} {i : Nat} (hi : i ≤ l.length) (h1 : ∀ m (h : m < l.length), m < i → l[m].index < n) (h2 : ∀ m (h : m < l.length), i ≤ m → ¬ l[m].index < n) : placeN l n = i := by
  have e : l = l.take i ++ l.drop i := (List.take_append_drop i l).symm
  rw [placeN, e, List.countP_append, List.countP_eq_length.2, List.countP_eq_zero.2, List.length_take, Nat.add_zero]
  · omega
  · intro x hx
    obtain ⟨m, hm, rfl⟩ := List.getElem_of_mem hx
    rw [List.length_drop] at hm
    rw [List.getElem_drop]
    simpa using h2 (i + m) (by omega) (by omega)
  · intro x hx
    obtain ⟨m, hm, rfl⟩ := List.getElem_of_mem hx
    rw [List.length_take] at hm
    rw [List.getElem_take]
    simpa using h1 m (by omega) (by omega)
noncomputable def hitB (l : List Ent) (n : Int) : Bool := if h : placeN l n < l.length then decide ((l[placeN l n]).index = n) else false
theorem entSearch_s {G : GH} {l : List Ent} {sv : Value} (n : Int) (hs : Es G sv l) (hr : RiseL l) : Con Tryz.prog 223 #[sv, .int .i64 n, .func (.func 224) #[] #[]] G [] (Just (.tuple [.int .i64 (placeN l n : Nat), .bool (hitB l n)].toArray) G) := by
  obtain ⟨A, c, rfl, hlc, hcm, hsome, hcp, hcb, hcc, hok⟩ := esOpen hs
  simp only [maxLen] at hcm
  apply Con.just
  (refine v_enter Tryz.func223 rfl Tryz.ntmps223 rfl ?_; intro B _)
  repeat' (first | apply v_seq | apply v_region | apply v_nil | apply v_block | (apply v_pure; (case hop => first | (apply p_move <;> rfl) | (apply p_assign <;> rfl) | (apply p_lenSlice <;> rfl) | fail); (case hd => rfl)) | fail)
  refine v_loop [9, 10, 8, 0, 1, 2] (fun us G' μ' => G' = G ∧ μ' = [] ∧ ∃ i j : Nat, i ≤ j ∧ j ≤ l.length ∧ us = [Value.int .i64 (i : Nat), .int .i64 (j : Nat), .int .i64 l.length, .slice A l.length c, .int .i64 n, .func (.func 224) #[] #[]] ∧ (∀ m (h : m < l.length), m < i → l[m].index < n) ∧ (∀ m (h : m < l.length), j ≤ m → ¬ l[m].index < n)) (fun us => match us with | .int _ i :: .int _ j :: _ => (j - i).toNat | _ => 0) rfl ⟨rfl, rfl, 0, l.length, by omega, by omega, rfl, by omega, by omega⟩ ?_
  rintro us G' μ' ⟨rfl, rfl, i, j, hij, hj, rfl, h1, h2⟩
  have qp := fun (m : Nat) (h : m < l.length) => place1_s G' l[m] n
  have em : ((((i : Nat) : Int) + ((j : Nat) : Int)) / 2).toNat = (i + j) / 2 := by omega
  repeat' (first | apply v_seq | apply v_region | apply v_nil | apply v_skip | apply v_block | apply v_blk | (apply v_exit; (case hp => rfl)) | (apply v_take; (case hg => rfl)) | (apply v_pass; (case hg => rfl); (case hn => rfl); (case hd => rfl)) | (apply v_pure; (case hop => first | (apply p_move <;> rfl) | (apply p_eq <;> rfl) | (apply p_lt <;> rfl) | (apply p_assign <;> rfl) | (apply p_pickT <;> rfl) | (apply p_pickF <;> rfl) | (apply p_add; (case hx => rfl); (case hy => rfl); (case h => omega)) | (apply p_indexAddrS; (case hx => rfl); (case hi => rfl); (case h0 => omega); (case h => omega); (case hA => (apply_assumption; omega))) | (apply p_conv64; (case hx => rfl); (case h => omega)) | fail); (case hd => rfl)) | (apply v_cond; (case hc => rfl); all_goals (intro h; (try simp only [reduceCtorEq, zzz] at h))) | (apply v_guardB; (case h1 => rfl); (case h2 => rfl); all_goals (intro h; (try simp only [reduceCtorEq, zzz] at h))) | (apply v_pure; (case hop => (apply p_convUW; (case hx => rfl); (case h => omega))); (case hd => rfl)) | (apply v_pure; (case hop => (apply p_addw; (case hx => rfl); (case hy => rfl))); (case hd => rfl)) | (apply v_pure; (case hop => (apply p_shr1; (case hx => rfl); (case hy => rfl))); (case hd => rfl)) | (apply v_read; (case hop => (apply r_loadN; rfl; exact CellsAt.frozen (hcp _ (by omega)); rfl)); (case hd => rfl)) | (apply v_callFJ0 (hs := qp ((((i : Nat) : Int) + ((j : Nat) : Int)) / 2).toNat (by omega)); (case hx => rfl); (case ha => rfl); (case hd => rfl)) | (apply v_callFJ0 (hs := qp i (by omega)); (case hx => rfl); (case ha => rfl); (case hd => rfl)) | fail)
  · have hc : (l[(i + j) / 2]'(by omega)).index < n := by
      have h0 := cmpI_lt.1 ‹cmpI _ _ < 0›
      simpa only [em] using h0
    refine v_again rfl ⟨rfl, rfl, (i + j) / 2 + 1, j, by omega, hj, rfl, fun m hm hlt => ?_, h2⟩ ?_
    · by_cases he : m = (i + j) / 2
      · subst he; exact hc
      · have := hr m ((i + j) / 2) (by omega) (by omega)
        omega
    · simp only; omega
  · have hc : ¬ (l[(i + j) / 2]'(by omega)).index < n := by
      have h0 := mt cmpI_lt.2 ‹¬ cmpI _ _ < 0›
      simpa only [em] using h0
    refine v_again rfl ⟨rfl, rfl, i, (i + j) / 2, by omega, by omega, rfl, h1, fun m hm hlt => ?_⟩ ?_
    · by_cases he : m = (i + j) / 2
      · subst he; exact hc
      · have := hr ((i + j) / 2) m hm (by omega)
        omega
    · simp only; omega
  · have hp : placeN l n = i := placeN_eq (by omega) h1 (fun m h hm => h2 m h (by omega))
    refine v_ret [] (outsA2 rfl rfl rfl) (by repeat (exact List.Sublist.refl _)) ?_
    refine ⟨?_, rfl⟩
    unfold hitB
    simp only [hp]
    rw [dif_pos (by omega)]
    congr 5
    rw [Bool.eq_iff_iff, dec_true, decide_eq_true_iff, cmpI_eq]
  · have hp : placeN l n = i := placeN_eq (by omega) h1 (fun m h hm => h2 m h (by omega))
    refine v_ret [] (outsA2 rfl rfl rfl) (by repeat (exact List.Sublist.refl _)) ?_
    refine ⟨?_, rfl⟩
    unfold hitB
    simp only [hp]
    rw [dif_neg (by omega)]
theorem place_s {G : GH} {l : List Ent} {sv : Value} (n : Int) (hs : Es G sv l) (hr : RiseL l) : Con Tryz.prog 204 #[sv, .int .i64 n] G [] (Just (.tuple [.int .i64 (placeN l n : Nat), .bool (hitB l n)].toArray) G) := by
  have qs := entSearch_s n hs hr
  apply Con.just
  (refine v_enter Tryz.func204 rfl Tryz.ntmps204 rfl ?_; intro B _)
  repeat' (first | apply v_seq | apply v_region | apply v_nil | (apply v_pure; (case hop => first | (apply p_move <;> rfl) | (apply p_assign <;> rfl) | (apply p_extract0 <;> rfl) | (apply p_extract1 <;> rfl) | fail); (case hd => rfl)) | (apply v_callJ (hs := qs); (case ha => rfl); (case hd => rfl)) | fail)
  refine v_ret [] (outsA2 rfl rfl rfl) (by repeat (exact List.Sublist.refl _)) ?_
  exact ⟨rfl, rfl⟩
end Go.Proofs.YtpemabgfmnhhnaaGreatDoor
/-
  entry (layer 12), the fifth part: clones of entries, and slices.Insert.
-/
set_option linter.unusedSimpArgs false
set_option linter.unusedVariables false
namespace Go.Proofs.YtpemabgfmnhhnaaGreatDoor
open Go.Vx Go.ChangeShapes Go.WideShapes Go.ChangeAt Go.RowKit
def esC (l : List Ent) : List Value := (l.map Ent.cells).flatten
theorem cells_length (x : Ent) : x.cells.length = 10 := rfl
theorem esC_cons (x : Ent) (l : List Ent) : esC (x :: l) = x.cells ++ esC l := by simp [esC]
theorem esC_append (a b : List Ent) : esC (a ++ b) = esC a ++ esC b := by simp [esC]
theorem esC_length (l : List Ent) : (esC l).length = l.length * 10 := by
  induction l with
  | nil => rfl
  | cons x l ih => rw [esC_cons, List.length_append, ih, cells_length, List.length_cons]; omega
theorem esC_take (l : List Ent) (i : Nat) : (esC l).take (i * 10) = esC (l.take i) := by
  by_cases h : i ≤ l.length
  · conv => lhs; rw [← List.take_append_drop i l, esC_append]
    rw [List.take_append_of_le_length (by rw [esC_length, List.length_take]; omega), List.take_of_length_le (by rw [esC_length, List.length_take]; omega)]
  · rw [List.take_of_length_le (by rw [esC_length]; omega), List.take_of_length_le (by omega)]
theorem esC_drop (l : List Ent) (i : Nat) : (esC l).drop (i * 10) = esC (l.drop i) := by
  by_cases h : i ≤ l.length
  · conv => lhs; rw [← List.take_append_drop i l, esC_append]
    rw [List.drop_append, List.drop_of_length_le (by rw [esC_length, List.length_take]; omega), esC_length, List.length_take, show i * 10 - min i l.length * 10 = 0 by omega]
    simp
  · rw [List.drop_of_length_le (by rw [esC_length]; omega), List.drop_of_length_le (by omega)]; rfl
theorem esC_get (l : List Ent) (i j : Nat) (hi : i < l.length) (hj : j < 10) : (esC l)[i * 10 + j]? = l[i].cells[j]? := by
  have h := congrArg (·[j]?) (esC_drop l i)
  simp only [List.getElem?_drop] at h
  rw [h, List.drop_eq_getElem_cons hi, esC_cons, List.getElem?_append_left (by rw [cells_length]; omega)]
theorem esC_one (l : List Ent) : (esC l).all Value.oneCell' = true := by
  induction l with
  | nil => rfl
  | cons x l ih => rw [esC_cons, List.all_append, ih, Bool.and_true]; rfl
theorem esC_src {G : GH} {μ : OH} {A : Option Addr} {c : Nat} {l : List Ent} (hsome : 0 < l.length → A.isSome = true) (hcp : ∀ i (h : i < l.length), CellsG G ((adr A).add (i * 10)) l[i].cells) : Go.Vx.Src G μ (.slice A l.length c) l.length 10 (esC l) := by
  refine ⟨esC_length l, A, c, rfl, fun h => ?_⟩
  obtain ⟨a, rfl⟩ := Option.isSome_iff_exists.1 (hsome h)
  refine ⟨a, rfl, CellsAt.frozen fun p v hv => ?_⟩
  have hp : p < l.length * 10 := by rw [← esC_length]; exact (List.getElem?_eq_some_iff.1 hv).1
  have e : p = p / 10 * 10 + p % 10 := by omega
  rw [e, ← adr_add]
  rw [e, esC_get l (p / 10) (p % 10) (by omega) (by omega)] at hv
  exact hcp (p / 10) (by omega) _ _ hv
theorem es_of_grow {v : Value} {l : List Ent} {ν : OH} (h : Grow 97 10 v l.length (esC l) ν) {G' : GH} (hG : ∀ b o, (b, o) ∈ ν → G' b = some o) (hok : ∀ x ∈ l, x.ok) : Es G' v l := by
  refine h.sl hG (by simp) fun i x cs hx hc => ?_
  rw [List.getElem?_map, hx] at hc
  simp only [Option.map_some, Option.some.injEq] at hc
  subst hc
  exact ⟨rfl, rfl, hok x (List.mem_of_getElem? hx)⟩
abbrev zE : Value := .agg #[.int .i64 0, .int .i64 0, .int .i64 0, .int .i64 0, .int .i64 0, .int .i64 0, .string ByteArray.empty, .string ByteArray.empty, .string ByteArray.empty, .int .i64 0]
theorem entClone_s {G : GH} {l : List Ent} {sv : Value} (hs : Es G sv l) (hn : l.length ≤ 200) : Con Tryz.prog 114 #[sv] G [] (fun r G' μ' => G' = G ∧ Grow 97 10 r l.length (esC l) μ') := by
  obtain ⟨A, c, rfl, hlc, hcm, hsome, hcp, hcb, hcc, hok⟩ := esOpen hs
  simp only [maxLen] at hcm
  (refine v_enter Tryz.func114 rfl Tryz.ntmps114 rfl ?_; intro B _)
  cases A with
  | none =>
    have h0 : l.length = 0 := by
      by_cases h : 0 < l.length
      · cases hsome h
      · omega
    have h1 : l = [] := List.eq_nil_of_length_eq_zero h0
    subst h1
    repeat' (first | apply v_seq | apply v_region | apply v_nil | (apply v_pure; (case hop => first | (apply p_move <;> rfl) | (apply p_assign <;> rfl) | (apply p_eqNilSlice <;> rfl)); (case hd => rfl)) | (apply v_condT; (case hc => rfl)) | fail)
    refine v_ret [] (outsA1 rfl rfl) (by repeat (exact List.Sublist.refl _)) ?_
    exact ⟨rfl, Grow.nil _ _⟩
  | some a =>
    have hsrc := fun μ => esC_src (μ := μ) (c := c) hsome hcp
    repeat' (first | apply v_seq | apply v_region | apply v_nil | apply v_skip | (apply v_pure; (case hop => first | (apply p_move <;> rfl) | (apply p_assign <;> rfl) | (apply p_eqNilSlice <;> rfl)); (case hd => rfl)) | (apply v_condF; (case hc => rfl)) | (apply v_buildSlice; (case hz => rfl); (case hi => rfl); (case hv => (simp only [List.map_cons, List.map_nil]; repeat (with_reducible exact evs_nil))); (case hp => (with_reducible exact pk_nil)); (case hb => rfl); (case hd => rfl); intro b) | fail)
    refine v_append (e := 97) (agg := true) (sz := 10) (bytes := 104) (zero := zE) rfl (by omega) rfl rfl Grow.empty (List.Perm.refl _) (hsrc _) (esC_one l) (by omega) (by simp only [maxLen]; omega) rfl fun v' ν' hg => ?_
    repeat' (first | apply v_nil | (apply v_pure; (case hop => (apply p_assign <;> rfl)); (case hd => rfl)) | fail)
    refine v_ret _ (outsA1 rfl rfl) (by repeat (exact List.Sublist.refl _)) ?_
    refine ⟨rfl, ?_⟩
    simpa using hg
theorem p_sliceB {σ : Env} {ty t e : TypeId} {agg : Bool} {sz bytes : Nat} {zero : Value} {x lo : Operand} {b o n c : Nat} {k : IntKind} {z : Int} [Ty Tryz.prog t (.slice e)] [Lay Tryz.prog e agg sz bytes zero] (m : Nat) (hx : Env.ev σ x = some (.slice (some ⟨b, o, none⟩) n c)) (hl : Env.ev σ lo = some (.int k z)) (hz : z = (m : Nat)) (h1 : m ≤ n) (h2 : n ≤ c) (h3 : m < c) :
    PureOp Tryz.prog (.slice t x (some lo) none none) ty σ (.slice (some ⟨b, o + m * sz, none⟩) (n - m) (c - m)) := by
  subst hz
  have h := p_sliceL (P := Tryz.prog) (ty := ty) (t := t) (e := e) (agg := agg) (sz := sz) (bytes := bytes) (zero := zero) hx hl (by omega) (by omega) h2
  simp only [Int.toNat_natCast] at h
  rw [if_neg (by omega), Option.map_some, add_mk] at h
  exact h
theorem p_sliceHB {σ : Env} {ty t e : TypeId} {agg : Bool} {sz bytes : Nat} {zero : Value} {x hi : Operand} {A : Option Addr} {n c : Nat} {k : IntKind} {z : Int} [Ty Tryz.prog t (.slice e)] [Lay Tryz.prog e agg sz bytes zero] (m : Nat) (hx : Env.ev σ x = some (.slice A n c)) (hl : Env.ev σ hi = some (.int k z)) (hz : z = (m : Nat)) (h1 : m ≤ c) :
    PureOp Tryz.prog (.slice t x none (some hi) none) ty σ (.slice A m c) := by
  subst hz
  exact p_sliceH (P := Tryz.prog) (ty := ty) (t := t) (e := e) (agg := agg) (sz := sz) (bytes := bytes) (zero := zero) hx hl (by omega) (by omega)
instance : Overl Tryz.prog 225 97 4 := ⟨_, Tryz.underlying25, fun args w => run_callFunc_extern Tryz.func225 (by kernel_rfl) (by kernel_rfl) (by kernel_rfl) (e := Extern.SlicesOverlaps.overlaps #[25, 25] #[4]) (by kernel_rfl) args w⟩
theorem zeros_length (q : Nat) : (Builtin.zeroCells zE.cells q).toList.length = q * 10 := by rw [Array.length_toList, size_zeroCells]; rfl
theorem ins_row (p z sp a t : List Value) (hz : z.length = a.length + t.length) (h : t.length = z.length - a.length) : over (over (p ++ z ++ sp) p.length a) (p.length + a.length) t = p ++ a ++ t ++ sp := by
  have e1 : over (p ++ z ++ sp) p.length a = p ++ a ++ z.drop a.length ++ sp := by
    unfold over
    rw [List.append_assoc p z sp, List.take_left, ← List.drop_drop, List.drop_left, List.drop_append_of_le_length (by omega)]
    simp
  rw [e1]
  unfold over
  rw [show p.length + a.length = (p ++ a).length by simp, List.append_assoc (p ++ a), List.take_left, ← List.drop_drop, List.drop_left, List.drop_append_of_le_length (by rw [List.length_drop]; omega), List.drop_of_length_le (l := List.drop a.length z) (by rw [List.length_drop]; omega)]
  simp
theorem ins_shift (p t sp a : List Value) (h : a.length ≤ sp.length) : over (over (p ++ t ++ sp) (p.length + a.length) t) p.length a = p ++ a ++ t ++ sp.drop a.length := by
  have e1 : over (p ++ t ++ sp) (p.length + a.length) t = (p ++ (t ++ sp).take a.length) ++ (t ++ sp.drop a.length) := by
    unfold over
    rw [List.append_assoc p t sp, List.take_append, List.take_of_length_le (by omega), show p.length + a.length - p.length = a.length by omega, show p.length + a.length + t.length = p.length + (t.length + a.length) by omega, ← List.drop_drop, List.drop_left, ← List.drop_drop, List.drop_left]
    simp
  have e2 : ((t ++ sp).take a.length).length = a.length := by rw [List.length_take, List.length_append]; omega
  rw [e1]
  unfold over
  rw [List.append_assoc p, List.take_left, show p.length + a.length = (p ++ (t ++ sp).take a.length).length by rw [List.length_append, e2], ← List.append_assoc p, List.drop_left]
  simp
theorem entInsert_s {G : GH} {l : List Ent} {v : Value} {ν : OH} (x : Ent) (b2 i : Nat) (hg : Grow 97 10 v l.length (esC l) ν) (hi : i ≤ l.length) (hn : l.length ≤ 200) :
    Con Tryz.prog 205 #[v, .int .i64 i, .slice (some ⟨b2, 0, none⟩) 1 1] G (ν ++ [(b2, .cells x.cells.toArray 97 (0, 0))]) (fun r G' μ' => G' = G ∧ Grow 97 10 r (l.length + 1) (esC (l.take i ++ x :: l.drop i)) μ') := by
  by_cases hin : i = l.length
  · subst hin
    obtain ⟨A, c, rfl, hc1, hc2⟩ := hg.shape
    simp only [maxLen] at hc2
    (refine v_enter Tryz.func205 rfl Tryz.ntmps205 rfl ?_; intro B _)
    repeat' (first | apply v_seq | apply v_region | apply v_nil | apply v_skip | (apply v_pure; (case hop => first | (apply p_move <;> rfl) | (apply p_eqs <;> rfl) | (apply p_eq <;> rfl) | (apply p_assign <;> rfl) | (apply p_lenSlice <;> rfl) | (apply p_sliceL; (case hx => rfl); (case hl => rfl); all_goals omega) | fail); (case hd => rfl)) | (apply v_condT; (case hc => rfl)) | (apply v_cond; (case hc => rfl); all_goals (intro h; (try simp only [reduceCtorEq, zzz] at h); first | (exfalso; omega) | skip)) | fail)
    refine v_append (e := 97) (agg := true) (sz := 10) (bytes := 104) (zero := zE) rfl (by omega) rfl rfl hg (List.Perm.refl _) (m' := 1) (us := x.cells) (Src.own (e := 97) (by simp [Has]) rfl) rfl (by omega) (by simp only [maxLen]; omega) rfl fun v' ν' hg' => ?_
    repeat' (first | apply v_nil | (apply v_pure; (case hop => (apply p_assign <;> rfl)); (case hd => rfl)) | fail)
    refine v_ret ν' (outsA1 rfl rfl) (by repeat (exact List.sublist_append_left _ _)) ?_
    refine ⟨rfl, ?_⟩
    rw [List.take_length, List.drop_length, esC_append, esC_cons]
    simpa [esC] using hg'
  · have hlt : i < l.length := by omega
    obtain ⟨hxl, ⟨rfl, h0, rfl⟩ | ⟨b, cap, spare, rfl, rfl, hc1, hc2, hc3⟩⟩ := hg
    · omega
    simp only [maxLen] at hc2
    simp only [List.singleton_append]
    rw [List.length_append, esC_length] at hc3
    by_cases hroom : cap < l.length + 1
    · (refine v_enter Tryz.func205 rfl Tryz.ntmps205 rfl ?_; intro B _)
      repeat' (first | (apply v_pure; (case hop => (apply p_sliceB i; (case hx => rfl); (case hl => rfl); (case hz => omega); (case h1 => omega); (case h2 => omega); (case h3 => omega))); (case hd => rfl)) | (apply v_pure; (case hop => (apply p_sliceHB i; (case hx => rfl); (case hl => rfl); (case hz => omega); (case h1 => omega))); (case hd => rfl)) | apply v_seq | apply v_region | apply v_nil | apply v_skip | (apply v_pure; (case hop => first | (apply p_move <;> rfl) | (apply p_eq <;> rfl) | (apply p_gt <;> rfl) | (apply p_assign <;> rfl) | (apply p_lenSlice <;> rfl) | (apply p_add; (case hx => rfl); (case hy => rfl); (case h => omega)) | (apply p_sub; (case hx => rfl); (case hy => rfl); (case h => omega)) | (apply p_capSlice <;> rfl) | fail); (case hd => rfl)) | (apply v_cond; (case hc => rfl); all_goals (intro h; (try simp only [reduceCtorEq, zzz] at h); first | (exfalso; omega) | skip)) | fail)
      refine v_appendZ (e := 97) (agg := true) (sz := 10) (bytes := 104) (zero := zE) (q := l.length + 1 - i) (xs := esC (l.take i)) rfl (by omega) rfl rfl (by omega) ?_ (by omega) (by omega) (by omega) (by simp only [maxLen]; omega) rfl fun b3 c3 sp3 hd1 hd2 hd3 => ?_
      · refine Src.ownAt (vs := esC l ++ spare) (e := 97) (by simp [Has]) ?_ (by rw [esC_length, List.length_take]; omega)
        rw [List.drop_zero, List.take_append_of_le_length (by omega), esC_take]
      simp only [maxLen] at hd2
      have zl := zeros_length (l.length + 1 - i)
      have tl : (esC (l.take i)).length = i * 10 := by rw [esC_length, List.length_take]; omega
      repeat' (first | (apply v_pure; (case hop => (apply p_sliceB i; (case hx => rfl); (case hl => rfl); (case hz => omega); (case h1 => omega); (case h2 => omega); (case h3 => omega))); (case hd => rfl)) | apply v_seq | apply v_region | apply v_nil | (apply v_pure; (case hop => first | (apply p_move <;> rfl) | (apply p_assign <;> rfl) | fail); (case hd => rfl)) | fail)
      refine v_copy (e := 97) (agg := true) (sz := 10) (bytes := 104) (zero := zE) (q := 1) rfl rfl (show min 1 _ = 1 by omega) (by omega) (us := x.cells) (Src.own (e := 97) (by simp [Has]) rfl) (by (repeat (exact mhd _))) rfl (by simp only [List.length_append, zl, tl]; omega) rfl (by (repeat (exact Upd.here _ _))) rfl ?_
      repeat' (first | apply v_seq | apply v_nil)
      have hus : ((esC l ++ spare).drop (0 + i * 10)).take ((l.length - i) * 10) = esC (l.drop i) := by
        rw [Nat.zero_add, List.drop_append_of_le_length (by omega), esC_drop, List.take_append_of_le_length (by rw [esC_length, List.length_drop]; omega), List.take_of_length_le (by rw [esC_length, List.length_drop]; omega)]
      have dl : (esC (l.drop i)).length = (l.length - i) * 10 := by rw [esC_length, List.length_drop]
      refine d_start [] (by kernel_rfl) (by kernel_rfl) (by kernel_rfl) (by intro e he; (simp at he ⊢; try omega)) ?_
      all_goals (apply dtk 0; (case hi => rfl); (case hop => (apply prd; apply p_move <;> rfl)); (case hq => kernel_rfl))
      all_goals (apply dtk 1; (case hi => rfl); (case hop => (apply prd; apply p_move <;> rfl)); (case hq => kernel_rfl))
      all_goals (apply dtk 2; (case hi => rfl); (case hop => (apply prd; apply p_move <;> rfl)); (case hq => kernel_rfl))
      all_goals (apply dtk 3; (case hi => rfl); (case hop => (apply prd; apply p_add; (case hx => rfl); (case hy => rfl); (case h => omega))); (case hq => kernel_rfl))
      all_goals (apply dtk 4; (case hi => rfl); (case hop => ((apply prd; apply p_sliceB (i + 1); (case hx => rfl); (case hl => rfl); (case hz => omega); (case h1 => omega); (case h2 => omega); (case h3 => omega)))); (case hq => kernel_rfl))
      all_goals (apply dtk 5; (case hi => rfl); (case hop => (apply prd; apply p_move <;> rfl)); (case hq => kernel_rfl))
      all_goals (apply dtk 6; (case hi => rfl); (case hop => (apply prd; apply p_move <;> rfl)); (case hq => kernel_rfl))
      all_goals (apply dtk 7; (case hi => rfl); (case hop => ((apply prd; apply p_sliceB i; (case hx => rfl); (case hl => rfl); (case hz => omega); (case h1 => omega); (case h2 => omega); (case h3 => omega)))); (case hq => kernel_rfl))
      all_goals ((apply d_copy 8 (e := 97) (agg := true) (sz := 10) (bytes := 104) (zero := zE) (m' := l.length - i) (q := l.length - i) (us := esC (l.drop i)); (case hi => rfl); (case hr => kernel_rfl);  (case hT => infer_instance); (case hL => infer_instance); (case hy => rfl); (case hx => rfl); (case hq => (show min _ _ = _); omega); (case hm => omega); (case hsrc => exact Src.ownAt (vs := esC l ++ spare) (e := 97) (by (repeat (first | exact mhd _ | apply mtl))) hus dl); (case hb => (repeat (exact mhd _))); (case h1 => rw [List.take_of_length_le (by omega)]; exact esC_one _); (case hfit => simp only [over, List.length_append, List.length_take, List.length_drop, zl, tl, cells_length]; omega); (case hov => rfl); (case hu => (repeat (exact Upd.here _ _))); (case hd => rfl); (case hν' => intro e he; cases he)))
      all_goals (apply d_done; (case hr => kernel_rfl))
      repeat' (first | apply v_seq | apply v_region | apply v_nil | (apply v_pure; (case hop => first | (apply p_move <;> rfl) | (apply p_assign <;> rfl) | fail); (case hd => rfl)) | fail)
      refine v_ret [(b3, _)] (outsA1 rfl rfl) (by repeat (first | exact List.nil_sublist _ | apply List.Sublist.cons_cons)) ?_
      refine ⟨rfl, ?_⟩
      have el : (esC (l.take i ++ x :: l.drop i)) = esC (l.take i) ++ x.cells ++ esC (l.drop i) := by rw [esC_append, esC_cons, List.append_assoc]
      have e := ins_row (esC (l.take i)) (Builtin.zeroCells zE.cells (l.length + 1 - i)).toList sp3 x.cells (esC (l.drop i)) (by rw [zl, dl, cells_length]; omega) (by rw [zl, dl, cells_length]; omega)
      rw [tl, cells_length] at e
      rw [show 0 + (i + 1) * 10 = i * 10 + 10 by omega, show 0 + i * 10 = i * 10 by omega, List.take_of_length_le (l := esC (l.drop i)) (by omega), show x.cells.take (1 * 10) = x.cells from rfl, e, show i + (l.length + 1 - i) = l.length + 1 by omega]
      refine ⟨by rw [el, List.length_append, List.length_append, tl, dl, cells_length]; omega, .inr ⟨b3, c3, sp3, rfl, by rw [el], by omega, by simp only [maxLen]; omega, ?_⟩⟩
      simp only [List.length_append, zl, tl] at hd3
      rw [el]
      simp only [List.length_append, tl, dl, cells_length]
      omega
    · (refine v_enter Tryz.func205 rfl Tryz.ntmps205 rfl ?_; intro B _)
      repeat' (first | (apply v_pure; (case hop => (apply p_sliceB i; (case hx => rfl); (case hl => rfl); (case hz => omega); (case h1 => omega); (case h2 => omega); (case h3 => omega))); (case hd => rfl)) | (apply v_pure; (case hop => (apply p_sliceB (i + 1); (case hx => rfl); (case hl => rfl); (case hz => omega); (case h1 => omega); (case h2 => omega); (case h3 => omega))); (case hd => rfl)) | (apply v_pure; (case hop => (apply p_sliceHB (l.length + 1); (case hx => rfl); (case hl => rfl); (case hz => omega); (case h1 => omega))); (case hd => rfl)) | apply v_seq | apply v_region | apply v_nil | apply v_skip | (apply v_pure; (case hop => first | (apply p_move <;> rfl) | (apply p_eq <;> rfl) | (apply p_gt <;> rfl) | (apply p_assign <;> rfl) | (apply p_lenSlice <;> rfl) | (apply p_add; (case hx => rfl); (case hy => rfl); (case h => omega)) | (apply p_capSlice <;> rfl) | fail); (case hd => rfl)) | (apply v_cond; (case hc => rfl); all_goals (intro h; (try simp only [reduceCtorEq, zzz] at h); first | (exfalso; omega) | skip)) | fail)
      refine v_ne (b' := b2) (by simp) fun hne => ?_
      refine v_apart (e := 97) (agg := true) (sz := 10) (bytes := 104) (zero := zE) rfl rfl (by (repeat (first | exact mhd _ | apply mtl))) (by (repeat (exact mhd _))) hne (fun h => by have := congrArg List.length h; rw [List.length_append, esC_length, List.length_nil] at this; omega) rfl ?_
      repeat' (first | apply v_seq | apply v_nil | (apply v_pure; (case hop => (apply p_not <;> rfl)); (case hd => rfl)) | (apply v_condT; (case hc => rfl)) | fail)
      have tl : (esC (l.take i)).length = i * 10 := by rw [esC_length, List.length_take]; omega
      have dl : (esC (l.drop i)).length = (l.length - i) * 10 := by rw [esC_length, List.length_drop]
      have hus : (((esC l ++ spare).drop (0 + i * 10)).take ((l.length + 1 - i) * 10)).take ((l.length - i) * 10) = esC (l.drop i) := by
        rw [List.take_take, Nat.zero_add, Nat.min_eq_left (by omega), List.drop_append_of_le_length (by omega), esC_drop, List.take_append_of_le_length (by omega), List.take_of_length_le (by omega)]
      refine d_start [] (by kernel_rfl) (by kernel_rfl) (by kernel_rfl) (by intro e he; (simp at he ⊢; try omega)) ?_
      all_goals (apply dtk 0; (case hi => rfl); (case hop => (apply prd; apply p_move <;> rfl)); (case hq => kernel_rfl))
      all_goals (apply dtk 1; (case hi => rfl); (case hop => (apply prd; apply p_move <;> rfl)); (case hq => kernel_rfl))
      all_goals (apply dtk 2; (case hi => rfl); (case hop => (apply prd; apply p_move <;> rfl)); (case hq => kernel_rfl))
      all_goals (apply dtk 3; (case hi => rfl); (case hop => (apply prd; apply p_add; (case hx => rfl); (case hy => rfl); (case h => omega))); (case hq => kernel_rfl))
      all_goals (apply dtk 4; (case hi => rfl); (case hop => ((apply prd; apply p_sliceB (i + 1); (case hx => rfl); (case hl => rfl); (case hz => omega); (case h1 => omega); (case h2 => omega); (case h3 => omega)))); (case hq => kernel_rfl))
      all_goals (apply dtk 5; (case hi => rfl); (case hop => (apply prd; apply p_move <;> rfl)); (case hq => kernel_rfl))
      all_goals (apply dtk 6; (case hi => rfl); (case hop => (apply prd; apply p_move <;> rfl)); (case hq => kernel_rfl))
      all_goals (apply dtk 7; (case hi => rfl); (case hop => ((apply prd; apply p_sliceB i; (case hx => rfl); (case hl => rfl); (case hz => omega); (case h1 => omega); (case h2 => omega); (case h3 => omega)))); (case hq => kernel_rfl))
      all_goals ((apply d_copy 8 (e := 97) (agg := true) (sz := 10) (bytes := 104) (zero := zE) (m' := l.length + 1 - i) (q := l.length - i) (us := ((esC l ++ spare).drop (0 + i * 10)).take ((l.length + 1 - i) * 10)); (case hi => rfl); (case hr => kernel_rfl);  (case hT => infer_instance); (case hL => infer_instance); (case hy => rfl); (case hx => rfl); (case hq => (show min _ _ = _); omega); (case hm => omega); (case hsrc => exact Src.ownAt (vs := esC l ++ spare) (e := 97) (by (repeat (exact mhd _))) rfl (by simp only [List.length_take, List.length_drop, List.length_append, esC_length]; omega)); (case hb => (repeat (exact mhd _))); (case h1 => rw [hus]; exact esC_one _); (case hfit => rw [List.length_append, esC_length]; omega); (case hov => rw [hus]); (case hu => (repeat (exact Upd.here _ _))); (case hd => rfl); (case hν' => intro e he; cases he)))
      all_goals (apply d_done; (case hr => kernel_rfl))
      repeat' (first | (apply v_pure; (case hop => (apply p_sliceB i; (case hx => rfl); (case hl => rfl); (case hz => omega); (case h1 => omega); (case h2 => omega); (case h3 => omega))); (case hd => rfl)) | apply v_seq | apply v_region | (apply v_pure; (case hop => (apply p_move <;> rfl)); (case hd => rfl)) | fail)
      refine v_copy (e := 97) (agg := true) (sz := 10) (bytes := 104) (zero := zE) (q := 1) rfl rfl (show min 1 _ = 1 by omega) (by omega) (us := x.cells) (Src.own (e := 97) (by simp [Has]) rfl) (by (repeat (exact mhd _))) rfl (by rw [over_length (by rw [List.length_append, hxl, dl]; omega), List.length_append, hxl]; omega) rfl (by (repeat (exact Upd.here _ _))) rfl ?_
      repeat' (first | apply v_seq | apply v_region | apply v_nil | (apply v_pure; (case hop => first | (apply p_move <;> rfl) | (apply p_assign <;> rfl) | fail); (case hd => rfl)) | fail)
      refine v_ret [(b, _)] (outsA1 rfl rfl) (by repeat (first | exact List.nil_sublist _ | apply List.Sublist.cons_cons)) ?_
      refine ⟨rfl, ?_⟩
      have el : (esC (l.take i ++ x :: l.drop i)) = esC (l.take i) ++ x.cells ++ esC (l.drop i) := by rw [esC_append, esC_cons, List.append_assoc]
      have e := ins_shift (esC (l.take i)) (esC (l.drop i)) spare x.cells (by rw [cells_length]; omega)
      rw [tl, cells_length, ← esC_append, List.take_append_drop] at e
      rw [show 0 + (i + 1) * 10 = i * 10 + 10 by omega, show 0 + i * 10 = i * 10 by omega, show x.cells.take (1 * 10) = x.cells from rfl, e]
      refine ⟨by rw [el, List.length_append, List.length_append, tl, dl, cells_length]; omega, .inr ⟨b, cap, spare.drop 10, rfl, by rw [el], by omega, by simp only [maxLen]; omega, ?_⟩⟩
      rw [el]
      simp only [List.length_append, List.length_drop, tl, dl, cells_length]
      omega
end Go.Proofs.YtpemabgfmnhhnaaGreatDoor
