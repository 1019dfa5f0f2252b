/-
  recone (layer 16), the twelfth part: the bytes of a command, by the reference.
-/
import Derived.Test.YtnoiahlpmgbhfaaDoorM4
import Derived.Lib.LaidU8T
import Derived.MakeChecks
import Derived.Test.YtnoiahlpmgbhfaaDoorRows
import Derived.Test.YtnoiahlpmgbhfaaDoorM2
import Derived.Test.YtnoiahlpmgbhfaaDoorM3
set_option linter.unusedSimpArgs false
set_option linter.unusedVariables false
namespace Go.Proofs.YtnoiahlpmgbhfaaDoor
open Go.Vx Go.ChangeShapes Go.WideShapes Go.ChangeAt Go.RowKit
theorem sbytes_wf (s : ByteArray) : ∀ x ∈ sbytes s, (Lit.int .u8 x).wf = true := by
  intro x hx
  simp only [sbytes, List.mem_map] at hx
  obtain ⟨b, _, rfl⟩ := hx
  have := b.toNat_lt
  exact WalkArith.wf_u8 (by omega)
theorem tbytes_wf (s : ByteArray) (hz : s.size ≤ 100000) : ∀ x ∈ vbytes s.size ++ sbytes s, (Lit.int .u8 x).wf = true := fun x hx => by
  rcases List.mem_append.1 hx with hx | hx
  · exact vbytes_wf (by omega) x hx
  · exact sbytes_wf s x hx
theorem want2 {v k : Int} (hv : v ≠ 1) : wantB v k = fun j => decide (band (cmdFields k).1 (hasOf j) ≠ 0) := by
  funext j
  rw [wantB, if_neg hv]
theorem rcmdV_s (G : GH) (v : Int) (c : Cm) (hc : c.ok) (hk : c.key.size ≤ 1000) (hv : c.val.size ≤ 1000) (ho : c.old.size ≤ 1000) : Con Tryd.prog 60 #[.int .i64 v, .agg c.cells.toArray] G [] (fun r G' μ' => GH.le G G' ∧ Grow 5 1 r (vbytes c.kind ++ putW (wantB v c.kind) c 6).length ((vbytes c.kind ++ putW (wantB v c.kind) c 6).map (.int .u8 ·)) μ') := by
  obtain ⟨hk1, hc1, hs1, -, -, -, hn1⟩ := hc
  simp [Lit.wf, IntKind.min, IntKind.max, IntKind.signed, IntKind.bits] at hk1 hc1 hs1 hn1
  have qw := fun G => owned_s G c.kind
  have qm := fun G => member_s G c.kind
  have hL0 := (vbytes_len c.kind).1
  have hL1 := (vbytes_len c.client).1
  have hL2 := (vbytes_len c.seq).1
  have hL3 := (vbytes_len (c.key.size : Nat)).1
  have hL4 := (vbytes_len (c.val.size : Nat)).1
  have hL5 := (vbytes_len c.node).1
  have hL6 := (vbytes_len (c.old.size : Nat)).1
  refine v_enter Tryd.func60 rfl Tryd.ntmps60 rfl (fun B => ?_)
  repeat' (first | apply v_seq | apply v_region | apply v_nil | (apply v_pure; (case hop => first | (apply p_assign <;> rfl) | (apply p_fieldAddrB <;> rfl) | fail); (case hd => rfl)) | (apply v_box (zs := c.cells); (case hx => rfl); (case hz => rfl); (case hd => rfl); intro cb) | (apply v_read; (case hop => first | (apply r_load1; rfl; (apply Cell.own; (case h => (repeat (first | exact List.Mem.head _ | fail))); rfl)) | fail); (case hd => rfl)) | fail)
  refine v_call (μ1 := []) (μ2 := _) rfl (rnum_s G c.kind (by omega)) (List.Perm.refl _) rfl ?_
  rintro v0 G0 ν0 - ⟨rfl, ho0⟩
  obtain hq | hq | hq | hq | hq | hq : v = 1 ∨ (v ≠ 1 ∧ c.kind = 2) ∨ (v ≠ 1 ∧ (c.kind = 3 ∨ c.kind = 4)) ∨ (v ≠ 1 ∧ c.kind = 5) ∨ (v ≠ 1 ∧ (c.kind = 7 ∨ c.kind = 8)) ∨ (v ≠ 1 ∧ (¬ (2 ≤ c.kind ∧ c.kind ≤ 5) ∧ ¬ (c.kind = 7 ∨ c.kind = 8))) := by omega
  · subst hq
    repeat' (first | apply v_seq | apply v_region | apply v_nil | (apply v_pass; (case hg => rfl); (case hn => rfl); (case hd => rfl)) | (apply v_pure; (case hop => first | (apply p_move <;> rfl) | (apply p_eqs <;> rfl) | (apply p_assign <;> rfl) | (apply p_pickT <;> rfl) | (apply p_fieldAddrB <;> rfl) | fail); (case hd => rfl)) | (apply v_condT; (case hc => rfl)) | (apply v_read; (case hop => first | (apply r_load1; rfl; (apply Cell.own; (case h => (repeat (first | exact List.Mem.head _ | apply List.mem_append_right))); rfl)) | fail); (case hd => rfl)) | fail)
    refine v_call (μ1 := []) (μ2 := _) rfl (rnum_s _ c.client (by omega)) (List.Perm.refl _) rfl ?_
    rintro r1 G1 μ1 - ⟨rfl, hg1⟩
    refine v_frz μ1 (by repeat (first | exact PickA.here _ | fail)) ?_
    intro H1 hle1 hG1
    have hs1 : Sl H1 1 (IntR .u8) r1 (vbytes c.client) := hg1.ints hG1 (fun x hx => vbytes_wf (by omega) x hx)
    have hsrc1 := fun μ => Src.ints (μ := μ) hs1
    obtain ⟨A1, c1, rfl, -, -⟩ := hg1.shape
    repeat' (fail)
    refine v_append (e := 5) (sz := 1) (zero := .int .u8 0) rfl (by omega) rfl rfl ho0 (PickA.perm (by repeat (first | exact PickA.here _ | fail))) (hsrc1 _) (allOne_ints _) (by (try simp only [List.length_append, sbytes_length]); omega) (by simp only [maxLen]; (try simp only [List.length_append, sbytes_length]); omega) rfl fun v1 ν1 ho1 => ?_
    rw [← List.map_append, ← List.length_append] at ho1
    repeat' (first | apply v_seq | apply v_region | apply v_nil | (apply v_pure; (case hop => first | (apply p_move <;> rfl) | (apply p_assign <;> rfl) | (apply p_fieldAddrB <;> rfl) | fail); (case hd => rfl)) | (apply v_read; (case hop => first | (apply r_load1; rfl; (apply Cell.own; (case h => (repeat (first | exact List.Mem.head _ | apply List.mem_append_right))); rfl)) | fail); (case hd => rfl)) | fail)
    refine v_call (μ1 := []) (μ2 := _) rfl (rnum_s _ c.seq (by omega)) (List.Perm.refl _) rfl ?_
    rintro r2 G2 μ2 - ⟨rfl, hg2⟩
    refine v_frz μ2 (by repeat (first | exact PickA.here _ | fail)) ?_
    intro H2 hle2 hG2
    have hs2 : Sl H2 1 (IntR .u8) r2 (vbytes c.seq) := hg2.ints hG2 (fun x hx => vbytes_wf (by omega) x hx)
    have hsrc2 := fun μ => Src.ints (μ := μ) hs2
    obtain ⟨A2, c2, rfl, -, -⟩ := hg2.shape
    repeat' (fail)
    refine v_append (e := 5) (sz := 1) (zero := .int .u8 0) rfl (by omega) rfl rfl ho1 (PickA.perm (by repeat (first | exact PickA.here _ | fail))) (hsrc2 _) (allOne_ints _) (by (try simp only [List.length_append, sbytes_length]); omega) (by simp only [maxLen]; (try simp only [List.length_append, sbytes_length]); omega) rfl fun v2 ν2 ho2 => ?_
    rw [← List.map_append, ← List.length_append] at ho2
    repeat' (first | apply v_region | apply v_nil | (apply v_pure; (case hop => first | (apply p_move <;> rfl) | (apply p_assign <;> rfl) | (apply p_fieldAddrB <;> rfl) | fail); (case hd => rfl)) | (apply v_read; (case hop => first | (apply r_load1; rfl; (apply Cell.own; (case h => (repeat (first | exact List.Mem.head _ | apply List.mem_append_right))); rfl)) | fail); (case hd => rfl)) | fail)
    refine v_call (μ1 := []) (μ2 := _) rfl (rtext_s _ c.key (by omega)) (List.Perm.refl _) rfl ?_
    rintro r3 G3 μ3 - ⟨rfl, hg3⟩
    refine v_frz μ3 (by repeat (first | exact PickA.here _ | fail)) ?_
    intro H3 hle3 hG3
    have hs3 : Sl H3 1 (IntR .u8) r3 (vbytes c.key.size ++ sbytes c.key) := hg3.ints hG3 (tbytes_wf c.key (by omega))
    have hsrc3 := fun μ => Src.ints (μ := μ) hs3
    obtain ⟨A3, c3, rfl, -, -⟩ := hg3.shape
    repeat' (fail)
    refine v_append (e := 5) (sz := 1) (zero := .int .u8 0) rfl (by omega) rfl rfl ho2 (PickA.perm (by repeat (first | exact PickA.here _ | fail))) (hsrc3 _) (allOne_ints _) (by (try simp only [List.length_append, sbytes_length]); omega) (by simp only [maxLen]; (try simp only [List.length_append, sbytes_length]); omega) rfl fun v3 ν3 ho3 => ?_
    rw [← List.map_append, ← List.length_append] at ho3
    repeat' (first | apply v_seq | apply v_region | apply v_nil | apply v_skip | (apply v_pass; (case hg => rfl); (case hn => rfl); (case hd => rfl)) | (apply v_pure; (case hop => first | (apply p_move <;> rfl) | (apply p_assign <;> rfl) | (apply p_pickT <;> rfl) | (apply p_pickF <;> rfl) | (apply p_not <;> rfl) | (apply p_fieldAddrB <;> rfl) | fail); (case hd => rfl)) | (apply v_condT; (case hc => rfl)) | (apply v_condF; (case hc => rfl)) | (apply v_read; (case hop => first | (apply r_load1; rfl; (apply Cell.own; (case h => (repeat (first | exact List.Mem.head _ | apply List.mem_append_right))); rfl)) | fail); (case hd => rfl)) | fail)
    refine v_call (μ1 := []) (μ2 := _) rfl (rtext_s _ c.val (by omega)) (List.Perm.refl _) rfl ?_
    rintro r4 G4 μ4 - ⟨rfl, hg4⟩
    refine v_frz μ4 (by repeat (first | exact PickA.here _ | fail)) ?_
    intro H4 hle4 hG4
    have hs4 : Sl H4 1 (IntR .u8) r4 (vbytes c.val.size ++ sbytes c.val) := hg4.ints hG4 (tbytes_wf c.val (by omega))
    have hsrc4 := fun μ => Src.ints (μ := μ) hs4
    obtain ⟨A4, c4, rfl, -, -⟩ := hg4.shape
    repeat' (fail)
    refine v_append (e := 5) (sz := 1) (zero := .int .u8 0) rfl (by omega) rfl rfl ho3 (PickA.perm (by repeat (first | exact PickA.here _ | fail))) (hsrc4 _) (allOne_ints _) (by (try simp only [List.length_append, sbytes_length]); omega) (by simp only [maxLen]; (try simp only [List.length_append, sbytes_length]); omega) rfl fun v4 ν4 ho4 => ?_
    rw [← List.map_append, ← List.length_append] at ho4
    repeat' (first | apply v_seq | apply v_region | apply v_nil | (apply v_pass; (case hg => rfl); (case hn => rfl); (case hd => rfl)) | (apply v_pure; (case hop => first | (apply p_move <;> rfl) | (apply p_assign <;> rfl) | (apply p_pickT <;> rfl) | (apply p_fieldAddrB <;> rfl) | fail); (case hd => rfl)) | (apply v_condT; (case hc => rfl)) | (apply v_read; (case hop => first | (apply r_load1; rfl; (apply Cell.own; (case h => (repeat (first | exact List.Mem.head _ | apply List.mem_append_right))); rfl)) | fail); (case hd => rfl)) | fail)
    refine v_call (μ1 := []) (μ2 := _) rfl (rnum_s _ c.node (by omega)) (List.Perm.refl _) rfl ?_
    rintro r5 G5 μ5 - ⟨rfl, hg5⟩
    refine v_frz μ5 (by repeat (first | exact PickA.here _ | fail)) ?_
    intro H5 hle5 hG5
    have hs5 : Sl H5 1 (IntR .u8) r5 (vbytes c.node) := hg5.ints hG5 (fun x hx => vbytes_wf (by omega) x hx)
    have hsrc5 := fun μ => Src.ints (μ := μ) hs5
    obtain ⟨A5, c5, rfl, -, -⟩ := hg5.shape
    repeat' (fail)
    refine v_append (e := 5) (sz := 1) (zero := .int .u8 0) rfl (by omega) rfl rfl ho4 (PickA.perm (by repeat (first | exact PickA.here _ | fail))) (hsrc5 _) (allOne_ints _) (by (try simp only [List.length_append, sbytes_length]); omega) (by simp only [maxLen]; (try simp only [List.length_append, sbytes_length]); omega) rfl fun v5 ν5 ho5 => ?_
    rw [← List.map_append, ← List.length_append] at ho5
    repeat' (first | apply v_seq | apply v_region | apply v_nil | (apply v_pure; (case hop => first | (apply p_move <;> rfl) | (apply p_assign <;> rfl) | fail); (case hd => rfl)) | fail)
    have el : vbytes c.kind ++ putW (wantB 1 c.kind) c 6 = vbytes c.kind ++ (vbytes c.client) ++ (vbytes c.seq) ++ (vbytes c.key.size ++ sbytes c.key) ++ (vbytes c.val.size ++ sbytes c.val) ++ (vbytes c.node) := by
      simp [putW, wantB, hasOf, pbytes, isNum, Cm.num, Cm.txt]
    rw [el]
    refine v_ret ν5 (outsA1 rfl rfl) (by repeat (first | exact List.sublist_append_left _ _ | fail)) ?_
    refine ⟨fun b o h => hle5 b o (hle4 b o (hle3 b o (hle2 b o (hle1 b o (h))))), ?_⟩
    simpa using ho5
  · have ow : decide (2 ≤ c.kind ∧ c.kind ≤ 5) = true := by rw [decide_eq_true_iff]; omega
    have om : decide (c.kind = 7 ∨ c.kind = 8) = false := by rw [decide_eq_false_iff_not]; omega
    simp only [ow, om] at qw qm
    repeat' (first | apply v_seq | apply v_region | apply v_nil | (apply v_take; (case hg => rfl)) | (apply v_pure; (case hop => first | (apply p_move <;> rfl) | (apply p_eq <;> rfl) | (apply p_assign <;> rfl) | (apply p_pickF <;> rfl) | (apply p_fieldAddrB <;> rfl) | fail); (case hd => rfl)) | (apply v_condT; (case hc => rfl)) | (apply v_guardB; (case h1 => rfl); (case h2 => rfl); all_goals (intro h; (try simp only [reduceCtorEq, dec_true, dec_false, decide_eq_true_eq, decide_eq_false_iff_not, Bool.not_eq_true', Bool.not_eq_false', Option.isNone_iff_eq_none, beq_true, beq_false, beq_iff_eq, beq_eq_false_iff_ne, ne_eq, decide_eq_decide, Bool.not_eq_true, Bool.not_eq_false, Decidable.not_not] at h); first | (exfalso; omega) | skip)) | (apply v_callJ (hs := qw _); (case ha => rfl); (case hd => rfl)) | (apply v_read; (case hop => first | (apply r_load1; rfl; (apply Cell.own; (case h => (repeat (first | exact List.Mem.head _ | apply List.mem_append_right))); rfl)) | fail); (case hd => rfl)) | fail)
    refine v_call (μ1 := []) (μ2 := _) rfl (rnum_s _ c.client (by omega)) (List.Perm.refl _) rfl ?_
    rintro r1 G1 μ1 - ⟨rfl, hg1⟩
    refine v_frz μ1 (by repeat (first | exact PickA.here _ | fail)) ?_
    intro H1 hle1 hG1
    have hs1 : Sl H1 1 (IntR .u8) r1 (vbytes c.client) := hg1.ints hG1 (fun x hx => vbytes_wf (by omega) x hx)
    have hsrc1 := fun μ => Src.ints (μ := μ) hs1
    obtain ⟨A1, c1, rfl, -, -⟩ := hg1.shape
    repeat' (fail)
    refine v_append (e := 5) (sz := 1) (zero := .int .u8 0) rfl (by omega) rfl rfl ho0 (PickA.perm (by repeat (first | exact PickA.here _ | fail))) (hsrc1 _) (allOne_ints _) (by (try simp only [List.length_append, sbytes_length]); omega) (by simp only [maxLen]; (try simp only [List.length_append, sbytes_length]); omega) rfl fun v1 ν1 ho1 => ?_
    rw [← List.map_append, ← List.length_append] at ho1
    repeat' (first | apply v_seq | apply v_region | apply v_nil | (apply v_pure; (case hop => first | (apply p_move <;> rfl) | (apply p_assign <;> rfl) | (apply p_fieldAddrB <;> rfl) | fail); (case hd => rfl)) | (apply v_read; (case hop => first | (apply r_load1; rfl; (apply Cell.own; (case h => (repeat (first | exact List.Mem.head _ | apply List.mem_append_right))); rfl)) | fail); (case hd => rfl)) | fail)
    refine v_call (μ1 := []) (μ2 := _) rfl (rnum_s _ c.seq (by omega)) (List.Perm.refl _) rfl ?_
    rintro r2 G2 μ2 - ⟨rfl, hg2⟩
    refine v_frz μ2 (by repeat (first | exact PickA.here _ | fail)) ?_
    intro H2 hle2 hG2
    have hs2 : Sl H2 1 (IntR .u8) r2 (vbytes c.seq) := hg2.ints hG2 (fun x hx => vbytes_wf (by omega) x hx)
    have hsrc2 := fun μ => Src.ints (μ := μ) hs2
    obtain ⟨A2, c2, rfl, -, -⟩ := hg2.shape
    repeat' (fail)
    refine v_append (e := 5) (sz := 1) (zero := .int .u8 0) rfl (by omega) rfl rfl ho1 (PickA.perm (by repeat (first | exact PickA.here _ | fail))) (hsrc2 _) (allOne_ints _) (by (try simp only [List.length_append, sbytes_length]); omega) (by simp only [maxLen]; (try simp only [List.length_append, sbytes_length]); omega) rfl fun v2 ν2 ho2 => ?_
    rw [← List.map_append, ← List.length_append] at ho2
    repeat' (first | apply v_region | apply v_nil | (apply v_pure; (case hop => first | (apply p_move <;> rfl) | (apply p_assign <;> rfl) | (apply p_fieldAddrB <;> rfl) | fail); (case hd => rfl)) | (apply v_read; (case hop => first | (apply r_load1; rfl; (apply Cell.own; (case h => (repeat (first | exact List.Mem.head _ | apply List.mem_append_right))); rfl)) | fail); (case hd => rfl)) | fail)
    refine v_call (μ1 := []) (μ2 := _) rfl (rtext_s _ c.key (by omega)) (List.Perm.refl _) rfl ?_
    rintro r3 G3 μ3 - ⟨rfl, hg3⟩
    refine v_frz μ3 (by repeat (first | exact PickA.here _ | fail)) ?_
    intro H3 hle3 hG3
    have hs3 : Sl H3 1 (IntR .u8) r3 (vbytes c.key.size ++ sbytes c.key) := hg3.ints hG3 (tbytes_wf c.key (by omega))
    have hsrc3 := fun μ => Src.ints (μ := μ) hs3
    obtain ⟨A3, c3, rfl, -, -⟩ := hg3.shape
    repeat' (fail)
    refine v_append (e := 5) (sz := 1) (zero := .int .u8 0) rfl (by omega) rfl rfl ho2 (PickA.perm (by repeat (first | exact PickA.here _ | fail))) (hsrc3 _) (allOne_ints _) (by (try simp only [List.length_append, sbytes_length]); omega) (by simp only [maxLen]; (try simp only [List.length_append, sbytes_length]); omega) rfl fun v3 ν3 ho3 => ?_
    rw [← List.map_append, ← List.length_append] at ho3
    repeat' (first | apply v_seq | apply v_region | apply v_nil | apply v_skip | (apply v_take; (case hg => rfl)) | (apply v_pass; (case hg => rfl); (case hn => rfl); (case hd => rfl)) | (apply v_pure; (case hop => first | (apply p_move <;> rfl) | (apply p_eq <;> rfl) | (apply p_assign <;> rfl) | (apply p_pickT <;> rfl) | (apply p_pickF <;> rfl) | (apply p_not <;> rfl) | (apply p_fieldAddrB <;> rfl) | fail); (case hd => rfl)) | (apply v_condT; (case hc => rfl)) | (apply v_cond; (case hc => rfl); all_goals (intro h; (try simp only [reduceCtorEq, dec_true, dec_false, decide_eq_true_eq, decide_eq_false_iff_not, Bool.not_eq_true', Bool.not_eq_false', Option.isNone_iff_eq_none, beq_true, beq_false, beq_iff_eq, beq_eq_false_iff_ne, ne_eq, decide_eq_decide, Bool.not_eq_true, Bool.not_eq_false, Decidable.not_not] at h); first | (exfalso; omega) | skip)) | (apply v_guardB; (case h1 => rfl); (case h2 => rfl); all_goals (intro h; (try simp only [reduceCtorEq, dec_true, dec_false, decide_eq_true_eq, decide_eq_false_iff_not, Bool.not_eq_true', Bool.not_eq_false', Option.isNone_iff_eq_none, beq_true, beq_false, beq_iff_eq, beq_eq_false_iff_ne, ne_eq, decide_eq_decide, Bool.not_eq_true, Bool.not_eq_false, Decidable.not_not] at h); first | (exfalso; omega) | skip)) | (apply v_read; (case hop => first | (apply r_load1; rfl; (apply Cell.own; (case h => (repeat (first | exact List.Mem.head _ | apply List.mem_append_right))); rfl)) | fail); (case hd => rfl)) | fail)
    refine v_call (μ1 := []) (μ2 := _) rfl (rtext_s _ c.val (by omega)) (List.Perm.refl _) rfl ?_
    rintro r4 G4 μ4 - ⟨rfl, hg4⟩
    refine v_frz μ4 (by repeat (first | exact PickA.here _ | fail)) ?_
    intro H4 hle4 hG4
    have hs4 : Sl H4 1 (IntR .u8) r4 (vbytes c.val.size ++ sbytes c.val) := hg4.ints hG4 (tbytes_wf c.val (by omega))
    have hsrc4 := fun μ => Src.ints (μ := μ) hs4
    obtain ⟨A4, c4, rfl, -, -⟩ := hg4.shape
    repeat' (fail)
    refine v_append (e := 5) (sz := 1) (zero := .int .u8 0) rfl (by omega) rfl rfl ho3 (PickA.perm (by repeat (first | exact PickA.here _ | fail))) (hsrc4 _) (allOne_ints _) (by (try simp only [List.length_append, sbytes_length]); omega) (by simp only [maxLen]; (try simp only [List.length_append, sbytes_length]); omega) rfl fun v4 ν4 ho4 => ?_
    rw [← List.map_append, ← List.length_append] at ho4
    repeat' (first | apply v_seq | apply v_region | apply v_nil | apply v_skip | (apply v_take; (case hg => rfl)) | (apply v_pure; (case hop => first | (apply p_move <;> rfl) | (apply p_assign <;> rfl) | (apply p_pickF <;> rfl) | (apply p_fieldAddrB <;> rfl) | fail); (case hd => rfl)) | (apply v_condF; (case hc => rfl)) | (apply v_guardB; (case h1 => rfl); (case h2 => rfl); all_goals (intro h; (try simp only [reduceCtorEq, dec_true, dec_false, decide_eq_true_eq, decide_eq_false_iff_not, Bool.not_eq_true', Bool.not_eq_false', Option.isNone_iff_eq_none, beq_true, beq_false, beq_iff_eq, beq_eq_false_iff_ne, ne_eq, decide_eq_decide, Bool.not_eq_true, Bool.not_eq_false, Decidable.not_not] at h); first | (exfalso; omega) | skip)) | (apply v_callJ (hs := qm _); (case ha => rfl); (case hd => rfl)) | (apply v_read; (case hop => first | (apply r_load1; rfl; (apply Cell.own; (case h => (repeat (first | exact List.Mem.head _ | apply List.mem_append_right))); rfl)) | fail); (case hd => rfl)) | fail)
    have el : vbytes c.kind ++ putW (wantB v c.kind) c 6 = vbytes c.kind ++ (vbytes c.client) ++ (vbytes c.seq) ++ (vbytes c.key.size ++ sbytes c.key) ++ (vbytes c.val.size ++ sbytes c.val) := by
      rw [want2 hq.1, hq.2]; simp [cmdFields, putW, hasOf, pbytes, isNum, Cm.num, Cm.txt, band_0_1, band_0_2, band_0_4, band_0_8, band_0_16, band_3_1, band_3_2, band_3_4, band_3_8, band_3_16, band_11_1, band_11_2, band_11_4, band_11_8, band_11_16, band_15_1, band_15_2, band_15_4, band_15_8, band_15_16, band_16_1, band_16_2, band_16_4, band_16_8, band_16_16]
    rw [el]
    refine v_ret ν4 (outsA1 rfl rfl) (by repeat (first | exact List.sublist_append_left _ _ | fail)) ?_
    refine ⟨fun b o h => hle4 b o (hle3 b o (hle2 b o (hle1 b o (h)))), ?_⟩
    simpa using ho4
  · have ow : decide (2 ≤ c.kind ∧ c.kind ≤ 5) = true := by rw [decide_eq_true_iff]; omega
    have om : decide (c.kind = 7 ∨ c.kind = 8) = false := by rw [decide_eq_false_iff_not]; omega
    simp only [ow, om] at qw qm
    repeat' (first | apply v_seq | apply v_region | apply v_nil | (apply v_take; (case hg => rfl)) | (apply v_pure; (case hop => first | (apply p_move <;> rfl) | (apply p_eq <;> rfl) | (apply p_assign <;> rfl) | (apply p_pickF <;> rfl) | (apply p_fieldAddrB <;> rfl) | fail); (case hd => rfl)) | (apply v_condT; (case hc => rfl)) | (apply v_guardB; (case h1 => rfl); (case h2 => rfl); all_goals (intro h; (try simp only [reduceCtorEq, dec_true, dec_false, decide_eq_true_eq, decide_eq_false_iff_not, Bool.not_eq_true', Bool.not_eq_false', Option.isNone_iff_eq_none, beq_true, beq_false, beq_iff_eq, beq_eq_false_iff_ne, ne_eq, decide_eq_decide, Bool.not_eq_true, Bool.not_eq_false, Decidable.not_not] at h); first | (exfalso; omega) | skip)) | (apply v_callJ (hs := qw _); (case ha => rfl); (case hd => rfl)) | (apply v_read; (case hop => first | (apply r_load1; rfl; (apply Cell.own; (case h => (repeat (first | exact List.Mem.head _ | apply List.mem_append_right))); rfl)) | fail); (case hd => rfl)) | fail)
    refine v_call (μ1 := []) (μ2 := _) rfl (rnum_s _ c.client (by omega)) (List.Perm.refl _) rfl ?_
    rintro r1 G1 μ1 - ⟨rfl, hg1⟩
    refine v_frz μ1 (by repeat (first | exact PickA.here _ | fail)) ?_
    intro H1 hle1 hG1
    have hs1 : Sl H1 1 (IntR .u8) r1 (vbytes c.client) := hg1.ints hG1 (fun x hx => vbytes_wf (by omega) x hx)
    have hsrc1 := fun μ => Src.ints (μ := μ) hs1
    obtain ⟨A1, c1, rfl, -, -⟩ := hg1.shape
    repeat' (fail)
    refine v_append (e := 5) (sz := 1) (zero := .int .u8 0) rfl (by omega) rfl rfl ho0 (PickA.perm (by repeat (first | exact PickA.here _ | fail))) (hsrc1 _) (allOne_ints _) (by (try simp only [List.length_append, sbytes_length]); omega) (by simp only [maxLen]; (try simp only [List.length_append, sbytes_length]); omega) rfl fun v1 ν1 ho1 => ?_
    rw [← List.map_append, ← List.length_append] at ho1
    repeat' (first | apply v_seq | apply v_region | apply v_nil | (apply v_pure; (case hop => first | (apply p_move <;> rfl) | (apply p_assign <;> rfl) | (apply p_fieldAddrB <;> rfl) | fail); (case hd => rfl)) | (apply v_read; (case hop => first | (apply r_load1; rfl; (apply Cell.own; (case h => (repeat (first | exact List.Mem.head _ | apply List.mem_append_right))); rfl)) | fail); (case hd => rfl)) | fail)
    refine v_call (μ1 := []) (μ2 := _) rfl (rnum_s _ c.seq (by omega)) (List.Perm.refl _) rfl ?_
    rintro r2 G2 μ2 - ⟨rfl, hg2⟩
    refine v_frz μ2 (by repeat (first | exact PickA.here _ | fail)) ?_
    intro H2 hle2 hG2
    have hs2 : Sl H2 1 (IntR .u8) r2 (vbytes c.seq) := hg2.ints hG2 (fun x hx => vbytes_wf (by omega) x hx)
    have hsrc2 := fun μ => Src.ints (μ := μ) hs2
    obtain ⟨A2, c2, rfl, -, -⟩ := hg2.shape
    repeat' (fail)
    refine v_append (e := 5) (sz := 1) (zero := .int .u8 0) rfl (by omega) rfl rfl ho1 (PickA.perm (by repeat (first | exact PickA.here _ | fail))) (hsrc2 _) (allOne_ints _) (by (try simp only [List.length_append, sbytes_length]); omega) (by simp only [maxLen]; (try simp only [List.length_append, sbytes_length]); omega) rfl fun v2 ν2 ho2 => ?_
    rw [← List.map_append, ← List.length_append] at ho2
    repeat' (first | apply v_region | apply v_nil | (apply v_pure; (case hop => first | (apply p_move <;> rfl) | (apply p_assign <;> rfl) | (apply p_fieldAddrB <;> rfl) | fail); (case hd => rfl)) | (apply v_read; (case hop => first | (apply r_load1; rfl; (apply Cell.own; (case h => (repeat (first | exact List.Mem.head _ | apply List.mem_append_right))); rfl)) | fail); (case hd => rfl)) | fail)
    refine v_call (μ1 := []) (μ2 := _) rfl (rtext_s _ c.key (by omega)) (List.Perm.refl _) rfl ?_
    rintro r3 G3 μ3 - ⟨rfl, hg3⟩
    refine v_frz μ3 (by repeat (first | exact PickA.here _ | fail)) ?_
    intro H3 hle3 hG3
    have hs3 : Sl H3 1 (IntR .u8) r3 (vbytes c.key.size ++ sbytes c.key) := hg3.ints hG3 (tbytes_wf c.key (by omega))
    have hsrc3 := fun μ => Src.ints (μ := μ) hs3
    obtain ⟨A3, c3, rfl, -, -⟩ := hg3.shape
    repeat' (fail)
    refine v_append (e := 5) (sz := 1) (zero := .int .u8 0) rfl (by omega) rfl rfl ho2 (PickA.perm (by repeat (first | exact PickA.here _ | fail))) (hsrc3 _) (allOne_ints _) (by (try simp only [List.length_append, sbytes_length]); omega) (by simp only [maxLen]; (try simp only [List.length_append, sbytes_length]); omega) rfl fun v3 ν3 ho3 => ?_
    rw [← List.map_append, ← List.length_append] at ho3
    repeat' (first | apply v_seq | apply v_region | apply v_nil | apply v_skip | (apply v_take; (case hg => rfl)) | (apply v_pure; (case hop => first | (apply p_move <;> rfl) | (apply p_eq <;> rfl) | (apply p_assign <;> rfl) | (apply p_pickT <;> rfl) | (apply p_pickF <;> rfl) | (apply p_not <;> rfl) | (apply p_fieldAddrB <;> rfl) | fail); (case hd => rfl)) | (apply v_condF; (case hc => rfl)) | (apply v_cond; (case hc => rfl); all_goals (intro h; (try simp only [reduceCtorEq, dec_true, dec_false, decide_eq_true_eq, decide_eq_false_iff_not, Bool.not_eq_true', Bool.not_eq_false', Option.isNone_iff_eq_none, beq_true, beq_false, beq_iff_eq, beq_eq_false_iff_ne, ne_eq, decide_eq_decide, Bool.not_eq_true, Bool.not_eq_false, Decidable.not_not] at h); first | (exfalso; omega) | skip)) | (apply v_guardB; (case h1 => rfl); (case h2 => rfl); all_goals (intro h; (try simp only [reduceCtorEq, dec_true, dec_false, decide_eq_true_eq, decide_eq_false_iff_not, Bool.not_eq_true', Bool.not_eq_false', Option.isNone_iff_eq_none, beq_true, beq_false, beq_iff_eq, beq_eq_false_iff_ne, ne_eq, decide_eq_decide, Bool.not_eq_true, Bool.not_eq_false, Decidable.not_not] at h); first | (exfalso; omega) | skip)) | (apply v_callJ (hs := qm _); (case ha => rfl); (case hd => rfl)) | (apply v_read; (case hop => first | (apply r_load1; rfl; (apply Cell.own; (case h => (repeat (first | exact List.Mem.head _ | apply List.mem_append_right))); rfl)) | fail); (case hd => rfl)) | fail)
    have el : vbytes c.kind ++ putW (wantB v c.kind) c 6 = vbytes c.kind ++ (vbytes c.client) ++ (vbytes c.seq) ++ (vbytes c.key.size ++ sbytes c.key) := by
      rw [want2 hq.1]
      obtain ⟨-, h | h⟩ := hq <;> rw [h] <;> simp [cmdFields, putW, hasOf, pbytes, isNum, Cm.num, Cm.txt, band_0_1, band_0_2, band_0_4, band_0_8, band_0_16, band_3_1, band_3_2, band_3_4, band_3_8, band_3_16, band_11_1, band_11_2, band_11_4, band_11_8, band_11_16, band_15_1, band_15_2, band_15_4, band_15_8, band_15_16, band_16_1, band_16_2, band_16_4, band_16_8, band_16_16]
    rw [el]
    refine v_ret ν3 (outsA1 rfl rfl) (by repeat (first | exact List.sublist_append_left _ _ | fail)) ?_
    refine ⟨fun b o h => hle3 b o (hle2 b o (hle1 b o (h))), ?_⟩
    simpa using ho3
  · have ow : decide (2 ≤ c.kind ∧ c.kind ≤ 5) = true := by rw [decide_eq_true_iff]; omega
    have om : decide (c.kind = 7 ∨ c.kind = 8) = false := by rw [decide_eq_false_iff_not]; omega
    simp only [ow, om] at qw qm
    repeat' (first | apply v_seq | apply v_region | apply v_nil | (apply v_take; (case hg => rfl)) | (apply v_pure; (case hop => first | (apply p_move <;> rfl) | (apply p_eq <;> rfl) | (apply p_assign <;> rfl) | (apply p_pickF <;> rfl) | (apply p_fieldAddrB <;> rfl) | fail); (case hd => rfl)) | (apply v_condT; (case hc => rfl)) | (apply v_guardB; (case h1 => rfl); (case h2 => rfl); all_goals (intro h; (try simp only [reduceCtorEq, dec_true, dec_false, decide_eq_true_eq, decide_eq_false_iff_not, Bool.not_eq_true', Bool.not_eq_false', Option.isNone_iff_eq_none, beq_true, beq_false, beq_iff_eq, beq_eq_false_iff_ne, ne_eq, decide_eq_decide, Bool.not_eq_true, Bool.not_eq_false, Decidable.not_not] at h); first | (exfalso; omega) | skip)) | (apply v_callJ (hs := qw _); (case ha => rfl); (case hd => rfl)) | (apply v_read; (case hop => first | (apply r_load1; rfl; (apply Cell.own; (case h => (repeat (first | exact List.Mem.head _ | apply List.mem_append_right))); rfl)) | fail); (case hd => rfl)) | fail)
    refine v_call (μ1 := []) (μ2 := _) rfl (rnum_s _ c.client (by omega)) (List.Perm.refl _) rfl ?_
    rintro r1 G1 μ1 - ⟨rfl, hg1⟩
    refine v_frz μ1 (by repeat (first | exact PickA.here _ | fail)) ?_
    intro H1 hle1 hG1
    have hs1 : Sl H1 1 (IntR .u8) r1 (vbytes c.client) := hg1.ints hG1 (fun x hx => vbytes_wf (by omega) x hx)
    have hsrc1 := fun μ => Src.ints (μ := μ) hs1
    obtain ⟨A1, c1, rfl, -, -⟩ := hg1.shape
    repeat' (fail)
    refine v_append (e := 5) (sz := 1) (zero := .int .u8 0) rfl (by omega) rfl rfl ho0 (PickA.perm (by repeat (first | exact PickA.here _ | fail))) (hsrc1 _) (allOne_ints _) (by (try simp only [List.length_append, sbytes_length]); omega) (by simp only [maxLen]; (try simp only [List.length_append, sbytes_length]); omega) rfl fun v1 ν1 ho1 => ?_
    rw [← List.map_append, ← List.length_append] at ho1
    repeat' (first | apply v_seq | apply v_region | apply v_nil | (apply v_pure; (case hop => first | (apply p_move <;> rfl) | (apply p_assign <;> rfl) | (apply p_fieldAddrB <;> rfl) | fail); (case hd => rfl)) | (apply v_read; (case hop => first | (apply r_load1; rfl; (apply Cell.own; (case h => (repeat (first | exact List.Mem.head _ | apply List.mem_append_right))); rfl)) | fail); (case hd => rfl)) | fail)
    refine v_call (μ1 := []) (μ2 := _) rfl (rnum_s _ c.seq (by omega)) (List.Perm.refl _) rfl ?_
    rintro r2 G2 μ2 - ⟨rfl, hg2⟩
    refine v_frz μ2 (by repeat (first | exact PickA.here _ | fail)) ?_
    intro H2 hle2 hG2
    have hs2 : Sl H2 1 (IntR .u8) r2 (vbytes c.seq) := hg2.ints hG2 (fun x hx => vbytes_wf (by omega) x hx)
    have hsrc2 := fun μ => Src.ints (μ := μ) hs2
    obtain ⟨A2, c2, rfl, -, -⟩ := hg2.shape
    repeat' (fail)
    refine v_append (e := 5) (sz := 1) (zero := .int .u8 0) rfl (by omega) rfl rfl ho1 (PickA.perm (by repeat (first | exact PickA.here _ | fail))) (hsrc2 _) (allOne_ints _) (by (try simp only [List.length_append, sbytes_length]); omega) (by simp only [maxLen]; (try simp only [List.length_append, sbytes_length]); omega) rfl fun v2 ν2 ho2 => ?_
    rw [← List.map_append, ← List.length_append] at ho2
    repeat' (first | apply v_region | apply v_nil | (apply v_pure; (case hop => first | (apply p_move <;> rfl) | (apply p_assign <;> rfl) | (apply p_fieldAddrB <;> rfl) | fail); (case hd => rfl)) | (apply v_read; (case hop => first | (apply r_load1; rfl; (apply Cell.own; (case h => (repeat (first | exact List.Mem.head _ | apply List.mem_append_right))); rfl)) | fail); (case hd => rfl)) | fail)
    refine v_call (μ1 := []) (μ2 := _) rfl (rtext_s _ c.key (by omega)) (List.Perm.refl _) rfl ?_
    rintro r3 G3 μ3 - ⟨rfl, hg3⟩
    refine v_frz μ3 (by repeat (first | exact PickA.here _ | fail)) ?_
    intro H3 hle3 hG3
    have hs3 : Sl H3 1 (IntR .u8) r3 (vbytes c.key.size ++ sbytes c.key) := hg3.ints hG3 (tbytes_wf c.key (by omega))
    have hsrc3 := fun μ => Src.ints (μ := μ) hs3
    obtain ⟨A3, c3, rfl, -, -⟩ := hg3.shape
    repeat' (fail)
    refine v_append (e := 5) (sz := 1) (zero := .int .u8 0) rfl (by omega) rfl rfl ho2 (PickA.perm (by repeat (first | exact PickA.here _ | fail))) (hsrc3 _) (allOne_ints _) (by (try simp only [List.length_append, sbytes_length]); omega) (by simp only [maxLen]; (try simp only [List.length_append, sbytes_length]); omega) rfl fun v3 ν3 ho3 => ?_
    rw [← List.map_append, ← List.length_append] at ho3
    repeat' (first | apply v_seq | apply v_region | apply v_nil | (apply v_take; (case hg => rfl)) | (apply v_pure; (case hop => first | (apply p_move <;> rfl) | (apply p_eq <;> rfl) | (apply p_assign <;> rfl) | (apply p_pickT <;> rfl) | (apply p_not <;> rfl) | (apply p_fieldAddrB <;> rfl) | fail); (case hd => rfl)) | (apply v_cond; (case hc => rfl); all_goals (intro h; (try simp only [reduceCtorEq, dec_true, dec_false, decide_eq_true_eq, decide_eq_false_iff_not, Bool.not_eq_true', Bool.not_eq_false', Option.isNone_iff_eq_none, beq_true, beq_false, beq_iff_eq, beq_eq_false_iff_ne, ne_eq, decide_eq_decide, Bool.not_eq_true, Bool.not_eq_false, Decidable.not_not] at h); first | (exfalso; omega) | skip)) | (apply v_guardB; (case h1 => rfl); (case h2 => rfl); all_goals (intro h; (try simp only [reduceCtorEq, dec_true, dec_false, decide_eq_true_eq, decide_eq_false_iff_not, Bool.not_eq_true', Bool.not_eq_false', Option.isNone_iff_eq_none, beq_true, beq_false, beq_iff_eq, beq_eq_false_iff_ne, ne_eq, decide_eq_decide, Bool.not_eq_true, Bool.not_eq_false, Decidable.not_not] at h); first | (exfalso; omega) | skip)) | (apply v_read; (case hop => first | (apply r_load1; rfl; (apply Cell.own; (case h => (repeat (first | exact List.Mem.head _ | apply List.mem_append_right))); rfl)) | fail); (case hd => rfl)) | fail)
    refine v_call (μ1 := []) (μ2 := _) rfl (rtext_s _ c.old (by omega)) (List.Perm.refl _) rfl ?_
    rintro r4 G4 μ4 - ⟨rfl, hg4⟩
    refine v_frz μ4 (by repeat (first | exact PickA.here _ | fail)) ?_
    intro H4 hle4 hG4
    have hs4 : Sl H4 1 (IntR .u8) r4 (vbytes c.old.size ++ sbytes c.old) := hg4.ints hG4 (tbytes_wf c.old (by omega))
    have hsrc4 := fun μ => Src.ints (μ := μ) hs4
    obtain ⟨A4, c4, rfl, -, -⟩ := hg4.shape
    repeat' (fail)
    refine v_append (e := 5) (sz := 1) (zero := .int .u8 0) rfl (by omega) rfl rfl ho3 (PickA.perm (by repeat (first | exact PickA.here _ | fail))) (hsrc4 _) (allOne_ints _) (by (try simp only [List.length_append, sbytes_length]); omega) (by simp only [maxLen]; (try simp only [List.length_append, sbytes_length]); omega) rfl fun v4 ν4 ho4 => ?_
    rw [← List.map_append, ← List.length_append] at ho4
    repeat' (first | apply v_seq | apply v_region | apply v_nil | (apply v_take; (case hg => rfl)) | (apply v_pure; (case hop => first | (apply p_move <;> rfl) | (apply p_eq <;> rfl) | (apply p_assign <;> rfl) | (apply p_pickF <;> rfl) | (apply p_fieldAddrB <;> rfl) | fail); (case hd => rfl)) | (apply v_cond; (case hc => rfl); all_goals (intro h; (try simp only [reduceCtorEq, dec_true, dec_false, decide_eq_true_eq, decide_eq_false_iff_not, Bool.not_eq_true', Bool.not_eq_false', Option.isNone_iff_eq_none, beq_true, beq_false, beq_iff_eq, beq_eq_false_iff_ne, ne_eq, decide_eq_decide, Bool.not_eq_true, Bool.not_eq_false, Decidable.not_not] at h); first | (exfalso; omega) | skip)) | (apply v_guardB; (case h1 => rfl); (case h2 => rfl); all_goals (intro h; (try simp only [reduceCtorEq, dec_true, dec_false, decide_eq_true_eq, decide_eq_false_iff_not, Bool.not_eq_true', Bool.not_eq_false', Option.isNone_iff_eq_none, beq_true, beq_false, beq_iff_eq, beq_eq_false_iff_ne, ne_eq, decide_eq_decide, Bool.not_eq_true, Bool.not_eq_false, Decidable.not_not] at h); first | (exfalso; omega) | skip)) | (apply v_read; (case hop => first | (apply r_load1; rfl; (apply Cell.own; (case h => (repeat (first | exact List.Mem.head _ | apply List.mem_append_right))); rfl)) | fail); (case hd => rfl)) | fail)
    refine v_call (μ1 := []) (μ2 := _) rfl (rtext_s _ c.val (by omega)) (List.Perm.refl _) rfl ?_
    rintro r5 G5 μ5 - ⟨rfl, hg5⟩
    refine v_frz μ5 (by repeat (first | exact PickA.here _ | fail)) ?_
    intro H5 hle5 hG5
    have hs5 : Sl H5 1 (IntR .u8) r5 (vbytes c.val.size ++ sbytes c.val) := hg5.ints hG5 (tbytes_wf c.val (by omega))
    have hsrc5 := fun μ => Src.ints (μ := μ) hs5
    obtain ⟨A5, c5, rfl, -, -⟩ := hg5.shape
    repeat' (fail)
    refine v_append (e := 5) (sz := 1) (zero := .int .u8 0) rfl (by omega) rfl rfl ho4 (PickA.perm (by repeat (first | exact PickA.here _ | fail))) (hsrc5 _) (allOne_ints _) (by (try simp only [List.length_append, sbytes_length]); omega) (by simp only [maxLen]; (try simp only [List.length_append, sbytes_length]); omega) rfl fun v5 ν5 ho5 => ?_
    rw [← List.map_append, ← List.length_append] at ho5
    repeat' (first | apply v_seq | apply v_region | apply v_nil | apply v_skip | (apply v_take; (case hg => rfl)) | (apply v_pure; (case hop => first | (apply p_move <;> rfl) | (apply p_assign <;> rfl) | (apply p_pickF <;> rfl) | (apply p_fieldAddrB <;> rfl) | fail); (case hd => rfl)) | (apply v_condF; (case hc => rfl)) | (apply v_guardB; (case h1 => rfl); (case h2 => rfl); all_goals (intro h; (try simp only [reduceCtorEq, dec_true, dec_false, decide_eq_true_eq, decide_eq_false_iff_not, Bool.not_eq_true', Bool.not_eq_false', Option.isNone_iff_eq_none, beq_true, beq_false, beq_iff_eq, beq_eq_false_iff_ne, ne_eq, decide_eq_decide, Bool.not_eq_true, Bool.not_eq_false, Decidable.not_not] at h); first | (exfalso; omega) | skip)) | (apply v_callJ (hs := qm _); (case ha => rfl); (case hd => rfl)) | (apply v_read; (case hop => first | (apply r_load1; rfl; (apply Cell.own; (case h => (repeat (first | exact List.Mem.head _ | apply List.mem_append_right))); rfl)) | fail); (case hd => rfl)) | fail)
    have el : vbytes c.kind ++ putW (wantB v c.kind) c 6 = vbytes c.kind ++ (vbytes c.client) ++ (vbytes c.seq) ++ (vbytes c.key.size ++ sbytes c.key) ++ (vbytes c.old.size ++ sbytes c.old) ++ (vbytes c.val.size ++ sbytes c.val) := by
      rw [want2 hq.1, hq.2]; simp [cmdFields, putW, hasOf, pbytes, isNum, Cm.num, Cm.txt, band_0_1, band_0_2, band_0_4, band_0_8, band_0_16, band_3_1, band_3_2, band_3_4, band_3_8, band_3_16, band_11_1, band_11_2, band_11_4, band_11_8, band_11_16, band_15_1, band_15_2, band_15_4, band_15_8, band_15_16, band_16_1, band_16_2, band_16_4, band_16_8, band_16_16]
    rw [el]
    refine v_ret ν5 (outsA1 rfl rfl) (by repeat (first | exact List.sublist_append_left _ _ | fail)) ?_
    refine ⟨fun b o h => hle5 b o (hle4 b o (hle3 b o (hle2 b o (hle1 b o (h))))), ?_⟩
    simpa using ho5
  · have ow : decide (2 ≤ c.kind ∧ c.kind ≤ 5) = false := by rw [decide_eq_false_iff_not]; omega
    have om : decide (c.kind = 7 ∨ c.kind = 8) = true := by rw [decide_eq_true_iff]; omega
    simp only [ow, om] at qw qm
    repeat' (first | apply v_seq | apply v_region | apply v_nil | apply v_skip | (apply v_take; (case hg => rfl)) | (apply v_pure; (case hop => first | (apply p_move <;> rfl) | (apply p_eq <;> rfl) | (apply p_assign <;> rfl) | (apply p_pickT <;> rfl) | (apply p_pickF <;> rfl) | (apply p_not <;> rfl) | (apply p_fieldAddrB <;> rfl) | fail); (case hd => rfl)) | (apply v_condT; (case hc => rfl)) | (apply v_condF; (case hc => rfl)) | (apply v_cond; (case hc => rfl); all_goals (intro h; (try simp only [reduceCtorEq, dec_true, dec_false, decide_eq_true_eq, decide_eq_false_iff_not, Bool.not_eq_true', Bool.not_eq_false', Option.isNone_iff_eq_none, beq_true, beq_false, beq_iff_eq, beq_eq_false_iff_ne, ne_eq, decide_eq_decide, Bool.not_eq_true, Bool.not_eq_false, Decidable.not_not] at h); first | (exfalso; omega) | skip)) | (apply v_guardB; (case h1 => rfl); (case h2 => rfl); all_goals (intro h; (try simp only [reduceCtorEq, dec_true, dec_false, decide_eq_true_eq, decide_eq_false_iff_not, Bool.not_eq_true', Bool.not_eq_false', Option.isNone_iff_eq_none, beq_true, beq_false, beq_iff_eq, beq_eq_false_iff_ne, ne_eq, decide_eq_decide, Bool.not_eq_true, Bool.not_eq_false, Decidable.not_not] at h); first | (exfalso; omega) | skip)) | (apply v_callJ (hs := qw _); (case ha => rfl); (case hd => rfl)) | (apply v_callJ (hs := qm _); (case ha => rfl); (case hd => rfl)) | (apply v_read; (case hop => first | (apply r_load1; rfl; (apply Cell.own; (case h => (repeat (first | exact List.Mem.head _ | apply List.mem_append_right))); rfl)) | fail); (case hd => rfl)) | fail)
    refine v_call (μ1 := []) (μ2 := _) rfl (rnum_s _ c.node (by omega)) (List.Perm.refl _) rfl ?_
    rintro r1 G1 μ1 - ⟨rfl, hg1⟩
    refine v_frz μ1 (by repeat (first | exact PickA.here _ | fail)) ?_
    intro H1 hle1 hG1
    have hs1 : Sl H1 1 (IntR .u8) r1 (vbytes c.node) := hg1.ints hG1 (fun x hx => vbytes_wf (by omega) x hx)
    have hsrc1 := fun μ => Src.ints (μ := μ) hs1
    obtain ⟨A1, c1, rfl, -, -⟩ := hg1.shape
    repeat' (fail)
    refine v_append (e := 5) (sz := 1) (zero := .int .u8 0) rfl (by omega) rfl rfl ho0 (PickA.perm (by repeat (first | exact PickA.here _ | fail))) (hsrc1 _) (allOne_ints _) (by (try simp only [List.length_append, sbytes_length]); omega) (by simp only [maxLen]; (try simp only [List.length_append, sbytes_length]); omega) rfl fun v1 ν1 ho1 => ?_
    rw [← List.map_append, ← List.length_append] at ho1
    repeat' (first | apply v_seq | apply v_region | apply v_nil | (apply v_pure; (case hop => first | (apply p_move <;> rfl) | (apply p_assign <;> rfl) | fail); (case hd => rfl)) | fail)
    have el : vbytes c.kind ++ putW (wantB v c.kind) c 6 = vbytes c.kind ++ (vbytes c.node) := by
      rw [want2 hq.1]
      obtain ⟨-, h | h⟩ := hq <;> rw [h] <;> simp [cmdFields, putW, hasOf, pbytes, isNum, Cm.num, Cm.txt, band_0_1, band_0_2, band_0_4, band_0_8, band_0_16, band_3_1, band_3_2, band_3_4, band_3_8, band_3_16, band_11_1, band_11_2, band_11_4, band_11_8, band_11_16, band_15_1, band_15_2, band_15_4, band_15_8, band_15_16, band_16_1, band_16_2, band_16_4, band_16_8, band_16_16]
    rw [el]
    refine v_ret ν1 (outsA1 rfl rfl) (by repeat (first | exact List.sublist_append_left _ _ | fail)) ?_
    refine ⟨fun b o h => hle1 b o (h), ?_⟩
    simpa using ho1
  · have ow : decide (2 ≤ c.kind ∧ c.kind ≤ 5) = false := by rw [decide_eq_false_iff_not]; omega
    have om : decide (c.kind = 7 ∨ c.kind = 8) = false := by rw [decide_eq_false_iff_not]; omega
    simp only [ow, om] at qw qm
    repeat' (first | apply v_seq | apply v_region | apply v_nil | apply v_skip | (apply v_take; (case hg => rfl)) | (apply v_pure; (case hop => first | (apply p_move <;> rfl) | (apply p_eq <;> rfl) | (apply p_assign <;> rfl) | (apply p_pickT <;> rfl) | (apply p_pickF <;> rfl) | (apply p_not <;> rfl) | (apply p_fieldAddrB <;> rfl) | fail); (case hd => rfl)) | (apply v_condF; (case hc => rfl)) | (apply v_cond; (case hc => rfl); all_goals (intro h; (try simp only [reduceCtorEq, dec_true, dec_false, decide_eq_true_eq, decide_eq_false_iff_not, Bool.not_eq_true', Bool.not_eq_false', Option.isNone_iff_eq_none, beq_true, beq_false, beq_iff_eq, beq_eq_false_iff_ne, ne_eq, decide_eq_decide, Bool.not_eq_true, Bool.not_eq_false, Decidable.not_not] at h); first | (exfalso; omega) | skip)) | (apply v_guardB; (case h1 => rfl); (case h2 => rfl); all_goals (intro h; (try simp only [reduceCtorEq, dec_true, dec_false, decide_eq_true_eq, decide_eq_false_iff_not, Bool.not_eq_true', Bool.not_eq_false', Option.isNone_iff_eq_none, beq_true, beq_false, beq_iff_eq, beq_eq_false_iff_ne, ne_eq, decide_eq_decide, Bool.not_eq_true, Bool.not_eq_false, Decidable.not_not] at h); first | (exfalso; omega) | skip)) | (apply v_callJ (hs := qw _); (case ha => rfl); (case hd => rfl)) | (apply v_callJ (hs := qm _); (case ha => rfl); (case hd => rfl)) | (apply v_read; (case hop => first | (apply r_load1; rfl; (apply Cell.own; (case h => (repeat (first | exact List.Mem.head _ | apply List.mem_append_right))); rfl)) | fail); (case hd => rfl)) | fail)
    have el : vbytes c.kind ++ putW (wantB v c.kind) c 6 = vbytes c.kind := by
      rw [want2 hq.1]
      have e0 : (cmdFields c.kind).1 = 0 := by unfold cmdFields; (repeat' split) <;> first | rfl | (exfalso; omega)
      simp [e0, putW, hasOf, band_0_1, band_0_2, band_0_4, band_0_8, band_0_16, band_3_1, band_3_2, band_3_4, band_3_8, band_3_16, band_11_1, band_11_2, band_11_4, band_11_8, band_11_16, band_15_1, band_15_2, band_15_4, band_15_8, band_15_16, band_16_1, band_16_2, band_16_4, band_16_8, band_16_16]
    rw [el]
    refine v_ret ν0 (outsA1 rfl rfl) (by repeat (first | exact List.sublist_append_left _ _ | fail)) ?_
    refine ⟨GH.le_refl _, ?_⟩
    simpa using ho0
theorem rcmd_s (G : GH) (c : Cm) (hc : c.ok) (hk : c.key.size ≤ 1000) (hv : c.val.size ≤ 1000) (ho : c.old.size ≤ 1000) : Con Tryd.prog 60 #[.int .i64 1, .agg c.cells.toArray] G [] (fun r G' μ' => GH.le G G' ∧ Grow 5 1 r (vbytes c.kind ++ putL c 6).length ((vbytes c.kind ++ putL c 6).map (.int .u8 ·)) μ') := rcmdV_s G 1 c hc hk hv ho
end Go.Proofs.YtnoiahlpmgbhfaaDoor
/-
  recone (layer 16), the thirteenth part: the bytes of a record, by the reference.
-/
set_option linter.unusedSimpArgs false
set_option linter.unusedVariables false
namespace Go.Proofs.YtnoiahlpmgbhfaaDoor
open Go.Vx Go.ChangeShapes Go.WideShapes Go.ChangeAt Go.RowKit
theorem memwf {a b : List Int} (ha : ∀ x ∈ a, (Lit.int .u8 x).wf = true) (hb : ∀ x ∈ b, (Lit.int .u8 x).wf = true) : ∀ x ∈ a ++ b, (Lit.int .u8 x).wf = true := fun x hx => by
  rcases List.mem_append.1 hx with h | h
  · exact ha x h
  · exact hb x h
/-- No field is too long for the reference's bytes. -/
def Rc.fits (x : Rc) : Prop := x.cmd.key.size ≤ 1000 ∧ x.cmd.val.size ≤ 1000 ∧ x.cmd.old.size ≤ 1000 ∧ x.image.length ≤ 32780
theorem large_fits {x : Rc} (h : ¬ x.large) : x.fits := by
  unfold Rc.large at h
  unfold Rc.fits
  omega
theorem rrec_s {G : GH} {x : Rc} {xv : Value} (hx : RcV G x xv) (hc : x.cmd.ok) (hl : x.fits) (hw : x.small) (hk : 1 ≤ x.kind ∧ x.kind ≤ 4) : Con Tryd.prog 16 #[xv] G [] (fun r G' μ' => GH.le G G' ∧ Grow 5 1 r (encL x).length ((encL x).map (.int .u8 ·)) μ') := by
  have hcw : ∀ y ∈ vbytes x.cmd.kind ++ putL x.cmd 6, (Lit.int .u8 y).wf = true := by
    obtain ⟨hk1, hc1, hs1, -, -, -, hn1⟩ := hc
    simp [Lit.wf, IntKind.min, IntKind.max, IntKind.signed, IntKind.bits] at hk1 hc1 hs1 hn1
    unfold Rc.fits at hl
    have el : vbytes x.cmd.kind ++ vbytes x.cmd.client ++ vbytes x.cmd.seq ++ (vbytes x.cmd.key.size ++ sbytes x.cmd.key) ++ (vbytes x.cmd.val.size ++ sbytes x.cmd.val) ++ vbytes x.cmd.node = vbytes x.cmd.kind ++ putL x.cmd 6 := by
      simp [putL, putW, wantB, hasOf, pbytes, isNum, Cm.num, Cm.txt]
    rw [← el]
    exact memwf (memwf (memwf (memwf (memwf (vbytes_wf (by omega)) (vbytes_wf (by omega))) (vbytes_wf (by omega))) (tbytes_wf _ (by omega))) (tbytes_wf _ (by omega))) (vbytes_wf (by omega))
  have hcl := putL_len x.cmd (by unfold Rc.fits at hl; omega) (by unfold Rc.fits at hl; omega) (by unfold Rc.fits at hl; omega) 6
  unfold Rc.fits at hl
  obtain ⟨hw1, hw2, hw3, hw4⟩ := hw
  obtain ⟨iv, rfl, hi⟩ := hx
  have hL0 := (vbytes_len x.kind).1
  have hL1 := (vbytes_len x.round).1
  have hL2 := (vbytes_len x.node).1
  have hL3 := (vbytes_len x.index).1
  have hL4 := (vbytes_len x.cmd.kind).1
  have hL5 := (vbytes_len (x.image.length : Nat)).1
  have hh := fun G => hasCmd_s G x.kind
  obtain ⟨A, c, rfl, -⟩ := hi.openInt
  refine v_enter Tryd.func16 rfl Tryd.ntmps16 rfl (fun B => ?_)
  repeat' (first | apply v_seq | apply v_region | apply v_nil | (apply v_pure; (case hop => first | (apply p_assign <;> rfl) | (apply p_fieldAddrB <;> rfl) | fail); (case hd => rfl)) | (apply v_box (zs := recL x.kind x.round x.node x.index x.cmd (.slice A x.image.length c)); (case hx => rfl); (case hz => rfl); (case hd => rfl); intro rb) | (apply v_read; (case hop => first | (apply r_load1; rfl; (apply Cell.own; (case h => (repeat (first | exact List.Mem.head _ | fail))); rfl)) | fail); (case hd => rfl)) | fail)
  refine v_call (μ1 := []) (μ2 := _) rfl (rnum_s _ x.kind (by omega)) (List.Perm.refl _) rfl ?_
  rintro v0 G0 ν0 - ⟨rfl, ho0⟩
  repeat' (first | apply v_seq | apply v_region | apply v_nil | (apply v_pure; (case hop => first | (apply p_move <;> rfl) | (apply p_assign <;> rfl) | (apply p_fieldAddrB <;> rfl) | fail); (case hd => rfl)) | (apply v_read; (case hop => first | (apply r_load1; rfl; (apply Cell.own; (case h => (repeat (first | exact List.Mem.head _ | apply List.mem_append_right))); rfl)) | fail); (case hd => rfl)) | fail)
  refine v_call (μ1 := []) (μ2 := _) rfl (rnum_s _ x.round (by omega)) (List.Perm.refl _) rfl ?_
  rintro r1 G1 μ1 - ⟨rfl, hg1⟩
  refine v_frz μ1 (by repeat (first | exact PickA.here _ | fail)) ?_
  intro H1 hle1 hG1
  have hs1 : Sl H1 1 (IntR .u8) r1 (vbytes x.round) := hg1.ints hG1 (fun x hx => vbytes_wf (by omega) x hx)
  have hsrc1 := fun μ => Src.ints (μ := μ) hs1
  obtain ⟨A1, c1, rfl, -, -⟩ := hg1.shape
  repeat' (fail)
  refine v_append (e := 5) (sz := 1) (zero := .int .u8 0) rfl (by omega) rfl rfl ho0 (PickA.perm (by repeat (first | exact PickA.here _ | fail))) (hsrc1 _) (allOne_ints _) (by (try simp only [List.length_append, sbytes_length]); omega) (by simp only [maxLen]; (try simp only [List.length_append, sbytes_length]); omega) rfl fun v1 ν1 ho1 => ?_
  rw [← List.map_append, ← List.length_append] at ho1
  repeat' (first | apply v_seq | apply v_region | apply v_nil | (apply v_pure; (case hop => first | (apply p_move <;> rfl) | (apply p_assign <;> rfl) | (apply p_fieldAddrB <;> rfl) | fail); (case hd => rfl)) | (apply v_read; (case hop => first | (apply r_load1; rfl; (apply Cell.own; (case h => (repeat (first | exact List.Mem.head _ | apply List.mem_append_right))); rfl)) | fail); (case hd => rfl)) | fail)
  refine v_call (μ1 := []) (μ2 := _) rfl (rnum_s _ x.node (by omega)) (List.Perm.refl _) rfl ?_
  rintro r2 G2 μ2 - ⟨rfl, hg2⟩
  refine v_frz μ2 (by repeat (first | exact PickA.here _ | fail)) ?_
  intro H2 hle2 hG2
  have hs2 : Sl H2 1 (IntR .u8) r2 (vbytes x.node) := hg2.ints hG2 (fun x hx => vbytes_wf (by omega) x hx)
  have hsrc2 := fun μ => Src.ints (μ := μ) hs2
  obtain ⟨A2, c2, rfl, -, -⟩ := hg2.shape
  repeat' (fail)
  refine v_append (e := 5) (sz := 1) (zero := .int .u8 0) rfl (by omega) rfl rfl ho1 (PickA.perm (by repeat (first | exact PickA.here _ | fail))) (hsrc2 _) (allOne_ints _) (by (try simp only [List.length_append, sbytes_length]); omega) (by simp only [maxLen]; (try simp only [List.length_append, sbytes_length]); omega) rfl fun v2 ν2 ho2 => ?_
  rw [← List.map_append, ← List.length_append] at ho2
  repeat' (first | apply v_seq | apply v_region | apply v_nil | (apply v_pure; (case hop => first | (apply p_move <;> rfl) | (apply p_assign <;> rfl) | (apply p_fieldAddrB <;> rfl) | fail); (case hd => rfl)) | (apply v_read; (case hop => first | (apply r_load1; rfl; (apply Cell.own; (case h => (repeat (first | exact List.Mem.head _ | apply List.mem_append_right))); rfl)) | fail); (case hd => rfl)) | fail)
  refine v_call (μ1 := []) (μ2 := _) rfl (rnum_s _ x.index (by omega)) (List.Perm.refl _) rfl ?_
  rintro r3 G3 μ3 - ⟨rfl, hg3⟩
  refine v_frz μ3 (by repeat (first | exact PickA.here _ | fail)) ?_
  intro H3 hle3 hG3
  have hs3 : Sl H3 1 (IntR .u8) r3 (vbytes x.index) := hg3.ints hG3 (fun x hx => vbytes_wf (by omega) x hx)
  have hsrc3 := fun μ => Src.ints (μ := μ) hs3
  obtain ⟨A3, c3, rfl, -, -⟩ := hg3.shape
  repeat' (fail)
  refine v_append (e := 5) (sz := 1) (zero := .int .u8 0) rfl (by omega) rfl rfl ho2 (PickA.perm (by repeat (first | exact PickA.here _ | fail))) (hsrc3 _) (allOne_ints _) (by (try simp only [List.length_append, sbytes_length]); omega) (by simp only [maxLen]; (try simp only [List.length_append, sbytes_length]); omega) rfl fun v3 ν3 ho3 => ?_
  rw [← List.map_append, ← List.length_append] at ho3
  repeat' (first | apply v_seq | apply v_region | apply v_nil | (apply v_pure; (case hop => first | (apply p_assign <;> rfl) | (apply p_fieldAddrB <;> rfl) | fail); (case hd => rfl)) | (apply v_read; (case hop => first | (apply r_load1; rfl; (apply Cell.own; (case h => (repeat (first | exact List.Mem.head _ | apply List.mem_append_right))); rfl)) | fail); (case hd => rfl)) | fail)
  have hi3 := ((hi.mono hle1).mono hle2).mono hle3
  have hlh : ∀ G', GH.le H3 G' → GH.le G1 G' := fun G' h b o q => h b o (hle3 b o (hle2 b o (hle1 b o q)))
  have e0 : vbytes x.kind ++ vbytes x.round ++ vbytes x.node ++ vbytes x.index = headL x := by simp [headL]
  rw [e0] at ho3
  have hhl := headL_len x
  obtain h | h | h | h : x.kind = 1 ∨ x.kind = 2 ∨ x.kind = 3 ∨ x.kind = 4 := by omega
  all_goals repeat' (first | apply v_seq | apply v_region | apply v_nil | apply v_skip | (apply v_pure; (case hop => first | (apply p_move <;> rfl) | (apply p_eq <;> rfl) | (apply p_assign <;> rfl) | (apply p_lenSlice <;> rfl) | (apply p_fieldAddrB <;> rfl) | fail); (case hd => rfl)) | (apply v_cond; (case hc => rfl); all_goals (intro h; (try simp only [reduceCtorEq, dec_true, dec_false, decide_eq_true_eq, decide_eq_false_iff_not, Bool.not_eq_true', Bool.not_eq_false', Option.isNone_iff_eq_none, beq_true, beq_false, beq_iff_eq, beq_eq_false_iff_ne, ne_eq, decide_eq_decide, Bool.not_eq_true, Bool.not_eq_false, Decidable.not_not] at h); first | (exfalso; omega) | skip)) | (apply v_callJ (hs := hh _); (case ha => rfl); (case hd => rfl)) | (apply v_read; (case hop => first | (apply r_loadNo; (case hx => rfl); (case h => (repeat (first | exact List.Mem.head _ | apply List.mem_append_right))); (case hd => (repeat (first | with_reducible exact dt_nil | apply dt_here | fail))); (case hn => rfl)) | (apply r_load1; rfl; (apply Cell.own; (case h => (repeat (first | exact List.Mem.head _ | apply List.mem_append_right))); rfl)) | fail); (case hd => rfl)) | fail)
  · refine v_ret ν3 (outsA1 rfl rfl) (by repeat (first | exact List.sublist_append_left _ _ | fail)) ?_
    rw [show encL x = headL x by rw [encL, if_neg (by omega), if_neg (by omega)]]
    exact ⟨hlh _ (GH.le_refl _), ho3⟩
  · refine v_call (μ1 := []) (μ2 := _) rfl (rcmd_s _ x.cmd hc (by omega) (by omega) (by omega)) (List.Perm.refl _) rfl ?_
    rintro r4 G4 μ4 - ⟨hleR, hg4⟩
    refine v_frz μ4 (by repeat (first | exact PickA.here _ | fail)) ?_
    intro H4 hle4 hG4
    have hs4 : Sl H4 1 (IntR .u8) r4 (vbytes x.cmd.kind ++ putL x.cmd 6) := hg4.ints hG4 (hcw)
    have hsrc4 := fun μ => Src.ints (μ := μ) hs4
    obtain ⟨A4, c4, rfl, -, -⟩ := hg4.shape
    repeat' (fail)
    refine v_append (e := 5) (sz := 1) (zero := .int .u8 0) rfl (by omega) rfl rfl ho3 (PickA.perm (by repeat (first | exact PickA.here _ | fail))) (hsrc4 _) (allOne_ints _) (by (try simp only [List.length_append, sbytes_length]); omega) (by simp only [maxLen]; (try simp only [List.length_append, sbytes_length]); omega) rfl fun v4 ν4 ho4 => ?_
    rw [← List.map_append, ← List.length_append] at ho4
    repeat' (first | apply v_seq | apply v_region | apply v_nil | apply v_skip | (apply v_pure; (case hop => first | (apply p_move <;> rfl) | (apply p_eq <;> rfl) | (apply p_assign <;> rfl) | (apply p_fieldAddrB <;> rfl) | fail); (case hd => rfl)) | (apply v_cond; (case hc => rfl); all_goals (intro h; (try simp only [reduceCtorEq, dec_true, dec_false, decide_eq_true_eq, decide_eq_false_iff_not, Bool.not_eq_true', Bool.not_eq_false', Option.isNone_iff_eq_none, beq_true, beq_false, beq_iff_eq, beq_eq_false_iff_ne, ne_eq, decide_eq_decide, Bool.not_eq_true, Bool.not_eq_false, Decidable.not_not] at h); first | (exfalso; omega) | skip)) | (apply v_read; (case hop => first | (apply r_load1; rfl; (apply Cell.own; (case h => (repeat (first | exact List.Mem.head _ | apply List.mem_append_right))); rfl)) | fail); (case hd => rfl)) | fail)
    refine v_ret ν4 (outsA1 rfl rfl) (by repeat (first | exact List.sublist_append_left _ _ | fail)) ?_
    rw [show encL x = headL x ++ (vbytes x.cmd.kind ++ putL x.cmd 6) by rw [encL, if_pos (by omega)]; simp]
    exact ⟨hlh _ (fun b o q => hle4 b o (hleR b o q)), by simpa using ho4⟩
  · refine v_call (μ1 := []) (μ2 := _) rfl (rcmd_s _ x.cmd hc (by omega) (by omega) (by omega)) (List.Perm.refl _) rfl ?_
    rintro r4 G4 μ4 - ⟨hleR, hg4⟩
    refine v_frz μ4 (by repeat (first | exact PickA.here _ | fail)) ?_
    intro H4 hle4 hG4
    have hs4 : Sl H4 1 (IntR .u8) r4 (vbytes x.cmd.kind ++ putL x.cmd 6) := hg4.ints hG4 (hcw)
    have hsrc4 := fun μ => Src.ints (μ := μ) hs4
    obtain ⟨A4, c4, rfl, -, -⟩ := hg4.shape
    repeat' (fail)
    refine v_append (e := 5) (sz := 1) (zero := .int .u8 0) rfl (by omega) rfl rfl ho3 (PickA.perm (by repeat (first | exact PickA.here _ | fail))) (hsrc4 _) (allOne_ints _) (by (try simp only [List.length_append, sbytes_length]); omega) (by simp only [maxLen]; (try simp only [List.length_append, sbytes_length]); omega) rfl fun v4 ν4 ho4 => ?_
    rw [← List.map_append, ← List.length_append] at ho4
    repeat' (first | apply v_seq | apply v_region | apply v_nil | apply v_skip | (apply v_pure; (case hop => first | (apply p_move <;> rfl) | (apply p_eq <;> rfl) | (apply p_assign <;> rfl) | (apply p_fieldAddrB <;> rfl) | fail); (case hd => rfl)) | (apply v_cond; (case hc => rfl); all_goals (intro h; (try simp only [reduceCtorEq, dec_true, dec_false, decide_eq_true_eq, decide_eq_false_iff_not, Bool.not_eq_true', Bool.not_eq_false', Option.isNone_iff_eq_none, beq_true, beq_false, beq_iff_eq, beq_eq_false_iff_ne, ne_eq, decide_eq_decide, Bool.not_eq_true, Bool.not_eq_false, Decidable.not_not] at h); first | (exfalso; omega) | skip)) | (apply v_read; (case hop => first | (apply r_load1; rfl; (apply Cell.own; (case h => (repeat (first | exact List.Mem.head _ | apply List.mem_append_right))); rfl)) | fail); (case hd => rfl)) | fail)
    refine v_ret ν4 (outsA1 rfl rfl) (by repeat (first | exact List.sublist_append_left _ _ | fail)) ?_
    rw [show encL x = headL x ++ (vbytes x.cmd.kind ++ putL x.cmd 6) by rw [encL, if_pos (by omega)]; simp]
    exact ⟨hlh _ (fun b o q => hle4 b o (hleR b o q)), by simpa using ho4⟩
  · refine v_call (μ1 := []) (μ2 := _) rfl (rnum_s _ (x.image.length : Nat) (by omega)) (List.Perm.refl _) rfl ?_
    rintro r4 G4 μ4 - ⟨rfl, hg4⟩
    refine v_frz μ4 (by repeat (first | exact PickA.here _ | fail)) ?_
    intro H4 hle4 hG4
    have hs4 : Sl H4 1 (IntR .u8) r4 (vbytes x.image.length) := hg4.ints hG4 (fun x hx => vbytes_wf (by omega) x hx)
    have hsrc4 := fun μ => Src.ints (μ := μ) hs4
    obtain ⟨A4, c4, rfl, -, -⟩ := hg4.shape
    repeat' (fail)
    refine v_append (e := 5) (sz := 1) (zero := .int .u8 0) rfl (by omega) rfl rfl ho3 (PickA.perm (by repeat (first | exact PickA.here _ | fail))) (hsrc4 _) (allOne_ints _) (by (try simp only [List.length_append, sbytes_length]); omega) (by simp only [maxLen]; (try simp only [List.length_append, sbytes_length]); omega) rfl fun v4 ν4 ho4 => ?_
    rw [← List.map_append, ← List.length_append] at ho4
    repeat' (first | apply v_region | apply v_nil | (apply v_pure; (case hop => first | (apply p_move <;> rfl) | (apply p_assign <;> rfl) | (apply p_fieldAddrB <;> rfl) | fail); (case hd => rfl)) | (apply v_read; (case hop => first | (apply r_load1; rfl; (apply Cell.own; (case h => (repeat (first | exact List.Mem.head _ | apply List.mem_append_right))); rfl)) | fail); (case hd => rfl)) | fail)
    have hsi := fun μ => Src.ints (μ := μ) (hi3.mono hle4)
    refine v_append (e := 5) (sz := 1) (zero := .int .u8 0) rfl (by omega) rfl rfl ho4 (PickA.perm (by repeat (first | exact PickA.here _ | fail))) (hsi _) (allOne_ints _) (by (try simp only [List.length_append, sbytes_length]); omega) (by simp only [maxLen]; (try simp only [List.length_append, sbytes_length]); omega) rfl fun v5 ν5 ho5 => ?_
    rw [← List.map_append, ← List.length_append] at ho5
    repeat' (first | apply v_seq | apply v_region | apply v_nil | (apply v_pure; (case hop => first | (apply p_move <;> rfl) | (apply p_assign <;> rfl) | fail); (case hd => rfl)) | fail)
    refine v_ret ν5 (outsA1 rfl rfl) (by repeat (first | exact List.sublist_append_left _ _ | fail)) ?_
    rw [show encL x = headL x ++ vbytes x.image.length ++ x.image by rw [encL, if_neg (by omega), if_pos (by omega)]]
    exact ⟨hlh _ hle4, ho5⟩
end Go.Proofs.YtnoiahlpmgbhfaaDoor
/-
  recone (layer 16), the fourteenth part: what a reader reads of a record, in plain Lean.
-/
set_option linter.unusedSimpArgs false
set_option linter.unusedVariables false
namespace Go.Proofs.YtnoiahlpmgbhfaaDoor
open Go.Vx Go.ChangeShapes Go.WideShapes Go.ChangeAt Go.RowKit
/-- What is read of a record. -/
def decX (s : Option (List Int)) : Rc :=
  if nV s = 2 ∨ nV s = 3 then ⟨nV s, nV (nS s), nV (nS (nS s)), nV (nS (nS (nS s))), (getK (nS (nS (nS (nS s)))) 6).1, []⟩
  else if nV s = 4 then ⟨nV s, nV (nS s), nV (nS (nS s)), nV (nS (nS (nS s))), zeroC, rawB 32768 (nS (nS (nS (nS s))))⟩
  else ⟨nV s, nV (nS s), nV (nS (nS s)), nV (nS (nS (nS s))), zeroC, []⟩
def decS (s : Option (List Int)) : Option (List Int) :=
  if nV s = 2 ∨ nV s = 3 then (getK (nS (nS (nS (nS s)))) 6).2
  else if nV s = 4 then rawS 32768 (nS (nS (nS (nS s))))
  else nS (nS (nS (nS s)))
theorem decX_ok {s : Option (List Int)} (h : byteS s) : (decX s).cmd.ok := by
  have h4 := numS_b (numS_b (numS_b (numS_b h 9223372036854775807) 9223372036854775807) 9223372036854775807) 9223372036854775807
  unfold decX
  split
  · exact (getW_ok _ h4 6).1
  · split <;> exact zeroC_ok
theorem rec0 {k r n i : Int} {c : Cm} {len : Nat} (h : recI k r n i c len = 0) : (1 ≤ k ∧ k ≤ 4) ∧ ranP k r n i ∧ ¬ (k = 4 ∧ 32768 < len) ∧ ((k = 2 ∨ k = 3) → cmdI c = 0) ∧ ¬ othP k r n i c len := by
  unfold recI at h
  obtain ⟨h1, h⟩ := ite0 (by decide) h
  obtain ⟨h2, h⟩ := ite0 (by decide) h
  obtain ⟨h3, h⟩ := ite0 (by decide) h
  by_cases hc : (k = 2 ∨ k = 3) ∧ cmdI c ≠ 0
  · rw [if_pos hc] at h; exact absurd h hc.2
  · rw [if_neg hc] at h
    obtain ⟨h4, h⟩ := ite0 (by decide) h
    refine ⟨by omega, Decidable.not_not.1 h2, h3, fun hk => ?_, h4⟩
    exact Decidable.not_not.1 fun hn => hc ⟨hk, hn⟩
theorem older0 {x : Rc} (h : olderI x = 0) : recI x.kind x.round x.node x.index x.cmd x.image.length = 0 ∧ ((x.kind = 2 ∨ x.kind = 3) → HasV 1 x.cmd.kind) := by
  unfold olderI at h
  by_cases h0 : recI x.kind x.round x.node x.index x.cmd x.image.length = 0
  · rw [if_neg (by rw [h0]; decide)] at h
    obtain ⟨h1, -⟩ := ite0 (by decide) h
    refine ⟨h0, fun hk => ?_⟩
    exact Decidable.not_not.1 fun hn => h1 ⟨hk, hn⟩
  · rw [if_pos h0] at h; exact absurd h h0
theorem cmdSz {c : Cm} (h : cmdI c = 0) : c.key.size ≤ 24 ∧ c.val.size ≤ 48 ∧ c.old.size ≤ 48 := by
  rw [cmdI_eq] at h
  unfold cmdE at h
  obtain ⟨h1, h⟩ := ite0 (by decide) h
  obtain ⟨h2, h⟩ := ite0 (by decide) h
  obtain ⟨h3, h⟩ := ite0 (by decide) h
  obtain ⟨h4, h⟩ := ite0 (by decide) h
  have hk : keyB c.key = true → c.key.size ≤ 24 := fun e => by
    simp only [keyB, Bool.and_eq_true, decide_eq_true_eq] at e
    exact e.1.2
  have hv : ∀ s, valB s = true → s.size ≤ 48 := fun s e => by
    simp only [valB, Bool.and_eq_true, decide_eq_true_eq] at e
    exact e.1.1
  have e1 := hv c.val
  have e2 := hv c.old
  cases hkb : keyB c.key <;> cases hvb : valB c.val <;> cases hob : valB c.old <;> simp only [hkb, hvb, hob, true_implies, reduceCtorEq, false_implies, and_true, and_false] at * <;> omega
/-- A record that may be is not too large. -/
theorem fits0 {x : Rc} (h : recI x.kind x.round x.node x.index x.cmd x.image.length = 0) : x.fits ∧ x.small ∧ x.image.length ≤ 32768 ∧ x.cmd.key.size ≤ 24 ∧ x.cmd.val.size ≤ 48 ∧ x.cmd.old.size ≤ 48 := by
  obtain ⟨hk, hr, hi, hc, ho⟩ := rec0 h
  unfold ranP mayP at hr
  have hcz : (x.kind = 2 ∨ x.kind = 3) ∨ x.cmd = zeroCm := by
    by_cases hh : x.kind = 2 ∨ x.kind = 3
    · exact .inl hh
    · exact .inr (Decidable.not_not.1 fun hn => ho (.inr (.inr (.inl ⟨hh, hn⟩))))
  have hs : x.cmd.key.size ≤ 24 ∧ x.cmd.val.size ≤ 48 ∧ x.cmd.old.size ≤ 48 := by
    obtain hh | hh := hcz
    · exact cmdSz (hc hh)
    · rw [hh]; decide
  have him : x.image.length ≤ 32768 := by unfold othP at ho; omega
  refine ⟨?_, ?_, him, hs⟩
  · unfold Rc.fits; omega
  · unfold Rc.small; unfold othP at ho; omega
/-- What is written of a record leads back to it. -/
theorem dec_enc {x : Rc} (h : olderI x = 0) (hl : ¬ x.large) : decX (some (encL x)) = x ∧ decS (some (encL x)) = some [] := by
  obtain ⟨h0, hv⟩ := older0 h
  obtain ⟨hk, hr, hi, hc, ho⟩ := rec0 h0
  unfold Rc.large at hl
  obtain ⟨k, r, n, i, c, im⟩ := x
  simp only at hk hr hi hc ho hv hl
  unfold ranP mayP at hr
  have hcz : ¬ (k = 2 ∨ k = 3) → c = zeroCm := fun hh => Decidable.not_not.1 fun hn => ho (.inr (.inr (.inl ⟨hh, hn⟩)))
  have hr0 : 0 ≤ r ∧ r ≤ 4294967296 := by unfold othP at ho; omega
  have hn0 : 0 ≤ n ∧ n ≤ 9 := by unfold othP at ho; omega
  have hi0 : 0 ≤ i ∧ i ≤ 4294967296 := by unfold othP at ho; omega
  have him : k ≠ 4 → im = [] := fun hh => by
    have : im.length = 0 := by unfold othP at ho; omega
    exact List.eq_nil_of_length_eq_zero this
  have q1 := fun t => num_v (m := k) t (by omega) (by omega)
  have q2 := fun t => num_v (m := r) t (by omega) (by omega)
  have q3 := fun t => num_v (m := n) t (by omega) (by omega)
  have q4 := fun t => num_v (m := i) t (by omega) (by omega)
  by_cases h23 : k = 2 ∨ k = 3
  · have e : encL ⟨k, r, n, i, c, im⟩ = vbytes k ++ (vbytes r ++ (vbytes n ++ (vbytes i ++ (vbytes c.kind ++ putW (wantB 1 c.kind) c 6 ++ [])))) := by
      rw [encL, if_pos h23]; simp [headL, putL]
    obtain ⟨c1, c2, c3, c4, c5⟩ := cmd0 (hc h23)
    have c6 := hv h23
    unfold HasV at c6
    have qk := getV_put (v := 1) (c := c) (hc h23) (.inl ⟨rfl, by omega⟩) (by omega) []
    rw [e]
    unfold decX decS
    simp only [q1, q2, q3, q4, qk]
    rw [if_pos h23, if_pos h23, him (by omega)]
    exact ⟨rfl, rfl⟩
  · rw [hcz h23]
    by_cases h4 : k = 4
    · have e : encL ⟨k, r, n, i, zeroCm, im⟩ = vbytes k ++ (vbytes r ++ (vbytes n ++ (vbytes i ++ (vbytes im.length ++ im ++ [])))) := by
        rw [encL, if_neg h23, if_pos h4]; simp [headL]
      have qk := raw_v (most := 32768) im [] (by omega) (by omega)
      rw [e]
      unfold decX decS
      simp only [q1, q2, q3, q4, qk]
      rw [if_neg h23, if_pos h4, if_neg h23, if_pos h4]
      exact ⟨rfl, rfl⟩
    · have e : encL ⟨k, r, n, i, zeroCm, im⟩ = vbytes k ++ (vbytes r ++ (vbytes n ++ (vbytes i ++ []))) := by
        rw [encL, if_neg h23, if_neg h4]; simp [headL]
      rw [e]
      unfold decX decS
      simp only [q1, q2, q3, q4]
      rw [if_neg h23, if_neg h4, if_neg h23, if_neg h4, him h4]
      exact ⟨rfl, rfl⟩
end Go.Proofs.YtnoiahlpmgbhfaaDoor
/-
  rectwo (layer 17), the second part: Encode, of any record.
-/
set_option linter.unusedSimpArgs false
set_option linter.unusedVariables false
namespace Go.Proofs.YtnoiahlpmgbhfaaDoor
open Go.Vx Go.ChangeShapes Go.WideShapes Go.ChangeAt Go.RowKit
noncomputable def chkI (x : Rc) : Int := recI x.kind x.round x.node x.index x.cmd x.image.length
theorem walkL_tail (x : Rc) : walkL x.kind (vbytes x.round ++ vbytes x.node) (vbytes x.index) (vbytes x.cmd.kind ++ putW (wantB 2 x.cmd.kind) x.cmd 6) (vbytes x.image.length ++ x.image) = tailT x := rfl
theorem tailT_len {x : Rc} (h : x.fits) : (tailT x).length ≤ 40000 := by
  unfold Rc.fits at h
  have h1 := (vbytes_len x.round).1
  have h2 := (vbytes_len x.node).1
  have h3 := (vbytes_len x.index).1
  have h4 := (vbytes_len x.cmd.kind).1
  have h5 := putW_len (wantB 2 x.cmd.kind) x.cmd (by omega) (by omega) (by omega) 6
  have h6 := (vbytes_len (x.image.length : Nat)).1
  have hif : ∀ (p : Prop) [Decidable p] (a b : List Int) (m : Nat), a.length ≤ m → b.length ≤ m → (if p then a else b).length ≤ m := fun p _ a b m ha hb => by split <;> assumption
  unfold tailT
  rw [List.length_append, List.length_append, List.length_append]
  have e1 := hif (x.kind = 1 ∨ x.kind = 2) (vbytes x.round ++ vbytes x.node) [] 22 (by rw [List.length_append]; omega) (by simp)
  have e2 := hif (x.kind = 1) [] (vbytes x.index) 11 (by simp) (by omega)
  have e3 := hif (x.kind = 2 ∨ x.kind = 3) (vbytes x.cmd.kind ++ putW (wantB 2 x.cmd.kind) x.cmd 6) [] 6077 (by rw [List.length_append]; omega) (by simp)
  have e4 := hif (x.kind = 4) (vbytes x.image.length ++ x.image) [] 32791 (by rw [List.length_append]; omega) (by simp)
  omega
def EncT (x : Rc) (r : Value) (G' : GH) (μ' : OH) : Prop := μ' = [] ∧ ∃ v, r = .tuple [v, .int .i64 (chkI x)].toArray ∧ Sl G' 1 (IntR .u8) v (if chkI x = 0 then encT x else [])
theorem encodeT_s {G : GH} (hT : TabsG G) {x : Rc} {xv : Value} (hx : RcV G x xv) (hc : x.cmd.ok) : Con Tryd.prog 70 #[xv] G [] (EncT x) := by
  obtain ⟨iv, rfl, hi⟩ := hx
  obtain ⟨A, cp, rfl, hlc, hcm, -⟩ := id hi.openInt
  simp only [maxLen] at hcm
  have qc := recCheck_s hT x.kind x.round x.node x.index x.cmd hc A x.image.length cp (by omega)
  unfold EncT
  by_cases h0 : chkI x = 0
  rotate_left
  · rw [if_neg h0]
    unfold chkI at h0 ⊢
    generalize recI x.kind x.round x.node x.index x.cmd x.image.length = o at *
    refine v_enter Tryd.func70 rfl Tryd.ntmps70 rfl (fun B => ?_)
    repeat' (first | apply v_seq | apply v_region | apply v_nil | (apply v_pure; (case hop => first | (apply p_move <;> rfl) | (apply p_ne <;> rfl) | (apply p_assign <;> rfl) | fail); (case hd => rfl)) | (apply v_cond; (case hc => rfl); all_goals (intro h; (try simp only [reduceCtorEq, dec_true, dec_false, decide_eq_true_eq, decide_eq_false_iff_not, Bool.not_eq_true', Bool.not_eq_false', Option.isNone_iff_eq_none, beq_true, beq_false, beq_iff_eq, beq_eq_false_iff_ne, ne_eq, decide_eq_decide, Bool.not_eq_true, Bool.not_eq_false, Decidable.not_not] at h); first | (exfalso; omega) | skip)) | (apply v_box (zs := recL x.kind x.round x.node x.index x.cmd (.slice A x.image.length cp)); (case hx => rfl); (case hz => rfl); (case hd => rfl); intro xb) | (apply v_callJ (hs := qc); (case ha => rfl); (case hd => rfl)) | (apply v_read; (case hop => first | (apply r_loadNo; (case hx => rfl); (case h => (repeat (first | exact List.Mem.head _ | fail))); (case hd => (repeat (first | with_reducible exact dt_nil | apply dt_here | fail))); (case hn => rfl)) | fail); (case hd => rfl)) | fail)
    refine v_ret [] (outsA2 rfl rfl rfl) (by repeat (first | exact List.nil_sublist _ | fail)) ?_
    exact ⟨rfl, _, rfl, Sl.nil⟩
  · rw [if_pos h0]
    have h0' : recI x.kind x.round x.node x.index x.cmd x.image.length = 0 := h0
    have hf := fits0 h0'
    obtain ⟨hfit, hsm, him, hsz⟩ := hf
    have hk := (rec0 h0').1
    have htl := tailT_len hfit
    unfold Rc.small at hsm
    rw [h0'] at qc
    rw [h0]
    refine v_enter Tryd.func70 rfl Tryd.ntmps70 rfl (fun B => ?_)
    repeat' (first | apply v_seq | apply v_region | apply v_nil | apply v_skip | (apply v_pure; (case hop => first | (apply p_move <;> rfl) | (apply p_nes <;> rfl) | (apply p_assign <;> rfl) | (apply p_fieldAddrB <;> rfl) | (apply p_add; (case hx => rfl); (case hy => rfl); (case h => omega)) | (apply p_build; (case hz => rfl); (case hv => (simp only [List.map_cons, List.map_nil]; repeat (first | with_reducible exact evs_nil | fail))); (case hb => (apply bldL; repeat (first | exact bld_nil | fail)))) | fail); (case hd => rfl)) | (apply v_condF; (case hc => rfl)) | (apply v_box (zs := recL x.kind x.round x.node x.index x.cmd (.slice A x.image.length cp)); (case hx => rfl); (case hz => rfl); (case hd => rfl); intro xb) | (apply v_box (zs := [.slice none 0 0]); (case hx => rfl); (case hz => rfl); (case hd => rfl); intro wb) | (apply v_callJ (hs := qc); (case ha => rfl); (case hd => rfl)) | (apply v_read; (case hop => first | (apply r_loadNo; (case hx => rfl); (case h => (repeat (first | exact List.Mem.head _ | fail))); (case hd => (repeat (first | with_reducible exact dt_nil | apply dt_here | fail))); (case hn => rfl)) | (apply r_load1; rfl; (apply Cell.own; (case h => (repeat (first | exact List.Mem.head _ | apply List.Mem.tail | fail))); rfl)) | fail); (case hd => rfl)) | (apply v_alloc; (case hz => rfl); (case hd => rfl); intro b) | (apply v_store; (case hp => rfl); (case hx => rfl); (case hc => rfl); (case hsz => rfl); (case h1 => rfl); (case hb => (repeat (first | exact List.Mem.head _ | fail))); (case hfit => first | exact Nat.le_of_ble_eq_true rfl | fail); (case hov => (first | ((repeat (first | with_reducible exact ov_nil | apply ov_cons | fail)); done) | fail)); (case hu => repeat (first | exact Upd.here _ _ | fail))) | fail)
    rename Nat => pb
    refine v_call (μ1 := [(wb, _)]) (μ2 := _) rfl (wnumber_s wb (x.kind + 16) Sl.nil (by simp) (by omega)) (PickA.perm (by repeat (first | exact PickA.here _ | apply PickA.cons | fail))) rfl ?_
    rintro r1 G1 _ hle1 ⟨v1, rfl, s1⟩
    repeat' (first | apply v_seq | apply v_region | apply v_nil | (apply v_pure; (case hop => first | (apply p_fieldAddrB <;> rfl) | (apply p_makeFunc <;> rfl) | fail); (case hd => rfl)) | (apply v_read; (case hop => first | (apply r_load1; rfl; (apply Cell.own; (case h => (repeat (first | exact List.Mem.head _ | apply List.Mem.tail | fail))); rfl)) | fail); (case hd => rfl)) | fail)
    have e1 := enc1_s G wb pb xb x.kind x.round x.node x.index x.cmd (.slice A x.image.length cp) (by omega) (by omega)
    have e2 := enc2_s G wb pb xb x.kind x.round x.node x.index x.cmd (.slice A x.image.length cp) (by omega)
    have e3 := enc3_s G wb pb xb x.kind x.round x.node x.index x.cmd (.slice A x.image.length cp) hc (by omega) (by omega) (by omega)
    have e4 := enc4_s wb pb xb x.kind x.round x.node x.index x.cmd hi (by omega)
    have qk := walkW_s (k := x.kind) (by omega) e1 e2 e3 e4 (by have := (vbytes_len x.round).1; have := (vbytes_len x.node).1; rw [List.length_append]; omega) (by have := (vbytes_len x.index).1; omega) (by have := (vbytes_len x.cmd.kind).1; have := putW_len (wantB 2 x.cmd.kind) x.cmd (by omega) (by omega) (by omega) 6; rw [List.length_append]; omega) hle1 s1 (by have := (vbytes_len (x.kind + 16)).1; simp; omega)
    rw [walkL_tail] at qk
    refine v_call (μ1 := twoW wb pb xb v1 x.kind x.round x.node x.index x.cmd (.slice A x.image.length cp)) (μ2 := []) rfl qk (by apply perm_of_count; intro p; simp only [List.countP_append, List.countP_cons, List.countP_nil, Nat.zero_add, Nat.add_zero]; try ac_rfl) rfl ?_
    rintro r2 G2 _ hle2 ⟨v2, rfl, s2⟩
    repeat' (first | apply v_seq | apply v_region | apply v_nil | (apply v_read; (case hop => first | (apply r_load1; rfl; (apply Cell.own; (case h => (repeat (first | exact List.Mem.head _ | apply List.Mem.tail | fail))); rfl)) | fail); (case hd => rfl)) | fail)
    refine v_call (μ1 := [(wb, _)]) (μ2 := _) rfl (wbytes_s wb s2 (by have := (vbytes_len (x.kind + 16)).1; rw [List.length_append, List.length_append]; simp; omega)) (PickA.perm (by repeat (first | exact PickA.here _ | fail))) rfl ?_
    rintro r3 G3 _ hle3 ⟨rfl, s3⟩
    repeat' (first | apply v_nil | (apply v_pure; (case hop => first | (apply p_assign <;> rfl) | fail); (case hd => rfl)) | fail)
    refine v_ret [] (outsA2 rfl rfl rfl) (by repeat (first | exact List.nil_sublist _ | fail)) ?_
    exact ⟨rfl, _, rfl, s3⟩
end Go.Proofs.YtnoiahlpmgbhfaaDoor
/-
  recone (layer 16), the fifteenth part: Decode, of any bytes.
-/
set_option linter.unusedSimpArgs false
set_option linter.unusedVariables false
namespace Go.Proofs.YtnoiahlpmgbhfaaDoor
open Go.Vx Go.ChangeShapes Go.WideShapes Go.ChangeAt Go.RowKit
def zeroRc : Rc := ⟨0, 0, 0, 0, zeroC, []⟩
def zeroRL : List Value := recL 0 0 0 0 zeroC (.slice none 0 0)
/-- What Decode answers. -/
def decOk (s : Option (List Int)) : Prop := decS s = some [] ∧ (1 ≤ nV s ∧ nV s ≤ 4) ∧ olderI (decX s) = 0
def DecR (s : Option (List Int)) (r : Value) (G' : GH) (μ' : OH) : Prop := μ' = [] ∧ ∃ x v e, r = .tuple [v, .int .i64 e].toArray ∧ RcV G' x v ∧ ((decOk s ∧ x = decX s ∧ e = 0) ∨ (¬ decOk s ∧ x = zeroRc ∧ e ≠ 0))
set_option maxHeartbeats 4000000 in
theorem rdecode_s {G : GH} (hT : TabsG G) {l : List Int} {bv : Value} (hs : Sl G 1 (IntR .u8) bv l) (hl : l.length ≤ 1048000) : Con Tryd.prog 12 #[bv] G [] (DecR (some l)) := by
  have hby : byteS (some l) := fun r hr x hx => by cases hr; exact sl_byte hs x hx
  have hok := decX_ok hby
  have hb4 : byteS (numS 9223372036854775807 (numS 9223372036854775807 (numS 9223372036854775807 (numS 9223372036854775807 (some l))))) := numS_b (numS_b (numS_b (numS_b hby _) _) _) _
  have eX : decX (some l) = if numV 9223372036854775807 (some l) = 2 ∨ numV 9223372036854775807 (some l) = 3 then ⟨numV 9223372036854775807 (some l), numV 9223372036854775807 (numS 9223372036854775807 (some l)), numV 9223372036854775807 (numS 9223372036854775807 (numS 9223372036854775807 (some l))), numV 9223372036854775807 (numS 9223372036854775807 (numS 9223372036854775807 (numS 9223372036854775807 (some l)))), (getK (numS 9223372036854775807 (numS 9223372036854775807 (numS 9223372036854775807 (numS 9223372036854775807 (some l))))) 6).1, []⟩ else if numV 9223372036854775807 (some l) = 4 then ⟨numV 9223372036854775807 (some l), numV 9223372036854775807 (numS 9223372036854775807 (some l)), numV 9223372036854775807 (numS 9223372036854775807 (numS 9223372036854775807 (some l))), numV 9223372036854775807 (numS 9223372036854775807 (numS 9223372036854775807 (numS 9223372036854775807 (some l)))), zeroC, rawB 32768 (numS 9223372036854775807 (numS 9223372036854775807 (numS 9223372036854775807 (numS 9223372036854775807 (some l)))))⟩ else ⟨numV 9223372036854775807 (some l), numV 9223372036854775807 (numS 9223372036854775807 (some l)), numV 9223372036854775807 (numS 9223372036854775807 (numS 9223372036854775807 (some l))), numV 9223372036854775807 (numS 9223372036854775807 (numS 9223372036854775807 (numS 9223372036854775807 (some l)))), zeroC, []⟩ := rfl
  have eS : decS (some l) = if numV 9223372036854775807 (some l) = 2 ∨ numV 9223372036854775807 (some l) = 3 then (getK (numS 9223372036854775807 (numS 9223372036854775807 (numS 9223372036854775807 (numS 9223372036854775807 (some l))))) 6).2 else if numV 9223372036854775807 (some l) = 4 then rawS 32768 (numS 9223372036854775807 (numS 9223372036854775807 (numS 9223372036854775807 (numS 9223372036854775807 (some l))))) else numS 9223372036854775807 (numS 9223372036854775807 (numS 9223372036854775807 (numS 9223372036854775807 (some l)))) := rfl
  have eO : decOk (some l) ↔ (decS (some l) = some [] ∧ (1 ≤ numV 9223372036854775807 (some l) ∧ numV 9223372036854775807 (some l) ≤ 4) ∧ olderI (decX (some l)) = 0) := Iff.rfl
  unfold DecR
  generalize decX (some l) = X at *
  generalize decS (some l) = S at *
  generalize decOk (some l) = OK at *
  refine v_enter Tryd.func12 rfl Tryd.ntmps12 rfl (fun B => ?_)
  repeat' (first | apply v_seq | apply v_region | apply v_nil | (apply v_pure; (case hop => first | (apply p_move <;> rfl) | (apply p_assign <;> rfl) | fail); (case hd => rfl)) | (apply v_alloc; (case hz => rfl); (case hd => rfl); intro b) | fail)
  refine v_call (μ1 := []) (μ2 := _) rfl (newReader_s hs hl) (List.Perm.refl _) rfl ?_
  rintro _ G1 _ - ⟨hle1, rb, bv1, rfl, rfl, hs1⟩
  have hr0 : RdS l 0 0 (some l) := ⟨by omega, .inr ⟨by simp, rfl⟩⟩
  repeat' (first | apply v_seq | apply v_region | apply v_nil | (apply v_pure; (case hop => first | (apply p_move <;> rfl) | (apply p_assign <;> rfl) | fail); (case hd => rfl)) | fail)
  refine v_call (μ1 := [(rb, _)]) (μ2 := _) rfl (rdNumber_s rb _ _ 9223372036854775807 hs1 (by omega) hr0) (PickA.perm (by repeat (first | exact PickA.here _ | fail))) rfl ?_
  rintro _ _ _ - ⟨rfl, rfl, a1, no1, rfl, hr1⟩
  repeat' (first | apply v_seq | apply v_region | apply v_nil | (apply v_pure; (case hop => first | (apply p_move <;> rfl) | (apply p_build; (case hz => rfl); (case hv => (simp only [List.map_cons, List.map_nil]; repeat (first | with_reducible exact evs_nil | (apply evs_cons; (case h1 => rfl))))); (case hb => (apply bldL; repeat (first | exact bld_nil | (apply bld_cons; (case hpf => rfl); (case hc => rfl); (case hs => rfl); (case hl => rfl); (case ho => (first | ((repeat (first | with_reducible exact ov_nil | apply ov_cons | fail)); done) | fail))))))) | fail); (case hd => rfl)) | (apply v_alloc; (case hz => rfl); (case hd => rfl); intro b) | (apply v_store; (case hp => rfl); (case hx => rfl); (case hc => rfl); (case hsz => rfl); (case h1 => rfl); (case hb => (repeat (first | exact List.Mem.head _ | fail))); (case hfit => first | exact Nat.le_of_ble_eq_true rfl | fail); (case hov => (first | ((repeat (first | with_reducible exact ov_nil | apply ov_cons | fail)); done) | fail)); (case hu => repeat (first | exact Upd.here _ _ | fail))) | fail)
  refine v_call (μ1 := [(rb, _)]) (μ2 := _) rfl (rdNumber_s rb _ _ 9223372036854775807 hs1 (by omega) hr1) (PickA.perm (by repeat (first | exact PickA.here _ | apply PickA.cons | fail))) rfl ?_
  rintro _ _ _ - ⟨rfl, rfl, a2, no2, rfl, hr2⟩
  repeat' (first | apply v_seq | apply v_region | apply v_nil | (apply v_pure; (case hop => first | (apply p_move <;> rfl) | (apply p_fieldAddrB <;> rfl) | fail); (case hd => rfl)) | (apply v_store; (case hp => rfl); (case hx => rfl); (case hc => rfl); (case hsz => rfl); (case h1 => rfl); (case hb => (repeat (first | exact List.Mem.head _ | apply List.Mem.tail | fail))); (case hfit => first | exact Nat.le_of_ble_eq_true rfl | fail); (case hov => (first | ((repeat (first | with_reducible exact ov_nil | apply ov_cons | fail)); done) | fail)); (case hu => repeat (first | exact Upd.here _ _ | apply Upd.there | fail))) | fail)
  refine v_call (μ1 := [(rb, _)]) (μ2 := _) rfl (rdNumber_s rb _ _ 9223372036854775807 hs1 (by omega) hr2) (PickA.perm (by repeat (first | exact PickA.here _ | fail))) rfl ?_
  rintro _ _ _ - ⟨rfl, rfl, a3, no3, rfl, hr3⟩
  repeat' (first | apply v_seq | apply v_region | apply v_nil | (apply v_pure; (case hop => first | (apply p_move <;> rfl) | (apply p_fieldAddrB <;> rfl) | fail); (case hd => rfl)) | (apply v_store; (case hp => rfl); (case hx => rfl); (case hc => rfl); (case hsz => rfl); (case h1 => rfl); (case hb => (repeat (first | exact List.Mem.head _ | apply List.Mem.tail | fail))); (case hfit => first | exact Nat.le_of_ble_eq_true rfl | fail); (case hov => (first | ((repeat (first | with_reducible exact ov_nil | apply ov_cons | fail)); done) | fail)); (case hu => repeat (first | exact Upd.here _ _ | apply Upd.there | fail))) | fail)
  refine v_call (μ1 := [(rb, _)]) (μ2 := _) rfl (rdNumber_s rb _ _ 9223372036854775807 hs1 (by omega) hr3) (PickA.perm (by repeat (first | exact PickA.here _ | fail))) rfl ?_
  rintro _ _ _ - ⟨rfl, rfl, a4, no4, rfl, hr4⟩
  repeat' (first | apply v_seq | apply v_region | apply v_nil | (apply v_pure; (case hop => first | (apply p_fieldAddrB <;> rfl) | fail); (case hd => rfl)) | (apply v_read; (case hop => first | (apply r_load1; rfl; (apply Cell.own; (case h => (repeat (first | exact List.Mem.head _ | apply List.Mem.tail | fail))); rfl)) | fail); (case hd => rfl)) | (apply v_store; (case hp => rfl); (case hx => rfl); (case hc => rfl); (case hsz => rfl); (case h1 => rfl); (case hb => (repeat (first | exact List.Mem.head _ | apply List.Mem.tail | fail))); (case hfit => first | exact Nat.le_of_ble_eq_true rfl | fail); (case hov => (first | ((repeat (first | with_reducible exact ov_nil | apply ov_cons | fail)); done) | fail)); (case hu => repeat (first | exact Upd.here _ _ | apply Upd.there | fail))) | fail)
  clear hr0 hr1 hr2 hr3
  generalize numS 9223372036854775807 (numS 9223372036854775807 (numS 9223372036854775807 (numS 9223372036854775807 (some l)))) = s4 at *
  generalize numV 9223372036854775807 (numS 9223372036854775807 (numS 9223372036854775807 (numS 9223372036854775807 (some l)))) = ix at *
  generalize numV 9223372036854775807 (numS 9223372036854775807 (numS 9223372036854775807 (some l))) = nd at *
  generalize numV 9223372036854775807 (numS 9223372036854775807 (some l)) = rd at *
  generalize numV 9223372036854775807 (some l) = kd at *
  have qf := fun G => rfields_s G kd
  have qe := fun G no a => rerr_s G rb bv1 a no
  by_cases h23 : kd = 2 ∨ kd = 3
  · rw [if_pos h23] at eX eS
    have e : hasL kd = [.bool (decide (kd = 2)), .bool true, .bool true, .bool false] := by
      obtain rfl | rfl := h23 <;> rfl
    simp only [e, decide_eq_true (show 1 ≤ kd ∧ kd ≤ 4 by omega)] at qf
    repeat' (first | apply v_seq | apply v_region | apply v_nil | (apply v_pure; (case hop => first | (apply p_move <;> rfl) | (apply p_assign <;> rfl) | (apply p_fieldAddrB <;> rfl) | (apply p_extract0 <;> rfl) | (apply p_extract1 <;> rfl) | fail); (case hd => rfl)) | (apply v_condT; (case hc => rfl)) | (apply v_callJ (hs := qf _); (case ha => rfl); (case hd => rfl)) | (apply v_read; (case hop => first | (apply r_load1; rfl; (apply Cell.own; (case h => (repeat (first | exact List.Mem.head _ | fail))); rfl)) | fail); (case hd => rfl)) | (apply v_alloc; (case hz => rfl); (case hd => rfl); intro b) | (apply v_store; (case hp => rfl); (case hx => rfl); (case hc => rfl); (case hsz => rfl); (case h1 => rfl); (case hb => (repeat (first | exact List.Mem.head _ | fail))); (case hfit => first | exact Nat.le_of_ble_eq_true rfl | fail); (case hov => (first | ((repeat (first | with_reducible exact ov_nil | apply ov_cons | fail)); done) | fail)); (case hu => repeat (first | exact Upd.here _ _ | fail))) | fail)
    refine v_call (μ1 := [(rb, _)]) (μ2 := _) rfl (cgetV_s 1 rb _ _ hs1 (by omega) hr4) (PickA.perm (by repeat (first | exact PickA.here _ | apply PickA.cons | fail))) rfl ?_
    rintro _ G2 _ hle2 ⟨rfl, a5, no5, rfl, hr5⟩
    have qo := older_s (x := X) (xv := .agg (recL kd rd nd ix (getK s4 6).1 (.slice none 0 0)).toArray) (hT.le (GH.le_trans hle1 hle2)) (by rw [eX]; exact ⟨_, rfl, Sl.nil⟩) hok
    generalize olderI X = o at *
    repeat' (first | apply v_seq | apply v_region | apply v_nil | apply v_skip | (apply v_take; (case hg => rfl)) | (apply v_pass; (case hg => rfl); (case hn => rfl); (case hd => rfl)) | (apply v_pure; (case hop => first | (apply p_move <;> rfl) | (apply p_eq <;> rfl) | (apply p_ne <;> rfl) | (apply p_assign <;> rfl) | (apply p_pickT <;> rfl) | (apply p_pickF <;> rfl) | (apply p_not <;> rfl) | (apply p_fieldAddrB <;> rfl) | (apply p_build; (case hz => rfl); (case hv => (simp only [List.map_cons, List.map_nil]; repeat (first | with_reducible exact evs_nil | fail))); (case hb => (apply bldL; repeat (first | exact bld_nil | fail)))) | fail); (case hd => rfl)) | (apply v_condF; (case hc => rfl)) | (apply v_cond; (case hc => rfl); all_goals (intro h; (try simp only [reduceCtorEq, dec_true, dec_false, decide_eq_true_eq, decide_eq_false_iff_not, Bool.not_eq_true', Bool.not_eq_false', Option.isNone_iff_eq_none, beq_true, beq_false, beq_iff_eq, beq_eq_false_iff_ne, ne_eq, decide_eq_decide, Bool.not_eq_true, Bool.not_eq_false, Decidable.not_not] at h); first | (exfalso; omega) | skip)) | (apply v_guardB; (case h1 => rfl); (case h2 => rfl); all_goals (intro h; (try simp only [reduceCtorEq, dec_true, dec_false, decide_eq_true_eq, decide_eq_false_iff_not, Bool.not_eq_true', Bool.not_eq_false', Option.isNone_iff_eq_none, beq_true, beq_false, beq_iff_eq, beq_eq_false_iff_ne, ne_eq, decide_eq_decide, Bool.not_eq_true, Bool.not_eq_false, Decidable.not_not] at h); first | skip)) | (apply v_callK (hs := qe _ _ _); (case ha => rfl); (case hp => first | exact (Pick.perm (by repeat (first | exact Pick.here _ | fail))) | fail); (case hd => rfl)) | (apply v_read; (case hop => first | (apply r_load1; rfl; (apply Cell.own; (case h => (repeat (first | exact List.Mem.head _ | apply List.Mem.tail | fail))); rfl)) | fail); (case hd => rfl)) | (apply v_store; (case hp => rfl); (case hx => rfl); (case hc => rfl); (case hsz => rfl); (case h1 => rfl); (case hb => (repeat (first | exact List.Mem.head _ | apply List.Mem.tail | fail))); (case hfit => first | exact Nat.le_of_ble_eq_true rfl | fail); (case hov => (first | ((repeat (first | with_reducible exact ov_nil | apply ov_cons | fail)); done) | fail)); (case hu => repeat (first | exact Upd.here _ _ | apply Upd.there | fail))) | fail)
    · refine v_call (μ1 := [(rb, _)]) (μ2 := _) rfl (rdDone_s rb _ _ (hs1.mono hle2) (by omega) hr5) (PickA.perm (by repeat (first | exact PickA.here _ | fail))) rfl ?_
      rintro _ _ _ - ⟨rfl, ⟨ed, rfl, hed⟩, rfl⟩
      repeat' (first | apply v_seq | apply v_region | apply v_nil | apply v_skip | (apply v_pure; (case hop => first | (apply p_move <;> rfl) | (apply p_eq <;> rfl) | (apply p_ne <;> rfl) | (apply p_assign <;> rfl) | (apply p_build; (case hz => rfl); (case hv => (simp only [List.map_cons, List.map_nil]; repeat (first | with_reducible exact evs_nil | fail))); (case hb => (apply bldL; repeat (first | exact bld_nil | fail)))) | fail); (case hd => rfl)) | (apply v_cond; (case hc => rfl); all_goals (intro h; (try simp only [reduceCtorEq, dec_true, dec_false, decide_eq_true_eq, decide_eq_false_iff_not, Bool.not_eq_true', Bool.not_eq_false', Option.isNone_iff_eq_none, beq_true, beq_false, beq_iff_eq, beq_eq_false_iff_ne, ne_eq, decide_eq_decide, Bool.not_eq_true, Bool.not_eq_false, Decidable.not_not] at h); first | (exfalso; omega) | skip)) | (apply v_callJ (hs := qo); (case ha => rfl); (case hd => rfl)) | (apply v_read; (case hop => first | (apply r_loadNo; (case hx => rfl); (case h => (repeat (first | exact List.Mem.head _ | apply List.Mem.tail | fail))); (case hd => (repeat (first | with_reducible exact dt_nil | apply dt_here | fail))); (case hn => rfl)) | fail); (case hd => rfl)) | (apply v_store; (case hp => rfl); (case hx => rfl); (case hc => rfl); (case hsz => rfl); (case h1 => rfl); (case hb => (repeat (first | exact List.Mem.head _ | apply List.Mem.tail | fail))); (case hfit => first | exact Nat.le_of_ble_eq_true rfl | fail); (case hov => (first | ((repeat (first | with_reducible exact ov_nil | apply ov_cons | fail)); done) | fail)); (case hu => repeat (first | exact Upd.here _ _ | apply Upd.there | fail))) | fail)
      · refine v_retM [] (outsM_cell_tmp (vs := zeroRL) (e := 29) rfl rfl rfl (by repeat (first | exact List.Mem.head _ | apply List.Mem.tail)) rfl) (by repeat (first | exact List.nil_sublist _ | fail)) ?_
        exact ⟨rfl, _, _, _, rfl, ⟨_, rfl, Sl.nil⟩, .inr ⟨fun hh => absurd (eO.1 hh).2.2 ‹_›, rfl, ‹_›⟩⟩
      · refine v_retM [] (outsM_cell_tmp (vs := recL kd rd nd ix (getK s4 6).1 (.slice none 0 0)) (e := 29) rfl rfl rfl (by repeat (first | exact List.Mem.head _ | apply List.Mem.tail)) rfl) (by repeat (first | exact List.nil_sublist _ | fail)) ?_
        exact ⟨rfl, _, _, _, rfl, ⟨_, rfl, Sl.nil⟩, .inl ⟨eO.2 ⟨by rw [eS]; exact hed.1 ‹_›, by omega, ‹_›⟩, eX.symm, rfl⟩⟩
      · refine v_retM [] (outsM_cell_tmp (vs := zeroRL) (e := 29) rfl rfl rfl (by repeat (first | exact List.Mem.head _ | apply List.Mem.tail)) rfl) (by repeat (first | exact List.nil_sublist _ | fail)) ?_
        exact ⟨rfl, _, _, _, rfl, ⟨_, rfl, Sl.nil⟩, .inr ⟨fun hh => absurd (hed.2 (by rw [← eS]; exact (eO.1 hh).1)) ‹_›, rfl, ‹_›⟩⟩
    · refine v_retM [] (outsM_cell_tmp (vs := zeroRL) (e := 29) rfl rfl rfl (by repeat (first | exact List.Mem.head _ | apply List.Mem.tail)) rfl) (by repeat (first | exact List.nil_sublist _ | fail)) ?_
      refine ⟨rfl, _, _, _, rfl, ⟨_, rfl, Sl.nil⟩, .inr ⟨fun hh => ?_, rfl, ‹_›⟩⟩
      have h1 := (eO.1 hh).1
      rw [eS] at h1
      obtain ⟨-, ⟨h2, -⟩ | ⟨-, h2⟩⟩ := hr5
      · rw [h2] at h1; cases h1
      · exact absurd h2 ‹_›
  · rw [if_neg h23] at eX eS
    by_cases h4 : kd = 4
    · rw [if_pos h4] at eX eS
      have e : hasL kd = [.bool false, .bool true, .bool false, .bool true] := by rw [h4]; rfl
      simp only [e, decide_eq_true (show 1 ≤ kd ∧ kd ≤ 4 by omega)] at qf
      repeat' (first | apply v_seq | apply v_region | apply v_nil | apply v_skip | (apply v_pure; (case hop => first | (apply p_move <;> rfl) | (apply p_assign <;> rfl) | (apply p_fieldAddrB <;> rfl) | (apply p_extract0 <;> rfl) | (apply p_extract1 <;> rfl) | fail); (case hd => rfl)) | (apply v_condT; (case hc => rfl)) | (apply v_condF; (case hc => rfl)) | (apply v_callJ (hs := qf _); (case ha => rfl); (case hd => rfl)) | (apply v_read; (case hop => first | (apply r_load1; rfl; (apply Cell.own; (case h => (repeat (first | exact List.Mem.head _ | fail))); rfl)) | fail); (case hd => rfl)) | (apply v_alloc; (case hz => rfl); (case hd => rfl); intro b) | (apply v_store; (case hp => rfl); (case hx => rfl); (case hc => rfl); (case hsz => rfl); (case h1 => rfl); (case hb => (repeat (first | exact List.Mem.head _ | fail))); (case hfit => first | exact Nat.le_of_ble_eq_true rfl | fail); (case hov => (first | ((repeat (first | with_reducible exact ov_nil | apply ov_cons | fail)); done) | fail)); (case hu => repeat (first | exact Upd.here _ _ | fail))) | fail)
      refine v_call (μ1 := [(rb, _)]) (μ2 := _) rfl (rdRaw_s rb _ _ 32768 hs1 (by omega) hr4) (PickA.perm (by repeat (first | exact PickA.here _ | apply PickA.cons | fail))) rfl ?_
      rintro _ G2 _ hle2 ⟨hraw, a5, no5, rfl, hr5⟩
      obtain ⟨A1, c1, rfl, -⟩ := hraw.openInt
      have qo := older_s (x := X) (xv := .agg (recL kd rd nd ix zeroC (.slice A1 (rawB 32768 s4).length c1)).toArray) (hT.le (GH.le_trans hle1 hle2)) (by rw [eX]; exact ⟨_, rfl, hraw⟩) hok
      generalize olderI X = o at *
      repeat' (first | apply v_seq | apply v_region | apply v_nil | apply v_skip | (apply v_take; (case hg => rfl)) | (apply v_pass; (case hg => rfl); (case hn => rfl); (case hd => rfl)) | (apply v_pure; (case hop => first | (apply p_move <;> rfl) | (apply p_eq <;> rfl) | (apply p_ne <;> rfl) | (apply p_assign <;> rfl) | (apply p_pickT <;> rfl) | (apply p_pickF <;> rfl) | (apply p_not <;> rfl) | (apply p_fieldAddrB <;> rfl) | (apply p_build; (case hz => rfl); (case hv => (simp only [List.map_cons, List.map_nil]; repeat (first | with_reducible exact evs_nil | fail))); (case hb => (apply bldL; repeat (first | exact bld_nil | fail)))) | fail); (case hd => rfl)) | (apply v_condF; (case hc => rfl)) | (apply v_cond; (case hc => rfl); all_goals (intro h; (try simp only [reduceCtorEq, dec_true, dec_false, decide_eq_true_eq, decide_eq_false_iff_not, Bool.not_eq_true', Bool.not_eq_false', Option.isNone_iff_eq_none, beq_true, beq_false, beq_iff_eq, beq_eq_false_iff_ne, ne_eq, decide_eq_decide, Bool.not_eq_true, Bool.not_eq_false, Decidable.not_not] at h); first | (exfalso; omega) | skip)) | (apply v_guardB; (case h1 => rfl); (case h2 => rfl); all_goals (intro h; (try simp only [reduceCtorEq, dec_true, dec_false, decide_eq_true_eq, decide_eq_false_iff_not, Bool.not_eq_true', Bool.not_eq_false', Option.isNone_iff_eq_none, beq_true, beq_false, beq_iff_eq, beq_eq_false_iff_ne, ne_eq, decide_eq_decide, Bool.not_eq_true, Bool.not_eq_false, Decidable.not_not] at h); first | skip)) | (apply v_callK (hs := qe _ _ _); (case ha => rfl); (case hp => first | exact (Pick.perm (by repeat (first | exact Pick.here _ | fail))) | fail); (case hd => rfl)) | (apply v_store; (case hp => rfl); (case hx => rfl); (case hc => rfl); (case hsz => rfl); (case h1 => rfl); (case hb => (repeat (first | exact List.Mem.head _ | apply List.Mem.tail | fail))); (case hfit => first | exact Nat.le_of_ble_eq_true rfl | fail); (case hov => (first | ((repeat (first | with_reducible exact ov_nil | apply ov_cons | fail)); done) | fail)); (case hu => repeat (first | exact Upd.here _ _ | apply Upd.there | fail))) | fail)
      · refine v_call (μ1 := [(rb, _)]) (μ2 := _) rfl (rdDone_s rb _ _ (hs1.mono hle2) (by omega) hr5) (PickA.perm (by repeat (first | exact PickA.here _ | fail))) rfl ?_
        rintro _ _ _ - ⟨rfl, ⟨ed, rfl, hed⟩, rfl⟩
        repeat' (first | apply v_seq | apply v_region | apply v_nil | apply v_skip | (apply v_pure; (case hop => first | (apply p_move <;> rfl) | (apply p_eq <;> rfl) | (apply p_ne <;> rfl) | (apply p_assign <;> rfl) | (apply p_build; (case hz => rfl); (case hv => (simp only [List.map_cons, List.map_nil]; repeat (first | with_reducible exact evs_nil | fail))); (case hb => (apply bldL; repeat (first | exact bld_nil | fail)))) | fail); (case hd => rfl)) | (apply v_cond; (case hc => rfl); all_goals (intro h; (try simp only [reduceCtorEq, dec_true, dec_false, decide_eq_true_eq, decide_eq_false_iff_not, Bool.not_eq_true', Bool.not_eq_false', Option.isNone_iff_eq_none, beq_true, beq_false, beq_iff_eq, beq_eq_false_iff_ne, ne_eq, decide_eq_decide, Bool.not_eq_true, Bool.not_eq_false, Decidable.not_not] at h); first | (exfalso; omega) | skip)) | (apply v_callJ (hs := qo); (case ha => rfl); (case hd => rfl)) | (apply v_read; (case hop => first | (apply r_loadNo; (case hx => rfl); (case h => (repeat (first | exact List.Mem.head _ | apply List.Mem.tail | fail))); (case hd => (repeat (first | with_reducible exact dt_nil | apply dt_here | fail))); (case hn => rfl)) | fail); (case hd => rfl)) | (apply v_store; (case hp => rfl); (case hx => rfl); (case hc => rfl); (case hsz => rfl); (case h1 => rfl); (case hb => (repeat (first | exact List.Mem.head _ | apply List.Mem.tail | fail))); (case hfit => first | exact Nat.le_of_ble_eq_true rfl | fail); (case hov => (first | ((repeat (first | with_reducible exact ov_nil | apply ov_cons | fail)); done) | fail)); (case hu => repeat (first | exact Upd.here _ _ | apply Upd.there | fail))) | fail)
        · refine v_retM [] (outsM_cell_tmp (vs := zeroRL) (e := 29) rfl rfl rfl (by repeat (first | exact List.Mem.head _ | apply List.Mem.tail)) rfl) (by repeat (first | exact List.nil_sublist _ | fail)) ?_
          exact ⟨rfl, _, _, _, rfl, ⟨_, rfl, Sl.nil⟩, .inr ⟨fun hh => absurd (eO.1 hh).2.2 ‹_›, rfl, ‹_›⟩⟩
        · refine v_retM [] (outsM_cell_tmp (vs := recL kd rd nd ix zeroC (.slice A1 (rawB 32768 s4).length c1)) (e := 29) rfl rfl rfl (by repeat (first | exact List.Mem.head _ | apply List.Mem.tail)) rfl) (by repeat (first | exact List.nil_sublist _ | fail)) ?_
          exact ⟨rfl, _, _, _, rfl, ⟨_, rfl, hraw⟩, .inl ⟨eO.2 ⟨by rw [eS]; exact hed.1 ‹_›, by omega, ‹_›⟩, eX.symm, rfl⟩⟩
        · refine v_retM [] (outsM_cell_tmp (vs := zeroRL) (e := 29) rfl rfl rfl (by repeat (first | exact List.Mem.head _ | apply List.Mem.tail)) rfl) (by repeat (first | exact List.nil_sublist _ | fail)) ?_
          exact ⟨rfl, _, _, _, rfl, ⟨_, rfl, Sl.nil⟩, .inr ⟨fun hh => absurd (hed.2 (by rw [← eS]; exact (eO.1 hh).1)) ‹_›, rfl, ‹_›⟩⟩
      · refine v_retM [] (outsM_cell_tmp (vs := zeroRL) (e := 29) rfl rfl rfl (by repeat (first | exact List.Mem.head _ | apply List.Mem.tail)) rfl) (by repeat (first | exact List.nil_sublist _ | fail)) ?_
        refine ⟨rfl, _, _, _, rfl, ⟨_, rfl, Sl.nil⟩, .inr ⟨fun hh => ?_, rfl, ‹_›⟩⟩
        have h1 := (eO.1 hh).1
        rw [eS] at h1
        obtain ⟨-, ⟨h2, -⟩ | ⟨-, h2⟩⟩ := hr5
        · rw [h2] at h1; cases h1
        · exact absurd h2 ‹_›
    · rw [if_neg h4] at eX eS
      by_cases h1 : kd = 1
      · have e : hasL kd = [.bool true, .bool false, .bool false, .bool false] := by rw [h1]; rfl
        simp only [e, decide_eq_true (show 1 ≤ kd ∧ kd ≤ 4 by omega)] at qf
        repeat' (first | apply v_seq | apply v_region | apply v_nil | apply v_skip | (apply v_pure; (case hop => first | (apply p_move <;> rfl) | (apply p_assign <;> rfl) | (apply p_fieldAddrB <;> rfl) | (apply p_extract0 <;> rfl) | (apply p_extract1 <;> rfl) | fail); (case hd => rfl)) | (apply v_condF; (case hc => rfl)) | (apply v_callJ (hs := qf _); (case ha => rfl); (case hd => rfl)) | (apply v_read; (case hop => first | (apply r_load1; rfl; (apply Cell.own; (case h => (repeat (first | exact List.Mem.head _ | fail))); rfl)) | fail); (case hd => rfl)) | (apply v_alloc; (case hz => rfl); (case hd => rfl); intro b) | (apply v_store; (case hp => rfl); (case hx => rfl); (case hc => rfl); (case hsz => rfl); (case h1 => rfl); (case hb => (repeat (first | exact List.Mem.head _ | fail))); (case hfit => first | exact Nat.le_of_ble_eq_true rfl | fail); (case hov => (first | ((repeat (first | with_reducible exact ov_nil | apply ov_cons | fail)); done) | fail)); (case hu => repeat (first | exact Upd.here _ _ | fail))) | fail)
        have qo := older_s (x := X) (xv := .agg (recL kd rd nd ix zeroC (.slice none 0 0)).toArray) (hT.le hle1) (by rw [eX]; exact ⟨_, rfl, Sl.nil⟩) hok
        generalize olderI X = o at *
        repeat' (first | apply v_seq | apply v_region | apply v_nil | apply v_skip | (apply v_take; (case hg => rfl)) | (apply v_pass; (case hg => rfl); (case hn => rfl); (case hd => rfl)) | (apply v_pure; (case hop => first | (apply p_move <;> rfl) | (apply p_eq <;> rfl) | (apply p_ne <;> rfl) | (apply p_assign <;> rfl) | (apply p_pickT <;> rfl) | (apply p_pickF <;> rfl) | (apply p_not <;> rfl) | (apply p_build; (case hz => rfl); (case hv => (simp only [List.map_cons, List.map_nil]; repeat (first | with_reducible exact evs_nil | fail))); (case hb => (apply bldL; repeat (first | exact bld_nil | fail)))) | fail); (case hd => rfl)) | (apply v_condF; (case hc => rfl)) | (apply v_cond; (case hc => rfl); all_goals (intro h; (try simp only [reduceCtorEq, dec_true, dec_false, decide_eq_true_eq, decide_eq_false_iff_not, Bool.not_eq_true', Bool.not_eq_false', Option.isNone_iff_eq_none, beq_true, beq_false, beq_iff_eq, beq_eq_false_iff_ne, ne_eq, decide_eq_decide, Bool.not_eq_true, Bool.not_eq_false, Decidable.not_not] at h); first | (exfalso; omega) | skip)) | (apply v_guardB; (case h1 => rfl); (case h2 => rfl); all_goals (intro h; (try simp only [reduceCtorEq, dec_true, dec_false, decide_eq_true_eq, decide_eq_false_iff_not, Bool.not_eq_true', Bool.not_eq_false', Option.isNone_iff_eq_none, beq_true, beq_false, beq_iff_eq, beq_eq_false_iff_ne, ne_eq, decide_eq_decide, Bool.not_eq_true, Bool.not_eq_false, Decidable.not_not] at h); first | skip)) | (apply v_callK (hs := qe _ _ _); (case ha => rfl); (case hp => first | exact (Pick.perm (by repeat (first | exact Pick.here _ | apply Pick.there | fail))) | fail); (case hd => rfl)) | (apply v_store; (case hp => rfl); (case hx => rfl); (case hc => rfl); (case hsz => rfl); (case h1 => rfl); (case hb => (repeat (first | exact List.Mem.head _ | apply List.Mem.tail | fail))); (case hfit => first | exact Nat.le_of_ble_eq_true rfl | fail); (case hov => (first | ((repeat (first | with_reducible exact ov_nil | apply ov_cons | fail)); done) | fail)); (case hu => repeat (first | exact Upd.here _ _ | apply Upd.there | fail))) | fail)
        · refine v_call (μ1 := [(rb, _)]) (μ2 := _) rfl (rdDone_s rb _ _ hs1 (by omega) hr4) (PickA.perm (by repeat (first | exact PickA.here _ | apply PickA.cons | fail))) rfl ?_
          rintro _ _ _ - ⟨rfl, ⟨ed, rfl, hed⟩, rfl⟩
          repeat' (first | apply v_seq | apply v_region | apply v_nil | apply v_skip | (apply v_pure; (case hop => first | (apply p_move <;> rfl) | (apply p_eq <;> rfl) | (apply p_ne <;> rfl) | (apply p_assign <;> rfl) | (apply p_build; (case hz => rfl); (case hv => (simp only [List.map_cons, List.map_nil]; repeat (first | with_reducible exact evs_nil | fail))); (case hb => (apply bldL; repeat (first | exact bld_nil | fail)))) | fail); (case hd => rfl)) | (apply v_cond; (case hc => rfl); all_goals (intro h; (try simp only [reduceCtorEq, dec_true, dec_false, decide_eq_true_eq, decide_eq_false_iff_not, Bool.not_eq_true', Bool.not_eq_false', Option.isNone_iff_eq_none, beq_true, beq_false, beq_iff_eq, beq_eq_false_iff_ne, ne_eq, decide_eq_decide, Bool.not_eq_true, Bool.not_eq_false, Decidable.not_not] at h); first | (exfalso; omega) | skip)) | (apply v_callJ (hs := qo); (case ha => rfl); (case hd => rfl)) | (apply v_read; (case hop => first | (apply r_loadNo; (case hx => rfl); (case h => (repeat (first | exact List.Mem.head _ | apply List.Mem.tail | fail))); (case hd => (repeat (first | with_reducible exact dt_nil | apply dt_here | fail))); (case hn => rfl)) | fail); (case hd => rfl)) | (apply v_store; (case hp => rfl); (case hx => rfl); (case hc => rfl); (case hsz => rfl); (case h1 => rfl); (case hb => (repeat (first | exact List.Mem.head _ | apply List.Mem.tail | fail))); (case hfit => first | exact Nat.le_of_ble_eq_true rfl | fail); (case hov => (first | ((repeat (first | with_reducible exact ov_nil | apply ov_cons | fail)); done) | fail)); (case hu => repeat (first | exact Upd.here _ _ | apply Upd.there | fail))) | fail)
          · refine v_retM [] (outsM_cell_tmp (vs := zeroRL) (e := 29) rfl rfl rfl (by repeat (first | exact List.Mem.head _ | apply List.Mem.tail)) rfl) (by repeat (first | exact List.nil_sublist _ | fail)) ?_
            exact ⟨rfl, _, _, _, rfl, ⟨_, rfl, Sl.nil⟩, .inr ⟨fun hh => absurd (eO.1 hh).2.2 ‹_›, rfl, ‹_›⟩⟩
          · refine v_retM [] (outsM_cell_tmp (vs := recL kd rd nd ix zeroC (.slice none 0 0)) (e := 29) rfl rfl rfl (by repeat (first | exact List.Mem.head _ | apply List.Mem.tail)) rfl) (by repeat (first | exact List.nil_sublist _ | fail)) ?_
            exact ⟨rfl, _, _, _, rfl, ⟨_, rfl, Sl.nil⟩, .inl ⟨eO.2 ⟨by rw [eS]; exact hed.1 ‹_›, by omega, ‹_›⟩, eX.symm, rfl⟩⟩
          · refine v_retM [] (outsM_cell_tmp (vs := zeroRL) (e := 29) rfl rfl rfl (by repeat (first | exact List.Mem.head _ | apply List.Mem.tail)) rfl) (by repeat (first | exact List.nil_sublist _ | fail)) ?_
            exact ⟨rfl, _, _, _, rfl, ⟨_, rfl, Sl.nil⟩, .inr ⟨fun hh => absurd (hed.2 (by rw [← eS]; exact (eO.1 hh).1)) ‹_›, rfl, ‹_›⟩⟩
        · refine v_retM [] (outsM_cell_tmp (vs := zeroRL) (e := 29) rfl rfl rfl (by repeat (first | exact List.Mem.head _ | apply List.Mem.tail)) rfl) (by repeat (first | exact List.nil_sublist _ | fail)) ?_
          refine ⟨rfl, _, _, _, rfl, ⟨_, rfl, Sl.nil⟩, .inr ⟨fun hh => ?_, rfl, ‹_›⟩⟩
          have h1 := (eO.1 hh).1
          rw [eS] at h1
          obtain ⟨-, ⟨h2, -⟩ | ⟨-, h2⟩⟩ := hr4
          · rw [h2] at h1; cases h1
          · exact absurd h2 ‹_›
      · have e : hasL kd = [.bool false, .bool false, .bool false, .bool false] := by unfold hasL; rw [if_neg (by omega), if_neg (by omega), if_neg (by omega), if_neg (by omega)]
        simp only [e, decide_eq_false (show ¬ (1 ≤ kd ∧ kd ≤ 4) by omega)] at qf
        repeat' (first | apply v_seq | apply v_region | apply v_nil | apply v_skip | (apply v_take; (case hg => rfl)) | (apply v_pass; (case hg => rfl); (case hn => rfl); (case hd => rfl)) | (apply v_pure; (case hop => first | (apply p_move <;> rfl) | (apply p_eq <;> rfl) | (apply p_ne <;> rfl) | (apply p_assign <;> rfl) | (apply p_pickT <;> rfl) | (apply p_pickF <;> rfl) | (apply p_not <;> rfl) | (apply p_fieldAddrB <;> rfl) | (apply p_extract0 <;> rfl) | (apply p_extract1 <;> rfl) | (apply p_build; (case hz => rfl); (case hv => (simp only [List.map_cons, List.map_nil]; repeat (first | with_reducible exact evs_nil | fail))); (case hb => (apply bldL; repeat (first | exact bld_nil | fail)))) | fail); (case hd => rfl)) | (apply v_condT; (case hc => rfl)) | (apply v_condF; (case hc => rfl)) | (apply v_cond; (case hc => rfl); all_goals (intro h; (try simp only [reduceCtorEq, dec_true, dec_false, decide_eq_true_eq, decide_eq_false_iff_not, Bool.not_eq_true', Bool.not_eq_false', Option.isNone_iff_eq_none, beq_true, beq_false, beq_iff_eq, beq_eq_false_iff_ne, ne_eq, decide_eq_decide, Bool.not_eq_true, Bool.not_eq_false, Decidable.not_not] at h); first | (exfalso; omega) | skip)) | (apply v_guardB; (case h1 => rfl); (case h2 => rfl); all_goals (intro h; (try simp only [reduceCtorEq, dec_true, dec_false, decide_eq_true_eq, decide_eq_false_iff_not, Bool.not_eq_true', Bool.not_eq_false', Option.isNone_iff_eq_none, beq_true, beq_false, beq_iff_eq, beq_eq_false_iff_ne, ne_eq, decide_eq_decide, Bool.not_eq_true, Bool.not_eq_false, Decidable.not_not] at h); first | skip)) | (apply v_callJ (hs := qf _); (case ha => rfl); (case hd => rfl)) | (apply v_callK (hs := qe _ _ _); (case ha => rfl); (case hp => first | exact (Pick.perm (by repeat (first | exact Pick.here _ | apply Pick.there | fail))) | fail); (case hd => rfl)) | (apply v_read; (case hop => first | (apply r_load1; rfl; (apply Cell.own; (case h => (repeat (first | exact List.Mem.head _ | fail))); rfl)) | fail); (case hd => rfl)) | (apply v_alloc; (case hz => rfl); (case hd => rfl); intro b) | (apply v_store; (case hp => rfl); (case hx => rfl); (case hc => rfl); (case hsz => rfl); (case h1 => rfl); (case hb => (repeat (first | exact List.Mem.head _ | apply List.Mem.tail | fail))); (case hfit => first | exact Nat.le_of_ble_eq_true rfl | fail); (case hov => (first | ((repeat (first | with_reducible exact ov_nil | apply ov_cons | fail)); done) | fail)); (case hu => repeat (first | exact Upd.here _ _ | apply Upd.there | fail))) | fail)
        · refine v_retM [] (outsM_cell_tmp (vs := zeroRL) (e := 29) rfl rfl rfl (by repeat (first | exact List.Mem.head _ | apply List.Mem.tail)) rfl) (by repeat (first | exact List.nil_sublist _ | fail)) ?_
          exact ⟨rfl, _, _, _, rfl, ⟨_, rfl, Sl.nil⟩, .inr ⟨fun hh => by have := (eO.1 hh).2.1; omega, rfl, by decide⟩⟩
        · refine v_retM [] (outsM_cell_tmp (vs := zeroRL) (e := 29) rfl rfl rfl (by repeat (first | exact List.Mem.head _ | apply List.Mem.tail)) rfl) (by repeat (first | exact List.nil_sublist _ | fail)) ?_
          exact ⟨rfl, _, _, _, rfl, ⟨_, rfl, Sl.nil⟩, .inr ⟨fun hh => by have := (eO.1 hh).2.1; omega, rfl, ‹_›⟩⟩
end Go.Proofs.YtnoiahlpmgbhfaaDoor
/-
  rectwo (layer 17), the third part: what is read of a record.
-/
set_option linter.unusedSimpArgs false
set_option linter.unusedVariables false
namespace Go.Proofs.YtnoiahlpmgbhfaaDoor
open Go.Vx Go.ChangeShapes Go.WideShapes Go.ChangeAt Go.RowKit
/-- A reader, the box of its pointer, a record. -/
abbrev twoR (rb pb xb : Nat) (bv : Value) (a : Nat) (no : Int) (k r n i : Int) (c : Cm) (iv : Value) : OH := [(rb, rdO bv (a : Nat) no), (pb, pO rb), (xb, .cells (recL k r n i c iv).toArray 29 (0, 0))]
section
variable {G : GH} {l : List Int} {bv : Value} {s : Option (List Int)} {rb pb xb a : Nat} {no k r n i : Int} {c : Cm} {iv : Value}
theorem rd1_s (hs : Sl G 1 (IntR .u8) bv l) (hl : l.length ≤ 1048576) (hr : RdS l a no s) : Con Tryd.prog 114 #[.pointer (some ⟨pb, 0, none⟩), .pointer (some ⟨xb, 0, none⟩)] G (twoR rb pb xb bv a no k r n i c iv)
    (fun _ G' μ' => G' = G ∧ ∃ a' no', μ' = twoR rb pb xb bv a' no' k (nV s) (nV (nS s)) i c iv ∧ RdS l a' no' (nS (nS s))) := by
  refine v_enter Tryd.func114 rfl Tryd.ntmps114 rfl (fun B => ?_)
  repeat' (first | apply v_seq | apply v_region | (apply v_read; (case hop => first | (apply r_load1; rfl; (apply Cell.own; (case h => (repeat (first | exact List.Mem.head _ | apply List.Mem.tail | fail))); rfl)) | fail); (case hd => rfl)) | fail)
  refine v_call (μ1 := [(rb, _)]) (μ2 := _) rfl (rdNumber_s rb _ _ 9223372036854775807 hs hl hr) (PickA.perm (by repeat (first | exact PickA.here _ | fail))) rfl ?_
  rintro _ _ _ - ⟨rfl, rfl, a1, no1, rfl, hr1⟩
  repeat' (first | apply v_region | apply v_nil | (apply v_pure; (case hop => first | (apply p_fieldAddrB <;> rfl) | fail); (case hd => rfl)) | (apply v_read; (case hop => first | (apply r_load1; rfl; (apply Cell.own; (case h => (repeat (first | exact List.Mem.head _ | apply List.Mem.tail | fail))); rfl)) | fail); (case hd => rfl)) | (apply v_store; (case hp => rfl); (case hx => rfl); (case hc => rfl); (case hsz => rfl); (case h1 => rfl); (case hb => (repeat (first | exact List.Mem.head _ | apply List.Mem.tail | fail))); (case hfit => first | exact Nat.le_of_ble_eq_true rfl | fail); (case hov => (first | ((repeat (first | with_reducible exact ov_nil | apply ov_cons | fail)); done) | fail)); (case hu => repeat (first | exact Upd.here _ _ | apply Upd.there | fail))) | fail)
  refine v_call (μ1 := [(rb, _)]) (μ2 := _) rfl (rdNumber_s rb _ _ 9223372036854775807 hs hl hr1) (PickA.perm (by repeat (first | exact PickA.here _ | fail))) rfl ?_
  rintro _ _ _ - ⟨rfl, rfl, a2, no2, rfl, hr2⟩
  repeat' (first | apply v_nil | (apply v_pure; (case hop => first | (apply p_fieldAddrB <;> rfl) | fail); (case hd => rfl)) | (apply v_store; (case hp => rfl); (case hx => rfl); (case hc => rfl); (case hsz => rfl); (case h1 => rfl); (case hb => (repeat (first | exact List.Mem.head _ | apply List.Mem.tail | fail))); (case hfit => first | exact Nat.le_of_ble_eq_true rfl | fail); (case hov => (first | ((repeat (first | with_reducible exact ov_nil | apply ov_cons | fail)); done) | fail)); (case hu => repeat (first | exact Upd.here _ _ | apply Upd.there | fail))) | fail)
  refine v_end [(rb, _), (pb, _), (xb, _)] (outsA0 rfl) (by repeat (first | exact List.Sublist.refl _ | fail)) ?_
  exact ⟨rfl, a2, no2, rfl, hr2⟩
theorem rd2_s (hs : Sl G 1 (IntR .u8) bv l) (hl : l.length ≤ 1048576) (hr : RdS l a no s) : Con Tryd.prog 115 #[.pointer (some ⟨pb, 0, none⟩), .pointer (some ⟨xb, 0, none⟩)] G (twoR rb pb xb bv a no k r n i c iv)
    (fun _ G' μ' => G' = G ∧ ∃ a' no', μ' = twoR rb pb xb bv a' no' k r n (nV s) c iv ∧ RdS l a' no' (nS s)) := by
  refine v_enter Tryd.func115 rfl Tryd.ntmps115 rfl (fun B => ?_)
  repeat' (first | apply v_region | (apply v_read; (case hop => first | (apply r_load1; rfl; (apply Cell.own; (case h => (repeat (first | exact List.Mem.head _ | apply List.Mem.tail | fail))); rfl)) | fail); (case hd => rfl)) | fail)
  refine v_call (μ1 := [(rb, _)]) (μ2 := _) rfl (rdNumber_s rb _ _ 9223372036854775807 hs hl hr) (PickA.perm (by repeat (first | exact PickA.here _ | fail))) rfl ?_
  rintro _ _ _ - ⟨rfl, rfl, a1, no1, rfl, hr1⟩
  repeat' (first | apply v_nil | (apply v_pure; (case hop => first | (apply p_fieldAddrB <;> rfl) | fail); (case hd => rfl)) | (apply v_store; (case hp => rfl); (case hx => rfl); (case hc => rfl); (case hsz => rfl); (case h1 => rfl); (case hb => (repeat (first | exact List.Mem.head _ | apply List.Mem.tail | fail))); (case hfit => first | exact Nat.le_of_ble_eq_true rfl | fail); (case hov => (first | ((repeat (first | with_reducible exact ov_nil | apply ov_cons | fail)); done) | fail)); (case hu => repeat (first | exact Upd.here _ _ | apply Upd.there | fail))) | fail)
  refine v_end [(rb, _), (pb, _), (xb, _)] (outsA0 rfl) (by repeat (first | exact List.Sublist.refl _ | fail)) ?_
  exact ⟨rfl, a1, no1, rfl, hr1⟩
/-- A command in version 2. -/
abbrev getT (s : Option (List Int)) : Cm × Option (List Int) := getW (wantB 2 (nV s)) s 6
theorem rd3_s (hs : Sl G 1 (IntR .u8) bv l) (hl : l.length ≤ 1048576) (hr : RdS l a no s) : Con Tryd.prog 116 #[.pointer (some ⟨pb, 0, none⟩), .pointer (some ⟨xb, 0, none⟩)] G (twoR rb pb xb bv a no k r n i c iv)
    (fun _ G' μ' => ∃ a' no', μ' = twoR rb pb xb bv a' no' k r n i (getT s).1 iv ∧ RdS l a' no' (getT s).2) := by
  have q := cgetV_s 2 rb _ _ hs hl hr
  have eg : getW (wantB 2 (nV s)) s 6 = getT s := rfl
  rw [eg] at q
  generalize getT s = g at *
  obtain ⟨gc, gs⟩ := g
  refine v_enter Tryd.func116 rfl Tryd.ntmps116 rfl (fun B => ?_)
  repeat' (first | apply v_region | (apply v_read; (case hop => first | (apply r_load1; rfl; (apply Cell.own; (case h => (repeat (first | exact List.Mem.head _ | apply List.Mem.tail | fail))); rfl)) | fail); (case hd => rfl)) | fail)
  refine v_call (μ1 := [(rb, _)]) (μ2 := _) rfl q (PickA.perm (by repeat (first | exact PickA.here _ | fail))) rfl ?_
  rintro _ G1 _ hle ⟨rfl, a1, no1, rfl, hr1⟩
  repeat' (first | apply v_nil | (apply v_pure; (case hop => first | (apply p_fieldAddrB <;> rfl) | fail); (case hd => rfl)) | (apply v_store; (case hp => rfl); (case hx => rfl); (case hc => rfl); (case hsz => rfl); (case h1 => rfl); (case hb => (repeat (first | exact List.Mem.head _ | apply List.Mem.tail | fail))); (case hfit => first | exact Nat.le_of_ble_eq_true rfl | fail); (case hov => (first | ((repeat (first | with_reducible exact ov_nil | apply ov_cons | fail)); done) | fail)); (case hu => repeat (first | exact Upd.here _ _ | apply Upd.there | fail))) | fail)
  refine v_end [(rb, _), (pb, _), (xb, _)] (outsA0 rfl) (by repeat (first | exact List.Sublist.refl _ | fail)) ?_
  exact ⟨a1, no1, rfl, hr1⟩
theorem rd4_s (hs : Sl G 1 (IntR .u8) bv l) (hl : l.length ≤ 1048576) (hr : RdS l a no s) : Con Tryd.prog 117 #[.pointer (some ⟨pb, 0, none⟩), .pointer (some ⟨xb, 0, none⟩)] G (twoR rb pb xb bv a no k r n i c iv)
    (fun _ G' μ' => ∃ a' no' jv, μ' = twoR rb pb xb bv a' no' k r n i c jv ∧ Sl G' 1 (IntR .u8) jv (rawB 32768 s) ∧ RdS l a' no' (rawS 32768 s)) := by
  have q := rdRaw_s rb _ _ 32768 hs hl hr
  generalize rawB 32768 s = rl at *
  refine v_enter Tryd.func117 rfl Tryd.ntmps117 rfl (fun B => ?_)
  repeat' (first | apply v_region | (apply v_read; (case hop => first | (apply r_load1; rfl; (apply Cell.own; (case h => (repeat (first | exact List.Mem.head _ | apply List.Mem.tail | fail))); rfl)) | fail); (case hd => rfl)) | fail)
  refine v_call (μ1 := [(rb, _)]) (μ2 := _) rfl q (PickA.perm (by repeat (first | exact PickA.here _ | fail))) rfl ?_
  rintro _ G1 _ hle ⟨h1, a1, no1, rfl, hr1⟩
  obtain ⟨A1, c1, rfl, -⟩ := h1.openInt
  repeat' (first | apply v_nil | (apply v_pure; (case hop => first | (apply p_fieldAddrB <;> rfl) | fail); (case hd => rfl)) | (apply v_store; (case hp => rfl); (case hx => rfl); (case hc => rfl); (case hsz => rfl); (case h1 => rfl); (case hb => (repeat (first | exact List.Mem.head _ | apply List.Mem.tail | fail))); (case hfit => first | exact Nat.le_of_ble_eq_true rfl | fail); (case hov => (first | ((repeat (first | with_reducible exact ov_nil | apply ov_cons | fail)); done) | fail)); (case hu => repeat (first | exact Upd.here _ _ | apply Upd.there | fail))) | fail)
  refine v_end [(rb, _), (pb, _), (xb, _)] (outsA0 rfl) (by repeat (first | exact List.Sublist.refl _ | fail)) ?_
  exact ⟨a1, no1, _, rfl, h1, hr1⟩
end
theorem whenR_s {f : FuncId} [Callable Tryd.prog f] {pb xb : Nat} (b : Bool) {G : GH} {μ : OH} {Ψ : GH → OH → Prop} (q : Con Tryd.prog f #[.pointer (some ⟨pb, 0, none⟩), .pointer (some ⟨xb, 0, none⟩)] G μ (fun _ G' μ' => Ψ G' μ')) :
    Con Tryd.prog 149 #[.bool b, clo f pb xb] G μ (fun _ G' μ' => (b = true ∧ Ψ G' μ') ∨ (b = false ∧ G' = G ∧ μ' = μ)) := by
  refine v_enter Tryd.func149 rfl Tryd.ntmps149 rfl (fun B => ?_)
  cases b
  · repeat' (first | apply v_seq | apply v_region | apply v_nil | apply v_skip | (apply v_pure; (case hop => first | (apply p_move <;> rfl)); (case hd => rfl)) | (apply v_condF; (case hc => rfl)) | fail)
    refine v_end μ (outsA0 rfl) (List.Sublist.refl _) ?_
    exact .inr ⟨rfl, rfl, rfl⟩
  · repeat' (first | apply v_seq | apply v_region | apply v_nil | (apply v_pure; (case hop => first | (apply p_move <;> rfl)); (case hd => rfl)) | (apply v_condT; (case hc => rfl)) | fail)
    refine v_callC (μ1 := μ) (μ2 := []) (first := []) (captured := [.pointer (some ⟨pb, 0, none⟩), .pointer (some ⟨xb, 0, none⟩)]) (vs := []) rfl rfl q (by simp) rfl ?_
    rintro r1 G1 μ1 hle1 h1
    repeat' (first | apply v_nil | fail)
    refine v_end μ1 (outsA0 rfl) (by simp) ?_
    exact .inl ⟨rfl, h1⟩
/-- What is read of a record of a kind. -/
def rdX (k : Int) (s : Option (List Int)) : Rc × Option (List Int) :=
  if k = 1 then (⟨k, nV s, nV (nS s), 0, zeroC, []⟩, nS (nS s))
  else if k = 2 then (⟨k, nV s, nV (nS s), nV (nS (nS s)), (getT (nS (nS (nS s)))).1, []⟩, (getT (nS (nS (nS s)))).2)
  else if k = 3 then (⟨k, 0, 0, nV s, (getT (nS s)).1, []⟩, (getT (nS s)).2)
  else (⟨k, 0, 0, nV s, zeroC, rawB 32768 (nS s)⟩, rawS 32768 (nS s))
theorem walkR_s {G : GH} {l : List Int} {bv : Value} {s : Option (List Int)} {rb pb xb a : Nat} {no k : Int} (hk : k = 1 ∨ k = 2 ∨ k = 3 ∨ k = 4) (hs : Sl G 1 (IntR .u8) bv l) (hl : l.length ≤ 1048576) (hr : RdS l a no s) :
    Con Tryd.prog 109 #[.int .i64 k, clo 114 pb xb, clo 115 pb xb, clo 116 pb xb, clo 117 pb xb] G (twoR rb pb xb bv a no k 0 0 0 zeroC (.slice none 0 0))
    (fun _ G' μ' => ∃ a' no' iv, μ' = twoR rb pb xb bv a' no' k (rdX k s).1.round (rdX k s).1.node (rdX k s).1.index (rdX k s).1.cmd iv ∧ Sl G' 1 (IntR .u8) iv (rdX k s).1.image ∧ RdS l a' no' (rdX k s).2) := by
  refine v_enter Tryd.func109 rfl Tryd.ntmps109 rfl (fun B => ?_)
  obtain rfl | rfl | rfl | rfl := hk
  · repeat' (first | apply v_seq | apply v_region | (apply v_pass; (case hg => rfl); (case hn => rfl); (case hd => rfl)) | (apply v_pure; (case hop => first | (apply p_move <;> rfl) | (apply p_eqs <;> rfl) | (apply p_pickT <;> rfl) | fail); (case hd => rfl)) | fail)
    refine v_call (μ1 := twoR rb pb xb bv a no 1 0 0 0 zeroC (.slice none 0 0)) (μ2 := []) rfl (whenR_s _ (rd1_s hs hl hr)) (by simp) rfl ?_
    rintro _ G1 _ hle1 (⟨hb, rfl, a1, no1, rfl, hr1⟩ | ⟨hb, rfl, rfl⟩)
    rotate_left
    · (exfalso; revert hb; simp [dec_eq])
    repeat' (first | apply v_seq | apply v_region | apply v_nil | (apply v_pure; (case hop => first | (apply p_move <;> rfl) | (apply p_nes <;> rfl) | fail); (case hd => rfl)) | fail)
    refine v_call (μ1 := twoR rb pb xb bv a1 no1 1 (nV s) (nV (nS s)) 0 zeroC (.slice none 0 0)) (μ2 := []) rfl (whenR_s _ (rd2_s hs hl hr1)) (by simp) rfl ?_
    rintro _ G2 _ hle2 (⟨hb, rfl, a2, no2, rfl, hr2⟩ | ⟨hb, rfl, rfl⟩)
    · (exfalso; revert hb; simp [dec_eq])
    repeat' (first | apply v_seq | apply v_region | apply v_nil | (apply v_take; (case hg => rfl)) | (apply v_pure; (case hop => first | (apply p_move <;> rfl) | (apply p_eq <;> rfl) | (apply p_pickF <;> rfl) | fail); (case hd => rfl)) | (apply v_guardB; (case h1 => rfl); (case h2 => rfl); all_goals (intro h; (try simp only [reduceCtorEq, dec_true, dec_false, decide_eq_true_eq, decide_eq_false_iff_not, Bool.not_eq_true', Bool.not_eq_false', Option.isNone_iff_eq_none, beq_true, beq_false, beq_iff_eq, beq_eq_false_iff_ne, ne_eq, decide_eq_decide, Bool.not_eq_true, Bool.not_eq_false, Decidable.not_not] at h); first | (exfalso; omega) | skip)) | fail)
    refine v_call (μ1 := twoR rb pb xb bv a1 no1 1 (nV s) (nV (nS s)) 0 zeroC (.slice none 0 0)) (μ2 := []) rfl (whenR_s _ (rd3_s hs hl hr1)) (by simp) rfl ?_
    rintro _ G3 _ hle3 (⟨hb, a3, no3, rfl, hr3⟩ | ⟨hb, rfl, rfl⟩)
    · (exfalso; revert hb; simp [dec_eq])
    repeat' (first | apply v_region | apply v_nil | (apply v_pure; (case hop => first | (apply p_move <;> rfl) | (apply p_eq <;> rfl) | fail); (case hd => rfl)) | fail)
    refine v_call (μ1 := twoR rb pb xb bv a1 no1 1 (nV s) (nV (nS s)) 0 zeroC (.slice none 0 0)) (μ2 := []) rfl (whenR_s _ (rd4_s hs hl hr1)) (by simp) rfl ?_
    rintro _ G4 _ hle4 (⟨hb, a4, no4, jv, rfl, hj, hr4⟩ | ⟨hb, rfl, rfl⟩)
    · (exfalso; revert hb; simp [dec_eq])
    repeat' (first | apply v_nil | fail)
    refine v_end (twoR rb pb xb bv a1 no1 1 (nV s) (nV (nS s)) 0 zeroC (.slice none 0 0)) (outsA0 rfl) (by simp) ?_
    exact ⟨a1, no1, _, rfl, Sl.nil, hr1⟩
  · repeat' (first | apply v_seq | apply v_region | (apply v_take; (case hg => rfl)) | (apply v_pure; (case hop => first | (apply p_move <;> rfl) | (apply p_eqs <;> rfl) | (apply p_eq <;> rfl) | (apply p_pickF <;> rfl) | fail); (case hd => rfl)) | (apply v_guardB; (case h1 => rfl); (case h2 => rfl); all_goals (intro h; (try simp only [reduceCtorEq, dec_true, dec_false, decide_eq_true_eq, decide_eq_false_iff_not, Bool.not_eq_true', Bool.not_eq_false', Option.isNone_iff_eq_none, beq_true, beq_false, beq_iff_eq, beq_eq_false_iff_ne, ne_eq, decide_eq_decide, Bool.not_eq_true, Bool.not_eq_false, Decidable.not_not] at h); first | (exfalso; omega) | skip)) | fail)
    refine v_call (μ1 := twoR rb pb xb bv a no 2 0 0 0 zeroC (.slice none 0 0)) (μ2 := []) rfl (whenR_s _ (rd1_s hs hl hr)) (by simp) rfl ?_
    rintro _ G1 _ hle1 (⟨hb, rfl, a1, no1, rfl, hr1⟩ | ⟨hb, rfl, rfl⟩)
    rotate_left
    · (exfalso; revert hb; simp [dec_eq])
    repeat' (first | apply v_seq | apply v_region | apply v_nil | (apply v_pure; (case hop => first | (apply p_move <;> rfl) | (apply p_ne <;> rfl) | fail); (case hd => rfl)) | fail)
    refine v_call (μ1 := twoR rb pb xb bv a1 no1 2 (nV s) (nV (nS s)) 0 zeroC (.slice none 0 0)) (μ2 := []) rfl (whenR_s _ (rd2_s hs hl hr1)) (by simp) rfl ?_
    rintro _ G2 _ hle2 (⟨hb, rfl, a2, no2, rfl, hr2⟩ | ⟨hb, rfl, rfl⟩)
    rotate_left
    · (exfalso; revert hb; simp [dec_eq])
    repeat' (first | apply v_seq | apply v_region | apply v_nil | (apply v_pass; (case hg => rfl); (case hn => rfl); (case hd => rfl)) | (apply v_pure; (case hop => first | (apply p_move <;> rfl) | (apply p_eqs <;> rfl) | (apply p_pickT <;> rfl) | fail); (case hd => rfl)) | fail)
    refine v_call (μ1 := twoR rb pb xb bv a2 no2 2 (nV s) (nV (nS s)) (nV (nS (nS s))) zeroC (.slice none 0 0)) (μ2 := []) rfl (whenR_s _ (rd3_s hs hl hr2)) (by simp) rfl ?_
    rintro _ G3 _ hle3 (⟨hb, a3, no3, rfl, hr3⟩ | ⟨hb, rfl, rfl⟩)
    rotate_left
    · (exfalso; revert hb; simp [dec_eq])
    repeat' (first | apply v_region | apply v_nil | (apply v_pure; (case hop => first | (apply p_move <;> rfl) | (apply p_eq <;> rfl) | fail); (case hd => rfl)) | fail)
    refine v_call (μ1 := twoR rb pb xb bv a3 no3 2 (nV s) (nV (nS s)) (nV (nS (nS s))) (getT (nS (nS (nS s)))).1 (.slice none 0 0)) (μ2 := []) rfl (whenR_s _ (rd4_s (hs.mono hle3) hl hr3)) (by simp) rfl ?_
    rintro _ G4 _ hle4 (⟨hb, a4, no4, jv, rfl, hj, hr4⟩ | ⟨hb, rfl, rfl⟩)
    · (exfalso; revert hb; simp [dec_eq])
    repeat' (first | apply v_nil | fail)
    refine v_end (twoR rb pb xb bv a3 no3 2 (nV s) (nV (nS s)) (nV (nS (nS s))) (getT (nS (nS (nS s)))).1 (.slice none 0 0)) (outsA0 rfl) (by simp) ?_
    exact ⟨a3, no3, _, rfl, Sl.nil, hr3⟩
  · repeat' (first | apply v_seq | apply v_region | (apply v_take; (case hg => rfl)) | (apply v_pure; (case hop => first | (apply p_move <;> rfl) | (apply p_eq <;> rfl) | (apply p_pickF <;> rfl) | fail); (case hd => rfl)) | (apply v_guardB; (case h1 => rfl); (case h2 => rfl); all_goals (intro h; (try simp only [reduceCtorEq, dec_true, dec_false, decide_eq_true_eq, decide_eq_false_iff_not, Bool.not_eq_true', Bool.not_eq_false', Option.isNone_iff_eq_none, beq_true, beq_false, beq_iff_eq, beq_eq_false_iff_ne, ne_eq, decide_eq_decide, Bool.not_eq_true, Bool.not_eq_false, Decidable.not_not] at h); first | (exfalso; omega) | skip)) | fail)
    refine v_call (μ1 := twoR rb pb xb bv a no 3 0 0 0 zeroC (.slice none 0 0)) (μ2 := []) rfl (whenR_s _ (rd1_s hs hl hr)) (by simp) rfl ?_
    rintro _ G1 _ hle1 (⟨hb, rfl, a1, no1, rfl, hr1⟩ | ⟨hb, rfl, rfl⟩)
    · (exfalso; revert hb; simp [dec_eq])
    repeat' (first | apply v_seq | apply v_region | apply v_nil | (apply v_pure; (case hop => first | (apply p_move <;> rfl) | (apply p_ne <;> rfl) | fail); (case hd => rfl)) | fail)
    refine v_call (μ1 := twoR rb pb xb bv a no 3 0 0 0 zeroC (.slice none 0 0)) (μ2 := []) rfl (whenR_s _ (rd2_s hs hl hr)) (by simp) rfl ?_
    rintro _ G2 _ hle2 (⟨hb, rfl, a2, no2, rfl, hr2⟩ | ⟨hb, rfl, rfl⟩)
    rotate_left
    · (exfalso; revert hb; simp [dec_eq])
    repeat' (first | apply v_seq | apply v_region | apply v_nil | (apply v_take; (case hg => rfl)) | (apply v_pure; (case hop => first | (apply p_move <;> rfl) | (apply p_eqs <;> rfl) | (apply p_eq <;> rfl) | (apply p_pickF <;> rfl) | fail); (case hd => rfl)) | (apply v_guardB; (case h1 => rfl); (case h2 => rfl); all_goals (intro h; (try simp only [reduceCtorEq, dec_true, dec_false, decide_eq_true_eq, decide_eq_false_iff_not, Bool.not_eq_true', Bool.not_eq_false', Option.isNone_iff_eq_none, beq_true, beq_false, beq_iff_eq, beq_eq_false_iff_ne, ne_eq, decide_eq_decide, Bool.not_eq_true, Bool.not_eq_false, Decidable.not_not] at h); first | (exfalso; omega) | skip)) | fail)
    refine v_call (μ1 := twoR rb pb xb bv a2 no2 3 0 0 (nV s) zeroC (.slice none 0 0)) (μ2 := []) rfl (whenR_s _ (rd3_s hs hl hr2)) (by simp) rfl ?_
    rintro _ G3 _ hle3 (⟨hb, a3, no3, rfl, hr3⟩ | ⟨hb, rfl, rfl⟩)
    rotate_left
    · (exfalso; revert hb; simp [dec_eq])
    repeat' (first | apply v_region | apply v_nil | (apply v_pure; (case hop => first | (apply p_move <;> rfl) | (apply p_eq <;> rfl) | fail); (case hd => rfl)) | fail)
    refine v_call (μ1 := twoR rb pb xb bv a3 no3 3 0 0 (nV s) (getT (nS s)).1 (.slice none 0 0)) (μ2 := []) rfl (whenR_s _ (rd4_s (hs.mono hle3) hl hr3)) (by simp) rfl ?_
    rintro _ G4 _ hle4 (⟨hb, a4, no4, jv, rfl, hj, hr4⟩ | ⟨hb, rfl, rfl⟩)
    · (exfalso; revert hb; simp [dec_eq])
    repeat' (first | apply v_nil | fail)
    refine v_end (twoR rb pb xb bv a3 no3 3 0 0 (nV s) (getT (nS s)).1 (.slice none 0 0)) (outsA0 rfl) (by simp) ?_
    exact ⟨a3, no3, _, rfl, Sl.nil, hr3⟩
  · repeat' (first | apply v_seq | apply v_region | (apply v_take; (case hg => rfl)) | (apply v_pure; (case hop => first | (apply p_move <;> rfl) | (apply p_eq <;> rfl) | (apply p_pickF <;> rfl) | fail); (case hd => rfl)) | (apply v_guardB; (case h1 => rfl); (case h2 => rfl); all_goals (intro h; (try simp only [reduceCtorEq, dec_true, dec_false, decide_eq_true_eq, decide_eq_false_iff_not, Bool.not_eq_true', Bool.not_eq_false', Option.isNone_iff_eq_none, beq_true, beq_false, beq_iff_eq, beq_eq_false_iff_ne, ne_eq, decide_eq_decide, Bool.not_eq_true, Bool.not_eq_false, Decidable.not_not] at h); first | (exfalso; omega) | skip)) | fail)
    refine v_call (μ1 := twoR rb pb xb bv a no 4 0 0 0 zeroC (.slice none 0 0)) (μ2 := []) rfl (whenR_s _ (rd1_s hs hl hr)) (by simp) rfl ?_
    rintro _ G1 _ hle1 (⟨hb, rfl, a1, no1, rfl, hr1⟩ | ⟨hb, rfl, rfl⟩)
    · (exfalso; revert hb; simp [dec_eq])
    repeat' (first | apply v_seq | apply v_region | apply v_nil | (apply v_pure; (case hop => first | (apply p_move <;> rfl) | (apply p_ne <;> rfl) | fail); (case hd => rfl)) | fail)
    refine v_call (μ1 := twoR rb pb xb bv a no 4 0 0 0 zeroC (.slice none 0 0)) (μ2 := []) rfl (whenR_s _ (rd2_s hs hl hr)) (by simp) rfl ?_
    rintro _ G2 _ hle2 (⟨hb, rfl, a2, no2, rfl, hr2⟩ | ⟨hb, rfl, rfl⟩)
    rotate_left
    · (exfalso; revert hb; simp [dec_eq])
    repeat' (first | apply v_seq | apply v_region | apply v_nil | (apply v_take; (case hg => rfl)) | (apply v_pure; (case hop => first | (apply p_move <;> rfl) | (apply p_eq <;> rfl) | (apply p_pickF <;> rfl) | fail); (case hd => rfl)) | (apply v_guardB; (case h1 => rfl); (case h2 => rfl); all_goals (intro h; (try simp only [reduceCtorEq, dec_true, dec_false, decide_eq_true_eq, decide_eq_false_iff_not, Bool.not_eq_true', Bool.not_eq_false', Option.isNone_iff_eq_none, beq_true, beq_false, beq_iff_eq, beq_eq_false_iff_ne, ne_eq, decide_eq_decide, Bool.not_eq_true, Bool.not_eq_false, Decidable.not_not] at h); first | (exfalso; omega) | skip)) | fail)
    refine v_call (μ1 := twoR rb pb xb bv a2 no2 4 0 0 (nV s) zeroC (.slice none 0 0)) (μ2 := []) rfl (whenR_s _ (rd3_s hs hl hr2)) (by simp) rfl ?_
    rintro _ G3 _ hle3 (⟨hb, a3, no3, rfl, hr3⟩ | ⟨hb, rfl, rfl⟩)
    · (exfalso; revert hb; simp [dec_eq])
    repeat' (first | apply v_region | apply v_nil | (apply v_pure; (case hop => first | (apply p_move <;> rfl) | (apply p_eqs <;> rfl) | fail); (case hd => rfl)) | fail)
    refine v_call (μ1 := twoR rb pb xb bv a2 no2 4 0 0 (nV s) zeroC (.slice none 0 0)) (μ2 := []) rfl (whenR_s _ (rd4_s hs hl hr2)) (by simp) rfl ?_
    rintro _ G4 _ hle4 (⟨hb, a4, no4, jv, rfl, hj, hr4⟩ | ⟨hb, rfl, rfl⟩)
    rotate_left
    · (exfalso; revert hb; simp [dec_eq])
    repeat' (first | apply v_nil | fail)
    refine v_end (twoR rb pb xb bv a4 no4 4 0 0 (nV s) zeroC jv) (outsA0 rfl) (by simp) ?_
    exact ⟨a4, no4, _, rfl, hj, hr4⟩
theorem tread_s {G : GH} {l : List Int} {bv : Value} {s : Option (List Int)} {rb a : Nat} {no k : Int} (hk : k = 1 ∨ k = 2 ∨ k = 3 ∨ k = 4) (hs : Sl G 1 (IntR .u8) bv l) (hl : l.length ≤ 1048576) (hr : RdS l a no s) :
    Con Tryd.prog 71 #[.pointer (some ⟨rb, 0, none⟩), .int .i64 k] G [(rb, rdO bv a no)] (fun r' G' μ' => RcV G' (rdX k s).1 r' ∧ ∃ a' no', μ' = [(rb, rdO bv (a' : Nat) no')] ∧ RdS l a' no' (rdX k s).2) := by
  have ek : (rdX k s).1.kind = k := by unfold rdX; (repeat' split) <;> rfl
  have q := fun pb xb => walkR_s (rb := rb) (pb := pb) (xb := xb) hk hs hl hr
  generalize rdX k s = X at *
  obtain ⟨x, s'⟩ := X
  simp only at ek q ⊢
  refine v_enter Tryd.func71 rfl Tryd.ntmps71 rfl (fun B => ?_)
  repeat' (first | apply v_seq | apply v_region | apply v_nil | (apply v_pure; (case hop => first | (apply p_move <;> rfl) | (apply p_makeFunc <;> rfl) | (apply p_build; (case hz => rfl); (case hv => (simp only [List.map_cons, List.map_nil]; repeat (first | with_reducible exact evs_nil | (apply evs_cons; (case h1 => rfl))))); (case hb => (apply bldL; repeat (first | exact bld_nil | (apply bld_cons; (case hpf => rfl); (case hc => rfl); (case hs => rfl); (case hl => rfl); (case ho => (first | ((repeat (first | with_reducible exact ov_nil | apply ov_cons | fail)); done) | fail)))))))); (case hd => rfl)) | (apply v_alloc; (case hz => rfl); (case hd => rfl); intro b) | (apply v_box; (case hx => rfl); (case hz => rfl); (case hd => rfl); intro b) | (apply v_store; (case hp => rfl); (case hx => rfl); (case hc => rfl); (case hsz => rfl); (case h1 => rfl); (case hb => (repeat (first | exact List.Mem.head _ | fail))); (case hfit => first | exact Nat.le_of_ble_eq_true rfl | fail); (case hov => (first | ((repeat (first | with_reducible exact ov_nil | apply ov_cons | fail)); done) | fail)); (case hu => repeat (first | exact Upd.here _ _ | fail))) | fail)
  rename_i pb ob
  refine v_call (μ1 := twoR rb pb b bv a no k 0 0 0 zeroC (.slice none 0 0)) (μ2 := [(ob, .cells (recL 0 0 0 0 zeroC (.slice none 0 0)).toArray 29 (0, 0))]) rfl (q pb b) (by apply perm_of_count; intro p; simp only [List.countP_append, List.countP_cons, List.countP_nil, Nat.zero_add, Nat.add_zero]; try ac_rfl) rfl ?_
  rintro _ G1 _ hle ⟨a', no', iv, rfl, hi, hr'⟩
  obtain ⟨A1, c1, rfl, -⟩ := hi.openInt
  repeat' (first | apply v_seq | apply v_region | apply v_nil | (apply v_read; (case hop => first | (apply r_loadNo; (case hx => rfl); (case h => (repeat (first | exact List.Mem.head _ | apply List.Mem.tail | fail))); (case hd => (repeat (first | with_reducible exact dt_nil | apply dt_here | fail))); (case hn => rfl)) | fail); (case hd => rfl)) | (apply v_store; (case hp => rfl); (case hx => rfl); (case hc => rfl); (case hsz => rfl); (case h1 => rfl); (case hb => (repeat (first | exact List.Mem.head _ | apply List.Mem.tail | fail))); (case hfit => first | exact Nat.le_of_ble_eq_true rfl | fail); (case hov => (first | ((repeat (first | with_reducible exact ov_nil | apply ov_cons | fail)); done) | fail)); (case hu => repeat (first | exact Upd.here _ _ | apply Upd.there | fail))) | fail)
  refine v_retM [(rb, _)] (outsM_cell (vs := recL k x.round x.node x.index x.cmd (.slice A1 x.image.length c1)) (e := 29) rfl rfl (by repeat (first | exact List.Mem.head _ | apply List.Mem.tail)) rfl) (by repeat (first | exact List.nil_sublist _ | apply List.Sublist.cons_cons | fail)) ?_
  exact ⟨⟨_, by rw [ek], hi⟩, a', no', rfl, hr'⟩
/-! ### Decode -/
def decT (s : Option (List Int)) : Rc × Option (List Int) := rdX (nV s - 16) (nS s)
def decTOk (s : Option (List Int)) : Prop := nS s ≠ none ∧ (17 ≤ nV s ∧ nV s ≤ 20) ∧ (decT s).2 = some [] ∧ chkI (decT s).1 = 0
theorem rdX_ok {k : Int} {s : Option (List Int)} (h : byteS s) : (rdX k s).1.cmd.ok := by
  have h1 := numS_b h 9223372036854775807
  have h2 := numS_b h1 9223372036854775807
  have h3 := numS_b h2 9223372036854775807
  unfold rdX
  split
  · exact zeroC_ok
  · split
    · exact (getW_ok _ h3 6).1
    · split
      · exact (getW_ok _ h1 6).1
      · exact zeroC_ok
def DecT (s : Option (List Int)) (r : Value) (G' : GH) (μ' : OH) : Prop := μ' = [] ∧ ∃ x v e, r = .tuple [v, .int .i64 e].toArray ∧ RcV G' x v ∧ ((decTOk s ∧ x = (decT s).1 ∧ e = 0) ∨ (¬ decTOk s ∧ x = zeroRc ∧ e ≠ 0))
theorem tdecode_s {G : GH} (hT : TabsG G) {l : List Int} {bv : Value} (hs : Sl G 1 (IntR .u8) bv l) (hl : l.length ≤ 1048000) : Con Tryd.prog 32 #[bv] G [] (DecT (some l)) := by
  have hby : byteS (some l) := fun r hr x hx => by cases hr; exact sl_byte hs x hx
  have hok : (decT (some l)).1.cmd.ok := rdX_ok (numS_b hby _)
  have eT : decT (some l) = rdX (numV 9223372036854775807 (some l) - 16) (numS 9223372036854775807 (some l)) := rfl
  have eO : decTOk (some l) ↔ (numS 9223372036854775807 (some l) ≠ none ∧ (17 ≤ numV 9223372036854775807 (some l) ∧ numV 9223372036854775807 (some l) ≤ 20) ∧ (decT (some l)).2 = some [] ∧ chkI (decT (some l)).1 = 0) := Iff.rfl
  have hnb := numV_b hby 9223372036854775807
  unfold DecT
  generalize decT (some l) = X at *
  generalize decTOk (some l) = OK at *
  obtain ⟨x, s'⟩ := X
  simp only at hok eO ⊢
  refine v_enter Tryd.func32 rfl Tryd.ntmps32 rfl (fun B => ?_)
  repeat' (first | apply v_seq | apply v_region | apply v_nil | (apply v_pure; (case hop => first | (apply p_move <;> rfl) | (apply p_assign <;> rfl) | fail); (case hd => rfl)) | (apply v_alloc; (case hz => rfl); (case hd => rfl); intro b) | fail)
  refine v_call (μ1 := []) (μ2 := _) rfl (newReader_s hs hl) (List.Perm.refl _) rfl ?_
  rintro _ G1 _ - ⟨hle1, rb, bv1, rfl, rfl, hs1⟩
  have hr0 : RdS l 0 0 (some l) := ⟨by omega, .inr ⟨by simp, rfl⟩⟩
  repeat' (first | apply v_seq | apply v_region | apply v_nil | (apply v_pure; (case hop => first | (apply p_move <;> rfl) | (apply p_assign <;> rfl) | fail); (case hd => rfl)) | fail)
  refine v_call (μ1 := [(rb, _)]) (μ2 := _) rfl (rdNumber_s rb _ _ 9223372036854775807 hs1 (by omega) hr0) (PickA.perm (by repeat (first | exact PickA.here _ | fail))) rfl ?_
  rintro _ _ _ - ⟨rfl, rfl, a1, no1, rfl, hr1⟩
  generalize numS 9223372036854775807 (some l) = s1 at *
  generalize numV 9223372036854775807 (some l) = fn at *
  have qe := fun G no a => rerr_s G rb bv1 a no
  repeat' (first | apply v_seq | apply v_region | apply v_nil | apply v_skip | (apply v_take; (case hg => rfl)) | (apply v_pass; (case hg => rfl); (case hn => rfl); (case hd => rfl)) | (apply v_pure; (case hop => first | (apply p_move <;> rfl) | (apply p_gt <;> rfl) | (apply p_ne <;> rfl) | (apply p_le <;> rfl) | (apply p_assign <;> rfl) | (apply p_pickT <;> rfl) | (apply p_pickF <;> rfl) | (apply p_sub; (case hx => rfl); (case hy => rfl); (case h => omega)) | (apply p_build; (case hz => rfl); (case hv => (simp only [List.map_cons, List.map_nil]; repeat (first | with_reducible exact evs_nil | fail))); (case hb => (apply bldL; repeat (first | exact bld_nil | fail)))) | fail); (case hd => rfl)) | (apply v_condT; (case hc => rfl)) | (apply v_cond; (case hc => rfl); all_goals (intro h; (try simp only [reduceCtorEq, dec_true, dec_false, decide_eq_true_eq, decide_eq_false_iff_not, Bool.not_eq_true', Bool.not_eq_false', Option.isNone_iff_eq_none, beq_true, beq_false, beq_iff_eq, beq_eq_false_iff_ne, ne_eq, decide_eq_decide, Bool.not_eq_true, Bool.not_eq_false, Decidable.not_not] at h); first | skip)) | (apply v_guardB; (case h1 => rfl); (case h2 => rfl); all_goals (intro h; (try simp only [reduceCtorEq, dec_true, dec_false, decide_eq_true_eq, decide_eq_false_iff_not, Bool.not_eq_true', Bool.not_eq_false', Option.isNone_iff_eq_none, beq_true, beq_false, beq_iff_eq, beq_eq_false_iff_ne, ne_eq, decide_eq_decide, Bool.not_eq_true, Bool.not_eq_false, Decidable.not_not] at h); first | skip)) | (apply v_callK (hs := qe _ _ _); (case ha => rfl); (case hp => first | exact (Pick.perm (by repeat (first | exact Pick.here _ | fail))) | fail); (case hd => rfl)) | (apply v_store; (case hp => rfl); (case hx => rfl); (case hc => rfl); (case hsz => rfl); (case h1 => rfl); (case hb => (repeat (first | exact List.Mem.head _ | apply List.Mem.tail | fail))); (case hfit => first | exact Nat.le_of_ble_eq_true rfl | fail); (case hov => (first | ((repeat (first | with_reducible exact ov_nil | apply ov_cons | fail)); done) | fail)); (case hu => repeat (first | exact Upd.here _ _ | apply Upd.there | fail))) | fail)
  · refine v_retM [] (outsM_cell_tmp (vs := zeroRL) (e := 29) rfl rfl rfl (by repeat (first | exact List.Mem.head _ | apply List.Mem.tail)) rfl) (by repeat (first | exact List.nil_sublist _ | fail)) ?_
    obtain ⟨-, ⟨h2, -⟩ | ⟨-, h2⟩⟩ := hr1
    · exact ⟨rfl, _, _, _, rfl, ⟨_, rfl, Sl.nil⟩, .inr ⟨fun hh => (eO.1 hh).1 h2, rfl, ‹_›⟩⟩
    · exact absurd h2 ‹_›
  · refine v_retM [] (outsM_cell_tmp (vs := zeroRL) (e := 29) rfl rfl rfl (by repeat (first | exact List.Mem.head _ | apply List.Mem.tail)) rfl) (by repeat (first | exact List.nil_sublist _ | fail)) ?_
    exact ⟨rfl, _, _, _, rfl, ⟨_, rfl, Sl.nil⟩, .inr ⟨fun hh => by have := (eO.1 hh).2.1; omega, rfl, by decide⟩⟩
  · refine v_retM [] (outsM_cell_tmp (vs := zeroRL) (e := 29) rfl rfl rfl (by repeat (first | exact List.Mem.head _ | apply List.Mem.tail)) rfl) (by repeat (first | exact List.nil_sublist _ | fail)) ?_
    exact ⟨rfl, _, _, _, rfl, ⟨_, rfl, Sl.nil⟩, .inr ⟨fun hh => by have := (eO.1 hh).2.1; omega, rfl, by decide⟩⟩
  · have qr := tread_s (rb := rb) (k := fn - 16) (by omega) hs1 (by omega) hr1
    rw [← eT] at qr
    simp only at qr
    refine v_call (μ1 := [(rb, _)]) (μ2 := _) rfl qr (PickA.perm (by repeat (first | exact PickA.here _ | fail))) rfl ?_
    rintro r2 G2 _ hle2 ⟨hx, a2, no2, rfl, hr2⟩
    obtain ⟨iv, rfl, hi⟩ := id hx
    obtain ⟨A1, c1, rfl, hlc1, hcm1, -⟩ := id hi.openInt
    simp only [maxLen] at hcm1
    have qc := recCheck_s (hT.le (GH.le_trans hle1 hle2)) x.kind x.round x.node x.index x.cmd hok A1 x.image.length c1 (by omega)
    have hne : s1 ≠ none := by
      obtain ⟨-, ⟨h2, h3⟩ | ⟨h2, -⟩⟩ := hr1
      · exact absurd ‹no1 = 0› h3
      · rw [h2]; simp
    unfold chkI at eO
    generalize recI x.kind x.round x.node x.index x.cmd x.image.length = o at *
    unfold recL
    repeat' (first | apply v_seq | apply v_region | apply v_nil | (apply v_pure; (case hop => first | (apply p_move <;> rfl) | fail); (case hd => rfl)) | (apply v_alloc; (case hz => rfl); (case hd => rfl); intro b) | (apply v_store; (case hp => rfl); (case hx => rfl); (case hc => rfl); (case hsz => rfl); (case h1 => rfl); (case hb => (repeat (first | exact List.Mem.head _ | fail))); (case hfit => first | exact Nat.le_of_ble_eq_true rfl | fail); (case hov => (first | ((repeat (first | with_reducible exact ov_nil | apply ov_cons | fail)); done) | fail)); (case hu => repeat (first | exact Upd.here _ _ | fail))) | fail)
    refine v_call (μ1 := [(rb, _)]) (μ2 := _) rfl (rdDone_s rb _ _ (hs1.mono hle2) (by omega) hr2) (PickA.perm (by repeat (first | exact PickA.here _ | apply PickA.cons | fail))) rfl ?_
    rintro _ _ _ - ⟨rfl, ⟨ed, rfl, hed⟩, rfl⟩
    repeat' (first | apply v_seq | apply v_region | apply v_nil | apply v_skip | (apply v_pure; (case hop => first | (apply p_move <;> rfl) | (apply p_eq <;> rfl) | (apply p_ne <;> rfl) | (apply p_assign <;> rfl) | (apply p_build; (case hz => rfl); (case hv => (simp only [List.map_cons, List.map_nil]; repeat (first | with_reducible exact evs_nil | fail))); (case hb => (apply bldL; repeat (first | exact bld_nil | fail)))) | fail); (case hd => rfl)) | (apply v_cond; (case hc => rfl); all_goals (intro h; (try simp only [reduceCtorEq, dec_true, dec_false, decide_eq_true_eq, decide_eq_false_iff_not, Bool.not_eq_true', Bool.not_eq_false', Option.isNone_iff_eq_none, beq_true, beq_false, beq_iff_eq, beq_eq_false_iff_ne, ne_eq, decide_eq_decide, Bool.not_eq_true, Bool.not_eq_false, Decidable.not_not] at h); first | (exfalso; omega) | skip)) | (apply v_callJ (hs := qc); (case ha => rfl); (case hd => rfl)) | (apply v_read; (case hop => first | (apply r_loadNo; (case hx => rfl); (case h => (repeat (first | exact List.Mem.head _ | apply List.Mem.tail | fail))); (case hd => (repeat (first | with_reducible exact dt_nil | apply dt_here | fail))); (case hn => rfl)) | fail); (case hd => rfl)) | (apply v_store; (case hp => rfl); (case hx => rfl); (case hc => rfl); (case hsz => rfl); (case h1 => rfl); (case hb => (repeat (first | exact List.Mem.head _ | apply List.Mem.tail | fail))); (case hfit => first | exact Nat.le_of_ble_eq_true rfl | fail); (case hov => (first | ((repeat (first | with_reducible exact ov_nil | apply ov_cons | fail)); done) | fail)); (case hu => repeat (first | exact Upd.here _ _ | apply Upd.there | fail))) | fail)
    · refine v_retM [] (outsM_cell_tmp (vs := zeroRL) (e := 29) rfl rfl rfl (by repeat (first | exact List.Mem.head _ | apply List.Mem.tail)) rfl) (by repeat (first | exact List.nil_sublist _ | fail)) ?_
      exact ⟨rfl, _, _, _, rfl, ⟨_, rfl, Sl.nil⟩, .inr ⟨fun hh => absurd (eO.1 hh).2.2.2 ‹_›, rfl, ‹_›⟩⟩
    · refine v_retM [] (outsM_cell_tmp (vs := recL x.kind x.round x.node x.index x.cmd (.slice A1 x.image.length c1)) (e := 29) rfl rfl rfl (by repeat (first | exact List.Mem.head _ | apply List.Mem.tail)) rfl) (by repeat (first | exact List.nil_sublist _ | fail)) ?_
      exact ⟨rfl, _, _, _, rfl, hx, .inl ⟨eO.2 ⟨hne, by omega, hed.1 ‹_›, ‹_›⟩, rfl, rfl⟩⟩
    · refine v_retM [] (outsM_cell_tmp (vs := zeroRL) (e := 29) rfl rfl rfl (by repeat (first | exact List.Mem.head _ | apply List.Mem.tail)) rfl) (by repeat (first | exact List.nil_sublist _ | fail)) ?_
      exact ⟨rfl, _, _, _, rfl, ⟨_, rfl, Sl.nil⟩, .inr ⟨fun hh => absurd (hed.2 (eO.1 hh).2.2.1) ‹_›, rfl, ‹_›⟩⟩
end Go.Proofs.YtnoiahlpmgbhfaaDoor
/-
  recone (layer 16), the seventeenth part: what is read of a record has just the bytes that were read.
-/
set_option linter.unusedSimpArgs false
set_option linter.unusedVariables false
namespace Go.Proofs.YtnoiahlpmgbhfaaDoor
open Go.Vx Go.ChangeShapes Go.WideShapes Go.ChangeAt Go.RowKit
/-- What is read of a record has the bytes that were read. -/
theorem enc_dec {l : List Int} (hb : byteS (some l)) (h : decOk (some l)) : encL (decX (some l)) = l := by
  obtain ⟨h1, h2, h3⟩ := h
  have b1 := numS_b hb 9223372036854775807
  have b2 := numS_b b1 9223372036854775807
  have b3 := numS_b b2 9223372036854775807
  have b4 := numS_b b3 9223372036854775807
  have key : ∀ t, nS (nS (nS (nS (some l)))) = some t → l = vbytes (nV (some l)) ++ (vbytes (nV (nS (some l))) ++ (vbytes (nV (nS (nS (some l)))) ++ (vbytes (nV (nS (nS (nS (some l))))) ++ t))) := fun t ht => by
    have q3 := num_inv b3 ht
    have q2 := num_inv b2 q3
    have q1 := num_inv b1 q2
    have q0 := num_inv hb q1
    exact Option.some.inj q0
  unfold decS at h1
  unfold decX encL headL
  by_cases h23 : nV (some l) = 2 ∨ nV (some l) = 3
  · rw [if_pos h23] at h1 ⊢
    have := key _ (getW_all _ b4 h1)
    have hk : putL (getK (nS (nS (nS (nS (some l))))) 6).1 6 = putW (wantB 1 (nV (nS (nS (nS (nS (some l))))))) (getK (nS (nS (nS (nS (some l))))) 6).1 6 := by unfold putL; rw [getW_kind]
    rw [if_pos h23, hk]
    simp only [List.append_nil, List.nil_append, List.append_assoc] at this ⊢
    exact this.symm
  · rw [if_neg h23] at h1 ⊢
    by_cases h4 : nV (some l) = 4
    · rw [if_pos h4] at h1 ⊢
      have := key _ (raw_inv b4 h1)
      rw [if_neg h23, if_pos h4]
      simp only [List.append_nil, List.nil_append, List.append_assoc] at this ⊢
      exact this.symm
    · rw [if_neg h4] at h1 ⊢
      have := key _ h1
      rw [if_neg h23, if_neg h4]
      simp only [List.append_nil, List.nil_append, List.append_assoc] at this ⊢
      exact this.symm
theorem decX_kind (s : Option (List Int)) : (decX s).kind = nV s := by
  unfold decX
  split
  · rfl
  · split <;> rfl
theorem decOk_enc {x : Rc} (h : olderI x = 0) (hl : ¬ x.large) : decOk (some (encL x)) := by
  obtain ⟨h1, h2⟩ := dec_enc h hl
  have hk := decX_kind (some (encL x))
  rw [h1] at hk
  obtain ⟨h3, -⟩ := older0 h
  obtain ⟨h4, -⟩ := rec0 h3
  exact ⟨h2, by rw [← hk]; exact h4, by rw [h1]; exact h⟩
end Go.Proofs.YtnoiahlpmgbhfaaDoor
/-
  rectwo (layer 17), the fourth part, in plain Lean: what is written in F2 leads back, and what is read was written; no bytes are of both formats.
-/
set_option linter.unusedSimpArgs false
set_option linter.unusedVariables false
namespace Go.Proofs.YtnoiahlpmgbhfaaDoor
open Go.Vx Go.ChangeShapes Go.WideShapes Go.ChangeAt Go.RowKit
theorem nz {v : Int} {r : List Int} (h0 : 0 ≤ v) (h1 : v ≤ 9223372036854775807) : nV (some (vbytes v ++ r)) = v ∧ nS (some (vbytes v ++ r)) = some r := num_v r h0 h1
theorem decT_enc {x : Rc} (h : chkI x = 0) : decTOk (some (encT x)) ∧ (decT (some (encT x))).1 = x := by
  have h0 : recI x.kind x.round x.node x.index x.cmd x.image.length = 0 := h
  obtain ⟨hk, hr, hi, hc, ho⟩ := rec0 h0
  obtain ⟨hfit, hsm, him, hsz⟩ := fits0 h0
  have hchk := h
  obtain ⟨k, r, n, i, c, im⟩ := x
  simp only at hk hr hi hc ho him hsz
  unfold ranP mayP at hr
  have hcz : ¬ (k = 2 ∨ k = 3) → c = zeroC := fun hh => Decidable.not_not.1 fun hn => ho (.inr (.inr (.inl ⟨hh, hn⟩)))
  have hr0 : 0 ≤ r ∧ r ≤ 4294967296 := by unfold othP at ho; omega
  have hn0 : 0 ≤ n ∧ n ≤ 9 := by unfold othP at ho; omega
  have hi0 : 0 ≤ i ∧ i ≤ 4294967296 := by unfold othP at ho; omega
  have hz : ¬ (k = 1 ∨ k = 2) → r = 0 ∧ n = 0 := fun hh => Decidable.not_not.1 fun hn => ho (.inl ⟨hh, hn⟩)
  have hiz : k = 1 → i = 0 := fun hh => Decidable.not_not.1 fun hn => ho (.inr (.inl ⟨hh, hn⟩))
  have himz : k ≠ 4 → im = [] := fun hh => by
    have : im.length = 0 := by unfold othP at ho; omega
    exact List.eq_nil_of_length_eq_zero this
  have q0 := fun t => nz (v := k + 16) (r := t) (by omega) (by omega)
  have q1 := fun t => nz (v := r) (r := t) (by omega) (by omega)
  have q2 := fun t => nz (v := n) (r := t) (by omega) (by omega)
  have q3 := fun t => nz (v := i) (r := t) (by omega) (by omega)
  have key : decT (some (encT ⟨k, r, n, i, c, im⟩)) = (⟨k, r, n, i, c, im⟩, some []) := by
    unfold decT encT
    rw [(q0 _).1, (q0 _).2, show k + 16 - 16 = k by omega]
    obtain rfl | rfl | rfl | rfl : k = 1 ∨ k = 2 ∨ k = 3 ∨ k = 4 := by omega
    · rw [himz (by decide), hcz (by decide), hiz rfl]
      have e : tailT ⟨1, r, n, 0, zeroC, []⟩ = vbytes r ++ (vbytes n ++ []) := by simp [tailT]
      rw [e]
      simp only [rdX, q1, q2, if_true]
    · rw [himz (by decide)]
      have qc := getV_put (v := 2) (c := c) (hc (.inl rfl)) (.inr rfl) (by omega) []
      have e : tailT ⟨2, r, n, i, c, []⟩ = vbytes r ++ (vbytes n ++ (vbytes i ++ (vbytes c.kind ++ putW (wantB 2 c.kind) c 6 ++ []))) := by simp [tailT]
      rw [e]
      simp only [rdX, q1, q2, q3, qc, if_true, Int.reduceEq, if_false]
    · obtain ⟨rfl, rfl⟩ := hz (by decide)
      rw [himz (by decide)]
      have qc := getV_put (v := 2) (c := c) (hc (.inr rfl)) (.inr rfl) (by omega) []
      have e : tailT ⟨3, 0, 0, i, c, []⟩ = vbytes i ++ (vbytes c.kind ++ putW (wantB 2 c.kind) c 6 ++ []) := by simp [tailT]
      rw [e]
      simp only [rdX, q3, qc, if_true, Int.reduceEq, if_false]
    · obtain ⟨rfl, rfl⟩ := hz (by decide)
      rw [hcz (by decide)]
      have qc := raw_v (most := 32768) im [] (by omega) (by omega)
      have e : tailT ⟨4, 0, 0, i, zeroC, im⟩ = vbytes i ++ (vbytes im.length ++ im ++ []) := by simp [tailT]
      rw [e]
      simp only [rdX, q3, qc, if_true, Int.reduceEq, if_false]
  rw [key]
  refine ⟨⟨?_, ?_, by rw [key], by rw [key]; exact hchk⟩, rfl⟩
  · unfold encT; rw [(q0 _).2]; simp
  · unfold encT; rw [(q0 _).1]; omega
theorem getT_inv {s : Option (List Int)} (hb : byteS s) {t : List Int} (h : (getT s).2 = some t) : s = some (vbytes (getT s).1.kind ++ putW (wantB 2 (getT s).1.kind) (getT s).1 6 ++ t) := by
  have h1 := getW_all (wantB 2 (nV s)) hb h
  have hk : (getT s).1.kind = nV s := getW_kind _ _ _
  rw [hk] at h1 ⊢
  exact h1
theorem encT_dec {l : List Int} (hb : byteS (some l)) (h : decTOk (some l)) : encT (decT (some l)).1 = l := by
  obtain ⟨h1, h2, h3, h4⟩ := h
  have b1 : byteS (nS (some l)) := numS_b hb 9223372036854775807
  have b2 : byteS (nS (nS (some l))) := numS_b b1 9223372036854775807
  have b3 : byteS (nS (nS (nS (some l)))) := numS_b b2 9223372036854775807
  have b4 : byteS (nS (nS (nS (nS (some l))))) := numS_b b3 9223372036854775807
  unfold decT at h3 ⊢
  obtain ⟨t, ht⟩ : ∃ t, nS (some l) = some t := by
    cases hh : nS (some l) with
    | none => exact absurd hh h1
    | some t => exact ⟨t, rfl⟩
  have q0 := Option.some.inj (num_inv hb ht)
  have key : encT (rdX (nV (some l) - 16) (nS (some l))).1 = vbytes (nV (some l)) ++ tailT (rdX (nV (some l) - 16) (nS (some l))).1 := by
    have ek : (rdX (nV (some l) - 16) (nS (some l))).1.kind = nV (some l) - 16 := by unfold rdX; (repeat' split) <;> rfl
    rw [encT, ek, show nV (some l) - 16 + 16 = nV (some l) by omega]
  rw [key]
  have fin : tailT (rdX (nV (some l) - 16) (nS (some l))).1 = t := by
    have ht' := ht
    generalize nS (some l) = s1 at *
    obtain hk | hk | hk | hk : nV (some l) - 16 = 1 ∨ nV (some l) - 16 = 2 ∨ nV (some l) - 16 = 3 ∨ nV (some l) - 16 = 4 := by omega
    all_goals
      rw [hk] at h3 ⊢
      simp only [rdX, if_true, Int.reduceEq, if_false] at h3 ⊢
    · have q2 := num_inv b2 h3
      have q1 := num_inv b1 q2
      rw [ht'] at q1
      have q1 := Option.some.inj q1
      rw [q1]
      subst ht'
      simp [tailT]
    · have q4 := getT_inv b4 h3
      have q3 := num_inv b3 q4
      have q2 := num_inv b2 q3
      have q1 := num_inv b1 q2
      rw [ht'] at q1
      have q1 := Option.some.inj q1
      rw [q1]
      subst ht'
      simp [tailT]
    · have q4 := getT_inv b2 h3
      have q1 := num_inv b1 q4
      rw [ht'] at q1
      have q1 := Option.some.inj q1
      rw [q1]
      subst ht'
      simp [tailT]
    · have q4 := raw_inv b2 h3
      have q1 := num_inv b1 q4
      rw [ht'] at q1
      have q1 := Option.some.inj q1
      rw [q1]
      subst ht'
      simp [tailT]
  rw [fin, ← q0]
/-- No bytes are of both formats. -/
theorem not_decT {x : Rc} (h : olderI x = 0) : ¬ decTOk (some (encL x)) := by
  intro hh
  obtain ⟨h0, -⟩ := older0 h
  have hk := (rec0 h0).1
  have e : nV (some (encL x)) = x.kind := by
    unfold encL headL
    split
    · simp only [List.nil_append, List.append_assoc]; exact (nz (by omega) (by omega)).1
    · split
      · simp only [List.nil_append, List.append_assoc]; exact (nz (by omega) (by omega)).1
      · simp only [List.nil_append, List.append_assoc]; exact (nz (by omega) (by omega)).1
  have := hh.2.1
  omega
theorem not_decOk {x : Rc} (h : chkI x = 0) : ¬ decOk (some (encT x)) := by
  intro hh
  have hk := (rec0 (show recI x.kind x.round x.node x.index x.cmd x.image.length = 0 from h)).1
  have e : nV (some (encT x)) = x.kind + 16 := (nz (by omega) (by omega)).1
  have := hh.2.1
  omega
theorem putW_le {w w' : Nat → Bool} (c : Cm) : ∀ k, (∀ j < k, w j = true → w' j = true) → (putW w c k).length ≤ (putW w' c k).length
  | 0, _ => by simp [putW]
  | k + 1, h => by
    rw [putW, putW, List.length_append, List.length_append]
    have := putW_le (w := w) (w' := w') c k (fun j hj => h j (by omega))
    have hk := h k (by omega)
    cases hw : w k
    · simp only [Bool.false_eq_true, if_false, List.length_nil]; omega
    · rw [hk hw]; simp only [if_true]; omega
theorem want12 {k : Int} (h : k ≠ 5) : ∀ j < 6, wantB 2 k j = true → wantB 1 k j = true := by
  intro j hj hw
  obtain rfl | rfl | rfl | rfl | rfl | rfl : j = 0 ∨ j = 1 ∨ j = 2 ∨ j = 3 ∨ j = 4 ∨ j = 5 := by omega
  all_goals first
    | rfl
    | (exfalso
       revert hw
       rw [wantB, if_neg (by decide)]
       unfold cmdFields
       rw [if_neg h]
       (repeat' split) <;> simp [hasOf, band_0_4, band_11_4, band_3_4, band_16_4])
/-- F2 takes no more bytes than F1. -/
theorem encT_le {x : Rc} (h : olderI x = 0) : (encT x).length ≤ (encL x).length := by
  obtain ⟨h0, hv⟩ := older0 h
  obtain ⟨hk, hr, hi, hc, ho⟩ := rec0 h0
  have l0 : (vbytes (x.kind + 16)).length = 1 := by
    unfold vbytes
    rw [show max (x.kind + 16) 0 = x.kind + 16 by omega, vb_succ, if_pos (by omega)]
    rfl
  have l1 := (vbytes_len x.kind).2
  unfold encT encL headL tailT
  rw [List.length_append, List.length_append, List.length_append, List.length_append, l0]
  by_cases h23 : x.kind = 2 ∨ x.kind = 3
  · have hw := hv h23
    unfold HasV at hw
    have := putW_le (w := wantB 2 x.cmd.kind) (w' := wantB 1 x.cmd.kind) x.cmd 6 (want12 (by omega))
    rw [if_pos h23, if_pos h23, if_neg (show ¬ x.kind = 4 by omega)]
    unfold putL
    (repeat' split) <;> simp only [List.length_append, List.length_nil, List.nil_append] <;> omega
  · rw [if_neg h23, if_neg h23]
    (repeat' split) <;> simp only [List.length_append, List.length_nil, List.nil_append] <;> omega
end Go.Proofs.YtnoiahlpmgbhfaaDoor
/-
  rectwo (layer 17), the fifth part: the reference's bytes in F2; what a version has.
-/
set_option linter.unusedSimpArgs false
set_option linter.unusedVariables false
namespace Go.Proofs.YtnoiahlpmgbhfaaDoor
open Go.Vx Go.ChangeShapes Go.WideShapes Go.ChangeAt Go.RowKit
theorem pbytes_wf {c : Cm} (hc : c.ok) (hk : c.key.size ≤ 1000) (hv : c.val.size ≤ 1000) (ho : c.old.size ≤ 1000) (j : Nat) : ∀ y ∈ pbytes c j, (Lit.int .u8 y).wf = true := by
  obtain ⟨hk1, hc1, hs1, -, -, -, hn1⟩ := hc
  simp [Lit.wf, IntKind.min, IntKind.max, IntKind.signed, IntKind.bits] at hk1 hc1 hs1 hn1
  unfold pbytes
  split
  · exact fun y hy => vbytes_wf (by unfold Cm.num; split <;> omega) y hy
  · exact tbytes_wf _ (by unfold Cm.txt; split <;> omega)
theorem putW_wf {w : Nat → Bool} {c : Cm} (hc : c.ok) (hk : c.key.size ≤ 1000) (hv : c.val.size ≤ 1000) (ho : c.old.size ≤ 1000) : ∀ k, ∀ y ∈ putW w c k, (Lit.int .u8 y).wf = true
  | 0, y, hy => by simp [putW] at hy
  | k + 1, y, hy => by
    rw [putW] at hy
    rcases List.mem_append.1 hy with hy | hy
    · exact putW_wf hc hk hv ho k y hy
    · split at hy
      · exact pbytes_wf hc hk hv ho k y hy
      · cases hy
theorem rtwo_s {G : GH} {x : Rc} {xv : Value} (hx : RcV G x xv) (hc : x.cmd.ok) (hl : x.fits) (hw : x.small) (hk : 1 ≤ x.kind ∧ x.kind ≤ 4) : Con Tryd.prog 30 #[.int .i64 2, xv] G [] (fun r G' μ' => GH.le G G' ∧ Grow 5 1 r (encT x).length ((encT x).map (.int .u8 ·)) μ') := by
  have hcok := hc
  have hfit := hl
  unfold Rc.fits at hl
  have hcw : ∀ y ∈ vbytes x.cmd.kind ++ putW (wantB 2 x.cmd.kind) x.cmd 6, (Lit.int .u8 y).wf = true := fun y hy => by
    rcases List.mem_append.1 hy with hy | hy
    · obtain ⟨hk1, -⟩ := hc
      simp [Lit.wf, IntKind.min, IntKind.max, IntKind.signed, IntKind.bits] at hk1
      exact vbytes_wf (by omega) y hy
    · exact putW_wf hc (by omega) (by omega) (by omega) 6 y hy
  have hcl := putW_len (wantB 2 x.cmd.kind) x.cmd (by omega) (by omega) (by omega) 6
  unfold Rc.small at hw
  obtain ⟨hw1, hw2, hw3, hw4⟩ := hw
  obtain ⟨iv, rfl, hi⟩ := hx
  have hL0 := (vbytes_len (x.kind + 16)).1
  have hL1 := (vbytes_len x.round).1
  have hL2 := (vbytes_len x.node).1
  have hL3 := (vbytes_len x.index).1
  have hL4 := (vbytes_len x.cmd.kind).1
  have hL5 := (vbytes_len (x.image.length : Nat)).1
  have qb := fun G => hasBallot_s G x.kind
  have qi := fun G => hasIndex_s G x.kind
  have qh := fun G => hasCmd_s G x.kind
  obtain ⟨A, c, rfl, -⟩ := id hi.openInt
  refine v_enter Tryd.func30 rfl Tryd.ntmps30 rfl (fun B => ?_)
  repeat' (first | apply v_seq | apply v_region | apply v_nil | apply v_skip | (apply v_pure; (case hop => first | (apply p_move <;> rfl) | (apply p_nes <;> rfl) | (apply p_assign <;> rfl) | (apply p_fieldAddrB <;> rfl) | (apply p_add; (case hx => rfl); (case hy => rfl); (case h => omega)) | fail); (case hd => rfl)) | (apply v_condF; (case hc => rfl)) | (apply v_box (zs := recL x.kind x.round x.node x.index x.cmd (.slice A x.image.length c)); (case hx => rfl); (case hz => rfl); (case hd => rfl); intro rb) | (apply v_read; (case hop => first | (apply r_load1; rfl; (apply Cell.own; (case h => (repeat (first | exact List.Mem.head _ | fail))); rfl)) | fail); (case hd => rfl)) | fail)
  refine v_call (μ1 := []) (μ2 := _) rfl (rnum_s _ (x.kind + 16) (by omega)) (List.Perm.refl _) rfl ?_
  rintro v0 G0 ν0 - ⟨rfl, ho0⟩
  obtain hkk | hkk | hkk | hkk : x.kind = 1 ∨ x.kind = 2 ∨ x.kind = 3 ∨ x.kind = 4 := by omega
  · repeat' (first | apply v_seq | apply v_region | apply v_nil | (apply v_pure; (case hop => first | (apply p_move <;> rfl) | (apply p_assign <;> rfl) | (apply p_fieldAddrB <;> rfl) | fail); (case hd => rfl)) | (apply v_cond; (case hc => rfl); all_goals (intro h; (try simp only [reduceCtorEq, dec_true, dec_false, decide_eq_true_eq, decide_eq_false_iff_not, Bool.not_eq_true', Bool.not_eq_false', Option.isNone_iff_eq_none, beq_true, beq_false, beq_iff_eq, beq_eq_false_iff_ne, ne_eq, decide_eq_decide, Bool.not_eq_true, Bool.not_eq_false, Decidable.not_not] at h); first | (exfalso; omega) | skip)) | (apply v_callJ (hs := qb _); (case ha => rfl); (case hd => rfl)) | (apply v_read; (case hop => first | (apply r_load1; rfl; (apply Cell.own; (case h => (repeat (first | exact List.Mem.head _ | apply List.mem_append_right))); rfl)) | fail); (case hd => rfl)) | fail)
    refine v_call (μ1 := []) (μ2 := _) rfl (rnum_s _ x.round (by omega)) (List.Perm.refl _) rfl ?_
    rintro r1 G1 μ1 - ⟨rfl, hg1⟩
    refine v_frz μ1 (by repeat (first | exact PickA.here _ | fail)) ?_
    intro H1 hle1 hG1
    have hs1 : Sl H1 1 (IntR .u8) r1 (vbytes x.round) := hg1.ints hG1 (fun x hx => vbytes_wf (by omega) x hx)
    have hsrc1 := fun μ => Src.ints (μ := μ) hs1
    obtain ⟨A1, c1, rfl, -, -⟩ := hg1.shape
    repeat' (fail)
    refine v_append (e := 5) (sz := 1) (zero := .int .u8 0) rfl (by omega) rfl rfl ho0 (PickA.perm (by repeat (first | exact PickA.here _ | fail))) (hsrc1 _) (allOne_ints _) (by (try simp only [List.length_append, sbytes_length]); omega) (by simp only [maxLen]; (try simp only [List.length_append, sbytes_length]); omega) rfl fun v1 ν1 ho1 => ?_
    rw [← List.map_append, ← List.length_append] at ho1
    repeat' (first | apply v_region | apply v_nil | (apply v_pure; (case hop => first | (apply p_move <;> rfl) | (apply p_assign <;> rfl) | (apply p_fieldAddrB <;> rfl) | fail); (case hd => rfl)) | (apply v_read; (case hop => first | (apply r_load1; rfl; (apply Cell.own; (case h => (repeat (first | exact List.Mem.head _ | apply List.mem_append_right))); rfl)) | fail); (case hd => rfl)) | fail)
    refine v_call (μ1 := []) (μ2 := _) rfl (rnum_s _ x.node (by omega)) (List.Perm.refl _) rfl ?_
    rintro r2 G2 μ2 - ⟨rfl, hg2⟩
    refine v_frz μ2 (by repeat (first | exact PickA.here _ | fail)) ?_
    intro H2 hle2 hG2
    have hs2 : Sl H2 1 (IntR .u8) r2 (vbytes x.node) := hg2.ints hG2 (fun x hx => vbytes_wf (by omega) x hx)
    have hsrc2 := fun μ => Src.ints (μ := μ) hs2
    obtain ⟨A2, c2, rfl, -, -⟩ := hg2.shape
    repeat' (fail)
    refine v_append (e := 5) (sz := 1) (zero := .int .u8 0) rfl (by omega) rfl rfl ho1 (PickA.perm (by repeat (first | exact PickA.here _ | fail))) (hsrc2 _) (allOne_ints _) (by (try simp only [List.length_append, sbytes_length]); omega) (by simp only [maxLen]; (try simp only [List.length_append, sbytes_length]); omega) rfl fun v2 ν2 ho2 => ?_
    rw [← List.map_append, ← List.length_append] at ho2
    repeat' (first | apply v_seq | apply v_region | apply v_nil | apply v_skip | (apply v_pure; (case hop => first | (apply p_move <;> rfl) | (apply p_eq <;> rfl) | (apply p_assign <;> rfl) | (apply p_fieldAddrB <;> rfl) | fail); (case hd => rfl)) | (apply v_cond; (case hc => rfl); all_goals (intro h; (try simp only [reduceCtorEq, dec_true, dec_false, decide_eq_true_eq, decide_eq_false_iff_not, Bool.not_eq_true', Bool.not_eq_false', Option.isNone_iff_eq_none, beq_true, beq_false, beq_iff_eq, beq_eq_false_iff_ne, ne_eq, decide_eq_decide, Bool.not_eq_true, Bool.not_eq_false, Decidable.not_not] at h); first | (exfalso; omega) | skip)) | (apply v_callJ (hs := qi _); (case ha => rfl); (case hd => rfl)) | (apply v_callJ (hs := qh _); (case ha => rfl); (case hd => rfl)) | (apply v_read; (case hop => first | (apply r_load1; rfl; (apply Cell.own; (case h => (repeat (first | exact List.Mem.head _ | apply List.mem_append_right))); rfl)) | fail); (case hd => rfl)) | fail)
    have el : encT x = vbytes (x.kind + 16) ++ (vbytes x.round) ++ (vbytes x.node) := by unfold encT tailT; rw [hkk]; simp
    rw [el]
    refine v_ret ν2 (outsA1 rfl rfl) (by repeat (first | exact List.sublist_append_left _ _ | fail)) ?_
    exact ⟨fun b o h' => hle2 b o (hle1 b o h'), by simpa using ho2⟩
  · repeat' (first | apply v_seq | apply v_region | apply v_nil | (apply v_pure; (case hop => first | (apply p_move <;> rfl) | (apply p_assign <;> rfl) | (apply p_fieldAddrB <;> rfl) | fail); (case hd => rfl)) | (apply v_cond; (case hc => rfl); all_goals (intro h; (try simp only [reduceCtorEq, dec_true, dec_false, decide_eq_true_eq, decide_eq_false_iff_not, Bool.not_eq_true', Bool.not_eq_false', Option.isNone_iff_eq_none, beq_true, beq_false, beq_iff_eq, beq_eq_false_iff_ne, ne_eq, decide_eq_decide, Bool.not_eq_true, Bool.not_eq_false, Decidable.not_not] at h); first | (exfalso; omega) | skip)) | (apply v_callJ (hs := qb _); (case ha => rfl); (case hd => rfl)) | (apply v_read; (case hop => first | (apply r_load1; rfl; (apply Cell.own; (case h => (repeat (first | exact List.Mem.head _ | apply List.mem_append_right))); rfl)) | fail); (case hd => rfl)) | fail)
    refine v_call (μ1 := []) (μ2 := _) rfl (rnum_s _ x.round (by omega)) (List.Perm.refl _) rfl ?_
    rintro r1 G1 μ1 - ⟨rfl, hg1⟩
    refine v_frz μ1 (by repeat (first | exact PickA.here _ | fail)) ?_
    intro H1 hle1 hG1
    have hs1 : Sl H1 1 (IntR .u8) r1 (vbytes x.round) := hg1.ints hG1 (fun x hx => vbytes_wf (by omega) x hx)
    have hsrc1 := fun μ => Src.ints (μ := μ) hs1
    obtain ⟨A1, c1, rfl, -, -⟩ := hg1.shape
    repeat' (fail)
    refine v_append (e := 5) (sz := 1) (zero := .int .u8 0) rfl (by omega) rfl rfl ho0 (PickA.perm (by repeat (first | exact PickA.here _ | fail))) (hsrc1 _) (allOne_ints _) (by (try simp only [List.length_append, sbytes_length]); omega) (by simp only [maxLen]; (try simp only [List.length_append, sbytes_length]); omega) rfl fun v1 ν1 ho1 => ?_
    rw [← List.map_append, ← List.length_append] at ho1
    repeat' (first | apply v_region | apply v_nil | (apply v_pure; (case hop => first | (apply p_move <;> rfl) | (apply p_assign <;> rfl) | (apply p_fieldAddrB <;> rfl) | fail); (case hd => rfl)) | (apply v_read; (case hop => first | (apply r_load1; rfl; (apply Cell.own; (case h => (repeat (first | exact List.Mem.head _ | apply List.mem_append_right))); rfl)) | fail); (case hd => rfl)) | fail)
    refine v_call (μ1 := []) (μ2 := _) rfl (rnum_s _ x.node (by omega)) (List.Perm.refl _) rfl ?_
    rintro r2 G2 μ2 - ⟨rfl, hg2⟩
    refine v_frz μ2 (by repeat (first | exact PickA.here _ | fail)) ?_
    intro H2 hle2 hG2
    have hs2 : Sl H2 1 (IntR .u8) r2 (vbytes x.node) := hg2.ints hG2 (fun x hx => vbytes_wf (by omega) x hx)
    have hsrc2 := fun μ => Src.ints (μ := μ) hs2
    obtain ⟨A2, c2, rfl, -, -⟩ := hg2.shape
    repeat' (fail)
    refine v_append (e := 5) (sz := 1) (zero := .int .u8 0) rfl (by omega) rfl rfl ho1 (PickA.perm (by repeat (first | exact PickA.here _ | fail))) (hsrc2 _) (allOne_ints _) (by (try simp only [List.length_append, sbytes_length]); omega) (by simp only [maxLen]; (try simp only [List.length_append, sbytes_length]); omega) rfl fun v2 ν2 ho2 => ?_
    rw [← List.map_append, ← List.length_append] at ho2
    repeat' (first | apply v_seq | apply v_region | apply v_nil | (apply v_pure; (case hop => first | (apply p_move <;> rfl) | (apply p_assign <;> rfl) | (apply p_fieldAddrB <;> rfl) | fail); (case hd => rfl)) | (apply v_cond; (case hc => rfl); all_goals (intro h; (try simp only [reduceCtorEq, dec_true, dec_false, decide_eq_true_eq, decide_eq_false_iff_not, Bool.not_eq_true', Bool.not_eq_false', Option.isNone_iff_eq_none, beq_true, beq_false, beq_iff_eq, beq_eq_false_iff_ne, ne_eq, decide_eq_decide, Bool.not_eq_true, Bool.not_eq_false, Decidable.not_not] at h); first | (exfalso; omega) | skip)) | (apply v_callJ (hs := qi _); (case ha => rfl); (case hd => rfl)) | (apply v_read; (case hop => first | (apply r_load1; rfl; (apply Cell.own; (case h => (repeat (first | exact List.Mem.head _ | apply List.mem_append_right))); rfl)) | fail); (case hd => rfl)) | fail)
    refine v_call (μ1 := []) (μ2 := _) rfl (rnum_s _ x.index (by omega)) (List.Perm.refl _) rfl ?_
    rintro r3 G3 μ3 - ⟨rfl, hg3⟩
    refine v_frz μ3 (by repeat (first | exact PickA.here _ | fail)) ?_
    intro H3 hle3 hG3
    have hs3 : Sl H3 1 (IntR .u8) r3 (vbytes x.index) := hg3.ints hG3 (fun x hx => vbytes_wf (by omega) x hx)
    have hsrc3 := fun μ => Src.ints (μ := μ) hs3
    obtain ⟨A3, c3, rfl, -, -⟩ := hg3.shape
    repeat' (fail)
    refine v_append (e := 5) (sz := 1) (zero := .int .u8 0) rfl (by omega) rfl rfl ho2 (PickA.perm (by repeat (first | exact PickA.here _ | fail))) (hsrc3 _) (allOne_ints _) (by (try simp only [List.length_append, sbytes_length]); omega) (by simp only [maxLen]; (try simp only [List.length_append, sbytes_length]); omega) rfl fun v3 ν3 ho3 => ?_
    rw [← List.map_append, ← List.length_append] at ho3
    repeat' (first | apply v_seq | apply v_region | apply v_nil | (apply v_pure; (case hop => first | (apply p_move <;> rfl) | (apply p_assign <;> rfl) | (apply p_fieldAddrB <;> rfl) | fail); (case hd => rfl)) | (apply v_cond; (case hc => rfl); all_goals (intro h; (try simp only [reduceCtorEq, dec_true, dec_false, decide_eq_true_eq, decide_eq_false_iff_not, Bool.not_eq_true', Bool.not_eq_false', Option.isNone_iff_eq_none, beq_true, beq_false, beq_iff_eq, beq_eq_false_iff_ne, ne_eq, decide_eq_decide, Bool.not_eq_true, Bool.not_eq_false, Decidable.not_not] at h); first | (exfalso; omega) | skip)) | (apply v_callJ (hs := qh _); (case ha => rfl); (case hd => rfl)) | (apply v_read; (case hop => first | (apply r_loadNo; (case hx => rfl); (case h => (repeat (first | exact List.Mem.head _ | apply List.mem_append_right))); (case hd => (repeat (first | with_reducible exact dt_nil | apply dt_here | fail))); (case hn => rfl)) | (apply r_load1; rfl; (apply Cell.own; (case h => (repeat (first | exact List.Mem.head _ | apply List.mem_append_right))); rfl)) | fail); (case hd => rfl)) | fail)
    refine v_call (μ1 := []) (μ2 := _) rfl (rcmdV_s _ 2 x.cmd hc (by omega) (by omega) (by omega)) (List.Perm.refl _) rfl ?_
    rintro r4 G4 μ4 - ⟨hleR4, hg4⟩
    refine v_frz μ4 (by repeat (first | exact PickA.here _ | fail)) ?_
    intro H4 hle4 hG4
    have hs4 : Sl H4 1 (IntR .u8) r4 (vbytes x.cmd.kind ++ putW (wantB 2 x.cmd.kind) x.cmd 6) := hg4.ints hG4 hcw
    have hsrc4 := fun μ => Src.ints (μ := μ) hs4
    obtain ⟨A4, c4, rfl, -, -⟩ := hg4.shape
    repeat' (fail)
    refine v_append (e := 5) (sz := 1) (zero := .int .u8 0) rfl (by omega) rfl rfl ho3 (PickA.perm (by repeat (first | exact PickA.here _ | fail))) (hsrc4 _) (allOne_ints _) (by (try simp only [List.length_append, sbytes_length]); omega) (by simp only [maxLen]; (try simp only [List.length_append, sbytes_length]); omega) rfl fun v4 ν4 ho4 => ?_
    rw [← List.map_append, ← List.length_append] at ho4
    repeat' (first | apply v_seq | apply v_region | apply v_nil | apply v_skip | (apply v_pure; (case hop => first | (apply p_move <;> rfl) | (apply p_eq <;> rfl) | (apply p_assign <;> rfl) | (apply p_fieldAddrB <;> rfl) | fail); (case hd => rfl)) | (apply v_cond; (case hc => rfl); all_goals (intro h; (try simp only [reduceCtorEq, dec_true, dec_false, decide_eq_true_eq, decide_eq_false_iff_not, Bool.not_eq_true', Bool.not_eq_false', Option.isNone_iff_eq_none, beq_true, beq_false, beq_iff_eq, beq_eq_false_iff_ne, ne_eq, decide_eq_decide, Bool.not_eq_true, Bool.not_eq_false, Decidable.not_not] at h); first | (exfalso; omega) | skip)) | (apply v_read; (case hop => first | (apply r_load1; rfl; (apply Cell.own; (case h => (repeat (first | exact List.Mem.head _ | apply List.mem_append_right))); rfl)) | fail); (case hd => rfl)) | fail)
    have el : encT x = vbytes (x.kind + 16) ++ (vbytes x.round) ++ (vbytes x.node) ++ (vbytes x.index) ++ (vbytes x.cmd.kind ++ putW (wantB 2 x.cmd.kind) x.cmd 6) := by unfold encT tailT; rw [hkk]; simp
    rw [el]
    refine v_ret ν4 (outsA1 rfl rfl) (by repeat (first | exact List.sublist_append_left _ _ | fail)) ?_
    exact ⟨fun b o h' => hle4 b o (hleR4 b o (hle3 b o (hle2 b o (hle1 b o h')))), by simpa using ho4⟩
  · repeat' (first | apply v_seq | apply v_region | apply v_nil | apply v_skip | (apply v_pure; (case hop => first | (apply p_move <;> rfl) | (apply p_assign <;> rfl) | (apply p_fieldAddrB <;> rfl) | fail); (case hd => rfl)) | (apply v_cond; (case hc => rfl); all_goals (intro h; (try simp only [reduceCtorEq, dec_true, dec_false, decide_eq_true_eq, decide_eq_false_iff_not, Bool.not_eq_true', Bool.not_eq_false', Option.isNone_iff_eq_none, beq_true, beq_false, beq_iff_eq, beq_eq_false_iff_ne, ne_eq, decide_eq_decide, Bool.not_eq_true, Bool.not_eq_false, Decidable.not_not] at h); first | (exfalso; omega) | skip)) | (apply v_callJ (hs := qb _); (case ha => rfl); (case hd => rfl)) | (apply v_callJ (hs := qi _); (case ha => rfl); (case hd => rfl)) | (apply v_read; (case hop => first | (apply r_load1; rfl; (apply Cell.own; (case h => (repeat (first | exact List.Mem.head _ | apply List.mem_append_right))); rfl)) | fail); (case hd => rfl)) | fail)
    refine v_call (μ1 := []) (μ2 := _) rfl (rnum_s _ x.index (by omega)) (List.Perm.refl _) rfl ?_
    rintro r1 G1 μ1 - ⟨rfl, hg1⟩
    refine v_frz μ1 (by repeat (first | exact PickA.here _ | fail)) ?_
    intro H1 hle1 hG1
    have hs1 : Sl H1 1 (IntR .u8) r1 (vbytes x.index) := hg1.ints hG1 (fun x hx => vbytes_wf (by omega) x hx)
    have hsrc1 := fun μ => Src.ints (μ := μ) hs1
    obtain ⟨A1, c1, rfl, -, -⟩ := hg1.shape
    repeat' (fail)
    refine v_append (e := 5) (sz := 1) (zero := .int .u8 0) rfl (by omega) rfl rfl ho0 (PickA.perm (by repeat (first | exact PickA.here _ | fail))) (hsrc1 _) (allOne_ints _) (by (try simp only [List.length_append, sbytes_length]); omega) (by simp only [maxLen]; (try simp only [List.length_append, sbytes_length]); omega) rfl fun v1 ν1 ho1 => ?_
    rw [← List.map_append, ← List.length_append] at ho1
    repeat' (first | apply v_seq | apply v_region | apply v_nil | (apply v_pure; (case hop => first | (apply p_move <;> rfl) | (apply p_assign <;> rfl) | (apply p_fieldAddrB <;> rfl) | fail); (case hd => rfl)) | (apply v_cond; (case hc => rfl); all_goals (intro h; (try simp only [reduceCtorEq, dec_true, dec_false, decide_eq_true_eq, decide_eq_false_iff_not, Bool.not_eq_true', Bool.not_eq_false', Option.isNone_iff_eq_none, beq_true, beq_false, beq_iff_eq, beq_eq_false_iff_ne, ne_eq, decide_eq_decide, Bool.not_eq_true, Bool.not_eq_false, Decidable.not_not] at h); first | (exfalso; omega) | skip)) | (apply v_callJ (hs := qh _); (case ha => rfl); (case hd => rfl)) | (apply v_read; (case hop => first | (apply r_loadNo; (case hx => rfl); (case h => (repeat (first | exact List.Mem.head _ | apply List.mem_append_right))); (case hd => (repeat (first | with_reducible exact dt_nil | apply dt_here | fail))); (case hn => rfl)) | (apply r_load1; rfl; (apply Cell.own; (case h => (repeat (first | exact List.Mem.head _ | apply List.mem_append_right))); rfl)) | fail); (case hd => rfl)) | fail)
    refine v_call (μ1 := []) (μ2 := _) rfl (rcmdV_s _ 2 x.cmd hc (by omega) (by omega) (by omega)) (List.Perm.refl _) rfl ?_
    rintro r2 G2 μ2 - ⟨hleR2, hg2⟩
    refine v_frz μ2 (by repeat (first | exact PickA.here _ | fail)) ?_
    intro H2 hle2 hG2
    have hs2 : Sl H2 1 (IntR .u8) r2 (vbytes x.cmd.kind ++ putW (wantB 2 x.cmd.kind) x.cmd 6) := hg2.ints hG2 hcw
    have hsrc2 := fun μ => Src.ints (μ := μ) hs2
    obtain ⟨A2, c2, rfl, -, -⟩ := hg2.shape
    repeat' (fail)
    refine v_append (e := 5) (sz := 1) (zero := .int .u8 0) rfl (by omega) rfl rfl ho1 (PickA.perm (by repeat (first | exact PickA.here _ | fail))) (hsrc2 _) (allOne_ints _) (by (try simp only [List.length_append, sbytes_length]); omega) (by simp only [maxLen]; (try simp only [List.length_append, sbytes_length]); omega) rfl fun v2 ν2 ho2 => ?_
    rw [← List.map_append, ← List.length_append] at ho2
    repeat' (first | apply v_seq | apply v_region | apply v_nil | apply v_skip | (apply v_pure; (case hop => first | (apply p_move <;> rfl) | (apply p_eq <;> rfl) | (apply p_assign <;> rfl) | (apply p_fieldAddrB <;> rfl) | fail); (case hd => rfl)) | (apply v_cond; (case hc => rfl); all_goals (intro h; (try simp only [reduceCtorEq, dec_true, dec_false, decide_eq_true_eq, decide_eq_false_iff_not, Bool.not_eq_true', Bool.not_eq_false', Option.isNone_iff_eq_none, beq_true, beq_false, beq_iff_eq, beq_eq_false_iff_ne, ne_eq, decide_eq_decide, Bool.not_eq_true, Bool.not_eq_false, Decidable.not_not] at h); first | (exfalso; omega) | skip)) | (apply v_read; (case hop => first | (apply r_load1; rfl; (apply Cell.own; (case h => (repeat (first | exact List.Mem.head _ | apply List.mem_append_right))); rfl)) | fail); (case hd => rfl)) | fail)
    have el : encT x = vbytes (x.kind + 16) ++ (vbytes x.index) ++ (vbytes x.cmd.kind ++ putW (wantB 2 x.cmd.kind) x.cmd 6) := by unfold encT tailT; rw [hkk]; simp
    rw [el]
    refine v_ret ν2 (outsA1 rfl rfl) (by repeat (first | exact List.sublist_append_left _ _ | fail)) ?_
    exact ⟨fun b o h' => hle2 b o (hleR2 b o (hle1 b o h')), by simpa using ho2⟩
  · repeat' (first | apply v_seq | apply v_region | apply v_nil | apply v_skip | (apply v_pure; (case hop => first | (apply p_move <;> rfl) | (apply p_assign <;> rfl) | (apply p_fieldAddrB <;> rfl) | fail); (case hd => rfl)) | (apply v_cond; (case hc => rfl); all_goals (intro h; (try simp only [reduceCtorEq, dec_true, dec_false, decide_eq_true_eq, decide_eq_false_iff_not, Bool.not_eq_true', Bool.not_eq_false', Option.isNone_iff_eq_none, beq_true, beq_false, beq_iff_eq, beq_eq_false_iff_ne, ne_eq, decide_eq_decide, Bool.not_eq_true, Bool.not_eq_false, Decidable.not_not] at h); first | (exfalso; omega) | skip)) | (apply v_callJ (hs := qb _); (case ha => rfl); (case hd => rfl)) | (apply v_callJ (hs := qi _); (case ha => rfl); (case hd => rfl)) | (apply v_read; (case hop => first | (apply r_load1; rfl; (apply Cell.own; (case h => (repeat (first | exact List.Mem.head _ | apply List.mem_append_right))); rfl)) | fail); (case hd => rfl)) | fail)
    refine v_call (μ1 := []) (μ2 := _) rfl (rnum_s _ x.index (by omega)) (List.Perm.refl _) rfl ?_
    rintro r1 G1 μ1 - ⟨rfl, hg1⟩
    refine v_frz μ1 (by repeat (first | exact PickA.here _ | fail)) ?_
    intro H1 hle1 hG1
    have hs1 : Sl H1 1 (IntR .u8) r1 (vbytes x.index) := hg1.ints hG1 (fun x hx => vbytes_wf (by omega) x hx)
    have hsrc1 := fun μ => Src.ints (μ := μ) hs1
    obtain ⟨A1, c1, rfl, -, -⟩ := hg1.shape
    repeat' (fail)
    refine v_append (e := 5) (sz := 1) (zero := .int .u8 0) rfl (by omega) rfl rfl ho0 (PickA.perm (by repeat (first | exact PickA.here _ | fail))) (hsrc1 _) (allOne_ints _) (by (try simp only [List.length_append, sbytes_length]); omega) (by simp only [maxLen]; (try simp only [List.length_append, sbytes_length]); omega) rfl fun v1 ν1 ho1 => ?_
    rw [← List.map_append, ← List.length_append] at ho1
    repeat' (first | apply v_seq | apply v_region | apply v_nil | apply v_skip | (apply v_pure; (case hop => first | (apply p_move <;> rfl) | (apply p_eq <;> rfl) | (apply p_assign <;> rfl) | (apply p_lenSlice <;> rfl) | (apply p_fieldAddrB <;> rfl) | fail); (case hd => rfl)) | (apply v_cond; (case hc => rfl); all_goals (intro h; (try simp only [reduceCtorEq, dec_true, dec_false, decide_eq_true_eq, decide_eq_false_iff_not, Bool.not_eq_true', Bool.not_eq_false', Option.isNone_iff_eq_none, beq_true, beq_false, beq_iff_eq, beq_eq_false_iff_ne, ne_eq, decide_eq_decide, Bool.not_eq_true, Bool.not_eq_false, Decidable.not_not] at h); first | (exfalso; omega) | skip)) | (apply v_callJ (hs := qh _); (case ha => rfl); (case hd => rfl)) | (apply v_read; (case hop => first | (apply r_load1; rfl; (apply Cell.own; (case h => (repeat (first | exact List.Mem.head _ | apply List.mem_append_right))); rfl)) | fail); (case hd => rfl)) | fail)
    refine v_call (μ1 := []) (μ2 := _) rfl (rnum_s _ (x.image.length : Nat) (by omega)) (List.Perm.refl _) rfl ?_
    rintro r2 G2 μ2 - ⟨rfl, hg2⟩
    refine v_frz μ2 (by repeat (first | exact PickA.here _ | fail)) ?_
    intro H2 hle2 hG2
    have hs2 : Sl H2 1 (IntR .u8) r2 (vbytes (x.image.length : Nat)) := hg2.ints hG2 (fun x hx => vbytes_wf (by omega) x hx)
    have hsrc2 := fun μ => Src.ints (μ := μ) hs2
    obtain ⟨A2, c2, rfl, -, -⟩ := hg2.shape
    repeat' (fail)
    refine v_append (e := 5) (sz := 1) (zero := .int .u8 0) rfl (by omega) rfl rfl ho1 (PickA.perm (by repeat (first | exact PickA.here _ | fail))) (hsrc2 _) (allOne_ints _) (by (try simp only [List.length_append, sbytes_length]); omega) (by simp only [maxLen]; (try simp only [List.length_append, sbytes_length]); omega) rfl fun v2 ν2 ho2 => ?_
    rw [← List.map_append, ← List.length_append] at ho2
    repeat' (first | apply v_region | apply v_nil | (apply v_pure; (case hop => first | (apply p_move <;> rfl) | (apply p_assign <;> rfl) | (apply p_fieldAddrB <;> rfl) | fail); (case hd => rfl)) | (apply v_read; (case hop => first | (apply r_load1; rfl; (apply Cell.own; (case h => (repeat (first | exact List.Mem.head _ | apply List.mem_append_right))); rfl)) | fail); (case hd => rfl)) | fail)
    have hsi := fun μ => Src.ints (μ := μ) ((hi.mono hle1).mono hle2)
    refine v_append (e := 5) (sz := 1) (zero := .int .u8 0) rfl (by omega) rfl rfl ho2 (PickA.perm (by repeat (first | exact PickA.here _ | fail))) (hsi _) (allOne_ints _) (by (try simp only [List.length_append, sbytes_length]); omega) (by simp only [maxLen]; (try simp only [List.length_append, sbytes_length]); omega) rfl fun v3 ν3 ho3 => ?_
    rw [← List.map_append, ← List.length_append] at ho3
    repeat' (first | apply v_seq | apply v_region | apply v_nil | (apply v_pure; (case hop => first | (apply p_move <;> rfl) | (apply p_assign <;> rfl) | fail); (case hd => rfl)) | fail)
    have el : encT x = vbytes (x.kind + 16) ++ (vbytes x.index) ++ (vbytes (x.image.length : Nat)) ++ x.image := by unfold encT tailT; rw [hkk]; simp
    rw [el]
    refine v_ret ν3 (outsA1 rfl rfl) (by repeat (first | exact List.sublist_append_left _ _ | fail)) ?_
    exact ⟨fun b o h' => hle2 b o (hle1 b o h'), by simpa using ho3⟩
/-- What is wrong with a record in a format. -/
noncomputable def hasI (v : Int) (x : Rc) : Int := if recI x.kind x.round x.node x.index x.cmd x.image.length ≠ 0 then recI x.kind x.round x.node x.index x.cmd x.image.length else if (x.kind = 2 ∨ x.kind = 3) ∧ ¬ HasV v x.cmd.kind then 8 else 0
theorem hasI_one (x : Rc) : hasI 1 x = olderI x := rfl
theorem hasI_two (x : Rc) : hasI 2 x = chkI x := by
  unfold hasI chkI
  by_cases h0 : recI x.kind x.round x.node x.index x.cmd x.image.length = 0
  · rw [if_neg (by rw [h0]; decide), h0, if_neg]
    rintro ⟨hk, hn⟩
    have := (cmd0 ((rec0 h0).2.2.2.1 hk)).1
    exact hn (.inr ⟨rfl, by omega⟩)
  · rw [if_pos h0]
theorem refHasV_s {G : GH} (v : Int) {x : Rc} {xv : Value} (hx : RcV G x xv) (hc : x.cmd.ok) : Con Tryd.prog 14 #[.int .i64 v, xv] G [] (Just (.int .i64 (hasI v x)) G) := by
  obtain ⟨k, r, n, i, c, im⟩ := x
  obtain ⟨iv, rfl, hi⟩ := hx
  obtain ⟨A, cp, rfl, hlc, hcm, _⟩ := hi.openInt
  simp only [maxLen] at hcm
  simp only at hc hlc hi
  have q := refRecCheck_s (G := G) k r n i c hc A im.length cp (by omega)
  have qf := hasCmd_s G k
  have qv := refVHas_s G v c.kind
  have ho : hasI v ⟨k, r, n, i, c, im⟩ = if recI k r n i c im.length ≠ 0 then recI k r n i c im.length else if (k = 2 ∨ k = 3) ∧ ¬ HasV v c.kind then 8 else 0 := rfl
  rw [ho]
  generalize recI k r n i c im.length = I at *
  apply Con.just
  refine v_enter Tryd.func14 rfl Tryd.ntmps14 rfl (fun B => ?_)
  repeat' (first | apply v_seq | apply v_region | apply v_nil | apply v_skip | (apply v_take; (case hg => rfl)) | (apply v_pass; (case hg => rfl); (case hn => rfl); (case hd => rfl)) | (apply v_pure; (case hop => first | (apply p_move <;> rfl) | (apply p_ne <;> rfl) | (apply p_assign <;> rfl) | (apply p_pickT <;> rfl) | (apply p_pickF <;> rfl) | (apply p_not <;> rfl) | (apply p_fieldAddrB <;> rfl) | fail); (case hd => rfl)) | (apply v_condF; (case hc => rfl)) | (apply v_cond; (case hc => rfl); all_goals (intro h; (try simp only [reduceCtorEq, dec_true, dec_false, decide_eq_true_eq, decide_eq_false_iff_not, Bool.not_eq_true', Bool.not_eq_false', Option.isNone_iff_eq_none, beq_true, beq_false, beq_iff_eq, beq_eq_false_iff_ne, ne_eq, decide_eq_decide, Bool.not_eq_true, Bool.not_eq_false, Decidable.not_not] at h); first | skip)) | (apply v_guardB; (case h1 => rfl); (case h2 => rfl); all_goals (intro h; (try simp only [reduceCtorEq, dec_true, dec_false, decide_eq_true_eq, decide_eq_false_iff_not, Bool.not_eq_true', Bool.not_eq_false', Option.isNone_iff_eq_none, beq_true, beq_false, beq_iff_eq, beq_eq_false_iff_ne, ne_eq, decide_eq_decide, Bool.not_eq_true, Bool.not_eq_false, Decidable.not_not] at h); first | skip)) | (apply v_box (zs := recL k r n i c (.slice A im.length cp)); (case hx => rfl); (case hz => rfl); (case hd => rfl); intro b1) | (apply v_callJ (hs := q); (case ha => rfl); (case hd => rfl)) | (apply v_callJ (hs := qf); (case ha => rfl); (case hd => rfl)) | (apply v_callJ (hs := qv); (case ha => rfl); (case hd => rfl)) | (apply v_read; (case hop => first | (apply r_loadNo; (case hx => rfl); (case h => (repeat (first | exact List.Mem.head _ | fail))); (case hd => (repeat (first | with_reducible exact dt_nil | apply dt_here | fail))); (case hn => rfl)) | (apply r_load1; rfl; (apply Cell.own; (case h => (repeat (first | exact List.Mem.head _ | fail))); rfl)) | fail); (case hd => rfl)) | fail)
  all_goals
    (refine v_ret [] (outsA1 rfl rfl) (by repeat (first | exact List.nil_sublist _ | fail)) ?_
     refine ⟨?_, rfl⟩
     clear q qf qv
     simp [*])
end Go.Proofs.YtnoiahlpmgbhfaaDoor
/-
  A record that is an argument; the two tables.
-/
set_option linter.unusedSimpArgs false
set_option linter.unusedVariables false
namespace Go.Proofs.YtnoiahlpmgbhfaaDoor
open Go.Vx Go.ChangeShapes Go.WideShapes Go.ChangeAt Go.RowKit
def CmR (c : Cm) (cs : List Value) : Prop := cs = c.cells ∧ c.ok
theorem el_cm {H : Type} {enc : TypeId × Value → H} {W : World} : Elem enc Tryd.prog W 27 CmR := by
  intro fuel cs x hf
  have h1 := el_flen (n := 7) Tryd.underlying27 (by kernel_rfl) hf
  obtain ⟨a0, h0, w0⟩ := el_fld (i := 0) (sz := 1) (by kernel_rfl) (el_int Tryd.underlying3) hf
  obtain ⟨a1, e1, w1⟩ := el_fld (i := 1) (sz := 1) (by kernel_rfl) (el_int Tryd.underlying3) hf
  obtain ⟨a2, e2, w2⟩ := el_fld (i := 2) (sz := 1) (by kernel_rfl) (el_int Tryd.underlying3) hf
  obtain ⟨a3, e3, w3⟩ := el_fld (i := 3) (sz := 1) (by kernel_rfl) (el_string Tryd.underlying9) hf
  obtain ⟨a4, e4, w4⟩ := el_fld (i := 4) (sz := 1) (by kernel_rfl) (el_string Tryd.underlying9) hf
  obtain ⟨a5, e5, w5⟩ := el_fld (i := 5) (sz := 1) (by kernel_rfl) (el_string Tryd.underlying9) hf
  obtain ⟨a6, e6, w6⟩ := el_fld (i := 6) (sz := 1) (by kernel_rfl) (el_int Tryd.underlying3) hf
  match cs, h1 with
  | [c0, c1, c2, c3, c4, c5, c6], _ =>
    simp only [List.drop_succ_cons, List.drop_zero, List.take_succ_cons, List.take_zero, List.cons.injEq, and_true] at h0 e1 e2 e3 e4 e5 e6
    exact ⟨⟨a0, a1, a2, a3, a4, a5, a6⟩, by rw [h0, e1, e2, e3, e4, e5, e6]; rfl, w0, w1, w2, w3, w4, w5, w6⟩
/-- A record, and its four numbers are such. -/
theorem el_rcb {H : Type} {enc : TypeId × Value → H} {W : World} {fuel : Nat} {cs : List Value} {x : DataW H × List MemPlace} (hf : DataW.trod enc Tryd.prog W 0 (fun _ => true) true fuel 29 cs = some x) : ∃ y : Rc, RcV (ghost W) y (.agg cs.toArray) ∧ y.cmd.ok ∧ y.small := by
  have h1 := el_flen (n := 12) Tryd.underlying29 (by kernel_rfl) hf
  have top : ∀ {n : Int}, (Lit.int .i64 n).wf = true → n ≤ 9223372036854775807 := fun {n} h => by
    simp [Lit.wf, IntKind.min, IntKind.max, IntKind.signed, IntKind.bits] at h
    omega
  obtain ⟨k, hk, wk⟩ := el_fld (i := 0) (sz := 1) (by kernel_rfl) (el_int Tryd.underlying3) hf
  have hb : Elem enc Tryd.prog W 25 (fun (p : Int × Int) cs => cs = [.int .i64 p.1, .int .i64 p.2] ∧ (Lit.int .i64 p.1).wf = true ∧ (Lit.int .i64 p.2).wf = true) := by
    intro fuel cs x hf
    have h1 := el_flen (n := 2) Tryd.underlying25 (by kernel_rfl) hf
    obtain ⟨a, ha, wa⟩ := el_fld (i := 0) (sz := 1) (by kernel_rfl) (el_int Tryd.underlying3) hf
    obtain ⟨b, hb, wb⟩ := el_fld (i := 1) (sz := 1) (by kernel_rfl) (el_int Tryd.underlying3) hf
    match cs, h1 with
    | [c0, c1], _ =>
      simp only [List.drop_succ_cons, List.drop_zero, List.take_succ_cons, List.take_zero, List.cons.injEq, and_true] at ha hb
      exact ⟨(a, b), by rw [ha, hb], wa, wb⟩
  obtain ⟨⟨r, n⟩, hr, wr, wn⟩ := el_fld (i := 1) (sz := 2) (by kernel_rfl) hb hf
  obtain ⟨i, hi, wi⟩ := el_fld (i := 2) (sz := 1) (by kernel_rfl) (el_int Tryd.underlying3) hf
  obtain ⟨c, hc, ho⟩ := el_fld (i := 3) (sz := 7) (by kernel_rfl) el_cm hf
  obtain ⟨im, v, hv, hl⟩ := el_fld (i := 4) (sz := 1) (by kernel_rfl) (el_slice (sz := 1) Tryd.underlying22 (by kernel_rfl) (el_int Tryd.underlying5)) hf
  match cs, h1 with
  | [c0, c1, c2, c3, c4, c5, c6, c7, c8, c9, c10, c11], _ =>
    simp only [Cm.cells, List.drop_succ_cons, List.drop_zero, List.take_succ_cons, List.take_zero, List.cons.injEq, and_true] at hk hr hi hc hv
    obtain ⟨rfl, rfl⟩ := hr
    obtain ⟨rfl, rfl, rfl, rfl, rfl, rfl, rfl⟩ := hc
    subst hk; subst hi; subst hv
    exact ⟨⟨k, r, n, i, c, im⟩, ⟨_, rfl, hl⟩, ho, top wk, top wr, top wn, top wi⟩
set_option maxRecDepth 100000 in
theorem arg_t29 {H : Type} {enc : TypeId × Value → H} {W : World} {base : Nat} {v : Value} {d : DataW H} {p : List MemPlace} (hv : Value.okWide Tryd.prog W .any base 29 v) (h : DataW.Trod enc Tryd.prog W 0 (fun _ => true) true 29 v d p) : ∃ y : Rc, RcV (ghost W) y v ∧ y.cmd.ok ∧ y.small := by
  obtain ⟨cs, rfl⟩ := okWide_agg (by kernel_rfl) hv
  obtain ⟨fuel, hf⟩ := h
  exact el_rcb hf
set_option maxRecDepth 100000 in
theorem arg_t22 {H : Type} {enc : TypeId × Value → H} {W : World} {base : Nat} {v : Value} {d : DataW H} {p : List MemPlace} (hv : Value.okWide Tryd.prog W .any base 22 v) (h : DataW.Trod enc Tryd.prog W 0 (fun _ => true) true 22 v d p) : ∃ l, Sl (ghost W) 1 (IntR .u8) v l :=
  arg_slice Tryd.underlying22 (by kernel_rfl) (el_int Tryd.underlying5) hv h
theorem firstEq : (Rows.laid_unicode_utf8_first : DataW Unit) = Lib.firstData := by kernel_rfl
theorem acceptEq : (Rows.laid_unicode_utf8_acceptRanges : DataW Unit) = Lib.acceptData := by kernel_rfl
abbrev tabsLaid : List (String × DataW Unit) := [("unicode/utf8.acceptRanges", Rows.laid_unicode_utf8_acceptRanges), ("unicode/utf8.first", Rows.laid_unicode_utf8_first)]
theorem tabs_plain : (tabsLaid.all fun x => x.2.handleName?.isNone) = true := by kernel_rfl
theorem tabs_of_laid {W : World} (hL : laidMetH Tryd.prog tabsLaid W) : TabsG (ghost W) := by
  rw [MakeChecks.laidMetH_plain _ _ _ tabs_plain] at hL
  have r1 := Lib.laidMet.reads hL (.tail _ (.head _))
  have r2 := Lib.laidMet.reads hL (.head _)
  rw [firstEq] at r1
  rw [acceptEq] at r2
  have hU := utf8Tabs_of_readsT (ρ := laysDecode_ren) { laysDecode with } ⟨by kernel_rfl, by kernel_rfl, by kernel_rfl, by kernel_rfl, by kernel_rfl, by kernel_rfl, by kernel_rfl⟩ r1 r2
  clear hL r1 r2
  intro w hw
  have lift : ∀ (a : Addr) v, W.cell? a = some v → w.cell? a = some v := by
    intro a v h
    unfold World.cell? at h ⊢
    cases hb : W.heap[a.block]? with
    | none => rw [hb] at h; simp at h
    | some o => rw [hw _ _ hb]; rw [hb] at h; exact h
  exact ⟨fun c hc => lift _ _ (hU.1 c hc), fun i hi => ⟨lift _ _ (hU.2 i hi).1, lift _ _ (hU.2 i hi).2⟩⟩
end Go.Proofs.YtnoiahlpmgbhfaaDoor
/-
  A number that is an argument.
-/
set_option linter.unusedSimpArgs false
set_option linter.unusedVariables false
namespace Go.Proofs.YtnoiahlpmgbhfaaDoor
open Go.Vx Go.ChangeShapes Go.WideShapes Go.ChangeAt Go.RowKit
abbrev IsInt (v : Value) : Prop := ∃ a, v = .int .i64 a ∧ (Lit.int .i64 a).wf = true
set_option maxRecDepth 100000 in
theorem arg_t3 {H : Type} {enc : TypeId × Value → H} {W : World} {base : Nat} {v : Value} {d : DataW H} {p : List MemPlace} (hv : Value.okWide Tryd.prog W .any base 3 v) (h : DataW.Trod enc Tryd.prog W 0 (fun _ => true) true 3 v d p) : IsInt v := arg_int Tryd.underlying3 hv h
end Go.Proofs.YtnoiahlpmgbhfaaDoor
/-
  Entries that are an argument.
-/
set_option linter.unusedSimpArgs false
set_option linter.unusedVariables false
namespace Go.Proofs.YtnoiahlpmgbhfaaDoor
open Go.Vx Go.ChangeShapes Go.WideShapes Go.ChangeAt Go.RowKit
theorem el_ent {H : Type} {enc : TypeId × Value → H} {W : World} : Elem enc Tryd.prog W 50 EntR := by
  intro fuel cs x hf
  have h1 := el_flen (n := 10) Tryd.underlying50 (by kernel_rfl) hf
  obtain ⟨k, hk, wk⟩ := el_fld (i := 0) (sz := 1) (by kernel_rfl) (el_int Tryd.underlying3) hf
  have hb : Elem enc Tryd.prog W 25 (fun (p : Int × Int) cs => cs = [.int .i64 p.1, .int .i64 p.2] ∧ (Lit.int .i64 p.1).wf = true ∧ (Lit.int .i64 p.2).wf = true) := by
    intro fuel cs x hf
    have h1 := el_flen (n := 2) Tryd.underlying25 (by kernel_rfl) hf
    obtain ⟨a, ha, wa⟩ := el_fld (i := 0) (sz := 1) (by kernel_rfl) (el_int Tryd.underlying3) hf
    obtain ⟨b, hb, wb⟩ := el_fld (i := 1) (sz := 1) (by kernel_rfl) (el_int Tryd.underlying3) hf
    match cs, h1 with
    | [c0, c1], _ =>
      simp only [List.drop_succ_cons, List.drop_zero, List.take_succ_cons, List.take_zero, List.cons.injEq, and_true] at ha hb
      exact ⟨(a, b), by rw [ha, hb], wa, wb⟩
  obtain ⟨⟨r, n⟩, hr, wr, wn⟩ := el_fld (i := 1) (sz := 2) (by kernel_rfl) hb hf
  obtain ⟨c, hc, ho⟩ := el_fld (i := 2) (sz := 7) (by kernel_rfl) el_cm hf
  match cs, h1 with
  | [c0, c1, c2, c3, c4, c5, c6, c7, c8, c9], _ =>
    simp only [Cm.cells, List.drop_succ_cons, List.drop_zero, List.take_succ_cons, List.take_zero, List.cons.injEq, and_true] at hk hr hc
    obtain ⟨rfl, rfl⟩ := hr
    obtain ⟨rfl, rfl, rfl, rfl, rfl, rfl, rfl⟩ := hc
    subst hk
    exact ⟨⟨k, r, n, c⟩, rfl, wk, wr, wn, ho⟩
set_option maxRecDepth 100000 in
theorem arg_t40 {H : Type} {enc : TypeId × Value → H} {W : World} {base : Nat} {v : Value} {d : DataW H} {p : List MemPlace} (hv : Value.okWide Tryd.prog W .any base 40 v) (h : DataW.Trod enc Tryd.prog W 0 (fun _ => true) true 40 v d p) : ∃ l, Es (ghost W) v l :=
  arg_slice Tryd.underlying40 (by kernel_rfl) el_ent hv h
end Go.Proofs.YtnoiahlpmgbhfaaDoor
/-
  entry (layer 12), the thirteenth part: the reference's bytes; what is put of entries leads back; the law EntryBack.
-/
set_option linter.unusedSimpArgs false
set_option linter.unusedVariables false
namespace Go.Proofs.YtnoiahlpmgbhfaaDoor
open Go.Vx Go.ChangeShapes Go.WideShapes Go.ChangeAt Go.RowKit
theorem rents_s {G : GH} {lv : Value} {l : List Ent} (v : Int) (hls : Es G lv l) (hn : l.length ≤ 40) (hz : ∀ x ∈ l, x.sz) :
    Con Tryd.prog 43 #[.int .i64 v, lv] G [] (fun r G' μ' => GH.le G G' ∧ Grow 5 1 r (vbytes l.length ++ entsB v l).length ((vbytes l.length ++ entsB v l).map (.int .u8 ·)) μ') := by
  obtain ⟨A, c, rfl, hlc, hcm, hsome, hcp, hcb, hcc, hok⟩ := esOpen hls
  simp only [maxLen] at hcm
  refine v_enter Tryd.func43 rfl Tryd.ntmps43 rfl (fun B => ?_)
  repeat' (first | apply v_seq | apply v_region | apply v_nil | (apply v_pure; (case hop => first | (apply p_move <;> rfl) | (apply p_assign <;> rfl) | (apply p_lenSlice <;> rfl) | fail); (case hd => rfl)) | fail)
  refine v_call (μ1 := []) (μ2 := _) rfl (rnum_s _ (l.length : Nat) (by omega)) (List.Perm.refl _) rfl ?_
  rintro v0 G0 ν0 - ⟨rfl, ho0⟩
  have hl0 := (vbytes_len (l.length : Nat)).1
  generalize vbytes l.length = b0 at *
  repeat' (first | apply v_seq | apply v_region | apply v_nil | apply v_block | (apply v_pure; (case hop => first | (apply p_assign <;> rfl) | fail); (case hd => rfl)) | fail)
  refine v_loop [6, 5, 1, 0] (fun us G' μ' => GH.le G0 G' ∧ ∃ (k : Nat) (ov : Value), k ≤ l.length ∧ us = [Value.int .i64 (k : Nat), ov, .slice A l.length c, .int .i64 v] ∧ Grow 5 1 ov (b0 ++ entsB v (l.take k)).length ((b0 ++ entsB v (l.take k)).map (.int .u8 ·)) μ') (fun us => l.length - (headI us).toNat) rfl ⟨GH.le_refl _, 0, v0, by omega, rfl, by simpa [entsB] using ho0⟩ ?_
  rintro us G2 μ' ⟨hcur, k, ov, hk, rfl, ho0⟩
  by_cases hlt : k < l.length
  · have e1 : ((k : Nat) : Int).toNat = k := by omega
    have et := entsB_take (v := v) hlt
    obtain ⟨x, hxe⟩ : ∃ x, x = l[k] := ⟨_, rfl⟩
    have hx := hok k hlt
    have hsz := hz _ (List.getElem_mem hlt)
    have hlen : (b0 ++ entsB v (l.take k)).length ≤ 20000 := by
      rw [List.length_append]
      have := entsB_len v (l.take k) (fun x hx => hz x (List.mem_of_mem_take hx))
      rw [List.length_take] at this
      omega
    have kc0 : ∀ G', GH.le G0 G' → GH.cell? G' (((adr A).add (k * 10)).add 0) = some (.int .i64 x.index) := fun G' h => by rw [hxe]; exact ((hcp k hlt).le h).cell (j := 0) rfl
    have kc1 : ∀ G', GH.le G0 G' → GH.cell? G' ((((adr A).add (k * 10)).add 1).add 0) = some (.int .i64 x.round) := fun G' h => by rw [hxe]; exact ((hcb k hlt).le h).cell (j := 0) rfl
    have kc2 : ∀ G', GH.le G0 G' → GH.cell? G' ((((adr A).add (k * 10)).add 1).add 1) = some (.int .i64 x.node) := fun G' h => by rw [hxe]; exact ((hcb k hlt).le h).cell (j := 1) rfl
    have kc3 : ∀ G', GH.le G0 G' → CellsG G' (((adr A).add (k * 10)).add 3) x.cmd.cells := fun G' h => by rw [hxe]; exact (hcc k hlt).le h
    rw [← hxe] at hx hsz et
    obtain ⟨hx1, hx2, hx3, hx4⟩ := hx
    have hx1 := i64_le hx1
    have hx2 := i64_le hx2
    have hx3 := i64_le hx3
    have hck : x.cmd.kind ≤ 9223372036854775807 := i64_le hx4.1
    unfold Ent.sz at hsz
    have hL1 := (vbytes_len x.index).1
    have hL2 := (vbytes_len x.round).1
    have hL3 := (vbytes_len x.node).1
    have hL4 := (vbytes_len x.cmd.kind).1
    have hL5 := putW_len (wantB v x.cmd.kind) x.cmd (by omega) (by omega) (by omega) 6
    have hcw : ∀ y ∈ vbytes x.cmd.kind ++ putW (wantB v x.cmd.kind) x.cmd 6, (Lit.int .u8 y).wf = true := fun y hy => by
      rcases List.mem_append.1 hy with hy | hy
      · exact vbytes_wf hck y hy
      · exact putW_wf hx4 (by omega) (by omega) (by omega) 6 y hy
    have et2 : b0 ++ entsB v (l.take (k + 1)) = (b0 ++ entsB v (l.take k)) ++ entB v x := by rw [et, List.append_assoc]
    generalize b0 ++ entsB v (l.take k) = b1 at *
    repeat' (first | apply v_seq | apply v_region | apply v_nil | apply v_skip | apply v_block | (apply v_pure; (case hop => first | (apply p_move <;> rfl) | (apply p_lt <;> rfl) | (apply p_lenSlice <;> rfl) | (apply p_fieldAddr <;> rfl) | (apply p_indexAddrS; (case hx => rfl); (case hi => rfl); (case h0 => omega); (case h => omega); (case hA => first | (apply_assumption; omega))) | fail); (case hd => rfl)) | (apply v_cond; (case hc => rfl); all_goals (intro h; (try simp only [reduceCtorEq, dec_true, dec_false, decide_eq_true_eq, decide_eq_false_iff_not, Bool.not_eq_true', Bool.not_eq_false', Option.isNone_iff_eq_none, beq_true, beq_false, beq_iff_eq, beq_eq_false_iff_ne, ne_eq, decide_eq_decide, Bool.not_eq_true, Bool.not_eq_false, Decidable.not_not] at h); first | (exfalso; omega) | skip)) | (apply v_read; (case hop => first | (apply r_load1; rfl; exact Cell.frozen (kc0 _ hcur)) | fail); (case hd => rfl)) | fail)
    refine v_call (μ1 := []) (μ2 := _) rfl (rnum_s _ x.index hx1) (List.Perm.refl _) rfl ?_
    rintro r1 G3 μ1 - ⟨rfl, hg1⟩
    refine v_frz μ1 (by repeat (first | exact PickA.here _ | fail)) ?_
    intro H1 hle1 hG1
    have hcur := GH.le_trans hcur hle1
    have hs1 : Sl H1 1 (IntR .u8) r1 (vbytes x.index) := hg1.ints hG1 (fun y hy => vbytes_wf hx1 y hy)
    have hsrc1 := fun μ => Src.ints (μ := μ) hs1
    obtain ⟨A1, c1, rfl, -, -⟩ := hg1.shape
    repeat' (fail)
    refine v_append (e := 5) (sz := 1) (zero := .int .u8 0) rfl (by omega) rfl rfl ho0 (PickA.perm (by repeat (first | exact PickA.last | fail))) (hsrc1 _) (allOne_ints _) (by (try simp only [List.length_append]); omega) (by simp only [maxLen]; (try simp only [List.length_append]); omega) rfl fun v1 ν1 ho1 => ?_
    rw [← List.map_append, ← List.length_append] at ho1
    repeat' (first | apply v_seq | apply v_region | apply v_nil | (apply v_pure; (case hop => first | (apply p_move <;> rfl) | (apply p_assign <;> rfl) | (apply p_fieldAddrB <;> rfl) | (apply p_fieldAddr <;> rfl) | (apply p_indexAddrS; (case hx => rfl); (case hi => rfl); (case h0 => omega); (case h => omega); (case hA => first | (apply_assumption; omega))) | fail); (case hd => rfl)) | (apply v_read; (case hop => first | (apply r_load1; rfl; exact Cell.frozen (kc1 _ hcur)) | fail); (case hd => rfl)) | fail)
    refine v_call (μ1 := []) (μ2 := _) rfl (rnum_s _ x.round hx2) (List.Perm.refl _) rfl ?_
    rintro r2 G4 μ2 - ⟨rfl, hg2⟩
    refine v_frz μ2 (by repeat (first | exact PickA.here _ | fail)) ?_
    intro H2 hle2 hG2
    have hcur := GH.le_trans hcur hle2
    have hs2 : Sl H2 1 (IntR .u8) r2 (vbytes x.round) := hg2.ints hG2 (fun y hy => vbytes_wf hx2 y hy)
    have hsrc2 := fun μ => Src.ints (μ := μ) hs2
    obtain ⟨A2, c2, rfl, -, -⟩ := hg2.shape
    repeat' (fail)
    refine v_append (e := 5) (sz := 1) (zero := .int .u8 0) rfl (by omega) rfl rfl ho1 (PickA.perm (by repeat (first | exact PickA.here _ | fail))) (hsrc2 _) (allOne_ints _) (by (try simp only [List.length_append]); omega) (by simp only [maxLen]; (try simp only [List.length_append]); omega) rfl fun v2 ν2 ho2 => ?_
    rw [← List.map_append, ← List.length_append] at ho2
    repeat' (first | apply v_seq | apply v_region | apply v_nil | (apply v_pure; (case hop => first | (apply p_move <;> rfl) | (apply p_assign <;> rfl) | (apply p_fieldAddrB <;> rfl) | (apply p_fieldAddr <;> rfl) | (apply p_indexAddrS; (case hx => rfl); (case hi => rfl); (case h0 => omega); (case h => omega); (case hA => first | (apply_assumption; omega))) | fail); (case hd => rfl)) | (apply v_read; (case hop => first | (apply r_load1; rfl; exact Cell.frozen (kc2 _ hcur)) | fail); (case hd => rfl)) | fail)
    refine v_call (μ1 := []) (μ2 := _) rfl (rnum_s _ x.node hx3) (List.Perm.refl _) rfl ?_
    rintro r3 G5 μ3 - ⟨rfl, hg3⟩
    refine v_frz μ3 (by repeat (first | exact PickA.here _ | fail)) ?_
    intro H3 hle3 hG3
    have hcur := GH.le_trans hcur hle3
    have hs3 : Sl H3 1 (IntR .u8) r3 (vbytes x.node) := hg3.ints hG3 (fun y hy => vbytes_wf hx3 y hy)
    have hsrc3 := fun μ => Src.ints (μ := μ) hs3
    obtain ⟨A3, c3, rfl, -, -⟩ := hg3.shape
    repeat' (fail)
    refine v_append (e := 5) (sz := 1) (zero := .int .u8 0) rfl (by omega) rfl rfl ho2 (PickA.perm (by repeat (first | exact PickA.here _ | fail))) (hsrc3 _) (allOne_ints _) (by (try simp only [List.length_append]); omega) (by simp only [maxLen]; (try simp only [List.length_append]); omega) rfl fun v3 ν3 ho3 => ?_
    rw [← List.map_append, ← List.length_append] at ho3
    repeat' (first | apply v_region | apply v_nil | (apply v_pure; (case hop => first | (apply p_move <;> rfl) | (apply p_assign <;> rfl) | (apply p_fieldAddr <;> rfl) | (apply p_indexAddrS; (case hx => rfl); (case hi => rfl); (case h0 => omega); (case h => omega); (case hA => first | (apply_assumption; omega))) | fail); (case hd => rfl)) | (apply v_read; (case hop => first | (apply r_loadN; rfl; exact CellsAt.frozen (kc3 _ hcur); rfl)); (case hd => rfl)) | fail)
    refine v_call (μ1 := []) (μ2 := _) rfl (rcmdV_s _ v x.cmd hx4 (by omega) (by omega) (by omega)) (List.Perm.refl _) rfl ?_
    rintro r4 G6 μ4 - ⟨hleR, hg4⟩
    have hcur := GH.le_trans hcur hleR
    refine v_frz μ4 (by repeat (first | exact PickA.here _ | fail)) ?_
    intro H4 hle4 hG4
    have hcur := GH.le_trans hcur hle4
    have hs4 : Sl H4 1 (IntR .u8) r4 (vbytes x.cmd.kind ++ putW (wantB v x.cmd.kind) x.cmd 6) := hg4.ints hG4 hcw
    have hsrc4 := fun μ => Src.ints (μ := μ) hs4
    obtain ⟨A4, c4, rfl, -, -⟩ := hg4.shape
    repeat' (fail)
    refine v_append (e := 5) (sz := 1) (zero := .int .u8 0) rfl (by omega) rfl rfl ho3 (PickA.perm (by repeat (first | exact PickA.here _ | fail))) (hsrc4 _) (allOne_ints _) (by (try simp only [List.length_append]); omega) (by simp only [maxLen]; (try simp only [List.length_append]); omega) rfl fun v4 ν4 ho4 => ?_
    rw [← List.map_append, ← List.length_append] at ho4
    repeat' (first | apply v_region | apply v_nil | apply v_blk | (apply v_pure; (case hop => first | (apply p_move <;> rfl) | (apply p_assign <;> rfl) | (apply p_add; (case hx => rfl); (case hy => rfl); (case h => omega)) | fail); (case hd => rfl)) | fail)
    refine v_only ν4 (by repeat (first | exact PickA.here _ | fail)) ?_
    refine v_again rfl ⟨hcur, k + 1, v4, by omega, rfl, ?_⟩ (by simp [headI]; omega)
    rw [et2, entB]
    simpa using ho4
  · obtain rfl : k = l.length := by omega
    rw [List.take_length] at ho0
    repeat' (first | apply v_seq | apply v_region | apply v_nil | (apply v_exit; (case hp => rfl)) | (apply v_pure; (case hop => first | (apply p_move <;> rfl) | (apply p_lt <;> rfl) | (apply p_assign <;> rfl) | (apply p_lenSlice <;> rfl) | fail); (case hd => rfl)) | (apply v_cond; (case hc => rfl); all_goals (intro h; (try simp only [reduceCtorEq, dec_true, dec_false, decide_eq_true_eq, decide_eq_false_iff_not, Bool.not_eq_true', Bool.not_eq_false', Option.isNone_iff_eq_none, beq_true, beq_false, beq_iff_eq, beq_eq_false_iff_ne, ne_eq, decide_eq_decide, Bool.not_eq_true, Bool.not_eq_false, Decidable.not_not] at h); first | (exfalso; omega) | skip)) | fail)
    refine v_ret μ' (outsA1 rfl rfl) (by repeat (first | exact List.Sublist.refl _ | fail)) ?_
    exact ⟨hcur, ho0⟩
end Go.Proofs.YtnoiahlpmgbhfaaDoor
/-
  entry (layer 12), the fourteenth part: the law EntryBack.
-/
set_option linter.unusedSimpArgs false
set_option linter.unusedVariables false
namespace Go.Proofs.YtnoiahlpmgbhfaaDoor
open Go.Vx Go.ChangeShapes Go.WideShapes Go.ChangeAt Go.RowKit
theorem chk_all {l : List Ent} : ∀ (n k : Nat), l.length - k = n → chkK l k = 0 → ∀ i (h : i < l.length), k ≤ i → oneI l[i] = 0
  | 0, k, hn, _, i, h, hk => by omega
  | n + 1, k, hn, hc, i, h, hk => by
    have hlt : k < l.length := by omega
    rw [chkK, dif_pos hlt] at hc
    by_cases h1 : oneI l[k] ≠ 0
    · rw [if_pos h1] at hc; exact absurd hc h1
    · rw [if_neg h1] at hc
      by_cases hik : i = k
      · subst hik; exact Decidable.not_not.1 h1
      · have hnext : chkK l (k + 1) = 0 := by
          by_cases h0 : 0 < k
          · rw [dif_pos h0] at hc
            split at hc
            · cases hc
            · exact hc
          · rw [dif_neg h0] at hc; exact hc
        exact chk_all n (k + 1) (by omega) hnext i h (by omega)
theorem one0 {x : Ent} (h : oneI x = 0) : (1 ≤ x.index ∧ x.index ≤ 4294967296) ∧ mayP x.round x.node ∧ cmdI x.cmd = 0 := by
  unfold oneI at h
  obtain ⟨h1, h2⟩ := ite0 (by decide) h
  exact ⟨by omega, Decidable.not_not.1 fun hn => h1 (.inr (.inr hn)), h2⟩
/-- What is put of an entry leads back to it. -/
theorem getE_put {v : Int} : ∀ (l : List Ent) (r : List Int), (∀ x ∈ l, oneI x = 0 ∧ HasV v x.cmd.kind) → getE v l.length (some (entsB v l ++ r)) = (l, some r)
  | [], r, _ => by simp [getE, entsB]
  | x :: l, r, h => by
    obtain ⟨h1, hv⟩ := h x (by simp)
    obtain ⟨hi, hm, hc⟩ := one0 h1
    unfold mayP at hm
    unfold HasV at hv
    have ih := getE_put (v := v) l r (fun y hy => h y (by simp [hy]))
    have hs := cmdSz hc
    have q1 := fun t => num_v (m := x.index) t (by omega) (by omega)
    have q2 := fun t => num_v (m := x.round) t (by omega) (by omega)
    have q3 := fun t => num_v (m := x.node) t (by omega) (by omega)
    have q4 := getV_put (v := v) (c := x.cmd) hc (by omega) (by omega) (entsB v l ++ r)
    have e : entsB v (x :: l) ++ r = vbytes x.index ++ (vbytes x.round ++ (vbytes x.node ++ (vbytes x.cmd.kind ++ putW (wantB v x.cmd.kind) x.cmd 6 ++ (entsB v l ++ r)))) := by
      simp [entsB, entB]
    rw [e, List.length_cons]
    simp only [getE, q1, q2, q3, q4, ih]
theorem entsB_ge (v : Int) : ∀ (l : List Ent), l.length ≤ (entsB v l).length
  | [] => by simp
  | x :: l => by
    have h1 := (vbytes_len x.index).2
    have h2 := entsB_ge v l
    have hb : 1 ≤ (entB v x).length := by
      unfold entB
      simp only [List.length_append]
      omega
    unfold entsB at h2 ⊢
    rw [List.map_cons, List.flatten_cons, List.length_append, List.length_cons]
    omega
theorem wbytesK_s {G : GH} {l : List Int} {sv : Value} (wb : Nat) (hs : Sl G 1 (IntR .u8) sv l) (hl : l.length ≤ 1048000) :
    Con Tryd.prog 41 #[.pointer (some ⟨wb, 0, none⟩)] G [(wb, .cells [sv].toArray 66 (0, 0))]
      (fun r G' μ' => μ' = [(wb, .cells [sv].toArray 66 (0, 0))] ∧ Sl G' 1 (IntR .u8) r l) := by
  obtain ⟨A, c, rfl, hlc, hcm, hsome, hel, hwf⟩ := hs.openInt
  refine v_enter Tryd.func41 rfl Tryd.ntmps41 rfl (fun B => ?_)
  repeat' (first | apply v_seq | apply v_region | apply v_nil | apply v_skip | (apply v_pure; (case hop => first | (apply p_move <;> rfl) | (apply p_assign <;> rfl) | (apply p_fieldAddrB <;> rfl) | (apply p_nilCheck <;> rfl) | (apply p_eqNil <;> rfl) | fail); (case hd => rfl)) | (apply v_condF; (case hc => rfl)) | (apply v_read; (case hop => first | (apply r_load1; rfl; (apply Cell.own; (case h => (repeat (first | exact List.Mem.head _ | fail))); rfl)) | fail); (case hd => rfl)) | fail)
  refine v_call (μ1 := []) (μ2 := _) rfl (bclone_s hs (by omega)) (List.Perm.refl _) rfl ?_
  rintro r G' μ1 - ⟨rfl, hg⟩
  refine v_frz μ1 (by repeat (first | exact PickA.here _ | fail)) ?_
  intro G1 hle hG
  repeat' (first | apply v_nil | (apply v_pure; (case hop => first | (apply p_assign <;> rfl) | fail); (case hd => rfl)) | fail)
  refine v_ret [(wb, _)] (outsA1 rfl rfl) (by repeat (first | exact List.Sublist.refl _ | fail)) ?_
  exact ⟨rfl, hg.ints hG hwf⟩
theorem ents_wf {v : Int} {l : List Ent} (h : ∀ x ∈ l, x.ok ∧ x.sz) : ∀ y ∈ entsB v l, (Lit.int .u8 y).wf = true := by
  induction l with
  | nil => intro y hy; simp [entsB] at hy
  | cons x l ih =>
    intro y hy
    have e : entsB v (x :: l) = entB v x ++ entsB v l := by simp [entsB]
    rw [e] at hy
    rcases List.mem_append.1 hy with hy | hy
    · obtain ⟨⟨h1, h2, h3, h4⟩, hsz⟩ := h x (by simp)
      unfold Ent.sz at hsz
      unfold entB at hy
      rcases List.mem_append.1 hy with hy | hy
      · rcases List.mem_append.1 hy with hy | hy
        · rcases List.mem_append.1 hy with hy | hy
          · exact vbytes_wf (i64_le h1) y hy
          · exact vbytes_wf (i64_le h2) y hy
        · exact vbytes_wf (i64_le h3) y hy
      · rcases List.mem_append.1 hy with hy | hy
        · exact vbytes_wf (i64_le h4.1) y hy
        · exact putW_wf h4 (by omega) (by omega) (by omega) 6 y hy
    · exact ih (fun z hz => h z (by simp [hz])) y hy
theorem entryBack_law {W : World} {v0 v1 : Value} (hT : TabsG (ghost W)) (g0 : IsInt v0) (g1 : ∃ l, Es (ghost W) v1 l) : LawCon Tryd.prog 9 #[v0, v1] W := by
  obtain ⟨v, rfl, _⟩ := g0
  obtain ⟨l, hs⟩ := g1
  have ql := entLargeB_s hs
  have qr := refEntCheck_s hs
  have qg := refEntHas_s v hs
  unfold LawCon
  generalize ghost W = G at *
  have qa := fun G' (h : GH.le G G') => awake12_s (hT.le h)
  obtain ⟨A, c, rfl, hlc, hcm, hsome, hcp, hcb, hcc, hok⟩ := esOpen hs
  refine v_enter Tryd.func9 rfl Tryd.ntmps9 rfl (fun B => ?_)
  repeat' (first | apply v_seq | apply v_region | apply v_nil | (apply v_pure; (case hop => first | (apply p_move <;> rfl) | (apply p_assign <;> rfl) | fail); (case hd => rfl)) | fail)
  refine v_call (μ1 := []) (μ2 := _) rfl ql (List.Perm.refl _) rfl ?_
  rintro _ _ _ - ⟨rfl, rfl, b, rfl, hlb⟩
  cases b
  rotate_left
  · repeat' (first | apply v_seq | apply v_region | apply v_nil | (apply v_pass; (case hg => rfl); (case hn => rfl); (case hd => rfl)) | (apply v_pure; (case hop => first | (apply p_move <;> rfl) | (apply p_assign <;> rfl) | (apply p_pickT <;> rfl) | fail); (case hd => rfl)) | (apply v_condT; (case hc => rfl)) | (apply v_callJ (hs := qa _ (GH.le_refl _)); (case ha => rfl); (case hd => rfl)) | fail)
    refine v_ret [] (outsA1 rfl rfl) (by repeat (first | exact List.Sublist.refl _ | fail)) ?_
    rfl
  by_cases h0 : chkK l 0 = 0
  rotate_left
  · generalize chkK l 0 = I at *
    repeat' (first | apply v_seq | apply v_region | apply v_nil | (apply v_take; (case hg => rfl)) | (apply v_pass; (case hg => rfl); (case hn => rfl); (case hd => rfl)) | (apply v_pure; (case hop => first | (apply p_move <;> rfl) | (apply p_ne <;> rfl) | (apply p_assign <;> rfl) | (apply p_pickT <;> rfl) | (apply p_pickF <;> rfl) | fail); (case hd => rfl)) | (apply v_condT; (case hc => rfl)) | (apply v_guardB; (case h1 => rfl); (case h2 => rfl); all_goals (intro h; (try simp only [reduceCtorEq, dec_true, dec_false, decide_eq_true_eq, decide_eq_false_iff_not, Bool.not_eq_true', Bool.not_eq_false', Option.isNone_iff_eq_none, beq_true, beq_false, beq_iff_eq, beq_eq_false_iff_ne, ne_eq, decide_eq_decide, Bool.not_eq_true, Bool.not_eq_false, Decidable.not_not] at h); first | (exfalso; omega) | skip)) | (apply v_callJ (hs := qr); (case ha => rfl); (case hd => rfl)) | (apply v_callJ (hs := qa _ (GH.le_refl _)); (case ha => rfl); (case hd => rfl)) | fail)
    all_goals
      (refine v_ret [] (outsA1 rfl rfl) (by repeat (first | exact List.Sublist.refl _ | fail)) ?_
       rfl)
  rw [h0] at qr
  by_cases hv : HasAll v l
  rotate_left
  · rw [decide_eq_false hv] at qg
    repeat' (first | apply v_seq | apply v_region | apply v_nil | (apply v_take; (case hg => rfl)) | (apply v_pure; (case hop => first | (apply p_move <;> rfl) | (apply p_nes <;> rfl) | (apply p_assign <;> rfl) | (apply p_pickF <;> rfl) | (apply p_not <;> rfl) | fail); (case hd => rfl)) | (apply v_condT; (case hc => rfl)) | (apply v_callJ (hs := qr); (case ha => rfl); (case hd => rfl)) | (apply v_callJ (hs := qg); (case ha => rfl); (case hd => rfl)) | (apply v_callJ (hs := qa _ (GH.le_refl _)); (case ha => rfl); (case hd => rfl)) | fail)
    all_goals
      (refine v_ret [] (outsA1 rfl rfl) (by repeat (first | exact List.Sublist.refl _ | fail)) ?_
       rfl)
  rw [decide_eq_true hv] at qg
  have hn := hlb rfl
  have hall : ∀ x ∈ l, oneI x = 0 ∧ HasV v x.cmd.kind := fun x hx => by
    obtain ⟨i, hi, rfl⟩ := List.getElem_of_mem hx
    exact ⟨chk_all _ 0 rfl h0 i hi (by omega), hv i hi⟩
  have hz : ∀ x ∈ l, x.sz := fun x hx => by
    have := cmdSz (one0 (hall x hx).1).2.2
    unfold Ent.sz
    omega
  repeat' (first | apply v_seq | apply v_region | apply v_nil | apply v_skip | (apply v_take; (case hg => rfl)) | (apply v_pure; (case hop => first | (apply p_move <;> rfl) | (apply p_nes <;> rfl) | (apply p_assign <;> rfl) | (apply p_pickF <;> rfl) | (apply p_not <;> rfl) | (apply p_build; (case hz => rfl); (case hv => (simp only [List.map_cons, List.map_nil]; repeat (first | with_reducible exact evs_nil | fail))); (case hb => (apply bldL; repeat (first | exact bld_nil | fail)))) | fail); (case hd => rfl)) | (apply v_condF; (case hc => rfl)) | (apply v_callJ (hs := qr); (case ha => rfl); (case hd => rfl)) | (apply v_callJ (hs := qg); (case ha => rfl); (case hd => rfl)) | (apply v_box; (case hx => rfl); (case hz => rfl); (case hd => rfl); intro b) | fail)
  have hwb : ∀ y ∈ vbytes l.length ++ entsB v l, (Lit.int .u8 y).wf = true := fun y hy => by
    rcases List.mem_append.1 hy with hy | hy
    · exact vbytes_wf (by omega) y hy
    · exact ents_wf (fun x hx => ⟨by obtain ⟨i, hi, rfl⟩ := List.getElem_of_mem hx; exact hok i hi, hz x hx⟩) y hy
  have hl0 := (vbytes_len (l.length : Nat)).1
  have hle0 := entsB_len v l hz
  have hge := entsB_ge v l
  have hbl : (vbytes l.length ++ entsB v l).length ≤ 20000 := by rw [List.length_append]; omega
  have hcnt := cnt_v (m := (l.length : Nat)) (entsB v l) (by omega) (by omega) (by omega)
  have hback := getE_put (v := v) l [] hall
  rw [List.append_nil] at hback
  rename Nat => wb
  refine v_call (μ1 := [(wb, _)]) (μ2 := _) rfl (eput_s v wb Sl.nil (by simp) hs hn hz) (PickA.perm (by repeat (first | exact PickA.last | fail))) rfl ?_
  rintro _ G2 _ hle2 ⟨w, rfl, hw⟩
  rw [List.nil_append] at hw
  repeat' (first | apply v_seq | apply v_region | apply v_nil | (apply v_pure; (case hop => first | (apply p_move <;> rfl) | fail); (case hd => rfl)) | fail)
  refine v_call (μ1 := [(wb, _)]) (μ2 := _) rfl (wbytesK_s wb hw (by omega)) (PickA.perm (by repeat (first | exact PickA.last | fail))) rfl ?_
  rintro _ G3 _ hle3 ⟨rfl, hb3⟩
  obtain ⟨A3, c3, rfl, -⟩ := id hb3.openInt
  have hby : byteS (some (vbytes l.length ++ entsB v l)) := fun r hr x hx => by cases hr; exact sl_byte hb3 x hx
  repeat' (fail)
  refine v_call (μ1 := []) (μ2 := _) rfl (newReader_s hb3 (by omega)) (List.Perm.refl _) rfl ?_
  rintro _ G4 _ - ⟨hle4, rb, bv, rfl, rfl, hb4⟩
  have hr0 : RdS (vbytes l.length ++ entsB v l) 0 0 (some (vbytes l.length ++ entsB v l)) := ⟨by omega, .inr ⟨by simp, rfl⟩⟩
  have qg2 := eget_s v rb 0 0 hb4 (by omega) hr0 hby
  rw [hcnt.1, hcnt.2, show ((l.length : Nat) : Int).toNat = l.length by omega, hback] at qg2
  repeat' (first | apply v_seq | apply v_region | apply v_nil | (apply v_pure; (case hop => first | (apply p_move <;> rfl) | (apply p_assign <;> rfl) | fail); (case hd => rfl)) | fail)
  refine v_call (μ1 := [(rb, _)]) (μ2 := _) rfl qg2 (PickA.perm (by repeat (first | exact PickA.here _ | fail))) rfl ?_
  rintro xv G5 _ hle5 ⟨hx5, a5, no5, rfl, hr5⟩
  obtain ⟨Ax, cx, rfl, -⟩ := esOpen hx5
  have hw5 := (((hw.mono hle3).mono hle4).mono hle5)
  repeat' (first | apply v_seq | apply v_region | apply v_nil | (apply v_pure; (case hop => first | (apply p_move <;> rfl) | (apply p_assign <;> rfl) | fail); (case hd => rfl)) | fail)
  refine v_call (μ1 := [(wb, _)]) (μ2 := _) rfl (wbytesK_s wb hw5 (by omega)) (PickA.perm (by repeat (first | exact PickA.last | apply PickA.cons | fail))) rfl ?_
  rintro _ G6 _ hle6 ⟨rfl, hb6⟩
  have h06 := GH.le_trans (GH.le_trans (GH.le_trans (GH.le_trans hle2 hle3) hle4) hle5) hle6
  obtain ⟨A6, c6, rfl, -⟩ := id hb6.openInt
  repeat' (first | (apply v_pure; (case hop => first | (apply p_move <;> rfl) | fail); (case hd => rfl)) | fail)
  refine v_call (μ1 := []) (μ2 := _) rfl (rents_s v (Sl.le hs h06 fun _ _ h => h) hn hz) (List.Perm.refl _) rfl ?_
  rintro r7 G7 ν7 - ⟨hle7, hg7⟩
  refine v_frz ν7 (by repeat (first | exact PickA.here _ | fail)) ?_
  intro G8 hle8 hG8
  have h08 := GH.le_trans (GH.le_trans h06 hle7) hle8
  have h8 := hg7.ints hG8 hwb
  obtain ⟨A7, c7, rfl, -, -⟩ := hg7.shape
  have qs := bSame_s ((hb6.mono hle7).mono hle8) h8
  rw [decide_eq_true rfl] at qs
  have qe := entSame_s (Sl.le hx5 (GH.le_trans (GH.le_trans hle6 hle7) hle8) fun _ _ h => h) (Sl.le hs h08 fun _ _ h => h)
  rw [decide_eq_true rfl] at qe
  repeat' (first | (apply v_take; (case hg => rfl)) | (apply v_pure; (case hop => first | (apply p_move <;> rfl) | (apply p_pickT <;> rfl) | fail); (case hd => rfl)) | (apply v_callJ (hs := qs); (case ha => rfl); (case hd => rfl)) | (apply v_callJ (hs := qe); (case ha => rfl); (case hd => rfl)) | fail)
  refine v_call (μ1 := [(rb, _)]) (μ2 := _) rfl (rdDone_s rb _ _ (((((hb4.mono hle5).mono hle6).mono hle7).mono hle8)) (by omega) hr5) (PickA.perm (by repeat (first | exact PickA.last | apply PickA.cons | fail))) rfl ?_
  rintro _ _ _ - ⟨rfl, ⟨ed, rfl, hed⟩, rfl⟩
  have hed0 := hed.2 rfl
  subst hed0
  repeat' (first | apply v_nil | (apply v_take; (case hg => rfl)) | (apply v_pure; (case hop => first | (apply p_move <;> rfl) | (apply p_eqs <;> rfl) | (apply p_assign <;> rfl) | (apply p_pickT <;> rfl) | fail); (case hd => rfl)) | (apply v_callJ (hs := qa _ h08); (case ha => rfl); (case hd => rfl)) | fail)
  refine v_ret [] (outsA1 rfl rfl) (by repeat (first | exact List.nil_sublist _ | fail)) ?_
  rfl
end Go.Proofs.YtnoiahlpmgbhfaaDoor
/-
  hard (layer 19), in plain Lean: what records come to, in two ways.
-/
set_option linter.unusedSimpArgs false
set_option linter.unusedVariables false
namespace Go.Proofs.YtnoiahlpmgbhfaaDoor
open Go.Vx Go.ChangeShapes Go.WideShapes Go.ChangeAt Go.RowKit
/-- One more, by its index. -/
def ins (x : Ent) : List Ent → List Ent
  | [] => [x]
  | y :: l => if y.index < x.index then y :: ins x l else if y.index = x.index then x :: l else x :: y :: l
theorem ins_cons (x y : Ent) (l : List Ent) : ins x (y :: l) = if y.index < x.index then y :: ins x l else if y.index = x.index then x :: l else x :: y :: l := rfl
theorem rise_pw {l : List Ent} : RiseL l ↔ l.Pairwise (fun a b => a.index < b.index) := by
  rw [List.pairwise_iff_getElem]
  exact ⟨fun h i j hi hj hij => h i j hj hij, fun h i j hj hij => h i j (by omega) hj hij⟩
theorem placeN_cons (y : Ent) (l : List Ent) (n : Int) : placeN (y :: l) n = placeN l n + (if y.index < n then 1 else 0) := by
  unfold placeN
  rw [List.countP_cons]
  simp
theorem placeN_zero {l : List Ent} {n : Int} (h : ∀ x ∈ l, n ≤ x.index) : placeN l n = 0 := by
  unfold placeN
  rw [List.countP_eq_zero]
  intro x hx
  have := h x hx
  simp; omega
theorem hitB_iff {l : List Ent} (hr : RiseL l) (n : Int) : hitB l n = true ↔ ∃ x ∈ l, x.index = n := by
  induction l with
  | nil => simp [hitB]
  | cons y l ih =>
    have hp := rise_pw.1 hr
    rw [List.pairwise_cons] at hp
    have hr' := rise_pw.2 hp.2
    have ih' := ih hr'
    by_cases hy : y.index < n
    · have e : hitB (y :: l) n = hitB l n := by
        unfold hitB
        simp only [placeN_cons, if_pos hy, List.length_cons]
        by_cases hh : placeN l n < l.length
        · rw [dif_pos (by omega), dif_pos hh]
          congr 1
        · rw [dif_neg (by omega), dif_neg hh]
      rw [e, ih']
      simp only [List.mem_cons, exists_eq_or_imp]
      constructor
      · exact .inr
      · rintro (h | h)
        · omega
        · exact h
    · have e : placeN (y :: l) n = 0 := by
        refine placeN_zero fun x hx => ?_
        rw [List.mem_cons] at hx
        obtain rfl | hx := hx
        · omega
        · have := hp.1 x hx; omega
      unfold hitB
      simp only [e, List.length_cons]
      rw [dif_pos (by omega)]
      simp only [List.getElem_cons_zero, decide_eq_true_eq, List.mem_cons, exists_eq_or_imp]
      constructor
      · exact .inl
      · rintro (h | ⟨x, hx, h⟩)
        · exact h
        · have := hp.1 x hx; omega
theorem withL_ins {l : List Ent} (hr : RiseL l) (x : Ent) : withL l x = ins x l := by
  induction l with
  | nil => simp [withL, hitB, placeN, ins]
  | cons y l ih =>
    have hp := rise_pw.1 hr
    rw [List.pairwise_cons] at hp
    have hr' := rise_pw.2 hp.2
    have ih' := ih hr'
    have hh := hitB_iff hr x.index
    have hh' := hitB_iff hr' x.index
    unfold ins
    by_cases hy : y.index < x.index
    · rw [if_pos hy, ← ih']
      have e : placeN (y :: l) x.index = placeN l x.index + 1 := by rw [placeN_cons, if_pos hy]
      have eh : hitB (y :: l) x.index = hitB l x.index := by
        rw [Bool.eq_iff_iff, hh, hh']
        simp only [List.mem_cons, exists_eq_or_imp]
        constructor
        · rintro (h | h)
          · omega
          · exact h
        · exact .inr
      unfold withL
      rw [e, eh]
      split <;> simp
    · rw [if_neg hy]
      have e : placeN (y :: l) x.index = 0 := by
        refine placeN_zero fun z hz => ?_
        rw [List.mem_cons] at hz
        obtain rfl | hz := hz
        · omega
        · have := hp.1 z hz; omega
      unfold withL
      rw [e]
      by_cases he : y.index = x.index
      · rw [if_pos he, if_pos (hh.2 ⟨y, by simp, he⟩)]
        rfl
      · rw [if_neg he, if_neg]
        · rfl
        · rw [hh]
          rintro ⟨z, hz, h⟩
          rw [List.mem_cons] at hz
          obtain rfl | hz := hz
          · exact he h
          · have := hp.1 z hz; omega
theorem mem_ins {x z : Ent} : ∀ {l : List Ent}, z ∈ ins x l → z = x ∨ z ∈ l
  | [], h => by simp [ins] at h; exact .inl h
  | y :: l, h => by
    unfold ins at h
    split at h
    · rw [List.mem_cons] at h ⊢
      obtain h | h := h
      · exact .inr (.inl h)
      · obtain h | h := mem_ins h
        · exact .inl h
        · exact .inr (.inr h)
    · split at h
      · rw [List.mem_cons] at h ⊢
        obtain h | h := h
        · exact .inl h
        · exact .inr (.inr h)
      · rw [List.mem_cons] at h
        exact h
theorem ins_filter (b : Int) (x : Ent) : ∀ l : List Ent, (ins x l).filter (fun e => decide (b < e.index)) = if b < x.index then ins x (l.filter (fun e => decide (b < e.index))) else l.filter (fun e => decide (b < e.index))
  | [] => by
    unfold ins
    by_cases hb : b < x.index <;> simp [hb, ins]
  | y :: l => by
    have ih := ins_filter b x l
    rw [ins_cons]
    by_cases h1 : y.index < x.index
    · rw [if_pos h1, List.filter_cons, List.filter_cons, ih]
      by_cases hy : b < y.index
      · have hx : b < x.index := by omega
        simp only [hy, hx, decide_true, if_true, ins_cons, h1]
      · simp only [hy, decide_false, if_false, Bool.false_eq_true]
    · rw [if_neg h1]
      by_cases h2 : y.index = x.index
      · rw [if_pos h2, List.filter_cons, List.filter_cons]
        by_cases hb : b < x.index
        · have hy : b < y.index := by omega
          simp only [hb, hy, decide_true, if_true, ins_cons, h1, h2, if_false, Int.lt_irrefl]
        · have hy : ¬ b < y.index := by omega
          simp only [hb, hy, decide_false, if_false, Bool.false_eq_true]
      · rw [if_neg h2, List.filter_cons]
        by_cases hb : b < x.index
        · have hy : b < y.index := by omega
          rw [List.filter_cons]
          simp only [hb, hy, decide_true, if_true, ins_cons, h1, h2, if_false, Int.lt_irrefl]
        · simp only [hb, decide_false, if_false, Bool.false_eq_true]
/-- One more, unless one of its index is there. -/
def insN (x : Ent) (l : List Ent) : List Ent := if ∃ y ∈ l, y.index = x.index then l else ins x l
theorem insN_filter (b : Int) (x : Ent) (l : List Ent) : (insN x l).filter (fun e => decide (b < e.index)) = if b < x.index then insN x (l.filter (fun e => decide (b < e.index))) else l.filter (fun e => decide (b < e.index)) := by
  unfold insN
  by_cases hb : b < x.index
  · rw [if_pos hb]
    have e : (∃ y ∈ l.filter (fun e => decide (b < e.index)), y.index = x.index) ↔ ∃ y ∈ l, y.index = x.index := by
      constructor
      · rintro ⟨y, hy, h⟩; exact ⟨y, (List.mem_filter.1 hy).1, h⟩
      · rintro ⟨y, hy, h⟩; exact ⟨y, List.mem_filter.2 ⟨hy, by simp; omega⟩, h⟩
    by_cases hc : ∃ y ∈ l, y.index = x.index
    · rw [if_pos hc, if_pos (e.2 hc)]
    · rw [if_neg hc, if_neg fun h => hc (e.1 h), ins_filter, if_pos hb]
  · rw [if_neg hb]
    split
    · rfl
    · rw [ins_filter, if_neg hb]
theorem rise_ins {l : List Ent} (hr : RiseL l) (x : Ent) : RiseL (ins x l) := by
  rw [← withL_ins hr]
  exact withL_rise hr
theorem rise_insN {l : List Ent} (hr : RiseL l) (x : Ent) : RiseL (insN x l) := by
  unfold insN
  split
  · exact hr
  · exact rise_ins hr x
theorem rise_filter {l : List Ent} (hr : RiseL l) (p : Ent → Bool) : RiseL (l.filter p) := rise_pw.2 ((rise_pw.1 hr).filter p)
theorem drop_filter {l : List Ent} (hr : RiseL l) (n : Int) : l.drop (placeN l (n + 1)) = l.filter (fun e => decide (n < e.index)) := by
  induction l with
  | nil => simp [placeN]
  | cons y l ih =>
    have hp := rise_pw.1 hr
    rw [List.pairwise_cons] at hp
    have ih' := ih (rise_pw.2 hp.2)
    rw [placeN_cons, List.filter_cons]
    by_cases hy : y.index < n + 1
    · rw [if_pos hy, List.drop_succ_cons, ih']
      have : ¬ n < y.index := by omega
      simp [this]
    · have hy' : n < y.index := by omega
      have e : placeN l (n + 1) = 0 := placeN_zero fun z hz => by have := hp.1 z hz; omega
      rw [if_neg hy, e]
      simp only [hy', decide_true, if_true, List.drop_zero, Nat.add_zero]
      congr 1
      symm
      rw [List.filter_eq_self]
      intro z hz
      have := hp.1 z hz
      simp; omega
end Go.Proofs.YtnoiahlpmgbhfaaDoor
/-
  hard (layer 19), in plain Lean, the second part: the two ways come to the same, which may be.
-/
set_option linter.unusedSimpArgs false
set_option linter.unusedVariables false
namespace Go.Proofs.YtnoiahlpmgbhfaaDoor
open Go.Vx Go.ChangeShapes Go.WideShapes Go.ChangeAt Go.RowKit
/-- What a log has. -/
structure Hd where
  pr : Int
  pn : Int
  base : Int
  image : List Int
  acc : List Ent
  cho : List Ent
def Hd.zero : Hd := ⟨0, 0, 0, [], [], []⟩
def lessP (r n r' n' : Int) : Prop := r < r' ∨ (r = r' ∧ n < n')
instance (r n r' n' : Int) : Decidable (lessP r n r' n') := by unfold lessP; infer_instance
def entOf (x : Rc) : Ent := ⟨x.index, x.round, x.node, x.cmd⟩
def Hd.prom (h : Hd) (x : Rc) : Hd := if lessP h.pr h.pn x.round x.node then { h with pr := x.round, pn := x.node } else h
/-- A record on what a log has. -/
noncomputable def chg (h : Hd) (x : Rc) : Hd :=
  if x.kind = 1 then h.prom x
  else if x.kind = 2 then (if (h.prom x).base < x.index then { h.prom x with acc := withL (h.prom x).acc (entOf x) } else h.prom x)
  else if x.kind = 3 then (if hitB h.cho x.index = false ∧ h.base < x.index then { h with cho := withL h.cho ⟨x.index, 0, 0, x.cmd⟩ } else h)
  else if x.index ≤ h.base then h
  else { h with base := x.index, image := x.image, acc := h.acc.drop (placeN h.acc (x.index + 1)), cho := h.cho.drop (placeN h.cho (x.index + 1)) }
noncomputable def stepH (h : Hd) (x : Rc) : Hd := if chkI x = 0 then chg h x else h
noncomputable def hardOf (l : List Rc) : Hd := l.foldl stepH Hd.zero
/-! ### The reference -/
noncomputable def r1 (h : Hd) (x : Rc) : Hd :=
  if chkI x = 0 then (if x.kind = 1 ∨ x.kind = 2 then h.prom x else if x.kind = 4 ∧ h.base < x.index then { h with base := x.index, image := x.image } else h) else h
noncomputable def accS (b : Int) (L : List Ent) (x : Rc) : List Ent := if chkI x = 0 ∧ x.kind = 2 ∧ b < x.index then ins (entOf x) L else L
noncomputable def choS (b : Int) (L : List Ent) (x : Rc) : List Ent := if chkI x = 0 ∧ x.kind = 3 ∧ b < x.index then insN (entOf x) L else L
theorem accS_filter {b b' : Int} (hb : b ≤ b') (x : Rc) (L : List Ent) : (accS b L x).filter (fun e => decide (b' < e.index)) = accS b' (L.filter (fun e => decide (b' < e.index))) x := by
  unfold accS
  by_cases h : chkI x = 0 ∧ x.kind = 2 ∧ b < x.index
  · rw [if_pos h, ins_filter]
    have e : (entOf x).index = x.index := rfl
    rw [e]
    by_cases h' : b' < x.index
    · rw [if_pos h', if_pos ⟨h.1, h.2.1, h'⟩]
    · rw [if_neg h', if_neg fun hh => h' hh.2.2]
  · rw [if_neg h, if_neg fun hh => h ⟨hh.1, hh.2.1, by omega⟩]
theorem choS_filter {b b' : Int} (hb : b ≤ b') (x : Rc) (L : List Ent) : (choS b L x).filter (fun e => decide (b' < e.index)) = choS b' (L.filter (fun e => decide (b' < e.index))) x := by
  unfold choS
  by_cases h : chkI x = 0 ∧ x.kind = 3 ∧ b < x.index
  · rw [if_pos h, insN_filter]
    have e : (entOf x).index = x.index := rfl
    rw [e]
    by_cases h' : b' < x.index
    · rw [if_pos h', if_pos ⟨h.1, h.2.1, h'⟩]
    · rw [if_neg h', if_neg fun hh => h' hh.2.2]
  · rw [if_neg h, if_neg fun hh => h ⟨hh.1, hh.2.1, by omega⟩]
theorem accF_filter {b b' : Int} (hb : b ≤ b') : ∀ (l : List Rc) (L : List Ent), (l.foldl (accS b) L).filter (fun e => decide (b' < e.index)) = l.foldl (accS b') (L.filter (fun e => decide (b' < e.index)))
  | [], L => rfl
  | x :: l, L => by rw [List.foldl_cons, List.foldl_cons, accF_filter hb l, accS_filter hb]
theorem choF_filter {b b' : Int} (hb : b ≤ b') : ∀ (l : List Rc) (L : List Ent), (l.foldl (choS b) L).filter (fun e => decide (b' < e.index)) = l.foldl (choS b') (L.filter (fun e => decide (b' < e.index)))
  | [], L => rfl
  | x :: l, L => by rw [List.foldl_cons, List.foldl_cons, choF_filter hb l, choS_filter hb]
/-- What holds of what records come to. -/
structure Good (n : Nat) (h : Hd) : Prop where
  may : mayP h.pr h.pn
  base : 0 ≤ h.base ∧ h.base ≤ 4294967296
  img : h.image.length ≤ 32768 ∧ (0 < h.base ↔ 0 < h.image.length)
  racc : RiseL h.acc
  rcho : RiseL h.cho
  nacc : h.acc.length ≤ n
  ncho : h.cho.length ≤ n
  acc : ∀ e ∈ h.acc, oneI e = 0 ∧ e.ok ∧ h.base < e.index ∧ e.round ≠ 0 ∧ ¬ lessP h.pr h.pn e.round e.node
  cho : ∀ e ∈ h.cho, oneI e = 0 ∧ e.ok ∧ h.base < e.index ∧ e.round = 0 ∧ e.node = 0
theorem good_zero : Good 0 Hd.zero := by
  refine ⟨.inl ⟨rfl, rfl⟩, by decide, by decide, ?_, ?_, by decide, by decide, ?_, ?_⟩
  · intro i j hj; simp [Hd.zero] at hj
  · intro i j hj; simp [Hd.zero] at hj
  · intro e he; simp [Hd.zero] at he
  · intro e he; simp [Hd.zero] at he
theorem ins_len (x : Ent) : ∀ l : List Ent, (ins x l).length ≤ l.length + 1
  | [] => by simp [ins]
  | y :: l => by
    have := ins_len x l
    rw [ins_cons]
    split
    · simp; omega
    · split <;> simp
theorem Good.more {n m : Nat} {h : Hd} (g : Good n h) (hm : n ≤ m) : Good m h := ⟨g.may, g.base, g.img, g.racc, g.rcho, Nat.le_trans g.nacc hm, Nat.le_trans g.ncho hm, g.acc, g.cho⟩
theorem prom_base (h : Hd) (x : Rc) : (h.prom x).base = h.base ∧ (h.prom x).image = h.image ∧ (h.prom x).acc = h.acc ∧ (h.prom x).cho = h.cho := by
  unfold Hd.prom
  split <;> exact ⟨rfl, rfl, rfl, rfl⟩
theorem good_prom {n : Nat} {h : Hd} (g : Good n h) {x : Rc} (hm : mayP x.round x.node) : Good n (h.prom x) ∧ ¬ lessP (h.prom x).pr (h.prom x).pn x.round x.node := by
  unfold Hd.prom
  by_cases hl : lessP h.pr h.pn x.round x.node
  · rw [if_pos hl]
    refine ⟨⟨hm, g.base, g.img, g.racc, g.rcho, g.nacc, g.ncho, fun e he => ?_, g.cho⟩, by unfold lessP; simp only; omega⟩
    obtain ⟨h1, h2, h3, h4, h5⟩ := g.acc e he
    refine ⟨h1, h2, h3, h4, ?_⟩
    unfold lessP at hl h5 ⊢
    simp only
    omega
  · rw [if_neg hl]
    exact ⟨g, hl⟩
/-- A record that may be keeps it so. -/
theorem good_chg {n : Nat} {h : Hd} (g : Good n h) {x : Rc} (hx : chkI x = 0) (hc : x.cmd.ok) : Good (n + 1) (chg h x) := by
  have h0 : recI x.kind x.round x.node x.index x.cmd x.image.length = 0 := hx
  obtain ⟨hk, hr, hi, hcc, ho⟩ := rec0 h0
  obtain ⟨hfit, hsm, him, hsz⟩ := fits0 h0
  unfold ranP at hr
  unfold chg
  by_cases k1 : x.kind = 1
  · rw [if_pos k1]
    exact (good_prom g (hr.1 (.inl k1)).1).1.more (by omega)
  rw [if_neg k1]
  by_cases k2 : x.kind = 2
  · rw [if_pos k2]
    obtain ⟨g1, hnl⟩ := good_prom g (x := x) (hr.1 (.inr k2)).1
    have hm := (hr.1 (.inr k2))
    split
    · rename_i hlt
      have hcmd := hcc (.inl k2)
      have hidx := hr.2 (.inl k2)
      have hone : oneI (entOf x) = 0 := by
        unfold oneI entOf
        rw [if_neg]
        · exact hcmd
        · rintro (hh | hh | hh)
          · simp only at hh; omega
          · simp only at hh; omega
          · exact hh hm.1
      have hok : (entOf x).ok := by
        have hw := hm.1
        unfold mayP at hw
        exact ⟨wf64 (n := x.index) (by omega), wf64 (n := x.round) (by omega), wf64 (n := x.node) (by omega), hc⟩
      rw [withL_ins g1.racc]
      refine ⟨g1.may, g1.base, g1.img, rise_ins g1.racc _, g1.rcho, Nat.le_trans (ins_len _ _) (by have := g1.nacc; omega), Nat.le_trans g1.ncho (by omega), fun e he => ?_, g1.cho⟩
      obtain rfl | he := mem_ins he
      · refine ⟨hone, hok, hlt, ?_, hnl⟩
        have hm1 := hm.1
        unfold mayP at hm1
        intro hz
        have : x.round = 0 := hz
        have hm2 := hm.2
        omega
      · exact g1.acc e he
    · exact g1.more (by omega)
  rw [if_neg k2]
  by_cases k3 : x.kind = 3
  · rw [if_pos k3]
    split
    · rename_i hcond
      have hcmd := hcc (.inr k3)
      have hidx := hr.2 (.inr (.inl k3))
      have hone : oneI ⟨x.index, 0, 0, x.cmd⟩ = 0 := by
        unfold oneI
        rw [if_neg]
        · exact hcmd
        · rintro (hh | hh | hh)
          · simp only at hh; omega
          · simp only at hh; omega
          · exact hh (.inl ⟨rfl, rfl⟩)
      have hok : (⟨x.index, 0, 0, x.cmd⟩ : Ent).ok := ⟨wf64 (n := x.index) (by omega), wf64 (n := 0) (by omega), wf64 (n := 0) (by omega), hc⟩
      rw [withL_ins g.rcho]
      refine ⟨g.may, g.base, g.img, g.racc, rise_ins g.rcho _, Nat.le_trans g.nacc (by omega), Nat.le_trans (ins_len _ _) (by have := g.ncho; omega), g.acc, fun e he => ?_⟩
      obtain rfl | he := mem_ins he
      · exact ⟨hone, hok, hcond.2, rfl, rfl⟩
      · exact g.cho e he
    · exact g.more (by omega)
  rw [if_neg k3]
  have k4 : x.kind = 4 := by omega
  have hidx := hr.2 (.inr (.inr k4))
  split
  · exact g.more (by omega)
  · rename_i hlt
    have hpos : 0 < x.image.length := by unfold othP at ho; omega
    rw [drop_filter g.racc, drop_filter g.rcho]
    refine ⟨g.may, by simp only; omega, by simp only; omega, rise_filter g.racc _, rise_filter g.rcho _, Nat.le_trans (List.length_filter_le _ _) (by have := g.nacc; omega), Nat.le_trans (List.length_filter_le _ _) (by have := g.ncho; omega), fun e he => ?_, fun e he => ?_⟩
    · obtain ⟨h1, h2⟩ := List.mem_filter.1 he
      obtain ⟨a1, a2, a3, a4, a5⟩ := g.acc e h1
      exact ⟨a1, a2, of_decide_eq_true h2, a4, a5⟩
    · obtain ⟨h1, h2⟩ := List.mem_filter.1 he
      obtain ⟨a1, a2, a3, a4, a5⟩ := g.cho e h1
      exact ⟨a1, a2, of_decide_eq_true h2, a4, a5⟩
end Go.Proofs.YtnoiahlpmgbhfaaDoor
