/-
  segm.Head.
-/
import Derived.Test.YtpemabgfmnhhnaaGreatDoorM5
import Derived.Test.YtpemabgfmnhhnaaGreatDoorM3
import Derived.Test.YtpemabgfmnhhnaaGreatDoorM4
import VxDev
import Derived.Test.YtpemabgfmnhhnaaGreatDoorM1
import Derived.Lib.LaidTab
import Derived.Test.YtpemabgfmnhhnaaGreatDoorRows
import Derived.Test.YtpemabgfmnhhnaaGreatDoorChecked
import Derived.JoinedOf
import Derived.SevenTiedAt
import Derived.LaidMore
import Derived.Lay
import Derived.Test.YtpemabgfmnhhnaaGreatDoorTie
import Derived.Test.YtpemabgfmnhhnaaGreatDoorCards
import Derived.Stop.Joined
set_option linter.unusedSimpArgs false
set_option linter.unusedVariables false
namespace Go.Proofs.YtpemabgfmnhhnaaGreatDoor
open Go.Vx Go.ChangeShapes Go.WideShapes Go.ChangeAt Go.RowKit
noncomputable def headNo (f : Int) (H : Hd) : Int := if f = 1 ∨ f = 2 then (if CheckP H then errsF f (recsOf H) else 3) else 8
theorem frB_max (b : List Int) : (frB b).length ≤ b.length + 15 := by
  have := (vbytes_len (b.length : Int)).1
  rw [frB_len]; omega
theorem flat_take {f : Int} {l : List Rc} {k : Nat} (h : k < l.length) : flatF (encF f) (l.take (k + 1)) = flatF (encF f) (l.take k) ++ frB (encF f l[k]) := by
  rw [List.take_succ_eq_append_getElem h, flatF_app]
  congr 1
  simp [flatF]
theorem errsF_at {f : Int} : ∀ {l : List Rc}, errsF f l = 0 → ∀ x ∈ l, errF f x = 0
  | [], _, x, hx => by simp at hx
  | y :: l, h, x, hx => by
    unfold errsF at h
    split at h
    · rename_i h0
      rcases List.mem_cons.1 hx with rfl | hx
      · exact h0
      · exact errsF_at h x hx
    · rename_i h0
      exact absurd h h0
set_option maxHeartbeats 1000000 in
theorem head_s {G : GH} (hT : TabsG G) (hC : CrcG G) (f : Int) {H : Hd} {L : List Value} {n : Nat} (hh : HdV G H L) (g : CheckP H → Good n H) (hn : n ≤ 40) (hfw : f ≤ 9223372036854775807) (hlen : (recsOf H).length ≤ 100) (hlg : CheckP H → ∀ x ∈ recsOf H, ¬ x.large) :
    Con Tryz.prog 12 #[.int .i64 f, .agg L.toArray] G [] (fun r G' μ' => μ' = [] ∧ ∃ v, r = .tuple [v, .int .i64 (headNo f H)].toArray ∧ Sl G' 1 (IntR .u8) v (if headNo f H = 0 then fileB encF f (recsOf H).length (recsOf H) else [])) := by
  have qc := hChk_s hT hh
  have qm := vmay_s G f
  unfold headNo
  by_cases hf : f = 1 ∨ f = 2
  · rw [if_pos hf]
    rw [decide_eq_true hf] at qm
    by_cases hck : CheckP H
    · rw [if_pos hck] at qc ⊢
      have qr := records_s hh (g hck) hn
      have hlg := hlg hck
      obtain ⟨iv, av, cv, rfl, hi, ha, hcv⟩ := id hh
      obtain ⟨A0, c0, rfl, -⟩ := hi.openInt
      obtain ⟨A1, c1, rfl, -⟩ := ha.open
      obtain ⟨A2, c2, rfl, -⟩ := hcv.open
      generalize recsOf H = l at *
      (refine v_enter Tryz.func12 rfl Tryz.ntmps12 rfl ?_; intro B _)
      repeat' (first | apply v_seq | apply v_region | apply v_nil | apply v_skip | (apply v_pure; (case hop => first | (apply p_move <;> rfl) | (apply p_nes <;> rfl) | (apply p_assign <;> rfl) | (apply p_not <;> rfl) | fail); (case hd => rfl)) | (apply v_condF; (case hc => rfl)) | (apply v_callJ (hs := qm); (case ha => rfl); (case hd => rfl)) | (apply v_callJ (hs := qc); (case ha => rfl); (case hd => rfl)) | (apply v_read; (case hop => (apply r_loadNo; (case hx => rfl); (case h => (repeat (exact mhd _))); (case hd => (repeat (first | with_reducible exact dt_nil | apply dt_here))); (case hn => rfl))); (case hd => rfl)) | (apply v_box; (case hx => rfl); (case hz => rfl); (case hd => rfl); intro b) | fail)
      refine v_call (μ1 := []) rfl qr (List.Perm.refl _) rfl ?_
      rintro r1 G1 _ hle1 ⟨rfl, hrs⟩
      obtain ⟨A, c, ivf, rfl, hlc, hcm, hsome, hcp, him, hok⟩ := rsOpen hrs
      simp only [maxLen] at hcm
      repeat' (first | apply v_seq | apply v_region | apply v_nil | (apply v_pure; (case hop => first | (apply p_move <;> rfl) | (apply p_assign <;> rfl) | (apply p_lenSlice <;> rfl) | fail); (case hd => rfl)) | fail)
      refine v_call (μ1 := []) rfl (first_s (hC.le hle1) f (l.length : Nat) hfw (by omega)) (List.Perm.refl _) rfl ?_
      rintro r2 G2 ν2 hle2 g2
      repeat' (first | apply v_seq | apply v_region | apply v_nil | apply v_block | (apply v_pure; (case hop => first | (apply p_move <;> rfl) | (apply p_assign <;> rfl) | (apply p_lenSlice <;> rfl) | fail); (case hd => rfl)) | fail)
      refine v_drop (ν := ν2) (List.sublist_append_left _ _) ?_
      refine v_loop [29, 8, 28, 27, 0] (fun us G' μ' => GH.le G2 G' ∧ ∃ (k : Nat) (v : Value), k ≤ l.length ∧ errsF f l = errsF f (l.drop k) ∧ us = [Value.int .i64 (k : Nat), v, .int .i64 (l.length : Nat), .slice A l.length c, .int .i64 f] ∧ (fileB encF f l.length (l.take k)).length ≤ 100 + k * 60000 ∧ byteL (fileB encF f l.length (l.take k)) ∧ Grow 5 1 v (fileB encF f l.length (l.take k)).length ((fileB encF f l.length (l.take k)).map (.int .u8 ·)) μ') (fun us => l.length - (headI us).toNat) rfl ⟨GH.le_refl _, 0, _, by omega, rfl, rfl, ?_, ?_, ?_⟩ ?_
      · have h1 := vbytes_len f
        have h2 := vbytes_len (l.length : Nat)
        have h3 := frB_max (vbytes f ++ vbytes (l.length : Nat))
        rw [List.length_append] at h3
        simp [fileB, flatF]
        omega
      · have := frB_byte ((vbytes_byte hfw).app (vbytes_byte (n := (l.length : Nat)) (by omega))) (headB_ok (f := f) (n := l.length))
        simpa [fileB, flatF] using this
      · simpa [fileB, flatF] using g2
      rintro us G' μ' ⟨hle3, k, v, hk, he, rfl, hsz, hby, hg⟩
      obtain ⟨A3, c3, rfl, -, -⟩ := hg.shape
      have e1 : ((k : Nat) : Int).toNat = k := by omega
      by_cases hlt : k < l.length
      · have hA := hsome (by omega)
        have hle23 := GH.le_trans hle2 hle3
        have hcx := (hcp k hlt).le hle23
        have hix := (him k hlt).mono hle23
        have hcok := hok _ (List.getElem_mem hlt)
        have hd := errsF_drop (f := f) hlt
        have hx : RcV G' l[k] (.agg (recL l[k].kind l[k].round l[k].node l[k].index l[k].cmd (ivf k)).toArray) := ⟨_, rfl, hix⟩
        have hle13 := GH.le_trans hle1 hle23
        have q := sadd_s (hT.le hle13) (hC.le hle13) f hx hcok.1 (hlg _ (List.getElem_mem hlt)) hcok.2
        obtain ⟨Ai, ci, hie, -, -, -, -, hiw⟩ := hix.openInt
        have hmax : errF f (l[k]'hlt) = 0 → (encF f (l[k]'hlt)).length ≤ 50000 ∧ wfL (encF f (l[k]'hlt)) := fun h' => encF_ok h' hcok.1 hiw
        have hone := encF_one (f := f) (x := l[k]'hlt)
        rw [hie] at q hcx
        have hft := flat_take (f := f) hlt
        have hfb := frB_max (encF f l[k])
        have hfile : fileB encF f l.length (l.take (k + 1)) = fileB encF f l.length (l.take k) ++ frB (encF f l[k]) := by
          unfold fileB
          rw [hft, List.append_assoc]
        unfold AddS at q
        clear hft hx hix hcok hcp him hok qr qc g2
        generalize l[k] = x at *
        repeat' (first | apply v_seq | apply v_region | apply v_nil | apply v_skip | apply v_block | (apply v_pure; (case hop => first | (apply p_move <;> rfl) | (apply p_lt <;> rfl) | (apply p_indexAddrS; (case hx => rfl); (case hi => rfl); (case h0 => omega); (case h => omega); (case hA => assumption)) | fail); (case hd => rfl)) | (apply v_cond; (case hc => rfl); all_goals (intro h; (try simp only [reduceCtorEq, zzz] at h); first | (exfalso; omega) | skip)) | (apply v_read; (case hop => (apply r_loadN; rfl; exact CellsAt.frozen hcx; rfl)); (case hd => rfl)) | (apply v_read; (case hop => (apply r_loadNo; (case hx => rfl); (case h => (repeat (exact mhd _))); (case hd => (repeat (first | with_reducible exact dt_nil | apply dt_here))); (case hn => rfl))); (case hd => rfl)) | (apply v_alloc; (case hz => rfl); (case hd => rfl); intro b) | (apply v_store; (case hp => rfl); (case hx => rfl); (case hc => rfl); (case hsz => rfl); (case h1 => rfl); (case hb => (repeat (exact mhd _))); (case hfit => exact nle rfl); (case hov => ((repeat (first | with_reducible exact ov_nil | apply ov_cons)); done)); (case hu => repeat (exact Upd.here _ _))) | fail)
        refine v_call (μ1 := []) rfl q (List.Perm.refl _) rfl ?_
        rintro _ G4 _ hle4 ⟨rfl, v4, rfl, s4⟩
        by_cases h0 : errF f x = 0
        · rw [if_pos h0] at s4 hd
          rw [h0]
          obtain ⟨hm1, hm2⟩ := hmax h0
          have hsd := fun μ => Src.ints (μ := μ) s4
          obtain ⟨A4, c4, rfl, hlc4, hcm4, -⟩ := s4.openInt
          have hb2 := frB_byte (wfL.byte hm2) ⟨hone, by omega⟩
          generalize fileB encF f l.length (l.take k) = P at *
          generalize frB (encF f x) = Q at *
          repeat' (first | apply v_seq | apply v_region | apply v_nil | apply v_skip | apply v_blk | (apply v_pure; (case hop => first | (apply p_move <;> rfl) | (apply p_nes <;> rfl) | (apply p_assign <;> rfl) | (apply p_extract0 <;> rfl) | (apply p_extract1 <;> rfl) | (apply p_add; (case hx => rfl); (case hy => rfl); (case h => omega)) | fail); (case hd => rfl)) | (apply v_condF; (case hc => rfl)) | (apply v_append (hg := hg) (m' := Q.length) (us := Q.map (.int .u8 ·)) (hp := PickA.perm (by repeat (first | exact PickA.last | apply PickA.cons))) (hsrc := hsd _); (case hzs => rfl); (case hsz => omega); (case hs => rfl); (case hx => rfl); (case hb => omega); (case hb' => simp only [maxLen]; omega); (case hd => rfl); (case h1 => exact allOne_ints Q); intro v5 n5 hg5) | fail)
          refine v_only n5 (by repeat (exact PickA.here _)) ?_
          refine v_again rfl ⟨GH.le_trans hle3 hle4, k + 1, v5, by omega, by rw [he, hd], rfl, ?_, ?_, ?_⟩ (by simp [headI]; omega)
          · rw [hfile, List.length_append]; omega
          · rw [hfile]; exact hby.app hb2
          · rw [hfile, List.length_append, List.map_append]; exact hg5
        · rw [if_neg h0] at s4 hd
          obtain ⟨A4, c4, rfl, -⟩ := s4.openInt
          repeat' (first | apply v_seq | apply v_region | apply v_nil | (apply v_pure; (case hop => first | (apply p_move <;> rfl) | (apply p_ne <;> rfl) | (apply p_assign <;> rfl) | (apply p_extract0 <;> rfl) | (apply p_extract1 <;> rfl) | fail); (case hd => rfl)) | (apply v_cond; (case hc => rfl); all_goals (intro h; (try simp only [reduceCtorEq, zzz] at h); first | (exfalso; omega) | skip)) | fail)
          refine v_ret [] (outsA2 rfl rfl rfl) (List.nil_sublist _) ?_
          exact ⟨rfl, _, by rw [he, hd], by rw [he, hd, if_neg h0]; exact Sl.nil⟩
      · obtain rfl : k = l.length := by omega
        rw [List.drop_length] at he
        rw [List.take_length] at hg hby ⊢
        repeat' (first | apply v_seq | apply v_region | apply v_nil | (apply v_exit; (case hp => rfl)) | (apply v_pure; (case hop => first | (apply p_move <;> rfl) | (apply p_lt <;> rfl) | (apply p_assign <;> rfl) | fail); (case hd => rfl)) | (apply v_cond; (case hc => rfl); all_goals (intro h; (try simp only [reduceCtorEq, zzz] at h); first | (exfalso; omega) | skip)) | fail)
        refine v_frzP (r := []) μ' (List.Perm.of_eq (by simp)) ?_
        intro G5 hle5 hG5
        have s5 := hg.ints hG5 (byteL.wf hby)
        refine v_ret [] (outsA2 rfl rfl rfl) (List.nil_sublist _) ?_
        exact ⟨rfl, _, by rw [he]; rfl, by rw [he, if_pos (show errsF f [] = 0 from rfl)]; exact s5⟩
    · rw [if_neg hck] at qc ⊢
      obtain ⟨iv, av, cv, rfl, hi, ha, hcv⟩ := id hh
      obtain ⟨A0, c0, rfl, -⟩ := hi.openInt
      obtain ⟨A1, c1, rfl, -⟩ := ha.open
      obtain ⟨A2, c2, rfl, -⟩ := hcv.open
      (refine v_enter Tryz.func12 rfl Tryz.ntmps12 rfl ?_; intro B _)
      repeat' (first | apply v_seq | apply v_region | apply v_nil | apply v_skip | (apply v_pure; (case hop => first | (apply p_move <;> rfl) | (apply p_ne <;> rfl) | (apply p_assign <;> rfl) | (apply p_not <;> rfl) | fail); (case hd => rfl)) | (apply v_condF; (case hc => rfl)) | (apply v_cond; (case hc => rfl); all_goals (intro h; (try simp only [reduceCtorEq, zzz] at h); first | (exfalso; omega) | skip)) | (apply v_callJ (hs := qm); (case ha => rfl); (case hd => rfl)) | (apply v_callJ (hs := qc); (case ha => rfl); (case hd => rfl)) | (apply v_read; (case hop => (apply r_loadNo; (case hx => rfl); (case h => (repeat (exact mhd _))); (case hd => (repeat (first | with_reducible exact dt_nil | apply dt_here))); (case hn => rfl))); (case hd => rfl)) | (apply v_box; (case hx => rfl); (case hz => rfl); (case hd => rfl); intro b) | fail)
      all_goals
        (refine v_ret [] (outsA2 rfl rfl rfl) (by repeat (exact List.nil_sublist _)) ?_
         exact ⟨rfl, _, rfl, by rw [if_neg (by decide)]; exact Sl.nil⟩)
  · rw [if_neg hf]
    rw [decide_eq_false hf] at qm
    obtain ⟨iv, av, cv, rfl, hi, ha, hcv⟩ := id hh
    obtain ⟨A0, c0, rfl, -⟩ := hi.openInt
    obtain ⟨A1, c1, rfl, -⟩ := ha.open
    obtain ⟨A2, c2, rfl, -⟩ := hcv.open
    (refine v_enter Tryz.func12 rfl Tryz.ntmps12 rfl ?_; intro B _)
    repeat' (first | apply v_seq | apply v_region | apply v_nil | (apply v_pure; (case hop => first | (apply p_move <;> rfl) | (apply p_assign <;> rfl) | (apply p_not <;> rfl) | fail); (case hd => rfl)) | (apply v_condT; (case hc => rfl)) | (apply v_callJ (hs := qm); (case ha => rfl); (case hd => rfl)) | (apply v_box; (case hx => rfl); (case hz => rfl); (case hd => rfl); intro b) | fail)
    all_goals
      (refine v_ret [] (outsA2 rfl rfl rfl) (by repeat (exact List.nil_sublist _)) ?_
       exact ⟨rfl, _, rfl, by rw [if_neg (by decide)]; exact Sl.nil⟩)
open Classical in
noncomputable def decF (f : Int) (b : List Int) : Option Rc := if f = 1 then (if decOk (some b) then some (decX (some b)) else none) else if f = 2 then (if decTOk (some b) then some (decT (some b)).1 else none) else none
theorem decF1 (b : List Int) : (decOk (some b) ∧ decF 1 b = some (decX (some b))) ∨ (¬ decOk (some b) ∧ decF 1 b = none) := by
  unfold decF
  rw [if_pos rfl]
  by_cases h : decOk (some b)
  · rw [if_pos h]; exact .inl ⟨h, rfl⟩
  · rw [if_neg h]; exact .inr ⟨h, rfl⟩
theorem decF2 (b : List Int) : (decTOk (some b) ∧ decF 2 b = some (decT (some b)).1) ∨ (¬ decTOk (some b) ∧ decF 2 b = none) := by
  unfold decF
  rw [if_neg (by decide), if_pos rfl]
  by_cases h : decTOk (some b)
  · rw [if_pos h]; exact .inl ⟨h, rfl⟩
  · rw [if_neg h]; exact .inr ⟨h, rfl⟩
theorem decFN {f : Int} (h : ¬ (f = 1 ∨ f = 2)) (b : List Int) : decF f b = none := by
  unfold decF
  rw [if_neg (by omega), if_neg (by omega)]
theorem decF_inv {f : Int} {b : List Int} {x : Rc} (hb : byteL b) (h : decF f b = some x) : (f = 1 ∨ f = 2) ∧ errF f x = 0 ∧ encF f x = b ∧ x.cmd.ok ∧ x.small := by
  have hby : byteS (some b) := fun r hr y hy => by cases hr; exact hb y hy
  by_cases h1 : f = 1
  · subst h1
    obtain ⟨h2, h3⟩ | ⟨-, h3⟩ := decF1 b
    · rw [h3] at h
      obtain rfl := Option.some.inj h
      have ho := h2.2.2
      exact ⟨.inl rfl, by rw [errF1]; exact ho, by unfold encF; rw [if_pos rfl]; exact enc_dec hby h2, decX_ok hby, (fits0 (older0 ho).1).2.1⟩
    · rw [h3] at h
      cases h
  · by_cases h2 : f = 2
    · subst h2
      obtain ⟨h2, h3⟩ | ⟨-, h3⟩ := decF2 b
      · rw [h3] at h
        obtain rfl := Option.some.inj h
        have ho := h2.2.2.2
        exact ⟨.inr rfl, by rw [errF2]; exact ho, by unfold encF; rw [if_neg (by decide)]; exact encT_dec hby h2, rdX_ok (numS_b hby _), (fits0 (show recI _ _ _ _ _ _ = 0 from ho)).2.1⟩
      · rw [h3] at h
        cases h
    · rw [decFN (by omega)] at h
      cases h
theorem encL_size {x : Rc} (h : olderI x = 0) (hi : x.image.length ≤ 300) : 3 ≤ (encL x).length ∧ (encL x).length ≤ 7000 := by
  obtain ⟨hf, hsm, him, hsz⟩ := fits0 (older0 h).1
  have hh := headL_len x
  have h3 : 3 ≤ (headL x).length := by
    have h1 := (vbytes_len x.kind).2
    have h2 := (vbytes_len x.round).2
    have h3 := (vbytes_len x.node).2
    unfold headL
    simp only [List.length_append]
    omega
  have h4 := (vbytes_len x.cmd.kind).1
  have h5 := putL_len x.cmd (by omega) (by omega) (by omega) 6
  have h6 := (vbytes_len (x.image.length : Nat)).1
  unfold encL
  split
  · rw [List.length_append, List.length_append]; omega
  · split
    · rw [List.length_append, List.length_append]; omega
    · omega
theorem encT_size {x : Rc} (h : chkI x = 0) (hi : x.image.length ≤ 300) : 3 ≤ (encT x).length ∧ (encT x).length ≤ 7000 := by
  have h0 : recI x.kind x.round x.node x.index x.cmd x.image.length = 0 := h
  obtain ⟨hf, hsm, him, hsz⟩ := fits0 h0
  have hk := (rec0 h0).1
  have h1 := vbytes_len (x.kind + 16)
  have h2 := vbytes_len x.round
  have h3 := vbytes_len x.node
  have h4 := vbytes_len x.index
  have h5 := vbytes_len x.cmd.kind
  have h6 := vbytes_len (x.image.length : Nat)
  have h7 := putW_len (wantB 2 x.cmd.kind) x.cmd (by omega) (by omega) (by omega) 6
  unfold encT tailT
  generalize vbytes (x.kind + 16) = V at *
  obtain h | h | h | h : x.kind = 1 ∨ x.kind = 2 ∨ x.kind = 3 ∨ x.kind = 4 := by omega
  all_goals
    simp [h]
    omega
theorem encF_size {f : Int} {x : Rc} (h : errF f x = 0) (hi : x.image.length ≤ 300) : 3 ≤ (encF f x).length ∧ (encF f x).length ≤ 7000 := by
  by_cases h1 : f = 1
  · subst h1
    rw [errF1] at h
    unfold encF
    rw [if_pos rfl]
    exact encL_size h hi
  · by_cases h2 : f = 2
    · subst h2
      rw [errF2] at h
      unfold encF
      rw [if_neg (by decide)]
      exact encT_size h hi
    · rw [errFN (by omega)] at h
      cases h
def GetR (f : Int) (l : List Int) (r : Value) (G' : GH) (μ' : OH) : Prop := μ' = [] ∧ ∃ x v e, r = .tuple [v, .int .i64 e].toArray ∧ RcV G' x v ∧ ((decF f l = some x ∧ e = 0) ∨ (decF f l = none ∧ e ≠ 0))
theorem getF_s {G : GH} (hT : TabsG G) (f : Int) {l : List Int} {bv : Value} (hs : Sl G 1 (IntR .u8) bv l) (hl : l.length ≤ 1048000) : Con Tryz.prog 107 #[.int .i64 f, bv] G [] (GetR f l) := by
  by_cases h1 : f = 1
  · subst h1
    refine (get1_s hT hs hl).mono ?_
    rintro r G' μ' ⟨rfl, x, v, e, rfl, hx, hc⟩
    refine ⟨rfl, x, v, e, rfl, hx, ?_⟩
    obtain ⟨g1, g2⟩ | ⟨g1, g2⟩ := decF1 l
    · obtain ⟨-, rfl, rfl⟩ | ⟨h, -⟩ := hc
      · exact .inl ⟨g2, rfl⟩
      · exact absurd g1 h
    · obtain ⟨h, -⟩ | ⟨-, rfl, h⟩ := hc
      · exact absurd h g1
      · exact .inr ⟨g2, h⟩
  · by_cases h2 : f = 2
    · subst h2
      refine (get2_s hT hs hl).mono ?_
      rintro r G' μ' ⟨rfl, x, v, e, rfl, hx, hc⟩
      refine ⟨rfl, x, v, e, rfl, hx, ?_⟩
      obtain ⟨g1, g2⟩ | ⟨g1, g2⟩ := decF2 l
      · obtain ⟨-, rfl, rfl⟩ | ⟨h, -⟩ := hc
        · exact .inl ⟨g2, rfl⟩
        · exact absurd g1 h
      · obtain ⟨h, -⟩ | ⟨-, rfl, h⟩ := hc
        · exact absurd h g1
        · exact .inr ⟨g2, h⟩
    · refine (getN_s (by omega) bv).mono ?_
      rintro r G' μ' ⟨rfl, rfl, rfl⟩
      exact ⟨rfl, zeroRc, _, 8, rfl, ⟨_, rfl, Sl.nil⟩, .inr ⟨decFN (by omega) _, by decide⟩⟩
def rdL (bv : Value) (at_ f : Int) (lv : Value) : List Value := [bv, .int .i64 at_, .int .i64 f, .int .i64 0, .int .i64 0, .int .i64 0, .slice none 0 0, .slice none 0 0, .slice none 0 0, .int .i64 0, .int .i64 0, lv]
abbrev sgO (bv : Value) (at_ f : Int) (lv : Value) : Obj := .cells (rdL bv at_ f lv).toArray 106 (0, 0)
def BegR (B : List Int) (rb : Nat) (sv : Value) (r : Value) (μ' : OH) : Prop := ∃ (at_ : Nat) (f n : Int) (is : Bool), at_ ≤ B.length ∧ r = .tuple [.int .i64 n, .bool is].toArray ∧ μ' = [(rb, sgO sv (at_ : Nat) f (.slice none 0 0))] ∧ ((nextF B = none ∧ is = false) ∨ ∃ hd t, nextF B = some (hd, t) ∧ at_ = B.length - t.length ∧ f = (headF B.length hd).1 ∧ n = (headF B.length hd).2.1 ∧ is = decide ((headF B.length hd).2.2 = true ∧ ((headF B.length hd).1 = 1 ∨ (headF B.length hd).1 = 2)))
theorem nextF_body {l b r : List Int} (hw : byteL l) (h : nextF l = some (b, r)) : b.length ≤ l.length ∧ r.length ≤ l.length := by
  obtain ⟨e, -⟩ := nextF_inv hw h
  have h1 := congrArg List.length e
  have h2 := frB_len b
  rw [List.length_append] at h1
  omega
theorem begin_s {G : GH} (hC : CrcG G) {D : List Int} {sv : Value} (rb : Nat) (hs : Sl G 1 (IntR .u8) sv D) (hl : D.length ≤ 1048000) : Con Tryz.prog 61 #[.pointer (some ⟨rb, 0, none⟩)] G [(rb, sgO sv 0 0 (.slice none 0 0))] (fun r G' μ' => BegR D rb sv r μ') := by
  have q1 := fnext_s hC 0 hs (by omega) (by omega)
  have hbd := fun b r => nextF_body (l := D) (b := b) (r := r) (fun y hy => sl_byte hs y hy)
  unfold BegR
  unfold NextR at q1
  rw [List.drop_zero] at q1
  obtain ⟨A, c, rfl, -⟩ := id hs.openInt
  (refine v_enter Tryz.func61 rfl Tryz.ntmps61 rfl ?_; intro B _)
  repeat' (first | apply v_seq | apply v_region | apply v_nil | (apply v_pure; (case hop => first | (apply p_move <;> rfl) | (apply p_assign <;> rfl) | (apply p_fieldAddrB <;> rfl) | (apply p_nilCheck <;> rfl) | fail); (case hd => rfl)) | (apply v_read; (case hop => (apply r_load1; rfl; (apply Cell.own; (case h => (repeat (exact mhd _))); rfl))); (case hd => rfl)) | fail)
  refine v_call (μ1 := []) rfl q1 (List.Perm.refl _) rfl ?_
  rintro _ G1 _ hle1 ⟨rfl, v, z, e, rfl, ⟨hd, t, hn, sv1, rfl, rfl⟩ | ⟨hn, he, rfl, rfl⟩⟩
  · obtain ⟨A1, c1, rfl, -⟩ := id sv1.openInt
    have hbl := hbd _ _ hn
    repeat' (first | apply v_seq | apply v_region | apply v_nil | apply v_skip | (apply v_pure; (case hop => first | (apply p_move <;> rfl) | (apply p_nes <;> rfl) | (apply p_assign <;> rfl) | (apply p_extract0 <;> rfl) | (apply p_extract1 <;> rfl) | (apply p_extract2 <;> rfl) | fail); (case hd => rfl)) | (apply v_condF; (case hc => rfl)) | fail)
    refine v_call (μ1 := []) rfl (newReader_s sv1 (by omega)) (List.Perm.refl _) rfl ?_
    rintro _ G2 _ - ⟨hle2, b1, bv1, rfl, rfl, hs1⟩
    have hr0 : RdS hd 0 0 (some hd) := ⟨by omega, .inr ⟨by simp, rfl⟩⟩
    repeat' (first | apply v_seq | apply v_region | apply v_nil | (apply v_pure; (case hop => first | (apply p_move <;> rfl) | (apply p_assign <;> rfl) | fail); (case hd => rfl)) | fail)
    refine v_call (μ1 := [(b1, _)]) rfl (rdNumber_s b1 _ _ 2 hs1 (by omega) hr0) (PickA.perm (by repeat (exact PickA.here _))) rfl ?_
    rintro _ _ _ - ⟨rfl, rfl, a1, no1, rfl, hr1⟩
    repeat' (first | apply v_seq | apply v_region | apply v_nil | (apply v_pure; (case hop => first | (apply p_move <;> rfl) | (apply p_lenSlice <;> rfl) | (apply p_fieldAddrB <;> rfl) | (apply p_nilCheck <;> rfl) | fail); (case hd => rfl)) | (apply v_read; (case hop => (apply r_load1; rfl; (apply Cell.own; (case h => (repeat (first | exact mhd _ | apply mtl))); rfl))); (case hd => rfl)) | (apply v_store; (case hp => rfl); (case hx => rfl); (case hc => rfl); (case hsz => rfl); (case h1 => rfl); (case hb => (repeat (first | exact mhd _ | apply mtl))); (case hfit => exact nle rfl); (case hov => ((repeat (first | with_reducible exact ov_nil | apply ov_cons)); done)); (case hu => repeat (first | exact Upd.here _ _ | apply Upd.there))) | fail)
    refine v_call (μ1 := [(b1, _)]) rfl (rdNumber_s b1 _ _ (D.length : Nat) hs1 (by omega) hr1) (PickA.perm (by repeat (exact PickA.here _))) rfl ?_
    rintro _ _ _ - ⟨rfl, rfl, a2, no2, rfl, hr2⟩
    repeat' (first | apply v_seq | apply v_region | apply v_nil | (apply v_pure; (case hop => first | (apply p_move <;> rfl) | (apply p_assign <;> rfl) | (apply p_fieldAddrB <;> rfl) | (apply p_nilCheck <;> rfl) | fail); (case hd => rfl)) | (apply v_store; (case hp => rfl); (case hx => rfl); (case hc => rfl); (case hsz => rfl); (case h1 => rfl); (case hb => (repeat (first | exact mhd _ | apply mtl))); (case hfit => exact nle rfl); (case hov => ((repeat (first | with_reducible exact ov_nil | apply ov_cons)); done)); (case hu => repeat (first | exact Upd.here _ _ | apply Upd.there))) | fail)
    refine v_call (μ1 := [(b1, _)]) rfl (rdDone_s b1 _ _ hs1 (by omega) hr2) (PickA.perm (by repeat (exact PickA.here _))) rfl ?_
    rintro _ _ _ - ⟨rfl, ⟨ed, rfl, hed⟩, rfl⟩
    have qm := fun G => vmay_s G (numV 2 (some hd))
    have hh : headF (D.length : Nat) hd = (numV 2 (some hd), numV (D.length : Nat) (numS 2 (some hd)), decide (ed = 0)) := by unfold headF; simp only [← hed]
    clear hed hr0 hr1 hr2
    generalize numV (D.length : Nat) (numS 2 (some hd)) = nn at *
    generalize numV 2 (some hd) = f at *
    repeat' (first | apply v_nil | (apply v_take; (case hg => rfl)) | (apply v_pass; (case hg => rfl); (case hn => rfl); (case hd => rfl)) | (apply v_pure; (case hop => first | (apply p_move <;> rfl) | (apply p_eq <;> rfl) | (apply p_assign <;> rfl) | (apply p_pickT <;> rfl) | (apply p_pickF <;> rfl) | (apply p_fieldAddrB <;> rfl) | (apply p_nilCheck <;> rfl) | fail); (case hd => rfl)) | (apply v_guardB; (case h1 => rfl); (case h2 => rfl); all_goals (intro h; (try simp only [reduceCtorEq, zzz] at h))) | (apply v_callJ (hs := qm _); (case ha => rfl); (case hd => rfl)) | (apply v_read; (case hop => (apply r_load1; rfl; (apply Cell.own; (case h => (repeat (first | exact mhd _ | apply mtl))); rfl))); (case hd => rfl)) | fail)
    all_goals
      refine v_ret [(rb, _)] (outsA2 rfl rfl rfl) (by repeat (first | exact List.Sublist.refl _ | apply List.Sublist.cons)) ?_
      refine ⟨_, _, _, _, (by omega : D.length - t.length ≤ D.length), rfl, rfl, .inr ⟨hd, t, hn, rfl, by rw [hh], by rw [hh], ?_⟩⟩
      simp only [hh, decide_eq_true_eq]
      simp [*]
    all_goals vx_show
  · repeat' (first | apply v_seq | apply v_region | apply v_nil | (apply v_pure; (case hop => first | (apply p_move <;> rfl) | (apply p_ne <;> rfl) | (apply p_assign <;> rfl) | (apply p_extract0 <;> rfl) | (apply p_extract1 <;> rfl) | (apply p_extract2 <;> rfl) | fail); (case hd => rfl)) | (apply v_cond; (case hc => rfl); all_goals (intro h; (try simp only [reduceCtorEq, zzz] at h); first | (exfalso; omega) | skip)) | fail)
    refine v_ret [(rb, _)] (outsA2 rfl rfl rfl) (by repeat (exact List.Sublist.refl _)) ?_
    exact ⟨0, _, _, _, by omega, rfl, rfl, .inl ⟨hn, rfl⟩⟩
def NxtR (D : List Int) (rb : Nat) (sv : Value) (at_ : Nat) (f : Int) (xs : List Rc) (r : Value) (G' : GH) (μ' : OH) : Prop := ∃ (ok : Bool) (at' : Nat) (lv' : Value) (ν' : OH) (xs' : List Rc), r = .bool ok ∧ μ'.Perm ((rb, sgO sv (at' : Nat) f lv') :: ν') ∧ GrowR G' lv' xs' ν' ∧ ((ok = false ∧ at' = at_ ∧ xs' = xs ∧ (nextF (D.drop at_) = none ∨ ∃ b t, nextF (D.drop at_) = some (b, t) ∧ decF f b = none)) ∨ (ok = true ∧ ∃ b t x, nextF (D.drop at_) = some (b, t) ∧ decF f b = some x ∧ xs' = xs ++ [x] ∧ at' = D.length - t.length))
set_option maxHeartbeats 1000000 in
theorem next_s {G : GH} (hT : TabsG G) (hC : CrcG G) {D : List Int} {sv lv : Value} (rb at_ : Nat) (f : Int) {xs : List Rc} {ν : OH} (hs : Sl G 1 (IntR .u8) sv D) (hl : D.length ≤ 1048000) (ha : at_ ≤ D.length) (hx : xs.length ≤ 1048000) (hg : GrowR G lv xs ν) : Con Tryz.prog 63 #[.pointer (some ⟨rb, 0, none⟩)] G ((rb, sgO sv (at_ : Nat) f lv) :: ν) (NxtR D rb sv at_ f xs) := by
  have q1 := fnext_s hC at_ hs (by omega) ha
  have hbd := fun b r => nextF_body (l := D.drop at_) (b := b) (r := r) (fun y hy => sl_byte hs y (List.mem_of_mem_drop hy))
  unfold NxtR
  unfold NextR at q1
  obtain ⟨A, c, rfl, -⟩ := id hs.openInt
  obtain ⟨css, hcl, hcr, hgr⟩ := id hg
  obtain ⟨Ag, cg, rfl, hgl, hgm⟩ := id hgr.shape
  (refine v_enter Tryz.func63 rfl Tryz.ntmps63 rfl ?_; intro B _)
  repeat' (first | apply v_seq | apply v_region | apply v_nil | (apply v_pure; (case hop => (apply p_assign <;> rfl)); (case hd => rfl)) | fail)
  refine d_start [(rb, sgO (.slice A D.length c) (at_ : Nat) f (.slice Ag xs.length cg))] (by kernel_rfl) (by kernel_rfl) (by kernel_rfl) (by intro e he; (simp at he; simp [he]; done)) ?_
  all_goals (apply dtk 0; (case hi => rfl); (case hop => (apply prd; apply p_move <;> rfl)); (case hq => kernel_rfl))
  all_goals (apply dtk 1; (case hi => rfl); (case hop => (apply prd; apply p_nilCheck <;> rfl)); (case hq => kernel_rfl))
  all_goals (apply dtk 2; (case hi => rfl); (case hop => (apply prd; apply p_fieldAddrB <;> rfl)); (case hq => kernel_rfl))
  all_goals (apply dtk 3; (case hi => rfl); (case hop => first | (apply r_loadNo; (case hx => rfl); (case h => (repeat (fail))); (case hd => (repeat (fail))); (case hn => rfl)) | (apply r_load1; rfl; (apply Cell.own; (case h => (repeat (exact mhd _))); rfl)) | (apply r_loadN; rfl; (apply CellsAt.own; (case h => (repeat (fail)))); rfl)); (case hq => kernel_rfl))
  all_goals (apply dtk 4; (case hi => rfl); (case hop => (apply prd; apply p_move <;> rfl)); (case hq => kernel_rfl))
  all_goals (apply dtk 5; (case hi => rfl); (case hop => (apply prd; apply p_nilCheck <;> rfl)); (case hq => kernel_rfl))
  all_goals (apply dtk 6; (case hi => rfl); (case hop => (apply prd; apply p_fieldAddrB <;> rfl)); (case hq => kernel_rfl))
  all_goals (apply dtk 7; (case hi => rfl); (case hop => first | (apply r_loadNo; (case hx => rfl); (case h => (repeat (fail))); (case hd => (repeat (fail))); (case hn => rfl)) | (apply r_load1; rfl; (apply Cell.own; (case h => (repeat (exact mhd _))); rfl)) | (apply r_loadN; rfl; (apply CellsAt.own; (case h => (repeat (fail)))); rfl)); (case hq => kernel_rfl))
  all_goals ((apply d_call 8 (hs := q1) (μ1 := []); (case hi => rfl); (case hr => kernel_rfl);  (case ha => rfl); (case hp => exact List.Perm.refl _); (case hd => rfl); (case hν' => intro e he; simp at he; simp [he]); rintro _ G1 _ hle1 ⟨rfl, v, z, e, rfl, hcase⟩))
  all_goals (apply dtk 9; (case hi => rfl); (case hop => (apply prd; apply p_move <;> rfl)); (case hq => kernel_rfl))
  all_goals (apply dtk 10; (case hi => rfl); (case hop => (apply prd; apply p_extract0 <;> rfl)); (case hq => kernel_rfl))
  all_goals (apply dtk 11; (case hi => rfl); (case hop => (apply prd; apply p_extract1 <;> rfl)); (case hq => kernel_rfl))
  all_goals (apply dtk 12; (case hi => rfl); (case hop => (apply prd; apply p_extract2 <;> rfl)); (case hq => kernel_rfl))
  all_goals (apply dtk 13; (case hi => rfl); (case hop => (apply prd; apply p_assign <;> rfl)); (case hq => kernel_rfl))
  all_goals (apply dtk 14; (case hi => rfl); (case hop => (apply prd; apply p_assign <;> rfl)); (case hq => kernel_rfl))
  all_goals (apply dtk 15; (case hi => rfl); (case hop => (apply prd; apply p_assign <;> rfl)); (case hq => kernel_rfl))
  all_goals (apply d_done; (case hr => kernel_rfl))
  obtain ⟨bd, t, hn, sv1, rfl, rfl⟩ | ⟨hn, he, rfl, rfl⟩ := hcase
  rotate_left
  · repeat' (first | apply v_seq | apply v_region | apply v_nil | (apply v_pure; (case hop => first | (apply p_move <;> rfl) | (apply p_ne <;> rfl) | (apply p_assign <;> rfl) | fail); (case hd => rfl)) | (apply v_cond; (case hc => rfl); all_goals (intro h; (try simp only [reduceCtorEq, zzz] at h); first | (exfalso; omega) | skip)) | fail)
    refine v_ret _ (outsA1 rfl rfl) (List.Sublist.refl _) ?_
    exact ⟨_, at_, _, ν, xs, rfl, List.Perm.refl _, hg.le hle1, .inl ⟨rfl, rfl, rfl, .inl hn⟩⟩
  obtain ⟨A1, c1, rfl, -⟩ := id sv1.openInt
  have hbl := hbd _ _ hn
  rw [List.length_drop] at hbl
  repeat' (first | apply v_seq | apply v_region | apply v_nil | apply v_skip | (apply v_pure; (case hop => first | (apply p_move <;> rfl) | (apply p_nes <;> rfl) | (apply p_fieldAddrB <;> rfl) | (apply p_nilCheck <;> rfl) | fail); (case hd => rfl)) | (apply v_condF; (case hc => rfl)) | (apply v_read; (case hop => (apply r_load1; rfl; (apply Cell.own; (case h => (repeat (exact mhd _))); rfl))); (case hd => rfl)) | fail)
  refine v_call (μ1 := []) rfl (getF_s (hT.le hle1) f sv1 (by omega)) (List.Perm.refl _) rfl ?_
  rintro _ G2 _ hle2 ⟨rfl, x, xv, e, rfl, hxv, hcase⟩
  have hle := GH.le_trans hle1 hle2
  obtain ⟨iv, rfl, hix⟩ := id hxv
  obtain ⟨Ai, ci, hie, -⟩ := id hix.openInt
  subst hie
  obtain ⟨hd, rfl⟩ | ⟨hd, he⟩ := hcase
  rotate_left
  · repeat' (first | apply v_seq | apply v_region | apply v_nil | (apply v_pure; (case hop => first | (apply p_move <;> rfl) | (apply p_ne <;> rfl) | (apply p_assign <;> rfl) | (apply p_extract0 <;> rfl) | (apply p_extract1 <;> rfl) | fail); (case hd => rfl)) | (apply v_cond; (case hc => rfl); all_goals (intro h; (try simp only [reduceCtorEq, zzz] at h); first | (exfalso; omega) | skip)) | (apply v_alloc; (case hz => rfl); (case hd => rfl); intro b) | (apply v_store; (case hp => rfl); (case hx => rfl); (case hc => rfl); (case hsz => rfl); (case h1 => rfl); (case hb => (repeat (exact mhd _))); (case hfit => exact nle rfl); (case hov => ((repeat (first | with_reducible exact ov_nil | apply ov_cons)); done)); (case hu => repeat (exact Upd.here _ _))) | fail)
    all_goals first
      | (exfalso; omega)
      | (refine v_ret ((rb, sgO _ _ _ _) :: ν) (outsA1 rfl rfl) (by repeat (first | exact List.Sublist.refl _ | apply List.Sublist.cons)) ?_
         exact ⟨_, at_, _, ν, xs, rfl, List.Perm.refl _, hg.le hle, .inl ⟨rfl, rfl, rfl, .inr ⟨bd, t, hn, hd⟩⟩⟩)
  obtain ⟨-, -, -, hco, hsm⟩ := decF_inv (fun y hy => sl_byte sv1 y hy) hd
  repeat' (first | apply v_seq | apply v_region | apply v_nil | apply v_skip | (apply v_pure; (case hop => first | (apply p_move <;> rfl) | (apply p_nes <;> rfl) | (apply p_assign <;> rfl) | (apply p_extract0 <;> rfl) | (apply p_extract1 <;> rfl) | fail); (case hd => rfl)) | (apply v_condF; (case hc => rfl)) | (apply v_alloc; (case hz => rfl); (case hd => rfl); intro b) | (apply v_store; (case hp => rfl); (case hx => rfl); (case hc => rfl); (case hsz => rfl); (case h1 => rfl); (case hb => (repeat (exact mhd _))); (case hfit => exact nle rfl); (case hov => ((repeat (first | with_reducible exact ov_nil | apply ov_cons)); done)); (case hu => repeat (exact Upd.here _ _))) | fail)
  revert b
  intro xb
  refine d_start [(xb, .cells #[.int .i64 x.kind, .int .i64 x.round, .int .i64 x.node, .int .i64 x.index, .int .i64 x.cmd.kind, .int .i64 x.cmd.client, .int .i64 x.cmd.seq, .string x.cmd.key, .string x.cmd.val, .string x.cmd.old, .int .i64 x.cmd.node, .slice Ai x.image.length ci] 42 (0, 0))] (by kernel_rfl) (by kernel_rfl) (by kernel_rfl) (by intro e he; (simp at he; simp [he]; done)) ?_
  all_goals (apply dtk 0; (case hi => rfl); (case hop => (apply prd; apply p_move <;> rfl)); (case hq => kernel_rfl))
  all_goals (apply dtk 1; (case hi => rfl); (case hop => (apply prd; apply p_move <;> rfl)); (case hq => kernel_rfl))
  all_goals (apply dtk 2; (case hi => rfl); (case hop => (apply prd; apply p_nilCheck <;> rfl)); (case hq => kernel_rfl))
  all_goals (apply dtk 3; (case hi => rfl); (case hop => (apply prd; apply p_fieldAddrB <;> rfl)); (case hq => kernel_rfl))
  all_goals (apply dtk 5; (case hi => rfl); (case hop => first | (apply r_loadNo; (case hx => rfl); (case h => (repeat (exact mhd _))); (case hd => (repeat (first | with_reducible exact dt_nil | apply dt_here))); (case hn => rfl)) | (apply r_load1; rfl; (apply Cell.own; (case h => (repeat (fail))); rfl)) | (apply r_loadN; rfl; (apply CellsAt.own; (case h => (repeat (fail)))); rfl)); (case hq => kernel_rfl))
  focus
    refine d_fork 4 6 (by kernel_rfl) ?_ ?_
    rotate_right
    focus
      (apply x_buildSlice 6; (case hi => rfl); (case hT => infer_instance); (case hL => infer_instance); (case hz => rfl); (case hl => rfl); (case hv => (simp only [List.map_cons, List.map_nil]; repeat (first | with_reducible exact evs_nil | (apply evs_cons; (case h1 => rfl))))); (case hp => (apply pk_cons; (case hc => rfl); (case hs => rfl); (case h => (with_reducible exact pk_nil)); (case he => ((repeat (first | with_reducible exact ap_nil | apply ap_cons)); done)))); (case hb => rfl); (case hd => rfl); (case hν => intro e he; (simp at he; simp [he]; done)); intro bb)
      all_goals (apply d_keep 4 (hop := ReadOp.move ?hop); (case hi => rfl); (case hr => kernel_rfl); (case hop => (apply r_load1; rfl; (apply Cell.own; (case h => repeat (first | exact mhd _ | apply mtl)); rfl))); (case hd => rfl))
      all_goals (apply d_append 7 (hg := hgr) (q' := 1) (us := recL x.kind x.round x.node x.index x.cmd (.slice Ai x.image.length ci)) (hp := PickA.perm (by repeat (first | exact PickA.last | apply PickA.cons))) (hsrc := Src.own (e := 42) (by repeat (exact mhd _)) rfl); (case hi => rfl); (case hr => kernel_rfl); (case hT => infer_instance); (case hL => infer_instance); (case hzs => rfl); (case hsz => omega); (case hs => rfl); (case hx => rfl); (case hb => omega); (case hb' => simp only [maxLen]; omega); (case hd => rfl); (case h1 => rfl); (case hν => intro e he; (simp at he; simp [he]; done)); intro v3 n3 hg3; obtain ⟨A3, c3, rfl, -, -⟩ := hg3.shape)
      all_goals (apply dtk 8; (case hi => rfl); (case hop => (apply prd; apply p_nilCheck <;> rfl)); (case hq => kernel_rfl))
      all_goals (apply dtk 9; (case hi => rfl); (case hop => (apply prd; apply p_fieldAddrB <;> rfl)); (case hq => kernel_rfl))
      all_goals (apply d_store 10; (case hi => rfl); (case hr => kernel_rfl); (case hL => infer_instance); (case hp => rfl); (case hx => rfl); (case hc => rfl); (case hsz => rfl); (case h1 => rfl); (case hb => (repeat (first | exact mhd _ | apply mtl | apply List.mem_append_right))); (case hfit => exact nle rfl); (case hov => ((repeat (first | with_reducible exact ov_nil | apply ov_cons)); done)); (case hu => repeat (first | exact Upd.here _ _ | apply Upd.there | apply Upd.app)); (case hν' => intro e he; (simp at he; simp [he]; done)))
      all_goals (apply d_done; (case hr => kernel_rfl))
    rotate_right
    focus
      (apply x_exec 4; (case hi => rfl);  (case hop => exact ReadOp.move (r_load1 rfl (Cell.own (by repeat (first | exact mhd _ | apply mtl)) rfl))); (case hd => rfl); rintro _ G0 _ ⟨rfl, hG0, rfl⟩; subst G0; refine ⟨(by intro e he; simp at he; simp [he]), ?_⟩)
      all_goals (apply d_buildSlice 6; (case hi => rfl); (case hr => kernel_rfl); (case hT => infer_instance); (case hL => infer_instance); (case hz => rfl); (case hl => rfl); (case hv => (simp only [List.map_cons, List.map_nil]; repeat (first | with_reducible exact evs_nil | (apply evs_cons; (case h1 => rfl))))); (case hp => (apply pk_cons; (case hc => rfl); (case hs => rfl); (case h => (with_reducible exact pk_nil)); (case he => ((repeat (first | with_reducible exact ap_nil | apply ap_cons)); done)))); (case hb => rfl); (case hd => rfl); (case hν => intro e he; (simp at he; simp [he]; done)); intro bb)
      all_goals (apply d_append 7 (hg := hgr) (q' := 1) (us := recL x.kind x.round x.node x.index x.cmd (.slice Ai x.image.length ci)) (hp := PickA.perm (by repeat (first | exact PickA.last | apply PickA.cons))) (hsrc := Src.own (e := 42) (by repeat (exact mhd _)) rfl); (case hi => rfl); (case hr => kernel_rfl); (case hT => infer_instance); (case hL => infer_instance); (case hzs => rfl); (case hsz => omega); (case hs => rfl); (case hx => rfl); (case hb => omega); (case hb' => simp only [maxLen]; omega); (case hd => rfl); (case h1 => rfl); (case hν => intro e he; (simp at he; simp [he]; done)); intro v3 n3 hg3; obtain ⟨A3, c3, rfl, -, -⟩ := hg3.shape)
      all_goals (apply dtk 8; (case hi => rfl); (case hop => (apply prd; apply p_nilCheck <;> rfl)); (case hq => kernel_rfl))
      all_goals (apply dtk 9; (case hi => rfl); (case hop => (apply prd; apply p_fieldAddrB <;> rfl)); (case hq => kernel_rfl))
      all_goals (apply d_store 10; (case hi => rfl); (case hr => kernel_rfl); (case hL => infer_instance); (case hp => rfl); (case hx => rfl); (case hc => rfl); (case hsz => rfl); (case h1 => rfl); (case hb => (repeat (first | exact mhd _ | apply mtl | apply List.mem_append_right))); (case hfit => exact nle rfl); (case hov => ((repeat (first | with_reducible exact ov_nil | apply ov_cons)); done)); (case hu => repeat (first | exact Upd.here _ _ | apply Upd.there | apply Upd.app)); (case hν' => intro e he; (simp at he; simp [he]; done)))
      all_goals (apply d_done; (case hr => kernel_rfl))
  all_goals
    repeat' (first | apply v_seq | apply v_region | apply v_nil | (apply v_pure; (case hop => first | (apply p_move <;> rfl) | (apply p_assign <;> rfl) | (apply p_fieldAddrB <;> rfl) | (apply p_nilCheck <;> rfl) | fail); (case hd => rfl)) | (apply v_store; (case hp => rfl); (case hx => rfl); (case hc => rfl); (case hsz => rfl); (case h1 => rfl); (case hb => (repeat (first | exact mhd _ | apply mtl | apply List.mem_append_right))); (case hfit => exact nle rfl); (case hov => ((repeat (first | with_reducible exact ov_nil | apply ov_cons)); done)); (case hu => repeat (first | exact Upd.here _ _ | apply Upd.there | apply Upd.app))) | fail)
    refine v_ret (n3 ++ [(rb, sgO (.slice A D.length c) ((D.length - t.length : Nat) : Int) f (.slice A3 (xs.length + 1) c3))]) (outsA1 rfl rfl) (List.Sublist.append_left (by repeat (first | exact List.Sublist.refl _ | apply List.Sublist.cons)) _) ?_
    exact ⟨_, D.length - t.length, _, n3, xs ++ [x], rfl, List.perm_append_singleton _ _, GrowR.snoc hcl (fun i y cs h1 h2 => (hcr i y cs h1 h2).le hle) hg3 ⟨_, rfl, hco, hsm, hix⟩, .inr ⟨rfl, bd, t, x, hn, hd, rfl, rfl⟩⟩
theorem more_s {G : GH} {D : List Int} {sv lv : Value} (rb ib pb at_ : Nat) (f : Int) {xs : List Rc} {ν : OH} (is : Bool) (q : Con Tryz.prog 63 #[.pointer (some ⟨rb, 0, none⟩)] G ((rb, sgO sv (at_ : Nat) f lv) :: ν) (NxtR D rb sv at_ f xs)) :
    Con Tryz.prog 62 #[.pointer (some ⟨ib, 0, none⟩), .pointer (some ⟨pb, 0, none⟩)] G ([(ib, .cells #[.bool is] 4 (0, 0)), (pb, .cells #[.pointer (some ⟨rb, 0, none⟩)] 104 (0, 0))] ++ (rb, sgO sv (at_ : Nat) f lv) :: ν) (fun r G' μ' => ∃ ν', μ'.Perm ([(ib, .cells #[.bool is] 4 (0, 0)), (pb, .cells #[.pointer (some ⟨rb, 0, none⟩)] 104 (0, 0))] ++ ν') ∧ ((is = false ∧ r = .bool false ∧ G' = G ∧ ν' = (rb, sgO sv (at_ : Nat) f lv) :: ν) ∨ (is = true ∧ NxtR D rb sv at_ f xs r G' ν'))) := by
  (refine v_enter Tryz.func62 rfl Tryz.ntmps62 rfl ?_; intro B _)
  cases is
  · repeat' (first | apply v_seq | apply v_region | apply v_nil | (apply v_pass; (case hg => rfl); (case hn => rfl); (case hd => rfl)) | (apply v_pure; (case hop => first | (apply p_move <;> rfl) | (apply p_assign <;> rfl) | (apply p_pickF <;> rfl) | fail); (case hd => rfl)) | (apply v_read; (case hop => (apply r_load1; rfl; (apply Cell.own; (case h => (repeat (exact mhd _))); rfl))); (case hd => rfl)) | fail)
    exact v_ret _ (outsA1 rfl rfl) (List.Sublist.refl _) ⟨_, List.Perm.refl _, .inl ⟨rfl, rfl, rfl, rfl⟩⟩
  · repeat' (first | apply v_seq | apply v_region | apply v_nil | (apply v_take; (case hg => rfl)) | (apply v_pure; (case hop => first | (apply p_move <;> rfl) | (apply p_assign <;> rfl) | fail); (case hd => rfl)) | (apply v_read; (case hop => (apply r_load1; rfl; (apply Cell.own; (case h => (repeat (first | exact mhd _ | apply mtl))); rfl))); (case hd => rfl)) | fail)
    refine v_call (μ1 := (rb, sgO sv (at_ : Nat) f lv) :: ν) rfl q List.perm_append_comm rfl ?_
    rintro _ G1 ν1 - ⟨ok, at', lv', ν', xs', rfl, hp, hg, hc⟩
    repeat' (first | apply v_nil | (apply v_pure; (case hop => first | (apply p_assign <;> rfl) | (apply p_pickT <;> rfl) | fail); (case hd => rfl)) | fail)
    exact v_ret _ (outsA1 rfl rfl) (List.Sublist.refl _) ⟨ν1, List.perm_append_comm, .inr ⟨rfl, ok, at', lv', ν', xs', rfl, hp, hg, hc⟩⟩
section
attribute [local semireducible] Vc DVc Con PureOp ReadOp MoveOp
theorem d_fork3 {P : Program} {fn : Func} {n : Nat} {B : Base} {Φ : Value → GH → OH → Prop} {k : List It} {σ : Env} {G G0 : GH} {μ : OH} {all : Array Oper} {m : Nat} {listed : Array Bool} {ν : OH} (i j l : Nat) (hr : Region.ready .any all listed = [i, j, l]) (h1 : DX P fn n B Φ all G0 ν m listed k σ G μ i) (h2 : DX P fn n B Φ all G0 ν m listed k σ G μ j) (h3 : DX P fn n B Φ all G0 ν m listed k σ G μ l) : DVc P fn n B Φ all G0 ν (m + 1) listed k σ G μ := by
  intro hsel hle hν w hw a ha
  refine wpAnyH_all hr (by simp) fun x hx => ?_
  simp only [List.mem_cons, List.mem_singleton, List.not_mem_nil, or_false] at hx
  obtain rfl | rfl | rfl := hx
  · exact h1 hsel hle hν w hw a ha
  · exact h2 hsel hle hν w hw a ha
  · exact h3 hsel hle hν w hw a ha
end
end Go.Proofs.YtpemabgfmnhhnaaGreatDoor
/-
  segm.Read.
-/
set_option linter.unusedSimpArgs false
set_option linter.unusedVariables false
namespace Go.Proofs.YtpemabgfmnhhnaaGreatDoor
open Go.Vx Go.ChangeShapes Go.WideShapes Go.ChangeAt Go.RowKit
section
variable {α : Type} (dec : List Int → Option α)
theorem recsF_step {D : Nat} {l b t : List Int} {x : α} (hw : byteL l) (hl : l.length ≤ D) (h : nextF l = some (b, t)) (hd : dec b = some x) : recsF dec D l = (x :: (recsF dec D t).1, (recsF dec D t).2) := by
  obtain ⟨e, -⟩ := nextF_inv hw h
  have h1 := congrArg List.length e
  have h2 := frB_pos b
  rw [List.length_append] at h1
  obtain ⟨n, rfl⟩ : ∃ n, D = n + 1 := ⟨D - 1, by omega⟩
  have hr : byteL t := fun y hy => hw y (by rw [e]; exact List.mem_append_right _ hy)
  rw [recsF_some dec h hd, recsF_fuel dec n (n + 1) t hr (by omega) (by omega)]
end
theorem next_drop {D b t : List Int} {a : Nat} (hw : byteL D) (h : nextF (D.drop a) = some (b, t)) : t = D.drop (D.length - t.length) ∧ D.length - t.length ≤ D.length ∧ t.length < D.length - a := by
  obtain ⟨e, -⟩ := nextF_inv (fun y hy => hw y (List.mem_of_mem_drop hy)) h
  have h1 := congrArg List.length e
  have h2 := frB_pos b
  rw [List.length_append, List.length_drop] at h1
  refine ⟨?_, by omega, by omega⟩
  have h3 : (D.drop a).drop (frB b).length = t := by rw [e, List.drop_left]
  rw [List.drop_drop] at h3
  rw [show D.length - t.length = a + (frB b).length by omega]
  exact h3.symm
def ctL (f : Int) (L : List Value) (k b : Int) : List Value := .int .i64 f :: (L ++ [.int .i64 k, .int .i64 b])
def ReadR (D : List Int) (r : Value) (G' : GH) (μ' : OH) : Prop := μ' = [] ∧ ((readF decF D = none ∧ r = .tuple [.agg (ctL 0 (hdL 0 0 0 (.slice none 0 0) (.slice none 0 0) (.slice none 0 0)) 0 0).toArray, .int .i64 17].toArray) ∨ ∃ f xs k L, readF decF D = some (f, xs, k) ∧ r = .tuple [.agg (ctL f L (xs.length : Nat) (k : Nat)).toArray, .int .i64 0].toArray ∧ HdV G' (hardOf xs) L)
set_option maxHeartbeats 1000000 in
theorem sread_s {G : GH} (hT : TabsG G) (hC : CrcG G) {D : List Int} {sv : Value} (hs : Sl G 1 (IntR .u8) sv D) (hl : D.length ≤ 1048000) (hfew : ∀ f xs k, readF decF D = some (f, xs, k) → xs.length ≤ 200) : Con Tryz.prog 21 #[sv] G [] (ReadR D) := by
  have hw : byteL D := fun y hy => sl_byte hs y hy
  obtain ⟨A, c, rfl, -⟩ := id hs.openInt
  (refine v_enter Tryz.func21 rfl Tryz.ntmps21 rfl ?_; intro B _)
  repeat' (first | apply v_seq | apply v_region | apply v_nil | (apply v_pure; (case hop => first | (apply p_move <;> rfl) | (apply p_assign <;> rfl) | (apply p_build; (case hz => rfl); (case hv => (simp only [List.map_cons, List.map_nil]; repeat (first | with_reducible exact evs_nil | (apply evs_cons; (case h1 => rfl))))); (case hb => (apply bldL; repeat (first | exact bld_nil | (apply bld_cons; (case hpf => rfl); (case hc => rfl); (case hs => rfl); (case hl => rfl); (case ho => ((repeat (first | with_reducible exact ov_nil | apply ov_cons)); done))))))) | fail); (case hd => rfl)) | (apply v_read; (case hop => (apply r_load1; rfl; (apply Cell.own; (case h => (repeat (exact mhd _))); rfl))); (case hd => rfl)) | (apply v_alloc; (case hz => rfl); (case hd => rfl); intro b) | (apply v_box; (case hx => rfl); (case hz => rfl); (case hd => rfl); intro b) | (apply v_store; (case hp => rfl); (case hx => rfl); (case hc => rfl); (case hsz => rfl); (case h1 => rfl); (case hb => (repeat (exact mhd _))); (case hfit => exact nle rfl); (case hov => ((repeat (first | with_reducible exact ov_nil | apply ov_cons)); done)); (case hu => repeat (exact Upd.here _ _))) | fail)
  rename_i cb rb
  revert b
  intro pb
  refine v_call (μ1 := [(rb, sgO (.slice A D.length c) 0 0 (.slice none 0 0))]) rfl (begin_s hC rb hs hl) (PickA.perm (by repeat (first | exact PickA.here _ | apply PickA.cons))) rfl ?_
  rintro _ G1 _ hle1 ⟨a0, f, n, is, ha0, rfl, rfl, hbeg⟩
  have hbeg' : is = true → ∃ hd, nextF D = some (hd, D.drop a0) ∧ f = (headF D.length hd).1 ∧ n = (headF D.length hd).2.1 ∧ (headF D.length hd).2.2 = true ∧ ((headF D.length hd).1 = 1 ∨ (headF D.length hd).1 = 2) := fun his => by
    obtain ⟨-, h⟩ | ⟨hd, t, hn, h1, h2, h3, h4⟩ := hbeg
    · rw [his] at h; cases h
    · obtain ⟨h5, -, -⟩ := next_drop (D := D) (a := 0) hw (by rw [List.drop_zero]; exact hn)
      rw [← h1] at h5
      rw [his] at h4
      have := of_decide_eq_true h4.symm
      exact ⟨hd, by rw [← h5]; exact hn, h2, h3, this.1, this.2⟩
  have hno : is = false → readF decF D = none := fun his => by
    obtain ⟨hn, -⟩ | ⟨hd, t, hn, h1, h2, h3, h4⟩ := hbeg
    · exact readF_none decF hn
    · rw [his] at h4
      have := of_decide_eq_false h4.symm
      rw [readF_some decF hn, if_neg fun h => this ⟨h.1, h.2.1⟩]
  repeat' (first | apply v_seq | apply v_region | apply v_nil | apply v_block | (apply v_pure; (case hop => first | (apply p_move <;> rfl) | (apply p_assign <;> rfl) | (apply p_extract0 <;> rfl) | (apply p_extract1 <;> rfl) | (apply p_makeFunc <;> rfl) | fail); (case hd => rfl)) | (apply v_alloc; (case hz => rfl); (case hd => rfl); intro b) | (apply v_store; (case hp => rfl); (case hx => rfl); (case hc => rfl); (case hsz => rfl); (case h1 => rfl); (case hb => (repeat (exact mhd _))); (case hfit => exact nle rfl); (case hov => ((repeat (first | with_reducible exact ov_nil | apply ov_cons)); done)); (case hu => repeat (exact Upd.here _ _))) | fail)
  revert b
  intro ib
  refine v_perm (ν := ([(ib, .cells #[.bool is] 4 (0, 0)), (pb, .cells #[.pointer (some ⟨rb, 0, none⟩)] 104 (0, 0))] ++ (rb, sgO (.slice A D.length c) (a0 : Nat) f (.slice none 0 0)) :: []) ++ [(cb, .cells (ctL 0 (hdL 0 0 0 (.slice none 0 0) (.slice none 0 0) (.slice none 0 0)) 0 0).toArray 50 (0, 0))]) (by apply perm_of_count; intro p; simp only [List.append_eq, List.countP_append, List.countP_cons, List.countP_nil, Nat.zero_add, Nat.add_zero]; try ac_rfl) ?_
  refine v_loopI (ι := Nat) [7, 6, 5, 4, 2] (fun a us G' μ' => GH.le G1 G' ∧ a ≤ D.length ∧ ∃ (lv : Value) (xs : List Rc) (ν : OH), us = [.func (.func 62) #[] #[.pointer (some ⟨ib, 0, none⟩), .pointer (some ⟨pb, 0, none⟩)], .pointer (some ⟨ib, 0, none⟩), .int .i64 n, .pointer (some ⟨pb, 0, none⟩), .pointer (some ⟨cb, 0, none⟩)] ∧ μ' = ([(ib, .cells #[.bool is] 4 (0, 0)), (pb, .cells #[.pointer (some ⟨rb, 0, none⟩)] 104 (0, 0))] ++ (rb, sgO (.slice A D.length c) (a : Nat) f lv) :: ν) ++ [(cb, .cells (ctL 0 (hdL 0 0 0 (.slice none 0 0) (.slice none 0 0) (.slice none 0 0)) 0 0).toArray 50 (0, 0))] ∧ GrowR G' lv xs ν ∧ xs.length ≤ a ∧ recsF (decF f) D.length (D.drop a0) = (xs ++ (recsF (decF f) D.length (D.drop a)).1, (recsF (decF f) D.length (D.drop a)).2)) (fun a => D.length - a) rfl a0 ⟨GH.le_refl _, ha0, _, [], [], rfl, rfl, GrowR.none _, Nat.zero_le _, rfl⟩ ?_
  rintro a us G' μ' ⟨hle, ha, lv, xs, ν, rfl, rfl, hg, hxa, hrec⟩
  have hle' := GH.le_trans hle1 hle
  have q := more_s rb ib pb a f is (next_s (hT.le hle') (hC.le hle') rb a f (hs.mono hle') hl ha (by omega) hg)
  obtain ⟨Ag, cg, rfl, -, -⟩ : ∃ A c, lv = .slice A xs.length c ∧ True ∧ True := by
    obtain ⟨css, -, -, hgr⟩ := id hg
    obtain ⟨A, c, h, -⟩ := hgr.shape
    exact ⟨A, c, h, trivial, trivial⟩
  repeat' (first | apply v_seq | apply v_region | (apply v_pure; (case hop => (apply p_move <;> rfl)); (case hd => rfl)) | fail)
  refine v_callC (first := []) (captured := [.pointer (some ⟨ib, 0, none⟩), .pointer (some ⟨pb, 0, none⟩)]) (vs := []) rfl rfl q (List.Perm.refl _) rfl ?_
  rintro r G2 ν2 hle2 ⟨ν3, hp, hcase⟩
  refine v_perm (hp.append_right _) ?_
  obtain ⟨his, rfl, hG2, rfl⟩ | ⟨his, ok, a', lv', ν', xs', rfl, hp', hg', ⟨rfl, rfl, rfl, hend⟩ | ⟨rfl, bd, t, x, hn, hd, rfl, rfl⟩⟩ := hcase
  · have hnone := hno his
    subst his
    repeat' (first | apply v_seq | apply v_region | apply v_nil | (apply v_exit; (case hp => rfl)) | (apply v_pass; (case hg => rfl); (case hn => rfl); (case hd => rfl)) | (apply v_pure; (case hop => first | (apply p_move <;> rfl) | (apply p_assign <;> rfl) | (apply p_pickT <;> rfl) | (apply p_not <;> rfl) | (apply p_build; (case hz => rfl); (case hv => (simp only [List.map_cons, List.map_nil]; repeat (with_reducible exact evs_nil))); (case hb => (apply bldL; repeat (exact bld_nil)))) | fail); (case hd => rfl)) | (apply v_condT; (case hc => rfl)) | (apply v_condF; (case hc => rfl)) | (apply v_read; (case hop => (apply r_load1; rfl; (apply Cell.own; (case h => (repeat (exact mhd _))); rfl))); (case hd => rfl)) | (apply v_store; (case hp => rfl); (case hx => rfl); (case hc => rfl); (case hsz => rfl); (case h1 => rfl); (case hb => (repeat (first | exact mhd _ | apply mtl | apply List.mem_append_right))); (case hfit => exact nle rfl); (case hov => ((repeat (first | with_reducible exact ov_nil | apply ov_cons)); done)); (case hu => repeat (first | exact Upd.here _ _ | apply Upd.there | apply Upd.app))) | fail)
    refine v_retM [] (outsM_cell_tmp (vs := ctL 0 (hdL 0 0 0 (.slice none 0 0) (.slice none 0 0) (.slice none 0 0)) 0 0) (e := 50) rfl rfl rfl (by repeat (first | exact mhd _ | apply mtl | apply List.mem_append_right)) rfl) (by repeat (exact List.nil_sublist _)) ?_
    exact ⟨rfl, .inl ⟨hnone, rfl⟩⟩
  · obtain ⟨hd, hnx, hf, hn, hh1, hh2⟩ := hbeg' his
    subst his
    have hstop : recsF (decF f) D.length (D.drop a') = ([], D.drop a') := by
      obtain h | ⟨bd, t, h, h'⟩ := hend
      · exact recsF_none (decF f) h
      · exact recsF_bad (decF f) h h'
    rw [hstop, List.append_nil] at hrec
    have hR : readF decF D = if n ≤ (xs'.length : Int) then some (f, xs', a') else none := by
      rw [readF_some decF hnx, ← hf, hrec]
      simp only [hh1, true_and, ← hn]
      have hl2 : D.length - (D.drop a').length = a' := by rw [List.length_drop]; omega
      rw [hl2]
      by_cases h : n ≤ (xs'.length : Int)
      · rw [if_pos h, if_pos ⟨by rw [hf]; exact hh2, h⟩]
      · rw [if_neg h, if_neg fun hh => h hh.2]
    refine v_perm ((hp'.append_left _).append_right _) ?_
    obtain ⟨Ag, cg, rfl, -, -⟩ : ∃ A c, lv' = .slice A xs'.length c ∧ True ∧ True := by
      obtain ⟨css, -, -, hgr⟩ := id hg'
      obtain ⟨A, c, h, -⟩ := hgr.shape
      exact ⟨A, c, h, trivial, trivial⟩
    repeat' (first | apply v_seq | apply v_region | apply v_nil | apply v_skip | (apply v_exit; (case hp => rfl)) | (apply v_take; (case hg => rfl)) | (apply v_pure; (case hop => first | (apply p_move <;> rfl) | (apply p_lt <;> rfl) | (apply p_assign <;> rfl) | (apply p_pickF <;> rfl) | (apply p_not <;> rfl) | (apply p_lenSlice <;> rfl) | (apply p_fieldAddrB <;> rfl) | (apply p_nilCheck <;> rfl) | (apply p_build; (case hz => rfl); (case hv => (simp only [List.map_cons, List.map_nil]; repeat (with_reducible exact evs_nil))); (case hb => (apply bldL; repeat (exact bld_nil)))) | fail); (case hd => rfl)) | (apply v_condF; (case hc => rfl)) | (apply v_cond; (case hc => rfl); all_goals (intro h; (try simp only [reduceCtorEq, zzz] at h))) | (apply v_read; (case hop => (apply r_load1; rfl; (apply Cell.own; (case h => (repeat (first | exact mhd _ | apply mtl))); rfl))); (case hd => rfl)) | (apply v_store; (case hp => rfl); (case hx => rfl); (case hc => rfl); (case hsz => rfl); (case h1 => rfl); (case hb => (repeat (first | exact mhd _ | apply mtl | apply List.mem_append_right))); (case hfit => exact nle rfl); (case hov => ((repeat (first | with_reducible exact ov_nil | apply ov_cons)); done)); (case hu => repeat (first | exact Upd.here _ _ | apply Upd.there | apply Upd.app))) | fail)
    · refine v_retM [] (outsM_cell_tmp (vs := ctL 0 (hdL 0 0 0 (.slice none 0 0) (.slice none 0 0) (.slice none 0 0)) 0 0) (e := 50) rfl rfl rfl (by repeat (first | exact mhd _ | apply mtl | apply List.mem_append_right)) rfl) (by repeat (exact List.nil_sublist _)) ?_
      exact ⟨rfl, .inl ⟨by rw [hR, if_neg (by omega)], rfl⟩⟩
    · have hR' : readF decF D = some (f, xs', a') := by rw [hR, if_pos (by omega)]
      have h200 := hfew _ _ _ hR'
      refine v_frz ν' (by repeat (first | exact PickA.here _ | apply PickA.cons)) ?_
      intro G3 hle3 hG3
      have hrs := hg'.rs hle3 hG3
      have qo := of_s (hT.le (GH.le_trans (GH.le_trans hle' hle2) hle3)) hrs h200
      refine d_start [(pb, .cells #[.pointer (some ⟨rb, 0, none⟩)] 104 (0, 0))] (by kernel_rfl) (by kernel_rfl) (by kernel_rfl) (by intro e he; (simp at he; simp [he]; done)) ?_
      all_goals (apply dtk 0; (case hi => rfl); (case hop => first | (apply r_loadNo; (case hx => rfl); (case h => (repeat (fail))); (case hd => (repeat (fail))); (case hn => rfl)) | (apply r_load1; rfl; (apply Cell.own; (case h => (repeat (exact mhd _))); rfl)) | (apply r_loadN; rfl; (apply CellsAt.own; (case h => (repeat (fail)))); rfl)); (case hq => kernel_rfl))
      all_goals (apply dtk 1; (case hi => rfl); (case hop => first | (apply r_loadNo; (case hx => rfl); (case h => (repeat (fail))); (case hd => (repeat (fail))); (case hn => rfl)) | (apply r_load1; rfl; (apply Cell.own; (case h => (repeat (exact mhd _))); rfl)) | (apply r_loadN; rfl; (apply CellsAt.own; (case h => (repeat (fail)))); rfl)); (case hq => kernel_rfl))
      all_goals (apply dtk 2; (case hi => rfl); (case hop => first | (apply r_loadNo; (case hx => rfl); (case h => (repeat (fail))); (case hd => (repeat (fail))); (case hn => rfl)) | (apply r_load1; rfl; (apply Cell.own; (case h => (repeat (exact mhd _))); rfl)) | (apply r_loadN; rfl; (apply CellsAt.own; (case h => (repeat (fail)))); rfl)); (case hq => kernel_rfl))
      all_goals (apply dtk 3; (case hi => rfl); (case hop => first | (apply r_loadNo; (case hx => rfl); (case h => (repeat (fail))); (case hd => (repeat (fail))); (case hn => rfl)) | (apply r_load1; rfl; (apply Cell.own; (case h => (repeat (exact mhd _))); rfl)) | (apply r_loadN; rfl; (apply CellsAt.own; (case h => (repeat (fail)))); rfl)); (case hq => kernel_rfl))
      all_goals (apply dtk 4; (case hi => rfl); (case hop => (apply prd; apply p_nilCheck <;> rfl)); (case hq => kernel_rfl))
      all_goals (apply dtk 5; (case hi => rfl); (case hop => (apply prd; apply p_fieldAddrB <;> rfl)); (case hq => kernel_rfl))
      all_goals (apply dtk 8; (case hi => rfl); (case hop => first | (apply r_loadNo; (case hx => rfl); (case h => (repeat (fail))); (case hd => (repeat (fail))); (case hn => rfl)) | (apply r_load1; rfl; (apply Cell.own; (case h => (repeat (exact mhd _))); rfl)) | (apply r_loadN; rfl; (apply CellsAt.own; (case h => (repeat (fail)))); rfl)); (case hq => kernel_rfl))
      all_goals (apply dtk 9; (case hi => rfl); (case hop => (apply prd; apply p_nilCheck <;> rfl)); (case hq => kernel_rfl))
      all_goals (apply dtk 10; (case hi => rfl); (case hop => (apply prd; apply p_fieldAddrB <;> rfl)); (case hq => kernel_rfl))
      all_goals (apply dtk 13; (case hi => rfl); (case hop => first | (apply r_loadNo; (case hx => rfl); (case h => (repeat (fail))); (case hd => (repeat (fail))); (case hn => rfl)) | (apply r_load1; rfl; (apply Cell.own; (case h => (repeat (exact mhd _))); rfl)) | (apply r_loadN; rfl; (apply CellsAt.own; (case h => (repeat (fail)))); rfl)); (case hq => kernel_rfl))
      all_goals (apply dtk 14; (case hi => rfl); (case hop => (apply prd; apply p_nilCheck <;> rfl)); (case hq => kernel_rfl))
      all_goals (apply dtk 15; (case hi => rfl); (case hop => (apply prd; apply p_fieldAddrB <;> rfl)); (case hq => kernel_rfl))
      focus
        refine d_fork3 6 11 16 (by kernel_rfl) ?_ ?_ ?_
        rotate_right
        focus
          (apply x_exec 16; (case hi => rfl);  (case hop => exact ReadOp.move (r_load1 rfl (Cell.own (by repeat (first | exact mhd _ | apply mtl)) rfl))); (case hd => rfl); rintro _ G0 _ ⟨rfl, hG0, rfl⟩; subst G0; refine ⟨(by intro e he; simp at he; simp [he]), ?_⟩)
          focus
            refine d_fork 6 11 (by kernel_rfl) ?_ ?_
            rotate_right
            focus
              (apply x_exec 11; (case hi => rfl);  (case hop => exact ReadOp.move (r_load1 rfl (Cell.own (by repeat (first | exact mhd _ | apply mtl)) rfl))); (case hd => rfl); rintro _ G0 _ ⟨rfl, hG0, rfl⟩; subst G0; refine ⟨(by intro e he; simp at he; simp [he]), ?_⟩)
              all_goals (apply dtk 12; (case hi => rfl); (case hop => (apply prd; apply p_lenSlice <;> rfl)); (case hq => kernel_rfl))
              all_goals (apply d_keep 6 (hop := ReadOp.move ?hop); (case hi => rfl); (case hr => kernel_rfl); (case hop => (apply r_load1; rfl; (apply Cell.own; (case h => repeat (first | exact mhd _ | apply mtl)); rfl))); (case hd => rfl))
              all_goals ((apply d_call 7 (hs := qo) (μ1 := []); (case hi => rfl); (case hr => kernel_rfl);  (case ha => rfl); (case hp => exact List.Perm.refl _); (case hd => rfl); (case hν' => intro e he; simp at he; simp [he]); rintro _ G4 _ hle4 ⟨rfl, L, rfl, iv, av, cv, rfl, hi, hac, hch⟩; obtain ⟨B0, d0, rfl, -⟩ := id hi.openInt; obtain ⟨B1, d1, rfl, -⟩ := id hac.open; obtain ⟨B2, d2, rfl, -⟩ := id hch.open))
              all_goals (apply dtk 17; (case hi => rfl); (case hop => (apply prd; apply p_nilCheck <;> rfl)); (case hq => kernel_rfl))
              all_goals (apply dtk 18; (case hi => rfl); (case hop => (apply prd; apply p_fieldAddrB <;> rfl)); (case hq => kernel_rfl))
              all_goals (apply dtk 19; (case hi => rfl); (case hop => (apply prd; apply p_fieldAddrB <;> rfl)); (case hq => kernel_rfl))
              all_goals (apply d_store 20; (case hi => rfl); (case hr => kernel_rfl); (case hL => infer_instance); (case hp => rfl); (case hx => rfl); (case hc => rfl); (case hsz => rfl); (case h1 => rfl); (case hb => (repeat (first | exact mhd _ | apply mtl))); (case hfit => exact nle rfl); (case hov => ((repeat (first | with_reducible exact ov_nil | apply ov_cons)); done)); (case hu => repeat (first | exact Upd.here _ _ | apply Upd.there)); (case hν' => intro e he; (simp at he; simp [he]; done)))
              all_goals (apply dtk 21; (case hi => rfl); (case hop => (apply prd; apply p_nilCheck <;> rfl)); (case hq => kernel_rfl))
              all_goals (apply dtk 22; (case hi => rfl); (case hop => (apply prd; apply p_fieldAddrB <;> rfl)); (case hq => kernel_rfl))
              all_goals (apply dtk 23; (case hi => rfl); (case hop => (apply prd; apply p_fieldAddrB <;> rfl)); (case hq => kernel_rfl))
              all_goals (apply d_store 24; (case hi => rfl); (case hr => kernel_rfl); (case hL => infer_instance); (case hp => rfl); (case hx => rfl); (case hc => rfl); (case hsz => rfl); (case h1 => rfl); (case hb => (repeat (first | exact mhd _ | apply mtl))); (case hfit => exact nle rfl); (case hov => ((repeat (first | with_reducible exact ov_nil | apply ov_cons)); done)); (case hu => repeat (first | exact Upd.here _ _ | apply Upd.there)); (case hν' => intro e he; (simp at he; simp [he]; done)))
              all_goals (apply dtk 25; (case hi => rfl); (case hop => (apply prd; apply p_nilCheck <;> rfl)); (case hq => kernel_rfl))
              all_goals (apply dtk 26; (case hi => rfl); (case hop => (apply prd; apply p_fieldAddrB <;> rfl)); (case hq => kernel_rfl))
              all_goals (apply dtk 27; (case hi => rfl); (case hop => (apply prd; apply p_fieldAddrB <;> rfl)); (case hq => kernel_rfl))
              all_goals (apply d_store 28; (case hi => rfl); (case hr => kernel_rfl); (case hL => infer_instance); (case hp => rfl); (case hx => rfl); (case hc => rfl); (case hsz => rfl); (case h1 => rfl); (case hb => (repeat (first | exact mhd _ | apply mtl))); (case hfit => exact nle rfl); (case hov => ((repeat (first | with_reducible exact ov_nil | apply ov_cons)); done)); (case hu => repeat (first | exact Upd.here _ _ | apply Upd.there)); (case hν' => intro e he; (simp at he; simp [he]; done)))
              all_goals (apply d_done; (case hr => kernel_rfl))
            rotate_right
            focus
              (apply x_exec 6; (case hi => rfl);  (case hop => exact ReadOp.move (r_load1 rfl (Cell.own (by repeat (first | exact mhd _ | apply mtl)) rfl))); (case hd => rfl); rintro _ G0 _ ⟨rfl, hG0, rfl⟩; subst G0; refine ⟨(by intro e he; simp at he; simp [he]), ?_⟩)
              focus
                refine d_fork 7 11 (by kernel_rfl) ?_ ?_
                rotate_right
                focus
                  (apply x_exec 11; (case hi => rfl);  (case hop => exact ReadOp.move (r_load1 rfl (Cell.own (by repeat (first | exact mhd _ | apply mtl)) rfl))); (case hd => rfl); rintro _ G0 _ ⟨rfl, hG0, rfl⟩; subst G0; refine ⟨(by intro e he; simp at he; simp [he]), ?_⟩)
                  all_goals (apply dtk 12; (case hi => rfl); (case hop => (apply prd; apply p_lenSlice <;> rfl)); (case hq => kernel_rfl))
                  all_goals ((apply d_call 7 (hs := qo) (μ1 := []); (case hi => rfl); (case hr => kernel_rfl);  (case ha => rfl); (case hp => exact List.Perm.refl _); (case hd => rfl); (case hν' => intro e he; simp at he; simp [he]); rintro _ G4 _ hle4 ⟨rfl, L, rfl, iv, av, cv, rfl, hi, hac, hch⟩; obtain ⟨B0, d0, rfl, -⟩ := id hi.openInt; obtain ⟨B1, d1, rfl, -⟩ := id hac.open; obtain ⟨B2, d2, rfl, -⟩ := id hch.open))
                  all_goals (apply dtk 17; (case hi => rfl); (case hop => (apply prd; apply p_nilCheck <;> rfl)); (case hq => kernel_rfl))
                  all_goals (apply dtk 18; (case hi => rfl); (case hop => (apply prd; apply p_fieldAddrB <;> rfl)); (case hq => kernel_rfl))
                  all_goals (apply dtk 19; (case hi => rfl); (case hop => (apply prd; apply p_fieldAddrB <;> rfl)); (case hq => kernel_rfl))
                  all_goals (apply d_store 20; (case hi => rfl); (case hr => kernel_rfl); (case hL => infer_instance); (case hp => rfl); (case hx => rfl); (case hc => rfl); (case hsz => rfl); (case h1 => rfl); (case hb => (repeat (first | exact mhd _ | apply mtl))); (case hfit => exact nle rfl); (case hov => ((repeat (first | with_reducible exact ov_nil | apply ov_cons)); done)); (case hu => repeat (first | exact Upd.here _ _ | apply Upd.there)); (case hν' => intro e he; (simp at he; simp [he]; done)))
                  all_goals (apply dtk 21; (case hi => rfl); (case hop => (apply prd; apply p_nilCheck <;> rfl)); (case hq => kernel_rfl))
                  all_goals (apply dtk 22; (case hi => rfl); (case hop => (apply prd; apply p_fieldAddrB <;> rfl)); (case hq => kernel_rfl))
                  all_goals (apply dtk 23; (case hi => rfl); (case hop => (apply prd; apply p_fieldAddrB <;> rfl)); (case hq => kernel_rfl))
                  all_goals (apply d_store 24; (case hi => rfl); (case hr => kernel_rfl); (case hL => infer_instance); (case hp => rfl); (case hx => rfl); (case hc => rfl); (case hsz => rfl); (case h1 => rfl); (case hb => (repeat (first | exact mhd _ | apply mtl))); (case hfit => exact nle rfl); (case hov => ((repeat (first | with_reducible exact ov_nil | apply ov_cons)); done)); (case hu => repeat (first | exact Upd.here _ _ | apply Upd.there)); (case hν' => intro e he; (simp at he; simp [he]; done)))
                  all_goals (apply dtk 25; (case hi => rfl); (case hop => (apply prd; apply p_nilCheck <;> rfl)); (case hq => kernel_rfl))
                  all_goals (apply dtk 26; (case hi => rfl); (case hop => (apply prd; apply p_fieldAddrB <;> rfl)); (case hq => kernel_rfl))
                  all_goals (apply dtk 27; (case hi => rfl); (case hop => (apply prd; apply p_fieldAddrB <;> rfl)); (case hq => kernel_rfl))
                  all_goals (apply d_store 28; (case hi => rfl); (case hr => kernel_rfl); (case hL => infer_instance); (case hp => rfl); (case hx => rfl); (case hc => rfl); (case hsz => rfl); (case h1 => rfl); (case hb => (repeat (first | exact mhd _ | apply mtl))); (case hfit => exact nle rfl); (case hov => ((repeat (first | with_reducible exact ov_nil | apply ov_cons)); done)); (case hu => repeat (first | exact Upd.here _ _ | apply Upd.there)); (case hν' => intro e he; (simp at he; simp [he]; done)))
                  all_goals (apply d_done; (case hr => kernel_rfl))
                rotate_right
                focus
                  (apply x_call 7 (hs := qo) (μ1 := []); (case hi => rfl);  (case ha => rfl); (case hp => exact List.Perm.refl _); (case hd => rfl); (case hν' => intro e he; simp at he; simp [he]); rintro _ G4 _ hle4 ⟨rfl, L, rfl, iv, av, cv, rfl, hi, hac, hch⟩; obtain ⟨B0, d0, rfl, -⟩ := id hi.openInt; obtain ⟨B1, d1, rfl, -⟩ := id hac.open; obtain ⟨B2, d2, rfl, -⟩ := id hch.open)
                  all_goals (apply d_keep 11 (hop := ReadOp.move ?hop); (case hi => rfl); (case hr => kernel_rfl); (case hop => (apply r_load1; rfl; (apply Cell.own; (case h => repeat (first | exact mhd _ | apply mtl)); rfl))); (case hd => rfl))
                  all_goals (apply dtk 12; (case hi => rfl); (case hop => (apply prd; apply p_lenSlice <;> rfl)); (case hq => kernel_rfl))
                  all_goals (apply dtk 17; (case hi => rfl); (case hop => (apply prd; apply p_nilCheck <;> rfl)); (case hq => kernel_rfl))
                  all_goals (apply dtk 18; (case hi => rfl); (case hop => (apply prd; apply p_fieldAddrB <;> rfl)); (case hq => kernel_rfl))
                  all_goals (apply dtk 19; (case hi => rfl); (case hop => (apply prd; apply p_fieldAddrB <;> rfl)); (case hq => kernel_rfl))
                  all_goals (apply d_store 20; (case hi => rfl); (case hr => kernel_rfl); (case hL => infer_instance); (case hp => rfl); (case hx => rfl); (case hc => rfl); (case hsz => rfl); (case h1 => rfl); (case hb => (repeat (first | exact mhd _ | apply mtl))); (case hfit => exact nle rfl); (case hov => ((repeat (first | with_reducible exact ov_nil | apply ov_cons)); done)); (case hu => repeat (first | exact Upd.here _ _ | apply Upd.there)); (case hν' => intro e he; (simp at he; simp [he]; done)))
                  all_goals (apply dtk 21; (case hi => rfl); (case hop => (apply prd; apply p_nilCheck <;> rfl)); (case hq => kernel_rfl))
                  all_goals (apply dtk 22; (case hi => rfl); (case hop => (apply prd; apply p_fieldAddrB <;> rfl)); (case hq => kernel_rfl))
                  all_goals (apply dtk 23; (case hi => rfl); (case hop => (apply prd; apply p_fieldAddrB <;> rfl)); (case hq => kernel_rfl))
                  all_goals (apply d_store 24; (case hi => rfl); (case hr => kernel_rfl); (case hL => infer_instance); (case hp => rfl); (case hx => rfl); (case hc => rfl); (case hsz => rfl); (case h1 => rfl); (case hb => (repeat (first | exact mhd _ | apply mtl))); (case hfit => exact nle rfl); (case hov => ((repeat (first | with_reducible exact ov_nil | apply ov_cons)); done)); (case hu => repeat (first | exact Upd.here _ _ | apply Upd.there)); (case hν' => intro e he; (simp at he; simp [he]; done)))
                  all_goals (apply dtk 25; (case hi => rfl); (case hop => (apply prd; apply p_nilCheck <;> rfl)); (case hq => kernel_rfl))
                  all_goals (apply dtk 26; (case hi => rfl); (case hop => (apply prd; apply p_fieldAddrB <;> rfl)); (case hq => kernel_rfl))
                  all_goals (apply dtk 27; (case hi => rfl); (case hop => (apply prd; apply p_fieldAddrB <;> rfl)); (case hq => kernel_rfl))
                  all_goals (apply d_store 28; (case hi => rfl); (case hr => kernel_rfl); (case hL => infer_instance); (case hp => rfl); (case hx => rfl); (case hc => rfl); (case hsz => rfl); (case h1 => rfl); (case hb => (repeat (first | exact mhd _ | apply mtl))); (case hfit => exact nle rfl); (case hov => ((repeat (first | with_reducible exact ov_nil | apply ov_cons)); done)); (case hu => repeat (first | exact Upd.here _ _ | apply Upd.there)); (case hν' => intro e he; (simp at he; simp [he]; done)))
                  all_goals (apply d_done; (case hr => kernel_rfl))
        rotate_right
        focus
          (apply x_exec 11; (case hi => rfl);  (case hop => exact ReadOp.move (r_load1 rfl (Cell.own (by repeat (first | exact mhd _ | apply mtl)) rfl))); (case hd => rfl); rintro _ G0 _ ⟨rfl, hG0, rfl⟩; subst G0; refine ⟨(by intro e he; simp at he; simp [he]), ?_⟩)
          all_goals (apply dtk 12; (case hi => rfl); (case hop => (apply prd; apply p_lenSlice <;> rfl)); (case hq => kernel_rfl))
          focus
            refine d_fork 6 16 (by kernel_rfl) ?_ ?_
            rotate_right
            focus
              (apply x_exec 16; (case hi => rfl);  (case hop => exact ReadOp.move (r_load1 rfl (Cell.own (by repeat (first | exact mhd _ | apply mtl)) rfl))); (case hd => rfl); rintro _ G0 _ ⟨rfl, hG0, rfl⟩; subst G0; refine ⟨(by intro e he; simp at he; simp [he]), ?_⟩)
              all_goals (apply d_keep 6 (hop := ReadOp.move ?hop); (case hi => rfl); (case hr => kernel_rfl); (case hop => (apply r_load1; rfl; (apply Cell.own; (case h => repeat (first | exact mhd _ | apply mtl)); rfl))); (case hd => rfl))
              all_goals ((apply d_call 7 (hs := qo) (μ1 := []); (case hi => rfl); (case hr => kernel_rfl);  (case ha => rfl); (case hp => exact List.Perm.refl _); (case hd => rfl); (case hν' => intro e he; simp at he; simp [he]); rintro _ G4 _ hle4 ⟨rfl, L, rfl, iv, av, cv, rfl, hi, hac, hch⟩; obtain ⟨B0, d0, rfl, -⟩ := id hi.openInt; obtain ⟨B1, d1, rfl, -⟩ := id hac.open; obtain ⟨B2, d2, rfl, -⟩ := id hch.open))
              all_goals (apply dtk 17; (case hi => rfl); (case hop => (apply prd; apply p_nilCheck <;> rfl)); (case hq => kernel_rfl))
              all_goals (apply dtk 18; (case hi => rfl); (case hop => (apply prd; apply p_fieldAddrB <;> rfl)); (case hq => kernel_rfl))
              all_goals (apply dtk 19; (case hi => rfl); (case hop => (apply prd; apply p_fieldAddrB <;> rfl)); (case hq => kernel_rfl))
              all_goals (apply d_store 20; (case hi => rfl); (case hr => kernel_rfl); (case hL => infer_instance); (case hp => rfl); (case hx => rfl); (case hc => rfl); (case hsz => rfl); (case h1 => rfl); (case hb => (repeat (first | exact mhd _ | apply mtl))); (case hfit => exact nle rfl); (case hov => ((repeat (first | with_reducible exact ov_nil | apply ov_cons)); done)); (case hu => repeat (first | exact Upd.here _ _ | apply Upd.there)); (case hν' => intro e he; (simp at he; simp [he]; done)))
              all_goals (apply dtk 21; (case hi => rfl); (case hop => (apply prd; apply p_nilCheck <;> rfl)); (case hq => kernel_rfl))
              all_goals (apply dtk 22; (case hi => rfl); (case hop => (apply prd; apply p_fieldAddrB <;> rfl)); (case hq => kernel_rfl))
              all_goals (apply dtk 23; (case hi => rfl); (case hop => (apply prd; apply p_fieldAddrB <;> rfl)); (case hq => kernel_rfl))
              all_goals (apply d_store 24; (case hi => rfl); (case hr => kernel_rfl); (case hL => infer_instance); (case hp => rfl); (case hx => rfl); (case hc => rfl); (case hsz => rfl); (case h1 => rfl); (case hb => (repeat (first | exact mhd _ | apply mtl))); (case hfit => exact nle rfl); (case hov => ((repeat (first | with_reducible exact ov_nil | apply ov_cons)); done)); (case hu => repeat (first | exact Upd.here _ _ | apply Upd.there)); (case hν' => intro e he; (simp at he; simp [he]; done)))
              all_goals (apply dtk 25; (case hi => rfl); (case hop => (apply prd; apply p_nilCheck <;> rfl)); (case hq => kernel_rfl))
              all_goals (apply dtk 26; (case hi => rfl); (case hop => (apply prd; apply p_fieldAddrB <;> rfl)); (case hq => kernel_rfl))
              all_goals (apply dtk 27; (case hi => rfl); (case hop => (apply prd; apply p_fieldAddrB <;> rfl)); (case hq => kernel_rfl))
              all_goals (apply d_store 28; (case hi => rfl); (case hr => kernel_rfl); (case hL => infer_instance); (case hp => rfl); (case hx => rfl); (case hc => rfl); (case hsz => rfl); (case h1 => rfl); (case hb => (repeat (first | exact mhd _ | apply mtl))); (case hfit => exact nle rfl); (case hov => ((repeat (first | with_reducible exact ov_nil | apply ov_cons)); done)); (case hu => repeat (first | exact Upd.here _ _ | apply Upd.there)); (case hν' => intro e he; (simp at he; simp [he]; done)))
              all_goals (apply d_done; (case hr => kernel_rfl))
            rotate_right
            focus
              (apply x_exec 6; (case hi => rfl);  (case hop => exact ReadOp.move (r_load1 rfl (Cell.own (by repeat (first | exact mhd _ | apply mtl)) rfl))); (case hd => rfl); rintro _ G0 _ ⟨rfl, hG0, rfl⟩; subst G0; refine ⟨(by intro e he; simp at he; simp [he]), ?_⟩)
              focus
                refine d_fork 7 16 (by kernel_rfl) ?_ ?_
                rotate_right
                focus
                  (apply x_exec 16; (case hi => rfl);  (case hop => exact ReadOp.move (r_load1 rfl (Cell.own (by repeat (first | exact mhd _ | apply mtl)) rfl))); (case hd => rfl); rintro _ G0 _ ⟨rfl, hG0, rfl⟩; subst G0; refine ⟨(by intro e he; simp at he; simp [he]), ?_⟩)
                  all_goals ((apply d_call 7 (hs := qo) (μ1 := []); (case hi => rfl); (case hr => kernel_rfl);  (case ha => rfl); (case hp => exact List.Perm.refl _); (case hd => rfl); (case hν' => intro e he; simp at he; simp [he]); rintro _ G4 _ hle4 ⟨rfl, L, rfl, iv, av, cv, rfl, hi, hac, hch⟩; obtain ⟨B0, d0, rfl, -⟩ := id hi.openInt; obtain ⟨B1, d1, rfl, -⟩ := id hac.open; obtain ⟨B2, d2, rfl, -⟩ := id hch.open))
                  all_goals (apply dtk 17; (case hi => rfl); (case hop => (apply prd; apply p_nilCheck <;> rfl)); (case hq => kernel_rfl))
                  all_goals (apply dtk 18; (case hi => rfl); (case hop => (apply prd; apply p_fieldAddrB <;> rfl)); (case hq => kernel_rfl))
                  all_goals (apply dtk 19; (case hi => rfl); (case hop => (apply prd; apply p_fieldAddrB <;> rfl)); (case hq => kernel_rfl))
                  all_goals (apply d_store 20; (case hi => rfl); (case hr => kernel_rfl); (case hL => infer_instance); (case hp => rfl); (case hx => rfl); (case hc => rfl); (case hsz => rfl); (case h1 => rfl); (case hb => (repeat (first | exact mhd _ | apply mtl))); (case hfit => exact nle rfl); (case hov => ((repeat (first | with_reducible exact ov_nil | apply ov_cons)); done)); (case hu => repeat (first | exact Upd.here _ _ | apply Upd.there)); (case hν' => intro e he; (simp at he; simp [he]; done)))
                  all_goals (apply dtk 21; (case hi => rfl); (case hop => (apply prd; apply p_nilCheck <;> rfl)); (case hq => kernel_rfl))
                  all_goals (apply dtk 22; (case hi => rfl); (case hop => (apply prd; apply p_fieldAddrB <;> rfl)); (case hq => kernel_rfl))
                  all_goals (apply dtk 23; (case hi => rfl); (case hop => (apply prd; apply p_fieldAddrB <;> rfl)); (case hq => kernel_rfl))
                  all_goals (apply d_store 24; (case hi => rfl); (case hr => kernel_rfl); (case hL => infer_instance); (case hp => rfl); (case hx => rfl); (case hc => rfl); (case hsz => rfl); (case h1 => rfl); (case hb => (repeat (first | exact mhd _ | apply mtl))); (case hfit => exact nle rfl); (case hov => ((repeat (first | with_reducible exact ov_nil | apply ov_cons)); done)); (case hu => repeat (first | exact Upd.here _ _ | apply Upd.there)); (case hν' => intro e he; (simp at he; simp [he]; done)))
                  all_goals (apply dtk 25; (case hi => rfl); (case hop => (apply prd; apply p_nilCheck <;> rfl)); (case hq => kernel_rfl))
                  all_goals (apply dtk 26; (case hi => rfl); (case hop => (apply prd; apply p_fieldAddrB <;> rfl)); (case hq => kernel_rfl))
                  all_goals (apply dtk 27; (case hi => rfl); (case hop => (apply prd; apply p_fieldAddrB <;> rfl)); (case hq => kernel_rfl))
                  all_goals (apply d_store 28; (case hi => rfl); (case hr => kernel_rfl); (case hL => infer_instance); (case hp => rfl); (case hx => rfl); (case hc => rfl); (case hsz => rfl); (case h1 => rfl); (case hb => (repeat (first | exact mhd _ | apply mtl))); (case hfit => exact nle rfl); (case hov => ((repeat (first | with_reducible exact ov_nil | apply ov_cons)); done)); (case hu => repeat (first | exact Upd.here _ _ | apply Upd.there)); (case hν' => intro e he; (simp at he; simp [he]; done)))
                  all_goals (apply d_done; (case hr => kernel_rfl))
                rotate_right
                focus
                  (apply x_call 7 (hs := qo) (μ1 := []); (case hi => rfl);  (case ha => rfl); (case hp => exact List.Perm.refl _); (case hd => rfl); (case hν' => intro e he; simp at he; simp [he]); rintro _ G4 _ hle4 ⟨rfl, L, rfl, iv, av, cv, rfl, hi, hac, hch⟩; obtain ⟨B0, d0, rfl, -⟩ := id hi.openInt; obtain ⟨B1, d1, rfl, -⟩ := id hac.open; obtain ⟨B2, d2, rfl, -⟩ := id hch.open)
                  all_goals (apply d_keep 16 (hop := ReadOp.move ?hop); (case hi => rfl); (case hr => kernel_rfl); (case hop => (apply r_load1; rfl; (apply Cell.own; (case h => repeat (first | exact mhd _ | apply mtl)); rfl))); (case hd => rfl))
                  all_goals (apply dtk 17; (case hi => rfl); (case hop => (apply prd; apply p_nilCheck <;> rfl)); (case hq => kernel_rfl))
                  all_goals (apply dtk 18; (case hi => rfl); (case hop => (apply prd; apply p_fieldAddrB <;> rfl)); (case hq => kernel_rfl))
                  all_goals (apply dtk 19; (case hi => rfl); (case hop => (apply prd; apply p_fieldAddrB <;> rfl)); (case hq => kernel_rfl))
                  all_goals (apply d_store 20; (case hi => rfl); (case hr => kernel_rfl); (case hL => infer_instance); (case hp => rfl); (case hx => rfl); (case hc => rfl); (case hsz => rfl); (case h1 => rfl); (case hb => (repeat (first | exact mhd _ | apply mtl))); (case hfit => exact nle rfl); (case hov => ((repeat (first | with_reducible exact ov_nil | apply ov_cons)); done)); (case hu => repeat (first | exact Upd.here _ _ | apply Upd.there)); (case hν' => intro e he; (simp at he; simp [he]; done)))
                  all_goals (apply dtk 21; (case hi => rfl); (case hop => (apply prd; apply p_nilCheck <;> rfl)); (case hq => kernel_rfl))
                  all_goals (apply dtk 22; (case hi => rfl); (case hop => (apply prd; apply p_fieldAddrB <;> rfl)); (case hq => kernel_rfl))
                  all_goals (apply dtk 23; (case hi => rfl); (case hop => (apply prd; apply p_fieldAddrB <;> rfl)); (case hq => kernel_rfl))
                  all_goals (apply d_store 24; (case hi => rfl); (case hr => kernel_rfl); (case hL => infer_instance); (case hp => rfl); (case hx => rfl); (case hc => rfl); (case hsz => rfl); (case h1 => rfl); (case hb => (repeat (first | exact mhd _ | apply mtl))); (case hfit => exact nle rfl); (case hov => ((repeat (first | with_reducible exact ov_nil | apply ov_cons)); done)); (case hu => repeat (first | exact Upd.here _ _ | apply Upd.there)); (case hν' => intro e he; (simp at he; simp [he]; done)))
                  all_goals (apply dtk 25; (case hi => rfl); (case hop => (apply prd; apply p_nilCheck <;> rfl)); (case hq => kernel_rfl))
                  all_goals (apply dtk 26; (case hi => rfl); (case hop => (apply prd; apply p_fieldAddrB <;> rfl)); (case hq => kernel_rfl))
                  all_goals (apply dtk 27; (case hi => rfl); (case hop => (apply prd; apply p_fieldAddrB <;> rfl)); (case hq => kernel_rfl))
                  all_goals (apply d_store 28; (case hi => rfl); (case hr => kernel_rfl); (case hL => infer_instance); (case hp => rfl); (case hx => rfl); (case hc => rfl); (case hsz => rfl); (case h1 => rfl); (case hb => (repeat (first | exact mhd _ | apply mtl))); (case hfit => exact nle rfl); (case hov => ((repeat (first | with_reducible exact ov_nil | apply ov_cons)); done)); (case hu => repeat (first | exact Upd.here _ _ | apply Upd.there)); (case hν' => intro e he; (simp at he; simp [he]; done)))
                  all_goals (apply d_done; (case hr => kernel_rfl))
        rotate_right
        focus
          (apply x_exec 6; (case hi => rfl);  (case hop => exact ReadOp.move (r_load1 rfl (Cell.own (by repeat (first | exact mhd _ | apply mtl)) rfl))); (case hd => rfl); rintro _ G0 _ ⟨rfl, hG0, rfl⟩; subst G0; refine ⟨(by intro e he; simp at he; simp [he]), ?_⟩)
          focus
            refine d_fork3 7 11 16 (by kernel_rfl) ?_ ?_ ?_
            rotate_right
            focus
              (apply x_exec 16; (case hi => rfl);  (case hop => exact ReadOp.move (r_load1 rfl (Cell.own (by repeat (first | exact mhd _ | apply mtl)) rfl))); (case hd => rfl); rintro _ G0 _ ⟨rfl, hG0, rfl⟩; subst G0; refine ⟨(by intro e he; simp at he; simp [he]), ?_⟩)
              focus
                refine d_fork 7 11 (by kernel_rfl) ?_ ?_
                rotate_right
                focus
                  (apply x_exec 11; (case hi => rfl);  (case hop => exact ReadOp.move (r_load1 rfl (Cell.own (by repeat (first | exact mhd _ | apply mtl)) rfl))); (case hd => rfl); rintro _ G0 _ ⟨rfl, hG0, rfl⟩; subst G0; refine ⟨(by intro e he; simp at he; simp [he]), ?_⟩)
                  all_goals (apply dtk 12; (case hi => rfl); (case hop => (apply prd; apply p_lenSlice <;> rfl)); (case hq => kernel_rfl))
                  all_goals ((apply d_call 7 (hs := qo) (μ1 := []); (case hi => rfl); (case hr => kernel_rfl);  (case ha => rfl); (case hp => exact List.Perm.refl _); (case hd => rfl); (case hν' => intro e he; simp at he; simp [he]); rintro _ G4 _ hle4 ⟨rfl, L, rfl, iv, av, cv, rfl, hi, hac, hch⟩; obtain ⟨B0, d0, rfl, -⟩ := id hi.openInt; obtain ⟨B1, d1, rfl, -⟩ := id hac.open; obtain ⟨B2, d2, rfl, -⟩ := id hch.open))
                  all_goals (apply dtk 17; (case hi => rfl); (case hop => (apply prd; apply p_nilCheck <;> rfl)); (case hq => kernel_rfl))
                  all_goals (apply dtk 18; (case hi => rfl); (case hop => (apply prd; apply p_fieldAddrB <;> rfl)); (case hq => kernel_rfl))
                  all_goals (apply dtk 19; (case hi => rfl); (case hop => (apply prd; apply p_fieldAddrB <;> rfl)); (case hq => kernel_rfl))
                  all_goals (apply d_store 20; (case hi => rfl); (case hr => kernel_rfl); (case hL => infer_instance); (case hp => rfl); (case hx => rfl); (case hc => rfl); (case hsz => rfl); (case h1 => rfl); (case hb => (repeat (first | exact mhd _ | apply mtl))); (case hfit => exact nle rfl); (case hov => ((repeat (first | with_reducible exact ov_nil | apply ov_cons)); done)); (case hu => repeat (first | exact Upd.here _ _ | apply Upd.there)); (case hν' => intro e he; (simp at he; simp [he]; done)))
                  all_goals (apply dtk 21; (case hi => rfl); (case hop => (apply prd; apply p_nilCheck <;> rfl)); (case hq => kernel_rfl))
                  all_goals (apply dtk 22; (case hi => rfl); (case hop => (apply prd; apply p_fieldAddrB <;> rfl)); (case hq => kernel_rfl))
                  all_goals (apply dtk 23; (case hi => rfl); (case hop => (apply prd; apply p_fieldAddrB <;> rfl)); (case hq => kernel_rfl))
                  all_goals (apply d_store 24; (case hi => rfl); (case hr => kernel_rfl); (case hL => infer_instance); (case hp => rfl); (case hx => rfl); (case hc => rfl); (case hsz => rfl); (case h1 => rfl); (case hb => (repeat (first | exact mhd _ | apply mtl))); (case hfit => exact nle rfl); (case hov => ((repeat (first | with_reducible exact ov_nil | apply ov_cons)); done)); (case hu => repeat (first | exact Upd.here _ _ | apply Upd.there)); (case hν' => intro e he; (simp at he; simp [he]; done)))
                  all_goals (apply dtk 25; (case hi => rfl); (case hop => (apply prd; apply p_nilCheck <;> rfl)); (case hq => kernel_rfl))
                  all_goals (apply dtk 26; (case hi => rfl); (case hop => (apply prd; apply p_fieldAddrB <;> rfl)); (case hq => kernel_rfl))
                  all_goals (apply dtk 27; (case hi => rfl); (case hop => (apply prd; apply p_fieldAddrB <;> rfl)); (case hq => kernel_rfl))
                  all_goals (apply d_store 28; (case hi => rfl); (case hr => kernel_rfl); (case hL => infer_instance); (case hp => rfl); (case hx => rfl); (case hc => rfl); (case hsz => rfl); (case h1 => rfl); (case hb => (repeat (first | exact mhd _ | apply mtl))); (case hfit => exact nle rfl); (case hov => ((repeat (first | with_reducible exact ov_nil | apply ov_cons)); done)); (case hu => repeat (first | exact Upd.here _ _ | apply Upd.there)); (case hν' => intro e he; (simp at he; simp [he]; done)))
                  all_goals (apply d_done; (case hr => kernel_rfl))
                rotate_right
                focus
                  (apply x_call 7 (hs := qo) (μ1 := []); (case hi => rfl);  (case ha => rfl); (case hp => exact List.Perm.refl _); (case hd => rfl); (case hν' => intro e he; simp at he; simp [he]); rintro _ G4 _ hle4 ⟨rfl, L, rfl, iv, av, cv, rfl, hi, hac, hch⟩; obtain ⟨B0, d0, rfl, -⟩ := id hi.openInt; obtain ⟨B1, d1, rfl, -⟩ := id hac.open; obtain ⟨B2, d2, rfl, -⟩ := id hch.open)
                  all_goals (apply d_keep 11 (hop := ReadOp.move ?hop); (case hi => rfl); (case hr => kernel_rfl); (case hop => (apply r_load1; rfl; (apply Cell.own; (case h => repeat (first | exact mhd _ | apply mtl)); rfl))); (case hd => rfl))
                  all_goals (apply dtk 12; (case hi => rfl); (case hop => (apply prd; apply p_lenSlice <;> rfl)); (case hq => kernel_rfl))
                  all_goals (apply dtk 17; (case hi => rfl); (case hop => (apply prd; apply p_nilCheck <;> rfl)); (case hq => kernel_rfl))
                  all_goals (apply dtk 18; (case hi => rfl); (case hop => (apply prd; apply p_fieldAddrB <;> rfl)); (case hq => kernel_rfl))
                  all_goals (apply dtk 19; (case hi => rfl); (case hop => (apply prd; apply p_fieldAddrB <;> rfl)); (case hq => kernel_rfl))
                  all_goals (apply d_store 20; (case hi => rfl); (case hr => kernel_rfl); (case hL => infer_instance); (case hp => rfl); (case hx => rfl); (case hc => rfl); (case hsz => rfl); (case h1 => rfl); (case hb => (repeat (first | exact mhd _ | apply mtl))); (case hfit => exact nle rfl); (case hov => ((repeat (first | with_reducible exact ov_nil | apply ov_cons)); done)); (case hu => repeat (first | exact Upd.here _ _ | apply Upd.there)); (case hν' => intro e he; (simp at he; simp [he]; done)))
                  all_goals (apply dtk 21; (case hi => rfl); (case hop => (apply prd; apply p_nilCheck <;> rfl)); (case hq => kernel_rfl))
                  all_goals (apply dtk 22; (case hi => rfl); (case hop => (apply prd; apply p_fieldAddrB <;> rfl)); (case hq => kernel_rfl))
                  all_goals (apply dtk 23; (case hi => rfl); (case hop => (apply prd; apply p_fieldAddrB <;> rfl)); (case hq => kernel_rfl))
                  all_goals (apply d_store 24; (case hi => rfl); (case hr => kernel_rfl); (case hL => infer_instance); (case hp => rfl); (case hx => rfl); (case hc => rfl); (case hsz => rfl); (case h1 => rfl); (case hb => (repeat (first | exact mhd _ | apply mtl))); (case hfit => exact nle rfl); (case hov => ((repeat (first | with_reducible exact ov_nil | apply ov_cons)); done)); (case hu => repeat (first | exact Upd.here _ _ | apply Upd.there)); (case hν' => intro e he; (simp at he; simp [he]; done)))
                  all_goals (apply dtk 25; (case hi => rfl); (case hop => (apply prd; apply p_nilCheck <;> rfl)); (case hq => kernel_rfl))
                  all_goals (apply dtk 26; (case hi => rfl); (case hop => (apply prd; apply p_fieldAddrB <;> rfl)); (case hq => kernel_rfl))
                  all_goals (apply dtk 27; (case hi => rfl); (case hop => (apply prd; apply p_fieldAddrB <;> rfl)); (case hq => kernel_rfl))
                  all_goals (apply d_store 28; (case hi => rfl); (case hr => kernel_rfl); (case hL => infer_instance); (case hp => rfl); (case hx => rfl); (case hc => rfl); (case hsz => rfl); (case h1 => rfl); (case hb => (repeat (first | exact mhd _ | apply mtl))); (case hfit => exact nle rfl); (case hov => ((repeat (first | with_reducible exact ov_nil | apply ov_cons)); done)); (case hu => repeat (first | exact Upd.here _ _ | apply Upd.there)); (case hν' => intro e he; (simp at he; simp [he]; done)))
                  all_goals (apply d_done; (case hr => kernel_rfl))
            rotate_right
            focus
              (apply x_exec 11; (case hi => rfl);  (case hop => exact ReadOp.move (r_load1 rfl (Cell.own (by repeat (first | exact mhd _ | apply mtl)) rfl))); (case hd => rfl); rintro _ G0 _ ⟨rfl, hG0, rfl⟩; subst G0; refine ⟨(by intro e he; simp at he; simp [he]), ?_⟩)
              all_goals (apply dtk 12; (case hi => rfl); (case hop => (apply prd; apply p_lenSlice <;> rfl)); (case hq => kernel_rfl))
              focus
                refine d_fork 7 16 (by kernel_rfl) ?_ ?_
                rotate_right
                focus
                  (apply x_exec 16; (case hi => rfl);  (case hop => exact ReadOp.move (r_load1 rfl (Cell.own (by repeat (first | exact mhd _ | apply mtl)) rfl))); (case hd => rfl); rintro _ G0 _ ⟨rfl, hG0, rfl⟩; subst G0; refine ⟨(by intro e he; simp at he; simp [he]), ?_⟩)
                  all_goals ((apply d_call 7 (hs := qo) (μ1 := []); (case hi => rfl); (case hr => kernel_rfl);  (case ha => rfl); (case hp => exact List.Perm.refl _); (case hd => rfl); (case hν' => intro e he; simp at he; simp [he]); rintro _ G4 _ hle4 ⟨rfl, L, rfl, iv, av, cv, rfl, hi, hac, hch⟩; obtain ⟨B0, d0, rfl, -⟩ := id hi.openInt; obtain ⟨B1, d1, rfl, -⟩ := id hac.open; obtain ⟨B2, d2, rfl, -⟩ := id hch.open))
                  all_goals (apply dtk 17; (case hi => rfl); (case hop => (apply prd; apply p_nilCheck <;> rfl)); (case hq => kernel_rfl))
                  all_goals (apply dtk 18; (case hi => rfl); (case hop => (apply prd; apply p_fieldAddrB <;> rfl)); (case hq => kernel_rfl))
                  all_goals (apply dtk 19; (case hi => rfl); (case hop => (apply prd; apply p_fieldAddrB <;> rfl)); (case hq => kernel_rfl))
                  all_goals (apply d_store 20; (case hi => rfl); (case hr => kernel_rfl); (case hL => infer_instance); (case hp => rfl); (case hx => rfl); (case hc => rfl); (case hsz => rfl); (case h1 => rfl); (case hb => (repeat (first | exact mhd _ | apply mtl))); (case hfit => exact nle rfl); (case hov => ((repeat (first | with_reducible exact ov_nil | apply ov_cons)); done)); (case hu => repeat (first | exact Upd.here _ _ | apply Upd.there)); (case hν' => intro e he; (simp at he; simp [he]; done)))
                  all_goals (apply dtk 21; (case hi => rfl); (case hop => (apply prd; apply p_nilCheck <;> rfl)); (case hq => kernel_rfl))
                  all_goals (apply dtk 22; (case hi => rfl); (case hop => (apply prd; apply p_fieldAddrB <;> rfl)); (case hq => kernel_rfl))
                  all_goals (apply dtk 23; (case hi => rfl); (case hop => (apply prd; apply p_fieldAddrB <;> rfl)); (case hq => kernel_rfl))
                  all_goals (apply d_store 24; (case hi => rfl); (case hr => kernel_rfl); (case hL => infer_instance); (case hp => rfl); (case hx => rfl); (case hc => rfl); (case hsz => rfl); (case h1 => rfl); (case hb => (repeat (first | exact mhd _ | apply mtl))); (case hfit => exact nle rfl); (case hov => ((repeat (first | with_reducible exact ov_nil | apply ov_cons)); done)); (case hu => repeat (first | exact Upd.here _ _ | apply Upd.there)); (case hν' => intro e he; (simp at he; simp [he]; done)))
                  all_goals (apply dtk 25; (case hi => rfl); (case hop => (apply prd; apply p_nilCheck <;> rfl)); (case hq => kernel_rfl))
                  all_goals (apply dtk 26; (case hi => rfl); (case hop => (apply prd; apply p_fieldAddrB <;> rfl)); (case hq => kernel_rfl))
                  all_goals (apply dtk 27; (case hi => rfl); (case hop => (apply prd; apply p_fieldAddrB <;> rfl)); (case hq => kernel_rfl))
                  all_goals (apply d_store 28; (case hi => rfl); (case hr => kernel_rfl); (case hL => infer_instance); (case hp => rfl); (case hx => rfl); (case hc => rfl); (case hsz => rfl); (case h1 => rfl); (case hb => (repeat (first | exact mhd _ | apply mtl))); (case hfit => exact nle rfl); (case hov => ((repeat (first | with_reducible exact ov_nil | apply ov_cons)); done)); (case hu => repeat (first | exact Upd.here _ _ | apply Upd.there)); (case hν' => intro e he; (simp at he; simp [he]; done)))
                  all_goals (apply d_done; (case hr => kernel_rfl))
                rotate_right
                focus
                  (apply x_call 7 (hs := qo) (μ1 := []); (case hi => rfl);  (case ha => rfl); (case hp => exact List.Perm.refl _); (case hd => rfl); (case hν' => intro e he; simp at he; simp [he]); rintro _ G4 _ hle4 ⟨rfl, L, rfl, iv, av, cv, rfl, hi, hac, hch⟩; obtain ⟨B0, d0, rfl, -⟩ := id hi.openInt; obtain ⟨B1, d1, rfl, -⟩ := id hac.open; obtain ⟨B2, d2, rfl, -⟩ := id hch.open)
                  all_goals (apply d_keep 16 (hop := ReadOp.move ?hop); (case hi => rfl); (case hr => kernel_rfl); (case hop => (apply r_load1; rfl; (apply Cell.own; (case h => repeat (first | exact mhd _ | apply mtl)); rfl))); (case hd => rfl))
                  all_goals (apply dtk 17; (case hi => rfl); (case hop => (apply prd; apply p_nilCheck <;> rfl)); (case hq => kernel_rfl))
                  all_goals (apply dtk 18; (case hi => rfl); (case hop => (apply prd; apply p_fieldAddrB <;> rfl)); (case hq => kernel_rfl))
                  all_goals (apply dtk 19; (case hi => rfl); (case hop => (apply prd; apply p_fieldAddrB <;> rfl)); (case hq => kernel_rfl))
                  all_goals (apply d_store 20; (case hi => rfl); (case hr => kernel_rfl); (case hL => infer_instance); (case hp => rfl); (case hx => rfl); (case hc => rfl); (case hsz => rfl); (case h1 => rfl); (case hb => (repeat (first | exact mhd _ | apply mtl))); (case hfit => exact nle rfl); (case hov => ((repeat (first | with_reducible exact ov_nil | apply ov_cons)); done)); (case hu => repeat (first | exact Upd.here _ _ | apply Upd.there)); (case hν' => intro e he; (simp at he; simp [he]; done)))
                  all_goals (apply dtk 21; (case hi => rfl); (case hop => (apply prd; apply p_nilCheck <;> rfl)); (case hq => kernel_rfl))
                  all_goals (apply dtk 22; (case hi => rfl); (case hop => (apply prd; apply p_fieldAddrB <;> rfl)); (case hq => kernel_rfl))
                  all_goals (apply dtk 23; (case hi => rfl); (case hop => (apply prd; apply p_fieldAddrB <;> rfl)); (case hq => kernel_rfl))
                  all_goals (apply d_store 24; (case hi => rfl); (case hr => kernel_rfl); (case hL => infer_instance); (case hp => rfl); (case hx => rfl); (case hc => rfl); (case hsz => rfl); (case h1 => rfl); (case hb => (repeat (first | exact mhd _ | apply mtl))); (case hfit => exact nle rfl); (case hov => ((repeat (first | with_reducible exact ov_nil | apply ov_cons)); done)); (case hu => repeat (first | exact Upd.here _ _ | apply Upd.there)); (case hν' => intro e he; (simp at he; simp [he]; done)))
                  all_goals (apply dtk 25; (case hi => rfl); (case hop => (apply prd; apply p_nilCheck <;> rfl)); (case hq => kernel_rfl))
                  all_goals (apply dtk 26; (case hi => rfl); (case hop => (apply prd; apply p_fieldAddrB <;> rfl)); (case hq => kernel_rfl))
                  all_goals (apply dtk 27; (case hi => rfl); (case hop => (apply prd; apply p_fieldAddrB <;> rfl)); (case hq => kernel_rfl))
                  all_goals (apply d_store 28; (case hi => rfl); (case hr => kernel_rfl); (case hL => infer_instance); (case hp => rfl); (case hx => rfl); (case hc => rfl); (case hsz => rfl); (case h1 => rfl); (case hb => (repeat (first | exact mhd _ | apply mtl))); (case hfit => exact nle rfl); (case hov => ((repeat (first | with_reducible exact ov_nil | apply ov_cons)); done)); (case hu => repeat (first | exact Upd.here _ _ | apply Upd.there)); (case hν' => intro e he; (simp at he; simp [he]; done)))
                  all_goals (apply d_done; (case hr => kernel_rfl))
            rotate_right
            focus
              (apply x_call 7 (hs := qo) (μ1 := []); (case hi => rfl);  (case ha => rfl); (case hp => exact List.Perm.refl _); (case hd => rfl); (case hν' => intro e he; simp at he; simp [he]); rintro _ G4 _ hle4 ⟨rfl, L, rfl, iv, av, cv, rfl, hi, hac, hch⟩; obtain ⟨B0, d0, rfl, -⟩ := id hi.openInt; obtain ⟨B1, d1, rfl, -⟩ := id hac.open; obtain ⟨B2, d2, rfl, -⟩ := id hch.open)
              focus
                refine d_fork 11 16 (by kernel_rfl) ?_ ?_
                rotate_right
                focus
                  (apply x_exec 16; (case hi => rfl);  (case hop => exact ReadOp.move (r_load1 rfl (Cell.own (by repeat (first | exact mhd _ | apply mtl)) rfl))); (case hd => rfl); rintro _ G0 _ ⟨rfl, hG0, rfl⟩; subst G0; refine ⟨(by intro e he; simp at he; simp [he]), ?_⟩)
                  all_goals (apply d_keep 11 (hop := ReadOp.move ?hop); (case hi => rfl); (case hr => kernel_rfl); (case hop => (apply r_load1; rfl; (apply Cell.own; (case h => repeat (first | exact mhd _ | apply mtl)); rfl))); (case hd => rfl))
                  all_goals (apply dtk 12; (case hi => rfl); (case hop => (apply prd; apply p_lenSlice <;> rfl)); (case hq => kernel_rfl))
                  all_goals (apply dtk 17; (case hi => rfl); (case hop => (apply prd; apply p_nilCheck <;> rfl)); (case hq => kernel_rfl))
                  all_goals (apply dtk 18; (case hi => rfl); (case hop => (apply prd; apply p_fieldAddrB <;> rfl)); (case hq => kernel_rfl))
                  all_goals (apply dtk 19; (case hi => rfl); (case hop => (apply prd; apply p_fieldAddrB <;> rfl)); (case hq => kernel_rfl))
                  all_goals (apply d_store 20; (case hi => rfl); (case hr => kernel_rfl); (case hL => infer_instance); (case hp => rfl); (case hx => rfl); (case hc => rfl); (case hsz => rfl); (case h1 => rfl); (case hb => (repeat (first | exact mhd _ | apply mtl))); (case hfit => exact nle rfl); (case hov => ((repeat (first | with_reducible exact ov_nil | apply ov_cons)); done)); (case hu => repeat (first | exact Upd.here _ _ | apply Upd.there)); (case hν' => intro e he; (simp at he; simp [he]; done)))
                  all_goals (apply dtk 21; (case hi => rfl); (case hop => (apply prd; apply p_nilCheck <;> rfl)); (case hq => kernel_rfl))
                  all_goals (apply dtk 22; (case hi => rfl); (case hop => (apply prd; apply p_fieldAddrB <;> rfl)); (case hq => kernel_rfl))
                  all_goals (apply dtk 23; (case hi => rfl); (case hop => (apply prd; apply p_fieldAddrB <;> rfl)); (case hq => kernel_rfl))
                  all_goals (apply d_store 24; (case hi => rfl); (case hr => kernel_rfl); (case hL => infer_instance); (case hp => rfl); (case hx => rfl); (case hc => rfl); (case hsz => rfl); (case h1 => rfl); (case hb => (repeat (first | exact mhd _ | apply mtl))); (case hfit => exact nle rfl); (case hov => ((repeat (first | with_reducible exact ov_nil | apply ov_cons)); done)); (case hu => repeat (first | exact Upd.here _ _ | apply Upd.there)); (case hν' => intro e he; (simp at he; simp [he]; done)))
                  all_goals (apply dtk 25; (case hi => rfl); (case hop => (apply prd; apply p_nilCheck <;> rfl)); (case hq => kernel_rfl))
                  all_goals (apply dtk 26; (case hi => rfl); (case hop => (apply prd; apply p_fieldAddrB <;> rfl)); (case hq => kernel_rfl))
                  all_goals (apply dtk 27; (case hi => rfl); (case hop => (apply prd; apply p_fieldAddrB <;> rfl)); (case hq => kernel_rfl))
                  all_goals (apply d_store 28; (case hi => rfl); (case hr => kernel_rfl); (case hL => infer_instance); (case hp => rfl); (case hx => rfl); (case hc => rfl); (case hsz => rfl); (case h1 => rfl); (case hb => (repeat (first | exact mhd _ | apply mtl))); (case hfit => exact nle rfl); (case hov => ((repeat (first | with_reducible exact ov_nil | apply ov_cons)); done)); (case hu => repeat (first | exact Upd.here _ _ | apply Upd.there)); (case hν' => intro e he; (simp at he; simp [he]; done)))
                  all_goals (apply d_done; (case hr => kernel_rfl))
                rotate_right
                focus
                  (apply x_exec 11; (case hi => rfl);  (case hop => exact ReadOp.move (r_load1 rfl (Cell.own (by repeat (first | exact mhd _ | apply mtl)) rfl))); (case hd => rfl); rintro _ G0 _ ⟨rfl, hG0, rfl⟩; subst G0; refine ⟨(by intro e he; simp at he; simp [he]), ?_⟩)
                  all_goals (apply dtk 12; (case hi => rfl); (case hop => (apply prd; apply p_lenSlice <;> rfl)); (case hq => kernel_rfl))
                  all_goals (apply d_keep 16 (hop := ReadOp.move ?hop); (case hi => rfl); (case hr => kernel_rfl); (case hop => (apply r_load1; rfl; (apply Cell.own; (case h => repeat (first | exact mhd _ | apply mtl)); rfl))); (case hd => rfl))
                  all_goals (apply dtk 17; (case hi => rfl); (case hop => (apply prd; apply p_nilCheck <;> rfl)); (case hq => kernel_rfl))
                  all_goals (apply dtk 18; (case hi => rfl); (case hop => (apply prd; apply p_fieldAddrB <;> rfl)); (case hq => kernel_rfl))
                  all_goals (apply dtk 19; (case hi => rfl); (case hop => (apply prd; apply p_fieldAddrB <;> rfl)); (case hq => kernel_rfl))
                  all_goals (apply d_store 20; (case hi => rfl); (case hr => kernel_rfl); (case hL => infer_instance); (case hp => rfl); (case hx => rfl); (case hc => rfl); (case hsz => rfl); (case h1 => rfl); (case hb => (repeat (first | exact mhd _ | apply mtl))); (case hfit => exact nle rfl); (case hov => ((repeat (first | with_reducible exact ov_nil | apply ov_cons)); done)); (case hu => repeat (first | exact Upd.here _ _ | apply Upd.there)); (case hν' => intro e he; (simp at he; simp [he]; done)))
                  all_goals (apply dtk 21; (case hi => rfl); (case hop => (apply prd; apply p_nilCheck <;> rfl)); (case hq => kernel_rfl))
                  all_goals (apply dtk 22; (case hi => rfl); (case hop => (apply prd; apply p_fieldAddrB <;> rfl)); (case hq => kernel_rfl))
                  all_goals (apply dtk 23; (case hi => rfl); (case hop => (apply prd; apply p_fieldAddrB <;> rfl)); (case hq => kernel_rfl))
                  all_goals (apply d_store 24; (case hi => rfl); (case hr => kernel_rfl); (case hL => infer_instance); (case hp => rfl); (case hx => rfl); (case hc => rfl); (case hsz => rfl); (case h1 => rfl); (case hb => (repeat (first | exact mhd _ | apply mtl))); (case hfit => exact nle rfl); (case hov => ((repeat (first | with_reducible exact ov_nil | apply ov_cons)); done)); (case hu => repeat (first | exact Upd.here _ _ | apply Upd.there)); (case hν' => intro e he; (simp at he; simp [he]; done)))
                  all_goals (apply dtk 25; (case hi => rfl); (case hop => (apply prd; apply p_nilCheck <;> rfl)); (case hq => kernel_rfl))
                  all_goals (apply dtk 26; (case hi => rfl); (case hop => (apply prd; apply p_fieldAddrB <;> rfl)); (case hq => kernel_rfl))
                  all_goals (apply dtk 27; (case hi => rfl); (case hop => (apply prd; apply p_fieldAddrB <;> rfl)); (case hq => kernel_rfl))
                  all_goals (apply d_store 28; (case hi => rfl); (case hr => kernel_rfl); (case hL => infer_instance); (case hp => rfl); (case hx => rfl); (case hc => rfl); (case hsz => rfl); (case h1 => rfl); (case hb => (repeat (first | exact mhd _ | apply mtl))); (case hfit => exact nle rfl); (case hov => ((repeat (first | with_reducible exact ov_nil | apply ov_cons)); done)); (case hu => repeat (first | exact Upd.here _ _ | apply Upd.there)); (case hν' => intro e he; (simp at he; simp [he]; done)))
                  all_goals (apply d_done; (case hr => kernel_rfl))
      all_goals
        repeat' (first | apply v_seq | apply v_region | apply v_nil | (apply v_pure; (case hop => first | (apply p_assign <;> rfl) | (apply p_fieldAddrB <;> rfl) | (apply p_nilCheck <;> rfl) | fail); (case hd => rfl)) | (apply v_read; (case hop => first | (apply r_loadNo; (case hx => rfl); (case h => (repeat (first | exact mhd _ | apply mtl))); (case hd => (repeat (first | with_reducible exact dt_nil | apply dt_here))); (case hn => rfl)) | (apply r_load1; rfl; (apply Cell.own; (case h => (repeat (first | exact mhd _ | apply mtl))); rfl)) | fail); (case hd => rfl)) | (apply v_store; (case hp => rfl); (case hx => rfl); (case hc => rfl); (case hsz => rfl); (case h1 => rfl); (case hb => (repeat (first | exact mhd _ | apply mtl))); (case hfit => exact nle rfl); (case hov => ((repeat (first | with_reducible exact ov_nil | apply ov_cons)); done)); (case hu => repeat (first | exact Upd.here _ _ | apply Upd.there))) | fail)
        refine v_retM [] (outsM_cell_tmp (vs := ctL f (hdL (hardOf xs').pr (hardOf xs').pn (hardOf xs').base (.slice B0 (hardOf xs').image.length d0) (.slice B1 (hardOf xs').acc.length d1) (.slice B2 (hardOf xs').cho.length d2)) (xs'.length : Nat) (a' : Nat)) (e := 50) rfl rfl rfl (by repeat (first | exact mhd _ | apply mtl)) rfl) (by repeat (exact List.nil_sublist _)) ?_
        exact ⟨rfl, .inr ⟨f, xs', a', _, hR', rfl, _, _, _, rfl, hi, hac, hch⟩⟩
  · obtain ⟨h1, h2, h3⟩ := next_drop hw hn
    have hst := recsF_step (decF f) (D := D.length) (fun y hy => hw y (List.mem_of_mem_drop hy)) (by rw [List.length_drop]; omega) hn hd
    rw [h1] at hst
    refine v_perm ((hp'.append_left _).append_right _) ?_
    repeat' (first | apply v_nil | apply v_skip | apply v_block | (apply v_exit; (case hp => rfl)) | (apply v_condT; (case hc => rfl)) | fail)
    refine v_againI (D.length - t.length) rfl ⟨GH.le_trans hle hle2, h2, lv', xs ++ [x], ν', rfl, rfl, hg', by rw [List.length_append, List.length_singleton]; omega, ?_⟩ (by omega)
    rw [hrec, hst, List.append_assoc]
    rfl
theorem readF_file {f : Int} {n : Nat} {xs : List Rc} (hf : f = 1 ∨ f = 2) (hn : n ≤ xs.length) (hx : ∀ x ∈ xs, okC (encF f) (decF f) x) (hbig : (xs.length : Int) ≤ 9223372036854775807) : readF decF (fileB encF f n xs) = some (f, xs, (fileB encF f n xs).length) := by
  obtain ⟨-, h⟩ := readF_cut encF decF (m := (fileB encF f n xs).length) hf hn hx hbig (Nat.le_refl _)
  have he : endN encF f n xs xs.length = (fileB encF f n xs).length := by
    unfold endN fileB
    rw [List.take_length, List.length_append]
  have hm : endN encF f n xs n ≤ (fileB encF f n xs).length := by
    rw [← he]
    unfold endN
    have := flatF_len_take (encF f) xs n
    rw [List.take_length]
    omega
  obtain ⟨K, h1, h2, h3, h4, h5⟩ := h (by omega)
  have hK : K = xs.length := Nat.le_antisymm h2 (h4 _ (Nat.le_refl _) (by omega))
  subst hK
  rw [List.take_length, List.take_length, he] at h5
  exact h5
theorem recs_zero : recsOf Hd.zero = [] := by
  rw [recsOf_parts]
  simp [part2, part1, Hd.zero]
theorem check_zero : CheckP Hd.zero := by
  refine ⟨.inl ⟨rfl, rfl⟩, ⟨by decide, by decide⟩, by decide, by decide, ?_, ?_, (fun e he => absurd he List.not_mem_nil), (fun e he => absurd he List.not_mem_nil)⟩
  · exact chk_of (l := []) (fun x hx => by cases hx) (fun i j hj => by simp at hj) _ 0 rfl
  · exact chk_of (l := []) (fun x hx => by cases hx) (fun i j hj => by simp at hj) _ 0 rfl
theorem file_zero : (fileB encF 1 0 []).length = 7 := by
  have e1 : vbytes 1 = [1] := by decide +kernel
  have e2 : vbytes (0 : Nat) = [0] := by decide +kernel
  have e3 : vbytes ((2 : Nat) : Int) = [2] := by decide +kernel
  unfold fileB
  rw [e1, e2, List.length_append, frB_len]
  show (vbytes ((2 : Nat) : Int)).length + 2 + 4 + 0 = 7
  rw [e3]
  rfl
theorem awake20_s {G : GH} (hT : TabsG G) (hC : CrcG G) : Con Tryz.prog 11 #[] G [] (Just (.bool true) G) := by
  apply Con.just
  have hno : headNo 1 Hd.zero = 0 := by
    unfold headNo
    rw [if_pos (.inl rfl), if_pos check_zero, recs_zero]
    rfl
  have qh := head_s hT hC 1 (hd_zero G) (fun _ => good_zero) (by omega) (by decide) (by rw [recs_zero]; decide) (fun _ x hx => by rw [recs_zero] at hx; cases hx)
  rw [hno, recs_zero, if_pos rfl] at qh
  have h7 := file_zero
  have hrd := readF_file (f := 1) (n := 0) (xs := []) (.inl rfl) (by decide) (fun x hx => by cases hx) (by decide)
  rw [h7] at hrd
  rw [show fileB encF 1 [].length [] = fileB encF 1 0 [] from rfl] at qh
  generalize fileB encF 1 0 [] = D at *
  (refine v_enter Tryz.func11 rfl Tryz.ntmps11 rfl ?_; intro B _)
  repeat' (first | apply v_seq | apply v_region | apply v_nil | (apply v_pure; (case hop => first | (apply p_assign <;> rfl) | (apply p_build; (case hz => rfl); (case hv => (simp only [List.map_cons, List.map_nil]; repeat (with_reducible exact evs_nil))); (case hb => (apply bldL; repeat (exact bld_nil)))) | fail); (case hd => rfl)) | fail)
  refine v_call (μ1 := []) rfl qh (List.Perm.refl _) rfl ?_
  rintro _ G1 _ hle1 ⟨rfl, v1, rfl, s1⟩
  have q2 := sread_s (hT.le hle1) (hC.le hle1) s1 (by omega) (fun f xs k h => by rw [hrd] at h; cases h; decide)
  have h7' := h7
  obtain ⟨A1, c1, rfl, -⟩ := id s1.openInt
  repeat' (first | apply v_seq | apply v_region | apply v_nil | (apply v_pure; (case hop => first | (apply p_move <;> rfl) | (apply p_assign <;> rfl) | (apply p_extract0 <;> rfl) | (apply p_extract1 <;> rfl) | fail); (case hd => rfl)) | fail)
  refine v_call (μ1 := []) rfl q2 (List.Perm.refl _) rfl ?_
  rintro _ G2 _ hle2 ⟨rfl, ⟨hn, -⟩ | ⟨f, xs, k, L, hR, rfl, hL⟩⟩
  · rw [hrd] at hn; cases hn
  rw [hrd] at hR
  cases hR
  obtain ⟨iv, av, cv, rfl, hi, hac, hch⟩ := hL
  obtain ⟨B0, d0, rfl, -⟩ := id hi.openInt
  obtain ⟨B1, d1, rfl, -⟩ := id hac.open
  obtain ⟨B2, d2, rfl, -⟩ := id hch.open
  rw [h7]
  repeat' (first | apply v_seq | apply v_region | apply v_nil | (apply v_take; (case hg => rfl)) | (apply v_pure; (case hop => first | (apply p_move <;> rfl) | (apply p_eqs <;> rfl) | (apply p_assign <;> rfl) | (apply p_pickT <;> rfl) | (apply p_lenSlice <;> rfl) | (apply p_fieldAddrB <;> rfl) | (apply p_extract0 <;> rfl) | (apply p_extract1 <;> rfl) | fail); (case hd => rfl)) | (apply v_read; (case hop => (apply r_load1; rfl; (apply Cell.own; (case h => (repeat (exact mhd _))); rfl))); (case hd => rfl)) | (apply v_alloc; (case hz => rfl); (case hd => rfl); intro b) | (apply v_store; (case hp => rfl); (case hx => rfl); (case hc => rfl); (case hsz => rfl); (case h1 => rfl); (case hb => (repeat (exact mhd _))); (case hfit => exact nle rfl); (case hov => ((repeat (first | with_reducible exact ov_nil | apply ov_cons)); done)); (case hu => repeat (exact Upd.here _ _))) | fail)
  all_goals
    (refine v_ret [] (outsA1 rfl rfl) (by repeat (exact List.nil_sublist _)) ?_
     exact ⟨rfl, rfl⟩)
theorem records20_s {G : GH} {H : Hd} {L : List Value} {n : Nat} (hh : HdV G H L) (g : Good n H) (hn : n ≤ 40) :
    Con Tryz.prog 15 #[.agg L.toArray] G [] (fun r G' μ' => GrowR G' r (recsOf H) μ') := by
  have hrok := recs_ok g
  obtain ⟨iv, av, cv, rfl, hi, ha, hc⟩ := hh
  have him := g.img
  have hbs := g.base
  have hnacc := g.nacc
  have hncho := g.ncho
  have hmay : (H.pr = 0 ∧ H.pn = 0) ↔ ¬ 0 < H.pr := by
    have := g.may
    unfold mayP at this
    omega
  obtain ⟨A0, c0, rfl, hl0, hm0, -, -, hwx⟩ := id hi.openInt
  obtain ⟨A1, c1, rfl, hl1, hm1, hs1, hcp1, hcb1, hcc1, -⟩ := esOpen ha
  obtain ⟨A2, c2, rfl, hl2, hm2, hs2, hcp2, hcb2, hcc2, -⟩ := esOpen hc
  simp only [maxLen] at hm0 hm1 hm2
  rw [recsOf_parts] at hrok ⊢
  have hp1 : (part1 H).length ≤ 1 := by unfold part1; split <;> simp
  have hp2 : (part2 H).length ≤ 2 := by
    unfold part2
    rw [List.length_append]
    split <;> simp <;> omega
  have hp1o : ∀ x ∈ part1 H, x.cmd.ok ∧ x.small := fun x hx => hrok x (by unfold part2; simp [hx])
  have hp2o : ∀ x ∈ part2 H, x.cmd.ok ∧ x.small := fun x hx => hrok x (by simp [hx])
  (refine v_enter Tryz.func15 rfl Tryz.ntmps15 rfl ?_; intro B _)
  repeat' (first | apply v_seq | apply v_region | apply v_nil | (apply v_pure; (case hop => first | (apply p_gt <;> rfl) | (apply p_assign <;> rfl) | (apply p_fieldAddrB <;> rfl) | fail); (case hd => rfl)) | (apply v_read; (case hop => (apply r_load1; rfl; (apply Cell.own; (case h => (repeat (exact mhd _))); rfl))); (case hd => rfl)) | (apply v_box; (case hx => rfl); (case hz => rfl); (case hd => rfl); intro b) | fail)
  rename Nat => hb
  refine v_cut (fun σ1 G' μ' => GH.le G G' ∧ ∃ v ν, EnvHas σ1 [(3, v), (1, .pointer (some ⟨hb, 0, none⟩))] ∧ GrowR G' v (part1 H) ν ∧ List.Sublist (ν ++ [(hb, hardO (hdL H.pr H.pn H.base (.slice A0 H.image.length c0) (.slice A1 H.acc.length c1) (.slice A2 H.cho.length c2)))]) μ') ?_ ?_
  · intro hcut
    refine v_cond rfl (fun h => ?_) (fun h => ?_)
    · rw [dec_true] at h
      have e1 : part1 H = [imgRec H.base H.image] := by unfold part1; rw [if_pos h]
      have hio := hp1o _ (by rw [e1]; exact List.mem_singleton.2 rfl)
      have k1 := img_rcR (b := H.base) (im := H.image) hi hio.2
      repeat' (first | (refine hcut _ _ _ ?_; exact ⟨GH.le_refl _, _, _, ⟨rfl, rfl, trivial⟩, by rw [e1]; exact GrowR.snoc (css := []) (l := []) rfl (fun i y cs h => by simp at h) (by assumption) k1, (List.Sublist.append_left (by repeat (first | exact List.Sublist.refl _ | apply List.Sublist.cons)) _)⟩) | apply v_region | apply v_nil | (apply v_pure; (case hop => first | (apply p_move <;> rfl) | (apply p_assign <;> rfl) | (apply p_fieldAddrB <;> rfl) | (apply p_build; (case hz => rfl); (case hv => (simp only [List.map_cons, List.map_nil]; repeat (first | with_reducible exact evs_nil | (apply evs_cons; (case h1 => rfl))))); (case hb => (apply bldL; repeat (first | exact bld_nil | (apply bld_cons; (case hpf => rfl); (case hc => rfl); (case hs => rfl); (case hl => rfl); (case ho => ((repeat (first | with_reducible exact ov_nil | apply ov_cons)); done)))))))); (case hd => rfl)) | (apply v_append (hg := Grow.nil 42 12) (m' := 1) (us := recL 4 0 0 H.base zeroC (.slice A0 H.image.length c0)) (hp := PickA.perm (by repeat (exact PickA.here _))) (hsrc := Src.own (e := 42) (by repeat (exact mhd _)) rfl); (case hzs => rfl); (case hsz => omega); (case hs => rfl); (case hx => rfl); (case hb => omega); (case hb' => simp only [maxLen]; omega); (case hd => rfl); (case h1 => rfl); intro v3 n3 hg3) | (apply v_read; (case hop => (apply r_load1; rfl; (apply Cell.own; (case h => (repeat (exact mhd _))); rfl))); (case hd => rfl)) | (apply v_buildSlice; (case hz => rfl); (case hi => rfl); (case hv => (simp only [List.map_cons, List.map_nil]; repeat (first | with_reducible exact evs_nil | (apply evs_cons; (case h1 => rfl))))); (case hp => (apply pk_cons; (case hc => rfl); (case hs => rfl); (case h => (with_reducible exact pk_nil)); (case he => ((repeat (first | with_reducible exact ap_nil | apply ap_cons)); done)))); (case hb => rfl); (case hd => rfl); intro b) | fail)
    · rw [dec_false] at h
      have e1 : part1 H = [] := by unfold part1; rw [if_neg h]
      rw [e1] at hcut
      apply v_skip
      exact hcut _ _ _ ⟨GH.le_refl _, .slice none 0 0, [], ⟨rfl, rfl, trivial⟩, GrowR.none _, (by repeat (exact List.Sublist.refl _))⟩
  rintro σ1 G1 μ1 ⟨hle1, v1, ν1, hE, hg1, hμ⟩
  refine v_drop hμ (v_has hE ?_)
  clear hE hμ
  repeat' (first | apply v_seq | apply v_region | apply v_nil | (apply v_pure; (case hop => first | (apply p_gt <;> rfl) | (apply p_fieldAddrB <;> rfl) | fail); (case hd => rfl)) | (apply v_read; (case hop => (apply r_load1; rfl; (apply Cell.own; (case h => (repeat (first | exact mhd _ | apply List.mem_append_right))); rfl))); (case hd => rfl)) | fail)
  refine v_cut (fun σ1 G' μ' => GH.le G1 G' ∧ ∃ v ν, EnvHas σ1 [(3, v), (1, .pointer (some ⟨hb, 0, none⟩))] ∧ GrowR G' v (part2 H) ν ∧ List.Sublist (ν ++ [(hb, hardO (hdL H.pr H.pn H.base (.slice A0 H.image.length c0) (.slice A1 H.acc.length c1) (.slice A2 H.cho.length c2)))]) μ') ?_ ?_
  · intro hcut
    refine v_cond rfl (fun h => ?_) (fun h => ?_)
    · rw [dec_true] at h
      have h' : ¬ (H.pr = 0 ∧ H.pn = 0) := fun hh => hmay.1 hh h
      have e2 : part2 H = part1 H ++ [promRec H.pr H.pn] := by unfold part2; rw [if_neg h']
      have hio := hp2o _ (by rw [e2]; exact List.mem_append_right _ (List.mem_singleton.2 rfl))
      obtain ⟨css, hcl, hcr, hgr⟩ := id hg1
      repeat' (first | (refine hcut _ _ _ ?_; exact ⟨GH.le_refl _, _, _, ⟨rfl, rfl, trivial⟩, by rw [e2]; exact GrowR.snoc hcl hcr (by assumption) (rcR_nil rfl hio.1 hio.2), (List.Sublist.append_left (by repeat (first | exact List.Sublist.refl _ | apply List.Sublist.cons)) _)⟩) | apply v_region | apply v_nil | (apply v_pure; (case hop => first | (apply p_move <;> rfl) | (apply p_assign <;> rfl) | (apply p_fieldAddrB <;> rfl) | (apply p_build; (case hz => rfl); (case hv => (simp only [List.map_cons, List.map_nil]; repeat (first | with_reducible exact evs_nil | (apply evs_cons; (case h1 => rfl))))); (case hb => (apply bldL; repeat (first | exact bld_nil | (apply bld_cons; (case hpf => rfl); (case hc => rfl); (case hs => rfl); (case hl => rfl); (case ho => ((repeat (first | with_reducible exact ov_nil | apply ov_cons)); done)))))))); (case hd => rfl)) | (apply v_append (hg := hgr) (m' := 1) (us := recL 1 H.pr H.pn 0 zeroC (.slice none 0 0)) (hp := PickA.perm (by repeat (first | exact PickA.here _ | apply PickA.cons))) (hsrc := Src.own (e := 42) (by repeat (exact mhd _)) rfl); (case hzs => rfl); (case hsz => omega); (case hs => rfl); (case hx => rfl); (case hb => omega); (case hb' => simp only [maxLen]; omega); (case hd => rfl); (case h1 => rfl); intro v3 n3 hg3) | (apply v_read; (case hop => (apply r_loadNo; (case hx => rfl); (case h => (repeat (first | exact mhd _ | apply List.mem_append_right))); (case hd => (repeat (first | with_reducible exact dt_nil | apply dt_here))); (case hn => rfl))); (case hd => rfl)) | (apply v_buildSlice; (case hz => rfl); (case hi => rfl); (case hv => (simp only [List.map_cons, List.map_nil]; repeat (first | with_reducible exact evs_nil | (apply evs_cons; (case h1 => rfl))))); (case hp => (apply pk_cons; (case hc => rfl); (case hs => rfl); (case h => (with_reducible exact pk_nil)); (case he => ((repeat (first | with_reducible exact ap_nil | apply ap_cons)); done)))); (case hb => rfl); (case hd => rfl); intro b) | fail)
    · rw [dec_false] at h
      have e2 : part2 H = part1 H := by unfold part2; rw [if_pos (hmay.2 h), List.append_nil]
      apply v_skip
      refine hcut _ _ _ ?_
      exact ⟨GH.le_refl _, v1, ν1, ⟨rfl, rfl, trivial⟩, by rw [e2]; exact hg1, List.Sublist.refl _⟩
  rintro σ2 G2 μ2 ⟨hle2, v2, ν2, hE, hg2, hμ⟩
  refine v_drop hμ (v_has hE ?_)
  clear hE hμ
  have hle := GH.le_trans hle1 hle2
  have hcp1' := fun i h => (hcp1 i h).le hle
  have hcp2' := fun i h => (hcp2 i h).le hle
  have hcb1' := fun i h => (hcb1 i h).le hle
  have hcb2' := fun i h => (hcb2 i h).le hle
  have hcc1' := fun i h => (hcc1 i h).le hle
  have hcc2' := fun i h => (hcc2 i h).le hle
  clear hcp1 hcp2 hcb1 hcb2 hcc1 hcc2
  repeat' (first | apply v_seq | apply v_region | apply v_nil | apply v_block | (apply v_pure; (case hop => (apply p_assign <;> rfl)); (case hd => rfl)) | fail)
  refine v_loop [4, 3, 1] (fun us G' μ' => G' = G2 ∧ ∃ k v ν, k ≤ H.acc.length ∧ us = [Value.int .i64 (k : Nat), v, .pointer (some ⟨hb, 0, none⟩)] ∧ GrowR G2 v (part2 H ++ (H.acc.take k).map accRec) ν ∧ μ' = ν ++ [(hb, hardO (hdL H.pr H.pn H.base (.slice A0 H.image.length c0) (.slice A1 H.acc.length c1) (.slice A2 H.cho.length c2)))]) (fun us => H.acc.length - (headI us).toNat) rfl ⟨rfl, 0, v2, ν2, by omega, rfl, by simpa using hg2, rfl⟩ ?_
  rintro us G' _ ⟨rfl, k, v, ν, hk, rfl, hgk, rfl⟩
  by_cases hlt : k < H.acc.length
  · have e1 : ((k : Nat) : Int).toNat = k := by omega
    have kc0 : GH.cell? G' (((adr A1).add (k * 10)).add 0) = some (.int .i64 (H.acc[k]).index) := (hcp1' k hlt).cell (j := 0) rfl
    have kc1 := hcb1' k hlt
    have kc3 := hcc1' k hlt
    have hA := hs1 (by omega)
    have htk : part2 H ++ (H.acc.take (k + 1)).map accRec = (part2 H ++ (H.acc.take k).map accRec) ++ [accRec H.acc[k]] := by
      rw [List.take_succ_eq_append_getElem hlt, List.map_append, ← List.append_assoc]
      rfl
    have hio := hrok (accRec H.acc[k]) (by
      simp only [List.mem_append, List.mem_map]
      exact .inl (.inr ⟨_, List.getElem_mem hlt, rfl⟩))
    have hln : (part2 H ++ (H.acc.take k).map accRec).length ≤ 100 := by
      rw [List.length_append, List.length_map, List.length_take]
      omega
    obtain ⟨css, hcl, hcr, hgr⟩ := id hgk
    obtain ⟨Ag, cg, rfl, -, -⟩ := hgr.shape
    generalize hxe : H.acc[k] = e at *
    generalize part2 H ++ (H.acc.take k).map accRec = l0 at *
    repeat' (first | apply v_seq | apply v_region | apply v_nil | apply v_skip | apply v_block | (apply v_pure; (case hop => first | (apply p_move <;> rfl) | (apply p_lt <;> rfl) | (apply p_lenSlice <;> rfl) | (apply p_fieldAddrB <;> rfl) | fail); (case hd => rfl)) | (apply v_cond; (case hc => rfl); all_goals (intro h; (try simp only [reduceCtorEq, zzz] at h); first | (exfalso; omega) | skip)) | (apply v_read; (case hop => (apply r_load1; rfl; (apply Cell.own; (case h => (repeat (first | exact mhd _ | apply List.mem_append_right))); rfl))); (case hd => rfl)) | fail)
    refine d_start [(hb, hardO (hdL H.pr H.pn H.base (.slice A0 H.image.length c0) (.slice A1 H.acc.length c1) (.slice A2 H.cho.length c2)))] (by kernel_rfl) (by kernel_rfl) (by kernel_rfl) (by intro e he; (simp at he; simp [he]; done)) ?_
    all_goals (apply dtk 0; (case hi => rfl); (case hop => (apply prd; apply p_move <;> rfl)); (case hq => kernel_rfl))
    all_goals (apply dtk 1; (case hi => rfl); (case hop => (apply prd; apply p_fieldAddrB <;> rfl)); (case hq => kernel_rfl))
    all_goals (apply dtk 2; (case hi => rfl); (case hop => (apply r_load1; rfl; (apply Cell.own; (case h => (repeat (exact mhd _))); rfl))); (case hq => kernel_rfl))
    all_goals (apply dtk 3; (case hi => rfl); (case hop => (apply prd; apply p_move <;> rfl)); (case hq => kernel_rfl))
    all_goals (apply dtk 4; (case hi => rfl); (case hop => (apply prd; apply p_indexAddrS; (case hx => rfl); (case hi => rfl); (case h0 => omega); (case h => omega); (case hA => assumption))); (case hq => kernel_rfl))
    all_goals (apply dtk 5; (case hi => rfl); (case hop => (apply prd; apply p_fieldAddr <;> rfl)); (case hq => kernel_rfl))
    all_goals (apply dtk 6; (case hi => rfl); (case hop => ((apply r_loadN; rfl; exact CellsAt.frozen kc1; rfl))); (case hq => kernel_rfl))
    all_goals (apply dtk 7; (case hi => rfl); (case hop => (apply prd; apply p_fieldAddrB <;> rfl)); (case hq => kernel_rfl))
    all_goals (apply dtk 8; (case hi => rfl); (case hop => (apply r_load1; rfl; (apply Cell.own; (case h => (repeat (exact mhd _))); rfl))); (case hq => kernel_rfl))
    all_goals (apply dtk 9; (case hi => rfl); (case hop => (apply prd; apply p_move <;> rfl)); (case hq => kernel_rfl))
    all_goals (apply dtk 10; (case hi => rfl); (case hop => (apply prd; apply p_indexAddrS; (case hx => rfl); (case hi => rfl); (case h0 => omega); (case h => omega); (case hA => assumption))); (case hq => kernel_rfl))
    all_goals (apply dtk 11; (case hi => rfl); (case hop => (apply prd; apply p_fieldAddr <;> rfl)); (case hq => kernel_rfl))
    all_goals (apply dtk 12; (case hi => rfl); (case hop => ((apply r_load1; rfl; exact Cell.frozen kc0))); (case hq => kernel_rfl))
    all_goals (apply dtk 13; (case hi => rfl); (case hop => (apply prd; apply p_fieldAddrB <;> rfl)); (case hq => kernel_rfl))
    all_goals (apply dtk 14; (case hi => rfl); (case hop => (apply r_load1; rfl; (apply Cell.own; (case h => (repeat (exact mhd _))); rfl))); (case hq => kernel_rfl))
    all_goals (apply dtk 15; (case hi => rfl); (case hop => (apply prd; apply p_move <;> rfl)); (case hq => kernel_rfl))
    all_goals (apply dtk 16; (case hi => rfl); (case hop => (apply prd; apply p_indexAddrS; (case hx => rfl); (case hi => rfl); (case h0 => omega); (case h => omega); (case hA => assumption))); (case hq => kernel_rfl))
    all_goals (apply dtk 17; (case hi => rfl); (case hop => (apply prd; apply p_fieldAddr <;> rfl)); (case hq => kernel_rfl))
    all_goals (apply dtk 18; (case hi => rfl); (case hop => ((apply r_loadN; rfl; exact CellsAt.frozen kc3; rfl))); (case hq => kernel_rfl))
    all_goals (apply dtk 19; (case hi => rfl); (case hop => (apply prd; apply p_build; (case hz => rfl); (case hv => (simp only [List.map_cons, List.map_nil]; repeat (first | with_reducible exact evs_nil | (apply evs_cons; (case h1 => rfl))))); (case hb => (apply bldL; repeat (first | exact bld_nil | (apply bld_cons; (case hpf => rfl); (case hc => rfl); (case hs => rfl); (case hl => rfl); (case ho => ((repeat (first | with_reducible exact ov_nil | apply ov_cons)); done)))))))); (case hq => kernel_rfl))
    all_goals (apply d_buildSlice 20; (case hi => rfl); (case hr => kernel_rfl); (case hT => infer_instance); (case hL => infer_instance); (case hz => rfl); (case hl => rfl); (case hv => (simp only [List.map_cons, List.map_nil]; repeat (first | with_reducible exact evs_nil | (apply evs_cons; (case h1 => rfl))))); (case hp => (apply pk_cons; (case hc => rfl); (case hs => rfl); (case h => (with_reducible exact pk_nil)); (case he => ((repeat (first | with_reducible exact ap_nil | apply ap_cons)); done)))); (case hb => rfl); (case hd => rfl); (case hν => intro e he; (simp at he; simp [he]; done)); intro bb)
    all_goals (apply d_append 21 (hg := hgr) (q' := 1) (us := recL 2 e.round e.node e.index e.cmd (.slice none 0 0)) (hp := PickA.perm (by repeat (first | exact PickA.here _ | apply PickA.cons))) (hsrc := Src.own (e := 42) (by repeat (exact mhd _)) rfl); (case hi => rfl); (case hr => kernel_rfl); (case hT => infer_instance); (case hL => infer_instance); (case hzs => rfl); (case hsz => omega); (case hs => rfl); (case hx => rfl); (case hb => omega); (case hb' => simp only [maxLen]; omega); (case hd => rfl); (case h1 => rfl); (case hν => intro e he; (simp at he; simp [he]; done)); intro v3 n3 hg3)
    all_goals (apply dtk 22; (case hi => rfl); (case hop => (apply prd; apply p_assign <;> rfl)); (case hq => kernel_rfl))
    all_goals (apply d_done; (case hr => kernel_rfl))
    repeat' (first | apply v_region | apply v_nil | apply v_blk | (apply v_pure; (case hop => first | (apply p_move <;> rfl) | (apply p_assign <;> rfl) | (apply p_add; (case hx => rfl); (case hy => rfl); (case h => omega)) | fail); (case hd => rfl)) | fail)
    refine v_drop (ν := n3 ++ [(hb, hardO (hdL H.pr H.pn H.base (.slice A0 H.image.length c0) (.slice A1 H.acc.length c1) (.slice A2 H.cho.length c2)))]) (List.Sublist.append_left (by repeat (first | exact List.Sublist.refl _ | apply List.Sublist.cons)) _) ?_
    refine v_again rfl ⟨rfl, k + 1, v3, n3, by omega, rfl, ?_, rfl⟩ (by simp [headI]; omega)
    rw [htk]
    exact GrowR.snoc hcl hcr hg3 (rcR_nil rfl hio.1 hio.2)
  · have htk : part2 H ++ (H.acc.take k).map accRec = part2 H ++ H.acc.map accRec := by rw [List.take_of_length_le (by omega)]
    rw [htk] at hgk
    repeat' (first | apply v_seq | apply v_region | apply v_nil | apply v_block | (apply v_exit; (case hp => rfl)) | (apply v_pure; (case hop => first | (apply p_move <;> rfl) | (apply p_lt <;> rfl) | (apply p_assign <;> rfl) | (apply p_lenSlice <;> rfl) | (apply p_fieldAddrB <;> rfl) | fail); (case hd => rfl)) | (apply v_cond; (case hc => rfl); all_goals (intro h; (try simp only [reduceCtorEq, zzz] at h); first | (exfalso; omega) | skip)) | (apply v_read; (case hop => (apply r_load1; rfl; (apply Cell.own; (case h => (repeat (first | exact mhd _ | apply List.mem_append_right))); rfl))); (case hd => rfl)) | fail)
    clear htk hk hlt
    refine v_loop [5, 3, 1] (fun us G2 μ' => G2 = G' ∧ ∃ k v ν, k ≤ H.cho.length ∧ us = [Value.int .i64 (k : Nat), v, .pointer (some ⟨hb, 0, none⟩)] ∧ GrowR G' v (part2 H ++ H.acc.map accRec ++ (H.cho.take k).map choRec) ν ∧ μ' = ν ++ [(hb, hardO (hdL H.pr H.pn H.base (.slice A0 H.image.length c0) (.slice A1 H.acc.length c1) (.slice A2 H.cho.length c2)))]) (fun us => H.cho.length - (headI us).toNat) rfl ⟨rfl, 0, v, ν, by omega, rfl, by simpa using hgk, rfl⟩ ?_
    rintro us G3 _ ⟨hG3, k, v, ν, hk, rfl, hgk, rfl⟩
    subst hG3
    by_cases hlt : k < H.cho.length
    · have e1 : ((k : Nat) : Int).toNat = k := by omega
      have kc0 : GH.cell? G3 (((adr A2).add (k * 10)).add 0) = some (.int .i64 (H.cho[k]).index) := (hcp2' k hlt).cell (j := 0) rfl
      have kc3 := hcc2' k hlt
      have hA := hs2 (by omega)
      have htk : part2 H ++ H.acc.map accRec ++ (H.cho.take (k + 1)).map choRec = (part2 H ++ H.acc.map accRec ++ (H.cho.take k).map choRec) ++ [choRec H.cho[k]] := by
        rw [List.take_succ_eq_append_getElem hlt, List.map_append, ← List.append_assoc]
        rfl
      have hio := hrok (choRec H.cho[k]) (by
        simp only [List.mem_append, List.mem_map]
        exact .inr ⟨_, List.getElem_mem hlt, rfl⟩)
      have hln : (part2 H ++ H.acc.map accRec ++ (H.cho.take k).map choRec).length ≤ 100 := by
        rw [List.length_append, List.length_append, List.length_map, List.length_map, List.length_take]
        omega
      obtain ⟨css, hcl, hcr, hgr⟩ := id hgk
      obtain ⟨Ag, cg, rfl, -, -⟩ := hgr.shape
      generalize hxe : H.cho[k] = e at *
      generalize part2 H ++ H.acc.map accRec ++ (H.cho.take k).map choRec = l0 at *
      repeat' (first | apply v_seq | apply v_region | apply v_nil | apply v_skip | apply v_block | (apply v_pure; (case hop => first | (apply p_move <;> rfl) | (apply p_lt <;> rfl) | (apply p_lenSlice <;> rfl) | (apply p_fieldAddrB <;> rfl) | fail); (case hd => rfl)) | (apply v_cond; (case hc => rfl); all_goals (intro h; (try simp only [reduceCtorEq, zzz] at h); first | (exfalso; omega) | skip)) | (apply v_read; (case hop => (apply r_load1; rfl; (apply Cell.own; (case h => (repeat (first | exact mhd _ | apply List.mem_append_right))); rfl))); (case hd => rfl)) | fail)
      refine d_start [(hb, hardO (hdL H.pr H.pn H.base (.slice A0 H.image.length c0) (.slice A1 H.acc.length c1) (.slice A2 H.cho.length c2)))] (by kernel_rfl) (by kernel_rfl) (by kernel_rfl) (by intro e he; (simp at he; simp [he]; done)) ?_
      all_goals (apply dtk 0; (case hi => rfl); (case hop => (apply prd; apply p_move <;> rfl)); (case hq => kernel_rfl))
      all_goals (apply dtk 1; (case hi => rfl); (case hop => (apply prd; apply p_fieldAddrB <;> rfl)); (case hq => kernel_rfl))
      all_goals (apply dtk 2; (case hi => rfl); (case hop => (apply r_load1; rfl; (apply Cell.own; (case h => (repeat (exact mhd _))); rfl))); (case hq => kernel_rfl))
      all_goals (apply dtk 3; (case hi => rfl); (case hop => (apply prd; apply p_move <;> rfl)); (case hq => kernel_rfl))
      all_goals (apply dtk 4; (case hi => rfl); (case hop => (apply prd; apply p_indexAddrS; (case hx => rfl); (case hi => rfl); (case h0 => omega); (case h => omega); (case hA => assumption))); (case hq => kernel_rfl))
      all_goals (apply dtk 5; (case hi => rfl); (case hop => (apply prd; apply p_fieldAddr <;> rfl)); (case hq => kernel_rfl))
      all_goals (apply dtk 6; (case hi => rfl); (case hop => ((apply r_load1; rfl; exact Cell.frozen kc0))); (case hq => kernel_rfl))
      all_goals (apply dtk 7; (case hi => rfl); (case hop => (apply prd; apply p_fieldAddrB <;> rfl)); (case hq => kernel_rfl))
      all_goals (apply dtk 8; (case hi => rfl); (case hop => (apply r_load1; rfl; (apply Cell.own; (case h => (repeat (exact mhd _))); rfl))); (case hq => kernel_rfl))
      all_goals (apply dtk 9; (case hi => rfl); (case hop => (apply prd; apply p_move <;> rfl)); (case hq => kernel_rfl))
      all_goals (apply dtk 10; (case hi => rfl); (case hop => (apply prd; apply p_indexAddrS; (case hx => rfl); (case hi => rfl); (case h0 => omega); (case h => omega); (case hA => assumption))); (case hq => kernel_rfl))
      all_goals (apply dtk 11; (case hi => rfl); (case hop => (apply prd; apply p_fieldAddr <;> rfl)); (case hq => kernel_rfl))
      all_goals (apply dtk 12; (case hi => rfl); (case hop => ((apply r_loadN; rfl; exact CellsAt.frozen kc3; rfl))); (case hq => kernel_rfl))
      all_goals (apply dtk 13; (case hi => rfl); (case hop => (apply prd; apply p_build; (case hz => rfl); (case hv => (simp only [List.map_cons, List.map_nil]; repeat (first | with_reducible exact evs_nil | (apply evs_cons; (case h1 => rfl))))); (case hb => (apply bldL; repeat (first | exact bld_nil | (apply bld_cons; (case hpf => rfl); (case hc => rfl); (case hs => rfl); (case hl => rfl); (case ho => ((repeat (first | with_reducible exact ov_nil | apply ov_cons)); done)))))))); (case hq => kernel_rfl))
      all_goals (apply d_buildSlice 14; (case hi => rfl); (case hr => kernel_rfl); (case hT => infer_instance); (case hL => infer_instance); (case hz => rfl); (case hl => rfl); (case hv => (simp only [List.map_cons, List.map_nil]; repeat (first | with_reducible exact evs_nil | (apply evs_cons; (case h1 => rfl))))); (case hp => (apply pk_cons; (case hc => rfl); (case hs => rfl); (case h => (with_reducible exact pk_nil)); (case he => ((repeat (first | with_reducible exact ap_nil | apply ap_cons)); done)))); (case hb => rfl); (case hd => rfl); (case hν => intro e he; (simp at he; simp [he]; done)); intro bb)
      all_goals (apply d_append 15 (hg := hgr) (q' := 1) (us := recL 3 0 0 e.index e.cmd (.slice none 0 0)) (hp := PickA.perm (by repeat (first | exact PickA.here _ | apply PickA.cons))) (hsrc := Src.own (e := 42) (by repeat (exact mhd _)) rfl); (case hi => rfl); (case hr => kernel_rfl); (case hT => infer_instance); (case hL => infer_instance); (case hzs => rfl); (case hsz => omega); (case hs => rfl); (case hx => rfl); (case hb => omega); (case hb' => simp only [maxLen]; omega); (case hd => rfl); (case h1 => rfl); (case hν => intro e he; (simp at he; simp [he]; done)); intro v3 n3 hg3)
      all_goals (apply dtk 16; (case hi => rfl); (case hop => (apply prd; apply p_assign <;> rfl)); (case hq => kernel_rfl))
      all_goals (apply d_done; (case hr => kernel_rfl))
      repeat' (first | apply v_region | apply v_nil | apply v_blk | (apply v_pure; (case hop => first | (apply p_move <;> rfl) | (apply p_assign <;> rfl) | (apply p_add; (case hx => rfl); (case hy => rfl); (case h => omega)) | fail); (case hd => rfl)) | fail)
      refine v_drop (ν := n3 ++ [(hb, hardO (hdL H.pr H.pn H.base (.slice A0 H.image.length c0) (.slice A1 H.acc.length c1) (.slice A2 H.cho.length c2)))]) (List.Sublist.append_left (by repeat (first | exact List.Sublist.refl _ | apply List.Sublist.cons)) _) ?_
      refine v_again rfl ⟨rfl, k + 1, v3, n3, by omega, rfl, ?_, rfl⟩ (by simp [headI]; omega)
      rw [htk]
      exact GrowR.snoc hcl hcr hg3 (rcR_nil rfl hio.1 hio.2)
    · have htk : part2 H ++ H.acc.map accRec ++ (H.cho.take k).map choRec = part2 H ++ H.acc.map accRec ++ H.cho.map choRec := by rw [List.take_of_length_le (by omega)]
      rw [htk] at hgk
      repeat' (first | apply v_seq | apply v_region | apply v_nil | (apply v_exit; (case hp => rfl)) | (apply v_pure; (case hop => first | (apply p_move <;> rfl) | (apply p_lt <;> rfl) | (apply p_assign <;> rfl) | (apply p_lenSlice <;> rfl) | (apply p_fieldAddrB <;> rfl) | fail); (case hd => rfl)) | (apply v_cond; (case hc => rfl); all_goals (intro h; (try simp only [reduceCtorEq, zzz] at h); first | (exfalso; omega) | skip)) | (apply v_read; (case hop => (apply r_load1; rfl; (apply Cell.own; (case h => (repeat (first | exact mhd _ | apply List.mem_append_right))); rfl))); (case hd => rfl)) | fail)
      exact v_ret ν (outsA1 rfl rfl) (List.sublist_append_left _ _) hgk
theorem GrowR.app {G : GH} {v' : Value} {l l2 : List Rc} {ν' : OH} {css css2 : List (List Value)} (h1 : css.length = l.length) (h2 : ∀ (i : Nat) y cs, l[i]? = some y → css[i]? = some cs → RcR G y cs) (k1 : css2.length = l2.length) (k2 : ∀ (i : Nat) y cs, l2[i]? = some y → css2[i]? = some cs → RcR G y cs) (h : Grow 42 12 v' (l.length + l2.length) (css.flatten ++ css2.flatten) ν') : GrowR G v' (l ++ l2) ν' := by
  refine ⟨css ++ css2, by simp [h1, k1], fun i y cs hy hc => ?_, by simpa using h⟩
  by_cases hi : i < l.length
  · rw [List.getElem?_append_left hi] at hy
    rw [List.getElem?_append_left (by omega)] at hc
    exact h2 i y cs hy hc
  · rw [List.getElem?_append_right (by omega)] at hy hc
    rw [h1] at hc
    exact k2 _ y cs hy hc
structure OkF (f : Int) (x : Rc) : Prop where
  err : errF f x = 0
  img : x.image.length ≤ 300
theorem errF_parts {f : Int} {x : Rc} (h : errF f x = 0) : (f = 1 ∨ f = 2) ∧ x.fits ∧ (1 ≤ x.kind ∧ x.kind ≤ 4) := by
  by_cases h1 : f = 1
  · subst h1
    rw [errF1] at h
    exact ⟨.inl rfl, (fits0 (older0 h).1).1, (rec0 (older0 h).1).1⟩
  · by_cases h2 : f = 2
    · subst h2
      rw [errF2] at h
      exact ⟨.inr rfl, (fits0 (show recI _ _ _ _ _ _ = 0 from h)).1, (rec0 (show recI _ _ _ _ _ _ = 0 from h)).1⟩
    · rw [errFN (by omega)] at h
      cases h
theorem rbytesF_s {G : GH} {f : Int} {x : Rc} {xv : Value} (hx : RcV G x xv) (hc : x.cmd.ok) (hw : x.small) (h : errF f x = 0) : Con Tryz.prog 57 #[.int .i64 f, xv] G [] (fun r G' μ' => GH.le G G' ∧ Grow 5 1 r (encF f x).length ((encF f x).map (.int .u8 ·)) μ') := by
  obtain ⟨hf, h1, h2⟩ := errF_parts h
  obtain rfl | rfl := hf
  · exact rone_s hx hc h1 hw h2
  · exact rtwo_s hx hc h1 hw h2
theorem fileB_take {f : Int} {n : Nat} {l : List Rc} {k : Nat} (h : k < l.length) : fileB encF f n (l.take (k + 1)) = fileB encF f n (l.take k) ++ frB (encF f l[k]) := by
  unfold fileB
  rw [flat_take h, List.append_assoc]
theorem fileB_zero (f : Int) (n : Nat) (l : List Rc) : fileB encF f n (l.take 0) = frB (vbytes f ++ vbytes (n : Nat)) := by
  simp [fileB, flatF]
theorem headB_size (f : Int) (n : Nat) : (vbytes f ++ vbytes (n : Nat)).length ≤ 30 ∧ (frB (vbytes f ++ vbytes (n : Nat))).length ≤ 100 := by
  have h1 := vbytes_len f
  have h2 := vbytes_len (n : Nat)
  have h3 := frB_max (vbytes f ++ vbytes (n : Nat))
  rw [List.length_append] at h3
  rw [List.length_append]
  omega
theorem headB_wf {f : Int} {n : Nat} (hf : f ≤ 9223372036854775807) (hn : (n : Int) ≤ 9223372036854775807) : byteL (frB (vbytes f ++ vbytes (n : Nat))) := frB_byte ((vbytes_byte hf).app (vbytes_byte hn)) headB_ok
set_option maxHeartbeats 1000000 in
theorem file_s {G : GH} {H : Hd} {L : List Value} {n : Nat} (hh : HdV G H L) (g : Good n H) (hn : n ≤ 40) {f : Int} (hf : f = 1 ∨ f = 2) {more : List Rc} {mv : Value} (hm : Rs G mv more) (hm40 : more.length ≤ 40) (hall : ∀ x ∈ recsOf H ++ more, OkF f x) (hlen : (recsOf H).length ≤ 100) :
    Con Tryz.prog 17 #[.int .i64 f, .agg L.toArray, mv] G [] (fun r G' μ' => byteL (fileB encF f (recsOf H).length (recsOf H ++ more)) ∧ Grow 5 1 r (fileB encF f (recsOf H).length (recsOf H ++ more)).length ((fileB encF f (recsOf H).length (recsOf H ++ more)).map (.int .u8 ·)) μ') := by
  have qr := records20_s hh g hn
  obtain ⟨iv, av, cv, rfl, hi, ha, hcv⟩ := id hh
  obtain ⟨A0, c0, rfl, hl0, hm0, -⟩ := hi.openInt
  obtain ⟨A1, c1, rfl, -⟩ := ha.open
  obtain ⟨A2, c2, rfl, -⟩ := hcv.open
  obtain ⟨Am, cm, rfl, -⟩ := id hm.open
  generalize recsOf H = l at *
  have hlw : byteL (frB (vbytes f ++ vbytes (l.length : Nat))) := headB_wf (by omega) (by omega)
  have hhs := headB_size f l.length
  have hhw : wfL (vbytes f ++ vbytes (l.length : Nat)) := byteL.wf ((vbytes_byte (by omega)).app (vbytes_byte (by omega)))
  (refine v_enter Tryz.func17 rfl Tryz.ntmps17 rfl ?_; intro B _)
  repeat' (first | apply v_seq | apply v_region | apply v_nil | (apply v_pure; (case hop => (apply p_assign <;> rfl)); (case hd => rfl)) | (apply v_read; (case hop => (apply r_loadNo; (case hx => rfl); (case h => (repeat (exact mhd _))); (case hd => (repeat (first | with_reducible exact dt_nil | apply dt_here))); (case hn => rfl))); (case hd => rfl)) | (apply v_box; (case hx => rfl); (case hz => rfl); (case hd => rfl); intro b) | fail)
  refine v_call (μ1 := []) rfl qr (List.Perm.refl _) rfl ?_
  rintro v1 G1 ν1 hle1 hg1
  obtain ⟨css, hcl, hcr, hgr⟩ := hg1
  obtain ⟨Ag, cg, rfl, -, -⟩ := hgr.shape
  repeat' (first | apply v_seq | apply v_region | apply v_nil | (apply v_pure; (case hop => first | (apply p_move <;> rfl) | (apply p_assign <;> rfl) | fail); (case hd => rfl)) | fail)
  refine v_call (μ1 := []) rfl (rnum_s _ f (by omega)) (List.Perm.refl _) rfl ?_
  rintro v2 G2 ν2 - ⟨hG2, hg2⟩
  subst hG2
  repeat' (first | (apply v_pure; (case hop => first | (apply p_move <;> rfl) | (apply p_lenSlice <;> rfl) | fail); (case hd => rfl)) | fail)
  refine v_call (μ1 := []) rfl (rnum_s _ (l.length : Nat) (by omega)) (List.Perm.refl _) rfl ?_
  rintro v3 G3 ν3 - ⟨hG3, hg3⟩
  subst hG3
  refine v_frzP ν3 (List.Perm.refl _) ?_
  intro G4 hle4 hG4
  have s3 := hg3.ints hG4 (byteL.wf (vbytes_byte (by omega)))
  have hsd := fun μ => Src.ints (μ := μ) s3
  have hl1 := (vbytes_len f).1
  have hl2 := (vbytes_len (l.length : Nat)).1
  repeat' (first | (apply v_append (hg := hg2) (m' := (vbytes (l.length : Nat)).length) (us := (vbytes (l.length : Nat)).map (.int .u8 ·)) (hp := List.Perm.refl _) (hsrc := hsd _); (case hzs => rfl); (case hsz => omega); (case hs => rfl); (case hx => rfl); (case hb => omega); (case hb' => simp only [maxLen]; omega); (case hd => rfl); (case h1 => exact allOne_ints _); intro v5 n5 hg5) | fail)
  have hg6 : Grow 5 1 v5 (vbytes f ++ vbytes (l.length : Nat)).length ((vbytes f ++ vbytes (l.length : Nat)).map (Value.int .u8 ·)) n5 := by
    rw [List.length_append, List.map_append]
    exact hg5
  clear hsd s3 hg5 hg2 hg3
  generalize hP : vbytes f ++ vbytes (l.length : Nat) = P at *
  refine v_frzP n5 (List.Perm.refl _) ?_
  intro G5 hle5 hG5
  have s6 := hg6.ints hG5 hhw
  repeat' (fail)
  refine v_call (μ1 := []) rfl (rframe_s s6 (by omega)) (List.Perm.refl _) rfl ?_
  rintro v7 G6 ν7 - ⟨hG6, hg7⟩
  subst hG6
  have hle6 := GH.le_trans hle1 (GH.le_trans hle4 hle5)
  obtain ⟨cssM, hcl2, hcr2, hsM, hallM⟩ := rsFlat (Rs.le' hle6 hm)
  have hcr' := fun i y cs h1 h2 => (hcr i y cs h1 h2).le (GH.le_trans hle4 hle5)
  refine v_perm (ν := ν1 ++ (ν7 ++ [(b, .cells (hdL H.pr H.pn H.base (.slice A0 H.image.length c0) (.slice A1 H.acc.length c1) (.slice A2 H.cho.length c2)).toArray 27 (0, 0))])) (by apply perm_of_count; intro p; simp only [List.append_eq, List.countP_append, List.countP_cons, List.countP_nil, Nat.zero_add, Nat.add_zero]; try ac_rfl) ?_
  repeat' (first | apply v_seq | apply v_region | apply v_nil | apply v_block | (apply v_pure; (case hop => first | (apply p_move <;> rfl) | (apply p_assign <;> rfl) | fail); (case hd => rfl)) | (apply v_append (hg := hgr) (m' := more.length) (us := cssM.flatten) (hp := List.Perm.refl _) (hsrc := hsM _); (case hzs => rfl); (case hsz => omega); (case hs => rfl); (case hx => rfl); (case hb => omega); (case hb' => simp only [maxLen]; omega); (case hd => rfl); (case h1 => exact hallM); intro v8 n8 hg8) | fail)
  refine v_frzP n8 (List.Perm.refl _) ?_
  intro G7 hle7 hG7
  have hrs := (GrowR.app hcl hcr' hcl2 hcr2 hg8).rs hle7 hG7
  refine v_drop (ν := ν7) (List.sublist_append_left _ _) ?_
  have hz := fileB_zero f l.length (l ++ more)
  rw [hP] at hz
  have hln : (l ++ more).length ≤ 140 := by rw [List.length_append]; omega
  clear hg8 hsM hallM hcr2 hcl2 hcr hcr' hcl hgr hg6 s6 hG5 hG4 hG7 hm hh hi ha hcv
  generalize l.length = n0 at *
  generalize hl0 : l ++ more = l0 at *
  obtain ⟨A, c, ivf, rfl, hlc, hcm, hsome, hcp, him, hok⟩ := rsOpen hrs
  simp only [maxLen] at hcm
  refine v_loop [9, 8, 7, 0] (fun us G' μ' => GH.le G7 G' ∧ ∃ (k : Nat) (v : Value), k ≤ l0.length ∧ us = [Value.int .i64 (k : Nat), v, .slice A l0.length c, .int .i64 f] ∧ (fileB encF f n0 (l0.take k)).length ≤ 100 + k * 7100 ∧ byteL (fileB encF f n0 (l0.take k)) ∧ Grow 5 1 v (fileB encF f n0 (l0.take k)).length ((fileB encF f n0 (l0.take k)).map (.int .u8 ·)) μ') (fun us => l0.length - (headI us).toNat) rfl ⟨GH.le_refl _, 0, _, by omega, rfl, by rw [hz]; omega, by rw [hz]; exact hlw, by rw [hz]; exact hg7⟩ ?_
  rintro us G' μ' ⟨hle, k, v, hk, rfl, hsz, hby, hg⟩
  obtain ⟨A3, c3, rfl, -, -⟩ := hg.shape
  have e1 : ((k : Nat) : Int).toNat = k := by omega
  by_cases hlt : k < l0.length
  · have hA := hsome (by omega)
    have hcx := (hcp k hlt).le hle
    have hix := (him k hlt).mono hle
    have hcok := hok _ (List.getElem_mem hlt)
    have hall' := hall _ (List.getElem_mem hlt)
    have hft := fileB_take (f := f) (n := n0) hlt
    have hx : RcV G' l0[k] (.agg (recL l0[k].kind l0[k].round l0[k].node l0[k].index l0[k].cmd (ivf k)).toArray) := ⟨_, rfl, hix⟩
    have q := rbytesF_s hx hcok.1 hcok.2 hall'.err
    obtain ⟨Ai, ci, hie, -, -, -, -, hiw⟩ := hix.openInt
    have hsz2 := (encF_size hall'.err hall'.img).2
    have hwf2 := (encF_ok hall'.err hcok.1 hiw).2
    have hone := encF_one (f := f) (x := l0[k]'hlt)
    have hfb := frB_max (encF f l0[k])
    have hb2 := frB_byte (wfL.byte hwf2) ⟨hone, by omega⟩
    rw [hie] at q hcx
    clear hx hix hcok hcp him hok hall' hall hiw
    generalize l0[k] = x at *
    generalize encF f x = E at *
    repeat' (first | apply v_seq | apply v_region | apply v_nil | apply v_skip | apply v_block | (apply v_pure; (case hop => first | (apply p_move <;> rfl) | (apply p_lt <;> rfl) | (apply p_lenSlice <;> rfl) | (apply p_indexAddrS; (case hx => rfl); (case hi => rfl); (case h0 => omega); (case h => omega); (case hA => assumption)) | fail); (case hd => rfl)) | (apply v_cond; (case hc => rfl); all_goals (intro h; (try simp only [reduceCtorEq, zzz] at h); first | (exfalso; omega) | skip)) | (apply v_read; (case hop => (apply r_loadN; rfl; exact CellsAt.frozen hcx; rfl)); (case hd => rfl)) | fail)
    refine v_call (μ1 := []) rfl q (List.Perm.refl _) rfl ?_
    rintro v1 G8 ν8 - ⟨hle8, hg8⟩
    refine v_frzP ν8 (List.Perm.refl _) ?_
    intro G9 hle9 hG9
    have s9 := hg8.ints hG9 hwf2
    repeat' (fail)
    refine v_call (μ1 := []) rfl (rframe_s s9 (by omega)) (List.Perm.refl _) rfl ?_
    rintro v10 G10 ν10 - ⟨hG10, hg10⟩
    subst hG10
    refine v_frzP ν10 (List.Perm.refl _) ?_
    intro G11 hle11 hG11
    have s11 := hg10.ints hG11 (byteL.wf hb2)
    have hsd := fun μ => Src.ints (μ := μ) s11
    generalize fileB encF f n0 (l0.take k) = P at *
    generalize frB E = Q at *
    repeat' (first | apply v_region | apply v_nil | apply v_blk | (apply v_pure; (case hop => first | (apply p_move <;> rfl) | (apply p_assign <;> rfl) | (apply p_add; (case hx => rfl); (case hy => rfl); (case h => omega)) | fail); (case hd => rfl)) | (apply v_append (hg := hg) (m' := Q.length) (us := Q.map (.int .u8 ·)) (hp := PickA.perm (by repeat (exact PickA.last))) (hsrc := hsd _); (case hzs => rfl); (case hsz => omega); (case hs => rfl); (case hx => rfl); (case hb => omega); (case hb' => simp only [maxLen]; omega); (case hd => rfl); (case h1 => exact allOne_ints Q); intro v12 n12 hg12) | fail)
    refine v_only n12 (by repeat (exact PickA.here _)) ?_
    refine v_again rfl ⟨GH.le_trans hle (GH.le_trans hle8 (GH.le_trans hle9 hle11)), k + 1, v12, by omega, rfl, ?_, ?_, ?_⟩ (by simp [headI]; omega)
    · rw [hft, List.length_append]; omega
    · rw [hft]; exact hby.app hb2
    · rw [hft, List.length_append, List.map_append]; exact hg12
  · obtain rfl : k = l0.length := by omega
    rw [List.take_length] at hg hby ⊢
    repeat' (first | apply v_seq | apply v_region | apply v_nil | (apply v_exit; (case hp => rfl)) | (apply v_pure; (case hop => first | (apply p_move <;> rfl) | (apply p_lt <;> rfl) | (apply p_assign <;> rfl) | (apply p_lenSlice <;> rfl) | fail); (case hd => rfl)) | (apply v_cond; (case hc => rfl); all_goals (intro h; (try simp only [reduceCtorEq, zzz] at h); first | (exfalso; omega) | skip)) | fail)
    exact v_ret _ (outsA1 rfl rfl) (List.Sublist.refl _) ⟨hby, hg⟩
theorem el_ent {H : Type} {enc : TypeId × Value → H} {W : World} : Elem enc Tryz.prog W 97 EntR := by
  intro fuel cs x hf
  have h1 := el_flen (n := 10) Tryz.underlying97 (by kernel_rfl) hf
  obtain ⟨k, hk, wk⟩ := el_fld (i := 0) (sz := 1) (by kernel_rfl) (el_int Tryz.underlying3) hf
  have hb : Elem enc Tryz.prog W 23 (fun (p : Int × Int) cs => cs = [.int .i64 p.1, .int .i64 p.2] ∧ (Lit.int .i64 p.1).wf = true ∧ (Lit.int .i64 p.2).wf = true) := by
    intro fuel cs x hf
    have h1 := el_flen (n := 2) Tryz.underlying23 (by kernel_rfl) hf
    obtain ⟨a, ha, wa⟩ := el_fld (i := 0) (sz := 1) (by kernel_rfl) (el_int Tryz.underlying3) hf
    obtain ⟨b, hb, wb⟩ := el_fld (i := 1) (sz := 1) (by kernel_rfl) (el_int Tryz.underlying3) hf
    match cs, h1 with
    | [c0, c1], _ =>
      simp only [List.drop_succ_cons, List.drop_zero, List.take_succ_cons, List.take_zero, List.cons.injEq, and_true] at ha hb
      exact ⟨(a, b), by rw [ha, hb], wa, wb⟩
  obtain ⟨⟨r, n⟩, hr, wr, wn⟩ := el_fld (i := 1) (sz := 2) (by kernel_rfl) hb hf
  obtain ⟨c, hc, ho⟩ := el_fld (i := 2) (sz := 7) (by kernel_rfl) el_cm hf
  match cs, h1 with
  | [c0, c1, c2, c3, c4, c5, c6, c7, c8, c9], _ =>
    simp only [Cm.cells, List.drop_succ_cons, List.drop_zero, List.take_succ_cons, List.take_zero, List.cons.injEq, and_true] at hk hr hc
    obtain ⟨rfl, rfl⟩ := hr
    obtain ⟨rfl, rfl, rfl, rfl, rfl, rfl, rfl⟩ := hc
    subst hk
    exact ⟨⟨k, r, n, c⟩, rfl, wk, wr, wn, ho⟩
theorem el_hard {H : Type} {enc : TypeId × Value → H} {W : World} {fuel : Nat} {cs : List Value} {x : DataW H × List MemPlace} (hf : DataW.trod enc Tryz.prog W 0 (fun _ => true) true fuel 27 cs = some x) : ∃ y : Hd, HdV (ghost W) y cs := by
  have h1 := el_flen (n := 6) Tryz.underlying27 (by kernel_rfl) hf
  have hb : Elem enc Tryz.prog W 23 (fun (p : Int × Int) cs => cs = [.int .i64 p.1, .int .i64 p.2] ∧ (Lit.int .i64 p.1).wf = true ∧ (Lit.int .i64 p.2).wf = true) := by
    intro fuel cs x hf
    have h1 := el_flen (n := 2) Tryz.underlying23 (by kernel_rfl) hf
    obtain ⟨a, ha, wa⟩ := el_fld (i := 0) (sz := 1) (by kernel_rfl) (el_int Tryz.underlying3) hf
    obtain ⟨b, hb, wb⟩ := el_fld (i := 1) (sz := 1) (by kernel_rfl) (el_int Tryz.underlying3) hf
    match cs, h1 with
    | [c0, c1], _ =>
      simp only [List.drop_succ_cons, List.drop_zero, List.take_succ_cons, List.take_zero, List.cons.injEq, and_true] at ha hb
      exact ⟨(a, b), by rw [ha, hb], wa, wb⟩
  obtain ⟨⟨r, n⟩, hr, wr, wn⟩ := el_fld (i := 0) (sz := 2) (by kernel_rfl) hb hf
  obtain ⟨i, hi, wi⟩ := el_fld (i := 1) (sz := 1) (by kernel_rfl) (el_int Tryz.underlying3) hf
  obtain ⟨im, v, hv, hl⟩ := el_fld (i := 2) (sz := 1) (by kernel_rfl) (el_slice (sz := 1) Tryz.underlying24 (by kernel_rfl) (el_int Tryz.underlying5)) hf
  obtain ⟨ac, va, hva, hla⟩ := el_fld (i := 3) (sz := 1) (by kernel_rfl) (el_slice (sz := 10) Tryz.underlying25 (by kernel_rfl) el_ent) hf
  obtain ⟨ch, vc, hvc, hlc⟩ := el_fld (i := 4) (sz := 1) (by kernel_rfl) (el_slice (sz := 10) Tryz.underlying25 (by kernel_rfl) el_ent) hf
  match cs, h1 with
  | [c0, c1, c2, c3, c4, c5], _ =>
    simp only [List.drop_succ_cons, List.drop_zero, List.take_succ_cons, List.take_zero, List.cons.injEq, and_true] at hr hi hv hva hvc
    obtain ⟨rfl, rfl⟩ := hr
    subst hi; subst hv; subst hva; subst hvc
    exact ⟨⟨r, n, i, im, ac, ch⟩, _, _, _, rfl, hl, hla, hlc⟩
set_option maxRecDepth 100000 in
theorem arg_t27 {H : Type} {enc : TypeId × Value → H} {W : World} {base : Nat} {v : Value} {d : DataW H} {p : List MemPlace} (hv : Value.okWide Tryz.prog W .any base 27 v) (h : DataW.Trod enc Tryz.prog W 0 (fun _ => true) true 27 v d p) : ∃ (y : Hd) (cs : List Value), v = .agg cs.toArray ∧ HdV (ghost W) y cs := by
  obtain ⟨cs, rfl⟩ := okWide_agg (by kernel_rfl) hv
  obtain ⟨fuel, hf⟩ := h
  obtain ⟨y, hy⟩ := el_hard hf
  exact ⟨y, _, rfl, hy⟩
def crcTab : List Int := [0, 498536548, 997073096, 651767980, 1994146192, 1802195444, 1303535960, 1342533948, 3988292384, 4027552580, 3604390888, 3412177804, 2607071920, 2262029012, 2685067896, 3183342108]
theorem crcTab_at : ∀ i, i < 16 → crcTab[i]? = some ((tab i).toNat : Int) := by decide +kernel
theorem crcEq : (Rows.laid_changeover_crc_table : DataW Unit) = Lib.tabData .u32 crcTab := by kernel_rfl
abbrev tabsLaid3 : List (String × DataW Unit) := [("unicode/utf8.acceptRanges", Rows.laid_unicode_utf8_acceptRanges), ("changeover/crc.table", Rows.laid_changeover_crc_table), ("unicode/utf8.first", Rows.laid_unicode_utf8_first)]
theorem tabs3_plain : (tabsLaid3.all fun x => x.2.handleName?.isNone) = true := by kernel_rfl
theorem tabs3_of_laid {W : World} (hL : laidMetH Tryz.prog tabsLaid3 W) : TabsG (ghost W) ∧ CrcG (ghost W) := by
  rw [MakeChecks.laidMetH_plain _ _ _ tabs3_plain] at hL
  have r1 := Lib.laidMet.reads hL (.tail _ (.tail _ (.head _)))
  have r2 := Lib.laidMet.reads hL (.head _)
  have r3 := Lib.laidMet.reads hL (.tail _ (.head _))
  rw [firstEq] at r1
  rw [acceptEq] at r2
  rw [crcEq] at r3
  have hU := utf8Tabs_of_readsT (ρ := laysDecode_ren) { laysDecode with } ⟨by kernel_rfl, by kernel_rfl, by kernel_rfl, by kernel_rfl, by kernel_rfl, by kernel_rfl, by kernel_rfl⟩ r1 r2
  clear hL r1 r2
  constructor
  · intro w hw
    have lift : ∀ (a : Addr) v, W.cell? a = some v → w.cell? a = some v := by
      intro a v h
      unfold World.cell? at h ⊢
      cases hb : W.heap[a.block]? with
      | none => rw [hb] at h; simp at h
      | some o => rw [hw _ _ hb]; rw [hb] at h; exact h
    exact ⟨fun c hc => lift _ _ (hU.1 c hc), fun i hi => ⟨lift _ _ (hU.2 i hi).1, lift _ _ (hU.2 i hi).2⟩⟩
  · obtain ⟨g, t, cs, fuel, p, hg, hty, hvar, hd⟩ := r3
    obtain rfl := Option.some.inj ((show Tryz.prog.globalNamed "changeover/crc.table" = some 0 by kernel_rfl).symm.trans hg)
    obtain rfl := Option.some.inj ((show (Tryz.prog.globals[0]?).map (·.type) = some 240 by kernel_rfl).symm.trans hty)
    have hcs := Lib.cells_of_tab Tryz.underlying240 Tryz.underlying135 (by kernel_rfl) (by kernel_rfl) hd
    intro i hi
    rw [ghost_cell]
    have := World.var?_cell hg hvar i
    rw [this, ← Array.getElem?_toList, hcs, List.getElem?_map, crcTab_at i hi]
    rfl
theorem recs_light {H : Hd} (h : CheckP H) (hi : H.image.length ≤ 300) : ∀ x ∈ recsOf H, ¬ x.large ∧ x.image.length ≤ 300 := by
  obtain ⟨-, -, -, -, ha, hc, -, -⟩ := h
  have key : ∀ e : Ent, oneI e = 0 → e.cmd.key.size ≤ 24 ∧ e.cmd.val.size ≤ 48 ∧ e.cmd.old.size ≤ 48 := fun e he => cmdSz (one_parts he).2.2.2
  have hz : zeroCm.key.size = 0 ∧ zeroCm.val.size = 0 ∧ zeroCm.old.size = 0 := ⟨rfl, rfl, rfl⟩
  have hz2 : zeroC.key.size = 0 ∧ zeroC.val.size = 0 ∧ zeroC.old.size = 0 := ⟨rfl, rfl, rfl⟩
  intro x hx
  rw [recsOf_parts] at hx
  unfold part2 part1 at hx
  simp only [List.mem_append, List.mem_map] at hx
  unfold Rc.large
  obtain ((hx | hx) | ⟨e, he, rfl⟩) | ⟨e, he, rfl⟩ := hx
  · split at hx
    · obtain rfl := List.mem_singleton.1 hx
      simp only [imgRec]
      omega
    · cases hx
  · split at hx
    · cases hx
    · obtain rfl := List.mem_singleton.1 hx
      simp only [promRec, List.length_nil]
      omega
  · have := key e (chk_one ha e he)
    simp only [accRec, List.length_nil]
    omega
  · have := key e (chk_one hc e he)
    simp only [choRec, List.length_nil]
    omega
theorem recs_okF {H : Hd} (h : CheckP H) (hi : H.image.length ≤ 300) {f : Int} (he : errsF f (recsOf H) = 0) : ∀ x ∈ recsOf H, OkF f x := fun x hx => ⟨errsF_at he x hx, (recs_light h hi x hx).2⟩
set_option maxHeartbeats 1000000 in
theorem segmHeads_main {W : World} (hT : TabsG (ghost W)) (hC : CrcG (ghost W)) (f : Int) (hfw : f ≤ 9223372036854775807) {H : Hd} {L : List Value} (hh : HdV (ghost W) H L) : LawCon Tryz.prog 3 #[.int .i64 f, .agg L.toArray] W := by
  have ql := heavy_s hh
  unfold LawCon
  generalize ghost W = G at *
  have qa := fun G' (h : GH.le G G') => awake20_s (hT.le h) (hC.le h)
  have hoka : ∀ e ∈ H.acc, e.ok := fun e he => by
    obtain ⟨_, _, _, _, _, ha, _⟩ := id hh
    obtain ⟨i, hi, rfl⟩ := List.getElem_of_mem he
    obtain ⟨_, _, _, _, _, _, _, _, _, hok⟩ := esOpen ha
    exact hok i hi
  have hokc : ∀ e ∈ H.cho, e.ok := fun e he => by
    obtain ⟨_, _, _, _, _, _, hc⟩ := id hh
    obtain ⟨i, hi, rfl⟩ := List.getElem_of_mem he
    obtain ⟨_, _, _, _, _, _, _, _, _, hok⟩ := esOpen hc
    exact hok i hi
  have qn : Con Tryz.prog 13 #[.int .i64 f, .slice none 0 0] G [] (Just (.int .i64 (hasF f [])) G) := has20_s f Sl.nil
  obtain ⟨iv, av, cv, rfl, hi, ha, hcv⟩ := id hh
  obtain ⟨A0, c0, rfl, -⟩ := id hi.openInt
  obtain ⟨A1, c1, rfl, -⟩ := id ha.open
  obtain ⟨A2, c2, rfl, -⟩ := id hcv.open
  (refine v_enter Tryz.func3 rfl Tryz.ntmps3 rfl ?_; intro B _)
  repeat' (first | apply v_seq | apply v_region | apply v_nil | (apply v_pure; (case hop => (apply p_assign <;> rfl)); (case hd => rfl)) | (apply v_read; (case hop => (apply r_loadNo; (case hx => rfl); (case h => (repeat (exact mhd _))); (case hd => (repeat (first | with_reducible exact dt_nil | apply dt_here))); (case hn => rfl))); (case hd => rfl)) | (apply v_box; (case hx => rfl); (case hz => rfl); (case hd => rfl); intro b) | fail)
  refine v_call (μ1 := []) rfl ql (List.Perm.refl _) rfl ?_
  rintro _ G1 _ - ⟨hG1, rfl, b, rfl, hb⟩
  subst hG1
  cases b
  rotate_left
  · repeat' (first | apply v_seq | apply v_region | apply v_nil | (apply v_pure; (case hop => (apply p_assign <;> rfl)); (case hd => rfl)) | (apply v_condT; (case hc => rfl)) | (apply v_callJ (hs := qa _ (GH.le_refl _)); (case ha => rfl); (case hd => rfl)) | fail)
    refine v_ret [] (outsA1 rfl rfl) (by repeat (exact List.nil_sublist _)) ?_
    rfl
  obtain ⟨b1, b2, b3⟩ := hb rfl
  have hgood : CheckP H → Good 40 H := fun hC => good_check (n := 40) hC b2 b3 hoka hokc
  have hrl := recs_len (H := H)
  have qh := head_s hT hC f hh hgood (Nat.le_refl _) hfw (by omega) (fun h x hx => (recs_light h b1 x hx).1)
  repeat' (first | apply v_seq | apply v_region | apply v_nil | apply v_skip | (apply v_pure; (case hop => (apply p_move <;> rfl)); (case hd => rfl)) | (apply v_condF; (case hc => rfl)) | (apply v_read; (case hop => (apply r_loadNo; (case hx => rfl); (case h => (repeat (exact mhd _))); (case hd => (repeat (first | with_reducible exact dt_nil | apply dt_here))); (case hn => rfl))); (case hd => rfl)) | fail)
  refine v_call (μ1 := []) rfl qh (List.Perm.refl _) rfl ?_
  rintro _ G2 _ hle2 ⟨rfl, v2, rfl, s2⟩
  have qa2 := qa _ hle2
  have qn2 := has20_s (G := G2) f (l := []) Sl.nil
  have hh2 := hh.le hle2
  by_cases hf : f = 1 ∨ f = 2
  rotate_left
  · have e1 : headNo f H = 8 := by unfold headNo; rw [if_neg hf]
    have e2 : hasF f [] = 8 := by unfold hasF; rw [if_neg hf]
    rw [e1, if_neg (by decide)] at s2
    rw [e2] at qn2
    rw [e1]
    obtain ⟨A3, c3, rfl, -⟩ := id s2.openInt
    repeat' (first | apply v_seq | apply v_region | apply v_nil | apply v_skip | (apply v_take; (case hg => rfl)) | (apply v_pass; (case hg => rfl); (case hn => rfl); (case hd => rfl)) | (apply v_pure; (case hop => first | (apply p_move <;> rfl) | (apply p_eqs <;> rfl) | (apply p_eq <;> rfl) | (apply p_ne <;> rfl) | (apply p_assign <;> rfl) | (apply p_pickT <;> rfl) | (apply p_pickF <;> rfl) | (apply p_lenSlice <;> rfl) | (apply p_extract0 <;> rfl) | (apply p_extract1 <;> rfl) | fail); (case hd => rfl)) | (apply v_condF; (case hc => rfl)) | (apply v_cond; (case hc => rfl); all_goals (intro h; (try simp only [reduceCtorEq, zzz] at h); first | (exfalso; omega) | skip)) | (apply v_guardB; (case h1 => rfl); (case h2 => rfl); all_goals (intro h; (try simp only [reduceCtorEq, zzz] at h); first | (exfalso; omega) | skip)) | (apply v_callJ (hs := qn2); (case ha => rfl); (case hd => rfl)) | (apply v_callJ (hs := qa2); (case ha => rfl); (case hd => rfl)) | fail)
    all_goals first
      | (refine v_ret [] (outsA1 rfl rfl) (by repeat (exact List.nil_sublist _)) ?_
         rfl)
      | skip
    all_goals vx_show
  have e2 : hasF f [] = 0 := by unfold hasF; rw [if_pos hf]; rfl
  rw [e2] at qn2
  by_cases hck : CheckP H
  rotate_left
  · have e1 : headNo f H = 3 := by unfold headNo; rw [if_pos hf, if_neg hck]
    rw [e1, if_neg (by decide)] at s2
    rw [e1]
    have qk := rCheckNo_s hh2 hck
    obtain ⟨A3, c3, rfl, -⟩ := id s2.openInt
    repeat' (first | apply v_seq | apply v_region | apply v_nil | apply v_skip | (apply v_take; (case hg => rfl)) | (apply v_pure; (case hop => first | (apply p_move <;> rfl) | (apply p_eqs <;> rfl) | (apply p_eq <;> rfl) | (apply p_ne <;> rfl) | (apply p_assign <;> rfl) | (apply p_pickT <;> rfl) | (apply p_not <;> rfl) | (apply p_lenSlice <;> rfl) | (apply p_extract0 <;> rfl) | (apply p_extract1 <;> rfl) | fail); (case hd => rfl)) | (apply v_condT; (case hc => rfl)) | (apply v_cond; (case hc => rfl); all_goals (intro h; (try simp only [reduceCtorEq, zzz] at h); first | (exfalso; omega) | skip)) | (apply v_callJ (hs := qn2); (case ha => rfl); (case hd => rfl)) | (apply v_callJ (hs := qk); (case ha => rfl); (case hd => rfl)) | (apply v_callJ (hs := qa2); (case ha => rfl); (case hd => rfl)) | (apply v_read; (case hop => (apply r_loadNo; (case hx => rfl); (case h => (repeat (exact mhd _))); (case hd => (repeat (first | with_reducible exact dt_nil | apply dt_here))); (case hn => rfl))); (case hd => rfl)) | fail)
    all_goals first
      | (refine v_ret [] (outsA1 rfl rfl) (by repeat (exact List.nil_sublist _)) ?_
         rfl)
      | skip
    all_goals vx_show
  have e1 : headNo f H = errsF f (recsOf H) := by unfold headNo; rw [if_pos hf, if_pos hck]
  have e3 : hasF f (recsOf H) = errsF f (recsOf H) := by unfold hasF; rw [if_pos hf]
  have qk := hCheck_s hh2 (hgood hck)
  have qr := records20_s hh2 (hgood hck) (Nat.le_refl _)
  rw [e1] at s2 ⊢
  obtain ⟨A3, c3, rfl, -⟩ : ∃ A c, v2 = .slice A (if errsF f (recsOf H) = 0 then fileB encF f (recsOf H).length (recsOf H) else []).length c ∧ True := by
    obtain ⟨A, c, h, -⟩ := id s2.openInt
    exact ⟨A, c, h, trivial⟩
  repeat' (first | apply v_seq | apply v_region | apply v_nil | apply v_skip | (apply v_take; (case hg => rfl)) | (apply v_pure; (case hop => first | (apply p_move <;> rfl) | (apply p_eqs <;> rfl) | (apply p_assign <;> rfl) | (apply p_pickT <;> rfl) | (apply p_not <;> rfl) | (apply p_extract0 <;> rfl) | (apply p_extract1 <;> rfl) | fail); (case hd => rfl)) | (apply v_condT; (case hc => rfl)) | (apply v_condF; (case hc => rfl)) | (apply v_callJ (hs := qn2); (case ha => rfl); (case hd => rfl)) | (apply v_callJ (hs := qk); (case ha => rfl); (case hd => rfl)) | (apply v_read; (case hop => (apply r_loadNo; (case hx => rfl); (case h => (repeat (exact mhd _))); (case hd => (repeat (first | with_reducible exact dt_nil | apply dt_here))); (case hn => rfl))); (case hd => rfl)) | fail)
  refine v_call (μ1 := []) rfl qr (List.Perm.refl _) rfl ?_
  rintro v4 G4 ν4 hle4 hg4
  refine v_frzP ν4 (List.Perm.refl _) ?_
  intro G5 hle5 hG5
  have hrs := hg4.rs hle5 hG5
  have hle25 := GH.le_trans hle4 hle5
  have q5 := has20_s f hrs
  rw [e3] at q5
  have qa5 := qa _ (GH.le_trans hle2 hle25)
  have s5 := s2.mono hle25
  by_cases h0 : errsF f (recsOf H) = 0
  rotate_left
  · rw [if_neg h0] at s5 ⊢
    generalize errsF f (recsOf H) = e at *
    repeat' (first | apply v_seq | apply v_region | apply v_nil | (apply v_take; (case hg => rfl)) | (apply v_pure; (case hop => first | (apply p_move <;> rfl) | (apply p_eqs <;> rfl) | (apply p_ne <;> rfl) | (apply p_assign <;> rfl) | (apply p_pickT <;> rfl) | (apply p_lenSlice <;> rfl) | fail); (case hd => rfl)) | (apply v_cond; (case hc => rfl); all_goals (intro h; (try simp only [reduceCtorEq, zzz] at h); first | (exfalso; omega) | skip)) | (apply v_callJ (hs := q5); (case ha => rfl); (case hd => rfl)) | (apply v_callJ (hs := qa5); (case ha => rfl); (case hd => rfl)) | fail)
    all_goals first
      | (exfalso; omega)
      | (refine v_ret [] (outsA1 rfl rfl) (by repeat (exact List.nil_sublist _)) ?_
         rfl)
      | skip
    all_goals vx_show
  have hok := recs_okF hck b1 h0
  have q6 := file_s (more := []) (hh2.le hle25) (hgood hck) (Nat.le_refl _) hf (mv := .slice none 0 0) Sl.nil (by decide) (by rw [List.append_nil]; exact hok) (by omega)
  rw [List.append_nil] at q6
  rw [if_pos h0] at s5 ⊢
  rw [h0] at q5 ⊢
  repeat' (first | apply v_seq | apply v_region | apply v_nil | apply v_skip | (apply v_take; (case hg => rfl)) | (apply v_pure; (case hop => first | (apply p_move <;> rfl) | (apply p_eqs <;> rfl) | (apply p_nes <;> rfl) | (apply p_assign <;> rfl) | fail); (case hd => rfl)) | (apply v_condF; (case hc => rfl)) | (apply v_callJ (hs := q5); (case ha => rfl); (case hd => rfl)) | (apply v_read; (case hop => (apply r_loadNo; (case hx => rfl); (case h => (repeat (exact mhd _))); (case hd => (repeat (first | with_reducible exact dt_nil | apply dt_here))); (case hn => rfl))); (case hd => rfl)) | fail)
  refine v_call (μ1 := []) rfl q6 (List.Perm.refl _) rfl ?_
  rintro v7 G7 ν7 hle7 ⟨hb7, hg7⟩
  refine v_frzP ν7 (List.Perm.refl _) ?_
  intro G8 hle8 hG8
  have s8 := hg7.ints hG8 (byteL.wf hb7)
  have hle58 := GH.le_trans hle7 hle8
  have q9 := bSame_s (s5.mono hle58) s8
  rw [decide_eq_true rfl] at q9
  have qa8 := qa _ (GH.le_trans (GH.le_trans hle2 hle25) hle58)
  obtain ⟨A8, c8, rfl, -⟩ := id s8.openInt
  repeat' (first | apply v_nil | (apply v_take; (case hg => rfl)) | (apply v_pure; (case hop => first | (apply p_move <;> rfl) | (apply p_assign <;> rfl) | (apply p_pickT <;> rfl) | fail); (case hd => rfl)) | (apply v_callJ (hs := q9); (case ha => rfl); (case hd => rfl)) | (apply v_callJ (hs := qa8); (case ha => rfl); (case hd => rfl)) | fail)
  all_goals
    (refine v_ret [] (outsA1 rfl rfl) (by repeat (exact List.nil_sublist _)) ?_
     rfl)
theorem segmHeads_law {W : World} {v0 v1 : Value} (hT : TabsG (ghost W) ∧ CrcG (ghost W)) (g0 : IsInt v0) (g1 : ∃ (y : Hd) (cs : List Value), v1 = .agg cs.toArray ∧ HdV (ghost W) y cs) : LawCon Tryz.prog 3 #[v0, v1] W := by
  obtain ⟨f, rfl, hf⟩ := g0
  obtain ⟨H, L, rfl, hh⟩ := g1
  refine segmHeads_main hT.1 hT.2 f ?_ hh
  simp [Lit.wf, IntKind.min, IntKind.max, IntKind.signed, IntKind.bits] at hf
  omega
theorem clos_laid : laidOutB Tryz.prog = true := by kernel_rfl
theorem clos_rowed : mapsRowed Tryz.prog = true := by kernel_rfl
theorem clos_heard : Tryz.prog.stopsHeard = true := by kernel_rfl
theorem clos_may : Tryz.prog.mayEnter = true := by kernel_rfl
theorem clos_lifts : (Rows.segmHeadsRow.lifted == Tryz.prog.liftsFinal) = true := by kernel_rfl
theorem clos_make : (Tryz.prog.make == some Rows.segmHeadsRow.make) = true := by kernel_rfl
theorem clos_plain : (Rows.segmHeadsRow.plainKeys == Tryz.prog.plainKeys) = true := by kernel_rfl
theorem clos_main : Tryz.prog.mainIs = some (true, "ff985d4a2c195d2b053ff752d8f9403905b3d56cfab988831be32c96f38effc7".toList) := by kernel_rfl
theorem clos_looks : true = Tryz.prog.looks [] := by kernel_rfl
theorem segmHeads_own : ownKnob Tryz.prog.godebug = none := by kernel_rfl
theorem segmHeads_laidOut : laidOutB Tryz.prog = true := clos_laid
theorem segmHeads_spec : LawSpec Rows.segmHeadsSpec 2 := ⟨rfl, fun H ds h => by match ds, h with | [d0, d1], _ => rfl⟩
set_option maxRecDepth 100000 in
theorem segmHeads_lifted (os : Os) (started : os.Started) (H : Type) (enc : TypeId × Value → H) :
    ReturnsInHanded {} Tryz.checked os 3 .any (fun w args => (Rows.segmHeadsSpec.pre enc Tryz.prog Tryz.f3 Rows.segmHeadsRow.domain false w args ∧ laidMetH Tryz.prog tabsLaid3 w) ∧ sizedMet enc Tryz.prog Tryz.f3 (OpenSpec.ofChange Rows.segmHeadsSpec) false w args)
      (Rows.segmHeadsSpec.post enc Tryz.prog Tryz.f3 false true false false) := by
  refine returnsInHanded_of_change_and (C := Tryz.checked) (X := fun w _ => laidMetH Tryz.prog tabsLaid3 w) (fun _ _ _ hh h => h.of_heap hh) segmHeads_own started (by kernel_rfl) Tryz.func3
    (ChangeSpec.witness_shaped (enc := enc) (C := Tryz.checked) (os := os) (X := fun w _ => laidMetH Tryz.prog tabsLaid3 w) false (World.laidAll Tryz.prog os tabsLaid3) #[.int .i64 0, .agg #[.int .i64 0, .int .i64 0, .int .i64 0, .slice none 0 0, .slice none 0 0, .slice none 0 0]] 8 (World.laidAll_os _ _ _)
      (World.shaped_of_ZipB (by kernel_rfl) (by kernel_rfl)) (by kernel_rfl) (by kernel_rfl) (by kernel_rfl)
      (by rw [MakeChecks.laidMetH_plain _ _ _ tabs3_plain]; exact laidMet_laidAll _ (by kernel_rfl) (by kernel_rfl))) ?_
  intro W base args ds gs before hval0 hW hcnd _ hL _
  have hval : ∀ (j : Nat) t v, Tryz.f3.params[j]? = some t → args[j]? = some v → Value.okWide Tryz.prog W .any base t v := hval0
  refine law_post segmHeads_laidOut Tryz.underlying4 rfl segmHeads_spec rfl (by kernel_rfl) hW ?_
  obtain ⟨p, q, hA0, hV, rfl, hfz, hnd⟩ := hW
  have hA : DataW.TrodAll enc Tryz.prog W 0 (fun _ => true) true Tryz.f3.params.toList args.toList ds p := hA0
  rw [Tryz.params3] at hA hval
  obtain ⟨v0, vs0, d0, ds0, p0, q0, hargs, rfl, rfl, h0, r0⟩ := trodAll_cons hA
  obtain ⟨v1, vs1, d1, ds1, p1, q1, rfl, rfl, rfl, h1, r1⟩ := trodAll_cons r0
  obtain ⟨rfl, rfl, rfl⟩ := trodAll_nil r1
  obtain rfl : args = #[v0, v1] := by cases args; simp_all
  have g0 := arg_t3 (hval 0 3 v0 rfl rfl) h0
  have g1 := arg_t27 (hval 1 27 v1 rfl rfl) h1
  exact segmHeads_law (tabs3_of_laid hL) g0 g1
theorem segmHeads_c_inPlace : (Rows.segmHeadsRow.inPlace == Tryz.prog.inPlace 3) = true := by kernel_rfl
theorem segmHeads_c_unfollowed : (Rows.segmHeadsRow.unfollowed == Tryz.prog.unfollowed 3) = true := by kernel_rfl
theorem segmHeads_c_recurses : (Rows.segmHeadsRow.recurses == Tryz.prog.recurses 3) = true := by kernel_rfl
theorem segmHeads_c_named : (Rows.segmHeadsRow.named == Tryz.prog.varsNamed 3) = true := by kernel_rfl
theorem segmHeads_c_lifted : (Rows.segmHeadsRow.lifted == Tryz.prog.liftsFinal) = true := clos_lifts
theorem segmHeads_c_make : (Tryz.prog.make == some Rows.segmHeadsRow.make) = true := clos_make
theorem segmHeads_c_plainKeys : (Rows.segmHeadsRow.plainKeys == Tryz.prog.plainKeys) = true := clos_plain
theorem segmHeads_closed : joinedFacts Tryz.prog 3 Tryz.f3 Rows.segmHeadsSpec Rows.segmHeadsRow = true := by
  unfold joinedFacts
  rw [clos_laid, clos_rowed, clos_heard, clos_may, segmHeads_c_inPlace, segmHeads_c_unfollowed, segmHeads_c_recurses, segmHeads_c_named, segmHeads_c_lifted, segmHeads_c_make, segmHeads_c_plainKeys]
  kernel_rfl
theorem segmHeads_over : Rows.segmHeadsRow.holds Tryz.pinned (OpenSpec.ofChange Rows.segmHeadsSpec) :=
  OpenClaim.holds_of_wide 3 Tryz.f3 rfl rfl rfl rfl rfl rfl rfl ⟨rfl, rfl, rfl, rfl, rfl⟩ rfl rfl rfl rfl rfl (by kernel_rfl) Tryz.func3 segmHeads_closed
    (of_decide_eq_true (by kernel_rfl)) (by unfold Func.isWrapper; first | (rw [if_pos (by decide +kernel)]; kernel_rfl) | (rw [if_neg (by decide +kernel)]; exact ⟨rfl, rfl⟩))
    (fun os started H enc _ => segmHeads_lifted os started H enc)
theorem segmHeads_holds : Rows.SegmHeadsSaid := segmHeads_over
theorem segmHeads_c_wft : Rows.segmHeadsRow.wfByText (OpenSpec.ofChange Rows.segmHeadsSpec) = true := by kernel_rfl
theorem segmHeads_c_func : Tryz.prog.funcNamed Rows.segmHeadsRow.func = some 3 := by kernel_rfl
theorem segmHeads_c_stand : ([3, 27].all fun u => !Tryz.prog.wantsStandIn u) = true := by kernel_rfl
theorem segmHeads_c_goes : false = Rows.segmHeadsRow.goesBy Tryz.prog := by kernel_rfl
theorem segmHeadsCard_holds : Rows.SegmHeadsCardSaid :=
  Claim7.holds_tied_plain_at .later [] [.data, .data, .pinned] true (true, "ff985d4a2c195d2b053ff752d8f9403905b3d56cfab988831be32c96f38effc7") true segmHeads_holds (fun _ h => by cases h) segmHeads_c_wft (fun _ h => by cases h) segmHeads_row_tie rfl ⟨rfl, rfl⟩ clos_main rfl
    (fun f fn hf hfn => by
      obtain rfl : f = 3 := Option.some.inj (segmHeads_c_func.symm.trans hf) |>.symm
      obtain rfl : fn = Tryz.f3 := (Option.some.inj (Tryz.func3.symm.trans hfn)).symm
      exact ⟨clos_looks, fun j t ht => by
        rw [Tryz.params3] at ht
        have hm : t ∈ [3, 27] := by simpa using Array.mem_of_getElem? ht
        exact (show Tryz.prog.wantsStandIn t = false by simpa using List.all_eq_true.1 segmHeads_c_stand t hm)⟩)
    segmHeads_c_goes
end Go.Proofs.YtpemabgfmnhhnaaGreatDoor
