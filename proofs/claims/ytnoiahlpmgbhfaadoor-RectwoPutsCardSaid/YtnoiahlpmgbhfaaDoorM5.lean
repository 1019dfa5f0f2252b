/-
  rectwo (layer 17), the eighth part: the law RectwoGets.
-/
import Derived.Test.YtnoiahlpmgbhfaaDoorM4
import Derived.Test.YtnoiahlpmgbhfaaDoorTie
import Derived.Test.YtnoiahlpmgbhfaaDoorCards
import Derived.Lay
import Derived.LaidMore
import Derived.SevenTiedAt
import Derived.Stop.Joined
set_option linter.unusedSimpArgs false
set_option linter.unusedVariables false
namespace Go.Proofs.YtnoiahlpmgbhfaaDoor
open Go.Vx Go.ChangeShapes Go.WideShapes Go.ChangeAt Go.RowKit
theorem zeroRc_v (G : GH) : RcV G zeroRc (.agg zeroRL.toArray) := ⟨_, rfl, Sl.nil⟩
theorem rectwoGets_main {W : World} (hT : TabsG (ghost W)) (f : Int) {l : List Int} {v0 : Value} (hs : Sl (ghost W) 1 (IntR .u8) v0 l) : LawCon Tryd.prog 7 #[.int .i64 f, v0] W := by
  unfold LawCon
  generalize ghost W = G at *
  have qa := fun G' (h : GH.le G G') => awake17_s (hT.le h)
  obtain ⟨A, c, rfl, hlc, hcm, -⟩ := id hs.openInt
  have hby : byteS (some l) := fun r hr x hx => by cases hr; exact sl_byte hs x hx
  refine v_enter Tryd.func7 rfl Tryd.ntmps7 rfl (fun B => ?_)
  by_cases hl : 2000 < l.length
  · repeat' (first | apply v_seq | apply v_region | apply v_nil | (apply v_pure; (case hop => first | (apply p_move <;> rfl) | (apply p_gt <;> rfl) | (apply p_assign <;> rfl) | (apply p_lenSlice <;> rfl) | fail); (case hd => rfl)) | (apply v_cond; (case hc => rfl); all_goals (intro h; (try simp only [reduceCtorEq, dec_true, dec_false, decide_eq_true_eq, decide_eq_false_iff_not, Bool.not_eq_true', Bool.not_eq_false', Option.isNone_iff_eq_none, beq_true, beq_false, beq_iff_eq, beq_eq_false_iff_ne, ne_eq, decide_eq_decide, Bool.not_eq_true, Bool.not_eq_false, Decidable.not_not] at h); first | (exfalso; omega) | skip)) | (apply v_callJ (hs := qa _ (GH.le_refl _)); (case ha => rfl); (case hd => rfl)) | fail)
    refine v_ret [] (outsA1 rfl rfl) (by repeat (first | exact List.Sublist.refl _ | fail)) ?_
    rfl
  repeat' (first | apply v_seq | apply v_region | apply v_nil | apply v_skip | (apply v_pure; (case hop => first | (apply p_move <;> rfl) | (apply p_gt <;> rfl) | (apply p_assign <;> rfl) | (apply p_lenSlice <;> rfl) | fail); (case hd => rfl)) | (apply v_cond; (case hc => rfl); all_goals (intro h; (try simp only [reduceCtorEq, dec_true, dec_false, decide_eq_true_eq, decide_eq_false_iff_not, Bool.not_eq_true', Bool.not_eq_false', Option.isNone_iff_eq_none, beq_true, beq_false, beq_iff_eq, beq_eq_false_iff_ne, ne_eq, decide_eq_decide, Bool.not_eq_true, Bool.not_eq_false, Decidable.not_not] at h); first | (exfalso; omega) | skip)) | fail)
  by_cases hf : f = 1 ∨ f = 2
  rotate_left
  · have qg := getN_s (G := G) hf (.slice A l.length c)
    have qt := refRecSame_s (zeroRc_v G) (zeroRc_v G)
    rw [decide_eq_true rfl] at qt
    unfold zeroRL recL at qg
    repeat' (first | apply v_seq | apply v_region | apply v_nil | (apply v_take; (case hg => rfl)) | (apply v_pass; (case hg => rfl); (case hn => rfl); (case hd => rfl)) | (apply v_pure; (case hop => first | (apply p_move <;> rfl) | (apply p_eqs <;> rfl) | (apply p_lt <;> rfl) | (apply p_gt <;> rfl) | (apply p_assign <;> rfl) | (apply p_pickT <;> rfl) | (apply p_pickF <;> rfl) | (apply p_extract0 <;> rfl) | (apply p_extract1 <;> rfl) | (apply p_build; (case hz => rfl); (case hv => (simp only [List.map_cons, List.map_nil]; repeat (first | with_reducible exact evs_nil | fail))); (case hb => (apply bldL; repeat (first | exact bld_nil | fail)))) | fail); (case hd => rfl)) | (apply v_condT; (case hc => rfl)) | (apply v_cond; (case hc => rfl); all_goals (intro h; (try simp only [reduceCtorEq, dec_true, dec_false, decide_eq_true_eq, decide_eq_false_iff_not, Bool.not_eq_true', Bool.not_eq_false', Option.isNone_iff_eq_none, beq_true, beq_false, beq_iff_eq, beq_eq_false_iff_ne, ne_eq, decide_eq_decide, Bool.not_eq_true, Bool.not_eq_false, Decidable.not_not] at h); first | (exfalso; omega) | skip)) | (apply v_guardB; (case h1 => rfl); (case h2 => rfl); all_goals (intro h; (try simp only [reduceCtorEq, dec_true, dec_false, decide_eq_true_eq, decide_eq_false_iff_not, Bool.not_eq_true', Bool.not_eq_false', Option.isNone_iff_eq_none, beq_true, beq_false, beq_iff_eq, beq_eq_false_iff_ne, ne_eq, decide_eq_decide, Bool.not_eq_true, Bool.not_eq_false, Decidable.not_not] at h); first | skip)) | (apply v_callJ (hs := qg); (case ha => rfl); (case hd => rfl)) | (apply v_callJ (hs := qt); (case ha => rfl); (case hd => rfl)) | (apply v_callJ (hs := qa _ (GH.le_refl _)); (case ha => rfl); (case hd => rfl)) | (apply v_read; (case hop => first | (apply r_loadNo; (case hx => rfl); (case h => (repeat (first | exact List.Mem.head _ | fail))); (case hd => (repeat (first | with_reducible exact dt_nil | apply dt_here | fail))); (case hn => rfl)) | fail); (case hd => rfl)) | (apply v_alloc; (case hz => rfl); (case hd => rfl); intro b) | (apply v_store; (case hp => rfl); (case hx => rfl); (case hc => rfl); (case hsz => rfl); (case h1 => rfl); (case hb => (repeat (first | exact List.Mem.head _ | fail))); (case hfit => first | exact Nat.le_of_ble_eq_true rfl | fail); (case hov => (first | ((repeat (first | with_reducible exact ov_nil | apply ov_cons | fail)); done) | fail)); (case hu => repeat (first | exact Upd.here _ _ | fail))) | fail)
    all_goals
      (refine v_ret [] (outsA1 rfl rfl) (by repeat (first | exact List.nil_sublist _ | fail)) ?_
       rfl)
  obtain rfl | rfl := hf
  · refine v_call (μ1 := []) (μ2 := _) rfl (get1_s hT hs (by omega)) (List.Perm.refl _) rfl ?_
    rintro _ G1 _ hle1 ⟨rfl, x, v, e, rfl, hx, hcase⟩
    obtain ⟨hok, rfl, rfl⟩ | ⟨hno, rfl, he⟩ := hcase
    · have hed := enc_dec hby hok
      have hok' := decX_ok hby
      obtain ⟨-, -, ho⟩ := hok
      have hfz := fits0 (older0 ho).1
      have hk : 1 ≤ (decX (some l)).kind ∧ (decX (some l)).kind ≤ 4 := (rec0 (older0 ho).1).1
      generalize decX (some l) = x at *
      obtain ⟨jv, rfl, hj⟩ := id hx
      obtain ⟨A2, c2, rfl, -⟩ := hj.openInt
      have qh := refHasV_s 1 hx hok'
      rw [hasI_one, ho] at qh
      unfold recL
      repeat' (first | apply v_seq | apply v_region | apply v_nil | apply v_skip | (apply v_take; (case hg => rfl)) | (apply v_pure; (case hop => first | (apply p_move <;> rfl) | (apply p_eqs <;> rfl) | (apply p_nes <;> rfl) | (apply p_lt <;> rfl) | (apply p_gt <;> rfl) | (apply p_assign <;> rfl) | (apply p_pickF <;> rfl) | (apply p_extract0 <;> rfl) | (apply p_extract1 <;> rfl) | fail); (case hd => rfl)) | (apply v_condF; (case hc => rfl)) | (apply v_cond; (case hc => rfl); all_goals (intro h; (try simp only [reduceCtorEq, dec_true, dec_false, decide_eq_true_eq, decide_eq_false_iff_not, Bool.not_eq_true', Bool.not_eq_false', Option.isNone_iff_eq_none, beq_true, beq_false, beq_iff_eq, beq_eq_false_iff_ne, ne_eq, decide_eq_decide, Bool.not_eq_true, Bool.not_eq_false, Decidable.not_not] at h); first | (exfalso; omega) | skip)) | (apply v_guardB; (case h1 => rfl); (case h2 => rfl); all_goals (intro h; (try simp only [reduceCtorEq, dec_true, dec_false, decide_eq_true_eq, decide_eq_false_iff_not, Bool.not_eq_true', Bool.not_eq_false', Option.isNone_iff_eq_none, beq_true, beq_false, beq_iff_eq, beq_eq_false_iff_ne, ne_eq, decide_eq_decide, Bool.not_eq_true, Bool.not_eq_false, Decidable.not_not] at h); first | (exfalso; omega) | skip)) | (apply v_callJ (hs := qh); (case ha => rfl); (case hd => rfl)) | (apply v_read; (case hop => first | (apply r_loadNo; (case hx => rfl); (case h => (repeat (first | exact List.Mem.head _ | fail))); (case hd => (repeat (first | with_reducible exact dt_nil | apply dt_here | fail))); (case hn => rfl)) | fail); (case hd => rfl)) | (apply v_alloc; (case hz => rfl); (case hd => rfl); intro b) | (apply v_store; (case hp => rfl); (case hx => rfl); (case hc => rfl); (case hsz => rfl); (case h1 => rfl); (case hb => (repeat (first | exact List.Mem.head _ | fail))); (case hfit => first | exact Nat.le_of_ble_eq_true rfl | fail); (case hov => (first | ((repeat (first | with_reducible exact ov_nil | apply ov_cons | fail)); done) | fail)); (case hu => repeat (first | exact Upd.here _ _ | fail))) | fail)
      refine v_call (μ1 := []) (μ2 := _) rfl (rone_s hx hok' hfz.1 hfz.2.1 hk) (List.Perm.refl _) rfl ?_
      rintro r G3 ν3 - ⟨hle3, hg⟩
      refine v_frz ν3 (by repeat (first | exact PickA.here _ | fail)) ?_
      intro G4 hle4 hG4
      have h1 := hg.ints hG4 (by rw [hed]; exact slwf hs)
      rw [hed] at h1
      have qs := bSame_s (((hs.mono hle1).mono hle3).mono hle4) h1
      have qs' := bSame_s h1 (((hs.mono hle1).mono hle3).mono hle4)
      rw [decide_eq_true rfl] at qs qs'
      have hle : GH.le G G4 := GH.le_trans (GH.le_trans hle1 hle3) hle4
      repeat' (first | apply v_nil | (apply v_take; (case hg => rfl)) | (apply v_pure; (case hop => first | (apply p_move <;> rfl) | (apply p_assign <;> rfl) | (apply p_pickT <;> rfl) | fail); (case hd => rfl)) | (apply v_callJ (hs := qs'); (case ha => rfl); (case hd => rfl)) | (apply v_callJ (hs := qa _ hle); (case ha => rfl); (case hd => rfl)) | fail)
      refine v_ret [] (outsA1 rfl rfl) (by repeat (first | exact List.nil_sublist _ | fail)) ?_
      rfl
    · obtain ⟨jv, rfl, hj⟩ := id hx
      obtain ⟨A2, c2, rfl, -⟩ := hj.openInt
      have qt := refRecSame_s hx (zeroRc_v G1)
      rw [decide_eq_true rfl] at qt
      unfold recL
      repeat' (first | apply v_seq | apply v_region | apply v_nil | apply v_skip | (apply v_take; (case hg => rfl)) | (apply v_pure; (case hop => first | (apply p_move <;> rfl) | (apply p_lt <;> rfl) | (apply p_gt <;> rfl) | (apply p_ne <;> rfl) | (apply p_assign <;> rfl) | (apply p_pickT <;> rfl) | (apply p_pickF <;> rfl) | (apply p_extract0 <;> rfl) | (apply p_extract1 <;> rfl) | (apply p_build; (case hz => rfl); (case hv => (simp only [List.map_cons, List.map_nil]; repeat (first | with_reducible exact evs_nil | fail))); (case hb => (apply bldL; repeat (first | exact bld_nil | fail)))) | fail); (case hd => rfl)) | (apply v_cond; (case hc => rfl); all_goals (intro h; (try simp only [reduceCtorEq, dec_true, dec_false, decide_eq_true_eq, decide_eq_false_iff_not, Bool.not_eq_true', Bool.not_eq_false', Option.isNone_iff_eq_none, beq_true, beq_false, beq_iff_eq, beq_eq_false_iff_ne, ne_eq, decide_eq_decide, Bool.not_eq_true, Bool.not_eq_false, Decidable.not_not] at h); first | (exfalso; omega) | skip)) | (apply v_guardB; (case h1 => rfl); (case h2 => rfl); all_goals (intro h; (try simp only [reduceCtorEq, dec_true, dec_false, decide_eq_true_eq, decide_eq_false_iff_not, Bool.not_eq_true', Bool.not_eq_false', Option.isNone_iff_eq_none, beq_true, beq_false, beq_iff_eq, beq_eq_false_iff_ne, ne_eq, decide_eq_decide, Bool.not_eq_true, Bool.not_eq_false, Decidable.not_not] at h); first | (exfalso; omega) | skip)) | (apply v_callJ (hs := qt); (case ha => rfl); (case hd => rfl)) | (apply v_callJ (hs := qa _ hle1); (case ha => rfl); (case hd => rfl)) | (apply v_read; (case hop => first | (apply r_loadNo; (case hx => rfl); (case h => (repeat (first | exact List.Mem.head _ | fail))); (case hd => (repeat (first | with_reducible exact dt_nil | apply dt_here | fail))); (case hn => rfl)) | fail); (case hd => rfl)) | (apply v_alloc; (case hz => rfl); (case hd => rfl); intro b) | (apply v_store; (case hp => rfl); (case hx => rfl); (case hc => rfl); (case hsz => rfl); (case h1 => rfl); (case hb => (repeat (first | exact List.Mem.head _ | fail))); (case hfit => first | exact Nat.le_of_ble_eq_true rfl | fail); (case hov => (first | ((repeat (first | with_reducible exact ov_nil | apply ov_cons | fail)); done) | fail)); (case hu => repeat (first | exact Upd.here _ _ | fail))) | fail)
      refine v_ret [] (outsA1 rfl rfl) (by repeat (first | exact List.nil_sublist _ | fail)) ?_
      rfl
  · refine v_call (μ1 := []) (μ2 := _) rfl (get2_s hT hs (by omega)) (List.Perm.refl _) rfl ?_
    rintro _ G1 _ hle1 ⟨rfl, x, v, e, rfl, hx, hcase⟩
    obtain ⟨hok, rfl, rfl⟩ | ⟨hno, rfl, he⟩ := hcase
    · have hed := encT_dec hby hok
      have hok' : (decT (some l)).1.cmd.ok := rdX_ok (numS_b hby _)
      obtain ⟨-, -, -, ho⟩ := hok
      have hfz := fits0 (show recI _ _ _ _ _ _ = 0 from ho)
      have hk : 1 ≤ (decT (some l)).1.kind ∧ (decT (some l)).1.kind ≤ 4 := (rec0 (show recI _ _ _ _ _ _ = 0 from ho)).1
      generalize (decT (some l)).1 = x at *
      obtain ⟨jv, rfl, hj⟩ := id hx
      obtain ⟨A2, c2, rfl, -⟩ := hj.openInt
      have qh := refHasV_s 2 hx hok'
      rw [hasI_two, ho] at qh
      unfold recL
      repeat' (first | apply v_seq | apply v_region | apply v_nil | apply v_skip | (apply v_take; (case hg => rfl)) | (apply v_pure; (case hop => first | (apply p_move <;> rfl) | (apply p_eqs <;> rfl) | (apply p_nes <;> rfl) | (apply p_lt <;> rfl) | (apply p_gt <;> rfl) | (apply p_assign <;> rfl) | (apply p_pickF <;> rfl) | (apply p_extract0 <;> rfl) | (apply p_extract1 <;> rfl) | fail); (case hd => rfl)) | (apply v_condF; (case hc => rfl)) | (apply v_cond; (case hc => rfl); all_goals (intro h; (try simp only [reduceCtorEq, dec_true, dec_false, decide_eq_true_eq, decide_eq_false_iff_not, Bool.not_eq_true', Bool.not_eq_false', Option.isNone_iff_eq_none, beq_true, beq_false, beq_iff_eq, beq_eq_false_iff_ne, ne_eq, decide_eq_decide, Bool.not_eq_true, Bool.not_eq_false, Decidable.not_not] at h); first | (exfalso; omega) | skip)) | (apply v_guardB; (case h1 => rfl); (case h2 => rfl); all_goals (intro h; (try simp only [reduceCtorEq, dec_true, dec_false, decide_eq_true_eq, decide_eq_false_iff_not, Bool.not_eq_true', Bool.not_eq_false', Option.isNone_iff_eq_none, beq_true, beq_false, beq_iff_eq, beq_eq_false_iff_ne, ne_eq, decide_eq_decide, Bool.not_eq_true, Bool.not_eq_false, Decidable.not_not] at h); first | (exfalso; omega) | skip)) | (apply v_callJ (hs := qh); (case ha => rfl); (case hd => rfl)) | (apply v_read; (case hop => first | (apply r_loadNo; (case hx => rfl); (case h => (repeat (first | exact List.Mem.head _ | fail))); (case hd => (repeat (first | with_reducible exact dt_nil | apply dt_here | fail))); (case hn => rfl)) | fail); (case hd => rfl)) | (apply v_alloc; (case hz => rfl); (case hd => rfl); intro b) | (apply v_store; (case hp => rfl); (case hx => rfl); (case hc => rfl); (case hsz => rfl); (case h1 => rfl); (case hb => (repeat (first | exact List.Mem.head _ | fail))); (case hfit => first | exact Nat.le_of_ble_eq_true rfl | fail); (case hov => (first | ((repeat (first | with_reducible exact ov_nil | apply ov_cons | fail)); done) | fail)); (case hu => repeat (first | exact Upd.here _ _ | fail))) | fail)
      refine v_call (μ1 := []) (μ2 := _) rfl (rtwo_s hx hok' hfz.1 hfz.2.1 hk) (List.Perm.refl _) rfl ?_
      rintro r G3 ν3 - ⟨hle3, hg⟩
      refine v_frz ν3 (by repeat (first | exact PickA.here _ | fail)) ?_
      intro G4 hle4 hG4
      have h1 := hg.ints hG4 (by rw [hed]; exact slwf hs)
      rw [hed] at h1
      have qs := bSame_s (((hs.mono hle1).mono hle3).mono hle4) h1
      have qs' := bSame_s h1 (((hs.mono hle1).mono hle3).mono hle4)
      rw [decide_eq_true rfl] at qs qs'
      have hle : GH.le G G4 := GH.le_trans (GH.le_trans hle1 hle3) hle4
      repeat' (first | apply v_nil | (apply v_take; (case hg => rfl)) | (apply v_pure; (case hop => first | (apply p_move <;> rfl) | (apply p_assign <;> rfl) | (apply p_pickT <;> rfl) | fail); (case hd => rfl)) | (apply v_callJ (hs := qs'); (case ha => rfl); (case hd => rfl)) | (apply v_callJ (hs := qa _ hle); (case ha => rfl); (case hd => rfl)) | fail)
      refine v_ret [] (outsA1 rfl rfl) (by repeat (first | exact List.nil_sublist _ | fail)) ?_
      rfl
    · obtain ⟨jv, rfl, hj⟩ := id hx
      obtain ⟨A2, c2, rfl, -⟩ := hj.openInt
      have qt := refRecSame_s hx (zeroRc_v G1)
      rw [decide_eq_true rfl] at qt
      unfold recL
      repeat' (first | apply v_seq | apply v_region | apply v_nil | apply v_skip | (apply v_take; (case hg => rfl)) | (apply v_pure; (case hop => first | (apply p_move <;> rfl) | (apply p_lt <;> rfl) | (apply p_gt <;> rfl) | (apply p_ne <;> rfl) | (apply p_assign <;> rfl) | (apply p_pickT <;> rfl) | (apply p_pickF <;> rfl) | (apply p_extract0 <;> rfl) | (apply p_extract1 <;> rfl) | (apply p_build; (case hz => rfl); (case hv => (simp only [List.map_cons, List.map_nil]; repeat (first | with_reducible exact evs_nil | fail))); (case hb => (apply bldL; repeat (first | exact bld_nil | fail)))) | fail); (case hd => rfl)) | (apply v_cond; (case hc => rfl); all_goals (intro h; (try simp only [reduceCtorEq, dec_true, dec_false, decide_eq_true_eq, decide_eq_false_iff_not, Bool.not_eq_true', Bool.not_eq_false', Option.isNone_iff_eq_none, beq_true, beq_false, beq_iff_eq, beq_eq_false_iff_ne, ne_eq, decide_eq_decide, Bool.not_eq_true, Bool.not_eq_false, Decidable.not_not] at h); first | (exfalso; omega) | skip)) | (apply v_guardB; (case h1 => rfl); (case h2 => rfl); all_goals (intro h; (try simp only [reduceCtorEq, dec_true, dec_false, decide_eq_true_eq, decide_eq_false_iff_not, Bool.not_eq_true', Bool.not_eq_false', Option.isNone_iff_eq_none, beq_true, beq_false, beq_iff_eq, beq_eq_false_iff_ne, ne_eq, decide_eq_decide, Bool.not_eq_true, Bool.not_eq_false, Decidable.not_not] at h); first | (exfalso; omega) | skip)) | (apply v_callJ (hs := qt); (case ha => rfl); (case hd => rfl)) | (apply v_callJ (hs := qa _ hle1); (case ha => rfl); (case hd => rfl)) | (apply v_read; (case hop => first | (apply r_loadNo; (case hx => rfl); (case h => (repeat (first | exact List.Mem.head _ | fail))); (case hd => (repeat (first | with_reducible exact dt_nil | apply dt_here | fail))); (case hn => rfl)) | fail); (case hd => rfl)) | (apply v_alloc; (case hz => rfl); (case hd => rfl); intro b) | (apply v_store; (case hp => rfl); (case hx => rfl); (case hc => rfl); (case hsz => rfl); (case h1 => rfl); (case hb => (repeat (first | exact List.Mem.head _ | fail))); (case hfit => first | exact Nat.le_of_ble_eq_true rfl | fail); (case hov => (first | ((repeat (first | with_reducible exact ov_nil | apply ov_cons | fail)); done) | fail)); (case hu => repeat (first | exact Upd.here _ _ | fail))) | fail)
      refine v_ret [] (outsA1 rfl rfl) (by repeat (first | exact List.nil_sublist _ | fail)) ?_
      rfl
theorem rectwoGets_law {W : World} {v0 v1 : Value} (hT : TabsG (ghost W)) (g0 : IsInt v0) (g1 : ∃ l : List Int, Sl (ghost W) 1 (IntR .u8) v1 l) : LawCon Tryd.prog 7 #[v0, v1] W := by
  obtain ⟨f, rfl, -⟩ := g0
  obtain ⟨l, hs⟩ := g1
  exact rectwoGets_main hT f hs
end Go.Proofs.YtnoiahlpmgbhfaaDoor
/-
  rectwo (layer 17), the ninth part: the law RectwoPuts.
-/
set_option linter.unusedSimpArgs false
set_option linter.unusedVariables false
namespace Go.Proofs.YtnoiahlpmgbhfaaDoor
open Go.Vx Go.ChangeShapes Go.WideShapes Go.ChangeAt Go.RowKit
set_option maxHeartbeats 1000000 in
theorem rectwoPuts_main {W : World} (hT : TabsG (ghost W)) (f : Int) (hfw : -9223372036854775808 ≤ f ∧ f ≤ 9223372036854775807) {x : Rc} {v0 : Value} (hx : RcV (ghost W) x v0) (hc : x.cmd.ok) (hw : x.small) : LawCon Tryd.prog 8 #[.int .i64 f, v0] W := by
  have ql := recLarge_s hx hc
  unfold LawCon
  generalize ghost W = G at *
  have qa := fun G' (h : GH.le G G') => awake17_s (hT.le h)
  have qh := fun G' (h : GH.le G G') (v : Int) => refHasV_s v (hx.le h) hc
  obtain ⟨iv, rfl, hi⟩ := id hx
  have hst := hx
  refine v_enter Tryd.func8 rfl Tryd.ntmps8 rfl (fun B => ?_)
  by_cases hl : x.large
  · rw [decide_eq_true hl] at ql
    repeat' (first | apply v_seq | apply v_region | apply v_nil | (apply v_pure; (case hop => first | (apply p_assign <;> rfl) | fail); (case hd => rfl)) | (apply v_condT; (case hc => rfl)) | (apply v_box (zs := recL x.kind x.round x.node x.index x.cmd iv); (case hx => rfl); (case hz => rfl); (case hd => rfl); intro xb) | (apply v_callJ (hs := ql); (case ha => rfl); (case hd => rfl)) | (apply v_callJ (hs := qa _ (GH.le_refl _)); (case ha => rfl); (case hd => rfl)) | (apply v_read; (case hop => first | (apply r_loadNo; (case hx => rfl); (case h => (repeat (first | exact List.Mem.head _ | fail))); (case hd => (repeat (first | with_reducible exact dt_nil | apply dt_here | fail))); (case hn => rfl)) | fail); (case hd => rfl)) | fail)
    refine v_ret [] (outsA1 rfl rfl) (by repeat (first | exact List.nil_sublist _ | fail)) ?_
    rfl
  rw [decide_eq_false hl] at ql
  have hfit := large_fits hl
  by_cases hf : f = 1 ∨ f = 2
  rotate_left
  · have qp := putN_s hf hx
    repeat' (first | apply v_seq | apply v_region | apply v_nil | apply v_skip | (apply v_take; (case hg => rfl)) | (apply v_pure; (case hop => first | (apply p_move <;> rfl) | (apply p_eqs <;> rfl) | (apply p_eq <;> rfl) | (apply p_ne <;> rfl) | (apply p_assign <;> rfl) | (apply p_pickT <;> rfl) | (apply p_pickF <;> rfl) | (apply p_lenSlice <;> rfl) | (apply p_extract0 <;> rfl) | (apply p_extract1 <;> rfl) | fail); (case hd => rfl)) | (apply v_condF; (case hc => rfl)) | (apply v_cond; (case hc => rfl); all_goals (intro h; (try simp only [reduceCtorEq, dec_true, dec_false, decide_eq_true_eq, decide_eq_false_iff_not, Bool.not_eq_true', Bool.not_eq_false', Option.isNone_iff_eq_none, beq_true, beq_false, beq_iff_eq, beq_eq_false_iff_ne, ne_eq, decide_eq_decide, Bool.not_eq_true, Bool.not_eq_false, Decidable.not_not] at h); first | (exfalso; omega) | skip)) | (apply v_guardB; (case h1 => rfl); (case h2 => rfl); all_goals (intro h; (try simp only [reduceCtorEq, dec_true, dec_false, decide_eq_true_eq, decide_eq_false_iff_not, Bool.not_eq_true', Bool.not_eq_false', Option.isNone_iff_eq_none, beq_true, beq_false, beq_iff_eq, beq_eq_false_iff_ne, ne_eq, decide_eq_decide, Bool.not_eq_true, Bool.not_eq_false, Decidable.not_not] at h); first | (exfalso; omega) | skip)) | (apply v_box (zs := recL x.kind x.round x.node x.index x.cmd iv); (case hx => rfl); (case hz => rfl); (case hd => rfl); intro xb) | (apply v_callJ (hs := ql); (case ha => rfl); (case hd => rfl)) | (apply v_callJ (hs := qp); (case ha => rfl); (case hd => rfl)) | (apply v_callJ (hs := qa _ (GH.le_refl _)); (case ha => rfl); (case hd => rfl)) | (apply v_read; (case hop => first | (apply r_loadNo; (case hx => rfl); (case h => (repeat (first | exact List.Mem.head _ | fail))); (case hd => (repeat (first | with_reducible exact dt_nil | apply dt_here | fail))); (case hn => rfl)) | fail); (case hd => rfl)) | fail)
    all_goals first
      | (exfalso; omega)
      | (refine v_ret [] (outsA1 rfl rfl) (by repeat (first | exact List.nil_sublist _ | fail)) ?_
         rfl)
  obtain rfl | rfl := hf
  · repeat' (first | apply v_seq | apply v_region | apply v_nil | apply v_skip | (apply v_pure; (case hop => first | (apply p_move <;> rfl) | (apply p_assign <;> rfl) | fail); (case hd => rfl)) | (apply v_condF; (case hc => rfl)) | (apply v_box (zs := recL x.kind x.round x.node x.index x.cmd iv); (case hx => rfl); (case hz => rfl); (case hd => rfl); intro xb) | (apply v_callJ (hs := ql); (case ha => rfl); (case hd => rfl)) | (apply v_read; (case hop => first | (apply r_loadNo; (case hx => rfl); (case h => (repeat (first | exact List.Mem.head _ | fail))); (case hd => (repeat (first | with_reducible exact dt_nil | apply dt_here | fail))); (case hn => rfl)) | fail); (case hd => rfl)) | fail)
    refine v_call (μ1 := []) (μ2 := _) rfl (put1_s hT hx hc hl hw) (List.Perm.refl _) rfl ?_
    rintro _ G1 _ hle1 ⟨rfl, b, rfl, hb⟩
    have qh1 := qh G1 hle1 1
    rw [hasI_one] at qh1
    by_cases h0 : olderI x = 0
    rotate_left
    · rw [if_neg h0] at hb
      obtain ⟨A1, c1, rfl, -⟩ := hb.openInt
      generalize olderI x = o at *
      repeat' (first | apply v_seq | apply v_region | apply v_nil | (apply v_take; (case hg => rfl)) | (apply v_pass; (case hg => rfl); (case hn => rfl); (case hd => rfl)) | (apply v_pure; (case hop => first | (apply p_move <;> rfl) | (apply p_eqs <;> rfl) | (apply p_ne <;> rfl) | (apply p_assign <;> rfl) | (apply p_pickT <;> rfl) | (apply p_lenSlice <;> rfl) | (apply p_extract0 <;> rfl) | (apply p_extract1 <;> rfl) | fail); (case hd => rfl)) | (apply v_condT; (case hc => rfl)) | (apply v_cond; (case hc => rfl); all_goals (intro h; (try simp only [reduceCtorEq, dec_true, dec_false, decide_eq_true_eq, decide_eq_false_iff_not, Bool.not_eq_true', Bool.not_eq_false', Option.isNone_iff_eq_none, beq_true, beq_false, beq_iff_eq, beq_eq_false_iff_ne, ne_eq, decide_eq_decide, Bool.not_eq_true, Bool.not_eq_false, Decidable.not_not] at h); first | (exfalso; omega) | skip)) | (apply v_callJ (hs := qh1); (case ha => rfl); (case hd => rfl)) | (apply v_callJ (hs := qa _ hle1); (case ha => rfl); (case hd => rfl)) | (apply v_read; (case hop => first | (apply r_loadNo; (case hx => rfl); (case h => (repeat (first | exact List.Mem.head _ | fail))); (case hd => (repeat (first | with_reducible exact dt_nil | apply dt_here | fail))); (case hn => rfl)) | fail); (case hd => rfl)) | fail)
      refine v_ret [] (outsA1 rfl rfl) (by repeat (first | exact List.nil_sublist _ | fail)) ?_
      rfl
    rw [if_pos h0] at hb
    rw [h0] at qh1 ⊢
    obtain ⟨A1, c1, rfl, -⟩ := id hb.openInt
    have hk : 1 ≤ x.kind ∧ x.kind ≤ 4 := (rec0 ((older0 h0).1)).1
    obtain ⟨hel, hew⟩ := encL_ok h0 hc (slwf hi)
    repeat' (first | apply v_seq | apply v_region | apply v_nil | apply v_skip | (apply v_pass; (case hg => rfl); (case hn => rfl); (case hd => rfl)) | (apply v_pure; (case hop => first | (apply p_move <;> rfl) | (apply p_eqs <;> rfl) | (apply p_nes <;> rfl) | (apply p_assign <;> rfl) | (apply p_pickT <;> rfl) | (apply p_extract0 <;> rfl) | (apply p_extract1 <;> rfl) | fail); (case hd => rfl)) | (apply v_condT; (case hc => rfl)) | (apply v_condF; (case hc => rfl)) | (apply v_callJ (hs := qh1); (case ha => rfl); (case hd => rfl)) | (apply v_read; (case hop => first | (apply r_loadNo; (case hx => rfl); (case h => (repeat (first | exact List.Mem.head _ | fail))); (case hd => (repeat (first | with_reducible exact dt_nil | apply dt_here | fail))); (case hn => rfl)) | fail); (case hd => rfl)) | fail)
    refine v_call (μ1 := []) (μ2 := _) rfl (get1_s (hT.le hle1) hb (by omega)) (List.Perm.refl _) rfl ?_
    rintro _ G2 _ hle2 ⟨rfl, y, yv, e, rfl, hy, hcase⟩
    obtain ⟨-, rfl, rfl⟩ | ⟨hno, -⟩ := hcase
    rotate_left
    · exact absurd (decOk_enc h0 hl) hno
    rw [(dec_enc h0 hl).1] at hy
    obtain ⟨jv, rfl, hj⟩ := id hy
    obtain ⟨A2, c2, rfl, -⟩ := hj.openInt
    have h12 := GH.le_trans hle1 hle2
    unfold recL
    repeat' (first | apply v_seq | apply v_region | apply v_nil | (apply v_pure; (case hop => first | (apply p_move <;> rfl) | (apply p_assign <;> rfl) | (apply p_extract0 <;> rfl) | (apply p_extract1 <;> rfl) | (apply p_sub; (case hx => rfl); (case hy => rfl); (case h => omega)) | fail); (case hd => rfl)) | (apply v_alloc; (case hz => rfl); (case hd => rfl); intro b) | (apply v_store; (case hp => rfl); (case hx => rfl); (case hc => rfl); (case hsz => rfl); (case h1 => rfl); (case hb => (repeat (first | exact List.Mem.head _ | fail))); (case hfit => first | exact Nat.le_of_ble_eq_true rfl | fail); (case hov => (first | ((repeat (first | with_reducible exact ov_nil | apply ov_cons | fail)); done) | fail)); (case hu => repeat (first | exact Upd.here _ _ | fail))) | fail)
    refine v_call (μ1 := []) (μ2 := _) rfl (get2_s (hT.le h12) (hb.mono hle2) (by omega)) (List.Perm.refl _) rfl ?_
    rintro _ G3 _ hle3 ⟨rfl, z, zv, g, rfl, hz, hcase⟩
    obtain ⟨hno, -⟩ | ⟨-, rfl, hg0⟩ := hcase
    · exact absurd hno (not_decT h0)
    obtain ⟨kv, rfl, hkv⟩ := id hz
    obtain ⟨A3, c3, rfl, -⟩ := hkv.openInt
    have h13 := GH.le_trans h12 hle3
    unfold recL
    repeat' (first | apply v_seq | apply v_region | apply v_nil | (apply v_take; (case hg => rfl)) | (apply v_pure; (case hop => first | (apply p_move <;> rfl) | (apply p_eqs <;> rfl) | (apply p_assign <;> rfl) | (apply p_extract0 <;> rfl) | (apply p_extract1 <;> rfl) | fail); (case hd => rfl)) | (apply v_read; (case hop => first | (apply r_loadNo; (case hx => rfl); (case h => (repeat (first | exact List.Mem.head _ | apply List.Mem.tail | fail))); (case hd => (repeat (first | with_reducible exact dt_nil | apply dt_here | fail))); (case hn => rfl)) | fail); (case hd => rfl)) | (apply v_alloc; (case hz => rfl); (case hd => rfl); intro b) | (apply v_store; (case hp => rfl); (case hx => rfl); (case hc => rfl); (case hsz => rfl); (case h1 => rfl); (case hb => (repeat (first | exact List.Mem.head _ | fail))); (case hfit => first | exact Nat.le_of_ble_eq_true rfl | fail); (case hov => (first | ((repeat (first | with_reducible exact ov_nil | apply ov_cons | fail)); done) | fail)); (case hu => repeat (first | exact Upd.here _ _ | fail))) | fail)
    refine v_call (μ1 := []) (μ2 := _) rfl (rone_s (hx.le h13) hc hfit hw hk) (List.Perm.refl _) rfl ?_
    rintro r4 G4 ν4 - ⟨hle4, hg4⟩
    refine v_frz ν4 (by repeat (first | exact PickA.here _ | fail)) ?_
    intro G5 hle5 hG5
    have h5 := hg4.ints hG5 hew
    obtain ⟨A4, c4, rfl, -, -⟩ := hg4.shape
    have qs := bSame_s ((((hb.mono hle2).mono hle3).mono hle4).mono hle5) h5
    rw [decide_eq_true rfl] at qs
    have h15 := GH.le_trans (GH.le_trans h13 hle4) hle5
    have qt := refRecSame_s (((hy.le hle3).le hle4).le hle5) (hx.le h15)
    rw [decide_eq_true rfl] at qt
    repeat' (first | apply v_nil | (apply v_take; (case hg => rfl)) | (apply v_pure; (case hop => first | (apply p_move <;> rfl) | (apply p_eqs <;> rfl) | (apply p_ne <;> rfl) | (apply p_assign <;> rfl) | (apply p_pickT <;> rfl) | fail); (case hd => rfl)) | (apply v_guardB; (case h1 => rfl); (case h2 => rfl); all_goals (intro h; (try simp only [reduceCtorEq, dec_true, dec_false, decide_eq_true_eq, decide_eq_false_iff_not, Bool.not_eq_true', Bool.not_eq_false', Option.isNone_iff_eq_none, beq_true, beq_false, beq_iff_eq, beq_eq_false_iff_ne, ne_eq, decide_eq_decide, Bool.not_eq_true, Bool.not_eq_false, Decidable.not_not] at h); first | (exfalso; omega) | skip)) | (apply v_callJ (hs := qs); (case ha => rfl); (case hd => rfl)) | (apply v_callJ (hs := qt); (case ha => rfl); (case hd => rfl)) | (apply v_callJ (hs := qa _ h15); (case ha => rfl); (case hd => rfl)) | (apply v_read; (case hop => first | (apply r_loadNo; (case hx => rfl); (case h => (repeat (first | exact List.Mem.head _ | apply List.Mem.tail | fail))); (case hd => (repeat (first | with_reducible exact dt_nil | apply dt_here | fail))); (case hn => rfl)) | fail); (case hd => rfl)) | fail)
    all_goals
      (refine v_ret [] (outsA1 rfl rfl) (by repeat (first | exact List.nil_sublist _ | fail)) ?_
       rfl)
  · repeat' (first | apply v_seq | apply v_region | apply v_nil | apply v_skip | (apply v_pure; (case hop => first | (apply p_move <;> rfl) | (apply p_assign <;> rfl) | fail); (case hd => rfl)) | (apply v_condF; (case hc => rfl)) | (apply v_box (zs := recL x.kind x.round x.node x.index x.cmd iv); (case hx => rfl); (case hz => rfl); (case hd => rfl); intro xb) | (apply v_callJ (hs := ql); (case ha => rfl); (case hd => rfl)) | (apply v_read; (case hop => first | (apply r_loadNo; (case hx => rfl); (case h => (repeat (first | exact List.Mem.head _ | fail))); (case hd => (repeat (first | with_reducible exact dt_nil | apply dt_here | fail))); (case hn => rfl)) | fail); (case hd => rfl)) | fail)
    refine v_call (μ1 := []) (μ2 := _) rfl (put2_s hT hx hc) (List.Perm.refl _) rfl ?_
    rintro _ G1 _ hle1 ⟨rfl, b, rfl, hb⟩
    have qh1 := qh G1 hle1 2
    rw [hasI_two] at qh1
    by_cases h0 : chkI x = 0
    rotate_left
    · rw [if_neg h0] at hb
      obtain ⟨A1, c1, rfl, -⟩ := hb.openInt
      generalize chkI x = o at *
      repeat' (first | apply v_seq | apply v_region | apply v_nil | (apply v_take; (case hg => rfl)) | (apply v_pure; (case hop => first | (apply p_move <;> rfl) | (apply p_eqs <;> rfl) | (apply p_eq <;> rfl) | (apply p_ne <;> rfl) | (apply p_assign <;> rfl) | (apply p_pickT <;> rfl) | (apply p_pickF <;> rfl) | (apply p_lenSlice <;> rfl) | (apply p_extract0 <;> rfl) | (apply p_extract1 <;> rfl) | fail); (case hd => rfl)) | (apply v_condT; (case hc => rfl)) | (apply v_cond; (case hc => rfl); all_goals (intro h; (try simp only [reduceCtorEq, dec_true, dec_false, decide_eq_true_eq, decide_eq_false_iff_not, Bool.not_eq_true', Bool.not_eq_false', Option.isNone_iff_eq_none, beq_true, beq_false, beq_iff_eq, beq_eq_false_iff_ne, ne_eq, decide_eq_decide, Bool.not_eq_true, Bool.not_eq_false, Decidable.not_not] at h); first | (exfalso; omega) | skip)) | (apply v_guardB; (case h1 => rfl); (case h2 => rfl); all_goals (intro h; (try simp only [reduceCtorEq, dec_true, dec_false, decide_eq_true_eq, decide_eq_false_iff_not, Bool.not_eq_true', Bool.not_eq_false', Option.isNone_iff_eq_none, beq_true, beq_false, beq_iff_eq, beq_eq_false_iff_ne, ne_eq, decide_eq_decide, Bool.not_eq_true, Bool.not_eq_false, Decidable.not_not] at h); first | (exfalso; omega) | skip)) | (apply v_callJ (hs := qh1); (case ha => rfl); (case hd => rfl)) | (apply v_callJ (hs := qa _ hle1); (case ha => rfl); (case hd => rfl)) | (apply v_read; (case hop => first | (apply r_loadNo; (case hx => rfl); (case h => (repeat (first | exact List.Mem.head _ | fail))); (case hd => (repeat (first | with_reducible exact dt_nil | apply dt_here | fail))); (case hn => rfl)) | fail); (case hd => rfl)) | fail)
      refine v_ret [] (outsA1 rfl rfl) (by repeat (first | exact List.nil_sublist _ | fail)) ?_
      rfl
    rw [if_pos h0] at hb
    rw [h0] at qh1 ⊢
    obtain ⟨A1, c1, rfl, -⟩ := id hb.openInt
    have hk : 1 ≤ x.kind ∧ x.kind ≤ 4 := (rec0 (show recI _ _ _ _ _ _ = 0 from h0)).1
    obtain ⟨hel, hew⟩ := encT_ok h0 hc (slwf hi)
    repeat' (first | apply v_seq | apply v_region | apply v_nil | apply v_skip | (apply v_take; (case hg => rfl)) | (apply v_pure; (case hop => first | (apply p_move <;> rfl) | (apply p_eqs <;> rfl) | (apply p_nes <;> rfl) | (apply p_eq <;> rfl) | (apply p_assign <;> rfl) | (apply p_pickF <;> rfl) | (apply p_extract0 <;> rfl) | (apply p_extract1 <;> rfl) | fail); (case hd => rfl)) | (apply v_condT; (case hc => rfl)) | (apply v_condF; (case hc => rfl)) | (apply v_guardB; (case h1 => rfl); (case h2 => rfl); all_goals (intro h; (try simp only [reduceCtorEq, dec_true, dec_false, decide_eq_true_eq, decide_eq_false_iff_not, Bool.not_eq_true', Bool.not_eq_false', Option.isNone_iff_eq_none, beq_true, beq_false, beq_iff_eq, beq_eq_false_iff_ne, ne_eq, decide_eq_decide, Bool.not_eq_true, Bool.not_eq_false, Decidable.not_not] at h); first | (exfalso; omega) | skip)) | (apply v_callJ (hs := qh1); (case ha => rfl); (case hd => rfl)) | (apply v_read; (case hop => first | (apply r_loadNo; (case hx => rfl); (case h => (repeat (first | exact List.Mem.head _ | fail))); (case hd => (repeat (first | with_reducible exact dt_nil | apply dt_here | fail))); (case hn => rfl)) | fail); (case hd => rfl)) | fail)
    refine v_call (μ1 := []) (μ2 := _) rfl (get2_s (hT.le hle1) hb (by omega)) (List.Perm.refl _) rfl ?_
    rintro _ G2 _ hle2 ⟨rfl, y, yv, e, rfl, hy, hcase⟩
    obtain ⟨-, rfl, rfl⟩ | ⟨hno, -⟩ := hcase
    rotate_left
    · exact absurd ((decT_enc h0).1) hno
    rw [(decT_enc h0).2] at hy
    obtain ⟨jv, rfl, hj⟩ := id hy
    obtain ⟨A2, c2, rfl, -⟩ := hj.openInt
    have h12 := GH.le_trans hle1 hle2
    unfold recL
    repeat' (first | apply v_seq | apply v_region | apply v_nil | (apply v_pure; (case hop => first | (apply p_move <;> rfl) | (apply p_assign <;> rfl) | (apply p_extract0 <;> rfl) | (apply p_extract1 <;> rfl) | (apply p_sub; (case hx => rfl); (case hy => rfl); (case h => omega)) | fail); (case hd => rfl)) | (apply v_alloc; (case hz => rfl); (case hd => rfl); intro b) | (apply v_store; (case hp => rfl); (case hx => rfl); (case hc => rfl); (case hsz => rfl); (case h1 => rfl); (case hb => (repeat (first | exact List.Mem.head _ | fail))); (case hfit => first | exact Nat.le_of_ble_eq_true rfl | fail); (case hov => (first | ((repeat (first | with_reducible exact ov_nil | apply ov_cons | fail)); done) | fail)); (case hu => repeat (first | exact Upd.here _ _ | fail))) | fail)
    refine v_call (μ1 := []) (μ2 := _) rfl (get1_s (hT.le h12) (hb.mono hle2) (by omega)) (List.Perm.refl _) rfl ?_
    rintro _ G3 _ hle3 ⟨rfl, z, zv, g, rfl, hz, hcase⟩
    obtain ⟨hno, -⟩ | ⟨-, rfl, hg0⟩ := hcase
    · exact absurd hno (not_decOk h0)
    obtain ⟨kv, rfl, hkv⟩ := id hz
    obtain ⟨A3, c3, rfl, -⟩ := hkv.openInt
    have h13 := GH.le_trans h12 hle3
    unfold recL
    repeat' (first | apply v_seq | apply v_region | apply v_nil | (apply v_take; (case hg => rfl)) | (apply v_pure; (case hop => first | (apply p_move <;> rfl) | (apply p_eqs <;> rfl) | (apply p_assign <;> rfl) | (apply p_extract0 <;> rfl) | (apply p_extract1 <;> rfl) | fail); (case hd => rfl)) | (apply v_read; (case hop => first | (apply r_loadNo; (case hx => rfl); (case h => (repeat (first | exact List.Mem.head _ | apply List.Mem.tail | fail))); (case hd => (repeat (first | with_reducible exact dt_nil | apply dt_here | fail))); (case hn => rfl)) | fail); (case hd => rfl)) | (apply v_alloc; (case hz => rfl); (case hd => rfl); intro b) | (apply v_store; (case hp => rfl); (case hx => rfl); (case hc => rfl); (case hsz => rfl); (case h1 => rfl); (case hb => (repeat (first | exact List.Mem.head _ | fail))); (case hfit => first | exact Nat.le_of_ble_eq_true rfl | fail); (case hov => (first | ((repeat (first | with_reducible exact ov_nil | apply ov_cons | fail)); done) | fail)); (case hu => repeat (first | exact Upd.here _ _ | fail))) | fail)
    refine v_call (μ1 := []) (μ2 := _) rfl (rtwo_s (hx.le h13) hc hfit hw hk) (List.Perm.refl _) rfl ?_
    rintro r4 G4 ν4 - ⟨hle4, hg4⟩
    refine v_frz ν4 (by repeat (first | exact PickA.here _ | fail)) ?_
    intro G5 hle5 hG5
    have h5 := hg4.ints hG5 hew
    obtain ⟨A4, c4, rfl, -, -⟩ := hg4.shape
    have qs := bSame_s ((((hb.mono hle2).mono hle3).mono hle4).mono hle5) h5
    rw [decide_eq_true rfl] at qs
    have h15 := GH.le_trans (GH.le_trans h13 hle4) hle5
    have qt := refRecSame_s (((hy.le hle3).le hle4).le hle5) (hx.le h15)
    rw [decide_eq_true rfl] at qt
    repeat' (first | apply v_nil | (apply v_take; (case hg => rfl)) | (apply v_pure; (case hop => first | (apply p_move <;> rfl) | (apply p_eqs <;> rfl) | (apply p_ne <;> rfl) | (apply p_assign <;> rfl) | (apply p_pickT <;> rfl) | fail); (case hd => rfl)) | (apply v_guardB; (case h1 => rfl); (case h2 => rfl); all_goals (intro h; (try simp only [reduceCtorEq, dec_true, dec_false, decide_eq_true_eq, decide_eq_false_iff_not, Bool.not_eq_true', Bool.not_eq_false', Option.isNone_iff_eq_none, beq_true, beq_false, beq_iff_eq, beq_eq_false_iff_ne, ne_eq, decide_eq_decide, Bool.not_eq_true, Bool.not_eq_false, Decidable.not_not] at h); first | (exfalso; omega) | skip)) | (apply v_callJ (hs := qs); (case ha => rfl); (case hd => rfl)) | (apply v_callJ (hs := qt); (case ha => rfl); (case hd => rfl)) | (apply v_callJ (hs := qa _ h15); (case ha => rfl); (case hd => rfl)) | (apply v_read; (case hop => first | (apply r_loadNo; (case hx => rfl); (case h => (repeat (first | exact List.Mem.head _ | apply List.Mem.tail | fail))); (case hd => (repeat (first | with_reducible exact dt_nil | apply dt_here | fail))); (case hn => rfl)) | fail); (case hd => rfl)) | fail)
    all_goals
      (refine v_ret [] (outsA1 rfl rfl) (by repeat (first | exact List.nil_sublist _ | fail)) ?_
       rfl)
theorem rectwoPuts_law {W : World} {v0 v1 : Value} (hT : TabsG (ghost W)) (g0 : IsInt v0) (g1 : ∃ y : Rc, RcV (ghost W) y v1 ∧ y.cmd.ok ∧ y.small) : LawCon Tryd.prog 8 #[v0, v1] W := by
  obtain ⟨f, rfl, hf⟩ := g0
  obtain ⟨x, hx, hc, hw⟩ := g1
  refine rectwoPuts_main hT f ?_ hx hc hw
  simp [Lit.wf, IntKind.min, IntKind.max, IntKind.signed, IntKind.bits] at hf
  omega
end Go.Proofs.YtnoiahlpmgbhfaaDoor
/-
  RectwoPuts: the tied card.
-/
set_option linter.unusedSimpArgs false
set_option linter.unusedVariables false
namespace Go.Proofs.YtnoiahlpmgbhfaaDoor
open Go.Vx Go.ChangeShapes Go.WideShapes Go.ChangeAt Go.RowKit
theorem rectwoPuts_own : ownKnob Tryd.prog.godebug = none := by kernel_rfl
theorem rectwoPuts_laidOut : laidOutB Tryd.prog = true := by kernel_rfl
theorem rectwoPuts_spec : LawSpec Rows.rectwoPutsSpec 2 := ⟨rfl, fun H ds h => by match ds, h with | [d0, d1], _ => rfl⟩
set_option maxRecDepth 100000 in
theorem rectwoPuts_lifted (os : Os) (started : os.Started) (H : Type) (enc : TypeId × Value → H) :
    ReturnsInHanded {} Tryd.checked os 8 .any (fun w args => (Rows.rectwoPutsSpec.pre enc Tryd.prog Tryd.f8 Rows.rectwoPutsRow.domain false w args ∧ laidMetH Tryd.prog tabsLaid w) ∧ sizedMet enc Tryd.prog Tryd.f8 (OpenSpec.ofChange Rows.rectwoPutsSpec) false w args)
      (Rows.rectwoPutsSpec.post enc Tryd.prog Tryd.f8 false true false false) := by
  refine returnsInHanded_of_change_and (C := Tryd.checked) (X := fun w _ => laidMetH Tryd.prog tabsLaid w) (fun _ _ _ hh h => h.of_heap hh) rectwoPuts_own started (by kernel_rfl) Tryd.func8
    (ChangeSpec.witness_shaped (enc := enc) (C := Tryd.checked) (os := os) (X := fun w _ => laidMetH Tryd.prog tabsLaid w) false (World.laidAll Tryd.prog os tabsLaid) #[.int .i64 0, .agg #[.int .i64 0, .int .i64 0, .int .i64 0, .int .i64 0, .int .i64 0, .int .i64 0, .int .i64 0, .string ByteArray.empty, .string ByteArray.empty, .string ByteArray.empty, .int .i64 0, .slice none 0 0]] 8 (World.laidAll_os _ _ _)
      (World.shaped_of_ZipB (by kernel_rfl) (by kernel_rfl)) (by kernel_rfl) (by kernel_rfl) (by kernel_rfl)
      (by rw [MakeChecks.laidMetH_plain _ _ _ tabs_plain]; exact laidMet_laidAll _ (by kernel_rfl) (by kernel_rfl))) ?_
  intro W base args ds gs before hval0 hW hcnd _ hL _
  have hval : ∀ (j : Nat) t v, Tryd.f8.params[j]? = some t → args[j]? = some v → Value.okWide Tryd.prog W .any base t v := hval0
  refine law_post rectwoPuts_laidOut Tryd.underlying4 rfl rectwoPuts_spec rfl (by kernel_rfl) hW ?_
  obtain ⟨p, q, hA0, hV, rfl, hfz, hnd⟩ := hW
  have hA : DataW.TrodAll enc Tryd.prog W 0 (fun _ => true) true Tryd.f8.params.toList args.toList ds p := hA0
  rw [Tryd.params8] at hA hval
  obtain ⟨v0, vs0, d0, ds0, p0, q0, hargs, rfl, rfl, h0, r0⟩ := trodAll_cons hA
  obtain ⟨v1, vs1, d1, ds1, p1, q1, rfl, rfl, rfl, h1, r1⟩ := trodAll_cons r0
  obtain ⟨rfl, rfl, rfl⟩ := trodAll_nil r1
  obtain rfl : args = #[v0, v1] := by cases args; simp_all
  have g0 := arg_t3 (hval 0 3 v0 rfl rfl) h0
  have g1 := arg_t29 (hval 1 29 v1 rfl rfl) h1
  exact rectwoPuts_law (tabs_of_laid hL) g0 g1
theorem rectwoPuts_over : Rows.rectwoPutsRow.holds Tryd.pinned (OpenSpec.ofChange Rows.rectwoPutsSpec) :=
  OpenClaim.holds_of_wide 8 Tryd.f8 rfl rfl rfl rfl rfl rfl rfl ⟨rfl, rfl, rfl, rfl, rfl⟩ rfl rfl rfl rfl rfl (by kernel_rfl) Tryd.func8 (by kernel_rfl)
    (of_decide_eq_true (by kernel_rfl)) (by unfold Func.isWrapper; first | (rw [if_pos (by decide +kernel)]; kernel_rfl) | (rw [if_neg (by decide +kernel)]; exact ⟨rfl, rfl⟩))
    (fun os started H enc _ => rectwoPuts_lifted os started H enc)
theorem rectwoPuts_holds : Rows.RectwoPutsSaid := rectwoPuts_over
theorem rectwoPutsCard_holds : Rows.RectwoPutsCardSaid :=
  Claim7.holds_tied_plain_at .later [] [.data, .pinned] true (true, "b46bdd78ec193aa323afeb3e80993fb0d774a9779e8fbe5c27792af606e84c0b") true rectwoPuts_holds (fun _ h => by cases h) (by kernel_rfl) (fun _ h => by cases h) rectwoPuts_row_tie rfl ⟨rfl, rfl⟩ (by kernel_rfl) rfl
    (fun f fn hf hfn => by
      obtain rfl : f = 8 := Option.some.inj ((show Tryd.prog.funcNamed Rows.rectwoPutsRow.func = some 8 by kernel_rfl).symm.trans hf) |>.symm
      obtain rfl : fn = Tryd.f8 := (Option.some.inj (Tryd.func8.symm.trans hfn)).symm
      exact ⟨by kernel_rfl, fun j t ht => by
        rw [Tryd.params8] at ht
        have hm : t ∈ [3, 29] := by simpa using Array.mem_of_getElem? ht
        have hall : ([3, 29].all fun u => !Tryd.prog.wantsStandIn u) = true := by kernel_rfl
        exact (show Tryd.prog.wantsStandIn t = false by simpa using List.all_eq_true.1 hall t hm)⟩)
    (by kernel_rfl)

end Go.Proofs.YtnoiahlpmgbhfaaDoor
