/-
  segm.Read.
-/
import Derived.Test.YtpemabgfmnhhnaaGreatDoorM5
import VxDev
import Derived.Test.YtpemabgfmnhhnaaGreatDoorM3
import Derived.Test.YtpemabgfmnhhnaaGreatDoorM4
import Derived.Test.YtpemabgfmnhhnaaGreatDoorM1
import Derived.Lib.LaidTab
import Derived.Test.YtpemabgfmnhhnaaGreatDoorRows
import Derived.Test.YtpemabgfmnhhnaaGreatDoorChecked
import Derived.JoinedOf
import Derived.SevenTiedAt
import Derived.LaidMore
import Derived.Lay
import Derived.Test.YtpemabgfmnhhnaaGreatDoorTie
import Derived.Test.YtpemabgfmnhhnaaGreatDoorCards
import Derived.Stop.Joined
set_option linter.unusedSimpArgs false
set_option linter.unusedVariables false
namespace Go.Proofs.YtpemabgfmnhhnaaGreatDoor
open Go.Vx Go.ChangeShapes Go.WideShapes Go.ChangeAt Go.RowKit
section
variable {α : Type} (dec : List Int → Option α)
theorem recsF_step {D : Nat} {l b t : List Int} {x : α} (hw : byteL l) (hl : l.length ≤ D) (h : nextF l = some (b, t)) (hd : dec b = some x) : recsF dec D l = (x :: (recsF dec D t).1, (recsF dec D t).2) := by
  obtain ⟨e, -⟩ := nextF_inv hw h
  have h1 := congrArg List.length e
  have h2 := frB_pos b
  rw [List.length_append] at h1
  obtain ⟨n, rfl⟩ : ∃ n, D = n + 1 := ⟨D - 1, by omega⟩
  have hr : byteL t := fun y hy => hw y (by rw [e]; exact List.mem_append_right _ hy)
  rw [recsF_some dec h hd, recsF_fuel dec n (n + 1) t hr (by omega) (by omega)]
end
theorem next_drop {D b t : List Int} {a : Nat} (hw : byteL D) (h : nextF (D.drop a) = some (b, t)) : t = D.drop (D.length - t.length) ∧ D.length - t.length ≤ D.length ∧ t.length < D.length - a := by
  obtain ⟨e, -⟩ := nextF_inv (fun y hy => hw y (List.mem_of_mem_drop hy)) h
  have h1 := congrArg List.length e
  have h2 := frB_pos b
  rw [List.length_append, List.length_drop] at h1
  refine ⟨?_, by omega, by omega⟩
  have h3 : (D.drop a).drop (frB b).length = t := by rw [e, List.drop_left]
  rw [List.drop_drop] at h3
  rw [show D.length - t.length = a + (frB b).length by omega]
  exact h3.symm
def ctL (f : Int) (L : List Value) (k b : Int) : List Value := .int .i64 f :: (L ++ [.int .i64 k, .int .i64 b])
def ReadR (D : List Int) (r : Value) (G' : GH) (μ' : OH) : Prop := μ' = [] ∧ ((readF decF D = none ∧ r = .tuple [.agg (ctL 0 (hdL 0 0 0 (.slice none 0 0) (.slice none 0 0) (.slice none 0 0)) 0 0).toArray, .int .i64 17].toArray) ∨ ∃ f xs k L, readF decF D = some (f, xs, k) ∧ r = .tuple [.agg (ctL f L (xs.length : Nat) (k : Nat)).toArray, .int .i64 0].toArray ∧ HdV G' (hardOf xs) L)
set_option maxHeartbeats 1000000 in
theorem sread_s {G : GH} (hT : TabsG G) (hC : CrcG G) {D : List Int} {sv : Value} (hs : Sl G 1 (IntR .u8) sv D) (hl : D.length ≤ 1048000) (hfew : ∀ f xs k, readF decF D = some (f, xs, k) → xs.length ≤ 200) : Con Tryz.prog 21 #[sv] G [] (ReadR D) := by
  have hw : byteL D := fun y hy => sl_byte hs y hy
  obtain ⟨A, c, rfl, -⟩ := id hs.openInt
  (refine v_enter Tryz.func21 rfl Tryz.ntmps21 rfl ?_; intro B _)
  repeat' (first | apply v_seq | apply v_region | apply v_nil | (apply v_pure; (case hop => first | (apply p_move <;> rfl) | (apply p_assign <;> rfl) | (apply p_build; (case hz => rfl); (case hv => (simp only [List.map_cons, List.map_nil]; repeat (first | with_reducible exact evs_nil | (apply evs_cons; (case h1 => rfl))))); (case hb => (apply bldL; repeat (first | exact bld_nil | (apply bld_cons; (case hpf => rfl); (case hc => rfl); (case hs => rfl); (case hl => rfl); (case ho => ((repeat (first | with_reducible exact ov_nil | apply ov_cons)); done))))))) | fail); (case hd => rfl)) | (apply v_read; (case hop => (apply r_load1; rfl; (apply Cell.own; (case h => (repeat (exact mhd _))); rfl))); (case hd => rfl)) | (apply v_alloc; (case hz => rfl); (case hd => rfl); intro b) | (apply v_box; (case hx => rfl); (case hz => rfl); (case hd => rfl); intro b) | (apply v_store; (case hp => rfl); (case hx => rfl); (case hc => rfl); (case hsz => rfl); (case h1 => rfl); (case hb => (repeat (exact mhd _))); (case hfit => exact nle rfl); (case hov => ((repeat (first | with_reducible exact ov_nil | apply ov_cons)); done)); (case hu => repeat (exact Upd.here _ _))) | fail)
  rename_i cb rb
  revert b
  intro pb
  refine v_call (μ1 := [(rb, sgO (.slice A D.length c) 0 0 (.slice none 0 0))]) rfl (begin_s hC rb hs hl) (PickA.perm (by repeat (first | exact PickA.here _ | apply PickA.cons))) rfl ?_
  rintro _ G1 _ hle1 ⟨a0, f, n, is, ha0, rfl, rfl, hbeg⟩
  have hbeg' : is = true → ∃ hd, nextF D = some (hd, D.drop a0) ∧ f = (headF D.length hd).1 ∧ n = (headF D.length hd).2.1 ∧ (headF D.length hd).2.2 = true ∧ ((headF D.length hd).1 = 1 ∨ (headF D.length hd).1 = 2) := fun his => by
    obtain ⟨-, h⟩ | ⟨hd, t, hn, h1, h2, h3, h4⟩ := hbeg
    · rw [his] at h; cases h
    · obtain ⟨h5, -, -⟩ := next_drop (D := D) (a := 0) hw (by rw [List.drop_zero]; exact hn)
      rw [← h1] at h5
      rw [his] at h4
      have := of_decide_eq_true h4.symm
      exact ⟨hd, by rw [← h5]; exact hn, h2, h3, this.1, this.2⟩
  have hno : is = false → readF decF D = none := fun his => by
    obtain ⟨hn, -⟩ | ⟨hd, t, hn, h1, h2, h3, h4⟩ := hbeg
    · exact readF_none decF hn
    · rw [his] at h4
      have := of_decide_eq_false h4.symm
      rw [readF_some decF hn, if_neg fun h => this ⟨h.1, h.2.1⟩]
  repeat' (first | apply v_seq | apply v_region | apply v_nil | apply v_block | (apply v_pure; (case hop => first | (apply p_move <;> rfl) | (apply p_assign <;> rfl) | (apply p_extract0 <;> rfl) | (apply p_extract1 <;> rfl) | (apply p_makeFunc <;> rfl) | fail); (case hd => rfl)) | (apply v_alloc; (case hz => rfl); (case hd => rfl); intro b) | (apply v_store; (case hp => rfl); (case hx => rfl); (case hc => rfl); (case hsz => rfl); (case h1 => rfl); (case hb => (repeat (exact mhd _))); (case hfit => exact nle rfl); (case hov => ((repeat (first | with_reducible exact ov_nil | apply ov_cons)); done)); (case hu => repeat (exact Upd.here _ _))) | fail)
  revert b
  intro ib
  refine v_perm (ν := ([(ib, .cells #[.bool is] 4 (0, 0)), (pb, .cells #[.pointer (some ⟨rb, 0, none⟩)] 104 (0, 0))] ++ (rb, sgO (.slice A D.length c) (a0 : Nat) f (.slice none 0 0)) :: []) ++ [(cb, .cells (ctL 0 (hdL 0 0 0 (.slice none 0 0) (.slice none 0 0) (.slice none 0 0)) 0 0).toArray 50 (0, 0))]) (by apply perm_of_count; intro p; simp only [List.append_eq, List.countP_append, List.countP_cons, List.countP_nil, Nat.zero_add, Nat.add_zero]; try ac_rfl) ?_
  refine v_loopI (ι := Nat) [7, 6, 5, 4, 2] (fun a us G' μ' => GH.le G1 G' ∧ a ≤ D.length ∧ ∃ (lv : Value) (xs : List Rc) (ν : OH), us = [.func (.func 62) #[] #[.pointer (some ⟨ib, 0, none⟩), .pointer (some ⟨pb, 0, none⟩)], .pointer (some ⟨ib, 0, none⟩), .int .i64 n, .pointer (some ⟨pb, 0, none⟩), .pointer (some ⟨cb, 0, none⟩)] ∧ μ' = ([(ib, .cells #[.bool is] 4 (0, 0)), (pb, .cells #[.pointer (some ⟨rb, 0, none⟩)] 104 (0, 0))] ++ (rb, sgO (.slice A D.length c) (a : Nat) f lv) :: ν) ++ [(cb, .cells (ctL 0 (hdL 0 0 0 (.slice none 0 0) (.slice none 0 0) (.slice none 0 0)) 0 0).toArray 50 (0, 0))] ∧ GrowR G' lv xs ν ∧ xs.length ≤ a ∧ recsF (decF f) D.length (D.drop a0) = (xs ++ (recsF (decF f) D.length (D.drop a)).1, (recsF (decF f) D.length (D.drop a)).2)) (fun a => D.length - a) rfl a0 ⟨GH.le_refl _, ha0, _, [], [], rfl, rfl, GrowR.none _, Nat.zero_le _, rfl⟩ ?_
  rintro a us G' μ' ⟨hle, ha, lv, xs, ν, rfl, rfl, hg, hxa, hrec⟩
  have hle' := GH.le_trans hle1 hle
  have q := more_s rb ib pb a f is (next_s (hT.le hle') (hC.le hle') rb a f (hs.mono hle') hl ha (by omega) hg)
  obtain ⟨Ag, cg, rfl, -, -⟩ : ∃ A c, lv = .slice A xs.length c ∧ True ∧ True := by
    obtain ⟨css, -, -, hgr⟩ := id hg
    obtain ⟨A, c, h, -⟩ := hgr.shape
    exact ⟨A, c, h, trivial, trivial⟩
  repeat' (first | apply v_seq | apply v_region | (apply v_pure; (case hop => (apply p_move <;> rfl)); (case hd => rfl)) | fail)
  refine v_callC (first := []) (captured := [.pointer (some ⟨ib, 0, none⟩), .pointer (some ⟨pb, 0, none⟩)]) (vs := []) rfl rfl q (List.Perm.refl _) rfl ?_
  rintro r G2 ν2 hle2 ⟨ν3, hp, hcase⟩
  refine v_perm (hp.append_right _) ?_
  obtain ⟨his, rfl, hG2, rfl⟩ | ⟨his, ok, a', lv', ν', xs', rfl, hp', hg', ⟨rfl, rfl, rfl, hend⟩ | ⟨rfl, bd, t, x, hn, hd, rfl, rfl⟩⟩ := hcase
  · have hnone := hno his
    subst his
    repeat' (first | apply v_seq | apply v_region | apply v_nil | (apply v_exit; (case hp => rfl)) | (apply v_pass; (case hg => rfl); (case hn => rfl); (case hd => rfl)) | (apply v_pure; (case hop => first | (apply p_move <;> rfl) | (apply p_assign <;> rfl) | (apply p_pickT <;> rfl) | (apply p_not <;> rfl) | (apply p_build; (case hz => rfl); (case hv => (simp only [List.map_cons, List.map_nil]; repeat (with_reducible exact evs_nil))); (case hb => (apply bldL; repeat (exact bld_nil)))) | fail); (case hd => rfl)) | (apply v_condT; (case hc => rfl)) | (apply v_condF; (case hc => rfl)) | (apply v_read; (case hop => (apply r_load1; rfl; (apply Cell.own; (case h => (repeat (exact mhd _))); rfl))); (case hd => rfl)) | (apply v_store; (case hp => rfl); (case hx => rfl); (case hc => rfl); (case hsz => rfl); (case h1 => rfl); (case hb => (repeat (first | exact mhd _ | apply mtl | apply List.mem_append_right))); (case hfit => exact nle rfl); (case hov => ((repeat (first | with_reducible exact ov_nil | apply ov_cons)); done)); (case hu => repeat (first | exact Upd.here _ _ | apply Upd.there | apply Upd.app))) | fail)
    refine v_retM [] (outsM_cell_tmp (vs := ctL 0 (hdL 0 0 0 (.slice none 0 0) (.slice none 0 0) (.slice none 0 0)) 0 0) (e := 50) rfl rfl rfl (by repeat (first | exact mhd _ | apply mtl | apply List.mem_append_right)) rfl) (by repeat (exact List.nil_sublist _)) ?_
    exact ⟨rfl, .inl ⟨hnone, rfl⟩⟩
  · obtain ⟨hd, hnx, hf, hn, hh1, hh2⟩ := hbeg' his
    subst his
    have hstop : recsF (decF f) D.length (D.drop a') = ([], D.drop a') := by
      obtain h | ⟨bd, t, h, h'⟩ := hend
      · exact recsF_none (decF f) h
      · exact recsF_bad (decF f) h h'
    rw [hstop, List.append_nil] at hrec
    have hR : readF decF D = if n ≤ (xs'.length : Int) then some (f, xs', a') else none := by
      rw [readF_some decF hnx, ← hf, hrec]
      simp only [hh1, true_and, ← hn]
      have hl2 : D.length - (D.drop a').length = a' := by rw [List.length_drop]; omega
      rw [hl2]
      by_cases h : n ≤ (xs'.length : Int)
      · rw [if_pos h, if_pos ⟨by rw [hf]; exact hh2, h⟩]
      · rw [if_neg h, if_neg fun hh => h hh.2]
    refine v_perm ((hp'.append_left _).append_right _) ?_
    obtain ⟨Ag, cg, rfl, -, -⟩ : ∃ A c, lv' = .slice A xs'.length c ∧ True ∧ True := by
      obtain ⟨css, -, -, hgr⟩ := id hg'
      obtain ⟨A, c, h, -⟩ := hgr.shape
      exact ⟨A, c, h, trivial, trivial⟩
    repeat' (first | apply v_seq | apply v_region | apply v_nil | apply v_skip | (apply v_exit; (case hp => rfl)) | (apply v_take; (case hg => rfl)) | (apply v_pure; (case hop => first | (apply p_move <;> rfl) | (apply p_lt <;> rfl) | (apply p_assign <;> rfl) | (apply p_pickF <;> rfl) | (apply p_not <;> rfl) | (apply p_lenSlice <;> rfl) | (apply p_fieldAddrB <;> rfl) | (apply p_nilCheck <;> rfl) | (apply p_build; (case hz => rfl); (case hv => (simp only [List.map_cons, List.map_nil]; repeat (with_reducible exact evs_nil))); (case hb => (apply bldL; repeat (exact bld_nil)))) | fail); (case hd => rfl)) | (apply v_condF; (case hc => rfl)) | (apply v_cond; (case hc => rfl); all_goals (intro h; (try simp only [reduceCtorEq, zzz] at h))) | (apply v_read; (case hop => (apply r_load1; rfl; (apply Cell.own; (case h => (repeat (first | exact mhd _ | apply mtl))); rfl))); (case hd => rfl)) | (apply v_store; (case hp => rfl); (case hx => rfl); (case hc => rfl); (case hsz => rfl); (case h1 => rfl); (case hb => (repeat (first | exact mhd _ | apply mtl | apply List.mem_append_right))); (case hfit => exact nle rfl); (case hov => ((repeat (first | with_reducible exact ov_nil | apply ov_cons)); done)); (case hu => repeat (first | exact Upd.here _ _ | apply Upd.there | apply Upd.app))) | fail)
    · refine v_retM [] (outsM_cell_tmp (vs := ctL 0 (hdL 0 0 0 (.slice none 0 0) (.slice none 0 0) (.slice none 0 0)) 0 0) (e := 50) rfl rfl rfl (by repeat (first | exact mhd _ | apply mtl | apply List.mem_append_right)) rfl) (by repeat (exact List.nil_sublist _)) ?_
      exact ⟨rfl, .inl ⟨by rw [hR, if_neg (by omega)], rfl⟩⟩
    · have hR' : readF decF D = some (f, xs', a') := by rw [hR, if_pos (by omega)]
      have h200 := hfew _ _ _ hR'
      refine v_frz ν' (by repeat (first | exact PickA.here _ | apply PickA.cons)) ?_
      intro G3 hle3 hG3
      have hrs := hg'.rs hle3 hG3
      have qo := of_s (hT.le (GH.le_trans (GH.le_trans hle' hle2) hle3)) hrs h200
      refine d_start [(pb, .cells #[.pointer (some ⟨rb, 0, none⟩)] 104 (0, 0))] (by kernel_rfl) (by kernel_rfl) (by kernel_rfl) (by intro e he; (simp at he; simp [he]; done)) ?_
      all_goals (apply dtk 0; (case hi => rfl); (case hop => first | (apply r_loadNo; (case hx => rfl); (case h => (repeat (fail))); (case hd => (repeat (fail))); (case hn => rfl)) | (apply r_load1; rfl; (apply Cell.own; (case h => (repeat (exact mhd _))); rfl)) | (apply r_loadN; rfl; (apply CellsAt.own; (case h => (repeat (fail)))); rfl)); (case hq => kernel_rfl))
      all_goals (apply dtk 1; (case hi => rfl); (case hop => first | (apply r_loadNo; (case hx => rfl); (case h => (repeat (fail))); (case hd => (repeat (fail))); (case hn => rfl)) | (apply r_load1; rfl; (apply Cell.own; (case h => (repeat (exact mhd _))); rfl)) | (apply r_loadN; rfl; (apply CellsAt.own; (case h => (repeat (fail)))); rfl)); (case hq => kernel_rfl))
      all_goals (apply dtk 2; (case hi => rfl); (case hop => first | (apply r_loadNo; (case hx => rfl); (case h => (repeat (fail))); (case hd => (repeat (fail))); (case hn => rfl)) | (apply r_load1; rfl; (apply Cell.own; (case h => (repeat (exact mhd _))); rfl)) | (apply r_loadN; rfl; (apply CellsAt.own; (case h => (repeat (fail)))); rfl)); (case hq => kernel_rfl))
      all_goals (apply dtk 3; (case hi => rfl); (case hop => first | (apply r_loadNo; (case hx => rfl); (case h => (repeat (fail))); (case hd => (repeat (fail))); (case hn => rfl)) | (apply r_load1; rfl; (apply Cell.own; (case h => (repeat (exact mhd _))); rfl)) | (apply r_loadN; rfl; (apply CellsAt.own; (case h => (repeat (fail)))); rfl)); (case hq => kernel_rfl))
      all_goals (apply dtk 4; (case hi => rfl); (case hop => (apply prd; apply p_nilCheck <;> rfl)); (case hq => kernel_rfl))
      all_goals (apply dtk 5; (case hi => rfl); (case hop => (apply prd; apply p_fieldAddrB <;> rfl)); (case hq => kernel_rfl))
      all_goals (apply dtk 8; (case hi => rfl); (case hop => first | (apply r_loadNo; (case hx => rfl); (case h => (repeat (fail))); (case hd => (repeat (fail))); (case hn => rfl)) | (apply r_load1; rfl; (apply Cell.own; (case h => (repeat (exact mhd _))); rfl)) | (apply r_loadN; rfl; (apply CellsAt.own; (case h => (repeat (fail)))); rfl)); (case hq => kernel_rfl))
      all_goals (apply dtk 9; (case hi => rfl); (case hop => (apply prd; apply p_nilCheck <;> rfl)); (case hq => kernel_rfl))
      all_goals (apply dtk 10; (case hi => rfl); (case hop => (apply prd; apply p_fieldAddrB <;> rfl)); (case hq => kernel_rfl))
      all_goals (apply dtk 13; (case hi => rfl); (case hop => first | (apply r_loadNo; (case hx => rfl); (case h => (repeat (fail))); (case hd => (repeat (fail))); (case hn => rfl)) | (apply r_load1; rfl; (apply Cell.own; (case h => (repeat (exact mhd _))); rfl)) | (apply r_loadN; rfl; (apply CellsAt.own; (case h => (repeat (fail)))); rfl)); (case hq => kernel_rfl))
      all_goals (apply dtk 14; (case hi => rfl); (case hop => (apply prd; apply p_nilCheck <;> rfl)); (case hq => kernel_rfl))
      all_goals (apply dtk 15; (case hi => rfl); (case hop => (apply prd; apply p_fieldAddrB <;> rfl)); (case hq => kernel_rfl))
      focus
        refine d_fork3 6 11 16 (by kernel_rfl) ?_ ?_ ?_
        rotate_right
        focus
          (apply x_exec 16; (case hi => rfl);  (case hop => exact ReadOp.move (r_load1 rfl (Cell.own (by repeat (first | exact mhd _ | apply mtl)) rfl))); (case hd => rfl); rintro _ G0 _ ⟨rfl, hG0, rfl⟩; subst G0; refine ⟨(by intro e he; simp at he; simp [he]), ?_⟩)
          focus
            refine d_fork 6 11 (by kernel_rfl) ?_ ?_
            rotate_right
            focus
              (apply x_exec 11; (case hi => rfl);  (case hop => exact ReadOp.move (r_load1 rfl (Cell.own (by repeat (first | exact mhd _ | apply mtl)) rfl))); (case hd => rfl); rintro _ G0 _ ⟨rfl, hG0, rfl⟩; subst G0; refine ⟨(by intro e he; simp at he; simp [he]), ?_⟩)
              all_goals (apply dtk 12; (case hi => rfl); (case hop => (apply prd; apply p_lenSlice <;> rfl)); (case hq => kernel_rfl))
              all_goals (apply d_keep 6 (hop := ReadOp.move ?hop); (case hi => rfl); (case hr => kernel_rfl); (case hop => (apply r_load1; rfl; (apply Cell.own; (case h => repeat (first | exact mhd _ | apply mtl)); rfl))); (case hd => rfl))
              all_goals ((apply d_call 7 (hs := qo) (μ1 := []); (case hi => rfl); (case hr => kernel_rfl);  (case ha => rfl); (case hp => exact List.Perm.refl _); (case hd => rfl); (case hν' => intro e he; simp at he; simp [he]); rintro _ G4 _ hle4 ⟨rfl, L, rfl, iv, av, cv, rfl, hi, hac, hch⟩; obtain ⟨B0, d0, rfl, -⟩ := id hi.openInt; obtain ⟨B1, d1, rfl, -⟩ := id hac.open; obtain ⟨B2, d2, rfl, -⟩ := id hch.open))
              all_goals (apply dtk 17; (case hi => rfl); (case hop => (apply prd; apply p_nilCheck <;> rfl)); (case hq => kernel_rfl))
              all_goals (apply dtk 18; (case hi => rfl); (case hop => (apply prd; apply p_fieldAddrB <;> rfl)); (case hq => kernel_rfl))
              all_goals (apply dtk 19; (case hi => rfl); (case hop => (apply prd; apply p_fieldAddrB <;> rfl)); (case hq => kernel_rfl))
              all_goals (apply d_store 20; (case hi => rfl); (case hr => kernel_rfl); (case hL => infer_instance); (case hp => rfl); (case hx => rfl); (case hc => rfl); (case hsz => rfl); (case h1 => rfl); (case hb => (repeat (first | exact mhd _ | apply mtl))); (case hfit => exact nle rfl); (case hov => ((repeat (first | with_reducible exact ov_nil | apply ov_cons)); done)); (case hu => repeat (first | exact Upd.here _ _ | apply Upd.there)); (case hν' => intro e he; (simp at he; simp [he]; done)))
              all_goals (apply dtk 21; (case hi => rfl); (case hop => (apply prd; apply p_nilCheck <;> rfl)); (case hq => kernel_rfl))
              all_goals (apply dtk 22; (case hi => rfl); (case hop => (apply prd; apply p_fieldAddrB <;> rfl)); (case hq => kernel_rfl))
              all_goals (apply dtk 23; (case hi => rfl); (case hop => (apply prd; apply p_fieldAddrB <;> rfl)); (case hq => kernel_rfl))
              all_goals (apply d_store 24; (case hi => rfl); (case hr => kernel_rfl); (case hL => infer_instance); (case hp => rfl); (case hx => rfl); (case hc => rfl); (case hsz => rfl); (case h1 => rfl); (case hb => (repeat (first | exact mhd _ | apply mtl))); (case hfit => exact nle rfl); (case hov => ((repeat (first | with_reducible exact ov_nil | apply ov_cons)); done)); (case hu => repeat (first | exact Upd.here _ _ | apply Upd.there)); (case hν' => intro e he; (simp at he; simp [he]; done)))
              all_goals (apply dtk 25; (case hi => rfl); (case hop => (apply prd; apply p_nilCheck <;> rfl)); (case hq => kernel_rfl))
              all_goals (apply dtk 26; (case hi => rfl); (case hop => (apply prd; apply p_fieldAddrB <;> rfl)); (case hq => kernel_rfl))
              all_goals (apply dtk 27; (case hi => rfl); (case hop => (apply prd; apply p_fieldAddrB <;> rfl)); (case hq => kernel_rfl))
              all_goals (apply d_store 28; (case hi => rfl); (case hr => kernel_rfl); (case hL => infer_instance); (case hp => rfl); (case hx => rfl); (case hc => rfl); (case hsz => rfl); (case h1 => rfl); (case hb => (repeat (first | exact mhd _ | apply mtl))); (case hfit => exact nle rfl); (case hov => ((repeat (first | with_reducible exact ov_nil | apply ov_cons)); done)); (case hu => repeat (first | exact Upd.here _ _ | apply Upd.there)); (case hν' => intro e he; (simp at he; simp [he]; done)))
              all_goals (apply d_done; (case hr => kernel_rfl))
            rotate_right
            focus
              (apply x_exec 6; (case hi => rfl);  (case hop => exact ReadOp.move (r_load1 rfl (Cell.own (by repeat (first | exact mhd _ | apply mtl)) rfl))); (case hd => rfl); rintro _ G0 _ ⟨rfl, hG0, rfl⟩; subst G0; refine ⟨(by intro e he; simp at he; simp [he]), ?_⟩)
              focus
                refine d_fork 7 11 (by kernel_rfl) ?_ ?_
                rotate_right
                focus
                  (apply x_exec 11; (case hi => rfl);  (case hop => exact ReadOp.move (r_load1 rfl (Cell.own (by repeat (first | exact mhd _ | apply mtl)) rfl))); (case hd => rfl); rintro _ G0 _ ⟨rfl, hG0, rfl⟩; subst G0; refine ⟨(by intro e he; simp at he; simp [he]), ?_⟩)
                  all_goals (apply dtk 12; (case hi => rfl); (case hop => (apply prd; apply p_lenSlice <;> rfl)); (case hq => kernel_rfl))
                  all_goals ((apply d_call 7 (hs := qo) (μ1 := []); (case hi => rfl); (case hr => kernel_rfl);  (case ha => rfl); (case hp => exact List.Perm.refl _); (case hd => rfl); (case hν' => intro e he; simp at he; simp [he]); rintro _ G4 _ hle4 ⟨rfl, L, rfl, iv, av, cv, rfl, hi, hac, hch⟩; obtain ⟨B0, d0, rfl, -⟩ := id hi.openInt; obtain ⟨B1, d1, rfl, -⟩ := id hac.open; obtain ⟨B2, d2, rfl, -⟩ := id hch.open))
                  all_goals (apply dtk 17; (case hi => rfl); (case hop => (apply prd; apply p_nilCheck <;> rfl)); (case hq => kernel_rfl))
                  all_goals (apply dtk 18; (case hi => rfl); (case hop => (apply prd; apply p_fieldAddrB <;> rfl)); (case hq => kernel_rfl))
                  all_goals (apply dtk 19; (case hi => rfl); (case hop => (apply prd; apply p_fieldAddrB <;> rfl)); (case hq => kernel_rfl))
                  all_goals (apply d_store 20; (case hi => rfl); (case hr => kernel_rfl); (case hL => infer_instance); (case hp => rfl); (case hx => rfl); (case hc => rfl); (case hsz => rfl); (case h1 => rfl); (case hb => (repeat (first | exact mhd _ | apply mtl))); (case hfit => exact nle rfl); (case hov => ((repeat (first | with_reducible exact ov_nil | apply ov_cons)); done)); (case hu => repeat (first | exact Upd.here _ _ | apply Upd.there)); (case hν' => intro e he; (simp at he; simp [he]; done)))
                  all_goals (apply dtk 21; (case hi => rfl); (case hop => (apply prd; apply p_nilCheck <;> rfl)); (case hq => kernel_rfl))
                  all_goals (apply dtk 22; (case hi => rfl); (case hop => (apply prd; apply p_fieldAddrB <;> rfl)); (case hq => kernel_rfl))
                  all_goals (apply dtk 23; (case hi => rfl); (case hop => (apply prd; apply p_fieldAddrB <;> rfl)); (case hq => kernel_rfl))
                  all_goals (apply d_store 24; (case hi => rfl); (case hr => kernel_rfl); (case hL => infer_instance); (case hp => rfl); (case hx => rfl); (case hc => rfl); (case hsz => rfl); (case h1 => rfl); (case hb => (repeat (first | exact mhd _ | apply mtl))); (case hfit => exact nle rfl); (case hov => ((repeat (first | with_reducible exact ov_nil | apply ov_cons)); done)); (case hu => repeat (first | exact Upd.here _ _ | apply Upd.there)); (case hν' => intro e he; (simp at he; simp [he]; done)))
                  all_goals (apply dtk 25; (case hi => rfl); (case hop => (apply prd; apply p_nilCheck <;> rfl)); (case hq => kernel_rfl))
                  all_goals (apply dtk 26; (case hi => rfl); (case hop => (apply prd; apply p_fieldAddrB <;> rfl)); (case hq => kernel_rfl))
                  all_goals (apply dtk 27; (case hi => rfl); (case hop => (apply prd; apply p_fieldAddrB <;> rfl)); (case hq => kernel_rfl))
                  all_goals (apply d_store 28; (case hi => rfl); (case hr => kernel_rfl); (case hL => infer_instance); (case hp => rfl); (case hx => rfl); (case hc => rfl); (case hsz => rfl); (case h1 => rfl); (case hb => (repeat (first | exact mhd _ | apply mtl))); (case hfit => exact nle rfl); (case hov => ((repeat (first | with_reducible exact ov_nil | apply ov_cons)); done)); (case hu => repeat (first | exact Upd.here _ _ | apply Upd.there)); (case hν' => intro e he; (simp at he; simp [he]; done)))
                  all_goals (apply d_done; (case hr => kernel_rfl))
                rotate_right
                focus
                  (apply x_call 7 (hs := qo) (μ1 := []); (case hi => rfl);  (case ha => rfl); (case hp => exact List.Perm.refl _); (case hd => rfl); (case hν' => intro e he; simp at he; simp [he]); rintro _ G4 _ hle4 ⟨rfl, L, rfl, iv, av, cv, rfl, hi, hac, hch⟩; obtain ⟨B0, d0, rfl, -⟩ := id hi.openInt; obtain ⟨B1, d1, rfl, -⟩ := id hac.open; obtain ⟨B2, d2, rfl, -⟩ := id hch.open)
                  all_goals (apply d_keep 11 (hop := ReadOp.move ?hop); (case hi => rfl); (case hr => kernel_rfl); (case hop => (apply r_load1; rfl; (apply Cell.own; (case h => repeat (first | exact mhd _ | apply mtl)); rfl))); (case hd => rfl))
                  all_goals (apply dtk 12; (case hi => rfl); (case hop => (apply prd; apply p_lenSlice <;> rfl)); (case hq => kernel_rfl))
                  all_goals (apply dtk 17; (case hi => rfl); (case hop => (apply prd; apply p_nilCheck <;> rfl)); (case hq => kernel_rfl))
                  all_goals (apply dtk 18; (case hi => rfl); (case hop => (apply prd; apply p_fieldAddrB <;> rfl)); (case hq => kernel_rfl))
                  all_goals (apply dtk 19; (case hi => rfl); (case hop => (apply prd; apply p_fieldAddrB <;> rfl)); (case hq => kernel_rfl))
                  all_goals (apply d_store 20; (case hi => rfl); (case hr => kernel_rfl); (case hL => infer_instance); (case hp => rfl); (case hx => rfl); (case hc => rfl); (case hsz => rfl); (case h1 => rfl); (case hb => (repeat (first | exact mhd _ | apply mtl))); (case hfit => exact nle rfl); (case hov => ((repeat (first | with_reducible exact ov_nil | apply ov_cons)); done)); (case hu => repeat (first | exact Upd.here _ _ | apply Upd.there)); (case hν' => intro e he; (simp at he; simp [he]; done)))
                  all_goals (apply dtk 21; (case hi => rfl); (case hop => (apply prd; apply p_nilCheck <;> rfl)); (case hq => kernel_rfl))
                  all_goals (apply dtk 22; (case hi => rfl); (case hop => (apply prd; apply p_fieldAddrB <;> rfl)); (case hq => kernel_rfl))
                  all_goals (apply dtk 23; (case hi => rfl); (case hop => (apply prd; apply p_fieldAddrB <;> rfl)); (case hq => kernel_rfl))
                  all_goals (apply d_store 24; (case hi => rfl); (case hr => kernel_rfl); (case hL => infer_instance); (case hp => rfl); (case hx => rfl); (case hc => rfl); (case hsz => rfl); (case h1 => rfl); (case hb => (repeat (first | exact mhd _ | apply mtl))); (case hfit => exact nle rfl); (case hov => ((repeat (first | with_reducible exact ov_nil | apply ov_cons)); done)); (case hu => repeat (first | exact Upd.here _ _ | apply Upd.there)); (case hν' => intro e he; (simp at he; simp [he]; done)))
                  all_goals (apply dtk 25; (case hi => rfl); (case hop => (apply prd; apply p_nilCheck <;> rfl)); (case hq => kernel_rfl))
                  all_goals (apply dtk 26; (case hi => rfl); (case hop => (apply prd; apply p_fieldAddrB <;> rfl)); (case hq => kernel_rfl))
                  all_goals (apply dtk 27; (case hi => rfl); (case hop => (apply prd; apply p_fieldAddrB <;> rfl)); (case hq => kernel_rfl))
                  all_goals (apply d_store 28; (case hi => rfl); (case hr => kernel_rfl); (case hL => infer_instance); (case hp => rfl); (case hx => rfl); (case hc => rfl); (case hsz => rfl); (case h1 => rfl); (case hb => (repeat (first | exact mhd _ | apply mtl))); (case hfit => exact nle rfl); (case hov => ((repeat (first | with_reducible exact ov_nil | apply ov_cons)); done)); (case hu => repeat (first | exact Upd.here _ _ | apply Upd.there)); (case hν' => intro e he; (simp at he; simp [he]; done)))
                  all_goals (apply d_done; (case hr => kernel_rfl))
        rotate_right
        focus
          (apply x_exec 11; (case hi => rfl);  (case hop => exact ReadOp.move (r_load1 rfl (Cell.own (by repeat (first | exact mhd _ | apply mtl)) rfl))); (case hd => rfl); rintro _ G0 _ ⟨rfl, hG0, rfl⟩; subst G0; refine ⟨(by intro e he; simp at he; simp [he]), ?_⟩)
          all_goals (apply dtk 12; (case hi => rfl); (case hop => (apply prd; apply p_lenSlice <;> rfl)); (case hq => kernel_rfl))
          focus
            refine d_fork 6 16 (by kernel_rfl) ?_ ?_
            rotate_right
            focus
              (apply x_exec 16; (case hi => rfl);  (case hop => exact ReadOp.move (r_load1 rfl (Cell.own (by repeat (first | exact mhd _ | apply mtl)) rfl))); (case hd => rfl); rintro _ G0 _ ⟨rfl, hG0, rfl⟩; subst G0; refine ⟨(by intro e he; simp at he; simp [he]), ?_⟩)
              all_goals (apply d_keep 6 (hop := ReadOp.move ?hop); (case hi => rfl); (case hr => kernel_rfl); (case hop => (apply r_load1; rfl; (apply Cell.own; (case h => repeat (first | exact mhd _ | apply mtl)); rfl))); (case hd => rfl))
              all_goals ((apply d_call 7 (hs := qo) (μ1 := []); (case hi => rfl); (case hr => kernel_rfl);  (case ha => rfl); (case hp => exact List.Perm.refl _); (case hd => rfl); (case hν' => intro e he; simp at he; simp [he]); rintro _ G4 _ hle4 ⟨rfl, L, rfl, iv, av, cv, rfl, hi, hac, hch⟩; obtain ⟨B0, d0, rfl, -⟩ := id hi.openInt; obtain ⟨B1, d1, rfl, -⟩ := id hac.open; obtain ⟨B2, d2, rfl, -⟩ := id hch.open))
              all_goals (apply dtk 17; (case hi => rfl); (case hop => (apply prd; apply p_nilCheck <;> rfl)); (case hq => kernel_rfl))
              all_goals (apply dtk 18; (case hi => rfl); (case hop => (apply prd; apply p_fieldAddrB <;> rfl)); (case hq => kernel_rfl))
              all_goals (apply dtk 19; (case hi => rfl); (case hop => (apply prd; apply p_fieldAddrB <;> rfl)); (case hq => kernel_rfl))
              all_goals (apply d_store 20; (case hi => rfl); (case hr => kernel_rfl); (case hL => infer_instance); (case hp => rfl); (case hx => rfl); (case hc => rfl); (case hsz => rfl); (case h1 => rfl); (case hb => (repeat (first | exact mhd _ | apply mtl))); (case hfit => exact nle rfl); (case hov => ((repeat (first | with_reducible exact ov_nil | apply ov_cons)); done)); (case hu => repeat (first | exact Upd.here _ _ | apply Upd.there)); (case hν' => intro e he; (simp at he; simp [he]; done)))
              all_goals (apply dtk 21; (case hi => rfl); (case hop => (apply prd; apply p_nilCheck <;> rfl)); (case hq => kernel_rfl))
              all_goals (apply dtk 22; (case hi => rfl); (case hop => (apply prd; apply p_fieldAddrB <;> rfl)); (case hq => kernel_rfl))
              all_goals (apply dtk 23; (case hi => rfl); (case hop => (apply prd; apply p_fieldAddrB <;> rfl)); (case hq => kernel_rfl))
              all_goals (apply d_store 24; (case hi => rfl); (case hr => kernel_rfl); (case hL => infer_instance); (case hp => rfl); (case hx => rfl); (case hc => rfl); (case hsz => rfl); (case h1 => rfl); (case hb => (repeat (first | exact mhd _ | apply mtl))); (case hfit => exact nle rfl); (case hov => ((repeat (first | with_reducible exact ov_nil | apply ov_cons)); done)); (case hu => repeat (first | exact Upd.here _ _ | apply Upd.there)); (case hν' => intro e he; (simp at he; simp [he]; done)))
              all_goals (apply dtk 25; (case hi => rfl); (case hop => (apply prd; apply p_nilCheck <;> rfl)); (case hq => kernel_rfl))
              all_goals (apply dtk 26; (case hi => rfl); (case hop => (apply prd; apply p_fieldAddrB <;> rfl)); (case hq => kernel_rfl))
              all_goals (apply dtk 27; (case hi => rfl); (case hop => (apply prd; apply p_fieldAddrB <;> rfl)); (case hq => kernel_rfl))
              all_goals (apply d_store 28; (case hi => rfl); (case hr => kernel_rfl); (case hL => infer_instance); (case hp => rfl); (case hx => rfl); (case hc => rfl); (case hsz => rfl); (case h1 => rfl); (case hb => (repeat (first | exact mhd _ | apply mtl))); (case hfit => exact nle rfl); (case hov => ((repeat (first | with_reducible exact ov_nil | apply ov_cons)); done)); (case hu => repeat (first | exact Upd.here _ _ | apply Upd.there)); (case hν' => intro e he; (simp at he; simp [he]; done)))
              all_goals (apply d_done; (case hr => kernel_rfl))
            rotate_right
            focus
              (apply x_exec 6; (case hi => rfl);  (case hop => exact ReadOp.move (r_load1 rfl (Cell.own (by repeat (first | exact mhd _ | apply mtl)) rfl))); (case hd => rfl); rintro _ G0 _ ⟨rfl, hG0, rfl⟩; subst G0; refine ⟨(by intro e he; simp at he; simp [he]), ?_⟩)
              focus
                refine d_fork 7 16 (by kernel_rfl) ?_ ?_
                rotate_right
                focus
                  (apply x_exec 16; (case hi => rfl);  (case hop => exact ReadOp.move (r_load1 rfl (Cell.own (by repeat (first | exact mhd _ | apply mtl)) rfl))); (case hd => rfl); rintro _ G0 _ ⟨rfl, hG0, rfl⟩; subst G0; refine ⟨(by intro e he; simp at he; simp [he]), ?_⟩)
                  all_goals ((apply d_call 7 (hs := qo) (μ1 := []); (case hi => rfl); (case hr => kernel_rfl);  (case ha => rfl); (case hp => exact List.Perm.refl _); (case hd => rfl); (case hν' => intro e he; simp at he; simp [he]); rintro _ G4 _ hle4 ⟨rfl, L, rfl, iv, av, cv, rfl, hi, hac, hch⟩; obtain ⟨B0, d0, rfl, -⟩ := id hi.openInt; obtain ⟨B1, d1, rfl, -⟩ := id hac.open; obtain ⟨B2, d2, rfl, -⟩ := id hch.open))
                  all_goals (apply dtk 17; (case hi => rfl); (case hop => (apply prd; apply p_nilCheck <;> rfl)); (case hq => kernel_rfl))
                  all_goals (apply dtk 18; (case hi => rfl); (case hop => (apply prd; apply p_fieldAddrB <;> rfl)); (case hq => kernel_rfl))
                  all_goals (apply dtk 19; (case hi => rfl); (case hop => (apply prd; apply p_fieldAddrB <;> rfl)); (case hq => kernel_rfl))
                  all_goals (apply d_store 20; (case hi => rfl); (case hr => kernel_rfl); (case hL => infer_instance); (case hp => rfl); (case hx => rfl); (case hc => rfl); (case hsz => rfl); (case h1 => rfl); (case hb => (repeat (first | exact mhd _ | apply mtl))); (case hfit => exact nle rfl); (case hov => ((repeat (first | with_reducible exact ov_nil | apply ov_cons)); done)); (case hu => repeat (first | exact Upd.here _ _ | apply Upd.there)); (case hν' => intro e he; (simp at he; simp [he]; done)))
                  all_goals (apply dtk 21; (case hi => rfl); (case hop => (apply prd; apply p_nilCheck <;> rfl)); (case hq => kernel_rfl))
                  all_goals (apply dtk 22; (case hi => rfl); (case hop => (apply prd; apply p_fieldAddrB <;> rfl)); (case hq => kernel_rfl))
                  all_goals (apply dtk 23; (case hi => rfl); (case hop => (apply prd; apply p_fieldAddrB <;> rfl)); (case hq => kernel_rfl))
                  all_goals (apply d_store 24; (case hi => rfl); (case hr => kernel_rfl); (case hL => infer_instance); (case hp => rfl); (case hx => rfl); (case hc => rfl); (case hsz => rfl); (case h1 => rfl); (case hb => (repeat (first | exact mhd _ | apply mtl))); (case hfit => exact nle rfl); (case hov => ((repeat (first | with_reducible exact ov_nil | apply ov_cons)); done)); (case hu => repeat (first | exact Upd.here _ _ | apply Upd.there)); (case hν' => intro e he; (simp at he; simp [he]; done)))
                  all_goals (apply dtk 25; (case hi => rfl); (case hop => (apply prd; apply p_nilCheck <;> rfl)); (case hq => kernel_rfl))
                  all_goals (apply dtk 26; (case hi => rfl); (case hop => (apply prd; apply p_fieldAddrB <;> rfl)); (case hq => kernel_rfl))
                  all_goals (apply dtk 27; (case hi => rfl); (case hop => (apply prd; apply p_fieldAddrB <;> rfl)); (case hq => kernel_rfl))
                  all_goals (apply d_store 28; (case hi => rfl); (case hr => kernel_rfl); (case hL => infer_instance); (case hp => rfl); (case hx => rfl); (case hc => rfl); (case hsz => rfl); (case h1 => rfl); (case hb => (repeat (first | exact mhd _ | apply mtl))); (case hfit => exact nle rfl); (case hov => ((repeat (first | with_reducible exact ov_nil | apply ov_cons)); done)); (case hu => repeat (first | exact Upd.here _ _ | apply Upd.there)); (case hν' => intro e he; (simp at he; simp [he]; done)))
                  all_goals (apply d_done; (case hr => kernel_rfl))
                rotate_right
                focus
                  (apply x_call 7 (hs := qo) (μ1 := []); (case hi => rfl);  (case ha => rfl); (case hp => exact List.Perm.refl _); (case hd => rfl); (case hν' => intro e he; simp at he; simp [he]); rintro _ G4 _ hle4 ⟨rfl, L, rfl, iv, av, cv, rfl, hi, hac, hch⟩; obtain ⟨B0, d0, rfl, -⟩ := id hi.openInt; obtain ⟨B1, d1, rfl, -⟩ := id hac.open; obtain ⟨B2, d2, rfl, -⟩ := id hch.open)
                  all_goals (apply d_keep 16 (hop := ReadOp.move ?hop); (case hi => rfl); (case hr => kernel_rfl); (case hop => (apply r_load1; rfl; (apply Cell.own; (case h => repeat (first | exact mhd _ | apply mtl)); rfl))); (case hd => rfl))
                  all_goals (apply dtk 17; (case hi => rfl); (case hop => (apply prd; apply p_nilCheck <;> rfl)); (case hq => kernel_rfl))
                  all_goals (apply dtk 18; (case hi => rfl); (case hop => (apply prd; apply p_fieldAddrB <;> rfl)); (case hq => kernel_rfl))
                  all_goals (apply dtk 19; (case hi => rfl); (case hop => (apply prd; apply p_fieldAddrB <;> rfl)); (case hq => kernel_rfl))
                  all_goals (apply d_store 20; (case hi => rfl); (case hr => kernel_rfl); (case hL => infer_instance); (case hp => rfl); (case hx => rfl); (case hc => rfl); (case hsz => rfl); (case h1 => rfl); (case hb => (repeat (first | exact mhd _ | apply mtl))); (case hfit => exact nle rfl); (case hov => ((repeat (first | with_reducible exact ov_nil | apply ov_cons)); done)); (case hu => repeat (first | exact Upd.here _ _ | apply Upd.there)); (case hν' => intro e he; (simp at he; simp [he]; done)))
                  all_goals (apply dtk 21; (case hi => rfl); (case hop => (apply prd; apply p_nilCheck <;> rfl)); (case hq => kernel_rfl))
                  all_goals (apply dtk 22; (case hi => rfl); (case hop => (apply prd; apply p_fieldAddrB <;> rfl)); (case hq => kernel_rfl))
                  all_goals (apply dtk 23; (case hi => rfl); (case hop => (apply prd; apply p_fieldAddrB <;> rfl)); (case hq => kernel_rfl))
                  all_goals (apply d_store 24; (case hi => rfl); (case hr => kernel_rfl); (case hL => infer_instance); (case hp => rfl); (case hx => rfl); (case hc => rfl); (case hsz => rfl); (case h1 => rfl); (case hb => (repeat (first | exact mhd _ | apply mtl))); (case hfit => exact nle rfl); (case hov => ((repeat (first | with_reducible exact ov_nil | apply ov_cons)); done)); (case hu => repeat (first | exact Upd.here _ _ | apply Upd.there)); (case hν' => intro e he; (simp at he; simp [he]; done)))
                  all_goals (apply dtk 25; (case hi => rfl); (case hop => (apply prd; apply p_nilCheck <;> rfl)); (case hq => kernel_rfl))
                  all_goals (apply dtk 26; (case hi => rfl); (case hop => (apply prd; apply p_fieldAddrB <;> rfl)); (case hq => kernel_rfl))
                  all_goals (apply dtk 27; (case hi => rfl); (case hop => (apply prd; apply p_fieldAddrB <;> rfl)); (case hq => kernel_rfl))
                  all_goals (apply d_store 28; (case hi => rfl); (case hr => kernel_rfl); (case hL => infer_instance); (case hp => rfl); (case hx => rfl); (case hc => rfl); (case hsz => rfl); (case h1 => rfl); (case hb => (repeat (first | exact mhd _ | apply mtl))); (case hfit => exact nle rfl); (case hov => ((repeat (first | with_reducible exact ov_nil | apply ov_cons)); done)); (case hu => repeat (first | exact Upd.here _ _ | apply Upd.there)); (case hν' => intro e he; (simp at he; simp [he]; done)))
                  all_goals (apply d_done; (case hr => kernel_rfl))
        rotate_right
        focus
          (apply x_exec 6; (case hi => rfl);  (case hop => exact ReadOp.move (r_load1 rfl (Cell.own (by repeat (first | exact mhd _ | apply mtl)) rfl))); (case hd => rfl); rintro _ G0 _ ⟨rfl, hG0, rfl⟩; subst G0; refine ⟨(by intro e he; simp at he; simp [he]), ?_⟩)
          focus
            refine d_fork3 7 11 16 (by kernel_rfl) ?_ ?_ ?_
            rotate_right
            focus
              (apply x_exec 16; (case hi => rfl);  (case hop => exact ReadOp.move (r_load1 rfl (Cell.own (by repeat (first | exact mhd _ | apply mtl)) rfl))); (case hd => rfl); rintro _ G0 _ ⟨rfl, hG0, rfl⟩; subst G0; refine ⟨(by intro e he; simp at he; simp [he]), ?_⟩)
              focus
                refine d_fork 7 11 (by kernel_rfl) ?_ ?_
                rotate_right
                focus
                  (apply x_exec 11; (case hi => rfl);  (case hop => exact ReadOp.move (r_load1 rfl (Cell.own (by repeat (first | exact mhd _ | apply mtl)) rfl))); (case hd => rfl); rintro _ G0 _ ⟨rfl, hG0, rfl⟩; subst G0; refine ⟨(by intro e he; simp at he; simp [he]), ?_⟩)
                  all_goals (apply dtk 12; (case hi => rfl); (case hop => (apply prd; apply p_lenSlice <;> rfl)); (case hq => kernel_rfl))
                  all_goals ((apply d_call 7 (hs := qo) (μ1 := []); (case hi => rfl); (case hr => kernel_rfl);  (case ha => rfl); (case hp => exact List.Perm.refl _); (case hd => rfl); (case hν' => intro e he; simp at he; simp [he]); rintro _ G4 _ hle4 ⟨rfl, L, rfl, iv, av, cv, rfl, hi, hac, hch⟩; obtain ⟨B0, d0, rfl, -⟩ := id hi.openInt; obtain ⟨B1, d1, rfl, -⟩ := id hac.open; obtain ⟨B2, d2, rfl, -⟩ := id hch.open))
                  all_goals (apply dtk 17; (case hi => rfl); (case hop => (apply prd; apply p_nilCheck <;> rfl)); (case hq => kernel_rfl))
                  all_goals (apply dtk 18; (case hi => rfl); (case hop => (apply prd; apply p_fieldAddrB <;> rfl)); (case hq => kernel_rfl))
                  all_goals (apply dtk 19; (case hi => rfl); (case hop => (apply prd; apply p_fieldAddrB <;> rfl)); (case hq => kernel_rfl))
                  all_goals (apply d_store 20; (case hi => rfl); (case hr => kernel_rfl); (case hL => infer_instance); (case hp => rfl); (case hx => rfl); (case hc => rfl); (case hsz => rfl); (case h1 => rfl); (case hb => (repeat (first | exact mhd _ | apply mtl))); (case hfit => exact nle rfl); (case hov => ((repeat (first | with_reducible exact ov_nil | apply ov_cons)); done)); (case hu => repeat (first | exact Upd.here _ _ | apply Upd.there)); (case hν' => intro e he; (simp at he; simp [he]; done)))
                  all_goals (apply dtk 21; (case hi => rfl); (case hop => (apply prd; apply p_nilCheck <;> rfl)); (case hq => kernel_rfl))
                  all_goals (apply dtk 22; (case hi => rfl); (case hop => (apply prd; apply p_fieldAddrB <;> rfl)); (case hq => kernel_rfl))
                  all_goals (apply dtk 23; (case hi => rfl); (case hop => (apply prd; apply p_fieldAddrB <;> rfl)); (case hq => kernel_rfl))
                  all_goals (apply d_store 24; (case hi => rfl); (case hr => kernel_rfl); (case hL => infer_instance); (case hp => rfl); (case hx => rfl); (case hc => rfl); (case hsz => rfl); (case h1 => rfl); (case hb => (repeat (first | exact mhd _ | apply mtl))); (case hfit => exact nle rfl); (case hov => ((repeat (first | with_reducible exact ov_nil | apply ov_cons)); done)); (case hu => repeat (first | exact Upd.here _ _ | apply Upd.there)); (case hν' => intro e he; (simp at he; simp [he]; done)))
                  all_goals (apply dtk 25; (case hi => rfl); (case hop => (apply prd; apply p_nilCheck <;> rfl)); (case hq => kernel_rfl))
                  all_goals (apply dtk 26; (case hi => rfl); (case hop => (apply prd; apply p_fieldAddrB <;> rfl)); (case hq => kernel_rfl))
                  all_goals (apply dtk 27; (case hi => rfl); (case hop => (apply prd; apply p_fieldAddrB <;> rfl)); (case hq => kernel_rfl))
                  all_goals (apply d_store 28; (case hi => rfl); (case hr => kernel_rfl); (case hL => infer_instance); (case hp => rfl); (case hx => rfl); (case hc => rfl); (case hsz => rfl); (case h1 => rfl); (case hb => (repeat (first | exact mhd _ | apply mtl))); (case hfit => exact nle rfl); (case hov => ((repeat (first | with_reducible exact ov_nil | apply ov_cons)); done)); (case hu => repeat (first | exact Upd.here _ _ | apply Upd.there)); (case hν' => intro e he; (simp at he; simp [he]; done)))
                  all_goals (apply d_done; (case hr => kernel_rfl))
                rotate_right
                focus
                  (apply x_call 7 (hs := qo) (μ1 := []); (case hi => rfl);  (case ha => rfl); (case hp => exact List.Perm.refl _); (case hd => rfl); (case hν' => intro e he; simp at he; simp [he]); rintro _ G4 _ hle4 ⟨rfl, L, rfl, iv, av, cv, rfl, hi, hac, hch⟩; obtain ⟨B0, d0, rfl, -⟩ := id hi.openInt; obtain ⟨B1, d1, rfl, -⟩ := id hac.open; obtain ⟨B2, d2, rfl, -⟩ := id hch.open)
                  all_goals (apply d_keep 11 (hop := ReadOp.move ?hop); (case hi => rfl); (case hr => kernel_rfl); (case hop => (apply r_load1; rfl; (apply Cell.own; (case h => repeat (first | exact mhd _ | apply mtl)); rfl))); (case hd => rfl))
                  all_goals (apply dtk 12; (case hi => rfl); (case hop => (apply prd; apply p_lenSlice <;> rfl)); (case hq => kernel_rfl))
                  all_goals (apply dtk 17; (case hi => rfl); (case hop => (apply prd; apply p_nilCheck <;> rfl)); (case hq => kernel_rfl))
                  all_goals (apply dtk 18; (case hi => rfl); (case hop => (apply prd; apply p_fieldAddrB <;> rfl)); (case hq => kernel_rfl))
                  all_goals (apply dtk 19; (case hi => rfl); (case hop => (apply prd; apply p_fieldAddrB <;> rfl)); (case hq => kernel_rfl))
                  all_goals (apply d_store 20; (case hi => rfl); (case hr => kernel_rfl); (case hL => infer_instance); (case hp => rfl); (case hx => rfl); (case hc => rfl); (case hsz => rfl); (case h1 => rfl); (case hb => (repeat (first | exact mhd _ | apply mtl))); (case hfit => exact nle rfl); (case hov => ((repeat (first | with_reducible exact ov_nil | apply ov_cons)); done)); (case hu => repeat (first | exact Upd.here _ _ | apply Upd.there)); (case hν' => intro e he; (simp at he; simp [he]; done)))
                  all_goals (apply dtk 21; (case hi => rfl); (case hop => (apply prd; apply p_nilCheck <;> rfl)); (case hq => kernel_rfl))
                  all_goals (apply dtk 22; (case hi => rfl); (case hop => (apply prd; apply p_fieldAddrB <;> rfl)); (case hq => kernel_rfl))
                  all_goals (apply dtk 23; (case hi => rfl); (case hop => (apply prd; apply p_fieldAddrB <;> rfl)); (case hq => kernel_rfl))
                  all_goals (apply d_store 24; (case hi => rfl); (case hr => kernel_rfl); (case hL => infer_instance); (case hp => rfl); (case hx => rfl); (case hc => rfl); (case hsz => rfl); (case h1 => rfl); (case hb => (repeat (first | exact mhd _ | apply mtl))); (case hfit => exact nle rfl); (case hov => ((repeat (first | with_reducible exact ov_nil | apply ov_cons)); done)); (case hu => repeat (first | exact Upd.here _ _ | apply Upd.there)); (case hν' => intro e he; (simp at he; simp [he]; done)))
                  all_goals (apply dtk 25; (case hi => rfl); (case hop => (apply prd; apply p_nilCheck <;> rfl)); (case hq => kernel_rfl))
                  all_goals (apply dtk 26; (case hi => rfl); (case hop => (apply prd; apply p_fieldAddrB <;> rfl)); (case hq => kernel_rfl))
                  all_goals (apply dtk 27; (case hi => rfl); (case hop => (apply prd; apply p_fieldAddrB <;> rfl)); (case hq => kernel_rfl))
                  all_goals (apply d_store 28; (case hi => rfl); (case hr => kernel_rfl); (case hL => infer_instance); (case hp => rfl); (case hx => rfl); (case hc => rfl); (case hsz => rfl); (case h1 => rfl); (case hb => (repeat (first | exact mhd _ | apply mtl))); (case hfit => exact nle rfl); (case hov => ((repeat (first | with_reducible exact ov_nil | apply ov_cons)); done)); (case hu => repeat (first | exact Upd.here _ _ | apply Upd.there)); (case hν' => intro e he; (simp at he; simp [he]; done)))
                  all_goals (apply d_done; (case hr => kernel_rfl))
            rotate_right
            focus
              (apply x_exec 11; (case hi => rfl);  (case hop => exact ReadOp.move (r_load1 rfl (Cell.own (by repeat (first | exact mhd _ | apply mtl)) rfl))); (case hd => rfl); rintro _ G0 _ ⟨rfl, hG0, rfl⟩; subst G0; refine ⟨(by intro e he; simp at he; simp [he]), ?_⟩)
              all_goals (apply dtk 12; (case hi => rfl); (case hop => (apply prd; apply p_lenSlice <;> rfl)); (case hq => kernel_rfl))
              focus
                refine d_fork 7 16 (by kernel_rfl) ?_ ?_
                rotate_right
                focus
                  (apply x_exec 16; (case hi => rfl);  (case hop => exact ReadOp.move (r_load1 rfl (Cell.own (by repeat (first | exact mhd _ | apply mtl)) rfl))); (case hd => rfl); rintro _ G0 _ ⟨rfl, hG0, rfl⟩; subst G0; refine ⟨(by intro e he; simp at he; simp [he]), ?_⟩)
                  all_goals ((apply d_call 7 (hs := qo) (μ1 := []); (case hi => rfl); (case hr => kernel_rfl);  (case ha => rfl); (case hp => exact List.Perm.refl _); (case hd => rfl); (case hν' => intro e he; simp at he; simp [he]); rintro _ G4 _ hle4 ⟨rfl, L, rfl, iv, av, cv, rfl, hi, hac, hch⟩; obtain ⟨B0, d0, rfl, -⟩ := id hi.openInt; obtain ⟨B1, d1, rfl, -⟩ := id hac.open; obtain ⟨B2, d2, rfl, -⟩ := id hch.open))
                  all_goals (apply dtk 17; (case hi => rfl); (case hop => (apply prd; apply p_nilCheck <;> rfl)); (case hq => kernel_rfl))
                  all_goals (apply dtk 18; (case hi => rfl); (case hop => (apply prd; apply p_fieldAddrB <;> rfl)); (case hq => kernel_rfl))
                  all_goals (apply dtk 19; (case hi => rfl); (case hop => (apply prd; apply p_fieldAddrB <;> rfl)); (case hq => kernel_rfl))
                  all_goals (apply d_store 20; (case hi => rfl); (case hr => kernel_rfl); (case hL => infer_instance); (case hp => rfl); (case hx => rfl); (case hc => rfl); (case hsz => rfl); (case h1 => rfl); (case hb => (repeat (first | exact mhd _ | apply mtl))); (case hfit => exact nle rfl); (case hov => ((repeat (first | with_reducible exact ov_nil | apply ov_cons)); done)); (case hu => repeat (first | exact Upd.here _ _ | apply Upd.there)); (case hν' => intro e he; (simp at he; simp [he]; done)))
                  all_goals (apply dtk 21; (case hi => rfl); (case hop => (apply prd; apply p_nilCheck <;> rfl)); (case hq => kernel_rfl))
                  all_goals (apply dtk 22; (case hi => rfl); (case hop => (apply prd; apply p_fieldAddrB <;> rfl)); (case hq => kernel_rfl))
                  all_goals (apply dtk 23; (case hi => rfl); (case hop => (apply prd; apply p_fieldAddrB <;> rfl)); (case hq => kernel_rfl))
                  all_goals (apply d_store 24; (case hi => rfl); (case hr => kernel_rfl); (case hL => infer_instance); (case hp => rfl); (case hx => rfl); (case hc => rfl); (case hsz => rfl); (case h1 => rfl); (case hb => (repeat (first | exact mhd _ | apply mtl))); (case hfit => exact nle rfl); (case hov => ((repeat (first | with_reducible exact ov_nil | apply ov_cons)); done)); (case hu => repeat (first | exact Upd.here _ _ | apply Upd.there)); (case hν' => intro e he; (simp at he; simp [he]; done)))
                  all_goals (apply dtk 25; (case hi => rfl); (case hop => (apply prd; apply p_nilCheck <;> rfl)); (case hq => kernel_rfl))
                  all_goals (apply dtk 26; (case hi => rfl); (case hop => (apply prd; apply p_fieldAddrB <;> rfl)); (case hq => kernel_rfl))
                  all_goals (apply dtk 27; (case hi => rfl); (case hop => (apply prd; apply p_fieldAddrB <;> rfl)); (case hq => kernel_rfl))
                  all_goals (apply d_store 28; (case hi => rfl); (case hr => kernel_rfl); (case hL => infer_instance); (case hp => rfl); (case hx => rfl); (case hc => rfl); (case hsz => rfl); (case h1 => rfl); (case hb => (repeat (first | exact mhd _ | apply mtl))); (case hfit => exact nle rfl); (case hov => ((repeat (first | with_reducible exact ov_nil | apply ov_cons)); done)); (case hu => repeat (first | exact Upd.here _ _ | apply Upd.there)); (case hν' => intro e he; (simp at he; simp [he]; done)))
                  all_goals (apply d_done; (case hr => kernel_rfl))
                rotate_right
                focus
                  (apply x_call 7 (hs := qo) (μ1 := []); (case hi => rfl);  (case ha => rfl); (case hp => exact List.Perm.refl _); (case hd => rfl); (case hν' => intro e he; simp at he; simp [he]); rintro _ G4 _ hle4 ⟨rfl, L, rfl, iv, av, cv, rfl, hi, hac, hch⟩; obtain ⟨B0, d0, rfl, -⟩ := id hi.openInt; obtain ⟨B1, d1, rfl, -⟩ := id hac.open; obtain ⟨B2, d2, rfl, -⟩ := id hch.open)
                  all_goals (apply d_keep 16 (hop := ReadOp.move ?hop); (case hi => rfl); (case hr => kernel_rfl); (case hop => (apply r_load1; rfl; (apply Cell.own; (case h => repeat (first | exact mhd _ | apply mtl)); rfl))); (case hd => rfl))
                  all_goals (apply dtk 17; (case hi => rfl); (case hop => (apply prd; apply p_nilCheck <;> rfl)); (case hq => kernel_rfl))
                  all_goals (apply dtk 18; (case hi => rfl); (case hop => (apply prd; apply p_fieldAddrB <;> rfl)); (case hq => kernel_rfl))
                  all_goals (apply dtk 19; (case hi => rfl); (case hop => (apply prd; apply p_fieldAddrB <;> rfl)); (case hq => kernel_rfl))
                  all_goals (apply d_store 20; (case hi => rfl); (case hr => kernel_rfl); (case hL => infer_instance); (case hp => rfl); (case hx => rfl); (case hc => rfl); (case hsz => rfl); (case h1 => rfl); (case hb => (repeat (first | exact mhd _ | apply mtl))); (case hfit => exact nle rfl); (case hov => ((repeat (first | with_reducible exact ov_nil | apply ov_cons)); done)); (case hu => repeat (first | exact Upd.here _ _ | apply Upd.there)); (case hν' => intro e he; (simp at he; simp [he]; done)))
                  all_goals (apply dtk 21; (case hi => rfl); (case hop => (apply prd; apply p_nilCheck <;> rfl)); (case hq => kernel_rfl))
                  all_goals (apply dtk 22; (case hi => rfl); (case hop => (apply prd; apply p_fieldAddrB <;> rfl)); (case hq => kernel_rfl))
                  all_goals (apply dtk 23; (case hi => rfl); (case hop => (apply prd; apply p_fieldAddrB <;> rfl)); (case hq => kernel_rfl))
                  all_goals (apply d_store 24; (case hi => rfl); (case hr => kernel_rfl); (case hL => infer_instance); (case hp => rfl); (case hx => rfl); (case hc => rfl); (case hsz => rfl); (case h1 => rfl); (case hb => (repeat (first | exact mhd _ | apply mtl))); (case hfit => exact nle rfl); (case hov => ((repeat (first | with_reducible exact ov_nil | apply ov_cons)); done)); (case hu => repeat (first | exact Upd.here _ _ | apply Upd.there)); (case hν' => intro e he; (simp at he; simp [he]; done)))
                  all_goals (apply dtk 25; (case hi => rfl); (case hop => (apply prd; apply p_nilCheck <;> rfl)); (case hq => kernel_rfl))
                  all_goals (apply dtk 26; (case hi => rfl); (case hop => (apply prd; apply p_fieldAddrB <;> rfl)); (case hq => kernel_rfl))
                  all_goals (apply dtk 27; (case hi => rfl); (case hop => (apply prd; apply p_fieldAddrB <;> rfl)); (case hq => kernel_rfl))
                  all_goals (apply d_store 28; (case hi => rfl); (case hr => kernel_rfl); (case hL => infer_instance); (case hp => rfl); (case hx => rfl); (case hc => rfl); (case hsz => rfl); (case h1 => rfl); (case hb => (repeat (first | exact mhd _ | apply mtl))); (case hfit => exact nle rfl); (case hov => ((repeat (first | with_reducible exact ov_nil | apply ov_cons)); done)); (case hu => repeat (first | exact Upd.here _ _ | apply Upd.there)); (case hν' => intro e he; (simp at he; simp [he]; done)))
                  all_goals (apply d_done; (case hr => kernel_rfl))
            rotate_right
            focus
              (apply x_call 7 (hs := qo) (μ1 := []); (case hi => rfl);  (case ha => rfl); (case hp => exact List.Perm.refl _); (case hd => rfl); (case hν' => intro e he; simp at he; simp [he]); rintro _ G4 _ hle4 ⟨rfl, L, rfl, iv, av, cv, rfl, hi, hac, hch⟩; obtain ⟨B0, d0, rfl, -⟩ := id hi.openInt; obtain ⟨B1, d1, rfl, -⟩ := id hac.open; obtain ⟨B2, d2, rfl, -⟩ := id hch.open)
              focus
                refine d_fork 11 16 (by kernel_rfl) ?_ ?_
                rotate_right
                focus
                  (apply x_exec 16; (case hi => rfl);  (case hop => exact ReadOp.move (r_load1 rfl (Cell.own (by repeat (first | exact mhd _ | apply mtl)) rfl))); (case hd => rfl); rintro _ G0 _ ⟨rfl, hG0, rfl⟩; subst G0; refine ⟨(by intro e he; simp at he; simp [he]), ?_⟩)
                  all_goals (apply d_keep 11 (hop := ReadOp.move ?hop); (case hi => rfl); (case hr => kernel_rfl); (case hop => (apply r_load1; rfl; (apply Cell.own; (case h => repeat (first | exact mhd _ | apply mtl)); rfl))); (case hd => rfl))
                  all_goals (apply dtk 12; (case hi => rfl); (case hop => (apply prd; apply p_lenSlice <;> rfl)); (case hq => kernel_rfl))
                  all_goals (apply dtk 17; (case hi => rfl); (case hop => (apply prd; apply p_nilCheck <;> rfl)); (case hq => kernel_rfl))
                  all_goals (apply dtk 18; (case hi => rfl); (case hop => (apply prd; apply p_fieldAddrB <;> rfl)); (case hq => kernel_rfl))
                  all_goals (apply dtk 19; (case hi => rfl); (case hop => (apply prd; apply p_fieldAddrB <;> rfl)); (case hq => kernel_rfl))
                  all_goals (apply d_store 20; (case hi => rfl); (case hr => kernel_rfl); (case hL => infer_instance); (case hp => rfl); (case hx => rfl); (case hc => rfl); (case hsz => rfl); (case h1 => rfl); (case hb => (repeat (first | exact mhd _ | apply mtl))); (case hfit => exact nle rfl); (case hov => ((repeat (first | with_reducible exact ov_nil | apply ov_cons)); done)); (case hu => repeat (first | exact Upd.here _ _ | apply Upd.there)); (case hν' => intro e he; (simp at he; simp [he]; done)))
                  all_goals (apply dtk 21; (case hi => rfl); (case hop => (apply prd; apply p_nilCheck <;> rfl)); (case hq => kernel_rfl))
                  all_goals (apply dtk 22; (case hi => rfl); (case hop => (apply prd; apply p_fieldAddrB <;> rfl)); (case hq => kernel_rfl))
                  all_goals (apply dtk 23; (case hi => rfl); (case hop => (apply prd; apply p_fieldAddrB <;> rfl)); (case hq => kernel_rfl))
                  all_goals (apply d_store 24; (case hi => rfl); (case hr => kernel_rfl); (case hL => infer_instance); (case hp => rfl); (case hx => rfl); (case hc => rfl); (case hsz => rfl); (case h1 => rfl); (case hb => (repeat (first | exact mhd _ | apply mtl))); (case hfit => exact nle rfl); (case hov => ((repeat (first | with_reducible exact ov_nil | apply ov_cons)); done)); (case hu => repeat (first | exact Upd.here _ _ | apply Upd.there)); (case hν' => intro e he; (simp at he; simp [he]; done)))
                  all_goals (apply dtk 25; (case hi => rfl); (case hop => (apply prd; apply p_nilCheck <;> rfl)); (case hq => kernel_rfl))
                  all_goals (apply dtk 26; (case hi => rfl); (case hop => (apply prd; apply p_fieldAddrB <;> rfl)); (case hq => kernel_rfl))
                  all_goals (apply dtk 27; (case hi => rfl); (case hop => (apply prd; apply p_fieldAddrB <;> rfl)); (case hq => kernel_rfl))
                  all_goals (apply d_store 28; (case hi => rfl); (case hr => kernel_rfl); (case hL => infer_instance); (case hp => rfl); (case hx => rfl); (case hc => rfl); (case hsz => rfl); (case h1 => rfl); (case hb => (repeat (first | exact mhd _ | apply mtl))); (case hfit => exact nle rfl); (case hov => ((repeat (first | with_reducible exact ov_nil | apply ov_cons)); done)); (case hu => repeat (first | exact Upd.here _ _ | apply Upd.there)); (case hν' => intro e he; (simp at he; simp [he]; done)))
                  all_goals (apply d_done; (case hr => kernel_rfl))
                rotate_right
                focus
                  (apply x_exec 11; (case hi => rfl);  (case hop => exact ReadOp.move (r_load1 rfl (Cell.own (by repeat (first | exact mhd _ | apply mtl)) rfl))); (case hd => rfl); rintro _ G0 _ ⟨rfl, hG0, rfl⟩; subst G0; refine ⟨(by intro e he; simp at he; simp [he]), ?_⟩)
                  all_goals (apply dtk 12; (case hi => rfl); (case hop => (apply prd; apply p_lenSlice <;> rfl)); (case hq => kernel_rfl))
                  all_goals (apply d_keep 16 (hop := ReadOp.move ?hop); (case hi => rfl); (case hr => kernel_rfl); (case hop => (apply r_load1; rfl; (apply Cell.own; (case h => repeat (first | exact mhd _ | apply mtl)); rfl))); (case hd => rfl))
                  all_goals (apply dtk 17; (case hi => rfl); (case hop => (apply prd; apply p_nilCheck <;> rfl)); (case hq => kernel_rfl))
                  all_goals (apply dtk 18; (case hi => rfl); (case hop => (apply prd; apply p_fieldAddrB <;> rfl)); (case hq => kernel_rfl))
                  all_goals (apply dtk 19; (case hi => rfl); (case hop => (apply prd; apply p_fieldAddrB <;> rfl)); (case hq => kernel_rfl))
                  all_goals (apply d_store 20; (case hi => rfl); (case hr => kernel_rfl); (case hL => infer_instance); (case hp => rfl); (case hx => rfl); (case hc => rfl); (case hsz => rfl); (case h1 => rfl); (case hb => (repeat (first | exact mhd _ | apply mtl))); (case hfit => exact nle rfl); (case hov => ((repeat (first | with_reducible exact ov_nil | apply ov_cons)); done)); (case hu => repeat (first | exact Upd.here _ _ | apply Upd.there)); (case hν' => intro e he; (simp at he; simp [he]; done)))
                  all_goals (apply dtk 21; (case hi => rfl); (case hop => (apply prd; apply p_nilCheck <;> rfl)); (case hq => kernel_rfl))
                  all_goals (apply dtk 22; (case hi => rfl); (case hop => (apply prd; apply p_fieldAddrB <;> rfl)); (case hq => kernel_rfl))
                  all_goals (apply dtk 23; (case hi => rfl); (case hop => (apply prd; apply p_fieldAddrB <;> rfl)); (case hq => kernel_rfl))
                  all_goals (apply d_store 24; (case hi => rfl); (case hr => kernel_rfl); (case hL => infer_instance); (case hp => rfl); (case hx => rfl); (case hc => rfl); (case hsz => rfl); (case h1 => rfl); (case hb => (repeat (first | exact mhd _ | apply mtl))); (case hfit => exact nle rfl); (case hov => ((repeat (first | with_reducible exact ov_nil | apply ov_cons)); done)); (case hu => repeat (first | exact Upd.here _ _ | apply Upd.there)); (case hν' => intro e he; (simp at he; simp [he]; done)))
                  all_goals (apply dtk 25; (case hi => rfl); (case hop => (apply prd; apply p_nilCheck <;> rfl)); (case hq => kernel_rfl))
                  all_goals (apply dtk 26; (case hi => rfl); (case hop => (apply prd; apply p_fieldAddrB <;> rfl)); (case hq => kernel_rfl))
                  all_goals (apply dtk 27; (case hi => rfl); (case hop => (apply prd; apply p_fieldAddrB <;> rfl)); (case hq => kernel_rfl))
                  all_goals (apply d_store 28; (case hi => rfl); (case hr => kernel_rfl); (case hL => infer_instance); (case hp => rfl); (case hx => rfl); (case hc => rfl); (case hsz => rfl); (case h1 => rfl); (case hb => (repeat (first | exact mhd _ | apply mtl))); (case hfit => exact nle rfl); (case hov => ((repeat (first | with_reducible exact ov_nil | apply ov_cons)); done)); (case hu => repeat (first | exact Upd.here _ _ | apply Upd.there)); (case hν' => intro e he; (simp at he; simp [he]; done)))
                  all_goals (apply d_done; (case hr => kernel_rfl))
      all_goals
        repeat' (first | apply v_seq | apply v_region | apply v_nil | (apply v_pure; (case hop => first | (apply p_assign <;> rfl) | (apply p_fieldAddrB <;> rfl) | (apply p_nilCheck <;> rfl) | fail); (case hd => rfl)) | (apply v_read; (case hop => first | (apply r_loadNo; (case hx => rfl); (case h => (repeat (first | exact mhd _ | apply mtl))); (case hd => (repeat (first | with_reducible exact dt_nil | apply dt_here))); (case hn => rfl)) | (apply r_load1; rfl; (apply Cell.own; (case h => (repeat (first | exact mhd _ | apply mtl))); rfl)) | fail); (case hd => rfl)) | (apply v_store; (case hp => rfl); (case hx => rfl); (case hc => rfl); (case hsz => rfl); (case h1 => rfl); (case hb => (repeat (first | exact mhd _ | apply mtl))); (case hfit => exact nle rfl); (case hov => ((repeat (first | with_reducible exact ov_nil | apply ov_cons)); done)); (case hu => repeat (first | exact Upd.here _ _ | apply Upd.there))) | fail)
        refine v_retM [] (outsM_cell_tmp (vs := ctL f (hdL (hardOf xs').pr (hardOf xs').pn (hardOf xs').base (.slice B0 (hardOf xs').image.length d0) (.slice B1 (hardOf xs').acc.length d1) (.slice B2 (hardOf xs').cho.length d2)) (xs'.length : Nat) (a' : Nat)) (e := 50) rfl rfl rfl (by repeat (first | exact mhd _ | apply mtl)) rfl) (by repeat (exact List.nil_sublist _)) ?_
        exact ⟨rfl, .inr ⟨f, xs', a', _, hR', rfl, _, _, _, rfl, hi, hac, hch⟩⟩
  · obtain ⟨h1, h2, h3⟩ := next_drop hw hn
    have hst := recsF_step (decF f) (D := D.length) (fun y hy => hw y (List.mem_of_mem_drop hy)) (by rw [List.length_drop]; omega) hn hd
    rw [h1] at hst
    refine v_perm ((hp'.append_left _).append_right _) ?_
    repeat' (first | apply v_nil | apply v_skip | apply v_block | (apply v_exit; (case hp => rfl)) | (apply v_condT; (case hc => rfl)) | fail)
    refine v_againI (D.length - t.length) rfl ⟨GH.le_trans hle hle2, h2, lv', xs ++ [x], ν', rfl, rfl, hg', by rw [List.length_append, List.length_singleton]; omega, ?_⟩ (by omega)
    rw [hrec, hst, List.append_assoc]
    rfl
def LgR (l : List Rc) (G : GH) (r : Value) (G' : GH) (μ' : OH) : Prop := G' = G ∧ μ' = [] ∧ ∃ b, r = .bool b ∧ (b = false → l.length ≤ 40 ∧ ∀ x ∈ l, ¬ x.large ∧ x.image.length ≤ 300)
theorem rLarge_s {G : GH} {l : List Rc} {lv : Value} (hs : Rs G lv l) : Con Tryz.prog 18 #[lv] G [] (LgR l G) := by
  obtain ⟨A, c, ivf, rfl, hlc, hcm, hsome, hcp, him, hok⟩ := rsOpen hs
  simp only [maxLen] at hcm
  (refine v_enter Tryz.func18 rfl Tryz.ntmps18 rfl ?_; intro B _)
  repeat' (first | apply v_seq | apply v_region | apply v_nil | apply v_block | (apply v_pure; (case hop => (apply p_assign <;> rfl)); (case hd => rfl)) | fail)
  refine v_loop [3, 0] (fun us G' μ' => G' = G ∧ μ' = [] ∧ ∃ k, k ≤ l.length ∧ us = [Value.int .i64 (k : Nat), .slice A l.length c] ∧ ∀ x ∈ l.take k, ¬ x.large ∧ x.image.length ≤ 300) (fun us => l.length - (headI us).toNat) rfl ⟨rfl, rfl, 0, by omega, rfl, by simp⟩ ?_
  rintro us G' μ' ⟨rfl, rfl, k, hk, rfl, hall⟩
  have e1 : ((k : Nat) : Int).toNat = k := by omega
  by_cases hlt : k < l.length
  · have hcx := hcp k hlt
    have hix := him k hlt
    have hcok := hok _ (List.getElem_mem hlt)
    have htk := List.take_succ_eq_append_getElem hlt
    generalize hxe : l[k] = x at *
    generalize ivf k = iv at *
    obtain ⟨Ai, ci, rfl, hic, him2, -⟩ := id hix.openInt
    simp only [maxLen] at him2
    have hx : RcV G' x (.agg (recL x.kind x.round x.node x.index x.cmd (.slice Ai x.image.length ci)).toArray) := ⟨_, rfl, hix⟩
    have ql := recLarge_s hx hcok.1
    have hci : GH.cell? G' (((adr A).add (k * 12)).add 11) = some (.slice Ai x.image.length ci) := hcx.cell (j := 11) rfl
    have hlb : decide x.large = false → ¬ x.large := of_decide_eq_false
    generalize decide x.large = lb at *
    repeat' (first | apply v_seq | apply v_region | apply v_nil | apply v_skip | apply v_block | apply v_blk | (apply v_exit; (case hp => rfl)) | (apply v_take; (case hg => rfl)) | (apply v_pass; (case hg => rfl); (case hn => rfl); (case hd => rfl)) | (apply v_pure; (case hop => first | (apply p_move <;> rfl) | (apply p_lt <;> rfl) | (apply p_gt <;> rfl) | (apply p_assign <;> rfl) | (apply p_pickT <;> rfl) | (apply p_pickF <;> rfl) | (apply p_lenSlice <;> rfl) | (apply p_fieldAddr <;> rfl) | (apply p_add; (case hx => rfl); (case hy => rfl); (case h => omega)) | (apply p_indexAddrS; (case hx => rfl); (case hi => rfl); (case h0 => omega); (case h => omega); (case hA => (apply_assumption; omega))) | fail); (case hd => rfl)) | (apply v_condT; (case hc => rfl)) | (apply v_cond; (case hc => rfl); all_goals (intro h; (try simp only [reduceCtorEq, zzz] at h))) | (apply v_guardB; (case h1 => rfl); (case h2 => rfl); all_goals (intro h; (try simp only [reduceCtorEq, zzz] at h); first | (exfalso; omega) | skip)) | (apply v_read; (case hop => first | (apply r_loadN; rfl; exact CellsAt.frozen hcx; rfl) | (apply r_load1; rfl; exact Cell.frozen hci)); (case hd => rfl)) | (apply v_callJ (hs := ql); (case ha => rfl); (case hd => rfl)) | fail)
    all_goals first
      | (refine v_ret [] (outsA1 rfl rfl) (by repeat (exact List.Sublist.refl _)) ?_
         refine ⟨rfl, rfl, _, rfl, fun h => ?_⟩
         first | (cases h; done) | (have := dec_false.1 h; exact ⟨by omega, fun y hy => hall y (by rw [List.take_of_length_le (by omega)]; exact hy)⟩))
      | (refine v_again rfl ⟨rfl, rfl, k + 1, by omega, rfl, fun y hy => ?_⟩ (by simp [headI]; omega)
         rw [htk] at hy
         rcases List.mem_append.1 hy with hy | hy
         · exact hall y hy
         · obtain rfl := List.mem_singleton.1 hy
           exact ⟨hlb (by assumption), by omega⟩)
      | skip
    all_goals vx_show
  · obtain rfl : k = l.length := by omega
    rw [List.take_length] at hall
    repeat' (first | apply v_seq | apply v_region | apply v_nil | (apply v_exit; (case hp => rfl)) | (apply v_pass; (case hg => rfl); (case hn => rfl); (case hd => rfl)) | (apply v_pure; (case hop => first | (apply p_move <;> rfl) | (apply p_lt <;> rfl) | (apply p_gt <;> rfl) | (apply p_assign <;> rfl) | (apply p_pickF <;> rfl) | (apply p_lenSlice <;> rfl) | fail); (case hd => rfl)) | (apply v_condF; (case hc => rfl)) | (apply v_guardB; (case h1 => rfl); (case h2 => rfl); all_goals (intro h; (try simp only [reduceCtorEq, zzz] at h); first | (exfalso; omega) | skip)) | fail)
    all_goals
      (refine v_ret [] (outsA1 rfl rfl) (by repeat (exact List.Sublist.refl _)) ?_
       refine ⟨rfl, rfl, _, rfl, fun h => ?_⟩
       have := dec_false.1 h
       exact ⟨by omega, hall⟩)
theorem readF_file {f : Int} {n : Nat} {xs : List Rc} (hf : f = 1 ∨ f = 2) (hn : n ≤ xs.length) (hx : ∀ x ∈ xs, okC (encF f) (decF f) x) (hbig : (xs.length : Int) ≤ 9223372036854775807) : readF decF (fileB encF f n xs) = some (f, xs, (fileB encF f n xs).length) := by
  obtain ⟨-, h⟩ := readF_cut encF decF (m := (fileB encF f n xs).length) hf hn hx hbig (Nat.le_refl _)
  have he : endN encF f n xs xs.length = (fileB encF f n xs).length := by
    unfold endN fileB
    rw [List.take_length, List.length_append]
  have hm : endN encF f n xs n ≤ (fileB encF f n xs).length := by
    rw [← he]
    unfold endN
    have := flatF_len_take (encF f) xs n
    rw [List.take_length]
    omega
  obtain ⟨K, h1, h2, h3, h4, h5⟩ := h (by omega)
  have hK : K = xs.length := Nat.le_antisymm h2 (h4 _ (Nat.le_refl _) (by omega))
  subst hK
  rw [List.take_length, List.take_length, he] at h5
  exact h5
theorem recs_zero : recsOf Hd.zero = [] := by
  rw [recsOf_parts]
  simp [part2, part1, Hd.zero]
theorem check_zero : CheckP Hd.zero := by
  refine ⟨.inl ⟨rfl, rfl⟩, ⟨by decide, by decide⟩, by decide, by decide, ?_, ?_, (fun e he => absurd he List.not_mem_nil), (fun e he => absurd he List.not_mem_nil)⟩
  · exact chk_of (l := []) (fun x hx => by cases hx) (fun i j hj => by simp at hj) _ 0 rfl
  · exact chk_of (l := []) (fun x hx => by cases hx) (fun i j hj => by simp at hj) _ 0 rfl
theorem file_zero : (fileB encF 1 0 []).length = 7 := by
  have e1 : vbytes 1 = [1] := by decide +kernel
  have e2 : vbytes (0 : Nat) = [0] := by decide +kernel
  have e3 : vbytes ((2 : Nat) : Int) = [2] := by decide +kernel
  unfold fileB
  rw [e1, e2, List.length_append, frB_len]
  show (vbytes ((2 : Nat) : Int)).length + 2 + 4 + 0 = 7
  rw [e3]
  rfl
theorem awake20_s {G : GH} (hT : TabsG G) (hC : CrcG G) : Con Tryz.prog 11 #[] G [] (Just (.bool true) G) := by
  apply Con.just
  have hno : headNo 1 Hd.zero = 0 := by
    unfold headNo
    rw [if_pos (.inl rfl), if_pos check_zero, recs_zero]
    rfl
  have qh := head_s hT hC 1 (hd_zero G) (fun _ => good_zero) (by omega) (by decide) (by rw [recs_zero]; decide) (fun _ x hx => by rw [recs_zero] at hx; cases hx)
  rw [hno, recs_zero, if_pos rfl] at qh
  have h7 := file_zero
  have hrd := readF_file (f := 1) (n := 0) (xs := []) (.inl rfl) (by decide) (fun x hx => by cases hx) (by decide)
  rw [h7] at hrd
  rw [show fileB encF 1 [].length [] = fileB encF 1 0 [] from rfl] at qh
  generalize fileB encF 1 0 [] = D at *
  (refine v_enter Tryz.func11 rfl Tryz.ntmps11 rfl ?_; intro B _)
  repeat' (first | apply v_seq | apply v_region | apply v_nil | (apply v_pure; (case hop => first | (apply p_assign <;> rfl) | (apply p_build; (case hz => rfl); (case hv => (simp only [List.map_cons, List.map_nil]; repeat (with_reducible exact evs_nil))); (case hb => (apply bldL; repeat (exact bld_nil)))) | fail); (case hd => rfl)) | fail)
  refine v_call (μ1 := []) rfl qh (List.Perm.refl _) rfl ?_
  rintro _ G1 _ hle1 ⟨rfl, v1, rfl, s1⟩
  have q2 := sread_s (hT.le hle1) (hC.le hle1) s1 (by omega) (fun f xs k h => by rw [hrd] at h; cases h; decide)
  have h7' := h7
  obtain ⟨A1, c1, rfl, -⟩ := id s1.openInt
  repeat' (first | apply v_seq | apply v_region | apply v_nil | (apply v_pure; (case hop => first | (apply p_move <;> rfl) | (apply p_assign <;> rfl) | (apply p_extract0 <;> rfl) | (apply p_extract1 <;> rfl) | fail); (case hd => rfl)) | fail)
  refine v_call (μ1 := []) rfl q2 (List.Perm.refl _) rfl ?_
  rintro _ G2 _ hle2 ⟨rfl, ⟨hn, -⟩ | ⟨f, xs, k, L, hR, rfl, hL⟩⟩
  · rw [hrd] at hn; cases hn
  rw [hrd] at hR
  cases hR
  obtain ⟨iv, av, cv, rfl, hi, hac, hch⟩ := hL
  obtain ⟨B0, d0, rfl, -⟩ := id hi.openInt
  obtain ⟨B1, d1, rfl, -⟩ := id hac.open
  obtain ⟨B2, d2, rfl, -⟩ := id hch.open
  rw [h7]
  repeat' (first | apply v_seq | apply v_region | apply v_nil | (apply v_take; (case hg => rfl)) | (apply v_pure; (case hop => first | (apply p_move <;> rfl) | (apply p_eqs <;> rfl) | (apply p_assign <;> rfl) | (apply p_pickT <;> rfl) | (apply p_lenSlice <;> rfl) | (apply p_fieldAddrB <;> rfl) | (apply p_extract0 <;> rfl) | (apply p_extract1 <;> rfl) | fail); (case hd => rfl)) | (apply v_read; (case hop => (apply r_load1; rfl; (apply Cell.own; (case h => (repeat (exact mhd _))); rfl))); (case hd => rfl)) | (apply v_alloc; (case hz => rfl); (case hd => rfl); intro b) | (apply v_store; (case hp => rfl); (case hx => rfl); (case hc => rfl); (case hsz => rfl); (case h1 => rfl); (case hb => (repeat (exact mhd _))); (case hfit => exact nle rfl); (case hov => ((repeat (first | with_reducible exact ov_nil | apply ov_cons)); done)); (case hu => repeat (exact Upd.here _ _))) | fail)
  all_goals
    (refine v_ret [] (outsA1 rfl rfl) (by repeat (exact List.nil_sublist _)) ?_
     exact ⟨rfl, rfl⟩)
theorem records20_s {G : GH} {H : Hd} {L : List Value} {n : Nat} (hh : HdV G H L) (g : Good n H) (hn : n ≤ 40) :
    Con Tryz.prog 15 #[.agg L.toArray] G [] (fun r G' μ' => GrowR G' r (recsOf H) μ') := by
  have hrok := recs_ok g
  obtain ⟨iv, av, cv, rfl, hi, ha, hc⟩ := hh
  have him := g.img
  have hbs := g.base
  have hnacc := g.nacc
  have hncho := g.ncho
  have hmay : (H.pr = 0 ∧ H.pn = 0) ↔ ¬ 0 < H.pr := by
    have := g.may
    unfold mayP at this
    omega
  obtain ⟨A0, c0, rfl, hl0, hm0, -, -, hwx⟩ := id hi.openInt
  obtain ⟨A1, c1, rfl, hl1, hm1, hs1, hcp1, hcb1, hcc1, -⟩ := esOpen ha
  obtain ⟨A2, c2, rfl, hl2, hm2, hs2, hcp2, hcb2, hcc2, -⟩ := esOpen hc
  simp only [maxLen] at hm0 hm1 hm2
  rw [recsOf_parts] at hrok ⊢
  have hp1 : (part1 H).length ≤ 1 := by unfold part1; split <;> simp
  have hp2 : (part2 H).length ≤ 2 := by
    unfold part2
    rw [List.length_append]
    split <;> simp <;> omega
  have hp1o : ∀ x ∈ part1 H, x.cmd.ok ∧ x.small := fun x hx => hrok x (by unfold part2; simp [hx])
  have hp2o : ∀ x ∈ part2 H, x.cmd.ok ∧ x.small := fun x hx => hrok x (by simp [hx])
  (refine v_enter Tryz.func15 rfl Tryz.ntmps15 rfl ?_; intro B _)
  repeat' (first | apply v_seq | apply v_region | apply v_nil | (apply v_pure; (case hop => first | (apply p_gt <;> rfl) | (apply p_assign <;> rfl) | (apply p_fieldAddrB <;> rfl) | fail); (case hd => rfl)) | (apply v_read; (case hop => (apply r_load1; rfl; (apply Cell.own; (case h => (repeat (exact mhd _))); rfl))); (case hd => rfl)) | (apply v_box; (case hx => rfl); (case hz => rfl); (case hd => rfl); intro b) | fail)
  rename Nat => hb
  refine v_cut (fun σ1 G' μ' => GH.le G G' ∧ ∃ v ν, EnvHas σ1 [(3, v), (1, .pointer (some ⟨hb, 0, none⟩))] ∧ GrowR G' v (part1 H) ν ∧ List.Sublist (ν ++ [(hb, hardO (hdL H.pr H.pn H.base (.slice A0 H.image.length c0) (.slice A1 H.acc.length c1) (.slice A2 H.cho.length c2)))]) μ') ?_ ?_
  · intro hcut
    refine v_cond rfl (fun h => ?_) (fun h => ?_)
    · rw [dec_true] at h
      have e1 : part1 H = [imgRec H.base H.image] := by unfold part1; rw [if_pos h]
      have hio := hp1o _ (by rw [e1]; exact List.mem_singleton.2 rfl)
      have k1 := img_rcR (b := H.base) (im := H.image) hi hio.2
      repeat' (first | (refine hcut _ _ _ ?_; exact ⟨GH.le_refl _, _, _, ⟨rfl, rfl, trivial⟩, by rw [e1]; exact GrowR.snoc (css := []) (l := []) rfl (fun i y cs h => by simp at h) (by assumption) k1, (List.Sublist.append_left (by repeat (first | exact List.Sublist.refl _ | apply List.Sublist.cons)) _)⟩) | apply v_region | apply v_nil | (apply v_pure; (case hop => first | (apply p_move <;> rfl) | (apply p_assign <;> rfl) | (apply p_fieldAddrB <;> rfl) | (apply p_build; (case hz => rfl); (case hv => (simp only [List.map_cons, List.map_nil]; repeat (first | with_reducible exact evs_nil | (apply evs_cons; (case h1 => rfl))))); (case hb => (apply bldL; repeat (first | exact bld_nil | (apply bld_cons; (case hpf => rfl); (case hc => rfl); (case hs => rfl); (case hl => rfl); (case ho => ((repeat (first | with_reducible exact ov_nil | apply ov_cons)); done)))))))); (case hd => rfl)) | (apply v_append (hg := Grow.nil 42 12) (m' := 1) (us := recL 4 0 0 H.base zeroC (.slice A0 H.image.length c0)) (hp := PickA.perm (by repeat (exact PickA.here _))) (hsrc := Src.own (e := 42) (by repeat (exact mhd _)) rfl); (case hzs => rfl); (case hsz => omega); (case hs => rfl); (case hx => rfl); (case hb => omega); (case hb' => simp only [maxLen]; omega); (case hd => rfl); (case h1 => rfl); intro v3 n3 hg3) | (apply v_read; (case hop => (apply r_load1; rfl; (apply Cell.own; (case h => (repeat (exact mhd _))); rfl))); (case hd => rfl)) | (apply v_buildSlice; (case hz => rfl); (case hi => rfl); (case hv => (simp only [List.map_cons, List.map_nil]; repeat (first | with_reducible exact evs_nil | (apply evs_cons; (case h1 => rfl))))); (case hp => (apply pk_cons; (case hc => rfl); (case hs => rfl); (case h => (with_reducible exact pk_nil)); (case he => ((repeat (first | with_reducible exact ap_nil | apply ap_cons)); done)))); (case hb => rfl); (case hd => rfl); intro b) | fail)
    · rw [dec_false] at h
      have e1 : part1 H = [] := by unfold part1; rw [if_neg h]
      rw [e1] at hcut
      apply v_skip
      exact hcut _ _ _ ⟨GH.le_refl _, .slice none 0 0, [], ⟨rfl, rfl, trivial⟩, GrowR.none _, (by repeat (exact List.Sublist.refl _))⟩
  rintro σ1 G1 μ1 ⟨hle1, v1, ν1, hE, hg1, hμ⟩
  refine v_drop hμ (v_has hE ?_)
  clear hE hμ
  repeat' (first | apply v_seq | apply v_region | apply v_nil | (apply v_pure; (case hop => first | (apply p_gt <;> rfl) | (apply p_fieldAddrB <;> rfl) | fail); (case hd => rfl)) | (apply v_read; (case hop => (apply r_load1; rfl; (apply Cell.own; (case h => (repeat (first | exact mhd _ | apply List.mem_append_right))); rfl))); (case hd => rfl)) | fail)
  refine v_cut (fun σ1 G' μ' => GH.le G1 G' ∧ ∃ v ν, EnvHas σ1 [(3, v), (1, .pointer (some ⟨hb, 0, none⟩))] ∧ GrowR G' v (part2 H) ν ∧ List.Sublist (ν ++ [(hb, hardO (hdL H.pr H.pn H.base (.slice A0 H.image.length c0) (.slice A1 H.acc.length c1) (.slice A2 H.cho.length c2)))]) μ') ?_ ?_
  · intro hcut
    refine v_cond rfl (fun h => ?_) (fun h => ?_)
    · rw [dec_true] at h
      have h' : ¬ (H.pr = 0 ∧ H.pn = 0) := fun hh => hmay.1 hh h
      have e2 : part2 H = part1 H ++ [promRec H.pr H.pn] := by unfold part2; rw [if_neg h']
      have hio := hp2o _ (by rw [e2]; exact List.mem_append_right _ (List.mem_singleton.2 rfl))
      obtain ⟨css, hcl, hcr, hgr⟩ := id hg1
      repeat' (first | (refine hcut _ _ _ ?_; exact ⟨GH.le_refl _, _, _, ⟨rfl, rfl, trivial⟩, by rw [e2]; exact GrowR.snoc hcl hcr (by assumption) (rcR_nil rfl hio.1 hio.2), (List.Sublist.append_left (by repeat (first | exact List.Sublist.refl _ | apply List.Sublist.cons)) _)⟩) | apply v_region | apply v_nil | (apply v_pure; (case hop => first | (apply p_move <;> rfl) | (apply p_assign <;> rfl) | (apply p_fieldAddrB <;> rfl) | (apply p_build; (case hz => rfl); (case hv => (simp only [List.map_cons, List.map_nil]; repeat (first | with_reducible exact evs_nil | (apply evs_cons; (case h1 => rfl))))); (case hb => (apply bldL; repeat (first | exact bld_nil | (apply bld_cons; (case hpf => rfl); (case hc => rfl); (case hs => rfl); (case hl => rfl); (case ho => ((repeat (first | with_reducible exact ov_nil | apply ov_cons)); done)))))))); (case hd => rfl)) | (apply v_append (hg := hgr) (m' := 1) (us := recL 1 H.pr H.pn 0 zeroC (.slice none 0 0)) (hp := PickA.perm (by repeat (first | exact PickA.here _ | apply PickA.cons))) (hsrc := Src.own (e := 42) (by repeat (exact mhd _)) rfl); (case hzs => rfl); (case hsz => omega); (case hs => rfl); (case hx => rfl); (case hb => omega); (case hb' => simp only [maxLen]; omega); (case hd => rfl); (case h1 => rfl); intro v3 n3 hg3) | (apply v_read; (case hop => (apply r_loadNo; (case hx => rfl); (case h => (repeat (first | exact mhd _ | apply List.mem_append_right))); (case hd => (repeat (first | with_reducible exact dt_nil | apply dt_here))); (case hn => rfl))); (case hd => rfl)) | (apply v_buildSlice; (case hz => rfl); (case hi => rfl); (case hv => (simp only [List.map_cons, List.map_nil]; repeat (first | with_reducible exact evs_nil | (apply evs_cons; (case h1 => rfl))))); (case hp => (apply pk_cons; (case hc => rfl); (case hs => rfl); (case h => (with_reducible exact pk_nil)); (case he => ((repeat (first | with_reducible exact ap_nil | apply ap_cons)); done)))); (case hb => rfl); (case hd => rfl); intro b) | fail)
    · rw [dec_false] at h
      have e2 : part2 H = part1 H := by unfold part2; rw [if_pos (hmay.2 h), List.append_nil]
      apply v_skip
      refine hcut _ _ _ ?_
      exact ⟨GH.le_refl _, v1, ν1, ⟨rfl, rfl, trivial⟩, by rw [e2]; exact hg1, List.Sublist.refl _⟩
  rintro σ2 G2 μ2 ⟨hle2, v2, ν2, hE, hg2, hμ⟩
  refine v_drop hμ (v_has hE ?_)
  clear hE hμ
  have hle := GH.le_trans hle1 hle2
  have hcp1' := fun i h => (hcp1 i h).le hle
  have hcp2' := fun i h => (hcp2 i h).le hle
  have hcb1' := fun i h => (hcb1 i h).le hle
  have hcb2' := fun i h => (hcb2 i h).le hle
  have hcc1' := fun i h => (hcc1 i h).le hle
  have hcc2' := fun i h => (hcc2 i h).le hle
  clear hcp1 hcp2 hcb1 hcb2 hcc1 hcc2
  repeat' (first | apply v_seq | apply v_region | apply v_nil | apply v_block | (apply v_pure; (case hop => (apply p_assign <;> rfl)); (case hd => rfl)) | fail)
  refine v_loop [4, 3, 1] (fun us G' μ' => G' = G2 ∧ ∃ k v ν, k ≤ H.acc.length ∧ us = [Value.int .i64 (k : Nat), v, .pointer (some ⟨hb, 0, none⟩)] ∧ GrowR G2 v (part2 H ++ (H.acc.take k).map accRec) ν ∧ μ' = ν ++ [(hb, hardO (hdL H.pr H.pn H.base (.slice A0 H.image.length c0) (.slice A1 H.acc.length c1) (.slice A2 H.cho.length c2)))]) (fun us => H.acc.length - (headI us).toNat) rfl ⟨rfl, 0, v2, ν2, by omega, rfl, by simpa using hg2, rfl⟩ ?_
  rintro us G' _ ⟨rfl, k, v, ν, hk, rfl, hgk, rfl⟩
  by_cases hlt : k < H.acc.length
  · have e1 : ((k : Nat) : Int).toNat = k := by omega
    have kc0 : GH.cell? G' (((adr A1).add (k * 10)).add 0) = some (.int .i64 (H.acc[k]).index) := (hcp1' k hlt).cell (j := 0) rfl
    have kc1 := hcb1' k hlt
    have kc3 := hcc1' k hlt
    have hA := hs1 (by omega)
    have htk : part2 H ++ (H.acc.take (k + 1)).map accRec = (part2 H ++ (H.acc.take k).map accRec) ++ [accRec H.acc[k]] := by
      rw [List.take_succ_eq_append_getElem hlt, List.map_append, ← List.append_assoc]
      rfl
    have hio := hrok (accRec H.acc[k]) (by
      simp only [List.mem_append, List.mem_map]
      exact .inl (.inr ⟨_, List.getElem_mem hlt, rfl⟩))
    have hln : (part2 H ++ (H.acc.take k).map accRec).length ≤ 100 := by
      rw [List.length_append, List.length_map, List.length_take]
      omega
    obtain ⟨css, hcl, hcr, hgr⟩ := id hgk
    obtain ⟨Ag, cg, rfl, -, -⟩ := hgr.shape
    generalize hxe : H.acc[k] = e at *
    generalize part2 H ++ (H.acc.take k).map accRec = l0 at *
    repeat' (first | apply v_seq | apply v_region | apply v_nil | apply v_skip | apply v_block | (apply v_pure; (case hop => first | (apply p_move <;> rfl) | (apply p_lt <;> rfl) | (apply p_lenSlice <;> rfl) | (apply p_fieldAddrB <;> rfl) | fail); (case hd => rfl)) | (apply v_cond; (case hc => rfl); all_goals (intro h; (try simp only [reduceCtorEq, zzz] at h); first | (exfalso; omega) | skip)) | (apply v_read; (case hop => (apply r_load1; rfl; (apply Cell.own; (case h => (repeat (first | exact mhd _ | apply List.mem_append_right))); rfl))); (case hd => rfl)) | fail)
    refine d_start [(hb, hardO (hdL H.pr H.pn H.base (.slice A0 H.image.length c0) (.slice A1 H.acc.length c1) (.slice A2 H.cho.length c2)))] (by kernel_rfl) (by kernel_rfl) (by kernel_rfl) (by intro e he; (simp at he; simp [he]; done)) ?_
    all_goals (apply dtk 0; (case hi => rfl); (case hop => (apply prd; apply p_move <;> rfl)); (case hq => kernel_rfl))
    all_goals (apply dtk 1; (case hi => rfl); (case hop => (apply prd; apply p_fieldAddrB <;> rfl)); (case hq => kernel_rfl))
    all_goals (apply dtk 2; (case hi => rfl); (case hop => (apply r_load1; rfl; (apply Cell.own; (case h => (repeat (exact mhd _))); rfl))); (case hq => kernel_rfl))
    all_goals (apply dtk 3; (case hi => rfl); (case hop => (apply prd; apply p_move <;> rfl)); (case hq => kernel_rfl))
    all_goals (apply dtk 4; (case hi => rfl); (case hop => (apply prd; apply p_indexAddrS; (case hx => rfl); (case hi => rfl); (case h0 => omega); (case h => omega); (case hA => assumption))); (case hq => kernel_rfl))
    all_goals (apply dtk 5; (case hi => rfl); (case hop => (apply prd; apply p_fieldAddr <;> rfl)); (case hq => kernel_rfl))
    all_goals (apply dtk 6; (case hi => rfl); (case hop => ((apply r_loadN; rfl; exact CellsAt.frozen kc1; rfl))); (case hq => kernel_rfl))
    all_goals (apply dtk 7; (case hi => rfl); (case hop => (apply prd; apply p_fieldAddrB <;> rfl)); (case hq => kernel_rfl))
    all_goals (apply dtk 8; (case hi => rfl); (case hop => (apply r_load1; rfl; (apply Cell.own; (case h => (repeat (exact mhd _))); rfl))); (case hq => kernel_rfl))
    all_goals (apply dtk 9; (case hi => rfl); (case hop => (apply prd; apply p_move <;> rfl)); (case hq => kernel_rfl))
    all_goals (apply dtk 10; (case hi => rfl); (case hop => (apply prd; apply p_indexAddrS; (case hx => rfl); (case hi => rfl); (case h0 => omega); (case h => omega); (case hA => assumption))); (case hq => kernel_rfl))
    all_goals (apply dtk 11; (case hi => rfl); (case hop => (apply prd; apply p_fieldAddr <;> rfl)); (case hq => kernel_rfl))
    all_goals (apply dtk 12; (case hi => rfl); (case hop => ((apply r_load1; rfl; exact Cell.frozen kc0))); (case hq => kernel_rfl))
    all_goals (apply dtk 13; (case hi => rfl); (case hop => (apply prd; apply p_fieldAddrB <;> rfl)); (case hq => kernel_rfl))
    all_goals (apply dtk 14; (case hi => rfl); (case hop => (apply r_load1; rfl; (apply Cell.own; (case h => (repeat (exact mhd _))); rfl))); (case hq => kernel_rfl))
    all_goals (apply dtk 15; (case hi => rfl); (case hop => (apply prd; apply p_move <;> rfl)); (case hq => kernel_rfl))
    all_goals (apply dtk 16; (case hi => rfl); (case hop => (apply prd; apply p_indexAddrS; (case hx => rfl); (case hi => rfl); (case h0 => omega); (case h => omega); (case hA => assumption))); (case hq => kernel_rfl))
    all_goals (apply dtk 17; (case hi => rfl); (case hop => (apply prd; apply p_fieldAddr <;> rfl)); (case hq => kernel_rfl))
    all_goals (apply dtk 18; (case hi => rfl); (case hop => ((apply r_loadN; rfl; exact CellsAt.frozen kc3; rfl))); (case hq => kernel_rfl))
    all_goals (apply dtk 19; (case hi => rfl); (case hop => (apply prd; apply p_build; (case hz => rfl); (case hv => (simp only [List.map_cons, List.map_nil]; repeat (first | with_reducible exact evs_nil | (apply evs_cons; (case h1 => rfl))))); (case hb => (apply bldL; repeat (first | exact bld_nil | (apply bld_cons; (case hpf => rfl); (case hc => rfl); (case hs => rfl); (case hl => rfl); (case ho => ((repeat (first | with_reducible exact ov_nil | apply ov_cons)); done)))))))); (case hq => kernel_rfl))
    all_goals (apply d_buildSlice 20; (case hi => rfl); (case hr => kernel_rfl); (case hT => infer_instance); (case hL => infer_instance); (case hz => rfl); (case hl => rfl); (case hv => (simp only [List.map_cons, List.map_nil]; repeat (first | with_reducible exact evs_nil | (apply evs_cons; (case h1 => rfl))))); (case hp => (apply pk_cons; (case hc => rfl); (case hs => rfl); (case h => (with_reducible exact pk_nil)); (case he => ((repeat (first | with_reducible exact ap_nil | apply ap_cons)); done)))); (case hb => rfl); (case hd => rfl); (case hν => intro e he; (simp at he; simp [he]; done)); intro bb)
    all_goals (apply d_append 21 (hg := hgr) (q' := 1) (us := recL 2 e.round e.node e.index e.cmd (.slice none 0 0)) (hp := PickA.perm (by repeat (first | exact PickA.here _ | apply PickA.cons))) (hsrc := Src.own (e := 42) (by repeat (exact mhd _)) rfl); (case hi => rfl); (case hr => kernel_rfl); (case hT => infer_instance); (case hL => infer_instance); (case hzs => rfl); (case hsz => omega); (case hs => rfl); (case hx => rfl); (case hb => omega); (case hb' => simp only [maxLen]; omega); (case hd => rfl); (case h1 => rfl); (case hν => intro e he; (simp at he; simp [he]; done)); intro v3 n3 hg3)
    all_goals (apply dtk 22; (case hi => rfl); (case hop => (apply prd; apply p_assign <;> rfl)); (case hq => kernel_rfl))
    all_goals (apply d_done; (case hr => kernel_rfl))
    repeat' (first | apply v_region | apply v_nil | apply v_blk | (apply v_pure; (case hop => first | (apply p_move <;> rfl) | (apply p_assign <;> rfl) | (apply p_add; (case hx => rfl); (case hy => rfl); (case h => omega)) | fail); (case hd => rfl)) | fail)
    refine v_drop (ν := n3 ++ [(hb, hardO (hdL H.pr H.pn H.base (.slice A0 H.image.length c0) (.slice A1 H.acc.length c1) (.slice A2 H.cho.length c2)))]) (List.Sublist.append_left (by repeat (first | exact List.Sublist.refl _ | apply List.Sublist.cons)) _) ?_
    refine v_again rfl ⟨rfl, k + 1, v3, n3, by omega, rfl, ?_, rfl⟩ (by simp [headI]; omega)
    rw [htk]
    exact GrowR.snoc hcl hcr hg3 (rcR_nil rfl hio.1 hio.2)
  · have htk : part2 H ++ (H.acc.take k).map accRec = part2 H ++ H.acc.map accRec := by rw [List.take_of_length_le (by omega)]
    rw [htk] at hgk
    repeat' (first | apply v_seq | apply v_region | apply v_nil | apply v_block | (apply v_exit; (case hp => rfl)) | (apply v_pure; (case hop => first | (apply p_move <;> rfl) | (apply p_lt <;> rfl) | (apply p_assign <;> rfl) | (apply p_lenSlice <;> rfl) | (apply p_fieldAddrB <;> rfl) | fail); (case hd => rfl)) | (apply v_cond; (case hc => rfl); all_goals (intro h; (try simp only [reduceCtorEq, zzz] at h); first | (exfalso; omega) | skip)) | (apply v_read; (case hop => (apply r_load1; rfl; (apply Cell.own; (case h => (repeat (first | exact mhd _ | apply List.mem_append_right))); rfl))); (case hd => rfl)) | fail)
    clear htk hk hlt
    refine v_loop [5, 3, 1] (fun us G2 μ' => G2 = G' ∧ ∃ k v ν, k ≤ H.cho.length ∧ us = [Value.int .i64 (k : Nat), v, .pointer (some ⟨hb, 0, none⟩)] ∧ GrowR G' v (part2 H ++ H.acc.map accRec ++ (H.cho.take k).map choRec) ν ∧ μ' = ν ++ [(hb, hardO (hdL H.pr H.pn H.base (.slice A0 H.image.length c0) (.slice A1 H.acc.length c1) (.slice A2 H.cho.length c2)))]) (fun us => H.cho.length - (headI us).toNat) rfl ⟨rfl, 0, v, ν, by omega, rfl, by simpa using hgk, rfl⟩ ?_
    rintro us G3 _ ⟨hG3, k, v, ν, hk, rfl, hgk, rfl⟩
    subst hG3
    by_cases hlt : k < H.cho.length
    · have e1 : ((k : Nat) : Int).toNat = k := by omega
      have kc0 : GH.cell? G3 (((adr A2).add (k * 10)).add 0) = some (.int .i64 (H.cho[k]).index) := (hcp2' k hlt).cell (j := 0) rfl
      have kc3 := hcc2' k hlt
      have hA := hs2 (by omega)
      have htk : part2 H ++ H.acc.map accRec ++ (H.cho.take (k + 1)).map choRec = (part2 H ++ H.acc.map accRec ++ (H.cho.take k).map choRec) ++ [choRec H.cho[k]] := by
        rw [List.take_succ_eq_append_getElem hlt, List.map_append, ← List.append_assoc]
        rfl
      have hio := hrok (choRec H.cho[k]) (by
        simp only [List.mem_append, List.mem_map]
        exact .inr ⟨_, List.getElem_mem hlt, rfl⟩)
      have hln : (part2 H ++ H.acc.map accRec ++ (H.cho.take k).map choRec).length ≤ 100 := by
        rw [List.length_append, List.length_append, List.length_map, List.length_map, List.length_take]
        omega
      obtain ⟨css, hcl, hcr, hgr⟩ := id hgk
      obtain ⟨Ag, cg, rfl, -, -⟩ := hgr.shape
      generalize hxe : H.cho[k] = e at *
      generalize part2 H ++ H.acc.map accRec ++ (H.cho.take k).map choRec = l0 at *
      repeat' (first | apply v_seq | apply v_region | apply v_nil | apply v_skip | apply v_block | (apply v_pure; (case hop => first | (apply p_move <;> rfl) | (apply p_lt <;> rfl) | (apply p_lenSlice <;> rfl) | (apply p_fieldAddrB <;> rfl) | fail); (case hd => rfl)) | (apply v_cond; (case hc => rfl); all_goals (intro h; (try simp only [reduceCtorEq, zzz] at h); first | (exfalso; omega) | skip)) | (apply v_read; (case hop => (apply r_load1; rfl; (apply Cell.own; (case h => (repeat (first | exact mhd _ | apply List.mem_append_right))); rfl))); (case hd => rfl)) | fail)
      refine d_start [(hb, hardO (hdL H.pr H.pn H.base (.slice A0 H.image.length c0) (.slice A1 H.acc.length c1) (.slice A2 H.cho.length c2)))] (by kernel_rfl) (by kernel_rfl) (by kernel_rfl) (by intro e he; (simp at he; simp [he]; done)) ?_
      all_goals (apply dtk 0; (case hi => rfl); (case hop => (apply prd; apply p_move <;> rfl)); (case hq => kernel_rfl))
      all_goals (apply dtk 1; (case hi => rfl); (case hop => (apply prd; apply p_fieldAddrB <;> rfl)); (case hq => kernel_rfl))
      all_goals (apply dtk 2; (case hi => rfl); (case hop => (apply r_load1; rfl; (apply Cell.own; (case h => (repeat (exact mhd _))); rfl))); (case hq => kernel_rfl))
      all_goals (apply dtk 3; (case hi => rfl); (case hop => (apply prd; apply p_move <;> rfl)); (case hq => kernel_rfl))
      all_goals (apply dtk 4; (case hi => rfl); (case hop => (apply prd; apply p_indexAddrS; (case hx => rfl); (case hi => rfl); (case h0 => omega); (case h => omega); (case hA => assumption))); (case hq => kernel_rfl))
      all_goals (apply dtk 5; (case hi => rfl); (case hop => (apply prd; apply p_fieldAddr <;> rfl)); (case hq => kernel_rfl))
      all_goals (apply dtk 6; (case hi => rfl); (case hop => ((apply r_load1; rfl; exact Cell.frozen kc0))); (case hq => kernel_rfl))
      all_goals (apply dtk 7; (case hi => rfl); (case hop => (apply prd; apply p_fieldAddrB <;> rfl)); (case hq => kernel_rfl))
      all_goals (apply dtk 8; (case hi => rfl); (case hop => (apply r_load1; rfl; (apply Cell.own; (case h => (repeat (exact mhd _))); rfl))); (case hq => kernel_rfl))
      all_goals (apply dtk 9; (case hi => rfl); (case hop => (apply prd; apply p_move <;> rfl)); (case hq => kernel_rfl))
      all_goals (apply dtk 10; (case hi => rfl); (case hop => (apply prd; apply p_indexAddrS; (case hx => rfl); (case hi => rfl); (case h0 => omega); (case h => omega); (case hA => assumption))); (case hq => kernel_rfl))
      all_goals (apply dtk 11; (case hi => rfl); (case hop => (apply prd; apply p_fieldAddr <;> rfl)); (case hq => kernel_rfl))
      all_goals (apply dtk 12; (case hi => rfl); (case hop => ((apply r_loadN; rfl; exact CellsAt.frozen kc3; rfl))); (case hq => kernel_rfl))
      all_goals (apply dtk 13; (case hi => rfl); (case hop => (apply prd; apply p_build; (case hz => rfl); (case hv => (simp only [List.map_cons, List.map_nil]; repeat (first | with_reducible exact evs_nil | (apply evs_cons; (case h1 => rfl))))); (case hb => (apply bldL; repeat (first | exact bld_nil | (apply bld_cons; (case hpf => rfl); (case hc => rfl); (case hs => rfl); (case hl => rfl); (case ho => ((repeat (first | with_reducible exact ov_nil | apply ov_cons)); done)))))))); (case hq => kernel_rfl))
      all_goals (apply d_buildSlice 14; (case hi => rfl); (case hr => kernel_rfl); (case hT => infer_instance); (case hL => infer_instance); (case hz => rfl); (case hl => rfl); (case hv => (simp only [List.map_cons, List.map_nil]; repeat (first | with_reducible exact evs_nil | (apply evs_cons; (case h1 => rfl))))); (case hp => (apply pk_cons; (case hc => rfl); (case hs => rfl); (case h => (with_reducible exact pk_nil)); (case he => ((repeat (first | with_reducible exact ap_nil | apply ap_cons)); done)))); (case hb => rfl); (case hd => rfl); (case hν => intro e he; (simp at he; simp [he]; done)); intro bb)
      all_goals (apply d_append 15 (hg := hgr) (q' := 1) (us := recL 3 0 0 e.index e.cmd (.slice none 0 0)) (hp := PickA.perm (by repeat (first | exact PickA.here _ | apply PickA.cons))) (hsrc := Src.own (e := 42) (by repeat (exact mhd _)) rfl); (case hi => rfl); (case hr => kernel_rfl); (case hT => infer_instance); (case hL => infer_instance); (case hzs => rfl); (case hsz => omega); (case hs => rfl); (case hx => rfl); (case hb => omega); (case hb' => simp only [maxLen]; omega); (case hd => rfl); (case h1 => rfl); (case hν => intro e he; (simp at he; simp [he]; done)); intro v3 n3 hg3)
      all_goals (apply dtk 16; (case hi => rfl); (case hop => (apply prd; apply p_assign <;> rfl)); (case hq => kernel_rfl))
      all_goals (apply d_done; (case hr => kernel_rfl))
      repeat' (first | apply v_region | apply v_nil | apply v_blk | (apply v_pure; (case hop => first | (apply p_move <;> rfl) | (apply p_assign <;> rfl) | (apply p_add; (case hx => rfl); (case hy => rfl); (case h => omega)) | fail); (case hd => rfl)) | fail)
      refine v_drop (ν := n3 ++ [(hb, hardO (hdL H.pr H.pn H.base (.slice A0 H.image.length c0) (.slice A1 H.acc.length c1) (.slice A2 H.cho.length c2)))]) (List.Sublist.append_left (by repeat (first | exact List.Sublist.refl _ | apply List.Sublist.cons)) _) ?_
      refine v_again rfl ⟨rfl, k + 1, v3, n3, by omega, rfl, ?_, rfl⟩ (by simp [headI]; omega)
      rw [htk]
      exact GrowR.snoc hcl hcr hg3 (rcR_nil rfl hio.1 hio.2)
    · have htk : part2 H ++ H.acc.map accRec ++ (H.cho.take k).map choRec = part2 H ++ H.acc.map accRec ++ H.cho.map choRec := by rw [List.take_of_length_le (by omega)]
      rw [htk] at hgk
      repeat' (first | apply v_seq | apply v_region | apply v_nil | (apply v_exit; (case hp => rfl)) | (apply v_pure; (case hop => first | (apply p_move <;> rfl) | (apply p_lt <;> rfl) | (apply p_assign <;> rfl) | (apply p_lenSlice <;> rfl) | (apply p_fieldAddrB <;> rfl) | fail); (case hd => rfl)) | (apply v_cond; (case hc => rfl); all_goals (intro h; (try simp only [reduceCtorEq, zzz] at h); first | (exfalso; omega) | skip)) | (apply v_read; (case hop => (apply r_load1; rfl; (apply Cell.own; (case h => (repeat (first | exact mhd _ | apply List.mem_append_right))); rfl))); (case hd => rfl)) | fail)
      exact v_ret ν (outsA1 rfl rfl) (List.sublist_append_left _ _) hgk
theorem GrowR.app {G : GH} {v' : Value} {l l2 : List Rc} {ν' : OH} {css css2 : List (List Value)} (h1 : css.length = l.length) (h2 : ∀ (i : Nat) y cs, l[i]? = some y → css[i]? = some cs → RcR G y cs) (k1 : css2.length = l2.length) (k2 : ∀ (i : Nat) y cs, l2[i]? = some y → css2[i]? = some cs → RcR G y cs) (h : Grow 42 12 v' (l.length + l2.length) (css.flatten ++ css2.flatten) ν') : GrowR G v' (l ++ l2) ν' := by
  refine ⟨css ++ css2, by simp [h1, k1], fun i y cs hy hc => ?_, by simpa using h⟩
  by_cases hi : i < l.length
  · rw [List.getElem?_append_left hi] at hy
    rw [List.getElem?_append_left (by omega)] at hc
    exact h2 i y cs hy hc
  · rw [List.getElem?_append_right (by omega)] at hy hc
    rw [h1] at hc
    exact k2 _ y cs hy hc
structure OkF (f : Int) (x : Rc) : Prop where
  err : errF f x = 0
  img : x.image.length ≤ 300
theorem errF_parts {f : Int} {x : Rc} (h : errF f x = 0) : (f = 1 ∨ f = 2) ∧ x.fits ∧ (1 ≤ x.kind ∧ x.kind ≤ 4) := by
  by_cases h1 : f = 1
  · subst h1
    rw [errF1] at h
    exact ⟨.inl rfl, (fits0 (older0 h).1).1, (rec0 (older0 h).1).1⟩
  · by_cases h2 : f = 2
    · subst h2
      rw [errF2] at h
      exact ⟨.inr rfl, (fits0 (show recI _ _ _ _ _ _ = 0 from h)).1, (rec0 (show recI _ _ _ _ _ _ = 0 from h)).1⟩
    · rw [errFN (by omega)] at h
      cases h
theorem rbytesF_s {G : GH} {f : Int} {x : Rc} {xv : Value} (hx : RcV G x xv) (hc : x.cmd.ok) (hw : x.small) (h : errF f x = 0) : Con Tryz.prog 57 #[.int .i64 f, xv] G [] (fun r G' μ' => GH.le G G' ∧ Grow 5 1 r (encF f x).length ((encF f x).map (.int .u8 ·)) μ') := by
  obtain ⟨hf, h1, h2⟩ := errF_parts h
  obtain rfl | rfl := hf
  · exact rone_s hx hc h1 hw h2
  · exact rtwo_s hx hc h1 hw h2
theorem fileB_take {f : Int} {n : Nat} {l : List Rc} {k : Nat} (h : k < l.length) : fileB encF f n (l.take (k + 1)) = fileB encF f n (l.take k) ++ frB (encF f l[k]) := by
  unfold fileB
  rw [flat_take h, List.append_assoc]
theorem fileB_zero (f : Int) (n : Nat) (l : List Rc) : fileB encF f n (l.take 0) = frB (vbytes f ++ vbytes (n : Nat)) := by
  simp [fileB, flatF]
theorem headB_size (f : Int) (n : Nat) : (vbytes f ++ vbytes (n : Nat)).length ≤ 30 ∧ (frB (vbytes f ++ vbytes (n : Nat))).length ≤ 100 := by
  have h1 := vbytes_len f
  have h2 := vbytes_len (n : Nat)
  have h3 := frB_max (vbytes f ++ vbytes (n : Nat))
  rw [List.length_append] at h3
  rw [List.length_append]
  omega
theorem headB_wf {f : Int} {n : Nat} (hf : f ≤ 9223372036854775807) (hn : (n : Int) ≤ 9223372036854775807) : byteL (frB (vbytes f ++ vbytes (n : Nat))) := frB_byte ((vbytes_byte hf).app (vbytes_byte hn)) headB_ok
set_option maxHeartbeats 1000000 in
theorem file_s {G : GH} {H : Hd} {L : List Value} {n : Nat} (hh : HdV G H L) (g : Good n H) (hn : n ≤ 40) {f : Int} (hf : f = 1 ∨ f = 2) {more : List Rc} {mv : Value} (hm : Rs G mv more) (hm40 : more.length ≤ 40) (hall : ∀ x ∈ recsOf H ++ more, OkF f x) (hlen : (recsOf H).length ≤ 100) :
    Con Tryz.prog 17 #[.int .i64 f, .agg L.toArray, mv] G [] (fun r G' μ' => byteL (fileB encF f (recsOf H).length (recsOf H ++ more)) ∧ Grow 5 1 r (fileB encF f (recsOf H).length (recsOf H ++ more)).length ((fileB encF f (recsOf H).length (recsOf H ++ more)).map (.int .u8 ·)) μ') := by
  have qr := records20_s hh g hn
  obtain ⟨iv, av, cv, rfl, hi, ha, hcv⟩ := id hh
  obtain ⟨A0, c0, rfl, hl0, hm0, -⟩ := hi.openInt
  obtain ⟨A1, c1, rfl, -⟩ := ha.open
  obtain ⟨A2, c2, rfl, -⟩ := hcv.open
  obtain ⟨Am, cm, rfl, -⟩ := id hm.open
  generalize recsOf H = l at *
  have hlw : byteL (frB (vbytes f ++ vbytes (l.length : Nat))) := headB_wf (by omega) (by omega)
  have hhs := headB_size f l.length
  have hhw : wfL (vbytes f ++ vbytes (l.length : Nat)) := byteL.wf ((vbytes_byte (by omega)).app (vbytes_byte (by omega)))
  (refine v_enter Tryz.func17 rfl Tryz.ntmps17 rfl ?_; intro B _)
  repeat' (first | apply v_seq | apply v_region | apply v_nil | (apply v_pure; (case hop => (apply p_assign <;> rfl)); (case hd => rfl)) | (apply v_read; (case hop => (apply r_loadNo; (case hx => rfl); (case h => (repeat (exact mhd _))); (case hd => (repeat (first | with_reducible exact dt_nil | apply dt_here))); (case hn => rfl))); (case hd => rfl)) | (apply v_box; (case hx => rfl); (case hz => rfl); (case hd => rfl); intro b) | fail)
  refine v_call (μ1 := []) rfl qr (List.Perm.refl _) rfl ?_
  rintro v1 G1 ν1 hle1 hg1
  obtain ⟨css, hcl, hcr, hgr⟩ := hg1
  obtain ⟨Ag, cg, rfl, -, -⟩ := hgr.shape
  repeat' (first | apply v_seq | apply v_region | apply v_nil | (apply v_pure; (case hop => first | (apply p_move <;> rfl) | (apply p_assign <;> rfl) | fail); (case hd => rfl)) | fail)
  refine v_call (μ1 := []) rfl (rnum_s _ f (by omega)) (List.Perm.refl _) rfl ?_
  rintro v2 G2 ν2 - ⟨hG2, hg2⟩
  subst hG2
  repeat' (first | (apply v_pure; (case hop => first | (apply p_move <;> rfl) | (apply p_lenSlice <;> rfl) | fail); (case hd => rfl)) | fail)
  refine v_call (μ1 := []) rfl (rnum_s _ (l.length : Nat) (by omega)) (List.Perm.refl _) rfl ?_
  rintro v3 G3 ν3 - ⟨hG3, hg3⟩
  subst hG3
  refine v_frzP ν3 (List.Perm.refl _) ?_
  intro G4 hle4 hG4
  have s3 := hg3.ints hG4 (byteL.wf (vbytes_byte (by omega)))
  have hsd := fun μ => Src.ints (μ := μ) s3
  have hl1 := (vbytes_len f).1
  have hl2 := (vbytes_len (l.length : Nat)).1
  repeat' (first | (apply v_append (hg := hg2) (m' := (vbytes (l.length : Nat)).length) (us := (vbytes (l.length : Nat)).map (.int .u8 ·)) (hp := List.Perm.refl _) (hsrc := hsd _); (case hzs => rfl); (case hsz => omega); (case hs => rfl); (case hx => rfl); (case hb => omega); (case hb' => simp only [maxLen]; omega); (case hd => rfl); (case h1 => exact allOne_ints _); intro v5 n5 hg5) | fail)
  have hg6 : Grow 5 1 v5 (vbytes f ++ vbytes (l.length : Nat)).length ((vbytes f ++ vbytes (l.length : Nat)).map (Value.int .u8 ·)) n5 := by
    rw [List.length_append, List.map_append]
    exact hg5
  clear hsd s3 hg5 hg2 hg3
  generalize hP : vbytes f ++ vbytes (l.length : Nat) = P at *
  refine v_frzP n5 (List.Perm.refl _) ?_
  intro G5 hle5 hG5
  have s6 := hg6.ints hG5 hhw
  repeat' (fail)
  refine v_call (μ1 := []) rfl (rframe_s s6 (by omega)) (List.Perm.refl _) rfl ?_
  rintro v7 G6 ν7 - ⟨hG6, hg7⟩
  subst hG6
  have hle6 := GH.le_trans hle1 (GH.le_trans hle4 hle5)
  obtain ⟨cssM, hcl2, hcr2, hsM, hallM⟩ := rsFlat (Rs.le' hle6 hm)
  have hcr' := fun i y cs h1 h2 => (hcr i y cs h1 h2).le (GH.le_trans hle4 hle5)
  refine v_perm (ν := ν1 ++ (ν7 ++ [(b, .cells (hdL H.pr H.pn H.base (.slice A0 H.image.length c0) (.slice A1 H.acc.length c1) (.slice A2 H.cho.length c2)).toArray 27 (0, 0))])) (by apply perm_of_count; intro p; simp only [List.append_eq, List.countP_append, List.countP_cons, List.countP_nil, Nat.zero_add, Nat.add_zero]; try ac_rfl) ?_
  repeat' (first | apply v_seq | apply v_region | apply v_nil | apply v_block | (apply v_pure; (case hop => first | (apply p_move <;> rfl) | (apply p_assign <;> rfl) | fail); (case hd => rfl)) | (apply v_append (hg := hgr) (m' := more.length) (us := cssM.flatten) (hp := List.Perm.refl _) (hsrc := hsM _); (case hzs => rfl); (case hsz => omega); (case hs => rfl); (case hx => rfl); (case hb => omega); (case hb' => simp only [maxLen]; omega); (case hd => rfl); (case h1 => exact hallM); intro v8 n8 hg8) | fail)
  refine v_frzP n8 (List.Perm.refl _) ?_
  intro G7 hle7 hG7
  have hrs := (GrowR.app hcl hcr' hcl2 hcr2 hg8).rs hle7 hG7
  refine v_drop (ν := ν7) (List.sublist_append_left _ _) ?_
  have hz := fileB_zero f l.length (l ++ more)
  rw [hP] at hz
  have hln : (l ++ more).length ≤ 140 := by rw [List.length_append]; omega
  clear hg8 hsM hallM hcr2 hcl2 hcr hcr' hcl hgr hg6 s6 hG5 hG4 hG7 hm hh hi ha hcv
  generalize l.length = n0 at *
  generalize hl0 : l ++ more = l0 at *
  obtain ⟨A, c, ivf, rfl, hlc, hcm, hsome, hcp, him, hok⟩ := rsOpen hrs
  simp only [maxLen] at hcm
  refine v_loop [9, 8, 7, 0] (fun us G' μ' => GH.le G7 G' ∧ ∃ (k : Nat) (v : Value), k ≤ l0.length ∧ us = [Value.int .i64 (k : Nat), v, .slice A l0.length c, .int .i64 f] ∧ (fileB encF f n0 (l0.take k)).length ≤ 100 + k * 7100 ∧ byteL (fileB encF f n0 (l0.take k)) ∧ Grow 5 1 v (fileB encF f n0 (l0.take k)).length ((fileB encF f n0 (l0.take k)).map (.int .u8 ·)) μ') (fun us => l0.length - (headI us).toNat) rfl ⟨GH.le_refl _, 0, _, by omega, rfl, by rw [hz]; omega, by rw [hz]; exact hlw, by rw [hz]; exact hg7⟩ ?_
  rintro us G' μ' ⟨hle, k, v, hk, rfl, hsz, hby, hg⟩
  obtain ⟨A3, c3, rfl, -, -⟩ := hg.shape
  have e1 : ((k : Nat) : Int).toNat = k := by omega
  by_cases hlt : k < l0.length
  · have hA := hsome (by omega)
    have hcx := (hcp k hlt).le hle
    have hix := (him k hlt).mono hle
    have hcok := hok _ (List.getElem_mem hlt)
    have hall' := hall _ (List.getElem_mem hlt)
    have hft := fileB_take (f := f) (n := n0) hlt
    have hx : RcV G' l0[k] (.agg (recL l0[k].kind l0[k].round l0[k].node l0[k].index l0[k].cmd (ivf k)).toArray) := ⟨_, rfl, hix⟩
    have q := rbytesF_s hx hcok.1 hcok.2 hall'.err
    obtain ⟨Ai, ci, hie, -, -, -, -, hiw⟩ := hix.openInt
    have hsz2 := (encF_size hall'.err hall'.img).2
    have hwf2 := (encF_ok hall'.err hcok.1 hiw).2
    have hone := encF_one (f := f) (x := l0[k]'hlt)
    have hfb := frB_max (encF f l0[k])
    have hb2 := frB_byte (wfL.byte hwf2) ⟨hone, by omega⟩
    rw [hie] at q hcx
    clear hx hix hcok hcp him hok hall' hall hiw
    generalize l0[k] = x at *
    generalize encF f x = E at *
    repeat' (first | apply v_seq | apply v_region | apply v_nil | apply v_skip | apply v_block | (apply v_pure; (case hop => first | (apply p_move <;> rfl) | (apply p_lt <;> rfl) | (apply p_lenSlice <;> rfl) | (apply p_indexAddrS; (case hx => rfl); (case hi => rfl); (case h0 => omega); (case h => omega); (case hA => assumption)) | fail); (case hd => rfl)) | (apply v_cond; (case hc => rfl); all_goals (intro h; (try simp only [reduceCtorEq, zzz] at h); first | (exfalso; omega) | skip)) | (apply v_read; (case hop => (apply r_loadN; rfl; exact CellsAt.frozen hcx; rfl)); (case hd => rfl)) | fail)
    refine v_call (μ1 := []) rfl q (List.Perm.refl _) rfl ?_
    rintro v1 G8 ν8 - ⟨hle8, hg8⟩
    refine v_frzP ν8 (List.Perm.refl _) ?_
    intro G9 hle9 hG9
    have s9 := hg8.ints hG9 hwf2
    repeat' (fail)
    refine v_call (μ1 := []) rfl (rframe_s s9 (by omega)) (List.Perm.refl _) rfl ?_
    rintro v10 G10 ν10 - ⟨hG10, hg10⟩
    subst hG10
    refine v_frzP ν10 (List.Perm.refl _) ?_
    intro G11 hle11 hG11
    have s11 := hg10.ints hG11 (byteL.wf hb2)
    have hsd := fun μ => Src.ints (μ := μ) s11
    generalize fileB encF f n0 (l0.take k) = P at *
    generalize frB E = Q at *
    repeat' (first | apply v_region | apply v_nil | apply v_blk | (apply v_pure; (case hop => first | (apply p_move <;> rfl) | (apply p_assign <;> rfl) | (apply p_add; (case hx => rfl); (case hy => rfl); (case h => omega)) | fail); (case hd => rfl)) | (apply v_append (hg := hg) (m' := Q.length) (us := Q.map (.int .u8 ·)) (hp := PickA.perm (by repeat (exact PickA.last))) (hsrc := hsd _); (case hzs => rfl); (case hsz => omega); (case hs => rfl); (case hx => rfl); (case hb => omega); (case hb' => simp only [maxLen]; omega); (case hd => rfl); (case h1 => exact allOne_ints Q); intro v12 n12 hg12) | fail)
    refine v_only n12 (by repeat (exact PickA.here _)) ?_
    refine v_again rfl ⟨GH.le_trans hle (GH.le_trans hle8 (GH.le_trans hle9 hle11)), k + 1, v12, by omega, rfl, ?_, ?_, ?_⟩ (by simp [headI]; omega)
    · rw [hft, List.length_append]; omega
    · rw [hft]; exact hby.app hb2
    · rw [hft, List.length_append, List.map_append]; exact hg12
  · obtain rfl : k = l0.length := by omega
    rw [List.take_length] at hg hby ⊢
    repeat' (first | apply v_seq | apply v_region | apply v_nil | (apply v_exit; (case hp => rfl)) | (apply v_pure; (case hop => first | (apply p_move <;> rfl) | (apply p_lt <;> rfl) | (apply p_assign <;> rfl) | (apply p_lenSlice <;> rfl) | fail); (case hd => rfl)) | (apply v_cond; (case hc => rfl); all_goals (intro h; (try simp only [reduceCtorEq, zzz] at h); first | (exfalso; omega) | skip)) | fail)
    exact v_ret _ (outsA1 rfl rfl) (List.Sublist.refl _) ⟨hby, hg⟩
def crcTab : List Int := [0, 498536548, 997073096, 651767980, 1994146192, 1802195444, 1303535960, 1342533948, 3988292384, 4027552580, 3604390888, 3412177804, 2607071920, 2262029012, 2685067896, 3183342108]
theorem crcTab_at : ∀ i, i < 16 → crcTab[i]? = some ((tab i).toNat : Int) := by decide +kernel
theorem crcEq : (Rows.laid_changeover_crc_table : DataW Unit) = Lib.tabData .u32 crcTab := by kernel_rfl
abbrev tabsLaid3 : List (String × DataW Unit) := [("unicode/utf8.acceptRanges", Rows.laid_unicode_utf8_acceptRanges), ("changeover/crc.table", Rows.laid_changeover_crc_table), ("unicode/utf8.first", Rows.laid_unicode_utf8_first)]
theorem tabs3_plain : (tabsLaid3.all fun x => x.2.handleName?.isNone) = true := by kernel_rfl
theorem tabs3_of_laid {W : World} (hL : laidMetH Tryz.prog tabsLaid3 W) : TabsG (ghost W) ∧ CrcG (ghost W) := by
  rw [MakeChecks.laidMetH_plain _ _ _ tabs3_plain] at hL
  have r1 := Lib.laidMet.reads hL (.tail _ (.tail _ (.head _)))
  have r2 := Lib.laidMet.reads hL (.head _)
  have r3 := Lib.laidMet.reads hL (.tail _ (.head _))
  rw [firstEq] at r1
  rw [acceptEq] at r2
  rw [crcEq] at r3
  have hU := utf8Tabs_of_readsT (ρ := laysDecode_ren) { laysDecode with } ⟨by kernel_rfl, by kernel_rfl, by kernel_rfl, by kernel_rfl, by kernel_rfl, by kernel_rfl, by kernel_rfl⟩ r1 r2
  clear hL r1 r2
  constructor
  · intro w hw
    have lift : ∀ (a : Addr) v, W.cell? a = some v → w.cell? a = some v := by
      intro a v h
      unfold World.cell? at h ⊢
      cases hb : W.heap[a.block]? with
      | none => rw [hb] at h; simp at h
      | some o => rw [hw _ _ hb]; rw [hb] at h; exact h
    exact ⟨fun c hc => lift _ _ (hU.1 c hc), fun i hi => ⟨lift _ _ (hU.2 i hi).1, lift _ _ (hU.2 i hi).2⟩⟩
  · obtain ⟨g, t, cs, fuel, p, hg, hty, hvar, hd⟩ := r3
    obtain rfl := Option.some.inj ((show Tryz.prog.globalNamed "changeover/crc.table" = some 0 by kernel_rfl).symm.trans hg)
    obtain rfl := Option.some.inj ((show (Tryz.prog.globals[0]?).map (·.type) = some 240 by kernel_rfl).symm.trans hty)
    have hcs := Lib.cells_of_tab Tryz.underlying240 Tryz.underlying135 (by kernel_rfl) (by kernel_rfl) hd
    intro i hi
    rw [ghost_cell]
    have := World.var?_cell hg hvar i
    rw [this, ← Array.getElem?_toList, hcs, List.getElem?_map, crcTab_at i hi]
    rfl
theorem hasF_one (f : Int) (x : Rc) : hasF f [x] = errF f x := by
  unfold hasF
  by_cases h : f = 1 ∨ f = 2
  · rw [if_pos h]
    show (if errF f x = 0 then errsF f [] else errF f x) = errF f x
    by_cases h0 : errF f x = 0
    · rw [if_pos h0, h0]; rfl
    · rw [if_neg h0]
  · rw [if_neg h, errFN h]
set_option maxHeartbeats 1000000 in
theorem segmAdds_main {W : World} (hT : TabsG (ghost W)) (hC : CrcG (ghost W)) (f : Int) {x : Rc} {v0 : Value} (hx : RcV (ghost W) x v0) (hc : x.cmd.ok) (hw : x.small) : LawCon Tryz.prog 4 #[.int .i64 f, v0] W := by
  unfold LawCon
  generalize ghost W = G at *
  have qa := fun G' (h : GH.le G G') => awake20_s (hT.le h) (hC.le h)
  obtain ⟨iv, rfl, hi⟩ := id hx
  obtain ⟨Ax, cx, rfl, -, -, -, -, hiw⟩ := id hi.openInt
  have hr : RcR G x (recL x.kind x.round x.node x.index x.cmd (.slice Ax x.image.length cx)) := ⟨_, rfl, hc, hw, hi⟩
  (refine v_enter Tryz.func4 rfl Tryz.ntmps4 rfl ?_; intro B _)
  repeat' (first | apply v_seq | apply v_region | apply v_nil | (apply v_pure; (case hop => (apply p_assign <;> rfl)); (case hd => rfl)) | (apply v_box (zs := recL x.kind x.round x.node x.index x.cmd (.slice Ax x.image.length cx)); (case hx => rfl); (case hz => rfl); (case hd => rfl); intro xb) | (apply v_read; (case hop => (apply r_loadNo; (case hx => rfl); (case h => (repeat (exact mhd _))); (case hd => (repeat (first | with_reducible exact dt_nil | apply dt_here))); (case hn => rfl))); (case hd => rfl)) | (apply v_buildSlice; (case hz => rfl); (case hi => rfl); (case hv => (simp only [List.map_cons, List.map_nil]; repeat (first | with_reducible exact evs_nil | (apply evs_cons; (case h1 => rfl))))); (case hp => (apply pk_cons; (case hc => rfl); (case hs => rfl); (case h => (with_reducible exact pk_nil)); (case he => ((repeat (first | with_reducible exact ap_nil | apply ap_cons)); done)))); (case hb => rfl); (case hd => rfl); intro b) | fail)
  revert b
  intro b1
  refine v_frz [(b1, _)] (by repeat (exact PickA.here _)) ?_
  intro G1 hle1 hG1
  have hrs1 := one_rs (hG1 _ _ (List.Mem.head _)) (hr.le hle1)
  refine v_call (μ1 := []) rfl (rLarge_s hrs1) (List.Perm.refl _) rfl ?_
  rintro _ G2 _ - ⟨hG2, rfl, lb, rfl, hlb⟩
  subst hG2
  cases lb
  rotate_left
  · repeat' (first | apply v_seq | apply v_region | apply v_nil | (apply v_pure; (case hop => (apply p_assign <;> rfl)); (case hd => rfl)) | (apply v_condT; (case hc => rfl)) | (apply v_callJ (hs := qa _ hle1); (case ha => rfl); (case hd => rfl)) | fail)
    all_goals
      (refine v_ret [] (outsA1 rfl rfl) (by repeat (exact List.nil_sublist _)) ?_
       rfl)
  obtain ⟨hl, him⟩ := (hlb rfl).2 x (List.mem_singleton.2 rfl)
  clear hlb
  have h1 := hasF_one f x
  have qs := sadd_s (hT.le hle1) (hC.le hle1) f (hx.le hle1) hc hl hw
  unfold AddS at qs
  repeat' (first | apply v_seq | apply v_region | apply v_nil | apply v_skip | (apply v_pure; (case hop => (apply p_move <;> rfl)); (case hd => rfl)) | (apply v_condF; (case hc => rfl)) | (apply v_read; (case hop => (apply r_loadNo; (case hx => rfl); (case h => (repeat (exact mhd _))); (case hd => (repeat (first | with_reducible exact dt_nil | apply dt_here))); (case hn => rfl))); (case hd => rfl)) | fail)
  refine v_call (μ1 := []) rfl qs (List.Perm.refl _) rfl ?_
  rintro _ G3 _ hle3 ⟨rfl, v3, rfl, s3⟩
  have hle13 := GH.le_trans hle1 hle3
  repeat' (first | apply v_seq | apply v_region | apply v_nil | (apply v_pure; (case hop => first | (apply p_move <;> rfl) | (apply p_assign <;> rfl) | (apply p_extract0 <;> rfl) | (apply p_extract1 <;> rfl) | fail); (case hd => rfl)) | (apply v_read; (case hop => (apply r_loadNo; (case hx => rfl); (case h => (repeat (exact mhd _))); (case hd => (repeat (first | with_reducible exact dt_nil | apply dt_here))); (case hn => rfl))); (case hd => rfl)) | (apply v_buildSlice; (case hz => rfl); (case hi => rfl); (case hv => (simp only [List.map_cons, List.map_nil]; repeat (first | with_reducible exact evs_nil | (apply evs_cons; (case h1 => rfl))))); (case hp => (apply pk_cons; (case hc => rfl); (case hs => rfl); (case h => (with_reducible exact pk_nil)); (case he => ((repeat (first | with_reducible exact ap_nil | apply ap_cons)); done)))); (case hb => rfl); (case hd => rfl); intro b) | fail)
  rename Nat => b4
  refine v_frz [(b4, _)] (by repeat (exact PickA.here _)) ?_
  intro G4 hle4 hG4
  have hle14 := GH.le_trans hle13 hle4
  have hrs4 := one_rs (hG4 _ _ (List.Mem.head _)) (hr.le hle14)
  have q4 := has20_s f hrs4
  rw [h1] at q4
  have qa4 := qa _ hle14
  by_cases h0 : errF f x = 0
  rotate_left
  · rw [if_neg h0] at s3
    obtain ⟨A3, c3, rfl, -⟩ := id s3.openInt
    generalize errF f x = e at *
    repeat' (first | apply v_seq | apply v_region | apply v_nil | (apply v_take; (case hg => rfl)) | (apply v_pure; (case hop => first | (apply p_move <;> rfl) | (apply p_eqs <;> rfl) | (apply p_ne <;> rfl) | (apply p_assign <;> rfl) | (apply p_pickT <;> rfl) | (apply p_lenSlice <;> rfl) | fail); (case hd => rfl)) | (apply v_cond; (case hc => rfl); all_goals (intro h; (try simp only [reduceCtorEq, zzz] at h); first | (exfalso; omega) | skip)) | (apply v_callJ (hs := q4); (case ha => rfl); (case hd => rfl)) | (apply v_callJ (hs := qa4); (case ha => rfl); (case hd => rfl)) | fail)
    all_goals first
      | (exfalso; omega)
      | (refine v_ret [] (outsA1 rfl rfl) (by repeat (exact List.nil_sublist _)) ?_
         rfl)
      | skip
    all_goals vx_show
  rw [if_pos h0] at s3
  obtain ⟨hf, -, -⟩ := errF_parts h0
  have hokf : OkF f x := ⟨h0, him⟩
  obtain ⟨A3, c3, rfl, -⟩ := id s3.openInt
  rw [h0] at q4 ⊢
  repeat' (first | apply v_seq | apply v_region | apply v_nil | apply v_skip | (apply v_pure; (case hop => first | (apply p_move <;> rfl) | (apply p_nes <;> rfl) | (apply p_assign <;> rfl) | (apply p_build; (case hz => rfl); (case hv => (simp only [List.map_cons, List.map_nil]; repeat (with_reducible exact evs_nil))); (case hb => (apply bldL; repeat (exact bld_nil)))) | fail); (case hd => rfl)) | (apply v_condF; (case hc => rfl)) | (apply v_callJ (hs := q4); (case ha => rfl); (case hd => rfl)) | (apply v_read; (case hop => (apply r_loadNo; (case hx => rfl); (case h => (repeat (exact mhd _))); (case hd => (repeat (first | with_reducible exact dt_nil | apply dt_here))); (case hn => rfl))); (case hd => rfl)) | (apply v_buildSlice; (case hz => rfl); (case hi => rfl); (case hv => (simp only [List.map_cons, List.map_nil]; repeat (first | with_reducible exact evs_nil | (apply evs_cons; (case h1 => rfl))))); (case hp => (apply pk_cons; (case hc => rfl); (case hs => rfl); (case h => (with_reducible exact pk_nil)); (case he => ((repeat (first | with_reducible exact ap_nil | apply ap_cons)); done)))); (case hb => rfl); (case hd => rfl); intro b) | fail)
  revert b
  intro b5
  refine v_frz [(b5, _)] (by repeat (exact PickA.here _)) ?_
  intro G5 hle5 hG5
  have hle15 := GH.le_trans hle14 hle5
  have hrs5 := one_rs (hG5 _ _ (List.Mem.head _)) (hr.le hle15)
  have q5 := file_s (hd_zero G5) good_zero (by omega) hf hrs5 (by simp) (by rw [recs_zero]; intro y hy; rw [List.nil_append, List.mem_singleton] at hy; rw [hy]; exact hokf) (by rw [recs_zero]; decide)
  rw [recs_zero] at q5
  simp only [List.nil_append, List.length_nil] at q5
  refine v_call (μ1 := []) rfl q5 (List.Perm.refl _) rfl ?_
  rintro v6 G6 ν6 hle6 ⟨hb6, hg6⟩
  refine v_frzP ν6 (List.Perm.refl _) ?_
  intro G7 hle7 hG7
  have s7 := hg6.ints hG7 (byteL.wf hb6)
  have q8 := file_s (more := []) (hd_zero G7) good_zero (by omega) hf Sl.nil (by decide) (by rw [recs_zero]; intro y hy; cases hy) (by rw [recs_zero]; decide)
  rw [recs_zero] at q8
  simp only [List.nil_append, List.length_nil] at q8
  repeat' (first | (apply v_pure; (case hop => first | (apply p_move <;> rfl) | (apply p_build; (case hz => rfl); (case hv => (simp only [List.map_cons, List.map_nil]; repeat (with_reducible exact evs_nil))); (case hb => (apply bldL; repeat (exact bld_nil)))) | fail); (case hd => rfl)) | fail)
  refine v_call (μ1 := []) rfl q8 (List.Perm.refl _) rfl ?_
  rintro v9 G9 ν9 hle9 ⟨hb9, hg9⟩
  refine v_frzP ν9 (List.Perm.refl _) ?_
  intro G10 hle10 hG10
  have s10 := hg9.ints hG10 (byteL.wf hb9)
  have hle7' := GH.le_trans hle9 hle10
  have s7' := s7.mono hle7'
  have e1 : fileB encF f 0 [x] = fileB encF f 0 [] ++ frB (encF f x) := by
    simp [fileB, flatF]
  rw [e1] at s7'
  have hll : (fileB encF f 0 [] ++ frB (encF f x)).length = (fileB encF f 0 []).length + (frB (encF f x)).length := List.length_append
  have hdr : ((fileB encF f 0 [] ++ frB (encF f x)).take (((fileB encF f 0 [] ++ frB (encF f x)).length : Nat) : Int).toNat).drop (((fileB encF f 0 []).length : Nat) : Int).toNat = frB (encF f x) := by
    rw [Int.toNat_natCast, Int.toNat_natCast, List.take_length, List.drop_left]
  generalize fileB encF f 0 [] = Z at *
  generalize frB (encF f x) = E at *
  obtain ⟨A7, c7, rfl, hl7, hc7, -⟩ := id s7'.openInt
  simp only [maxLen] at hc7
  obtain ⟨A10, c10, rfl, -⟩ := id s10.openInt
  have ss := sl_sub s7' (lo := (Z.length : Nat)) (hi := ((Z ++ E).length : Nat)) (by omega) (by omega) (by omega)
  rw [hdr] at ss
  have qb := bSame_s (s3.mono (GH.le_trans (GH.le_trans hle4 hle5) (GH.le_trans (GH.le_trans hle6 hle7) hle7'))) ss
  rw [decide_eq_true rfl] at qb
  have qa10 := qa _ (GH.le_trans hle15 (GH.le_trans (GH.le_trans hle6 hle7) hle7'))
  repeat' (first | apply v_seq | apply v_region | apply v_nil | (apply v_take; (case hg => rfl)) | (apply v_pure; (case hop => first | (apply p_move <;> rfl) | (apply p_eqs <;> rfl) | (apply p_assign <;> rfl) | (apply p_pickT <;> rfl) | (apply p_lenSlice <;> rfl) | (apply p_sliceL; (case hx => rfl); (case hl => rfl); all_goals omega) | fail); (case hd => rfl)) | (apply v_callJ (hs := qb); (case ha => rfl); (case hd => rfl)) | (apply v_callJ (hs := qa10); (case ha => rfl); (case hd => rfl)) | fail)
  all_goals
    (refine v_ret [] (outsA1 rfl rfl) (by repeat (exact List.nil_sublist _)) ?_
     rfl)
theorem segmAdds_law {W : World} {v0 v1 : Value} (hT : TabsG (ghost W) ∧ CrcG (ghost W)) (g0 : IsInt v0) (g1 : ∃ y : Rc, RcV (ghost W) y v1 ∧ y.cmd.ok ∧ y.small) : LawCon Tryz.prog 4 #[v0, v1] W := by
  obtain ⟨f, rfl, -⟩ := g0
  obtain ⟨x, hx, hc, hw⟩ := g1
  exact segmAdds_main hT.1 hT.2 f hx hc hw
theorem clos_laid : laidOutB Tryz.prog = true := by kernel_rfl
theorem clos_rowed : mapsRowed Tryz.prog = true := by kernel_rfl
theorem clos_heard : Tryz.prog.stopsHeard = true := by kernel_rfl
theorem clos_may : Tryz.prog.mayEnter = true := by kernel_rfl
theorem clos_lifts : (Rows.segmHeadsRow.lifted == Tryz.prog.liftsFinal) = true := by kernel_rfl
theorem clos_make : (Tryz.prog.make == some Rows.segmHeadsRow.make) = true := by kernel_rfl
theorem clos_plain : (Rows.segmHeadsRow.plainKeys == Tryz.prog.plainKeys) = true := by kernel_rfl
theorem clos_main : Tryz.prog.mainIs = some (true, "ff985d4a2c195d2b053ff752d8f9403905b3d56cfab988831be32c96f38effc7".toList) := by kernel_rfl
theorem clos_looks : true = Tryz.prog.looks [] := by kernel_rfl
theorem segmAdds_own : ownKnob Tryz.prog.godebug = none := by kernel_rfl
theorem segmAdds_laidOut : laidOutB Tryz.prog = true := clos_laid
theorem segmAdds_spec : LawSpec Rows.segmAddsSpec 2 := ⟨rfl, fun H ds h => by match ds, h with | [d0, d1], _ => rfl⟩
set_option maxRecDepth 100000 in
theorem segmAdds_lifted (os : Os) (started : os.Started) (H : Type) (enc : TypeId × Value → H) :
    ReturnsInHanded {} Tryz.checked os 4 .any (fun w args => (Rows.segmAddsSpec.pre enc Tryz.prog Tryz.f4 Rows.segmAddsRow.domain false w args ∧ laidMetH Tryz.prog tabsLaid3 w) ∧ sizedMet enc Tryz.prog Tryz.f4 (OpenSpec.ofChange Rows.segmAddsSpec) false w args)
      (Rows.segmAddsSpec.post enc Tryz.prog Tryz.f4 false true false false) := by
  refine returnsInHanded_of_change_and (C := Tryz.checked) (X := fun w _ => laidMetH Tryz.prog tabsLaid3 w) (fun _ _ _ hh h => h.of_heap hh) segmAdds_own started (by kernel_rfl) Tryz.func4
    (ChangeSpec.witness_shaped (enc := enc) (C := Tryz.checked) (os := os) (X := fun w _ => laidMetH Tryz.prog tabsLaid3 w) false (World.laidAll Tryz.prog os tabsLaid3) #[.int .i64 0, .agg #[.int .i64 0, .int .i64 0, .int .i64 0, .int .i64 0, .int .i64 0, .int .i64 0, .int .i64 0, .string ByteArray.empty, .string ByteArray.empty, .string ByteArray.empty, .int .i64 0, .slice none 0 0]] 8 (World.laidAll_os _ _ _)
      (World.shaped_of_ZipB (by kernel_rfl) (by kernel_rfl)) (by kernel_rfl) (by kernel_rfl) (by kernel_rfl)
      (by rw [MakeChecks.laidMetH_plain _ _ _ tabs3_plain]; exact laidMet_laidAll _ (by kernel_rfl) (by kernel_rfl))) ?_
  intro W base args ds gs before hval0 hW hcnd _ hL _
  have hval : ∀ (j : Nat) t v, Tryz.f4.params[j]? = some t → args[j]? = some v → Value.okWide Tryz.prog W .any base t v := hval0
  refine law_post segmAdds_laidOut Tryz.underlying4 rfl segmAdds_spec rfl (by kernel_rfl) hW ?_
  obtain ⟨p, q, hA0, hV, rfl, hfz, hnd⟩ := hW
  have hA : DataW.TrodAll enc Tryz.prog W 0 (fun _ => true) true Tryz.f4.params.toList args.toList ds p := hA0
  rw [Tryz.params4] at hA hval
  obtain ⟨v0, vs0, d0, ds0, p0, q0, hargs, rfl, rfl, h0, r0⟩ := trodAll_cons hA
  obtain ⟨v1, vs1, d1, ds1, p1, q1, rfl, rfl, rfl, h1, r1⟩ := trodAll_cons r0
  obtain ⟨rfl, rfl, rfl⟩ := trodAll_nil r1
  obtain rfl : args = #[v0, v1] := by cases args; simp_all
  have g0 := arg_t3 (hval 0 3 v0 rfl rfl) h0
  have g1 := arg_t42 (hval 1 42 v1 rfl rfl) h1
  exact segmAdds_law (tabs3_of_laid hL) g0 g1
theorem segmAdds_c_inPlace : (Rows.segmAddsRow.inPlace == Tryz.prog.inPlace 4) = true := by kernel_rfl
theorem segmAdds_c_unfollowed : (Rows.segmAddsRow.unfollowed == Tryz.prog.unfollowed 4) = true := by kernel_rfl
theorem segmAdds_c_recurses : (Rows.segmAddsRow.recurses == Tryz.prog.recurses 4) = true := by kernel_rfl
theorem segmAdds_c_named : (Rows.segmAddsRow.named == Tryz.prog.varsNamed 4) = true := by kernel_rfl
theorem segmAdds_c_lifted : (Rows.segmAddsRow.lifted == Tryz.prog.liftsFinal) = true := clos_lifts
theorem segmAdds_c_make : (Tryz.prog.make == some Rows.segmAddsRow.make) = true := clos_make
theorem segmAdds_c_plainKeys : (Rows.segmAddsRow.plainKeys == Tryz.prog.plainKeys) = true := clos_plain
theorem segmAdds_closed : joinedFacts Tryz.prog 4 Tryz.f4 Rows.segmAddsSpec Rows.segmAddsRow = true := by
  unfold joinedFacts
  rw [clos_laid, clos_rowed, clos_heard, clos_may, segmAdds_c_inPlace, segmAdds_c_unfollowed, segmAdds_c_recurses, segmAdds_c_named, segmAdds_c_lifted, segmAdds_c_make, segmAdds_c_plainKeys]
  kernel_rfl
theorem segmAdds_over : Rows.segmAddsRow.holds Tryz.pinned (OpenSpec.ofChange Rows.segmAddsSpec) :=
  OpenClaim.holds_of_wide 4 Tryz.f4 rfl rfl rfl rfl rfl rfl rfl ⟨rfl, rfl, rfl, rfl, rfl⟩ rfl rfl rfl rfl rfl (by kernel_rfl) Tryz.func4 segmAdds_closed
    (of_decide_eq_true (by kernel_rfl)) (by unfold Func.isWrapper; first | (rw [if_pos (by decide +kernel)]; kernel_rfl) | (rw [if_neg (by decide +kernel)]; exact ⟨rfl, rfl⟩))
    (fun os started H enc _ => segmAdds_lifted os started H enc)
theorem segmAdds_holds : Rows.SegmAddsSaid := segmAdds_over
theorem segmAdds_c_wft : Rows.segmAddsRow.wfByText (OpenSpec.ofChange Rows.segmAddsSpec) = true := by kernel_rfl
theorem segmAdds_c_func : Tryz.prog.funcNamed Rows.segmAddsRow.func = some 4 := by kernel_rfl
theorem segmAdds_c_stand : ([3, 42].all fun u => !Tryz.prog.wantsStandIn u) = true := by kernel_rfl
theorem segmAdds_c_goes : false = Rows.segmAddsRow.goesBy Tryz.prog := by kernel_rfl
theorem segmAddsCard_holds : Rows.SegmAddsCardSaid :=
  Claim7.holds_tied_plain_at .later [] [.data, .data, .pinned] true (true, "ff985d4a2c195d2b053ff752d8f9403905b3d56cfab988831be32c96f38effc7") true segmAdds_holds (fun _ h => by cases h) segmAdds_c_wft (fun _ h => by cases h) segmAdds_row_tie rfl ⟨rfl, rfl⟩ clos_main rfl
    (fun f fn hf hfn => by
      obtain rfl : f = 4 := Option.some.inj (segmAdds_c_func.symm.trans hf) |>.symm
      obtain rfl : fn = Tryz.f4 := (Option.some.inj (Tryz.func4.symm.trans hfn)).symm
      exact ⟨clos_looks, fun j t ht => by
        rw [Tryz.params4] at ht
        have hm : t ∈ [3, 42] := by simpa using Array.mem_of_getElem? ht
        exact (show Tryz.prog.wantsStandIn t = false by simpa using List.all_eq_true.1 segmAdds_c_stand t hm)⟩)
    segmAdds_c_goes
end Go.Proofs.YtpemabgfmnhhnaaGreatDoor
