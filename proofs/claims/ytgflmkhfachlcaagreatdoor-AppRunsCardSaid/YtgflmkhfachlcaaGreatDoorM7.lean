/-
  app's law (layer 28): awake.
-/
import Derived.Test.YtgflmkhfachlcaaGreatDoorM6
import Derived.Test.YtgflmkhfachlcaaGreatDoorM4
import Derived.Lib.LaidU8T
import Derived.MakeChecks
import Derived.Test.YtgflmkhfachlcaaGreatDoorRows
import Derived.Test.YtgflmkhfachlcaaGreatDoorTie
import Derived.Test.YtgflmkhfachlcaaGreatDoorCards
import Derived.Lay
import Derived.LaidMore
import Derived.SevenTiedAt
import Derived.Stop.Joined
set_option linter.unusedSimpArgs false
set_option linter.unusedVariables false
namespace Go.Proofs.YtgflmkhfachlcaaGreatDoor
open Go.Vx Go.ChangeShapes Go.WideShapes Go.ChangeAt Go.RowKit
theorem empty_s (G : GH) : Con Tryz.prog 21 #[] G [] (Just (.agg [.int .i64 1, .slice none 0 0, .slice none 0 0].toArray) G) := by
  apply Con.just
  (refine v_enter Tryz.func21 rfl Tryz.ntmps21 rfl ?_; intro B _)
  repeat' (first | (apply v_alloc (d := 0); (case hz => rfl); (case hd => rfl); intro b0) | apply v_seq | apply v_region | apply v_nil | (apply v_pure; (case hop => first | (apply p_build; (case hz => rfl); (case hv => (simp only [List.map_cons, List.map_nil]; repeat (first | with_reducible exact evs_nil | (apply evs_cons; (case h1 => rfl))))); (case hb => (apply bldL; repeat (first | exact bld_nil | (apply bld_cons; (case hpf => rfl); (case hc => rfl); (case hs => rfl); (case hl => rfl); (case ho => (first | ((repeat (first | with_reducible exact ov_nil | apply ov_cons | fail)); done) | fail)))))))); (case hd => rfl)) | (apply v_store; (case hp => rfl); (case hx => rfl); (case hc => rfl); (case hsz => rfl); (case h1 => rfl); (case hb => (repeat (first | exact List.Mem.head _ | fail))); (case hfit => first | exact Nat.le_of_ble_eq_true rfl | fail); (case hov => (first | ((repeat (first | with_reducible exact ov_nil | apply ov_cons | fail)); done) | fail)); (case hu => repeat (first | exact Upd.here _ _ | fail))) | fail)
  refine v_retM [] (outsM_cell (sz := 3) (vs := [.int .i64 1, .slice none 0 0, .slice none 0 0]) (e := 25) rfl rfl (by (repeat (first | exact List.Mem.head _ | fail))) rfl) (List.nil_sublist _) ⟨rfl, rfl⟩
theorem emp_v (G : GH) : StV G emp (.agg [.int .i64 1, .slice none 0 0, .slice none 0 0].toArray) := by
  refine ⟨none, 0, none, 0, rfl, ?_, ?_⟩
  · exact row_of_grow Pr.len (Grow.nil 65 3) (fun b o h => by cases h)
  · exact row_of_grow Ss.len (Grow.nil 55 8) (fun b o h => by cases h)
section
attribute [local semireducible] Vc DVc Con PureOp ReadOp MoveOp
theorem Con.give {P : Program} {f : FuncId} {args : Array Value} {G : GH} {ν : OH} {Ψ : Value → GH → OH → Prop} (h : ∀ G', GH.le G G' → (∀ b o, (b, o) ∈ ν → G' b = some o) → Con P f args G' [] Ψ) : Con P f args G ν Ψ := by
  intro w hw
  have s1 : Step G ν w G (ν ++ []) w := by rw [List.append_nil]; exact Step.refl hw
  have s2 := s1.freeze
  have hn := s1.mem.nodup
  rw [List.append_nil] at hn
  refine (h _ (GH.le_put _ _) (fun b o hb => GH.put_mem hn (hw.apart b o hb) hb) w s2.mem).mono fun v w' ⟨G', μ', hs, hΦ⟩ => ⟨G', μ', s2.trans hs, hΦ⟩
end
theorem madeC {G : GH} {l : List Cm} {b : Nat} (h : l.length ≤ 200) (hb : G b = some (.cells (rowC Cm.cells l).toArray 38 (0, 0))) : Cms G (.slice (some ⟨b, 0, none⟩) l.length l.length) l := by
  have hg : Grow 38 7 (.slice (some ⟨b, 0, none⟩) l.length l.length) l.length (rowC Cm.cells l) [(b, .cells (rowC Cm.cells l).toArray 38 (0, 0))] :=
    ⟨rowC_length Cm.len l, .inr ⟨b, l.length, [], rfl, by rw [List.append_nil], Nat.le_refl _, by simp only [maxLen]; omega, by rw [List.append_nil]; exact rowC_length Cm.len l⟩⟩
  exact row_of_grow Cm.len hg (fun b' o h => by simp only [List.mem_singleton] at h; cases h; exact hb)
theorem awake28_s {G : GH} (hT : TabsG G) : Con Tryz.prog 8 #[] G [] (fun r G' μ' => r = .bool true ∧ μ' = []) := by
  have q0 := fun G' => empty_s G'
  have hlw : CmsW [cA, mA, cA] := ⟨by decide, fun c hc => by
    have h1 : cA.ok ∧ CmW cA := ⟨⟨by decide, by decide, by decide, by decide, by decide, by decide, by decide⟩, by decide, by decide⟩
    have h2 : mA.ok ∧ CmW mA := ⟨⟨by decide, by decide, by decide, by decide, by decide, by decide, by decide⟩, by decide, by decide⟩
    simp only [List.mem_cons, List.not_mem_nil, or_false] at hc
    rcases hc with rfl | rfl | rfl
    · exact h1
    · exact h2
    · exact h1⟩
  have hz : StZ emp := emp_ok.small
  have qr := fun G' (h : TabsG G') b (hb : G' b = some (.cells (rowC Cm.cells [cA, mA, cA]).toArray 38 (0, 0))) => run_s (lv := .slice (some ⟨b, 0, none⟩) 3 3) (l := [cA, mA, cA]) h (emp_v G') hz (madeC (l := [cA, mA, cA]) (by decide) hb) hlw
  rw [run_awake] at qr
  simp only at qr
  (refine v_enter Tryz.func8 rfl Tryz.ntmps8 rfl ?_; intro B _)
  repeat' (first | (apply v_alloc (d := 1); (case hz => rfl); (case hd => rfl); intro b1) | apply v_seq | apply v_region | apply v_nil | (apply v_pure; (case hop => first | (apply p_assign <;> rfl) | (apply p_build; (case hz => rfl); (case hv => (simp only [List.map_cons, List.map_nil]; repeat (first | with_reducible exact evs_nil | (apply evs_cons; (case h1 => rfl))))); (case hb => (apply bldL; repeat (first | exact bld_nil | (apply bld_cons; (case hpf => rfl); (case hc => rfl); (case hs => rfl); (case hl => rfl); (case ho => (first | ((repeat (first | with_reducible exact ov_nil | apply ov_cons | fail)); done) | fail))))))) | fail); (case hd => rfl)) | (apply v_store; (case hp => rfl); (case hx => rfl); (case hc => rfl); (case hsz => rfl); (case h1 => rfl); (case hb => (repeat (first | exact List.Mem.head _ | fail))); (case hfit => first | exact Nat.le_of_ble_eq_true rfl | fail); (case hov => (first | ((repeat (first | with_reducible exact ov_nil | apply ov_cons | fail)); done) | fail)); (case hu => repeat (first | exact Upd.here _ _ | fail))) | fail)
  have qg := fun b => Con.give (fun G' hle hG => qr G' (hT.up hle) b (hG _ _ (List.Mem.head _))) (G := G) (ν := [(b, .cells (rowC Cm.cells [cA, mA, cA]).toArray 38 (0, 0))])
  refine d_start [(b1, .cells [.int .i64 5, .int .i64 1, .int .i64 1, .string kA, .string ByteArray.empty, .string ByteArray.empty, .int .i64 0].toArray 38 (0, 0))] (by kernel_rfl) (by kernel_rfl) (by kernel_rfl) (by intro e he; first | exact he | fail) ?_
  all_goals (first | (apply d_take 1; (case hi => rfl); (case hop => first   | (apply r_loadNo; (case hx => rfl); (case h => (repeat (first | exact List.Mem.head _ | fail))); (case hd => (repeat (first | with_reducible exact dt_nil | apply dt_here | fail))); (case hn => rfl)) | (apply r_load1; rfl; (apply Cell.own; (case h => (repeat (fail))); rfl)) | (apply r_loadN; rfl; (apply CellsAt.own; (case h => (repeat (fail)))); rfl)); (case hf => kernel_rfl); (case hr => kernel_rfl); (case hd => rfl)) | fail)
  all_goals (first | (apply d_take 2; (case hi => rfl); (case hop => first | (apply PureOp.read; apply p_build; (case hz => rfl); (case hv => (simp only [List.map_cons, List.map_nil]; repeat (first | with_reducible exact evs_nil | (apply evs_cons; (case h1 => rfl))))); (case hb => (apply bldL; repeat (first | exact bld_nil | (apply bld_cons; (case hpf => rfl); (case hc => rfl); (case hs => rfl); (case hl => rfl); (case ho => (first | ((repeat (first | with_reducible exact ov_nil | apply ov_cons | fail)); done) | fail)))))))); (case hf => kernel_rfl); (case hr => kernel_rfl); (case hd => rfl)) | fail)
  all_goals (first | (apply d_take 3; (case hi => rfl); (case hop => first   | (apply r_loadNo; (case hx => rfl); (case h => (repeat (first | exact List.Mem.head _ | fail))); (case hd => (repeat (first | with_reducible exact dt_nil | apply dt_here | fail))); (case hn => rfl)) | (apply r_load1; rfl; (apply Cell.own; (case h => (repeat (fail))); rfl)) | (apply r_loadN; rfl; (apply CellsAt.own; (case h => (repeat (fail)))); rfl)); (case hf => kernel_rfl); (case hr => kernel_rfl); (case hd => rfl)) | fail)
  refine d_fork3 0 4 10 (by kernel_rfl) ?fk1a ?fk1b ?fk1c
  case' fk1a =>
    first | (apply x_exec 0; (case hi => rfl); (case hop => apply m_callFJ (hs := (q0 _)) <;> rfl); (case hd => rfl); rintro _ _ _ ⟨rfl, rfl, rfl⟩; refine ⟨(by intro e he; first | exact he | fail), ?_⟩) | fail
    refine d_fork 4 10 (by kernel_rfl) ?fk2a ?fk2b
    case' fk2a =>
      first | (apply x_buildSlice 4; (case hi => rfl); (case hT => infer_instance); (case hL => infer_instance); (case hz => rfl); (case hl => rfl); (case hv => (simp only [List.map_cons, List.map_nil]; repeat (first | with_reducible exact evs_nil | (apply evs_cons; (case h1 => rfl))))); (case hp => (first | (apply pk_cons; (case hc => rfl); (case hs => rfl); (case h => (first | (apply pk_cons; (case hc => rfl); (case hs => rfl); (case h => (first | (apply pk_cons; (case hc => rfl); (case hs => rfl); (case h => (first | with_reducible exact pk_nil | fail)); (case he => (first | ((repeat (first | with_reducible exact ap_nil | apply ap_cons)); done) | fail))) | fail)); (case he => (first | ((repeat (first | with_reducible exact ap_nil | apply ap_cons)); done) | fail))) | fail)); (case he => (first | ((repeat (first | with_reducible exact ap_nil | apply ap_cons)); done) | fail))) | fail)); (case hb => rfl); (case hd => rfl); (case hν => intro e he; first | exact he | fail); intro bs) | fail
      refine d_fork 5 10 (by kernel_rfl) ?fk3a ?fk3b
      case' fk3a =>
        first | (apply x_call 5 (hs := qg bs) (μ1 := [(bs, .cells (rowC Cm.cells [cA, mA, cA]).toArray 38 (0, 0))]); (case hi => rfl);  (case ha => rfl); (case hp => exact PickA.perm (by repeat (first | exact PickA.here _ | fail))); (case hd => rfl); (case hν' => intro e he; simp only [List.mem_cons, List.not_mem_nil, or_false] at he; rcases he with rfl; simp); rintro _ G6 ν6 hle6 ⟨v6, av6, rfl, hs6, hg6⟩; obtain ⟨A6, c6, A6', c6', rfl, -, -⟩ := id hs6) | fail
        all_goals (first | (apply d_take 6; (case hi => rfl); (case hop => first | (apply PureOp.read; apply p_move <;> rfl)); (case hf => kernel_rfl); (case hr => kernel_rfl); (case hd => rfl)) | fail)
        all_goals (first | (apply d_take 7; (case hi => rfl); (case hop => first | (apply PureOp.read; apply p_extract0 <;> rfl) | fail); (case hf => kernel_rfl); (case hr => kernel_rfl); (case hd => rfl)) | fail)
        all_goals (first | (apply d_take 8; (case hi => rfl); (case hop => first | (apply PureOp.read; apply p_extract1 <;> rfl) | fail); (case hf => kernel_rfl); (case hr => kernel_rfl); (case hd => rfl)) | fail)
        all_goals (first | (apply d_take 9; (case hi => rfl); (case hop => first | (apply PureOp.read; apply p_extract2 <;> rfl) | fail); (case hf => kernel_rfl); (case hr => kernel_rfl); (case hd => rfl)) | fail)
        all_goals (first | ((apply d_exec (d := 2) 10; (case hi => rfl); (case hr => kernel_rfl);  (case hop => exact m_alloc rfl); (case hd => rfl); rintro _ G0 _ ⟨b2, rfl, hG0, rfl⟩; subst G0; refine ⟨(by intro e he; simp only [List.mem_cons, List.not_mem_nil, or_false] at he; rcases he with rfl; simp), ?_⟩)) | fail)
        all_goals (first | (apply d_store 11; (case hi => rfl); (case hr => kernel_rfl); (case hL => infer_instance); (case hp => rfl); (case hx => rfl); (case hc => rfl); (case hsz => rfl); (case h1 => rfl); (case hb => (repeat (first | exact List.Mem.head _ | fail))); (case hfit => first | exact Nat.le_of_ble_eq_true rfl | fail); (case hov => (first | ((repeat (first | with_reducible exact ov_nil | apply ov_cons | fail)); done) | fail)); (case hu => repeat (first | exact Upd.here _ _ | fail)); (case hν' => intro e he; first | (simp at he; simp [he]; done) | fail)) | fail)
        all_goals (first | (apply d_take 12; (case hi => rfl); (case hop => first | (apply PureOp.read; apply p_assign <;> rfl)); (case hf => kernel_rfl); (case hr => kernel_rfl); (case hd => rfl)) | fail)
        all_goals (first | (apply d_take 13; (case hi => rfl); (case hop => first | (apply PureOp.read; apply p_assign <;> rfl)); (case hf => kernel_rfl); (case hr => kernel_rfl); (case hd => rfl)) | fail)
        all_goals (apply d_done; (case hr => kernel_rfl))
      case' fk3b =>
        first | (apply x_exec (d := 2) 10; (case hi => rfl);  (case hop => exact m_alloc rfl); (case hd => rfl); rintro _ G0 _ ⟨b2, rfl, hG0, rfl⟩; subst G0; refine ⟨(by intro e he; simp only [List.mem_cons, List.not_mem_nil, or_false] at he; rcases he with rfl; simp), ?_⟩) | fail
        all_goals (first | ((apply d_call 5 (hs := qg bs) (μ1 := [(bs, .cells (rowC Cm.cells [cA, mA, cA]).toArray 38 (0, 0))]); (case hi => rfl); (case hr => kernel_rfl);  (case ha => rfl); (case hp => exact PickA.perm (by repeat (first | exact PickA.here _ | apply PickA.cons | fail))); (case hd => rfl); (case hν' => intro e he; simp only [List.mem_cons, List.not_mem_nil, or_false] at he; rcases he with rfl; simp); rintro _ G6 ν6 hle6 ⟨v6, av6, rfl, hs6, hg6⟩; obtain ⟨A6, c6, A6', c6', rfl, -, -⟩ := id hs6)) | fail)
        all_goals (first | (apply d_take 6; (case hi => rfl); (case hop => first | (apply PureOp.read; apply p_move <;> rfl)); (case hf => kernel_rfl); (case hr => kernel_rfl); (case hd => rfl)) | fail)
        all_goals (first | (apply d_take 7; (case hi => rfl); (case hop => first | (apply PureOp.read; apply p_extract0 <;> rfl) | fail); (case hf => kernel_rfl); (case hr => kernel_rfl); (case hd => rfl)) | fail)
        all_goals (first | (apply d_take 8; (case hi => rfl); (case hop => first | (apply PureOp.read; apply p_extract1 <;> rfl) | fail); (case hf => kernel_rfl); (case hr => kernel_rfl); (case hd => rfl)) | fail)
        all_goals (first | (apply d_take 9; (case hi => rfl); (case hop => first | (apply PureOp.read; apply p_extract2 <;> rfl) | fail); (case hf => kernel_rfl); (case hr => kernel_rfl); (case hd => rfl)) | fail)
        all_goals (first | (apply d_store 11; (case hi => rfl); (case hr => kernel_rfl); (case hL => infer_instance); (case hp => rfl); (case hx => rfl); (case hc => rfl); (case hsz => rfl); (case h1 => rfl); (case hb => (repeat (first | exact List.Mem.head _ | apply List.mem_append_right))); (case hfit => first | exact Nat.le_of_ble_eq_true rfl | fail); (case hov => (first | ((repeat (first | with_reducible exact ov_nil | apply ov_cons | fail)); done) | fail)); (case hu => repeat (first | exact Upd.here _ _ | apply Upd.app)); (case hν' => intro e he; first | (simp at he; simp [he]; done) | fail)) | fail)
        all_goals (first | (apply d_take 12; (case hi => rfl); (case hop => first | (apply PureOp.read; apply p_assign <;> rfl)); (case hf => kernel_rfl); (case hr => kernel_rfl); (case hd => rfl)) | fail)
        all_goals (first | (apply d_take 13; (case hi => rfl); (case hop => first | (apply PureOp.read; apply p_assign <;> rfl)); (case hf => kernel_rfl); (case hr => kernel_rfl); (case hd => rfl)) | fail)
        all_goals (apply d_done; (case hr => kernel_rfl))
    case' fk2b =>
      first | (apply x_exec (d := 2) 10; (case hi => rfl);  (case hop => exact m_alloc rfl); (case hd => rfl); rintro _ G0 _ ⟨b2, rfl, hG0, rfl⟩; subst G0; refine ⟨(by intro e he; simp only [List.mem_cons, List.not_mem_nil, or_false] at he; rcases he with rfl; simp), ?_⟩) | fail
      all_goals (first | (apply d_buildSlice 4; (case hi => rfl); (case hr => kernel_rfl); (case hT => infer_instance); (case hL => infer_instance); (case hz => rfl); (case hl => rfl); (case hv => (simp only [List.map_cons, List.map_nil]; repeat (first | with_reducible exact evs_nil | (apply evs_cons; (case h1 => rfl))))); (case hp => (first | (apply pk_cons; (case hc => rfl); (case hs => rfl); (case h => (first | (apply pk_cons; (case hc => rfl); (case hs => rfl); (case h => (first | (apply pk_cons; (case hc => rfl); (case hs => rfl); (case h => (first | with_reducible exact pk_nil | fail)); (case he => (first | ((repeat (first | with_reducible exact ap_nil | apply ap_cons)); done) | fail))) | fail)); (case he => (first | ((repeat (first | with_reducible exact ap_nil | apply ap_cons)); done) | fail))) | fail)); (case he => (first | ((repeat (first | with_reducible exact ap_nil | apply ap_cons)); done) | fail))) | fail)); (case hb => rfl); (case hd => rfl); (case hν => intro e he; first | (simp at he; simp [he]; done) | fail); intro bs) | fail)
      all_goals (first | ((apply d_call 5 (hs := qg bs) (μ1 := [(bs, .cells (rowC Cm.cells [cA, mA, cA]).toArray 38 (0, 0))]); (case hi => rfl); (case hr => kernel_rfl);  (case ha => rfl); (case hp => exact PickA.perm (by repeat (first | exact PickA.here _ | fail))); (case hd => rfl); (case hν' => intro e he; simp only [List.mem_cons, List.not_mem_nil, or_false] at he; rcases he with rfl; simp); rintro _ G6 ν6 hle6 ⟨v6, av6, rfl, hs6, hg6⟩; obtain ⟨A6, c6, A6', c6', rfl, -, -⟩ := id hs6)) | fail)
      all_goals (first | (apply d_take 6; (case hi => rfl); (case hop => first | (apply PureOp.read; apply p_move <;> rfl)); (case hf => kernel_rfl); (case hr => kernel_rfl); (case hd => rfl)) | fail)
      all_goals (first | (apply d_take 7; (case hi => rfl); (case hop => first | (apply PureOp.read; apply p_extract0 <;> rfl) | fail); (case hf => kernel_rfl); (case hr => kernel_rfl); (case hd => rfl)) | fail)
      all_goals (first | (apply d_take 8; (case hi => rfl); (case hop => first | (apply PureOp.read; apply p_extract1 <;> rfl) | fail); (case hf => kernel_rfl); (case hr => kernel_rfl); (case hd => rfl)) | fail)
      all_goals (first | (apply d_take 9; (case hi => rfl); (case hop => first | (apply PureOp.read; apply p_extract2 <;> rfl) | fail); (case hf => kernel_rfl); (case hr => kernel_rfl); (case hd => rfl)) | fail)
      all_goals (first | (apply d_store 11; (case hi => rfl); (case hr => kernel_rfl); (case hL => infer_instance); (case hp => rfl); (case hx => rfl); (case hc => rfl); (case hsz => rfl); (case h1 => rfl); (case hb => (repeat (first | exact List.Mem.head _ | apply List.mem_append_right))); (case hfit => first | exact Nat.le_of_ble_eq_true rfl | fail); (case hov => (first | ((repeat (first | with_reducible exact ov_nil | apply ov_cons | fail)); done) | fail)); (case hu => repeat (first | exact Upd.here _ _ | apply Upd.app)); (case hν' => intro e he; first | (simp at he; simp [he]; done) | fail)) | fail)
      all_goals (first | (apply d_take 12; (case hi => rfl); (case hop => first | (apply PureOp.read; apply p_assign <;> rfl)); (case hf => kernel_rfl); (case hr => kernel_rfl); (case hd => rfl)) | fail)
      all_goals (first | (apply d_take 13; (case hi => rfl); (case hop => first | (apply PureOp.read; apply p_assign <;> rfl)); (case hf => kernel_rfl); (case hr => kernel_rfl); (case hd => rfl)) | fail)
      all_goals (apply d_done; (case hr => kernel_rfl))
  case' fk1b =>
    first | (apply x_buildSlice 4; (case hi => rfl); (case hT => infer_instance); (case hL => infer_instance); (case hz => rfl); (case hl => rfl); (case hv => (simp only [List.map_cons, List.map_nil]; repeat (first | with_reducible exact evs_nil | (apply evs_cons; (case h1 => rfl))))); (case hp => (first | (apply pk_cons; (case hc => rfl); (case hs => rfl); (case h => (first | (apply pk_cons; (case hc => rfl); (case hs => rfl); (case h => (first | (apply pk_cons; (case hc => rfl); (case hs => rfl); (case h => (first | with_reducible exact pk_nil | fail)); (case he => (first | ((repeat (first | with_reducible exact ap_nil | apply ap_cons)); done) | fail))) | fail)); (case he => (first | ((repeat (first | with_reducible exact ap_nil | apply ap_cons)); done) | fail))) | fail)); (case he => (first | ((repeat (first | with_reducible exact ap_nil | apply ap_cons)); done) | fail))) | fail)); (case hb => rfl); (case hd => rfl); (case hν => intro e he; first | exact he | fail); intro bs) | fail
    refine d_fork 0 10 (by kernel_rfl) ?fk4a ?fk4b
    case' fk4a =>
      first | (apply x_exec 0; (case hi => rfl); (case hop => apply m_callFJ (hs := (q0 _)) <;> rfl); (case hd => rfl); rintro _ _ _ ⟨rfl, rfl, rfl⟩; refine ⟨(by intro e he; first | (simp at he; simp [he]; done) | fail), ?_⟩) | fail
      refine d_fork 5 10 (by kernel_rfl) ?fk5a ?fk5b
      case' fk5a =>
        first | (apply x_call 5 (hs := qg bs) (μ1 := [(bs, .cells (rowC Cm.cells [cA, mA, cA]).toArray 38 (0, 0))]); (case hi => rfl);  (case ha => rfl); (case hp => exact PickA.perm (by repeat (first | exact PickA.here _ | fail))); (case hd => rfl); (case hν' => intro e he; simp only [List.mem_cons, List.not_mem_nil, or_false] at he; rcases he with rfl; simp); rintro _ G6 ν6 hle6 ⟨v6, av6, rfl, hs6, hg6⟩; obtain ⟨A6, c6, A6', c6', rfl, -, -⟩ := id hs6) | fail
        all_goals (first | (apply d_take 6; (case hi => rfl); (case hop => first | (apply PureOp.read; apply p_move <;> rfl)); (case hf => kernel_rfl); (case hr => kernel_rfl); (case hd => rfl)) | fail)
        all_goals (first | (apply d_take 7; (case hi => rfl); (case hop => first | (apply PureOp.read; apply p_extract0 <;> rfl) | fail); (case hf => kernel_rfl); (case hr => kernel_rfl); (case hd => rfl)) | fail)
        all_goals (first | (apply d_take 8; (case hi => rfl); (case hop => first | (apply PureOp.read; apply p_extract1 <;> rfl) | fail); (case hf => kernel_rfl); (case hr => kernel_rfl); (case hd => rfl)) | fail)
        all_goals (first | (apply d_take 9; (case hi => rfl); (case hop => first | (apply PureOp.read; apply p_extract2 <;> rfl) | fail); (case hf => kernel_rfl); (case hr => kernel_rfl); (case hd => rfl)) | fail)
        all_goals (first | ((apply d_exec (d := 2) 10; (case hi => rfl); (case hr => kernel_rfl);  (case hop => exact m_alloc rfl); (case hd => rfl); rintro _ G0 _ ⟨b2, rfl, hG0, rfl⟩; subst G0; refine ⟨(by intro e he; simp only [List.mem_cons, List.not_mem_nil, or_false] at he; rcases he with rfl; simp), ?_⟩)) | fail)
        all_goals (first | (apply d_store 11; (case hi => rfl); (case hr => kernel_rfl); (case hL => infer_instance); (case hp => rfl); (case hx => rfl); (case hc => rfl); (case hsz => rfl); (case h1 => rfl); (case hb => (repeat (first | exact List.Mem.head _ | fail))); (case hfit => first | exact Nat.le_of_ble_eq_true rfl | fail); (case hov => (first | ((repeat (first | with_reducible exact ov_nil | apply ov_cons | fail)); done) | fail)); (case hu => repeat (first | exact Upd.here _ _ | fail)); (case hν' => intro e he; first | (simp at he; simp [he]; done) | fail)) | fail)
        all_goals (first | (apply d_take 12; (case hi => rfl); (case hop => first | (apply PureOp.read; apply p_assign <;> rfl)); (case hf => kernel_rfl); (case hr => kernel_rfl); (case hd => rfl)) | fail)
        all_goals (first | (apply d_take 13; (case hi => rfl); (case hop => first | (apply PureOp.read; apply p_assign <;> rfl)); (case hf => kernel_rfl); (case hr => kernel_rfl); (case hd => rfl)) | fail)
        all_goals (apply d_done; (case hr => kernel_rfl))
      case' fk5b =>
        first | (apply x_exec (d := 2) 10; (case hi => rfl);  (case hop => exact m_alloc rfl); (case hd => rfl); rintro _ G0 _ ⟨b2, rfl, hG0, rfl⟩; subst G0; refine ⟨(by intro e he; simp only [List.mem_cons, List.not_mem_nil, or_false] at he; rcases he with rfl; simp), ?_⟩) | fail
        all_goals (first | ((apply d_call 5 (hs := qg bs) (μ1 := [(bs, .cells (rowC Cm.cells [cA, mA, cA]).toArray 38 (0, 0))]); (case hi => rfl); (case hr => kernel_rfl);  (case ha => rfl); (case hp => exact PickA.perm (by repeat (first | exact PickA.here _ | apply PickA.cons | fail))); (case hd => rfl); (case hν' => intro e he; simp only [List.mem_cons, List.not_mem_nil, or_false] at he; rcases he with rfl; simp); rintro _ G6 ν6 hle6 ⟨v6, av6, rfl, hs6, hg6⟩; obtain ⟨A6, c6, A6', c6', rfl, -, -⟩ := id hs6)) | fail)
        all_goals (first | (apply d_take 6; (case hi => rfl); (case hop => first | (apply PureOp.read; apply p_move <;> rfl)); (case hf => kernel_rfl); (case hr => kernel_rfl); (case hd => rfl)) | fail)
        all_goals (first | (apply d_take 7; (case hi => rfl); (case hop => first | (apply PureOp.read; apply p_extract0 <;> rfl) | fail); (case hf => kernel_rfl); (case hr => kernel_rfl); (case hd => rfl)) | fail)
        all_goals (first | (apply d_take 8; (case hi => rfl); (case hop => first | (apply PureOp.read; apply p_extract1 <;> rfl) | fail); (case hf => kernel_rfl); (case hr => kernel_rfl); (case hd => rfl)) | fail)
        all_goals (first | (apply d_take 9; (case hi => rfl); (case hop => first | (apply PureOp.read; apply p_extract2 <;> rfl) | fail); (case hf => kernel_rfl); (case hr => kernel_rfl); (case hd => rfl)) | fail)
        all_goals (first | (apply d_store 11; (case hi => rfl); (case hr => kernel_rfl); (case hL => infer_instance); (case hp => rfl); (case hx => rfl); (case hc => rfl); (case hsz => rfl); (case h1 => rfl); (case hb => (repeat (first | exact List.Mem.head _ | apply List.mem_append_right))); (case hfit => first | exact Nat.le_of_ble_eq_true rfl | fail); (case hov => (first | ((repeat (first | with_reducible exact ov_nil | apply ov_cons | fail)); done) | fail)); (case hu => repeat (first | exact Upd.here _ _ | apply Upd.app)); (case hν' => intro e he; first | (simp at he; simp [he]; done) | fail)) | fail)
        all_goals (first | (apply d_take 12; (case hi => rfl); (case hop => first | (apply PureOp.read; apply p_assign <;> rfl)); (case hf => kernel_rfl); (case hr => kernel_rfl); (case hd => rfl)) | fail)
        all_goals (first | (apply d_take 13; (case hi => rfl); (case hop => first | (apply PureOp.read; apply p_assign <;> rfl)); (case hf => kernel_rfl); (case hr => kernel_rfl); (case hd => rfl)) | fail)
        all_goals (apply d_done; (case hr => kernel_rfl))
    case' fk4b =>
      first | (apply x_exec (d := 2) 10; (case hi => rfl);  (case hop => exact m_alloc rfl); (case hd => rfl); rintro _ G0 _ ⟨b2, rfl, hG0, rfl⟩; subst G0; refine ⟨(by intro e he; simp only [List.mem_cons, List.not_mem_nil, or_false] at he; rcases he with rfl; simp), ?_⟩) | fail
      all_goals (first | (apply d_callJ 0 (hs := (q0 _)); (case hi => rfl); (case hr => kernel_rfl); (case ha => rfl); (case hd => rfl)) | fail)
      all_goals (first | ((apply d_call 5 (hs := qg bs) (μ1 := [(bs, .cells (rowC Cm.cells [cA, mA, cA]).toArray 38 (0, 0))]); (case hi => rfl); (case hr => kernel_rfl);  (case ha => rfl); (case hp => exact PickA.perm (by repeat (first | exact PickA.here _ | apply PickA.cons | fail))); (case hd => rfl); (case hν' => intro e he; simp only [List.mem_cons, List.not_mem_nil, or_false] at he; rcases he with rfl; simp); rintro _ G6 ν6 hle6 ⟨v6, av6, rfl, hs6, hg6⟩; obtain ⟨A6, c6, A6', c6', rfl, -, -⟩ := id hs6)) | fail)
      all_goals (first | (apply d_take 6; (case hi => rfl); (case hop => first | (apply PureOp.read; apply p_move <;> rfl)); (case hf => kernel_rfl); (case hr => kernel_rfl); (case hd => rfl)) | fail)
      all_goals (first | (apply d_take 7; (case hi => rfl); (case hop => first | (apply PureOp.read; apply p_extract0 <;> rfl) | fail); (case hf => kernel_rfl); (case hr => kernel_rfl); (case hd => rfl)) | fail)
      all_goals (first | (apply d_take 8; (case hi => rfl); (case hop => first | (apply PureOp.read; apply p_extract1 <;> rfl) | fail); (case hf => kernel_rfl); (case hr => kernel_rfl); (case hd => rfl)) | fail)
      all_goals (first | (apply d_take 9; (case hi => rfl); (case hop => first | (apply PureOp.read; apply p_extract2 <;> rfl) | fail); (case hf => kernel_rfl); (case hr => kernel_rfl); (case hd => rfl)) | fail)
      all_goals (first | (apply d_store 11; (case hi => rfl); (case hr => kernel_rfl); (case hL => infer_instance); (case hp => rfl); (case hx => rfl); (case hc => rfl); (case hsz => rfl); (case h1 => rfl); (case hb => (repeat (first | exact List.Mem.head _ | apply List.mem_append_right))); (case hfit => first | exact Nat.le_of_ble_eq_true rfl | fail); (case hov => (first | ((repeat (first | with_reducible exact ov_nil | apply ov_cons | fail)); done) | fail)); (case hu => repeat (first | exact Upd.here _ _ | apply Upd.app)); (case hν' => intro e he; first | (simp at he; simp [he]; done) | fail)) | fail)
      all_goals (first | (apply d_take 12; (case hi => rfl); (case hop => first | (apply PureOp.read; apply p_assign <;> rfl)); (case hf => kernel_rfl); (case hr => kernel_rfl); (case hd => rfl)) | fail)
      all_goals (first | (apply d_take 13; (case hi => rfl); (case hop => first | (apply PureOp.read; apply p_assign <;> rfl)); (case hf => kernel_rfl); (case hr => kernel_rfl); (case hd => rfl)) | fail)
      all_goals (apply d_done; (case hr => kernel_rfl))
  case' fk1c =>
    first | (apply x_exec (d := 2) 10; (case hi => rfl);  (case hop => exact m_alloc rfl); (case hd => rfl); rintro _ G0 _ ⟨b2, rfl, hG0, rfl⟩; subst G0; refine ⟨(by intro e he; simp only [List.mem_cons, List.not_mem_nil, or_false] at he; rcases he with rfl; simp), ?_⟩) | fail
    refine d_fork 0 4 (by kernel_rfl) ?fk6a ?fk6b
    case' fk6a =>
      first | (apply x_exec 0; (case hi => rfl); (case hop => apply m_callFJ (hs := (q0 _)) <;> rfl); (case hd => rfl); rintro _ _ _ ⟨rfl, rfl, rfl⟩; refine ⟨(by intro e he; first | (simp at he; simp [he]; done) | fail), ?_⟩) | fail
      all_goals (first | (apply d_buildSlice 4; (case hi => rfl); (case hr => kernel_rfl); (case hT => infer_instance); (case hL => infer_instance); (case hz => rfl); (case hl => rfl); (case hv => (simp only [List.map_cons, List.map_nil]; repeat (first | with_reducible exact evs_nil | (apply evs_cons; (case h1 => rfl))))); (case hp => (first | (apply pk_cons; (case hc => rfl); (case hs => rfl); (case h => (first | (apply pk_cons; (case hc => rfl); (case hs => rfl); (case h => (first | (apply pk_cons; (case hc => rfl); (case hs => rfl); (case h => (first | with_reducible exact pk_nil | fail)); (case he => (first | ((repeat (first | with_reducible exact ap_nil | apply ap_cons)); done) | fail))) | fail)); (case he => (first | ((repeat (first | with_reducible exact ap_nil | apply ap_cons)); done) | fail))) | fail)); (case he => (first | ((repeat (first | with_reducible exact ap_nil | apply ap_cons)); done) | fail))) | fail)); (case hb => rfl); (case hd => rfl); (case hν => intro e he; first | (simp at he; simp [he]; done) | fail); intro bs) | fail)
      all_goals (first | ((apply d_call 5 (hs := qg bs) (μ1 := [(bs, .cells (rowC Cm.cells [cA, mA, cA]).toArray 38 (0, 0))]); (case hi => rfl); (case hr => kernel_rfl);  (case ha => rfl); (case hp => exact PickA.perm (by repeat (first | exact PickA.here _ | fail))); (case hd => rfl); (case hν' => intro e he; simp only [List.mem_cons, List.not_mem_nil, or_false] at he; rcases he with rfl; simp); rintro _ G6 ν6 hle6 ⟨v6, av6, rfl, hs6, hg6⟩; obtain ⟨A6, c6, A6', c6', rfl, -, -⟩ := id hs6)) | fail)
      all_goals (first | (apply d_take 6; (case hi => rfl); (case hop => first | (apply PureOp.read; apply p_move <;> rfl)); (case hf => kernel_rfl); (case hr => kernel_rfl); (case hd => rfl)) | fail)
      all_goals (first | (apply d_take 7; (case hi => rfl); (case hop => first | (apply PureOp.read; apply p_extract0 <;> rfl) | fail); (case hf => kernel_rfl); (case hr => kernel_rfl); (case hd => rfl)) | fail)
      all_goals (first | (apply d_take 8; (case hi => rfl); (case hop => first | (apply PureOp.read; apply p_extract1 <;> rfl) | fail); (case hf => kernel_rfl); (case hr => kernel_rfl); (case hd => rfl)) | fail)
      all_goals (first | (apply d_take 9; (case hi => rfl); (case hop => first | (apply PureOp.read; apply p_extract2 <;> rfl) | fail); (case hf => kernel_rfl); (case hr => kernel_rfl); (case hd => rfl)) | fail)
      all_goals (first | (apply d_store 11; (case hi => rfl); (case hr => kernel_rfl); (case hL => infer_instance); (case hp => rfl); (case hx => rfl); (case hc => rfl); (case hsz => rfl); (case h1 => rfl); (case hb => (repeat (first | exact List.Mem.head _ | apply List.mem_append_right))); (case hfit => first | exact Nat.le_of_ble_eq_true rfl | fail); (case hov => (first | ((repeat (first | with_reducible exact ov_nil | apply ov_cons | fail)); done) | fail)); (case hu => repeat (first | exact Upd.here _ _ | apply Upd.app)); (case hν' => intro e he; first | (simp at he; simp [he]; done) | fail)) | fail)
      all_goals (first | (apply d_take 12; (case hi => rfl); (case hop => first | (apply PureOp.read; apply p_assign <;> rfl)); (case hf => kernel_rfl); (case hr => kernel_rfl); (case hd => rfl)) | fail)
      all_goals (first | (apply d_take 13; (case hi => rfl); (case hop => first | (apply PureOp.read; apply p_assign <;> rfl)); (case hf => kernel_rfl); (case hr => kernel_rfl); (case hd => rfl)) | fail)
      all_goals (apply d_done; (case hr => kernel_rfl))
    case' fk6b =>
      first | (apply x_buildSlice 4; (case hi => rfl); (case hT => infer_instance); (case hL => infer_instance); (case hz => rfl); (case hl => rfl); (case hv => (simp only [List.map_cons, List.map_nil]; repeat (first | with_reducible exact evs_nil | (apply evs_cons; (case h1 => rfl))))); (case hp => (first | (apply pk_cons; (case hc => rfl); (case hs => rfl); (case h => (first | (apply pk_cons; (case hc => rfl); (case hs => rfl); (case h => (first | (apply pk_cons; (case hc => rfl); (case hs => rfl); (case h => (first | with_reducible exact pk_nil | fail)); (case he => (first | ((repeat (first | with_reducible exact ap_nil | apply ap_cons)); done) | fail))) | fail)); (case he => (first | ((repeat (first | with_reducible exact ap_nil | apply ap_cons)); done) | fail))) | fail)); (case he => (first | ((repeat (first | with_reducible exact ap_nil | apply ap_cons)); done) | fail))) | fail)); (case hb => rfl); (case hd => rfl); (case hν => intro e he; first | (simp at he; simp [he]; done) | fail); intro bs) | fail
      all_goals (first | (apply d_callJ 0 (hs := (q0 _)); (case hi => rfl); (case hr => kernel_rfl); (case ha => rfl); (case hd => rfl)) | fail)
      all_goals (first | ((apply d_call 5 (hs := qg bs) (μ1 := [(bs, .cells (rowC Cm.cells [cA, mA, cA]).toArray 38 (0, 0))]); (case hi => rfl); (case hr => kernel_rfl);  (case ha => rfl); (case hp => exact PickA.perm (by repeat (first | exact PickA.here _ | fail))); (case hd => rfl); (case hν' => intro e he; simp only [List.mem_cons, List.not_mem_nil, or_false] at he; rcases he with rfl; simp); rintro _ G6 ν6 hle6 ⟨v6, av6, rfl, hs6, hg6⟩; obtain ⟨A6, c6, A6', c6', rfl, -, -⟩ := id hs6)) | fail)
      all_goals (first | (apply d_take 6; (case hi => rfl); (case hop => first | (apply PureOp.read; apply p_move <;> rfl)); (case hf => kernel_rfl); (case hr => kernel_rfl); (case hd => rfl)) | fail)
      all_goals (first | (apply d_take 7; (case hi => rfl); (case hop => first | (apply PureOp.read; apply p_extract0 <;> rfl) | fail); (case hf => kernel_rfl); (case hr => kernel_rfl); (case hd => rfl)) | fail)
      all_goals (first | (apply d_take 8; (case hi => rfl); (case hop => first | (apply PureOp.read; apply p_extract1 <;> rfl) | fail); (case hf => kernel_rfl); (case hr => kernel_rfl); (case hd => rfl)) | fail)
      all_goals (first | (apply d_take 9; (case hi => rfl); (case hop => first | (apply PureOp.read; apply p_extract2 <;> rfl) | fail); (case hf => kernel_rfl); (case hr => kernel_rfl); (case hd => rfl)) | fail)
      all_goals (first | (apply d_store 11; (case hi => rfl); (case hr => kernel_rfl); (case hL => infer_instance); (case hp => rfl); (case hx => rfl); (case hc => rfl); (case hsz => rfl); (case h1 => rfl); (case hb => (repeat (first | exact List.Mem.head _ | apply List.mem_append_right))); (case hfit => first | exact Nat.le_of_ble_eq_true rfl | fail); (case hov => (first | ((repeat (first | with_reducible exact ov_nil | apply ov_cons | fail)); done) | fail)); (case hu => repeat (first | exact Upd.here _ _ | apply Upd.app)); (case hν' => intro e he; first | (simp at he; simp [he]; done) | fail)) | fail)
      all_goals (first | (apply d_take 12; (case hi => rfl); (case hop => first | (apply PureOp.read; apply p_assign <;> rfl)); (case hf => kernel_rfl); (case hr => kernel_rfl); (case hd => rfl)) | fail)
      all_goals (first | (apply d_take 13; (case hi => rfl); (case hop => first | (apply PureOp.read; apply p_assign <;> rfl)); (case hf => kernel_rfl); (case hr => kernel_rfl); (case hd => rfl)) | fail)
      all_goals (apply d_done; (case hr => kernel_rfl))
  all_goals
    (refine v_frz ν6 (by repeat (first | exact PickA.here _ | apply PickA.cons | fail)) ?_
     intro G7 hle7 hG7
     obtain ⟨A7, c7, e7, hlc7, hcm7, hsome7, hcp7⟩ := rowOpen (row_of_grow An.len hg6 hG7)
     subst e7
     have hA7 := hsome7 (by decide)
     have k0 := (hcp7 0 (by decide)).cell (j := 2) rfl
     have k2 := (hcp7 2 (by decide)).cell (j := 2) rfl
     rw [show ([⟨1, 1, 14, false, ByteArray.empty, 0⟩, zA, ⟨1, 1, 10, false, ByteArray.empty, 0⟩] : List An).length = 3 from rfl])
  all_goals
    repeat' (first | apply v_seq | apply v_region | apply v_nil | (apply v_take; (case hg => rfl)) | (apply v_pure; (case hop => first | (apply p_move <;> rfl) | (apply p_eqs <;> rfl) | (apply p_assign <;> rfl) | (apply p_pickT <;> rfl) | (apply p_lenSlice <;> rfl) | (apply p_fieldAddrB <;> rfl) | (apply p_fieldAddr <;> rfl) | (apply p_indexAddrS; (case hx => rfl); (case hi => rfl); (case h0 => omega); (case h => omega); (case hA => first | assumption | fail)) | fail); (case hd => rfl)) | (apply v_read; (case hop => (apply r_load1; rfl; exact Cell.frozen k0)); (case hd => rfl)) | (apply v_read; (case hop => (apply r_load1; rfl; exact Cell.frozen k2)); (case hd => rfl)) | fail)
  all_goals
    (refine v_ret [] (outsA1 rfl rfl) (by repeat (first | exact List.nil_sublist _ | fail)) ?_
     exact ⟨rfl, rfl⟩)
end Go.Proofs.YtgflmkhfachlcaaGreatDoor
/-
  A state, a command, commands that are arguments; the two tables. (As argR.vx, of another seat.)
-/
set_option linter.unusedSimpArgs false
set_option linter.unusedVariables false
namespace Go.Proofs.YtgflmkhfachlcaaGreatDoor
open Go.Vx Go.ChangeShapes Go.WideShapes Go.ChangeAt Go.RowKit
def CmR (c : Cm) (cs : List Value) : Prop := cs = c.cells ∧ c.ok
theorem el_cm {H : Type} {enc : TypeId × Value → H} {W : World} : Elem enc Tryz.prog W 38 CmR := by
  intro fuel cs x hf
  have h1 := el_flen (n := 7) Tryz.underlying38 (by kernel_rfl) hf
  obtain ⟨a0, h0, w0⟩ := el_fld (i := 0) (sz := 1) (by kernel_rfl) (el_int Tryz.underlying3) hf
  obtain ⟨a1, e1, w1⟩ := el_fld (i := 1) (sz := 1) (by kernel_rfl) (el_int Tryz.underlying3) hf
  obtain ⟨a2, e2, w2⟩ := el_fld (i := 2) (sz := 1) (by kernel_rfl) (el_int Tryz.underlying3) hf
  obtain ⟨a3, e3, w3⟩ := el_fld (i := 3) (sz := 1) (by kernel_rfl) (el_string Tryz.underlying9) hf
  obtain ⟨a4, e4, w4⟩ := el_fld (i := 4) (sz := 1) (by kernel_rfl) (el_string Tryz.underlying9) hf
  obtain ⟨a5, e5, w5⟩ := el_fld (i := 5) (sz := 1) (by kernel_rfl) (el_string Tryz.underlying9) hf
  obtain ⟨a6, e6, w6⟩ := el_fld (i := 6) (sz := 1) (by kernel_rfl) (el_int Tryz.underlying3) hf
  match cs, h1 with
  | [c0, c1, c2, c3, c4, c5, c6], _ =>
    simp only [List.drop_succ_cons, List.drop_zero, List.take_succ_cons, List.take_zero, List.cons.injEq, and_true] at h0 e1 e2 e3 e4 e5 e6
    exact ⟨⟨a0, a1, a2, a3, a4, a5, a6⟩, by rw [h0, e1, e2, e3, e4, e5, e6]; rfl, w0, w1, w2, w3, w4, w5, w6⟩
theorem el_pr {H : Type} {enc : TypeId × Value → H} {W : World} : Elem enc Tryz.prog W 65 (RowR Pr.cells) := by
  intro fuel cs x hf
  have h1 := el_flen (n := 3) Tryz.underlying65 (by kernel_rfl) hf
  obtain ⟨a0, e0, w0⟩ := el_fld (i := 0) (sz := 1) (by kernel_rfl) (el_string Tryz.underlying9) hf
  obtain ⟨a1, e1, w1⟩ := el_fld (i := 1) (sz := 1) (by kernel_rfl) (el_string Tryz.underlying9) hf
  obtain ⟨a2, e2, w2⟩ := el_fld (i := 2) (sz := 1) (by kernel_rfl) (el_int Tryz.underlying3) hf
  match cs, h1 with
  | [c0, c1, c2], _ =>
    simp only [List.drop_succ_cons, List.drop_zero, List.take_succ_cons, List.take_zero, List.cons.injEq, and_true] at e0 e1 e2
    exact ⟨⟨a0, a1, a2⟩, by rw [e0, e1, e2]; rfl⟩
theorem el_an {H : Type} {enc : TypeId × Value → H} {W : World} : Elem enc Tryz.prog W 42 (RowR An.cells) := by
  intro fuel cs x hf
  have h1 := el_flen (n := 6) Tryz.underlying42 (by kernel_rfl) hf
  obtain ⟨a0, e0, w0⟩ := el_fld (i := 0) (sz := 1) (by kernel_rfl) (el_int Tryz.underlying3) hf
  obtain ⟨a1, e1, w1⟩ := el_fld (i := 1) (sz := 1) (by kernel_rfl) (el_int Tryz.underlying3) hf
  obtain ⟨a2, e2, w2⟩ := el_fld (i := 2) (sz := 1) (by kernel_rfl) (el_int (k := .i64) Tryz.underlying31) hf
  obtain ⟨a3, e3⟩ := el_fld (i := 3) (sz := 1) (by kernel_rfl) (el_bool Tryz.underlying4) hf
  obtain ⟨a4, e4, w4⟩ := el_fld (i := 4) (sz := 1) (by kernel_rfl) (el_string Tryz.underlying9) hf
  obtain ⟨a5, e5, w5⟩ := el_fld (i := 5) (sz := 1) (by kernel_rfl) (el_int Tryz.underlying3) hf
  match cs, h1 with
  | [c0, c1, c2, c3, c4, c5], _ =>
    simp only [BoolR, List.drop_succ_cons, List.drop_zero, List.take_succ_cons, List.take_zero, List.cons.injEq, and_true] at e0 e1 e2 e3 e4 e5
    exact ⟨⟨a0, a1, a2, a3, a4, a5⟩, by rw [e0, e1, e2, e3, e4, e5]; rfl⟩
theorem el_ss {H : Type} {enc : TypeId × Value → H} {W : World} : Elem enc Tryz.prog W 55 (RowR Ss.cells) := by
  intro fuel cs x hf
  have h1 := el_flen (n := 8) Tryz.underlying55 (by kernel_rfl) hf
  obtain ⟨a0, e0, w0⟩ := el_fld (i := 0) (sz := 1) (by kernel_rfl) (el_int Tryz.underlying3) hf
  obtain ⟨a1, e1, w1⟩ := el_fld (i := 1) (sz := 1) (by kernel_rfl) (el_int Tryz.underlying3) hf
  obtain ⟨a2, e2⟩ := el_fld (i := 2) (sz := 6) (by kernel_rfl) el_an hf
  match cs, h1 with
  | [c0, c1, c2, c3, c4, c5, c6, c7], _ =>
    simp only [RowR, An.cells, List.drop_succ_cons, List.drop_zero, List.take_succ_cons, List.take_zero, List.cons.injEq, and_true] at e0 e1 e2
    obtain ⟨rfl, rfl, rfl, rfl, rfl, rfl⟩ := e2
    subst e0; subst e1
    exact ⟨⟨a0, a1, a2⟩, rfl⟩
theorem el_st {H : Type} {enc : TypeId × Value → H} {W : World} {fuel : Nat} {cs : List Value} {x : DataW H × List MemPlace} (hf : DataW.trod enc Tryz.prog W 0 (fun _ => true) true fuel 25 cs = some x) : ∃ s : St, StV (ghost W) s (.agg cs.toArray) := by
  have h1 := el_flen (n := 3) Tryz.underlying25 (by kernel_rfl) hf
  obtain ⟨a0, e0, w0⟩ := el_fld (i := 0) (sz := 1) (by kernel_rfl) (el_int Tryz.underlying3) hf
  obtain ⟨l1, v1, e1, s1⟩ := el_fld (i := 1) (sz := 1) (by kernel_rfl) (el_slice (sz := 3) Tryz.underlying22 (by kernel_rfl) el_pr) hf
  obtain ⟨l2, v2, e2, s2⟩ := el_fld (i := 2) (sz := 1) (by kernel_rfl) (el_slice (sz := 8) Tryz.underlying23 (by kernel_rfl) el_ss) hf
  match cs, h1 with
  | [c0, c1, c2], _ =>
    simp only [List.drop_succ_cons, List.drop_zero, List.take_succ_cons, List.take_zero, List.cons.injEq, and_true] at e0 e1 e2
    subst e0; subst e1; subst e2
    exact ⟨⟨a0, l1, l2⟩, StV.mk' s1 s2⟩
set_option maxRecDepth 100000 in
theorem arg_t25 {H : Type} {enc : TypeId × Value → H} {W : World} {base : Nat} {v : Value} {d : DataW H} {p : List MemPlace} (hv : Value.okWide Tryz.prog W .any base 25 v) (h : DataW.Trod enc Tryz.prog W 0 (fun _ => true) true 25 v d p) : ∃ s : St, StV (ghost W) s v := by
  obtain ⟨cs, rfl⟩ := okWide_agg (by kernel_rfl) hv
  obtain ⟨fuel, hf⟩ := h
  exact el_st hf
set_option maxRecDepth 100000 in
theorem arg_t26 {H : Type} {enc : TypeId × Value → H} {W : World} {base : Nat} {v : Value} {d : DataW H} {p : List MemPlace} (hv : Value.okWide Tryz.prog W .any base 26 v) (h : DataW.Trod enc Tryz.prog W 0 (fun _ => true) true 26 v d p) : ∃ l : List Cm, Sl (ghost W) 7 CmR v l :=
  arg_slice Tryz.underlying26 (by kernel_rfl) el_cm hv h
theorem cms_of {G : GH} {v : Value} {l : List Cm} (h : Sl G 7 CmR v l) : Cms G v l ∧ ∀ c ∈ l, c.ok := by
  obtain ⟨A, c, rfl, h1, h2, h3, h4⟩ := h.open
  refine ⟨Sl.le h (GH.le_refl _) (fun _ _ hx => hx.1), fun x hx => ?_⟩
  obtain ⟨i, hi, rfl⟩ := List.getElem_of_mem hx
  obtain ⟨cs, _, h5, h6⟩ := h4 i _ (List.getElem?_eq_getElem hi)
  exact h5.2
theorem firstEq : (Rows.laid_unicode_utf8_first : DataW Unit) = Lib.firstData := by kernel_rfl
theorem acceptEq : (Rows.laid_unicode_utf8_acceptRanges : DataW Unit) = Lib.acceptData := by kernel_rfl
abbrev tabsLaid : List (String × DataW Unit) := [("unicode/utf8.acceptRanges", Rows.laid_unicode_utf8_acceptRanges), ("unicode/utf8.first", Rows.laid_unicode_utf8_first)]
theorem tabs_plain : (tabsLaid.all fun x => x.2.handleName?.isNone) = true := by kernel_rfl
theorem tabs_of_laid {W : World} (hL : laidMetH Tryz.prog tabsLaid W) : TabsG (ghost W) := by
  rw [MakeChecks.laidMetH_plain _ _ _ tabs_plain] at hL
  have r1 := Lib.laidMet.reads hL (.tail _ (.head _))
  have r2 := Lib.laidMet.reads hL (.head _)
  rw [firstEq] at r1
  rw [acceptEq] at r2
  have hU := utf8Tabs_of_readsT (ρ := laysDecode_ren) { laysDecode with } ⟨by kernel_rfl, by kernel_rfl, by kernel_rfl, by kernel_rfl, by kernel_rfl, by kernel_rfl, by kernel_rfl⟩ r1 r2
  clear hL r1 r2
  intro w hw
  have lift : ∀ (a : Addr) v, W.cell? a = some v → w.cell? a = some v := by
    intro a v h
    unfold World.cell? at h ⊢
    cases hb : W.heap[a.block]? with
    | none => rw [hb] at h; simp at h
    | some o => rw [hw _ _ hb]; rw [hb] at h; exact h
  exact ⟨fun c hc => lift _ _ (hU.1 c hc), fun i hi => ⟨lift _ _ (hU.2 i hi).1, lift _ _ (hU.2 i hi).2⟩⟩
end Go.Proofs.YtgflmkhfachlcaaGreatDoor
/-
  AppRuns (layer 28).
-/
set_option linter.unusedSimpArgs false
set_option linter.unusedVariables false
namespace Go.Proofs.YtgflmkhfachlcaaGreatDoor
open Go.Vx Go.ChangeShapes Go.WideShapes Go.ChangeAt Go.RowKit
theorem runA_ok {l : List Cm} : ∀ {s : St} {acc : List An}, StP s → (runA s acc l).2.2 = 0 → StP (runA s acc l).1 := by
  induction l with
  | nil => intro s acc h _; exact h
  | cons c l ih =>
    intro s acc h he
    simp only [runA] at he ⊢
    by_cases hc : (applyS s c).2.2 = 0
    · rw [if_neg (by simp [hc])] at he ⊢
      exact ih (applyS_ok h hc).1 he
    · rw [if_pos hc] at he
      exact absurd he hc
theorem appRuns_law {W : World} {v0 v1 : Value} (hT : TabsG (ghost W)) (g0 : ∃ s : St, StV (ghost W) s v0) (g1 : ∃ l : List Cm, Sl (ghost W) 7 CmR v1 l) : LawCon Tryz.prog 3 #[v0, v1] W := by
  obtain ⟨s, hs⟩ := g0
  obtain ⟨l, hl0⟩ := g1
  obtain ⟨hl, hok⟩ := cms_of hl0
  unfold LawCon
  generalize ghost W = G at *
  have q1 := lg25_s hs
  have q2 := lg28_s hl
  have qa := fun G' (h : GH.le G G') => awake28_s (hT.up h)
  obtain ⟨LA, lc, rfl, hlc, hcm, hsome, hcp⟩ := rowOpen hl
  obtain ⟨A, c0, A', c', rfl, -, -⟩ := id hs
  (refine v_enter Tryz.func3 rfl Tryz.ntmps3 rfl ?_; intro B _)
  repeat' (first | (apply v_box (d := 2) (zs := [.int .i64 s.schema, .slice A s.pairs.length c0, .slice A' s.sess.length c']); (case hx => rfl); (case hz => rfl); (case hd => rfl); intro b2) | apply v_seq | apply v_region | apply v_nil | (apply v_pure; (case hop => first | (apply p_assign <;> rfl) | fail); (case hd => rfl)) | (apply v_read; (case hop => first | (apply r_loadNo; (case hx => rfl); (case h => (repeat (first | exact List.Mem.head _ | fail))); (case hd => (repeat (first | with_reducible exact dt_nil | apply dt_here | fail))); (case hn => rfl)) | fail); (case hd => rfl)) | fail)
  refine v_call (μ1 := []) rfl q1 (List.Perm.refl _) rfl ?_
  rintro _ G1 _ - ⟨hG1, rfl, b1, rfl, h1⟩
  subst hG1
  cases b1 with
  | true =>
    repeat' (first | apply v_seq | apply v_region | apply v_nil | (apply v_pass; (case hg => rfl); (case hn => rfl); (case hd => rfl)) | (apply v_pure; (case hop => first | (apply p_move <;> rfl) | (apply p_pickT <;> rfl) | fail); (case hd => rfl)) | (apply v_condT; (case hc => rfl)) | fail)
    refine v_call (μ1 := []) rfl (qa _ (GH.le_refl _)) (List.Perm.refl _) rfl ?_
    rintro _ G9 _ - ⟨rfl, rfl⟩
    repeat' (first | apply v_nil | (apply v_pure; (case hop => first | (apply p_assign <;> rfl) | fail); (case hd => rfl)) | fail)
    refine v_ret [] (outsA1 rfl rfl) (by repeat (first | exact List.nil_sublist _ | fail)) ?_
    rfl
  | false =>
    repeat' (first | (apply v_take; (case hg => rfl)) | (apply v_pure; (case hop => first | (apply p_move <;> rfl) | fail); (case hd => rfl)) | fail)
    refine v_call (μ1 := []) rfl q2 (List.Perm.refl _) rfl ?_
    rintro _ G1 _ - ⟨hG1, rfl, b1, rfl, h2⟩
    subst hG1
    cases b1 with
    | true =>
      repeat' (first | apply v_seq | apply v_region | apply v_nil | (apply v_pure; (case hop => first | (apply p_pickF <;> rfl) | fail); (case hd => rfl)) | (apply v_condT; (case hc => rfl)) | fail)
      refine v_call (μ1 := []) rfl (qa _ (GH.le_refl _)) (List.Perm.refl _) rfl ?_
      rintro _ G9 _ - ⟨rfl, rfl⟩
      repeat' (first | apply v_nil | (apply v_pure; (case hop => first | (apply p_assign <;> rfl) | fail); (case hd => rfl)) | fail)
      refine v_ret [] (outsA1 rfl rfl) (by repeat (first | exact List.nil_sublist _ | fail)) ?_
      rfl
    | false =>
      have hz : StZ s := ⟨(h1 rfl).2.2, (h1 rfl).1.2, by have := (h1 rfl).2.1; omega, by have := (h1 rfl).1.1; omega⟩
      have hcs := h2 rfl
      have hlw : CmsW l := ⟨by have := hcs.1; omega, fun c hc => ⟨hok c hc, (hcs.2 c hc).1, (hcs.2 c hc).2.1⟩⟩
      have qr := run_s hT hs hz hl hlw
      have qk := fun G' (h : GH.le G1 G') => refCheck_s (hs.up h) hz
      have qf := fun G' (h : GH.le G1 G') hp => refRun_s (hs.up h) hp (hl.mono h) hlw
      have hgood : StP s → (runS s l).2.2 = 0 → StP (runS s l).1 := fun h => by
        have e : runS s l = runA s [] l := by unfold runS; rw [if_pos h]
        rw [e]; exact runA_ok h
      have hbad : ¬ StP s → runS s l = (zeroSt, [], 3) := fun h => by unfold runS; rw [if_neg h]
      generalize runS s l = rr at *
      obtain ⟨s1, l1, e1⟩ := rr
      simp only at *
      repeat' (first | apply v_seq | apply v_region | apply v_nil | apply v_skip | (apply v_pure; (case hop => first | (apply p_move <;> rfl) | (apply p_pickF <;> rfl) | fail); (case hd => rfl)) | (apply v_condF; (case hc => rfl)) | (apply v_read; (case hop => first | (apply r_loadNo; (case hx => rfl); (case h => (repeat (first | exact List.Mem.head _ | fail))); (case hd => (repeat (first | with_reducible exact dt_nil | apply dt_here | fail))); (case hn => rfl)) | fail); (case hd => rfl)) | fail)
      refine v_call (μ1 := []) rfl qr (List.Perm.refl _) rfl ?_
      rintro _ G2 ν2 hle2 ⟨v2, av2, rfl, hs2, hg2⟩
      refine v_frz ν2 (PickA.here _) ?_
      intro G3 hle3 hG3
      have hA3 := row_of_grow An.len hg2 hG3
      have hs3 := hs2.up hle3
      have qk := qk G3 (GH.le_trans hle2 hle3)
      obtain ⟨A3, c3, rfl, -⟩ := id hA3.open
      obtain ⟨A2, c2, A2', c2', rfl, -, -⟩ := id hs3
      by_cases hp : StP s
      · rw [decide_eq_true hp] at qk
        repeat' (first | (apply v_alloc (d := 5); (case hz => rfl); (case hd => rfl); intro b5) | (apply v_read; (case hop => (apply r_loadNo; (case hx => rfl); (case h => repeat (first | exact List.Mem.head _ | apply List.Mem.tail | fail)); (case hd => rfl); (case hn => rfl))); (case hd => rfl)) | apply v_seq | apply v_region | apply v_nil | apply v_skip | (apply v_pure; (case hop => first | (apply p_move <;> rfl) | (apply p_assign <;> rfl) | (apply p_not <;> rfl) | (apply p_extract0 <;> rfl) | (apply p_extract1 <;> rfl) | (apply p_extract2 <;> rfl) | fail); (case hd => rfl)) | (apply v_condF; (case hc => rfl)) | (apply v_callJ (hs := qk); (case ha => rfl); (case hd => rfl)) | (apply v_store; (case hp => rfl); (case hx => rfl); (case hc => rfl); (case hsz => rfl); (case h1 => rfl); (case hb => (repeat (first | exact List.Mem.head _ | fail))); (case hfit => first | exact Nat.le_of_ble_eq_true rfl | fail); (case hov => (first | ((repeat (first | with_reducible exact ov_nil | apply ov_cons | fail)); done) | fail)); (case hu => repeat (first | exact Upd.here _ _ | fail))) | fail)
        refine v_call (μ1 := []) rfl (qf G3 (GH.le_trans hle2 hle3) hp) (List.Perm.refl _) rfl ?_
        rintro _ G4 ν4 hle4 ⟨v4, av4, rfl, hs4, hg4⟩
        refine v_frz ν4 (PickA.here _) ?_
        intro G5 hle5 hG5
        have hA5 := row_of_grow An.len hg4 hG5
        have hs5 := hs4.up hle5
        obtain ⟨A4, c4, rfl, -⟩ := id hA5.open
        obtain ⟨A5, c5, A5', c5', rfl, -, -⟩ := id hs5
        have h35 := GH.le_trans hle4 hle5
        have h15 := GH.le_trans (GH.le_trans hle2 hle3) h35
        have qS := refSame_s (hs3.up h35) hs5
        have qA := refAnswers_s (hA3.mono h35) hA5
        repeat' (first | (apply v_alloc (d := 8); (case hz => rfl); (case hd => rfl); intro b8) | (apply v_read; (case hop => (apply r_loadNo; (case hx => rfl); (case h => repeat (first | exact List.Mem.head _ | apply List.Mem.tail | fail)); (case hd => rfl); (case hn => rfl))); (case hd => rfl)) | apply v_seq | apply v_region | apply v_nil | (apply v_take; (case hg => rfl)) | (apply v_pure; (case hop => first | (apply p_move <;> rfl) | (apply p_eqs <;> rfl) | (apply p_assign <;> rfl) | (apply p_extract0 <;> rfl) | (apply p_extract1 <;> rfl) | (apply p_extract2 <;> rfl) | fail); (case hd => rfl)) | (apply v_store; (case hp => rfl); (case hx => rfl); (case hc => rfl); (case hsz => rfl); (case h1 => rfl); (case hb => (repeat (first | exact List.Mem.head _ | fail))); (case hfit => first | exact Nat.le_of_ble_eq_true rfl | fail); (case hov => (first | ((repeat (first | with_reducible exact ov_nil | apply ov_cons | fail)); done) | fail)); (case hu => repeat (first | exact Upd.here _ _ | fail))) | fail)
        refine v_call (μ1 := []) rfl qS (List.Perm.refl _) rfl ?_
        rintro _ G6 _ - ⟨hG6, rfl, b6, rfl, h6⟩
        subst G6
        obtain rfl := h6 rfl
        repeat' (first | (apply v_take; (case hg => rfl)) | (apply v_pure; (case hop => first | (apply p_move <;> rfl) | (apply p_pickT <;> rfl) | fail); (case hd => rfl)) | fail)
        refine v_call (μ1 := []) rfl qA (List.Perm.refl _) rfl ?_
        rintro _ G6 _ - ⟨hG6, rfl, b6, rfl, h6⟩
        subst G6
        obtain rfl := h6 rfl
        by_cases he : e1 = 0
        · have qk5 := refCheck_s (hs3.up h35) (hgood hp he).small
          rw [decide_eq_true (hgood hp he)] at qk5
          subst he
          repeat' (first | (apply v_read; (case hop => (apply r_loadNo; (case hx => rfl); (case h => repeat (first | exact List.Mem.head _ | apply List.Mem.tail | fail)); (case hd => rfl); (case hn => rfl))); (case hd => rfl)) | (apply v_take; (case hg => rfl)) | (apply v_pure; (case hop => first | (apply p_move <;> rfl) | (apply p_nes <;> rfl) | (apply p_pickT <;> rfl) | (apply p_pickF <;> rfl) | fail); (case hd => rfl)) | (apply v_callJ (hs := qk5); (case ha => rfl); (case hd => rfl)) | fail)
          refine v_call (μ1 := []) rfl (qa _ h15) (List.Perm.refl _) rfl ?_
          rintro _ G9 _ - ⟨rfl, rfl⟩
          repeat' (first | apply v_nil | (apply v_pure; (case hop => first | (apply p_assign <;> rfl) | (apply p_pickT <;> rfl) | fail); (case hd => rfl)) | fail)
          refine v_ret [] (outsA1 rfl rfl) (by repeat (first | exact List.nil_sublist _ | fail)) ?_
          rfl
        · repeat' (first | (apply v_take; (case hg => rfl)) | (apply v_pass; (case hg => rfl); (case hn => rfl); (case hd => rfl)) | (apply v_pure; (case hop => first | (apply p_move <;> rfl) | (apply p_ne <;> rfl) | (apply p_pickT <;> rfl) | fail); (case hd => rfl)) | (apply v_guardB; (case h1 => rfl); (case h2 => rfl); all_goals (intro h; (try simp only [reduceCtorEq, dec_true, dec_false, decide_eq_true_eq, decide_eq_false_iff_not, Bool.not_eq_true', Bool.not_eq_false', Option.isNone_iff_eq_none, beq_true, beq_false, beq_iff_eq, beq_eq_false_iff_ne, ne_eq, decide_eq_decide, Bool.not_eq_true, Bool.not_eq_false, Decidable.not_not] at h); first | (exfalso; omega) | skip)) | fail)
          refine v_call (μ1 := []) rfl (qa _ h15) (List.Perm.refl _) rfl ?_
          rintro _ G9 _ - ⟨rfl, rfl⟩
          repeat' (first | apply v_nil | (apply v_pure; (case hop => first | (apply p_assign <;> rfl) | (apply p_pickT <;> rfl) | fail); (case hd => rfl)) | fail)
          refine v_ret [] (outsA1 rfl rfl) (by repeat (first | exact List.nil_sublist _ | fail)) ?_
          rfl
      · rw [decide_eq_false hp] at qk
        have hb := hbad hp
        cases hb
        have qS := refSame_s hs3 (StV.zero G3)
        repeat' (first | (apply v_alloc (d := 5); (case hz => rfl); (case hd => rfl); intro b5) | (apply v_read; (case hop => (apply r_loadNo; (case hx => rfl); (case h => repeat (first | exact List.Mem.head _ | apply List.Mem.tail | fail)); (case hd => rfl); (case hn => rfl))); (case hd => rfl)) | apply v_seq | apply v_region | apply v_nil | (apply v_take; (case hg => rfl)) | (apply v_pure; (case hop => first | (apply p_move <;> rfl) | (apply p_eqs <;> rfl) | (apply p_assign <;> rfl) | (apply p_pickT <;> rfl) | (apply p_not <;> rfl) | (apply p_lenSlice <;> rfl) | (apply p_extract0 <;> rfl) | (apply p_extract1 <;> rfl) | (apply p_extract2 <;> rfl) | (apply p_build; (case hz => rfl); (case hv => (simp only [List.map_cons, List.map_nil]; repeat (first | with_reducible exact evs_nil | fail))); (case hb => (apply bldL; repeat (first | exact bld_nil | fail)))) | fail); (case hd => rfl)) | (apply v_condT; (case hc => rfl)) | (apply v_callJ (hs := qk); (case ha => rfl); (case hd => rfl)) | (apply v_store; (case hp => rfl); (case hx => rfl); (case hc => rfl); (case hsz => rfl); (case h1 => rfl); (case hb => (repeat (first | exact List.Mem.head _ | fail))); (case hfit => first | exact Nat.le_of_ble_eq_true rfl | fail); (case hov => (first | ((repeat (first | with_reducible exact ov_nil | apply ov_cons | fail)); done) | fail)); (case hu => repeat (first | exact Upd.here _ _ | fail))) | fail)
        refine v_call (μ1 := []) rfl qS (List.Perm.refl _) rfl ?_
        rintro _ G6 _ - ⟨hG6, rfl, b6, rfl, h6⟩
        subst G6
        obtain rfl := h6 rfl
        repeat' (first | (apply v_take; (case hg => rfl)) | (apply v_pure; (case hop => first | (apply p_move <;> rfl) | (apply p_pickT <;> rfl) | fail); (case hd => rfl)) | fail)
        refine v_call (μ1 := []) rfl (qa _ (GH.le_trans hle2 hle3)) (List.Perm.refl _) rfl ?_
        rintro _ G9 _ - ⟨rfl, rfl⟩
        repeat' (first | apply v_nil | (apply v_pure; (case hop => first | (apply p_assign <;> rfl) | (apply p_pickT <;> rfl) | fail); (case hd => rfl)) | fail)
        refine v_ret [] (outsA1 rfl rfl) (by repeat (first | exact List.nil_sublist _ | fail)) ?_
        rfl
end Go.Proofs.YtgflmkhfachlcaaGreatDoor
/-
  AppRuns: the tied card.
-/
set_option linter.unusedSimpArgs false
set_option linter.unusedVariables false
namespace Go.Proofs.YtgflmkhfachlcaaGreatDoor
open Go.Vx Go.ChangeShapes Go.WideShapes Go.ChangeAt Go.RowKit
theorem appRuns_own : ownKnob Tryz.prog.godebug = none := by kernel_rfl
theorem appRuns_laidOut : laidOutB Tryz.prog = true := by kernel_rfl
theorem appRuns_spec : LawSpec Rows.appRunsSpec 2 := ⟨rfl, fun H ds h => by match ds, h with | [d0, d1], _ => rfl⟩
set_option maxRecDepth 100000 in
theorem appRuns_lifted (os : Os) (started : os.Started) (H : Type) (enc : TypeId × Value → H) :
    ReturnsInHanded {} Tryz.checked os 3 .any (fun w args => (Rows.appRunsSpec.pre enc Tryz.prog Tryz.f3 Rows.appRunsRow.domain false w args ∧ laidMetH Tryz.prog tabsLaid w) ∧ sizedMet enc Tryz.prog Tryz.f3 (OpenSpec.ofChange Rows.appRunsSpec) false w args)
      (Rows.appRunsSpec.post enc Tryz.prog Tryz.f3 false true false false) := by
  refine returnsInHanded_of_change_and (C := Tryz.checked) (X := fun w _ => laidMetH Tryz.prog tabsLaid w) (fun _ _ _ hh h => h.of_heap hh) appRuns_own started (by kernel_rfl) Tryz.func3
    (ChangeSpec.witness_shaped (enc := enc) (C := Tryz.checked) (os := os) (X := fun w _ => laidMetH Tryz.prog tabsLaid w) false (World.laidAll Tryz.prog os tabsLaid) #[.agg #[.int .i64 0, .slice none 0 0, .slice none 0 0], .slice none 0 0] 8 (World.laidAll_os _ _ _)
      (World.shaped_of_ZipB (by kernel_rfl) (by kernel_rfl)) (by kernel_rfl) (by kernel_rfl) (by kernel_rfl)
      (by rw [MakeChecks.laidMetH_plain _ _ _ tabs_plain]; exact laidMet_laidAll _ (by kernel_rfl) (by kernel_rfl))) ?_
  intro W base args ds gs before hval0 hW hcnd _ hL _
  have hval : ∀ (j : Nat) t v, Tryz.f3.params[j]? = some t → args[j]? = some v → Value.okWide Tryz.prog W .any base t v := hval0
  refine law_post appRuns_laidOut Tryz.underlying4 rfl appRuns_spec rfl (by kernel_rfl) hW ?_
  obtain ⟨p, q, hA0, hV, rfl, hfz, hnd⟩ := hW
  have hA : DataW.TrodAll enc Tryz.prog W 0 (fun _ => true) true Tryz.f3.params.toList args.toList ds p := hA0
  rw [Tryz.params3] at hA hval
  obtain ⟨v0, vs0, d0, ds0, p0, q0, hargs, rfl, rfl, h0, r0⟩ := trodAll_cons hA
  obtain ⟨v1, vs1, d1, ds1, p1, q1, rfl, rfl, rfl, h1, r1⟩ := trodAll_cons r0
  obtain ⟨rfl, rfl, rfl⟩ := trodAll_nil r1
  obtain rfl : args = #[v0, v1] := by cases args; simp_all
  have g0 := arg_t25 (hval 0 25 v0 rfl rfl) h0
  have g1 := arg_t26 (hval 1 26 v1 rfl rfl) h1
  exact appRuns_law (tabs_of_laid hL) g0 g1
theorem appRuns_over : Rows.appRunsRow.holds Tryz.pinned (OpenSpec.ofChange Rows.appRunsSpec) :=
  OpenClaim.holds_of_wide 3 Tryz.f3 rfl rfl rfl rfl rfl rfl rfl ⟨rfl, rfl, rfl, rfl, rfl⟩ rfl rfl rfl rfl rfl (by kernel_rfl) Tryz.func3 (by kernel_rfl)
    (of_decide_eq_true (by kernel_rfl)) (by unfold Func.isWrapper; first | (rw [if_pos (by decide +kernel)]; kernel_rfl) | (rw [if_neg (by decide +kernel)]; exact ⟨rfl, rfl⟩))
    (fun os started H enc _ => appRuns_lifted os started H enc)
theorem appRuns_holds : Rows.AppRunsSaid := appRuns_over
theorem appRunsCard_holds : Rows.AppRunsCardSaid :=
  Claim7.holds_tied_plain_at .later [] [.data, .pinned] true (true, "2f5db0dcbc29208b188700c6b2c1284a2f7749a46ed37062090280d6de48292d") true appRuns_holds (fun _ h => by cases h) (by kernel_rfl) (fun _ h => by cases h) appRuns_row_tie rfl ⟨rfl, rfl⟩ (by kernel_rfl) rfl
    (fun f fn hf hfn => by
      obtain rfl : f = 3 := Option.some.inj ((show Tryz.prog.funcNamed Rows.appRunsRow.func = some 3 by kernel_rfl).symm.trans hf) |>.symm
      obtain rfl : fn = Tryz.f3 := (Option.some.inj (Tryz.func3.symm.trans hfn)).symm
      exact ⟨by kernel_rfl, fun j t ht => by
        rw [Tryz.params3] at ht
        have hm : t ∈ [25, 26] := by simpa using Array.mem_of_getElem? ht
        have hall : ([25, 26].all fun u => !Tryz.prog.wantsStandIn u) = true := by kernel_rfl
        exact (show Tryz.prog.wantsStandIn t = false by simpa using List.all_eq_true.1 hall t hm)⟩)
    (by kernel_rfl)

end Go.Proofs.YtgflmkhfachlcaaGreatDoor
