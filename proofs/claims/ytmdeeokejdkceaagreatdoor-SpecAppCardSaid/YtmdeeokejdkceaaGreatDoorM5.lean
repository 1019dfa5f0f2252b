/-
  spec (layer 29): a client's command; activate.
-/
import Derived.Test.YtmdeeokejdkceaaGreatDoorM4
import Derived.Test.YtmdeeokejdkceaaGreatDoorM1
import Derived.Test.YtmdeeokejdkceaaGreatDoorM2
import Derived.Shelf.SortM.Plain
import Derived.Shelf.SortM.SortNone
import Derived.Lib.LaidU8T
import Derived.MakeChecks
import Derived.Test.YtmdeeokejdkceaaGreatDoorRows
import Derived.Test.YtmdeeokejdkceaaGreatDoorChecked
import Derived.JoinedOf
import Derived.SevenTiedAt
import Derived.LaidMore
import Derived.Lay
import Derived.Test.YtmdeeokejdkceaaGreatDoorTie
import Derived.Test.YtmdeeokejdkceaaGreatDoorCards
import Derived.Stop.Joined
set_option linter.unusedSimpArgs false
set_option linter.unusedVariables false
namespace Go.Proofs.YtmdeeokejdkceaaGreatDoor
open Go.Vx Go.ChangeShapes Go.WideShapes Go.ChangeAt Go.RowKit
theorem dAt_get {D : List Ls} {n : Nat} (h : n < D.length) : dAt D n = D[n] := by unfold dAt; rw [List.getD_eq_getElem?_getD, List.getElem?_eq_getElem h]; rfl
theorem mc_seq {D : List Ls} {n : Nat} (h : n < D.length) (a b : Value) : (a :: b :: rowC Ls.cells D)[2 + n * 7]? = some (.int .i64 (dAt D n).seq) := by
  have e : 2 + n * 7 = n * 7 + 1 + 1 := by omega
  rw [e, List.getElem?_cons_succ, List.getElem?_cons_succ, show n * 7 = n * 7 + 0 from rfl, rowC_get Ls.len D n 0 h (by omega), dAt_get h]
  rfl
theorem mc_ans {D : List Ls} {n : Nat} (h : n < D.length) (a b : Value) : ((a :: b :: rowC Ls.cells D).drop (2 + n * 7 + 1)).take 6 = (dAt D n).ans.cells := by
  have e : 2 + n * 7 + 1 = (n * 7 + 1) + 1 + 1 := by omega
  have h7 := rowC_at Ls.len D n h
  rw [e, List.drop_succ_cons, List.drop_succ_cons, ← List.drop_drop, dAt_get h]
  have e2 : (List.drop 1 (List.drop (n * 7) (rowC Ls.cells D))).take 6 = ((List.drop (n * 7) (rowC Ls.cells D)).take 7).drop 1 := by rw [List.drop_take]
  rw [e2, h7]
  rfl
theorem over_two (a b : Value) (R us : List Value) (i : Nat) : over (a :: b :: R) (2 + i) us = a :: b :: over R i us := by
  have e : 2 + i + us.length = (i + us.length) + 1 + 1 := by omega
  have e2 : 2 + i = i + 1 + 1 := by omega
  unfold over
  rw [e, e2, List.take_succ_cons, List.take_succ_cons, List.drop_succ_cons, List.drop_succ_cons]
  rfl
theorem mc_set {D : List Ls} {n : Nat} (h : n < D.length) (a b : Value) (x : Ls) : over (a :: b :: rowC Ls.cells D) (2 + n * 7) x.cells = a :: b :: rowC Ls.cells (D.set n x) := by
  have := rowC_set Ls.len D n h x []
  rw [List.append_nil, List.append_nil] at this
  rw [over_two, this]
theorem mc_len (D : List Ls) (a b : Value) : (a :: b :: rowC Ls.cells D).length = 2 + D.length * 7 := by
  rw [List.length_cons, List.length_cons, rowC_length Ls.len]
  omega
theorem freshS_eq {z : Int} {l : List Pr} (c : Cm) (hz : z = 1 ∨ z = 2) (hk : 2 ≤ c.kind ∧ c.kind ≤ 5) (h5 : c.kind = 5 → z = 2) : freshS (decide (z = 2)) l c = doS z l c := by
  rw [doR_eq c hz hk h5]
  have hroom := roomB_iff (l := l) (n := kn c.key)
  have hq : revQ (decide (z = 2)) (findP l (kn c.key)).rev = prR z (findP l (kn c.key)) := by
    unfold revQ prR
    by_cases h : z = 2
    · rw [if_pos (by simpa using h), if_pos h]
    · rw [if_neg (by simpa using h), if_neg h]
  unfold freshS doR swapS setL
  rw [hq]
  by_cases k2 : c.kind = 2
  · rw [if_neg (show ¬ c.kind = 5 by omega)]
    by_cases hr : roomB l (kn c.key) = true
    · rw [if_neg (show ¬ (c.kind = 2 ∧ roomB l (kn c.key) = false) from fun h => by rw [hr] at h; cases h.2), if_pos k2, if_pos hr, if_pos k2, if_neg (hroom.1 hr)]
    · rw [if_pos (show c.kind = 2 ∧ roomB l (kn c.key) = false from ⟨k2, by simpa using hr⟩), if_pos k2]
      by_cases hx : hitG ksP l (kn c.key) = false ∧ 64 ≤ l.length
      · rw [if_pos hx]
      · exact absurd (hroom.2 hx) hr
  · by_cases k5 : c.kind = 5
    · rw [if_pos k5, if_neg k2, if_neg (show ¬ c.kind = 4 by omega), if_pos k5]
      by_cases hh : hitG ksP l (kn c.key) = false
      · rw [if_pos hh, if_pos hh]
      · rw [if_neg hh, if_neg hh, if_pos (roomB_hit (by simpa using hh))]
    · rw [if_neg k5, if_neg (show ¬ (c.kind = 2 ∧ roomB l (kn c.key) = false) from fun h => k2 h.1), if_neg k2, if_neg k2]
      by_cases k4 : c.kind = 4
      · rw [if_pos k4, if_pos k4]
      · rw [if_neg k4, if_neg k4, if_neg k5]
structure MachR (s : St) (D : List Ls) : Prop where
  len : D.length = 9
  ses : s.sess = sesK D 9
theorem StP.mapW {s : St} (h : StP s) : MapW s.pairs := by
  obtain ⟨-, h1, h2, -⟩ := stP_iff.1 h
  refine ⟨h2.2.1, fun x hx => ?_, h2.1, fun x hx => ?_⟩
  · obtain ⟨hk, hv⟩ := (h2.2.2 x hx).1
    have := keyB_size hk
    have := valB_size hv
    exact ⟨by omega, by omega⟩
  · have := (h2.2.2 x hx).2
    unfold RevOk at this
    omega
theorem verS_two {z : Int} (h : z = 1 ∨ z = 2) : verS z = z := by unfold verS; rcases h with rfl | rfl <;> rfl
theorem clientS_at {s : St} {D : List Ls} {c : Cm} {n : Nat} (hs : StP s) (hm : MachR s D) (hc : cmdI c = 0) (ho : 2 ≤ c.kind ∧ c.kind ≤ 5) (hn : c.client = (n : Nat)) :
    (c.seq = (dAt D n).seq → clientS s c = (s, (dAt D n).ans)) ∧
    (c.seq < (dAt D n).seq → clientS s c = (s, { ans0 c with err := 15 })) ∧
    (¬ c.seq = (dAt D n).seq → ¬ c.seq < (dAt D n).seq → (c.kind = 5 ∧ decide (s.schema = 2) = false → clientS s c = (s, { ans0 c with err := 14 })) ∧
      (¬ (c.kind = 5 ∧ decide (s.schema = 2) = false) → clientS s c = (⟨s.schema, (freshS (decide (s.schema = 2)) s.pairs c).1, withG ksS s.sess ⟨(n : Nat), c.seq, (freshS (decide (s.schema = 2)) s.pairs c).2⟩⟩, (freshS (decide (s.schema = 2)) s.pairs c).2))) := by
  obtain ⟨hses, hsch, hps, -⟩ := stP_iff.1 hs
  obtain ⟨hk, hown, hval⟩ := cmd_ok hc
  obtain ⟨hcl, hsq, hkey⟩ := hown ho
  have hlook := dAt_look (D := D) (k := 9) (c := n) (by omega)
  rw [← hm.ses, ← hn] at hlook
  have hw : whichS s.sess c.client c.seq = if (dAt D n).seq < c.seq then (0, zA) else if c.seq = (dAt D n).seq then (1, (dAt D n).ans) else (2, zA) := by
    unfold whichS
    rcases hlook with ⟨h1, h2, h3⟩ | ⟨h1, h2⟩
    · rw [h1, h3, if_neg (by simp)]
    · rw [h1, if_pos rfl, if_pos (by omega)]
  have hw0 : ¬ c.seq = (dAt D n).seq → ¬ c.seq < (dAt D n).seq → whichS s.sess c.client c.seq = (0, zA) := fun h1 h2 => by
    rw [hw, if_pos (show (dAt D n).seq < c.seq by omega)]
  have hw1 : c.seq = (dAt D n).seq → whichS s.sess c.client c.seq = (1, (dAt D n).ans) := fun h => by
    rw [hw, if_neg (show ¬ (dAt D n).seq < c.seq by omega), if_pos h]
  have hw2 : c.seq < (dAt D n).seq → whichS s.sess c.client c.seq = (2, zA) := fun h => by
    rw [hw, if_neg (show ¬ (dAt D n).seq < c.seq by omega), if_neg (show ¬ c.seq = (dAt D n).seq by omega)]
  unfold clientS
  rw [verS_two hsch]
  refine ⟨fun h => ?_, fun h => ?_, fun h1 h2 => ?_⟩
  · rw [hw1 h]; rfl
  · rw [hw2 h]; rfl
  · rw [hw0 h1 h2, if_neg (show ¬ ((0, zA) : Int × An).1 = 1 by decide), if_neg (show ¬ ((0, zA) : Int × An).1 = 2 by decide)]
    refine ⟨fun h => ?_, fun h => ?_⟩
    · have : s.schema ≠ 2 := by simpa using h.2
      rw [if_neg (fun hp => this (hp.2.2.2 h.1))]
    · have h5 : c.kind = 5 → s.schema = 2 := fun h5 => by
        cases hd : decide (s.schema = 2) with
        | true => simpa using hd
        | false => exact absurd ⟨h5, hd⟩ h
      rw [if_pos ⟨hsch, by omega, by omega, h5⟩, ← freshS_eq c hsch ho h5]
      have ha := (doS_ok c hsch hps hkey hval).2
      rw [← freshS_eq c hsch ho h5] at ha
      obtain ⟨a1, a2, -⟩ := ha
      unfold sesOf
      rw [a1, a2, hn]
abbrev mcV (kb : Nat) (act : Bool) (D : List Ls) : List Value := Value.map (some kb) :: Value.bool act :: rowC Ls.cells D
theorem mcAns {G : GH} {μ : OH} {mb kb : Nat} {act : Bool} {D : List Ls} {n : Nat} {e : TypeId} (h : n < D.length) (hb : Has μ mb (mcV kb act D) e) : CellsAt G μ ⟨mb, 2 + n * 7 + 1, none⟩ (dAt D n).ans.cells := by
  have := CellsAt.ownAt (G := G) (i := 2 + n * 7 + 1) (m := 6) hb
  rwa [mc_ans h] at this
set_option maxHeartbeats 4000000 in
theorem mclient_s {G : GH} {mb kb : Nat} {s : St} {D : List Ls} {oM : Obj} (c : Cm) (hs : StP s) (hm : MachR s D) (hM : MapP s.pairs oM) (hc : cmdI c = 0) (ho : 2 ≤ c.kind ∧ c.kind ≤ 5) (hv : c.val.size ≤ 200) :
    Con Tryz.prog 133 #[.pointer (some ⟨mb, 0, none⟩), .agg c.cells.toArray] G [(mb, mcO kb (decide (s.schema = 2)) D), (kb, oM)]
      (fun r G' μ' => G' = G ∧ ∃ b D' oM', r = .tuple [.agg (clientS s c).2.cells.toArray, .bool b].toArray ∧ MachR (clientS s c).1 D' ∧ MapP (clientS s c).1.pairs oM' ∧ (clientS s c).1.schema = s.schema ∧ μ' = [(mb, mcO kb (decide (s.schema = 2)) D'), (kb, oM')]) := by
  obtain ⟨hk8, hown, hval⟩ := cmd_ok hc
  obtain ⟨hcl, hsq, hkey⟩ := hown ho
  obtain ⟨n, hn⟩ : ∃ n : Nat, c.client = (n : Nat) := ⟨c.client.toNat, by omega⟩
  obtain ⟨k1, k2, k3⟩ := clientS_at hs hm hc ho hn
  have hks := keyB_size hkey
  have hfr := fun G => mfresh_s (G := G) (mb := mb) (kb := kb) (act := decide (s.schema = 2)) (D := D) c hs.mapW hM (by omega) hv
  have hlt : n < D.length := by rw [hm.len]; omega
  have hlen : (mcV kb (decide (s.schema = 2)) D).length = 65 := by rw [mc_len, hm.len]
  have hg1 := mc_seq hlt (Value.map (some kb)) (Value.bool (decide (s.schema = 2)))
  have hA := fun (G : GH) (μ : OH) (e : TypeId) (h : Has μ mb (mcV kb (decide (s.schema = 2)) D) e) => mcAns (G := G) hlt h
  have hg3 := fun x => mc_set hlt (Value.map (some kb)) (Value.bool (decide (s.schema = 2))) x
  have hmr : ∀ (x : Ls), 0 < x.seq → ∀ l, MachR ⟨s.schema, l, withG ksS s.sess ⟨(n : Nat), x.seq, x.ans⟩⟩ (D.set n x) := fun x hx l => ⟨by rw [List.length_set]; exact hm.len, by
    show withG ksS s.sess _ = _
    rw [sesK_set hlt hx, if_neg (by omega), hm.ses]⟩
  have hmset : ∀ x : Ls, dAt (D.set n x) n = x := fun x => by rw [dAt_set hlt, if_pos rfl]
  have hA2 := fun (x : Ls) (G : GH) (μ : OH) (e : TypeId) (h : Has μ mb (mcV kb (decide (s.schema = 2)) (D.set n x)) e) => mcAns (G := G) (n := n) (by rw [List.length_set]; exact hlt) h
  simp only [hmset] at hA2
  obtain ⟨kind, client, seq, key, val, old, node⟩ := c
  simp only at *
  subst hn
  generalize freshS (decide (s.schema = 2)) s.pairs ⟨kind, (n : Nat), seq, key, val, old, node⟩ = fs at *
  unfold ans0 at *
  simp only at *
  generalize clientS s ⟨kind, (n : Nat), seq, key, val, old, node⟩ = cs at *
  generalize decide (s.schema = 2) = act at *
  generalize dAt D n = x at *
  obtain ⟨xq, ⟨ac, aq, ae, af, av, ar⟩⟩ := x
  obtain ⟨l2, ⟨fc, fq, fe, ff, fv, fr⟩⟩ := fs
  simp only at *
  (refine v_enter Tryz.func133 rfl Tryz.ntmps133 rfl ?_; intro B _)
  repeat' (first | (apply v_box (d := 3) (zs := Cm.cells ⟨kind, (n : Nat), seq, key, val, old, node⟩); (case hx => rfl); (case hz => rfl); (case hd => rfl); intro b3) | (apply v_alloc (d := 4); (case hz => rfl); (case hd => rfl); intro b4) | apply v_seq | apply v_region | apply v_nil | (apply v_pure; (case hop => (apply p_assign <;> rfl)); (case hd => rfl)) | fail)
  refine d_start _ (by kernel_rfl) (by kernel_rfl) (by kernel_rfl) (fun _ he => he) ?_
  all_goals (apply dtk 0; (case hi => rfl); (case hop => (apply prd; apply p_move <;> rfl)); (case hq => kernel_rfl))
  all_goals (apply dtk 1; (case hi => rfl); (case hop => (apply prd; apply p_fieldAddrB <;> rfl)); (case hq => kernel_rfl))
  all_goals (apply dtk 2; (case hi => rfl); (case hop => first | (apply r_loadNo; (case hx => rfl); (case h => (repeat (fail))); (case hd => (repeat (fail))); (case hn => rfl)) | (apply r_load1; rfl; (apply Cell.own; (case h => (repeat (first | exact mhd _ | apply mtl))); rfl)) | (apply r_loadN; rfl; (apply CellsAt.own; (case h => (repeat (fail)))); rfl)); (case hq => kernel_rfl))
  all_goals (apply dtk 3; (case hi => rfl); (case hop => (apply prd; apply p_nilCheck <;> rfl)); (case hq => kernel_rfl))
  all_goals (apply dtk 4; (case hi => rfl); (case hop => (apply prd; apply p_fieldAddrB <;> rfl)); (case hq => kernel_rfl))
  all_goals (apply dtk 5; (case hi => rfl); (case hop => ((apply prd; apply p_indexAddrB (m := ((n : Nat) : Int)); (case hx => rfl); (case hi => rfl); (case h0 => omega); (case h => omega)))); (case hq => kernel_rfl))
  all_goals (apply dtk 6; (case hi => rfl); (case hop => (apply prd; apply p_assign <;> rfl)); (case hq => kernel_rfl))
  all_goals (apply d_done; (case hr => kernel_rfl))
  repeat' (first | (apply v_alloc (d := 7); (case hz => rfl); (case hd => rfl); intro b7) | apply v_seq | apply v_region | apply v_nil | apply v_block | (apply v_pure; (case hop => first | (apply p_fieldAddrB <;> rfl) | (apply p_build; (case hz => rfl); (case hv => (simp only [List.map_cons, List.map_nil]; repeat (first | with_reducible exact evs_nil | (apply evs_cons; (case h1 => rfl))))); (case hb => (apply bldL; repeat (first | exact bld_nil | (apply bld_cons; (case hpf => rfl); (case hc => rfl); (case hs => rfl); (case hl => rfl); (case ho => ((repeat (first | with_reducible exact ov_nil | apply ov_cons)); done))))))) | fail); (case hd => rfl)) | (apply v_read; (case hop => (apply r_load1; rfl; (apply Cell.own; (case h => (repeat (first | exact mhd _ | apply mtl))); rfl))); (case hd => rfl)) | (apply v_store; (case hp => rfl); (case hx => rfl); (case hc => rfl); (case hsz => rfl); (case h1 => rfl); (case hb => (repeat (exact mhd _))); (case hfit => exact nle rfl); (case hov => ((repeat (first | with_reducible exact ov_nil | apply ov_cons)); done)); (case hu => repeat (exact Upd.here _ _))) | fail)
  refine v_has (σ' := [(6, .pointer (some ⟨mb, 2 + n * 7, none⟩)), (7, .pointer (some ⟨b7, 0, none⟩)), (4, .pointer (some ⟨b4, 0, none⟩)), (3, .pointer (some ⟨b3, 0, none⟩)), (5, .bool false), (0, .pointer (some ⟨mb, 0, none⟩))]) ⟨rfl, rfl, rfl, rfl, rfl, rfl, trivial⟩ ?_
  refine d_start _ (by kernel_rfl) (by kernel_rfl) (by kernel_rfl) (fun _ he => he) ?_
  all_goals (apply dtk 0; (case hi => rfl); (case hop => (apply prd; apply p_fieldAddrB <;> rfl)); (case hq => kernel_rfl))
  all_goals (apply dtk 1; (case hi => rfl); (case hop => (apply r_load1; rfl; (apply Cell.own; (case h => (repeat (first | exact mhd _ | apply mtl))); rfl))); (case hq => kernel_rfl))
  all_goals (apply dtk 2; (case hi => rfl); (case hop => (apply prd; apply p_move <;> rfl)); (case hq => kernel_rfl))
  all_goals (apply dtk 3; (case hi => rfl); (case hop => (apply prd; apply p_nilCheck <;> rfl)); (case hq => kernel_rfl))
  all_goals (apply dtk 4; (case hi => rfl); (case hop => (apply prd; apply p_fieldAddrB <;> rfl)); (case hq => kernel_rfl))
  all_goals (apply dtk 5; (case hi => rfl); (case hop => ((apply r_load1; rfl; exact Cell.own (e := 131) (by repeat (first | exact mhd _ | apply mtl)) hg1))); (case hq => kernel_rfl))
  all_goals (apply dtk 6; (case hi => rfl); (case hop => (apply prd; apply p_eq <;> rfl)); (case hq => kernel_rfl))
  all_goals (apply dtk 7; (case hi => rfl); (case hop => (apply prd; apply p_assign <;> rfl)); (case hq => kernel_rfl))
  all_goals (apply d_done; (case hr => kernel_rfl))
  repeat' (first | apply v_seq | apply v_region | apply v_nil | (apply v_pure; (case hop => first | (apply p_move <;> rfl) | (apply p_assign <;> rfl) | (apply p_fieldAddrB <;> rfl) | (apply p_nilCheck <;> rfl) | fail); (case hd => rfl)) | (apply v_cond; (case hc => rfl); all_goals (intro h; (try simp only [reduceCtorEq, zzz] at h))) | (apply v_read; (case hop => (apply r_loadN; rfl; exact hA _ _ 131 (by repeat (first | exact mhd _ | apply mtl)); rfl)); (case hd => rfl)) | (apply v_store; (case hp => rfl); (case hx => rfl); (case hc => rfl); (case hsz => rfl); (case h1 => rfl); (case hb => (repeat (first | exact mhd _ | apply mtl))); (case hfit => exact nle rfl); (case hov => ((repeat (first | with_reducible exact ov_nil | apply ov_cons)); done)); (case hu => repeat (first | exact Upd.here _ _ | apply Upd.there))) | fail)
  · rw [k1 (by assumption)]
    refine v_retM [(mb, mcO kb act D), (kb, oM)] (outsM_cell_tmp (sz := 6) (vs := [.int .i64 ac, .int .i64 aq, .int .i64 ae, .bool af, .string av, .int .i64 ar]) (e := 40) rfl rfl rfl (by repeat (first | exact mhd _ | apply mtl)) rfl) (by repeat (first | exact List.Sublist.refl _ | apply List.Sublist.cons)) ⟨rfl, false, D, oM, rfl, hm, hM, rfl, rfl⟩
  · have hne : ¬ seq = xq := by assumption
    refine d_start _ (by kernel_rfl) (by kernel_rfl) (by kernel_rfl) (fun _ he => he) ?_
    all_goals (apply dtk 0; (case hi => rfl); (case hop => (apply prd; apply p_fieldAddrB <;> rfl)); (case hq => kernel_rfl))
    all_goals (apply dtk 1; (case hi => rfl); (case hop => (apply r_load1; rfl; (apply Cell.own; (case h => (repeat (first | exact mhd _ | apply mtl))); rfl))); (case hq => kernel_rfl))
    all_goals (apply dtk 2; (case hi => rfl); (case hop => (apply prd; apply p_move <;> rfl)); (case hq => kernel_rfl))
    all_goals (apply dtk 3; (case hi => rfl); (case hop => (apply prd; apply p_nilCheck <;> rfl)); (case hq => kernel_rfl))
    all_goals (apply dtk 4; (case hi => rfl); (case hop => (apply prd; apply p_fieldAddrB <;> rfl)); (case hq => kernel_rfl))
    all_goals (apply dtk 5; (case hi => rfl); (case hop => ((apply r_load1; rfl; exact Cell.own (e := 131) (by repeat (first | exact mhd _ | apply mtl)) hg1))); (case hq => kernel_rfl))
    all_goals (apply dtk 6; (case hi => rfl); (case hop => (apply prd; apply p_lt <;> rfl)); (case hq => kernel_rfl))
    all_goals (apply dtk 7; (case hi => rfl); (case hop => (apply prd; apply p_assign <;> rfl)); (case hq => kernel_rfl))
    all_goals (apply d_done; (case hr => kernel_rfl))
    repeat' (first | (apply v_read; (case hop => (apply r_loadNo; (case hx => rfl); (case h => repeat (exact mhd _)); (case hd => rfl); (case hn => rfl))); (case hd => rfl)) | apply v_seq | apply v_region | apply v_nil | apply v_skip | apply v_blk | (apply v_take; (case hg => rfl)) | (apply v_pass; (case hg => rfl); (case hn => rfl); (case hd => rfl)) | (apply v_pure; (case hop => first | (apply p_move <;> rfl) | (apply p_eq <;> rfl) | (apply p_assign <;> rfl) | (apply p_pickT <;> rfl) | (apply p_pickF <;> rfl) | (apply p_not <;> rfl) | (apply p_fieldAddrB <;> rfl) | (apply p_nilCheck <;> rfl) | fail); (case hd => rfl)) | (apply v_condF; (case hc => rfl)) | (apply v_cond; (case hc => rfl); all_goals (intro h; (try simp only [reduceCtorEq, zzz] at h))) | (apply v_guardB; (case h1 => rfl); (case h2 => rfl); all_goals (intro h; (try simp only [reduceCtorEq, zzz] at h))) | (apply v_read; (case hop => (apply r_load1; rfl; (apply Cell.own; (case h => (repeat (first | exact mhd _ | apply mtl))); rfl))); (case hd => rfl)) | (apply v_store; (case hp => rfl); (case hx => rfl); (case hc => rfl); (case hsz => rfl); (case h1 => rfl); (case hb => (repeat (first | exact mhd _ | apply mtl))); (case hfit => exact nle rfl); (case hov => (first | ((repeat (first | with_reducible exact ov_nil | apply ov_cons)); done) | rfl)); (case hu => repeat (first | exact Upd.here _ _ | apply Upd.there))) | fail)
    · rw [k2 (by assumption)]
      refine v_retM [(mb, mcO kb act D), (kb, oM)] (outsM_cell_tmp (sz := 6) (vs := [.int .i64 (n : Nat), .int .i64 seq, .int .i64 15, .bool false, .string ByteArray.empty, .int .i64 0]) (e := 40) rfl rfl rfl (by repeat (first | exact mhd _ | apply mtl)) rfl) (by repeat (first | exact List.Sublist.refl _ | apply List.Sublist.cons)) ⟨rfl, false, D, oM, rfl, hm, hM, rfl, rfl⟩
    all_goals have hlt2 : ¬ seq < xq := by assumption
    all_goals obtain ⟨k4, k5⟩ := k3 hne hlt2
    · rw [k4 ⟨by assumption, by assumption⟩]
      refine v_retM [(mb, mcO kb act D), (kb, oM)] (outsM_cell_tmp (sz := 6) (vs := [.int .i64 (n : Nat), .int .i64 seq, .int .i64 14, .bool false, .string ByteArray.empty, .int .i64 0]) (e := 40) rfl rfl rfl (by repeat (first | exact mhd _ | apply mtl)) rfl) (by repeat (first | exact List.Sublist.refl _ | apply List.Sublist.cons)) ⟨rfl, false, D, oM, rfl, hm, hM, rfl, rfl⟩
    all_goals
      (have hcs := k5 (fun h => by first | exact absurd h.1 (by assumption) | (have h2 := h.2; simp_all; done))
       clear k1 k2 k3 k4 k5
       rw [hcs]
       refine v_has (σ' := [(6, .pointer (some ⟨mb, 2 + n * 7, none⟩)), (4, .pointer (some ⟨b4, 0, none⟩)), (3, .pointer (some ⟨b3, 0, none⟩)), (0, .pointer (some ⟨mb, 0, none⟩))]) ⟨rfl, rfl, rfl, rfl, trivial⟩ ?_
       refine d_start [(b7, .cells [.int .i64 (n : Nat), .int .i64 seq, .int .i64 0, .bool false, .string ByteArray.empty, .int .i64 0].toArray 40 (0, 0)), (b4, .cells [.int .i64 0, .int .i64 0, .int .i64 0, .bool false, .string ByteArray.empty, .int .i64 0].toArray 40 (0, 0)), (b3, .cells (Cm.cells ⟨kind, (n : Nat), seq, key, val, old, node⟩).toArray 28 (0, 0))] (by kernel_rfl) (by kernel_rfl) (by kernel_rfl) (by intro e he; (simp only [List.mem_cons, List.not_mem_nil, or_false] at he; rcases he with rfl | rfl | rfl <;> simp; done)) ?_
       all_goals (apply dtk 0; (case hi => rfl); (case hop => (apply prd; apply p_move <;> rfl)); (case hq => kernel_rfl))
       all_goals (apply dtk 1; (case hi => rfl); (case hop => (apply prd; apply p_fieldAddrB <;> rfl)); (case hq => kernel_rfl))
       all_goals (apply dtk 2; (case hi => rfl); (case hop => first | (apply r_loadNo; (case hx => rfl); (case h => (repeat (fail))); (case hd => (repeat (fail))); (case hn => rfl)) | (apply r_load1; rfl; (apply Cell.own; (case h => (repeat (first | exact mhd _ | apply mtl))); rfl)) | (apply r_loadN; rfl; (apply CellsAt.own; (case h => (repeat (fail)))); rfl)); (case hq => kernel_rfl))
       all_goals (apply dtk 3; (case hi => rfl); (case hop => (apply prd; apply p_move <;> rfl)); (case hq => kernel_rfl))
       all_goals (apply dtk 4; (case hi => rfl); (case hop => first | (apply r_loadNo; (case hx => rfl); (case h => (repeat (first | exact mhd _ | apply mtl))); (case hd => (repeat (first | with_reducible exact dt_nil | apply dt_here))); (case hn => rfl)) | (apply r_load1; rfl; (apply Cell.own; (case h => (repeat (fail))); rfl)) | (apply r_loadN; rfl; (apply CellsAt.own; (case h => (repeat (fail)))); rfl)); (case hq => kernel_rfl))
       all_goals ((apply d_call 5 (hs := hfr _) (μ1 := [(mb, mcO kb act D), (kb, oM)]) (μ2 := [(b7, .cells [.int .i64 (n : Nat), .int .i64 seq, .int .i64 0, .bool false, .string ByteArray.empty, .int .i64 0].toArray 40 (0, 0)), (b4, .cells [.int .i64 0, .int .i64 0, .int .i64 0, .bool false, .string ByteArray.empty, .int .i64 0].toArray 40 (0, 0)), (b3, .cells (Cm.cells ⟨kind, (n : Nat), seq, key, val, old, node⟩).toArray 28 (0, 0))]); (case hi => rfl); (case hr => kernel_rfl);  (case ha => rfl); (case hp => exact (by apply perm_of_count; intro p; simp only [List.append_eq, List.countP_append, List.countP_cons, List.countP_nil, Nat.zero_add, Nat.add_zero]; try ac_rfl)); (case hd => rfl); (case hν' => intro e he; exact he); rintro _ G1 _ - ⟨hG1, rfl, oM2, hM2, rfl⟩; subst G1))
       all_goals (apply dtk 6; (case hi => rfl); (case hop => (apply prd; apply p_build; (case hz => rfl); (case hv => (simp only [List.map_cons, List.map_nil]; repeat (first | with_reducible exact evs_nil | (apply evs_cons; (case h1 => rfl))))); (case hb => (apply bldL; repeat (first | exact bld_nil | (apply bld_cons; (case hpf => rfl); (case hc => rfl); (case hs => rfl); (case hl => rfl); (case ho => ((repeat (first | with_reducible exact ov_nil | apply ov_cons)); done)))))))); (case hq => kernel_rfl))
       all_goals (apply dtk 7; (case hi => rfl); (case hop => (apply prd; apply p_nilCheck <;> rfl)); (case hq => kernel_rfl))
       all_goals ((apply d_store 8; (case hi => rfl); (case hr => kernel_rfl);  (case hL => infer_instance); (case hp => rfl); (case hx => rfl); (case hc => rfl); (case hsz => rfl); (case h1 => rfl); (case hb => exact (List.Mem.head _ : Has _ mb (mcV kb act D) 131)); (case hfit => show 2 + n * 7 + 7 ≤ (mcV kb act D).length; rw [hlen]; omega); (case hov => exact hg3 ⟨seq, ⟨fc, fq, fe, ff, fv, fr⟩⟩); (case hu => exact Upd.here _ _); (case hν' => exact fun e he => List.mem_cons_of_mem _ (List.mem_cons_of_mem _ he))))
       all_goals (apply d_done; (case hr => kernel_rfl))
       repeat' (first | apply v_seq | apply v_region | apply v_nil | (apply v_pure; (case hop => first | (apply p_move <;> rfl) | (apply p_assign <;> rfl) | (apply p_fieldAddrB <;> rfl) | (apply p_nilCheck <;> rfl) | fail); (case hd => rfl)) | (apply v_read; (case hop => (apply r_loadN; rfl; exact hA2 ⟨seq, ⟨fc, fq, fe, ff, fv, fr⟩⟩ _ _ 131 (by repeat (exact mhd _)); rfl)); (case hd => rfl)) | (apply v_store; (case hp => rfl); (case hx => rfl); (case hc => rfl); (case hsz => rfl); (case h1 => rfl); (case hb => (repeat (first | exact mhd _ | apply mtl))); (case hfit => exact nle rfl); (case hov => ((repeat (first | with_reducible exact ov_nil | apply ov_cons)); done)); (case hu => repeat (first | exact Upd.here _ _ | apply Upd.there))) | fail)
       refine v_retM [(mb, mcO kb act (D.set n ⟨seq, ⟨fc, fq, fe, ff, fv, fr⟩⟩)), (kb, oM2)] (outsM_cell_tmp (sz := 6) (vs := [.int .i64 fc, .int .i64 fq, .int .i64 fe, .bool ff, .string fv, .int .i64 fr]) (e := 40) rfl rfl rfl (by repeat (first | exact mhd _ | apply mtl)) rfl) (by repeat (first | exact List.nil_sublist _ | apply List.Sublist.cons_cons)) ⟨rfl, true, _, oM2, rfl, hmr ⟨seq, ⟨fc, fq, fe, ff, fv, fr⟩⟩ (by show 0 < seq; omega) l2, hM2, rfl, rfl⟩)
section
attribute [local semireducible] Vc DVc Con PureOp ReadOp MoveOp
end
theorem applyS_err (s : St) (c : Cm) : (applyS s c).2.2 = cmdI c := by
  unfold applyS
  by_cases h : cmdI c = 0
  · rw [if_neg (by simp [h]), h]
    (repeat' split) <;> rfl
  · rw [if_pos h]
end Go.Proofs.YtmdeeokejdkceaaGreatDoor
/-
  spec (layer 29): activate; Do.
-/
set_option linter.unusedSimpArgs false
set_option linter.unusedVariables false
namespace Go.Proofs.YtmdeeokejdkceaaGreatDoor
open Go.Vx Go.ChangeShapes Go.WideShapes Go.ChangeAt Go.RowKit
open Classical in
noncomputable def actL (L : List Pr) (left : List ByteArray) : List Pr := L.map fun p => if p.key ∈ left then p else revOf 1 p
theorem actL_keys (L : List Pr) (left : List ByteArray) : (actL L left).map (·.key) = L.map (·.key) := by
  unfold actL
  rw [List.map_map]
  refine List.map_congr_left fun p _ => ?_
  simp only [Function.comp_apply]
  split <;> rfl
theorem actL_all (L : List Pr) : actL L (L.map (·.key)) = L := by
  unfold actL
  conv => rhs; rw [← List.map_id L]
  refine List.map_congr_left fun p hp => ?_
  rw [if_pos (List.mem_map.2 ⟨p, hp, rfl⟩)]
  rfl
theorem actL_none (L : List Pr) : actL L [] = L.map (revOf 1) := by
  unfold actL
  refine List.map_congr_left fun p hp => ?_
  rw [if_neg (by simp)]
theorem key_uniq {L : List Pr} (hn : (L.map (·.key)).Nodup) {p q : Pr} (hp : p ∈ L) (hq : q ∈ L) (e : p.key = q.key) : p = q := by
  obtain ⟨i, hi, rfl⟩ := List.getElem_of_mem hp
  obtain ⟨j, hj, rfl⟩ := List.getElem_of_mem hq
  have h := List.pairwise_iff_getElem.1 hn
  rcases Nat.lt_trichotomy i j with hlt | rfl | hlt
  · exact absurd (by rw [List.getElem_map, List.getElem_map]; exact e) (h i j (by simpa using hi) (by simpa using hj) hlt)
  · rfl
  · exact absurd (by rw [List.getElem_map, List.getElem_map]; exact e.symm) (h j i (by simpa using hj) (by simpa using hi) hlt)
theorem act_step {L : List Pr} (hn : (L.map (·.key)).Nodup) {left : List ByteArray} {a : ByteArray} (ha : a ∈ left) {u : Value} (hu : (a, u) ∈ (actL L left).map prE) :
    ∃ p : Pr, u = .agg #[.string p.val, .int .i64 p.rev] ∧ mput ((actL L left).map prE) a (.agg #[.string p.val, .int .i64 1]) = (actL L (left.filter fun z => decide (z ≠ a))).map prE := by
  obtain ⟨q, hq, e⟩ := List.mem_map.1 hu
  obtain ⟨p, hp, e2⟩ := List.mem_map.1 hq
  have hk : q.key = a := congrArg Prod.fst e
  have hpk : p.key = a := by
    rw [← hk, ← e2]
    split <;> rfl
  rw [if_pos (by rw [hpk]; exact ha)] at e2
  subst e2
  refine ⟨p, (congrArg Prod.snd e).symm, ?_⟩
  have hin : a ∈ ((actL L left).map prE).map (·.1) := by
    rw [prE_keys, actL_keys]
    exact List.mem_map.2 ⟨p, hp, hpk⟩
  unfold mput
  rw [if_pos hin]
  unfold actL
  rw [List.map_map, List.map_map, List.map_map]
  refine List.map_congr_left fun x hx => ?_
  simp only [Function.comp_apply]
  by_cases hxa : x.key = a
  · have hxp : x = p := key_uniq hn hx hp (by rw [hxa, hpk])
    subst hxp
    have h1 : x.key ∈ left := by rw [hxa]; exact ha
    have h2 : x.key ∉ left.filter fun z => decide (z ≠ a) := by rw [hxa]; simp
    rw [if_pos h1, if_neg h2, if_pos (show (prE x).1 = a from hxa)]
    subst hxa
    rfl
  · have hne : ∀ y : Pr, y.key = x.key → ¬ (prE y).1 = a := fun y hy h => hxa (by rw [← hy]; exact h)
    by_cases h1 : x.key ∈ left
    · have h2 : x.key ∈ left.filter fun z => decide (z ≠ a) := List.mem_filter.2 ⟨h1, by simpa using hxa⟩
      rw [if_pos h1, if_pos h2, if_neg (hne x rfl)]
    · have h2 : x.key ∉ left.filter fun z => decide (z ≠ a) := fun h => h1 (List.mem_filter.1 h).1
      rw [if_neg h1, if_neg h2, if_neg (hne (revOf 1 x) rfl)]
theorem mact_s {G : GH} {mb kb : Nat} {act : Bool} {D : List Ls} {oM : Obj} {l : List Pr} (hw : MapW l) (hM : MapP l oM) :
    Con Tryz.prog 134 #[.pointer (some ⟨mb, 0, none⟩)] G [(mb, mcO kb act D), (kb, oM)] (fun r G' μ' => G' = G ∧ r = .tuple #[] ∧ ∃ oM', MapP (if act = true then l else l.map (revOf 1)) oM' ∧ μ' = [(mb, mcO kb true D), (kb, oM')]) := by
  cases act with
  | true =>
    (refine v_enter Tryz.func134 rfl Tryz.ntmps134 rfl ?_; intro B _)
    repeat' (first | apply v_seq | apply v_region | apply v_nil | (apply v_pure; (case hop => first | (apply p_move <;> rfl) | (apply p_fieldAddrB <;> rfl) | (apply p_nilCheck <;> rfl) | fail); (case hd => rfl)) | (apply v_condT; (case hc => rfl)) | (apply v_read; (case hop => (apply r_load1; rfl; (apply Cell.own; (case h => (repeat (exact mhd _))); rfl))); (case hd => rfl)) | fail)
    exact v_ret [(mb, mcO kb true D), (kb, oM)] (outsA0 rfl) (List.Sublist.refl _) ⟨rfl, rfl, oM, hM, rfl⟩
  | false =>
    obtain ⟨L, hp, hMB⟩ := id hM
    have hnd := keys_nodup hp hw.1 hw.2.1
    have hall := actL_all L
    rw [if_neg (by simp)]
    (refine v_enter Tryz.func134 rfl Tryz.ntmps134 rfl ?_; intro B _)
    repeat' (first | apply v_seq | apply v_region | apply v_nil | apply v_skip | apply v_block | (apply v_pure; (case hop => first | (apply p_move <;> rfl) | (apply p_fieldAddrB <;> rfl) | (apply p_nilCheck <;> rfl) | fail); (case hd => rfl)) | (apply v_condF; (case hc => rfl)) | (apply v_rangeM (hb := (by repeat (first | exact mhd _ | apply mtl))) (hM := hMB); (case hx => rfl); (case hd => rfl); intro it oI hI) | (apply v_read; (case hop => (apply r_load1; rfl; (apply Cell.own; (case h => (repeat (exact mhd _))); rfl))); (case hd => rfl)) | (apply v_store; (case hp => rfl); (case hx => rfl); (case hc => rfl); (case hsz => rfl); (case h1 => rfl); (case hb => (repeat (exact mhd _))); (case hfit => exact nle rfl); (case hov => ((repeat (first | with_reducible exact ov_nil | apply ov_cons)); done)); (case hu => repeat (exact Upd.here _ _))) | fail)
    rw [prE_keys] at hI
    refine v_loopI (ι := List ByteArray) [15, 0] (fun left vs G' μ' => G' = G ∧ ∃ oM oI, IterB keyS kb ((actL L left).map prE) left oM oI ∧ left.Nodup ∧ vs = [.pointer (some ⟨it, 0, none⟩), .pointer (some ⟨mb, 0, none⟩)] ∧ μ' = [(it, oI), (mb, mcO kb true D), (kb, oM)]) (fun left => left.length) rfl (L.map (·.key)) ⟨rfl, oM, oI, by rw [hall]; exact hI, hnd, rfl, rfl⟩ ?_
    rintro left vs G' _ ⟨hG', oM1, oI1, hI1, hn1, rfl, rfl⟩
    subst G'
    have hMB1 := hI1.map
    repeat' (first | apply v_seq | apply v_region | (apply v_nextM (k := 9) (hb := (by repeat (first | exact mhd _ | apply mtl))) (hI := hI1); (case hx => rfl); (case hp => exact List.Perm.refl _); (case hd => rfl)) | fail)
    · intro h0
      subst h0
      repeat' (first | apply v_seq | apply v_nil | (apply v_exit; (case hp => rfl)) | (apply v_pure; (case hop => (apply p_extract0 <;> rfl)); (case hd => rfl)) | (apply v_condF; (case hc => rfl)) | fail)
      rw [actL_none] at hMB1
      refine v_perm (ν := [(mb, mcO kb true D), (kb, oM1), (it, oI1)]) (by apply perm_of_count; intro p; simp only [List.append_eq, List.countP_append, List.countP_cons, List.countP_nil, Nat.zero_add, Nat.add_zero]; try ac_rfl) ?_
      exact v_end [(mb, mcO kb true D), (kb, oM1)] (outsA0 rfl) (by repeat (first | exact List.nil_sublist _ | apply List.Sublist.cons_cons)) ⟨rfl, rfl, oM1, ⟨L.map (revOf 1), hp.map _, hMB1⟩, rfl⟩
    · intro a u oI2 ha hau hI2 hE
      obtain ⟨p, rfl, hput⟩ := act_step hnd ha hau
      repeat' (first | (apply v_alloc (d := 3); (case hz => rfl); (case hd => rfl); intro b3) | apply v_seq | apply v_region | apply v_nil | apply v_skip | apply v_block | (apply v_pure; (case hop => first | (apply p_assign <;> rfl) | (apply p_fieldAddrB <;> rfl) | (apply p_extract0 <;> rfl) | (apply p_extract1 <;> rfl) | fail); (case hd => rfl)) | (apply v_condT; (case hc => rfl)) | (apply v_read; (case hop => apply r_entry (hE := hE); (case hx => rfl); (case hi => (repeat (exact mhd _))); (case hb => (repeat (first | exact mhd _ | apply mtl)))); (case hd => rfl)) | (apply v_store; (case hp => rfl); (case hx => rfl); (case hc => rfl); (case hsz => rfl); (case h1 => rfl); (case hb => (repeat (exact mhd _))); (case hfit => exact nle rfl); (case hov => ((repeat (first | with_reducible exact ov_nil | apply ov_cons)); done)); (case hu => repeat (exact Upd.here _ _))) | fail)
      refine v_has (σ' := [(2, keyS a), (3, .pointer (some ⟨b3, 0, none⟩)), (15, .pointer (some ⟨it, 0, none⟩)), (0, .pointer (some ⟨mb, 0, none⟩))]) ⟨rfl, rfl, rfl, rfl, trivial⟩ ?_
      refine d_start [(b3, .cells [.string p.val, .int .i64 1].toArray 142 (0, 0)), (it, oI2), (mb, mcO kb true D)] (by kernel_rfl) (by kernel_rfl) (by kernel_rfl) (by intro e he; (simp only [List.mem_cons, List.not_mem_nil, or_false] at he; rcases he with rfl | rfl | rfl <;> simp; done)) ?_
      all_goals (apply dtk 0; (case hi => rfl); (case hop => (apply prd; apply p_move <;> rfl)); (case hq => kernel_rfl))
      all_goals (apply dtk 1; (case hi => rfl); (case hop => (apply prd; apply p_nilCheck <;> rfl)); (case hq => kernel_rfl))
      all_goals (apply dtk 2; (case hi => rfl); (case hop => (apply prd; apply p_fieldAddrB <;> rfl)); (case hq => kernel_rfl))
      all_goals (apply dtk 3; (case hi => rfl); (case hop => first | (apply r_loadNo; (case hx => rfl); (case h => (repeat (fail))); (case hd => (repeat (fail))); (case hn => rfl)) | (apply r_load1; rfl; (apply Cell.own; (case h => (repeat (first | exact mhd _ | apply mtl))); rfl)) | (apply r_loadN; rfl; (apply CellsAt.own; (case h => (repeat (fail)))); rfl)); (case hq => kernel_rfl))
      all_goals (apply dtk 4; (case hi => rfl); (case hop => (apply prd; apply p_move <;> rfl)); (case hq => kernel_rfl))
      all_goals (apply dtk 5; (case hi => rfl); (case hop => first | (apply r_loadNo; (case hx => rfl); (case h => (repeat (exact mhd _))); (case hd => (repeat (first | with_reducible exact dt_nil | apply dt_here))); (case hn => rfl)) | (apply r_load1; rfl; (apply Cell.own; (case h => (repeat (fail))); rfl)) | (apply r_loadN; rfl; (apply CellsAt.own; (case h => (repeat (fail)))); rfl)); (case hq => kernel_rfl))
      all_goals ((apply d_exec0 6; (case hi => rfl); (case hr => kernel_rfl);  (case hop => exact m_mapUpdate (k := 9) (mk := keyS) a rfl rfl rfl (PickA.perm (ν := [(kb, oM1)]) (by repeat (first | exact PickA.last | apply PickA.cons))) hMB1); rintro _ G4 _ ⟨oM2, hM2, hK2, hG4, rfl⟩; subst G4; refine ⟨(by intro e he; simp only [List.mem_cons, List.not_mem_nil, or_false] at he; rcases he with rfl | rfl | rfl <;> simp), ?_⟩))
      all_goals (apply d_done; (case hr => kernel_rfl))
      have hI3 := hK2 _ _ _ (List.mem_map.2 ⟨_, hau, rfl⟩) hI2
      rw [hput] at hI3
      repeat' (first | apply v_blk)
      refine v_perm (ν := [(it, oI2), (mb, mcO kb true D), (kb, oM2), (b3, _)]) (by apply perm_of_count; intro p; simp only [List.append_eq, List.countP_append, List.countP_cons, List.countP_nil, Nat.zero_add, Nat.add_zero]; try ac_rfl) ?_
      refine v_drop (ν := [(it, oI2), (mb, mcO kb true D), (kb, oM2)]) (by repeat (first | exact List.nil_sublist _ | apply List.Sublist.cons_cons)) ?_
      refine v_againI (left.filter fun z => decide (z ≠ a)) rfl ⟨rfl, oM2, oI2, hI3, hn1.sublist List.filter_sublist, rfl, rfl⟩ ?_
      have : (left.filter fun z => decide (z ≠ a)).length < left.length := by
        refine List.length_filter_lt_length_iff_exists.2 ⟨a, ha, by simp⟩
      exact this
noncomputable def specS (s : St) (c : Cm) : St × An := if cmdI c ≠ 0 then (s, zA) else ((applyS s c).1, (applyS s c).2.1)
theorem MachR.same {s t : St} {D : List Ls} (h : MachR s D) (e : t.sess = s.sess) : MachR t D := ⟨h.len, by rw [e]; exact h.ses⟩
theorem specS_ok {s : St} {c : Cm} (h : StP s) : StP (specS s c).1 := by
  unfold specS
  by_cases h0 : cmdI c = 0
  · rw [if_neg (by simp [h0])]
    exact (applyS_ok h (by rw [applyS_err]; exact h0)).1
  · rw [if_pos h0]
    exact h
set_option maxHeartbeats 2000000 in
theorem mstep_s {G : GH} (hT : TabsG G) {mb kb : Nat} {s : St} {D : List Ls} {oM : Obj} (c : Cm) (hs : StP s) (hm : MachR s D) (hM : MapP s.pairs oM) (hc : c.ok) (hv : c.val.size ≤ 200) :
    Con Tryz.prog 72 #[.pointer (some ⟨mb, 0, none⟩), .agg c.cells.toArray] G [(mb, mcO kb (decide (s.schema = 2)) D), (kb, oM)]
      (fun r G' μ' => ∃ b D' oM', r = .tuple [.agg (specS s c).2.cells.toArray, .bool b].toArray ∧ MachR (specS s c).1 D' ∧ MapP (specS s c).1.pairs oM' ∧ μ' = [(mb, mcO kb (decide ((specS s c).1.schema = 2)) D'), (kb, oM')]) := by
  have qc := cmdCheck_s hT c hc
  have qo := fun G => cmdOwned_s G c
  have qk := fun (G : GH) h0 ho => mclient_s (G := G) (mb := mb) (kb := kb) c hs hm hM h0 ho hv
  have qa := fun (G : GH) => mact_s (G := G) (mb := mb) (kb := kb) (act := decide (s.schema = 2)) (D := D) hs.mapW hM
  have hsch : s.schema = 1 ∨ s.schema = 2 := (stP_iff.1 hs).2.1
  unfold specS applyS
  obtain ⟨kind, client, seq, key, val, old, node⟩ := c
  generalize cmdI ⟨kind, client, seq, key, val, old, node⟩ = ci at *
  generalize clientS s ⟨kind, client, seq, key, val, old, node⟩ = cs at *
  simp only at *
  (refine v_enter Tryz.func72 rfl Tryz.ntmps72 rfl ?_; intro B _)
  repeat' (first | (apply v_box (d := 3) (zs := Cm.cells ⟨kind, client, seq, key, val, old, node⟩); (case hx => rfl); (case hz => rfl); (case hd => rfl); intro b3) | (apply v_alloc (d := 4); (case hz => rfl); (case hd => rfl); intro b4) | (apply v_read; (case hop => (apply r_loadNo; (case hx => rfl); (case h => repeat (first | exact mhd _ | apply mtl)); (case hd => rfl); (case hn => rfl))); (case hd => rfl)) | apply v_seq | apply v_region | apply v_nil | apply v_block | (apply v_take; (case hg => rfl)) | (apply v_pure; (case hop => first | (apply p_move <;> rfl) | (apply p_assign <;> rfl) | (apply p_eqNil <;> rfl) | fail); (case hd => rfl)) | fail)
  refine v_call (μ1 := []) rfl qc (List.Perm.refl _) rfl ?_
  rintro _ G1 _ hle1 ⟨rfl, rfl⟩
  by_cases h0 : ci = 0
  · subst h0
    rw [if_neg (by simp), if_neg (by simp)]
    repeat' (first | (apply v_read; (case hop => (apply r_loadNo; (case hx => rfl); (case h => repeat (first | exact mhd _ | apply mtl)); (case hd => rfl); (case hn => rfl))); (case hd => rfl)) | apply v_seq | apply v_region | apply v_nil | apply v_skip | apply v_blk | (apply v_take; (case hg => rfl)) | (apply v_pure; (case hop => first | (apply p_move <;> rfl) | (apply p_nes <;> rfl) | (apply p_eq <;> rfl) | (apply p_assign <;> rfl) | (apply p_pickF <;> rfl) | (apply p_fieldAddrB <;> rfl) | (apply p_build; (case hz => rfl); (case hv => (simp only [List.map_cons, List.map_nil]; repeat (with_reducible exact evs_nil))); (case hb => (apply bldL; repeat (exact bld_nil)))) | fail); (case hd => rfl)) | (apply v_condF; (case hc => rfl)) | (apply v_cond; (case hc => rfl); all_goals (intro h; (try simp only [reduceCtorEq, zzz] at h))) | (apply v_callJ (hs := qo _); (case ha => rfl); (case hd => rfl)) | (apply v_read; (case hop => (apply r_load1; rfl; (apply Cell.own; (case h => (repeat (first | exact mhd _ | apply mtl))); rfl))); (case hd => rfl)) | (apply v_store; (case hp => rfl); (case hx => rfl); (case hc => rfl); (case hsz => rfl); (case h1 => rfl); (case hb => (repeat (exact mhd _))); (case hfit => exact nle rfl); (case hov => ((repeat (first | with_reducible exact ov_nil | apply ov_cons)); done)); (case hu => repeat (exact Upd.here _ _))) | fail)
    · have ho : 2 ≤ kind ∧ kind ≤ 5 := by assumption
      rw [if_pos ho]
      refine v_call (μ1 := [(mb, mcO kb (decide (s.schema = 2)) D), (kb, oM)]) rfl (qk _ rfl ho) (PickA.perm (by repeat (first | exact PickA.last | apply PickA.cons))) rfl ?_
      rintro _ G2 _ - ⟨hG2, b, D2, oM2, rfl, hm2, hM2, hz2, rfl⟩
      subst G2
      obtain ⟨s2, ⟨ac, aq, ae, af, av, ar⟩⟩ := cs
      simp only at hz2 hm2 hM2
      repeat' (first | apply v_nil | (apply v_pure; (case hop => first | (apply p_assign <;> rfl) | (apply p_extract0 <;> rfl) | (apply p_extract1 <;> rfl) | fail); (case hd => rfl)) | (apply v_store; (case hp => rfl); (case hx => rfl); (case hc => rfl); (case hsz => rfl); (case h1 => rfl); (case hb => (repeat (first | exact mhd _ | apply mtl))); (case hfit => exact nle rfl); (case hov => ((repeat (first | with_reducible exact ov_nil | apply ov_cons)); done)); (case hu => repeat (first | exact Upd.here _ _ | apply Upd.there))) | fail)
      refine v_retM [(mb, mcO kb (decide (s.schema = 2)) D2), (kb, oM2)] (outsM_cell_tmp (sz := 6) (vs := [.int .i64 ac, .int .i64 aq, .int .i64 ae, .bool af, .string av, .int .i64 ar]) (e := 40) rfl rfl rfl (by repeat (first | exact mhd _ | apply mtl)) rfl) (by repeat (first | exact List.nil_sublist _ | apply List.Sublist.cons_cons)) ⟨b, D2, oM2, rfl, hm2, hM2, by rw [← hz2]⟩
    · have ho : ¬ (2 ≤ kind ∧ kind ≤ 5) := by assumption
      rw [if_neg ho]
      refine v_call (μ1 := [(mb, mcO kb (decide (s.schema = 2)) D), (kb, oM)]) rfl (qa _) (PickA.perm (by repeat (first | exact PickA.last | apply PickA.cons))) rfl ?_
      rintro _ G2 _ - ⟨hG2, rfl, oM2, hM2, rfl⟩
      subst G2
      repeat' (first | apply v_seq | apply v_region | apply v_nil | apply v_blk | (apply v_pure; (case hop => first | (apply p_assign <;> rfl) | (apply p_build; (case hz => rfl); (case hv => (simp only [List.map_cons, List.map_nil]; repeat (with_reducible exact evs_nil))); (case hb => (apply bldL; repeat (exact bld_nil)))) | fail); (case hd => rfl)) | (apply v_store; (case hp => rfl); (case hx => rfl); (case hc => rfl); (case hsz => rfl); (case h1 => rfl); (case hb => (repeat (first | exact mhd _ | apply mtl))); (case hfit => exact nle rfl); (case hov => ((repeat (first | with_reducible exact ov_nil | apply ov_cons)); done)); (case hu => repeat (first | exact Upd.here _ _ | apply Upd.there))) | fail)
      refine v_retM [(mb, mcO kb true D), (kb, oM2)] (outsM_cell_tmp (sz := 6) (vs := zA.cells) (e := 40) rfl rfl rfl (by repeat (first | exact mhd _ | apply mtl)) rfl) (by repeat (first | exact List.nil_sublist _ | apply List.Sublist.cons_cons)) ?_
      have h6 : kind = 6 := by assumption
      rcases hsch with h1 | h2
      · rw [if_pos ⟨h6, h1⟩]
        rw [if_neg (by simp [h1])] at hM2
        exact ⟨_, D, oM2, rfl, hm.same rfl, hM2, rfl⟩
      · rw [if_neg (fun h => by omega)]
        rw [if_pos (by simp [h2])] at hM2
        exact ⟨_, D, oM2, rfl, hm, hM2, by rw [h2]; rfl⟩
    · have ho : ¬ (2 ≤ kind ∧ kind ≤ 5) := by assumption
      have h6 : ¬ kind = 6 := by assumption
      rw [if_neg ho, if_neg (fun h => h6 h.1)]
      refine v_retM [(mb, mcO kb (decide (s.schema = 2)) D), (kb, oM)] (outsM_cell_tmp (sz := 6) (vs := zA.cells) (e := 40) rfl rfl rfl (by repeat (exact mhd _)) rfl) (by repeat (first | exact List.Sublist.refl _ | apply List.Sublist.cons)) ⟨_, D, oM, rfl, hm, hM, rfl⟩
  · rw [if_pos h0]
    repeat' (first | apply v_seq | apply v_region | apply v_nil | apply v_skip | apply v_blk | (apply v_take; (case hg => rfl)) | (apply v_pure; (case hop => first | (apply p_ne <;> rfl) | (apply p_assign <;> rfl) | (apply p_pickF <;> rfl) | (apply p_build; (case hz => rfl); (case hv => (simp only [List.map_cons, List.map_nil]; repeat (with_reducible exact evs_nil))); (case hb => (apply bldL; repeat (exact bld_nil)))) | fail); (case hd => rfl)) | (apply v_cond; (case hc => rfl); all_goals (intro h; (try simp only [reduceCtorEq, zzz] at h); first | (exfalso; omega) | skip)) | (apply v_store; (case hp => rfl); (case hx => rfl); (case hc => rfl); (case hsz => rfl); (case h1 => rfl); (case hb => (repeat (exact mhd _))); (case hfit => exact nle rfl); (case hov => ((repeat (first | with_reducible exact ov_nil | apply ov_cons)); done)); (case hu => repeat (exact Upd.here _ _))) | fail)
    refine v_retM [(mb, mcO kb (decide (s.schema = 2)) D), (kb, oM)] (outsM_cell_tmp (sz := 6) (vs := zA.cells) (e := 40) rfl rfl rfl (by repeat (exact mhd _)) rfl) (by repeat (first | exact List.Sublist.refl _ | apply List.Sublist.cons)) ⟨_, D, oM, rfl, hm, hM, rfl⟩
theorem mdo_s {G : GH} (hT : TabsG G) {mb kb : Nat} {s : St} {D : List Ls} {oM : Obj} (c : Cm) (hs : StP s) (hm : MachR s D) (hM : MapP s.pairs oM) (hc : c.ok) (hv : c.val.size ≤ 200) :
    Con Tryz.prog 16 #[.pointer (some ⟨mb, 0, none⟩), .agg c.cells.toArray] G [(mb, mcO kb (decide (s.schema = 2)) D), (kb, oM)]
      (fun r G' μ' => ∃ D' oM', r = .agg (specS s c).2.cells.toArray ∧ MachR (specS s c).1 D' ∧ MapP (specS s c).1.pairs oM' ∧ μ' = [(mb, mcO kb (decide ((specS s c).1.schema = 2)) D'), (kb, oM')]) := by
  have q := mstep_s hT (mb := mb) (kb := kb) c hs hm hM hc hv
  obtain ⟨kind, client, seq, key, val, old, node⟩ := c
  generalize specS s ⟨kind, client, seq, key, val, old, node⟩ = cs at *
  obtain ⟨s2, ⟨ac, aq, ae, af, av, ar⟩⟩ := cs
  (refine v_enter Tryz.func16 rfl Tryz.ntmps16 rfl ?_; intro B _)
  repeat' (first | (apply v_box (d := 3) (zs := Cm.cells ⟨kind, client, seq, key, val, old, node⟩); (case hx => rfl); (case hz => rfl); (case hd => rfl); intro b3) | (apply v_alloc (d := 4); (case hz => rfl); (case hd => rfl); intro b4) | (apply v_read; (case hop => (apply r_loadNo; (case hx => rfl); (case h => repeat (first | exact mhd _ | apply mtl)); (case hd => rfl); (case hn => rfl))); (case hd => rfl)) | apply v_seq | apply v_region | apply v_nil | (apply v_pure; (case hop => (apply p_move <;> rfl)); (case hd => rfl)) | fail)
  refine v_call (μ1 := [(mb, mcO kb (decide (s.schema = 2)) D), (kb, oM)]) rfl q (PickA.perm (by repeat (first | exact PickA.last | apply PickA.cons))) rfl ?_
  rintro _ G2 _ hle2 ⟨b, D2, oM2, rfl, hm2, hM2, rfl⟩
  repeat' (first | (apply v_alloc (d := 5); (case hz => rfl); (case hd => rfl); intro b5) | apply v_seq | apply v_region | apply v_nil | (apply v_pure; (case hop => first | (apply p_move <;> rfl) | (apply p_assign <;> rfl) | (apply p_extract0 <;> rfl) | (apply p_extract1 <;> rfl) | fail); (case hd => rfl)) | (apply v_read; (case hop => (apply r_loadNo; (case hx => rfl); (case h => (repeat (exact mhd _))); (case hd => (repeat (first | with_reducible exact dt_nil | apply dt_here))); (case hn => rfl))); (case hd => rfl)) | (apply v_store; (case hp => rfl); (case hx => rfl); (case hc => rfl); (case hsz => rfl); (case h1 => rfl); (case hb => (repeat (first | exact mhd _ | apply mtl))); (case hfit => exact nle rfl); (case hov => ((repeat (first | with_reducible exact ov_nil | apply ov_cons)); done)); (case hu => repeat (first | exact Upd.here _ _ | apply Upd.there))) | fail)
  refine v_perm (ν := [(mb, mcO kb (decide (s2.schema = 2)) D2), (kb, oM2), (b4, .cells [.int .i64 ac, .int .i64 aq, .int .i64 ae, .bool af, .string av, .int .i64 ar].toArray 40 (0, 0)), (b5, _), (b3, _)]) (by apply perm_of_count; intro p; simp only [List.append_eq, List.countP_append, List.countP_cons, List.countP_nil, Nat.zero_add, Nat.add_zero]; try ac_rfl) ?_
  refine v_retM [(mb, mcO kb (decide (s2.schema = 2)) D2), (kb, oM2)] (outsM_cell (sz := 6) (vs := [.int .i64 ac, .int .i64 aq, .int .i64 ae, .bool af, .string av, .int .i64 ar]) (e := 40) rfl rfl (by repeat (first | exact mhd _ | apply mtl)) rfl) (by repeat (first | exact List.nil_sublist _ | apply List.Sublist.cons_cons)) ⟨D2, oM2, rfl, hm2, hM2, rfl⟩
def laysSortT_ren : Go.Shelf.Ren := ⟨fun | 6 => 136 | 8 => 213 | 9 => 212 | 19 => 268 | 20 => 269 | 21 => 259 | 22 => 260 | 23 => 261 | 24 => 262 | 25 => 263 | 26 => 264 | 27 => 265 | 28 => 266 | 29 => 267 | 31 => 298 | 32 => 299 | 36 => 297 | 37 => 300 | 38 => 301 | 39 => 302 | 41 => 319 | n => n, fun | 0 => 0 | 3 => 3 | 4 => 4 | 5 => 5 | 9 => 9 | 26 => 136 | 27 => 136 | 29 => 9 | 32 => 107 | 35 => 303 | 36 => 304 | 41 => 211 | 44 => 311 | 46 => 313 | 53 => 334 | 57 => 272 | 63 => 352 | 64 => 91 | n => n, fun n => n⟩
theorem laysSortT : SlLaysM.n6 Tryz.prog laysSortT_ren where
  mixed := by kernel_rfl
  f6 := ⟨"slices.Sort[[]string,string]", by decide, Tryz.func136.trans (congrArg some (by kernel_rfl))⟩
  f8 := Tryz.func213.trans (congrArg some (by kernel_rfl))
  f9 := ⟨"slices.pdqsortOrdered[string]", by decide, Tryz.func212.trans (congrArg some (by kernel_rfl))⟩
  f19 := Tryz.func268.trans (congrArg some (by kernel_rfl))
  f20 := Tryz.func269.trans (congrArg some (by kernel_rfl))
  f21 := ⟨"slices.insertionSortOrdered[string]", by decide, Tryz.func259.trans (congrArg some (by kernel_rfl))⟩
  f22 := ⟨"slices.heapSortOrdered[string]", by decide, Tryz.func260.trans (congrArg some (by kernel_rfl))⟩
  f23 := ⟨"slices.breakPatternsOrdered[string]", by decide, Tryz.func261.trans (congrArg some (by kernel_rfl))⟩
  f24 := ⟨"slices.choosePivotOrdered[string]", by decide, Tryz.func262.trans (congrArg some (by kernel_rfl))⟩
  f25 := ⟨"slices.reverseRangeOrdered[string]", by decide, Tryz.func263.trans (congrArg some (by kernel_rfl))⟩
  f26 := ⟨"slices.partialInsertionSortOrdered[string]", by decide, Tryz.func264.trans (congrArg some (by kernel_rfl))⟩
  f27 := ⟨"cmp.Less[string]", by decide, Tryz.func265.trans (congrArg some (by kernel_rfl))⟩
  f28 := ⟨"slices.partitionEqualOrdered[string]", by decide, Tryz.func266.trans (congrArg some (by kernel_rfl))⟩
  f29 := ⟨"slices.partitionOrdered[string]", by decide, Tryz.func267.trans (congrArg some (by kernel_rfl))⟩
  f31 := Tryz.func298.trans (congrArg some (by kernel_rfl))
  f32 := Tryz.func299.trans (congrArg some (by kernel_rfl))
  f36 := ⟨"slices.siftDownOrdered[string]", by decide, Tryz.func297.trans (congrArg some (by kernel_rfl))⟩
  f37 := ⟨"slices.medianAdjacentOrdered[string]", by decide, Tryz.func300.trans (congrArg some (by kernel_rfl))⟩
  f38 := ⟨"slices.medianOrdered[string]", by decide, Tryz.func301.trans (congrArg some (by kernel_rfl))⟩
  f39 := ⟨"cmp.isNaN[string]", by decide, Tryz.func302.trans (congrArg some (by kernel_rfl))⟩
  f41 := ⟨"slices.order2Ordered[string]", by decide, Tryz.func319.trans (congrArg some (by kernel_rfl))⟩
  t0 := Tryz.underlying0
  a0 := Tryz.isAgg0
  z0 := Tryz.sizeOf0
  v0 := Tryz.zeroValue0
  t3 := Tryz.underlying3
  a3 := Tryz.isAgg3
  z3 := Tryz.sizeOf3
  v3 := Tryz.zeroValue3
  t4 := Tryz.underlying4
  a4 := Tryz.isAgg4
  z4 := Tryz.sizeOf4
  v4 := Tryz.zeroValue4
  t5 := Tryz.underlying5
  a5 := Tryz.isAgg5
  z5 := Tryz.sizeOf5
  v5 := Tryz.zeroValue5
  t9 := Tryz.underlying9
  a9 := Tryz.isAgg9
  z9 := Tryz.sizeOf9
  v9 := Tryz.zeroValue9
  t26 := Tryz.underlying136
  a26 := Tryz.isAgg136
  z26 := Tryz.sizeOf136
  v26 := Tryz.zeroValue136
  t27 := Tryz.underlying136
  a27 := Tryz.isAgg136
  z27 := Tryz.sizeOf136
  v27 := Tryz.zeroValue136
  t29 := Tryz.underlying9
  a29 := Tryz.isAgg9
  z29 := Tryz.sizeOf9
  v29 := Tryz.zeroValue9
  t32 := Tryz.underlying107
  a32 := Tryz.isAgg107
  z32 := Tryz.sizeOf107
  v32 := Tryz.zeroValue107
  t35 := Tryz.underlying303
  a35 := Tryz.isAgg303
  z35 := Tryz.sizeOf303
  v35 := Tryz.zeroValue303
  t36 := Tryz.underlying304
  a36 := Tryz.isAgg304
  z36 := Tryz.sizeOf304
  v36 := Tryz.zeroValue304
  t41 := Tryz.underlying211
  a41 := Tryz.isAgg211
  z41 := Tryz.sizeOf211
  v41 := Tryz.zeroValue211
  t44 := Tryz.underlying311
  a44 := Tryz.isAgg311
  z44 := Tryz.sizeOf311
  v44 := Tryz.zeroValue311
  t46 := Tryz.underlying313
  a46 := Tryz.isAgg313
  z46 := Tryz.sizeOf313
  v46 := Tryz.zeroValue313
  t53 := Tryz.underlying334
  a53 := Tryz.isAgg334
  z53 := Tryz.sizeOf334
  v53 := Tryz.zeroValue334
  t57 := Tryz.underlying272
  a57 := Tryz.isAgg272
  z57 := Tryz.sizeOf272
  v57 := Tryz.zeroValue272
  t63 := Tryz.underlying352
  a63 := Tryz.isAgg352
  z63 := Tryz.sizeOf352
  v63 := Tryz.zeroValue352
  t64 := Tryz.underlying91
  a64 := Tryz.isAgg91
  z64 := Tryz.sizeOf91
  v64 := Tryz.zeroValue91
attribute [local semireducible] Con
theorem Con.ofCallsT {P : Program} {f : FuncId} {args : Array Value} {G : GH} {μ : OH} {Φ : Value → GH → OH → Prop} (h : ∀ w, Mem G μ w → Calls P f args w fun e w' => ∃ v, e = .returned v ∧ ∃ G' μ', Step G μ w G' μ' w' ∧ Φ v G' μ') : Con P f args G μ Φ := by
  intro w hw
  exact (h w hw).mono fun e w' hq => by
    obtain ⟨v, rfl, hv⟩ := hq
    exact ⟨v, rfl, hv⟩
section
variable {G : GH} {μ μ' : OH} {w : World} {b : Nat} {e : TypeId}
theorem Step.mapT {vs vs' : List Value} {f : Array Value → Array Value} (hw : Mem G μ w) (hb : Has μ b vs e) (hf : f vs.toArray = vs'.toArray) (hu : Upd b (.cells vs'.toArray e (0, 0)) μ μ') : Step G μ w G μ' (Go.Sort.mapBlock w b f) := by
  have hg := hw.own _ _ hb
  refine Step.upd hw hu rfl rfl rfl (by simp [Go.Sort.mapBlock]) ?_ (fun c hc => ?_)
  · simp only [Go.Sort.mapBlock, Array.getElem?_modify, if_true, hg, Option.map_some, Go.Sort.onCells, hf]
  · simp only [Go.Sort.mapBlock, Array.getElem?_modify]
    rw [if_neg (fun h => hc h.symm)]
theorem Step.growT (h : Mem G μ w) (os : Array Obj) : Step G μ w G μ (Go.Sort.grow w os) := by
  have hold : ∀ c, c < w.heap.size → (Go.Sort.grow w os).heap[c]? = w.heap[c]? := fun c hc => by
    show (w.heap ++ os)[c]? = _
    rw [Array.getElem?_append_left hc]
  refine ⟨⟨fun c o hc => ?_, fun c o hc => ?_, h.nodup, h.apart⟩, GH.le_refl _, rfl, rfl, rfl, ?_, fun c hc _ => hold c hc, fun c o hc => .inl ⟨o, hc⟩, fun c o hc => .inl ⟨o, hc⟩⟩
  · rw [hold c (lt_of_heap (h.g c o hc))]; exact h.g c o hc
  · rw [hold c (lt_of_heap (h.own c o hc))]; exact h.own c o hc
  · show w.heap.size ≤ (w.heap ++ os).size
    simp
end
abbrev bytesL (s : ByteArray) : List UInt8 := s.data.toList
theorem enc_bytes (s : ByteArray) : Go.Proofs.encStr (bytesL s) = Value.string s := by
  obtain ⟨⟨l⟩⟩ := s
  rfl
theorem holds_ownT {G : GH} {μ : OH} {w : World} {b : Nat} {e : TypeId} {zs : List ByteArray} {spare : List Value} (hw : Mem G μ w) (hb : Has μ b (zs.map Value.string ++ spare) e) : Go.Sort.Holds Go.Proofs.encStr w b 0 (zs.map bytesL).toArray := by
  intro j hj
  have hj' : j < zs.length := by simpa using hj
  refine ⟨?_, ?_⟩
  · rw [Nat.zero_add]
    refine Cell.own hb ?_ w hw.sees
    rw [List.getElem?_append_left (by simpa using hj'), List.getElem?_map, List.getElem?_eq_getElem hj']
    have e : (zs.map bytesL).toArray[j]! = bytesL zs[j] := by simp [hj']
    rw [e, enc_bytes]
    rfl
  · have := hw.own _ _ hb
    simp [World.frozen?, this]
theorem putCells_ownT {zs : List ByteArray} {ys : List (List UInt8)} {spare : List Value} (h : ys.length = zs.length) : Go.Sort.putCells Go.Proofs.encStr 0 ys.toArray (zs.map Value.string ++ spare).toArray = (ys.map Go.Proofs.encStr ++ spare).toArray := by
  apply Array.ext_getElem?
  intro k
  simp only [Go.Sort.putCells, Array.getElem?_mapIdx, List.getElem?_toArray, List.size_toArray, Nat.zero_le, true_and, Nat.zero_add, Nat.sub_zero]
  by_cases hk : k < ys.length
  · rw [List.getElem?_append_left (by simp; omega), List.getElem?_append_left (by simpa using hk)]
    simp [hk, h ▸ hk]
  · rw [List.getElem?_append_right (by simp; omega), List.getElem?_append_right (by simp; omega)]
    have hk2 : ¬ k < zs.length := by omega
    simp only [List.length_map, h]
    cases spare[k - zs.length]? with
    | none => rfl
    | some v => simp only [Option.map_some, hk2, if_false]
def sortT (l : List ByteArray) : List ByteArray := ((l.map bytesL).mergeSort fun x y => decide (x ≤ y)).map fun x => ⟨x.toArray⟩
theorem sortT_perm (l : List ByteArray) : (sortT l).Perm l := by
  have h := (List.mergeSort_perm (l.map bytesL) (fun x y => decide (x ≤ y))).map (fun x => (⟨x.toArray⟩ : ByteArray))
  have e : (l.map bytesL).map (fun x => (⟨x.toArray⟩ : ByteArray)) = l := by
    rw [List.map_map]
    conv => rhs; rw [← List.map_id l]
    refine List.map_congr_left fun s _ => ?_
    obtain ⟨⟨x⟩⟩ := s
    rfl
  rw [e] at h
  exact h
theorem le_kn {x y : List UInt8} (hx : x.length ≤ 200) (hy : y.length ≤ 200) (h : x ≤ y) : knL 200 x ≤ knL 200 y := by
  rcases Nat.lt_or_ge (knL 200 y) (knL 200 x) with hlt | hge
  · have h1 := (knL_cmp 200 y x hy hx).1
    rw [Go.Proofs.bytesLess_eq, decide_eq_decide] at h1
    exact absurd (h1.2 hlt) (List.not_lt.2 h)
  · exact hge
theorem sortT_le (l : List ByteArray) (hz : ∀ s ∈ l, s.size ≤ 200) : (sortT l).Pairwise (fun a b => kn a ≤ kn b) := by
  have h := List.pairwise_mergeSort (le := fun (x y : List UInt8) => decide (x ≤ y)) (fun a b c h1 h2 => by simp only [decide_eq_true_eq] at *; exact List.le_trans h1 h2) (fun a b => by simp only [Bool.or_eq_true, decide_eq_true_eq]; exact List.le_total a b) (l.map bytesL)
  have hm : ∀ x ∈ (l.map bytesL).mergeSort (fun x y => decide (x ≤ y)), x.length ≤ 200 := fun x hx => by
    obtain ⟨s, hs, rfl⟩ := List.mem_map.1 ((List.mergeSort_perm _ _).mem_iff.1 hx)
    exact kn_len (hz s hs)
  unfold sortT
  refine List.pairwise_map.2 (List.Pairwise.imp_of_mem (fun {a b} ha hb h => ?_) h)
  have := le_kn (hm a ha) (hm b hb) (by simpa using h)
  unfold kn
  simpa using this
theorem sortT_s {G : GH} {zs : List ByteArray} {b cap : Nat} {e : TypeId} {spare : List Value} (hsz : zs.length < 4611686018427387904) :
    Con Tryz.prog 136 #[.slice (some ⟨b, 0, none⟩) zs.length cap] G [(b, .cells (zs.map Value.string ++ spare).toArray e (0, 0))]
      (fun r G' μ' => r = .tuple #[] ∧ G' = G ∧ μ' = [(b, .cells ((sortT zs).map Value.string ++ spare).toArray e (0, 0))]) := by
  refine Con.ofCallsT fun w hw => ?_
  have hb : Has [(b, Obj.cells (zs.map Value.string ++ spare).toArray e (0, 0))] b (zs.map Value.string ++ spare) e := List.mem_cons_self
  have hl : (zs.map bytesL).length = zs.length := List.length_map ..
  have hc := AnyM.slices_Sort_string laysSortT b 0 cap (zs.map bytesL) w (holds_ownT hw hb) (lt_of_heap (hw.own _ _ hb)) (by omega)
  rw [hl] at hc
  refine hc.mono ?_
  rintro _ w' ⟨rfl, n, os, rfl⟩
  have s1 := Step.drew hw n
  have s2 := Step.mapT (f := Go.Sort.putCells Go.Proofs.encStr 0 ((zs.map bytesL).mergeSort fun x y => decide (x ≤ y)).toArray) s1.mem hb (putCells_ownT (by rw [(List.mergeSort_perm _ _).length_eq, hl])) (.here _ _)
  refine ⟨_, rfl, G, _, (s1.trans s2).trans (Step.growT s2.mem os), rfl, rfl, ?_⟩
  unfold sortT
  rw [List.map_map]
  rfl
theorem sortT0_s {G : GH} {p : Option Addr} {cap : Nat} : Con Tryz.prog 136 #[.slice p 0 cap] G [] (Just (.tuple #[]) G) := by
  refine Con.ofCallsT fun w hw => ?_
  refine (AnyM.slices_Sort_string_none laysSortT p cap w).mono ?_
  rintro _ w' ⟨rfl, rfl⟩
  exact ⟨_, rfl, G, [], Step.refl hw, rfl, rfl, rfl⟩
end Go.Proofs.YtmdeeokejdkceaaGreatDoor
/-
  The library's iterators at texts: slices.AppendSeq, slices.Collect, slices.Sorted; maps.Keys of the machine's map.
-/
set_option linter.unusedSimpArgs false
set_option linter.unusedVariables false
namespace Go.Proofs.YtmdeeokejdkceaaGreatDoor
open Go.Vx Go.ChangeShapes Go.WideShapes Go.ChangeAt Go.RowKit
instance keyT_str : KeyT Tryz.prog 9 keyS := KeyT.string
theorem leftT_perm {left : List ByteArray} {a : ByteArray} (hn : left.Nodup) (ha : a ∈ left) : left.Perm (a :: left.filter fun z => decide (z ≠ a)) := by
  refine (List.perm_ext_iff_of_nodup hn ?_).2 fun x => ?_
  · rw [List.nodup_cons]
    exact ⟨by simp, hn.sublist List.filter_sublist⟩
  · simp only [List.mem_cons, List.mem_filter, decide_eq_true_eq]
    by_cases hx : x = a
    · subst hx; simp [ha]
    · simp [hx]
theorem Grow.casesT {e : TypeId} {v : Value} {m : Nat} {xs : List Value} {ν : OH} (h : Grow e 1 v m xs ν) : (v = .slice none 0 0 ∧ m = 0 ∧ xs = [] ∧ ν = []) ∨ ∃ b cap spare, v = .slice (some ⟨b, 0, none⟩) m cap ∧ m ≤ cap ∧ cap ≤ maxLen ∧ ν = [(b, .cells (xs ++ spare).toArray e (0, 0))] ∧ xs.length = m ∧ (xs ++ spare).length = cap := by
  obtain ⟨hx, ⟨rfl, rfl, rfl⟩ | ⟨b, cap, spare, rfl, rfl, h1, h2, h3⟩⟩ := h
  · left
    exact ⟨rfl, rfl, by simpa using hx, rfl⟩
  · right
    exact ⟨b, cap, spare, rfl, h1, h2, rfl, by simpa using hx, by simpa using h3⟩
theorem growT_of {e : TypeId} {b m cap : Nat} {xs spare : List Value} (h1 : xs.length = m) (h2 : m ≤ cap) (h3 : cap ≤ maxLen) (h4 : (xs ++ spare).length = cap) : Grow e 1 (.slice (some ⟨b, 0, none⟩) m cap) m xs [(b, .cells (xs ++ spare).toArray e (0, 0))] :=
  ⟨by omega, .inr ⟨b, cap, spare, rfl, rfl, h2, h3, by omega⟩⟩
theorem keysT_s {G : GH} {m : Nat} : Con Tryz.prog 76 #[.map (some m)] G []
    (fun r G' μ' => ∃ b, r = .func (.func 137) #[] #[.pointer (some ⟨b, 0, none⟩)] ∧ G' = G ∧ μ' = [(b, .cells [Value.map (some m)].toArray 126 (0, 0))]) := by
  (refine v_enter Tryz.func76 rfl Tryz.ntmps76 rfl ?_; intro B _)
  repeat' (first | apply v_seq | apply v_region | apply v_nil | (apply v_pure; (case hop => first | (apply p_assign <;> rfl) | (apply p_makeFunc <;> rfl)); (case hd => rfl)) | (apply v_box; (case hx => rfl); (case hz => rfl); (case hd => rfl); intro b) | fail)
  refine v_ret [(b, _)] (outsA1 rfl rfl) (by repeat (exact List.Sublist.refl _)) ?_
  exact ⟨b, rfl, rfl, rfl⟩
theorem keysT_seq {G : GH} {l : List (ByteArray × Value)} {m b : Nat} {oM : Obj} (hM : MapB keyS l oM) : SeqCon Tryz.prog 137 [.pointer (some ⟨b, 0, none⟩)] keyS (fun xs => xs.Perm (l.map (·.1))) l.length G [(b, .cells [Value.map (some m)].toArray 126 (0, 0)), (m, oM)] := by
  intro lp J G1 ν hle hJ0 hY
  have hnd := hM.nodup
  (refine v_enter Tryz.func137 rfl Tryz.ntmps137 rfl ?_; intro B _)
  repeat' (first | apply v_seq | apply v_region | apply v_nil | apply v_block | (apply v_rangeM (hb := (by repeat (first | exact mhd _ | apply mtl))) (hM := hM); (case hx => rfl); (case hd => rfl); intro it oI hI) | (apply v_read; (case hop => (apply r_load1; rfl; (apply Cell.own; (case h => (repeat (exact mhd _))); rfl))); (case hd => rfl)) | fail)
  refine v_loopI (ι := List ByteArray × List ByteArray) [5, 0] (fun i vs G' μ' => GH.le G1 G' ∧ ∃ ν' oI, IterB keyS m l i.2 oM oI ∧ i.2.Nodup ∧ (i.1 ++ i.2).Perm (l.map (·.1)) ∧ vs = [.pointer (some ⟨it, 0, none⟩), .func (.yield lp) #[] #[]] ∧ J i.1 G' ν' ∧ μ' = (it, oI) :: (b, .cells [Value.map (some m)].toArray 126 (0, 0)) :: (m, oM) :: ν') (fun i => i.2.length) rfl ([], l.map (·.1)) ⟨GH.le_refl _, ν, oI, hI, hnd, List.Perm.refl _, rfl, hJ0, rfl⟩ ?_
  rintro ⟨pre, left⟩ vs G' _ ⟨hle', ν', oI', hI', hn, hper, rfl, hJ, rfl⟩
  simp only at hI' hn hper hJ
  have hlen := hper.length_eq
  rw [List.length_append, List.length_map] at hlen
  repeat' (first | apply v_seq | apply v_region | (apply v_nextM (k := 9) (hb := (by repeat (first | exact mhd _ | apply mtl))) (hI := hI'); (case hx => rfl); (case hp => exact List.Perm.refl _); (case hd => rfl)) | fail)
  · intro h0
    subst h0
    repeat' (first | apply v_seq | apply v_nil | (apply v_exit; (case hp => rfl)) | (apply v_pure; (case hop => (apply p_extract0 <;> rfl)); (case hd => rfl)) | (apply v_condF; (case hc => rfl)) | fail)
    refine v_end ([(b, _), (m, oM)] ++ ν') (outsA0 rfl) (by repeat (first | exact List.Sublist.refl _ | apply List.Sublist.cons)) ?_
    exact ⟨pre, ν', by simpa using hper, hJ, rfl⟩
  · intro a u oI2 ha hau hI2 hE
    have hy := hY pre a G' ν' hle' hJ (by
      have : 0 < left.length := List.length_pos_of_mem ha
      omega)
    have hlp := leftT_perm hn ha
    repeat' (first | apply v_seq | apply v_region | apply v_nil | apply v_skip | apply v_block | apply v_blk | (apply v_pure; (case hop => first | (apply p_move <;> rfl) | (apply p_assign <;> rfl) | (apply p_not <;> rfl) | (apply p_extract0 <;> rfl) | fail); (case hd => rfl)) | (apply v_condT; (case hc => rfl)) | (apply v_condF; (case hc => rfl)) | (apply v_read; (case hop => apply r_entry (hE := hE); (case hx => rfl); (case hi => repeat (exact mhd _)); (case hb => repeat (first | exact mhd _ | apply mtl))); (case hd => rfl)) | (apply v_yield (hs := hy); (case hx => rfl); (case ha => rfl); (case hp => exact (List.perm_append_comm (l₁ := [(it, oI2), (b, Obj.cells [Value.map (some m)].toArray 126 (0, 0)), (m, oM)]) (l₂ := ν'))); (case hd => rfl); rintro _ G2 ν2 hle2 ⟨rfl, hJ2⟩) | fail)
    refine v_perm List.perm_append_comm ?_
    refine v_againI (pre ++ [a], left.filter fun z => decide (z ≠ a)) rfl ⟨GH.le_trans hle' hle2, ν2, oI2, hI2, hn.sublist List.filter_sublist, ?_, rfl, hJ2, rfl⟩ ?_
    · refine List.Perm.trans ?_ hper
      simp only [List.append_assoc, List.singleton_append]
      exact List.Perm.append_left _ hlp.symm
    · have := hlp.length_eq
      simp only [List.length_cons] at this ⊢
      omega
theorem appendSeqT_s {G : GH} {gf : FuncId} [Callable Tryz.prog gf] {lb : List Value} {S : List ByteArray → Prop} {N : Nat} {μ1 : OH} (hN : N ≤ 1048576) (hseq : SeqCon Tryz.prog gf lb keyS S N G μ1) :
    Con Tryz.prog 211 #[.slice none 0 0, .func (.func gf) #[] lb.toArray] G μ1 (fun r G' μ' => G' = G ∧ ∃ xs ν, S xs ∧ Grow 9 1 r xs.length (xs.map Value.string) ν ∧ μ' = ν ++ μ1) := by
  (refine v_enter Tryz.func211 rfl Tryz.ntmps211 rfl ?_; intro B _)
  repeat' (first | apply v_seq | apply v_region | apply v_nil | apply v_block | (apply v_pure; (case hop => first | (apply p_move <;> rfl) | (apply p_assign <;> rfl)); (case hd => rfl)) | (apply v_box; (case hx => rfl); (case hz => rfl); (case hd => rfl); intro b) | fail)
  refine v_rangeFunc (enc := keyS) (N := N) (S := S) (μ1 := μ1) (μ2 := [(b, .cells [.slice none 0 0].toArray 136 (0, 0))]) (σ' := fun x => _) (fun pre G' ν => G' = G ∧ ∃ v ν1, Grow 9 1 v pre.length (pre.map Value.string) ν1 ∧ ν = ν1 ++ [(b, .cells [v].toArray 136 (0, 0))]) rfl hseq ?_ rfl (fun x => Assigns.region (.cons (p_assign rfl) rfl (.nil _))) rfl ⟨rfl, _, [], Grow.nil _ _, rfl⟩ ?_ ?_
  · exact (List.perm_append_comm (l₁ := [(b, Obj.cells [Value.slice none 0 0].toArray 136 (0, 0))]) (l₂ := μ1))
  · rintro l B' _ pre x G2 _ hle ⟨rfl, v, ν1, hg, rfl⟩ hlen
    have hpl : pre.length ≤ 1048576 := by omega
    repeat' (first | apply v_region | apply v_nil | apply v_block | apply v_blk | (apply v_pure; (case hop => (apply p_move <;> rfl)); (case hd => rfl)) | (apply v_append (hg := hg) (m' := 1) (us := [keyS x]) (hp := PickA.perm (by repeat (first | exact PickA.here _ | apply PickA.cons))) (hsrc := Src.own (e := 9) (by repeat (exact mhd _)) rfl); (case hzs => rfl); (case hsz => omega); (case hs => rfl); (case hx => rfl); (case hb => omega); (case hb' => simp only [maxLen]; omega); (case hd => rfl); (case h1 => rfl); intro v3 n3 hg3; obtain ⟨A3, c3, rfl, -, -⟩ := hg3.shape) | (apply v_read; (case hop => (apply r_load1; rfl; (apply Cell.own; (case h => (repeat (first | exact mhd _ | apply List.mem_append_right))); rfl))); (case hd => rfl)) | (apply v_buildSlice; (case hz => rfl); (case hi => rfl); (case hv => (simp only [List.map_cons, List.map_nil]; repeat (first | with_reducible exact evs_nil | (apply evs_cons; (case h1 => rfl))))); (case hp => (apply pk_cons; (case hc => rfl); (case hs => rfl); (case h => (with_reducible exact pk_nil)); (case he => ((repeat (first | with_reducible exact ap_nil | apply ap_cons)); done)))); (case hb => rfl); (case hd => rfl); intro b) | (apply v_store; (case hp => rfl); (case hx => rfl); (case hc => rfl); (case hsz => rfl); (case h1 => rfl); (case hb => (repeat (first | exact mhd _ | apply mtl | apply List.mem_append_right))); (case hfit => exact nle rfl); (case hov => ((repeat (first | with_reducible exact ov_nil | apply ov_cons)); done)); (case hu => repeat (first | exact Upd.here _ _ | apply Upd.there | apply Upd.app))) | fail)
    refine v_endR (n3 ++ [_]) (List.Sublist.append_left (by repeat (first | exact List.Sublist.refl _ | apply List.Sublist.cons)) _) ⟨rfl, rfl, _, n3, by simpa using hg3, rfl⟩
  · rintro B' D _ xs G2 _ hle hS ⟨rfl, v, ν1, hg, rfl⟩
    repeat' (first | apply v_seq | apply v_region | apply v_nil | apply v_blk | (apply v_pure; (case hop => (apply p_assign <;> rfl)); (case hd => rfl)) | (apply v_read; (case hop => (apply r_load1; rfl; (apply Cell.own; (case h => (repeat (first | exact mhd _ | apply mtl | apply List.mem_append_right))); rfl))); (case hd => rfl)) | fail)
    refine v_retD (Ds := [D]) (μ1 := (ν1 ++ μ1) ++ [(b, .cells [v].toArray 136 (0, 0))]) (ν1 ++ μ1) (fun ds a ha w _ => outs1 rfl rfl ds a ha) ?_ (List.sublist_append_left _ _) ⟨rfl, xs, ν1, hS, hg, rfl⟩
    exact (show List.Perm (μ1 ++ (ν1 ++ [(b, Obj.cells [v].toArray 136 (0, 0))])) (ν1 ++ μ1 ++ [(b, Obj.cells [v].toArray 136 (0, 0))]) from (by apply perm_of_count; intro p; simp only [List.append_eq, List.countP_append, List.countP_cons, List.countP_nil, Nat.zero_add, Nat.add_zero]; try ac_rfl)).cons _
theorem collectT_s {G : GH} {gf : FuncId} [Callable Tryz.prog gf] {lb : List Value} {S : List ByteArray → Prop} {N : Nat} {μ1 : OH} (hN : N ≤ 1048576) (hseq : SeqCon Tryz.prog gf lb keyS S N G μ1) :
    Con Tryz.prog 135 #[.func (.func gf) #[] lb.toArray] G μ1 (fun r G' μ' => G' = G ∧ ∃ xs ν, S xs ∧ Grow 9 1 r xs.length (xs.map Value.string) ν ∧ μ' = ν ++ μ1) := by
  have q := appendSeqT_s hN hseq
  (refine v_enter Tryz.func135 rfl Tryz.ntmps135 rfl ?_; intro B _)
  repeat' (first | apply v_seq | apply v_region | apply v_nil | (apply v_pure; (case hop => first | (apply p_move <;> rfl) | (apply p_assign <;> rfl)); (case hd => rfl)) | fail)
  refine v_call (μ1 := μ1) (μ2 := []) rfl q (by simp) rfl ?_
  rintro r _ _ - ⟨rfl, xs, ν, hS, hg, rfl⟩
  repeat' (first | apply v_nil | (apply v_pure; (case hop => (apply p_assign <;> rfl)); (case hd => rfl)) | fail)
  refine v_ret (ν ++ μ1) (outsA1 rfl rfl) (by simp) ⟨rfl, xs, ν, hS, hg, rfl⟩
theorem sortedT_s {G : GH} {gf : FuncId} [Callable Tryz.prog gf] {lb : List Value} {S : List ByteArray → Prop} {N : Nat} {μ1 : OH} (hN : N ≤ 1048576) (hS : ∀ xs, S xs → xs.length ≤ 1048576) (hseq : SeqCon Tryz.prog gf lb keyS S N G μ1) :
    Con Tryz.prog 75 #[.func (.func gf) #[] lb.toArray] G μ1 (fun r G' μ' => G' = G ∧ ∃ xs ν, S xs ∧ Grow 9 1 r xs.length ((sortT xs).map Value.string) ν ∧ μ' = ν ++ μ1) := by
  have q := collectT_s hN hseq
  (refine v_enter Tryz.func75 rfl Tryz.ntmps75 rfl ?_; intro B _)
  repeat' (first | apply v_seq | apply v_region | apply v_nil | (apply v_pure; (case hop => first | (apply p_move <;> rfl) | (apply p_assign <;> rfl)); (case hd => rfl)) | fail)
  refine v_call (μ1 := μ1) (μ2 := []) rfl q (by simp) rfl ?_
  rintro r G1 _ - ⟨rfl, xs, ν, hSx, hg, rfl⟩
  have hlen := hS _ hSx
  obtain ⟨rfl, h0, h1, rfl⟩ | ⟨b, cap, spare, rfl, hc, hm, rfl, hxl, hcl⟩ := Grow.casesT hg
  · have hx0 : xs = [] := List.eq_nil_of_length_eq_zero h0
    subst hx0
    repeat' (first | apply v_seq | apply v_region | apply v_nil | (apply v_pure; (case hop => first | (apply p_move <;> rfl) | (apply p_assign <;> rfl)); (case hd => rfl)) | (apply v_call (hs := sortT0_s); (case ha => rfl); (case hp => exact List.Perm.refl _); (case hd => rfl); rintro _ _ _ _ ⟨rfl, rfl, rfl⟩) | fail)
    refine v_ret μ1 (outsA1 rfl rfl) (by simp) ⟨rfl, [], [], hSx, by simpa [sortT] using Grow.nil _ _, rfl⟩
  · have q2 := sortT_s (G := G1) (zs := xs) (b := b) (cap := cap) (e := 9) (spare := spare) (by omega)
    repeat' (first | apply v_seq | apply v_region | apply v_nil | (apply v_pure; (case hop => first | (apply p_move <;> rfl) | (apply p_assign <;> rfl)); (case hd => rfl)) | fail)
    refine v_call (μ1 := [(b, _)]) (μ2 := μ1) rfl q2 (by simp) rfl ?_
    rintro _ G2 _ hle2 ⟨rfl, rfl, rfl⟩
    repeat' (first | apply v_seq | apply v_region | apply v_nil | (apply v_pure; (case hop => first | (apply p_move <;> rfl) | (apply p_assign <;> rfl)); (case hd => rfl)) | fail)
    refine v_ret ([(b, _)] ++ μ1) (outsA1 rfl rfl) (List.Sublist.refl _) ⟨rfl, xs, _, hSx, growT_of (by simp [(sortT_perm xs).length_eq]) hc hm (by simpa [(sortT_perm xs).length_eq] using hcl), rfl⟩
abbrev kA : ByteArray := ⟨#[97]⟩
abbrev emp : St := ⟨1, [], []⟩
theorem keyA : keyB kA = true := by decide +kernel
theorem sesP_nil : SesP [] := ⟨fun i hi => by simp at hi, fun x hx => by simp at hx⟩
theorem emp_ok : StP emp := stP_iff.2 ⟨sesP_nil, .inl rfl, ⟨by simp, List.Pairwise.nil, fun x hx => by simp at hx⟩, fun _ => rfl⟩
theorem which_nil (n q : Int) : whichS [] n q = (0, zA) := by unfold whichS; rw [if_pos (show hitG ksS ([] : List Ss) n = false from rfl)]
abbrev D0 : List Ls := List.replicate 9 zLs
theorem mach0 : MachR emp D0 := ⟨rfl, by decide⟩
theorem map0 : MapP [] (.map #[] 0) := ⟨[], List.Perm.refl _, MapB.nil⟩
theorem mnew_s (G : GH) : Con Tryz.prog 15 #[] G [] (fun r G' μ' => G' = G ∧ ∃ mb kb, r = .pointer (some ⟨mb, 0, none⟩) ∧ μ' = [(mb, mcO kb false D0), (kb, .map #[] 0)]) := by
  (refine v_enter Tryz.func15 rfl Tryz.ntmps15 rfl ?_; intro B _)
  repeat' (first | (apply v_box (d := 3) (zs := mcV kb false D0); (case hx => rfl); (case hz => rfl); (case hd => rfl); intro mb) | apply v_seq | apply v_region | apply v_nil | (apply v_pure; (case hop => first | (apply p_assign <;> rfl) | (apply p_build; (case hz => rfl); (case hv => (simp only [List.map_cons, List.map_nil]; repeat (first | with_reducible exact evs_nil | (apply evs_cons; (case h1 => rfl))))); (case hb => (apply bldL; repeat (first | exact bld_nil | (apply bld_cons; (case hpf => rfl); (case hc => rfl); (case hs => rfl); (case hl => rfl); (case ho => ((repeat (first | with_reducible exact ov_nil | apply ov_cons)); done))))))) | fail); (case hd => rfl)) | (apply v_makeMap; (case hd => rfl); intro kb) | fail)
  exact v_ret [(mb, mcO kb false D0), (kb, .map #[] 0)] (outsA1 rfl rfl) (by repeat (exact List.Sublist.refl _)) ⟨rfl, mb, kb, rfl, rfl⟩
theorem sorted_keys {L l : List Pr} (hp : L.Perm l) (hr : RiseW ksP l) (hz : Sized l) {xs : List ByteArray} (hx : xs.Perm ((L.map prE).map (·.1))) : sortT xs = l.map (·.key) := by
  rw [prE_keys] at hx
  have h1 : (sortT xs).Perm (l.map (·.key)) := (sortT_perm xs).trans (hx.trans (hp.map _))
  have hzx : ∀ s ∈ xs, s.size ≤ 200 := fun s hs => by
    obtain ⟨p, hp2, rfl⟩ := List.mem_map.1 ((hx.trans (hp.map _)).mem_iff.1 hs)
    exact (hz p hp2).1
  have h2 := sortT_le xs hzx
  have h3 : (l.map (·.key)).Pairwise (fun a b => kn a ≤ kn b) := List.pairwise_map.2 (hr.imp fun {a b} h => by simp only [ksP] at h; omega)
  have hz1 : ∀ s ∈ sortT xs, s.size ≤ 200 := fun s hs => hzx s ((sortT_perm xs).mem_iff.1 hs)
  refine List.Perm.eq_of_pairwise (le := fun a b => kn a ≤ kn b) ?_ h2 h3 h1
  intro a b ha hb hab hba
  have ha2 : a.size ≤ 200 := hz1 a ha
  have hb2 : b.size ≤ 200 := hz1 b (h1.mem_iff.2 hb)
  exact (kn_inj ha2 hb2).1 (by omega)
def keyC (s : ByteArray) : List Value := [.string s]
theorem keyC_len (s : ByteArray) : (keyC s).length = 1 := rfl
theorem rowC_keys (l : List ByteArray) : l.map Value.string = rowC keyC l := by
  induction l with
  | nil => rfl
  | cons x l ih => rw [rowC_cons, List.map_cons, ih]; rfl
theorem findP_at {l : List Pr} (hr : RiseW ksP l) {i : Nat} (hi : i < l.length) : findP l (kn (l[i]).key) = l[i] := by
  have hh : hitG ksP l (kn (l[i]).key) = true := (hit_iff hr).2 ⟨_, List.getElem_mem hi, rfl⟩
  obtain ⟨h1, h2⟩ := findP_hit hr hh
  exact rise_same hr h1 (List.getElem_mem hi) h2
section
variable {P : Program} {ty : TypeId} {σ : Env} {t : TypeId} {bytes : Nat} {zero : Value}
attribute [local semireducible] PureOp
theorem p_indexN {e : TypeId} {sz len : Nat} {x i : Operand} {vs us : List Value} {k : IntKind} {m : Nat} [Ty P t (.array len e)] [Lay P e true sz bytes zero] (hx : Env.ev σ x = some (.agg vs.toArray)) (hi : Env.ev σ i = some (.int k (m : Nat))) (h : m < len) (hu : (vs.drop (m * sz)).take sz = us) : PureOp P (.index t x i) ty σ (.agg us.toArray) := by
  subst hu
  intro dst pos af g ρ hρ w
  have e0 : vs.toArray.extract (m * sz) (m * sz + sz) = ((vs.drop (m * sz)).take sz).toArray := by
    apply Array.ext'
    simp
  have h1 : (0 : Int) ≤ ((m : Nat) : Int) ∧ ((m : Nat) : Int) < (len : Nat) := by omega
  simp only [execOp, hρ _ _ hx, hρ _ _ hi, Instr.index, asIntOf, Sem.run_bind, Sem.run_pure, Result.andThen_ok, run_under (t := t) (d := .array len e), h1, and_self, if_true, Int.toNat_natCast, Go.Vx.run_sizeOf (P := P) (t := e) (agg := true) (size := sz) (bytes := bytes) (zero := zero), part, Go.Vx.run_isAgg' (P := P) (t := e) (agg := true) (size := sz) (bytes := bytes) (zero := zero), e0]
end
theorem sesK_len (D : List Ls) : ∀ k, (sesK D k).length ≤ k
  | 0 => Nat.le_refl _
  | k + 1 => by
    have := sesK_len D k
    rw [sesK, List.length_append]
    unfold sesOne
    split <;> simp <;> omega
theorem mcArr {G : GH} {μ : OH} {mb kb : Nat} {act : Bool} {D : List Ls} {e : TypeId} (h : D.length = 9) (hb : Has μ mb (mcV kb act D) e) : CellsAt G μ ⟨mb, 0 + 2, none⟩ (rowC Ls.cells D) := by
  have := CellsAt.ownAt (G := G) (i := 0 + 2) (m := 63) hb
  have e2 : ((mcV kb act D).drop (0 + 2)).take 63 = rowC Ls.cells D := by
    show (rowC Ls.cells D).take 63 = _
    exact List.take_of_length_le (by rw [rowC_length Ls.len, h]; decide)
  rwa [e2] at this
set_option maxHeartbeats 4000000 in
theorem mState_s {G : GH} {mb kb : Nat} {s : St} {D : List Ls} {oM : Obj} (hs : StP s) (hm : MachR s D) (hM : MapP s.pairs oM) :
    Con Tryz.prog 20 #[.pointer (some ⟨mb, 0, none⟩)] G [(mb, mcO kb (decide (s.schema = 2)) D), (kb, oM)] (fun r G' μ' => StV G' s r ∧ μ' = [(mb, mcO kb (decide (s.schema = 2)) D), (kb, oM)]) := by
  have hw := hs.mapW
  obtain ⟨L, hp, hMB⟩ := id hM
  have hkeys := fun xs h => sorted_keys (xs := xs) hp hw.1 hw.2.1 h
  have hsch : s.schema = 1 ∨ s.schema = 2 := (stP_iff.1 hs).2.1
  have q1 := keysT_s (G := G) (m := kb)
  have q2 := fun bk => sortedT_s (gf := 137) (by have := hw.2.2.1; rw [List.length_map, hp.length_eq]; omega) (fun xs (h : xs.Perm ((L.map prE).map (·.1))) => by have h1 := h.length_eq; have := hw.2.2.1; rw [List.length_map, List.length_map, hp.length_eq] at h1; omega) (keysT_seq (G := G) (m := kb) (b := bk) hMB)
  have hz : s.schema = if decide (s.schema = 2) = true then 2 else 1 := by
    rcases hsch with h | h <;> rw [h] <;> rfl
  generalize ha : decide (s.schema = 2) = act at *
  (refine v_enter Tryz.func20 rfl Tryz.ntmps20 rfl ?_; intro B _)
  repeat' (first | (apply v_alloc (d := 2); (case hz => rfl); (case hd => rfl); intro b2) | (apply v_alloc (d := 3); (case hz => rfl); (case hd => rfl); intro b3) | apply v_seq | apply v_region | apply v_nil | apply v_skip | (apply v_pure; (case hop => first | (apply p_move <;> rfl) | (apply p_fieldAddrB <;> rfl) | (apply p_nilCheck <;> rfl) | (apply p_eqNil <;> rfl) | (apply p_build; (case hz => rfl); (case hv => (simp only [List.map_cons, List.map_nil]; repeat (first | with_reducible exact evs_nil | (apply evs_cons; (case h1 => rfl))))); (case hb => (apply bldL; repeat (first | exact bld_nil | (apply bld_cons; (case hpf => rfl); (case hc => rfl); (case hs => rfl); (case hl => rfl); (case ho => ((repeat (first | with_reducible exact ov_nil | apply ov_cons)); done))))))) | fail); (case hd => rfl)) | (apply v_condF; (case hc => rfl)) | (apply v_cond; (case hc => rfl); all_goals (intro h; (try simp only [reduceCtorEq, zzz] at h))) | (apply v_read; (case hop => (apply r_load1; rfl; (apply Cell.own; (case h => (repeat (first | exact mhd _ | apply mtl))); rfl))); (case hd => rfl)) | (apply v_store; (case hp => rfl); (case hx => rfl); (case hc => rfl); (case hsz => rfl); (case h1 => rfl); (case hb => (repeat (exact mhd _))); (case hfit => exact nle rfl); (case hov => ((repeat (first | with_reducible exact ov_nil | apply ov_cons)); done)); (case hu => repeat (exact Upd.here _ _))) | fail)
  all_goals
    (refine v_perm (ν := [(b3, .cells [.int .i64 s.schema, .slice none 0 0, .slice none 0 0].toArray 32 (0, 0)), (b2, .cells [.int .i64 0, .slice none 0 0, .slice none 0 0].toArray 32 (0, 0)), (mb, mcO kb act D), (kb, oM)]) (List.Perm.of_eq (by rw [hz]; simp [*])) ?_
     refine v_call (μ1 := []) rfl q1 (List.Perm.refl _) rfl ?_
     rintro _ G1 _ - ⟨bk, rfl, hG1, rfl⟩
     subst G1
     repeat' (fail)
     refine v_call (vs := [.func (.func 137) #[] #[.pointer (some ⟨bk, 0, none⟩)]]) (μ1 := [(bk, Obj.cells #[Value.map (some kb)] 126), (kb, oM)]) (μ2 := [(b3, .cells [.int .i64 s.schema, .slice none 0 0, .slice none 0 0].toArray 32 (0, 0)), (b2, .cells [.int .i64 0, .slice none 0 0, .slice none 0 0].toArray 32 (0, 0)), (mb, mcO kb act D)]) rfl (q2 bk) (by apply perm_of_count; intro p; simp only [List.append_eq, List.countP_append, List.countP_cons, List.countP_nil, Nat.zero_add, Nat.add_zero]; try ac_rfl) rfl ?_
     rintro kv G1 _ - ⟨hG1, xs, ν, hx, hgr, rfl⟩
     subst G1
     have hks := hkeys xs hx
     rw [hks] at hgr
     have hxl : xs.length = (s.pairs.map (·.key)).length := by rw [← hks]; exact (sortT_perm xs).length_eq.symm
     rw [hxl, rowC_keys] at hgr
     clear hx hks hkeys q1 q2
     refine v_frzP ν (List.Perm.of_eq (by rw [List.append_assoc])) ?_
     intro G1 hle1 hG1
     have hsl := row_of_grow keyC_len hgr hG1
     clear hgr hG1
     obtain ⟨KA, kc, rfl, hlc, hcm, hsome, hcp⟩ := rowOpen hsl
     rw [List.length_map] at hlc hsome
     simp only [maxLen] at hcm
     simp only [List.length_map]
     repeat' (first | apply v_nil | apply v_block | (apply v_pure; (case hop => first | (apply p_move <;> rfl) | (apply p_lenSlice <;> rfl) | fail); (case hd => rfl)) | fail)
     refine v_perm (ν := [(b3, .cells [.int .i64 s.schema, .slice none 0 0, .slice none 0 0].toArray 32 (0, 0)), (b2, .cells [.int .i64 0, .slice none 0 0, .slice none 0 0].toArray 32 (0, 0)), (mb, mcO kb act D), (kb, oM), (bk, Obj.cells #[Value.map (some kb)] 126)]) (by apply perm_of_count; intro p; simp only [List.append_eq, List.countP_append, List.countP_cons, List.countP_nil, Nat.zero_add, Nat.add_zero]; try ac_rfl) ?_
     refine v_drop (ν := [(b3, .cells [.int .i64 s.schema, .slice none 0 0, .slice none 0 0].toArray 32 (0, 0)), (b2, .cells [.int .i64 0, .slice none 0 0, .slice none 0 0].toArray 32 (0, 0)), (mb, mcO kb act D), (kb, oM)]) (by repeat (first | exact List.nil_sublist _ | apply List.Sublist.cons_cons)) ?_
     refine v_loop [24, 22, 23, 0, 3, 2] (fun us G' μ' => G' = G1 ∧ ∃ (k : Nat) (pA : Option Addr) (pc : Nat) (ν : OH), k ≤ s.pairs.length ∧ us = [Value.int .i64 (k : Nat), .slice KA s.pairs.length kc, .int .i64 (s.pairs.length : Nat), .pointer (some ⟨mb, 0, none⟩), .pointer (some ⟨b3, 0, none⟩), .pointer (some ⟨b2, 0, none⟩)] ∧ Grow 144 3 (.slice pA k pc) k (rowC Pr.cells (s.pairs.take k)) ν ∧ μ' = ν ++ [(b3, .cells [.int .i64 s.schema, .slice pA k pc, .slice none 0 0].toArray 32 (0, 0)), (b2, .cells [.int .i64 0, .slice none 0 0, .slice none 0 0].toArray 32 (0, 0)), (mb, mcO kb act D), (kb, oM)]) (fun us => s.pairs.length - (headI us).toNat) rfl ⟨rfl, 0, none, 0, [], by omega, rfl, Grow.nil _ _, rfl⟩ ?_
     rintro us G' _ ⟨hG', k, pA, pc, ν2, hk, rfl, hgr, rfl⟩
     subst G'
     have e1 : ((k : Nat) : Int).toNat = k := by omega
     by_cases hlt : k < s.pairs.length
     · have hA := hsome (by omega)
       have hck := (hcp k (by rw [List.length_map]; exact hlt)).head
       rw [List.getElem_map] at hck
       have hfa := findP_at hw.1 hlt
       have hkz := (hw.2.1 _ (List.getElem_mem hlt)).1
       have htk : s.pairs.take (k + 1) = s.pairs.take k ++ [s.pairs[k]] := by rw [List.take_succ_eq_append_getElem hlt]
       generalize s.pairs[k] = f at *
       obtain ⟨fk, fv, fr⟩ := f
       simp only at hck hfa hkz
       repeat' (first | apply v_seq | apply v_region | apply v_nil | apply v_skip | apply v_block | (apply v_pure; (case hop => first | (apply p_lt <;> rfl) | (apply p_assign <;> rfl) | (apply p_indexAddrS; (case hx => rfl); (case hi => rfl); (case h0 => omega); (case h => omega); (case hA => assumption)) | fail); (case hd => rfl)) | (apply v_cond; (case hc => rfl); all_goals (intro h; (try simp only [reduceCtorEq, zzz] at h); first | (exfalso; omega) | skip)) | (apply v_read; (case hop => (apply r_load1; rfl; exact Cell.frozen hck)); (case hd => rfl)) | fail)
       have hkl : k ≤ 64 := by have := hw.2.2.1; omega
       refine v_has (σ' := [(5, .string fk), (24, .int .i64 (k : Nat)), (22, .slice KA s.pairs.length kc), (23, .int .i64 (s.pairs.length : Nat)), (0, .pointer (some ⟨mb, 0, none⟩)), (3, .pointer (some ⟨b3, 0, none⟩)), (2, .pointer (some ⟨b2, 0, none⟩))]) ⟨rfl, rfl, rfl, rfl, rfl, rfl, rfl, trivial⟩ ?_
       refine d_start [(mb, mcO kb act D), (kb, oM)] (by kernel_rfl) (by kernel_rfl) (by kernel_rfl) (by intro e he; (simp at he; simp [he]; done)) ?_
       all_goals (apply dtk 0; (case hi => rfl); (case hop => (apply prd; apply p_fieldAddrB <;> rfl)); (case hq => kernel_rfl))
       all_goals (apply dtk 2; (case hi => rfl); (case hop => (apply prd; apply p_move <;> rfl)); (case hq => kernel_rfl))
       all_goals (apply dtk 3; (case hi => rfl); (case hop => (apply prd; apply p_move <;> rfl)); (case hq => kernel_rfl))
       all_goals (apply dtk 4; (case hi => rfl); (case hop => (apply prd; apply p_nilCheck <;> rfl)); (case hq => kernel_rfl))
       all_goals (apply dtk 5; (case hi => rfl); (case hop => (apply prd; apply p_fieldAddrB <;> rfl)); (case hq => kernel_rfl))
       all_goals (apply dtk 6; (case hi => rfl); (case hop => (apply r_load1; rfl; (apply Cell.own; (case h => (repeat (exact mhd _))); rfl))); (case hq => kernel_rfl))
       all_goals (apply dtk 7; (case hi => rfl); (case hop => (apply prd; apply p_move <;> rfl)); (case hq => kernel_rfl))
       all_goals (apply dtk 8; (case hi => rfl); (case hop => ((apply r_key fk ⟨fk, fv, fr⟩ hfa hw hM hkz; (case hb => repeat (first | exact mhd _ | apply mtl)); (case hx => rfl); (case hi => rfl)))); (case hq => kernel_rfl))
       all_goals (apply dtk 9; (case hi => rfl); (case hop => (apply prd; apply p_field1 <;> rfl)); (case hq => kernel_rfl))
       all_goals (apply dtk 10; (case hi => rfl); (case hop => (apply prd; apply p_move <;> rfl)); (case hq => kernel_rfl))
       all_goals (apply dtk 11; (case hi => rfl); (case hop => (apply prd; apply p_nilCheck <;> rfl)); (case hq => kernel_rfl))
       all_goals (apply dtk 12; (case hi => rfl); (case hop => (apply prd; apply p_fieldAddrB <;> rfl)); (case hq => kernel_rfl))
       all_goals (apply dtk 13; (case hi => rfl); (case hop => (apply r_load1; rfl; (apply Cell.own; (case h => (repeat (exact mhd _))); rfl))); (case hq => kernel_rfl))
       all_goals (apply dtk 14; (case hi => rfl); (case hop => (apply prd; apply p_move <;> rfl)); (case hq => kernel_rfl))
       all_goals (apply dtk 15; (case hi => rfl); (case hop => ((apply r_key fk ⟨fk, fv, fr⟩ hfa hw hM hkz; (case hb => repeat (first | exact mhd _ | apply mtl)); (case hx => rfl); (case hi => rfl)))); (case hq => kernel_rfl))
       all_goals (apply dtk 16; (case hi => rfl); (case hop => (apply prd; apply p_field1 <;> rfl)); (case hq => kernel_rfl))
       all_goals (apply dtk 17; (case hi => rfl); (case hop => (apply prd; apply p_build; (case hz => rfl); (case hv => (simp only [List.map_cons, List.map_nil]; repeat (first | with_reducible exact evs_nil | (apply evs_cons; (case h1 => rfl))))); (case hb => (apply bldL; repeat (first | exact bld_nil | (apply bld_cons; (case hpf => rfl); (case hc => rfl); (case hs => rfl); (case hl => rfl); (case ho => ((repeat (first | with_reducible exact ov_nil | apply ov_cons)); done)))))))); (case hq => kernel_rfl))
       focus
         refine d_fork 1 18 (by kernel_rfl) ?_ ?_
         rotate_right
         focus
           (apply x_buildSlice 18; (case hi => rfl); (case hT => infer_instance); (case hL => infer_instance); (case hz => rfl); (case hl => rfl); (case hv => (simp only [List.map_cons, List.map_nil]; repeat (first | with_reducible exact evs_nil | (apply evs_cons; (case h1 => rfl))))); (case hp => (apply pk_cons; (case hc => rfl); (case hs => rfl); (case h => (with_reducible exact pk_nil)); (case he => ((repeat (first | with_reducible exact ap_nil | apply ap_cons)); done)))); (case hb => rfl); (case hd => rfl); (case hν => intro e he; (simp at he; simp [he]; done)); intro sb)
           all_goals (apply d_keep 1 (hop := ReadOp.move ?hop); (case hi => rfl); (case hr => kernel_rfl); (case hop => (apply r_load1; rfl; (apply Cell.own; (case h => repeat (first | exact mhd _ | apply mtl | apply List.mem_append_right)); rfl))); (case hd => rfl))
           all_goals (apply d_append 19 (hg := hgr) (q' := 1) (us := [.string fk, .string fv, .int .i64 fr]) (hp := PickA.perm (by repeat (first | exact PickA.here _ | apply PickA.cons))) (hsrc := Src.own (e := 144) (List.Mem.head _) rfl); (case hi => rfl); (case hr => kernel_rfl); (case hT => infer_instance); (case hL => infer_instance); (case hzs => rfl); (case hsz => omega); (case hs => rfl); (case hx => rfl); (case hb => omega); (case hb' => simp only [maxLen]; omega); (case hd => rfl); (case h1 => rfl); (case hν => intro e he; (simp at he; simp [he]; done)); intro v5 n5 g5; obtain ⟨A5, c5, rfl, -, -⟩ := g5.shape)
           all_goals (apply dtk 20; (case hi => rfl); (case hop => (apply prd; apply p_fieldAddrB <;> rfl)); (case hq => kernel_rfl))
           all_goals (apply d_store 21; (case hi => rfl); (case hr => kernel_rfl); (case hL => infer_instance); (case hp => rfl); (case hx => rfl); (case hc => rfl); (case hsz => rfl); (case h1 => rfl); (case hb => (repeat (first | exact mhd _ | apply mtl | apply List.mem_append_right))); (case hfit => exact nle rfl); (case hov => ((repeat (first | with_reducible exact ov_nil | apply ov_cons)); done)); (case hu => repeat (first | exact Upd.here _ _ | apply Upd.there | apply Upd.app)); (case hν' => intro e he; (simp at he; simp [he]; done)))
           all_goals (apply d_done; (case hr => kernel_rfl))
         rotate_right
         focus
           (apply x_exec 1; (case hi => rfl);  (case hop => exact ReadOp.move (r_load1 rfl (Cell.own (by repeat (first | exact mhd _ | apply List.mem_append_right)) rfl))); (case hd => rfl); rintro _ G0 _ ⟨rfl, hG0, rfl⟩; subst G0; refine ⟨(by intro e he; simp only [List.mem_cons, List.not_mem_nil, or_false] at he; rcases he with rfl | rfl <;> simp), ?_⟩)
           all_goals (apply d_buildSlice 18; (case hi => rfl); (case hr => kernel_rfl); (case hT => infer_instance); (case hL => infer_instance); (case hz => rfl); (case hl => rfl); (case hv => (simp only [List.map_cons, List.map_nil]; repeat (first | with_reducible exact evs_nil | (apply evs_cons; (case h1 => rfl))))); (case hp => (apply pk_cons; (case hc => rfl); (case hs => rfl); (case h => (with_reducible exact pk_nil)); (case he => ((repeat (first | with_reducible exact ap_nil | apply ap_cons)); done)))); (case hb => rfl); (case hd => rfl); (case hν => intro e he; (simp at he; simp [he]; done)); intro sb)
           all_goals (apply d_append 19 (hg := hgr) (q' := 1) (us := [.string fk, .string fv, .int .i64 fr]) (hp := PickA.perm (by repeat (first | exact PickA.here _ | apply PickA.cons))) (hsrc := Src.own (e := 144) (List.Mem.head _) rfl); (case hi => rfl); (case hr => kernel_rfl); (case hT => infer_instance); (case hL => infer_instance); (case hzs => rfl); (case hsz => omega); (case hs => rfl); (case hx => rfl); (case hb => omega); (case hb' => simp only [maxLen]; omega); (case hd => rfl); (case h1 => rfl); (case hν => intro e he; (simp at he; simp [he]; done)); intro v5 n5 g5; obtain ⟨A5, c5, rfl, -, -⟩ := g5.shape)
           all_goals (apply dtk 20; (case hi => rfl); (case hop => (apply prd; apply p_fieldAddrB <;> rfl)); (case hq => kernel_rfl))
           all_goals (apply d_store 21; (case hi => rfl); (case hr => kernel_rfl); (case hL => infer_instance); (case hp => rfl); (case hx => rfl); (case hc => rfl); (case hsz => rfl); (case h1 => rfl); (case hb => (repeat (first | exact mhd _ | apply mtl | apply List.mem_append_right))); (case hfit => exact nle rfl); (case hov => ((repeat (first | with_reducible exact ov_nil | apply ov_cons)); done)); (case hu => repeat (first | exact Upd.here _ _ | apply Upd.there | apply Upd.app)); (case hν' => intro e he; (simp at he; simp [he]; done)))
           all_goals (apply d_done; (case hr => kernel_rfl))
       all_goals repeat' (first | apply v_region | apply v_nil | apply v_blk | (apply v_pure; (case hop => first | (apply p_move <;> rfl) | (apply p_add; (case hx => rfl); (case hy => rfl); (case h => omega)) | fail); (case hd => rfl)) | fail)
       all_goals
         (refine v_perm (ν := (n5 ++ [(b3, .cells [.int .i64 s.schema, .slice A5 (k + 1) c5, .slice none 0 0].toArray 32 (0, 0)), (b2, .cells [.int .i64 0, .slice none 0 0, .slice none 0 0].toArray 32 (0, 0)), (mb, mcO kb act D), (kb, oM)]) ++ [(sb, .cells [.string fk, .string fv, .int .i64 fr].toArray 144)]) (by apply perm_of_count; intro p; simp only [List.append_eq, List.countP_append, List.countP_cons, List.countP_nil, Nat.zero_add, Nat.add_zero]; try ac_rfl) ?_
          refine v_drop (List.sublist_append_left _ _) ?_
          exact v_again rfl ⟨rfl, k + 1, A5, c5, n5, by omega, rfl, by rw [htk, rowC_append]; simpa [rowC, Pr.cells] using g5, rfl⟩ (by simp [headI]; omega))
     · obtain rfl : k = s.pairs.length := by omega
       rw [List.take_length] at hgr
       have hP := fun (G2 : GH) h => row_of_grow Pr.len (l := s.pairs) (G' := G2) hgr h
       clear hgr hcp hsl hsome hlt
       refine v_frzP ν2 (List.Perm.refl _) ?_
       intro G2 hle2 hG2
       have hps := hP G2 hG2
       clear hP hG2
       repeat' (first | apply v_seq | apply v_region | apply v_nil | apply v_block | (apply v_exit; (case hp => rfl)) | (apply v_pure; (case hop => first | (apply p_move <;> rfl) | (apply p_lt <;> rfl) | (apply p_fieldAddrB <;> rfl) | (apply p_nilCheck <;> rfl) | fail); (case hd => rfl)) | (apply v_cond; (case hc => rfl); all_goals (intro h; (try simp only [reduceCtorEq, zzz] at h); first | (exfalso; omega) | skip)) | (apply v_read; (case hop => (apply r_loadN; rfl; exact mcArr hm.len (by repeat (first | exact mhd _ | apply mtl)); rw [rowC_length Ls.len, hm.len])); (case hd => rfl)) | fail)
       refine v_loop [54, 53, 3, 2] (fun us G' μ' => G' = G2 ∧ ∃ (k : Nat) (sA : Option Addr) (sc : Nat) (ν : OH), k ≤ 9 ∧ us = [Value.int .i64 (k : Nat), .agg (rowC Ls.cells D).toArray, .pointer (some ⟨b3, 0, none⟩), .pointer (some ⟨b2, 0, none⟩)] ∧ Grow 146 8 (.slice sA (sesK D k).length sc) (sesK D k).length (rowC Ss.cells (sesK D k)) ν ∧ μ' = ν ++ [(b3, .cells [.int .i64 s.schema, .slice pA s.pairs.length pc, .slice sA (sesK D k).length sc].toArray 32 (0, 0)), (b2, .cells [.int .i64 0, .slice none 0 0, .slice none 0 0].toArray 32 (0, 0)), (mb, mcO kb act D), (kb, oM)]) (fun us => 9 - (headI us).toNat) rfl ⟨rfl, 0, none, 0, [], by omega, rfl, Grow.nil _ _, rfl⟩ ?_
       rintro us G' _ ⟨hG', k, sA, sc, ν2, hk, rfl, hgr, rfl⟩
       subst G'
       have e1 : ((k : Nat) : Int).toNat = k := by omega
       by_cases hlt : k < 9
       · have hat : ((rowC Ls.cells D).drop (k * 7)).take 7 = (dAt D k).cells := by rw [rowC_at Ls.len D k (by rw [hm.len]; exact hlt), dAt_get (by rw [hm.len]; exact hlt)]
         have hsl : (sesK D k).length ≤ 9 := by
           have := sesK_len D k
           omega
         have hnx : sesK D (k + 1) = sesK D k ++ sesOne D k := rfl
         unfold sesOne at hnx
         generalize dAt D k = x at *
         obtain ⟨xq, ⟨ac, aq, ae, af, av, ar⟩⟩ := x
         simp only at hnx
         have hy : 0 < xq → (sesK D (k + 1)).length = (sesK D k).length + 1 ∧ rowC Ss.cells (sesK D (k + 1)) = rowC Ss.cells (sesK D k) ++ [.int .i64 (k : Nat), .int .i64 xq, .int .i64 ac, .int .i64 aq, .int .i64 ae, .bool af, .string av, .int .i64 ar] := fun h => by
           rw [hnx, if_pos h, rowC_append, List.length_append]
           exact ⟨rfl, by simp [rowC, Ss.cells, An.cells]⟩
         have hno : ¬ 0 < xq → sesK D (k + 1) = sesK D k := fun h => by rw [hnx, if_neg h, List.append_nil]
         clear hnx
         generalize hS0 : sesK D k = S0 at *
         repeat' (first | (apply v_alloc (d := 7); (case hz => rfl); (case hd => rfl); intro b7) | apply v_seq | apply v_region | apply v_nil | apply v_skip | apply v_block | apply v_blk | (apply v_pure; (case hop => first | (apply p_move <;> rfl) | (apply p_lt <;> rfl) | (apply p_gt <;> rfl) | (apply p_assign <;> rfl) | (apply p_fieldAddrB <;> rfl) | (apply p_add; (case hx => rfl); (case hy => rfl); (case h => omega)) | (apply p_build; (case hz => rfl); (case hv => (simp only [List.map_cons, List.map_nil]; repeat (first | with_reducible exact evs_nil | (apply evs_cons; (case h1 => rfl))))); (case hb => (apply bldL; repeat (first | exact bld_nil | (apply bld_cons; (case hpf => rfl); (case hc => rfl); (case hs => rfl); (case hl => rfl); (case ho => ((repeat (first | with_reducible exact ov_nil | apply ov_cons)); done))))))) | fail); (case hd => rfl)) | (apply v_cond; (case hc => rfl); all_goals (intro h; (try simp only [reduceCtorEq, zzz] at h); first | (exfalso; omega) | skip)) | (apply v_pure; (case hop => (apply p_indexN (us := Ls.cells ⟨xq, ⟨ac, aq, ae, af, av, ar⟩⟩); (case hx => rfl); (case hi => rfl); (case h => omega); (case hu => exact hat))); (case hd => rfl)) | (apply v_read; (case hop => first | (apply r_loadNo; (case hx => rfl); (case h => (repeat (exact mhd _))); (case hd => (repeat (first | with_reducible exact dt_nil | apply dt_here))); (case hn => rfl)) | (apply r_load1; rfl; (apply Cell.own; (case h => (repeat (first | exact mhd _ | apply mtl | apply List.mem_append_right))); rfl)) | fail); (case hd => rfl)) | (apply v_buildSlice; (case hz => rfl); (case hi => rfl); (case hv => (simp only [List.map_cons, List.map_nil]; repeat (first | with_reducible exact evs_nil | (apply evs_cons; (case h1 => rfl))))); (case hp => (apply pk_cons; (case hc => rfl); (case hs => rfl); (case h => (with_reducible exact pk_nil)); (case he => ((repeat (first | with_reducible exact ap_nil | apply ap_cons)); done)))); (case hb => rfl); (case hd => rfl); intro b) | (apply v_store; (case hp => rfl); (case hx => rfl); (case hc => rfl); (case hsz => rfl); (case h1 => rfl); (case hb => (repeat (exact mhd _))); (case hfit => exact nle rfl); (case hov => ((repeat (first | with_reducible exact ov_nil | apply ov_cons)); done)); (case hu => repeat (exact Upd.here _ _))) | fail)
         · obtain ⟨y1, y2⟩ := hy (by assumption)
           repeat' (first | apply v_region | apply v_nil | apply v_blk | (apply v_pure; (case hop => first | (apply p_move <;> rfl) | (apply p_fieldAddrB <;> rfl) | (apply p_add; (case hx => rfl); (case hy => rfl); (case h => omega)) | fail); (case hd => rfl)) | (apply v_append (hg := hgr) (m' := 1) (us := [.int .i64 (k : Nat), .int .i64 xq, .int .i64 ac, .int .i64 aq, .int .i64 ae, .bool af, .string av, .int .i64 ar]) (hp := PickA.perm (by repeat (first | exact PickA.here _ | apply PickA.cons))) (hsrc := Src.own (e := 146) (by repeat (exact mhd _)) rfl); (case hzs => rfl); (case hsz => omega); (case hs => rfl); (case hx => rfl); (case hb => omega); (case hb' => simp only [maxLen]; omega); (case hd => rfl); (case h1 => rfl); intro v3 n3 hg3; obtain ⟨A3, c3, rfl, -, -⟩ := hg3.shape) | (apply v_store; (case hp => rfl); (case hx => rfl); (case hc => rfl); (case hsz => rfl); (case h1 => rfl); (case hb => (repeat (first | exact mhd _ | apply mtl | apply List.mem_append_right))); (case hfit => exact nle rfl); (case hov => ((repeat (first | with_reducible exact ov_nil | apply ov_cons)); done)); (case hu => repeat (first | exact Upd.here _ _ | apply Upd.there | apply Upd.app))) | fail)
           refine v_perm (ν := (n3 ++ [(b3, .cells [.int .i64 s.schema, .slice pA s.pairs.length pc, .slice A3 (S0.length + 1) c3].toArray 32 (0, 0)), (b2, .cells [.int .i64 0, .slice none 0 0, .slice none 0 0].toArray 32 (0, 0)), (mb, mcO kb act D), (kb, oM)]) ++ [(b, _), (b7, _)]) (by apply perm_of_count; intro p; simp only [List.append_eq, List.countP_append, List.countP_cons, List.countP_nil, Nat.zero_add, Nat.add_zero]; try ac_rfl) ?_
           refine v_drop (List.sublist_append_left _ _) ?_
           exact v_again rfl ⟨rfl, k + 1, A3, c3, n3, by omega, rfl, by rw [y1, y2]; exact hg3, by rw [y1]⟩ (by simp [headI]; omega)
         · have y := hno (by assumption)
           refine v_perm (ν := (ν2 ++ [(b3, .cells [.int .i64 s.schema, .slice pA s.pairs.length pc, .slice sA S0.length sc].toArray 32 (0, 0)), (b2, .cells [.int .i64 0, .slice none 0 0, .slice none 0 0].toArray 32 (0, 0)), (mb, mcO kb act D), (kb, oM)]) ++ [(b7, _)]) (by apply perm_of_count; intro p; simp only [List.append_eq, List.countP_append, List.countP_cons, List.countP_nil, Nat.zero_add, Nat.add_zero]; try ac_rfl) ?_
           refine v_drop (List.sublist_append_left _ _) ?_
           exact v_again rfl ⟨rfl, k + 1, sA, sc, ν2, by omega, rfl, by rw [y]; exact hgr, by rw [y]⟩ (by simp [headI]; omega)
       · obtain rfl : k = 9 := by omega
         rw [← hm.ses] at hgr ⊢
         have hQ := fun (G2 : GH) h => row_of_grow Ss.len (l := s.sess) (G' := G2) hgr h
         refine v_frzP ν2 (List.Perm.refl _) ?_
         intro G3 hle3 hG3
         have hss := hQ G3 hG3
         repeat' (first | apply v_seq | apply v_region | apply v_nil | (apply v_exit; (case hp => rfl)) | (apply v_pure; (case hop => (apply p_lt <;> rfl)); (case hd => rfl)) | (apply v_cond; (case hc => rfl); all_goals (intro h; (try simp only [reduceCtorEq, zzz] at h); first | (exfalso; omega) | skip)) | (apply v_read; (case hop => (apply r_loadNo; (case hx => rfl); (case h => (repeat (exact mhd _))); (case hd => (repeat (first | with_reducible exact dt_nil | apply dt_here))); (case hn => rfl))); (case hd => rfl)) | (apply v_store; (case hp => rfl); (case hx => rfl); (case hc => rfl); (case hsz => rfl); (case h1 => rfl); (case hb => (repeat (first | exact mhd _ | apply mtl))); (case hfit => exact nle rfl); (case hov => ((repeat (first | with_reducible exact ov_nil | apply ov_cons)); done)); (case hu => repeat (first | exact Upd.here _ _ | apply Upd.there))) | fail)
         refine v_perm (ν := [(mb, mcO kb act D), (kb, oM), (b3, _), (b2, .cells [.int .i64 s.schema, .slice pA s.pairs.length pc, .slice sA s.sess.length sc].toArray 32 (0, 0))]) (by apply perm_of_count; intro p; simp only [List.append_eq, List.countP_append, List.countP_cons, List.countP_nil, Nat.zero_add, Nat.add_zero]; try ac_rfl) ?_
         refine v_retM [(mb, mcO kb act D), (kb, oM)] (outsM_cell (sz := 3) (vs := [.int .i64 s.schema, .slice pA s.pairs.length pc, .slice sA s.sess.length sc]) (e := 32) rfl rfl (by repeat (first | exact mhd _ | apply mtl)) rfl) (by repeat (first | exact List.nil_sublist _ | apply List.Sublist.cons_cons)) ⟨⟨pA, pc, sA, sc, rfl, hps.mono hle3, hss⟩, rfl⟩)
end Go.Proofs.YtmdeeokejdkceaaGreatDoor
/-
  app's law (layer 28): awake.
-/
set_option linter.unusedSimpArgs false
set_option linter.unusedVariables false
namespace Go.Proofs.YtmdeeokejdkceaaGreatDoor
open Go.Vx Go.ChangeShapes Go.WideShapes Go.ChangeAt Go.RowKit
theorem empty_s (G : GH) : Con Tryz.prog 14 #[] G [] (Just (.agg [.int .i64 1, .slice none 0 0, .slice none 0 0].toArray) G) := by
  apply Con.just
  (refine v_enter Tryz.func14 rfl Tryz.ntmps14 rfl ?_; intro B _)
  repeat' (first | (apply v_alloc (d := 0); (case hz => rfl); (case hd => rfl); intro b0) | apply v_seq | apply v_region | apply v_nil | apply v_skip | apply v_block | apply v_blk | (apply v_exit; (case hp => rfl)) | (apply v_take; (case hg => rfl)) | (apply v_pass; (case hg => rfl); (case hn => rfl); (case hd => rfl)) | (apply v_passN; (case hg => rfl); (case hn => rfl); (case hd => rfl)) | (apply v_pure; (case hop => (apply p_build; (case hz => rfl); (case hv => (simp only [List.map_cons, List.map_nil]; repeat (first | with_reducible exact evs_nil | (apply evs_cons; (case h1 => rfl))))); (case hb => (apply bldL; repeat (first | exact bld_nil | (apply bld_cons; (case hpf => rfl); (case hc => rfl); (case hs => rfl); (case hl => rfl); (case ho => (first | ((repeat (first | with_reducible exact ov_nil | apply ov_cons | apply ov_there)); done) | rfl)))))))); (case hd => rfl)) | (apply v_condT; (case hc => rfl)) | (apply v_condF; (case hc => rfl)) | (apply v_cond; (case hc => rfl); all_goals (intro h; (try simp only [reduceCtorEq, zzz] at h); first | done | (exfalso; omega) | (exfalso; exact h (by with_reducible assumption)) | (exfalso; revert h; rw [imp_false]; with_reducible assumption) | skip)) | (apply v_guardB; (case h1 => rfl); (case h2 => rfl); all_goals (intro h; (try simp only [reduceCtorEq, zzz] at h); first | done | (exfalso; omega) | (exfalso; exact h (by with_reducible assumption)) | (exfalso; revert h; rw [imp_false]; with_reducible assumption) | skip)) | (apply v_alloc; (case hz => rfl); (case hd => rfl); intro b) | (apply v_store; (case hp => rfl); (case hx => rfl); (case hc => rfl); (case hsz => rfl); (case h1 => rfl); (case hb => (repeat (first | exact mhd _ | apply mtl | apply List.mem_append_right))); (case hfit => first | exact nle rfl | (simp; omega)); (case hov => (first | ((repeat (first | with_reducible exact ov_nil | apply ov_cons | apply ov_there)); done) | rfl)); (case hu => repeat (first | exact Upd.here _ _ | apply Upd.there | apply Upd.app))) | fail)
  refine v_retM [] (outsM_cell (sz := 3) (vs := [.int .i64 1, .slice none 0 0, .slice none 0 0]) (e := 32) rfl rfl (by (repeat (first | exact mhd _ | apply mtl))) rfl) (List.nil_sublist _) ⟨rfl, rfl⟩
theorem emp_v (G : GH) : StV G emp (.agg [.int .i64 1, .slice none 0 0, .slice none 0 0].toArray) := by
  refine ⟨none, 0, none, 0, rfl, ?_, ?_⟩
  · exact row_of_grow Pr.len (Grow.nil 144 3) (fun b o h => by cases h)
  · exact row_of_grow Ss.len (Grow.nil 146 8) (fun b o h => by cases h)
section
attribute [local semireducible] Vc DVc Con PureOp ReadOp MoveOp
theorem Con.give {P : Program} {f : FuncId} {args : Array Value} {G : GH} {ν : OH} {Ψ : Value → GH → OH → Prop} (h : ∀ G', GH.le G G' → (∀ b o, (b, o) ∈ ν → G' b = some o) → Con P f args G' [] Ψ) : Con P f args G ν Ψ := by
  intro w hw
  have s1 : Step G ν w G (ν ++ []) w := by rw [List.append_nil]; exact Step.refl hw
  have s2 := s1.freeze
  have hn := s1.mem.nodup
  rw [List.append_nil] at hn
  refine (h _ (GH.le_put _ _) (fun b o hb => GH.put_mem hn (hw.apart b o hb) hb) w s2.mem).mono fun v w' ⟨G', μ', hs, hΦ⟩ => ⟨G', μ', s2.trans hs, hΦ⟩
end
theorem madeC {G : GH} {l : List Cm} {b : Nat} (h : l.length ≤ 200) (hb : G b = some (.cells (rowC Cm.cells l).toArray 28 (0, 0))) : Cms G (.slice (some ⟨b, 0, none⟩) l.length l.length) l := by
  have hg : Grow 28 7 (.slice (some ⟨b, 0, none⟩) l.length l.length) l.length (rowC Cm.cells l) [(b, .cells (rowC Cm.cells l).toArray 28 (0, 0))] :=
    ⟨rowC_length Cm.len l, .inr ⟨b, l.length, [], rfl, by rw [List.append_nil], Nat.le_refl _, by simp only [maxLen]; omega, by rw [List.append_nil]; exact rowC_length Cm.len l⟩⟩
  exact row_of_grow Cm.len hg (fun b' o h => by simp only [List.mem_singleton] at h; cases h; exact hb)
end Go.Proofs.YtmdeeokejdkceaaGreatDoor
/-
  spec (layer 29): Answers; awake.
-/
set_option linter.unusedSimpArgs false
set_option linter.unusedVariables false
namespace Go.Proofs.YtmdeeokejdkceaaGreatDoor
open Go.Vx Go.ChangeShapes Go.WideShapes Go.ChangeAt Go.RowKit
noncomputable def specA (s : St) (acc : List An) : List Cm → St × List An
  | [] => (s, acc)
  | c :: l => specA (specS s c).1 (acc ++ [(specS s c).2]) l
set_option maxHeartbeats 2000000 in
theorem answers_s {G : GH} (hT : TabsG G) {lv : Value} {l : List Cm} (hl : Cms G lv l) (hlw : CmsW l) :
    Con Tryz.prog 18 #[lv] G [] (fun r G' μ' => GrA r (specA emp [] l).2 μ') := by
  have hq := mnew_s G
  obtain ⟨LA, lc, rfl, hlc, hcm, hsome, hcp⟩ := rowOpen hl
  simp only [maxLen] at hcm
  (refine v_enter Tryz.func18 rfl Tryz.ntmps18 rfl ?_; intro B _)
  repeat' (first | apply v_seq | apply v_region | apply v_nil | (apply v_pure; (case hop => (apply p_assign <;> rfl)); (case hd => rfl)) | fail)
  refine v_call (μ1 := []) rfl hq (List.Perm.refl _) rfl ?_
  rintro _ G1 _ - ⟨hG1, mb, kb, rfl, rfl⟩
  subst G1
  repeat' (first | apply v_seq | apply v_region | apply v_nil | apply v_block | (apply v_pure; (case hop => first | (apply p_move <;> rfl) | (apply p_assign <;> rfl) | (apply p_lenSlice <;> rfl) | fail); (case hd => rfl)) | fail)
  refine v_loop [10, 9, 8, 4, 3] (fun us G' μ' => GH.le G G' ∧ ∃ (k : Nat) (s1 : St) (D : List Ls) (oM : Obj) (acc : List An) (av : Value) (ν : OH), k ≤ l.length ∧ us = [Value.int .i64 (k : Nat), .int .i64 (l.length : Nat), .slice LA l.length lc, av, .pointer (some ⟨mb, 0, none⟩)] ∧ μ' = (mb, mcO kb (decide (s1.schema = 2)) D) :: (kb, oM) :: ν ∧ GrA av acc ν ∧ StP s1 ∧ MachR s1 D ∧ MapP s1.pairs oM ∧ acc.length ≤ k ∧ specA emp [] l = specA s1 acc (l.drop k)) (fun us => l.length - (headI us).toNat) rfl ⟨GH.le_refl _, 0, emp, D0, _, [], .slice none 0 0, [], by omega, rfl, rfl, Grow.nil _ _, emp_ok, mach0, map0, Nat.le_refl _, rfl⟩ ?_
  rintro us G' _ ⟨hle, k, s1, D, oM, acc, av, ν, hk, rfl, rfl, hga, hok1, hm1, hM1, hak, hrun⟩
  have hn := hlw.1
  have hT' := hT.up hle
  by_cases hlt : k < l.length
  · have e1 : ((k : Nat) : Int).toNat = k := by omega
    have hA := hsome (by omega)
    obtain ⟨-, -, -, -, -, -, hcp'⟩ := rowOpen' (hl.mono hle)
    have hck := hcp' k hlt
    obtain ⟨hxo, hxw⟩ := hlw.2 _ (List.getElem_mem hlt)
    have hdo := mdo_s hT' (mb := mb) (kb := kb) (l[k]) hok1 hm1 hM1 hxo hxw.2
    have hkp : StP (specS s1 l[k]).1 := specS_ok hok1
    have hnx : specA emp [] l = specA (specS s1 l[k]).1 (acc ++ [(specS s1 l[k]).2]) (l.drop (k + 1)) := by
      rw [hrun, List.drop_eq_getElem_cons hlt]; rfl
    rw [hnx]
    clear hrun hxo hxw
    generalize specS s1 l[k] = ap at *
    obtain ⟨s5, ⟨ac, aq, ae, af, av5, ar⟩⟩ := ap
    generalize l[k] = x at *
    obtain ⟨kind, cl, seq, key, val, old, node⟩ := x
    simp only at *
    repeat' (first | (apply v_read; (case hop => (apply r_loadN; rfl; exact CellsAt.frozen hck; rfl)); (case hd => rfl)) | (apply v_alloc (d := 6); (case hz => rfl); (case hd => rfl); intro b6) | (apply v_read; (case hop => (apply r_loadNo; (case hx => rfl); (case h => repeat (exact mhd _)); (case hd => rfl); (case hn => rfl))); (case hd => rfl)) | apply v_seq | apply v_region | apply v_nil | apply v_skip | apply v_block | (apply v_pure; (case hop => first | (apply p_move <;> rfl) | (apply p_lt <;> rfl) | (apply p_indexAddrS; (case hx => rfl); (case hi => rfl); (case h0 => omega); (case h => omega); (case hA => assumption)) | fail); (case hd => rfl)) | (apply v_cond; (case hc => rfl); all_goals (intro h; (try simp only [reduceCtorEq, zzz] at h); first | (exfalso; omega) | skip)) | (apply v_store; (case hp => rfl); (case hx => rfl); (case hc => rfl); (case hsz => rfl); (case h1 => rfl); (case hb => (repeat (exact mhd _))); (case hfit => exact nle rfl); (case hov => ((repeat (first | with_reducible exact ov_nil | apply ov_cons)); done)); (case hu => repeat (exact Upd.here _ _))) | fail)
    refine v_call (μ1 := [(mb, mcO kb (decide (s1.schema = 2)) D), (kb, oM)]) rfl hdo (PickA.perm (by repeat (first | exact PickA.here _ | apply PickA.cons))) rfl ?_
    rintro _ G5 _ hle5 ⟨D2, oM2, rfl, hm2, hM2, rfl⟩
    repeat' (first | apply v_region | apply v_nil | apply v_blk | (apply v_pure; (case hop => first | (apply p_move <;> rfl) | (apply p_assign <;> rfl) | (apply p_add; (case hx => rfl); (case hy => rfl); (case h => omega)) | fail); (case hd => rfl)) | (apply v_append (hg := hga) (m' := 1) (us := An.cells ⟨ac, aq, ae, af, av5, ar⟩) (hp := PickA.perm (by repeat (first | exact PickA.last | apply PickA.cons))) (hsrc := Src.own (e := 40) (by repeat (exact mhd _)) rfl); (case hzs => rfl); (case hsz => omega); (case hs => rfl); (case hx => rfl); (case hb => omega); (case hb' => simp only [maxLen]; omega); (case hd => rfl); (case h1 => rfl); intro v3 n3 hg3) | (apply v_buildSlice; (case hz => rfl); (case hi => rfl); (case hv => (simp only [List.map_cons, List.map_nil]; repeat (first | with_reducible exact evs_nil | (apply evs_cons; (case h1 => rfl))))); (case hp => (apply pk_cons; (case hc => rfl); (case hs => rfl); (case h => (with_reducible exact pk_nil)); (case he => ((repeat (first | with_reducible exact ap_nil | apply ap_cons)); done)))); (case hb => rfl); (case hd => rfl); intro b) | fail)
    have hga' := GrA.snoc hg3
    refine v_perm (ν := ((mb, mcO kb (decide (s5.schema = 2)) D2) :: (kb, oM2) :: n3) ++ [(b, _), (b6, _)]) (by apply perm_of_count; intro p; simp only [List.append_eq, List.countP_append, List.countP_cons, List.countP_nil, Nat.zero_add, Nat.add_zero]; try ac_rfl) ?_
    refine v_drop (List.sublist_append_left _ _) ?_
    exact v_again rfl ⟨GH.le_trans hle hle5, k + 1, s5, D2, oM2, _, v3, n3, by omega, rfl, rfl, hga', hkp, hm2, hM2, by rw [List.length_append, List.length_singleton]; omega, rfl⟩ (by simp [headI]; omega)
  · obtain rfl : k = l.length := by omega
    rw [hrun, List.drop_length]
    repeat' (first | apply v_seq | apply v_region | apply v_nil | (apply v_exit; (case hp => rfl)) | (apply v_pure; (case hop => first | (apply p_move <;> rfl) | (apply p_lt <;> rfl) | (apply p_assign <;> rfl) | fail); (case hd => rfl)) | (apply v_cond; (case hc => rfl); all_goals (intro h; (try simp only [reduceCtorEq, zzz] at h); first | (exfalso; omega) | skip)) | fail)
    refine v_ret ν (outsA1 rfl rfl) (List.Sublist.cons _ (List.Sublist.cons _ (List.Sublist.refl _))) hga
abbrev k1 : ByteArray := ⟨#[49]⟩
abbrev xc1 : Cm := ⟨2, 1, 1, kA, k1, ByteArray.empty, 0⟩
abbrev xc2 : Cm := ⟨3, 2, 1, kA, ByteArray.empty, ByteArray.empty, 0⟩
theorem val1 : valB k1 = true := by
  unfold valB
  have h0 : k1.size = 1 := rfl
  simp only [Bool.and_eq_true, decide_eq_true_eq, h0]
  refine ⟨⟨by omega, by decide +kernel⟩, fun i hi => ?_⟩
  obtain rfl : i = 0 := by omega
  decide +kernel
theorem xc1_ok : cmdI xc1 = 0 := by
  rw [cmdI_eq]
  unfold cmdE
  simp [keyA, val1, valB_empty]
theorem xc2_ok : cmdI xc2 = 0 := by
  rw [cmdI_eq]
  unfold cmdE
  simp [keyA, valB_empty]
abbrev xs1 : St := ⟨1, [⟨kA, k1, 0⟩], [⟨1, 1, ⟨1, 1, 0, false, ByteArray.empty, 0⟩⟩]⟩
theorem xrun1 : specS emp xc1 = (xs1, ⟨1, 1, 0, false, ByteArray.empty, 0⟩) := by
  unfold specS applyS clientS
  rw [xc1_ok]
  simp only [which_nil]
  have hP : HasP 1 2 := ⟨.inl rfl, by decide, by decide, fun h => absurd h (by decide)⟩
  simp [verS, doS, doOne, roomB, hitG, placeG, withG, sesOf, ans0, findP, zeroPr]
  exact ⟨by rw [if_pos hP], by rw [if_pos hP]⟩
theorem xrun2 : (specS xs1 xc2).2 = ⟨2, 1, 0, true, k1, 0⟩ := by
  have hw : whichS xs1.sess 2 1 = (0, zA) := by
    unfold whichS
    rw [if_pos (by decide)]
  have hP : HasP 1 3 := ⟨.inl rfl, by decide, by decide, fun h => absurd h (by decide)⟩
  have hr : RiseW ksP xs1.pairs := List.pairwise_singleton _ _
  have hh : hitG ksP xs1.pairs (kn xc2.key) = true := (hit_iff hr).2 ⟨⟨kA, k1, 0⟩, List.mem_singleton.2 rfl, rfl⟩
  have hf : findP xs1.pairs (kn xc2.key) = ⟨kA, k1, 0⟩ := findP_at (l := xs1.pairs) (i := 0) hr (by decide)
  have hd : (doS 1 xs1.pairs xc2).2 = ⟨2, 1, 0, true, k1, 0⟩ := by
    unfold doS
    rw [if_pos rfl]
    unfold doOne
    rw [if_neg (by decide), if_pos rfl, hh, hf]
    rfl
  have hc : (clientS xs1 xc2).2 = ⟨2, 1, 0, true, k1, 0⟩ := by
    unfold clientS
    rw [show whichS xs1.sess xc2.client xc2.seq = (0, zA) from hw, if_neg (by decide), if_neg (by decide), if_pos (show HasP (verS xs1.schema) xc2.kind from hP)]
    exact hd
  unfold specS applyS
  rw [xc2_ok, if_neg (by simp), if_neg (by simp), if_pos (by decide)]
  exact hc
theorem xrun : (specA emp [] [xc1, xc2]).2 = [⟨1, 1, 0, false, ByteArray.empty, 0⟩, ⟨2, 1, 0, true, k1, 0⟩] := by
  show [(specS emp xc1).2, (specS (specS emp xc1).1 xc2).2] = _
  rw [xrun1, xrun2]
theorem awake29_s {G : GH} (hT : TabsG G) : Con Tryz.prog 11 #[] G [] (fun r G' μ' => r = .bool true ∧ μ' = []) := by
  have hlw : CmsW [xc1, xc2] := ⟨by decide, fun c hc => by
    have h1 : xc1.ok ∧ CmW xc1 := ⟨⟨by decide, by decide, by decide, by decide, by decide, by decide, by decide⟩, by decide, by decide⟩
    have h2 : xc2.ok ∧ CmW xc2 := ⟨⟨by decide, by decide, by decide, by decide, by decide, by decide, by decide⟩, by decide, by decide⟩
    simp only [List.mem_cons, List.not_mem_nil, or_false] at hc
    rcases hc with rfl | rfl
    · exact h1
    · exact h2⟩
  have qr := fun G' (h : TabsG G') b (hb : G' b = some (.cells (rowC Cm.cells [xc1, xc2]).toArray 28 (0, 0))) => answers_s (lv := .slice (some ⟨b, 0, none⟩) 2 2) (l := [xc1, xc2]) h (madeC (l := [xc1, xc2]) (by decide) hb) hlw
  rw [xrun] at qr
  have qg := fun b => Con.give (fun G' hle hG => qr G' (hT.up hle) b (hG _ _ (List.Mem.head _))) (G := G) (ν := [(b, .cells (rowC Cm.cells [xc1, xc2]).toArray 28 (0, 0))])
  (refine v_enter Tryz.func11 rfl Tryz.ntmps11 rfl ?_; intro B _)
  repeat' (first | apply v_seq | apply v_region | apply v_nil | (apply v_pure; (case hop => first | (apply p_assign <;> rfl) | (apply p_build; (case hz => rfl); (case hv => (simp only [List.map_cons, List.map_nil]; repeat (first | with_reducible exact evs_nil | (apply evs_cons; (case h1 => rfl))))); (case hb => (apply bldL; repeat (first | exact bld_nil | (apply bld_cons; (case hpf => rfl); (case hc => rfl); (case hs => rfl); (case hl => rfl); (case ho => ((repeat (first | with_reducible exact ov_nil | apply ov_cons)); done))))))) | fail); (case hd => rfl)) | (apply v_buildSlice; (case hz => rfl); (case hi => rfl); (case hv => (simp only [List.map_cons, List.map_nil]; repeat (first | with_reducible exact evs_nil | (apply evs_cons; (case h1 => rfl))))); (case hp => (apply pk_cons; (case hc => rfl); (case hs => rfl); (case h => (apply pk_cons; (case hc => rfl); (case hs => rfl); (case h => (with_reducible exact pk_nil)); (case he => ((repeat (first | with_reducible exact ap_nil | apply ap_cons)); done)))); (case he => ((repeat (first | with_reducible exact ap_nil | apply ap_cons)); done)))); (case hb => rfl); (case hd => rfl); intro b) | fail)
  refine v_call (vs := [.slice (some ⟨b, 0, none⟩) 2 2]) (μ1 := [(b, .cells (rowC Cm.cells [xc1, xc2]).toArray 28 (0, 0))]) (μ2 := []) rfl (qg b) (List.Perm.refl _) rfl ?_
  rintro r G2 ν2 hle2 hg2
  refine v_frzP ν2 (List.Perm.refl _) ?_
  intro G3 hle3 hG3
  obtain ⟨A7, c7, e7, hlc7, hcm7, hsome7, hcp7⟩ := rowOpen (row_of_grow An.len hg2 hG3)
  have e8 : r = .slice A7 2 c7 := e7
  subst e8
  clear e7 hg2
  have hA7 := hsome7 (by decide)
  have h3 := (hcp7 1 (by decide)).cell (j := 3) rfl
  have h4 := (hcp7 1 (by decide)).cell (j := 4) rfl
  repeat' (first | apply v_seq | apply v_region | apply v_nil | (apply v_take; (case hg => rfl)) | (apply v_pure; (case hop => first | (apply p_move <;> rfl) | (apply p_eqs <;> rfl) | (apply p_assign <;> rfl) | (apply p_pickT <;> rfl) | (apply p_lenSlice <;> rfl) | (apply p_fieldAddrB <;> rfl) | (apply p_indexAddrS; (case hx => rfl); (case hi => rfl); (case h0 => omega); (case h => omega); (case hA => assumption)) | (apply p_eqS <;> rfl) | fail); (case hd => rfl)) | (apply v_read; (case hop => first | (apply r_load1; rfl; exact Cell.frozen h3) | (apply r_load1; rfl; exact Cell.frozen h4)); (case hd => rfl)) | fail)
  all_goals
    (refine v_ret [] (outsA1 rfl rfl) (List.nil_sublist _) ⟨?_, rfl⟩
     first
       | rfl
       | (congr 1; exact dec_pos rfl))
def CmR (c : Cm) (cs : List Value) : Prop := cs = c.cells ∧ c.ok
theorem el_cm {H : Type} {enc : TypeId × Value → H} {W : World} : Elem enc Tryz.prog W 28 CmR := by
  intro fuel cs x hf
  have h1 := el_flen (n := 7) Tryz.underlying28 (by kernel_rfl) hf
  obtain ⟨a0, h0, w0⟩ := el_fld (i := 0) (sz := 1) (by kernel_rfl) (el_int Tryz.underlying3) hf
  obtain ⟨a1, e1, w1⟩ := el_fld (i := 1) (sz := 1) (by kernel_rfl) (el_int Tryz.underlying3) hf
  obtain ⟨a2, e2, w2⟩ := el_fld (i := 2) (sz := 1) (by kernel_rfl) (el_int Tryz.underlying3) hf
  obtain ⟨a3, e3, w3⟩ := el_fld (i := 3) (sz := 1) (by kernel_rfl) (el_string Tryz.underlying9) hf
  obtain ⟨a4, e4, w4⟩ := el_fld (i := 4) (sz := 1) (by kernel_rfl) (el_string Tryz.underlying9) hf
  obtain ⟨a5, e5, w5⟩ := el_fld (i := 5) (sz := 1) (by kernel_rfl) (el_string Tryz.underlying9) hf
  obtain ⟨a6, e6, w6⟩ := el_fld (i := 6) (sz := 1) (by kernel_rfl) (el_int Tryz.underlying3) hf
  match cs, h1 with
  | [c0, c1, c2, c3, c4, c5, c6], _ =>
    simp only [List.drop_succ_cons, List.drop_zero, List.take_succ_cons, List.take_zero, List.cons.injEq, and_true] at h0 e1 e2 e3 e4 e5 e6
    exact ⟨⟨a0, a1, a2, a3, a4, a5, a6⟩, by rw [h0, e1, e2, e3, e4, e5, e6]; rfl, w0, w1, w2, w3, w4, w5, w6⟩
set_option maxRecDepth 100000 in
theorem arg_t22 {H : Type} {enc : TypeId × Value → H} {W : World} {base : Nat} {v : Value} {d : DataW H} {p : List MemPlace} (hv : Value.okWide Tryz.prog W .any base 22 v) (h : DataW.Trod enc Tryz.prog W 0 (fun _ => true) true 22 v d p) : ∃ l : List Cm, Sl (ghost W) 7 CmR v l :=
  arg_slice Tryz.underlying22 (by kernel_rfl) el_cm hv h
theorem cms_of {G : GH} {v : Value} {l : List Cm} (h : Sl G 7 CmR v l) : Cms G v l ∧ ∀ c ∈ l, c.ok := by
  obtain ⟨A, c, rfl, h1, h2, h3, h4⟩ := h.open
  refine ⟨Sl.le h (GH.le_refl _) (fun _ _ hx => hx.1), fun x hx => ?_⟩
  obtain ⟨i, hi, rfl⟩ := List.getElem_of_mem hx
  obtain ⟨cs, _, h5, h6⟩ := h4 i _ (List.getElem?_eq_getElem hi)
  exact h5.2
theorem firstEq : (Rows.laid_unicode_utf8_first : DataW Unit) = Lib.firstData := by kernel_rfl
theorem acceptEq : (Rows.laid_unicode_utf8_acceptRanges : DataW Unit) = Lib.acceptData := by kernel_rfl
abbrev tabsLaid : List (String × DataW Unit) := [("unicode/utf8.acceptRanges", Rows.laid_unicode_utf8_acceptRanges), ("unicode/utf8.first", Rows.laid_unicode_utf8_first)]
theorem tabs_plain : (tabsLaid.all fun x => x.2.handleName?.isNone) = true := by kernel_rfl
theorem tabs_of_laid {W : World} (hL : laidMetH Tryz.prog tabsLaid W) : TabsG (ghost W) := by
  rw [MakeChecks.laidMetH_plain _ _ _ tabs_plain] at hL
  have r1 := Lib.laidMet.reads hL (.tail _ (.head _))
  have r2 := Lib.laidMet.reads hL (.head _)
  rw [firstEq] at r1
  rw [acceptEq] at r2
  have hU := utf8Tabs_of_readsT (ρ := laysDecode_ren) { laysDecode with } ⟨by kernel_rfl, by kernel_rfl, by kernel_rfl, by kernel_rfl, by kernel_rfl, by kernel_rfl, by kernel_rfl⟩ r1 r2
  clear hL r1 r2
  intro w hw
  have lift : ∀ (a : Addr) v, W.cell? a = some v → w.cell? a = some v := by
    intro a v h
    unfold World.cell? at h ⊢
    cases hb : W.heap[a.block]? with
    | none => rw [hb] at h; simp at h
    | some o => rw [hw _ _ hb]; rw [hb] at h; exact h
  exact ⟨fun c hc => lift _ _ (hU.1 c hc), fun i hi => ⟨lift _ _ (hU.2 i hi).1, lift _ _ (hU.2 i hi).2⟩⟩
theorem runA_spec : ∀ (l : List Cm) (s : St) (acc : List An), (∀ c ∈ l, cmdI c = 0) → runA s acc l = ((specA s acc l).1, (specA s acc l).2, 0)
  | [], _, _, _ => rfl
  | c :: l, s, acc, h => by
    have h0 := h c (List.mem_cons_self ..)
    have e : specS s c = ((applyS s c).1, (applyS s c).2.1) := by unfold specS; rw [if_neg (by simp [h0])]
    show (if (applyS s c).2.2 ≠ 0 then _ else _) = _
    rw [applyS_err, if_neg (by simp [h0]), runA_spec l _ _ fun x hx => h x (List.mem_cons_of_mem _ hx)]
    show _ = ((specA (specS s c).1 (acc ++ [(specS s c).2]) l).1, (specA (specS s c).1 (acc ++ [(specS s c).2]) l).2, 0)
    rw [e]
set_option maxHeartbeats 4000000 in
theorem specApp_law {W : World} {v0 : Value} (hT : TabsG (ghost W)) (g0 : ∃ l : List Cm, Sl (ghost W) 7 CmR v0 l) : LawCon Tryz.prog 3 #[v0] W := by
  obtain ⟨l, hl0⟩ := g0
  obtain ⟨hl, hok⟩ := cms_of hl0
  unfold LawCon
  generalize ghost W = G at *
  have q2 := lg28_s hl
  have qa := fun G' (h : GH.le G G') => awake29_s (hT.up h)
  obtain ⟨LA, lc, rfl, hlc, hcm, hsome, hcp⟩ := rowOpen hl
  simp only [maxLen] at hcm
  (refine v_enter Tryz.func3 rfl Tryz.ntmps3 rfl ?_; intro B _)
  repeat' (first | apply v_seq | apply v_region | apply v_nil | (apply v_pure; (case hop => first | (apply p_move <;> rfl) | (apply p_assign <;> rfl) | fail); (case hd => rfl)) | fail)
  refine v_call (μ1 := []) rfl q2 (List.Perm.refl _) rfl ?_
  rintro _ G1 _ - ⟨hG1, rfl, b1, rfl, h1⟩
  subst G1
  cases b1 with
  | true =>
    repeat' (first | apply v_seq | apply v_region | apply v_nil | (apply v_condT; (case hc => rfl)) | fail)
    refine v_call (μ1 := []) rfl (qa _ (GH.le_refl _)) (List.Perm.refl _) rfl ?_
    rintro _ G9 _ - ⟨rfl, rfl⟩
    repeat' (first | apply v_nil | (apply v_pure; (case hop => (apply p_assign <;> rfl)); (case hd => rfl)) | fail)
    refine v_ret [] (outsA1 rfl rfl) (by repeat (exact List.Sublist.refl _)) ?_
    rfl
  | false =>
    have hcs := h1 rfl
    have hlw : CmsW l := ⟨by have := hcs.1; omega, fun c hc => ⟨hok c hc, (hcs.2 c hc).1, (hcs.2 c hc).2.1⟩⟩
    have hn := hcs.1
    repeat' (first | apply v_seq | apply v_region | apply v_nil | apply v_skip | apply v_block | (apply v_pure; (case hop => (apply p_assign <;> rfl)); (case hd => rfl)) | (apply v_condF; (case hc => rfl)) | fail)
    refine v_loop [3, 0] (fun us G' μ' => GH.le G G' ∧ μ' = [] ∧ ∃ (k : Nat), k ≤ l.length ∧ us = [Value.int .i64 (k : Nat), .slice LA l.length lc] ∧ ∀ c ∈ l.take k, cmdI c = 0) (fun us => l.length - (headI us).toNat) rfl ⟨GH.le_refl _, rfl, 0, by omega, rfl, by simp⟩ ?_
    rintro us G' _ ⟨hle, rfl, k, hk, rfl, hz⟩
    have e1 : ((k : Nat) : Int).toNat = k := by omega
    by_cases hlt : k < l.length
    · have hA := hsome (by omega)
      obtain ⟨-, -, -, -, -, -, hcp'⟩ := rowOpen' (hl.mono hle)
      have hck := hcp' k hlt
      have hcc := refCmdCheck_s (G := G') (l[k]) (hlw.2 _ (List.getElem_mem hlt)).1
      have hzn : cmdI l[k] = 0 → ∀ c ∈ l.take (k + 1), cmdI c = 0 := fun h c hc => by
        rw [List.take_succ_eq_append_getElem hlt] at hc
        rcases List.mem_append.1 hc with hc | hc
        · exact hz c hc
        · rw [List.mem_singleton] at hc; subst hc; exact h
      generalize l[k] = x at *
      generalize cmdI x = ci at *
      obtain ⟨kind, cl, seq, key, val, old, node⟩ := x
      simp only at *
      repeat' (first | (apply v_read; (case hop => (apply r_loadN; rfl; exact CellsAt.frozen hck; rfl)); (case hd => rfl)) | apply v_seq | apply v_region | apply v_nil | apply v_skip | apply v_block | (apply v_pure; (case hop => first | (apply p_move <;> rfl) | (apply p_lt <;> rfl) | (apply p_lenSlice <;> rfl) | (apply p_indexAddrS; (case hx => rfl); (case hi => rfl); (case h0 => omega); (case h => omega); (case hA => assumption)) | fail); (case hd => rfl)) | (apply v_cond; (case hc => rfl); all_goals (intro h; (try simp only [reduceCtorEq, zzz] at h); first | (exfalso; omega) | skip)) | fail)
      refine v_call (μ1 := []) rfl hcc (List.Perm.refl _) rfl ?_
      rintro _ G5 _ hle5 ⟨rfl, rfl⟩
      repeat' (first | apply v_seq | apply v_region | apply v_nil | apply v_skip | apply v_blk | (apply v_pure; (case hop => first | (apply p_move <;> rfl) | (apply p_ne <;> rfl) | (apply p_assign <;> rfl) | (apply p_add; (case hx => rfl); (case hy => rfl); (case h => omega)) | fail); (case hd => rfl)) | (apply v_cond; (case hc => rfl); all_goals (intro h; (try simp only [reduceCtorEq, zzz] at h))) | fail)
      · refine v_call (μ1 := []) rfl (qa _ (GH.le_trans hle hle5)) (List.Perm.refl _) rfl ?_
        rintro _ G9 _ - ⟨rfl, rfl⟩
        repeat' (first | apply v_nil | (apply v_pure; (case hop => (apply p_assign <;> rfl)); (case hd => rfl)) | fail)
        refine v_ret [] (outsA1 rfl rfl) (by repeat (exact List.Sublist.refl _)) ?_
        rfl
      · exact v_again rfl ⟨GH.le_trans hle hle5, rfl, k + 1, by omega, rfl, hzn (by assumption)⟩ (by simp [headI]; omega)
    · obtain rfl : k = l.length := by omega
      rw [List.take_length] at hz
      have hrun : runS emp l = ((specA emp [] l).1, (specA emp [] l).2, 0) := by unfold runS; rw [if_pos emp_ok]; exact runA_spec l emp [] hz
      have hT1 := hT.up hle
      have qr := run_s hT1 (emp_v G') emp_ok.small (hl.mono hle) hlw
      rw [hrun] at qr
      repeat' (first | apply v_seq | apply v_region | apply v_nil | (apply v_exit; (case hp => rfl)) | (apply v_pure; (case hop => first | (apply p_move <;> rfl) | (apply p_lt <;> rfl) | (apply p_lenSlice <;> rfl) | fail); (case hd => rfl)) | (apply v_cond; (case hc => rfl); all_goals (intro h; (try simp only [reduceCtorEq, zzz] at h); first | (exfalso; omega) | skip)) | (apply v_callJ (hs := empty_s _); (case ha => rfl); (case hd => rfl)) | fail)
      refine v_call (μ1 := []) rfl qr (List.Perm.refl _) rfl ?_
      rintro _ G2 ν2 hle2 ⟨sv, av, rfl, hs2, hg2⟩
      obtain ⟨A2, c2, A2', c2', rfl, -, -⟩ := id hs2
      refine v_frzP ν2 (List.Perm.refl _) ?_
      intro G3 hle3 hG3
      have ha3 := row_of_grow An.len hg2 hG3
      clear hg2 hG3 qr
      obtain ⟨AA, ac, rfl, -⟩ := id (rowOpen ha3)
      have hT3 := hT1.up (GH.le_trans hle2 hle3)
      have hl3 := (hl.mono hle).mono (GH.le_trans hle2 hle3)
      have hs3 := hs2.up hle3
      have hqa := fun G (h : GH.le G3 G) => qa G (GH.le_trans hle (GH.le_trans hle2 (GH.le_trans hle3 h)))
      repeat' (first | (apply v_alloc (d := 4); (case hz => rfl); (case hd => rfl); intro b4) | apply v_seq | apply v_region | apply v_nil | (apply v_pure; (case hop => first | (apply p_move <;> rfl) | (apply p_assign <;> rfl) | (apply p_extract0 <;> rfl) | (apply p_extract1 <;> rfl) | (apply p_extract2 <;> rfl) | fail); (case hd => rfl)) | (apply v_store; (case hp => rfl); (case hx => rfl); (case hc => rfl); (case hsz => rfl); (case h1 => rfl); (case hb => (repeat (exact mhd _))); (case hfit => exact nle rfl); (case hov => ((repeat (first | with_reducible exact ov_nil | apply ov_cons)); done)); (case hu => repeat (exact Upd.here _ _))) | fail)
      refine v_call (μ1 := []) rfl (mnew_s _) (List.Perm.refl _) rfl ?_
      rintro _ G4 _ - ⟨hG4, mb, kb, rfl, rfl⟩
      subst G4
      repeat' (first | apply v_seq | apply v_region | apply v_nil | apply v_block | (apply v_pure; (case hop => (apply p_assign <;> rfl)); (case hd => rfl)) | fail)
      refine v_loop [8, 0, 7, 4, 5, 6] (fun us G' μ' => GH.le G3 G' ∧ ∃ (k : Nat) (s1 : St) (D : List Ls) (oM : Obj), k ≤ l.length ∧ us = [Value.int .i64 (k : Nat), .slice LA l.length lc, .pointer (some ⟨mb, 0, none⟩), .pointer (some ⟨b4, 0, none⟩), .slice AA (specA emp [] l).2.length ac, .int .i64 0] ∧ μ' = [(mb, mcO kb (decide (s1.schema = 2)) D), (kb, oM), (b4, .cells [.int .i64 (specA emp [] l).1.schema, .slice A2 (specA emp [] l).1.pairs.length c2, .slice A2' (specA emp [] l).1.sess.length c2'].toArray 32 (0, 0))] ∧ StP s1 ∧ MachR s1 D ∧ MapP s1.pairs oM ∧ ∃ acc, specA emp [] l = specA s1 acc (l.drop k)) (fun us => l.length - (headI us).toNat) rfl ⟨GH.le_refl _, 0, emp, D0, _, by omega, rfl, rfl, emp_ok, mach0, map0, [], rfl⟩ ?_
      rintro us G5 _ ⟨hle5, k, s1, D, oM, hk, rfl, rfl, hok1, hm1, hM1, acc, hrn⟩
      have e1 : ((k : Nat) : Int).toNat = k := by omega
      by_cases hlt : k < l.length
      · have hA := hsome (by omega)
        obtain ⟨-, -, -, -, -, -, hcp'⟩ := rowOpen' (hl3.mono hle5)
        have hck := hcp' k hlt
        obtain ⟨hxo, hxw⟩ := hlw.2 _ (List.getElem_mem hlt)
        have hdo := mdo_s (hT3.up hle5) (mb := mb) (kb := kb) (l[k]) hok1 hm1 hM1 hxo hxw.2
        have hkp : StP (specS s1 l[k]).1 := specS_ok hok1
        have hnx : specA emp [] l = specA (specS s1 l[k]).1 (acc ++ [(specS s1 l[k]).2]) (l.drop (k + 1)) := by
          rw [hrn, List.drop_eq_getElem_cons hlt]; rfl
        clear hxo hxw
        generalize specS s1 l[k] = ap at *
        obtain ⟨s5, a5⟩ := ap
        generalize l[k] = x at *
        obtain ⟨kind, cl, seq, key, val, old, node⟩ := x
        simp only at *
        repeat' (first | (apply v_read; (case hop => (apply r_loadN; rfl; exact CellsAt.frozen hck; rfl)); (case hd => rfl)) | apply v_seq | apply v_region | apply v_nil | apply v_skip | apply v_block | (apply v_pure; (case hop => first | (apply p_move <;> rfl) | (apply p_lt <;> rfl) | (apply p_lenSlice <;> rfl) | (apply p_indexAddrS; (case hx => rfl); (case hi => rfl); (case h0 => omega); (case h => omega); (case hA => assumption)) | fail); (case hd => rfl)) | (apply v_cond; (case hc => rfl); all_goals (intro h; (try simp only [reduceCtorEq, zzz] at h); first | (exfalso; omega) | skip)) | fail)
        refine v_call (μ1 := [(mb, mcO kb (decide (s1.schema = 2)) D), (kb, oM)]) rfl hdo (PickA.perm (by repeat (exact PickA.here _))) rfl ?_
        rintro _ G6 _ hle6 ⟨D2, oM2, rfl, hm2, hM2, rfl⟩
        repeat' (first | apply v_region | apply v_nil | apply v_blk | (apply v_pure; (case hop => first | (apply p_move <;> rfl) | (apply p_assign <;> rfl) | (apply p_add; (case hx => rfl); (case hy => rfl); (case h => omega)) | fail); (case hd => rfl)) | fail)
        exact v_again rfl ⟨GH.le_trans hle5 hle6, k + 1, s5, D2, oM2, by omega, rfl, rfl, hkp, hm2, hM2, _, hnx⟩ (by simp [headI]; omega)
      · obtain rfl : k = l.length := by omega
        rw [List.drop_length] at hrn
        have hs1 : s1 = (specA emp [] l).1 := by rw [hrn]; rfl
        have q5 := answers_s (hT3.up hle5) (hl3.mono hle5) hlw
        have qs := fun G => mState_s (G := G) (mb := mb) (kb := kb) hok1 hm1 hM1
        have ha5 := ha3.mono hle5
        have hs5 := hs3.up hle5
        have hqa5 := fun G (h : GH.le G5 G) => hqa G (GH.le_trans hle5 h)
        have q6 : ∀ (G : GH) (bv : Value), GH.le G5 G → Ans G bv (specA emp [] l).2 → Con Tryz.prog 17 #[.slice AA (specA emp [] l).2.length ac, bv] G [] (Just (.bool true) G) := fun G bv h1 h2 =>
          (refAnswers_s (ha5.mono h1) h2).mono fun _ _ _ ⟨y1, y2, b, y3, y4⟩ => ⟨by rw [y3, y4 rfl], y1, y2⟩
        rw [hs1] at qs
        have q7 : ∀ (G : GH) (u v : Value), StV G (specA emp [] l).1 u → StV G (specA emp [] l).1 v → Con Tryz.prog 19 #[u, v] G [] (Just (.bool true) G) := fun G u v h1 h2 =>
          (refSame_s h1 h2).mono fun _ _ _ ⟨y1, y2, b, y3, y4⟩ => ⟨by rw [y3, y4 rfl], y1, y2⟩
        clear hrn
        subst hs1
        repeat' (first | apply v_seq | apply v_region | apply v_nil | (apply v_exit; (case hp => rfl)) | (apply v_pure; (case hop => first | (apply p_move <;> rfl) | (apply p_lt <;> rfl) | (apply p_lenSlice <;> rfl) | fail); (case hd => rfl)) | (apply v_cond; (case hc => rfl); all_goals (intro h; (try simp only [reduceCtorEq, zzz] at h); first | (exfalso; omega) | skip)) | fail)
        refine v_has (σ' := [(6, .int .i64 0), (5, .slice AA (specA emp [] l).2.length ac), (0, .slice LA l.length lc), (7, .pointer (some ⟨mb, 0, none⟩)), (4, .pointer (some ⟨b4, 0, none⟩))]) ⟨rfl, rfl, rfl, rfl, rfl, trivial⟩ ?_
        clear qa q2 hcp hrun hz hs2 hs3 ha3 hqa
        generalize specA emp [] l = rr at *
        obtain ⟨sF, aF⟩ := rr
        simp only at *
        refine d_start [(b4, .cells [.int .i64 sF.schema, .slice A2 sF.pairs.length c2, .slice A2' sF.sess.length c2'].toArray 32 (0, 0))] (by kernel_rfl) (by kernel_rfl) (by kernel_rfl) (by intro e he; (simp at he; simp [he]; done)) ?_
        all_goals (apply dtk 0; (case hi => rfl); (case hop => (apply prd; apply p_move <;> rfl)); (case hq => kernel_rfl))
        all_goals (apply dtk 1; (case hi => rfl); (case hop => (apply prd; apply p_eqs <;> rfl)); (case hq => kernel_rfl))
        all_goals (apply dtk 2; (case hi => rfl); (case hop => (apply prd; apply p_move <;> rfl)); (case hq => kernel_rfl))
        all_goals (try (apply d_guardB 3; (case hi => rfl); (case hgd => rfl); (case h1 => rfl); (case h2 => rfl); all_goals (intro h; (try simp only [reduceCtorEq, zzz] at h))))
        all_goals (apply dtg 3; (case hi => rfl); (case hg => rfl); (case hop => (apply prd; apply p_move <;> rfl)); (case hq => kernel_rfl))
        all_goals (try (apply d_guardB 4; (case hi => rfl); (case hgd => rfl); (case h1 => rfl); (case h2 => rfl); all_goals (intro h; (try simp only [reduceCtorEq, zzz] at h))))
        all_goals (apply dtg 4; (case hi => rfl); (case hg => rfl); (case hop => (apply prd; apply p_move <;> rfl)); (case hq => kernel_rfl))
        all_goals (try (apply d_guardB 5; (case hi => rfl); (case hgd => rfl); (case h1 => rfl); (case h2 => rfl); all_goals (intro h; (try simp only [reduceCtorEq, zzz] at h))))
        all_goals ((apply d_callG 5 (hs := q5) (μ1 := []); (case hi => rfl); (case hg => rfl); (case hr => kernel_rfl);  (case ha => rfl); (case hp => exact List.Perm.refl _); (case hd => rfl); (case hν' => intro e he; exact List.mem_cons_of_mem _ (List.mem_cons_of_mem _ he)); rintro r5 G6 ν6 hle6 hg6; obtain ⟨A6, c6, rfl, -, -⟩ := hg6.shape))
        all_goals (try (apply d_guardB 6; (case hi => rfl); (case hgd => rfl); (case h1 => rfl); (case h2 => rfl); all_goals (intro h; (try simp only [reduceCtorEq, zzz] at h))))
        all_goals ((apply d_callKG 6 (μ1 := ν6) (hs := Con.lendJ (v := .bool true) fun G7 h1 h2 => q6 G7 _ (GH.le_trans hle6 h1) (row_of_grow An.len hg6 h2)); (case hi => rfl); (case hg => rfl); (case hr => kernel_rfl);  (case ha => rfl); (case hp => exact List.Perm.refl _); (case hd => rfl)))
        all_goals (apply dtk 7; (case hi => rfl); (case hop => (apply prd; apply p_pickT <;> rfl)); (case hq => kernel_rfl))
        all_goals (apply dtk 8; (case hi => rfl); (case hop => (apply prd; apply p_move <;> rfl)); (case hq => kernel_rfl))
        all_goals (try (apply d_guardB 9; (case hi => rfl); (case hgd => rfl); (case h1 => rfl); (case h2 => rfl); all_goals (intro h; (try simp only [reduceCtorEq, zzz] at h))))
        all_goals (apply dtg 9; (case hi => rfl); (case hg => rfl); (case hop => (apply prd; apply p_move <;> rfl)); (case hq => kernel_rfl))
        all_goals (try (apply d_guardB 11; (case hi => rfl); (case hgd => rfl); (case h1 => rfl); (case h2 => rfl); all_goals (intro h; (try simp only [reduceCtorEq, zzz] at h))))
        all_goals (apply dtg 11; (case hi => rfl); (case hg => rfl); (case hop => first | (apply r_loadNo; (case hx => rfl); (case h => (repeat (exact mhd _))); (case hd => (repeat (first | with_reducible exact dt_nil | apply dt_here))); (case hn => rfl)) | (apply r_load1; rfl; (apply Cell.own; (case h => (repeat (fail))); rfl)) | (apply r_loadN; rfl; (apply CellsAt.own; (case h => (repeat (fail)))); rfl)); (case hq => kernel_rfl))
        all_goals (try (apply d_guardB 10; (case hi => rfl); (case hgd => rfl); (case h1 => rfl); (case h2 => rfl); all_goals (intro h; (try simp only [reduceCtorEq, zzz] at h))))
        all_goals ((apply d_callG 10 (hs := qs _) (μ1 := [(mb, mcO kb (decide (sF.schema = 2)) D), (kb, oM)]) (μ2 := ν6 ++ [(b4, .cells [.int .i64 sF.schema, .slice A2 sF.pairs.length c2, .slice A2' sF.sess.length c2'].toArray 32 (0, 0))]); (case hi => rfl); (case hg => rfl); (case hr => kernel_rfl);  (case ha => rfl); (case hp => exact (by apply perm_of_count; intro p; simp only [List.append_eq, List.countP_append, List.countP_cons, List.countP_nil, Nat.zero_add, Nat.add_zero]; try ac_rfl)); (case hd => rfl); (case hν' => intro e he; exact List.mem_append_right _ he); rintro v8 G8 _ hle8 ⟨hs8, rfl⟩; obtain ⟨A8, c8, A8', c8', rfl, -, -⟩ := id hs8))
        all_goals (try (apply d_guardB 12; (case hi => rfl); (case hgd => rfl); (case h1 => rfl); (case h2 => rfl); all_goals (intro h; (try simp only [reduceCtorEq, zzz] at h))))
        all_goals (apply d_callJG 12 (hs := (q7 _ _ _ hs8 (hs5.up (GH.le_trans hle6 hle8)))); (case hi => rfl); (case hg => rfl); (case hr => kernel_rfl); (case ha => rfl); (case hd => rfl))
        all_goals (apply dtk 13; (case hi => rfl); (case hop => (apply prd; apply p_pickT <;> rfl)); (case hq => kernel_rfl))
        all_goals (apply dtk 14; (case hi => rfl); (case hop => (apply prd; apply p_move <;> rfl)); (case hq => kernel_rfl))
        all_goals (try (apply d_guardB 15; (case hi => rfl); (case hgd => rfl); (case h1 => rfl); (case h2 => rfl); all_goals (intro h; (try simp only [reduceCtorEq, zzz] at h))))
        all_goals ((apply d_callG 15 (vs := []) (hs := hqa5 _ (GH.le_trans hle6 hle8)) (μ1 := []); (case hi => rfl); (case hg => rfl); (case hr => kernel_rfl);  (case ha => rfl); (case hp => exact List.Perm.refl _); (case hd => rfl); (case hν' => intro e he; exact List.mem_append_right [(mb, mcO kb (decide (sF.schema = 2)) D), (kb, oM)] (List.mem_append_right ν6 he)); rintro _ G9 _ - ⟨rfl, rfl⟩))
        all_goals (apply dtk 16; (case hi => rfl); (case hop => (apply prd; apply p_pickT <;> rfl)); (case hq => kernel_rfl))
        all_goals (apply dtk 17; (case hi => rfl); (case hop => (apply prd; apply p_assign <;> rfl)); (case hq => kernel_rfl))
        all_goals (apply d_done; (case hr => kernel_rfl))
        all_goals repeat' (fail)
        all_goals
          (refine v_ret [] (outsA1 rfl rfl) (List.nil_sublist _) ?_
           rfl)
theorem clos_laid : laidOutB Tryz.prog = true := by kernel_rfl
theorem clos_rowed : mapsRowed Tryz.prog = true := by kernel_rfl
theorem clos_heard : Tryz.prog.stopsHeard = true := by kernel_rfl
theorem clos_may : Tryz.prog.mayEnter = true := by kernel_rfl
theorem clos_lifts : (Rows.specAppRow.lifted == Tryz.prog.liftsFinal) = true := by kernel_rfl
theorem clos_make : (Tryz.prog.make == some Rows.specAppRow.make) = true := by kernel_rfl
theorem clos_plain : (Rows.specAppRow.plainKeys == Tryz.prog.plainKeys) = true := by kernel_rfl
theorem clos_main : Tryz.prog.mainIs = some (true, "fd00f198de0f1bbff99678f964db4a91607ae39a2c1c259642fb503572231bd3".toList) := by kernel_rfl
theorem clos_looks : true = Tryz.prog.looks [] := by kernel_rfl
theorem specApp_own : ownKnob Tryz.prog.godebug = none := by kernel_rfl
theorem specApp_laidOut : laidOutB Tryz.prog = true := clos_laid
theorem specApp_spec : LawSpec Rows.specAppSpec 1 := ⟨rfl, fun H ds h => by match ds, h with | [d0], _ => rfl⟩
set_option maxRecDepth 100000 in
theorem specApp_lifted (os : Os) (started : os.Started) (H : Type) (enc : TypeId × Value → H) :
    ReturnsInHanded {} Tryz.checked os 3 .any (fun w args => (Rows.specAppSpec.pre enc Tryz.prog Tryz.f3 Rows.specAppRow.domain false w args ∧ laidMetH Tryz.prog tabsLaid w) ∧ sizedMet enc Tryz.prog Tryz.f3 (OpenSpec.ofChange Rows.specAppSpec) false w args)
      (Rows.specAppSpec.post enc Tryz.prog Tryz.f3 false true false false) := by
  refine returnsInHanded_of_change_and (C := Tryz.checked) (X := fun w _ => laidMetH Tryz.prog tabsLaid w) (fun _ _ _ hh h => h.of_heap hh) specApp_own started (by kernel_rfl) Tryz.func3
    (ChangeSpec.witness_shaped (enc := enc) (C := Tryz.checked) (os := os) (X := fun w _ => laidMetH Tryz.prog tabsLaid w) false (World.laidAll Tryz.prog os tabsLaid) #[.slice none 0 0] 8 (World.laidAll_os _ _ _)
      (World.shaped_of_ZipB (by kernel_rfl) (by kernel_rfl)) (by kernel_rfl) (by kernel_rfl) (by kernel_rfl)
      (by rw [MakeChecks.laidMetH_plain _ _ _ tabs_plain]; exact laidMet_laidAll _ (by kernel_rfl) (by kernel_rfl))) ?_
  intro W base args ds gs before hval0 hW hcnd _ hL _
  have hval : ∀ (j : Nat) t v, Tryz.f3.params[j]? = some t → args[j]? = some v → Value.okWide Tryz.prog W .any base t v := hval0
  refine law_post specApp_laidOut Tryz.underlying4 rfl specApp_spec rfl (by kernel_rfl) hW ?_
  obtain ⟨p, q, hA0, hV, rfl, hfz, hnd⟩ := hW
  have hA : DataW.TrodAll enc Tryz.prog W 0 (fun _ => true) true Tryz.f3.params.toList args.toList ds p := hA0
  rw [Tryz.params3] at hA hval
  obtain ⟨v0, vs0, d0, ds0, p0, q0, hargs, rfl, rfl, h0, r0⟩ := trodAll_cons hA
  obtain ⟨rfl, rfl, rfl⟩ := trodAll_nil r0
  obtain rfl : args = #[v0] := by cases args; simp_all
  have g0 := arg_t22 (hval 0 22 v0 rfl rfl) h0
  exact specApp_law (tabs_of_laid hL) g0
theorem specApp_c_inPlace : (Rows.specAppRow.inPlace == Tryz.prog.inPlace 3) = true := by kernel_rfl
theorem specApp_c_unfollowed : (Rows.specAppRow.unfollowed == Tryz.prog.unfollowed 3) = true := by kernel_rfl
theorem specApp_c_recurses : (Rows.specAppRow.recurses == Tryz.prog.recurses 3) = true := by kernel_rfl
theorem specApp_c_named : (Rows.specAppRow.named == Tryz.prog.varsNamed 3) = true := by kernel_rfl
theorem specApp_c_lifted : (Rows.specAppRow.lifted == Tryz.prog.liftsFinal) = true := clos_lifts
theorem specApp_c_make : (Tryz.prog.make == some Rows.specAppRow.make) = true := clos_make
theorem specApp_c_plainKeys : (Rows.specAppRow.plainKeys == Tryz.prog.plainKeys) = true := clos_plain
theorem specApp_closed : joinedFacts Tryz.prog 3 Tryz.f3 Rows.specAppSpec Rows.specAppRow = true := by
  unfold joinedFacts
  rw [clos_laid, clos_rowed, clos_heard, clos_may, specApp_c_inPlace, specApp_c_unfollowed, specApp_c_recurses, specApp_c_named, specApp_c_lifted, specApp_c_make, specApp_c_plainKeys]
  kernel_rfl
theorem specApp_over : Rows.specAppRow.holds Tryz.pinned (OpenSpec.ofChange Rows.specAppSpec) :=
  OpenClaim.holds_of_wide 3 Tryz.f3 rfl rfl rfl rfl rfl rfl rfl ⟨rfl, rfl, rfl, rfl, rfl⟩ rfl rfl rfl rfl rfl (by kernel_rfl) Tryz.func3 specApp_closed
    (of_decide_eq_true (by kernel_rfl)) (by unfold Func.isWrapper; first | (rw [if_pos (by decide +kernel)]; kernel_rfl) | (rw [if_neg (by decide +kernel)]; exact ⟨rfl, rfl⟩))
    (fun os started H enc _ => specApp_lifted os started H enc)
theorem specApp_holds : Rows.SpecAppSaid := specApp_over
theorem specApp_c_wft : Rows.specAppRow.wfByText (OpenSpec.ofChange Rows.specAppSpec) = true := by kernel_rfl
theorem specApp_c_func : Tryz.prog.funcNamed Rows.specAppRow.func = some 3 := by kernel_rfl
theorem specApp_c_stand : ([22].all fun u => !Tryz.prog.wantsStandIn u) = true := by kernel_rfl
theorem specApp_c_goes : false = Rows.specAppRow.goesBy Tryz.prog := by kernel_rfl
theorem specAppCard_holds : Rows.SpecAppCardSaid :=
  Claim7.holds_tied_plain_at .later [] [.data, .pinned] true (true, "fd00f198de0f1bbff99678f964db4a91607ae39a2c1c259642fb503572231bd3") true specApp_holds (fun _ h => by cases h) specApp_c_wft (fun _ h => by cases h) specApp_row_tie rfl ⟨rfl, rfl⟩ clos_main rfl
    (fun f fn hf hfn => by
      obtain rfl : f = 3 := Option.some.inj (specApp_c_func.symm.trans hf) |>.symm
      obtain rfl : fn = Tryz.f3 := (Option.some.inj (Tryz.func3.symm.trans hfn)).symm
      exact ⟨clos_looks, fun j t ht => by
        rw [Tryz.params3] at ht
        have hm : t ∈ [22] := by simpa using Array.mem_of_getElem? ht
        exact (show Tryz.prog.wantsStandIn t = false by simpa using List.all_eq_true.1 specApp_c_stand t hm)⟩)
    specApp_c_goes
end Go.Proofs.YtmdeeokejdkceaaGreatDoor
