/-
  hard (layer 19), the fourth part: ballots: the lesser one, the greatest one; a promise.
-/
import Derived.Test.YtmdeeokejdkceaaGreatDoorM2
import Derived.Test.YtmdeeokejdkceaaGreatDoorM1
import Derived.Scope
import Derived.Laws.MakeOwn
set_option linter.unusedSimpArgs false
set_option linter.unusedVariables false
namespace Go.Proofs.YtmdeeokejdkceaaGreatDoor
open Go.Vx Go.ChangeShapes Go.WideShapes Go.ChangeAt Go.RowKit
abbrev balO (r n : Int) : Obj := .cells [.int .i64 r, .int .i64 n].toArray 80 (0, 0)
abbrev twoB (r n r' n' : Int) : Obj := .cells [.int .i64 r, .int .i64 n, .int .i64 r', .int .i64 n'].toArray 80 (0, 0)
def maxR (r n r' n' : Int) : Int × Int := if lessP r n r' n' then (r', n') else (r, n)
theorem max_s (G : GH) (sb : Nat) (r n r' n' : Int) : Con Tryz.prog 237 #[.slice (some ⟨sb, 0, none⟩) 2 2] G [(sb, twoB r n r' n')] (Keeps (.agg #[.int .i64 (maxR r n r' n').1, .int .i64 (maxR r n r' n').2]) G [(sb, twoB r n r' n')]) := by
  have ql := less_s G r n r' n'
  apply Con.keeps
  (refine v_enter Tryz.func237 rfl Tryz.ntmps237 rfl ?_; intro B _)
  repeat' (first | apply v_seq | apply v_region | apply v_nil | apply v_block | (apply v_pure; (case hop => first | (apply p_move <;> rfl) | (apply p_lenSlice <;> rfl) | fail); (case hd => rfl)) | (apply v_alloc; (case hz => rfl); (case hd => rfl); intro b) | fail)
  rename_i ob
  rename Nat => tb
  refine v_loop [8, 7, 6, 3, 2] (fun us G' μ' => G' = G ∧ ∃ (k : Nat) (o1 o2 : Int), μ' = [(tb, balO o1 o2), (ob, balO 0 0), (sb, twoB r n r' n')] ∧ k ≤ 2 ∧ us = [Value.int .i64 (k : Nat), .int .i64 2, .slice (some ⟨sb, 0, none⟩) 2 2, .pointer (some ⟨tb, 0, none⟩), .pointer (some ⟨ob, 0, none⟩)] ∧ (k = 1 → o1 = r ∧ o2 = n) ∧ (k = 2 → o1 = (maxR r n r' n').1 ∧ o2 = (maxR r n r' n').2)) (fun us => 3 - (headI us).toNat) rfl ⟨rfl, 0, 0, 0, rfl, by omega, rfl, by omega, by omega⟩ ?_
  rintro us G' μ' ⟨rfl, k, o1, o2, rfl, hk, rfl, h1, h2⟩
  obtain rfl | rfl | rfl : k = 0 ∨ k = 1 ∨ k = 2 := by omega
  · repeat' (first | apply v_seq | apply v_region | apply v_nil | apply v_skip | apply v_block | apply v_blk | (apply v_pass; (case hg => rfl); (case hn => rfl); (case hd => rfl)) | (apply v_pure; (case hop => first | (apply p_move <;> rfl) | (apply p_eqs <;> rfl) | (apply p_lt <;> rfl) | (apply p_assign <;> rfl) | (apply p_pickT <;> rfl) | (apply p_add; (case hx => rfl); (case hy => rfl); (case h => omega)) | (apply p_indexAddr; (case hx => rfl); (case hi => rfl); (case h0 => omega); (case h => omega)) | fail); (case hd => rfl)) | (apply v_condT; (case hc => rfl)) | (apply v_cond; (case hc => rfl); all_goals (intro h; (try simp only [reduceCtorEq, zzz] at h); first | (exfalso; omega) | skip)) | (apply v_read; (case hop => (apply r_loadNo; (case hx => rfl); (case h => (repeat (first | exact mhd _ | apply mtl))); (case hd => (repeat (first | with_reducible exact dt_nil | apply dt_here))); (case hn => rfl))); (case hd => rfl)) | (apply v_alloc; (case hz => rfl); (case hd => rfl); intro b) | (apply v_store; (case hp => rfl); (case hx => rfl); (case hc => rfl); (case hsz => rfl); (case h1 => rfl); (case hb => (repeat (first | exact mhd _ | apply mtl))); (case hfit => exact nle rfl); (case hov => ((repeat (first | with_reducible exact ov_nil | apply ov_cons)); done)); (case hu => repeat (first | exact Upd.here _ _ | apply Upd.there))) | fail)
    refine v_drop (ν := [(tb, _), (ob, _), (sb, _)]) (by repeat (first | exact List.Sublist.refl _ | apply List.Sublist.cons)) ?_
    refine v_again rfl ⟨rfl, 1, r, n, rfl, by omega, rfl, fun _ => ⟨rfl, rfl⟩, by omega⟩ (by simp [headI])
  · obtain ⟨rfl, rfl⟩ := h1 rfl
    unfold maxR at *
    by_cases hl : lessP o1 o2 r' n'
    · rw [decide_eq_true hl] at ql
      rw [if_pos hl] at *
      repeat' (first | apply v_seq | apply v_region | apply v_nil | apply v_skip | apply v_block | apply v_blk | (apply v_take; (case hg => rfl)) | (apply v_pure; (case hop => first | (apply p_move <;> rfl) | (apply p_eq <;> rfl) | (apply p_lt <;> rfl) | (apply p_assign <;> rfl) | (apply p_pickF <;> rfl) | (apply p_add; (case hx => rfl); (case hy => rfl); (case h => omega)) | (apply p_indexAddr; (case hx => rfl); (case hi => rfl); (case h0 => omega); (case h => omega)) | fail); (case hd => rfl)) | (apply v_condT; (case hc => rfl)) | (apply v_cond; (case hc => rfl); all_goals (intro h; (try simp only [reduceCtorEq, zzz] at h); first | (exfalso; omega) | skip)) | (apply v_guardB; (case h1 => rfl); (case h2 => rfl); all_goals (intro h; (try simp only [reduceCtorEq, zzz] at h); first | (exfalso; omega) | skip)) | (apply v_callJ (hs := ql); (case ha => rfl); (case hd => rfl)) | (apply v_read; (case hop => (apply r_loadNo; (case hx => rfl); (case h => (repeat (first | exact mhd _ | apply mtl))); (case hd => (repeat (first | with_reducible exact dt_nil | apply dt_here))); (case hn => rfl))); (case hd => rfl)) | (apply v_alloc; (case hz => rfl); (case hd => rfl); intro b) | (apply v_store; (case hp => rfl); (case hx => rfl); (case hc => rfl); (case hsz => rfl); (case h1 => rfl); (case hb => (repeat (first | exact mhd _ | apply mtl))); (case hfit => exact nle rfl); (case hov => ((repeat (first | with_reducible exact ov_nil | apply ov_cons)); done)); (case hu => repeat (first | exact Upd.here _ _ | apply Upd.there))) | fail)
      refine v_drop (ν := [(tb, _), (ob, _), (sb, _)]) (by repeat (first | exact List.Sublist.refl _ | apply List.Sublist.cons)) ?_
      refine v_again rfl ⟨rfl, 2, r', n', rfl, by omega, rfl, by omega, fun _ => ⟨rfl, rfl⟩⟩ (by simp [headI])
    · rw [decide_eq_false hl] at ql
      rw [if_neg hl] at *
      repeat' (first | apply v_seq | apply v_region | apply v_nil | apply v_skip | apply v_block | apply v_blk | (apply v_take; (case hg => rfl)) | (apply v_pure; (case hop => first | (apply p_move <;> rfl) | (apply p_eq <;> rfl) | (apply p_lt <;> rfl) | (apply p_assign <;> rfl) | (apply p_pickF <;> rfl) | (apply p_add; (case hx => rfl); (case hy => rfl); (case h => omega)) | (apply p_indexAddr; (case hx => rfl); (case hi => rfl); (case h0 => omega); (case h => omega)) | fail); (case hd => rfl)) | (apply v_condF; (case hc => rfl)) | (apply v_cond; (case hc => rfl); all_goals (intro h; (try simp only [reduceCtorEq, zzz] at h); first | (exfalso; omega) | skip)) | (apply v_guardB; (case h1 => rfl); (case h2 => rfl); all_goals (intro h; (try simp only [reduceCtorEq, zzz] at h); first | (exfalso; omega) | skip)) | (apply v_callJ (hs := ql); (case ha => rfl); (case hd => rfl)) | (apply v_read; (case hop => (apply r_loadNo; (case hx => rfl); (case h => (repeat (first | exact mhd _ | apply mtl))); (case hd => (repeat (first | with_reducible exact dt_nil | apply dt_here))); (case hn => rfl))); (case hd => rfl)) | (apply v_alloc; (case hz => rfl); (case hd => rfl); intro b) | (apply v_store; (case hp => rfl); (case hx => rfl); (case hc => rfl); (case hsz => rfl); (case h1 => rfl); (case hb => (repeat (exact mhd _))); (case hfit => exact nle rfl); (case hov => ((repeat (first | with_reducible exact ov_nil | apply ov_cons)); done)); (case hu => repeat (exact Upd.here _ _))) | fail)
      refine v_drop (ν := [(tb, _), (ob, _), (sb, _)]) (by repeat (first | exact List.Sublist.refl _ | apply List.Sublist.cons)) ?_
      refine v_again rfl ⟨rfl, 2, o1, o2, rfl, by omega, rfl, by omega, fun _ => ⟨rfl, rfl⟩⟩ (by simp [headI])
  · obtain ⟨rfl, rfl⟩ := h2 rfl
    repeat' (first | apply v_seq | apply v_region | apply v_nil | (apply v_exit; (case hp => rfl)) | (apply v_pure; (case hop => (apply p_lt <;> rfl)); (case hd => rfl)) | (apply v_cond; (case hc => rfl); all_goals (intro h; (try simp only [reduceCtorEq, zzz] at h); first | (exfalso; omega) | skip)) | (apply v_read; (case hop => (apply r_loadNo; (case hx => rfl); (case h => (repeat (exact mhd _))); (case hd => (repeat (first | with_reducible exact dt_nil | apply dt_here))); (case hn => rfl))); (case hd => rfl)) | (apply v_store; (case hp => rfl); (case hx => rfl); (case hc => rfl); (case hsz => rfl); (case h1 => rfl); (case hb => (repeat (first | exact mhd _ | apply mtl))); (case hfit => exact nle rfl); (case hov => ((repeat (first | with_reducible exact ov_nil | apply ov_cons)); done)); (case hu => repeat (first | exact Upd.here _ _ | apply Upd.there))) | fail)
    refine v_retM [(sb, _)] (outsM_cell (vs := [.int .i64 (maxR r n r' n').1, .int .i64 (maxR r n r' n').2]) (e := 80) rfl rfl (by repeat (first | exact mhd _ | apply mtl)) rfl) (by repeat (first | exact List.Sublist.refl _ | apply List.Sublist.cons)) ?_
    exact ⟨rfl, rfl⟩
def hdL (pr pn base : Int) (iv av cv : Value) : List Value := [.int .i64 pr, .int .i64 pn, .int .i64 base, iv, av, cv]
theorem prom_max (h : Hd) (x : Rc) : h.prom x = { h with pr := (maxR h.pr h.pn x.round x.node).1, pn := (maxR h.pr h.pn x.round x.node).2 } := by
  unfold Hd.prom maxR
  split <;> rfl
theorem promise_s (G : GH) (hb : Nat) (pr pn base r n : Int) (iv av cv : Value) : Con Tryz.prog 188 #[.pointer (some ⟨hb, 0, none⟩), .agg #[.int .i64 r, .int .i64 n]] G [(hb, .cells (hdL pr pn base iv av cv).toArray 191 (0, 0))]
    (fun _ G' μ' => G' = G ∧ μ' = [(hb, .cells (hdL (maxR pr pn r n).1 (maxR pr pn r n).2 base iv av cv).toArray 191 (0, 0))]) := by
  have qm := fun sb => max_s G sb pr pn r n
  (refine v_enter Tryz.func188 rfl Tryz.ntmps188 rfl ?_; intro B _)
  repeat' (first | apply v_seq | apply v_region | apply v_nil | (apply v_box; (case hx => rfl); (case hz => rfl); (case hd => rfl); intro b) | fail)
  refine d_start [(b, balO r n)] (by kernel_rfl) (by kernel_rfl) (by kernel_rfl) (by intro e he; (simp at he; simp [he]; done)) ?_
  all_goals (apply dtk 0; (case hi => rfl); (case hop => (apply prd; apply p_move <;> rfl)); (case hq => kernel_rfl))
  all_goals (apply dtk 1; (case hi => rfl); (case hop => (apply prd; apply p_move <;> rfl)); (case hq => kernel_rfl))
  all_goals (apply dtk 2; (case hi => rfl); (case hop => (apply prd; apply p_nilCheck <;> rfl)); (case hq => kernel_rfl))
  all_goals (apply dtk 3; (case hi => rfl); (case hop => (apply prd; apply p_fieldAddrB <;> rfl)); (case hq => kernel_rfl))
  all_goals (apply dtk 4; (case hi => rfl); (case hop => (apply prd; apply p_fieldAddrB <;> rfl)); (case hq => kernel_rfl))
  all_goals (apply dtk 6; (case hi => rfl); (case hop => first | (apply r_loadNo; (case hx => rfl); (case h => (repeat (exact mhd _))); (case hd => (repeat (first | with_reducible exact dt_nil | apply dt_here))); (case hn => rfl)) | (apply r_load1; rfl; (apply Cell.own; (case h => (repeat (fail))); rfl)) | (apply r_loadN; rfl; (apply CellsAt.own; (case h => (repeat (fail)))); rfl)); (case hq => kernel_rfl))
  all_goals (apply d_keep 5 (hop := ReadOp.move ?hop); (case hi => rfl); (case hr => kernel_rfl); (case hop => (apply r_loadNo; (case hx => rfl); (case h => repeat (first | exact mhd _ | apply mtl)); (case hd => repeat (first | with_reducible exact dt_nil | apply dt_here)); (case hn => rfl))); (case hd => rfl))
  all_goals (apply d_buildSlice 7; (case hi => rfl); (case hr => kernel_rfl); (case hT => infer_instance); (case hL => infer_instance); (case hz => rfl); (case hl => rfl); (case hv => (simp only [List.map_cons, List.map_nil]; repeat (first | with_reducible exact evs_nil | (apply evs_cons; (case h1 => rfl))))); (case hp => (apply pk_cons; (case hc => rfl); (case hs => rfl); (case h => (apply pk_cons; (case hc => rfl); (case hs => rfl); (case h => (with_reducible exact pk_nil)); (case he => ((repeat (first | with_reducible exact ap_nil | apply ap_cons)); done)))); (case he => ((repeat (first | with_reducible exact ap_nil | apply ap_cons)); done)))); (case hb => rfl); (case hd => rfl); (case hν => intro e he; (simp at he; simp [he]; done)); intro sb)
  all_goals (apply d_callK 8 (hs := qm _); (case hi => rfl); (case hr => kernel_rfl); (case ha => rfl); (case hp => exact (Pick.perm (by repeat (exact Pick.here _)))); (case hd => rfl))
  all_goals (apply dtk 9; (case hi => rfl); (case hop => (apply prd; apply p_nilCheck <;> rfl)); (case hq => kernel_rfl))
  all_goals (apply dtk 10; (case hi => rfl); (case hop => (apply prd; apply p_fieldAddrB <;> rfl)); (case hq => kernel_rfl))
  all_goals (apply dtk 11; (case hi => rfl); (case hop => (apply prd; apply p_fieldAddrB <;> rfl)); (case hq => kernel_rfl))
  all_goals (apply d_store 12; (case hi => rfl); (case hr => kernel_rfl); (case hL => infer_instance); (case hp => rfl); (case hx => rfl); (case hc => rfl); (case hsz => rfl); (case h1 => rfl); (case hb => (repeat (first | exact mhd _ | apply mtl))); (case hfit => exact nle rfl); (case hov => ((repeat (first | with_reducible exact ov_nil | apply ov_cons)); done)); (case hu => repeat (first | exact Upd.here _ _ | apply Upd.there)); (case hν' => intro e he; (simp at he; simp [he]; done)))
  all_goals (apply d_done; (case hr => kernel_rfl))
  repeat' (fail)
  refine v_end [(hb, _)] (outsA0 rfl) (by repeat (first | exact List.Sublist.refl _ | apply List.Sublist.cons)) ?_
  exact ⟨rfl, rfl⟩
def HdV (G : GH) (h : Hd) (L : List Value) : Prop := ∃ iv av cv, L = hdL h.pr h.pn h.base iv av cv ∧ Sl G 1 (IntR .u8) iv h.image ∧ Es G av h.acc ∧ Es G cv h.cho
theorem esle {G G' : GH} {v : Value} {l : List Ent} (h : Es G v l) (hle : GH.le G G') : Es G' v l := Sl.le h hle fun _ _ h => h
abbrev hdO (L : List Value) : Obj := .cells L.toArray 191 (0, 0)
noncomputable def accH (h : Hd) (x : Rc) : Hd := if (h.prom x).base < x.index then { h.prom x with acc := withL (h.prom x).acc (entOf x) } else h.prom x
theorem accept_s {G : GH} {H : Hd} {L : List Value} {x : Rc} {xv : Value} {n : Nat} (hb : Nat) (hh : HdV G H L) (g : Good n H) (hn : n ≤ 200) (hx : RcV G x xv) (hok : ∀ e ∈ withL H.acc (entOf x), e.ok) :
    Con Tryz.prog 189 #[.pointer (some ⟨hb, 0, none⟩), xv] G [(hb, hdO L)] (fun _ G' μ' => ∃ L', μ' = [(hb, hdO L')] ∧ HdV G' (accH H x) L') := by
  obtain ⟨im, av, cv, rfl, hi, ha, hc⟩ := hh
  obtain ⟨A1, c1, rfl, -⟩ := id ha.open
  obtain ⟨iv, rfl, hxi⟩ := hx
  have qp := promise_s G hb H.pr H.pn H.base x.round x.node im (.slice A1 H.acc.length c1) cv
  have qw := with_s (entOf x) ha g.racc (by have := g.nacc; omega)
  have ep := prom_max H x
  unfold accH
  rw [ep]
  generalize hm : maxR H.pr H.pn x.round x.node = m at *
  (refine v_enter Tryz.func189 rfl Tryz.ntmps189 rfl ?_; intro B _)
  repeat' (first | apply v_seq | apply v_region | apply v_nil | (apply v_pure; (case hop => first | (apply p_move <;> rfl) | (apply p_fieldAddrB <;> rfl) | fail); (case hd => rfl)) | (apply v_box (zs := recL x.kind x.round x.node x.index x.cmd iv); (case hx => rfl); (case hz => rfl); (case hd => rfl); intro xb) | (apply v_read; (case hop => (apply r_loadNo; (case hx => rfl); (case h => (repeat (exact mhd _))); (case hd => (repeat (first | with_reducible exact dt_nil | apply dt_here))); (case hn => rfl))); (case hd => rfl)) | fail)
  refine v_call (μ1 := [(hb, _)]) (μ2 := _) rfl qp (PickA.perm (by repeat (first | exact PickA.last | apply PickA.cons))) rfl ?_
  rintro _ _ _ - ⟨rfl, rfl⟩
  repeat' (first | apply v_seq | apply v_nil)
  refine d_start _ (by kernel_rfl) (by kernel_rfl) (by kernel_rfl) (fun _ he => he) ?_
  all_goals (apply dtk 0; (case hi => rfl); (case hop => (apply prd; apply p_fieldAddrB <;> rfl)); (case hq => kernel_rfl))
  all_goals (apply dtk 1; (case hi => rfl); (case hop => first | (apply r_loadNo; (case hx => rfl); (case h => (repeat (fail))); (case hd => (repeat (fail))); (case hn => rfl)) | (apply r_load1; rfl; (apply Cell.own; (case h => (repeat (first | exact mhd _ | apply mtl))); rfl)) | (apply r_loadN; rfl; (apply CellsAt.own; (case h => (repeat (fail)))); rfl)); (case hq => kernel_rfl))
  all_goals (apply dtk 2; (case hi => rfl); (case hop => (apply prd; apply p_move <;> rfl)); (case hq => kernel_rfl))
  all_goals (apply dtk 3; (case hi => rfl); (case hop => (apply prd; apply p_nilCheck <;> rfl)); (case hq => kernel_rfl))
  all_goals (apply dtk 4; (case hi => rfl); (case hop => (apply prd; apply p_fieldAddrB <;> rfl)); (case hq => kernel_rfl))
  all_goals (apply dtk 5; (case hi => rfl); (case hop => (apply prd; apply p_fieldAddrB <;> rfl)); (case hq => kernel_rfl))
  all_goals (apply dtk 6; (case hi => rfl); (case hop => first | (apply r_loadNo; (case hx => rfl); (case h => (repeat (fail))); (case hd => (repeat (fail))); (case hn => rfl)) | (apply r_load1; rfl; (apply Cell.own; (case h => (repeat (exact mhd _))); rfl)) | (apply r_loadN; rfl; (apply CellsAt.own; (case h => (repeat (fail)))); rfl)); (case hq => kernel_rfl))
  all_goals (apply dtk 7; (case hi => rfl); (case hop => (apply prd; apply p_gt <;> rfl)); (case hq => kernel_rfl))
  all_goals (apply d_done; (case hr => kernel_rfl))
  repeat' (first | apply v_skip | (apply v_cond; (case hc => rfl); all_goals (intro h; (try simp only [reduceCtorEq, zzz] at h))) | fail)
  · have hlt := h
    refine d_start [(xb, .cells (recL x.kind x.round x.node x.index x.cmd iv).toArray 113 (0, 0))] (by kernel_rfl) (by kernel_rfl) (by kernel_rfl) (by intro e he; (simp at he; simp [he]; done)) ?_
    all_goals (apply dtk 0; (case hi => rfl); (case hop => (apply prd; apply p_move <;> rfl)); (case hq => kernel_rfl))
    all_goals (apply dtk 1; (case hi => rfl); (case hop => (apply prd; apply p_move <;> rfl)); (case hq => kernel_rfl))
    all_goals (apply dtk 2; (case hi => rfl); (case hop => (apply prd; apply p_nilCheck <;> rfl)); (case hq => kernel_rfl))
    all_goals (apply dtk 3; (case hi => rfl); (case hop => (apply prd; apply p_fieldAddrB <;> rfl)); (case hq => kernel_rfl))
    all_goals (apply dtk 4; (case hi => rfl); (case hop => (apply prd; apply p_fieldAddrB <;> rfl)); (case hq => kernel_rfl))
    all_goals (apply dtk 6; (case hi => rfl); (case hop => (apply prd; apply p_fieldAddrB <;> rfl)); (case hq => kernel_rfl))
    all_goals (apply dtk 7; (case hi => rfl); (case hop => first | (apply r_loadNo; (case hx => rfl); (case h => (repeat (fail))); (case hd => (repeat (fail))); (case hn => rfl)) | (apply r_load1; rfl; (apply Cell.own; (case h => (repeat (exact mhd _))); rfl)) | (apply r_loadN; rfl; (apply CellsAt.own; (case h => (repeat (fail)))); rfl)); (case hq => kernel_rfl))
    all_goals (apply dtk 8; (case hi => rfl); (case hop => (apply prd; apply p_fieldAddrB <;> rfl)); (case hq => kernel_rfl))
    all_goals (apply dtk 9; (case hi => rfl); (case hop => first | (apply r_loadNo; (case hx => rfl); (case h => (repeat (exact mhd _))); (case hd => (repeat (first | with_reducible exact dt_nil | apply dt_here))); (case hn => rfl)) | (apply r_load1; rfl; (apply Cell.own; (case h => (repeat (fail))); rfl)) | (apply r_loadN; rfl; (apply CellsAt.own; (case h => (repeat (fail)))); rfl)); (case hq => kernel_rfl))
    all_goals (apply dtk 10; (case hi => rfl); (case hop => (apply prd; apply p_fieldAddrB <;> rfl)); (case hq => kernel_rfl))
    all_goals (apply dtk 11; (case hi => rfl); (case hop => first | (apply r_loadNo; (case hx => rfl); (case h => (repeat (exact mhd _))); (case hd => (repeat (first | with_reducible exact dt_nil | apply dt_here))); (case hn => rfl)) | (apply r_load1; rfl; (apply Cell.own; (case h => (repeat (fail))); rfl)) | (apply r_loadN; rfl; (apply CellsAt.own; (case h => (repeat (fail)))); rfl)); (case hq => kernel_rfl))
    all_goals (apply dtk 12; (case hi => rfl); (case hop => (apply prd; apply p_build; (case hz => rfl); (case hv => (simp only [List.map_cons, List.map_nil]; repeat (first | with_reducible exact evs_nil | (apply evs_cons; (case h1 => rfl))))); (case hb => (apply bldL; repeat (first | exact bld_nil | (apply bld_cons; (case hpf => rfl); (case hc => rfl); (case hs => rfl); (case hl => rfl); (case ho => ((repeat (first | with_reducible exact ov_nil | apply ov_cons)); done)))))))); (case hq => kernel_rfl))
    all_goals (apply d_keep 5 (hop := ReadOp.move ?hop); (case hi => rfl); (case hr => kernel_rfl); (case hop => (apply r_load1; rfl; (apply Cell.own; (case h => repeat (exact mhd _)); rfl))); (case hd => rfl))
    all_goals ((apply d_call 13 (hs := qw); (case hi => rfl); (case hr => kernel_rfl);  (case ha => rfl); (case hp => exact List.Perm.refl _); (case hd => rfl); (case hν' => intro e he; simp at he; simp [he]); rintro r1 G1 ν1 - ⟨rfl, hg1⟩; obtain ⟨A2, c2, rfl, -, -⟩ := hg1.shape))
    all_goals (apply dtk 14; (case hi => rfl); (case hop => (apply prd; apply p_nilCheck <;> rfl)); (case hq => kernel_rfl))
    all_goals (apply dtk 15; (case hi => rfl); (case hop => (apply prd; apply p_fieldAddrB <;> rfl)); (case hq => kernel_rfl))
    all_goals (apply dtk 16; (case hi => rfl); (case hop => (apply prd; apply p_fieldAddrB <;> rfl)); (case hq => kernel_rfl))
    all_goals (apply d_store 17; (case hi => rfl); (case hr => kernel_rfl); (case hL => infer_instance); (case hp => rfl); (case hx => rfl); (case hc => rfl); (case hsz => rfl); (case h1 => rfl); (case hb => (repeat (first | exact mhd _ | apply List.mem_append_right))); (case hfit => exact nle rfl); (case hov => ((repeat (first | with_reducible exact ov_nil | apply ov_cons)); done)); (case hu => repeat (first | exact Upd.here _ _ | apply Upd.app)); (case hν' => intro e he; (simp at he; simp [he]; done)))
    all_goals (apply d_done; (case hr => kernel_rfl))
    repeat' (fail)
    refine v_frz ν1 (by repeat (exact PickA.here _)) ?_
    intro G2 hle2 hG2
    refine v_end [(hb, _)] (outsA0 rfl) (by repeat (first | exact List.nil_sublist _ | apply List.Sublist.cons_cons)) ?_
    rw [if_pos hlt]
    exact ⟨_, rfl, _, _, _, rfl, hi.mono hle2, es_of_grow hg1 hG2 hok, esle hc hle2⟩
  · have hlt := h
    refine v_end [(hb, _)] (outsA0 rfl) (by repeat (first | exact List.nil_sublist _ | apply List.Sublist.cons_cons)) ?_
    rw [if_neg hlt]
    exact ⟨_, rfl, _, _, _, rfl, hi, ha, hc⟩
end Go.Proofs.YtmdeeokejdkceaaGreatDoor
/-
  VX, SCOPES: a scope that no goto leaves, and a label.
-/
set_option linter.unusedVariables false
set_option linter.unusedSimpArgs false
namespace Go.Vx
open Go
attribute [local semireducible] Vc
section
variable {P : Program} {fn : Func} {n : Nat} {B : Base} {Φ : Value → GH → OH → Prop} {k : List It} {σ : Env} {G : GH} {μ : OH}
end
end Go.Vx
/-
  VX, A REGION THAT DRAWS ITS ORDER, TWO OPERATIONS READY: either may come first.
-/
set_option linter.unusedVariables false
set_option linter.unusedSimpArgs false
namespace Go.Vx
open Go
attribute [local semireducible] Vc DVc Con PureOp ReadOp MoveOp
def DX (P : Program) (fn : Func) (n : Nat) (B : Base) (Φ : Value → GH → OH → Prop) (all : Array Oper) (G0 : GH) (ν : OH) (m : Nat) (listed : Array Bool) (k : List It) (σ : Env) (G : GH) (μ : OH) (i : Nat) : Prop :=
  Region.noSelect all = true → GH.le G0 G → (∀ e ∈ ν, e ∈ μ) → ∀ w, Step B.G B.μ B.w G μ w → ∀ a, Holds B.rk.ds n σ a → wpOp P all (Kont P B.rk n (Fin B Φ) k) i (fun a' w' => Sees G0 ν w' ∧ wpAnyH P .any all (Kont P B.rk n (Fin B Φ) k) (Sees G0 ν) m (listed.setIfInBounds i true) a' w') a w
section
variable {P : Program} {fn : Func} {n : Nat} {B : Base} {Φ : Value → GH → OH → Prop} {k : List It} {σ : Env} {G G0 : GH} {μ : OH} {all : Array Oper} {m : Nat} {listed : Array Bool} {d : Nat} {op : Op} {ty : TypeId} {pos : String} {af : Array Edge} {v : Value}
theorem d_fork {ν : OH} (i j : Nat) (hr : Region.ready .any all listed = [i, j]) (h1 : DX P fn n B Φ all G0 ν m listed k σ G μ i) (h2 : DX P fn n B Φ all G0 ν m listed k σ G μ j) : DVc P fn n B Φ all G0 ν (m + 1) listed k σ G μ := by
  intro hsel hle hν w hw a ha
  refine wpAnyH_all hr (by simp) fun x hx => ?_
  simp only [List.mem_cons, List.mem_singleton, List.not_mem_nil, or_false] at hx
  obtain rfl | rfl := hx
  · exact h1 hsel hle hν w hw a ha
  · exact h2 hsel hle hν w hw a ha
theorem x_exec {ν : OH} (i : Nat) {Ψ : Value → GH → OH → Prop} (hi : all[i]? = some ⟨some d, op, ty, pos, af, none⟩) (hop : MoveOp P op ty σ G μ Ψ) (hd : Nat.blt d n = true)
    (h : ∀ v G' μ', Ψ v G' μ' → (∀ e ∈ ν, e ∈ μ') ∧ DVc P fn n B Φ all G0 ν m (listed.setIfInBounds i true) k ((d, v) :: σ) G' μ') : DX P fn n B Φ all G0 ν m listed k σ G μ i := by
  intro hsel hle hν w hw a ha
  have hd' : d < n := by simpa [Nat.blt_eq] using hd
  unfold wpOp
  simp only [hi, Region.wanted, if_true]
  refine .inl (hop _ pos af none a.eval ha.agree w hw.mem a _ _ fun v w' G' μ' hs hΨ => ?_)
  obtain ⟨hν', hd⟩ := h v G' μ' hΨ
  have hle' := GH.le_trans hle hs.le
  exact ⟨hs.mem.seesOf hle' hν', hd hsel hle' hν' w' (hw.trans hs) _ (ha.put hd' v)⟩
end
end Go.Vx
/-
  hard (layer 19), the fifth part: what was chosen, an image, any record.
-/
set_option linter.unusedSimpArgs false
set_option linter.unusedVariables false
namespace Go.Proofs.YtmdeeokejdkceaaGreatDoor
open Go.Vx Go.ChangeShapes Go.WideShapes Go.ChangeAt Go.RowKit
noncomputable def choH (h : Hd) (x : Rc) : Hd := if hitB h.cho x.index = false ∧ h.base < x.index then { h with cho := withL h.cho ⟨x.index, 0, 0, x.cmd⟩ } else h
theorem choose_s {G : GH} {H : Hd} {L : List Value} {x : Rc} {xv : Value} {n : Nat} (hb : Nat) (hh : HdV G H L) (g : Good n H) (hn : n ≤ 200) (hx : RcV G x xv) (hok : ∀ e ∈ withL H.cho ⟨x.index, 0, 0, x.cmd⟩, e.ok) :
    Con Tryz.prog 190 #[.pointer (some ⟨hb, 0, none⟩), xv] G [(hb, hdO L)] (fun _ G' μ' => ∃ L', μ' = [(hb, hdO L')] ∧ HdV G' (choH H x) L') := by
  obtain ⟨im, av, cv, rfl, hi, ha, hc⟩ := hh
  obtain ⟨A1, c1, rfl, -⟩ := id hc.open
  obtain ⟨iv, rfl, hxi⟩ := hx
  have qf := find_s x.index hc g.rcho
  have qw := with_s ⟨x.index, 0, 0, x.cmd⟩ hc g.rcho (by have := g.ncho; omega)
  generalize findE H.cho x.index = fe at *
  unfold choH
  cases hbit : hitB H.cho x.index
  all_goals
    rw [hbit] at qf
  · (refine v_enter Tryz.func190 rfl Tryz.ntmps190 rfl ?_; intro B _)
    repeat' (first | apply v_seq | apply v_region | apply v_nil | (apply v_box (zs := recL x.kind x.round x.node x.index x.cmd iv); (case hx => rfl); (case hz => rfl); (case hd => rfl); intro xb) | fail)
    refine d_start _ (by kernel_rfl) (by kernel_rfl) (by kernel_rfl) (fun _ he => he) ?_
    all_goals (apply dtk 0; (case hi => rfl); (case hop => (apply prd; apply p_move <;> rfl)); (case hq => kernel_rfl))
    all_goals (apply dtk 1; (case hi => rfl); (case hop => (apply prd; apply p_nilCheck <;> rfl)); (case hq => kernel_rfl))
    all_goals (apply dtk 2; (case hi => rfl); (case hop => (apply prd; apply p_fieldAddrB <;> rfl)); (case hq => kernel_rfl))
    all_goals (apply dtk 3; (case hi => rfl); (case hop => (apply prd; apply p_fieldAddrB <;> rfl)); (case hq => kernel_rfl))
    all_goals (apply dtk 4; (case hi => rfl); (case hop => first | (apply r_loadNo; (case hx => rfl); (case h => (repeat (fail))); (case hd => (repeat (fail))); (case hn => rfl)) | (apply r_load1; rfl; (apply Cell.own; (case h => (repeat (first | exact mhd _ | apply mtl))); rfl)) | (apply r_loadN; rfl; (apply CellsAt.own; (case h => (repeat (fail)))); rfl)); (case hq => kernel_rfl))
    all_goals (apply dtk 5; (case hi => rfl); (case hop => (apply prd; apply p_fieldAddrB <;> rfl)); (case hq => kernel_rfl))
    all_goals (apply dtk 6; (case hi => rfl); (case hop => first | (apply r_loadNo; (case hx => rfl); (case h => (repeat (fail))); (case hd => (repeat (fail))); (case hn => rfl)) | (apply r_load1; rfl; (apply Cell.own; (case h => (repeat (exact mhd _))); rfl)) | (apply r_loadN; rfl; (apply CellsAt.own; (case h => (repeat (fail)))); rfl)); (case hq => kernel_rfl))
    focus
      refine d_fork 7 11 (by kernel_rfl) ?_ ?_
      rotate_right
      focus
        (apply x_exec 11; (case hi => rfl); (case hop => exact m_alloc rfl); (case hd => rfl); rintro _ _ _ ⟨eb, rfl, rfl, rfl⟩; refine ⟨(by intro e he; (simp at he; simp [he]; done)), ?_⟩)
        all_goals (apply d_callJ 7 (hs := qf); (case hi => rfl); (case hr => kernel_rfl); (case ha => rfl); (case hd => rfl))
        all_goals (apply dtk 8; (case hi => rfl); (case hop => (apply prd; apply p_move <;> rfl)); (case hq => kernel_rfl))
        all_goals (apply dtk 9; (case hi => rfl); (case hop => (apply prd; apply p_extract0 <;> rfl)); (case hq => kernel_rfl))
        all_goals (apply dtk 10; (case hi => rfl); (case hop => (apply prd; apply p_extract1 <;> rfl)); (case hq => kernel_rfl))
        all_goals (apply d_store 12; (case hi => rfl); (case hr => kernel_rfl); (case hL => infer_instance); (case hp => rfl); (case hx => rfl); (case hc => rfl); (case hsz => rfl); (case h1 => rfl); (case hb => (repeat (exact mhd _))); (case hfit => exact nle rfl); (case hov => ((repeat (first | with_reducible exact ov_nil | apply ov_cons)); done)); (case hu => repeat (exact Upd.here _ _)); (case hν' => intro e he; (simp at he; simp [he]; done)))
        all_goals (apply dtk 13; (case hi => rfl); (case hop => (apply prd; apply p_assign <;> rfl)); (case hq => kernel_rfl))
        all_goals (apply d_done; (case hr => kernel_rfl))
      rotate_right
      focus
        (apply x_exec 7; (case hi => rfl); (case hop => apply m_callFJ (hs := qf) <;> rfl); (case hd => rfl); rintro _ _ _ ⟨rfl, rfl, rfl⟩; refine ⟨(by intro e he; exact he), ?_⟩)
        all_goals (apply dtk 8; (case hi => rfl); (case hop => (apply prd; apply p_move <;> rfl)); (case hq => kernel_rfl))
        all_goals (apply dtk 9; (case hi => rfl); (case hop => (apply prd; apply p_extract0 <;> rfl)); (case hq => kernel_rfl))
        all_goals (apply dtk 10; (case hi => rfl); (case hop => (apply prd; apply p_extract1 <;> rfl)); (case hq => kernel_rfl))
        all_goals (apply d_exec 11; (case hi => rfl); (case hr => kernel_rfl); (case hop => exact m_alloc rfl); (case hd => rfl); rintro _ _ _ ⟨eb, rfl, rfl, rfl⟩; refine ⟨(by intro e he; (simp at he; simp [he]; done)), ?_⟩)
        all_goals (apply d_store 12; (case hi => rfl); (case hr => kernel_rfl); (case hL => infer_instance); (case hp => rfl); (case hx => rfl); (case hc => rfl); (case hsz => rfl); (case h1 => rfl); (case hb => (repeat (exact mhd _))); (case hfit => exact nle rfl); (case hov => ((repeat (first | with_reducible exact ov_nil | apply ov_cons)); done)); (case hu => repeat (exact Upd.here _ _)); (case hν' => intro e he; (simp at he; simp [he]; done)))
        all_goals (apply dtk 13; (case hi => rfl); (case hop => (apply prd; apply p_assign <;> rfl)); (case hq => kernel_rfl))
        all_goals (apply d_done; (case hr => kernel_rfl))
    all_goals
      repeat' (first | apply v_seq)
    all_goals
      refine d_start _ (by kernel_rfl) (by kernel_rfl) (by kernel_rfl) (fun _ he => he) ?_
      all_goals (apply dtk 0; (case hi => rfl); (case hop => (apply prd; apply p_move <;> rfl)); (case hq => kernel_rfl))
      all_goals (apply dtk 1; (case hi => rfl); (case hop => (apply prd; apply p_not <;> rfl)); (case hq => kernel_rfl))
      all_goals (apply dtk 2; (case hi => rfl); (case hop => (apply prd; apply p_move <;> rfl)); (case hq => kernel_rfl))
      all_goals (try (apply d_guardB 3; (case hi => rfl); (case hgd => rfl); (case h1 => rfl); (case h2 => rfl); all_goals (intro h; (try simp only [reduceCtorEq, zzz] at h))))
      all_goals (apply dtg 3; (case hi => rfl); (case hg => rfl); (case hop => (apply prd; apply p_fieldAddrB <;> rfl)); (case hq => kernel_rfl))
      all_goals (try (apply d_guardB 4; (case hi => rfl); (case hgd => rfl); (case h1 => rfl); (case h2 => rfl); all_goals (intro h; (try simp only [reduceCtorEq, zzz] at h))))
      all_goals (apply dtg 4; (case hi => rfl); (case hg => rfl); (case hop => first | (apply r_loadNo; (case hx => rfl); (case h => (repeat (fail))); (case hd => (repeat (fail))); (case hn => rfl)) | (apply r_load1; rfl; (apply Cell.own; (case h => (repeat (first | exact mhd _ | apply mtl))); rfl)) | (apply r_loadN; rfl; (apply CellsAt.own; (case h => (repeat (fail)))); rfl)); (case hq => kernel_rfl))
      all_goals (try (apply d_guardB 5; (case hi => rfl); (case hgd => rfl); (case h1 => rfl); (case h2 => rfl); all_goals (intro h; (try simp only [reduceCtorEq, zzz] at h))))
      all_goals (apply dtg 5; (case hi => rfl); (case hg => rfl); (case hop => (apply prd; apply p_move <;> rfl)); (case hq => kernel_rfl))
      all_goals (try (apply d_guardB 6; (case hi => rfl); (case hgd => rfl); (case h1 => rfl); (case h2 => rfl); all_goals (intro h; (try simp only [reduceCtorEq, zzz] at h))))
      all_goals (apply dtg 6; (case hi => rfl); (case hg => rfl); (case hop => (apply prd; apply p_nilCheck <;> rfl)); (case hq => kernel_rfl))
      all_goals (try (apply d_guardB 7; (case hi => rfl); (case hgd => rfl); (case h1 => rfl); (case h2 => rfl); all_goals (intro h; (try simp only [reduceCtorEq, zzz] at h))))
      all_goals (apply dtg 7; (case hi => rfl); (case hg => rfl); (case hop => (apply prd; apply p_fieldAddrB <;> rfl)); (case hq => kernel_rfl))
      all_goals (try (apply d_guardB 8; (case hi => rfl); (case hgd => rfl); (case h1 => rfl); (case h2 => rfl); all_goals (intro h; (try simp only [reduceCtorEq, zzz] at h))))
      all_goals (apply dtg 8; (case hi => rfl); (case hg => rfl); (case hop => (apply prd; apply p_fieldAddrB <;> rfl)); (case hq => kernel_rfl))
      all_goals (try (apply d_guardB 9; (case hi => rfl); (case hgd => rfl); (case h1 => rfl); (case h2 => rfl); all_goals (intro h; (try simp only [reduceCtorEq, zzz] at h))))
      all_goals (apply dtg 9; (case hi => rfl); (case hg => rfl); (case hop => first | (apply r_loadNo; (case hx => rfl); (case h => (repeat (fail))); (case hd => (repeat (fail))); (case hn => rfl)) | (apply r_load1; rfl; (apply Cell.own; (case h => (repeat (first | exact mhd _ | apply mtl))); rfl)) | (apply r_loadN; rfl; (apply CellsAt.own; (case h => (repeat (fail)))); rfl)); (case hq => kernel_rfl))
      all_goals (try (apply d_guardB 10; (case hi => rfl); (case hgd => rfl); (case h1 => rfl); (case h2 => rfl); all_goals (intro h; (try simp only [reduceCtorEq, zzz] at h))))
      all_goals (apply dtg 10; (case hi => rfl); (case hg => rfl); (case hop => (apply prd; apply p_gt <;> rfl)); (case hq => kernel_rfl))
      all_goals (apply dtk 11; (case hi => rfl); (case hop => (apply prd; apply p_pickT <;> rfl)); (case hq => kernel_rfl))
      all_goals (apply d_done; (case hr => kernel_rfl))
    all_goals
      repeat' (first | apply v_skip | (apply v_cond; (case hc => rfl); all_goals (intro h; (try simp only [reduceCtorEq, zzz] at h))) | fail)
    · have hlt := h
      refine d_start [(xb, .cells (recL x.kind x.round x.node x.index x.cmd iv).toArray 113 (0, 0))] (by kernel_rfl) (by kernel_rfl) (by kernel_rfl) (by intro e he; (simp at he; simp [he]; done)) ?_
      all_goals (apply dtk 0; (case hi => rfl); (case hop => (apply prd; apply p_move <;> rfl)); (case hq => kernel_rfl))
      all_goals (apply dtk 1; (case hi => rfl); (case hop => (apply prd; apply p_move <;> rfl)); (case hq => kernel_rfl))
      all_goals (apply dtk 2; (case hi => rfl); (case hop => (apply prd; apply p_nilCheck <;> rfl)); (case hq => kernel_rfl))
      all_goals (apply dtk 3; (case hi => rfl); (case hop => (apply prd; apply p_fieldAddrB <;> rfl)); (case hq => kernel_rfl))
      all_goals (apply dtk 4; (case hi => rfl); (case hop => (apply prd; apply p_fieldAddrB <;> rfl)); (case hq => kernel_rfl))
      all_goals (apply dtk 6; (case hi => rfl); (case hop => (apply prd; apply p_fieldAddrB <;> rfl)); (case hq => kernel_rfl))
      all_goals (apply dtk 7; (case hi => rfl); (case hop => first | (apply r_loadNo; (case hx => rfl); (case h => (repeat (fail))); (case hd => (repeat (fail))); (case hn => rfl)) | (apply r_load1; rfl; (apply Cell.own; (case h => (repeat (exact mhd _))); rfl)) | (apply r_loadN; rfl; (apply CellsAt.own; (case h => (repeat (fail)))); rfl)); (case hq => kernel_rfl))
      all_goals (apply dtk 8; (case hi => rfl); (case hop => (apply prd; apply p_fieldAddrB <;> rfl)); (case hq => kernel_rfl))
      all_goals (apply dtk 9; (case hi => rfl); (case hop => first | (apply r_loadNo; (case hx => rfl); (case h => (repeat (exact mhd _))); (case hd => (repeat (first | with_reducible exact dt_nil | apply dt_here))); (case hn => rfl)) | (apply r_load1; rfl; (apply Cell.own; (case h => (repeat (fail))); rfl)) | (apply r_loadN; rfl; (apply CellsAt.own; (case h => (repeat (fail)))); rfl)); (case hq => kernel_rfl))
      all_goals (apply dtk 10; (case hi => rfl); (case hop => (apply prd; apply p_build; (case hz => rfl); (case hv => (simp only [List.map_cons, List.map_nil]; repeat (first | with_reducible exact evs_nil | (apply evs_cons; (case h1 => rfl))))); (case hb => (apply bldL; repeat (first | exact bld_nil | (apply bld_cons; (case hpf => rfl); (case hc => rfl); (case hs => rfl); (case hl => rfl); (case ho => ((repeat (first | with_reducible exact ov_nil | apply ov_cons)); done)))))))); (case hq => kernel_rfl))
      all_goals (apply d_keep 5 (hop := ReadOp.move ?hop); (case hi => rfl); (case hr => kernel_rfl); (case hop => (apply r_load1; rfl; (apply Cell.own; (case h => repeat (first | exact mhd _ | apply mtl)); rfl))); (case hd => rfl))
      all_goals ((apply d_call 11 (hs := qw); (case hi => rfl); (case hr => kernel_rfl);  (case ha => rfl); (case hp => exact List.Perm.refl _); (case hd => rfl); (case hν' => intro e he; simp at he; simp [he]); rintro r1 G1 ν1 - ⟨rfl, hg1⟩; obtain ⟨A2, c2, rfl, -, -⟩ := hg1.shape))
      all_goals (apply dtk 12; (case hi => rfl); (case hop => (apply prd; apply p_nilCheck <;> rfl)); (case hq => kernel_rfl))
      all_goals (apply dtk 13; (case hi => rfl); (case hop => (apply prd; apply p_fieldAddrB <;> rfl)); (case hq => kernel_rfl))
      all_goals (apply dtk 14; (case hi => rfl); (case hop => (apply prd; apply p_fieldAddrB <;> rfl)); (case hq => kernel_rfl))
      all_goals (apply d_store 15; (case hi => rfl); (case hr => kernel_rfl); (case hL => infer_instance); (case hp => rfl); (case hx => rfl); (case hc => rfl); (case hsz => rfl); (case h1 => rfl); (case hb => (repeat (first | exact mhd _ | apply mtl | apply List.mem_append_right))); (case hfit => exact nle rfl); (case hov => ((repeat (first | with_reducible exact ov_nil | apply ov_cons)); done)); (case hu => repeat (first | exact Upd.here _ _ | apply Upd.there | apply Upd.app)); (case hν' => intro e he; (simp at he; simp [he]; done)))
      all_goals (apply d_done; (case hr => kernel_rfl))
      repeat' (fail)
      refine v_frz ν1 (by repeat (exact PickA.here _)) ?_
      intro G2 hle2 hG2
      refine v_end [(hb, _)] (outsA0 rfl) (by repeat (first | exact List.Sublist.refl _ | apply List.Sublist.cons)) ?_
      rw [if_pos ⟨rfl, hlt⟩]
      exact ⟨_, rfl, _, _, _, rfl, hi.mono hle2, esle ha hle2, es_of_grow hg1 hG2 hok⟩
    · have hlt := h
      refine v_end [(hb, _)] (outsA0 rfl) (by repeat (first | exact List.Sublist.refl _ | apply List.Sublist.cons)) ?_
      rw [if_neg fun hh => hlt hh.2]
      exact ⟨_, rfl, _, _, _, rfl, hi, ha, hc⟩
    · have hlt := h
      refine d_start [(xb, .cells (recL x.kind x.round x.node x.index x.cmd iv).toArray 113 (0, 0))] (by kernel_rfl) (by kernel_rfl) (by kernel_rfl) (by intro e he; (simp at he; simp [he]; done)) ?_
      all_goals (apply dtk 0; (case hi => rfl); (case hop => (apply prd; apply p_move <;> rfl)); (case hq => kernel_rfl))
      all_goals (apply dtk 1; (case hi => rfl); (case hop => (apply prd; apply p_move <;> rfl)); (case hq => kernel_rfl))
      all_goals (apply dtk 2; (case hi => rfl); (case hop => (apply prd; apply p_nilCheck <;> rfl)); (case hq => kernel_rfl))
      all_goals (apply dtk 3; (case hi => rfl); (case hop => (apply prd; apply p_fieldAddrB <;> rfl)); (case hq => kernel_rfl))
      all_goals (apply dtk 4; (case hi => rfl); (case hop => (apply prd; apply p_fieldAddrB <;> rfl)); (case hq => kernel_rfl))
      all_goals (apply dtk 6; (case hi => rfl); (case hop => (apply prd; apply p_fieldAddrB <;> rfl)); (case hq => kernel_rfl))
      all_goals (apply dtk 7; (case hi => rfl); (case hop => first | (apply r_loadNo; (case hx => rfl); (case h => (repeat (fail))); (case hd => (repeat (fail))); (case hn => rfl)) | (apply r_load1; rfl; (apply Cell.own; (case h => (repeat (exact mhd _))); rfl)) | (apply r_loadN; rfl; (apply CellsAt.own; (case h => (repeat (fail)))); rfl)); (case hq => kernel_rfl))
      all_goals (apply dtk 8; (case hi => rfl); (case hop => (apply prd; apply p_fieldAddrB <;> rfl)); (case hq => kernel_rfl))
      all_goals (apply dtk 9; (case hi => rfl); (case hop => first | (apply r_loadNo; (case hx => rfl); (case h => (repeat (exact mhd _))); (case hd => (repeat (first | with_reducible exact dt_nil | apply dt_here))); (case hn => rfl)) | (apply r_load1; rfl; (apply Cell.own; (case h => (repeat (fail))); rfl)) | (apply r_loadN; rfl; (apply CellsAt.own; (case h => (repeat (fail)))); rfl)); (case hq => kernel_rfl))
      all_goals (apply dtk 10; (case hi => rfl); (case hop => (apply prd; apply p_build; (case hz => rfl); (case hv => (simp only [List.map_cons, List.map_nil]; repeat (first | with_reducible exact evs_nil | (apply evs_cons; (case h1 => rfl))))); (case hb => (apply bldL; repeat (first | exact bld_nil | (apply bld_cons; (case hpf => rfl); (case hc => rfl); (case hs => rfl); (case hl => rfl); (case ho => ((repeat (first | with_reducible exact ov_nil | apply ov_cons)); done)))))))); (case hq => kernel_rfl))
      all_goals (apply d_keep 5 (hop := ReadOp.move ?hop); (case hi => rfl); (case hr => kernel_rfl); (case hop => (apply r_load1; rfl; (apply Cell.own; (case h => repeat (first | exact mhd _ | apply mtl)); rfl))); (case hd => rfl))
      all_goals ((apply d_call 11 (hs := qw); (case hi => rfl); (case hr => kernel_rfl);  (case ha => rfl); (case hp => exact List.Perm.refl _); (case hd => rfl); (case hν' => intro e he; simp at he; simp [he]); rintro r1 G1 ν1 - ⟨rfl, hg1⟩; obtain ⟨A2, c2, rfl, -, -⟩ := hg1.shape))
      all_goals (apply dtk 12; (case hi => rfl); (case hop => (apply prd; apply p_nilCheck <;> rfl)); (case hq => kernel_rfl))
      all_goals (apply dtk 13; (case hi => rfl); (case hop => (apply prd; apply p_fieldAddrB <;> rfl)); (case hq => kernel_rfl))
      all_goals (apply dtk 14; (case hi => rfl); (case hop => (apply prd; apply p_fieldAddrB <;> rfl)); (case hq => kernel_rfl))
      all_goals (apply d_store 15; (case hi => rfl); (case hr => kernel_rfl); (case hL => infer_instance); (case hp => rfl); (case hx => rfl); (case hc => rfl); (case hsz => rfl); (case h1 => rfl); (case hb => (repeat (first | exact mhd _ | apply mtl | apply List.mem_append_right))); (case hfit => exact nle rfl); (case hov => ((repeat (first | with_reducible exact ov_nil | apply ov_cons)); done)); (case hu => repeat (first | exact Upd.here _ _ | apply Upd.there | apply Upd.app)); (case hν' => intro e he; (simp at he; simp [he]; done)))
      all_goals (apply d_done; (case hr => kernel_rfl))
      repeat' (fail)
      refine v_frz ν1 (by repeat (exact PickA.here _)) ?_
      intro G2 hle2 hG2
      refine v_end [(hb, _)] (outsA0 rfl) (by repeat (first | exact List.Sublist.refl _ | apply List.Sublist.cons)) ?_
      rw [if_pos ⟨rfl, hlt⟩]
      exact ⟨_, rfl, _, _, _, rfl, hi.mono hle2, esle ha hle2, es_of_grow hg1 hG2 hok⟩
    · have hlt := h
      refine v_end [(hb, _)] (outsA0 rfl) (by repeat (first | exact List.Sublist.refl _ | apply List.Sublist.cons)) ?_
      rw [if_neg fun hh => hlt hh.2]
      exact ⟨_, rfl, _, _, _, rfl, hi, ha, hc⟩
  · (refine v_enter Tryz.func190 rfl Tryz.ntmps190 rfl ?_; intro B _)
    repeat' (first | apply v_seq | apply v_region | apply v_nil | (apply v_box (zs := recL x.kind x.round x.node x.index x.cmd iv); (case hx => rfl); (case hz => rfl); (case hd => rfl); intro xb) | fail)
    refine d_start _ (by kernel_rfl) (by kernel_rfl) (by kernel_rfl) (fun _ he => he) ?_
    all_goals (apply dtk 0; (case hi => rfl); (case hop => (apply prd; apply p_move <;> rfl)); (case hq => kernel_rfl))
    all_goals (apply dtk 1; (case hi => rfl); (case hop => (apply prd; apply p_nilCheck <;> rfl)); (case hq => kernel_rfl))
    all_goals (apply dtk 2; (case hi => rfl); (case hop => (apply prd; apply p_fieldAddrB <;> rfl)); (case hq => kernel_rfl))
    all_goals (apply dtk 3; (case hi => rfl); (case hop => (apply prd; apply p_fieldAddrB <;> rfl)); (case hq => kernel_rfl))
    all_goals (apply dtk 4; (case hi => rfl); (case hop => first | (apply r_loadNo; (case hx => rfl); (case h => (repeat (fail))); (case hd => (repeat (fail))); (case hn => rfl)) | (apply r_load1; rfl; (apply Cell.own; (case h => (repeat (first | exact mhd _ | apply mtl))); rfl)) | (apply r_loadN; rfl; (apply CellsAt.own; (case h => (repeat (fail)))); rfl)); (case hq => kernel_rfl))
    all_goals (apply dtk 5; (case hi => rfl); (case hop => (apply prd; apply p_fieldAddrB <;> rfl)); (case hq => kernel_rfl))
    all_goals (apply dtk 6; (case hi => rfl); (case hop => first | (apply r_loadNo; (case hx => rfl); (case h => (repeat (fail))); (case hd => (repeat (fail))); (case hn => rfl)) | (apply r_load1; rfl; (apply Cell.own; (case h => (repeat (exact mhd _))); rfl)) | (apply r_loadN; rfl; (apply CellsAt.own; (case h => (repeat (fail)))); rfl)); (case hq => kernel_rfl))
    focus
      refine d_fork 7 11 (by kernel_rfl) ?_ ?_
      rotate_right
      focus
        (apply x_exec 11; (case hi => rfl); (case hop => exact m_alloc rfl); (case hd => rfl); rintro _ _ _ ⟨eb, rfl, rfl, rfl⟩; refine ⟨(by intro e he; (simp at he; simp [he]; done)), ?_⟩)
        all_goals (apply d_callJ 7 (hs := qf); (case hi => rfl); (case hr => kernel_rfl); (case ha => rfl); (case hd => rfl))
        all_goals (apply dtk 8; (case hi => rfl); (case hop => (apply prd; apply p_move <;> rfl)); (case hq => kernel_rfl))
        all_goals (apply dtk 9; (case hi => rfl); (case hop => (apply prd; apply p_extract0 <;> rfl)); (case hq => kernel_rfl))
        all_goals (apply dtk 10; (case hi => rfl); (case hop => (apply prd; apply p_extract1 <;> rfl)); (case hq => kernel_rfl))
        all_goals (apply d_store 12; (case hi => rfl); (case hr => kernel_rfl); (case hL => infer_instance); (case hp => rfl); (case hx => rfl); (case hc => rfl); (case hsz => rfl); (case h1 => rfl); (case hb => (repeat (exact mhd _))); (case hfit => exact nle rfl); (case hov => ((repeat (first | with_reducible exact ov_nil | apply ov_cons)); done)); (case hu => repeat (exact Upd.here _ _)); (case hν' => intro e he; (simp at he; simp [he]; done)))
        all_goals (apply dtk 13; (case hi => rfl); (case hop => (apply prd; apply p_assign <;> rfl)); (case hq => kernel_rfl))
        all_goals (apply d_done; (case hr => kernel_rfl))
      rotate_right
      focus
        (apply x_exec 7; (case hi => rfl); (case hop => apply m_callFJ (hs := qf) <;> rfl); (case hd => rfl); rintro _ _ _ ⟨rfl, rfl, rfl⟩; refine ⟨(by intro e he; exact he), ?_⟩)
        all_goals (apply dtk 8; (case hi => rfl); (case hop => (apply prd; apply p_move <;> rfl)); (case hq => kernel_rfl))
        all_goals (apply dtk 9; (case hi => rfl); (case hop => (apply prd; apply p_extract0 <;> rfl)); (case hq => kernel_rfl))
        all_goals (apply dtk 10; (case hi => rfl); (case hop => (apply prd; apply p_extract1 <;> rfl)); (case hq => kernel_rfl))
        all_goals (apply d_exec 11; (case hi => rfl); (case hr => kernel_rfl); (case hop => exact m_alloc rfl); (case hd => rfl); rintro _ _ _ ⟨eb, rfl, rfl, rfl⟩; refine ⟨(by intro e he; (simp at he; simp [he]; done)), ?_⟩)
        all_goals (apply d_store 12; (case hi => rfl); (case hr => kernel_rfl); (case hL => infer_instance); (case hp => rfl); (case hx => rfl); (case hc => rfl); (case hsz => rfl); (case h1 => rfl); (case hb => (repeat (exact mhd _))); (case hfit => exact nle rfl); (case hov => ((repeat (first | with_reducible exact ov_nil | apply ov_cons)); done)); (case hu => repeat (exact Upd.here _ _)); (case hν' => intro e he; (simp at he; simp [he]; done)))
        all_goals (apply dtk 13; (case hi => rfl); (case hop => (apply prd; apply p_assign <;> rfl)); (case hq => kernel_rfl))
        all_goals (apply d_done; (case hr => kernel_rfl))
    all_goals
      repeat' (first | apply v_seq)
    all_goals
      refine d_start _ (by kernel_rfl) (by kernel_rfl) (by kernel_rfl) (fun _ he => he) ?_
      all_goals (apply dtk 0; (case hi => rfl); (case hop => (apply prd; apply p_move <;> rfl)); (case hq => kernel_rfl))
      all_goals (apply dtk 1; (case hi => rfl); (case hop => (apply prd; apply p_not <;> rfl)); (case hq => kernel_rfl))
      all_goals (apply dtk 2; (case hi => rfl); (case hop => (apply prd; apply p_move <;> rfl)); (case hq => kernel_rfl))
      all_goals (try (apply d_guardB 3; (case hi => rfl); (case hgd => rfl); (case h1 => rfl); (case h2 => rfl); all_goals (intro h; (try simp only [reduceCtorEq, zzz] at h))))
      all_goals (apply dpa 3; (case hi => rfl); (case hg => rfl); (case hn => rfl); (case hq => kernel_rfl))
      all_goals (try (apply d_guardB 4; (case hi => rfl); (case hgd => rfl); (case h1 => rfl); (case h2 => rfl); all_goals (intro h; (try simp only [reduceCtorEq, zzz] at h))))
      all_goals (apply dpa 4; (case hi => rfl); (case hg => rfl); (case hn => rfl); (case hq => kernel_rfl))
      all_goals (try (apply d_guardB 5; (case hi => rfl); (case hgd => rfl); (case h1 => rfl); (case h2 => rfl); all_goals (intro h; (try simp only [reduceCtorEq, zzz] at h))))
      all_goals (apply dpa 5; (case hi => rfl); (case hg => rfl); (case hn => rfl); (case hq => kernel_rfl))
      all_goals (try (apply d_guardB 6; (case hi => rfl); (case hgd => rfl); (case h1 => rfl); (case h2 => rfl); all_goals (intro h; (try simp only [reduceCtorEq, zzz] at h))))
      all_goals (apply dpa 6; (case hi => rfl); (case hg => rfl); (case hn => rfl); (case hq => kernel_rfl))
      all_goals (try (apply d_guardB 7; (case hi => rfl); (case hgd => rfl); (case h1 => rfl); (case h2 => rfl); all_goals (intro h; (try simp only [reduceCtorEq, zzz] at h))))
      all_goals (apply dpa 7; (case hi => rfl); (case hg => rfl); (case hn => rfl); (case hq => kernel_rfl))
      all_goals (try (apply d_guardB 8; (case hi => rfl); (case hgd => rfl); (case h1 => rfl); (case h2 => rfl); all_goals (intro h; (try simp only [reduceCtorEq, zzz] at h))))
      all_goals (apply dpa 8; (case hi => rfl); (case hg => rfl); (case hn => rfl); (case hq => kernel_rfl))
      all_goals (try (apply d_guardB 9; (case hi => rfl); (case hgd => rfl); (case h1 => rfl); (case h2 => rfl); all_goals (intro h; (try simp only [reduceCtorEq, zzz] at h))))
      all_goals (apply dpa 9; (case hi => rfl); (case hg => rfl); (case hn => rfl); (case hq => kernel_rfl))
      all_goals (try (apply d_guardB 10; (case hi => rfl); (case hgd => rfl); (case h1 => rfl); (case h2 => rfl); all_goals (intro h; (try simp only [reduceCtorEq, zzz] at h))))
      all_goals (apply dpa 10; (case hi => rfl); (case hg => rfl); (case hn => rfl); (case hq => kernel_rfl))
      all_goals (apply dtk 11; (case hi => rfl); (case hop => (apply prd; apply p_pickF <;> rfl)); (case hq => kernel_rfl))
      all_goals (apply d_done; (case hr => kernel_rfl))
    all_goals
      repeat' (first | apply v_skip | (apply v_condF; (case hc => rfl)) | fail)
    all_goals
      (refine v_end [(hb, _)] (outsA0 rfl) (by repeat (first | exact List.Sublist.refl _ | apply List.Sublist.cons)) ?_
       rw [if_neg (by simp)]
       exact ⟨_, rfl, _, _, _, rfl, hi, ha, hc⟩)
end Go.Proofs.YtmdeeokejdkceaaGreatDoor
/-
  hard (layer 19), the sixth part: an image; any record.
-/
set_option linter.unusedSimpArgs false
set_option linter.unusedVariables false
namespace Go.Proofs.YtmdeeokejdkceaaGreatDoor
open Go.Vx Go.ChangeShapes Go.WideShapes Go.ChangeAt Go.RowKit
noncomputable def takeH (h : Hd) (x : Rc) : Hd := if x.index ≤ h.base then h else { h with base := x.index, image := x.image, acc := h.acc.drop (placeN h.acc (x.index + 1)), cho := h.cho.drop (placeN h.cho (x.index + 1)) }
theorem take_s {G : GH} {H : Hd} {L : List Value} {x : Rc} {xv : Value} {n : Nat} (hb : Nat) (hh : HdV G H L) (g : Good n H) (hn : n ≤ 200) (hx : RcV G x xv) (him : x.image.length ≤ 40000) (hxi : 0 ≤ x.index ∧ x.index ≤ 4294967296) :
    Con Tryz.prog 191 #[.pointer (some ⟨hb, 0, none⟩), xv] G [(hb, hdO L)] (fun _ G' μ' => ∃ L', μ' = [(hb, hdO L')] ∧ HdV G' (takeH H x) L') := by
  obtain ⟨im, av, cv, rfl, hi, ha, hc⟩ := hh
  obtain ⟨A0, c0, rfl, -⟩ := id hi.openInt
  obtain ⟨A1, c1, rfl, -⟩ := id ha.open
  obtain ⟨A2, c2, rfl, -⟩ := id hc.open
  obtain ⟨iv, rfl, hxv⟩ := hx
  obtain ⟨A3, c3, rfl, -⟩ := id hxv.openInt
  have qc := bclone_s hxv (by omega)
  have hwf := hxv.openInt
  obtain ⟨_, _, -, -, -, -, -, hwx⟩ := hwf
  have hna := g.nacc
  have hnc := g.ncho
  unfold takeH
  generalize hivl : Value.slice A3 x.image.length c3 = iv at *
  (refine v_enter Tryz.func191 rfl Tryz.ntmps191 rfl ?_; intro B _)
  repeat' (first | apply v_seq | apply v_region | apply v_nil | (apply v_box (zs := recL x.kind x.round x.node x.index x.cmd iv); (case hx => rfl); (case hz => rfl); (case hd => rfl); intro xb) | fail)
  refine d_start _ (by kernel_rfl) (by kernel_rfl) (by kernel_rfl) (fun _ he => he) ?_
  all_goals (apply dtk 0; (case hi => rfl); (case hop => (apply prd; apply p_fieldAddrB <;> rfl)); (case hq => kernel_rfl))
  all_goals (apply dtk 1; (case hi => rfl); (case hop => first | (apply r_loadNo; (case hx => rfl); (case h => (repeat (fail))); (case hd => (repeat (fail))); (case hn => rfl)) | (apply r_load1; rfl; (apply Cell.own; (case h => (repeat (exact mhd _))); rfl)) | (apply r_loadN; rfl; (apply CellsAt.own; (case h => (repeat (fail)))); rfl)); (case hq => kernel_rfl))
  all_goals (apply dtk 2; (case hi => rfl); (case hop => (apply prd; apply p_move <;> rfl)); (case hq => kernel_rfl))
  all_goals (apply dtk 3; (case hi => rfl); (case hop => (apply prd; apply p_nilCheck <;> rfl)); (case hq => kernel_rfl))
  all_goals (apply dtk 4; (case hi => rfl); (case hop => (apply prd; apply p_fieldAddrB <;> rfl)); (case hq => kernel_rfl))
  all_goals (apply dtk 5; (case hi => rfl); (case hop => (apply prd; apply p_fieldAddrB <;> rfl)); (case hq => kernel_rfl))
  all_goals (apply dtk 6; (case hi => rfl); (case hop => first | (apply r_loadNo; (case hx => rfl); (case h => (repeat (fail))); (case hd => (repeat (fail))); (case hn => rfl)) | (apply r_load1; rfl; (apply Cell.own; (case h => (repeat (first | exact mhd _ | apply mtl))); rfl)) | (apply r_loadN; rfl; (apply CellsAt.own; (case h => (repeat (fail)))); rfl)); (case hq => kernel_rfl))
  all_goals (apply dtk 7; (case hi => rfl); (case hop => (apply prd; apply p_le <;> rfl)); (case hq => kernel_rfl))
  all_goals (apply d_done; (case hr => kernel_rfl))
  repeat' (first | apply v_seq | apply v_skip | (apply v_cond; (case hc => rfl); all_goals (intro h; (try simp only [reduceCtorEq, zzz] at h))) | fail)
  · have hle := h
    refine v_ret [(hb, _)] (outsA0 rfl) (by repeat (first | exact List.Sublist.refl _ | apply List.Sublist.cons)) ?_
    rw [if_pos hle]
    exact ⟨_, rfl, _, _, _, rfl, hi, ha, hc⟩
  · have hgt := h
    rw [if_neg hgt]
    subst hivl
    refine d_start [(xb, .cells (recL x.kind x.round x.node x.index x.cmd (.slice A3 x.image.length c3)).toArray 113 (0, 0))] (by kernel_rfl) (by kernel_rfl) (by kernel_rfl) (by intro e he; (simp at he; simp [he]; done)) ?_
    all_goals (apply dtk 0; (case hi => rfl); (case hop => (apply prd; apply p_move <;> rfl)); (case hq => kernel_rfl))
    all_goals (apply dtk 1; (case hi => rfl); (case hop => (apply prd; apply p_move <;> rfl)); (case hq => kernel_rfl))
    all_goals (apply dtk 2; (case hi => rfl); (case hop => (apply prd; apply p_fieldAddrB <;> rfl)); (case hq => kernel_rfl))
    all_goals (apply dtk 3; (case hi => rfl); (case hop => first | (apply r_loadNo; (case hx => rfl); (case h => (repeat (fail))); (case hd => (repeat (fail))); (case hn => rfl)) | (apply r_load1; rfl; (apply Cell.own; (case h => (repeat (exact mhd _))); rfl)) | (apply r_loadN; rfl; (apply CellsAt.own; (case h => (repeat (fail)))); rfl)); (case hq => kernel_rfl))
    all_goals (apply dtk 4; (case hi => rfl); (case hop => (apply prd; apply p_fieldAddrB <;> rfl)); (case hq => kernel_rfl))
    all_goals (apply dtk 5; (case hi => rfl); (case hop => first | (apply r_loadNo; (case hx => rfl); (case h => (repeat (fail))); (case hd => (repeat (fail))); (case hn => rfl)) | (apply r_load1; rfl; (apply Cell.own; (case h => (repeat (exact mhd _))); rfl)) | (apply r_loadN; rfl; (apply CellsAt.own; (case h => (repeat (fail)))); rfl)); (case hq => kernel_rfl))
    all_goals ((apply d_call 6 (hs := qc); (case hi => rfl); (case hr => kernel_rfl);  (case ha => rfl); (case hp => exact List.Perm.refl _); (case hd => rfl); (case hν' => intro e he; simp at he; simp [he]); rintro r1 G1 ν1 - ⟨rfl, hg1⟩; obtain ⟨A4, c4, rfl, -, -⟩ := hg1.shape))
    all_goals (apply dtk 7; (case hi => rfl); (case hop => (apply prd; apply p_nilCheck <;> rfl)); (case hq => kernel_rfl))
    all_goals (apply dtk 8; (case hi => rfl); (case hop => (apply prd; apply p_fieldAddrB <;> rfl)); (case hq => kernel_rfl))
    all_goals (apply dtk 9; (case hi => rfl); (case hop => (apply prd; apply p_fieldAddrB <;> rfl)); (case hq => kernel_rfl))
    all_goals (apply d_store 10; (case hi => rfl); (case hr => kernel_rfl); (case hL => infer_instance); (case hp => rfl); (case hx => rfl); (case hc => rfl); (case hsz => rfl); (case h1 => rfl); (case hb => (repeat (first | exact mhd _ | apply mtl | apply List.mem_append_right))); (case hfit => exact nle rfl); (case hov => ((repeat (first | with_reducible exact ov_nil | apply ov_cons)); done)); (case hu => repeat (first | exact Upd.here _ _ | apply Upd.there | apply Upd.app)); (case hν' => intro e he; (simp at he; simp [he]; done)))
    all_goals (apply dtk 11; (case hi => rfl); (case hop => (apply prd; apply p_nilCheck <;> rfl)); (case hq => kernel_rfl))
    all_goals (apply dtk 12; (case hi => rfl); (case hop => (apply prd; apply p_fieldAddrB <;> rfl)); (case hq => kernel_rfl))
    all_goals (apply dtk 13; (case hi => rfl); (case hop => (apply prd; apply p_fieldAddrB <;> rfl)); (case hq => kernel_rfl))
    all_goals (apply d_store 14; (case hi => rfl); (case hr => kernel_rfl); (case hL => infer_instance); (case hp => rfl); (case hx => rfl); (case hc => rfl); (case hsz => rfl); (case h1 => rfl); (case hb => (repeat (first | exact mhd _ | apply mtl | apply List.mem_append_right))); (case hfit => exact nle rfl); (case hov => ((repeat (first | with_reducible exact ov_nil | apply ov_cons)); done)); (case hu => repeat (first | exact Upd.here _ _ | apply Upd.there | apply Upd.app)); (case hν' => intro e he; (simp at he; simp [he]; done)))
    all_goals (apply d_done; (case hr => kernel_rfl))
    repeat' (first | apply v_seq)
    refine v_frz ν1 (by repeat (exact PickA.here _)) ?_
    intro G2 hle2 hG2
    have hi2 := hg1.ints hG2 hwx
    have ha2 := esle ha hle2
    have qa := from_s (x.index + 1) ha2 g.racc (by omega)
    refine d_start [(xb, .cells (recL x.kind x.round x.node x.index x.cmd (.slice A3 x.image.length c3)).toArray 113 (0, 0))] (by kernel_rfl) (by kernel_rfl) (by kernel_rfl) (by intro e he; (simp at he; simp [he]; done)) ?_
    all_goals (apply dtk 0; (case hi => rfl); (case hop => (apply prd; apply p_move <;> rfl)); (case hq => kernel_rfl))
    all_goals (apply dtk 1; (case hi => rfl); (case hop => (apply prd; apply p_move <;> rfl)); (case hq => kernel_rfl))
    all_goals (apply dtk 2; (case hi => rfl); (case hop => (apply prd; apply p_nilCheck <;> rfl)); (case hq => kernel_rfl))
    all_goals (apply dtk 3; (case hi => rfl); (case hop => (apply prd; apply p_fieldAddrB <;> rfl)); (case hq => kernel_rfl))
    all_goals (apply dtk 4; (case hi => rfl); (case hop => (apply prd; apply p_fieldAddrB <;> rfl)); (case hq => kernel_rfl))
    all_goals (apply dtk 6; (case hi => rfl); (case hop => (apply prd; apply p_fieldAddrB <;> rfl)); (case hq => kernel_rfl))
    all_goals (apply dtk 7; (case hi => rfl); (case hop => first | (apply r_loadNo; (case hx => rfl); (case h => (repeat (fail))); (case hd => (repeat (fail))); (case hn => rfl)) | (apply r_load1; rfl; (apply Cell.own; (case h => (repeat (exact mhd _))); rfl)) | (apply r_loadN; rfl; (apply CellsAt.own; (case h => (repeat (fail)))); rfl)); (case hq => kernel_rfl))
    all_goals (apply dtk 8; (case hi => rfl); (case hop => (apply prd; apply p_add; (case hx => rfl); (case hy => rfl); (case h => omega))); (case hq => kernel_rfl))
    all_goals (apply d_keep 5 (hop := ReadOp.move ?hop); (case hi => rfl); (case hr => kernel_rfl); (case hop => (apply r_load1; rfl; (apply Cell.own; (case h => repeat (first | exact mhd _ | apply mtl)); rfl))); (case hd => rfl))
    all_goals ((apply d_call 9 (hs := qa); (case hi => rfl); (case hr => kernel_rfl);  (case ha => rfl); (case hp => exact List.Perm.refl _); (case hd => rfl); (case hν' => intro e he; simp at he; simp [he]); rintro r1 G1 ν5 - ⟨rfl, hg5⟩; obtain ⟨A5, c5, rfl, -, -⟩ := hg5.shape))
    all_goals (apply dtk 10; (case hi => rfl); (case hop => (apply prd; apply p_nilCheck <;> rfl)); (case hq => kernel_rfl))
    all_goals (apply dtk 11; (case hi => rfl); (case hop => (apply prd; apply p_fieldAddrB <;> rfl)); (case hq => kernel_rfl))
    all_goals (apply dtk 12; (case hi => rfl); (case hop => (apply prd; apply p_fieldAddrB <;> rfl)); (case hq => kernel_rfl))
    all_goals (apply d_store 13; (case hi => rfl); (case hr => kernel_rfl); (case hL => infer_instance); (case hp => rfl); (case hx => rfl); (case hc => rfl); (case hsz => rfl); (case h1 => rfl); (case hb => (repeat (first | exact mhd _ | apply mtl | apply List.mem_append_right))); (case hfit => exact nle rfl); (case hov => ((repeat (first | with_reducible exact ov_nil | apply ov_cons)); done)); (case hu => repeat (first | exact Upd.here _ _ | apply Upd.there | apply Upd.app)); (case hν' => intro e he; (simp at he; simp [he]; done)))
    all_goals (apply d_done; (case hr => kernel_rfl))
    repeat' (fail)
    refine v_frz ν5 (by repeat (exact PickA.here _)) ?_
    intro G4 hle4 hG4
    have hc4 := esle (esle hc hle2) hle4
    have hi4 := hi2.mono hle4
    have ha4 := es_of_grow hg5 hG4 (fun y hy => by
      have := (g.acc y (List.mem_of_mem_drop hy))
      exact this.2.1)
    have qc := from_s (x.index + 1) hc4 g.rcho (by omega)
    refine d_start [(xb, .cells (recL x.kind x.round x.node x.index x.cmd (.slice A3 x.image.length c3)).toArray 113 (0, 0))] (by kernel_rfl) (by kernel_rfl) (by kernel_rfl) (by intro e he; (simp at he; simp [he]; done)) ?_
    all_goals (apply dtk 0; (case hi => rfl); (case hop => (apply prd; apply p_move <;> rfl)); (case hq => kernel_rfl))
    all_goals (apply dtk 1; (case hi => rfl); (case hop => (apply prd; apply p_move <;> rfl)); (case hq => kernel_rfl))
    all_goals (apply dtk 2; (case hi => rfl); (case hop => (apply prd; apply p_nilCheck <;> rfl)); (case hq => kernel_rfl))
    all_goals (apply dtk 3; (case hi => rfl); (case hop => (apply prd; apply p_fieldAddrB <;> rfl)); (case hq => kernel_rfl))
    all_goals (apply dtk 4; (case hi => rfl); (case hop => (apply prd; apply p_fieldAddrB <;> rfl)); (case hq => kernel_rfl))
    all_goals (apply dtk 6; (case hi => rfl); (case hop => (apply prd; apply p_fieldAddrB <;> rfl)); (case hq => kernel_rfl))
    all_goals (apply dtk 7; (case hi => rfl); (case hop => first | (apply r_loadNo; (case hx => rfl); (case h => (repeat (fail))); (case hd => (repeat (fail))); (case hn => rfl)) | (apply r_load1; rfl; (apply Cell.own; (case h => (repeat (exact mhd _))); rfl)) | (apply r_loadN; rfl; (apply CellsAt.own; (case h => (repeat (fail)))); rfl)); (case hq => kernel_rfl))
    all_goals (apply dtk 8; (case hi => rfl); (case hop => (apply prd; apply p_add; (case hx => rfl); (case hy => rfl); (case h => omega))); (case hq => kernel_rfl))
    all_goals (apply d_keep 5 (hop := ReadOp.move ?hop); (case hi => rfl); (case hr => kernel_rfl); (case hop => (apply r_load1; rfl; (apply Cell.own; (case h => repeat (first | exact mhd _ | apply mtl)); rfl))); (case hd => rfl))
    all_goals ((apply d_call 9 (hs := qc); (case hi => rfl); (case hr => kernel_rfl);  (case ha => rfl); (case hp => exact List.Perm.refl _); (case hd => rfl); (case hν' => intro e he; simp at he; simp [he]); rintro r1 G1 ν6 - ⟨rfl, hg6⟩; obtain ⟨A6, c6, rfl, -, -⟩ := hg6.shape))
    all_goals (apply dtk 10; (case hi => rfl); (case hop => (apply prd; apply p_nilCheck <;> rfl)); (case hq => kernel_rfl))
    all_goals (apply dtk 11; (case hi => rfl); (case hop => (apply prd; apply p_fieldAddrB <;> rfl)); (case hq => kernel_rfl))
    all_goals (apply dtk 12; (case hi => rfl); (case hop => (apply prd; apply p_fieldAddrB <;> rfl)); (case hq => kernel_rfl))
    all_goals (apply d_store 13; (case hi => rfl); (case hr => kernel_rfl); (case hL => infer_instance); (case hp => rfl); (case hx => rfl); (case hc => rfl); (case hsz => rfl); (case h1 => rfl); (case hb => (repeat (first | exact mhd _ | apply mtl | apply List.mem_append_right))); (case hfit => exact nle rfl); (case hov => ((repeat (first | with_reducible exact ov_nil | apply ov_cons)); done)); (case hu => repeat (first | exact Upd.here _ _ | apply Upd.there | apply Upd.app)); (case hν' => intro e he; (simp at he; simp [he]; done)))
    all_goals (apply d_done; (case hr => kernel_rfl))
    repeat' (fail)
    refine v_frz ν6 (by repeat (exact PickA.here _)) ?_
    intro G6 hle6 hG6
    have hc6 := es_of_grow hg6 hG6 (fun y hy => by
      have := (g.cho y (List.mem_of_mem_drop hy))
      exact this.2.1)
    refine v_end [(hb, _)] (outsA0 rfl) (by repeat (first | exact List.Sublist.refl _ | apply List.Sublist.cons)) ?_
    exact ⟨_, rfl, _, _, _, rfl, hi4.mono hle6, esle ha4 hle6, hc6⟩
theorem chg_eq (h : Hd) (x : Rc) : chg h x = if x.kind = 1 then h.prom x else if x.kind = 2 then accH h x else if x.kind = 3 then choH h x else takeH h x := rfl
theorem entOf_ok {x : Rc} (hx : chkI x = 0) (hc : x.cmd.ok) : (entOf x).ok ∧ (⟨x.index, 0, 0, x.cmd⟩ : Ent).ok ∧ 0 ≤ x.index ∧ x.index ≤ 4294967296 ∧ x.image.length ≤ 32768 := by
  have h0 : recI x.kind x.round x.node x.index x.cmd x.image.length = 0 := hx
  obtain ⟨hk, hr, hi, hcc, ho⟩ := rec0 h0
  obtain ⟨hfit, hsm, him, hsz⟩ := fits0 h0
  unfold ranP mayP at hr
  have hr0 : 0 ≤ x.round ∧ x.round ≤ 4294967296 := by unfold othP at ho; omega
  have hn0 : 0 ≤ x.node ∧ x.node ≤ 9 := by unfold othP at ho; omega
  have hi0 : 0 ≤ x.index ∧ x.index ≤ 4294967296 := by unfold othP at ho; omega
  exact ⟨⟨wf64 (n := x.index) (by omega), wf64 (n := x.round) (by omega), wf64 (n := x.node) (by omega), hc⟩, ⟨wf64 (n := x.index) (by omega), wf64 (n := 0) (by omega), wf64 (n := 0) (by omega), hc⟩, hi0.1, hi0.2, him⟩
theorem change_s {G : GH} {H : Hd} {L : List Value} {x : Rc} {xv : Value} {n : Nat} (hb : Nat) (hh : HdV G H L) (g : Good n H) (hn : n ≤ 200) (hx : RcV G x xv) (hv : chkI x = 0) (hc : x.cmd.ok) :
    Con Tryz.prog 116 #[.pointer (some ⟨hb, 0, none⟩), xv] G [(hb, hdO L)] (fun _ G' μ' => ∃ L', μ' = [(hb, hdO L')] ∧ HdV G' (chg H x) L') := by
  obtain ⟨e1, e2, e3, e4, e5⟩ := entOf_ok hv hc
  have hk := (rec0 (show recI x.kind x.round x.node x.index x.cmd x.image.length = 0 from hv)).1
  have q2 := accept_s hb hh g hn hx (withL_ok (fun e he => (g.acc e he).2.1) e1)
  have q3 := choose_s hb hh g hn hx (withL_ok (fun e he => (g.cho e he).2.1) e2)
  have q4 := take_s hb hh g hn hx (by omega) ⟨e3, e4⟩
  have hh' := hh
  obtain ⟨im, av, cv, rfl, hi, ha, hcv⟩ := hh
  have q1 := promise_s G hb H.pr H.pn H.base x.round x.node im av cv
  obtain ⟨iv, rfl, hxv⟩ := hx
  rw [chg_eq]
  (refine v_enter Tryz.func116 rfl Tryz.ntmps116 rfl ?_; intro B _)
  obtain k | k | k | k : x.kind = 1 ∨ x.kind = 2 ∨ x.kind = 3 ∨ x.kind = 4 := by omega
  · rw [if_pos k, prom_max]
    repeat' (first | apply v_seq | apply v_region | apply v_nil | apply v_block | (apply v_pure; (case hop => first | (apply p_move <;> rfl) | (apply p_eq <;> rfl) | (apply p_assign <;> rfl) | (apply p_fieldAddrB <;> rfl) | fail); (case hd => rfl)) | (apply v_cond; (case hc => rfl); all_goals (intro h; (try simp only [reduceCtorEq, zzz] at h); first | (exfalso; omega) | skip)) | (apply v_box (zs := recL x.kind x.round x.node x.index x.cmd iv); (case hx => rfl); (case hz => rfl); (case hd => rfl); intro xb) | (apply v_read; (case hop => first | (apply r_loadNo; (case hx => rfl); (case h => (repeat (exact mhd _))); (case hd => (repeat (first | with_reducible exact dt_nil | apply dt_here))); (case hn => rfl)) | (apply r_load1; rfl; (apply Cell.own; (case h => (repeat (exact mhd _))); rfl)) | fail); (case hd => rfl)) | fail)
    refine v_call (μ1 := [(hb, _)]) (μ2 := _) rfl q1 (PickA.perm (by repeat (first | exact PickA.last | apply PickA.cons))) rfl ?_
    rintro _ _ _ - ⟨rfl, rfl⟩
    repeat' (first | apply v_nil | apply v_blk)
    refine v_end [(hb, _)] (outsA0 rfl) (by repeat (first | exact List.nil_sublist _ | apply List.Sublist.cons_cons)) ?_
    exact ⟨_, rfl, _, _, _, rfl, hi, ha, hcv⟩
  · rw [if_neg (by omega), if_pos k]
    repeat' (first | apply v_seq | apply v_region | apply v_nil | apply v_block | (apply v_pure; (case hop => first | (apply p_move <;> rfl) | (apply p_eq <;> rfl) | (apply p_assign <;> rfl) | (apply p_fieldAddrB <;> rfl) | fail); (case hd => rfl)) | (apply v_cond; (case hc => rfl); all_goals (intro h; (try simp only [reduceCtorEq, zzz] at h); first | (exfalso; omega) | skip)) | (apply v_box (zs := recL x.kind x.round x.node x.index x.cmd iv); (case hx => rfl); (case hz => rfl); (case hd => rfl); intro xb) | (apply v_read; (case hop => first | (apply r_loadNo; (case hx => rfl); (case h => (repeat (exact mhd _))); (case hd => (repeat (first | with_reducible exact dt_nil | apply dt_here))); (case hn => rfl)) | (apply r_load1; rfl; (apply Cell.own; (case h => (repeat (exact mhd _))); rfl)) | fail); (case hd => rfl)) | fail)
    refine v_call (μ1 := [(hb, _)]) (μ2 := _) rfl q2 (PickA.perm (by repeat (first | exact PickA.last | apply PickA.cons))) rfl ?_
    rintro _ G1 _ - ⟨L', rfl, h'⟩
    repeat' (first | apply v_nil | apply v_blk)
    refine v_end [(hb, _)] (outsA0 rfl) (by repeat (first | exact List.nil_sublist _ | apply List.Sublist.cons_cons)) ?_
    exact ⟨_, rfl, h'⟩
  · rw [if_neg (by omega), if_neg (by omega), if_pos k]
    repeat' (first | apply v_seq | apply v_region | apply v_nil | apply v_block | (apply v_pure; (case hop => first | (apply p_move <;> rfl) | (apply p_eq <;> rfl) | (apply p_assign <;> rfl) | (apply p_fieldAddrB <;> rfl) | fail); (case hd => rfl)) | (apply v_cond; (case hc => rfl); all_goals (intro h; (try simp only [reduceCtorEq, zzz] at h); first | (exfalso; omega) | skip)) | (apply v_box (zs := recL x.kind x.round x.node x.index x.cmd iv); (case hx => rfl); (case hz => rfl); (case hd => rfl); intro xb) | (apply v_read; (case hop => first | (apply r_loadNo; (case hx => rfl); (case h => (repeat (exact mhd _))); (case hd => (repeat (first | with_reducible exact dt_nil | apply dt_here))); (case hn => rfl)) | (apply r_load1; rfl; (apply Cell.own; (case h => (repeat (exact mhd _))); rfl)) | fail); (case hd => rfl)) | fail)
    refine v_call (μ1 := [(hb, _)]) (μ2 := _) rfl q3 (PickA.perm (by repeat (first | exact PickA.last | apply PickA.cons))) rfl ?_
    rintro _ G1 _ - ⟨L', rfl, h'⟩
    repeat' (first | apply v_nil | apply v_blk)
    refine v_end [(hb, _)] (outsA0 rfl) (by repeat (first | exact List.nil_sublist _ | apply List.Sublist.cons_cons)) ?_
    exact ⟨_, rfl, h'⟩
  · rw [if_neg (by omega), if_neg (by omega), if_neg (by omega)]
    repeat' (first | apply v_seq | apply v_region | apply v_nil | apply v_block | (apply v_pure; (case hop => first | (apply p_move <;> rfl) | (apply p_eq <;> rfl) | (apply p_assign <;> rfl) | (apply p_fieldAddrB <;> rfl) | fail); (case hd => rfl)) | (apply v_cond; (case hc => rfl); all_goals (intro h; (try simp only [reduceCtorEq, zzz] at h); first | (exfalso; omega) | skip)) | (apply v_box (zs := recL x.kind x.round x.node x.index x.cmd iv); (case hx => rfl); (case hz => rfl); (case hd => rfl); intro xb) | (apply v_read; (case hop => first | (apply r_loadNo; (case hx => rfl); (case h => (repeat (exact mhd _))); (case hd => (repeat (first | with_reducible exact dt_nil | apply dt_here))); (case hn => rfl)) | (apply r_load1; rfl; (apply Cell.own; (case h => (repeat (exact mhd _))); rfl)) | fail); (case hd => rfl)) | fail)
    refine v_call (μ1 := [(hb, _)]) (μ2 := _) rfl q4 (PickA.perm (by repeat (first | exact PickA.last | apply PickA.cons))) rfl ?_
    rintro _ G1 _ - ⟨L', rfl, h'⟩
    repeat' (first | apply v_nil | apply v_blk)
    refine v_end [(hb, _)] (outsA0 rfl) (by repeat (first | exact List.nil_sublist _ | apply List.Sublist.cons_cons)) ?_
    exact ⟨_, rfl, h'⟩
def RcR (G : GH) (x : Rc) (cs : List Value) : Prop := ∃ iv, cs = recL x.kind x.round x.node x.index x.cmd iv ∧ x.cmd.ok ∧ x.small ∧ Sl G 1 (IntR .u8) iv x.image
abbrev Rs (G : GH) (v : Value) (l : List Rc) : Prop := Sl G 12 (RcR G) v l
theorem rsOpen {G : GH} {v : Value} {l : List Rc} (h : Rs G v l) : ∃ A c, ∃ (iv : Nat → Value), v = .slice A l.length c ∧ l.length ≤ c ∧ c ≤ maxLen ∧ (0 < l.length → A.isSome = true) ∧
    (∀ i (h : i < l.length), CellsG G ((adr A).add (i * 12)) (recL l[i].kind l[i].round l[i].node l[i].index l[i].cmd (iv i))) ∧ (∀ i (h : i < l.length), Sl G 1 (IntR .u8) (iv i) l[i].image) ∧ (∀ x ∈ l, x.cmd.ok ∧ x.small) := by
  obtain ⟨A, c, rfl, h1, h2, h3, h4⟩ := h.open
  have key : ∀ i, ∃ m : Value, ∀ (h : i < l.length), CellsG G ((adr A).add (i * 12)) (recL l[i].kind l[i].round l[i].node l[i].index l[i].cmd m) ∧ Sl G 1 (IntR .u8) m l[i].image ∧ (l[i].cmd.ok ∧ l[i].small) := fun i => by
    by_cases hi : i < l.length
    · obtain ⟨cs, _, ⟨iv, rfl, h6, h7, h8⟩, h5⟩ := h4 i _ (List.getElem?_eq_getElem hi)
      exact ⟨iv, fun _ => ⟨h5, h8, h6, h7⟩⟩
    · exact ⟨.slice none 0 0, fun h => absurd h hi⟩
  have hk := fun i => Classical.choose_spec (key i)
  refine ⟨A, c, fun i => Classical.choose (key i), rfl, h1, h2, h3, fun i hi => (hk i hi).1, fun i hi => (hk i hi).2.1, fun x hx => ?_⟩
  obtain ⟨i, hi, rfl⟩ := List.getElem_of_mem hx
  exact (hk i hi).2.2
theorem good_step {n : Nat} {h : Hd} (g : Good n h) {x : Rc} (hc : x.cmd.ok) : Good (n + 1) (stepH h x) := by
  unfold stepH
  by_cases hx : chkI x = 0
  · rw [if_pos hx]; exact good_chg g hx hc
  · rw [if_neg hx]; exact g.more (by omega)
theorem foldl_take {l : List Rc} {k : Nat} (h : k < l.length) : (l.take (k + 1)).foldl stepH Hd.zero = stepH ((l.take k).foldl stepH Hd.zero) l[k] := by
  rw [List.take_add_one, List.getElem?_eq_getElem h, List.foldl_append]
  rfl
theorem hd_zero (G : GH) : HdV G Hd.zero (hdL 0 0 0 (.slice none 0 0) (.slice none 0 0) (.slice none 0 0)) := ⟨_, _, _, rfl, Sl.nil, Sl.nil, Sl.nil⟩
theorem of_s {G : GH} (hT : TabsG G) {l : List Rc} {lv : Value} (hs : Rs G lv l) (hn : l.length ≤ 200) : Con Tryz.prog 61 #[lv] G [] (fun r G' μ' => μ' = [] ∧ ∃ L, r = .agg L.toArray ∧ HdV G' (hardOf l) L) := by
  obtain ⟨A, c, ivf, rfl, hlc, hcm, hsome, hcp, him, hok⟩ := rsOpen hs
  simp only [maxLen] at hcm
  (refine v_enter Tryz.func61 rfl Tryz.ntmps61 rfl ?_; intro B _)
  repeat' (first | apply v_seq | apply v_region | apply v_nil | apply v_block | (apply v_pure; (case hop => first | (apply p_move <;> rfl) | (apply p_assign <;> rfl) | (apply p_lenSlice <;> rfl) | (apply p_build; (case hz => rfl); (case hv => (simp only [List.map_cons, List.map_nil]; repeat (with_reducible exact evs_nil))); (case hb => (apply bldL; repeat (exact bld_nil)))) | fail); (case hd => rfl)) | (apply v_alloc; (case hz => rfl); (case hd => rfl); intro b) | (apply v_box; (case hx => rfl); (case hz => rfl); (case hd => rfl); intro b) | fail)
  rename_i ob
  rename Nat => hb
  refine v_loop [10, 9, 8, 3, 2] (fun us G' μ' => GH.le G G' ∧ ∃ (k : Nat) (L : List Value), k ≤ l.length ∧ us = [Value.int .i64 (k : Nat), .int .i64 (l.length : Nat), .slice A l.length c, .pointer (some ⟨hb, 0, none⟩), .pointer (some ⟨ob, 0, none⟩)] ∧ μ' = [(hb, hdO L), (ob, .cells (hdL 0 0 0 (.slice none 0 0) (.slice none 0 0) (.slice none 0 0)).toArray 109 (0, 0))] ∧ HdV G' ((l.take k).foldl stepH Hd.zero) L ∧ Good k ((l.take k).foldl stepH Hd.zero)) (fun us => l.length - (headI us).toNat) rfl ⟨GH.le_refl _, 0, _, by omega, rfl, rfl, hd_zero G, good_zero⟩ ?_
  rintro us G2 μ' ⟨hle, k, L, hk, rfl, rfl, hh, hg⟩
  by_cases hlt : k < l.length
  · have e1 : ((k : Nat) : Int).toNat = k := by omega
    have hcx := (hcp k hlt).le hle
    have hix := (him k hlt).mono hle
    have hcok := hok _ (List.getElem_mem hlt)
    have hft := foldl_take hlt
    have hgs := good_step hg hcok.1
    rw [← hft] at hgs
    generalize hxe : l[k] = x at *
    generalize ivf k = iv at *
    obtain ⟨Ai, ci, rfl, hic, him2, -⟩ := id hix.openInt
    simp only [maxLen] at him2
    have hx : RcV G2 x (.agg (recL x.kind x.round x.node x.index x.cmd (.slice Ai x.image.length ci)).toArray) := ⟨_, rfl, hix⟩
    have qc := recCheck_s (hT.le hle) x.kind x.round x.node x.index x.cmd hcok.1 Ai x.image.length ci (by omega)
    by_cases hv : chkI x = 0
    · have q := change_s hb hh hg (by omega) hx hv hcok.1
      have es : stepH ((l.take k).foldl stepH Hd.zero) x = chg ((l.take k).foldl stepH Hd.zero) x := by unfold stepH; rw [if_pos hv]
      rw [es] at hft
      rw [show recI x.kind x.round x.node x.index x.cmd x.image.length = 0 from hv] at qc
      repeat' (first | apply v_seq | apply v_region | apply v_nil | apply v_skip | apply v_block | (apply v_pure; (case hop => first | (apply p_move <;> rfl) | (apply p_eqs <;> rfl) | (apply p_lt <;> rfl) | (apply p_indexAddrS; (case hx => rfl); (case hi => rfl); (case h0 => omega); (case h => omega); (case hA => (apply_assumption; omega))) | fail); (case hd => rfl)) | (apply v_condT; (case hc => rfl)) | (apply v_cond; (case hc => rfl); all_goals (intro h; (try simp only [reduceCtorEq, zzz] at h); first | (exfalso; omega) | skip)) | (apply v_read; (case hop => (apply r_loadN; rfl; exact CellsAt.frozen hcx; rfl)); (case hd => rfl)) | (apply v_callJ (hs := qc); (case ha => rfl); (case hd => rfl)) | (apply v_read; (case hop => (apply r_loadNo; (case hx => rfl); (case h => (repeat (exact mhd _))); (case hd => (repeat (first | with_reducible exact dt_nil | apply dt_here))); (case hn => rfl))); (case hd => rfl)) | (apply v_alloc; (case hz => rfl); (case hd => rfl); intro b) | (apply v_store; (case hp => rfl); (case hx => rfl); (case hc => rfl); (case hsz => rfl); (case h1 => rfl); (case hb => (repeat (exact mhd _))); (case hfit => exact nle rfl); (case hov => ((repeat (first | with_reducible exact ov_nil | apply ov_cons)); done)); (case hu => repeat (exact Upd.here _ _))) | fail)
      refine v_call (μ1 := [(hb, _)]) (μ2 := _) rfl q (PickA.perm (by repeat (first | exact PickA.here _ | apply PickA.cons))) rfl ?_
      rintro _ G3 _ hle3 ⟨L', rfl, h'⟩
      rw [← hft] at h'
      repeat' (first | apply v_region | apply v_nil | apply v_blk | (apply v_pure; (case hop => first | (apply p_move <;> rfl) | (apply p_add; (case hx => rfl); (case hy => rfl); (case h => omega)) | fail); (case hd => rfl)) | fail)
      refine v_drop (ν := [(hb, _), (ob, _)]) (by repeat (first | exact List.Sublist.refl _ | apply List.Sublist.cons_cons | apply List.Sublist.cons)) ?_
      refine v_again rfl ⟨GH.le_trans hle hle3, k + 1, L', by omega, rfl, rfl, h', hgs⟩ (by simp [headI]; omega)
    · have es : stepH ((l.take k).foldl stepH Hd.zero) x = (l.take k).foldl stepH Hd.zero := by unfold stepH; rw [if_neg hv]
      rw [es] at hft
      have hv' : ¬ recI x.kind x.round x.node x.index x.cmd x.image.length = 0 := hv
      generalize recI x.kind x.round x.node x.index x.cmd x.image.length = I at *
      repeat' (first | apply v_seq | apply v_region | apply v_nil | apply v_skip | apply v_block | apply v_blk | (apply v_pure; (case hop => first | (apply p_move <;> rfl) | (apply p_eq <;> rfl) | (apply p_lt <;> rfl) | (apply p_add; (case hx => rfl); (case hy => rfl); (case h => omega)) | (apply p_indexAddrS; (case hx => rfl); (case hi => rfl); (case h0 => omega); (case h => omega); (case hA => (apply_assumption; omega))) | fail); (case hd => rfl)) | (apply v_cond; (case hc => rfl); all_goals (intro h; (try simp only [reduceCtorEq, zzz] at h); first | (exfalso; omega) | skip)) | (apply v_read; (case hop => (apply r_loadN; rfl; exact CellsAt.frozen hcx; rfl)); (case hd => rfl)) | (apply v_callJ (hs := qc); (case ha => rfl); (case hd => rfl)) | (apply v_read; (case hop => (apply r_loadNo; (case hx => rfl); (case h => (repeat (exact mhd _))); (case hd => (repeat (first | with_reducible exact dt_nil | apply dt_here))); (case hn => rfl))); (case hd => rfl)) | (apply v_alloc; (case hz => rfl); (case hd => rfl); intro b) | (apply v_store; (case hp => rfl); (case hx => rfl); (case hc => rfl); (case hsz => rfl); (case h1 => rfl); (case hb => (repeat (exact mhd _))); (case hfit => exact nle rfl); (case hov => ((repeat (first | with_reducible exact ov_nil | apply ov_cons)); done)); (case hu => repeat (exact Upd.here _ _))) | fail)
      refine v_drop (ν := [(hb, _), (ob, _)]) (by repeat (first | exact List.Sublist.refl _ | apply List.Sublist.cons)) ?_
      refine v_again rfl ⟨hle, k + 1, L, by omega, rfl, rfl, by rw [hft]; exact hh, hgs⟩ (by simp [headI]; omega)
  · obtain rfl : k = l.length := by omega
    rw [List.take_length] at hh
    obtain ⟨im, av, cv, rfl, hi, ha, hc⟩ := hh
    obtain ⟨A0, c0, rfl, -⟩ := id hi.openInt
    obtain ⟨A1, c1, rfl, -⟩ := id ha.open
    obtain ⟨A2, c2, rfl, -⟩ := id hc.open
    repeat' (first | apply v_seq | apply v_region | apply v_nil | (apply v_exit; (case hp => rfl)) | (apply v_pure; (case hop => first | (apply p_move <;> rfl) | (apply p_lt <;> rfl) | (apply p_fieldAddrB <;> rfl) | (apply p_nilCheck <;> rfl) | fail); (case hd => rfl)) | (apply v_cond; (case hc => rfl); all_goals (intro h; (try simp only [reduceCtorEq, zzz] at h); first | (exfalso; omega) | skip)) | (apply v_read; (case hop => (apply r_loadNo; (case hx => rfl); (case h => (repeat (exact mhd _))); (case hd => (repeat (first | with_reducible exact dt_nil | apply dt_here))); (case hn => rfl))); (case hd => rfl)) | (apply v_store; (case hp => rfl); (case hx => rfl); (case hc => rfl); (case hsz => rfl); (case h1 => rfl); (case hb => (repeat (first | exact mhd _ | apply mtl))); (case hfit => exact nle rfl); (case hov => ((repeat (first | with_reducible exact ov_nil | apply ov_cons)); done)); (case hu => repeat (first | exact Upd.here _ _ | apply Upd.there))) | fail)
    refine v_retM [] (outsM_cell (vs := hdL (l.foldl stepH Hd.zero).pr (l.foldl stepH Hd.zero).pn (l.foldl stepH Hd.zero).base (.slice A0 (l.foldl stepH Hd.zero).image.length c0) (.slice A1 (l.foldl stepH Hd.zero).acc.length c1) (.slice A2 (l.foldl stepH Hd.zero).cho.length c2)) (e := 109) rfl rfl (by repeat (first | exact mhd _ | apply mtl)) rfl) (by repeat (exact List.nil_sublist _)) ?_
    exact ⟨rfl, _, rfl, _, _, _, rfl, hi, ha, hc⟩
abbrev hardO (L : List Value) : Obj := .cells L.toArray 109 (0, 0)
structure Two (k : Nat) (acc cho : List Ent) : Prop where
  ra : RiseL acc
  rc : RiseL cho
  na : acc.length ≤ k
  nc : cho.length ≤ k
  oa : ∀ e ∈ acc, e.ok
  oc : ∀ e ∈ cho, e.ok
theorem zeroCm_okV : zeroCm.ok := ⟨by decide, by decide, by decide, by decide, by decide, by decide, by decide⟩
theorem chk_one {l : List Ent} (h : chkK l 0 = 0) : ∀ e ∈ l, oneI e = 0 := fun e he => by
  obtain ⟨i, hi, rfl⟩ := List.getElem_of_mem he
  exact chk_all (l.length - 0) 0 rfl h i hi (by omega)
def CheckP (H : Hd) : Prop := mayP H.pr H.pn ∧ (0 ≤ H.base ∧ H.base ≤ 4294967296) ∧ H.image.length ≤ 32768 ∧ (0 < H.base ↔ 0 < H.image.length) ∧ chkK H.acc 0 = 0 ∧ chkK H.cho 0 = 0 ∧ (∀ e ∈ H.acc, H.base < e.index ∧ e.round ≠ 0 ∧ ¬ lessP H.pr H.pn e.round e.node) ∧ (∀ e ∈ H.cho, H.base < e.index ∧ e.round = 0)
noncomputable instance (H : Hd) : Decidable (CheckP H) := Classical.propDecidable _
theorem one_parts {e : Ent} (h : oneI e = 0) : 1 ≤ e.index ∧ e.index ≤ 4294967296 ∧ mayP e.round e.node ∧ cmdI e.cmd = 0 := by
  unfold oneI at h
  split at h
  · omega
  · rename_i hc
    have h1 : ¬ e.index < 1 := fun hh => hc (.inl hh)
    have h2 : ¬ 4294967296 < e.index := fun hh => hc (.inr (.inl hh))
    have h3 : mayP e.round e.node := Decidable.not_not.1 fun hh => hc (.inr (.inr hh))
    exact ⟨by omega, by omega, h3, h⟩
def imgRec (b : Int) (im : List Int) : Rc := ⟨4, 0, 0, b, zeroCm, im⟩
theorem img_ok {b : Int} {im : List Int} (hb : 1 ≤ b ∧ b ≤ 4294967296) (hl : 0 < im.length ∧ im.length ≤ 32768) : chkI (imgRec b im) = 0 := by
  show recI 4 0 0 b zeroCm im.length = 0
  unfold recI ranP
  rw [if_neg (by omega), if_neg (fun hh => hh ⟨fun h => by omega, fun _ => hb⟩), if_neg (by omega), if_neg (by omega), if_neg]
  unfold othP
  rintro (⟨_, h⟩ | ⟨h, _⟩ | ⟨_, h⟩ | h)
  · exact h ⟨rfl, rfl⟩
  · omega
  · exact h rfl
  · exact h ⟨fun _ => hl.1, fun _ => rfl⟩
theorem idx_s {G : GH} {l : List Ent} {sv : Value} (hs : Es G sv l) (f : FuncId) [Callable Tryz.prog f] (cap : List Value) (μ1 : OH) (p : Ent → Bool) (hf : ∀ e ∈ l, Con Tryz.prog f ([] ++ [Value.agg e.cells.toArray] ++ cap).toArray G μ1 (Keeps (.bool (p e)) G μ1)) :
    Con Tryz.prog 243 #[sv, .func (.func f) #[] cap.toArray] G μ1 (fun r G' μ' => G' = G ∧ μ' = μ1 ∧ ∃ z, r = .int .i64 z ∧ (0 ≤ z ↔ l.any p = true) ∧ -1 ≤ z) := by
  obtain ⟨A, c, rfl, hlc, hcm, hsome, hcp, -, -, hok⟩ := esOpen hs
  simp only [maxLen] at hcm
  (refine v_enter Tryz.func243 rfl Tryz.ntmps243 rfl ?_; intro B _)
  repeat' (first | apply v_seq | apply v_region | apply v_nil | apply v_block | (apply v_pure; (case hop => first | (apply p_move <;> rfl) | (apply p_assign <;> rfl) | (apply p_lenSlice <;> rfl) | fail); (case hd => rfl)) | fail)
  refine v_loop [8, 7, 0, 1] (fun us G' μ' => G' = G ∧ μ' = μ1 ∧ ∃ k, k ≤ l.length ∧ us = [Value.int .i64 (k : Nat), .int .i64 (l.length : Nat), .slice A l.length c, .func (.func f) #[] cap.toArray] ∧ ∀ i (h : i < l.length), i < k → p l[i] = false) (fun us => l.length - (headI us).toNat) rfl ⟨rfl, rfl, 0, by omega, rfl, by omega⟩ ?_
  rintro us G' μ' ⟨rfl, rfl, k, hk, rfl, hno⟩
  have e1 : ((k : Nat) : Int).toNat = k := by omega
  by_cases hlt : k < l.length
  · have kc := hcp k hlt
    have hfk := hf _ (List.getElem_mem hlt)
    cases hpe : p l[k]
    · rw [hpe] at hfk
      repeat' (first | apply v_seq | apply v_region | apply v_nil | apply v_skip | apply v_block | apply v_blk | (apply v_pure; (case hop => first | (apply p_move <;> rfl) | (apply p_lt <;> rfl) | (apply p_assign <;> rfl) | (apply p_add; (case hx => rfl); (case hy => rfl); (case h => omega)) | (apply p_indexAddrS; (case hx => rfl); (case hi => rfl); (case h0 => omega); (case h => omega); (case hA => (apply_assumption; omega))) | fail); (case hd => rfl)) | (apply v_condF; (case hc => rfl)) | (apply v_cond; (case hc => rfl); all_goals (intro h; (try simp only [reduceCtorEq, zzz] at h); first | (exfalso; omega) | skip)) | (apply v_read; (case hop => (apply r_loadN; rfl; exact CellsAt.frozen kc; rfl)); (case hd => rfl)) | (apply v_callCK (first := []) (captured := cap) (hs := hfk) (hx := rfl) (ha := rfl) (hp := (by simp : List.Perm _ (_ ++ [])));  (case hd => rfl)) | fail)
      refine v_again rfl ⟨rfl, rfl, k + 1, by omega, rfl, fun i h hi => ?_⟩ (by simp [headI]; omega)
      by_cases hik : i = k
      · subst hik; exact hpe
      · exact hno i h (by omega)
    · rw [hpe] at hfk
      repeat' (first | apply v_seq | apply v_region | apply v_nil | apply v_skip | apply v_block | (apply v_pure; (case hop => first | (apply p_move <;> rfl) | (apply p_lt <;> rfl) | (apply p_assign <;> rfl) | (apply p_indexAddrS; (case hx => rfl); (case hi => rfl); (case h0 => omega); (case h => omega); (case hA => (apply_assumption; omega))) | fail); (case hd => rfl)) | (apply v_condT; (case hc => rfl)) | (apply v_cond; (case hc => rfl); all_goals (intro h; (try simp only [reduceCtorEq, zzz] at h); first | (exfalso; omega) | skip)) | (apply v_read; (case hop => (apply r_loadN; rfl; exact CellsAt.frozen kc; rfl)); (case hd => rfl)) | (apply v_callCK (first := []) (captured := cap) (hs := hfk) (hx := rfl) (ha := rfl) (hp := (by simp : List.Perm _ (_ ++ [])));  (case hd => rfl)) | fail)
      refine v_ret μ' (outsA1 rfl rfl) (List.Sublist.refl _) ?_
      refine ⟨rfl, rfl, _, rfl, ⟨fun _ => ?_, fun _ => by omega⟩, by omega⟩
      rw [List.any_eq_true]
      exact ⟨_, List.getElem_mem hlt, hpe⟩
  · repeat' (first | apply v_seq | apply v_region | apply v_nil | (apply v_exit; (case hp => rfl)) | (apply v_pure; (case hop => first | (apply p_lt <;> rfl) | (apply p_assign <;> rfl) | fail); (case hd => rfl)) | (apply v_cond; (case hc => rfl); all_goals (intro h; (try simp only [reduceCtorEq, zzz] at h); first | (exfalso; omega) | skip)) | fail)
    refine v_ret μ' (outsA1 rfl rfl) (List.Sublist.refl _) ?_
    refine ⟨rfl, rfl, _, rfl, ⟨fun h => by omega, fun h => ?_⟩, by omega⟩
    rw [List.any_eq_true] at h
    obtain ⟨e, he, h⟩ := h
    obtain ⟨i, hi, rfl⟩ := List.getElem_of_mem he
    rw [hno i hi (by omega)] at h
    cases h
theorem has_s {G : GH} {l : List Ent} {sv : Value} (hs : Es G sv l) (f : FuncId) [Callable Tryz.prog f] (cap : List Value) (μ1 : OH) (p : Ent → Bool) (hf : ∀ e ∈ l, Con Tryz.prog f ([] ++ [Value.agg e.cells.toArray] ++ cap).toArray G μ1 (Keeps (.bool (p e)) G μ1)) :
    Con Tryz.prog 242 #[sv, .func (.func f) #[] cap.toArray] G μ1 (Keeps (.bool (l.any p)) G μ1) := by
  have q := idx_s hs f cap μ1 p hf
  apply Con.keeps
  (refine v_enter Tryz.func242 rfl Tryz.ntmps242 rfl ?_; intro B _)
  repeat' (first | apply v_seq | apply v_region | apply v_nil | (apply v_pure; (case hop => first | (apply p_move <;> rfl) | (apply p_assign <;> rfl)); (case hd => rfl)) | fail)
  refine v_call (μ1 := μ1) (μ2 := []) rfl q (by simp) rfl ?_
  rintro _ G1 μ1 - ⟨rfl, rfl, z, rfl, hz, -⟩
  repeat' (first | apply v_nil | (apply v_pure; (case hop => first | (apply p_ge <;> rfl) | (apply p_assign <;> rfl)); (case hd => rfl)) | fail)
  refine v_ret μ1 (outsA1 rfl rfl) (List.sublist_append_left _ _) ?_
  refine ⟨?_, rfl⟩
  rw [dec_eq]
  congr 1
  rw [Bool.eq_iff_iff, decide_eq_true_iff, hz]
def accBad (H : Hd) (e : Ent) : Bool := decide (e.index ≤ H.base ∨ (e.round = 0 ∧ e.node = 0) ∨ lessP H.pr H.pn e.round e.node)
def choBad (H : Hd) (e : Ent) : Bool := decide (e.index ≤ H.base ∨ ¬ (e.round = 0 ∧ e.node = 0))
theorem acc1_s (G : GH) (hb : Nat) (H : Hd) (iv av cv : Value) (x : Ent) : Con Tryz.prog 240 #[.agg x.cells.toArray, .pointer (some ⟨hb, 0, none⟩)] G [(hb, hardO (hdL H.pr H.pn H.base iv av cv))] (Keeps (.bool (accBad H x)) G [(hb, hardO (hdL H.pr H.pn H.base iv av cv))]) := by
  have ql := less_s G H.pr H.pn x.round x.node
  unfold accBad
  generalize hlb : decide (lessP H.pr H.pn x.round x.node) = lb at *
  apply Con.keeps
  (refine v_enter Tryz.func240 rfl Tryz.ntmps240 rfl ?_; intro B _)
  repeat' (first | (apply v_pure; (case hop => (apply eqBal; (case hx => rfl); (case hy => rfl))); (case hd => rfl)) | apply v_seq | apply v_region | apply v_nil | (apply v_take; (case hg => rfl)) | (apply v_pass; (case hg => rfl); (case hn => rfl); (case hd => rfl)) | (apply v_pure; (case hop => first | (apply p_move <;> rfl) | (apply p_le <;> rfl) | (apply p_assign <;> rfl) | (apply p_pickT <;> rfl) | (apply p_pickF <;> rfl) | (apply p_fieldAddrB <;> rfl) | (apply p_build; (case hz => rfl); (case hv => (simp only [List.map_cons, List.map_nil]; repeat (with_reducible exact evs_nil))); (case hb => (apply bldL; repeat (exact bld_nil)))) | fail); (case hd => rfl)) | (apply v_guardB; (case h1 => rfl); (case h2 => rfl); all_goals (intro h; (try simp only [reduceCtorEq, zzz] at h))) | (apply v_box (zs := x.cells); (case hx => rfl); (case hz => rfl); (case hd => rfl); intro b) | (apply v_callJ (hs := ql); (case ha => rfl); (case hd => rfl)) | (apply v_read; (case hop => first | (apply r_loadNo; (case hx => rfl); (case h => (repeat (first | exact mhd _ | apply mtl))); (case hd => (repeat (first | with_reducible exact dt_nil | apply dt_here))); (case hn => rfl)) | (apply r_load1; rfl; (apply Cell.own; (case h => (repeat (first | exact mhd _ | apply mtl))); rfl)) | fail); (case hd => rfl)) | fail)
  all_goals
    (refine v_ret [(hb, _)] (outsA1 rfl rfl) (by repeat (first | exact List.Sublist.refl _ | apply List.Sublist.cons)) ?_
     refine ⟨?_, rfl⟩)
  · rw [decide_eq_true (.inl h)]
  · rw [decide_eq_true (.inr (.inl h))]
  · subst hlb
    congr 1
    rw [decide_eq_decide]
    exact ⟨fun hh => .inr (.inr hh), fun hh => by
      obtain hh | hh | hh := hh
      · contradiction
      · contradiction
      · exact hh⟩
theorem cho1_s (G : GH) (hb : Nat) (H : Hd) (iv av cv : Value) (x : Ent) : Con Tryz.prog 241 #[.agg x.cells.toArray, .pointer (some ⟨hb, 0, none⟩)] G [(hb, hardO (hdL H.pr H.pn H.base iv av cv))] (Keeps (.bool (choBad H x)) G [(hb, hardO (hdL H.pr H.pn H.base iv av cv))]) := by
  unfold choBad
  apply Con.keeps
  (refine v_enter Tryz.func241 rfl Tryz.ntmps241 rfl ?_; intro B _)
  repeat' (first | (apply v_pure; (case hop => (apply neBal; (case hx => rfl); (case hy => rfl))); (case hd => rfl)) | apply v_seq | apply v_region | apply v_nil | (apply v_take; (case hg => rfl)) | (apply v_pass; (case hg => rfl); (case hn => rfl); (case hd => rfl)) | (apply v_pure; (case hop => first | (apply p_move <;> rfl) | (apply p_le <;> rfl) | (apply p_assign <;> rfl) | (apply p_pickT <;> rfl) | (apply p_pickF <;> rfl) | (apply p_fieldAddrB <;> rfl) | (apply p_build; (case hz => rfl); (case hv => (simp only [List.map_cons, List.map_nil]; repeat (with_reducible exact evs_nil))); (case hb => (apply bldL; repeat (exact bld_nil)))) | fail); (case hd => rfl)) | (apply v_guardB; (case h1 => rfl); (case h2 => rfl); all_goals (intro h; (try simp only [reduceCtorEq, zzz] at h))) | (apply v_box (zs := x.cells); (case hx => rfl); (case hz => rfl); (case hd => rfl); intro b) | (apply v_read; (case hop => first | (apply r_loadNo; (case hx => rfl); (case h => (repeat (exact mhd _))); (case hd => (repeat (first | with_reducible exact dt_nil | apply dt_here))); (case hn => rfl)) | (apply r_load1; rfl; (apply Cell.own; (case h => (repeat (first | exact mhd _ | apply mtl))); rfl)) | fail); (case hd => rfl)) | fail)
  all_goals
    (refine v_ret [(hb, _)] (outsA1 rfl rfl) (by repeat (first | exact List.Sublist.refl _ | apply List.Sublist.cons)) ?_
     refine ⟨?_, rfl⟩)
  · rw [decide_eq_true (.inl h)]
  · congr 1
    rw [dec_eq, ← decide_not, decide_eq_decide]
    exact ⟨fun hh => .inr hh, fun hh => by
      obtain hh | hh := hh
      · contradiction
      · exact hh⟩
theorem chk_iff (H : Hd) : CheckP H ↔ mayP H.pr H.pn ∧ ¬ H.base < 0 ∧ ¬ (H.base = 0 ∧ 0 < H.image.length) ∧ (0 < H.base → recI 4 0 0 H.base zeroCm H.image.length = 0) ∧ chkK H.acc 0 = 0 ∧ chkK H.cho 0 = 0 ∧ H.acc.any (accBad H) = false ∧ H.cho.any (choBad H) = false := by
  constructor
  · rintro ⟨h1, h2, h3, h4, h5, h6, h7, h8⟩
    refine ⟨h1, by omega, by omega, fun hb => img_ok (b := H.base) (im := H.image) (by omega) (by omega), h5, h6, ?_, ?_⟩
    · rw [List.any_eq_false]
      intro e he
      obtain ⟨a1, a2, a3⟩ := h7 e he
      unfold accBad
      rw [decide_eq_true_iff]
      rintro (h | h | h)
      · omega
      · exact a2 h.1
      · exact a3 h
    · rw [List.any_eq_false]
      intro e he
      obtain ⟨a1, a2⟩ := h8 e he
      have hm := (one_parts (chk_one h6 e he)).2.2.1
      unfold mayP at hm
      unfold choBad
      rw [decide_eq_true_iff]
      omega
  · rintro ⟨h1, h2, h3, h4, h5, h6, h7, h8⟩
    have hb : H.base ≤ 4294967296 ∧ H.image.length ≤ 32768 ∧ (0 < H.base ↔ 0 < H.image.length) := by
      by_cases h0 : 0 < H.base
      · obtain ⟨-, r2, r3, -, r5⟩ := rec0 (h4 h0)
        have r2' := r2.2 (.inr (.inr rfl))
        have r6 : (4 : Int) = 4 ↔ 0 < H.image.length := Decidable.not_not.1 fun hh => r5 (.inr (.inr (.inr hh)))
        have := r6.1 rfl
        omega
      · omega
    refine ⟨h1, by omega, hb.2.1, hb.2.2, h5, h6, fun e he => ?_, fun e he => ?_⟩
    · have ha := List.any_eq_false.1 h7 e he
      have hm := (one_parts (chk_one h5 e he)).2.2.1
      unfold accBad at ha
      rw [decide_eq_true_iff] at ha
      unfold mayP at hm
      exact ⟨by omega, by omega, fun h => ha (.inr (.inr h))⟩
    · have ha := List.any_eq_false.1 h8 e he
      unfold choBad at ha
      rw [decide_eq_true_iff] at ha
      omega
theorem hChk_s {G : GH} (hT : TabsG G) {H : Hd} {L : List Value} (hh : HdV G H L) : Con Tryz.prog 192 #[.agg L.toArray] G [] (Just (.int .i64 (if CheckP H then 0 else 3)) G) := by
  obtain ⟨iv, av, cv, rfl, hi, ha, hc⟩ := hh
  obtain ⟨A0, c0, rfl, hl0, hm0, -⟩ := hi.openInt
  simp only [maxLen] at hm0
  have qm := may_s G H.pr H.pn
  have qr := recCheck_s hT 4 0 0 H.base zeroCm zeroCm_okV A0 H.image.length c0 (by omega)
  have qa := entCheck_s hT ha
  have qc := entCheck_s hT hc
  have qA := fun hb => has_s ha 240 [.pointer (some ⟨hb, 0, none⟩)] [(hb, hardO (hdL H.pr H.pn H.base (.slice A0 H.image.length c0) av cv))] (accBad H) (fun e _ => acc1_s G hb H (.slice A0 H.image.length c0) av cv e)
  have qC := fun hb => has_s hc 241 [.pointer (some ⟨hb, 0, none⟩)] [(hb, hardO (hdL H.pr H.pn H.base (.slice A0 H.image.length c0) av cv))] (choBad H) (fun e _ => cho1_s G hb H (.slice A0 H.image.length c0) av cv e)
  have hiff := chk_iff H
  obtain ⟨A1, c1, rfl, -⟩ := ha.open
  obtain ⟨A2, c2, rfl, -⟩ := hc.open
  generalize hb1 : decide (mayP H.pr H.pn) = b1 at *
  generalize recI 4 0 0 H.base zeroCm H.image.length = I1 at *
  generalize chkK H.acc 0 = I2 at *
  generalize chkK H.cho 0 = I3 at *
  generalize hb4 : H.acc.any (accBad H) = b4 at *
  generalize hb5 : H.cho.any (choBad H) = b5 at *
  apply Con.just
  (refine v_enter Tryz.func192 rfl Tryz.ntmps192 rfl ?_; intro B _)
  repeat' (first | apply v_seq | apply v_region | apply v_nil | apply v_skip | (apply v_take; (case hg => rfl)) | (apply v_pass; (case hg => rfl); (case hn => rfl); (case hd => rfl)) | (apply v_passN; (case hg => rfl); (case hn => rfl); (case hd => rfl)) | (apply v_pure; (case hop => first | (apply p_move <;> rfl) | (apply p_eq <;> rfl) | (apply p_lt <;> rfl) | (apply p_gt <;> rfl) | (apply p_ne <;> rfl) | (apply p_assign <;> rfl) | (apply p_pickT <;> rfl) | (apply p_pickF <;> rfl) | (apply p_not <;> rfl) | (apply p_lenSlice <;> rfl) | (apply p_fieldAddrB <;> rfl) | (apply p_makeFunc <;> rfl) | (apply p_build; (case hz => rfl); (case hv => (simp only [List.map_cons, List.map_nil]; repeat (first | with_reducible exact evs_nil | (apply evs_cons; (case h1 => rfl))))); (case hb => (apply bldL; repeat (first | exact bld_nil | (apply bld_cons; (case hpf => rfl); (case hc => rfl); (case hs => rfl); (case hl => rfl); (case ho => ((repeat (first | with_reducible exact ov_nil | apply ov_cons)); done))))))) | fail); (case hd => rfl)) | (apply v_condT; (case hc => rfl)) | (apply v_condF; (case hc => rfl)) | (apply v_cond; (case hc => rfl); all_goals (intro h; (try simp only [reduceCtorEq, zzz] at h))) | (apply v_guardB; (case h1 => rfl); (case h2 => rfl); all_goals (intro h; (try simp only [reduceCtorEq, zzz] at h); first | (exfalso; omega) | skip)) | (apply v_callJ (hs := qm); (case ha => rfl); (case hd => rfl)) | (apply v_callJ (hs := qr); (case ha => rfl); (case hd => rfl)) | (apply v_callJ (hs := qa); (case ha => rfl); (case hd => rfl)) | (apply v_callJ (hs := qc); (case ha => rfl); (case hd => rfl)) | (apply v_callK (hs := qA _); (case ha => rfl); (case hp => exact (Pick.perm (by repeat (exact Pick.here _)))); (case hd => rfl)) | (apply v_callK (hs := qC _); (case ha => rfl); (case hp => exact (Pick.perm (by repeat (exact Pick.here _)))); (case hd => rfl)) | (apply v_read; (case hop => first | (apply r_loadNo; (case hx => rfl); (case h => (repeat (exact mhd _))); (case hd => (repeat (first | with_reducible exact dt_nil | apply dt_here))); (case hn => rfl)) | (apply r_load1; rfl; (apply Cell.own; (case h => (repeat (exact mhd _))); rfl)) | fail); (case hd => rfl)) | (apply v_box; (case hx => rfl); (case hz => rfl); (case hd => rfl); intro b) | fail)
  all_goals
    (refine v_ret [] (outsA1 rfl rfl) (by repeat (exact List.nil_sublist _)) ?_
     refine ⟨?_, rfl⟩
     first
       | (rw [if_pos (hiff.2 ⟨of_decide_eq_true (hb1.trans (by assumption)), by omega, by omega, fun _ => by omega, by assumption, by assumption, by assumption, by assumption⟩)]; done)
       | (rw [if_neg (fun hh => by
            obtain ⟨z1, z2, z3, z4, z5, z6, z7, z8⟩ := hiff.1 hh
            first
              | omega
              | exact absurd ((decide_eq_true z1).symm.trans (hb1.trans ‹b1 = false›)) (by decide)
              | exact absurd (z7.symm.trans ‹b4 = true›) (by decide)
              | exact absurd (z8.symm.trans ‹b5 = true›) (by decide))]; done)
       | skip)
structure Ms where
  kind : Int
  src : Int
  dst : Int
  round : Int
  node : Int
  index : Int
  commit : Int
  version : Int
  ents : List Ent
  img : List Int
abbrev msL (kind src dst round node index commit version : Int) (ev iv : Value) : List Value := [.int .i64 kind, .int .i64 src, .int .i64 dst, .int .i64 round, .int .i64 node, .int .i64 index, .int .i64 commit, .int .i64 version, ev, iv]
def Ms.cells (m : Ms) (ev iv : Value) : List Value := msL m.kind m.src m.dst m.round m.node m.index m.commit m.version ev iv
def MsR (G : GH) (m : Ms) (cs : List Value) : Prop := ∃ A c I ci, cs = m.cells (.slice A m.ents.length c) (.slice I m.img.length ci) ∧ Es G (.slice A m.ents.length c) m.ents ∧ Sl G 1 (IntR .u8) (.slice I m.img.length ci) m.img
theorem MsR.le {G G' : GH} (h : GH.le G G') {m : Ms} {cs : List Value} (hm : MsR G m cs) : MsR G' m cs := by
  obtain ⟨A, c, I, ci, e, h1, h2⟩ := hm
  exact ⟨A, c, I, ci, e, Sl.le h1 h fun _ _ h => h, h2.mono h⟩
def mF (k : Int) : Int := if k = 1 ∨ k = 2 then 8 else if k = 3 ∨ k = 6 then 3 else if k = 4 then 23 else if k = 5 then 17 else if k = 7 then 1 else if k = 8 then 5 else if k = 9 then 2 else if k = 10 then 20 else if k = 11 then 32 else 0
theorem mfields_s (G : GH) (k : Int) : Con Tryz.prog 175 #[.int .i64 k] G [] (Just (.int .i64 (mF k)) G) := by
  apply Con.just
  (refine v_enter Tryz.func175 rfl Tryz.ntmps175 rfl ?_; intro B _)
  repeat' (first | apply v_seq | apply v_region | apply v_nil | apply v_skip | apply v_block | apply v_blk | (apply v_pure; (case hop => first | (apply p_move <;> rfl) | (apply p_eq <;> rfl) | (apply p_assign <;> rfl) | fail); (case hd => rfl)) | (apply v_cond; (case hc => rfl); all_goals (intro h; (try simp only [reduceCtorEq, zzz] at h); first | (exfalso; omega) | skip)) | fail)
  all_goals
    (refine v_ret [] (outsA1 rfl rfl) (by repeat (exact List.Sublist.refl _)) ?_
     refine ⟨?_, rfl⟩
     congr 1
     unfold mF
     (repeat' split) <;> omega)
theorem mnode_s (G : GH) (n : Int) : Con Tryz.prog 230 #[.int .i64 n] G [] (Just (.bool (decide (1 ≤ n ∧ n ≤ 9))) G) := by
  apply Con.just
  (refine v_enter Tryz.func230 rfl Tryz.ntmps230 rfl ?_; intro B _)
  repeat' (first | apply v_seq | apply v_region | apply v_nil | (apply v_take; (case hg => rfl)) | (apply v_pass; (case hg => rfl); (case hn => rfl); (case hd => rfl)) | (apply v_pure; (case hop => first | (apply p_move <;> rfl) | (apply p_le <;> rfl) | (apply p_ge <;> rfl) | (apply p_assign <;> rfl) | (apply p_pickT <;> rfl) | (apply p_pickF <;> rfl) | fail); (case hd => rfl)) | (apply v_guardB; (case h1 => rfl); (case h2 => rfl); all_goals (intro h; (try simp only [reduceCtorEq, zzz] at h))) | fail)
  all_goals
    (refine v_ret [] (outsA1 rfl rfl) (by repeat (exact List.Sublist.refl _)) ?_
     refine ⟨?_, rfl⟩
     (try simp only [dec_eq])
     congr 1
     first
       | (rw [decide_eq_decide]; omega)
       | (rw [eq_comm, decide_eq_false_iff_not]; omega))
def RangesP (f : Int) (m : Ms) : Prop := (1 ≤ m.src ∧ m.src ≤ 9 ∧ 1 ≤ m.dst ∧ m.dst ≤ 9 ∧ m.src ≠ m.dst) ∧ (band f 1 ≠ 0 → mayP m.round m.node ∧ ¬ (m.round = 0 ∧ m.node = 0)) ∧ (band f 2 ≠ 0 → 1 ≤ m.index ∧ m.index ≤ 4294967296) ∧ (band f 4 ≠ 0 → 0 ≤ m.commit ∧ m.commit ≤ 4294967296) ∧ (band f 8 = 0 ∨ m.version = 1 ∨ m.version = 2)
instance (f : Int) (m : Ms) : Decidable (RangesP f m) := by unfold RangesP; infer_instance
set_option maxHeartbeats 4000000 in
theorem mranges_s (G : GH) (f : Int) (m : Ms) (ev iv : Value) {A I : Option Addr} {n c n' c' : Nat} (he : ev = .slice A n c) (hi : iv = .slice I n' c') : Con Tryz.prog 176 #[.agg (m.cells ev iv).toArray, .int .i64 f] G [] (Just (.bool (decide (RangesP f m))) G) := by
  subst he; subst hi
  have e : decide (RangesP f m) = decide ((1 ≤ m.src ∧ m.src ≤ 9 ∧ 1 ≤ m.dst ∧ m.dst ≤ 9 ∧ m.src ≠ m.dst) ∧ (band f 1 ≠ 0 → mayP m.round m.node ∧ ¬ (m.round = 0 ∧ m.node = 0)) ∧ (band f 2 ≠ 0 → 1 ≤ m.index ∧ m.index ≤ 4294967296) ∧ (band f 4 ≠ 0 → 0 ≤ m.commit ∧ m.commit ≤ 4294967296) ∧ (band f 8 = 0 ∨ m.version = 1 ∨ m.version = 2)) := decide_eq_decide.2 Iff.rfl
  rw [e]
  clear e
  obtain ⟨kind, src, dst, round, node, index, commit, version, ents, img⟩ := m
  simp only at *
  apply Con.just
  have q1 := mnode_s G
  have q2 := may_s G round node
  have q3 := vmay_s G version
  (refine v_enter Tryz.func176 rfl Tryz.ntmps176 rfl ?_; intro B _)
  repeat' (first | (apply v_box (d := 2) (zs := msL kind src dst round node index commit version (.slice A n c) (.slice I n' c')); (case hx => rfl); (case hz => rfl); (case hd => rfl); intro b2) | apply v_seq | apply v_region | apply v_nil | apply v_skip | apply v_block | apply v_blk | (apply v_take; (case hg => rfl)) | (apply v_pass; (case hg => rfl); (case hn => rfl); (case hd => rfl)) | (apply v_passN; (case hg => rfl); (case hn => rfl); (case hd => rfl)) | (apply v_pure; (case hop => first | (apply p_move <;> rfl) | (apply p_eq <;> rfl) | (apply p_lt <;> rfl) | (apply p_gt <;> rfl) | (apply p_ne <;> rfl) | (apply p_assign <;> rfl) | (apply p_pickT <;> rfl) | (apply p_pickF <;> rfl) | (apply p_not <;> rfl) | (apply p_fieldAddrB <;> rfl) | (apply p_build; (case hz => rfl); (case hv => (simp only [List.map_cons, List.map_nil]; repeat (with_reducible exact evs_nil))); (case hb => (apply bldL; repeat (exact bld_nil)))) | (apply p_and64 <;> rfl) | fail); (case hd => rfl)) | (apply v_condT; (case hc => rfl)) | (apply v_condF; (case hc => rfl)) | (apply v_cond; (case hc => rfl); all_goals (intro h; (try simp only [reduceCtorEq, zzz] at h); first | (exfalso; omega) | skip)) | (apply v_guardB; (case h1 => rfl); (case h2 => rfl); all_goals (intro h; (try simp only [reduceCtorEq, zzz] at h))) | (apply v_pure; (case hop => (apply eqBal; (case hx => rfl); (case hy => rfl))); (case hd => rfl)) | (apply v_callJ (hs := q2); (case ha => rfl); (case hd => rfl)) | (apply v_callJ (hs := q3); (case ha => rfl); (case hd => rfl)) | (apply v_callFJ0 (hs := q1 _); (case hx => rfl); (case ha => rfl); (case hd => rfl)) | (apply v_read; (case hop => first | (apply r_loadNo; (case hx => rfl); (case h => (repeat (exact mhd _))); (case hd => (repeat (first | with_reducible exact dt_nil | apply dt_here))); (case hn => rfl)) | (apply r_load1; rfl; (apply Cell.own; (case h => (repeat (exact mhd _))); rfl)) | fail); (case hd => rfl)) | fail)
  all_goals
    (refine v_ret [] (outsA1 rfl rfl) (by repeat (exact List.nil_sublist _)) ?_
     refine ⟨?_, rfl⟩
     (try simp only [dec_eq])
     congr 1
     unfold mayP at *
     first
       | (rw [decide_eq_decide]; omega)
       | (rw [eq_comm, decide_eq_false_iff_not]; omega)
       | (rw [eq_comm, decide_eq_true_iff]; omega))
def OthersP (f : Int) (m : Ms) : Prop := (band f 1 = 0 ∧ ¬ (m.round = 0 ∧ m.node = 0)) ∨ (band f 2 = 0 ∧ m.index ≠ 0) ∨ (band f 4 = 0 ∧ m.commit ≠ 0) ∨ (band f 8 = 0 ∧ m.version ≠ 0) ∨ (band f 16 = 0 ∧ 0 < m.ents.length) ∨ (band f 32 = 0 ∧ 0 < m.img.length)
instance (f : Int) (m : Ms) : Decidable (OthersP f m) := by unfold OthersP; infer_instance
set_option maxHeartbeats 4000000 in
theorem mothers_s (G : GH) (f : Int) (m : Ms) {A I : Option Addr} {c c' : Nat} : Con Tryz.prog 178 #[.agg (m.cells (.slice A m.ents.length c) (.slice I m.img.length c')).toArray, .int .i64 f] G [] (Just (.bool (decide (OthersP f m))) G) := by
  have e : decide (OthersP f m) = decide ((band f 1 = 0 ∧ ¬ (m.round = 0 ∧ m.node = 0)) ∨ (band f 2 = 0 ∧ m.index ≠ 0) ∨ (band f 4 = 0 ∧ m.commit ≠ 0) ∨ (band f 8 = 0 ∧ m.version ≠ 0) ∨ (band f 16 = 0 ∧ 0 < m.ents.length) ∨ (band f 32 = 0 ∧ 0 < m.img.length)) := decide_eq_decide.2 Iff.rfl
  rw [e]
  clear e
  obtain ⟨kind, src, dst, round, node, index, commit, version, ents, img⟩ := m
  simp only at *
  generalize ents.length = n at *
  generalize img.length = n' at *
  apply Con.just
  (refine v_enter Tryz.func178 rfl Tryz.ntmps178 rfl ?_; intro B _)
  repeat' (first | (apply v_box (d := 2) (zs := msL kind src dst round node index commit version (.slice A n c) (.slice I n' c')); (case hx => rfl); (case hz => rfl); (case hd => rfl); intro b2) | apply v_seq | apply v_region | apply v_nil | apply v_skip | apply v_block | apply v_blk | (apply v_take; (case hg => rfl)) | (apply v_pass; (case hg => rfl); (case hn => rfl); (case hd => rfl)) | (apply v_pure; (case hop => first | (apply p_move <;> rfl) | (apply p_eq <;> rfl) | (apply p_gt <;> rfl) | (apply p_ne <;> rfl) | (apply p_assign <;> rfl) | (apply p_pickT <;> rfl) | (apply p_pickF <;> rfl) | (apply p_lenSlice <;> rfl) | (apply p_fieldAddrB <;> rfl) | (apply p_build; (case hz => rfl); (case hv => (simp only [List.map_cons, List.map_nil]; repeat (with_reducible exact evs_nil))); (case hb => (apply bldL; repeat (exact bld_nil)))) | (apply p_and64 <;> rfl) | fail); (case hd => rfl)) | (apply v_condF; (case hc => rfl)) | (apply v_cond; (case hc => rfl); all_goals (intro h; (try simp only [reduceCtorEq, zzz] at h); first | (exfalso; omega) | skip)) | (apply v_guardB; (case h1 => rfl); (case h2 => rfl); all_goals (intro h; (try simp only [reduceCtorEq, zzz] at h))) | (apply v_pure; (case hop => (apply neBal; (case hx => rfl); (case hy => rfl))); (case hd => rfl)) | (apply v_read; (case hop => first | (apply r_loadNo; (case hx => rfl); (case h => (repeat (exact mhd _))); (case hd => (repeat (first | with_reducible exact dt_nil | apply dt_here))); (case hn => rfl)) | (apply r_load1; rfl; (apply Cell.own; (case h => (repeat (exact mhd _))); rfl)) | fail); (case hd => rfl)) | fail)
  all_goals
    (refine v_ret [] (outsA1 rfl rfl) (by repeat (exact List.nil_sublist _)) ?_
     refine ⟨?_, rfl⟩
     (try simp only [dec_eq])
     congr 1
     first
       | (rw [decide_eq_decide]; omega)
       | (rw [eq_comm, decide_eq_false_iff_not]; omega)
       | (rw [eq_comm, decide_eq_true_iff]; omega))
theorem maccept_s {G : GH} (m : Ms) {A I : Option Addr} {c c' : Nat} (he : Es G (.slice A m.ents.length c) m.ents) : Con Tryz.prog 179 #[.agg (m.cells (.slice A m.ents.length c) (.slice I m.img.length c')).toArray] G [] (SomeB G) := by
  obtain ⟨A0, c0, e0, hlc, hcm, hsome, hcp, hcb, hcc, hok⟩ := esOpen he
  cases e0
  obtain ⟨kind, src, dst, round, node, index, commit, version, ents, img⟩ := m
  simp only at *
  generalize img.length = n' at *
  (refine v_enter Tryz.func179 rfl Tryz.ntmps179 rfl ?_; intro B _)
  by_cases h1 : ents.length = 1
  · have hlt : 0 < ents.length := by omega
    have hA := hsome hlt
    have hb0 := hcb 0 hlt
    clear hcp hcb hcc hok
    generalize ents[0] = x at *
    generalize ents.length = n at *
    subst h1
    repeat' (first | (apply v_box (d := 1) (zs := msL kind src dst round node index commit version (.slice A 1 c) (.slice I n' c')); (case hx => rfl); (case hz => rfl); (case hd => rfl); intro b1) | apply v_seq | apply v_region | apply v_nil | (apply v_pure; (case hop => (apply p_assign <;> rfl)); (case hd => rfl)) | fail)
    refine d_start _ (by kernel_rfl) (by kernel_rfl) (by kernel_rfl) (fun _ he => he) ?_
    all_goals (apply dtk 0; (case hi => rfl); (case hop => (apply prd; apply p_fieldAddrB <;> rfl)); (case hq => kernel_rfl))
    all_goals (apply dtk 1; (case hi => rfl); (case hop => (apply r_load1; rfl; (apply Cell.own; (case h => (repeat (exact mhd _))); rfl))); (case hq => kernel_rfl))
    all_goals (apply dtk 2; (case hi => rfl); (case hop => (apply prd; apply p_lenSlice <;> rfl)); (case hq => kernel_rfl))
    all_goals (apply dtk 3; (case hi => rfl); (case hop => (apply prd; apply p_eqs <;> rfl)); (case hq => kernel_rfl))
    all_goals (apply dtk 4; (case hi => rfl); (case hop => (apply prd; apply p_move <;> rfl)); (case hq => kernel_rfl))
    all_goals (try (apply d_guardB 5; (case hi => rfl); (case hgd => rfl); (case h1 => rfl); (case h2 => rfl); all_goals (intro h; (try simp only [reduceCtorEq, zzz] at h))))
    all_goals (apply dtg 5; (case hi => rfl); (case hg => rfl); (case hop => (apply prd; apply p_fieldAddrB <;> rfl)); (case hq => kernel_rfl))
    all_goals (try (apply d_guardB 6; (case hi => rfl); (case hgd => rfl); (case h1 => rfl); (case h2 => rfl); all_goals (intro h; (try simp only [reduceCtorEq, zzz] at h))))
    all_goals (apply dtg 6; (case hi => rfl); (case hg => rfl); (case hop => (apply r_load1; rfl; (apply Cell.own; (case h => (repeat (exact mhd _))); rfl))); (case hq => kernel_rfl))
    all_goals (try (apply d_guardB 7; (case hi => rfl); (case hgd => rfl); (case h1 => rfl); (case h2 => rfl); all_goals (intro h; (try simp only [reduceCtorEq, zzz] at h))))
    all_goals (apply dtg 7; (case hi => rfl); (case hg => rfl); (case hop => (apply prd; apply p_indexAddrS; (case hx => rfl); (case hi => rfl); (case h0 => omega); (case h => omega); (case hA => assumption))); (case hq => kernel_rfl))
    all_goals (try (apply d_guardB 8; (case hi => rfl); (case hgd => rfl); (case h1 => rfl); (case h2 => rfl); all_goals (intro h; (try simp only [reduceCtorEq, zzz] at h))))
    all_goals (apply dtg 8; (case hi => rfl); (case hg => rfl); (case hop => (apply prd; apply p_fieldAddr <;> rfl)); (case hq => kernel_rfl))
    all_goals (try (apply d_guardB 9; (case hi => rfl); (case hgd => rfl); (case h1 => rfl); (case h2 => rfl); all_goals (intro h; (try simp only [reduceCtorEq, zzz] at h))))
    all_goals (apply dtg 9; (case hi => rfl); (case hg => rfl); (case hop => ((apply r_loadN; rfl; exact CellsAt.frozen hb0; rfl))); (case hq => kernel_rfl))
    all_goals (try (apply d_guardB 10; (case hi => rfl); (case hgd => rfl); (case h1 => rfl); (case h2 => rfl); all_goals (intro h; (try simp only [reduceCtorEq, zzz] at h))))
    all_goals (apply dtg 10; (case hi => rfl); (case hg => rfl); (case hop => (apply prd; apply p_fieldAddrB <;> rfl)); (case hq => kernel_rfl))
    all_goals (try (apply d_guardB 11; (case hi => rfl); (case hgd => rfl); (case h1 => rfl); (case h2 => rfl); all_goals (intro h; (try simp only [reduceCtorEq, zzz] at h))))
    all_goals (apply dtg 11; (case hi => rfl); (case hg => rfl); (case hop => (apply r_loadNo; (case hx => rfl); (case h => (repeat (exact mhd _))); (case hd => (repeat (first | with_reducible exact dt_nil | apply dt_here))); (case hn => rfl))); (case hq => kernel_rfl))
    all_goals (try (apply d_guardB 12; (case hi => rfl); (case hgd => rfl); (case h1 => rfl); (case h2 => rfl); all_goals (intro h; (try simp only [reduceCtorEq, zzz] at h))))
    all_goals (apply dtg 12; (case hi => rfl); (case hg => rfl); (case hop => ((apply prd; apply eqBal; (case hx => rfl); (case hy => rfl)))); (case hq => kernel_rfl))
    all_goals (apply dtk 13; (case hi => rfl); (case hop => (apply prd; apply p_pickT <;> rfl)); (case hq => kernel_rfl))
    all_goals (apply dtk 14; (case hi => rfl); (case hop => (apply prd; apply p_assign <;> rfl)); (case hq => kernel_rfl))
    all_goals (apply d_done; (case hr => kernel_rfl))
    all_goals repeat' (fail)
    all_goals
      (refine v_ret [] (outsA1 rfl rfl) (by repeat (exact List.nil_sublist _)) ?_
       exact ⟨rfl, rfl, _, rfl⟩)
  · clear hcp hcb hcc hok he hsome
    generalize ents.length = n at *
    repeat' (first | (apply v_box (d := 1) (zs := msL kind src dst round node index commit version (.slice A n c) (.slice I n' c')); (case hx => rfl); (case hz => rfl); (case hd => rfl); intro b1) | apply v_seq | apply v_region | apply v_nil | (apply v_pure; (case hop => (apply p_assign <;> rfl)); (case hd => rfl)) | fail)
    refine d_start _ (by kernel_rfl) (by kernel_rfl) (by kernel_rfl) (fun _ he => he) ?_
    all_goals (apply dtk 0; (case hi => rfl); (case hop => (apply prd; apply p_fieldAddrB <;> rfl)); (case hq => kernel_rfl))
    all_goals (apply dtk 1; (case hi => rfl); (case hop => (apply r_load1; rfl; (apply Cell.own; (case h => (repeat (exact mhd _))); rfl))); (case hq => kernel_rfl))
    all_goals (apply dtk 2; (case hi => rfl); (case hop => (apply prd; apply p_lenSlice <;> rfl)); (case hq => kernel_rfl))
    all_goals (apply dtk 3; (case hi => rfl); (case hop => (apply prd; apply p_eq <;> rfl)); (case hq => kernel_rfl))
    all_goals (apply dtk 4; (case hi => rfl); (case hop => (apply prd; apply p_move <;> rfl)); (case hq => kernel_rfl))
    all_goals (try (apply d_guardB 5; (case hi => rfl); (case hgd => rfl); (case h1 => rfl); (case h2 => rfl); all_goals (intro h; (try simp only [reduceCtorEq, zzz] at h); first | (exfalso; omega) | skip)))
    all_goals (apply dpa 5; (case hi => rfl); (case hg => rfl); (case hn => rfl); (case hq => kernel_rfl))
    all_goals (try (apply d_guardB 6; (case hi => rfl); (case hgd => rfl); (case h1 => rfl); (case h2 => rfl); all_goals (intro h; (try simp only [reduceCtorEq, zzz] at h))))
    all_goals (apply dpa 6; (case hi => rfl); (case hg => rfl); (case hn => rfl); (case hq => kernel_rfl))
    all_goals (try (apply d_guardB 7; (case hi => rfl); (case hgd => rfl); (case h1 => rfl); (case h2 => rfl); all_goals (intro h; (try simp only [reduceCtorEq, zzz] at h))))
    all_goals (apply dpa 7; (case hi => rfl); (case hg => rfl); (case hn => rfl); (case hq => kernel_rfl))
    all_goals (try (apply d_guardB 8; (case hi => rfl); (case hgd => rfl); (case h1 => rfl); (case h2 => rfl); all_goals (intro h; (try simp only [reduceCtorEq, zzz] at h))))
    all_goals (apply dpa 8; (case hi => rfl); (case hg => rfl); (case hn => rfl); (case hq => kernel_rfl))
    all_goals (try (apply d_guardB 9; (case hi => rfl); (case hgd => rfl); (case h1 => rfl); (case h2 => rfl); all_goals (intro h; (try simp only [reduceCtorEq, zzz] at h))))
    all_goals (apply dpa 9; (case hi => rfl); (case hg => rfl); (case hn => rfl); (case hq => kernel_rfl))
    all_goals (try (apply d_guardB 10; (case hi => rfl); (case hgd => rfl); (case h1 => rfl); (case h2 => rfl); all_goals (intro h; (try simp only [reduceCtorEq, zzz] at h))))
    all_goals (apply dpa 10; (case hi => rfl); (case hg => rfl); (case hn => rfl); (case hq => kernel_rfl))
    all_goals (try (apply d_guardB 11; (case hi => rfl); (case hgd => rfl); (case h1 => rfl); (case h2 => rfl); all_goals (intro h; (try simp only [reduceCtorEq, zzz] at h))))
    all_goals (apply dpa 11; (case hi => rfl); (case hg => rfl); (case hn => rfl); (case hq => kernel_rfl))
    all_goals (try (apply d_guardB 12; (case hi => rfl); (case hgd => rfl); (case h1 => rfl); (case h2 => rfl); all_goals (intro h; (try simp only [reduceCtorEq, zzz] at h))))
    all_goals (apply dpa 12; (case hi => rfl); (case hg => rfl); (case hn => rfl); (case hq => kernel_rfl))
    all_goals (apply dtk 13; (case hi => rfl); (case hop => (apply prd; apply p_pickF <;> rfl)); (case hq => kernel_rfl))
    all_goals (apply dtk 14; (case hi => rfl); (case hop => (apply prd; apply p_assign <;> rfl)); (case hq => kernel_rfl))
    all_goals (apply d_done; (case hr => kernel_rfl))
    all_goals repeat' (fail)
    all_goals
      (refine v_ret [] (outsA1 rfl rfl) (by repeat (exact List.nil_sublist _)) ?_
       exact ⟨rfl, rfl, _, rfl⟩)
def PromP (m : Ms) : Prop := (1 ≤ m.src ∧ m.src ≤ 9 ∧ 1 ≤ m.dst ∧ m.dst ≤ 9 ∧ m.src ≠ m.dst) ∧ (mayP m.round m.node ∧ ¬ (m.round = 0 ∧ m.node = 0)) ∧ (1 ≤ m.index ∧ m.index ≤ 4294967296) ∧ (0 ≤ m.commit ∧ m.commit ≤ 4294967296) ∧ m.ents.length ≤ 256 ∧ chkK m.ents 0 = 0 ∧ m.version = 0 ∧ m.img.length = 0
def PrE (m : Ms) (G : GH) (r : Value) (G' : GH) (μ' : OH) : Prop := G' = G ∧ μ' = [] ∧ ∃ z : Int, r = .int .i64 z ∧ (m.kind = 4 → (z = 0 ↔ PromP m))
set_option maxHeartbeats 4000000 in
theorem mcheck_s {G : GH} (hT : TabsG G) (m : Ms) {cs : List Value} (hm : MsR G m cs) : Con Tryz.prog 108 #[.agg cs.toArray] G [] (PrE m G) := by
  obtain ⟨A, c, I, ci, rfl, he, hi⟩ := hm
  have q1 := mfields_s G m.kind
  have q2 := fun f => mranges_s G f m (.slice A m.ents.length c) (.slice I m.img.length ci) rfl rfl
  have q3 := entCheck_s hT he
  have q4 := fun f => mothers_s G f m (A := A) (I := I) (c := c) (c' := ci)
  have q5 := maccept_s m (I := I) (c' := ci) he
  have hp : PromP m ↔ ((1 ≤ m.src ∧ m.src ≤ 9 ∧ 1 ≤ m.dst ∧ m.dst ≤ 9 ∧ m.src ≠ m.dst) ∧ (mayP m.round m.node ∧ ¬ (m.round = 0 ∧ m.node = 0)) ∧ (1 ≤ m.index ∧ m.index ≤ 4294967296) ∧ (0 ≤ m.commit ∧ m.commit ≤ 4294967296) ∧ m.ents.length ≤ 256 ∧ chkK m.ents 0 = 0 ∧ m.version = 0 ∧ m.img.length = 0) := Iff.rfl
  have b1 : band 23 1 = 1 := by decide
  have b2 : band 23 2 = 2 := by decide
  have b4 : band 23 4 = 4 := by decide
  have b8 : band 23 8 = 0 := by decide
  have b16 : band 23 16 = 16 := by decide
  have b32 : band 23 32 = 0 := by decide
  have hr : RangesP 23 m ↔ (1 ≤ m.src ∧ m.src ≤ 9 ∧ 1 ≤ m.dst ∧ m.dst ≤ 9 ∧ m.src ≠ m.dst) ∧ (mayP m.round m.node ∧ ¬ (m.round = 0 ∧ m.node = 0)) ∧ (1 ≤ m.index ∧ m.index ≤ 4294967296) ∧ (0 ≤ m.commit ∧ m.commit ≤ 4294967296) := by
    unfold RangesP
    rw [b1, b2, b4, b8]
    constructor
    · rintro ⟨h1, h2, h3, h4, h5⟩; exact ⟨h1, h2 (by decide), h3 (by decide), h4 (by decide)⟩
    · rintro ⟨h1, h2, h3, h4⟩; exact ⟨h1, fun _ => h2, fun _ => h3, fun _ => h4, .inl rfl⟩
  have ho : OthersP 23 m ↔ m.version ≠ 0 ∨ 0 < m.img.length := by
    unfold OthersP
    rw [b1, b2, b4, b8, b16, b32]
    omega
  unfold PrE
  rw [hp]
  clear hp hi he
  by_cases h4 : m.kind = 4
  · have ef : mF m.kind = 23 := by unfold mF; rw [h4]; decide
    rw [ef] at q1
    have q2 := q2 23
    have q4 := q4 23
    have e2 : decide (RangesP 23 m) = decide ((1 ≤ m.src ∧ m.src ≤ 9 ∧ 1 ≤ m.dst ∧ m.dst ≤ 9 ∧ m.src ≠ m.dst) ∧ (mayP m.round m.node ∧ ¬ (m.round = 0 ∧ m.node = 0)) ∧ (1 ≤ m.index ∧ m.index ≤ 4294967296) ∧ (0 ≤ m.commit ∧ m.commit ≤ 4294967296)) := decide_eq_decide.2 hr
    have e4 : decide (OthersP 23 m) = decide (m.version ≠ 0 ∨ 0 < m.img.length) := decide_eq_decide.2 ho
    rw [e2] at q2
    rw [e4] at q4
    clear e2 e4 hr ho b1 b2 b4 b8 ef
    obtain ⟨kind, src, dst, round, node, index, commit, version, ents, img⟩ := m
    simp only at *
    generalize chkK ents 0 = ck at *
    generalize ents.length = n at *
    generalize img.length = n' at *
    subst h4
    (refine v_enter Tryz.func108 rfl Tryz.ntmps108 rfl ?_; intro B _)
    repeat' (first | (apply v_box (d := 1) (zs := msL 4 src dst round node index commit version (.slice A n c) (.slice I n' ci)); (case hx => rfl); (case hz => rfl); (case hd => rfl); intro b1) | (apply v_read; (case hop => (apply r_loadNo; (case hx => rfl); (case h => repeat (exact mhd _)); (case hd => rfl); (case hn => rfl))); (case hd => rfl)) | apply v_seq | apply v_region | apply v_nil | apply v_skip | apply v_block | apply v_blk | (apply v_take; (case hg => rfl)) | (apply v_pass; (case hg => rfl); (case hn => rfl); (case hd => rfl)) | (apply v_passN; (case hg => rfl); (case hn => rfl); (case hd => rfl)) | (apply v_pure; (case hop => first | (apply p_move <;> rfl) | (apply p_nes <;> rfl) | (apply p_eq <;> rfl) | (apply p_gt <;> rfl) | (apply p_ne <;> rfl) | (apply p_assign <;> rfl) | (apply p_pickT <;> rfl) | (apply p_pickF <;> rfl) | (apply p_not <;> rfl) | (apply p_lenSlice <;> rfl) | (apply p_fieldAddrB <;> rfl) | (apply p_and64 <;> rfl) | fail); (case hd => rfl)) | (apply v_condT; (case hc => rfl)) | (apply v_condF; (case hc => rfl)) | (apply v_cond; (case hc => rfl); all_goals (intro h; (try simp only [reduceCtorEq, zzz] at h); first | (exfalso; omega) | skip)) | (apply v_guardB; (case h1 => rfl); (case h2 => rfl); all_goals (intro h; (try simp only [reduceCtorEq, zzz] at h); first | (exfalso; omega) | skip)) | (apply v_callJ (hs := q1); (case ha => rfl); (case hd => rfl)) | (apply v_callJ (hs := q2); (case ha => rfl); (case hd => rfl)) | (apply v_callJ (hs := q3); (case ha => rfl); (case hd => rfl)) | (apply v_callJ (hs := q4); (case ha => rfl); (case hd => rfl)) | (apply v_read; (case hop => (apply r_load1; rfl; (apply Cell.own; (case h => (repeat (exact mhd _))); rfl))); (case hd => rfl)) | fail)
    all_goals
      (refine v_ret [] (outsA1 rfl rfl) (by repeat (exact List.nil_sublist _)) ?_
       refine ⟨rfl, rfl, _, rfl, fun _ => ?_⟩
       clear q1 q2 q3 q4 q5
       unfold mayP at *
       constructor <;> intro hh <;> omega)
  · clear hr ho b1 b2 b4 b8 b16 b32
    have q2 := q2 (mF m.kind)
    have q4 := q4 (mF m.kind)
    generalize decide (RangesP (mF m.kind) m) = rb at *
    generalize decide (OthersP (mF m.kind) m) = ob at *
    generalize mF m.kind = f at *
    obtain ⟨kind, src, dst, round, node, index, commit, version, ents, img⟩ := m
    simp only at *
    generalize chkK ents 0 = ck at *
    generalize ents.length = n at *
    generalize img.length = n' at *
    (refine v_enter Tryz.func108 rfl Tryz.ntmps108 rfl ?_; intro B _)
    repeat' (first | (apply v_box (d := 1) (zs := msL kind src dst round node index commit version (.slice A n c) (.slice I n' ci)); (case hx => rfl); (case hz => rfl); (case hd => rfl); intro b1) | (apply v_read; (case hop => (apply r_loadNo; (case hx => rfl); (case h => repeat (exact mhd _)); (case hd => rfl); (case hn => rfl))); (case hd => rfl)) | apply v_seq | apply v_region | apply v_nil | apply v_skip | apply v_block | apply v_blk | (apply v_take; (case hg => rfl)) | (apply v_pass; (case hg => rfl); (case hn => rfl); (case hd => rfl)) | (apply v_passN; (case hg => rfl); (case hn => rfl); (case hd => rfl)) | (apply v_pure; (case hop => first | (apply p_move <;> rfl) | (apply p_eq <;> rfl) | (apply p_gt <;> rfl) | (apply p_ne <;> rfl) | (apply p_assign <;> rfl) | (apply p_pickT <;> rfl) | (apply p_pickF <;> rfl) | (apply p_not <;> rfl) | (apply p_lenSlice <;> rfl) | (apply p_fieldAddrB <;> rfl) | (apply p_and64 <;> rfl) | fail); (case hd => rfl)) | (apply v_condT; (case hc => rfl)) | (apply v_condF; (case hc => rfl)) | (apply v_cond; (case hc => rfl); all_goals (intro h; (try simp only [reduceCtorEq, zzz] at h); first | (exfalso; omega) | skip)) | (apply v_guardB; (case h1 => rfl); (case h2 => rfl); all_goals (intro h; (try simp only [reduceCtorEq, zzz] at h); first | (exfalso; omega) | skip)) | (apply v_callJ (hs := q1); (case ha => rfl); (case hd => rfl)) | (apply v_callJ (hs := q2); (case ha => rfl); (case hd => rfl)) | (apply v_callJ (hs := q3); (case ha => rfl); (case hd => rfl)) | (apply v_callJ (hs := q4); (case ha => rfl); (case hd => rfl)) | (apply v_call (μ1 := []) (hs := q5); (case ha => rfl); (case hp => exact List.Perm.refl _); (case hd => rfl); rintro _ G1 _ - ⟨hG1, rfl, bq, rfl⟩; subst hG1) | (apply v_read; (case hop => (apply r_load1; rfl; (apply Cell.own; (case h => (repeat (exact mhd _))); rfl))); (case hd => rfl)) | fail)
    all_goals
      (refine v_ret [] (outsA1 rfl rfl) (by repeat (exact List.nil_sublist _)) ?_
       exact ⟨rfl, rfl, _, rfl, fun h => absurd h h4⟩)
theorem ahead1_s (G : GH) (cb : Nat) (z : Int) (x : Ent) : Con Tryz.prog 196 #[.agg x.cells.toArray, .pointer (some ⟨cb, 0, none⟩)] G [(cb, .cells [Value.int .i64 z].toArray 3 (0, 0))] (Keeps (.bool (decide (x.index ≤ z))) G [(cb, .cells [Value.int .i64 z].toArray 3 (0, 0))]) := by
  apply Con.keeps
  (refine v_enter Tryz.func196 rfl Tryz.ntmps196 rfl ?_; intro B _)
  repeat' (first | (apply v_box (d := 2) (zs := x.cells); (case hx => rfl); (case hz => rfl); (case hd => rfl); intro b2) | apply v_seq | apply v_region | apply v_nil | (apply v_pure; (case hop => first | (apply p_le <;> rfl) | (apply p_assign <;> rfl) | (apply p_fieldAddrB <;> rfl) | fail); (case hd => rfl)) | (apply v_read; (case hop => (apply r_load1; rfl; (apply Cell.own; (case h => (repeat (first | exact mhd _ | apply mtl))); rfl))); (case hd => rfl)) | fail)
  refine v_ret [(cb, _)] (outsA1 rfl rfl) (by repeat (first | exact List.Sublist.refl _ | apply List.Sublist.cons)) ⟨?_, rfl⟩
  rw [dec_eq]
theorem delNone_s {G : GH} {l : List Ent} {A : Option Addr} {c : Nat} (hs : Es G (.slice A l.length c) l) (cb : Nat) (z : Int) (hz : ∀ e ∈ l, z < e.index) : Con Tryz.prog 194 #[.slice A l.length c, .func (.func 196) #[] #[.pointer (some ⟨cb, 0, none⟩)]] G [(cb, .cells [Value.int .i64 z].toArray 3 (0, 0))] (Keeps (.slice A l.length c) G [(cb, .cells [Value.int .i64 z].toArray 3 (0, 0))]) := by
  have q := idx_s hs 196 [.pointer (some ⟨cb, 0, none⟩)] [(cb, .cells [Value.int .i64 z].toArray 3 (0, 0))] (fun x => decide (x.index ≤ z)) (fun e _ => ahead1_s G cb z e)
  have hno : ¬ l.any (fun x => decide (x.index ≤ z)) = true := by
    rw [List.any_eq_true]
    rintro ⟨e, he, h⟩
    have := hz e he
    simp only [decide_eq_true_eq] at h
    omega
  apply Con.keeps
  (refine v_enter Tryz.func194 rfl Tryz.ntmps194 rfl ?_; intro B _)
  repeat' (first | apply v_seq | apply v_region | apply v_nil | (apply v_pure; (case hop => first | (apply p_move <;> rfl) | (apply p_assign <;> rfl) | fail); (case hd => rfl)) | fail)
  refine v_call (μ1 := [(cb, _)]) (μ2 := []) rfl q (by simp) rfl ?_
  rintro _ G1 _ - ⟨rfl, rfl, k, rfl, hk, hk1⟩
  have hkm : k = -1 := by
    have : ¬ 0 ≤ k := fun h => hno (hk.1 h)
    omega
  subst hkm
  repeat' (first | apply v_seq | apply v_region | apply v_nil | (apply v_pure; (case hop => first | (apply p_move <;> rfl) | (apply p_eqs <;> rfl) | (apply p_assign <;> rfl) | fail); (case hd => rfl)) | (apply v_condT; (case hc => rfl)) | fail)
  refine v_ret [(cb, _)] (outsA1 rfl rfl) (List.sublist_append_left _ _) ⟨rfl, rfl⟩
theorem back_s (G : GH) (m : Ms) {A I : Option Addr} {n c n' c' : Nat} (k r b : Int) : Con Tryz.prog 119 #[.agg (m.cells (.slice A n c) (.slice I n' c')).toArray, .int .i64 k, .agg #[.int .i64 r, .int .i64 b]] G [] (Just (.agg (msL k m.dst m.src r b 0 0 0 (.slice none 0 0) (.slice none 0 0)).toArray) G) := by
  obtain ⟨kind, src, dst, round, node, index, commit, version, ents, img⟩ := m
  apply Con.just
  (refine v_enter Tryz.func119 rfl Tryz.ntmps119 rfl ?_; intro B _)
  repeat' (first | (apply v_box (d := 3) (zs := msL kind src dst round node index commit version (.slice A n c) (.slice I n' c')); (case hx => rfl); (case hz => rfl); (case hd => rfl); intro b3) | (apply v_box (d := 5) (zs := [.int .i64 r, .int .i64 b]); (case hx => rfl); (case hz => rfl); (case hd => rfl); intro b5) | (apply v_alloc (d := 6); (case hz => rfl); (case hd => rfl); intro b6) | (apply v_read; (case hop => (apply r_loadNo; (case hx => rfl); (case h => repeat (first | exact mhd _ | apply mtl)); (case hd => rfl); (case hn => rfl))); (case hd => rfl)) | apply v_seq | apply v_region | apply v_nil | (apply v_pure; (case hop => first | (apply p_move <;> rfl) | (apply p_fieldAddrB <;> rfl) | (apply p_build; (case hz => rfl); (case hv => (simp only [List.map_cons, List.map_nil]; repeat (first | with_reducible exact evs_nil | (apply evs_cons; (case h1 => rfl))))); (case hb => (apply bldL; repeat (first | exact bld_nil | (apply bld_cons; (case hpf => rfl); (case hc => rfl); (case hs => rfl); (case hl => rfl); (case ho => (first | ((repeat (first | with_reducible exact ov_nil | apply ov_cons)); done) | rfl)))))))); (case hd => rfl)) | (apply v_read; (case hop => (apply r_load1; rfl; (apply Cell.own; (case h => (repeat (first | exact mhd _ | apply mtl))); rfl))); (case hd => rfl)) | (apply v_store; (case hp => rfl); (case hx => rfl); (case hc => rfl); (case hsz => rfl); (case h1 => rfl); (case hb => (repeat (exact mhd _))); (case hfit => exact nle rfl); (case hov => ((repeat (first | with_reducible exact ov_nil | apply ov_cons)); done)); (case hu => repeat (exact Upd.here _ _))) | fail)
  refine v_retM [] (outsM_cell (sz := 10) (vs := msL k dst src r b 0 0 0 (.slice none 0 0) (.slice none 0 0)) (e := 89) rfl rfl (by repeat (exact mhd _)) rfl) (by repeat (exact List.nil_sublist _)) ⟨rfl, rfl⟩
theorem ahead_s {G : GH} {H : Hd} {L : List Value} (hh : HdV G H L) (hr : RiseL H.acc) (hn : H.acc.length ≤ 200) (h1 : ∀ e ∈ H.acc, 1 ≤ e.index) (hok : ∀ e ∈ H.acc, e.ok) :
    Con Tryz.prog 120 #[.agg L.toArray, .int .i64 1, .int .i64 0] G [] (fun r G' μ' => μ' = [] ∧ Es G' r H.acc) := by
  obtain ⟨iv, av, cv, rfl, hi, ha, hc⟩ := hh
  have qf := from_s 1 ha hr hn
  have hp0 : placeN H.acc 1 = 0 := placeN_zero h1
  rw [hp0, List.drop_zero] at qf
  obtain ⟨A0, c0, rfl, -⟩ := hi.openInt
  obtain ⟨A1, c1, rfl, -⟩ := ha.open
  obtain ⟨A2, c2, rfl, -⟩ := hc.open
  (refine v_enter Tryz.func120 rfl Tryz.ntmps120 rfl ?_; intro B _)
  repeat' (first | (apply v_box (d := 3) (zs := hdL H.pr H.pn H.base (.slice A0 H.image.length c0) (.slice A1 H.acc.length c1) (.slice A2 H.cho.length c2)); (case hx => rfl); (case hz => rfl); (case hd => rfl); intro b3) | (apply v_box (d := 5) (zs := [.int .i64 0]); (case hx => rfl); (case hz => rfl); (case hd => rfl); intro b5) | apply v_seq | apply v_region | apply v_nil | (apply v_pure; (case hop => first | (apply p_move <;> rfl) | (apply p_assign <;> rfl) | (apply p_fieldAddrB <;> rfl) | fail); (case hd => rfl)) | (apply v_read; (case hop => (apply r_load1; rfl; (apply Cell.own; (case h => (repeat (first | exact mhd _ | apply mtl))); rfl))); (case hd => rfl)) | fail)
  refine v_call (μ1 := []) rfl qf (List.Perm.refl _) rfl ?_
  rintro r G1 ν1 - ⟨hG1, hg⟩
  subst hG1
  refine v_frzP ν1 (List.Perm.refl _) ?_
  intro G2 hle2 hG2
  have hE := es_of_grow hg hG2 hok
  obtain ⟨A3, c3, rfl, -⟩ := id hE.open
  have qd := fun cb => delNone_s hE cb 0 (fun e he => by have := h1 e he; omega)
  repeat' (first | apply v_nil | (apply v_pure; (case hop => first | (apply p_assign <;> rfl) | (apply p_makeFunc <;> rfl)); (case hd => rfl)) | (apply v_callK (hs := qd _); (case ha => rfl); (case hp => exact (Pick.perm (by repeat (exact Pick.here _)))); (case hd => rfl)) | fail)
  refine v_ret [] (outsA1 rfl rfl) (List.nil_sublist _) ⟨rfl, hE⟩
def prepM (src dst r n : Int) : Ms := ⟨3, src, dst, r, n, 1, 0, 0, [], []⟩
theorem mcheckPrep_s {G : GH} (hT : TabsG G) (src dst r n : Int) (h1 : 1 ≤ src ∧ src ≤ 9 ∧ 1 ≤ dst ∧ dst ≤ 9 ∧ src ≠ dst) (h2 : mayP r n ∧ ¬ (r = 0 ∧ n = 0)) : Con Tryz.prog 108 #[.agg (msL 3 src dst r n 1 0 0 (.slice none 0 0) (.slice none 0 0)).toArray] G [] (Just (.int .i64 0) G) := by
  have hnil : Es G (.slice none 0 0) [] := Sl.nil
  have q1 := mfields_s G 3
  have e3 : mF 3 = 3 := by decide
  rw [e3] at q1
  have q2 := mranges_s G 3 (prepM src dst r n) (.slice none 0 0) (.slice none 0 0) rfl rfl
  have q3 := entCheck_s hT hnil
  have q4 := mothers_s G 3 (prepM src dst r n) (A := none) (I := none) (c := 0) (c' := 0)
  have b1 : band 3 1 = 1 := by decide
  have b2 : band 3 2 = 2 := by decide
  have b4 : band 3 4 = 0 := by decide
  have b8 : band 3 8 = 0 := by decide
  have b16 : band 3 16 = 0 := by decide
  have b32 : band 3 32 = 0 := by decide
  have hr : RangesP 3 (prepM src dst r n) := by
    unfold RangesP
    rw [b1, b2, b4, b8]
    exact ⟨h1, fun _ => h2, fun _ => ⟨by show (1 : Int) ≤ 1; omega, by show (1 : Int) ≤ _; omega⟩, fun h => absurd rfl h, .inl rfl⟩
  have ho : ¬ OthersP 3 (prepM src dst r n) := by
    unfold OthersP
    rw [b1, b2, b4, b8, b16, b32]
    show ¬ _
    simp [prepM]
  rw [decide_eq_true hr] at q2
  rw [decide_eq_false ho] at q4
  have hc0 : chkK ([] : List Ent) 0 = 0 := by unfold chkK; rfl
  rw [hc0] at q3
  clear hr ho
  unfold prepM at q2 q4
  simp only [Ms.cells, List.length_nil] at q2 q4
  apply Con.just
  (refine v_enter Tryz.func108 rfl Tryz.ntmps108 rfl ?_; intro B _)
  repeat' (first | (apply v_box (d := 1) (zs := msL 3 src dst r n 1 0 0 (.slice none 0 0) (.slice none 0 0)); (case hx => rfl); (case hz => rfl); (case hd => rfl); intro b1) | (apply v_read; (case hop => (apply r_loadNo; (case hx => rfl); (case h => repeat (exact mhd _)); (case hd => rfl); (case hn => rfl))); (case hd => rfl)) | apply v_seq | apply v_region | apply v_nil | apply v_skip | apply v_block | apply v_blk | (apply v_take; (case hg => rfl)) | (apply v_pass; (case hg => rfl); (case hn => rfl); (case hd => rfl)) | (apply v_pure; (case hop => first | (apply p_move <;> rfl) | (apply p_nes <;> rfl) | (apply p_eq <;> rfl) | (apply p_assign <;> rfl) | (apply p_pickF <;> rfl) | (apply p_not <;> rfl) | (apply p_fieldAddrB <;> rfl) | (apply p_and64 <;> rfl) | fail); (case hd => rfl)) | (apply v_condF; (case hc => rfl)) | (apply v_cond; (case hc => rfl); all_goals (intro h; (try simp only [reduceCtorEq, zzz] at h); first | (exfalso; omega) | skip)) | (apply v_guardB; (case h1 => rfl); (case h2 => rfl); all_goals (intro h; (try simp only [reduceCtorEq, zzz] at h); first | (exfalso; omega) | skip)) | (apply v_callJ (hs := q1); (case ha => rfl); (case hd => rfl)) | (apply v_callJ (hs := q2); (case ha => rfl); (case hd => rfl)) | (apply v_callJ (hs := q4); (case ha => rfl); (case hd => rfl)) | (apply v_read; (case hop => (apply r_load1; rfl; (apply Cell.own; (case h => (repeat (exact mhd _))); rfl))); (case hd => rfl)) | fail)
  all_goals
    (refine v_ret [] (outsA1 rfl rfl) (by repeat (exact List.nil_sublist _)) ?_
     first
       | exact ⟨rfl, rfl⟩
       | (exfalso; omega))
end Go.Proofs.YtmdeeokejdkceaaGreatDoor
/-
  VX: make of a slice; copy of nothing; clear of a row's end; results that lie in memory, of several shapes.
-/
set_option linter.unusedVariables false
set_option linter.unusedSimpArgs false
set_option linter.unusedSectionVars false
namespace Go.Vx
open Go
section
attribute [local semireducible] MoveOp ReadOp PureOp
variable {P : Program} {fn : Func} {n : Nat} {B : Base} {Φ : Value → GH → OH → Prop} {k : List It} {rest : List Oper} {all : Array Oper} {σ : Env} {G : GH} {μ : OH} {d : Nat} {t ty : TypeId} {pos : String} {af : Array Edge} {bytes : Nat} {zero : Value}
end
section
variable {P : Program} {fn : Func} {n : Nat} {σ : Env} {G : GH} {μ : OH}
theorem outsM_tct {u0 : Nat} {x0 : Value} {a1 b1 sz1 bytes1 : Nat} {zero1 : Value} {vs1 : List Value} {t1 e1 : TypeId} [Lay P t1 true sz1 bytes1 zero1] {u2 : Nat} {x2 : Value} (hr : fn.results = #[.tmp u0, .cell a1 t1, .tmp u2]) (hu0 : Env.get σ u0 = some x0) (ha1 : Env.get σ a1 = some (.pointer (some ⟨b1, 0, none⟩))) (hb1 : Has μ b1 vs1 e1) (hl1 : vs1.length = sz1) (hu2 : Env.get σ u2 = some x2) : OutsM P fn n σ G μ (.tuple [x0, .agg vs1.toArray, x2].toArray) := by
  intro w hw ds a' ha'
  have h0 := ha'.get _ _ hu0
  subst hl1
  have h1 := ha'.get _ _ ha1
  have g1 : (loadCells ⟨b1, 0, none⟩ vs1.length).run P w = .ok vs1.toArray w := run_loadCells_list w _ vs1 (fun j v hv => CellsAt.own hb1 j v hv w hw)
  have h2 := ha'.get _ _ hu2
  simp only [Array.getD_eq_getD_getElem?] at h0 h1 h2
  simp [results, hr, asAddr, loadVar, h0, h1, run_isAgg' (P := P) (t := t1) (agg := true) (size := vs1.length) (bytes := bytes1) (zero := zero1), run_sizeOf (P := P) (t := t1) (agg := true) (size := vs1.length) (bytes := bytes1) (zero := zero1), g1, h2]
end
end Go.Vx
/-
  acceptor (layer 31): Prepare, where the ballot is above all that was promised.
-/
set_option linter.unusedSimpArgs false
set_option linter.unusedVariables false
namespace Go.Proofs.YtmdeeokejdkceaaGreatDoor
open Go.Vx Go.ChangeShapes Go.WideShapes Go.ChangeAt Go.RowKit
theorem accCheck_s {G : GH} (hT : TabsG G) {H : Hd} {L : List Value} (hh : HdV G H L) (hc : CheckP H) (hb : H.base = 0) (src dst r n : Int) (h1 : 1 ≤ src ∧ src ≤ 9 ∧ 1 ≤ dst ∧ dst ≤ 9 ∧ src ≠ dst) (h2 : mayP r n ∧ ¬ (r = 0 ∧ n = 0)) :
    Con Tryz.prog 117 #[.agg L.toArray, .int .i64 0, .agg (msL 3 src dst r n 1 0 0 (.slice none 0 0) (.slice none 0 0)).toArray, .int .i64 3] G [] (Just (.int .i64 0) G) := by
  have q1 := mcheckPrep_s hT src dst r n h1 h2
  have q2 := hChk_s hT hh
  rw [if_pos hc] at q2
  obtain ⟨iv, av, cv, rfl, hi, ha, hcv⟩ := hh
  obtain ⟨A0, c0, rfl, -⟩ := hi.openInt
  obtain ⟨A1, c1, rfl, -⟩ := ha.open
  obtain ⟨A2, c2, rfl, -⟩ := hcv.open
  apply Con.just
  (refine v_enter Tryz.func117 rfl Tryz.ntmps117 rfl ?_; intro B _)
  repeat' (first | (apply v_box (d := 4) (zs := hdL H.pr H.pn H.base (.slice A0 H.image.length c0) (.slice A1 H.acc.length c1) (.slice A2 H.cho.length c2)); (case hx => rfl); (case hz => rfl); (case hd => rfl); intro b4) | (apply v_box (d := 6) (zs := msL 3 src dst r n 1 0 0 (.slice none 0 0) (.slice none 0 0)); (case hx => rfl); (case hz => rfl); (case hd => rfl); intro b6) | (apply v_read; (case hop => (apply r_loadNo; (case hx => rfl); (case h => repeat (first | exact mhd _ | apply mtl)); (case hd => rfl); (case hn => rfl))); (case hd => rfl)) | apply v_seq | apply v_region | apply v_nil | apply v_skip | (apply v_take; (case hg => rfl)) | (apply v_pure; (case hop => first | (apply p_move <;> rfl) | (apply p_nes <;> rfl) | (apply p_lt <;> rfl) | (apply p_gt <;> rfl) | (apply p_assign <;> rfl) | (apply p_pickF <;> rfl) | (apply p_fieldAddrB <;> rfl) | fail); (case hd => rfl)) | (apply v_condF; (case hc => rfl)) | (apply v_cond; (case hc => rfl); all_goals (intro h; (try simp only [reduceCtorEq, zzz] at h); first | (exfalso; omega) | skip)) | (apply v_guardB; (case h1 => rfl); (case h2 => rfl); all_goals (intro h; (try simp only [reduceCtorEq, zzz] at h); first | (exfalso; omega) | skip)) | (apply v_callJ (hs := q1); (case ha => rfl); (case hd => rfl)) | (apply v_callJ (hs := q2); (case ha => rfl); (case hd => rfl)) | (apply v_read; (case hop => (apply r_load1; rfl; (apply Cell.own; (case h => (repeat (first | exact mhd _ | apply mtl))); rfl))); (case hd => rfl)) | fail)
  all_goals
    (refine v_ret [] (outsA1 rfl rfl) (by repeat (exact List.nil_sublist _)) ?_
     first
       | exact ⟨rfl, rfl⟩
       | (exfalso; omega))
set_option maxHeartbeats 2000000 in
theorem prepare_s {G : GH} (hT : TabsG G) {H : Hd} {L : List Value} (hh : HdV G H L) (hc : CheckP H) (hb : H.base = 0) (hl : H.acc.length ≤ 200) (hok : ∀ e ∈ H.acc, e.ok) (src dst r n : Int) (h1 : 1 ≤ src ∧ src ≤ 9 ∧ 1 ≤ dst ∧ dst ≤ 9 ∧ src ≠ dst) (h2 : mayP r n ∧ ¬ (r = 0 ∧ n = 0)) (hless : lessP H.pr H.pn r n) :
    Con Tryz.prog 62 #[.agg L.toArray, .int .i64 0, .agg (msL 3 src dst r n 1 0 0 (.slice none 0 0) (.slice none 0 0)).toArray] G [] (fun v G' μ' => ∃ ov A c, v = .tuple [ov, .agg (msL 4 dst src r n 1 0 0 (.slice A H.acc.length c) (.slice none 0 0)).toArray, .int .i64 0].toArray ∧ Es G' (.slice A H.acc.length c) H.acc) := by
  have q1 := accCheck_s hT hh hc hb src dst r n h1 h2
  have hnl : ¬ lessP r n H.pr H.pn := by
    unfold lessP at hless ⊢
    omega
  have q2 := less_s G r n H.pr H.pn
  have q3 := less_s G H.pr H.pn r n
  rw [decide_eq_false hnl] at q2
  rw [decide_eq_true hless] at q3
  have qb := back_s G (prepM src dst r n) (A := none) (I := none) (n := 0) (c := 0) (n' := 0) (c' := 0) 4 r n
  have qa := ahead_s hh (chk_rise hc.2.2.2.2.1) hl (fun e he => by
    have := (one_parts (chk_one hc.2.2.2.2.1 e he)).1
    exact this) hok
  unfold prepM at qb
  simp only [Ms.cells] at qb
  obtain ⟨iv, av, cv, rfl, hi, ha, hcv⟩ := hh
  obtain ⟨A0, c0, rfl, -⟩ := hi.openInt
  obtain ⟨A1, c1, rfl, -⟩ := ha.open
  obtain ⟨A2, c2, rfl, -⟩ := hcv.open
  (refine v_enter Tryz.func62 rfl Tryz.ntmps62 rfl ?_; intro B _)
  repeat' (first | (apply v_box (d := 3) (zs := hdL H.pr H.pn H.base (.slice A0 H.image.length c0) (.slice A1 H.acc.length c1) (.slice A2 H.cho.length c2)); (case hx => rfl); (case hz => rfl); (case hd => rfl); intro b3) | (apply v_box (d := 5) (zs := msL 3 src dst r n 1 0 0 (.slice none 0 0) (.slice none 0 0)); (case hx => rfl); (case hz => rfl); (case hd => rfl); intro b5) | (apply v_alloc (d := 7); (case hz => rfl); (case hd => rfl); intro b7) | (apply v_alloc (d := 11); (case hz => rfl); (case hd => rfl); intro b11) | (apply v_read; (case hop => (apply r_loadNo; (case hx => rfl); (case h => repeat (first | exact mhd _ | apply mtl | apply List.mem_append_right)); (case hd => rfl); (case hn => rfl))); (case hd => rfl)) | apply v_seq | apply v_region | apply v_nil | apply v_skip | (apply v_pure; (case hop => first | (apply p_move <;> rfl) | (apply p_nes <;> rfl) | (apply p_assign <;> rfl) | (apply p_fieldAddrB <;> rfl) | (apply p_build; (case hz => rfl); (case hv => (simp only [List.map_cons, List.map_nil]; repeat (first | with_reducible exact evs_nil | (apply evs_cons; (case h1 => rfl))))); (case hb => (apply bldL; repeat (first | exact bld_nil | (apply bld_cons; (case hpf => rfl); (case hc => rfl); (case hs => rfl); (case hl => rfl); (case ho => (first | ((repeat (first | with_reducible exact ov_nil | apply ov_cons)); done) | rfl))))))) | fail); (case hd => rfl)) | (apply v_condT; (case hc => rfl)) | (apply v_condF; (case hc => rfl)) | (apply v_callJ (hs := q1); (case ha => rfl); (case hd => rfl)) | (apply v_callJ (hs := q2); (case ha => rfl); (case hd => rfl)) | (apply v_callJ (hs := q3); (case ha => rfl); (case hd => rfl)) | (apply v_callJ (hs := qb); (case ha => rfl); (case hd => rfl)) | (apply v_append (hg := Grow.nil 113 12) (m' := 1) (us := [.int .i64 1, .int .i64 r, .int .i64 n, .int .i64 0, .int .i64 0, .int .i64 0, .int .i64 0, .string ByteArray.empty, .string ByteArray.empty, .string ByteArray.empty, .int .i64 0, .slice none 0 0]) (hp := List.Perm.refl _) (hsrc := Src.own (e := 113) (List.Mem.head _) rfl); (case hzs => rfl); (case hsz => omega); (case hs => rfl); (case hx => rfl); (case hb => omega); (case hb' => simp only [maxLen]; omega); (case hd => rfl); (case h1 => rfl); intro v9 n9 hg9; obtain ⟨A9, c9, rfl, -, -⟩ := hg9.shape) | (apply v_read; (case hop => (apply r_load1; rfl; (apply Cell.own; (case h => (repeat (first | exact mhd _ | apply mtl | apply List.mem_append_right))); rfl))); (case hd => rfl)) | (apply v_buildSlice; (case hz => rfl); (case hi => rfl); (case hv => (simp only [List.map_cons, List.map_nil]; repeat (first | with_reducible exact evs_nil | (apply evs_cons; (case h1 => rfl))))); (case hp => (apply pk_cons; (case hc => rfl); (case hs => rfl); (case h => (with_reducible exact pk_nil)); (case he => ((repeat (first | with_reducible exact ap_nil | apply ap_cons)); done)))); (case hb => rfl); (case hd => rfl); intro b) | (apply v_store; (case hp => rfl); (case hx => rfl); (case hc => rfl); (case hsz => rfl); (case h1 => rfl); (case hb => (repeat (exact mhd _))); (case hfit => exact nle rfl); (case hov => ((repeat (first | with_reducible exact ov_nil | apply ov_cons)); done)); (case hu => repeat (exact Upd.here _ _))) | fail)
  refine v_call (μ1 := []) rfl qa (List.Perm.refl _) rfl ?_
  rintro _ G2 _ hle2 ⟨rfl, hE⟩
  obtain ⟨A3, c3, rfl, -⟩ := id hE.open
  repeat' (first | apply v_seq | apply v_nil | (apply v_pure; (case hop => (apply p_fieldAddrB <;> rfl)); (case hd => rfl)) | (apply v_store; (case hp => rfl); (case hx => rfl); (case hc => rfl); (case hsz => rfl); (case h1 => rfl); (case hb => (repeat (exact mhd _))); (case hfit => exact nle rfl); (case hov => ((repeat (first | with_reducible exact ov_nil | apply ov_cons)); done)); (case hu => repeat (exact Upd.here _ _))) | fail)
  refine v_perm (ν := [(b11, .cells (msL 4 dst src r n 1 0 0 (.slice A3 H.acc.length c3) (.slice none 0 0)).toArray 89 (0, 0)), (b7, .cells (msL 0 0 0 0 0 0 0 0 (.slice none 0 0) (.slice none 0 0)).toArray 89 (0, 0))] ++ (n9 ++ [(b, _), (b5, _), (b3, _)])) (by apply perm_of_count; intro p; simp only [List.append_eq, List.countP_append, List.countP_cons, List.countP_nil, Nat.zero_add, Nat.add_zero]; try ac_rfl) ?_
  refine v_drop (List.sublist_append_left _ _) ?_
  refine d_start [(b11, .cells (msL 4 dst src r n 1 0 0 (.slice A3 H.acc.length c3) (.slice none 0 0)).toArray 89 (0, 0))] (by kernel_rfl) (by kernel_rfl) (by kernel_rfl) (by intro e he; (simp at he; simp [he]; done)) ?_
  all_goals (apply dtk 0; (case hi => rfl); (case hop => (apply prd; apply p_move <;> rfl)); (case hq => kernel_rfl))
  all_goals (apply dtk 1; (case hi => rfl); (case hop => first | (apply r_loadNo; (case hx => rfl); (case h => (repeat (exact mhd _))); (case hd => (repeat (first | with_reducible exact dt_nil | apply dt_here))); (case hn => rfl)) | (apply r_load1; rfl; (apply Cell.own; (case h => (repeat (fail))); rfl)) | (apply r_loadN; rfl; (apply CellsAt.own; (case h => (repeat (fail)))); rfl)); (case hq => kernel_rfl))
  all_goals (apply dtk 2; (case hi => rfl); (case hop => (apply prd; apply p_assign <;> rfl)); (case hq => kernel_rfl))
  all_goals (apply d_store 3; (case hi => rfl); (case hr => kernel_rfl); (case hL => infer_instance); (case hp => rfl); (case hx => rfl); (case hc => rfl); (case hsz => rfl); (case h1 => rfl); (case hb => (repeat (first | exact mhd _ | apply mtl))); (case hfit => exact nle rfl); (case hov => ((repeat (first | with_reducible exact ov_nil | apply ov_cons)); done)); (case hu => repeat (first | exact Upd.here _ _ | apply Upd.there)); (case hν' => intro e he; (simp at he; simp [he]; done)))
  all_goals (apply dtk 4; (case hi => rfl); (case hop => (apply prd; apply p_assign <;> rfl)); (case hq => kernel_rfl))
  all_goals (apply d_done; (case hr => kernel_rfl))
  repeat' (fail)
  refine v_retM [] (outsM_tct (sz1 := 10) (vs1 := msL 4 dst src r n 1 0 0 (.slice A3 H.acc.length c3) (.slice none 0 0)) (e1 := 89) rfl rfl rfl (by repeat (first | exact mhd _ | apply mtl)) rfl rfl) (List.nil_sublist _) ⟨_, A3, c3, rfl, hE⟩
end Go.Proofs.YtmdeeokejdkceaaGreatDoor
/-
  The reference 13: which fields a kind has.
-/
set_option linter.unusedSimpArgs false
set_option linter.unusedVariables false
namespace Go.Proofs.YtmdeeokejdkceaaGreatDoor
open Go.Vx Go.ChangeShapes Go.WideShapes Go.ChangeAt Go.RowKit
end Go.Proofs.YtmdeeokejdkceaaGreatDoor
/-
  VX, A CUT: what is left is shown once, whichever way led there.
-/
set_option linter.unusedVariables false
set_option linter.unusedSimpArgs false
namespace Go.Vx
open Go
attribute [local semireducible] Vc DVc
def EnvHas (σ : Env) : Env → Prop
  | [] => True
  | (i, v) :: σ' => Env.get σ i = some v ∧ EnvHas σ σ'
theorem EnvHas.get {σ : Env} : ∀ {σ' : Env}, EnvHas σ σ' → ∀ i v, Env.get σ' i = some v → Env.get σ i = some v
  | [], _, i, v, h => by simp [Env.get] at h
  | (j, u) :: σ', hh, i, v, h => by
    obtain ⟨h1, h2⟩ := hh
    simp only [Env.get] at h
    cases hb : Nat.beq j i with
    | true =>
      rw [hb] at h
      simp only [cond_true, Option.some.injEq] at h
      subst h
      have := Nat.eq_of_beq_eq_true hb
      subst this
      exact h1
    | false =>
      rw [hb] at h
      exact EnvHas.get h2 i v h
section
variable {P : Program} {fn : Func} {n : Nat} {B : Base} {Φ : Value → GH → OH → Prop} {k : List It} {σ σ' : Env} {G G0 : GH} {μ : OH}
theorem v_has (h : EnvHas σ σ') (hv : Vc P fn n B Φ k σ' G μ) : Vc P fn n B Φ k σ G μ := fun w hw a ha => hv w hw a (ha.sub h.get)
theorem v_cut {it : It} (R : Env → GH → OH → Prop) (h2 : (∀ σ G μ, R σ G μ → Vc P fn n B Φ k σ G μ) → Vc P fn n B Φ (it :: k) σ G μ) (h1 : ∀ σ G μ, R σ G μ → Vc P fn n B Φ k σ G μ) : Vc P fn n B Φ (it :: k) σ G μ := h2 h1
end
section
variable {P : Program} {fn : Func} {n : Nat} {B : Base} {Φ : Value → GH → OH → Prop} {k : List It} {σ : Env} {G G0 : GH} {μ : OH} {all : Array Oper} {m : Nat} {listed : Array Bool} {d : Nat} {op : Op} {ty : TypeId} {pos : String} {af : Array Edge} {t : TypeId} {bytes : Nat} {zero : Value} {ν : OH}
end
end Go.Vx
