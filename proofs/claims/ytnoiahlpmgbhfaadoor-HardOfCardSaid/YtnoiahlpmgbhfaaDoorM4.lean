/-
  pack, the sixth part: a reader's numbers.
-/
import Derived.Test.YtnoiahlpmgbhfaaDoorM3
import Derived.Laws.BytesArg
import Derived.Test.YtnoiahlpmgbhfaaDoorM2
import Derived.Lib.AppendStr
set_option linter.unusedSimpArgs false
set_option linter.unusedVariables false
namespace Go.Proofs.YtnoiahlpmgbhfaaDoor
open Go.Vx Go.ChangeShapes Go.WideShapes Go.ChangeAt Go.RowKit
/-- What is read of a number that must not be above another: the number, where the reader stands then, and what is wrong. -/
def limN (r : List Int) : Int := match dvk 0 r with | some p => p.1 | none => 0
def limAt (l : List Int) (a : Nat) : Nat := match dvk 0 (l.drop a) with | some p => l.length - p.2.length | none => 0
def limNo (most : Int) (r : List Int) : Int := match dvk 0 r with | some p => if most < p.1 then 2 else 0 | none => dve 0 r
theorem fail_s (G : GH) (rb : Nat) (bv : Value) (a : Nat) (no e : Int) : Con Tryd.prog 130 #[.pointer (some ⟨rb, 0, none⟩), .int .i64 e] G [(rb, rdO bv a no)] (Keeps (.tuple #[]) G [(rb, rdO bv a e)]) := by
  refine v_enter Tryd.func130 rfl Tryd.ntmps130 rfl (fun B => ?_)
  repeat' (first | apply v_region | apply v_nil | (apply v_pure; (case hop => first | (apply p_move <;> rfl) | (apply p_fieldAddrB <;> rfl) | (apply p_nilCheck <;> rfl)); (case hd => rfl)) | (apply v_store; (case hp => rfl); (case hx => rfl); (case hc => rfl); (case hsz => rfl); (case h1 => rfl); (case hb => (repeat (first | exact List.Mem.head _ | fail))); (case hfit => first | exact Nat.le_of_ble_eq_true rfl | fail); (case hov => (first | ((repeat (first | with_reducible exact ov_nil | apply ov_cons | fail)); done) | fail)); (case hu => repeat (first | exact Upd.here _ _ | fail))) | fail)
  refine v_end [(rb, _)] (outsA0 rfl) (by repeat (first | exact List.Sublist.refl _ | fail)) ?_
  exact ⟨rfl, rfl, rfl⟩
theorem left_s {G : GH} {l : List Int} {bv : Value} (rb a : Nat) (no : Int) (hs : Sl G 1 (IntR .u8) bv l) (hl : l.length ≤ 1048576) (ha : a ≤ l.length) : Con Tryd.prog 79 #[.pointer (some ⟨rb, 0, none⟩)] G [(rb, rdO bv a no)] (Keeps (.int .i64 ((l.length : Nat) - (a : Nat))) G [(rb, rdO bv a no)]) := by
  obtain ⟨A, c, rfl, hlc, hcm, -, -, -⟩ := hs.openInt
  apply Con.keeps
  refine v_enter Tryd.func79 rfl Tryd.ntmps79 rfl (fun B => ?_)
  repeat' (first | apply v_seq | apply v_region | apply v_nil | (apply v_pure; (case hop => first | (apply p_assign <;> rfl) | fail); (case hd => rfl)) | fail)
  refine d_start _ (by kernel_rfl) (by kernel_rfl) (fun _ he => he) ?_
  all_goals (first | (apply d_take 0; (case hi => rfl); (case hop => first | (apply PureOp.read; apply p_move <;> rfl)); (case hf => kernel_rfl); (case hr => kernel_rfl); (case hd => rfl)) | fail)
  all_goals (first | (apply d_take 1; (case hi => rfl); (case hop => first | (apply PureOp.read; apply p_nilCheck <;> rfl)); (case hf => kernel_rfl); (case hr => kernel_rfl); (case hd => rfl)) | fail)
  all_goals (first | (apply d_take 2; (case hi => rfl); (case hop => first | (apply PureOp.read; apply p_fieldAddrB <;> rfl) | fail); (case hf => kernel_rfl); (case hr => kernel_rfl); (case hd => rfl)) | fail)
  all_goals (first | (apply d_take 3; (case hi => rfl); (case hop => first   | (apply r_loadNo; (case hx => rfl); (case h => (repeat (fail))); (case hd => (repeat (fail))); (case hn => rfl)) | (apply r_load1; rfl; (apply Cell.own; (case h => (repeat (first | exact List.Mem.head _ | fail))); rfl)) | (apply r_loadN; rfl; (apply CellsAt.own; (case h => (repeat (fail)))); rfl)); (case hf => kernel_rfl); (case hr => kernel_rfl); (case hd => rfl)) | fail)
  all_goals (first | (apply d_take 4; (case hi => rfl); (case hop => first | (apply PureOp.read; apply p_lenSlice <;> rfl) | fail); (case hf => kernel_rfl); (case hr => kernel_rfl); (case hd => rfl)) | fail)
  all_goals (first | (apply d_take 5; (case hi => rfl); (case hop => first | (apply PureOp.read; apply p_move <;> rfl)); (case hf => kernel_rfl); (case hr => kernel_rfl); (case hd => rfl)) | fail)
  all_goals (first | (apply d_take 6; (case hi => rfl); (case hop => first | (apply PureOp.read; apply p_nilCheck <;> rfl)); (case hf => kernel_rfl); (case hr => kernel_rfl); (case hd => rfl)) | fail)
  all_goals (first | (apply d_take 7; (case hi => rfl); (case hop => first | (apply PureOp.read; apply p_fieldAddrB <;> rfl) | fail); (case hf => kernel_rfl); (case hr => kernel_rfl); (case hd => rfl)) | fail)
  all_goals (first | (apply d_take 8; (case hi => rfl); (case hop => first   | (apply r_loadNo; (case hx => rfl); (case h => (repeat (fail))); (case hd => (repeat (fail))); (case hn => rfl)) | (apply r_load1; rfl; (apply Cell.own; (case h => (repeat (first | exact List.Mem.head _ | fail))); rfl)) | (apply r_loadN; rfl; (apply CellsAt.own; (case h => (repeat (fail)))); rfl)); (case hf => kernel_rfl); (case hr => kernel_rfl); (case hd => rfl)) | fail)
  all_goals (first | (apply d_take 9; (case hi => rfl); (case hop => first | (apply PureOp.read; apply p_sub; (case hx => rfl); (case hy => rfl); (case h => omega))); (case hf => kernel_rfl); (case hr => kernel_rfl); (case hd => rfl)) | fail)
  all_goals (first | (apply d_take 10; (case hi => rfl); (case hop => first | (apply PureOp.read; apply p_assign <;> rfl)); (case hf => kernel_rfl); (case hr => kernel_rfl); (case hd => rfl)) | fail)
  all_goals (apply d_done; (case hr => kernel_rfl))
  repeat' (fail)
  refine v_ret [(rb, _)] (outsA1 rfl rfl) (by repeat (first | exact List.Sublist.refl _ | fail)) ?_
  exact ⟨rfl, rfl⟩
theorem limited_s {G : GH} {l : List Int} {bv : Value} (rb a : Nat) (most : Int) (hs : Sl G 1 (IntR .u8) bv l) (hl : l.length ≤ 1048576) (ha : a ≤ l.length) :
    Con Tryd.prog 89 #[.pointer (some ⟨rb, 0, none⟩), .int .i64 most] G [(rb, rdO bv a 0)] (Keeps (.int .i64 (limN (l.drop a))) G [(rb, rdO bv (limAt l a) (limNo most (l.drop a)))]) := by
  have qg := vget_s a hs hl ha
  obtain ⟨A, c, rfl, hlc, hcm, -, -, -⟩ := hs.openInt
  unfold GetV at qg
  unfold limN limAt limNo
  have he := dve_none (l.drop a) 0
  cases h : dvk 0 (l.drop a) with
  | none =>
    rw [h] at qg
    rw [h] at he
    simp only at qg ⊢
    have he' := he.1 rfl
    generalize dve 0 (l.drop a) = e at *
    refine v_enter Tryd.func89 rfl Tryd.ntmps89 rfl (fun B => ?_)
    repeat' (first | apply v_seq | apply v_region | apply v_nil | (apply v_pure; (case hop => first | (apply p_assign <;> rfl) | fail); (case hd => rfl)) | fail)
    refine d_start _ (by kernel_rfl) (by kernel_rfl) (fun _ he => he) ?_
    all_goals (first | (apply d_take 0; (case hi => rfl); (case hop => first | (apply PureOp.read; apply p_move <;> rfl)); (case hf => kernel_rfl); (case hr => kernel_rfl); (case hd => rfl)) | fail)
    all_goals (first | (apply d_take 1; (case hi => rfl); (case hop => first | (apply PureOp.read; apply p_nilCheck <;> rfl)); (case hf => kernel_rfl); (case hr => kernel_rfl); (case hd => rfl)) | fail)
    all_goals (first | (apply d_take 2; (case hi => rfl); (case hop => first | (apply PureOp.read; apply p_fieldAddrB <;> rfl) | fail); (case hf => kernel_rfl); (case hr => kernel_rfl); (case hd => rfl)) | fail)
    all_goals (first | (apply d_take 3; (case hi => rfl); (case hop => first   | (apply r_loadNo; (case hx => rfl); (case h => (repeat (fail))); (case hd => (repeat (fail))); (case hn => rfl)) | (apply r_load1; rfl; (apply Cell.own; (case h => (repeat (first | exact List.Mem.head _ | fail))); rfl)) | (apply r_loadN; rfl; (apply CellsAt.own; (case h => (repeat (fail)))); rfl)); (case hf => kernel_rfl); (case hr => kernel_rfl); (case hd => rfl)) | fail)
    all_goals (first | (apply d_take 4; (case hi => rfl); (case hop => first | (apply PureOp.read; apply p_move <;> rfl)); (case hf => kernel_rfl); (case hr => kernel_rfl); (case hd => rfl)) | fail)
    all_goals (first | (apply d_take 5; (case hi => rfl); (case hop => first | (apply PureOp.read; apply p_nilCheck <;> rfl)); (case hf => kernel_rfl); (case hr => kernel_rfl); (case hd => rfl)) | fail)
    all_goals (first | (apply d_take 6; (case hi => rfl); (case hop => first | (apply PureOp.read; apply p_fieldAddrB <;> rfl) | fail); (case hf => kernel_rfl); (case hr => kernel_rfl); (case hd => rfl)) | fail)
    all_goals (first | (apply d_take 7; (case hi => rfl); (case hop => first   | (apply r_loadNo; (case hx => rfl); (case h => (repeat (fail))); (case hd => (repeat (fail))); (case hn => rfl)) | (apply r_load1; rfl; (apply Cell.own; (case h => (repeat (first | exact List.Mem.head _ | fail))); rfl)) | (apply r_loadN; rfl; (apply CellsAt.own; (case h => (repeat (fail)))); rfl)); (case hf => kernel_rfl); (case hr => kernel_rfl); (case hd => rfl)) | fail)
    all_goals (first | (apply d_callJ 8 (hs := qg); (case hi => rfl); (case hr => kernel_rfl); (case ha => rfl); (case hd => rfl)) | fail)
    all_goals (first | (apply d_take 9; (case hi => rfl); (case hop => first | (apply PureOp.read; apply p_move <;> rfl)); (case hf => kernel_rfl); (case hr => kernel_rfl); (case hd => rfl)) | fail)
    all_goals (first | (apply d_take 10; (case hi => rfl); (case hop => first | (apply PureOp.read; apply p_extract0 <;> rfl) | fail); (case hf => kernel_rfl); (case hr => kernel_rfl); (case hd => rfl)) | fail)
    all_goals (first | (apply d_take 11; (case hi => rfl); (case hop => first | (apply PureOp.read; apply p_extract1 <;> rfl) | fail); (case hf => kernel_rfl); (case hr => kernel_rfl); (case hd => rfl)) | fail)
    all_goals (first | (apply d_take 12; (case hi => rfl); (case hop => first | (apply PureOp.read; apply p_extract2 <;> rfl) | fail); (case hf => kernel_rfl); (case hr => kernel_rfl); (case hd => rfl)) | fail)
    all_goals (first | (apply d_take 13; (case hi => rfl); (case hop => first | (apply PureOp.read; apply p_assign <;> rfl)); (case hf => kernel_rfl); (case hr => kernel_rfl); (case hd => rfl)) | fail)
    all_goals (first | (apply d_take 14; (case hi => rfl); (case hop => first | (apply PureOp.read; apply p_assign <;> rfl)); (case hf => kernel_rfl); (case hr => kernel_rfl); (case hd => rfl)) | fail)
    all_goals (first | (apply d_take 15; (case hi => rfl); (case hop => first | (apply PureOp.read; apply p_assign <;> rfl)); (case hf => kernel_rfl); (case hr => kernel_rfl); (case hd => rfl)) | fail)
    all_goals (apply d_done; (case hr => kernel_rfl))
    repeat' (first | apply v_seq | apply v_region | apply v_nil | apply v_block | apply v_blk | (apply v_pure; (case hop => first | (apply p_move <;> rfl) | (apply p_ne <;> rfl) | (apply p_assign <;> rfl) | (apply p_fieldAddrB <;> rfl) | (apply p_nilCheck <;> rfl) | fail); (case hd => rfl)) | (apply v_cond; (case hc => rfl); all_goals (intro h; (try simp only [reduceCtorEq, dec_true, dec_false, decide_eq_true_eq, decide_eq_false_iff_not, Bool.not_eq_true', Bool.not_eq_false', Option.isNone_iff_eq_none, beq_true, beq_false, beq_iff_eq, beq_eq_false_iff_ne, ne_eq, decide_eq_decide, Bool.not_eq_true, Bool.not_eq_false, Decidable.not_not] at h); first | (exfalso; omega) | skip)) | (apply v_call (hs := fail_s G rb (.slice A l.length c) a 0 e); (case ha => rfl); (case hp => first | exact (Pick.perm (by repeat (first | exact Pick.here _ | fail))) | fail); (case hd => rfl); rintro _ _ _ _ ⟨rfl, rfl, rfl⟩) | (apply v_store; (case hp => rfl); (case hx => rfl); (case hc => rfl); (case hsz => rfl); (case h1 => rfl); (case hb => (repeat (first | exact List.Mem.head _ | fail))); (case hfit => first | exact Nat.le_of_ble_eq_true rfl | fail); (case hov => (first | ((repeat (first | with_reducible exact ov_nil | apply ov_cons | fail)); done) | fail)); (case hu => repeat (first | exact Upd.here _ _ | fail))) | fail)
    refine v_ret [(rb, _)] (outsA1 rfl rfl) (by repeat (first | exact List.Sublist.refl _ | fail)) ?_
    exact ⟨rfl, rfl, rfl⟩
  | some p =>
    obtain ⟨m, r'⟩ := p
    rw [h] at qg
    simp only at qg ⊢
    refine v_enter Tryd.func89 rfl Tryd.ntmps89 rfl (fun B => ?_)
    repeat' (first | apply v_seq | apply v_region | apply v_nil | (apply v_pure; (case hop => first | (apply p_assign <;> rfl) | fail); (case hd => rfl)) | fail)
    refine d_start _ (by kernel_rfl) (by kernel_rfl) (fun _ he => he) ?_
    all_goals (first | (apply d_take 0; (case hi => rfl); (case hop => first | (apply PureOp.read; apply p_move <;> rfl)); (case hf => kernel_rfl); (case hr => kernel_rfl); (case hd => rfl)) | fail)
    all_goals (first | (apply d_take 1; (case hi => rfl); (case hop => first | (apply PureOp.read; apply p_nilCheck <;> rfl)); (case hf => kernel_rfl); (case hr => kernel_rfl); (case hd => rfl)) | fail)
    all_goals (first | (apply d_take 2; (case hi => rfl); (case hop => first | (apply PureOp.read; apply p_fieldAddrB <;> rfl) | fail); (case hf => kernel_rfl); (case hr => kernel_rfl); (case hd => rfl)) | fail)
    all_goals (first | (apply d_take 3; (case hi => rfl); (case hop => first   | (apply r_loadNo; (case hx => rfl); (case h => (repeat (fail))); (case hd => (repeat (fail))); (case hn => rfl)) | (apply r_load1; rfl; (apply Cell.own; (case h => (repeat (first | exact List.Mem.head _ | fail))); rfl)) | (apply r_loadN; rfl; (apply CellsAt.own; (case h => (repeat (fail)))); rfl)); (case hf => kernel_rfl); (case hr => kernel_rfl); (case hd => rfl)) | fail)
    all_goals (first | (apply d_take 4; (case hi => rfl); (case hop => first | (apply PureOp.read; apply p_move <;> rfl)); (case hf => kernel_rfl); (case hr => kernel_rfl); (case hd => rfl)) | fail)
    all_goals (first | (apply d_take 5; (case hi => rfl); (case hop => first | (apply PureOp.read; apply p_nilCheck <;> rfl)); (case hf => kernel_rfl); (case hr => kernel_rfl); (case hd => rfl)) | fail)
    all_goals (first | (apply d_take 6; (case hi => rfl); (case hop => first | (apply PureOp.read; apply p_fieldAddrB <;> rfl) | fail); (case hf => kernel_rfl); (case hr => kernel_rfl); (case hd => rfl)) | fail)
    all_goals (first | (apply d_take 7; (case hi => rfl); (case hop => first   | (apply r_loadNo; (case hx => rfl); (case h => (repeat (fail))); (case hd => (repeat (fail))); (case hn => rfl)) | (apply r_load1; rfl; (apply Cell.own; (case h => (repeat (first | exact List.Mem.head _ | fail))); rfl)) | (apply r_loadN; rfl; (apply CellsAt.own; (case h => (repeat (fail)))); rfl)); (case hf => kernel_rfl); (case hr => kernel_rfl); (case hd => rfl)) | fail)
    all_goals (first | (apply d_callJ 8 (hs := qg); (case hi => rfl); (case hr => kernel_rfl); (case ha => rfl); (case hd => rfl)) | fail)
    all_goals (first | (apply d_take 9; (case hi => rfl); (case hop => first | (apply PureOp.read; apply p_move <;> rfl)); (case hf => kernel_rfl); (case hr => kernel_rfl); (case hd => rfl)) | fail)
    all_goals (first | (apply d_take 10; (case hi => rfl); (case hop => first | (apply PureOp.read; apply p_extract0 <;> rfl) | fail); (case hf => kernel_rfl); (case hr => kernel_rfl); (case hd => rfl)) | fail)
    all_goals (first | (apply d_take 11; (case hi => rfl); (case hop => first | (apply PureOp.read; apply p_extract1 <;> rfl) | fail); (case hf => kernel_rfl); (case hr => kernel_rfl); (case hd => rfl)) | fail)
    all_goals (first | (apply d_take 12; (case hi => rfl); (case hop => first | (apply PureOp.read; apply p_extract2 <;> rfl) | fail); (case hf => kernel_rfl); (case hr => kernel_rfl); (case hd => rfl)) | fail)
    all_goals (first | (apply d_take 13; (case hi => rfl); (case hop => first | (apply PureOp.read; apply p_assign <;> rfl)); (case hf => kernel_rfl); (case hr => kernel_rfl); (case hd => rfl)) | fail)
    all_goals (first | (apply d_take 14; (case hi => rfl); (case hop => first | (apply PureOp.read; apply p_assign <;> rfl)); (case hf => kernel_rfl); (case hr => kernel_rfl); (case hd => rfl)) | fail)
    all_goals (first | (apply d_take 15; (case hi => rfl); (case hop => first | (apply PureOp.read; apply p_assign <;> rfl)); (case hf => kernel_rfl); (case hr => kernel_rfl); (case hd => rfl)) | fail)
    all_goals (apply d_done; (case hr => kernel_rfl))
    repeat' (first | apply v_seq | apply v_region | apply v_nil | apply v_skip | apply v_block | apply v_blk | (apply v_pure; (case hop => first | (apply p_move <;> rfl) | (apply p_nes <;> rfl) | (apply p_gt <;> rfl) | (apply p_assign <;> rfl) | (apply p_fieldAddrB <;> rfl) | (apply p_nilCheck <;> rfl) | fail); (case hd => rfl)) | (apply v_condF; (case hc => rfl)) | (apply v_cond; (case hc => rfl); all_goals (intro h; (try simp only [reduceCtorEq, dec_true, dec_false, decide_eq_true_eq, decide_eq_false_iff_not, Bool.not_eq_true', Bool.not_eq_false', Option.isNone_iff_eq_none, beq_true, beq_false, beq_iff_eq, beq_eq_false_iff_ne, ne_eq, decide_eq_decide, Bool.not_eq_true, Bool.not_eq_false, Decidable.not_not] at h); first | skip)) | (apply v_call (hs := fail_s G rb (.slice A l.length c) a 0 2); (case ha => rfl); (case hp => first | exact (Pick.perm (by repeat (first | exact Pick.here _ | fail))) | fail); (case hd => rfl); rintro _ _ _ _ ⟨rfl, rfl, rfl⟩) | (apply v_store; (case hp => rfl); (case hx => rfl); (case hc => rfl); (case hsz => rfl); (case h1 => rfl); (case hb => (repeat (first | exact List.Mem.head _ | fail))); (case hfit => first | exact Nat.le_of_ble_eq_true rfl | fail); (case hov => (first | ((repeat (first | with_reducible exact ov_nil | apply ov_cons | fail)); done) | fail)); (case hu => repeat (first | exact Upd.here _ _ | fail))) | fail)
    · refine v_ret [(rb, _)] (outsA1 rfl rfl) (by repeat (first | exact List.Sublist.refl _ | fail)) ?_
      exact ⟨rfl, rfl, by rw [if_pos (by omega)]⟩
    · refine v_ret [(rb, _)] (outsA1 rfl rfl) (by repeat (first | exact List.Sublist.refl _ | fail)) ?_
      exact ⟨rfl, rfl, by rw [if_neg (by omega)]⟩
abbrev pO (rb : Nat) : Obj := .cells [.pointer (some ⟨rb, 0, none⟩)].toArray 68 (0, 0)
abbrev iO (n : Int) : Obj := .cells [.int .i64 n].toArray 3 (0, 0)
theorem rdNumber1_s {G : GH} {l : List Int} {bv : Value} (pb qb rb a : Nat) (most : Int) (hs : Sl G 1 (IntR .u8) bv l) (hl : l.length ≤ 1048576) (ha : a ≤ l.length) :
    Con Tryd.prog 88 #[.pointer (some ⟨pb, 0, none⟩), .pointer (some ⟨qb, 0, none⟩)] G [(rb, rdO bv a 0), (qb, iO most), (pb, pO rb)] (Keeps (.int .i64 (limN (l.drop a))) G [(rb, rdO bv (limAt l a) (limNo most (l.drop a))), (qb, iO most), (pb, pO rb)]) := by
  have ql := limited_s rb a most hs hl ha
  refine v_enter Tryd.func88 rfl Tryd.ntmps88 rfl (fun B => ?_)
  repeat' (first | apply v_seq | apply v_region | apply v_nil | (apply v_pure; (case hop => first | (apply p_assign <;> rfl)); (case hd => rfl)) | (apply v_call (hs := ql); (case ha => rfl); (case hp => first | exact (Pick.perm (by repeat (first | exact Pick.here _ | fail))) | fail); (case hd => rfl); rintro _ _ _ _ ⟨rfl, rfl, rfl⟩) | (apply v_read; (case hop => first | (apply r_load1; rfl; (apply Cell.own; (case h => (repeat (first | exact List.Mem.head _ | apply List.Mem.tail | fail))); rfl)) | fail); (case hd => rfl)) | fail)
  refine v_ret [(rb, _), (qb, _), (pb, _)] (outsA1 rfl rfl) (by repeat (first | exact List.Sublist.refl _ | fail)) ?_
  exact ⟨rfl, rfl, rfl⟩
/-- What a reader knows: nothing more if there was an error, else what is left. -/
def RdS (l : List Int) (a : Nat) (no : Int) (s : Option (List Int)) : Prop := a ≤ l.length ∧ ((s = none ∧ no ≠ 0) ∨ (s = some (l.drop a) ∧ no = 0))
def numV (most : Int) : Option (List Int) → Int
  | none => 0
  | some r => match dvk 0 r with | none => 0 | some p => if most < p.1 then 0 else p.1
def numS (most : Int) : Option (List Int) → Option (List Int)
  | none => none
  | some r => match dvk 0 r with | none => none | some p => if most < p.1 then none else some p.2
theorem dvk_len : ∀ (r : List Int) (k : Nat) (m : Int) (r' : List Int), dvk k r = some (m, r') → r'.length < r.length ∧ r' = r.drop (r.length - r'.length)
  | [], k, m, r', h => by rw [dvk_nil] at h; cases h
  | c :: r, k, m, r', h => by
    rw [dvk_cons] at h
    split at h
    · cases h
    · split at h
      · cases h
        refine ⟨by simp, ?_⟩
        rw [List.length_cons, show r.length + 1 - r.length = 0 + 1 by omega, List.drop_succ_cons, List.drop_zero]
      · obtain ⟨p, hp, he⟩ := Option.map_eq_some_iff.1 h
        obtain ⟨m', r2⟩ := p
        cases he
        obtain ⟨h1, h2⟩ := dvk_len r (k + 1) m' r2 hp
        simp only at *
        refine ⟨by simp only [List.length_cons]; omega, ?_⟩
        rw [List.length_cons, show r.length + 1 - r2.length = (r.length - r2.length) + 1 by omega, List.drop_succ_cons]
        exact h2
theorem limAt_le (l : List Int) (a : Nat) : limAt l a ≤ l.length := by
  unfold limAt
  split <;> omega
theorem lim_ok {l : List Int} {a : Nat} {most : Int} (ha : a ≤ l.length) (h : limNo most (l.drop a) = 0) : numV most (some (l.drop a)) = limN (l.drop a) ∧ numS most (some (l.drop a)) = some (l.drop (limAt l a)) := by
  unfold limNo at h
  unfold limN limAt
  have he := dve_none (l.drop a) 0
  cases hd : dvk 0 (l.drop a) with
  | none => rw [hd] at h he; exact absurd h (he.1 rfl)
  | some p =>
    rw [hd] at h
    simp only at h ⊢
    have hm : ¬ most < p.1 := fun hm => by rw [if_pos hm] at h; omega
    obtain ⟨h1, h2⟩ := dvk_len _ _ p.1 p.2 hd
    simp only [numV, numS, hd, if_neg hm]
    refine ⟨trivial, ?_⟩
    rw [List.length_drop] at h1 h2
    rw [List.drop_drop] at h2
    rw [show l.length - p.2.length = a + (l.length - a - p.2.length) by omega, ← h2]
theorem lim_no {r : List Int} {most : Int} (h : limNo most r ≠ 0) : numV most (some r) = 0 ∧ numS most (some r) = none := by
  unfold limNo at h
  cases hd : dvk 0 r with
  | none => simp only [numV, numS, hd]; exact ⟨trivial, trivial⟩
  | some p =>
    rw [hd] at h
    simp only at h ⊢
    have hm : most < p.1 := by
      by_cases hm : most < p.1
      · exact hm
      · rw [if_neg hm] at h; exact absurd rfl h
    simp only [numV, numS, hd, if_pos hm]
    exact ⟨trivial, trivial⟩
theorem rdReadI_s {G : GH} {l : List Int} {bv : Value} {s : Option (List Int)} (pb qb rb a : Nat) (no most : Int) (hs : Sl G 1 (IntR .u8) bv l) (hl : l.length ≤ 1048576) (hr : RdS l a no s) :
    Con Tryd.prog 87 #[.pointer (some ⟨rb, 0, none⟩), .func (.func 88) #[] #[.pointer (some ⟨pb, 0, none⟩), .pointer (some ⟨qb, 0, none⟩)]] G [(rb, rdO bv a no), (qb, iO most), (pb, pO rb)]
      (fun r G' μ' => G' = G ∧ r = .int .i64 (numV most s) ∧ ∃ a' no', μ' = [(rb, rdO bv (a' : Nat) no'), (qb, iO most), (pb, pO rb)] ∧ RdS l a' no' (numS most s)) := by
  obtain ⟨ha, ⟨rfl, hno⟩ | ⟨rfl, rfl⟩⟩ := hr
  · refine v_enter Tryd.func87 rfl Tryd.ntmps87 rfl (fun B => ?_)
    repeat' (first | apply v_seq | apply v_region | apply v_nil | (apply v_take; (case hg => rfl)) | (apply v_pure; (case hop => first | (apply p_move <;> rfl) | (apply p_ne <;> rfl) | (apply p_assign <;> rfl) | (apply p_pickF <;> rfl) | (apply p_fieldAddrB <;> rfl) | (apply p_nilCheck <;> rfl) | (apply p_eqNil <;> rfl) | fail); (case hd => rfl)) | (apply v_cond; (case hc => rfl); all_goals (intro h; (try simp only [reduceCtorEq, dec_true, dec_false, decide_eq_true_eq, decide_eq_false_iff_not, Bool.not_eq_true', Bool.not_eq_false', Option.isNone_iff_eq_none, beq_true, beq_false, beq_iff_eq, beq_eq_false_iff_ne, ne_eq, decide_eq_decide, Bool.not_eq_true, Bool.not_eq_false, Decidable.not_not] at h); first | (exfalso; omega) | skip)) | (apply v_read; (case hop => first | (apply r_load1; rfl; (apply Cell.own; (case h => (repeat (first | exact List.Mem.head _ | fail))); rfl)) | fail); (case hd => rfl)) | fail)
    refine v_ret [(rb, _), (qb, _), (pb, _)] (outsA1 rfl rfl) (by repeat (first | exact List.Sublist.refl _ | fail)) ?_
    exact ⟨rfl, rfl, a, no, rfl, ha, .inl ⟨rfl, hno⟩⟩
  · have q := rdNumber1_s pb qb rb a most hs hl ha
    have hk := lim_ok (most := most) ha
    have hn := lim_no (r := l.drop a) (most := most)
    have hat := limAt_le l a
    generalize limNo most (l.drop a) = no' at *
    generalize limAt l a = a' at *
    generalize limN (l.drop a) = n at *
    refine v_enter Tryd.func87 rfl Tryd.ntmps87 rfl (fun B => ?_)
    repeat' (first | apply v_seq | apply v_region | apply v_nil | apply v_skip | (apply v_take; (case hg => rfl)) | (apply v_pure; (case hop => first | (apply p_move <;> rfl) | (apply p_nes <;> rfl) | (apply p_assign <;> rfl) | (apply p_pickF <;> rfl) | (apply p_fieldAddrB <;> rfl) | (apply p_nilCheck <;> rfl) | (apply p_eqNil <;> rfl) | fail); (case hd => rfl)) | (apply v_condF; (case hc => rfl)) | (apply v_read; (case hop => first | (apply r_load1; rfl; (apply Cell.own; (case h => (repeat (first | exact List.Mem.head _ | fail))); rfl)) | fail); (case hd => rfl)) | fail)
    refine v_callC (first := []) (captured := [.pointer (some ⟨pb, 0, none⟩), .pointer (some ⟨qb, 0, none⟩)]) (vs := []) rfl rfl q (List.Perm.refl _) rfl ?_
    rintro _ _ _ _ ⟨rfl, rfl, rfl⟩
    repeat' (first | apply v_seq | apply v_region | apply v_nil | apply v_skip | (apply v_pure; (case hop => first | (apply p_move <;> rfl) | (apply p_ne <;> rfl) | (apply p_assign <;> rfl) | (apply p_fieldAddrB <;> rfl) | (apply p_nilCheck <;> rfl) | fail); (case hd => rfl)) | (apply v_cond; (case hc => rfl); all_goals (intro h; (try simp only [reduceCtorEq, dec_true, dec_false, decide_eq_true_eq, decide_eq_false_iff_not, Bool.not_eq_true', Bool.not_eq_false', Option.isNone_iff_eq_none, beq_true, beq_false, beq_iff_eq, beq_eq_false_iff_ne, ne_eq, decide_eq_decide, Bool.not_eq_true, Bool.not_eq_false, Decidable.not_not] at h); first | skip)) | (apply v_read; (case hop => first | (apply r_load1; rfl; (apply Cell.own; (case h => (repeat (first | exact List.Mem.head _ | fail))); rfl)) | fail); (case hd => rfl)) | fail)
    · refine v_ret [(rb, _), (qb, _), (pb, _)] (outsA1 rfl rfl) (by repeat (first | exact List.Sublist.refl _ | fail)) ?_
      exact ⟨rfl, by rw [(hn ‹_›).1], a', no', rfl, hat, .inl ⟨(hn ‹_›).2, ‹_›⟩⟩
    · refine v_ret [(rb, _), (qb, _), (pb, _)] (outsA1 rfl rfl) (by repeat (first | exact List.Sublist.refl _ | fail)) ?_
      exact ⟨rfl, by rw [(hk ‹_›).1], a', no', rfl, hat, .inr ⟨(hk ‹_›).2, ‹_›⟩⟩
/-- Reader.Number. -/
theorem rdNumber_s {G : GH} {l : List Int} {bv : Value} {s : Option (List Int)} (rb a : Nat) (no most : Int) (hs : Sl G 1 (IntR .u8) bv l) (hl : l.length ≤ 1048576) (hr : RdS l a no s) :
    Con Tryd.prog 51 #[.pointer (some ⟨rb, 0, none⟩), .int .i64 most] G [(rb, rdO bv a no)]
      (fun r G' μ' => G' = G ∧ r = .int .i64 (numV most s) ∧ ∃ a' no', μ' = [(rb, rdO bv (a' : Nat) no')] ∧ RdS l a' no' (numS most s)) := by
  have q := fun pb qb => rdReadI_s pb qb rb a no most hs hl hr
  generalize numV most s = n at *
  refine v_enter Tryd.func51 rfl Tryd.ntmps51 rfl (fun B => ?_)
  repeat' (first | apply v_seq | apply v_region | apply v_nil | (apply v_pure; (case hop => first | (apply p_assign <;> rfl) | (apply p_makeFunc <;> rfl)); (case hd => rfl)) | (apply v_read; (case hop => first | (apply r_load1; rfl; (apply Cell.own; (case h => (repeat (first | exact List.Mem.head _ | apply List.Mem.tail | fail))); rfl)) | fail); (case hd => rfl)) | (apply v_box; (case hx => rfl); (case hz => rfl); (case hd => rfl); intro b) | fail)
  rename_i pb
  refine v_call (μ1 := [(rb, rdO bv a no), (b, iO most), (pb, pO rb)]) (μ2 := []) rfl (q pb b) (by apply perm_of_count; intro p; simp only [List.countP_append, List.countP_cons, List.countP_nil, Nat.zero_add, Nat.add_zero]; try ac_rfl) rfl ?_
  rintro _ _ _ _ ⟨rfl, rfl, a', no', rfl, hr'⟩
  repeat' (first | apply v_nil | (apply v_pure; (case hop => first | (apply p_assign <;> rfl) | fail); (case hd => rfl)) | fail)
  refine v_ret [(rb, _)] (outsA1 rfl rfl) (by repeat (first | exact List.nil_sublist _ | apply List.Sublist.cons_cons | fail)) ?_
  exact ⟨rfl, rfl, a', no', rfl, hr'⟩
end Go.Proofs.YtnoiahlpmgbhfaaDoor
/-
  pack, the seventh part: a reader's bytes; whether anything is left.
-/
set_option linter.unusedSimpArgs false
set_option linter.unusedVariables false
namespace Go.Proofs.YtnoiahlpmgbhfaaDoor
open Go.Vx Go.ChangeShapes Go.WideShapes Go.ChangeAt Go.RowKit
theorem sl_sub {G : GH} {k : IntKind} {l : List Int} {A : Option Addr} {c : Nat} {lo hi : Int} (hs : Sl G 1 (IntR k) (.slice A l.length c) l) (h0 : 0 ≤ lo) (h1 : lo ≤ hi) (h2 : hi ≤ l.length) :
    Sl G 1 (IntR k) (.slice (if c = lo.toNat then A else A.map (·.add (lo.toNat * 1))) (hi.toNat - lo.toNat) (c - lo.toNat)) ((l.take hi.toNat).drop lo.toNat) := by
  have ht := hs.take (k := hi.toNat) (by omega)
  have e : (l.take hi.toNat).length = hi.toNat := by rw [List.length_take]; omega
  have hd := Sl.drop (l := l.take hi.toNat) (A := A) (c := c) (k := lo.toNat) (by rw [e]; exact ht) (by rw [e]; omega)
  rw [e] at hd
  exact hd
theorem sl_byte {G : GH} {l : List Int} {v : Value} (hs : Sl G 1 (IntR .u8) v l) : ∀ x ∈ l, 0 ≤ x ∧ x ≤ 255 := fun x hx => by
  obtain ⟨A, c, -, -, -, -, -, hwf⟩ := hs.openInt
  have := hwf x hx
  simp [Lit.wf, IntKind.min, IntKind.max, IntKind.signed, IntKind.bits] at this
  omega
theorem limN_nn {r : List Int} (hw : ∀ x ∈ r, 0 ≤ x ∧ x ≤ 255) : 0 ≤ limN r ∧ limN r ≤ 9223372036854775807 := by
  unfold limN
  cases h : dvk 0 r with
  | none => simp
  | some p =>
    have := vbytes_dvk (m := p.1) (r' := p.2) hw h
    simp only
    omega
/-- What is wrong behind a number that counts what is left. -/
def cntNo (most : Int) (l : List Int) (a : Nat) : Int := if limNo most (l.drop a) = 0 ∧ (l.length : Int) - limAt l a < limN (l.drop a) then 1 else limNo most (l.drop a)
theorem counted_s {G : GH} {l : List Int} {bv : Value} (rb a : Nat) (most : Int) (hs : Sl G 1 (IntR .u8) bv l) (hl : l.length ≤ 1048576) (ha : a ≤ l.length) :
    Con Tryd.prog 124 #[.pointer (some ⟨rb, 0, none⟩), .int .i64 most] G [(rb, rdO bv a 0)] (Keeps (.int .i64 (limN (l.drop a))) G [(rb, rdO bv (limAt l a) (cntNo most l a))]) := by
  have q := limited_s rb a most hs hl ha
  have hat := limAt_le l a
  have ql := fun no => left_s rb (limAt l a) no hs hl hat
  unfold cntNo
  generalize limNo most (l.drop a) = no' at *
  generalize limAt l a = a' at *
  generalize limN (l.drop a) = n at *
  refine v_enter Tryd.func124 rfl Tryd.ntmps124 rfl (fun B => ?_)
  repeat' (first | apply v_seq | apply v_region | apply v_nil | apply v_skip | (apply v_take; (case hg => rfl)) | (apply v_pass; (case hg => rfl); (case hn => rfl); (case hd => rfl)) | (apply v_pure; (case hop => first | (apply p_move <;> rfl) | (apply p_eq <;> rfl) | (apply p_assign <;> rfl) | (apply p_pickF <;> rfl) | (apply p_fieldAddrB <;> rfl) | (apply p_nilCheck <;> rfl) | fail); (case hd => rfl)) | (apply v_condF; (case hc => rfl)) | (apply v_guardB; (case h1 => rfl); (case h2 => rfl); all_goals (intro h; (try simp only [reduceCtorEq, dec_true, dec_false, decide_eq_true_eq, decide_eq_false_iff_not, Bool.not_eq_true', Bool.not_eq_false', Option.isNone_iff_eq_none, beq_true, beq_false, beq_iff_eq, beq_eq_false_iff_ne, ne_eq, decide_eq_decide, Bool.not_eq_true, Bool.not_eq_false, Decidable.not_not] at h); first | skip)) | (apply v_call (hs := q); (case ha => rfl); (case hp => first | exact (Pick.perm (by repeat (first | exact Pick.here _ | fail))) | fail); (case hd => rfl); rintro _ _ _ _ ⟨rfl, rfl, rfl⟩) | (apply v_read; (case hop => first | (apply r_load1; rfl; (apply Cell.own; (case h => (repeat (first | exact List.Mem.head _ | fail))); rfl)) | fail); (case hd => rfl)) | fail)
  repeat' (first | apply v_seq | apply v_region | apply v_nil | apply v_skip | (apply v_take; (case hg => rfl)) | (apply v_pure; (case hop => first | (apply p_move <;> rfl) | (apply p_gt <;> rfl) | (apply p_assign <;> rfl) | (apply p_pickT <;> rfl) | fail); (case hd => rfl)) | (apply v_cond; (case hc => rfl); all_goals (intro h; (try simp only [reduceCtorEq, dec_true, dec_false, decide_eq_true_eq, decide_eq_false_iff_not, Bool.not_eq_true', Bool.not_eq_false', Option.isNone_iff_eq_none, beq_true, beq_false, beq_iff_eq, beq_eq_false_iff_ne, ne_eq, decide_eq_decide, Bool.not_eq_true, Bool.not_eq_false, Decidable.not_not] at h); first | skip)) | (apply v_callK (hs := ql _); (case ha => rfl); (case hp => first | exact (Pick.perm (by repeat (first | exact Pick.here _ | fail))) | fail); (case hd => rfl)) | (apply v_call (hs := fail_s _ rb bv a' no' 1); (case ha => rfl); (case hp => first | exact (Pick.perm (by repeat (first | exact Pick.here _ | fail))) | fail); (case hd => rfl); rintro _ _ _ _ ⟨rfl, rfl, rfl⟩) | fail)
  all_goals
    (refine v_ret [(rb, _)] (outsA1 rfl rfl) (by repeat (first | exact List.Sublist.refl _ | fail)) ?_
     refine ⟨rfl, rfl, ?_⟩)
  · rw [if_pos (by omega)]
  · rw [if_neg (by omega)]
  · rw [if_neg (by omega)]
/-- What is read of bytes that are counted, and what is left. -/
def rawB (most : Int) : Option (List Int) → List Int
  | none => []
  | some r => match dvk 0 r with | none => [] | some p => if most < p.1 ∨ (p.2.length : Int) < p.1 then [] else p.2.take p.1.toNat
def rawS (most : Int) : Option (List Int) → Option (List Int)
  | none => none
  | some r => match dvk 0 r with | none => none | some p => if most < p.1 ∨ (p.2.length : Int) < p.1 then none else some (p.2.drop p.1.toNat)
theorem cnt_ok {l : List Int} {a : Nat} {most : Int} (ha : a ≤ l.length) (hn0 : 0 ≤ limN (l.drop a)) (h : cntNo most l a = 0) : limAt l a + limN (l.drop a) ≤ l.length ∧ rawB most (some (l.drop a)) = (l.take (limAt l a + limN (l.drop a)).toNat).drop (limAt l a) ∧ rawS most (some (l.drop a)) = some (l.drop (limAt l a + limN (l.drop a)).toNat) := by
  unfold cntNo at h
  have h0 : limNo most (l.drop a) = 0 := by
    split at h
    · omega
    · exact h
  rw [h0] at h
  have h1 : ¬ ((l.length : Int) - limAt l a < limN (l.drop a)) := fun hh => by rw [if_pos ⟨rfl, hh⟩] at h; omega
  obtain ⟨e1, e2⟩ := lim_ok ha h0
  have hat := limAt_le l a
  generalize limAt l a = a' at *
  generalize limN (l.drop a) = n at *
  unfold limNo at h0
  have he := dve_none (l.drop a) 0
  cases hd : dvk 0 (l.drop a) with
  | none => rw [hd] at h0 he; exact absurd h0 (he.1 rfl)
  | some p =>
    rw [hd] at h0
    simp only at h0
    have hm : ¬ most < p.1 := fun hm => by rw [if_pos hm] at h0; omega
    simp only [numV, numS, hd, if_neg hm, Option.some.injEq] at e1 e2
    have hlen : p.2.length = l.length - a' := by rw [e2, List.length_drop]
    have hn : ¬ (most < p.1 ∨ (p.2.length : Int) < p.1) := by omega
    simp only [rawB, rawS, hd, if_neg hn]
    refine ⟨by omega, ?_, ?_⟩
    · rw [e1, e2, List.drop_take, show ((a' : Int) + n).toNat - a' = n.toNat by omega]
    · rw [e1, e2, List.drop_drop, show ((a' : Int) + n).toNat = a' + n.toNat by omega]
theorem cnt_no {l : List Int} {a : Nat} {most : Int} (ha : a ≤ l.length) (h : cntNo most l a ≠ 0) : rawB most (some (l.drop a)) = [] ∧ rawS most (some (l.drop a)) = none := by
  unfold cntNo at h
  by_cases h0 : limNo most (l.drop a) = 0
  · rw [h0] at h
    have h1 : ((l.length : Int) - limAt l a < limN (l.drop a)) := by
      by_cases hh : ((l.length : Int) - limAt l a < limN (l.drop a))
      · exact hh
      · rw [if_neg (by simp [hh])] at h; exact absurd rfl h
    obtain ⟨e1, e2⟩ := lim_ok ha h0
    have hat := limAt_le l a
    generalize limAt l a = a' at *
    generalize limN (l.drop a) = n at *
    unfold limNo at h0
    have he := dve_none (l.drop a) 0
    cases hd : dvk 0 (l.drop a) with
    | none => rw [hd] at h0 he; exact absurd h0 (he.1 rfl)
    | some p =>
      rw [hd] at h0
      simp only at h0
      have hm : ¬ most < p.1 := fun hm => by rw [if_pos hm] at h0; omega
      simp only [numV, numS, hd, if_neg hm, Option.some.injEq] at e1 e2
      have hlen : p.2.length = l.length - a' := by rw [e2, List.length_drop]
      have hn : (most < p.1 ∨ (p.2.length : Int) < p.1) := by omega
      simp only [rawB, rawS, hd, if_pos hn]
      exact ⟨trivial, trivial⟩
  · have hz := lim_no (r := l.drop a) h0
    unfold limNo at h0
    cases hd : dvk 0 (l.drop a) with
    | none => simp only [rawB, rawS, hd]; exact ⟨trivial, trivial⟩
    | some p =>
      rw [hd] at h0
      simp only at h0
      have hm : most < p.1 := by
        by_cases hm : most < p.1
        · exact hm
        · rw [if_neg hm] at h0; exact absurd rfl h0
      simp only [rawB, rawS, hd, if_pos (Or.inl hm : most < p.1 ∨ (p.2.length : Int) < p.1)]
      exact ⟨trivial, trivial⟩
theorem raw_s {G : GH} {l : List Int} {bv : Value} (rb a : Nat) (most : Int) (hs : Sl G 1 (IntR .u8) bv l) (hl : l.length ≤ 1048576) (ha : a ≤ l.length) :
    Con Tryd.prog 95 #[.pointer (some ⟨rb, 0, none⟩), .int .i64 most] G [(rb, rdO bv a 0)]
      (fun r G' μ' => Sl G' 1 (IntR .u8) r (rawB most (some (l.drop a))) ∧ ∃ a' no', μ' = [(rb, rdO bv (a' : Nat) no')] ∧ RdS l a' no' (rawS most (some (l.drop a)))) := by
  have q := counted_s rb a most hs hl ha
  have hn0 := limN_nn (r := l.drop a) (fun x hx => sl_byte hs x (List.mem_of_mem_drop hx))
  have hok := cnt_ok (most := most) ha hn0.1
  have hno := cnt_no (most := most) ha
  have hat := limAt_le l a
  obtain ⟨A, c, rfl, hlc, hcm, -, -, -⟩ := hs.openInt
  simp only [maxLen] at hcm
  generalize cntNo most l a = no' at *
  generalize limAt l a = a' at *
  generalize limN (l.drop a) = n at *
  refine v_enter Tryd.func95 rfl Tryd.ntmps95 rfl (fun B => ?_)
  by_cases h0 : no' = 0
  · obtain ⟨h1, h2, h3⟩ := hok h0
    subst h0
    rw [h2, h3]
    repeat' (first | apply v_seq | apply v_region | apply v_nil | apply v_skip | (apply v_pure; (case hop => first | (apply p_move <;> rfl) | (apply p_nes <;> rfl) | (apply p_assign <;> rfl) | (apply p_fieldAddrB <;> rfl) | (apply p_nilCheck <;> rfl) | (apply p_add; (case hx => rfl); (case hy => rfl); (case h => omega)) | fail); (case hd => rfl)) | (apply v_condF; (case hc => rfl)) | (apply v_call (hs := q); (case ha => rfl); (case hp => first | exact (Pick.perm (by repeat (first | exact Pick.here _ | fail))) | fail); (case hd => rfl); rintro _ _ _ _ ⟨rfl, rfl, rfl⟩) | (apply v_read; (case hop => first | (apply r_load1; rfl; (apply Cell.own; (case h => (repeat (first | exact List.Mem.head _ | fail))); rfl)) | fail); (case hd => rfl)) | (apply v_store; (case hp => rfl); (case hx => rfl); (case hc => rfl); (case hsz => rfl); (case h1 => rfl); (case hb => (repeat (first | exact List.Mem.head _ | fail))); (case hfit => first | exact Nat.le_of_ble_eq_true rfl | fail); (case hov => (first | ((repeat (first | with_reducible exact ov_nil | apply ov_cons | fail)); done) | fail)); (case hu => repeat (first | exact Upd.here _ _ | fail))) | fail)
    have hsub := sl_sub (lo := (a' : Int) + n - n) (hi := (a' : Int) + n) hs (by omega) (by omega) (by omega)
    have hsl : ((l.take ((a' : Int) + n).toNat).drop ((a' : Int) + n - n).toNat).length ≤ 1048576 := by rw [List.length_drop, List.length_take]; omega
    refine d_start _ (by kernel_rfl) (by kernel_rfl) (fun _ he => he) ?_
    all_goals (first | (apply d_take 0; (case hi => rfl); (case hop => first | (apply PureOp.read; apply p_move <;> rfl)); (case hf => kernel_rfl); (case hr => kernel_rfl); (case hd => rfl)) | fail)
    all_goals (first | (apply d_take 1; (case hi => rfl); (case hop => first | (apply PureOp.read; apply p_nilCheck <;> rfl)); (case hf => kernel_rfl); (case hr => kernel_rfl); (case hd => rfl)) | fail)
    all_goals (first | (apply d_take 2; (case hi => rfl); (case hop => first | (apply PureOp.read; apply p_fieldAddrB <;> rfl) | fail); (case hf => kernel_rfl); (case hr => kernel_rfl); (case hd => rfl)) | fail)
    all_goals (first | (apply d_take 3; (case hi => rfl); (case hop => first   | (apply r_loadNo; (case hx => rfl); (case h => (repeat (fail))); (case hd => (repeat (fail))); (case hn => rfl)) | (apply r_load1; rfl; (apply Cell.own; (case h => (repeat (first | exact List.Mem.head _ | fail))); rfl)) | (apply r_loadN; rfl; (apply CellsAt.own; (case h => (repeat (fail)))); rfl)); (case hf => kernel_rfl); (case hr => kernel_rfl); (case hd => rfl)) | fail)
    all_goals (first | (apply d_take 4; (case hi => rfl); (case hop => first | (apply PureOp.read; apply p_move <;> rfl)); (case hf => kernel_rfl); (case hr => kernel_rfl); (case hd => rfl)) | fail)
    all_goals (first | (apply d_take 5; (case hi => rfl); (case hop => first | (apply PureOp.read; apply p_nilCheck <;> rfl)); (case hf => kernel_rfl); (case hr => kernel_rfl); (case hd => rfl)) | fail)
    all_goals (first | (apply d_take 6; (case hi => rfl); (case hop => first | (apply PureOp.read; apply p_fieldAddrB <;> rfl) | fail); (case hf => kernel_rfl); (case hr => kernel_rfl); (case hd => rfl)) | fail)
    all_goals (first | (apply d_take 7; (case hi => rfl); (case hop => first   | (apply r_loadNo; (case hx => rfl); (case h => (repeat (fail))); (case hd => (repeat (fail))); (case hn => rfl)) | (apply r_load1; rfl; (apply Cell.own; (case h => (repeat (first | exact List.Mem.head _ | fail))); rfl)) | (apply r_loadN; rfl; (apply CellsAt.own; (case h => (repeat (fail)))); rfl)); (case hf => kernel_rfl); (case hr => kernel_rfl); (case hd => rfl)) | fail)
    all_goals (first | (apply d_take 8; (case hi => rfl); (case hop => first | (apply PureOp.read; apply p_move <;> rfl)); (case hf => kernel_rfl); (case hr => kernel_rfl); (case hd => rfl)) | fail)
    all_goals (first | (apply d_take 9; (case hi => rfl); (case hop => first | (apply PureOp.read; apply p_sub; (case hx => rfl); (case hy => rfl); (case h => omega))); (case hf => kernel_rfl); (case hr => kernel_rfl); (case hd => rfl)) | fail)
    all_goals (first | (apply d_take 10; (case hi => rfl); (case hop => first | (apply PureOp.read; apply p_move <;> rfl)); (case hf => kernel_rfl); (case hr => kernel_rfl); (case hd => rfl)) | fail)
    all_goals (first | (apply d_take 11; (case hi => rfl); (case hop => first | (apply PureOp.read; apply p_nilCheck <;> rfl)); (case hf => kernel_rfl); (case hr => kernel_rfl); (case hd => rfl)) | fail)
    all_goals (first | (apply d_take 12; (case hi => rfl); (case hop => first | (apply PureOp.read; apply p_fieldAddrB <;> rfl) | fail); (case hf => kernel_rfl); (case hr => kernel_rfl); (case hd => rfl)) | fail)
    all_goals (first | (apply d_take 13; (case hi => rfl); (case hop => first   | (apply r_loadNo; (case hx => rfl); (case h => (repeat (fail))); (case hd => (repeat (fail))); (case hn => rfl)) | (apply r_load1; rfl; (apply Cell.own; (case h => (repeat (first | exact List.Mem.head _ | fail))); rfl)) | (apply r_loadN; rfl; (apply CellsAt.own; (case h => (repeat (fail)))); rfl)); (case hf => kernel_rfl); (case hr => kernel_rfl); (case hd => rfl)) | fail)
    all_goals (first | (apply d_take 14; (case hi => rfl); (case hop => first | (apply PureOp.read; apply p_sliceLH; (case hx => rfl); (case hl => rfl); (case hh => rfl); all_goals omega) | fail); (case hf => kernel_rfl); (case hr => kernel_rfl); (case hd => rfl)) | fail)
    all_goals (first | ((apply d_call 15 (hs := bclone_s hsub hsl); (case hi => rfl); (case hr => kernel_rfl);  (case ha => rfl); (case hp => exact List.Perm.refl _); (case hd => rfl); (case hν' => intro e he; simp at he; simp [he]); rintro r1 G1 ν1 - ⟨rfl, hg1⟩; obtain ⟨A1, c1, rfl, -, -⟩ := hg1.shape)) | fail)
    all_goals (first | (apply d_take 16; (case hi => rfl); (case hop => first | (apply PureOp.read; apply p_assign <;> rfl)); (case hf => kernel_rfl); (case hr => kernel_rfl); (case hd => rfl)) | fail)
    all_goals (apply d_done; (case hr => kernel_rfl))
    refine v_frz ν1 (by repeat (first | exact PickA.here _ | fail)) ?_
    intro G2 hle2 hG2
    repeat' (fail)
    refine v_ret [(rb, _)] (outsA1 rfl rfl) (by repeat (first | exact List.Sublist.refl _ | fail)) ?_
    refine ⟨?_, ((a' : Int) + n).toNat, 0, ?_, by omega, .inr ⟨rfl, rfl⟩⟩
    · have := hg1.ints hG2 (fun x hx => by
        have := sl_byte hs x (List.mem_of_mem_take (List.mem_of_mem_drop hx))
        exact WalkArith.wf_u8 (by omega))
      simp only [show ((a' : Int) + n - n).toNat = a' by omega] at this ⊢
      exact this
    · rw [show ((((a' : Int) + n).toNat : Nat) : Int) = (a' : Int) + n by omega]
  · obtain ⟨h2, h3⟩ := hno h0
    rw [h2, h3]
    repeat' (first | apply v_seq | apply v_region | apply v_nil | (apply v_pure; (case hop => first | (apply p_move <;> rfl) | (apply p_ne <;> rfl) | (apply p_assign <;> rfl) | (apply p_fieldAddrB <;> rfl) | (apply p_nilCheck <;> rfl) | fail); (case hd => rfl)) | (apply v_cond; (case hc => rfl); all_goals (intro h; (try simp only [reduceCtorEq, dec_true, dec_false, decide_eq_true_eq, decide_eq_false_iff_not, Bool.not_eq_true', Bool.not_eq_false', Option.isNone_iff_eq_none, beq_true, beq_false, beq_iff_eq, beq_eq_false_iff_ne, ne_eq, decide_eq_decide, Bool.not_eq_true, Bool.not_eq_false, Decidable.not_not] at h); first | (exfalso; omega) | skip)) | (apply v_call (hs := q); (case ha => rfl); (case hp => first | exact (Pick.perm (by repeat (first | exact Pick.here _ | fail))) | fail); (case hd => rfl); rintro _ _ _ _ ⟨rfl, rfl, rfl⟩) | (apply v_read; (case hop => first | (apply r_load1; rfl; (apply Cell.own; (case h => (repeat (first | exact List.Mem.head _ | fail))); rfl)) | fail); (case hd => rfl)) | fail)
    refine v_ret [(rb, _)] (outsA1 rfl rfl) (by repeat (first | exact List.Sublist.refl _ | fail)) ?_
    exact ⟨Sl.nil, a', no', rfl, hat, .inl ⟨rfl, h0⟩⟩
theorem raw1_s {G : GH} {l : List Int} {bv : Value} (pb qb rb a : Nat) (most : Int) (hs : Sl G 1 (IntR .u8) bv l) (hl : l.length ≤ 1048576) (ha : a ≤ l.length) :
    Con Tryd.prog 94 #[.pointer (some ⟨pb, 0, none⟩), .pointer (some ⟨qb, 0, none⟩)] G [(rb, rdO bv a 0), (qb, iO most), (pb, pO rb)]
      (fun r G' μ' => Sl G' 1 (IntR .u8) r (rawB most (some (l.drop a))) ∧ ∃ a' no', μ' = [(rb, rdO bv (a' : Nat) no'), (qb, iO most), (pb, pO rb)] ∧ RdS l a' no' (rawS most (some (l.drop a)))) := by
  have ql := raw_s rb a most hs hl ha
  refine v_enter Tryd.func94 rfl Tryd.ntmps94 rfl (fun B => ?_)
  repeat' (first | apply v_seq | apply v_region | apply v_nil | (apply v_pure; (case hop => first | (apply p_assign <;> rfl)); (case hd => rfl)) | (apply v_read; (case hop => first | (apply r_load1; rfl; (apply Cell.own; (case h => (repeat (first | exact List.Mem.head _ | apply List.Mem.tail | fail))); rfl)) | fail); (case hd => rfl)) | fail)
  refine v_call (μ1 := [(rb, _)]) (μ2 := _) rfl ql (PickA.perm (by repeat (first | exact PickA.here _ | fail))) rfl ?_
  rintro r G1 _ hle ⟨h1, a', no', rfl, hr'⟩
  obtain ⟨A1, c1, rfl, -⟩ := h1.openInt
  repeat' (first | apply v_nil | (apply v_pure; (case hop => first | (apply p_assign <;> rfl)); (case hd => rfl)) | fail)
  refine v_ret [(rb, _), (qb, _), (pb, _)] (outsA1 rfl rfl) (by repeat (first | exact List.Sublist.refl _ | fail)) ?_
  exact ⟨h1, a', no', rfl, hr'⟩
theorem rdReadB_s {G : GH} {l : List Int} {bv : Value} {s : Option (List Int)} (pb qb rb a : Nat) (no most : Int) (hs : Sl G 1 (IntR .u8) bv l) (hl : l.length ≤ 1048576) (hr : RdS l a no s) :
    Con Tryd.prog 93 #[.pointer (some ⟨rb, 0, none⟩), .func (.func 94) #[] #[.pointer (some ⟨pb, 0, none⟩), .pointer (some ⟨qb, 0, none⟩)]] G [(rb, rdO bv a no), (qb, iO most), (pb, pO rb)]
      (fun r G' μ' => Sl G' 1 (IntR .u8) r (rawB most s) ∧ ∃ a' no', μ' = [(rb, rdO bv (a' : Nat) no'), (qb, iO most), (pb, pO rb)] ∧ RdS l a' no' (rawS most s)) := by
  obtain ⟨ha, ⟨rfl, hno⟩ | ⟨rfl, rfl⟩⟩ := hr
  · refine v_enter Tryd.func93 rfl Tryd.ntmps93 rfl (fun B => ?_)
    repeat' (first | apply v_seq | apply v_region | apply v_nil | (apply v_take; (case hg => rfl)) | (apply v_pure; (case hop => first | (apply p_move <;> rfl) | (apply p_ne <;> rfl) | (apply p_assign <;> rfl) | (apply p_pickF <;> rfl) | (apply p_fieldAddrB <;> rfl) | (apply p_nilCheck <;> rfl) | (apply p_eqNil <;> rfl) | fail); (case hd => rfl)) | (apply v_cond; (case hc => rfl); all_goals (intro h; (try simp only [reduceCtorEq, dec_true, dec_false, decide_eq_true_eq, decide_eq_false_iff_not, Bool.not_eq_true', Bool.not_eq_false', Option.isNone_iff_eq_none, beq_true, beq_false, beq_iff_eq, beq_eq_false_iff_ne, ne_eq, decide_eq_decide, Bool.not_eq_true, Bool.not_eq_false, Decidable.not_not] at h); first | (exfalso; omega) | skip)) | (apply v_read; (case hop => first | (apply r_load1; rfl; (apply Cell.own; (case h => (repeat (first | exact List.Mem.head _ | fail))); rfl)) | fail); (case hd => rfl)) | fail)
    refine v_ret [(rb, _), (qb, _), (pb, _)] (outsA1 rfl rfl) (by repeat (first | exact List.Sublist.refl _ | fail)) ?_
    exact ⟨Sl.nil, a, no, rfl, ha, .inl ⟨rfl, hno⟩⟩
  · have q := raw1_s pb qb rb a most hs hl ha
    have hn : rawS most (some (l.drop a)) = none → rawB most (some (l.drop a)) = [] := by
      intro hh
      cases hd : dvk 0 (l.drop a) with
      | none => simp only [rawB, hd]
      | some p =>
        simp only [rawB, rawS, hd] at hh ⊢
        split at hh
        · rw [if_pos ‹_›]
        · cases hh
    generalize rawB most (some (l.drop a)) = rl at *
    generalize rawS most (some (l.drop a)) = s' at *
    refine v_enter Tryd.func93 rfl Tryd.ntmps93 rfl (fun B => ?_)
    repeat' (first | apply v_seq | apply v_region | apply v_nil | apply v_skip | (apply v_take; (case hg => rfl)) | (apply v_pure; (case hop => first | (apply p_move <;> rfl) | (apply p_nes <;> rfl) | (apply p_assign <;> rfl) | (apply p_pickF <;> rfl) | (apply p_fieldAddrB <;> rfl) | (apply p_nilCheck <;> rfl) | (apply p_eqNil <;> rfl) | fail); (case hd => rfl)) | (apply v_condF; (case hc => rfl)) | (apply v_read; (case hop => first | (apply r_load1; rfl; (apply Cell.own; (case h => (repeat (first | exact List.Mem.head _ | fail))); rfl)) | fail); (case hd => rfl)) | fail)
    refine v_callC (first := []) (captured := [.pointer (some ⟨pb, 0, none⟩), .pointer (some ⟨qb, 0, none⟩)]) (vs := []) rfl rfl q (List.Perm.refl _) rfl ?_
    rintro r G1 _ hle ⟨h1, a', no', rfl, hr'⟩
    obtain ⟨A1, c1, rfl, -⟩ := h1.openInt
    obtain ⟨ha', hr2⟩ := id hr'
    repeat' (first | apply v_seq | apply v_region | apply v_nil | apply v_skip | (apply v_pure; (case hop => first | (apply p_move <;> rfl) | (apply p_ne <;> rfl) | (apply p_assign <;> rfl) | (apply p_fieldAddrB <;> rfl) | (apply p_nilCheck <;> rfl) | fail); (case hd => rfl)) | (apply v_cond; (case hc => rfl); all_goals (intro h; (try simp only [reduceCtorEq, dec_true, dec_false, decide_eq_true_eq, decide_eq_false_iff_not, Bool.not_eq_true', Bool.not_eq_false', Option.isNone_iff_eq_none, beq_true, beq_false, beq_iff_eq, beq_eq_false_iff_ne, ne_eq, decide_eq_decide, Bool.not_eq_true, Bool.not_eq_false, Decidable.not_not] at h); first | skip)) | (apply v_read; (case hop => first | (apply r_load1; rfl; (apply Cell.own; (case h => (repeat (first | exact List.Mem.head _ | fail))); rfl)) | fail); (case hd => rfl)) | fail)
    · refine v_ret [(rb, _), (qb, _), (pb, _)] (outsA1 rfl rfl) (by repeat (first | exact List.Sublist.refl _ | fail)) ?_
      refine ⟨?_, a', no', rfl, hr'⟩
      obtain ⟨h2, h3⟩ | ⟨h2, h3⟩ := hr2
      · rw [hn h2]; exact Sl.nil
      · exact absurd h3 ‹_›
    · refine v_ret [(rb, _), (qb, _), (pb, _)] (outsA1 rfl rfl) (by repeat (first | exact List.Sublist.refl _ | fail)) ?_
      exact ⟨h1, a', no', rfl, hr'⟩
/-- Reader.Raw. -/
theorem rdRaw_s {G : GH} {l : List Int} {bv : Value} {s : Option (List Int)} (rb a : Nat) (no most : Int) (hs : Sl G 1 (IntR .u8) bv l) (hl : l.length ≤ 1048576) (hr : RdS l a no s) :
    Con Tryd.prog 54 #[.pointer (some ⟨rb, 0, none⟩), .int .i64 most] G [(rb, rdO bv a no)]
      (fun r G' μ' => Sl G' 1 (IntR .u8) r (rawB most s) ∧ ∃ a' no', μ' = [(rb, rdO bv (a' : Nat) no')] ∧ RdS l a' no' (rawS most s)) := by
  have q := fun pb qb => rdReadB_s pb qb rb a no most hs hl hr
  generalize rawB most s = rl at *
  refine v_enter Tryd.func54 rfl Tryd.ntmps54 rfl (fun B => ?_)
  repeat' (first | apply v_seq | apply v_region | apply v_nil | (apply v_pure; (case hop => first | (apply p_assign <;> rfl) | (apply p_makeFunc <;> rfl)); (case hd => rfl)) | (apply v_read; (case hop => first | (apply r_load1; rfl; (apply Cell.own; (case h => (repeat (first | exact List.Mem.head _ | apply List.Mem.tail | fail))); rfl)) | fail); (case hd => rfl)) | (apply v_box; (case hx => rfl); (case hz => rfl); (case hd => rfl); intro b) | fail)
  rename_i pb
  refine v_call (μ1 := [(rb, rdO bv a no), (b, iO most), (pb, pO rb)]) (μ2 := []) rfl (q pb b) (by apply perm_of_count; intro p; simp only [List.countP_append, List.countP_cons, List.countP_nil, Nat.zero_add, Nat.add_zero]; try ac_rfl) rfl ?_
  rintro r G1 _ hle ⟨h1, a', no', rfl, hr'⟩
  obtain ⟨A1, c1, rfl, -⟩ := h1.openInt
  repeat' (first | apply v_nil | (apply v_pure; (case hop => first | (apply p_assign <;> rfl) | fail); (case hd => rfl)) | fail)
  refine v_ret [(rb, _)] (outsA1 rfl rfl) (by repeat (first | exact List.nil_sublist _ | apply List.Sublist.cons_cons | fail)) ?_
  exact ⟨h1, a', no', rfl, hr'⟩
/-- Reader.Done: nothing is left. -/
theorem rdDone_s {G : GH} {l : List Int} {bv : Value} {s : Option (List Int)} (rb a : Nat) (no : Int) (hs : Sl G 1 (IntR .u8) bv l) (hl : l.length ≤ 1048576) (hr : RdS l a no s) :
    Con Tryd.prog 45 #[.pointer (some ⟨rb, 0, none⟩)] G [(rb, rdO bv a no)] (fun r G' μ' => G' = G ∧ (∃ e : Int, r = .int .i64 e ∧ (e = 0 ↔ s = some [])) ∧ μ' = [(rb, rdO bv a no)]) := by
  have qe := rerr_s G rb bv a no
  have ql := left_s rb a no hs hl hr.1
  obtain ⟨ha, hr2⟩ := hr
  refine v_enter Tryd.func45 rfl Tryd.ntmps45 rfl (fun B => ?_)
  repeat' (first | apply v_seq | apply v_region | apply v_nil | apply v_skip | (apply v_pure; (case hop => first | (apply p_move <;> rfl) | (apply p_gt <;> rfl) | (apply p_ne <;> rfl) | (apply p_assign <;> rfl) | fail); (case hd => rfl)) | (apply v_cond; (case hc => rfl); all_goals (intro h; (try simp only [reduceCtorEq, dec_true, dec_false, decide_eq_true_eq, decide_eq_false_iff_not, Bool.not_eq_true', Bool.not_eq_false', Option.isNone_iff_eq_none, beq_true, beq_false, beq_iff_eq, beq_eq_false_iff_ne, ne_eq, decide_eq_decide, Bool.not_eq_true, Bool.not_eq_false, Decidable.not_not] at h); first | skip)) | (apply v_callK (hs := qe); (case ha => rfl); (case hp => first | exact (Pick.perm (by repeat (first | exact Pick.here _ | fail))) | fail); (case hd => rfl)) | (apply v_callK (hs := ql); (case ha => rfl); (case hp => first | exact (Pick.perm (by repeat (first | exact Pick.here _ | fail))) | fail); (case hd => rfl)) | fail)
  all_goals
    (refine v_ret [(rb, _)] (outsA1 rfl rfl) (by repeat (first | exact List.Sublist.refl _ | fail)) ?_
     refine ⟨rfl, ⟨_, rfl, ?_⟩, rfl⟩)
  · obtain ⟨h1, h2⟩ | ⟨h1, h2⟩ := hr2
    · rw [h1]; simp only [h2, reduceCtorEq]
    · exact absurd h2 ‹_›
  · obtain ⟨h1, h2⟩ | ⟨h1, h2⟩ := hr2
    · exact absurd ‹_› h2
    · rw [h1]
      simp only [Option.some.injEq, List.drop_eq_nil_iff]
      omega
  · obtain ⟨h1, h2⟩ | ⟨h1, h2⟩ := hr2
    · exact absurd ‹_› h2
    · rw [h1]
      simp only [Option.some.injEq, List.drop_eq_nil_iff, true_iff]
      omega
end Go.Proofs.YtnoiahlpmgbhfaaDoor
/-
  pack, the eighth part: a reader's texts.
-/
set_option linter.unusedSimpArgs false
set_option linter.unusedVariables false
namespace Go.Proofs.YtnoiahlpmgbhfaaDoor
open Go.Vx Go.ChangeShapes Go.WideShapes Go.ChangeAt Go.RowKit
/-- The string of bytes that are numbers. -/
def strL (l : List Int) : ByteArray := ⟨(l.map fun n => UInt8.ofNat n.toNat).toArray⟩
theorem sbytes_strL {l : List Int} (h : ∀ x ∈ l, 0 ≤ x ∧ x ≤ 255) : sbytes (strL l) = l := by
  unfold sbytes strL
  simp only [List.map_map]
  conv => rhs; rw [← List.map_id l]
  refine List.map_congr_left fun x hx => ?_
  have := h x hx
  simp only [Function.comp, UInt8.toNat_ofNat', id]
  omega
theorem strL_sbytes (s : ByteArray) : strL (sbytes s) = s := by
  unfold sbytes strL
  simp only [List.map_map]
  have : (s.data.toList.map ((fun n : Int => UInt8.ofNat n.toNat) ∘ fun b : UInt8 => (b.toNat : Int))) = s.data.toList := by
    conv => rhs; rw [← List.map_id s.data.toList]
    refine List.map_congr_left fun x hx => ?_
    simp
  rw [this]
theorem strL_size (l : List Int) : (strL l).size = l.length := by
  show (l.map fun n => UInt8.ofNat n.toNat).toArray.size = _
  simp
attribute [local semireducible] ReadOp in
theorem r_convBS {P : Program} {ty src dst e : TypeId} {σ : Env} {G : GH} {μ : OH} {x : Operand} {A : Option Addr} {c : Nat} {l : List Int} (hS : P.underlying src = some (.slice e)) (hE : P.underlying e = some (.int .u8)) (hD : P.underlying dst = some .string) (hx : Env.ev σ x = some (.slice A l.length c)) (hs : Sl G 1 (IntR .u8) (.slice A l.length c) l) :
    ReadOp P (.convert src dst x) ty σ G μ (.string (strL l)) := by
  intro d pos af g ρ hρ w hw
  obtain ⟨A', c', hv, hlc, hcm, hsome, hel, hwf⟩ := hs.openInt
  injection hv with e1 _ e2
  subst e1; subst e2
  have key : (convert src dst (.slice A l.length c)).run P w = .ok (.string (strL l)) w := by
    cases A with
    | none =>
      have : l = [] := by
        cases l with
        | nil => rfl
        | cons a l => have := hsome (by simp); simp at this
      subst this
      exact run_convert_bytes_nil w src e hS hE _ _ dst hD
    | some a =>
      have h := run_convert_bytes_back (P := P) w src dst e a c (l.map fun n => UInt8.ofNat n.toNat) hS hE hD (fun j hj => by
        rw [List.length_map] at hj
        have h1 := (Cell.frozen (μ := μ) (hel j hj)) w hw
        have h2 := hwf _ (List.getElem_mem hj)
        simp [Lit.wf, IntKind.min, IntKind.max, IntKind.signed, IntKind.bits] at h2
        simp only [adr, Option.getD_some, Nat.mul_one] at h1
        rw [h1, List.getElem_map, UInt8.toNat_ofNat']
        congr 2
        omega)
      rw [List.length_map] at h
      exact h
  simp [execOp, hρ _ _ hx, key]
theorem rdText_s {G : GH} {l : List Int} {bv : Value} {s : Option (List Int)} (rb a : Nat) (no most : Int) (hs : Sl G 1 (IntR .u8) bv l) (hl : l.length ≤ 1048576) (hr : RdS l a no s) :
    Con Tryd.prog 140 #[.pointer (some ⟨rb, 0, none⟩), .int .i64 most] G [(rb, rdO bv a no)]
      (fun r G' μ' => r = .string (strL (rawB most s)) ∧ ∃ a' no', μ' = [(rb, rdO bv (a' : Nat) no')] ∧ RdS l a' no' (rawS most s)) := by
  have q := rdRaw_s rb a no most hs hl hr
  generalize rawB most s = rl at *
  refine v_enter Tryd.func140 rfl Tryd.ntmps140 rfl (fun B => ?_)
  repeat' (first | apply v_seq | apply v_region | apply v_nil | apply v_skip | apply v_block | apply v_blk | (apply v_exit; (case hp => rfl)) | (apply v_take; (case hg => rfl)) | (apply v_pass; (case hg => rfl); (case hn => rfl); (case hd => rfl)) | (apply v_passN; (case hg => rfl); (case hn => rfl); (case hd => rfl)) | (apply v_pure; (case hop => first | (apply p_move <;> rfl) | (apply p_assign <;> rfl) | (apply p_convS <;> rfl) | (apply p_convB <;> rfl) | (apply p_conv64; (case hx => rfl); (case h => omega))); (case hd => rfl)) | (apply v_condT; (case hc => rfl)) | (apply v_condF; (case hc => rfl)) | (apply v_cond; (case hc => rfl); all_goals (intro h; (try simp only [reduceCtorEq, dec_true, dec_false, decide_eq_true_eq, decide_eq_false_iff_not, Bool.not_eq_true', Bool.not_eq_false', Option.isNone_iff_eq_none, beq_true, beq_false, beq_iff_eq, beq_eq_false_iff_ne, ne_eq, decide_eq_decide, Bool.not_eq_true, Bool.not_eq_false, Decidable.not_not] at h); first | done | (exfalso; omega) | (exfalso; exact h (by with_reducible assumption)) | (exfalso; revert h; rw [imp_false]; with_reducible assumption) | skip)) | (apply v_guardB; (case h1 => rfl); (case h2 => rfl); all_goals (intro h; (try simp only [reduceCtorEq, dec_true, dec_false, decide_eq_true_eq, decide_eq_false_iff_not, Bool.not_eq_true', Bool.not_eq_false', Option.isNone_iff_eq_none, beq_true, beq_false, beq_iff_eq, beq_eq_false_iff_ne, ne_eq, decide_eq_decide, Bool.not_eq_true, Bool.not_eq_false, Decidable.not_not] at h); first | done | (exfalso; omega) | (exfalso; exact h (by with_reducible assumption)) | (exfalso; revert h; rw [imp_false]; with_reducible assumption) | skip)) | fail)
  refine v_call (μ1 := [(rb, rdO bv a no)]) (μ2 := []) rfl q (List.Perm.refl _) rfl ?_
  rintro r G1 _ hle ⟨h1, a', no', rfl, hr'⟩
  obtain ⟨A1, c1, rfl, -⟩ := h1.openInt
  repeat' (first | apply v_seq | apply v_region | apply v_nil | apply v_skip | apply v_block | apply v_blk | (apply v_exit; (case hp => rfl)) | (apply v_take; (case hg => rfl)) | (apply v_pass; (case hg => rfl); (case hn => rfl); (case hd => rfl)) | (apply v_passN; (case hg => rfl); (case hn => rfl); (case hd => rfl)) | (apply v_pure; (case hop => first | (apply p_move <;> rfl) | (apply p_assign <;> rfl) | (apply p_convS <;> rfl) | (apply p_convB <;> rfl) | (apply p_conv64; (case hx => rfl); (case h => omega))); (case hd => rfl)) | (apply v_condT; (case hc => rfl)) | (apply v_condF; (case hc => rfl)) | (apply v_cond; (case hc => rfl); all_goals (intro h; (try simp only [reduceCtorEq, dec_true, dec_false, decide_eq_true_eq, decide_eq_false_iff_not, Bool.not_eq_true', Bool.not_eq_false', Option.isNone_iff_eq_none, beq_true, beq_false, beq_iff_eq, beq_eq_false_iff_ne, ne_eq, decide_eq_decide, Bool.not_eq_true, Bool.not_eq_false, Decidable.not_not] at h); first | done | (exfalso; omega) | (exfalso; exact h (by with_reducible assumption)) | (exfalso; revert h; rw [imp_false]; with_reducible assumption) | skip)) | (apply v_guardB; (case h1 => rfl); (case h2 => rfl); all_goals (intro h; (try simp only [reduceCtorEq, dec_true, dec_false, decide_eq_true_eq, decide_eq_false_iff_not, Bool.not_eq_true', Bool.not_eq_false', Option.isNone_iff_eq_none, beq_true, beq_false, beq_iff_eq, beq_eq_false_iff_ne, ne_eq, decide_eq_decide, Bool.not_eq_true, Bool.not_eq_false, Decidable.not_not] at h); first | done | (exfalso; omega) | (exfalso; exact h (by with_reducible assumption)) | (exfalso; revert h; rw [imp_false]; with_reducible assumption) | skip)) | (apply v_read; (case hop => exact r_convBS Tryd.underlying22 Tryd.underlying5 Tryd.underlying9 rfl h1); (case hd => rfl)) | fail)
  refine v_ret [(rb, _)] (outsA1 rfl rfl) (by repeat (first | exact List.Sublist.refl _ | exact List.nil_sublist _ | apply List.Sublist.cons_cons | apply List.Sublist.cons | exact List.sublist_append_left _ _ | apply List.sublist_append_of_sublist_right)) ?_
  exact ⟨rfl, a', no', rfl, hr'⟩
end Go.Proofs.YtnoiahlpmgbhfaaDoor
/-
  pack, the ninth part, in plain Lean: numbers and bytes that are read, and those that were put.
-/
set_option linter.unusedSimpArgs false
set_option linter.unusedVariables false
namespace Go.Proofs.YtnoiahlpmgbhfaaDoor
open Go.Vx Go.ChangeShapes Go.WideShapes Go.ChangeAt Go.RowKit
/-- Bytes, where there are any. -/
def byteS (s : Option (List Int)) : Prop := ∀ r, s = some r → ∀ x ∈ r, 0 ≤ x ∧ x ≤ 255
theorem numV_b {s : Option (List Int)} (h : byteS s) (most : Int) : 0 ≤ numV most s ∧ numV most s ≤ 9223372036854775807 := by
  unfold numV
  cases s with
  | none => simp
  | some r =>
    simp only
    cases hd : dvk 0 r with
    | none => simp
    | some p =>
      have := vbytes_dvk (m := p.1) (r' := p.2) (h r rfl) hd
      simp only
      split <;> omega
theorem dvk_sub {r : List Int} {m : Int} {r' : List Int} (h : dvk 0 r = some (m, r')) : ∀ x ∈ r', x ∈ r := fun x hx => by
  obtain ⟨-, h2⟩ := dvk_len r 0 m r' h
  rw [h2] at hx
  exact List.mem_of_mem_drop hx
theorem numS_b {s : Option (List Int)} (h : byteS s) (most : Int) : byteS (numS most s) := by
  unfold numS
  cases s with
  | none => exact h
  | some r =>
    simp only
    cases hd : dvk 0 r with
    | none => intro r h; cases h
    | some p =>
      simp only
      split
      · intro r h; cases h
      · intro r2 h2 x hx
        cases h2
        exact h r rfl x (dvk_sub (m := p.1) (r' := p.2) hd x hx)
theorem rawS_b {s : Option (List Int)} (h : byteS s) (most : Int) : byteS (rawS most s) := by
  unfold rawS
  cases s with
  | none => exact h
  | some r =>
    simp only
    cases hd : dvk 0 r with
    | none => intro r h; cases h
    | some p =>
      simp only
      split
      · intro r h; cases h
      · intro r2 h2 x hx
        cases h2
        exact h r rfl x (dvk_sub (m := p.1) (r' := p.2) hd x (List.mem_of_mem_drop hx))
theorem rawB_len (s : Option (List Int)) (most : Nat) : (rawB most s).length ≤ most := by
  unfold rawB
  cases s with
  | none => simp
  | some r =>
    simp only
    cases hd : dvk 0 r with
    | none => simp
    | some p =>
      simp only
      split
      · simp
      · rw [List.length_take]; omega
theorem wf64 {n : Int} (h0 : 0 ≤ n ∧ n ≤ 9223372036854775807) : (Lit.int .i64 n).wf = true := by
  simp [Lit.wf, IntKind.min, IntKind.max, IntKind.signed, IntKind.bits]
  omega
theorem txt_len (s : Option (List Int)) : (strL (rawB 1048576 s)).size ≤ maxLen := by
  rw [strL_size]
  have := rawB_len s 1048576
  simp only [maxLen]
  exact Nat.le_trans this (by decide)
abbrev nV (s : Option (List Int)) : Int := numV 9223372036854775807 s
abbrev nS (s : Option (List Int)) : Option (List Int) := numS 9223372036854775807 s
theorem num_v {m : Int} (r : List Int) (h0 : 0 ≤ m) (h1 : m ≤ 9223372036854775807) : nV (some (vbytes m ++ r)) = m ∧ nS (some (vbytes m ++ r)) = some r := by
  simp only [nV, nS, numV, numS, dvk_vbytes r h0 h1]
  rw [if_neg (by omega), if_neg (by omega)]
  exact ⟨rfl, rfl⟩
theorem raw_v {most : Int} (bl r : List Int) (h : (bl.length : Int) ≤ most) (hm : bl.length ≤ 1048576) : rawB most (some (vbytes bl.length ++ bl ++ r)) = bl ∧ rawS most (some (vbytes bl.length ++ bl ++ r)) = some r := by
  rw [List.append_assoc]
  simp only [rawB, rawS, dvk_vbytes (m := bl.length) (bl ++ r) (by omega) (by omega), List.length_append]
  have e : ¬ (most < (bl.length : Int) ∨ ((bl.length + r.length : Nat) : Int) < bl.length) := by omega
  rw [if_neg e, if_neg e]
  simp
theorem num_inv {s : Option (List Int)} (hb : byteS s) {r' : List Int} (h : nS s = some r') : s = some (vbytes (nV s) ++ r') := by
  cases s with
  | none => cases h
  | some r =>
    simp only [nS, nV, numS, numV] at h ⊢
    cases hd : dvk 0 r with
    | none => rw [hd] at h; cases h
    | some p =>
      rw [hd] at h
      have := vbytes_dvk (m := p.1) (r' := p.2) (hb r rfl) hd
      simp only at h ⊢
      rw [if_neg (by omega)] at h ⊢
      cases h
      rw [← this.2.2]
theorem raw_inv {s : Option (List Int)} (hb : byteS s) {most : Int} {r' : List Int} (h : rawS most s = some r') : s = some (vbytes (rawB most s).length ++ rawB most s ++ r') := by
  cases s with
  | none => cases h
  | some r =>
    simp only [rawS, rawB] at h ⊢
    cases hd : dvk 0 r with
    | none => rw [hd] at h; cases h
    | some p =>
      rw [hd] at h
      have := vbytes_dvk (m := p.1) (r' := p.2) (hb r rfl) hd
      simp only at h ⊢
      by_cases hc : most < p.1 ∨ (p.2.length : Int) < p.1
      · rw [if_pos hc] at h; cases h
      · rw [if_neg hc] at h ⊢
        cases h
        have e : ((p.2.take p.1.toNat).length : Int) = p.1 := by rw [List.length_take]; omega
        rw [e, List.append_assoc, List.take_append_drop, ← this.2.2]
theorem raw_byte {s : Option (List Int)} (hb : byteS s) (most : Int) : ∀ x ∈ rawB most s, 0 ≤ x ∧ x ≤ 255 := by
  intro x hx
  cases s with
  | none => cases hx
  | some r =>
    simp only [rawB] at hx
    cases hd : dvk 0 r with
    | none => rw [hd] at hx; cases hx
    | some p =>
      rw [hd] at hx
      simp only at hx
      split at hx
      · cases hx
      · exact hb r rfl x (dvk_sub (m := p.1) (r' := p.2) hd x (List.mem_of_mem_take hx))
end Go.Proofs.YtnoiahlpmgbhfaaDoor
/-
  pack, the tenth part: a reader's counts.
-/
set_option linter.unusedSimpArgs false
set_option linter.unusedVariables false
namespace Go.Proofs.YtnoiahlpmgbhfaaDoor
open Go.Vx Go.ChangeShapes Go.WideShapes Go.ChangeAt Go.RowKit
/-- What is read of a count, and what is left. -/
def cntV (most : Int) : Option (List Int) → Int
  | none => 0
  | some r => match dvk 0 r with | none => 0 | some p => if most < p.1 ∨ (p.2.length : Int) < p.1 then 0 else p.1
def cntS (most : Int) : Option (List Int) → Option (List Int)
  | none => none
  | some r => match dvk 0 r with | none => none | some p => if most < p.1 ∨ (p.2.length : Int) < p.1 then none else some p.2
theorem cntv_ok {l : List Int} {a : Nat} {most : Int} (ha : a ≤ l.length) (h : cntNo most l a = 0) : cntV most (some (l.drop a)) = limN (l.drop a) ∧ cntS most (some (l.drop a)) = some (l.drop (limAt l a)) := by
  unfold cntNo at h
  have h0 : limNo most (l.drop a) = 0 := by
    split at h
    · omega
    · exact h
  rw [h0] at h
  have h1 : ¬ ((l.length : Int) - limAt l a < limN (l.drop a)) := fun hh => by rw [if_pos ⟨rfl, hh⟩] at h; omega
  obtain ⟨e1, e2⟩ := lim_ok ha h0
  have hat := limAt_le l a
  generalize limAt l a = a' at *
  generalize limN (l.drop a) = n at *
  unfold limNo at h0
  have he := dve_none (l.drop a) 0
  cases hd : dvk 0 (l.drop a) with
  | none => rw [hd] at h0 he; exact absurd h0 (he.1 rfl)
  | some p =>
    rw [hd] at h0
    simp only at h0
    have hm : ¬ most < p.1 := fun hm => by rw [if_pos hm] at h0; omega
    simp only [numV, numS, hd, if_neg hm, Option.some.injEq] at e1 e2
    have hlen : p.2.length = l.length - a' := by rw [e2, List.length_drop]
    have hn : ¬ (most < p.1 ∨ (p.2.length : Int) < p.1) := by omega
    simp only [cntV, cntS, hd, if_neg hn]
    exact ⟨e1, by rw [e2]⟩
theorem cntv_no {l : List Int} {a : Nat} {most : Int} (ha : a ≤ l.length) (h : cntNo most l a ≠ 0) : cntV most (some (l.drop a)) = 0 ∧ cntS most (some (l.drop a)) = none := by
  obtain ⟨h1, h2⟩ := cnt_no ha h
  simp only [rawS] at h2
  simp only [cntV, cntS]
  cases hd : dvk 0 (l.drop a) with
  | none => exact ⟨rfl, rfl⟩
  | some p =>
    rw [hd] at h2
    simp only at h2 ⊢
    by_cases hc : most < p.1 ∨ (p.2.length : Int) < p.1
    · rw [if_pos hc, if_pos hc]; exact ⟨rfl, rfl⟩
    · rw [if_neg hc] at h2; cases h2
theorem rdCount1_s {G : GH} {l : List Int} {bv : Value} (pb qb rb a : Nat) (most : Int) (hs : Sl G 1 (IntR .u8) bv l) (hl : l.length ≤ 1048576) (ha : a ≤ l.length) :
    Con Tryd.prog 123 #[.pointer (some ⟨pb, 0, none⟩), .pointer (some ⟨qb, 0, none⟩)] G [(rb, rdO bv a 0), (qb, iO most), (pb, pO rb)] (Keeps (.int .i64 (limN (l.drop a))) G [(rb, rdO bv (limAt l a) (cntNo most l a)), (qb, iO most), (pb, pO rb)]) := by
  have ql := counted_s rb a most hs hl ha
  refine v_enter Tryd.func123 rfl Tryd.ntmps123 rfl (fun B => ?_)
  repeat' (first | apply v_seq | apply v_region | apply v_nil | (apply v_pure; (case hop => first | (apply p_assign <;> rfl)); (case hd => rfl)) | (apply v_call (hs := ql); (case ha => rfl); (case hp => first | exact (Pick.perm (by repeat (first | exact Pick.here _ | fail))) | fail); (case hd => rfl); rintro _ _ _ _ ⟨rfl, rfl, rfl⟩) | (apply v_read; (case hop => first | (apply r_load1; rfl; (apply Cell.own; (case h => (repeat (first | exact List.Mem.head _ | apply List.Mem.tail | fail))); rfl)) | fail); (case hd => rfl)) | fail)
  refine v_ret [(rb, _), (qb, _), (pb, _)] (outsA1 rfl rfl) (by repeat (first | exact List.Sublist.refl _ | fail)) ?_
  exact ⟨rfl, rfl, rfl⟩
theorem rdReadC_s {G : GH} {l : List Int} {bv : Value} {s : Option (List Int)} (pb qb rb a : Nat) (no most : Int) (hs : Sl G 1 (IntR .u8) bv l) (hl : l.length ≤ 1048576) (hr : RdS l a no s) :
    Con Tryd.prog 87 #[.pointer (some ⟨rb, 0, none⟩), .func (.func 123) #[] #[.pointer (some ⟨pb, 0, none⟩), .pointer (some ⟨qb, 0, none⟩)]] G [(rb, rdO bv a no), (qb, iO most), (pb, pO rb)]
      (fun r G' μ' => G' = G ∧ r = .int .i64 (cntV most s) ∧ ∃ a' no', μ' = [(rb, rdO bv (a' : Nat) no'), (qb, iO most), (pb, pO rb)] ∧ RdS l a' no' (cntS most s)) := by
  obtain ⟨ha, ⟨rfl, hno⟩ | ⟨rfl, rfl⟩⟩ := hr
  · refine v_enter Tryd.func87 rfl Tryd.ntmps87 rfl (fun B => ?_)
    repeat' (first | apply v_seq | apply v_region | apply v_nil | (apply v_take; (case hg => rfl)) | (apply v_pure; (case hop => first | (apply p_move <;> rfl) | (apply p_ne <;> rfl) | (apply p_assign <;> rfl) | (apply p_pickF <;> rfl) | (apply p_fieldAddrB <;> rfl) | (apply p_nilCheck <;> rfl) | (apply p_eqNil <;> rfl) | fail); (case hd => rfl)) | (apply v_cond; (case hc => rfl); all_goals (intro h; (try simp only [reduceCtorEq, dec_true, dec_false, decide_eq_true_eq, decide_eq_false_iff_not, Bool.not_eq_true', Bool.not_eq_false', Option.isNone_iff_eq_none, beq_true, beq_false, beq_iff_eq, beq_eq_false_iff_ne, ne_eq, decide_eq_decide, Bool.not_eq_true, Bool.not_eq_false, Decidable.not_not] at h); first | (exfalso; omega) | skip)) | (apply v_read; (case hop => first | (apply r_load1; rfl; (apply Cell.own; (case h => (repeat (first | exact List.Mem.head _ | fail))); rfl)) | fail); (case hd => rfl)) | fail)
    refine v_ret [(rb, _), (qb, _), (pb, _)] (outsA1 rfl rfl) (by repeat (first | exact List.Sublist.refl _ | fail)) ?_
    exact ⟨rfl, rfl, a, no, rfl, ha, .inl ⟨rfl, hno⟩⟩
  · have q := rdCount1_s pb qb rb a most hs hl ha
    have hk := cntv_ok (most := most) ha
    have hn := cntv_no (most := most) ha
    have hat := limAt_le l a
    generalize cntNo most l a = no' at *
    generalize limAt l a = a' at *
    generalize limN (l.drop a) = n at *
    refine v_enter Tryd.func87 rfl Tryd.ntmps87 rfl (fun B => ?_)
    repeat' (first | apply v_seq | apply v_region | apply v_nil | apply v_skip | (apply v_take; (case hg => rfl)) | (apply v_pure; (case hop => first | (apply p_move <;> rfl) | (apply p_nes <;> rfl) | (apply p_assign <;> rfl) | (apply p_pickF <;> rfl) | (apply p_fieldAddrB <;> rfl) | (apply p_nilCheck <;> rfl) | (apply p_eqNil <;> rfl) | fail); (case hd => rfl)) | (apply v_condF; (case hc => rfl)) | (apply v_read; (case hop => first | (apply r_load1; rfl; (apply Cell.own; (case h => (repeat (first | exact List.Mem.head _ | fail))); rfl)) | fail); (case hd => rfl)) | fail)
    refine v_callC (first := []) (captured := [.pointer (some ⟨pb, 0, none⟩), .pointer (some ⟨qb, 0, none⟩)]) (vs := []) rfl rfl q (List.Perm.refl _) rfl ?_
    rintro _ _ _ _ ⟨rfl, rfl, rfl⟩
    repeat' (first | apply v_seq | apply v_region | apply v_nil | apply v_skip | (apply v_pure; (case hop => first | (apply p_move <;> rfl) | (apply p_ne <;> rfl) | (apply p_assign <;> rfl) | (apply p_fieldAddrB <;> rfl) | (apply p_nilCheck <;> rfl) | fail); (case hd => rfl)) | (apply v_cond; (case hc => rfl); all_goals (intro h; (try simp only [reduceCtorEq, dec_true, dec_false, decide_eq_true_eq, decide_eq_false_iff_not, Bool.not_eq_true', Bool.not_eq_false', Option.isNone_iff_eq_none, beq_true, beq_false, beq_iff_eq, beq_eq_false_iff_ne, ne_eq, decide_eq_decide, Bool.not_eq_true, Bool.not_eq_false, Decidable.not_not] at h); first | skip)) | (apply v_read; (case hop => first | (apply r_load1; rfl; (apply Cell.own; (case h => (repeat (first | exact List.Mem.head _ | fail))); rfl)) | fail); (case hd => rfl)) | fail)
    · refine v_ret [(rb, _), (qb, _), (pb, _)] (outsA1 rfl rfl) (by repeat (first | exact List.Sublist.refl _ | fail)) ?_
      exact ⟨rfl, by rw [(hn ‹_›).1], a', no', rfl, hat, .inl ⟨(hn ‹_›).2, ‹_›⟩⟩
    · refine v_ret [(rb, _), (qb, _), (pb, _)] (outsA1 rfl rfl) (by repeat (first | exact List.Sublist.refl _ | fail)) ?_
      exact ⟨rfl, by rw [(hk ‹_›).1], a', no', rfl, hat, .inr ⟨(hk ‹_›).2, ‹_›⟩⟩
/-- Reader.Count. -/
theorem rdCount_s {G : GH} {l : List Int} {bv : Value} {s : Option (List Int)} (rb a : Nat) (no most : Int) (hs : Sl G 1 (IntR .u8) bv l) (hl : l.length ≤ 1048576) (hr : RdS l a no s) :
    Con Tryd.prog 78 #[.pointer (some ⟨rb, 0, none⟩), .int .i64 most] G [(rb, rdO bv a no)]
      (fun r G' μ' => G' = G ∧ r = .int .i64 (cntV most s) ∧ ∃ a' no', μ' = [(rb, rdO bv (a' : Nat) no')] ∧ RdS l a' no' (cntS most s)) := by
  have q := fun pb qb => rdReadC_s pb qb rb a no most hs hl hr
  generalize cntV most s = n at *
  refine v_enter Tryd.func78 rfl Tryd.ntmps78 rfl (fun B => ?_)
  repeat' (first | apply v_seq | apply v_region | apply v_nil | (apply v_pure; (case hop => first | (apply p_assign <;> rfl) | (apply p_makeFunc <;> rfl)); (case hd => rfl)) | (apply v_read; (case hop => first | (apply r_load1; rfl; (apply Cell.own; (case h => (repeat (first | exact List.Mem.head _ | apply List.Mem.tail | fail))); rfl)) | fail); (case hd => rfl)) | (apply v_box; (case hx => rfl); (case hz => rfl); (case hd => rfl); intro b) | fail)
  rename_i pb
  refine v_call (μ1 := [(rb, rdO bv a no), (b, iO most), (pb, pO rb)]) (μ2 := []) rfl (q pb b) (by apply perm_of_count; intro p; simp only [List.countP_append, List.countP_cons, List.countP_nil, Nat.zero_add, Nat.add_zero]; try ac_rfl) rfl ?_
  rintro _ _ _ _ ⟨rfl, rfl, a', no', rfl, hr'⟩
  repeat' (first | apply v_nil | (apply v_pure; (case hop => first | (apply p_assign <;> rfl) | fail); (case hd => rfl)) | fail)
  refine v_ret [(rb, _)] (outsA1 rfl rfl) (by repeat (first | exact List.nil_sublist _ | apply List.Sublist.cons_cons | fail)) ?_
  exact ⟨rfl, rfl, a', no', rfl, hr'⟩
theorem cnt_v {m : Int} (r : List Int) (h0 : 0 ≤ m) (h1 : m ≤ 256) (h2 : m ≤ r.length) : cntV 256 (some (vbytes m ++ r)) = m ∧ cntS 256 (some (vbytes m ++ r)) = some r := by
  simp only [cntV, cntS, dvk_vbytes r h0 (by omega)]
  have e : ¬ (256 < m ∨ (r.length : Int) < m) := by omega
  rw [if_neg e, if_neg e]
  exact ⟨rfl, rfl⟩
end Go.Proofs.YtnoiahlpmgbhfaaDoor
/-
  cmd (layer 8), the fourth part: what a writer puts down of a command.
-/
set_option linter.unusedSimpArgs false
set_option linter.unusedVariables false
namespace Go.Proofs.YtnoiahlpmgbhfaaDoor
open Go.Vx Go.ChangeShapes Go.WideShapes Go.ChangeAt Go.RowKit
attribute [local semireducible] PureOp in
theorem p_assert1 {ty u src : TypeId} {σ : Env} {x : Operand} {v : Value} {d : TypeDesc} [Ty Tryd.prog u d] (hd : (match d with | .interface _ => false | _ => true) = true) (hx : Env.ev σ x = some (.iface u v)) : PureOp Tryd.prog (.typeAssert x src u false) ty σ v := by
  intro dst pos af g ρ hρ w
  simp only [execOp, hρ _ _ hx, Instr.typeAssert, Sem.run_bind, run_under (t := u) (d := d), Result.andThen_ok]
  cases d <;> simp at hd ⊢
theorem wanted_s (G : GH) (kind : Int) (j : Nat) (hj : j < 6) : Con Tryd.prog 91 #[.agg (partL j).toArray, .int .i64 1, .int .i64 kind] G [] (Just (.bool (decide (hasOf j ≠ 4))) G) := by
  have qf := fields_s G kind
  apply Con.just
  refine v_enter Tryd.func91 rfl Tryd.ntmps91 rfl (fun B => ?_)
  obtain rfl | rfl | rfl | rfl | rfl | rfl : j = 0 ∨ j = 1 ∨ j = 2 ∨ j = 3 ∨ j = 4 ∨ j = 5 := by omega
  all_goals
    repeat' (first | apply v_seq | apply v_region | apply v_nil | (apply v_pure; (case hop => first | (apply p_move <;> rfl) | (apply p_eqs <;> rfl) | (apply p_nes <;> rfl) | (apply p_ne <;> rfl) | (apply p_assign <;> rfl) | (apply p_fieldAddrB <;> rfl) | (apply p_extract0 <;> rfl) | (apply p_extract1 <;> rfl)); (case hd => rfl)) | (apply v_condT; (case hc => rfl)) | (apply v_callJ (hs := qf); (case ha => rfl); (case hd => rfl)) | (apply v_read; (case hop => (apply r_load1; rfl; (apply Cell.own; (case h => (repeat (exact List.Mem.head _))); rfl))); (case hd => rfl)) | (apply v_box; (case hx => rfl); (case hz => rfl); (case hd => rfl); intro b))
  all_goals
    (refine v_ret [] (outsA1 rfl rfl) (by repeat (exact List.nil_sublist _)) ?_
     refine ⟨?_, rfl⟩
     simp [hasOf, dec_eq])
/-- What a part of a command takes in bytes. -/
def pbytes (c : Cm) (j : Nat) : List Int := if isNum j then vbytes (c.num j) else vbytes (c.txt j).size ++ sbytes (c.txt j)
theorem write_s {G : GH} {l : List Int} {sv : Value} (c : Cm) (hc : c.ok) (hk : c.key.size ≤ 1000) (hv : c.val.size ≤ 1000) (ho : c.old.size ≤ 1000) (wb cb j : Nat) (hj : j < 6) (hs : Sl G 1 (IntR .u8) sv l) (hl : l.length ≤ 100000) :
    Con Tryd.prog 122 #[.agg (partL j).toArray, .pointer (some ⟨wb, 0, none⟩), .pointer (some ⟨cb, 0, none⟩)] G [(wb, .cells [sv].toArray 66 (0, 0)), (cb, .cells c.cells.toArray 27 (0, 0))]
      (fun r G' μ' => ∃ v', μ' = [(wb, .cells [v'].toArray 66 (0, 0)), (cb, .cells c.cells.toArray 27 (0, 0))] ∧ Sl G' 1 (IntR .u8) v' (l ++ pbytes c j)) := by
  obtain ⟨hk1, hc1, hs1, hk2, hv2, ho2, hn1⟩ := hc
  simp [Lit.wf, IntKind.min, IntKind.max, IntKind.signed, IntKind.bits] at hk1 hc1 hs1 hn1
  refine v_enter Tryd.func122 rfl Tryd.ntmps122 rfl (fun B => ?_)
  obtain rfl | rfl | rfl | rfl | rfl | rfl : j = 0 ∨ j = 1 ∨ j = 2 ∨ j = 3 ∨ j = 4 ∨ j = 5 := by omega
  all_goals
    repeat' (first | apply v_seq | apply v_region | apply v_nil | apply v_skip | (apply v_pure; (case hop => first | (apply p_move <;> rfl) | (apply p_assign <;> rfl) | (apply p_fieldAddrB <;> rfl) | (apply p_nilCheck <;> rfl) | (apply p_extract0 <;> rfl) | (apply p_extract1 <;> rfl) | (apply p_assertOk <;> rfl) | (apply p_assertNo <;> rfl)); (case hd => rfl)) | (apply v_condT; (case hc => rfl)) | (apply v_condF; (case hc => rfl)) | (apply v_callFJ0 (hs := at1_s _ cb); (case hx => rfl); (case ha => rfl); (case hd => rfl)) | (apply v_callFJ0 (hs := at2_s _ cb); (case hx => rfl); (case ha => rfl); (case hd => rfl)) | (apply v_callFJ0 (hs := at3_s _ cb); (case hx => rfl); (case ha => rfl); (case hd => rfl)) | (apply v_callFJ0 (hs := at4_s _ cb); (case hx => rfl); (case ha => rfl); (case hd => rfl)) | (apply v_callFJ0 (hs := at5_s _ cb); (case hx => rfl); (case ha => rfl); (case hd => rfl)) | (apply v_callFJ0 (hs := at6_s _ cb); (case hx => rfl); (case ha => rfl); (case hd => rfl)) | (apply v_pure; (case hop => (apply p_assert1; (case hd => rfl); (case hx => rfl))); (case hd => rfl)) | (apply v_read; (case hop => (apply r_load1; rfl; (apply Cell.own; (case h => (repeat (first | exact List.Mem.head _ | apply List.Mem.tail))); rfl))); (case hd => rfl)) | (apply v_box; (case hx => rfl); (case hz => rfl); (case hd => rfl); intro b))
  · refine v_call (μ1 := [(wb, _)]) (μ2 := _) rfl (wnumber_s wb c.client hs (by omega) (by omega)) (PickA.perm (by repeat (first | exact PickA.here _ | apply PickA.cons))) rfl ?_
    rintro r G1 μ1 - ⟨v', rfl, hv'⟩
    repeat' (apply v_nil)
    refine v_ret [(wb, _), (cb, _)] (outsA0 rfl) (by repeat (first | exact List.Sublist.refl _ | apply List.Sublist.cons_cons | apply List.Sublist.cons)) ?_
    exact ⟨_, rfl, hv'⟩
  · refine v_call (μ1 := [(wb, _)]) (μ2 := _) rfl (wnumber_s wb c.seq hs (by omega) (by omega)) (PickA.perm (by repeat (first | exact PickA.here _ | apply PickA.cons))) rfl ?_
    rintro r G1 μ1 - ⟨v', rfl, hv'⟩
    repeat' (apply v_nil)
    refine v_ret [(wb, _), (cb, _)] (outsA0 rfl) (by repeat (first | exact List.Sublist.refl _ | apply List.Sublist.cons_cons | apply List.Sublist.cons)) ?_
    exact ⟨_, rfl, hv'⟩
  · refine v_call (μ1 := [(wb, _)]) (μ2 := _) rfl (wtext_s wb c.key hs hl (by omega)) (PickA.perm (by repeat (first | exact PickA.here _ | apply PickA.cons))) rfl ?_
    rintro r G1 μ1 - ⟨v', rfl, hv'⟩
    repeat' (apply v_nil)
    refine v_end [(wb, _), (cb, _)] (outsA0 rfl) (by repeat (first | exact List.Sublist.refl _ | apply List.Sublist.cons_cons | apply List.Sublist.cons)) ?_
    exact ⟨_, rfl, by rw [List.append_assoc] at hv'; exact hv'⟩
  · refine v_call (μ1 := [(wb, _)]) (μ2 := _) rfl (wtext_s wb c.old hs hl (by omega)) (PickA.perm (by repeat (first | exact PickA.here _ | apply PickA.cons))) rfl ?_
    rintro r G1 μ1 - ⟨v', rfl, hv'⟩
    repeat' (apply v_nil)
    refine v_end [(wb, _), (cb, _)] (outsA0 rfl) (by repeat (first | exact List.Sublist.refl _ | apply List.Sublist.cons_cons | apply List.Sublist.cons)) ?_
    exact ⟨_, rfl, by rw [List.append_assoc] at hv'; exact hv'⟩
  · refine v_call (μ1 := [(wb, _)]) (μ2 := _) rfl (wtext_s wb c.val hs hl (by omega)) (PickA.perm (by repeat (first | exact PickA.here _ | apply PickA.cons))) rfl ?_
    rintro r G1 μ1 - ⟨v', rfl, hv'⟩
    repeat' (apply v_nil)
    refine v_end [(wb, _), (cb, _)] (outsA0 rfl) (by repeat (first | exact List.Sublist.refl _ | apply List.Sublist.cons_cons | apply List.Sublist.cons)) ?_
    exact ⟨_, rfl, by rw [List.append_assoc] at hv'; exact hv'⟩
  · refine v_call (μ1 := [(wb, _)]) (μ2 := _) rfl (wnumber_s wb c.node hs (by omega) (by omega)) (PickA.perm (by repeat (first | exact PickA.here _ | apply PickA.cons))) rfl ?_
    rintro r G1 μ1 - ⟨v', rfl, hv'⟩
    repeat' (apply v_nil)
    refine v_ret [(wb, _), (cb, _)] (outsA0 rfl) (by repeat (first | exact List.Sublist.refl _ | apply List.Sublist.cons_cons | apply List.Sublist.cons)) ?_
    exact ⟨_, rfl, hv'⟩
theorem pbytes_len (c : Cm) (hk : c.key.size ≤ 1000) (hv : c.val.size ≤ 1000) (ho : c.old.size ≤ 1000) (j : Nat) : (pbytes c j).length ≤ 1011 := by
  unfold pbytes
  split
  · have := (vbytes_len (c.num j)).1
    omega
  · rw [List.length_append, sbytes_length]
    have := (vbytes_len ((c.txt j).size : Nat)).1
    have : (c.txt j).size ≤ 1000 := by unfold Cm.txt; split <;> assumption
    omega
end Go.Proofs.YtnoiahlpmgbhfaaDoor
/-
  cmd (layer 8), the sixth part: what a reader reads of a command.
-/
set_option linter.unusedSimpArgs false
set_option linter.unusedVariables false
namespace Go.Proofs.YtnoiahlpmgbhfaaDoor
open Go.Vx Go.ChangeShapes Go.WideShapes Go.ChangeAt Go.RowKit
/-- A part that is read. -/
def Cm.setP (c : Cm) (j : Nat) (s : Option (List Int)) : Cm := match j with
  | 0 => { c with client := numV 9223372036854775807 s }
  | 1 => { c with seq := numV 9223372036854775807 s }
  | 2 => { c with key := strL (rawB 1048576 s) }
  | 3 => { c with old := strL (rawB 1048576 s) }
  | 4 => { c with val := strL (rawB 1048576 s) }
  | _ => { c with node := numV 9223372036854775807 s }
def partS (j : Nat) (s : Option (List Int)) : Option (List Int) := if isNum j then numS 9223372036854775807 s else rawS 1048576 s
theorem read_s {G : GH} {l : List Int} {bv : Value} {s : Option (List Int)} (c : Cm) (rb cb a j : Nat) (no : Int) (hj : j < 6) (hs : Sl G 1 (IntR .u8) bv l) (hl : l.length ≤ 1048576) (hr : RdS l a no s) :
    Con Tryd.prog 92 #[.agg (partL j).toArray, .pointer (some ⟨rb, 0, none⟩), .pointer (some ⟨cb, 0, none⟩)] G [(rb, rdO bv a no), (cb, .cells c.cells.toArray 27 (0, 0))]
      (fun r G' μ' => ∃ a' no', μ' = [(rb, rdO bv (a' : Nat) no'), (cb, .cells (c.setP j s).cells.toArray 27 (0, 0))] ∧ RdS l a' no' (partS j s)) := by
  have qn := rdNumber_s rb a no 9223372036854775807 hs hl hr
  have qt := rdText_s rb a no 1048576 hs hl hr
  refine v_enter Tryd.func92 rfl Tryd.ntmps92 rfl (fun B => ?_)
  obtain rfl | rfl | rfl | rfl | rfl | rfl : j = 0 ∨ j = 1 ∨ j = 2 ∨ j = 3 ∨ j = 4 ∨ j = 5 := by omega
  all_goals
    (simp only [Cm.setP, partS, isNum, Nat.reduceBEq, Bool.or_self, Bool.or_true, Bool.true_or, Bool.or_false, Bool.false_or, if_true, if_false, reduceCtorEq, Bool.false_eq_true])
  all_goals
    repeat' (first | apply v_seq | apply v_region | apply v_nil | apply v_skip | (apply v_pure; (case hop => first | (apply p_move <;> rfl) | (apply p_assign <;> rfl) | (apply p_fieldAddrB <;> rfl) | (apply p_extract0 <;> rfl) | (apply p_extract1 <;> rfl) | (apply p_assertOk <;> rfl) | (apply p_assertNo <;> rfl)); (case hd => rfl)) | (apply v_condT; (case hc => rfl)) | (apply v_condF; (case hc => rfl)) | (apply v_callFJ0 (hs := at1_s _ cb); (case hx => rfl); (case ha => rfl); (case hd => rfl)) | (apply v_callFJ0 (hs := at2_s _ cb); (case hx => rfl); (case ha => rfl); (case hd => rfl)) | (apply v_callFJ0 (hs := at3_s _ cb); (case hx => rfl); (case ha => rfl); (case hd => rfl)) | (apply v_callFJ0 (hs := at4_s _ cb); (case hx => rfl); (case ha => rfl); (case hd => rfl)) | (apply v_callFJ0 (hs := at5_s _ cb); (case hx => rfl); (case ha => rfl); (case hd => rfl)) | (apply v_callFJ0 (hs := at6_s _ cb); (case hx => rfl); (case ha => rfl); (case hd => rfl)) | (apply v_read; (case hop => (apply r_load1; rfl; (apply Cell.own; (case h => (repeat (exact List.Mem.head _))); rfl))); (case hd => rfl)) | (apply v_box; (case hx => rfl); (case hz => rfl); (case hd => rfl); intro b))
  · refine v_call (μ1 := [(rb, _)]) (μ2 := _) rfl qn (PickA.perm (by repeat (first | exact PickA.here _ | apply PickA.cons))) rfl ?_
    rintro _ _ _ hle ⟨rfl, rfl, a', no', rfl, hr'⟩
    repeat' (first | apply v_nil | (apply v_pure; (case hop => (apply p_nilCheck <;> rfl)); (case hd => rfl)) | (apply v_store; (case hp => rfl); (case hx => rfl); (case hc => rfl); (case hsz => rfl); (case h1 => rfl); (case hb => (repeat (first | exact List.Mem.head _ | apply List.Mem.tail))); (case hfit => (exact Nat.le_of_ble_eq_true rfl)); (case hov => (((repeat (first | with_reducible exact ov_nil | apply ov_cons)); done))); (case hu => repeat (first | exact Upd.here _ _ | apply Upd.there))))
    refine v_ret [(rb, _), (cb, _)] (outsA0 rfl) (by repeat (first | exact List.Sublist.refl _ | apply List.Sublist.cons_cons | apply List.Sublist.cons)) ?_
    exact ⟨a', no', rfl, hr'⟩
  · refine v_call (μ1 := [(rb, _)]) (μ2 := _) rfl qn (PickA.perm (by repeat (first | exact PickA.here _ | apply PickA.cons))) rfl ?_
    rintro _ _ _ hle ⟨rfl, rfl, a', no', rfl, hr'⟩
    repeat' (first | apply v_nil | (apply v_pure; (case hop => (apply p_nilCheck <;> rfl)); (case hd => rfl)) | (apply v_store; (case hp => rfl); (case hx => rfl); (case hc => rfl); (case hsz => rfl); (case h1 => rfl); (case hb => (repeat (first | exact List.Mem.head _ | apply List.Mem.tail))); (case hfit => (exact Nat.le_of_ble_eq_true rfl)); (case hov => (((repeat (first | with_reducible exact ov_nil | apply ov_cons)); done))); (case hu => repeat (first | exact Upd.here _ _ | apply Upd.there))))
    refine v_ret [(rb, _), (cb, _)] (outsA0 rfl) (by repeat (first | exact List.Sublist.refl _ | apply List.Sublist.cons_cons | apply List.Sublist.cons)) ?_
    exact ⟨a', no', rfl, hr'⟩
  · refine d_start [(b, .cells (partL 2).toArray 113 (0, 0))] (by kernel_rfl) (by kernel_rfl) (by intro e he; (simp at he; simp [he])) ?_
    all_goals ((apply d_take 0; (case hi => rfl); (case hop => (apply PureOp.read; apply p_fieldAddrB <;> rfl)); (case hf => kernel_rfl); (case hr => kernel_rfl); (case hd => rfl)))
    all_goals ((apply d_take 1; (case hi => rfl); (case hop => first   | (apply r_loadNo; (case hx => rfl); (case h => (repeat (fail))); (case hd => (repeat (fail))); (case hn => rfl)) | (apply r_load1; rfl; (apply Cell.own; (case h => (repeat (exact List.Mem.head _))); rfl)) | (apply r_loadN; rfl; (apply CellsAt.own; (case h => (repeat (fail)))); rfl)); (case hf => kernel_rfl); (case hr => kernel_rfl); (case hd => rfl)))
    all_goals ((apply d_take 2; (case hi => rfl); (case hop => (apply PureOp.read; apply p_move <;> rfl)); (case hf => kernel_rfl); (case hr => kernel_rfl); (case hd => rfl)))
    all_goals ((apply d_take 5; (case hi => rfl); (case hop => (apply PureOp.read; apply p_move <;> rfl)); (case hf => kernel_rfl); (case hr => kernel_rfl); (case hd => rfl)))
    all_goals ((apply d_callJ0 3 (hs := (at3_s _ cb)); (case hi => rfl); (case hr => kernel_rfl); (case hx => rfl); (case ha => rfl); (case hd => rfl)))
    all_goals ((apply d_take 4; (case hi => rfl); (case hop => ((apply PureOp.read; apply p_assert1; (case hd => rfl); (case hx => rfl)))); (case hf => kernel_rfl); (case hr => kernel_rfl); (case hd => rfl)))
    all_goals (((apply d_call 6 (hs := qt); (case hi => rfl); (case hr => kernel_rfl);  (case ha => rfl); (case hp => exact PickA.perm (by repeat (first | exact PickA.here _ | apply PickA.cons))); (case hd => rfl); (case hν' => intro e he; simp at he; simp [he]); rintro _ G1 _ hle ⟨rfl, a', no', rfl, hr'⟩)))
    all_goals ((apply d_take 7; (case hi => rfl); (case hop => (apply PureOp.read; apply p_nilCheck <;> rfl)); (case hf => kernel_rfl); (case hr => kernel_rfl); (case hd => rfl)))
    all_goals ((apply d_store 8; (case hi => rfl); (case hr => kernel_rfl); (case hL => infer_instance); (case hp => rfl); (case hx => rfl); (case hc => rfl); (case hsz => rfl); (case h1 => rfl); (case hb => (repeat (first | exact List.Mem.head _ | apply List.Mem.tail))); (case hfit => (exact Nat.le_of_ble_eq_true rfl)); (case hov => (((repeat (first | with_reducible exact ov_nil | apply ov_cons)); done))); (case hu => repeat (first | exact Upd.here _ _ | apply Upd.there)); (case hν' => intro e he; (simp at he; simp [he]))))
    all_goals (apply d_done; (case hr => kernel_rfl))
    repeat' (fail)
    refine v_end [(rb, _), (cb, _)] (outsA0 rfl) (by repeat (first | exact List.Sublist.refl _ | apply List.Sublist.cons_cons | apply List.Sublist.cons)) ?_
    exact ⟨a', no', rfl, hr'⟩
  · refine d_start [(b, .cells (partL 3).toArray 113 (0, 0))] (by kernel_rfl) (by kernel_rfl) (by intro e he; (simp at he; simp [he])) ?_
    all_goals ((apply d_take 0; (case hi => rfl); (case hop => (apply PureOp.read; apply p_fieldAddrB <;> rfl)); (case hf => kernel_rfl); (case hr => kernel_rfl); (case hd => rfl)))
    all_goals ((apply d_take 1; (case hi => rfl); (case hop => first   | (apply r_loadNo; (case hx => rfl); (case h => (repeat (fail))); (case hd => (repeat (fail))); (case hn => rfl)) | (apply r_load1; rfl; (apply Cell.own; (case h => (repeat (exact List.Mem.head _))); rfl)) | (apply r_loadN; rfl; (apply CellsAt.own; (case h => (repeat (fail)))); rfl)); (case hf => kernel_rfl); (case hr => kernel_rfl); (case hd => rfl)))
    all_goals ((apply d_take 2; (case hi => rfl); (case hop => (apply PureOp.read; apply p_move <;> rfl)); (case hf => kernel_rfl); (case hr => kernel_rfl); (case hd => rfl)))
    all_goals ((apply d_take 5; (case hi => rfl); (case hop => (apply PureOp.read; apply p_move <;> rfl)); (case hf => kernel_rfl); (case hr => kernel_rfl); (case hd => rfl)))
    all_goals ((apply d_callJ0 3 (hs := (at4_s _ cb)); (case hi => rfl); (case hr => kernel_rfl); (case hx => rfl); (case ha => rfl); (case hd => rfl)))
    all_goals ((apply d_take 4; (case hi => rfl); (case hop => ((apply PureOp.read; apply p_assert1; (case hd => rfl); (case hx => rfl)))); (case hf => kernel_rfl); (case hr => kernel_rfl); (case hd => rfl)))
    all_goals (((apply d_call 6 (hs := qt); (case hi => rfl); (case hr => kernel_rfl);  (case ha => rfl); (case hp => exact PickA.perm (by repeat (first | exact PickA.here _ | apply PickA.cons))); (case hd => rfl); (case hν' => intro e he; simp at he; simp [he]); rintro _ G1 _ hle ⟨rfl, a', no', rfl, hr'⟩)))
    all_goals ((apply d_take 7; (case hi => rfl); (case hop => (apply PureOp.read; apply p_nilCheck <;> rfl)); (case hf => kernel_rfl); (case hr => kernel_rfl); (case hd => rfl)))
    all_goals ((apply d_store 8; (case hi => rfl); (case hr => kernel_rfl); (case hL => infer_instance); (case hp => rfl); (case hx => rfl); (case hc => rfl); (case hsz => rfl); (case h1 => rfl); (case hb => (repeat (first | exact List.Mem.head _ | apply List.Mem.tail))); (case hfit => (exact Nat.le_of_ble_eq_true rfl)); (case hov => (((repeat (first | with_reducible exact ov_nil | apply ov_cons)); done))); (case hu => repeat (first | exact Upd.here _ _ | apply Upd.there)); (case hν' => intro e he; (simp at he; simp [he]))))
    all_goals (apply d_done; (case hr => kernel_rfl))
    repeat' (fail)
    refine v_end [(rb, _), (cb, _)] (outsA0 rfl) (by repeat (first | exact List.Sublist.refl _ | apply List.Sublist.cons_cons | apply List.Sublist.cons)) ?_
    exact ⟨a', no', rfl, hr'⟩
  · refine d_start [(b, .cells (partL 4).toArray 113 (0, 0))] (by kernel_rfl) (by kernel_rfl) (by intro e he; (simp at he; simp [he])) ?_
    all_goals ((apply d_take 0; (case hi => rfl); (case hop => (apply PureOp.read; apply p_fieldAddrB <;> rfl)); (case hf => kernel_rfl); (case hr => kernel_rfl); (case hd => rfl)))
    all_goals ((apply d_take 1; (case hi => rfl); (case hop => first   | (apply r_loadNo; (case hx => rfl); (case h => (repeat (fail))); (case hd => (repeat (fail))); (case hn => rfl)) | (apply r_load1; rfl; (apply Cell.own; (case h => (repeat (exact List.Mem.head _))); rfl)) | (apply r_loadN; rfl; (apply CellsAt.own; (case h => (repeat (fail)))); rfl)); (case hf => kernel_rfl); (case hr => kernel_rfl); (case hd => rfl)))
    all_goals ((apply d_take 2; (case hi => rfl); (case hop => (apply PureOp.read; apply p_move <;> rfl)); (case hf => kernel_rfl); (case hr => kernel_rfl); (case hd => rfl)))
    all_goals ((apply d_take 5; (case hi => rfl); (case hop => (apply PureOp.read; apply p_move <;> rfl)); (case hf => kernel_rfl); (case hr => kernel_rfl); (case hd => rfl)))
    all_goals ((apply d_callJ0 3 (hs := (at5_s _ cb)); (case hi => rfl); (case hr => kernel_rfl); (case hx => rfl); (case ha => rfl); (case hd => rfl)))
    all_goals ((apply d_take 4; (case hi => rfl); (case hop => ((apply PureOp.read; apply p_assert1; (case hd => rfl); (case hx => rfl)))); (case hf => kernel_rfl); (case hr => kernel_rfl); (case hd => rfl)))
    all_goals (((apply d_call 6 (hs := qt); (case hi => rfl); (case hr => kernel_rfl);  (case ha => rfl); (case hp => exact PickA.perm (by repeat (first | exact PickA.here _ | apply PickA.cons))); (case hd => rfl); (case hν' => intro e he; simp at he; simp [he]); rintro _ G1 _ hle ⟨rfl, a', no', rfl, hr'⟩)))
    all_goals ((apply d_take 7; (case hi => rfl); (case hop => (apply PureOp.read; apply p_nilCheck <;> rfl)); (case hf => kernel_rfl); (case hr => kernel_rfl); (case hd => rfl)))
    all_goals ((apply d_store 8; (case hi => rfl); (case hr => kernel_rfl); (case hL => infer_instance); (case hp => rfl); (case hx => rfl); (case hc => rfl); (case hsz => rfl); (case h1 => rfl); (case hb => (repeat (first | exact List.Mem.head _ | apply List.Mem.tail))); (case hfit => (exact Nat.le_of_ble_eq_true rfl)); (case hov => (((repeat (first | with_reducible exact ov_nil | apply ov_cons)); done))); (case hu => repeat (first | exact Upd.here _ _ | apply Upd.there)); (case hν' => intro e he; (simp at he; simp [he]))))
    all_goals (apply d_done; (case hr => kernel_rfl))
    repeat' (fail)
    refine v_end [(rb, _), (cb, _)] (outsA0 rfl) (by repeat (first | exact List.Sublist.refl _ | apply List.Sublist.cons_cons | apply List.Sublist.cons)) ?_
    exact ⟨a', no', rfl, hr'⟩
  · refine v_call (μ1 := [(rb, _)]) (μ2 := _) rfl qn (PickA.perm (by repeat (first | exact PickA.here _ | apply PickA.cons))) rfl ?_
    rintro _ _ _ hle ⟨rfl, rfl, a', no', rfl, hr'⟩
    repeat' (first | apply v_nil | (apply v_pure; (case hop => (apply p_nilCheck <;> rfl)); (case hd => rfl)) | (apply v_store; (case hp => rfl); (case hx => rfl); (case hc => rfl); (case hsz => rfl); (case h1 => rfl); (case hb => (repeat (first | exact List.Mem.head _ | apply List.Mem.tail))); (case hfit => (exact Nat.le_of_ble_eq_true rfl)); (case hov => (((repeat (first | with_reducible exact ov_nil | apply ov_cons)); done))); (case hu => repeat (first | exact Upd.here _ _ | apply Upd.there))))
    refine v_ret [(rb, _), (cb, _)] (outsA0 rfl) (by repeat (first | exact List.Sublist.refl _ | apply List.Sublist.cons_cons | apply List.Sublist.cons)) ?_
    exact ⟨a', no', rfl, hr'⟩
end Go.Proofs.YtnoiahlpmgbhfaaDoor
/-
  cmd (layer 8), the eighth part: Put and Get in any version.
-/
set_option linter.unusedSimpArgs false
set_option linter.unusedVariables false
namespace Go.Proofs.YtnoiahlpmgbhfaaDoor
open Go.Vx Go.ChangeShapes Go.WideShapes Go.ChangeAt Go.RowKit
/-- Has a version's command of a kind that part? -/
def wantB (v kind : Int) (j : Nat) : Bool := if v = 1 then decide (hasOf j ≠ 4) else decide (band (cmdFields kind).1 (hasOf j) ≠ 0)
theorem wantedV_s (G : GH) (v kind : Int) (j : Nat) (hj : j < 6) : Con Tryd.prog 91 #[.agg (partL j).toArray, .int .i64 v, .int .i64 kind] G [] (Just (.bool (wantB v kind j)) G) := by
  have qf := fields_s G kind
  apply Con.just
  unfold wantB
  refine v_enter Tryd.func91 rfl Tryd.ntmps91 rfl (fun B => ?_)
  obtain rfl | rfl | rfl | rfl | rfl | rfl : j = 0 ∨ j = 1 ∨ j = 2 ∨ j = 3 ∨ j = 4 ∨ j = 5 := by omega
  all_goals
    repeat' (first | apply v_seq | apply v_region | apply v_nil | apply v_skip | (apply v_pure; (case hop => first | (apply p_move <;> rfl) | (apply p_nes <;> rfl) | (apply p_eq <;> rfl) | (apply p_ne <;> rfl) | (apply p_assign <;> rfl) | (apply p_fieldAddrB <;> rfl) | (apply p_extract0 <;> rfl) | (apply p_extract1 <;> rfl) | (apply p_and64 <;> rfl) | fail); (case hd => rfl)) | (apply v_cond; (case hc => rfl); all_goals (intro h; (try simp only [reduceCtorEq, dec_true, dec_false, decide_eq_true_eq, decide_eq_false_iff_not, Bool.not_eq_true', Bool.not_eq_false', Option.isNone_iff_eq_none, beq_true, beq_false, beq_iff_eq, beq_eq_false_iff_ne, ne_eq, decide_eq_decide, Bool.not_eq_true, Bool.not_eq_false, Decidable.not_not] at h); first | skip)) | (apply v_callJ (hs := qf); (case ha => rfl); (case hd => rfl)) | (apply v_read; (case hop => first | (apply r_load1; rfl; (apply Cell.own; (case h => (repeat (first | exact List.Mem.head _ | fail))); rfl)) | fail); (case hd => rfl)) | (apply v_box; (case hx => rfl); (case hz => rfl); (case hd => rfl); intro b) | fail)
  all_goals
    (refine v_ret [] (outsA1 rfl rfl) (by repeat (first | exact List.nil_sublist _ | fail)) ?_
     refine ⟨?_, rfl⟩
     simp [hasOf, dec_eq, *])
/-- The bytes of a command's parts that are wanted, one after the other. -/
def putW (w : Nat → Bool) (c : Cm) : Nat → List Int
  | 0 => []
  | k + 1 => putW w c k ++ (if w k then pbytes c k else [])
theorem putW_len (w : Nat → Bool) (c : Cm) (hk : c.key.size ≤ 1000) (hv : c.val.size ≤ 1000) (ho : c.old.size ≤ 1000) : ∀ k, (putW w c k).length ≤ 1011 * k
  | 0 => by simp [putW]
  | k + 1 => by
    rw [putW, List.length_append]
    have h1 := putW_len w c hk hv ho k
    have h2 := pbytes_len c hk hv ho k
    split
    · omega
    · simp; omega
theorem cputV_s {G : GH} {l : List Int} {sv : Value} (v : Int) (c : Cm) (hc : c.ok) (hk : c.key.size ≤ 1000) (hv : c.val.size ≤ 1000) (ho : c.old.size ≤ 1000) (wb : Nat) (hs : Sl G 1 (IntR .u8) sv l) (hl : l.length ≤ 90000) :
    Con Tryd.prog 76 #[.pointer (some ⟨wb, 0, none⟩), .int .i64 v, .agg c.cells.toArray] G [(wb, .cells [sv].toArray 66 (0, 0))]
      (fun r G' μ' => ∃ v', μ' = [(wb, .cells [v'].toArray 66 (0, 0))] ∧ Sl G' 1 (IntR .u8) v' (l ++ vbytes c.kind ++ putW (wantB v c.kind) c 6)) := by
  have hkw := hc.1
  simp [Lit.wf, IntKind.min, IntKind.max, IntKind.signed, IntKind.bits] at hkw
  refine v_enter Tryd.func76 rfl Tryd.ntmps76 rfl (fun B => ?_)
  repeat' (first | apply v_seq | apply v_region | apply v_nil | (apply v_pure; (case hop => first | (apply p_move <;> rfl) | (apply p_fieldAddrB <;> rfl) | fail); (case hd => rfl)) | (apply v_box (zs := c.cells); (case hx => rfl); (case hz => rfl); (case hd => rfl); intro cb) | (apply v_read; (case hop => first | (apply r_load1; rfl; (apply Cell.own; (case h => (repeat (first | exact List.Mem.head _ | fail))); rfl)) | fail); (case hd => rfl)) | fail)
  refine v_call (μ1 := [(wb, _)]) (μ2 := _) rfl (wnumber_s wb c.kind hs (by omega) (by omega)) (PickA.perm (by repeat (first | exact PickA.last | apply PickA.cons | fail))) rfl ?_
  rintro r0 G0 μ0 - ⟨v0, rfl, hv0⟩
  repeat' (first | apply v_seq | apply v_region | apply v_nil | fail)
  refine v_call (μ1 := []) (μ2 := _) rfl (parts_s G0) (List.Perm.refl _) rfl ?_
  rintro r G' μ1 - ⟨rfl, pb, rfl, rfl⟩
  refine v_frz [(pb, _)] (by repeat (first | exact PickA.here _ | fail)) ?_
  intro G1 hle1 hG1
  have hpb := hG1 pb _ (List.Mem.head _)
  have hv1 := hv0.mono hle1
  have hl1 : (l ++ vbytes c.kind).length ≤ 90011 := by
    rw [List.length_append]
    have := (vbytes_len c.kind).1
    omega
  generalize l ++ vbytes c.kind = l1 at *
  repeat' (first | apply v_nil | apply v_block | (apply v_pure; (case hop => first | (apply p_move <;> rfl) | (apply p_lenSlice <;> rfl) | fail); (case hd => rfl)) | fail)
  refine v_loop [14, 13, 12, 0, 1, 5] (fun us G' μ' => GH.le G1 G' ∧ ∃ (k : Nat) (w : Value), k ≤ 6 ∧ us = [Value.int .i64 (k : Int), .int .i64 6, .slice (some ⟨pb, 0, none⟩) 6 6, .pointer (some ⟨wb, 0, none⟩), .int .i64 v, .pointer (some ⟨cb, 0, none⟩)] ∧ μ' = [(wb, .cells [w].toArray 66 (0, 0)), (cb, .cells c.cells.toArray 27 (0, 0))] ∧ Sl G' 1 (IntR .u8) w (l1 ++ putW (wantB v c.kind) c k)) (fun us => 7 - (headI us).toNat) rfl ⟨GH.le_refl _, 0, _, by omega, rfl, rfl, by simpa [putW] using hv1⟩ ?_
  rintro us G2 μ' ⟨hle2, k, w, hk6, rfl, rfl, hw⟩
  by_cases hlt : k < 6
  · have hpk := partsG (hle2 _ _ hpb) hlt
    have hwt := wantedV_s G2 v c.kind k hlt
    have hlen : (l1 ++ putW (wantB v c.kind) c k).length ≤ 100000 := by
      rw [List.length_append]
      have := putW_len (wantB v c.kind) c hk hv ho k
      omega
    have hwr := write_s c hc hk hv ho wb cb k hlt hw hlen
    have e1 : putW (wantB v c.kind) c (k + 1) = putW (wantB v c.kind) c k ++ (if wantB v c.kind k then pbytes c k else []) := rfl
    generalize pbytes c k = pb1 at *
    have hbl : ∃ L, L = partL k := ⟨_, rfl⟩
    obtain ⟨L, hL⟩ := hbl
    cases hwb : wantB v c.kind k
    all_goals
      rw [hwb] at hwt e1
      obtain rfl | rfl | rfl | rfl | rfl | rfl : k = 0 ∨ k = 1 ∨ k = 2 ∨ k = 3 ∨ k = 4 ∨ k = 5 := by omega
    all_goals
      (simp only [if_true, if_false, List.append_nil, Bool.false_eq_true] at e1
       repeat' (first | apply v_seq | apply v_region | apply v_nil | apply v_skip | apply v_block | apply v_blk | (apply v_pure; (case hop => first | (apply p_move <;> rfl) | (apply p_lt <;> rfl) | (apply p_fieldAddrB <;> rfl) | (apply p_add; (case hx => rfl); (case hy => rfl); (case h => omega)) | (apply p_indexAddr; (case hx => rfl); (case hi => rfl); (case h0 => omega); (case h => omega)) | fail); (case hd => rfl)) | (apply v_condT; (case hc => rfl)) | (apply v_condF; (case hc => rfl)) | (apply v_cond; (case hc => rfl); all_goals (intro h; (try simp only [reduceCtorEq, dec_true, dec_false, decide_eq_true_eq, decide_eq_false_iff_not, Bool.not_eq_true', Bool.not_eq_false', Option.isNone_iff_eq_none, beq_true, beq_false, beq_iff_eq, beq_eq_false_iff_ne, ne_eq, decide_eq_decide, Bool.not_eq_true, Bool.not_eq_false, Decidable.not_not] at h); first | (exfalso; omega) | skip)) | (apply v_read; (case hop => (apply r_loadN; rfl; exact CellsAt.frozen hpk; rfl)); (case hd => rfl)) | (apply v_callJ (hs := hwt); (case ha => rfl); (case hd => rfl)) | (apply v_read; (case hop => first | (apply r_loadNo; (case hx => rfl); (case h => (repeat (first | exact List.Mem.head _ | fail))); (case hd => (repeat (first | with_reducible exact dt_nil | apply dt_here | fail))); (case hn => rfl)) | (apply r_load1; rfl; (apply Cell.own; (case h => (repeat (first | exact List.Mem.head _ | apply List.Mem.tail | fail))); rfl)) | fail); (case hd => rfl)) | (apply v_alloc; (case hz => rfl); (case hd => rfl); intro b) | (apply v_store; (case hp => rfl); (case hx => rfl); (case hc => rfl); (case hsz => rfl); (case h1 => rfl); (case hb => (repeat (first | exact List.Mem.head _ | fail))); (case hfit => first | exact Nat.le_of_ble_eq_true rfl | fail); (case hov => (first | ((repeat (first | with_reducible exact ov_nil | apply ov_cons | fail)); done) | fail)); (case hu => repeat (first | exact Upd.here _ _ | fail))) | fail))
    all_goals first
      | (refine v_call (μ1 := [(wb, _), (cb, _)]) (μ2 := _) rfl hwr (PickA.perm (by repeat (first | exact PickA.last | apply PickA.cons | fail))) rfl ?_
         rintro r3 G3 μ3 hle3 ⟨w3, rfl, hw3⟩
         repeat' (first | apply v_region | apply v_nil | apply v_blk | (apply v_pure; (case hop => first | (apply p_move <;> rfl) | (apply p_add; (case hx => rfl); (case hy => rfl); (case h => omega)) | fail); (case hd => rfl)) | fail)
         refine v_only [(wb, _), (cb, _)] (by repeat (first | exact PickA.here _ | fail)) ?_
         first
           | exact v_again rfl ⟨fun b o h => hle3 b o (hle2 b o h), 0 + 1, w3, by omega, rfl, rfl, by rw [e1, ← List.append_assoc]; exact hw3⟩ (by simp [headI])
           | exact v_again rfl ⟨fun b o h => hle3 b o (hle2 b o h), 1 + 1, w3, by omega, rfl, rfl, by rw [e1, ← List.append_assoc]; exact hw3⟩ (by simp [headI])
           | exact v_again rfl ⟨fun b o h => hle3 b o (hle2 b o h), 2 + 1, w3, by omega, rfl, rfl, by rw [e1, ← List.append_assoc]; exact hw3⟩ (by simp [headI])
           | exact v_again rfl ⟨fun b o h => hle3 b o (hle2 b o h), 3 + 1, w3, by omega, rfl, rfl, by rw [e1, ← List.append_assoc]; exact hw3⟩ (by simp [headI])
           | exact v_again rfl ⟨fun b o h => hle3 b o (hle2 b o h), 4 + 1, w3, by omega, rfl, rfl, by rw [e1, ← List.append_assoc]; exact hw3⟩ (by simp [headI])
           | exact v_again rfl ⟨fun b o h => hle3 b o (hle2 b o h), 5 + 1, w3, by omega, rfl, rfl, by rw [e1, ← List.append_assoc]; exact hw3⟩ (by simp [headI]))
      | (refine v_only [(wb, _), (cb, _)] (by repeat (first | exact PickA.last | apply PickA.cons | fail)) ?_
         first
           | exact v_again rfl ⟨hle2, 0 + 1, w, by omega, rfl, rfl, by rw [e1]; exact hw⟩ (by simp [headI])
           | exact v_again rfl ⟨hle2, 1 + 1, w, by omega, rfl, rfl, by rw [e1]; exact hw⟩ (by simp [headI])
           | exact v_again rfl ⟨hle2, 2 + 1, w, by omega, rfl, rfl, by rw [e1]; exact hw⟩ (by simp [headI])
           | exact v_again rfl ⟨hle2, 3 + 1, w, by omega, rfl, rfl, by rw [e1]; exact hw⟩ (by simp [headI])
           | exact v_again rfl ⟨hle2, 4 + 1, w, by omega, rfl, rfl, by rw [e1]; exact hw⟩ (by simp [headI])
           | exact v_again rfl ⟨hle2, 5 + 1, w, by omega, rfl, rfl, by rw [e1]; exact hw⟩ (by simp [headI]))
  · obtain rfl : k = 6 := by omega
    repeat' (first | apply v_seq | apply v_region | apply v_nil | (apply v_exit; (case hp => rfl)) | (apply v_pure; (case hop => first | (apply p_lt <;> rfl) | fail); (case hd => rfl)) | (apply v_cond; (case hc => rfl); all_goals (intro h; (try simp only [reduceCtorEq, dec_true, dec_false, decide_eq_true_eq, decide_eq_false_iff_not, Bool.not_eq_true', Bool.not_eq_false', Option.isNone_iff_eq_none, beq_true, beq_false, beq_iff_eq, beq_eq_false_iff_ne, ne_eq, decide_eq_decide, Bool.not_eq_true, Bool.not_eq_false, Decidable.not_not] at h); first | (exfalso; omega) | skip)) | fail)
    refine v_end [(wb, _)] (outsA0 rfl) (by repeat (first | exact List.nil_sublist _ | apply List.Sublist.cons_cons | fail)) ?_
    exact ⟨_, rfl, hw⟩
/-- In version 1. -/
def putL (c : Cm) (k : Nat) : List Int := putW (wantB 1 c.kind) c k
theorem putL_len (c : Cm) (hk : c.key.size ≤ 1000) (hv : c.val.size ≤ 1000) (ho : c.old.size ≤ 1000) (k : Nat) : (putL c k).length ≤ 1011 * k := putW_len _ c hk hv ho k
theorem cput_s {G : GH} {l : List Int} {sv : Value} (c : Cm) (hc : c.ok) (hk : c.key.size ≤ 1000) (hv : c.val.size ≤ 1000) (ho : c.old.size ≤ 1000) (wb : Nat) (hs : Sl G 1 (IntR .u8) sv l) (hl : l.length ≤ 1000) :
    Con Tryd.prog 76 #[.pointer (some ⟨wb, 0, none⟩), .int .i64 1, .agg c.cells.toArray] G [(wb, .cells [sv].toArray 66 (0, 0))]
      (fun r G' μ' => ∃ v', μ' = [(wb, .cells [v'].toArray 66 (0, 0))] ∧ Sl G' 1 (IntR .u8) v' (l ++ vbytes c.kind ++ putL c 6)) := cputV_s 1 c hc hk hv ho wb hs (by omega)
end Go.Proofs.YtnoiahlpmgbhfaaDoor
/-
  cmd (layer 8), the ninth part: Get in any version; what is put leads back, and what is got was put.
-/
set_option linter.unusedSimpArgs false
set_option linter.unusedVariables false
namespace Go.Proofs.YtnoiahlpmgbhfaaDoor
open Go.Vx Go.ChangeShapes Go.WideShapes Go.ChangeAt Go.RowKit
def zeroC : Cm := ⟨0, 0, 0, .empty, .empty, .empty, 0⟩
theorem setP_kind (c : Cm) (j : Nat) (s : Option (List Int)) : (c.setP j s).kind = c.kind := by unfold Cm.setP; split <;> rfl
/-- What is read of a command's first k parts, of those that are wanted. -/
def getW (w : Nat → Bool) (s : Option (List Int)) : Nat → Cm × Option (List Int)
  | 0 => ({ zeroC with kind := numV 9223372036854775807 s }, numS 9223372036854775807 s)
  | k + 1 => if w k then ((getW w s k).1.setP k (getW w s k).2, partS k (getW w s k).2) else getW w s k
theorem getW_kind (w : Nat → Bool) (s : Option (List Int)) : ∀ k, (getW w s k).1.kind = numV 9223372036854775807 s
  | 0 => rfl
  | k + 1 => by
    rw [getW]
    split
    · rw [setP_kind]; exact getW_kind w s k
    · exact getW_kind w s k
theorem cgetV_s {G : GH} {l : List Int} {bv : Value} {s : Option (List Int)} (v : Int) (rb a : Nat) (no : Int) (hs : Sl G 1 (IntR .u8) bv l) (hl : l.length ≤ 1048576) (hr : RdS l a no s) :
    Con Tryd.prog 53 #[.pointer (some ⟨rb, 0, none⟩), .int .i64 v] G [(rb, rdO bv a no)]
      (fun r G' μ' => r = .agg (getW (wantB v (nV s)) s 6).1.cells.toArray ∧ ∃ a' no', μ' = [(rb, rdO bv (a' : Nat) no')] ∧ RdS l a' no' (getW (wantB v (nV s)) s 6).2) := by
  have qn := rdNumber_s rb a no 9223372036854775807 hs hl hr
  have hk0 := getW_kind (wantB v (nV s)) s
  have e0 : getW (wantB v (nV s)) s 0 = ({ zeroC with kind := numV 9223372036854775807 s }, numS 9223372036854775807 s) := rfl
  unfold nV at *
  generalize numV 9223372036854775807 s = kd at *
  generalize hw : wantB v kd = wf at *
  refine v_enter Tryd.func53 rfl Tryd.ntmps53 rfl (fun B => ?_)
  repeat' (first | apply v_seq | apply v_region | apply v_nil | (apply v_pure; (case hop => (apply p_move <;> rfl)); (case hd => rfl)) | (apply v_alloc; (case hz => rfl); (case hd => rfl); intro b))
  rename Nat => ob
  refine v_call (μ1 := [(rb, _)]) (μ2 := _) rfl qn (PickA.perm (by repeat (first | exact PickA.last | apply PickA.cons))) rfl ?_
  rintro _ _ _ hle0 ⟨rfl, rfl, a0, no0, rfl, hr0⟩
  repeat' (first | apply v_seq | apply v_region | apply v_nil | (apply v_pure; (case hop => (apply p_build; (case hz => rfl); (case hv => (simp only [List.map_cons, List.map_nil]; repeat (first | with_reducible exact evs_nil | (apply evs_cons; (case h1 => rfl))))); (case hb => (apply bldL; repeat (first | exact bld_nil | (apply bld_cons; (case hpf => rfl); (case hc => rfl); (case hs => rfl); (case hl => rfl); (case ho => (((repeat (first | with_reducible exact ov_nil | apply ov_cons)); done))))))))); (case hd => rfl)) | (apply v_alloc; (case hz => rfl); (case hd => rfl); intro b) | (apply v_store; (case hp => rfl); (case hx => rfl); (case hc => rfl); (case hsz => rfl); (case h1 => rfl); (case hb => (repeat (exact List.Mem.head _))); (case hfit => (exact Nat.le_of_ble_eq_true rfl)); (case hov => (((repeat (first | with_reducible exact ov_nil | apply ov_cons)); done))); (case hu => repeat (exact Upd.here _ _))))
  rename Nat => cb
  refine v_call (μ1 := []) (μ2 := _) rfl (parts_s _) (List.Perm.refl _) rfl ?_
  rintro r G' μ1 - ⟨rfl, pb, rfl, rfl⟩
  refine v_frz [(pb, _)] (by repeat (exact PickA.here _)) ?_
  intro G1 hle1 hG1
  have hpb := hG1 pb _ (List.Mem.head _)
  repeat' (first | apply v_nil | apply v_block | (apply v_pure; (case hop => first | (apply p_move <;> rfl) | (apply p_lenSlice <;> rfl)); (case hd => rfl)))
  refine v_perm (ν := [(rb, rdO bv a0 no0), (cb, .cells ({ zeroC with kind := kd } : Cm).cells.toArray 27 (0, 0)), (ob, .cells zeroC.cells.toArray 27 (0, 0))]) (by apply perm_of_count; intro p; simp only [List.countP_append, List.countP_cons, List.countP_nil, Nat.zero_add, Nat.add_zero]; try ac_rfl) ?_
  refine v_loop [13, 12, 11, 0, 1, 5, 4] (fun us G' μ' => GH.le G1 G' ∧ ∃ (k a' : Nat) (no' : Int), k ≤ 6 ∧ us = [Value.int .i64 (k : Int), .int .i64 6, .slice (some ⟨pb, 0, none⟩) 6 6, .pointer (some ⟨rb, 0, none⟩), .int .i64 v, .pointer (some ⟨cb, 0, none⟩), .pointer (some ⟨ob, 0, none⟩)] ∧ μ' = [(rb, rdO bv a' no'), (cb, .cells (getW wf s k).1.cells.toArray 27 (0, 0)), (ob, .cells zeroC.cells.toArray 27 (0, 0))] ∧ RdS l a' no' (getW wf s k).2) (fun us => 7 - (headI us).toNat) rfl ⟨GH.le_refl _, 0, a0, no0, by omega, rfl, by rw [e0], by rw [e0]; exact hr0⟩ ?_
  rintro us G2 μ' ⟨hle2, k, a2, no2, hk6, rfl, rfl, hr2⟩
  by_cases hlt : k < 6
  · have hpk := partsG (hle2 _ _ hpb) hlt
    have hwt := wantedV_s G2 v kd k hlt
    rw [hw] at hwt
    have hrd := read_s (getW wf s k).1 rb cb a2 k no2 hlt ((hs.mono hle1).mono hle2) hl hr2
    have e1 : getW wf s (k + 1) = if wf k then ((getW wf s k).1.setP k (getW wf s k).2, partS k (getW wf s k).2) else getW wf s k := rfl
    have ek := hk0 k
    generalize getW wf s k = gk at *
    obtain ⟨gc, gs⟩ := gk
    simp only at ek
    subst ek
    cases hwb : wf k
    all_goals
      rw [hwb] at hwt e1
      obtain rfl | rfl | rfl | rfl | rfl | rfl : k = 0 ∨ k = 1 ∨ k = 2 ∨ k = 3 ∨ k = 4 ∨ k = 5 := by omega
    all_goals
      (simp only [if_true, if_false, Bool.false_eq_true] at e1
       repeat' (first | apply v_seq | apply v_region | apply v_nil | apply v_skip | apply v_block | apply v_blk | (apply v_pure; (case hop => first | (apply p_move <;> rfl) | (apply p_lt <;> rfl) | (apply p_fieldAddrB <;> rfl) | (apply p_add; (case hx => rfl); (case hy => rfl); (case h => omega)) | (apply p_indexAddr; (case hx => rfl); (case hi => rfl); (case h0 => omega); (case h => omega))); (case hd => rfl)) | (apply v_condT; (case hc => rfl)) | (apply v_condF; (case hc => rfl)) | (apply v_cond; (case hc => rfl); all_goals (intro h; (try simp only [reduceCtorEq, dec_true, dec_false, decide_eq_true_eq, decide_eq_false_iff_not, Bool.not_eq_true', Bool.not_eq_false', Option.isNone_iff_eq_none, beq_true, beq_false, beq_iff_eq, beq_eq_false_iff_ne, ne_eq, decide_eq_decide, Bool.not_eq_true, Bool.not_eq_false, Decidable.not_not] at h); first | (exfalso; omega) | skip)) | (apply v_read; (case hop => (apply r_loadN; rfl; exact CellsAt.frozen hpk; rfl)); (case hd => rfl)) | (apply v_callJ (hs := hwt); (case ha => rfl); (case hd => rfl)) | (apply v_read; (case hop => first | (apply r_loadNo; (case hx => rfl); (case h => (repeat (exact List.Mem.head _))); (case hd => (repeat (first | with_reducible exact dt_nil | apply dt_here))); (case hn => rfl)) | (apply r_load1; rfl; (apply Cell.own; (case h => (repeat (first | exact List.Mem.head _ | apply List.Mem.tail))); rfl))); (case hd => rfl)) | (apply v_alloc; (case hz => rfl); (case hd => rfl); intro b) | (apply v_store; (case hp => rfl); (case hx => rfl); (case hc => rfl); (case hsz => rfl); (case h1 => rfl); (case hb => (repeat (exact List.Mem.head _))); (case hfit => (exact Nat.le_of_ble_eq_true rfl)); (case hov => (((repeat (first | with_reducible exact ov_nil | apply ov_cons)); done))); (case hu => repeat (exact Upd.here _ _)))))
    all_goals first
      | (refine v_call (μ1 := [(rb, _), (cb, _)]) (μ2 := _) rfl hrd (PickA.perm (by repeat (first | exact PickA.last | exact PickA.here _ | apply PickA.cons))) rfl ?_
         rintro r3 G3 _ hle3 ⟨a3, no3, rfl, hr3⟩
         repeat' (first | apply v_region | apply v_nil | apply v_blk | (apply v_pure; (case hop => first | (apply p_move <;> rfl) | (apply p_add; (case hx => rfl); (case hy => rfl); (case h => omega))); (case hd => rfl)))
         refine v_drop (ν := [(rb, _), (cb, _), (ob, _)]) (by repeat (first | exact List.Sublist.refl _ | apply List.Sublist.cons_cons | apply List.Sublist.cons)) ?_
         first
           | exact v_again rfl ⟨fun b o h => hle3 b o (hle2 b o h), 0 + 1, a3, no3, by omega, rfl, by rw [e1], by rw [e1]; exact hr3⟩ (by simp [headI])
           | exact v_again rfl ⟨fun b o h => hle3 b o (hle2 b o h), 1 + 1, a3, no3, by omega, rfl, by rw [e1], by rw [e1]; exact hr3⟩ (by simp [headI])
           | exact v_again rfl ⟨fun b o h => hle3 b o (hle2 b o h), 2 + 1, a3, no3, by omega, rfl, by rw [e1], by rw [e1]; exact hr3⟩ (by simp [headI])
           | exact v_again rfl ⟨fun b o h => hle3 b o (hle2 b o h), 3 + 1, a3, no3, by omega, rfl, by rw [e1], by rw [e1]; exact hr3⟩ (by simp [headI])
           | exact v_again rfl ⟨fun b o h => hle3 b o (hle2 b o h), 4 + 1, a3, no3, by omega, rfl, by rw [e1], by rw [e1]; exact hr3⟩ (by simp [headI])
           | exact v_again rfl ⟨fun b o h => hle3 b o (hle2 b o h), 5 + 1, a3, no3, by omega, rfl, by rw [e1], by rw [e1]; exact hr3⟩ (by simp [headI]))
      | (refine v_drop (ν := [(rb, _), (cb, _), (ob, _)]) (by repeat (first | exact List.Sublist.refl _ | apply List.Sublist.cons)) ?_
         first
           | exact v_again rfl ⟨hle2, 0 + 1, a2, no2, by omega, rfl, by rw [e1], by rw [e1]; exact hr2⟩ (by simp [headI])
           | exact v_again rfl ⟨hle2, 1 + 1, a2, no2, by omega, rfl, by rw [e1], by rw [e1]; exact hr2⟩ (by simp [headI])
           | exact v_again rfl ⟨hle2, 2 + 1, a2, no2, by omega, rfl, by rw [e1], by rw [e1]; exact hr2⟩ (by simp [headI])
           | exact v_again rfl ⟨hle2, 3 + 1, a2, no2, by omega, rfl, by rw [e1], by rw [e1]; exact hr2⟩ (by simp [headI])
           | exact v_again rfl ⟨hle2, 4 + 1, a2, no2, by omega, rfl, by rw [e1], by rw [e1]; exact hr2⟩ (by simp [headI])
           | exact v_again rfl ⟨hle2, 5 + 1, a2, no2, by omega, rfl, by rw [e1], by rw [e1]; exact hr2⟩ (by simp [headI]))
  · obtain rfl : k = 6 := by omega
    repeat' (first | apply v_seq | apply v_region | apply v_nil | (apply v_exit; (case hp => rfl)) | (apply v_pure; (case hop => (apply p_lt <;> rfl)); (case hd => rfl)) | (apply v_cond; (case hc => rfl); all_goals (intro h; (try simp only [reduceCtorEq, dec_true, dec_false, decide_eq_true_eq, decide_eq_false_iff_not, Bool.not_eq_true', Bool.not_eq_false', Option.isNone_iff_eq_none, beq_true, beq_false, beq_iff_eq, beq_eq_false_iff_ne, ne_eq, decide_eq_decide, Bool.not_eq_true, Bool.not_eq_false, Decidable.not_not] at h); first | (exfalso; omega) | skip)) | (apply v_read; (case hop => (apply r_loadNo; (case hx => rfl); (case h => (repeat (first | exact List.Mem.head _ | apply List.Mem.tail))); (case hd => (repeat (first | with_reducible exact dt_nil | apply dt_here))); (case hn => rfl))); (case hd => rfl)) | (apply v_store; (case hp => rfl); (case hx => rfl); (case hc => rfl); (case hsz => rfl); (case h1 => rfl); (case hb => (repeat (first | exact List.Mem.head _ | apply List.Mem.tail))); (case hfit => (exact Nat.le_of_ble_eq_true rfl)); (case hov => (((repeat (first | with_reducible exact ov_nil | apply ov_cons)); done))); (case hu => repeat (first | exact Upd.here _ _ | apply Upd.there))))
    refine v_retM [(rb, _)] (outsM_cell (vs := (getW wf s 6).1.cells) (e := 27) rfl rfl ?_ rfl) (by repeat (first | exact List.nil_sublist _ | apply List.Sublist.cons_cons)) ?_
    · exact .tail _ (.tail _ (.head _))
    · exact ⟨rfl, a2, no2, rfl, hr2⟩
/-- In version 1. -/
abbrev getK (s : Option (List Int)) (k : Nat) : Cm × Option (List Int) := getW (wantB 1 (nV s)) s k
end Go.Proofs.YtnoiahlpmgbhfaaDoor
/-
  cmd (layer 8), the tenth part, in plain Lean: what is put of a command leads back to it; what is got was put.
-/
set_option linter.unusedSimpArgs false
set_option linter.unusedVariables false
namespace Go.Proofs.YtnoiahlpmgbhfaaDoor
open Go.Vx Go.ChangeShapes Go.WideShapes Go.ChangeAt Go.RowKit
theorem partS_b {s : Option (List Int)} (h : byteS s) (j : Nat) : byteS (partS j s) := by
  unfold partS
  split
  · exact numS_b h _
  · exact rawS_b h _
theorem setP_ok {c : Cm} (hc : c.ok) {s : Option (List Int)} (h : byteS s) (j : Nat) : (c.setP j s).ok := by
  obtain ⟨h1, h2, h3, h4, h5, h6, h7⟩ := hc
  have hn := wf64 (numV_b h 9223372036854775807)
  have ht := txt_len s
  unfold Cm.setP
  split <;> exact ⟨by assumption, by assumption, by assumption, by assumption, by assumption, by assumption, by assumption⟩
theorem zeroC_ok : zeroC.ok := ⟨by decide, by decide, by decide, by decide, by decide, by decide, by decide⟩
theorem getW_ok (w : Nat → Bool) {s : Option (List Int)} (h : byteS s) : ∀ k, (getW w s k).1.ok ∧ byteS (getW w s k).2
  | 0 => ⟨⟨wf64 (numV_b h _), zeroC_ok.2⟩, numS_b h _⟩
  | k + 1 => by
    obtain ⟨h1, h2⟩ := getW_ok w h k
    rw [getW]
    split
    · exact ⟨setP_ok h1 h2 k, partS_b h2 k⟩
    · exact ⟨h1, h2⟩
/-- The sizes of the texts that are read. -/
theorem setP_sz {c : Cm} {n : Nat} (hc : c.key.size ≤ n ∧ c.val.size ≤ n ∧ c.old.size ≤ n) {s : Option (List Int)} (h : (rawB 1048576 s).length ≤ n) (j : Nat) : (c.setP j s).key.size ≤ n ∧ (c.setP j s).val.size ≤ n ∧ (c.setP j s).old.size ≤ n := by
  obtain ⟨h1, h2, h3⟩ := hc
  rw [← strL_size] at h
  unfold Cm.setP
  split <;> exact ⟨by assumption, by assumption, by assumption⟩
theorem part_num {c : Cm} {j : Nat} (hj : isNum j = true) (h0 : 0 ≤ c.num j) (h1 : c.num j ≤ 9223372036854775807) (r : List Int) : partS j (some (pbytes c j ++ r)) = some r ∧ nV (some (pbytes c j ++ r)) = c.num j := by
  have := num_v r h0 h1
  unfold partS pbytes
  rw [if_pos hj, if_pos hj]
  exact ⟨this.2, this.1⟩
theorem part_txt {c : Cm} {j : Nat} (hj : isNum j = false) (h1 : (c.txt j).size ≤ 1000) (r : List Int) : partS j (some (pbytes c j ++ r)) = some r ∧ strL (rawB 1048576 (some (pbytes c j ++ r))) = c.txt j := by
  have := raw_v (most := 1048576) (sbytes (c.txt j)) r (by rw [sbytes_length]; omega) (by rw [sbytes_length]; omega)
  rw [sbytes_length] at this
  unfold partS pbytes
  rw [if_neg (by rw [hj]; decide), if_neg (by rw [hj]; decide), this.1, this.2, strL_sbytes]
  exact ⟨rfl, rfl⟩
/-- Only the first k parts of a command. -/
def cutC (c : Cm) (k : Nat) : Cm := ⟨c.kind, if 0 < k then c.client else 0, if 1 < k then c.seq else 0, if 2 < k then c.key else .empty, if 4 < k then c.val else .empty, if 3 < k then c.old else .empty, if 5 < k then c.node else 0⟩
/-- A part that is not wanted is none; one that is, is not too large. -/
def fitP (w : Nat → Bool) (c : Cm) (k : Nat) : Prop := if isNum k then (w k = false → c.num k = 0) ∧ 0 ≤ c.num k ∧ c.num k ≤ 9223372036854775807 else (w k = false → c.txt k = .empty) ∧ (c.txt k).size ≤ 1000
theorem cut_step {w : Nat → Bool} {c : Cm} {k : Nat} (hk : k < 6) (hf : fitP w c k) {s : Option (List Int)} {t : List Int} (h : getW w s k = (cutC c k, some ((if w k then pbytes c k else []) ++ t))) : getW w s (k + 1) = (cutC c (k + 1), some t) := by
  rw [getW, h]
  unfold fitP at hf
  cases hw : w k
  · rw [hw] at hf
    simp only [if_false, Bool.false_eq_true, List.nil_append, Prod.mk.injEq, and_true]
    obtain rfl | rfl | rfl | rfl | rfl | rfl : k = 0 ∨ k = 1 ∨ k = 2 ∨ k = 3 ∨ k = 4 ∨ k = 5 := by omega
    all_goals
      (simp [isNum, Cm.num, Cm.txt] at hf
       simp [cutC, hf])
  · rw [hw] at hf
    simp only [if_true]
    obtain rfl | rfl | rfl | rfl | rfl | rfl : k = 0 ∨ k = 1 ∨ k = 2 ∨ k = 3 ∨ k = 4 ∨ k = 5 := by omega
    · have := part_num (c := c) (j := 0) rfl hf.2.1 hf.2.2 t
      rw [this.1]; simp only [Cm.setP, this.2, cutC]; rfl
    · have := part_num (c := c) (j := 1) rfl hf.2.1 hf.2.2 t
      rw [this.1]; simp only [Cm.setP, this.2, cutC]; rfl
    · have := part_txt (c := c) (j := 2) rfl hf.2 t
      rw [this.1]; simp only [Cm.setP, this.2, cutC]; rfl
    · have := part_txt (c := c) (j := 3) rfl hf.2 t
      rw [this.1]; simp only [Cm.setP, this.2, cutC]; rfl
    · have := part_txt (c := c) (j := 4) rfl hf.2 t
      rw [this.1]; simp only [Cm.setP, this.2, cutC]; rfl
    · have := part_num (c := c) (j := 5) rfl hf.2.1 hf.2.2 t
      rw [this.1]; simp only [Cm.setP, this.2, cutC]; rfl
theorem getW_put {w : Nat → Bool} {c : Cm} (hk : 0 ≤ c.kind ∧ c.kind ≤ 9223372036854775807) (hf : ∀ k < 6, fitP w c k) (r : List Int) : getW w (some (vbytes c.kind ++ putW w c 6 ++ r)) 6 = (c, some r) := by
  have e : vbytes c.kind ++ putW w c 6 ++ r = vbytes c.kind ++ ((if w 0 then pbytes c 0 else []) ++ ((if w 1 then pbytes c 1 else []) ++ ((if w 2 then pbytes c 2 else []) ++ ((if w 3 then pbytes c 3 else []) ++ ((if w 4 then pbytes c 4 else []) ++ ((if w 5 then pbytes c 5 else []) ++ r)))))) := by simp [putW]
  rw [e]
  have k0 := num_v ((if w 0 then pbytes c 0 else []) ++ ((if w 1 then pbytes c 1 else []) ++ ((if w 2 then pbytes c 2 else []) ++ ((if w 3 then pbytes c 3 else []) ++ ((if w 4 then pbytes c 4 else []) ++ ((if w 5 then pbytes c 5 else []) ++ r)))))) hk.1 hk.2
  have s0 : getW w (some (vbytes c.kind ++ ((if w 0 then pbytes c 0 else []) ++ ((if w 1 then pbytes c 1 else []) ++ ((if w 2 then pbytes c 2 else []) ++ ((if w 3 then pbytes c 3 else []) ++ ((if w 4 then pbytes c 4 else []) ++ ((if w 5 then pbytes c 5 else []) ++ r)))))))) 0 = (cutC c 0, some ((if w 0 then pbytes c 0 else []) ++ ((if w 1 then pbytes c 1 else []) ++ ((if w 2 then pbytes c 2 else []) ++ ((if w 3 then pbytes c 3 else []) ++ ((if w 4 then pbytes c 4 else []) ++ ((if w 5 then pbytes c 5 else []) ++ r))))))) := by
    rw [getW]
    simp only [nV, nS] at k0
    rw [k0.1, k0.2]
    rfl
  have s6 := cut_step (by omega) (hf 5 (by omega)) (cut_step (by omega) (hf 4 (by omega)) (cut_step (by omega) (hf 3 (by omega)) (cut_step (by omega) (hf 2 (by omega)) (cut_step (by omega) (hf 1 (by omega)) (cut_step (by omega) (hf 0 (by omega)) s0)))))
  rw [s6]
  rfl
theorem pnum_inv {s : Option (List Int)} (hb : byteS s) {c : Cm} {j : Nat} (hj : isNum j = true) (hc : c.num j = nV s) {r' : List Int} (h : partS j s = some r') : s = some (pbytes c j ++ r') := by
  unfold partS at h
  rw [if_pos hj] at h
  unfold pbytes
  rw [if_pos hj, hc]
  exact num_inv hb h
theorem ptxt_inv {s : Option (List Int)} (hb : byteS s) {c : Cm} {j : Nat} (hj : isNum j = false) (hc : c.txt j = strL (rawB 1048576 s)) {r' : List Int} (h : partS j s = some r') : s = some (pbytes c j ++ r') := by
  unfold partS at h
  rw [if_neg (by rw [hj]; decide)] at h
  unfold pbytes
  rw [if_neg (by rw [hj]; decide), hc, sbytes_strL (raw_byte hb _), strL_size]
  exact raw_inv hb h
theorem part_inv {s : Option (List Int)} (hb : byteS s) (c : Cm) {j : Nat} (hj : j < 6) {r' : List Int} (h : partS j s = some r') : s = some (pbytes (c.setP j s) j ++ r') := by
  obtain rfl | rfl | rfl | rfl | rfl | rfl : j = 0 ∨ j = 1 ∨ j = 2 ∨ j = 3 ∨ j = 4 ∨ j = 5 := by omega
  · exact pnum_inv hb rfl rfl h
  · exact pnum_inv hb rfl rfl h
  · exact ptxt_inv hb rfl rfl h
  · exact ptxt_inv hb rfl rfl h
  · exact ptxt_inv hb rfl rfl h
  · exact pnum_inv hb rfl rfl h
theorem pbytes_setP (c : Cm) {j k : Nat} (hjk : j < k) (hk : k < 6) (s : Option (List Int)) : pbytes (c.setP k s) j = pbytes c j := by
  obtain rfl | rfl | rfl | rfl | rfl | rfl : k = 0 ∨ k = 1 ∨ k = 2 ∨ k = 3 ∨ k = 4 ∨ k = 5 := by omega
  all_goals
    (obtain rfl | rfl | rfl | rfl | rfl : j = 0 ∨ j = 1 ∨ j = 2 ∨ j = 3 ∨ j = 4 := by omega) <;> first | rfl | omega
theorem putW_setP (w : Nat → Bool) (c : Cm) {k : Nat} (hk : k < 6) (s : Option (List Int)) : ∀ j, j ≤ k → putW w (c.setP k s) j = putW w c j
  | 0, _ => rfl
  | j + 1, h => by rw [putW, putW, putW_setP w c hk s j (by omega), pbytes_setP c (by omega) hk s]
theorem getW_inv (w : Nat → Bool) {s : Option (List Int)} (hb : byteS s) : ∀ (k : Nat) (t : List Int), k ≤ 6 → (getW w s k).2 = some t → nS s = some (putW w (getW w s k).1 k ++ t)
  | 0, t, _, h => h
  | k + 1, t, hk, h => by
    rw [getW] at h ⊢
    cases hw : w k
    · rw [hw] at h
      simp only [if_false, Bool.false_eq_true] at h ⊢
      rw [putW, hw, if_neg (by decide), List.append_nil]
      exact getW_inv w hb k t (by omega) h
    · rw [hw] at h
      simp only [if_true] at h ⊢
      have hp := part_inv (getW_ok w hb k).2 (getW w s k).1 (by omega) h
      have ih := getW_inv w hb k _ (by omega) hp
      rw [ih, putW, hw, if_pos rfl, putW_setP w _ (by omega) _ k (Nat.le_refl _), List.append_assoc]
/-- What is got of a command has the bytes that were read. -/
theorem getW_all (w : Nat → Bool) {s : Option (List Int)} (hb : byteS s) {t : List Int} (h : (getW w s 6).2 = some t) : s = some (vbytes (getW w s 6).1.kind ++ putW w (getW w s 6).1 6 ++ t) := by
  have h1 := getW_inv w hb 6 t (by omega) h
  have h2 := num_inv hb h1
  rw [getW_kind, List.append_assoc]
  exact h2
theorem ite0 {p : Prop} [Decidable p] {a b : Int} (ha : a ≠ 0) (h : (if p then a else b) = 0) : ¬ p ∧ b = 0 := by
  by_cases hp : p
  · rw [if_pos hp] at h; exact absurd h ha
  · rw [if_neg hp] at h; exact ⟨hp, h⟩
theorem cmd0 {c : Cm} (h : cmdI c = 0) : (1 ≤ c.kind ∧ c.kind ≤ 8) ∧ (0 ≤ c.client ∧ c.client ≤ 8) ∧ (0 ≤ c.seq ∧ c.seq ≤ 4294967296) ∧ (0 ≤ c.node ∧ c.node ≤ 9) ∧ (c.kind ≠ 5 → c.old = .empty) := by
  rw [cmdI_eq] at h
  unfold cmdE at h
  obtain ⟨h1, h⟩ := ite0 (by decide) h
  obtain ⟨h2, h⟩ := ite0 (by decide) h
  obtain ⟨h3, h⟩ := ite0 (by decide) h
  obtain ⟨h4, h⟩ := ite0 (by decide) h
  clear h3
  refine ⟨by omega, by omega, by omega, by omega, fun hk => ?_⟩
  exact nil_iff.2 (by omega)
set_option maxHeartbeats 4000000 in
theorem cmdFit {v : Int} {c : Cm} (h : cmdI c = 0) (hv : (v = 1 ∧ c.kind ≠ 5) ∨ v = 2) (hs : c.key.size ≤ 1000 ∧ c.val.size ≤ 1000 ∧ c.old.size ≤ 1000) : ∀ k < 6, fitP (wantB v c.kind) c k := by
  obtain ⟨c1, c2, c3, c4, c5⟩ := cmd0 h
  obtain ⟨hs1, hs2, hs3⟩ := hs
  rw [cmdI_eq] at h
  unfold cmdE at h
  obtain ⟨-, h⟩ := ite0 (by decide) h
  obtain ⟨-, h⟩ := ite0 (by decide) h
  obtain ⟨-, h⟩ := ite0 (by decide) h
  obtain ⟨h4, -⟩ := ite0 (by decide) h
  obtain ⟨kind, client, seq, key, val, old, node⟩ := c
  simp only at *
  have nk : key.size = 0 → key = .empty := fun e => nil_iff.2 e
  have nv : val.size = 0 → val = .empty := fun e => nil_iff.2 e
  have no : old.size = 0 → old = .empty := fun e => nil_iff.2 e
  intro k hk
  obtain ⟨rfl, hk5⟩ | rfl := hv
  · obtain rfl | rfl | rfl | rfl | rfl | rfl : k = 0 ∨ k = 1 ∨ k = 2 ∨ k = 3 ∨ k = 4 ∨ k = 5 := by omega
    all_goals
      (simp [fitP, isNum, wantB, hasOf, Cm.num, Cm.txt]
       first | omega | exact ⟨no (by omega), hs3⟩)
  · obtain rfl | rfl | rfl | rfl | rfl | rfl | rfl | rfl : kind = 1 ∨ kind = 2 ∨ kind = 3 ∨ kind = 4 ∨ kind = 5 ∨ kind = 6 ∨ kind = 7 ∨ kind = 8 := by omega
    all_goals
      (obtain rfl | rfl | rfl | rfl | rfl | rfl : k = 0 ∨ k = 1 ∨ k = 2 ∨ k = 3 ∨ k = 4 ∨ k = 5 := by omega)
    all_goals
      (simp [fitP, isNum, wantB, cmdFields, hasOf, Cm.num, Cm.txt, band_0_1, band_0_2, band_0_4, band_0_8, band_0_16, band_3_1, band_3_2, band_3_4, band_3_8, band_3_16, band_11_1, band_11_2, band_11_4, band_11_8, band_11_16, band_15_1, band_15_2, band_15_4, band_15_8, band_15_16, band_16_1, band_16_2, band_16_4, band_16_8, band_16_16]
       first | omega | exact ⟨no (by omega), by omega⟩ | exact ⟨nv (by omega), by omega⟩ | exact ⟨nk (by omega), by omega⟩)
/-- What is put of a command that may be in a version leads back to it. -/
theorem getV_put {v : Int} {c : Cm} (h : cmdI c = 0) (hv : (v = 1 ∧ c.kind ≠ 5) ∨ v = 2) (hs : c.key.size ≤ 1000 ∧ c.val.size ≤ 1000 ∧ c.old.size ≤ 1000) (r : List Int) :
    getW (wantB v (nV (some (vbytes c.kind ++ putW (wantB v c.kind) c 6 ++ r)))) (some (vbytes c.kind ++ putW (wantB v c.kind) c 6 ++ r)) 6 = (c, some r) := by
  obtain ⟨c1, c2, c3, c4, c5⟩ := cmd0 h
  have e := (num_v (m := c.kind) (putW (wantB v c.kind) c 6 ++ r) (by omega) (by omega)).1
  rw [← List.append_assoc] at e
  rw [e]
  exact getW_put (by omega) (cmdFit h hv hs) r
end Go.Proofs.YtnoiahlpmgbhfaaDoor
/-
  entry (layer 12), the twelfth part: Put, and Get.
-/
set_option linter.unusedSimpArgs false
set_option linter.unusedVariables false
namespace Go.Proofs.YtnoiahlpmgbhfaaDoor
open Go.Vx Go.ChangeShapes Go.WideShapes Go.ChangeAt Go.RowKit
theorem pbytes_len2 (c : Cm) {n : Nat} (h : c.key.size ≤ n ∧ c.val.size ≤ n ∧ c.old.size ≤ n) (j : Nat) : (pbytes c j).length ≤ 11 + n := by
  unfold pbytes
  split
  · have := (vbytes_len (c.num j)).1
    omega
  · rw [List.length_append, sbytes_length]
    have := (vbytes_len ((c.txt j).size : Nat)).1
    have : (c.txt j).size ≤ n := by unfold Cm.txt; split <;> omega
    omega
theorem putW_len2 (w : Nat → Bool) (c : Cm) {n : Nat} (h : c.key.size ≤ n ∧ c.val.size ≤ n ∧ c.old.size ≤ n) : ∀ k, (putW w c k).length ≤ (11 + n) * k
  | 0 => by simp [putW]
  | k + 1 => by
    rw [putW, List.length_append]
    have h1 := putW_len2 w c h k
    have h2 := pbytes_len2 c h k
    rw [Nat.mul_succ]
    split
    · omega
    · simp; omega
/-- The bytes of an entry, and of all. -/
def entB (v : Int) (x : Ent) : List Int := vbytes x.index ++ vbytes x.round ++ vbytes x.node ++ (vbytes x.cmd.kind ++ putW (wantB v x.cmd.kind) x.cmd 6)
def entsB (v : Int) (l : List Ent) : List Int := (l.map (entB v)).flatten
def Ent.sz (x : Ent) : Prop := x.cmd.key.size ≤ 48 ∧ x.cmd.val.size ≤ 48 ∧ x.cmd.old.size ≤ 48
theorem entB_len (v : Int) {x : Ent} (h : x.sz) : (entB v x).length ≤ 398 := by
  have h1 := (vbytes_len x.index).1
  have h2 := (vbytes_len x.round).1
  have h3 := (vbytes_len x.node).1
  have h4 := (vbytes_len x.cmd.kind).1
  have h5 := putW_len2 (wantB v x.cmd.kind) x.cmd h 6
  unfold entB
  simp only [List.length_append]
  omega
theorem entsB_len (v : Int) : ∀ (l : List Ent), (∀ x ∈ l, x.sz) → (entsB v l).length ≤ 398 * l.length
  | [], _ => by simp [entsB]
  | x :: l, h => by
    have h1 := entB_len v (h x (by simp))
    have h2 := entsB_len v l (fun y hy => h y (by simp [hy]))
    unfold entsB at h2 ⊢
    rw [List.map_cons, List.flatten_cons, List.length_append, List.length_cons, Nat.mul_succ]
    omega
theorem entsB_take {v : Int} {l : List Ent} {k : Nat} (h : k < l.length) : entsB v (l.take (k + 1)) = entsB v (l.take k) ++ entB v l[k] := by
  unfold entsB
  rw [List.take_add_one, List.getElem?_eq_getElem h, List.map_append, List.flatten_append]
  simp only [Option.toList_some, List.map_cons, List.map_nil, List.flatten_cons, List.flatten_nil, List.append_nil]
theorem i64_le {n : Int} (h : (Lit.int .i64 n).wf = true) : n ≤ 9223372036854775807 := by
  simp [Lit.wf, IntKind.min, IntKind.max, IntKind.signed, IntKind.bits] at h
  omega
theorem eput_s {G : GH} {bl : List Int} {sv lv : Value} {l : List Ent} (v : Int) (wb : Nat) (hs : Sl G 1 (IntR .u8) sv bl) (hbl : bl.length ≤ 1000) (hls : Es G lv l) (hn : l.length ≤ 40) (hz : ∀ x ∈ l, x.sz) :
    Con Tryd.prog 39 #[.pointer (some ⟨wb, 0, none⟩), .int .i64 v, lv] G [(wb, .cells [sv].toArray 66 (0, 0))]
      (fun r G' μ' => ∃ v', μ' = [(wb, .cells [v'].toArray 66 (0, 0))] ∧ Sl G' 1 (IntR .u8) v' (bl ++ vbytes l.length ++ entsB v l)) := by
  obtain ⟨A, c, rfl, hlc, hcm, hsome, hcp, hcb, hcc, hok⟩ := esOpen hls
  simp only [maxLen] at hcm
  refine v_enter Tryd.func39 rfl Tryd.ntmps39 rfl (fun B => ?_)
  repeat' (first | apply v_seq | apply v_region | (apply v_pure; (case hop => first | (apply p_move <;> rfl) | (apply p_lenSlice <;> rfl) | fail); (case hd => rfl)) | fail)
  refine v_call (μ1 := [(wb, _)]) (μ2 := _) rfl (wnumber_s wb (l.length : Nat) hs (by omega) (by omega)) (PickA.perm (by repeat (first | exact PickA.last | fail))) rfl ?_
  rintro r0 G0 μ0 hle0 ⟨v0, rfl, hv0⟩
  have hl1 : (bl ++ vbytes l.length).length ≤ 1011 := by
    rw [List.length_append]
    have := (vbytes_len (l.length : Nat)).1
    omega
  generalize bl ++ vbytes l.length = b1 at *
  repeat' (first | apply v_seq | apply v_region | apply v_nil | apply v_block | (apply v_pure; (case hop => first | (apply p_move <;> rfl) | (apply p_lenSlice <;> rfl) | fail); (case hd => rfl)) | fail)
  refine v_loop [14, 13, 12, 0, 1] (fun us G' μ' => GH.le G0 G' ∧ ∃ (k : Nat) (w : Value), k ≤ l.length ∧ us = [Value.int .i64 (k : Nat), .int .i64 (l.length : Nat), .slice A l.length c, .pointer (some ⟨wb, 0, none⟩), .int .i64 v] ∧ μ' = [(wb, .cells [w].toArray 66 (0, 0))] ∧ Sl G' 1 (IntR .u8) w (b1 ++ entsB v (l.take k))) (fun us => l.length - (headI us).toNat) rfl ⟨GH.le_refl _, 0, _, by omega, rfl, rfl, by simpa [entsB] using hv0⟩ ?_
  rintro us G2 μ' ⟨hle2, k, w, hk, rfl, rfl, hw⟩
  by_cases hlt : k < l.length
  · have hle := GH.le_trans hle0 hle2
    have hcp' : ∀ i (h : i < l.length), CellsG G2 ((adr A).add (i * 10)) l[i].cells := fun i h => (hcp i h).le hle
    have hlen : (b1 ++ entsB v (l.take k)).length ≤ 20000 := by
      rw [List.length_append]
      have := entsB_len v (l.take k) (fun x hx => hz x (List.mem_of_mem_take hx))
      rw [List.length_take] at this
      omega
    have hx := hok k hlt
    have hsz := hz _ (List.getElem_mem hlt)
    have et := entsB_take (v := v) hlt
    obtain ⟨x, hxe⟩ : ∃ x, x = l[k] := ⟨_, rfl⟩
    have hcx : CellsG G2 ((adr A).add (k * 10)) x.cells := by rw [hxe]; exact hcp' k hlt
    rw [← hxe] at hx hsz et
    obtain ⟨hx1, hx2, hx3, hx4⟩ := hx
    have hx1 := i64_le hx1
    have hx2 := i64_le hx2
    have hx3 := i64_le hx3
    have hsz' := hsz
    unfold Ent.sz at hsz
    repeat' (first | apply v_seq | apply v_region | apply v_nil | apply v_skip | apply v_block | (apply v_pure; (case hop => first | (apply p_move <;> rfl) | (apply p_lt <;> rfl) | (apply p_fieldAddrB <;> rfl) | (apply p_indexAddrS; (case hx => rfl); (case hi => rfl); (case h0 => omega); (case h => omega); (case hA => first | (apply_assumption; omega))) | fail); (case hd => rfl)) | (apply v_cond; (case hc => rfl); all_goals (intro h; (try simp only [reduceCtorEq, dec_true, dec_false, decide_eq_true_eq, decide_eq_false_iff_not, Bool.not_eq_true', Bool.not_eq_false', Option.isNone_iff_eq_none, beq_true, beq_false, beq_iff_eq, beq_eq_false_iff_ne, ne_eq, decide_eq_decide, Bool.not_eq_true, Bool.not_eq_false, Decidable.not_not] at h); first | (exfalso; omega) | skip)) | (apply v_read; (case hop => first | (apply r_loadN; rfl; exact CellsAt.frozen hcx; rfl)); (case hd => rfl)) | (apply v_read; (case hop => first | (apply r_load1; rfl; (apply Cell.own; (case h => (repeat (first | exact List.Mem.head _ | fail))); rfl)) | fail); (case hd => rfl)) | (apply v_alloc; (case hz => rfl); (case hd => rfl); intro b) | (apply v_store; (case hp => rfl); (case hx => rfl); (case hc => rfl); (case hsz => rfl); (case h1 => rfl); (case hb => (repeat (first | exact List.Mem.head _ | fail))); (case hfit => first | exact Nat.le_of_ble_eq_true rfl | fail); (case hov => (first | ((repeat (first | with_reducible exact ov_nil | apply ov_cons | fail)); done) | fail)); (case hu => repeat (first | exact Upd.here _ _ | fail))) | fail)
    refine v_call (μ1 := [(wb, _)]) (μ2 := _) rfl (wnumber_s wb x.index hw (by omega) hx1) (PickA.perm (by repeat (first | exact PickA.last | apply PickA.cons | fail))) rfl ?_
    rintro r1 G3 μ1 hle3 ⟨w1, rfl, hw1⟩
    have hv1 := (vbytes_len x.index).1
    have hv2 := (vbytes_len x.round).1
    have hv3 := (vbytes_len x.node).1
    repeat' (first | apply v_seq | apply v_region | apply v_nil | (apply v_pure; (case hop => first | (apply p_move <;> rfl) | (apply p_fieldAddrB <;> rfl) | fail); (case hd => rfl)) | (apply v_read; (case hop => first | (apply r_load1; rfl; (apply Cell.own; (case h => (repeat (first | exact List.Mem.head _ | apply List.Mem.tail | fail))); rfl)) | fail); (case hd => rfl)) | fail)
    refine v_call (μ1 := [(wb, _)]) (μ2 := _) rfl (wnumber_s wb x.round hw1 (by rw [List.length_append]; omega) hx2) (PickA.perm (by repeat (first | exact PickA.here _ | fail))) rfl ?_
    rintro r2 G4 μ2 hle4 ⟨w2, rfl, hw2⟩
    repeat' (first | apply v_seq | apply v_region | apply v_nil | (apply v_pure; (case hop => first | (apply p_move <;> rfl) | (apply p_fieldAddrB <;> rfl) | fail); (case hd => rfl)) | (apply v_read; (case hop => first | (apply r_load1; rfl; (apply Cell.own; (case h => (repeat (first | exact List.Mem.head _ | apply List.Mem.tail | fail))); rfl)) | fail); (case hd => rfl)) | fail)
    refine v_call (μ1 := [(wb, _)]) (μ2 := _) rfl (wnumber_s wb x.node hw2 (by rw [List.length_append, List.length_append]; omega) hx3) (PickA.perm (by repeat (first | exact PickA.here _ | fail))) rfl ?_
    rintro r3 G5 μ3 hle5 ⟨w3, rfl, hw3⟩
    repeat' (first | apply v_region | apply v_nil | (apply v_pure; (case hop => first | (apply p_move <;> rfl) | (apply p_fieldAddrB <;> rfl) | fail); (case hd => rfl)) | (apply v_read; (case hop => first | (apply r_loadNo; (case hx => rfl); (case h => (repeat (first | exact List.Mem.head _ | apply List.Mem.tail | fail))); (case hd => (repeat (first | with_reducible exact dt_nil | apply dt_here | fail))); (case hn => rfl)) | fail); (case hd => rfl)) | fail)
    refine v_call (μ1 := [(wb, _)]) (μ2 := _) rfl (cputV_s v x.cmd hx4 (by omega) (by omega) (by omega) wb hw3 (by rw [List.length_append, List.length_append, List.length_append]; omega)) (PickA.perm (by repeat (first | exact PickA.here _ | fail))) rfl ?_
    rintro r4 G6 μ4 hle6 ⟨w4, rfl, hw4⟩
    repeat' (first | apply v_region | apply v_nil | apply v_blk | (apply v_pure; (case hop => first | (apply p_move <;> rfl) | (apply p_add; (case hx => rfl); (case hy => rfl); (case h => omega)) | fail); (case hd => rfl)) | fail)
    refine v_drop (ν := [(wb, _)]) (by repeat (first | exact List.nil_sublist _ | apply List.Sublist.cons_cons | fail)) ?_
    refine v_again rfl ⟨GH.le_trans (GH.le_trans (GH.le_trans (GH.le_trans hle2 hle3) hle4) hle5) hle6, k + 1, w4, by omega, rfl, rfl, ?_⟩ (by simp [headI]; omega)
    rw [et, entB]
    simpa using hw4
  · obtain rfl : k = l.length := by omega
    rw [List.take_length] at hw
    repeat' (first | apply v_seq | apply v_region | apply v_nil | (apply v_exit; (case hp => rfl)) | (apply v_pure; (case hop => first | (apply p_lt <;> rfl) | fail); (case hd => rfl)) | (apply v_cond; (case hc => rfl); all_goals (intro h; (try simp only [reduceCtorEq, dec_true, dec_false, decide_eq_true_eq, decide_eq_false_iff_not, Bool.not_eq_true', Bool.not_eq_false', Option.isNone_iff_eq_none, beq_true, beq_false, beq_iff_eq, beq_eq_false_iff_ne, ne_eq, decide_eq_decide, Bool.not_eq_true, Bool.not_eq_false, Decidable.not_not] at h); first | (exfalso; omega) | skip)) | fail)
    refine v_end [(wb, _)] (outsA0 rfl) (by repeat (first | exact List.Sublist.refl _ | fail)) ?_
    exact ⟨_, rfl, hw⟩
/-! ### Get -/
/-- What is read of so many entries. -/
def getE (v : Int) : Nat → Option (List Int) → List Ent × Option (List Int)
  | 0, s => ([], s)
  | m + 1, s => (⟨nV s, nV (nS s), nV (nS (nS s)), (getW (wantB v (nV (nS (nS (nS s))))) (nS (nS (nS s))) 6).1⟩ :: (getE v m (getW (wantB v (nV (nS (nS (nS s))))) (nS (nS (nS s))) 6).2).1, (getE v m (getW (wantB v (nV (nS (nS (nS s))))) (nS (nS (nS s))) 6).2).2)
theorem getE_ok (v : Int) : ∀ (m : Nat) (s : Option (List Int)), byteS s → ∀ x ∈ (getE v m s).1, x.ok
  | 0, s, _, x, hx => by simp [getE] at hx
  | m + 1, s, hb, x, hx => by
    have h1 := numS_b hb 9223372036854775807
    have h2 := numS_b h1 9223372036854775807
    have h3 := numS_b h2 9223372036854775807
    have h4 := getW_ok (wantB v (nV (nS (nS (nS s))))) h3 6
    rw [getE, List.mem_cons] at hx
    obtain rfl | hx := hx
    · exact ⟨wf64 (numV_b hb _), wf64 (numV_b h1 _), wf64 (numV_b h2 _), h4.1⟩
    · exact getE_ok v m _ h4.2 x hx
theorem cntV_b {s : Option (List Int)} (hb : byteS s) : 0 ≤ cntV 256 s ∧ cntV 256 s ≤ 256 := by
  unfold cntV
  cases s with
  | none => simp
  | some r =>
    simp only
    cases hd : dvk 0 r with
    | none => simp
    | some p =>
      have := vbytes_dvk (m := p.1) (r' := p.2) (hb r rfl) hd
      simp only
      split <;> omega
theorem cntS_b {s : Option (List Int)} (hb : byteS s) : byteS (cntS 256 s) := by
  unfold cntS
  cases s with
  | none => exact hb
  | some r =>
    simp only
    cases hd : dvk 0 r with
    | none => intro r h; cases h
    | some p =>
      simp only
      split
      · intro r h; cases h
      · intro r2 h2 x hx
        cases h2
        exact hb r rfl x (dvk_sub (m := p.1) (r' := p.2) hd x hx)
theorem eget_s {G : GH} {l : List Int} {bv : Value} {s : Option (List Int)} (v : Int) (rb a : Nat) (no : Int) (hs : Sl G 1 (IntR .u8) bv l) (hl : l.length ≤ 1048576) (hr : RdS l a no s) (hby : byteS s) :
    Con Tryd.prog 42 #[.pointer (some ⟨rb, 0, none⟩), .int .i64 v] G [(rb, rdO bv a no)]
      (fun r G' μ' => Es G' r (getE v (cntV 256 s).toNat (cntS 256 s)).1 ∧ ∃ a' no', μ' = [(rb, rdO bv (a' : Nat) no')] ∧ RdS l a' no' (getE v (cntV 256 s).toNat (cntS 256 s)).2) := by
  have hcb := cntV_b hby
  have hsb := cntS_b hby
  have q := rdCount_s rb a no 256 hs hl hr
  have hok := getE_ok v (cntV 256 s).toNat (cntS 256 s) hsb
  generalize cntV 256 s = n at *
  generalize cntS 256 s = s0 at *
  obtain ⟨m, rfl⟩ : ∃ m : Nat, n = m := ⟨n.toNat, by omega⟩
  have e1 : ((m : Nat) : Int).toNat = m := by omega
  rw [e1] at hok ⊢
  refine v_enter Tryd.func42 rfl Tryd.ntmps42 rfl (fun B => ?_)
  repeat' (first | apply v_seq | apply v_region | apply v_nil | (apply v_pure; (case hop => first | (apply p_move <;> rfl) | (apply p_assign <;> rfl) | fail); (case hd => rfl)) | fail)
  refine v_call (μ1 := [(rb, _)]) (μ2 := _) rfl q (PickA.perm (by repeat (first | exact PickA.last | fail))) rfl ?_
  rintro _ _ _ - ⟨rfl, rfl, a0, no0, rfl, hr0⟩
  repeat' (first | apply v_nil | apply v_block | (apply v_pure; (case hop => first | (apply p_move <;> rfl) | fail); (case hd => rfl)) | fail)
  refine v_loop [9, 5, 8, 0, 1] (fun us G' μ' => GH.le G' G' ∧ ∃ (k : Nat) (out : List Ent) (ov : Value) (ν : OH) (sk : Option (List Int)) (a' : Nat) (no' : Int), Sl G' 1 (IntR .u8) bv l ∧ k ≤ m ∧ us = [Value.int .i64 (k : Nat), ov, .int .i64 (m : Nat), .pointer (some ⟨rb, 0, none⟩), .int .i64 v] ∧ μ' = ν ++ [(rb, rdO bv a' no')] ∧ Grow 50 10 ov out.length (esC out) ν ∧ out.length = k ∧ RdS l a' no' sk ∧ getE v m s0 = (out ++ (getE v (m - k) sk).1, (getE v (m - k) sk).2)) (fun us => m - (headI us).toNat) rfl ⟨GH.le_refl _, 0, [], _, [], s0, a0, no0, hs, by omega, rfl, rfl, Grow.nil _ _, rfl, hr0, rfl⟩ ?_
  rintro us G2 μ' ⟨-, k, out, ov, ν, sk, a2, no2, hs2, hk, rfl, rfl, hg, hol, hr2, hge⟩
  by_cases hlt : k < m
  · obtain ⟨A0, c0, rfl, -, -⟩ := hg.shape
    repeat' (first | apply v_seq | apply v_region | apply v_nil | apply v_skip | apply v_block | (apply v_pure; (case hop => first | (apply p_move <;> rfl) | (apply p_lt <;> rfl) | fail); (case hd => rfl)) | (apply v_cond; (case hc => rfl); all_goals (intro h; (try simp only [reduceCtorEq, dec_true, dec_false, decide_eq_true_eq, decide_eq_false_iff_not, Bool.not_eq_true', Bool.not_eq_false', Option.isNone_iff_eq_none, beq_true, beq_false, beq_iff_eq, beq_eq_false_iff_ne, ne_eq, decide_eq_decide, Bool.not_eq_true, Bool.not_eq_false, Decidable.not_not] at h); first | (exfalso; omega) | skip)) | fail)
    refine v_call (μ1 := [(rb, _)]) (μ2 := _) rfl (rdNumber_s rb _ _ 9223372036854775807 hs2 hl hr2) (PickA.perm (by repeat (first | exact PickA.last | apply PickA.app))) rfl ?_
    rintro _ _ _ - ⟨rfl, rfl, a3, no3, rfl, hr3⟩
    repeat' (first | apply v_seq | apply v_region | apply v_nil | (apply v_pure; (case hop => first | (apply p_move <;> rfl) | (apply p_build; (case hz => rfl); (case hv => (simp only [List.map_cons, List.map_nil]; repeat (first | with_reducible exact evs_nil | (apply evs_cons; (case h1 => rfl))))); (case hb => (apply bldL; repeat (first | exact bld_nil | (apply bld_cons; (case hpf => rfl); (case hc => rfl); (case hs => rfl); (case hl => rfl); (case ho => (first | ((repeat (first | with_reducible exact ov_nil | apply ov_cons | fail)); done) | fail)))))))); (case hd => rfl)) | (apply v_alloc; (case hz => rfl); (case hd => rfl); intro b) | (apply v_store; (case hp => rfl); (case hx => rfl); (case hc => rfl); (case hsz => rfl); (case h1 => rfl); (case hb => (repeat (first | exact List.Mem.head _ | fail))); (case hfit => first | exact Nat.le_of_ble_eq_true rfl | fail); (case hov => (first | ((repeat (first | with_reducible exact ov_nil | apply ov_cons | fail)); done) | fail)); (case hu => repeat (first | exact Upd.here _ _ | fail))) | fail)
    rename Nat => eb
    refine v_call (μ1 := [(rb, _)]) (μ2 := _) rfl (rdNumber_s rb _ _ 9223372036854775807 hs2 hl hr3) (PickA.perm (by repeat (first | exact PickA.here _ | apply PickA.cons | fail))) rfl ?_
    rintro _ _ _ - ⟨rfl, rfl, a4, no4, rfl, hr4⟩
    repeat' (first | apply v_seq | apply v_region | apply v_nil | (apply v_pure; (case hop => first | (apply p_move <;> rfl) | (apply p_fieldAddrB <;> rfl) | fail); (case hd => rfl)) | (apply v_store; (case hp => rfl); (case hx => rfl); (case hc => rfl); (case hsz => rfl); (case h1 => rfl); (case hb => (repeat (first | exact List.Mem.head _ | apply List.Mem.tail | fail))); (case hfit => first | exact Nat.le_of_ble_eq_true rfl | fail); (case hov => (first | ((repeat (first | with_reducible exact ov_nil | apply ov_cons | fail)); done) | fail)); (case hu => repeat (first | exact Upd.here _ _ | apply Upd.there | fail))) | fail)
    refine v_call (μ1 := [(rb, _)]) (μ2 := _) rfl (rdNumber_s rb _ _ 9223372036854775807 hs2 hl hr4) (PickA.perm (by repeat (first | exact PickA.here _ | fail))) rfl ?_
    rintro _ _ _ - ⟨rfl, rfl, a5, no5, rfl, hr5⟩
    repeat' (first | apply v_seq | apply v_region | apply v_nil | (apply v_pure; (case hop => first | (apply p_move <;> rfl) | (apply p_fieldAddrB <;> rfl) | fail); (case hd => rfl)) | (apply v_store; (case hp => rfl); (case hx => rfl); (case hc => rfl); (case hsz => rfl); (case h1 => rfl); (case hb => (repeat (first | exact List.Mem.head _ | apply List.Mem.tail | fail))); (case hfit => first | exact Nat.le_of_ble_eq_true rfl | fail); (case hov => (first | ((repeat (first | with_reducible exact ov_nil | apply ov_cons | fail)); done) | fail)); (case hu => repeat (first | exact Upd.here _ _ | apply Upd.there | fail))) | fail)
    refine v_call (μ1 := [(rb, _)]) (μ2 := _) rfl (cgetV_s v rb _ _ hs2 hl hr5) (PickA.perm (by repeat (first | exact PickA.here _ | fail))) rfl ?_
    rintro _ G3 _ hle3 ⟨rfl, a6, no6, rfl, hr6⟩
    obtain ⟨j, hj⟩ : ∃ j, m - k = j + 1 := ⟨m - k - 1, by omega⟩
    have hge2 : getE v m s0 = ((out ++ [(⟨nV sk, nV (nS sk), nV (nS (nS sk)), (getW (wantB v (nV (nS (nS (nS sk))))) (nS (nS (nS sk))) 6).1⟩ : Ent)]) ++ (getE v (m - (k + 1)) (getW (wantB v (nV (nS (nS (nS sk))))) (nS (nS (nS sk))) 6).2).1, (getE v (m - (k + 1)) (getW (wantB v (nV (nS (nS (nS sk))))) (nS (nS (nS sk))) 6).2).2) := by
      rw [hge, hj, show m - (k + 1) = j by omega]
      simp [getE]
    repeat' (first | apply v_region | apply v_nil | (apply v_pure; (case hop => first | (apply p_move <;> rfl) | (apply p_fieldAddrB <;> rfl) | fail); (case hd => rfl)) | (apply v_read; (case hop => first | (apply r_loadNo; (case hx => rfl); (case h => (repeat (first | exact List.Mem.head _ | apply List.Mem.tail | fail))); (case hd => (repeat (first | with_reducible exact dt_nil | apply dt_here | fail))); (case hn => rfl)) | fail); (case hd => rfl)) | (apply v_buildSlice; (case hz => rfl); (case hi => rfl); (case hv => (simp only [List.map_cons, List.map_nil]; repeat (first | with_reducible exact evs_nil | (apply evs_cons; (case h1 => rfl))))); (case hp => (first | (apply pk_cons; (case hc => rfl); (case hs => rfl); (case h => (first | with_reducible exact pk_nil | fail)); (case he => (first | ((repeat (first | with_reducible exact ap_nil | apply ap_cons)); done) | fail))) | fail)); (case hb => rfl); (case hd => rfl); intro b) | (apply v_store; (case hp => rfl); (case hx => rfl); (case hc => rfl); (case hsz => rfl); (case h1 => rfl); (case hb => (repeat (first | exact List.Mem.head _ | apply List.Mem.tail | fail))); (case hfit => first | exact Nat.le_of_ble_eq_true rfl | fail); (case hov => (first | ((repeat (first | with_reducible exact ov_nil | apply ov_cons | fail)); done) | fail)); (case hu => repeat (first | exact Upd.here _ _ | apply Upd.there | fail))) | fail)
    refine v_append (e := 50) (agg := true) (sz := 10) (bytes := 104) (zero := zE) rfl (by omega) rfl rfl hg (PickA.perm (by repeat (first | exact PickA.here _ | apply PickA.cons | fail))) (m' := 1) (us := Ent.cells ⟨nV sk, nV (nS sk), nV (nS (nS sk)), (getW (wantB v (nV (nS (nS (nS sk))))) (nS (nS (nS sk))) 6).1⟩) (Src.own (e := 50) (List.Mem.head _) rfl) rfl (by omega) (by simp only [maxLen]; omega) rfl fun v1 ν1 hg1 => ?_
    repeat' (first | apply v_region | apply v_nil | apply v_blk | (apply v_pure; (case hop => first | (apply p_move <;> rfl) | (apply p_assign <;> rfl) | (apply p_add; (case hx => rfl); (case hy => rfl); (case h => omega)) | fail); (case hd => rfl)) | fail)
    refine v_drop (ν := ν1 ++ [(rb, _)]) (List.Sublist.append (List.Sublist.refl _) (by repeat (first | exact List.nil_sublist _ | apply List.Sublist.cons_cons | apply List.Sublist.cons | fail))) ?_
    refine v_again rfl ⟨GH.le_refl _, k + 1, out ++ [⟨nV sk, nV (nS sk), nV (nS (nS sk)), (getW (wantB v (nV (nS (nS (nS sk))))) (nS (nS (nS sk))) 6).1⟩], v1, ν1, _, a6, no6, hs2.mono hle3, by omega, rfl, rfl, ?_, by simp; omega, hr6, hge2⟩ (by simp [headI]; omega)
    rw [esC_append, List.length_append]
    simpa [esC] using hg1
  · obtain rfl : k = m := by omega
    rw [Nat.sub_self] at hge
    have e2 : getE v 0 sk = ([], sk) := rfl
    rw [e2, List.append_nil] at hge
    rw [hge] at hok ⊢
    obtain ⟨A0, c0, rfl, -, -⟩ := hg.shape
    repeat' (first | apply v_seq | apply v_region | apply v_nil | (apply v_exit; (case hp => rfl)) | (apply v_pure; (case hop => first | (apply p_move <;> rfl) | (apply p_lt <;> rfl) | (apply p_assign <;> rfl) | fail); (case hd => rfl)) | (apply v_cond; (case hc => rfl); all_goals (intro h; (try simp only [reduceCtorEq, dec_true, dec_false, decide_eq_true_eq, decide_eq_false_iff_not, Bool.not_eq_true', Bool.not_eq_false', Option.isNone_iff_eq_none, beq_true, beq_false, beq_iff_eq, beq_eq_false_iff_ne, ne_eq, decide_eq_decide, Bool.not_eq_true, Bool.not_eq_false, Decidable.not_not] at h); first | (exfalso; omega) | skip)) | fail)
    refine v_frz ν (by repeat (first | exact PickA.here _ | fail)) ?_
    intro G3 hle3 hG3
    refine v_ret [(rb, _)] (outsA1 rfl rfl) (by repeat (first | exact List.Sublist.refl _ | fail)) ?_
    exact ⟨es_of_grow hg hG3 hok, a2, no2, rfl, hr2⟩
end Go.Proofs.YtnoiahlpmgbhfaaDoor
/-
  recone (layer 16), the sixth part: the example; ReconeChecks.
-/
set_option linter.unusedSimpArgs false
set_option linter.unusedVariables false
namespace Go.Proofs.YtnoiahlpmgbhfaaDoor
open Go.Vx Go.ChangeShapes Go.WideShapes Go.ChangeAt Go.RowKit
def exRc : Rc := ⟨1, 2, 3, 0, zeroCm, []⟩
theorem exRc_older : olderI exRc = 0 := by
  have h1 : recI 1 2 3 0 zeroCm 0 = 0 := by
    unfold recI ranP mayP
    rw [if_neg (by omega), if_neg (by simp), if_neg (by omega), if_neg (by simp), if_neg]
    unfold othP
    simp
  have h2 : recI exRc.kind exRc.round exRc.node exRc.index exRc.cmd exRc.image.length = 0 := h1
  rw [olderI, h2]
  simp [exRc]
theorem zeroCm_ok : zeroCm.ok := by
  refine ⟨?_, ?_, ?_, ?_, ?_, ?_, ?_⟩ <;> decide
theorem exVb : [] ++ vbytes 1 ++ vbytes 2 ++ vbytes 3 ++ vbytes 0 = [1, 2, 3, 0] := by decide
theorem encodeEx_s {G : GH} (hT : TabsG G) : Con Tryd.prog 50 #[.agg (recL 1 2 3 0 zeroCm (.slice none 0 0)).toArray] G [] (fun r G' μ' => μ' = [] ∧ ∃ v, r = .tuple [v, .int .i64 0].toArray ∧ Sl G' 1 (IntR .u8) v [1, 2, 3, 0]) := by
  have qo := older_s hT (x := exRc) ⟨_, rfl, Sl.nil⟩ zeroCm_ok
  rw [exRc_older] at qo
  have qf := fun G' => rfields_s G' 1
  refine v_enter Tryd.func50 rfl Tryd.ntmps50 rfl (fun B => ?_)
  repeat' (first | apply v_seq | apply v_region | apply v_nil | apply v_skip | (apply v_pure; (case hop => first | (apply p_move <;> rfl) | (apply p_nes <;> rfl) | (apply p_assign <;> rfl) | (apply p_fieldAddrB <;> rfl) | (apply p_build; (case hz => rfl); (case hv => (simp only [List.map_cons, List.map_nil]; repeat (first | with_reducible exact evs_nil | fail))); (case hb => (apply bldL; repeat (first | exact bld_nil | fail)))) | fail); (case hd => rfl)) | (apply v_condF; (case hc => rfl)) | (apply v_box (zs := recL 1 2 3 0 zeroCm (.slice none 0 0)); (case hx => rfl); (case hz => rfl); (case hd => rfl); intro rb) | (apply v_box (zs := [.slice none 0 0]); (case hx => rfl); (case hz => rfl); (case hd => rfl); intro wb) | (apply v_callJ (hs := qo); (case ha => rfl); (case hd => rfl)) | (apply v_read; (case hop => first | (apply r_loadNo; (case hx => rfl); (case h => (repeat (first | exact List.Mem.head _ | fail))); (case hd => (repeat (first | with_reducible exact dt_nil | apply dt_here | fail))); (case hn => rfl)) | (apply r_load1; rfl; (apply Cell.own; (case h => (repeat (first | exact List.Mem.head _ | apply List.Mem.tail | fail))); rfl)) | fail); (case hd => rfl)) | fail)
  refine v_call (μ1 := [(wb, _)]) (μ2 := _) rfl (wnumber_s wb 1 Sl.nil (by simp) (by omega)) (List.Perm.refl _) rfl ?_
  rintro r1 G1 _ hle1 ⟨v1, rfl, h1⟩
  repeat' (first | apply v_seq | apply v_region | apply v_nil | (apply v_pure; (case hop => first | (apply p_move <;> rfl) | (apply p_fieldAddrB <;> rfl) | fail); (case hd => rfl)) | (apply v_read; (case hop => first | (apply r_load1; rfl; (apply Cell.own; (case h => (repeat (first | exact List.Mem.head _ | apply List.Mem.tail | fail))); rfl)) | fail); (case hd => rfl)) | fail)
  refine v_call (μ1 := [(wb, _)]) (μ2 := _) rfl (wnumber_s wb 2 h1 (by decide) (by omega)) (List.Perm.refl _) rfl ?_
  rintro r2 G2 _ hle2 ⟨v2, rfl, h2⟩
  repeat' (first | apply v_seq | apply v_region | apply v_nil | (apply v_pure; (case hop => first | (apply p_move <;> rfl) | (apply p_fieldAddrB <;> rfl) | fail); (case hd => rfl)) | (apply v_read; (case hop => first | (apply r_load1; rfl; (apply Cell.own; (case h => (repeat (first | exact List.Mem.head _ | apply List.Mem.tail | fail))); rfl)) | fail); (case hd => rfl)) | fail)
  refine v_call (μ1 := [(wb, _)]) (μ2 := _) rfl (wnumber_s wb 3 h2 (by decide) (by omega)) (List.Perm.refl _) rfl ?_
  rintro r3 G3 _ hle3 ⟨v3, rfl, h3⟩
  repeat' (first | apply v_seq | apply v_region | apply v_nil | (apply v_pure; (case hop => first | (apply p_move <;> rfl) | (apply p_fieldAddrB <;> rfl) | fail); (case hd => rfl)) | (apply v_read; (case hop => first | (apply r_load1; rfl; (apply Cell.own; (case h => (repeat (first | exact List.Mem.head _ | apply List.Mem.tail | fail))); rfl)) | fail); (case hd => rfl)) | fail)
  refine v_call (μ1 := [(wb, _)]) (μ2 := _) rfl (wnumber_s wb 0 h3 (by decide) (by omega)) (List.Perm.refl _) rfl ?_
  rintro r4 G4 _ hle4 ⟨v4, rfl, h4⟩
  repeat' (first | apply v_seq | apply v_region | apply v_nil | apply v_skip | apply v_block | apply v_blk | (apply v_pure; (case hop => first | (apply p_move <;> rfl) | (apply p_assign <;> rfl) | (apply p_fieldAddrB <;> rfl) | (apply p_extract0 <;> rfl) | (apply p_extract1 <;> rfl) | fail); (case hd => rfl)) | (apply v_condF; (case hc => rfl)) | (apply v_callJ (hs := qf _); (case ha => rfl); (case hd => rfl)) | (apply v_read; (case hop => first | (apply r_load1; rfl; (apply Cell.own; (case h => (repeat (first | exact List.Mem.head _ | apply List.Mem.tail | fail))); rfl)) | fail); (case hd => rfl)) | (apply v_alloc; (case hz => rfl); (case hd => rfl); intro b) | (apply v_store; (case hp => rfl); (case hx => rfl); (case hc => rfl); (case hsz => rfl); (case h1 => rfl); (case hb => (repeat (first | exact List.Mem.head _ | fail))); (case hfit => first | exact Nat.le_of_ble_eq_true rfl | fail); (case hov => (first | ((repeat (first | with_reducible exact ov_nil | apply ov_cons | fail)); done) | fail)); (case hu => repeat (first | exact Upd.here _ _ | fail))) | fail)
  rw [exVb] at h4
  refine v_call (μ2 := _) rfl (wbytes_s wb h4 (by decide)) (PickA.perm (by repeat (first | exact PickA.here _ | apply PickA.cons | fail))) rfl ?_
  rintro r5 G5 _ hle5 ⟨rfl, h5⟩
  repeat' (first | apply v_nil | (apply v_pure; (case hop => first | (apply p_assign <;> rfl) | fail); (case hd => rfl)) | fail)
  refine v_ret [] (outsA2 rfl rfl rfl) (by repeat (first | exact List.nil_sublist _ | fail)) ?_
  exact ⟨rfl, _, rfl, h5⟩
theorem awake16_s {G : GH} (hT : TabsG G) : Con Tryd.prog 11 #[] G [] (Just (.bool true) G) := by
  apply Con.just
  refine v_enter Tryd.func11 rfl Tryd.ntmps11 rfl (fun B => ?_)
  repeat' (first | apply v_seq | apply v_region | apply v_nil | (apply v_pure; (case hop => first | (apply p_assign <;> rfl) | (apply p_build; (case hz => rfl); (case hv => (simp only [List.map_cons, List.map_nil]; repeat (first | with_reducible exact evs_nil | (apply evs_cons; (case h1 => rfl))))); (case hb => (apply bldL; repeat (first | exact bld_nil | (apply bld_cons; (case hpf => rfl); (case hc => rfl); (case hs => rfl); (case hl => rfl); (case ho => (first | ((repeat (first | with_reducible exact ov_nil | apply ov_cons | fail)); done) | fail))))))) | fail); (case hd => rfl)) | fail)
  refine v_call (μ1 := []) (μ2 := _) rfl (encodeEx_s hT) (List.Perm.refl _) rfl ?_
  rintro r G' μ1 hle ⟨rfl, v, rfl, hv⟩
  obtain ⟨A, c, rfl, hlc, hcm, hsome, hel, _⟩ := hv.openInt
  simp only [maxLen] at hcm
  have e0 : GH.cell? G' ((adr A).add ((0 : Int).toNat * 1)) = some (.int .u8 1) := hel 0 (by decide)
  have e2 : GH.cell? G' ((adr A).add ((2 : Int).toNat * 1)) = some (.int .u8 3) := hel 2 (by decide)
  have hA := hsome (by decide)
  have hl4 : ([1, 2, 3, 0] : List Int).length = 4 := rfl
  repeat' (first | apply v_seq | apply v_region | apply v_nil | (apply v_take; (case hg => rfl)) | (apply v_pure; (case hop => first | (apply p_move <;> rfl) | (apply p_eqs <;> rfl) | (apply p_assign <;> rfl) | (apply p_pickT <;> rfl) | (apply p_lenSlice <;> rfl) | (apply p_extract0 <;> rfl) | (apply p_extract1 <;> rfl) | (apply p_indexAddrS; (case hx => rfl); (case hi => rfl); (case h0 => omega); (case h => omega); (case hA => first | assumption | fail)) | fail); (case hd => rfl)) | (apply v_read; (case hop => first | (apply r_load1; rfl; exact Cell.frozen e0) | (apply r_load1; rfl; exact Cell.frozen e2)); (case hd => rfl)) | fail)
  refine v_ret [] (outsA1 rfl rfl) (by repeat (first | exact List.Sublist.refl _ | fail)) ?_
  exact ⟨rfl, rfl⟩
end Go.Proofs.YtnoiahlpmgbhfaaDoor
/-
  recone (layer 16), the eighth part: what a version has, by the reference.
-/
set_option linter.unusedSimpArgs false
set_option linter.unusedVariables false
namespace Go.Proofs.YtnoiahlpmgbhfaaDoor
open Go.Vx Go.ChangeShapes Go.WideShapes Go.ChangeAt Go.RowKit
theorem refHas16_s {G : GH} {x : Rc} {xv : Value} (hx : RcV G x xv) (hc : x.cmd.ok) : Con Tryd.prog 14 #[.int .i64 1, xv] G [] (Just (.int .i64 (olderI x)) G) := by
  obtain ⟨k, r, n, i, c, im⟩ := x
  obtain ⟨iv, rfl, hi⟩ := hx
  obtain ⟨A, cp, rfl, hlc, hcm, _⟩ := hi.openInt
  simp only [maxLen] at hcm
  simp only at hc hlc hi
  have q := refRecCheck_s (G := G) k r n i c hc A im.length cp (by omega)
  have qf := hasCmd_s G k
  have qv := refVHas_s G 1 c.kind
  have ho : olderI ⟨k, r, n, i, c, im⟩ = if recI k r n i c im.length ≠ 0 then recI k r n i c im.length else if (k = 2 ∨ k = 3) ∧ ¬ HasV 1 c.kind then 8 else 0 := rfl
  rw [ho]
  generalize recI k r n i c im.length = I at *
  apply Con.just
  refine v_enter Tryd.func14 rfl Tryd.ntmps14 rfl (fun B => ?_)
  repeat' (first | apply v_seq | apply v_region | apply v_nil | apply v_skip | apply v_block | apply v_blk | (apply v_exit; (case hp => rfl)) | (apply v_take; (case hg => rfl)) | (apply v_pass; (case hg => rfl); (case hn => rfl); (case hd => rfl)) | (apply v_passN; (case hg => rfl); (case hn => rfl); (case hd => rfl)) | (apply v_pure; (case hop => first | (apply p_move <;> rfl) | (apply p_nes <;> rfl) | (apply p_neBs <;> rfl) | (apply p_ne <;> rfl) | (apply p_assign <;> rfl) | (apply p_pickT <;> rfl) | (apply p_pickF <;> rfl) | (apply p_not <;> rfl) | (apply p_fieldAddrB <;> rfl) | (apply p_fieldAddr <;> rfl) | (apply p_neB <;> rfl) | (apply p_neNil <;> rfl) | (apply p_pickAnd <;> rfl) | (apply p_pickOr <;> rfl) | (apply p_neS <;> rfl) | (apply p_neNilSlice <;> rfl)); (case hd => rfl)) | (apply v_condT; (case hc => rfl)) | (apply v_condF; (case hc => rfl)) | (apply v_cond; (case hc => rfl); all_goals (intro h; (try simp only [reduceCtorEq, dec_true, dec_false, decide_eq_true_eq, decide_eq_false_iff_not, Bool.not_eq_true', Bool.not_eq_false', Option.isNone_iff_eq_none, beq_true, beq_false, beq_iff_eq, beq_eq_false_iff_ne, ne_eq, decide_eq_decide, Bool.not_eq_true, Bool.not_eq_false, Decidable.not_not] at h); first | done | (exfalso; omega) | (exfalso; exact h (by with_reducible assumption)) | (exfalso; revert h; rw [imp_false]; with_reducible assumption) | skip)) | (apply v_guardB; (case h1 => rfl); (case h2 => rfl); all_goals (intro h; (try simp only [reduceCtorEq, dec_true, dec_false, decide_eq_true_eq, decide_eq_false_iff_not, Bool.not_eq_true', Bool.not_eq_false', Option.isNone_iff_eq_none, beq_true, beq_false, beq_iff_eq, beq_eq_false_iff_ne, ne_eq, decide_eq_decide, Bool.not_eq_true, Bool.not_eq_false, Decidable.not_not] at h); first | done | (exfalso; omega) | (exfalso; exact h (by with_reducible assumption)) | (exfalso; revert h; rw [imp_false]; with_reducible assumption) | skip)) | (apply v_box (zs := recL k r n i c (.slice A im.length cp)); (case hx => rfl); (case hz => rfl); (case hd => rfl); intro b1) | (apply v_callJ (hs := q); (case ha => rfl); (case hd => rfl)) | (apply v_callJ (hs := qf); (case ha => rfl); (case hd => rfl)) | (apply v_callJ (hs := qv); (case ha => rfl); (case hd => rfl)) | (apply v_read; (case hop => first | (apply r_loadNo; (case hx => rfl); (case h => (repeat (first | exact List.Mem.head _ | apply List.Mem.tail | apply List.mem_append_right))); (case hd => (repeat (first | with_reducible exact dt_nil | apply dt_here | apply dt_drop))); (case hn => rfl)) | (apply r_load1; rfl; (apply Cell.own; (case h => (repeat (first | exact List.Mem.head _ | apply List.Mem.tail | apply List.mem_append_right))); rfl)) | (apply r_loadN; rfl; (apply CellsAt.own; (case h => (repeat (first | exact List.Mem.head _ | apply List.Mem.tail | apply List.mem_append_right)))); rfl)); (case hd => rfl)) | (apply v_box; (case hx => rfl); (case hz => rfl); (case hd => rfl); intro b) | fail)
  all_goals
    (refine v_ret [] (outsA1 rfl rfl) (by repeat (first | exact List.Sublist.refl _ | exact List.nil_sublist _ | apply List.Sublist.cons_cons | apply List.Sublist.cons | exact List.sublist_append_left _ _ | apply List.sublist_append_of_sublist_right)) ?_
     refine ⟨?_, rfl⟩
     clear q qf qv
     simp [*])
end Go.Proofs.YtnoiahlpmgbhfaaDoor
/-
  rectwo (layer 17), the first part: Encode.
-/
set_option linter.unusedSimpArgs false
set_option linter.unusedVariables false
namespace Go.Proofs.YtnoiahlpmgbhfaaDoor
open Go.Vx Go.ChangeShapes Go.WideShapes Go.ChangeAt Go.RowKit
/-- A writer, the box of its pointer, a record. -/
abbrev twoW (wb pb xb : Nat) (sv : Value) (k r n i : Int) (c : Cm) (iv : Value) : OH := [(wb, .cells [sv].toArray 66 (0, 0)), (pb, .cells [.pointer (some ⟨wb, 0, none⟩)].toArray 64 (0, 0)), (xb, .cells (recL k r n i c iv).toArray 29 (0, 0))]
/-- A function that puts bytes behind a writer's. -/
def PutsW (G0 : GH) (f : FuncId) (wb pb xb : Nat) (k r n i : Int) (c : Cm) (iv : Value) (add : List Int) : Prop := ∀ (G : GH) (sv : Value) (l : List Int), GH.le G0 G → Sl G 1 (IntR .u8) sv l → l.length ≤ 50000 →
  Con Tryd.prog f #[.pointer (some ⟨pb, 0, none⟩), .pointer (some ⟨xb, 0, none⟩)] G (twoW wb pb xb sv k r n i c iv) (fun r' G' μ' => ∃ v', μ' = twoW wb pb xb v' k r n i c iv ∧ Sl G' 1 (IntR .u8) v' (l ++ add))
theorem enc1_s (G0 : GH) (wb pb xb : Nat) (k r n i : Int) (c : Cm) (iv : Value) (hr : r ≤ 9223372036854775807) (hn : n ≤ 9223372036854775807) : PutsW G0 110 wb pb xb k r n i c iv (vbytes r ++ vbytes n) := by
  intro G sv l hle hs hl
  refine v_enter Tryd.func110 rfl Tryd.ntmps110 rfl (fun B => ?_)
  repeat' (first | apply v_seq | apply v_region | (apply v_pure; (case hop => first | (apply p_fieldAddrB <;> rfl) | fail); (case hd => rfl)) | (apply v_read; (case hop => first | (apply r_load1; rfl; (apply Cell.own; (case h => (repeat (first | exact List.Mem.head _ | apply List.Mem.tail | fail))); rfl)) | fail); (case hd => rfl)) | fail)
  refine v_call (μ1 := [(wb, _)]) (μ2 := _) rfl (wnumber_s wb r hs (by omega) hr) (PickA.perm (by repeat (first | exact PickA.here _ | fail))) rfl ?_
  rintro r1 G1 _ hle1 ⟨v1, rfl, h1⟩
  repeat' (first | apply v_region | apply v_nil | (apply v_pure; (case hop => first | (apply p_fieldAddrB <;> rfl) | fail); (case hd => rfl)) | (apply v_read; (case hop => first | (apply r_load1; rfl; (apply Cell.own; (case h => (repeat (first | exact List.Mem.head _ | apply List.Mem.tail | fail))); rfl)) | fail); (case hd => rfl)) | fail)
  refine v_call (μ1 := [(wb, _)]) (μ2 := _) rfl (wnumber_s wb n h1 (by have := (vbytes_len r).1; simp; omega) hn) (PickA.perm (by repeat (first | exact PickA.here _ | fail))) rfl ?_
  rintro r2 G2 _ hle2 ⟨v2, rfl, h2⟩
  repeat' (first | apply v_nil | fail)
  refine v_end [(wb, _), (pb, _), (xb, _)] (outsA0 rfl) (by repeat (first | exact List.Sublist.refl _ | fail)) ?_
  exact ⟨v2, rfl, by rw [List.append_assoc] at h2; exact h2⟩
theorem enc2_s (G0 : GH) (wb pb xb : Nat) (k r n i : Int) (c : Cm) (iv : Value) (hi : i ≤ 9223372036854775807) : PutsW G0 111 wb pb xb k r n i c iv (vbytes i) := by
  intro G sv l hle hs hl
  refine v_enter Tryd.func111 rfl Tryd.ntmps111 rfl (fun B => ?_)
  repeat' (first | apply v_region | (apply v_pure; (case hop => first | (apply p_fieldAddrB <;> rfl) | fail); (case hd => rfl)) | (apply v_read; (case hop => first | (apply r_load1; rfl; (apply Cell.own; (case h => (repeat (first | exact List.Mem.head _ | apply List.Mem.tail | fail))); rfl)) | fail); (case hd => rfl)) | fail)
  refine v_call (μ1 := [(wb, _)]) (μ2 := _) rfl (wnumber_s wb i hs (by omega) hi) (PickA.perm (by repeat (first | exact PickA.here _ | fail))) rfl ?_
  rintro r1 G1 _ hle1 ⟨v1, rfl, h1⟩
  repeat' (first | apply v_nil | fail)
  refine v_end [(wb, _), (pb, _), (xb, _)] (outsA0 rfl) (by repeat (first | exact List.Sublist.refl _ | fail)) ?_
  exact ⟨v1, rfl, h1⟩
theorem enc3_s (G0 : GH) (wb pb xb : Nat) (k r n i : Int) (c : Cm) (iv : Value) (hc : c.ok) (hk : c.key.size ≤ 1000) (hv : c.val.size ≤ 1000) (ho : c.old.size ≤ 1000) : PutsW G0 112 wb pb xb k r n i c iv (vbytes c.kind ++ putW (wantB 2 c.kind) c 6) := by
  intro G sv l hle hs hl
  refine v_enter Tryd.func112 rfl Tryd.ntmps112 rfl (fun B => ?_)
  repeat' (first | apply v_region | (apply v_pure; (case hop => first | (apply p_fieldAddrB <;> rfl) | fail); (case hd => rfl)) | (apply v_read; (case hop => first | (apply r_loadNo; (case hx => rfl); (case h => (repeat (first | exact List.Mem.head _ | apply List.Mem.tail | fail))); (case hd => (repeat (first | with_reducible exact dt_nil | apply dt_here | fail))); (case hn => rfl)) | (apply r_load1; rfl; (apply Cell.own; (case h => (repeat (first | exact List.Mem.head _ | apply List.Mem.tail | fail))); rfl)) | fail); (case hd => rfl)) | fail)
  refine v_call (μ1 := [(wb, _)]) (μ2 := _) rfl (cputV_s 2 c hc hk hv ho wb hs (by omega)) (PickA.perm (by repeat (first | exact PickA.here _ | fail))) rfl ?_
  rintro r1 G1 _ hle1 ⟨v1, rfl, h1⟩
  repeat' (first | apply v_nil | fail)
  refine v_end [(wb, _), (pb, _), (xb, _)] (outsA0 rfl) (by repeat (first | exact List.Sublist.refl _ | fail)) ?_
  exact ⟨v1, rfl, by rw [List.append_assoc] at h1; exact h1⟩
theorem enc4_s {G0 : GH} (wb pb xb : Nat) (k r n i : Int) (c : Cm) {A : Option Addr} {cp : Nat} {im : List Int} (hi : Sl G0 1 (IntR .u8) (.slice A im.length cp) im) (hm : im.length ≤ 40000) : PutsW G0 113 wb pb xb k r n i c (.slice A im.length cp) (vbytes im.length ++ im) := by
  intro G sv l hle hs hl
  refine v_enter Tryd.func113 rfl Tryd.ntmps113 rfl (fun B => ?_)
  repeat' (first | apply v_region | (apply v_pure; (case hop => first | (apply p_fieldAddrB <;> rfl) | fail); (case hd => rfl)) | (apply v_read; (case hop => first | (apply r_load1; rfl; (apply Cell.own; (case h => (repeat (first | exact List.Mem.head _ | apply List.Mem.tail | fail))); rfl)) | fail); (case hd => rfl)) | fail)
  refine v_call (μ1 := [(wb, _)]) (μ2 := _) rfl (wraw_s wb hs (hi.mono hle) (by omega) (by omega)) (PickA.perm (by repeat (first | exact PickA.here _ | fail))) rfl ?_
  rintro r1 G1 _ hle1 ⟨v1, rfl, h1⟩
  repeat' (first | apply v_nil | fail)
  refine v_end [(wb, _), (pb, _), (xb, _)] (outsA0 rfl) (by repeat (first | exact List.Sublist.refl _ | fail)) ?_
  exact ⟨v1, rfl, by rw [List.append_assoc] at h1; exact h1⟩
theorem whenW_s {G0 : GH} {f : FuncId} [Callable Tryd.prog f] {wb pb xb : Nat} {k r n i : Int} {c : Cm} {iv : Value} {add : List Int} (hf : PutsW G0 f wb pb xb k r n i c iv add) (b : Bool) {G : GH} {sv : Value} {l : List Int} (hle : GH.le G0 G) (hs : Sl G 1 (IntR .u8) sv l) (hl : l.length ≤ 50000) :
    Con Tryd.prog 149 #[.bool b, .func (.func f) #[] #[.pointer (some ⟨pb, 0, none⟩), .pointer (some ⟨xb, 0, none⟩)]] G (twoW wb pb xb sv k r n i c iv) (fun r' G' μ' => ∃ v', μ' = twoW wb pb xb v' k r n i c iv ∧ Sl G' 1 (IntR .u8) v' (l ++ (if b then add else []))) := by
  have q := hf G sv l hle hs hl
  refine v_enter Tryd.func149 rfl Tryd.ntmps149 rfl (fun B => ?_)
  cases b
  · repeat' (first | apply v_seq | apply v_region | apply v_nil | apply v_skip | (apply v_pure; (case hop => first | (apply p_move <;> rfl)); (case hd => rfl)) | (apply v_condF; (case hc => rfl)) | fail)
    refine v_end [(wb, _), (pb, _), (xb, _)] (outsA0 rfl) (by repeat (first | exact List.Sublist.refl _ | fail)) ?_
    exact ⟨sv, rfl, by simpa using hs⟩
  · repeat' (first | apply v_seq | apply v_region | apply v_nil | (apply v_pure; (case hop => first | (apply p_move <;> rfl)); (case hd => rfl)) | (apply v_condT; (case hc => rfl)) | fail)
    refine v_callC (first := []) (captured := [.pointer (some ⟨pb, 0, none⟩), .pointer (some ⟨xb, 0, none⟩)]) (vs := []) rfl rfl q (List.Perm.refl _) rfl ?_
    rintro r1 G1 _ hle1 ⟨v1, rfl, h1⟩
    repeat' (first | apply v_nil | fail)
    refine v_end [(wb, _), (pb, _), (xb, _)] (outsA0 rfl) (by repeat (first | exact List.Sublist.refl _ | fail)) ?_
    exact ⟨v1, rfl, by simpa using h1⟩
/-- A record's bytes in F2, behind the first one. -/
def tailT (x : Rc) : List Int := (if x.kind = 1 ∨ x.kind = 2 then vbytes x.round ++ vbytes x.node else []) ++ (if x.kind = 1 then [] else vbytes x.index) ++ (if x.kind = 2 ∨ x.kind = 3 then vbytes x.cmd.kind ++ putW (wantB 2 x.cmd.kind) x.cmd 6 else []) ++ (if x.kind = 4 then vbytes x.image.length ++ x.image else [])
def encT (x : Rc) : List Int := vbytes (x.kind + 16) ++ tailT x
abbrev clo (f : FuncId) (pb xb : Nat) : Value := .func (.func f) #[] #[.pointer (some ⟨pb, 0, none⟩), .pointer (some ⟨xb, 0, none⟩)]
theorem ifs {b : Bool} {p : Prop} [Decidable p] {a z : List Int} (h : b = true ↔ p) : (if b = true then a else z) = (if p then a else z) := by
  by_cases hp : p
  · rw [if_pos hp, if_pos (h.2 hp)]
  · rw [if_neg hp, if_neg fun e => hp (h.1 e)]
theorem lenIf {b : Bool} {l a : List Int} {m p : Nat} (h : l.length ≤ m) (h2 : a.length ≤ p) : (l ++ (if b = true then a else [])).length ≤ m + p := by
  rw [List.length_append]
  cases b <;> simp <;> omega
def walkL (k : Int) (a1 a2 a3 a4 : List Int) : List Int := (((if k = 1 ∨ k = 2 then a1 else []) ++ (if k = 1 then [] else a2)) ++ (if k = 2 ∨ k = 3 then a3 else [])) ++ (if k = 4 then a4 else [])
theorem walkW_s {G0 : GH} {wb pb xb : Nat} {k k' r n i : Int} {c : Cm} {iv : Value} {a1 a2 a3 a4 : List Int} (hk : k = 1 ∨ k = 2 ∨ k = 3 ∨ k = 4) (h1 : PutsW G0 110 wb pb xb k' r n i c iv a1) (h2 : PutsW G0 111 wb pb xb k' r n i c iv a2) (h3 : PutsW G0 112 wb pb xb k' r n i c iv a3) (h4 : PutsW G0 113 wb pb xb k' r n i c iv a4)
    (l1 : a1.length ≤ 100) (l2 : a2.length ≤ 100) (l3 : a3.length ≤ 10000) {G : GH} {sv : Value} {l : List Int} (hle : GH.le G0 G) (hs : Sl G 1 (IntR .u8) sv l) (hl : l.length ≤ 1000) :
    Con Tryd.prog 109 #[.int .i64 k, clo 110 pb xb, clo 111 pb xb, clo 112 pb xb, clo 113 pb xb] G (twoW wb pb xb sv k' r n i c iv) (fun r' G' μ' => ∃ v', μ' = twoW wb pb xb v' k' r n i c iv ∧ Sl G' 1 (IntR .u8) v' (l ++ walkL k a1 a2 a3 a4)) := by
  refine v_enter Tryd.func109 rfl Tryd.ntmps109 rfl (fun B => ?_)
  obtain rfl | rfl | rfl | rfl := hk
  all_goals
    (repeat' (first | apply v_seq | apply v_region | (apply v_take; (case hg => rfl)) | (apply v_pass; (case hg => rfl); (case hn => rfl); (case hd => rfl)) | (apply v_pure; (case hop => first | (apply p_move <;> rfl) | (apply p_eqs <;> rfl) | (apply p_eq <;> rfl) | (apply p_pickT <;> rfl) | (apply p_pickF <;> rfl) | fail); (case hd => rfl)) | (apply v_guardB; (case h1 => rfl); (case h2 => rfl); all_goals (intro h; (try simp only [reduceCtorEq, dec_true, dec_false, decide_eq_true_eq, decide_eq_false_iff_not, Bool.not_eq_true', Bool.not_eq_false', Option.isNone_iff_eq_none, beq_true, beq_false, beq_iff_eq, beq_eq_false_iff_ne, ne_eq, decide_eq_decide, Bool.not_eq_true, Bool.not_eq_false, Decidable.not_not] at h); first | (exfalso; omega) | skip)) | fail)
     refine v_call (μ1 := twoW wb pb xb sv k' r n i c iv) (μ2 := []) rfl (whenW_s h1 _ hle hs (by omega)) (by simp) rfl ?_
     rintro r1 G1 _ hle1 ⟨v1, rfl, s1⟩
     repeat' (first | apply v_seq | apply v_region | apply v_nil | (apply v_pure; (case hop => first | (apply p_move <;> rfl) | (apply p_nes <;> rfl) | (apply p_ne <;> rfl) | fail); (case hd => rfl)) | fail)
     refine v_call (μ1 := twoW wb pb xb v1 k' r n i c iv) (μ2 := []) rfl (whenW_s h2 _ (GH.le_trans hle hle1) s1 (Nat.le_trans (lenIf hl l1) (by decide))) (by simp) rfl ?_
     rintro r2 G2 _ hle2 ⟨v2, rfl, s2⟩
     repeat' (first | apply v_seq | apply v_region | apply v_nil | (apply v_take; (case hg => rfl)) | (apply v_pass; (case hg => rfl); (case hn => rfl); (case hd => rfl)) | (apply v_pure; (case hop => first | (apply p_move <;> rfl) | (apply p_eqs <;> rfl) | (apply p_eq <;> rfl) | (apply p_pickT <;> rfl) | (apply p_pickF <;> rfl) | fail); (case hd => rfl)) | (apply v_guardB; (case h1 => rfl); (case h2 => rfl); all_goals (intro h; (try simp only [reduceCtorEq, dec_true, dec_false, decide_eq_true_eq, decide_eq_false_iff_not, Bool.not_eq_true', Bool.not_eq_false', Option.isNone_iff_eq_none, beq_true, beq_false, beq_iff_eq, beq_eq_false_iff_ne, ne_eq, decide_eq_decide, Bool.not_eq_true, Bool.not_eq_false, Decidable.not_not] at h); first | (exfalso; omega) | skip)) | fail)
     refine v_call (μ1 := twoW wb pb xb v2 k' r n i c iv) (μ2 := []) rfl (whenW_s h3 _ (GH.le_trans (GH.le_trans hle hle1) hle2) s2 (Nat.le_trans (lenIf (lenIf hl l1) l2) (by decide))) (by simp) rfl ?_
     rintro r3 G3 _ hle3 ⟨v3, rfl, s3⟩
     repeat' (first | apply v_region | apply v_nil | (apply v_pure; (case hop => first | (apply p_move <;> rfl) | (apply p_eqs <;> rfl) | (apply p_eq <;> rfl) | fail); (case hd => rfl)) | fail)
     refine v_call (μ1 := twoW wb pb xb v3 k' r n i c iv) (μ2 := []) rfl (whenW_s h4 _ (GH.le_trans (GH.le_trans (GH.le_trans hle hle1) hle2) hle3) s3 (Nat.le_trans (lenIf (lenIf (lenIf hl l1) l2) l3) (by decide))) (by simp) rfl ?_
     rintro r4 G4 _ hle4 ⟨v4, rfl, s4⟩
     repeat' (first | apply v_nil | fail)
     refine v_end (twoW wb pb xb v4 k' r n i c iv) (outsA0 rfl) (by simp) ?_
     refine ⟨v4, rfl, ?_⟩
     simpa [dec_eq, walkL] using s4)
end Go.Proofs.YtnoiahlpmgbhfaaDoor
/-
  recone (layer 16), the ninth part: Encode, of any record.
-/
set_option linter.unusedSimpArgs false
set_option linter.unusedVariables false
namespace Go.Proofs.YtnoiahlpmgbhfaaDoor
open Go.Vx Go.ChangeShapes Go.WideShapes Go.ChangeAt Go.RowKit
/-- The bytes of a record. -/
def headL (x : Rc) : List Int := [] ++ vbytes x.kind ++ vbytes x.round ++ vbytes x.node ++ vbytes x.index
def encL (x : Rc) : List Int := if x.kind = 2 ∨ x.kind = 3 then headL x ++ vbytes x.cmd.kind ++ putL x.cmd 6 else if x.kind = 4 then headL x ++ vbytes x.image.length ++ x.image else headL x
theorem headL_len (x : Rc) : (headL x).length ≤ 44 := by
  unfold headL
  simp only [List.length_append, List.length_nil]
  have h1 := (vbytes_len x.kind).1
  have h2 := (vbytes_len x.round).1
  have h3 := (vbytes_len x.node).1
  have h4 := (vbytes_len x.index).1
  omega
/-- No field is out of what 64 bits hold. -/
def Rc.small (x : Rc) : Prop := x.kind ≤ 9223372036854775807 ∧ x.round ≤ 9223372036854775807 ∧ x.node ≤ 9223372036854775807 ∧ x.index ≤ 9223372036854775807
def EncR (x : Rc) (r : Value) (G' : GH) (μ' : OH) : Prop := μ' = [] ∧ ∃ v, r = .tuple [v, .int .i64 (olderI x)].toArray ∧ Sl G' 1 (IntR .u8) v (if olderI x = 0 then encL x else [])
theorem encode_s {G : GH} (hT : TabsG G) {x : Rc} {xv : Value} (hx : RcV G x xv) (hc : x.cmd.ok) (hl : ¬ x.large) (hw : x.small) : Con Tryd.prog 50 #[xv] G [] (EncR x) := by
  have qo := older_s hT hx hc
  have hhl := headL_len x
  by_cases h0 : olderI x = 0
  rotate_left
  · obtain ⟨iv, rfl, hi⟩ := hx
    unfold EncR
    rw [if_neg h0]
    generalize olderI x = o at *
    refine v_enter Tryd.func50 rfl Tryd.ntmps50 rfl (fun B => ?_)
    repeat' (first | apply v_seq | apply v_region | apply v_nil | (apply v_pure; (case hop => first | (apply p_move <;> rfl) | (apply p_ne <;> rfl) | (apply p_assign <;> rfl) | fail); (case hd => rfl)) | (apply v_cond; (case hc => rfl); all_goals (intro h; (try simp only [reduceCtorEq, dec_true, dec_false, decide_eq_true_eq, decide_eq_false_iff_not, Bool.not_eq_true', Bool.not_eq_false', Option.isNone_iff_eq_none, beq_true, beq_false, beq_iff_eq, beq_eq_false_iff_ne, ne_eq, decide_eq_decide, Bool.not_eq_true, Bool.not_eq_false, Decidable.not_not] at h); first | (exfalso; omega) | skip)) | (apply v_box (zs := recL x.kind x.round x.node x.index x.cmd iv); (case hx => rfl); (case hz => rfl); (case hd => rfl); intro rb) | (apply v_callJ (hs := qo); (case ha => rfl); (case hd => rfl)) | (apply v_read; (case hop => first | (apply r_loadNo; (case hx => rfl); (case h => (repeat (first | exact List.Mem.head _ | fail))); (case hd => (repeat (first | with_reducible exact dt_nil | apply dt_here | fail))); (case hn => rfl)) | fail); (case hd => rfl)) | fail)
    refine v_ret [] (outsA2 rfl rfl rfl) (by repeat (first | exact List.nil_sublist _ | fail)) ?_
    exact ⟨rfl, _, rfl, Sl.nil⟩
  rw [h0] at qo
  have hk : 1 ≤ x.kind ∧ x.kind ≤ 4 := by
    by_cases h : x.kind < 1 ∨ 4 < x.kind
    · have : recI x.kind x.round x.node x.index x.cmd x.image.length = 5 := by rw [recI, if_pos h]
      rw [olderI, this] at h0
      simp at h0
    · omega
  have qf := fun G' => rfields_s G' x.kind
  simp only [decide_eq_true hk] at qf
  unfold Rc.large at hl
  unfold EncR
  rw [if_pos h0, h0]
  obtain ⟨hw1, hw2, hw3, hw4⟩ := hw
  obtain ⟨iv, rfl, hi⟩ := hx
  have hiv := hi
  obtain ⟨A, c, rfl, -⟩ := hi.openInt
  refine v_enter Tryd.func50 rfl Tryd.ntmps50 rfl (fun B => ?_)
  repeat' (first | apply v_seq | apply v_region | apply v_nil | apply v_skip | (apply v_pure; (case hop => first | (apply p_move <;> rfl) | (apply p_nes <;> rfl) | (apply p_assign <;> rfl) | (apply p_fieldAddrB <;> rfl) | (apply p_build; (case hz => rfl); (case hv => (simp only [List.map_cons, List.map_nil]; repeat (first | with_reducible exact evs_nil | fail))); (case hb => (apply bldL; repeat (first | exact bld_nil | fail)))) | fail); (case hd => rfl)) | (apply v_condF; (case hc => rfl)) | (apply v_box (zs := recL x.kind x.round x.node x.index x.cmd (.slice A x.image.length c)); (case hx => rfl); (case hz => rfl); (case hd => rfl); intro rb) | (apply v_box (zs := [.slice none 0 0]); (case hx => rfl); (case hz => rfl); (case hd => rfl); intro wb) | (apply v_callJ (hs := qo); (case ha => rfl); (case hd => rfl)) | (apply v_read; (case hop => first | (apply r_loadNo; (case hx => rfl); (case h => (repeat (first | exact List.Mem.head _ | fail))); (case hd => (repeat (first | with_reducible exact dt_nil | apply dt_here | fail))); (case hn => rfl)) | (apply r_load1; rfl; (apply Cell.own; (case h => (repeat (first | exact List.Mem.head _ | apply List.Mem.tail | fail))); rfl)) | fail); (case hd => rfl)) | fail)
  refine v_call (μ1 := [(wb, _)]) (μ2 := _) rfl (wnumber_s wb x.kind Sl.nil (by simp) (by omega)) (List.Perm.refl _) rfl ?_
  rintro r1 G1 _ hle1 ⟨v1, rfl, h1⟩
  repeat' (first | apply v_seq | apply v_region | apply v_nil | (apply v_pure; (case hop => first | (apply p_move <;> rfl) | (apply p_fieldAddrB <;> rfl) | fail); (case hd => rfl)) | (apply v_read; (case hop => first | (apply r_load1; rfl; (apply Cell.own; (case h => (repeat (first | exact List.Mem.head _ | apply List.Mem.tail | fail))); rfl)) | fail); (case hd => rfl)) | fail)
  refine v_call (μ1 := [(wb, _)]) (μ2 := _) rfl (wnumber_s wb x.round h1 (by have := (vbytes_len x.kind).1; simp; omega) (by omega)) (List.Perm.refl _) rfl ?_
  rintro r2 G2 _ hle2 ⟨v2, rfl, h2⟩
  repeat' (first | apply v_seq | apply v_region | apply v_nil | (apply v_pure; (case hop => first | (apply p_move <;> rfl) | (apply p_fieldAddrB <;> rfl) | fail); (case hd => rfl)) | (apply v_read; (case hop => first | (apply r_load1; rfl; (apply Cell.own; (case h => (repeat (first | exact List.Mem.head _ | apply List.Mem.tail | fail))); rfl)) | fail); (case hd => rfl)) | fail)
  refine v_call (μ1 := [(wb, _)]) (μ2 := _) rfl (wnumber_s wb x.node h2 (by have := (vbytes_len x.kind).1; have := (vbytes_len x.round).1; simp; omega) (by omega)) (List.Perm.refl _) rfl ?_
  rintro r3 G3 _ hle3 ⟨v3, rfl, h3⟩
  repeat' (first | apply v_seq | apply v_region | apply v_nil | (apply v_pure; (case hop => first | (apply p_move <;> rfl) | (apply p_fieldAddrB <;> rfl) | fail); (case hd => rfl)) | (apply v_read; (case hop => first | (apply r_load1; rfl; (apply Cell.own; (case h => (repeat (first | exact List.Mem.head _ | apply List.Mem.tail | fail))); rfl)) | fail); (case hd => rfl)) | fail)
  refine v_call (μ1 := [(wb, _)]) (μ2 := _) rfl (wnumber_s wb x.index h3 (by have := (vbytes_len x.kind).1; have := (vbytes_len x.round).1; have := (vbytes_len x.node).1; simp; omega) (by omega)) (List.Perm.refl _) rfl ?_
  rintro r4 G4 _ hle4 ⟨v4, rfl, h4⟩
  have hi4 := (((hiv.mono hle1).mono hle2).mono hle3).mono hle4
  have hh4 : Sl G4 1 (IntR .u8) v4 (headL x) := h4
  clear h1 h2 h3 h4
  obtain h | h | h | h : x.kind = 1 ∨ x.kind = 2 ∨ x.kind = 3 ∨ x.kind = 4 := by omega
  · have e : hasL x.kind = hasL 1 := by rw [h]
    simp only [e] at qf
    have ee : encL x = headL x := by rw [encL, if_neg (by omega), if_neg (by omega)]
    rw [ee]
    repeat' (first | apply v_seq | apply v_region | apply v_nil | apply v_skip | apply v_block | apply v_blk | (apply v_pure; (case hop => first | (apply p_move <;> rfl) | (apply p_assign <;> rfl) | (apply p_fieldAddrB <;> rfl) | (apply p_extract0 <;> rfl) | (apply p_extract1 <;> rfl) | fail); (case hd => rfl)) | (apply v_condF; (case hc => rfl)) | (apply v_callJ (hs := qf _); (case ha => rfl); (case hd => rfl)) | (apply v_read; (case hop => first | (apply r_load1; rfl; (apply Cell.own; (case h => (repeat (first | exact List.Mem.head _ | apply List.Mem.tail | fail))); rfl)) | fail); (case hd => rfl)) | (apply v_alloc; (case hz => rfl); (case hd => rfl); intro b) | (apply v_store; (case hp => rfl); (case hx => rfl); (case hc => rfl); (case hsz => rfl); (case h1 => rfl); (case hb => (repeat (first | exact List.Mem.head _ | fail))); (case hfit => first | exact Nat.le_of_ble_eq_true rfl | fail); (case hov => (first | ((repeat (first | with_reducible exact ov_nil | apply ov_cons | fail)); done) | fail)); (case hu => repeat (first | exact Upd.here _ _ | fail))) | fail)
    refine v_call (μ2 := _) rfl (wbytes_s wb hh4 (by omega)) (PickA.perm (by repeat (first | exact PickA.here _ | apply PickA.cons | fail))) rfl ?_
    rintro r5 G5 _ hle5 ⟨rfl, h5⟩
    repeat' (first | apply v_nil | (apply v_pure; (case hop => first | (apply p_assign <;> rfl) | fail); (case hd => rfl)) | fail)
    refine v_ret [] (outsA2 rfl rfl rfl) (by repeat (first | exact List.nil_sublist _ | fail)) ?_
    exact ⟨rfl, _, rfl, h5⟩
  · have e : hasL x.kind = hasL 2 := by rw [h]
    simp only [e] at qf
    have ee : encL x = headL x ++ vbytes x.cmd.kind ++ putL x.cmd 6 := by rw [encL, if_pos (by omega)]
    rw [ee]
    have hlen : (headL x ++ vbytes x.cmd.kind ++ putL x.cmd 6).length ≤ 1048000 := by
      rw [List.length_append, List.length_append]
      have := (vbytes_len x.cmd.kind).1
      have := putL_len x.cmd (by omega) (by omega) (by omega) 6
      omega
    repeat' (first | apply v_seq | apply v_region | apply v_nil | apply v_block | (apply v_pure; (case hop => first | (apply p_move <;> rfl) | (apply p_assign <;> rfl) | (apply p_fieldAddrB <;> rfl) | (apply p_extract0 <;> rfl) | (apply p_extract1 <;> rfl) | fail); (case hd => rfl)) | (apply v_condT; (case hc => rfl)) | (apply v_callJ (hs := qf _); (case ha => rfl); (case hd => rfl)) | (apply v_read; (case hop => first | (apply r_loadNo; (case hx => rfl); (case h => (repeat (first | exact List.Mem.head _ | apply List.Mem.tail | fail))); (case hd => (repeat (first | with_reducible exact dt_nil | apply dt_here | fail))); (case hn => rfl)) | (apply r_load1; rfl; (apply Cell.own; (case h => (repeat (first | exact List.Mem.head _ | apply List.Mem.tail | fail))); rfl)) | fail); (case hd => rfl)) | (apply v_alloc; (case hz => rfl); (case hd => rfl); intro b) | (apply v_store; (case hp => rfl); (case hx => rfl); (case hc => rfl); (case hsz => rfl); (case h1 => rfl); (case hb => (repeat (first | exact List.Mem.head _ | fail))); (case hfit => first | exact Nat.le_of_ble_eq_true rfl | fail); (case hov => (first | ((repeat (first | with_reducible exact ov_nil | apply ov_cons | fail)); done) | fail)); (case hu => repeat (first | exact Upd.here _ _ | fail))) | fail)
    refine v_call (μ1 := [(wb, _)]) (μ2 := _) rfl (cput_s x.cmd hc (by omega) (by omega) (by omega) wb hh4 (by omega)) (PickA.perm (by repeat (first | exact PickA.here _ | apply PickA.cons | fail))) rfl ?_
    rintro r5 G5 _ hle5 ⟨v5, rfl, h5⟩
    repeat' (first | apply v_seq | apply v_region | apply v_nil | apply v_blk | (apply v_pure; (case hop => first | (apply p_move <;> rfl) | fail); (case hd => rfl)) | fail)
    refine v_call (μ2 := _) rfl (wbytes_s wb h5 hlen) (PickA.perm (by repeat (first | exact PickA.here _ | fail))) rfl ?_
    rintro r6 G6 _ hle6 ⟨rfl, h6⟩
    repeat' (first | apply v_nil | (apply v_pure; (case hop => first | (apply p_assign <;> rfl) | fail); (case hd => rfl)) | fail)
    refine v_ret [] (outsA2 rfl rfl rfl) (by repeat (first | exact List.nil_sublist _ | fail)) ?_
    exact ⟨rfl, _, rfl, h6⟩
  · have e : hasL x.kind = hasL 3 := by rw [h]
    simp only [e] at qf
    have ee : encL x = headL x ++ vbytes x.cmd.kind ++ putL x.cmd 6 := by rw [encL, if_pos (by omega)]
    rw [ee]
    have hlen : (headL x ++ vbytes x.cmd.kind ++ putL x.cmd 6).length ≤ 1048000 := by
      rw [List.length_append, List.length_append]
      have := (vbytes_len x.cmd.kind).1
      have := putL_len x.cmd (by omega) (by omega) (by omega) 6
      omega
    repeat' (first | apply v_seq | apply v_region | apply v_nil | apply v_block | (apply v_pure; (case hop => first | (apply p_move <;> rfl) | (apply p_assign <;> rfl) | (apply p_fieldAddrB <;> rfl) | (apply p_extract0 <;> rfl) | (apply p_extract1 <;> rfl) | fail); (case hd => rfl)) | (apply v_condT; (case hc => rfl)) | (apply v_callJ (hs := qf _); (case ha => rfl); (case hd => rfl)) | (apply v_read; (case hop => first | (apply r_loadNo; (case hx => rfl); (case h => (repeat (first | exact List.Mem.head _ | apply List.Mem.tail | fail))); (case hd => (repeat (first | with_reducible exact dt_nil | apply dt_here | fail))); (case hn => rfl)) | (apply r_load1; rfl; (apply Cell.own; (case h => (repeat (first | exact List.Mem.head _ | apply List.Mem.tail | fail))); rfl)) | fail); (case hd => rfl)) | (apply v_alloc; (case hz => rfl); (case hd => rfl); intro b) | (apply v_store; (case hp => rfl); (case hx => rfl); (case hc => rfl); (case hsz => rfl); (case h1 => rfl); (case hb => (repeat (first | exact List.Mem.head _ | fail))); (case hfit => first | exact Nat.le_of_ble_eq_true rfl | fail); (case hov => (first | ((repeat (first | with_reducible exact ov_nil | apply ov_cons | fail)); done) | fail)); (case hu => repeat (first | exact Upd.here _ _ | fail))) | fail)
    refine v_call (μ1 := [(wb, _)]) (μ2 := _) rfl (cput_s x.cmd hc (by omega) (by omega) (by omega) wb hh4 (by omega)) (PickA.perm (by repeat (first | exact PickA.here _ | apply PickA.cons | fail))) rfl ?_
    rintro r5 G5 _ hle5 ⟨v5, rfl, h5⟩
    repeat' (first | apply v_seq | apply v_region | apply v_nil | apply v_blk | (apply v_pure; (case hop => first | (apply p_move <;> rfl) | fail); (case hd => rfl)) | fail)
    refine v_call (μ2 := _) rfl (wbytes_s wb h5 hlen) (PickA.perm (by repeat (first | exact PickA.here _ | fail))) rfl ?_
    rintro r6 G6 _ hle6 ⟨rfl, h6⟩
    repeat' (first | apply v_nil | (apply v_pure; (case hop => first | (apply p_assign <;> rfl) | fail); (case hd => rfl)) | fail)
    refine v_ret [] (outsA2 rfl rfl rfl) (by repeat (first | exact List.nil_sublist _ | fail)) ?_
    exact ⟨rfl, _, rfl, h6⟩
  · have e : hasL x.kind = hasL 4 := by rw [h]
    simp only [e] at qf
    have ee : encL x = headL x ++ vbytes x.image.length ++ x.image := by rw [encL, if_neg (by omega), if_pos (by omega)]
    rw [ee]
    have hlen : (headL x ++ vbytes x.image.length ++ x.image).length ≤ 1048000 := by
      rw [List.length_append, List.length_append]
      have := (vbytes_len (x.image.length : Nat)).1
      omega
    repeat' (first | apply v_seq | apply v_region | apply v_nil | apply v_block | (apply v_pure; (case hop => first | (apply p_move <;> rfl) | (apply p_assign <;> rfl) | (apply p_fieldAddrB <;> rfl) | (apply p_extract0 <;> rfl) | (apply p_extract1 <;> rfl) | fail); (case hd => rfl)) | (apply v_condT; (case hc => rfl)) | (apply v_condF; (case hc => rfl)) | (apply v_callJ (hs := qf _); (case ha => rfl); (case hd => rfl)) | (apply v_read; (case hop => first | (apply r_load1; rfl; (apply Cell.own; (case h => (repeat (first | exact List.Mem.head _ | apply List.Mem.tail | fail))); rfl)) | fail); (case hd => rfl)) | (apply v_alloc; (case hz => rfl); (case hd => rfl); intro b) | (apply v_store; (case hp => rfl); (case hx => rfl); (case hc => rfl); (case hsz => rfl); (case h1 => rfl); (case hb => (repeat (first | exact List.Mem.head _ | fail))); (case hfit => first | exact Nat.le_of_ble_eq_true rfl | fail); (case hov => (first | ((repeat (first | with_reducible exact ov_nil | apply ov_cons | fail)); done) | fail)); (case hu => repeat (first | exact Upd.here _ _ | fail))) | fail)
    refine v_call (μ1 := [(wb, _)]) (μ2 := _) rfl (wraw_s wb hh4 hi4 (by omega) (by omega)) (PickA.perm (by repeat (first | exact PickA.here _ | apply PickA.cons | fail))) rfl ?_
    rintro r5 G5 _ hle5 ⟨v5, rfl, h5⟩
    repeat' (first | apply v_seq | apply v_region | apply v_nil | apply v_blk | (apply v_pure; (case hop => first | (apply p_move <;> rfl) | fail); (case hd => rfl)) | fail)
    refine v_call (μ2 := _) rfl (wbytes_s wb h5 hlen) (PickA.perm (by repeat (first | exact PickA.here _ | fail))) rfl ?_
    rintro r6 G6 _ hle6 ⟨rfl, h6⟩
    repeat' (first | apply v_nil | (apply v_pure; (case hop => first | (apply p_assign <;> rfl) | fail); (case hd => rfl)) | fail)
    refine v_ret [] (outsA2 rfl rfl rfl) (by repeat (first | exact List.nil_sublist _ | fail)) ?_
    exact ⟨rfl, _, rfl, h6⟩
end Go.Proofs.YtnoiahlpmgbhfaaDoor
/-
  recone (layer 16), the tenth part: the bytes of a number, by the reference.
-/
set_option linter.unusedSimpArgs false
set_option linter.unusedVariables false
namespace Go.Proofs.YtnoiahlpmgbhfaaDoor
open Go.Vx Go.ChangeShapes Go.WideShapes Go.ChangeAt Go.RowKit
theorem rnum_s (G : GH) (n : Int) (hn : n ≤ 9223372036854775807) : Con Tryd.prog 59 #[.int .i64 n] G [] (fun r G' μ' => G' = G ∧ Grow 5 1 r (vbytes n).length ((vbytes n).map (.int .u8 ·)) μ') := by
  refine v_enter Tryd.func59 rfl Tryd.ntmps59 rfl (fun B => ?_)
  repeat' (first | apply v_seq | apply v_region | apply v_nil | apply v_skip | apply v_block | (apply v_pure; (case hop => first | (apply p_move <;> rfl) | (apply p_lt <;> rfl) | (apply p_assign <;> rfl)); (case hd => rfl)) | (apply v_cond; (case hc => rfl); all_goals (intro h; (try simp only [reduceCtorEq, dec_true, dec_false, decide_eq_true_eq, decide_eq_false_iff_not, Bool.not_eq_true', Bool.not_eq_false', Option.isNone_iff_eq_none, beq_true, beq_false, beq_iff_eq, beq_eq_false_iff_ne, ne_eq, decide_eq_decide, Bool.not_eq_true, Bool.not_eq_false, Decidable.not_not] at h); (skip))))
  · have hv0 : vbytes n = vb 10 0 := by rw [vbytes, show max n 0 = 0 by omega]
    have hp : (0 : Int) < 128 ^ (10 + 1) := by have := p128 n hn; omega
    refine v_loopI (ι := Nat × Int × List Int) [3, 0] (fun x us G2 μ' => G2 = G ∧ ∃ v, us = [v, Value.int .i64 x.2.1] ∧ Grow 5 1 v x.2.2.length (x.2.2.map (.int .u8 ·)) μ' ∧ 0 ≤ x.2.1 ∧ x.2.1 < 128 ^ (x.1 + 1) ∧ x.2.1 ≤ 9223372036854775807 ∧ x.1 ≤ 10 ∧ x.2.2.length ≤ 10 - x.1 ∧ vbytes n = x.2.2 ++ vb x.1 x.2.1) (fun x => x.1) rfl (10, 0, []) ⟨rfl, _, rfl, Grow.nil _ _, by simp only; omega, hp, by simp only; omega, by simp, by simp, hv0⟩ ?_
    clear hv0 hp
    rintro ⟨f, m, xs⟩ us G2 μ' ⟨rfl, v, rfl, hg2, h0, hlt, hm, hf, hx, he⟩
    simp only at hg2 h0 hlt hm hf hx he
    try dsimp only
    repeat' (first | (apply v_pure; (case hop => (apply p_convU8; (case hx => rfl))); (case hd => rfl)) | apply v_seq | apply v_region | apply v_nil | apply v_skip | apply v_block | (apply v_exit; (case hp => rfl)) | (apply v_pure; (case hop => first | (apply p_move <;> rfl) | (apply p_gt <;> rfl) | (apply p_add; (case hx => rfl); (case hy => rfl); (case h => omega)) | (apply p_rem0; (case hx => rfl); (case hy => rfl); all_goals omega)); (case hd => rfl)) | (apply v_cond; (case hc => rfl); all_goals (intro h; (try simp only [reduceCtorEq, dec_true, dec_false, decide_eq_true_eq, decide_eq_false_iff_not, Bool.not_eq_true', Bool.not_eq_false', Option.isNone_iff_eq_none, beq_true, beq_false, beq_iff_eq, beq_eq_false_iff_ne, ne_eq, decide_eq_decide, Bool.not_eq_true, Bool.not_eq_false, Decidable.not_not] at h); (skip))) | (apply v_buildSlice; (case hz => rfl); (case hi => rfl); (case hv => (simp only [List.map_cons, List.map_nil]; repeat (first | with_reducible exact evs_nil | (apply evs_cons; (case h1 => rfl))))); (case hp => ((apply pk_cons; (case hc => rfl); (case hs => rfl); (case h => (with_reducible exact pk_nil)); (case he => (((repeat (first | with_reducible exact ap_nil | apply ap_cons)); done)))))); (case hb => rfl); (case hd => rfl); intro b))
    · obtain ⟨f', rfl⟩ : ∃ f', f = f' + 1 := by
        cases f with
        | zero => simp at hlt; omega
        | succ f' => exact ⟨f', rfl⟩
      have hvb : vb (f' + 1) m = (m % 128 + 128) :: vb f' (m / 128) := by rw [vb_succ, if_neg (by omega)]
      refine v_append (e := 5) (sz := 1) (zero := .int .u8 0) (m' := 1) (us := [.int .u8 ((128 + m % 128) % 256)]) rfl (by omega) rfl rfl hg2 (PickA.perm (by repeat (first | exact PickA.last | apply PickA.cons))) (Src.own (List.Mem.head _) rfl) rfl (by omega) (by simp only [maxLen]; omega) rfl ?_
      intro v' ν' hg'
      repeat' (first | apply v_region | apply v_nil | apply v_blk | (apply v_pure; (case hop => first | (apply p_move <;> rfl) | (apply p_assign <;> rfl) | (apply p_quo; (case hx => rfl); (case hy => rfl); all_goals omega)); (case hd => rfl)))
      refine v_only ν' (by repeat (exact PickA.here _)) ?_
      refine v_againI (f', m / 128, xs ++ [m % 128 + 128]) rfl ⟨rfl, v', rfl, ?_, by simp only; omega, ?_, by simp only; omega, by simp only; omega, by simp; omega, ?_⟩ (by simp)
      · simp only
        rw [show (128 + m % 128) % 256 = m % 128 + 128 by omega] at hg'
        simpa using hg'
      · simp only
        have : (128 : Int) ^ (f' + 1 + 1) = 128 * 128 ^ (f' + 1) := by rw [Int.pow_succ, Int.mul_comm]
        omega
      · simp only
        rw [he, hvb]; simp
    · have hvb : vb f m = [m] := by
        cases f with
        | zero => rfl
        | succ f => rw [vb_succ, if_pos (by omega)]
      refine v_append (e := 5) (sz := 1) (zero := .int .u8 0) (m' := 1) (us := [.int .u8 (m % 256)]) rfl (by omega) rfl rfl hg2 (PickA.perm (by repeat (first | exact PickA.last | apply PickA.cons))) (Src.own (List.Mem.head _) rfl) rfl (by omega) (by simp only [maxLen]; omega) rfl ?_
      intro v' ν' hg'
      repeat' (first | apply v_nil | (apply v_pure; (case hop => (apply p_assign <;> rfl)); (case hd => rfl)))
      refine v_ret ν' (outsA1 rfl rfl) (by repeat (exact List.sublist_append_left _ _)) ?_
      refine ⟨rfl, ?_⟩
      rw [he, hvb]
      rw [show m % 256 = m by omega] at hg'
      simpa using hg'
  · have hv0 : vbytes n = vb 10 n := by rw [vbytes, show max n 0 = n by omega]
    have hp : (n : Int) < 128 ^ (10 + 1) := by have := p128 n hn; omega
    refine v_loopI (ι := Nat × Int × List Int) [3, 0] (fun x us G2 μ' => G2 = G ∧ ∃ v, us = [v, Value.int .i64 x.2.1] ∧ Grow 5 1 v x.2.2.length (x.2.2.map (.int .u8 ·)) μ' ∧ 0 ≤ x.2.1 ∧ x.2.1 < 128 ^ (x.1 + 1) ∧ x.2.1 ≤ 9223372036854775807 ∧ x.1 ≤ 10 ∧ x.2.2.length ≤ 10 - x.1 ∧ vbytes n = x.2.2 ++ vb x.1 x.2.1) (fun x => x.1) rfl (10, n, []) ⟨rfl, _, rfl, Grow.nil _ _, by simp only; omega, hp, by simp only; omega, by simp, by simp, hv0⟩ ?_
    clear hv0 hp
    rintro ⟨f, m, xs⟩ us G2 μ' ⟨rfl, v, rfl, hg2, h0, hlt, hm, hf, hx, he⟩
    simp only at hg2 h0 hlt hm hf hx he
    try dsimp only
    repeat' (first | (apply v_pure; (case hop => (apply p_convU8; (case hx => rfl))); (case hd => rfl)) | apply v_seq | apply v_region | apply v_nil | apply v_skip | apply v_block | (apply v_exit; (case hp => rfl)) | (apply v_pure; (case hop => first | (apply p_move <;> rfl) | (apply p_gt <;> rfl) | (apply p_add; (case hx => rfl); (case hy => rfl); (case h => omega)) | (apply p_rem0; (case hx => rfl); (case hy => rfl); all_goals omega)); (case hd => rfl)) | (apply v_cond; (case hc => rfl); all_goals (intro h; (try simp only [reduceCtorEq, dec_true, dec_false, decide_eq_true_eq, decide_eq_false_iff_not, Bool.not_eq_true', Bool.not_eq_false', Option.isNone_iff_eq_none, beq_true, beq_false, beq_iff_eq, beq_eq_false_iff_ne, ne_eq, decide_eq_decide, Bool.not_eq_true, Bool.not_eq_false, Decidable.not_not] at h); (skip))) | (apply v_buildSlice; (case hz => rfl); (case hi => rfl); (case hv => (simp only [List.map_cons, List.map_nil]; repeat (first | with_reducible exact evs_nil | (apply evs_cons; (case h1 => rfl))))); (case hp => ((apply pk_cons; (case hc => rfl); (case hs => rfl); (case h => (with_reducible exact pk_nil)); (case he => (((repeat (first | with_reducible exact ap_nil | apply ap_cons)); done)))))); (case hb => rfl); (case hd => rfl); intro b))
    · obtain ⟨f', rfl⟩ : ∃ f', f = f' + 1 := by
        cases f with
        | zero => simp at hlt; omega
        | succ f' => exact ⟨f', rfl⟩
      have hvb : vb (f' + 1) m = (m % 128 + 128) :: vb f' (m / 128) := by rw [vb_succ, if_neg (by omega)]
      refine v_append (e := 5) (sz := 1) (zero := .int .u8 0) (m' := 1) (us := [.int .u8 ((128 + m % 128) % 256)]) rfl (by omega) rfl rfl hg2 (PickA.perm (by repeat (first | exact PickA.last | apply PickA.cons))) (Src.own (List.Mem.head _) rfl) rfl (by omega) (by simp only [maxLen]; omega) rfl ?_
      intro v' ν' hg'
      repeat' (first | apply v_region | apply v_nil | apply v_blk | (apply v_pure; (case hop => first | (apply p_move <;> rfl) | (apply p_assign <;> rfl) | (apply p_quo; (case hx => rfl); (case hy => rfl); all_goals omega)); (case hd => rfl)))
      refine v_only ν' (by repeat (exact PickA.here _)) ?_
      refine v_againI (f', m / 128, xs ++ [m % 128 + 128]) rfl ⟨rfl, v', rfl, ?_, by simp only; omega, ?_, by simp only; omega, by simp only; omega, by simp; omega, ?_⟩ (by simp)
      · simp only
        rw [show (128 + m % 128) % 256 = m % 128 + 128 by omega] at hg'
        simpa using hg'
      · simp only
        have : (128 : Int) ^ (f' + 1 + 1) = 128 * 128 ^ (f' + 1) := by rw [Int.pow_succ, Int.mul_comm]
        omega
      · simp only
        rw [he, hvb]; simp
    · have hvb : vb f m = [m] := by
        cases f with
        | zero => rfl
        | succ f => rw [vb_succ, if_pos (by omega)]
      refine v_append (e := 5) (sz := 1) (zero := .int .u8 0) (m' := 1) (us := [.int .u8 (m % 256)]) rfl (by omega) rfl rfl hg2 (PickA.perm (by repeat (first | exact PickA.last | apply PickA.cons))) (Src.own (List.Mem.head _) rfl) rfl (by omega) (by simp only [maxLen]; omega) rfl ?_
      intro v' ν' hg'
      repeat' (first | apply v_nil | (apply v_pure; (case hop => (apply p_assign <;> rfl)); (case hd => rfl)))
      refine v_ret ν' (outsA1 rfl rfl) (by repeat (exact List.sublist_append_left _ _)) ?_
      refine ⟨rfl, ?_⟩
      rw [he, hvb]
      rw [show m % 256 = m by omega] at hg'
      simpa using hg'
end Go.Proofs.YtnoiahlpmgbhfaaDoor
/-
  recone (layer 16), the eleventh part: the bytes of a text, by the reference.
-/
set_option linter.unusedSimpArgs false
set_option linter.unusedVariables false
namespace Go.Proofs.YtnoiahlpmgbhfaaDoor
open Go.Vx Go.ChangeShapes Go.WideShapes Go.ChangeAt Go.RowKit
attribute [local semireducible] MoveOp in
theorem m_appendS {ty t u : TypeId} {σ : Env} {G : GH} {μ μr ν : OH} {s x : Operand} {v : Value} {m : Nat} {xs : List Value} {z : ByteArray} [Ty Tryd.prog t (.slice 5)] [Ty Tryd.prog u .string] (hs : Env.ev σ s = some v) (hx : Env.ev σ x = some (.string z)) (hg : Grow 5 1 v m xs ν) (hm : 0 < m) (hp : μ.Perm (ν ++ μr)) (hb : m + z.size ≤ 140737488355328) :
    MoveOp Tryd.prog (.call { callee := .builtin .append, args := #[s, x], argTypes := #[t, u] }) ty σ G μ (fun v' G' μ' => ∃ ν', Grow 5 1 v' (m + z.size) (xs ++ Lib.strCells z) ν' ∧ G' = G ∧ μ' = ν' ++ μr) := by
  intro dst pos af g ρ hρ w hw a K Q hK
  have hw' := hw.perm hp
  obtain ⟨i, hi, hi1, hi2, hi3⟩ := Lay.infoEx (P := Tryd.prog) (t := 5) (agg := false) (size := 1) (bytes := 1) (zero := .int .u8 0) inferInstance
  have ht : (Tryd.prog).underlying t = some (.slice 5) := Ty.h
  have hu : (Tryd.prog).underlying u = some .string := Ty.h
  have hex : ∀ (r : Result Value), (Builtin.append_ #[t, u] ty #[v, .string z]).run Tryd.prog w = r → (execOp ρ ⟨dst, .call { callee := .builtin .append, args := #[s, x], argTypes := #[t, u] }, ty, pos, af, g⟩).run Tryd.prog w = r.andThen fun v w' => .ok (.value v) w' := by
    intro r hr
    subst hr
    simp only [execOp, resolve, invoke, builtin, Sem.run_bind, Sem.run_pure, Result.andThen_ok, List.map_toArray, List.map_cons, List.map_nil, hρ _ _ hs, hρ _ _ hx]
  obtain ⟨hl, ⟨rfl, h0, rfl⟩ | ⟨b, cap, spare, rfl, rfl, hc1, hc2, hc3⟩⟩ := hg
  · omega
  have hblk : w.heap[b]? = some (.cells (xs ++ spare).toArray 5 (0, 0)) := hw'.own b _ (by simp)
  have hsl := Lib.strCells_length z
  by_cases hroom : m + z.size ≤ cap
  · have hr := Lib.run_append_room_string (P := Tryd.prog) w t u ty 5 i ht hu hi hi1 b m cap (xs ++ spare).toArray hblk z hroom (by rw [List.size_toArray, hc3]; omega)
    rw [hex _ hr]
    have htake : ((xs ++ spare).toArray.toList.take m ++ Lib.strCells z ++ (xs ++ spare).toArray.toList.drop (m + z.size)) = xs ++ Lib.strCells z ++ spare.drop z.size := by
      have hl' : m = xs.length := by omega
      rw [hl']
      show (xs ++ spare).take xs.length ++ Lib.strCells z ++ (xs ++ spare).drop (xs.length + z.size) = _
      rw [List.take_left, ← List.drop_drop, List.drop_left]
    rw [htake]
    have hst : Step G ([(b, .cells (xs ++ spare).toArray 5 (0, 0))] ++ μr) w G ([(b, .cells (xs ++ Lib.strCells z ++ spare.drop z.size).toArray 5 (0, 0))] ++ μr) (w.setRow b (xs ++ Lib.strCells z ++ spare.drop z.size).toArray) :=
      Step.row hw' (b := b) (vs := xs ++ spare) (by simp [Has]) (.here _ _)
    refine hK _ _ G _ (hst.permL hp.symm) ⟨[(b, .cells (xs ++ Lib.strCells z ++ spare.drop z.size).toArray 5 (0, 0))], ⟨by rw [List.length_append, hl, hsl]; omega, .inr ⟨b, cap, spare.drop z.size, rfl, rfl, hroom, hc2, ?_⟩⟩, rfl, rfl⟩
    simp only [List.length_append, List.length_drop, hl, hsl] at hc3 ⊢
    omega
  · have holds : ∀ j q, xs[j]? = some q → w.cell? ((⟨b, 0, none⟩ : Addr).add j) = some q := by
      intro j q hq
      have hj : j < xs.length := (List.getElem?_eq_some_iff.1 hq).1
      rw [add_mk, Nat.zero_add]
      unfold World.cell?
      simp only [hblk]
      simp only [Option.isSome_none, Bool.false_eq_true, if_false, List.getElem?_toArray]
      rw [List.getElem?_append_left hj]
      exact hq
    have hr := Lib.run_append_grow_string (P := Tryd.prog) w t u ty 5 i (.int .u8 0) ht hu hi hi3 ⟨b, 0, none⟩ m cap xs (by rw [hl, hi1]) holds z (by omega) (by omega) (growslice_fits (by omega) (by rw [hi2]; omega))
    rw [hex _ hr]
    have hge := grownCap_ge w (m + z.size) cap 5
    have hst := (Step.drew hw' 1).trans (Step.alloc (Step.drew hw' 1).mem (.cells (xs.toArray ++ (Lib.strCells z).toArray ++ Builtin.zeroCells (Value.int .u8 0).cells (grownCap w (m + z.size) cap 5 - (m + z.size))) 5 (0, 0)))
    have hst2 := hst.drop (List.Sublist.cons_cons _ (List.Sublist.cons _ (List.Sublist.refl μr)))
    refine hK _ _ G _ (hst2.permL hp.symm) ⟨[(w.heap.size, .cells (xs ++ Lib.strCells z ++ (Builtin.zeroCells (Value.int .u8 0).cells (grownCap w (m + z.size) cap 5 - (m + z.size))).toList).toArray 5 (0, 0))], ⟨by rw [List.length_append, hl, hsl]; omega, .inr ⟨_, _, _, rfl, rfl, hge, grownCap_le_maxLen w _ _ _ (by simp only [maxLen]; omega), ?_⟩⟩, rfl, ?_⟩
    · simp only [List.length_append, hl, hsl, Array.length_toList, size_zeroCells]
      have : (Value.int .u8 0).cells.size = 1 := rfl
      rw [this]
      omega
    · simp
theorem strCells_map (s : ByteArray) : Lib.strCells s = (sbytes s).map (Value.int .u8 ·) := by
  rw [Lib.strCells, sbytes, List.map_map]
  rfl
theorem rtext_s (G : GH) (s : ByteArray) (hz : s.size ≤ 100000) : Con Tryd.prog 98 #[.string s] G [] (fun r G' μ' => G' = G ∧ Grow 5 1 r (vbytes s.size ++ sbytes s).length ((vbytes s.size ++ sbytes s).map (.int .u8 ·)) μ') := by
  have hl := vbytes_len (s.size : Nat)
  refine v_enter Tryd.func98 rfl Tryd.ntmps98 rfl (fun B => ?_)
  repeat' (first | apply v_seq | apply v_region | apply v_nil | apply v_skip | apply v_block | apply v_blk | (apply v_exit; (case hp => rfl)) | (apply v_take; (case hg => rfl)) | (apply v_pass; (case hg => rfl); (case hn => rfl); (case hd => rfl)) | (apply v_passN; (case hg => rfl); (case hn => rfl); (case hd => rfl)) | (apply v_pure; (case hop => first | (apply p_move <;> rfl) | (apply p_assign <;> rfl) | (apply p_lenSlice <;> rfl) | (apply p_lenString <;> rfl)); (case hd => rfl)) | (apply v_condT; (case hc => rfl)) | (apply v_condF; (case hc => rfl)) | (apply v_cond; (case hc => rfl); all_goals (intro h; (try simp only [reduceCtorEq, dec_true, dec_false, decide_eq_true_eq, decide_eq_false_iff_not, Bool.not_eq_true', Bool.not_eq_false', Option.isNone_iff_eq_none, beq_true, beq_false, beq_iff_eq, beq_eq_false_iff_ne, ne_eq, decide_eq_decide, Bool.not_eq_true, Bool.not_eq_false, Decidable.not_not] at h); first | done | (exfalso; omega) | (exfalso; exact h (by with_reducible assumption)) | (exfalso; revert h; rw [imp_false]; with_reducible assumption) | skip)) | (apply v_guardB; (case h1 => rfl); (case h2 => rfl); all_goals (intro h; (try simp only [reduceCtorEq, dec_true, dec_false, decide_eq_true_eq, decide_eq_false_iff_not, Bool.not_eq_true', Bool.not_eq_false', Option.isNone_iff_eq_none, beq_true, beq_false, beq_iff_eq, beq_eq_false_iff_ne, ne_eq, decide_eq_decide, Bool.not_eq_true, Bool.not_eq_false, Decidable.not_not] at h); first | done | (exfalso; omega) | (exfalso; exact h (by with_reducible assumption)) | (exfalso; revert h; rw [imp_false]; with_reducible assumption) | skip)) | fail)
  refine v_call (μ1 := []) (μ2 := _) rfl (rnum_s G (s.size : Nat) (by omega)) (List.Perm.refl _) rfl ?_
  rintro r G' μ1 - ⟨rfl, hg⟩
  repeat' (first | apply v_seq | apply v_region | apply v_nil | apply v_skip | apply v_block | apply v_blk | (apply v_exit; (case hp => rfl)) | (apply v_take; (case hg => rfl)) | (apply v_pass; (case hg => rfl); (case hn => rfl); (case hd => rfl)) | (apply v_passN; (case hg => rfl); (case hn => rfl); (case hd => rfl)) | (apply v_pure; (case hop => first | (apply p_move <;> rfl) | (apply p_assign <;> rfl) | (apply p_lenSlice <;> rfl) | (apply p_lenString <;> rfl)); (case hd => rfl)) | (apply v_condT; (case hc => rfl)) | (apply v_condF; (case hc => rfl)) | (apply v_cond; (case hc => rfl); all_goals (intro h; (try simp only [reduceCtorEq, dec_true, dec_false, decide_eq_true_eq, decide_eq_false_iff_not, Bool.not_eq_true', Bool.not_eq_false', Option.isNone_iff_eq_none, beq_true, beq_false, beq_iff_eq, beq_eq_false_iff_ne, ne_eq, decide_eq_decide, Bool.not_eq_true, Bool.not_eq_false, Decidable.not_not] at h); first | done | (exfalso; omega) | (exfalso; exact h (by with_reducible assumption)) | (exfalso; revert h; rw [imp_false]; with_reducible assumption) | skip)) | (apply v_guardB; (case h1 => rfl); (case h2 => rfl); all_goals (intro h; (try simp only [reduceCtorEq, dec_true, dec_false, decide_eq_true_eq, decide_eq_false_iff_not, Bool.not_eq_true', Bool.not_eq_false', Option.isNone_iff_eq_none, beq_true, beq_false, beq_iff_eq, beq_eq_false_iff_ne, ne_eq, decide_eq_decide, Bool.not_eq_true, Bool.not_eq_false, Decidable.not_not] at h); first | done | (exfalso; omega) | (exfalso; exact h (by with_reducible assumption)) | (exfalso; revert h; rw [imp_false]; with_reducible assumption) | skip)) | fail)
  refine v_move (m_appendS rfl rfl hg (by omega) (List.Perm.refl _) (by omega)) rfl ?_
  rintro v' G2 μ2 ⟨ν', hg', rfl, rfl⟩
  repeat' (first | apply v_seq | apply v_region | apply v_nil | apply v_skip | apply v_block | apply v_blk | (apply v_exit; (case hp => rfl)) | (apply v_take; (case hg => rfl)) | (apply v_pass; (case hg => rfl); (case hn => rfl); (case hd => rfl)) | (apply v_passN; (case hg => rfl); (case hn => rfl); (case hd => rfl)) | (apply v_pure; (case hop => first | (apply p_move <;> rfl) | (apply p_assign <;> rfl) | (apply p_lenSlice <;> rfl) | (apply p_lenString <;> rfl)); (case hd => rfl)) | (apply v_condT; (case hc => rfl)) | (apply v_condF; (case hc => rfl)) | (apply v_cond; (case hc => rfl); all_goals (intro h; (try simp only [reduceCtorEq, dec_true, dec_false, decide_eq_true_eq, decide_eq_false_iff_not, Bool.not_eq_true', Bool.not_eq_false', Option.isNone_iff_eq_none, beq_true, beq_false, beq_iff_eq, beq_eq_false_iff_ne, ne_eq, decide_eq_decide, Bool.not_eq_true, Bool.not_eq_false, Decidable.not_not] at h); first | done | (exfalso; omega) | (exfalso; exact h (by with_reducible assumption)) | (exfalso; revert h; rw [imp_false]; with_reducible assumption) | skip)) | (apply v_guardB; (case h1 => rfl); (case h2 => rfl); all_goals (intro h; (try simp only [reduceCtorEq, dec_true, dec_false, decide_eq_true_eq, decide_eq_false_iff_not, Bool.not_eq_true', Bool.not_eq_false', Option.isNone_iff_eq_none, beq_true, beq_false, beq_iff_eq, beq_eq_false_iff_ne, ne_eq, decide_eq_decide, Bool.not_eq_true, Bool.not_eq_false, Decidable.not_not] at h); first | done | (exfalso; omega) | (exfalso; exact h (by with_reducible assumption)) | (exfalso; revert h; rw [imp_false]; with_reducible assumption) | skip)) | fail)
  refine v_ret ν' (outsA1 rfl rfl) (by repeat (first | exact List.Sublist.refl _ | exact List.nil_sublist _ | apply List.Sublist.cons_cons | apply List.Sublist.cons | exact List.sublist_append_left _ _ | apply List.sublist_append_of_sublist_right)) ?_
  refine ⟨rfl, ?_⟩
  rw [strCells_map, ← List.map_append, ← sbytes_length, ← List.length_append] at hg'
  rw [sbytes_length] at hg'
  exact hg'
end Go.Proofs.YtnoiahlpmgbhfaaDoor
