/-
  cmd (layer 8), the first part: the fields of a command.
-/
import Derived.Test.YtmdeeokejdkceaaDoorM1
import Derived.Lib.AppendZerosOnto
import Derived.Lib.Overlaps
import Derived.Scope
set_option linter.unusedSimpArgs false
set_option linter.unusedVariables false
namespace Go.Proofs.YtmdeeokejdkceaaDoor
open Go.Vx Go.ChangeShapes Go.WideShapes Go.ChangeAt Go.RowKit
structure Cm where
  kind : Int
  client : Int
  seq : Int
  key : ByteArray
  val : ByteArray
  old : ByteArray
  node : Int
def Cm.cells (c : Cm) : List Value := [.int .i64 c.kind, .int .i64 c.client, .int .i64 c.seq, .string c.key, .string c.val, .string c.old, .int .i64 c.node]
def Cm.ok (c : Cm) : Prop := (Lit.int .i64 c.kind).wf = true ∧ (Lit.int .i64 c.client).wf = true ∧ (Lit.int .i64 c.seq).wf = true ∧ c.key.size ≤ maxLen ∧ c.val.size ≤ maxLen ∧ c.old.size ≤ maxLen ∧ (Lit.int .i64 c.node).wf = true
def cmdFields (kind : Int) : Int × Bool :=
  if kind = 1 ∨ kind = 6 then (0, true) else if kind = 2 then (11, true) else if kind = 3 ∨ kind = 4 then (3, true) else if kind = 5 then (15, true) else if kind = 7 ∨ kind = 8 then (16, true) else (0, false)
theorem fields_s (G : GH) (kind : Int) : Con Tryd.prog 76 #[.int .i64 kind] G [] (Just (.tuple [.int .i64 (cmdFields kind).1, .bool (cmdFields kind).2].toArray) G) := by
  (refine v_enter Tryd.func76 rfl Tryd.ntmps76 rfl ?_; intro B _)
  repeat' (first | apply v_seq | apply v_region | apply v_nil | apply v_skip | apply v_block | apply v_blk | (apply v_pure; (case hop => first | (apply p_move <;> rfl) | (apply p_eq <;> rfl) | (apply p_assign <;> rfl) | fail); (case hd => rfl)) | (apply v_cond; (case hc => rfl); all_goals (intro h; (try simp only [reduceCtorEq, zzz] at h); first | (exfalso; omega) | skip)) | fail)
  all_goals
    (refine v_ret [] (outsA2 rfl rfl rfl) (by repeat (exact List.Sublist.refl _)) ?_
     refine ⟨?_, rfl, rfl⟩
     unfold cmdFields
     (repeat' split) <;> first | rfl | (exfalso; omega))
def partFn (f : FuncId) : Value := .func (.func f) #[] #[]
def partL : Nat → List Value
  | 0 => [.int .i64 1, .int .i64 8, .nilFunc, partFn 100]
  | 1 => [.int .i64 1, .int .i64 4294967296, .nilFunc, partFn 101]
  | 2 => [.int .i64 2, .int .i64 0, partFn 102, partFn 103]
  | 3 => [.int .i64 4, .int .i64 0, partFn 104, partFn 105]
  | 4 => [.int .i64 8, .int .i64 0, partFn 104, partFn 106]
  | _ => [.int .i64 16, .int .i64 9, .nilFunc, partFn 107]
def partsL : List Value := partL 0 ++ (partL 1 ++ (partL 2 ++ (partL 3 ++ (partL 4 ++ partL 5))))
theorem parts_s (G : GH) : Con Tryd.prog 77 #[] G [] (fun r G' μ' => G' = G ∧ ∃ b, r = .slice (some ⟨b, 0, none⟩) 6 6 ∧ μ' = [(b, .cells partsL.toArray 132 (0, 0))]) := by
  (refine v_enter Tryd.func77 rfl Tryd.ntmps77 rfl ?_; intro B _)
  repeat' (first | apply v_seq | apply v_region | apply v_nil | (apply v_pure; (case hop => first | (apply p_assign <;> rfl) | (apply p_build; (case hz => rfl); (case hv => (simp only [List.map_cons, List.map_nil]; repeat (first | with_reducible exact evs_nil | (apply evs_cons; (case h1 => rfl))))); (case hb => (apply bldL; repeat (first | exact bld_nil | (apply bld_cons; (case hpf => rfl); (case hc => rfl); (case hs => rfl); (case hl => rfl); (case ho => ((repeat (first | with_reducible exact ov_nil | apply ov_cons)); done)))))))); (case hd => rfl)) | (apply v_buildSlice; (case hz => rfl); (case hi => rfl); (case hv => (simp only [List.map_cons, List.map_nil]; repeat (first | with_reducible exact evs_nil | (apply evs_cons; (case h1 => rfl))))); (case hp => (apply pk_cons; (case hc => rfl); (case hs => rfl); (case h => (apply pk_cons; (case hc => rfl); (case hs => rfl); (case h => (apply pk_cons; (case hc => rfl); (case hs => rfl); (case h => (apply pk_cons; (case hc => rfl); (case hs => rfl); (case h => (apply pk_cons; (case hc => rfl); (case hs => rfl); (case h => (apply pk_cons; (case hc => rfl); (case hs => rfl); (case h => (with_reducible exact pk_nil)); (case he => ((repeat (first | with_reducible exact ap_nil | apply ap_cons)); done)))); (case he => ((repeat (first | with_reducible exact ap_nil | apply ap_cons)); done)))); (case he => ((repeat (first | with_reducible exact ap_nil | apply ap_cons)); done)))); (case he => ((repeat (first | with_reducible exact ap_nil | apply ap_cons)); done)))); (case he => (first | ((repeat (first | with_reducible exact ap_nil | apply ap_cons)); done) | fail)))); (case he => (first | ((repeat (first | with_reducible exact ap_nil | apply ap_cons)); done) | fail)))); (case hb => rfl); (case hd => rfl); intro b) | fail)
  refine v_ret [(b, _)] (outsA1 rfl rfl) (by repeat (exact List.Sublist.refl _)) ?_
  exact ⟨rfl, _, rfl, rfl⟩
theorem at1_s (G : GH) (b : Nat) : Con Tryd.prog 100 #[.pointer (some ⟨b, 0, none⟩)] G [] (Just (.iface 153 (.pointer (some ⟨b, 0 + 1, none⟩))) G) := by
  (refine v_enter Tryd.func100 rfl Tryd.ntmps100 rfl ?_; intro B _)
  repeat' (first | apply v_seq | apply v_region | apply v_nil | (apply v_pure; (case hop => first | (apply p_move <;> rfl) | (apply p_assign <;> rfl) | (apply p_fieldAddrB <;> rfl) | (apply p_nilCheck <;> rfl) | (apply p_iface <;> rfl)); (case hd => rfl)) | fail)
  refine v_ret [] (outsA1 rfl rfl) (by repeat (exact List.Sublist.refl _)) ?_
  exact ⟨rfl, rfl, rfl⟩
theorem at2_s (G : GH) (b : Nat) : Con Tryd.prog 101 #[.pointer (some ⟨b, 0, none⟩)] G [] (Just (.iface 153 (.pointer (some ⟨b, 0 + 2, none⟩))) G) := by
  (refine v_enter Tryd.func101 rfl Tryd.ntmps101 rfl ?_; intro B _)
  repeat' (first | apply v_seq | apply v_region | apply v_nil | (apply v_pure; (case hop => first | (apply p_move <;> rfl) | (apply p_assign <;> rfl) | (apply p_fieldAddrB <;> rfl) | (apply p_nilCheck <;> rfl) | (apply p_iface <;> rfl)); (case hd => rfl)) | fail)
  refine v_ret [] (outsA1 rfl rfl) (by repeat (exact List.Sublist.refl _)) ?_
  exact ⟨rfl, rfl, rfl⟩
theorem at3_s (G : GH) (b : Nat) : Con Tryd.prog 103 #[.pointer (some ⟨b, 0, none⟩)] G [] (Just (.iface 154 (.pointer (some ⟨b, 0 + 3, none⟩))) G) := by
  (refine v_enter Tryd.func103 rfl Tryd.ntmps103 rfl ?_; intro B _)
  repeat' (first | apply v_seq | apply v_region | apply v_nil | (apply v_pure; (case hop => first | (apply p_move <;> rfl) | (apply p_assign <;> rfl) | (apply p_fieldAddrB <;> rfl) | (apply p_nilCheck <;> rfl) | (apply p_iface <;> rfl)); (case hd => rfl)) | fail)
  refine v_ret [] (outsA1 rfl rfl) (by repeat (exact List.Sublist.refl _)) ?_
  exact ⟨rfl, rfl, rfl⟩
theorem at4_s (G : GH) (b : Nat) : Con Tryd.prog 105 #[.pointer (some ⟨b, 0, none⟩)] G [] (Just (.iface 154 (.pointer (some ⟨b, 0 + 5, none⟩))) G) := by
  (refine v_enter Tryd.func105 rfl Tryd.ntmps105 rfl ?_; intro B _)
  repeat' (first | apply v_seq | apply v_region | apply v_nil | (apply v_pure; (case hop => first | (apply p_move <;> rfl) | (apply p_assign <;> rfl) | (apply p_fieldAddrB <;> rfl) | (apply p_nilCheck <;> rfl) | (apply p_iface <;> rfl)); (case hd => rfl)) | fail)
  refine v_ret [] (outsA1 rfl rfl) (by repeat (exact List.Sublist.refl _)) ?_
  exact ⟨rfl, rfl, rfl⟩
theorem at5_s (G : GH) (b : Nat) : Con Tryd.prog 106 #[.pointer (some ⟨b, 0, none⟩)] G [] (Just (.iface 154 (.pointer (some ⟨b, 0 + 4, none⟩))) G) := by
  (refine v_enter Tryd.func106 rfl Tryd.ntmps106 rfl ?_; intro B _)
  repeat' (first | apply v_seq | apply v_region | apply v_nil | (apply v_pure; (case hop => first | (apply p_move <;> rfl) | (apply p_assign <;> rfl) | (apply p_fieldAddrB <;> rfl) | (apply p_nilCheck <;> rfl) | (apply p_iface <;> rfl)); (case hd => rfl)) | fail)
  refine v_ret [] (outsA1 rfl rfl) (by repeat (exact List.Sublist.refl _)) ?_
  exact ⟨rfl, rfl, rfl⟩
theorem at6_s (G : GH) (b : Nat) : Con Tryd.prog 107 #[.pointer (some ⟨b, 0, none⟩)] G [] (Just (.iface 153 (.pointer (some ⟨b, 0 + 6, none⟩))) G) := by
  (refine v_enter Tryd.func107 rfl Tryd.ntmps107 rfl ?_; intro B _)
  repeat' (first | apply v_seq | apply v_region | apply v_nil | (apply v_pure; (case hop => first | (apply p_move <;> rfl) | (apply p_assign <;> rfl) | (apply p_fieldAddrB <;> rfl) | (apply p_nilCheck <;> rfl) | (apply p_iface <;> rfl)); (case hd => rfl)) | fail)
  refine v_ret [] (outsA1 rfl rfl) (by repeat (exact List.Sublist.refl _)) ?_
  exact ⟨rfl, rfl, rfl⟩
def hasOf : Nat → Int
  | 0 => 1
  | 1 => 1
  | 2 => 2
  | 3 => 4
  | 4 => 8
  | _ => 16
def mostOf : Nat → Int
  | 0 => 8
  | 1 => 4294967296
  | _ => 9
def Cm.num (c : Cm) : Nat → Int
  | 0 => c.client
  | 1 => c.seq
  | _ => c.node
def Cm.txt (c : Cm) : Nat → ByteArray
  | 2 => c.key
  | 3 => c.old
  | _ => c.val
noncomputable def isTxt : Nat → ByteArray → Bool
  | 2 => keyB
  | _ => valB
def isNum (j : Nat) : Bool := j == 0 || j == 1 || j == 5
def numR (c : Cm) (f : Int) (j : Nat) : Bool := if isNum j then (if band f (hasOf j) = 0 then true else decide (1 ≤ c.num j ∧ c.num j ≤ mostOf j)) else true
def numF (c : Cm) (f : Int) (j : Nat) : Bool := if isNum j then (if band f (hasOf j) = 0 then decide (c.num j = 0) else true) else true
noncomputable def txtT (c : Cm) (f : Int) (j : Nat) : Bool := if isNum j then true else (if band f (hasOf j) = 0 then true else isTxt j (c.txt j))
def txtF (c : Cm) (f : Int) (j : Nat) : Bool := if isNum j then true else (if band f (hasOf j) = 0 then decide ((c.txt j).size = 0) else true)
theorem dec_nil {s : ByteArray} : dec (s = { data := #[] }) = decide (s.size = 0) := by
  rw [dec_eq]
  rw [decide_eq_decide]
  constructor
  · intro h; rw [h]; rfl
  · intro h
    apply ByteArray.ext
    exact Array.eq_empty_of_size_eq_zero h
theorem number_s (G : GH) (c : Cm) (f : Int) (cb j : Nat) (hj : j < 6) : Con Tryd.prog 78 #[.agg (partL j).toArray, .pointer (some ⟨cb, 0, none⟩), .int .i64 f] G [(cb, .cells c.cells.toArray 32 (0, 0))]
    (Keeps (.tuple [.bool (numR c f j), .bool (numF c f j)].toArray) G [(cb, .cells c.cells.toArray 32 (0, 0))]) := by
  apply Con.keeps
  unfold Cm.cells
  (refine v_enter Tryd.func78 rfl Tryd.ntmps78 rfl ?_; intro B _)
  obtain rfl | rfl | rfl | rfl | rfl | rfl : j = 0 ∨ j = 1 ∨ j = 2 ∨ j = 3 ∨ j = 4 ∨ j = 5 := by omega
  all_goals
    repeat' (first | apply v_seq | apply v_region | apply v_nil | apply v_skip | (apply v_pure; (case hop => first | (apply p_move <;> rfl) | (apply p_eq <;> rfl) | (apply p_assign <;> rfl) | (apply p_not <;> rfl) | (apply p_fieldAddrB <;> rfl) | (apply p_extract0 <;> rfl) | (apply p_extract1 <;> rfl) | (apply p_assertOk <;> rfl) | (apply p_assertNo <;> rfl) | (apply p_and64 <;> rfl) | fail); (case hd => rfl)) | (apply v_condT; (case hc => rfl)) | (apply v_condF; (case hc => rfl)) | (apply v_cond; (case hc => rfl); all_goals (intro h; (try simp only [reduceCtorEq, zzz] at h))) | (apply v_callFJ0 (hs := at1_s _ cb); (case hx => rfl); (case ha => rfl); (case hd => rfl)) | (apply v_callFJ0 (hs := at2_s _ cb); (case hx => rfl); (case ha => rfl); (case hd => rfl)) | (apply v_callFJ0 (hs := at3_s _ cb); (case hx => rfl); (case ha => rfl); (case hd => rfl)) | (apply v_callFJ0 (hs := at4_s _ cb); (case hx => rfl); (case ha => rfl); (case hd => rfl)) | (apply v_callFJ0 (hs := at5_s _ cb); (case hx => rfl); (case ha => rfl); (case hd => rfl)) | (apply v_callFJ0 (hs := at6_s _ cb); (case hx => rfl); (case ha => rfl); (case hd => rfl)) | (apply v_read; (case hop => (apply r_load1; rfl; (apply Cell.own; (case h => (repeat (exact mhd _))); rfl))); (case hd => rfl)) | (apply v_box; (case hx => rfl); (case hz => rfl); (case hd => rfl); intro b) | fail)
  all_goals try
    (refine v_ret [(cb, _)] (outsA2 rfl rfl rfl) (by repeat (first | exact List.Sublist.refl _ | apply List.Sublist.cons)) ?_
     exact ⟨rfl, rfl⟩)
  all_goals try
    (refine d_start _ (by kernel_rfl) (by kernel_rfl) (by kernel_rfl) (fun _ he => he) ?_
     all_goals (apply dtk 0; (case hi => rfl); (case hop => (apply prd; apply p_move <;> rfl)); (case hq => kernel_rfl))
     all_goals (apply dtk 1; (case hi => rfl); (case hop => (apply prd; apply p_nilCheck <;> rfl)); (case hq => kernel_rfl))
     all_goals (apply dtk 2; (case hi => rfl); (case hop => first | (apply r_loadNo; (case hx => rfl); (case h => (repeat (fail))); (case hd => (repeat (fail))); (case hn => rfl)) | (apply r_load1; rfl; (apply Cell.own; (case h => (repeat (first | exact mhd _ | apply mtl))); rfl)) | (apply r_loadN; rfl; (apply CellsAt.own; (case h => (repeat (fail)))); rfl)); (case hq => kernel_rfl))
     all_goals (apply dtk 3; (case hi => rfl); (case hop => (apply prd; apply p_eq <;> rfl)); (case hq => kernel_rfl))
     all_goals (apply dtk 4; (case hi => rfl); (case hop => (apply prd; apply p_assign <;> rfl)); (case hq => kernel_rfl))
     all_goals (apply dtk 5; (case hi => rfl); (case hop => (apply prd; apply p_assign <;> rfl)); (case hq => kernel_rfl))
     all_goals (apply d_done; (case hr => kernel_rfl))
     refine v_ret [(cb, _)] (outsA2 rfl rfl rfl) (by repeat (first | exact List.Sublist.refl _ | apply List.Sublist.cons)) ?_
     refine ⟨?_, rfl⟩
     simp [numR, numF, isNum, hasOf, Cm.num, dec_eq, *])
  all_goals
    (refine d_start _ (by kernel_rfl) (by kernel_rfl) (by kernel_rfl) (fun _ he => he) ?_
     all_goals (apply dtk 0; (case hi => rfl); (case hop => (apply prd; apply p_move <;> rfl)); (case hq => kernel_rfl))
     all_goals (apply dtk 1; (case hi => rfl); (case hop => (apply prd; apply p_nilCheck <;> rfl)); (case hq => kernel_rfl))
     all_goals (apply dtk 2; (case hi => rfl); (case hop => first | (apply r_loadNo; (case hx => rfl); (case h => (repeat (fail))); (case hd => (repeat (fail))); (case hn => rfl)) | (apply r_load1; rfl; (apply Cell.own; (case h => (repeat (first | exact mhd _ | apply mtl))); rfl)) | (apply r_loadN; rfl; (apply CellsAt.own; (case h => (repeat (fail)))); rfl)); (case hq => kernel_rfl))
     all_goals (apply dtk 3; (case hi => rfl); (case hop => (apply prd; apply p_ge <;> rfl)); (case hq => kernel_rfl))
     all_goals (apply dtk 4; (case hi => rfl); (case hop => (apply prd; apply p_move <;> rfl)); (case hq => kernel_rfl))
     all_goals (try (apply d_guardB 5; (case hi => rfl); (case hgd => rfl); (case h1 => rfl); (case h2 => rfl); all_goals (intro h; (try simp only [reduceCtorEq, zzz] at h))))
     all_goals (first | (apply dpa 5; (case hi => rfl); (case hg => rfl); (case hn => rfl); (case hq => kernel_rfl)) | (apply dtg 5; (case hi => rfl); (case hg => rfl); (case hop => (apply prd; apply p_move <;> rfl)); (case hq => kernel_rfl)) | fail)
     all_goals (try (apply d_guardB 6; (case hi => rfl); (case hgd => rfl); (case h1 => rfl); (case h2 => rfl); all_goals (intro h; (try simp only [reduceCtorEq, zzz] at h))))
     all_goals (first | (apply dpa 6; (case hi => rfl); (case hg => rfl); (case hn => rfl); (case hq => kernel_rfl)) | (apply dtg 6; (case hi => rfl); (case hg => rfl); (case hop => (apply prd; apply p_nilCheck <;> rfl)); (case hq => kernel_rfl)) | fail)
     all_goals (try (apply d_guardB 7; (case hi => rfl); (case hgd => rfl); (case h1 => rfl); (case h2 => rfl); all_goals (intro h; (try simp only [reduceCtorEq, zzz] at h))))
     all_goals (first | (apply dpa 7; (case hi => rfl); (case hg => rfl); (case hn => rfl); (case hq => kernel_rfl)) | (apply dtg 7; (case hi => rfl); (case hg => rfl); (case hop => first | (apply r_loadNo; (case hx => rfl); (case h => (repeat (fail))); (case hd => (repeat (fail))); (case hn => rfl)) | (apply r_load1; rfl; (apply Cell.own; (case h => (repeat (first | exact mhd _ | apply mtl))); rfl)) | (apply r_loadN; rfl; (apply CellsAt.own; (case h => (repeat (fail)))); rfl)); (case hq => kernel_rfl)) | fail)
     all_goals (try (apply d_guardB 8; (case hi => rfl); (case hgd => rfl); (case h1 => rfl); (case h2 => rfl); all_goals (intro h; (try simp only [reduceCtorEq, zzz] at h))))
     all_goals (first | (apply dpa 8; (case hi => rfl); (case hg => rfl); (case hn => rfl); (case hq => kernel_rfl)) | (apply dtg 8; (case hi => rfl); (case hg => rfl); (case hop => (apply prd; apply p_fieldAddrB <;> rfl)); (case hq => kernel_rfl)) | fail)
     all_goals (try (apply d_guardB 9; (case hi => rfl); (case hgd => rfl); (case h1 => rfl); (case h2 => rfl); all_goals (intro h; (try simp only [reduceCtorEq, zzz] at h))))
     all_goals (first | (apply dpa 9; (case hi => rfl); (case hg => rfl); (case hn => rfl); (case hq => kernel_rfl)) | (apply dtg 9; (case hi => rfl); (case hg => rfl); (case hop => first | (apply r_loadNo; (case hx => rfl); (case h => (repeat (fail))); (case hd => (repeat (fail))); (case hn => rfl)) | (apply r_load1; rfl; (apply Cell.own; (case h => (repeat (exact mhd _))); rfl)) | (apply r_loadN; rfl; (apply CellsAt.own; (case h => (repeat (fail)))); rfl)); (case hq => kernel_rfl)) | fail)
     all_goals (try (apply d_guardB 10; (case hi => rfl); (case hgd => rfl); (case h1 => rfl); (case h2 => rfl); all_goals (intro h; (try simp only [reduceCtorEq, zzz] at h))))
     all_goals (first | (apply dpa 10; (case hi => rfl); (case hg => rfl); (case hn => rfl); (case hq => kernel_rfl)) | (apply dtg 10; (case hi => rfl); (case hg => rfl); (case hop => (apply prd; apply p_le <;> rfl)); (case hq => kernel_rfl)) | fail)
     all_goals (apply dtk 11; (case hi => rfl); (case hop => first | (apply prd; apply p_pickT <;> rfl) | (apply prd; apply p_pickF <;> rfl) | fail); (case hq => kernel_rfl))
     all_goals (apply dtk 12; (case hi => rfl); (case hop => (apply prd; apply p_assign <;> rfl)); (case hq => kernel_rfl))
     all_goals (apply dtk 13; (case hi => rfl); (case hop => (apply prd; apply p_assign <;> rfl)); (case hq => kernel_rfl))
     all_goals (apply d_done; (case hr => kernel_rfl))
     all_goals
       (refine v_ret [(cb, _)] (outsA2 rfl rfl rfl) (by repeat (first | exact List.Sublist.refl _ | apply List.Sublist.cons)) ?_
        refine ⟨?_, rfl⟩
        simp [numR, numF, isNum, hasOf, mostOf, Cm.num, dec_eq, *]))
theorem text_s {G : GH} (hT : TabsG G) (c : Cm) (hk : c.key.size ≤ maxLen) (hv : c.val.size ≤ maxLen) (ho : c.old.size ≤ maxLen) (f : Int) (cb j : Nat) (hj : j < 6) : Con Tryd.prog 79 #[.agg (partL j).toArray, .pointer (some ⟨cb, 0, none⟩), .int .i64 f] G [(cb, .cells c.cells.toArray 32 (0, 0))]
    (Keeps (.tuple [.bool (txtT c f j), .bool (txtF c f j)].toArray) G [(cb, .cells c.cells.toArray 32 (0, 0))]) := by
  apply Con.keeps
  unfold Cm.cells
  simp only [maxLen] at hk hv ho
  (refine v_enter Tryd.func79 rfl Tryd.ntmps79 rfl ?_; intro B _)
  obtain rfl | rfl | rfl | rfl | rfl | rfl : j = 0 ∨ j = 1 ∨ j = 2 ∨ j = 3 ∨ j = 4 ∨ j = 5 := by omega
  all_goals
    repeat' (first | apply v_seq | apply v_region | apply v_nil | apply v_skip | (apply v_pure; (case hop => first | (apply p_move <;> rfl) | (apply p_eq <;> rfl) | (apply p_assign <;> rfl) | (apply p_not <;> rfl) | (apply p_fieldAddrB <;> rfl) | (apply p_extract0 <;> rfl) | (apply p_extract1 <;> rfl) | (apply p_assertOk <;> rfl) | (apply p_assertNo <;> rfl) | (apply p_and64 <;> rfl) | fail); (case hd => rfl)) | (apply v_condT; (case hc => rfl)) | (apply v_condF; (case hc => rfl)) | (apply v_cond; (case hc => rfl); all_goals (intro h; (try simp only [reduceCtorEq, zzz] at h))) | (apply v_callFJ0 (hs := at1_s _ cb); (case hx => rfl); (case ha => rfl); (case hd => rfl)) | (apply v_callFJ0 (hs := at2_s _ cb); (case hx => rfl); (case ha => rfl); (case hd => rfl)) | (apply v_callFJ0 (hs := at3_s _ cb); (case hx => rfl); (case ha => rfl); (case hd => rfl)) | (apply v_callFJ0 (hs := at4_s _ cb); (case hx => rfl); (case ha => rfl); (case hd => rfl)) | (apply v_callFJ0 (hs := at5_s _ cb); (case hx => rfl); (case ha => rfl); (case hd => rfl)) | (apply v_callFJ0 (hs := at6_s _ cb); (case hx => rfl); (case ha => rfl); (case hd => rfl)) | (apply v_read; (case hop => (apply r_load1; rfl; (apply Cell.own; (case h => (repeat (exact mhd _))); rfl))); (case hd => rfl)) | (apply v_box; (case hx => rfl); (case hz => rfl); (case hd => rfl); intro b) | fail)
  all_goals try
    (refine v_ret [(cb, _)] (outsA2 rfl rfl rfl) (by repeat (first | exact List.Sublist.refl _ | apply List.Sublist.cons)) ?_
     exact ⟨rfl, rfl⟩)
  all_goals try
    (refine d_start _ (by kernel_rfl) (by kernel_rfl) (by kernel_rfl) (fun _ he => he) ?_
     all_goals (apply dtk 0; (case hi => rfl); (case hop => (apply prd; apply p_move <;> rfl)); (case hq => kernel_rfl))
     all_goals (apply dtk 1; (case hi => rfl); (case hop => (apply prd; apply p_nilCheck <;> rfl)); (case hq => kernel_rfl))
     all_goals (apply dtk 2; (case hi => rfl); (case hop => first | (apply r_loadNo; (case hx => rfl); (case h => (repeat (fail))); (case hd => (repeat (fail))); (case hn => rfl)) | (apply r_load1; rfl; (apply Cell.own; (case h => (repeat (first | exact mhd _ | apply mtl))); rfl)) | (apply r_loadN; rfl; (apply CellsAt.own; (case h => (repeat (fail)))); rfl)); (case hq => kernel_rfl))
     all_goals (apply dtk 3; (case hi => rfl); (case hop => (apply prd; apply p_eqS <;> rfl)); (case hq => kernel_rfl))
     all_goals (apply dtk 4; (case hi => rfl); (case hop => (apply prd; apply p_assign <;> rfl)); (case hq => kernel_rfl))
     all_goals (apply dtk 5; (case hi => rfl); (case hop => (apply prd; apply p_assign <;> rfl)); (case hq => kernel_rfl))
     all_goals (apply d_done; (case hr => kernel_rfl))
     refine v_ret [(cb, _)] (outsA2 rfl rfl rfl) (by repeat (first | exact List.Sublist.refl _ | apply List.Sublist.cons)) ?_
     refine ⟨?_, rfl⟩
     simp [txtT, txtF, isNum, hasOf, Cm.txt, dec_nil, *])
  all_goals
    (refine d_start _ (by kernel_rfl) (by kernel_rfl) (by kernel_rfl) (fun _ he => he) ?_
     all_goals (apply dtk 0; (case hi => rfl); (case hop => (apply prd; apply p_fieldAddrB <;> rfl)); (case hq => kernel_rfl))
     all_goals (apply dtk 1; (case hi => rfl); (case hop => first | (apply r_loadNo; (case hx => rfl); (case h => (repeat (fail))); (case hd => (repeat (fail))); (case hn => rfl)) | (apply r_load1; rfl; (apply Cell.own; (case h => (repeat (exact mhd _))); rfl)) | (apply r_loadN; rfl; (apply CellsAt.own; (case h => (repeat (fail)))); rfl)); (case hq => kernel_rfl))
     all_goals (apply dtk 2; (case hi => rfl); (case hop => (apply prd; apply p_move <;> rfl)); (case hq => kernel_rfl))
     all_goals (apply dtk 3; (case hi => rfl); (case hop => (apply prd; apply p_nilCheck <;> rfl)); (case hq => kernel_rfl))
     all_goals (apply dtk 4; (case hi => rfl); (case hop => first | (apply r_loadNo; (case hx => rfl); (case h => (repeat (fail))); (case hd => (repeat (fail))); (case hn => rfl)) | (apply r_load1; rfl; (apply Cell.own; (case h => (repeat (first | exact mhd _ | apply mtl))); rfl)) | (apply r_loadN; rfl; (apply CellsAt.own; (case h => (repeat (fail)))); rfl)); (case hq => kernel_rfl))
     all_goals (first | (apply d_callJ0 5 (hs := (key_s (s := c.key) hT (by omega))); (case hi => rfl); (case hr => kernel_rfl); (case hx => rfl); (case ha => rfl); (case hd => rfl)) | (apply d_callJ0 5 (hs := (val_s (s := c.old) hT (by omega))); (case hi => rfl); (case hr => kernel_rfl); (case hx => rfl); (case ha => rfl); (case hd => rfl)) | (apply d_callJ0 5 (hs := (val_s (s := c.val) hT (by omega))); (case hi => rfl); (case hr => kernel_rfl); (case hx => rfl); (case ha => rfl); (case hd => rfl)) | fail)
     all_goals (apply dtk 6; (case hi => rfl); (case hop => (apply prd; apply p_assign <;> rfl)); (case hq => kernel_rfl))
     all_goals (apply dtk 7; (case hi => rfl); (case hop => (apply prd; apply p_assign <;> rfl)); (case hq => kernel_rfl))
     all_goals (apply d_done; (case hr => kernel_rfl))
     all_goals
       (refine v_ret [(cb, _)] (outsA2 rfl rfl rfl) (by repeat (first | exact List.Sublist.refl _ | apply List.Sublist.cons)) ?_
        refine ⟨?_, rfl⟩
        simp [txtT, txtF, isNum, hasOf, isTxt, Cm.txt, dec_nil, *]))
def allB (g : Nat → Bool) : Nat → Bool
  | 0 => true
  | k + 1 => allB g k && g k
def allB2 (g h : Nat → Bool) : Nat → Bool
  | 0 => true
  | k + 1 => (allB2 g h k && g k) && h k
noncomputable def cmdI (c : Cm) : Int :=
  if (cmdFields c.kind).2 = false then 5
  else if allB (numR c (cmdFields c.kind).1) 6 = false then 6
  else if allB (txtT c (cmdFields c.kind).1) 6 = false then 7
  else if allB2 (numF c (cmdFields c.kind).1) (txtF c (cmdFields c.kind).1) 6 = false then 3 else 0
theorem partsL_at {k : Nat} (hk : k < 6) : (partsL.drop (k * 4)).take 4 = partL k := by
  obtain rfl | rfl | rfl | rfl | rfl | rfl : k = 0 ∨ k = 1 ∨ k = 2 ∨ k = 3 ∨ k = 4 ∨ k = 5 := by omega
  all_goals rfl
theorem partsG {G : GH} {b : Nat} {e : TypeId} (h : G b = some (.cells partsL.toArray e (0, 0))) {k : Nat} (hk : k < 6) : CellsG G ((⟨b, 0, none⟩ : Addr).add (k * 4)) (partL k) := by
  intro j v hv
  rw [add_mk, add_mk, Nat.zero_add]
  rw [← partsL_at hk, List.getElem?_take] at hv
  split at hv
  · rw [List.getElem?_drop] at hv
    simp [GH.cell?, h, hv]
  · cases hv
theorem cmdCheck_s {G : GH} (hT : TabsG G) (c : Cm) (hc : c.ok) : Con Tryd.prog 45 #[.agg c.cells.toArray] G [] (fun r _ μ' => r = .int .i64 (cmdI c) ∧ μ' = []) := by
  obtain ⟨hk1, hc1, hs1, hk, hv, ho, hn1⟩ := id hc
  (refine v_enter Tryd.func45 rfl Tryd.ntmps45 rfl ?_; intro B _)
  obtain ⟨f, is, hf⟩ : ∃ f is, cmdFields c.kind = (f, is) := ⟨_, _, rfl⟩
  have hfs := fields_s G c.kind
  rw [hf] at hfs
  repeat' (first | apply v_seq | apply v_region | apply v_nil | apply v_skip | (apply v_pure; (case hop => first | (apply p_move <;> rfl) | (apply p_assign <;> rfl) | (apply p_not <;> rfl) | (apply p_fieldAddrB <;> rfl) | (apply p_extract0 <;> rfl) | (apply p_extract1 <;> rfl) | fail); (case hd => rfl)) | (apply v_cond; (case hc => rfl); all_goals (intro h; (try simp only [reduceCtorEq, zzz] at h))) | (apply v_box (zs := c.cells); (case hx => rfl); (case hz => rfl); (case hd => rfl); intro cb) | (apply v_callJ (hs := hfs); (case ha => rfl); (case hd => rfl)) | (apply v_read; (case hop => (apply r_load1; rfl; (apply Cell.own; (case h => (repeat (exact mhd _))); rfl))); (case hd => rfl)) | fail)
  · refine v_ret [] (outsA1 rfl rfl) (by repeat (exact List.nil_sublist _)) ?_
    refine ⟨?_, rfl⟩
    rw [cmdI, hf, if_pos (by assumption)]
  refine v_call (μ1 := []) (μ2 := _) rfl (parts_s G) (List.Perm.refl _) rfl ?_
  rintro r G' μ1 - ⟨rfl, pb, rfl, rfl⟩
  refine v_frz [(pb, _)] (by repeat (exact PickA.here _)) ?_
  intro G1 hle1 hG1
  have hpb := hG1 pb _ (List.Mem.head _)
  have hT1 := hT.le hle1
  repeat' (first | apply v_nil | apply v_block | (apply v_pure; (case hop => first | (apply p_move <;> rfl) | (apply p_lenSlice <;> rfl) | fail); (case hd => rfl)) | fail)
  refine v_loop [24, 23, 22, 5, 6, 7, 1, 3] (fun us G' μ' => G' = G1 ∧ μ' = [(cb, .cells c.cells.toArray 32 (0, 0))] ∧ ∃ (k : Nat) (R T F : Bool), us = [Value.int .i64 (k : Int), .int .i64 6, .slice (some ⟨pb, 0, none⟩) 6 6, .bool R, .bool T, .bool F, .pointer (some ⟨cb, 0, none⟩), .int .i64 f] ∧ k ≤ 6 ∧ R = allB (numR c f) k ∧ T = allB (txtT c f) k ∧ F = allB2 (numF c f) (txtF c f) k) (fun us => 7 - (headI us).toNat) rfl ⟨rfl, rfl, 0, true, true, true, rfl, by omega, rfl, rfl, rfl⟩ ?_
  rintro us G' μ' ⟨rfl, rfl, k, R, T, F, rfl, hk6, hR, hTt, hF⟩
  by_cases hlt : k < 6
  · have hnum := number_s G' c f cb k hlt
    have htxt := text_s hT1 c hk hv ho f cb k hlt
    have hpk := partsG hpb hlt
    have e1 : allB (numR c f) (k + 1) = (R && numR c f k) := by rw [hR]; rfl
    have e2 : allB (txtT c f) (k + 1) = (T && txtT c f k) := by rw [hTt]; rfl
    have e3 : allB2 (numF c f) (txtF c f) (k + 1) = ((F && numF c f k) && txtF c f k) := by rw [hF]; rfl
    generalize numR c f k = a1 at *
    generalize numF c f k = a2 at *
    generalize txtT c f k = a3 at *
    generalize txtF c f k = a4 at *
    clear hR hTt hF
    obtain rfl | rfl | rfl | rfl | rfl | rfl : k = 0 ∨ k = 1 ∨ k = 2 ∨ k = 3 ∨ k = 4 ∨ k = 5 := by omega
    all_goals
      (repeat' (first | (apply v_guardM; (case h1 => rfl); (case h2 => rfl); (case hop => (apply p_move; rfl)); (case hd => rfl)) | apply v_seq | apply v_region | apply v_nil | apply v_skip | apply v_block | apply v_blk | (apply v_pure; (case hop => first | (apply p_move <;> rfl) | (apply p_lt <;> rfl) | (apply p_assign <;> rfl) | (apply p_extract0 <;> rfl) | (apply p_extract1 <;> rfl) | (apply p_add; (case hx => rfl); (case hy => rfl); (case h => omega)) | (apply p_indexAddr; (case hx => rfl); (case hi => rfl); (case h0 => omega); (case h => omega)) | (apply p_pickAnd <;> rfl) | fail); (case hd => rfl)) | (apply v_cond; (case hc => rfl); all_goals (intro h; (try simp only [reduceCtorEq, zzz] at h); first | (exfalso; omega) | skip)) | (apply v_read; (case hop => (apply r_loadN; rfl; exact CellsAt.frozen hpk; rfl)); (case hd => rfl)) | (apply v_callK (hs := hnum); (case ha => rfl); (case hp => first | exact (Pick.perm (by repeat (first | exact Pick.here _ | apply Pick.there))) | fail); (case hd => rfl)) | (apply v_callK (hs := htxt); (case ha => rfl); (case hp => first | exact (Pick.perm (by repeat (first | exact Pick.here _ | apply Pick.there))) | fail); (case hd => rfl)) | (apply v_read; (case hop => (apply r_loadNo; (case hx => rfl); (case h => (repeat (exact mhd _))); (case hd => (repeat (first | with_reducible exact dt_nil | apply dt_here))); (case hn => rfl))); (case hd => rfl)) | (apply v_alloc; (case hz => rfl); (case hd => rfl); intro b) | (apply v_store; (case hp => rfl); (case hx => rfl); (case hc => rfl); (case hsz => rfl); (case h1 => rfl); (case hb => (repeat (exact mhd _))); (case hfit => exact nle rfl); (case hov => ((repeat (first | with_reducible exact ov_nil | apply ov_cons)); done)); (case hu => repeat (exact Upd.here _ _))) | fail))
    all_goals
      (refine v_only [(cb, _)] (by repeat (first | exact PickA.last | apply PickA.cons)) ?_
       refine v_again rfl ⟨rfl, rfl, _, _, _, _, ?_, ?_, e1.symm, e2.symm, e3.symm⟩ ?_
       · rfl
       · omega
       · simp [headI])
  · obtain rfl : k = 6 := by omega
    have his : is = true := by assumption
    subst his
    repeat' (first | apply v_seq | apply v_region | apply v_nil | apply v_skip | apply v_block | apply v_blk | (apply v_exit; (case hp => rfl)) | (apply v_pure; (case hop => first | (apply p_move <;> rfl) | (apply p_lt <;> rfl) | (apply p_assign <;> rfl) | (apply p_not <;> rfl) | fail); (case hd => rfl)) | (apply v_cond; (case hc => rfl); all_goals (intro h; (try simp only [reduceCtorEq, zzz] at h); first | (exfalso; omega) | skip)) | fail)
    all_goals
      (refine v_ret [] (outsA1 rfl rfl) (by repeat (exact List.nil_sublist _)) ?_
       refine ⟨?_, rfl⟩
       rw [cmdI, hf, if_neg (by simp)]
       simp only [← hR, ← hTt, ← hF]
       clear hR hTt hF
       simp [*])
theorem band_0_1 : band 0 1 = 0 := by decide
theorem band_0_2 : band 0 2 = 0 := by decide
theorem band_0_4 : band 0 4 = 0 := by decide
theorem band_0_8 : band 0 8 = 0 := by decide
theorem band_0_16 : band 0 16 = 0 := by decide
theorem band_3_1 : band 3 1 = 1 := by decide
theorem band_3_2 : band 3 2 = 2 := by decide
theorem band_3_4 : band 3 4 = 0 := by decide
theorem band_3_8 : band 3 8 = 0 := by decide
theorem band_3_16 : band 3 16 = 0 := by decide
theorem band_11_1 : band 11 1 = 1 := by decide
theorem band_11_2 : band 11 2 = 2 := by decide
theorem band_11_4 : band 11 4 = 0 := by decide
theorem band_11_8 : band 11 8 = 8 := by decide
theorem band_11_16 : band 11 16 = 0 := by decide
theorem band_15_1 : band 15 1 = 1 := by decide
theorem band_15_2 : band 15 2 = 2 := by decide
theorem band_15_4 : band 15 4 = 4 := by decide
theorem band_15_8 : band 15 8 = 8 := by decide
theorem band_15_16 : band 15 16 = 0 := by decide
theorem band_16_1 : band 16 1 = 0 := by decide
theorem band_16_2 : band 16 2 = 0 := by decide
theorem band_16_4 : band 16 4 = 0 := by decide
theorem band_16_8 : band 16 8 = 0 := by decide
theorem band_16_16 : band 16 16 = 16 := by decide
noncomputable def cmdE (c : Cm) : Int :=
  if c.kind < 1 ∨ 8 < c.kind then 5
  else if ((2 ≤ c.kind ∧ c.kind ≤ 5) ∧ ¬ (1 ≤ c.client ∧ c.client ≤ 8 ∧ 1 ≤ c.seq ∧ c.seq ≤ 4294967296)) ∨ ((c.kind = 7 ∨ c.kind = 8) ∧ ¬ (1 ≤ c.node ∧ c.node ≤ 9)) then 6
  else if ((2 ≤ c.kind ∧ c.kind ≤ 5) ∧ keyB c.key = false) ∨ ((c.kind = 2 ∨ c.kind = 5) ∧ valB c.val = false) ∨ (c.kind = 5 ∧ valB c.old = false) then 7
  else if (¬ (2 ≤ c.kind ∧ c.kind ≤ 5) ∧ (c.client ≠ 0 ∨ c.seq ≠ 0 ∨ c.key.size ≠ 0)) ∨ (¬ (c.kind = 2 ∨ c.kind = 5) ∧ c.val.size ≠ 0) ∨ (c.kind ≠ 5 ∧ c.old.size ≠ 0) ∨ (¬ (c.kind = 7 ∨ c.kind = 8) ∧ c.node ≠ 0) then 3 else 0
theorem ite6 {p : Bool} {a b : Int} {q : Prop} [Decidable q] (h : p = false ↔ q) : (if p = false then a else b) = (if q then a else b) := by
  by_cases hq : q
  · rw [if_pos hq, if_pos (h.2 hq)]
  · rw [if_neg hq, if_neg (fun e => hq (h.1 e))]
theorem cmdI_case {c : Cm} (f : Int) {q1 q2 q3 : Prop} [Decidable q1] [Decidable q2] [Decidable q3] (hf : cmdFields c.kind = (f, true)) (h1 : allB (numR c f) 6 = false ↔ q1) (h2 : allB (txtT c f) 6 = false ↔ q2) (h3 : allB2 (numF c f) (txtF c f) 6 = false ↔ q3) :
    (if (cmdFields c.kind).2 = false then (5 : Int) else if allB (numR c (cmdFields c.kind).1) 6 = false then 6 else if allB (txtT c (cmdFields c.kind).1) 6 = false then 7 else if allB2 (numF c (cmdFields c.kind).1) (txtF c (cmdFields c.kind).1) 6 = false then 3 else 0) = (if q1 then 6 else if q2 then 7 else if q3 then 3 else 0) := by
  rw [hf, if_neg (by simp), ite6 h1, ite6 h2, ite6 h3]
theorem cmdI_eq (c : Cm) : cmdI c = cmdE c := by
  obtain ⟨kind, client, seq, key, val, old, node⟩ := c
  by_cases hr : kind < 1 ∨ 8 < kind
  · have : cmdFields kind = (0, false) := by unfold cmdFields; rw [if_neg (by omega), if_neg (by omega), if_neg (by omega), if_neg (by omega), if_neg (by omega)]
    simp only [cmdI, cmdE, this, if_true]
    rw [if_pos hr]
  · unfold cmdI cmdE
    simp only
    rw [if_neg hr]
    obtain rfl | rfl | rfl | rfl | rfl | rfl | rfl | rfl : kind = 1 ∨ kind = 2 ∨ kind = 3 ∨ kind = 4 ∨ kind = 5 ∨ kind = 6 ∨ kind = 7 ∨ kind = 8 := by omega
    · refine cmdI_case (c := ⟨1, client, seq, key, val, old, node⟩) 0 rfl ?_ ?_ ?_
      · (simp [allB, allB2, numR, numF, txtT, txtF, isNum, hasOf, mostOf, isTxt, Cm.num, Cm.txt, band_0_1, band_0_2, band_0_4, band_0_8, band_0_16, band_3_1, band_3_2, band_3_4, band_3_8, band_3_16, band_11_1, band_11_2, band_11_4, band_11_8, band_11_16, band_15_1, band_15_2, band_15_4, band_15_8, band_15_16, band_16_1, band_16_2, band_16_4, band_16_8, band_16_16]; done)
      · cases hk : keyB key <;> cases hv : valB val <;> cases ho : valB old <;> simp [hk, hv, ho, allB, allB2, numR, numF, txtT, txtF, isNum, hasOf, mostOf, isTxt, Cm.num, Cm.txt, band_0_1, band_0_2, band_0_4, band_0_8, band_0_16, band_3_1, band_3_2, band_3_4, band_3_8, band_3_16, band_11_1, band_11_2, band_11_4, band_11_8, band_11_16, band_15_1, band_15_2, band_15_4, band_15_8, band_15_16, band_16_1, band_16_2, band_16_4, band_16_8, band_16_16]
      · (simp [allB, allB2, numR, numF, txtT, txtF, isNum, hasOf, mostOf, isTxt, Cm.num, Cm.txt, band_0_1, band_0_2, band_0_4, band_0_8, band_0_16, band_3_1, band_3_2, band_3_4, band_3_8, band_3_16, band_11_1, band_11_2, band_11_4, band_11_8, band_11_16, band_15_1, band_15_2, band_15_4, band_15_8, band_15_16, band_16_1, band_16_2, band_16_4, band_16_8, band_16_16]; grind)
    · refine cmdI_case (c := ⟨2, client, seq, key, val, old, node⟩) 11 rfl ?_ ?_ ?_
      · (simp [allB, allB2, numR, numF, txtT, txtF, isNum, hasOf, mostOf, isTxt, Cm.num, Cm.txt, band_0_1, band_0_2, band_0_4, band_0_8, band_0_16, band_3_1, band_3_2, band_3_4, band_3_8, band_3_16, band_11_1, band_11_2, band_11_4, band_11_8, band_11_16, band_15_1, band_15_2, band_15_4, band_15_8, band_15_16, band_16_1, band_16_2, band_16_4, band_16_8, band_16_16]; done)
      · cases hk : keyB key <;> cases hv : valB val <;> cases ho : valB old <;> simp [hk, hv, ho, allB, allB2, numR, numF, txtT, txtF, isNum, hasOf, mostOf, isTxt, Cm.num, Cm.txt, band_0_1, band_0_2, band_0_4, band_0_8, band_0_16, band_3_1, band_3_2, band_3_4, band_3_8, band_3_16, band_11_1, band_11_2, band_11_4, band_11_8, band_11_16, band_15_1, band_15_2, band_15_4, band_15_8, band_15_16, band_16_1, band_16_2, band_16_4, band_16_8, band_16_16]
      · (simp [allB, allB2, numR, numF, txtT, txtF, isNum, hasOf, mostOf, isTxt, Cm.num, Cm.txt, band_0_1, band_0_2, band_0_4, band_0_8, band_0_16, band_3_1, band_3_2, band_3_4, band_3_8, band_3_16, band_11_1, band_11_2, band_11_4, band_11_8, band_11_16, band_15_1, band_15_2, band_15_4, band_15_8, band_15_16, band_16_1, band_16_2, band_16_4, band_16_8, band_16_16]; grind)
    · refine cmdI_case (c := ⟨3, client, seq, key, val, old, node⟩) 3 rfl ?_ ?_ ?_
      · (simp [allB, allB2, numR, numF, txtT, txtF, isNum, hasOf, mostOf, isTxt, Cm.num, Cm.txt, band_0_1, band_0_2, band_0_4, band_0_8, band_0_16, band_3_1, band_3_2, band_3_4, band_3_8, band_3_16, band_11_1, band_11_2, band_11_4, band_11_8, band_11_16, band_15_1, band_15_2, band_15_4, band_15_8, band_15_16, band_16_1, band_16_2, band_16_4, band_16_8, band_16_16]; done)
      · cases hk : keyB key <;> cases hv : valB val <;> cases ho : valB old <;> simp [hk, hv, ho, allB, allB2, numR, numF, txtT, txtF, isNum, hasOf, mostOf, isTxt, Cm.num, Cm.txt, band_0_1, band_0_2, band_0_4, band_0_8, band_0_16, band_3_1, band_3_2, band_3_4, band_3_8, band_3_16, band_11_1, band_11_2, band_11_4, band_11_8, band_11_16, band_15_1, band_15_2, band_15_4, band_15_8, band_15_16, band_16_1, band_16_2, band_16_4, band_16_8, band_16_16]
      · (simp [allB, allB2, numR, numF, txtT, txtF, isNum, hasOf, mostOf, isTxt, Cm.num, Cm.txt, band_0_1, band_0_2, band_0_4, band_0_8, band_0_16, band_3_1, band_3_2, band_3_4, band_3_8, band_3_16, band_11_1, band_11_2, band_11_4, band_11_8, band_11_16, band_15_1, band_15_2, band_15_4, band_15_8, band_15_16, band_16_1, band_16_2, band_16_4, band_16_8, band_16_16]; grind)
    · refine cmdI_case (c := ⟨4, client, seq, key, val, old, node⟩) 3 rfl ?_ ?_ ?_
      · (simp [allB, allB2, numR, numF, txtT, txtF, isNum, hasOf, mostOf, isTxt, Cm.num, Cm.txt, band_0_1, band_0_2, band_0_4, band_0_8, band_0_16, band_3_1, band_3_2, band_3_4, band_3_8, band_3_16, band_11_1, band_11_2, band_11_4, band_11_8, band_11_16, band_15_1, band_15_2, band_15_4, band_15_8, band_15_16, band_16_1, band_16_2, band_16_4, band_16_8, band_16_16]; done)
      · cases hk : keyB key <;> cases hv : valB val <;> cases ho : valB old <;> simp [hk, hv, ho, allB, allB2, numR, numF, txtT, txtF, isNum, hasOf, mostOf, isTxt, Cm.num, Cm.txt, band_0_1, band_0_2, band_0_4, band_0_8, band_0_16, band_3_1, band_3_2, band_3_4, band_3_8, band_3_16, band_11_1, band_11_2, band_11_4, band_11_8, band_11_16, band_15_1, band_15_2, band_15_4, band_15_8, band_15_16, band_16_1, band_16_2, band_16_4, band_16_8, band_16_16]
      · (simp [allB, allB2, numR, numF, txtT, txtF, isNum, hasOf, mostOf, isTxt, Cm.num, Cm.txt, band_0_1, band_0_2, band_0_4, band_0_8, band_0_16, band_3_1, band_3_2, band_3_4, band_3_8, band_3_16, band_11_1, band_11_2, band_11_4, band_11_8, band_11_16, band_15_1, band_15_2, band_15_4, band_15_8, band_15_16, band_16_1, band_16_2, band_16_4, band_16_8, band_16_16]; grind)
    · refine cmdI_case (c := ⟨5, client, seq, key, val, old, node⟩) 15 rfl ?_ ?_ ?_
      · (simp [allB, allB2, numR, numF, txtT, txtF, isNum, hasOf, mostOf, isTxt, Cm.num, Cm.txt, band_0_1, band_0_2, band_0_4, band_0_8, band_0_16, band_3_1, band_3_2, band_3_4, band_3_8, band_3_16, band_11_1, band_11_2, band_11_4, band_11_8, band_11_16, band_15_1, band_15_2, band_15_4, band_15_8, band_15_16, band_16_1, band_16_2, band_16_4, band_16_8, band_16_16]; done)
      · cases hk : keyB key <;> cases hv : valB val <;> cases ho : valB old <;> simp [hk, hv, ho, allB, allB2, numR, numF, txtT, txtF, isNum, hasOf, mostOf, isTxt, Cm.num, Cm.txt, band_0_1, band_0_2, band_0_4, band_0_8, band_0_16, band_3_1, band_3_2, band_3_4, band_3_8, band_3_16, band_11_1, band_11_2, band_11_4, band_11_8, band_11_16, band_15_1, band_15_2, band_15_4, band_15_8, band_15_16, band_16_1, band_16_2, band_16_4, band_16_8, band_16_16]
      · (simp [allB, allB2, numR, numF, txtT, txtF, isNum, hasOf, mostOf, isTxt, Cm.num, Cm.txt, band_0_1, band_0_2, band_0_4, band_0_8, band_0_16, band_3_1, band_3_2, band_3_4, band_3_8, band_3_16, band_11_1, band_11_2, band_11_4, band_11_8, band_11_16, band_15_1, band_15_2, band_15_4, band_15_8, band_15_16, band_16_1, band_16_2, band_16_4, band_16_8, band_16_16]; done)
    · refine cmdI_case (c := ⟨6, client, seq, key, val, old, node⟩) 0 rfl ?_ ?_ ?_
      · (simp [allB, allB2, numR, numF, txtT, txtF, isNum, hasOf, mostOf, isTxt, Cm.num, Cm.txt, band_0_1, band_0_2, band_0_4, band_0_8, band_0_16, band_3_1, band_3_2, band_3_4, band_3_8, band_3_16, band_11_1, band_11_2, band_11_4, band_11_8, band_11_16, band_15_1, band_15_2, band_15_4, band_15_8, band_15_16, band_16_1, band_16_2, band_16_4, band_16_8, band_16_16]; done)
      · cases hk : keyB key <;> cases hv : valB val <;> cases ho : valB old <;> simp [hk, hv, ho, allB, allB2, numR, numF, txtT, txtF, isNum, hasOf, mostOf, isTxt, Cm.num, Cm.txt, band_0_1, band_0_2, band_0_4, band_0_8, band_0_16, band_3_1, band_3_2, band_3_4, band_3_8, band_3_16, band_11_1, band_11_2, band_11_4, band_11_8, band_11_16, band_15_1, band_15_2, band_15_4, band_15_8, band_15_16, band_16_1, band_16_2, band_16_4, band_16_8, band_16_16]
      · (simp [allB, allB2, numR, numF, txtT, txtF, isNum, hasOf, mostOf, isTxt, Cm.num, Cm.txt, band_0_1, band_0_2, band_0_4, band_0_8, band_0_16, band_3_1, band_3_2, band_3_4, band_3_8, band_3_16, band_11_1, band_11_2, band_11_4, band_11_8, band_11_16, band_15_1, band_15_2, band_15_4, band_15_8, band_15_16, band_16_1, band_16_2, band_16_4, band_16_8, band_16_16]; grind)
    · refine cmdI_case (c := ⟨7, client, seq, key, val, old, node⟩) 16 rfl ?_ ?_ ?_
      · (simp [allB, allB2, numR, numF, txtT, txtF, isNum, hasOf, mostOf, isTxt, Cm.num, Cm.txt, band_0_1, band_0_2, band_0_4, band_0_8, band_0_16, band_3_1, band_3_2, band_3_4, band_3_8, band_3_16, band_11_1, band_11_2, band_11_4, band_11_8, band_11_16, band_15_1, band_15_2, band_15_4, band_15_8, band_15_16, band_16_1, band_16_2, band_16_4, band_16_8, band_16_16]; done)
      · cases hk : keyB key <;> cases hv : valB val <;> cases ho : valB old <;> simp [hk, hv, ho, allB, allB2, numR, numF, txtT, txtF, isNum, hasOf, mostOf, isTxt, Cm.num, Cm.txt, band_0_1, band_0_2, band_0_4, band_0_8, band_0_16, band_3_1, band_3_2, band_3_4, band_3_8, band_3_16, band_11_1, band_11_2, band_11_4, band_11_8, band_11_16, band_15_1, band_15_2, band_15_4, band_15_8, band_15_16, band_16_1, band_16_2, band_16_4, band_16_8, band_16_16]
      · (simp [allB, allB2, numR, numF, txtT, txtF, isNum, hasOf, mostOf, isTxt, Cm.num, Cm.txt, band_0_1, band_0_2, band_0_4, band_0_8, band_0_16, band_3_1, band_3_2, band_3_4, band_3_8, band_3_16, band_11_1, band_11_2, band_11_4, band_11_8, band_11_16, band_15_1, band_15_2, band_15_4, band_15_8, band_15_16, band_16_1, band_16_2, band_16_4, band_16_8, band_16_16]; grind)
    · refine cmdI_case (c := ⟨8, client, seq, key, val, old, node⟩) 16 rfl ?_ ?_ ?_
      · (simp [allB, allB2, numR, numF, txtT, txtF, isNum, hasOf, mostOf, isTxt, Cm.num, Cm.txt, band_0_1, band_0_2, band_0_4, band_0_8, band_0_16, band_3_1, band_3_2, band_3_4, band_3_8, band_3_16, band_11_1, band_11_2, band_11_4, band_11_8, band_11_16, band_15_1, band_15_2, band_15_4, band_15_8, band_15_16, band_16_1, band_16_2, band_16_4, band_16_8, band_16_16]; done)
      · cases hk : keyB key <;> cases hv : valB val <;> cases ho : valB old <;> simp [hk, hv, ho, allB, allB2, numR, numF, txtT, txtF, isNum, hasOf, mostOf, isTxt, Cm.num, Cm.txt, band_0_1, band_0_2, band_0_4, band_0_8, band_0_16, band_3_1, band_3_2, band_3_4, band_3_8, band_3_16, band_11_1, band_11_2, band_11_4, band_11_8, band_11_16, band_15_1, band_15_2, band_15_4, band_15_8, band_15_16, band_16_1, band_16_2, band_16_4, band_16_8, band_16_16]
      · (simp [allB, allB2, numR, numF, txtT, txtF, isNum, hasOf, mostOf, isTxt, Cm.num, Cm.txt, band_0_1, band_0_2, band_0_4, band_0_8, band_0_16, band_3_1, band_3_2, band_3_4, band_3_8, band_3_16, band_11_1, band_11_2, band_11_4, band_11_8, band_11_16, band_15_1, band_15_2, band_15_4, band_15_8, band_15_16, band_16_1, band_16_2, band_16_4, band_16_8, band_16_16]; grind)
theorem eqBal {σ : Env} {ty t' : TypeId} {x y : Operand} {a b a' b' : Int} (hx : Env.ev σ x = some (.agg [.int .i64 a, .int .i64 b].toArray)) (hy : Env.ev σ y = some (.agg [.int .i64 a', .int .i64 b'].toArray)) : PureOp Tryd.prog (.binOp .eql 48 x y t') ty σ (.bool (dec (a = a' ∧ b = b'))) := by
  have := p_eqStruct (P := Tryd.prog) (ty := ty) (t := 48) (t' := t') hx hy (feq_int (k := .i64) (a := a) (b := a') (bytes := 8) (zero := .int .i64 0) (sz := 1) rfl rfl rfl (feq_int (k := .i64) (a := b) (b := b') (bytes := 8) (zero := .int .i64 0) (sz := 1) rfl rfl rfl feq_nil))
  have e : (dec (a = a') && (dec (b = b') && true)) = dec (a = a' ∧ b = b') := by simp only [dec_eq]; simp
  rwa [e] at this
theorem neBal {σ : Env} {ty t' : TypeId} {x y : Operand} {a b a' b' : Int} (hx : Env.ev σ x = some (.agg [.int .i64 a, .int .i64 b].toArray)) (hy : Env.ev σ y = some (.agg [.int .i64 a', .int .i64 b'].toArray)) : PureOp Tryd.prog (.binOp .neq 48 x y t') ty σ (.bool (!dec (a = a' ∧ b = b'))) := by
  have := p_neStruct (P := Tryd.prog) (ty := ty) (t := 48) (t' := t') hx hy (feq_int (k := .i64) (a := a) (b := a') (bytes := 8) (zero := .int .i64 0) (sz := 1) rfl rfl rfl (feq_int (k := .i64) (a := b) (b := b') (bytes := 8) (zero := .int .i64 0) (sz := 1) rfl rfl rfl feq_nil))
  have e : (dec (a = a') && (dec (b = b') && true)) = dec (a = a' ∧ b = b') := by simp only [dec_eq]; simp
  rwa [e] at this
def mayP (r n : Int) : Prop := (r = 0 ∧ n = 0) ∨ (1 ≤ r ∧ r ≤ 4294967296 ∧ 1 ≤ n ∧ n ≤ 9)
instance (r n : Int) : Decidable (mayP r n) := by unfold mayP; infer_instance
theorem node_s (G : GH) (n : Int) : Con Tryd.prog 62 #[.int .i64 n] G [] (Just (.bool (decide (1 ≤ n ∧ n ≤ 9))) G) := by
  (refine v_enter Tryd.func62 rfl Tryd.ntmps62 rfl ?_; intro B _)
  repeat' (first | apply v_seq | apply v_region | apply v_nil | (apply v_take; (case hg => rfl)) | (apply v_pass; (case hg => rfl); (case hn => rfl); (case hd => rfl)) | (apply v_pure; (case hop => first | (apply p_move <;> rfl) | (apply p_le <;> rfl) | (apply p_ge <;> rfl) | (apply p_assign <;> rfl) | (apply p_pickT <;> rfl) | (apply p_pickF <;> rfl) | fail); (case hd => rfl)) | (apply v_guardB; (case h1 => rfl); (case h2 => rfl); all_goals (intro h; (try simp only [reduceCtorEq, zzz] at h))) | fail)
  all_goals
    (refine v_ret [] (outsA1 rfl rfl) (by repeat (exact List.Sublist.refl _)) ?_
     refine ⟨?_, rfl, rfl⟩
     first
       | (rw [decide_eq_false (by omega)])
       | (by_cases h5 : n ≤ 9
          · rw [dec_pos h5, decide_eq_true (by omega)]
          · rw [dec_neg h5, decide_eq_false (by omega)]))
theorem may_s (G : GH) (r n : Int) : Con Tryd.prog 36 #[.agg #[.int .i64 r, .int .i64 n]] G [] (Just (.bool (decide (mayP r n))) G) := by
  apply Con.just
  (refine v_enter Tryd.func36 rfl Tryd.ntmps36 rfl ?_; intro B _)
  repeat' (first | (apply v_pure; (case hop => (apply eqBal; (case hx => rfl); (case hy => rfl))); (case hd => rfl)) | apply v_seq | apply v_region | apply v_nil | (apply v_take; (case hg => rfl)) | (apply v_pass; (case hg => rfl); (case hn => rfl); (case hd => rfl)) | (apply v_passN; (case hg => rfl); (case hn => rfl); (case hd => rfl)) | (apply v_pure; (case hop => first | (apply p_move <;> rfl) | (apply p_le <;> rfl) | (apply p_ge <;> rfl) | (apply p_assign <;> rfl) | (apply p_pickT <;> rfl) | (apply p_pickF <;> rfl) | (apply p_fieldAddrB <;> rfl) | (apply p_build; (case hz => rfl); (case hv => (simp only [List.map_cons, List.map_nil]; repeat (with_reducible exact evs_nil))); (case hb => (apply bldL; repeat (exact bld_nil)))) | fail); (case hd => rfl)) | (apply v_guardB; (case h1 => rfl); (case h2 => rfl); all_goals (intro h; (try simp only [reduceCtorEq, zzz] at h))) | (apply v_callJ (hs := node_s _ _); (case ha => rfl); (case hd => rfl)) | (apply v_read; (case hop => first | (apply r_loadNo; (case hx => rfl); (case h => (repeat (exact mhd _))); (case hd => (repeat (first | with_reducible exact dt_nil | apply dt_here))); (case hn => rfl)) | (apply r_load1; rfl; (apply Cell.own; (case h => (repeat (exact mhd _))); rfl)) | fail); (case hd => rfl)) | (apply v_box; (case hx => rfl); (case hz => rfl); (case hd => rfl); intro b) | fail)
  all_goals
    (refine v_ret [] (outsA1 rfl rfl) (by repeat (exact List.nil_sublist _)) ?_
     refine ⟨?_, rfl⟩
     first
       | (rw [decide_eq_true (p := mayP r n) (by unfold mayP; omega)]; done)
       | (rw [decide_eq_false (p := mayP r n) (by unfold mayP; omega)]; done)
       | (rw [decide_eq_decide.2]; unfold mayP; omega)
       | (congr 1; rw [decide_eq_decide]; unfold mayP; omega))
def zeroCm : Cm := ⟨0, 0, 0, ByteArray.empty, ByteArray.empty, ByteArray.empty, 0⟩
structure Ent where
  index : Int
  round : Int
  node : Int
  cmd : Cm
def Ent.cells (x : Ent) : List Value := [.int .i64 x.index, .int .i64 x.round, .int .i64 x.node, .int .i64 x.cmd.kind, .int .i64 x.cmd.client, .int .i64 x.cmd.seq, .string x.cmd.key, .string x.cmd.val, .string x.cmd.old, .int .i64 x.cmd.node]
def Ent.ok (x : Ent) : Prop := (Lit.int .i64 x.index).wf = true ∧ (Lit.int .i64 x.round).wf = true ∧ (Lit.int .i64 x.node).wf = true ∧ x.cmd.ok
def EntR (x : Ent) (cs : List Value) : Prop := cs = x.cells ∧ x.ok
abbrev Es (G : GH) (v : Value) (l : List Ent) : Prop := Sl G 10 EntR v l
theorem adr_add (X : Addr) (a b : Nat) : (X.add a).add b = X.add (a + b) := by
  by_cases ha : a = 0 <;> by_cases hb : b = 0 <;> simp [Addr.add, ha, hb, Nat.add_assoc]
theorem cellsG_drop {G : GH} {X : Addr} {cs : List Value} (n : Nat) (h : CellsG G X cs) : CellsG G (X.add n) (cs.drop n) := by
  intro j u hu
  rw [adr_add]
  exact h _ _ (by simpa using hu)
theorem cellsG_take {G : GH} {X : Addr} {cs : List Value} (n : Nat) (h : CellsG G X cs) : CellsG G X (cs.take n) := by
  intro j u hu
  exact h _ _ (by rw [List.getElem?_take] at hu; split at hu; exact hu; cases hu)
theorem esOpen {G : GH} {v : Value} {l : List Ent} (h : Es G v l) : ∃ A c, v = .slice A l.length c ∧ l.length ≤ c ∧ c ≤ maxLen ∧ (0 < l.length → A.isSome = true) ∧
    (∀ i (h : i < l.length), CellsG G ((adr A).add (i * 10)) l[i].cells) ∧ (∀ i (h : i < l.length), CellsG G (((adr A).add (i * 10)).add 1) [.int .i64 l[i].round, .int .i64 l[i].node]) ∧
    (∀ i (h : i < l.length), CellsG G (((adr A).add (i * 10)).add 3) l[i].cmd.cells) ∧ (∀ i (h : i < l.length), l[i].ok) := by
  obtain ⟨A, c, rfl, h1, h2, h3, h4⟩ := h.open
  have key : ∀ i (h : i < l.length), CellsG G ((adr A).add (i * 10)) l[i].cells ∧ l[i].ok := fun i hi => by
    obtain ⟨cs, _, ⟨rfl, h6⟩, h5⟩ := h4 i _ (List.getElem?_eq_getElem hi)
    exact ⟨h5, h6⟩
  refine ⟨A, c, rfl, h1, h2, h3, fun i hi => (key i hi).1, fun i hi => ?_, fun i hi => ?_, fun i hi => (key i hi).2⟩
  · exact cellsG_take 2 (cellsG_drop 1 (key i hi).1)
  · exact cellsG_drop 3 (key i hi).1
noncomputable def oneI (x : Ent) : Int := if x.index < 1 ∨ 4294967296 < x.index ∨ ¬ mayP x.round x.node then 6 else cmdI x.cmd
theorem one_s {G : GH} (hT : TabsG G) (x : Ent) (hx : x.ok) : Con Tryd.prog 92 #[.agg x.cells.toArray] G [] (Just (.int .i64 (oneI x)) G) := by
  have qm := may_s G x.round x.node
  have qc := Con.just (cmdCheck_s hT x.cmd hx.2.2.2)
  apply Con.just
  (refine v_enter Tryd.func92 rfl Tryd.ntmps92 rfl ?_; intro B _)
  repeat' (first | apply v_seq | apply v_region | apply v_nil | apply v_skip | (apply v_take; (case hg => rfl)) | (apply v_pass; (case hg => rfl); (case hn => rfl); (case hd => rfl)) | (apply v_pure; (case hop => first | (apply p_move <;> rfl) | (apply p_lt <;> rfl) | (apply p_gt <;> rfl) | (apply p_assign <;> rfl) | (apply p_pickT <;> rfl) | (apply p_pickF <;> rfl) | (apply p_not <;> rfl) | (apply p_fieldAddrB <;> rfl) | fail); (case hd => rfl)) | (apply v_condT; (case hc => rfl)) | (apply v_cond; (case hc => rfl); all_goals (intro h; (try simp only [reduceCtorEq, zzz] at h))) | (apply v_guardB; (case h1 => rfl); (case h2 => rfl); all_goals (intro h; (try simp only [reduceCtorEq, zzz] at h))) | (apply v_box (zs := x.cells); (case hx => rfl); (case hz => rfl); (case hd => rfl); intro b) | (apply v_callJ (hs := qm); (case ha => rfl); (case hd => rfl)) | (apply v_callJ (hs := qc); (case ha => rfl); (case hd => rfl)) | (apply v_read; (case hop => first | (apply r_loadNo; (case hx => rfl); (case h => (repeat (exact mhd _))); (case hd => (repeat (first | with_reducible exact dt_nil | apply dt_here))); (case hn => rfl)) | (apply r_load1; rfl; (apply Cell.own; (case h => (repeat (exact mhd _))); rfl)) | fail); (case hd => rfl)) | fail)
  all_goals
    (refine v_ret [] (outsA1 rfl rfl) (by repeat (exact List.nil_sublist _)) ?_
     refine ⟨?_, rfl⟩
     (simp [oneI, *]; done))
theorem esCell {G : GH} {A : Option Addr} {l : List Ent} (hcp : ∀ i (h : i < l.length), CellsG G ((adr A).add (i * 10)) l[i].cells) (i : Nat) (h : i < l.length) : GH.cell? G (((adr A).add (i * 10)).add 0) = some (.int .i64 l[i].index) := (hcp i h).cell (j := 0) rfl
noncomputable def chkK (l : List Ent) (k : Nat) : Int :=
  if h : k < l.length then if oneI l[k] ≠ 0 then oneI l[k] else if h0 : 0 < k then if l[k].index ≤ (l[k - 1]'(by omega)).index then 12 else chkK l (k + 1) else chkK l (k + 1) else 0
termination_by l.length - k
theorem entCheck_s {G : GH} (hT : TabsG G) {l : List Ent} {sv : Value} (hs : Es G sv l) : Con Tryd.prog 65 #[sv] G [] (Just (.int .i64 (chkK l 0)) G) := by
  obtain ⟨A, c, rfl, hlc, hcm, hsome, hcp, hcb, hcc, hok⟩ := esOpen hs
  simp only [maxLen] at hcm
  apply Con.just
  (refine v_enter Tryd.func65 rfl Tryd.ntmps65 rfl ?_; intro B _)
  repeat' (first | apply v_seq | apply v_region | apply v_nil | apply v_block | (apply v_pure; (case hop => first | (apply p_move <;> rfl) | (apply p_assign <;> rfl) | (apply p_lenSlice <;> rfl) | fail); (case hd => rfl)) | fail)
  refine v_loop [8, 7, 6, 0] (fun us G' μ' => G' = G ∧ μ' = [] ∧ ∃ k, k ≤ l.length ∧ us = [Value.int .i64 (k : Nat), .int .i64 l.length, .slice A l.length c, .slice A l.length c] ∧ chkK l 0 = chkK l k) (fun us => l.length - (headI us).toNat) rfl ⟨rfl, rfl, 0, by omega, rfl, rfl⟩ ?_
  rintro us G' μ' ⟨rfl, rfl, k, hk, rfl, hno⟩
  have e1 : ((k : Nat) : Int).toNat = k := by omega
  have e2 : (((k : Nat) : Int) - 1).toNat = k - 1 := by omega
  have q1 := fun (h : k < l.length) => one_s hT l[k] (hok k h)
  repeat' (first | apply v_seq | apply v_region | apply v_nil | apply v_skip | apply v_block | (apply v_exit; (case hp => rfl)) | (apply v_pure; (case hop => first | (apply p_move <;> rfl) | (apply p_lt <;> rfl) | (apply p_ne <;> rfl) | (apply p_assign <;> rfl) | (apply p_indexAddrS; (case hx => rfl); (case hi => rfl); (case h0 => omega); (case h => omega); (case hA => (apply_assumption; omega))) | fail); (case hd => rfl)) | (apply v_cond; (case hc => rfl); all_goals (intro h; (try simp only [reduceCtorEq, zzz] at h))) | (apply v_read; (case hop => (apply r_loadN; rfl; exact CellsAt.frozen (hcp _ (by omega)); rfl)); (case hd => rfl)) | (apply v_callJ (hs := q1 (by omega)); (case ha => rfl); (case hd => rfl)) | (apply v_read; (case hop => (apply r_loadNo; (case hx => rfl); (case h => (repeat (exact mhd _))); (case hd => (repeat (first | with_reducible exact dt_nil | apply dt_here))); (case hn => rfl))); (case hd => rfl)) | (apply v_alloc; (case hz => rfl); (case hd => rfl); intro b) | (apply v_store; (case hp => rfl); (case hx => rfl); (case hc => rfl); (case hsz => rfl); (case h1 => rfl); (case hb => (repeat (exact mhd _))); (case hfit => exact nle rfl); (case hov => ((repeat (first | with_reducible exact ov_nil | apply ov_cons)); done)); (case hu => repeat (exact Upd.here _ _))) | fail)
  · refine v_ret [] (outsA1 rfl rfl) (by repeat (exact List.nil_sublist _)) ?_
    refine ⟨?_, rfl⟩
    rw [hno, chkK, dif_pos (by omega), if_pos (by assumption)]
  · have hlt : k < l.length := by omega
    refine d_start _ (by kernel_rfl) (by kernel_rfl) (by kernel_rfl) (fun _ he => he) ?_
    all_goals (apply dtk 0; (case hi => rfl); (case hop => (apply prd; apply p_move <;> rfl)); (case hq => kernel_rfl))
    all_goals (apply dtk 1; (case hi => rfl); (case hop => (apply prd; apply p_gt <;> rfl)); (case hq => kernel_rfl))
    all_goals (apply dtk 2; (case hi => rfl); (case hop => (apply prd; apply p_move <;> rfl)); (case hq => kernel_rfl))
    all_goals (try (apply d_guardB 3; (case hi => rfl); (case hgd => rfl); (case h1 => rfl); (case h2 => rfl); all_goals (intro h; (try simp only [reduceCtorEq, zzz] at h))))
    all_goals (first | (apply dpa 3; (case hi => rfl); (case hg => rfl); (case hn => rfl); (case hq => kernel_rfl)) | (apply dtg 3; (case hi => rfl); (case hg => rfl); (case hop => (apply prd; apply p_fieldAddrB <;> rfl)); (case hq => kernel_rfl)) | fail)
    all_goals (try (apply d_guardB 4; (case hi => rfl); (case hgd => rfl); (case h1 => rfl); (case h2 => rfl); all_goals (intro h; (try simp only [reduceCtorEq, zzz] at h))))
    all_goals (first | (apply dpa 4; (case hi => rfl); (case hg => rfl); (case hn => rfl); (case hq => kernel_rfl)) | (apply dtg 4; (case hi => rfl); (case hg => rfl); (case hop => (apply r_load1; rfl; (apply Cell.own; (case h => (repeat (exact mhd _))); rfl))); (case hq => kernel_rfl)) | fail)
    all_goals (try (apply d_guardB 5; (case hi => rfl); (case hgd => rfl); (case h1 => rfl); (case h2 => rfl); all_goals (intro h; (try simp only [reduceCtorEq, zzz] at h))))
    all_goals (first | (apply dpa 5; (case hi => rfl); (case hg => rfl); (case hn => rfl); (case hq => kernel_rfl)) | (apply dtg 5; (case hi => rfl); (case hg => rfl); (case hop => (apply prd; apply p_move <;> rfl)); (case hq => kernel_rfl)) | fail)
    all_goals (try (apply d_guardB 6; (case hi => rfl); (case hgd => rfl); (case h1 => rfl); (case h2 => rfl); all_goals (intro h; (try simp only [reduceCtorEq, zzz] at h))))
    all_goals (first | (apply dpa 6; (case hi => rfl); (case hg => rfl); (case hn => rfl); (case hq => kernel_rfl)) | (apply dtg 6; (case hi => rfl); (case hg => rfl); (case hop => (apply prd; apply p_move <;> rfl)); (case hq => kernel_rfl)) | fail)
    all_goals (try (apply d_guardB 7; (case hi => rfl); (case hgd => rfl); (case h1 => rfl); (case h2 => rfl); all_goals (intro h; (try simp only [reduceCtorEq, zzz] at h))))
    all_goals (first | (apply dpa 7; (case hi => rfl); (case hg => rfl); (case hn => rfl); (case hq => kernel_rfl)) | (apply dtg 7; (case hi => rfl); (case hg => rfl); (case hop => (apply prd; apply p_sub; (case hx => rfl); (case hy => rfl); (case h => omega))); (case hq => kernel_rfl)) | fail)
    all_goals (try (apply d_guardB 8; (case hi => rfl); (case hgd => rfl); (case h1 => rfl); (case h2 => rfl); all_goals (intro h; (try simp only [reduceCtorEq, zzz] at h))))
    all_goals (first | (apply dpa 8; (case hi => rfl); (case hg => rfl); (case hn => rfl); (case hq => kernel_rfl)) | (apply dtg 8; (case hi => rfl); (case hg => rfl); (case hop => (apply prd; apply p_indexAddrS; (case hx => rfl); (case hi => rfl); (case h0 => omega); (case h => omega); (case hA => (apply_assumption; omega)))); (case hq => kernel_rfl)) | fail)
    all_goals (try (apply d_guardB 9; (case hi => rfl); (case hgd => rfl); (case h1 => rfl); (case h2 => rfl); all_goals (intro h; (try simp only [reduceCtorEq, zzz] at h))))
    all_goals (first | (apply dpa 9; (case hi => rfl); (case hg => rfl); (case hn => rfl); (case hq => kernel_rfl)) | (apply dtg 9; (case hi => rfl); (case hg => rfl); (case hop => (apply prd; apply p_fieldAddr <;> rfl)); (case hq => kernel_rfl)) | fail)
    all_goals (try (apply d_guardB 10; (case hi => rfl); (case hgd => rfl); (case h1 => rfl); (case h2 => rfl); all_goals (intro h; (try simp only [reduceCtorEq, zzz] at h))))
    all_goals (first | (apply dpa 10; (case hi => rfl); (case hg => rfl); (case hn => rfl); (case hq => kernel_rfl)) | (apply dtg 10; (case hi => rfl); (case hg => rfl); (case hop => ((apply r_load1; rfl; exact Cell.frozen (esCell hcp _ (by omega))))); (case hq => kernel_rfl)) | fail)
    all_goals (try (apply d_guardB 11; (case hi => rfl); (case hgd => rfl); (case h1 => rfl); (case h2 => rfl); all_goals (intro h; (try simp only [reduceCtorEq, zzz] at h))))
    all_goals (first | (apply dpa 11; (case hi => rfl); (case hg => rfl); (case hn => rfl); (case hq => kernel_rfl)) | (apply dtg 11; (case hi => rfl); (case hg => rfl); (case hop => (apply prd; apply p_le <;> rfl)); (case hq => kernel_rfl)) | fail)
    all_goals (apply dtk 12; (case hi => rfl); (case hop => first | (apply prd; apply p_pickT <;> rfl) | (apply prd; apply p_pickF <;> rfl) | fail); (case hq => kernel_rfl))
    all_goals (apply d_done; (case hr => kernel_rfl))
    repeat' (first | apply v_seq | apply v_region | apply v_nil | apply v_skip | apply v_blk | (apply v_pure; (case hop => first | (apply p_move <;> rfl) | (apply p_assign <;> rfl) | (apply p_add; (case hx => rfl); (case hy => rfl); (case h => omega)) | fail); (case hd => rfl)) | (apply v_condF; (case hc => rfl)) | (apply v_cond; (case hc => rfl); all_goals (intro h; (try simp only [reduceCtorEq, zzz] at h))) | fail)
    all_goals try
      (refine v_ret [] (outsA1 rfl rfl) (by repeat (first | exact List.Sublist.refl _ | exact List.nil_sublist _ | fail)) ?_
       refine ⟨?_, rfl⟩
       rw [hno, chkK, dif_pos hlt, if_neg (by simpa using ‹oneI l[k] = 0›), dif_pos (by omega), if_pos (by simp only [e1, e2] at *; omega)])
    all_goals
      (refine v_drop (ν := []) (by repeat (exact List.nil_sublist _)) ?_
       refine v_again rfl ⟨rfl, rfl, k + 1, by omega, rfl, ?_⟩ (by simp [headI]; omega)
       rw [hno, chkK, dif_pos hlt, if_neg (by simpa using ‹oneI l[k] = 0›)]
       by_cases h0 : 0 < k
       · rw [dif_pos h0, if_neg (by simp only [e1, e2] at *; omega)]
       · rw [dif_neg h0])
  · refine v_ret [] (outsA1 rfl rfl) (by repeat (exact List.Sublist.refl _)) ?_
    refine ⟨?_, rfl⟩
    rw [hno, chkK, dif_neg (by omega)]
theorem vmay_s (G : GH) (v : Int) : Con Tryd.prog 91 #[.int .i64 v] G [] (Just (.bool (decide (v = 1 ∨ v = 2))) G) := by
  (refine v_enter Tryd.func91 rfl Tryd.ntmps91 rfl ?_; intro B _)
  repeat' (first | apply v_seq | apply v_region | apply v_nil | apply v_skip | apply v_block | apply v_blk | (apply v_exit; (case hp => rfl)) | (apply v_take; (case hg => rfl)) | (apply v_pass; (case hg => rfl); (case hn => rfl); (case hd => rfl)) | (apply v_passN; (case hg => rfl); (case hn => rfl); (case hd => rfl)) | (apply v_pure; (case hop => first | (apply p_move <;> rfl) | (apply p_eqs <;> rfl) | (apply p_eqBs <;> rfl) | (apply p_eq <;> rfl) | (apply p_assign <;> rfl) | (apply p_eqB <;> rfl) | (apply p_eqNil <;> rfl) | (apply p_eqS <;> rfl) | (apply p_eqNilSlice <;> rfl)); (case hd => rfl)) | (apply v_condT; (case hc => rfl)) | (apply v_condF; (case hc => rfl)) | (apply v_cond; (case hc => rfl); all_goals (intro h; (try simp only [reduceCtorEq, zzz] at h); first | done | (exfalso; omega) | (exfalso; exact h (by with_reducible assumption)) | (exfalso; revert h; rw [imp_false]; with_reducible assumption) | skip)) | (apply v_guardB; (case h1 => rfl); (case h2 => rfl); all_goals (intro h; (try simp only [reduceCtorEq, zzz] at h); first | done | (exfalso; omega) | (exfalso; exact h (by with_reducible assumption)) | (exfalso; revert h; rw [imp_false]; with_reducible assumption) | skip)) | fail)
  all_goals
    (refine v_ret [] (outsA1 rfl rfl) (by repeat (first | exact List.Sublist.refl _ | exact List.nil_sublist _ | apply List.Sublist.cons_cons | apply List.Sublist.cons | exact List.sublist_append_left _ _ | apply List.sublist_append_of_sublist_right)) ?_
     refine ⟨?_, rfl, rfl⟩
     first | (simp [dec_eq, *]; done) | (simp [dec_eq, *]; omega))
theorem cmCell {G : GH} {A : Option Addr} {l : List Ent} (hcc : ∀ i (h : i < l.length), CellsG G (((adr A).add (i * 10)).add 3) l[i].cmd.cells) (i : Nat) (h : i < l.length) (j : Nat) (v : Value) (hv : l[i].cmd.cells[j]? = some v) : GH.cell? G ((((adr A).add (i * 10)).add 3).add j) = some v := (hcc i h).cell hv
theorem chkK_low {l : List Ent} {k : Nat} (hlt : k < l.length) (h : oneI l[k] = 0) (h0 : 0 < k) (h1 : l[k].index ≤ (l[k - 1]'(by omega)).index) : chkK l k = 12 := by rw [chkK, dif_pos hlt, if_neg (by simpa using h), dif_pos h0, if_pos h1]
theorem chkK_next {l : List Ent} {k : Nat} (hlt : k < l.length) (h : oneI l[k] = 0) (h1 : ∀ h0 : 0 < k, ¬ l[k].index ≤ (l[k - 1]'(by omega)).index) : chkK l k = chkK l (k + 1) := by
  rw [chkK, dif_pos hlt, if_neg (by simpa using h)]
  by_cases h0 : 0 < k
  · rw [dif_pos h0, if_neg (h1 h0)]
  · rw [dif_neg h0]
theorem chkK_end {l : List Ent} {k : Nat} (h : ¬ k < l.length) : chkK l k = 0 := by rw [chkK, dif_neg h]
def SomeB (G : GH) (r : Value) (G' : GH) (μ' : OH) : Prop := G' = G ∧ μ' = [] ∧ ∃ b, r = .bool b
theorem p_convUW {σ : Env} {ty : TypeId} {x : Operand} {k'' : IntKind} {a : Int} {t u : TypeId} [Ty Tryd.prog t (.int k'')] [Ty Tryd.prog u (.int .u64)] (hx : Env.ev σ x = some (.int .i64 (IntKind.i64.wrap a))) (h : 0 ≤ a ∧ a ≤ 18446744073709551615) : PureOp Tryd.prog (.convert t u x) ty σ (.int .u64 a) := by
  have e : IntKind.u64.wrap (IntKind.i64.wrap a) = a := by rw [IntKind.wrap_u64, IntKind.wrap_i64]; omega
  have := p_conv (P := Tryd.prog) (ty := ty) (t := t) (u := u) hx
  rwa [e] at this
attribute [local semireducible] PureOp in
theorem p_shr1 {σ : Env} {ty : TypeId} {x y : Operand} {k' : IntKind} {a : Int} {t t' : TypeId} (hx : Env.ev σ x = some (.int .u64 a)) (hy : Env.ev σ y = some (.int k' 1)) : PureOp Tryd.prog (.binOp .shr t x y t') ty σ (.int .u64 (a / 2)) := by
  intro dst pos af g ρ hρ w
  have := shift_shr .u64 k' a 1 (by decide) (by decide)
  simp [execOp, hρ _ _ hx, hρ _ _ hy, eqGuard, binOp_shr, this]
theorem isNaN_s (G : GH) (a : Int) : Con Tryd.prog 123 #[.int .i64 a] G [] (Just (.bool false) G) := by
  apply Con.just
  (refine v_enter Tryd.func123 rfl Tryd.ntmps123 rfl ?_; intro B _)
  repeat' (first | apply v_seq | apply v_region | apply v_nil | (apply v_pure; (case hop => first | (apply p_move <;> rfl) | (apply p_nes <;> rfl) | (apply p_assign <;> rfl) | fail); (case hd => rfl)) | fail)
  refine v_ret [] (outsA1 rfl rfl) (by repeat (exact List.Sublist.refl _)) ?_
  refine ⟨?_, rfl⟩
  simp [dec_eq]
def cmpI (a b : Int) : Int := if a < b then -1 else if b < a then 1 else 0
theorem cmp_s (G : GH) (a b : Int) : Con Tryd.prog 95 #[.int .i64 a, .int .i64 b] G [] (Just (.int .i64 (cmpI a b)) G) := by
  have qa := isNaN_s G a
  have qb := isNaN_s G b
  apply Con.just
  (refine v_enter Tryd.func95 rfl Tryd.ntmps95 rfl ?_; intro B _)
  repeat' (first | apply v_seq | apply v_region | apply v_nil | apply v_skip | (apply v_pure; (case hop => first | (apply p_move <;> rfl) | (apply p_lt <;> rfl) | (apply p_gt <;> rfl) | (apply p_assign <;> rfl)); (case hd => rfl)) | (apply v_condF; (case hc => rfl)) | (apply v_cond; (case hc => rfl); all_goals (intro h; (try simp only [reduceCtorEq, zzz] at h))) | (apply v_callJ (hs := qa); (case ha => rfl); (case hd => rfl)) | (apply v_callJ (hs := qb); (case ha => rfl); (case hd => rfl)) | fail)
  all_goals
    (refine v_ret [] (outsA1 rfl rfl) (by repeat (exact List.Sublist.refl _)) ?_
     refine ⟨?_, rfl⟩
     simp [cmpI, *])
theorem cmpI_lt {a b : Int} : cmpI a b < 0 ↔ a < b := by unfold cmpI; split <;> (try split) <;> simp <;> omega
theorem cmpI_eq {a b : Int} : cmpI a b = 0 ↔ a = b := by unfold cmpI; split <;> (try split) <;> simp <;> omega
theorem place1_s (G : GH) (x : Ent) (n : Int) : Con Tryd.prog 122 #[.agg x.cells.toArray, .int .i64 n] G [] (Just (.int .i64 (cmpI x.index n)) G) := by
  have qc := cmp_s G x.index n
  apply Con.just
  (refine v_enter Tryd.func122 rfl Tryd.ntmps122 rfl ?_; intro B _)
  repeat' (first | apply v_seq | apply v_region | apply v_nil | (apply v_pure; (case hop => first | (apply p_move <;> rfl) | (apply p_assign <;> rfl) | (apply p_fieldAddrB <;> rfl) | fail); (case hd => rfl)) | (apply v_box (zs := x.cells); (case hx => rfl); (case hz => rfl); (case hd => rfl); intro b) | (apply v_callJ (hs := qc); (case ha => rfl); (case hd => rfl)) | (apply v_read; (case hop => (apply r_load1; rfl; (apply Cell.own; (case h => (repeat (exact mhd _))); rfl))); (case hd => rfl)) | fail)
  refine v_ret [] (outsA1 rfl rfl) (by repeat (exact List.nil_sublist _)) ?_
  exact ⟨rfl, rfl⟩
def RiseL (l : List Ent) : Prop := ∀ i j (hj : j < l.length) (h : i < j), (l[i]'(by omega)).index < l[j].index
def placeN (l : List Ent) (n : Int) : Nat := l.countP fun x => decide (x.index < n)
theorem placeN_eq {l : List Ent} {n : Int} {i : Nat} (hi : i ≤ l.length) (h1 : ∀ m (h : m < l.length), m < i → l[m].index < n) (h2 : ∀ m (h : m < l.length), i ≤ m → ¬ l[m].index < n) : placeN l n = i := by
  have e : l = l.take i ++ l.drop i := (List.take_append_drop i l).symm
  rw [placeN, e, List.countP_append, List.countP_eq_length.2, List.countP_eq_zero.2, List.length_take, Nat.add_zero]
  · omega
  · intro x hx
    obtain ⟨m, hm, rfl⟩ := List.getElem_of_mem hx
    rw [List.length_drop] at hm
    rw [List.getElem_drop]
    simpa using h2 (i + m) (by omega) (by omega)
  · intro x hx
    obtain ⟨m, hm, rfl⟩ := List.getElem_of_mem hx
    rw [List.length_take] at hm
    rw [List.getElem_take]
    simpa using h1 m (by omega) (by omega)
noncomputable def hitB (l : List Ent) (n : Int) : Bool := if h : placeN l n < l.length then decide ((l[placeN l n]).index = n) else false
theorem entSearch_s {G : GH} {l : List Ent} {sv : Value} (n : Int) (hs : Es G sv l) (hr : RiseL l) : Con Tryd.prog 121 #[sv, .int .i64 n, .func (.func 122) #[] #[]] G [] (Just (.tuple [.int .i64 (placeN l n : Nat), .bool (hitB l n)].toArray) G) := by
  obtain ⟨A, c, rfl, hlc, hcm, hsome, hcp, hcb, hcc, hok⟩ := esOpen hs
  simp only [maxLen] at hcm
  apply Con.just
  (refine v_enter Tryd.func121 rfl Tryd.ntmps121 rfl ?_; intro B _)
  repeat' (first | apply v_seq | apply v_region | apply v_nil | apply v_block | (apply v_pure; (case hop => first | (apply p_move <;> rfl) | (apply p_assign <;> rfl) | (apply p_lenSlice <;> rfl) | fail); (case hd => rfl)) | fail)
  refine v_loop [9, 10, 8, 0, 1, 2] (fun us G' μ' => G' = G ∧ μ' = [] ∧ ∃ i j : Nat, i ≤ j ∧ j ≤ l.length ∧ us = [Value.int .i64 (i : Nat), .int .i64 (j : Nat), .int .i64 l.length, .slice A l.length c, .int .i64 n, .func (.func 122) #[] #[]] ∧ (∀ m (h : m < l.length), m < i → l[m].index < n) ∧ (∀ m (h : m < l.length), j ≤ m → ¬ l[m].index < n)) (fun us => match us with | .int _ i :: .int _ j :: _ => (j - i).toNat | _ => 0) rfl ⟨rfl, rfl, 0, l.length, by omega, by omega, rfl, by omega, by omega⟩ ?_
  rintro us G' μ' ⟨rfl, rfl, i, j, hij, hj, rfl, h1, h2⟩
  have qp := fun (m : Nat) (h : m < l.length) => place1_s G' l[m] n
  have em : ((((i : Nat) : Int) + ((j : Nat) : Int)) / 2).toNat = (i + j) / 2 := by omega
  repeat' (first | apply v_seq | apply v_region | apply v_nil | apply v_skip | apply v_block | apply v_blk | (apply v_exit; (case hp => rfl)) | (apply v_take; (case hg => rfl)) | (apply v_pass; (case hg => rfl); (case hn => rfl); (case hd => rfl)) | (apply v_pure; (case hop => first | (apply p_move <;> rfl) | (apply p_eq <;> rfl) | (apply p_lt <;> rfl) | (apply p_assign <;> rfl) | (apply p_pickT <;> rfl) | (apply p_pickF <;> rfl) | (apply p_add; (case hx => rfl); (case hy => rfl); (case h => omega)) | (apply p_indexAddrS; (case hx => rfl); (case hi => rfl); (case h0 => omega); (case h => omega); (case hA => (apply_assumption; omega))) | (apply p_conv64; (case hx => rfl); (case h => omega)) | fail); (case hd => rfl)) | (apply v_cond; (case hc => rfl); all_goals (intro h; (try simp only [reduceCtorEq, zzz] at h))) | (apply v_guardB; (case h1 => rfl); (case h2 => rfl); all_goals (intro h; (try simp only [reduceCtorEq, zzz] at h))) | (apply v_pure; (case hop => (apply p_convUW; (case hx => rfl); (case h => omega))); (case hd => rfl)) | (apply v_pure; (case hop => (apply p_addw; (case hx => rfl); (case hy => rfl))); (case hd => rfl)) | (apply v_pure; (case hop => (apply p_shr1; (case hx => rfl); (case hy => rfl))); (case hd => rfl)) | (apply v_read; (case hop => (apply r_loadN; rfl; exact CellsAt.frozen (hcp _ (by omega)); rfl)); (case hd => rfl)) | (apply v_callFJ0 (hs := qp ((((i : Nat) : Int) + ((j : Nat) : Int)) / 2).toNat (by omega)); (case hx => rfl); (case ha => rfl); (case hd => rfl)) | (apply v_callFJ0 (hs := qp i (by omega)); (case hx => rfl); (case ha => rfl); (case hd => rfl)) | fail)
  · have hc : (l[(i + j) / 2]'(by omega)).index < n := by
      have h0 := cmpI_lt.1 ‹cmpI _ _ < 0›
      simpa only [em] using h0
    refine v_again rfl ⟨rfl, rfl, (i + j) / 2 + 1, j, by omega, hj, rfl, fun m hm hlt => ?_, h2⟩ ?_
    · by_cases he : m = (i + j) / 2
      · subst he; exact hc
      · have := hr m ((i + j) / 2) (by omega) (by omega)
        omega
    · simp only; omega
  · have hc : ¬ (l[(i + j) / 2]'(by omega)).index < n := by
      have h0 := mt cmpI_lt.2 ‹¬ cmpI _ _ < 0›
      simpa only [em] using h0
    refine v_again rfl ⟨rfl, rfl, i, (i + j) / 2, by omega, by omega, rfl, h1, fun m hm hlt => ?_⟩ ?_
    · by_cases he : m = (i + j) / 2
      · subst he; exact hc
      · have := hr ((i + j) / 2) m hm (by omega)
        omega
    · simp only; omega
  · have hp : placeN l n = i := placeN_eq (by omega) h1 (fun m h hm => h2 m h (by omega))
    refine v_ret [] (outsA2 rfl rfl rfl) (by repeat (exact List.Sublist.refl _)) ?_
    refine ⟨?_, rfl⟩
    unfold hitB
    simp only [hp]
    rw [dif_pos (by omega)]
    congr 5
    rw [Bool.eq_iff_iff, dec_true, decide_eq_true_iff, cmpI_eq]
  · have hp : placeN l n = i := placeN_eq (by omega) h1 (fun m h hm => h2 m h (by omega))
    refine v_ret [] (outsA2 rfl rfl rfl) (by repeat (exact List.Sublist.refl _)) ?_
    refine ⟨?_, rfl⟩
    unfold hitB
    simp only [hp]
    rw [dif_neg (by omega)]
theorem place_s {G : GH} {l : List Ent} {sv : Value} (n : Int) (hs : Es G sv l) (hr : RiseL l) : Con Tryd.prog 93 #[sv, .int .i64 n] G [] (Just (.tuple [.int .i64 (placeN l n : Nat), .bool (hitB l n)].toArray) G) := by
  have qs := entSearch_s n hs hr
  apply Con.just
  (refine v_enter Tryd.func93 rfl Tryd.ntmps93 rfl ?_; intro B _)
  repeat' (first | apply v_seq | apply v_region | apply v_nil | (apply v_pure; (case hop => first | (apply p_move <;> rfl) | (apply p_assign <;> rfl) | (apply p_extract0 <;> rfl) | (apply p_extract1 <;> rfl) | fail); (case hd => rfl)) | (apply v_callJ (hs := qs); (case ha => rfl); (case hd => rfl)) | fail)
  refine v_ret [] (outsA2 rfl rfl rfl) (by repeat (exact List.Sublist.refl _)) ?_
  exact ⟨rfl, rfl⟩
end Go.Proofs.YtmdeeokejdkceaaDoor
/-
  VX: copy, append of zeros, slices.overlaps.
-/
set_option linter.unusedVariables false
set_option linter.unusedSimpArgs false
namespace Go.Vx
attribute [local semireducible] Vc MoveOp PureOp ReadOp DVc Con
open Go Go.Lib
section
variable {P : Program} {fn : Func} {n : Nat} {B : Base} {Φ : Value → GH → OH → Prop} {k : List It} {rest : List Oper} {all : Array Oper} {σ : Env} {G : GH} {μ : OH} {d : Nat} {t ty : TypeId} {pos : String} {af : Array Edge} {bytes : Nat} {zero : Value}
class Overl (P : Program) (f : FuncId) (e : outParam TypeId) (tR : outParam TypeId) : Prop where
  h : ∃ ts, P.underlying ts = some (.slice e) ∧ ∀ args w, (callFunc f args).run P w = ((Extern.SlicesOverlaps.overlaps #[ts, ts] #[tR] args).run P w).andThen fun v w' => .ok (.value v) w'
end
end Go.Vx
/-
  entry (layer 12), the fifth part: clones of entries, and slices.Insert.
-/
set_option linter.unusedSimpArgs false
set_option linter.unusedVariables false
namespace Go.Proofs.YtmdeeokejdkceaaDoor
open Go.Vx Go.ChangeShapes Go.WideShapes Go.ChangeAt Go.RowKit
def esC (l : List Ent) : List Value := (l.map Ent.cells).flatten
theorem cells_length (x : Ent) : x.cells.length = 10 := rfl
theorem esC_cons (x : Ent) (l : List Ent) : esC (x :: l) = x.cells ++ esC l := by simp [esC]
theorem esC_append (a b : List Ent) : esC (a ++ b) = esC a ++ esC b := by simp [esC]
theorem esC_length (l : List Ent) : (esC l).length = l.length * 10 := by
  induction l with
  | nil => rfl
  | cons x l ih => rw [esC_cons, List.length_append, ih, cells_length, List.length_cons]; omega
theorem esC_drop (l : List Ent) (i : Nat) : (esC l).drop (i * 10) = esC (l.drop i) := by
  by_cases h : i ≤ l.length
  · conv => lhs; rw [← List.take_append_drop i l, esC_append]
    rw [List.drop_append, List.drop_of_length_le (by rw [esC_length, List.length_take]; omega), esC_length, List.length_take, show i * 10 - min i l.length * 10 = 0 by omega]
    simp
  · rw [List.drop_of_length_le (by rw [esC_length]; omega), List.drop_of_length_le (by omega)]; rfl
theorem esC_get (l : List Ent) (i j : Nat) (hi : i < l.length) (hj : j < 10) : (esC l)[i * 10 + j]? = l[i].cells[j]? := by
  have h := congrArg (·[j]?) (esC_drop l i)
  simp only [List.getElem?_drop] at h
  rw [h, List.drop_eq_getElem_cons hi, esC_cons, List.getElem?_append_left (by rw [cells_length]; omega)]
theorem esC_one (l : List Ent) : (esC l).all Value.oneCell' = true := by
  induction l with
  | nil => rfl
  | cons x l ih => rw [esC_cons, List.all_append, ih, Bool.and_true]; rfl
theorem esC_src {G : GH} {μ : OH} {A : Option Addr} {c : Nat} {l : List Ent} (hsome : 0 < l.length → A.isSome = true) (hcp : ∀ i (h : i < l.length), CellsG G ((adr A).add (i * 10)) l[i].cells) : Go.Vx.Src G μ (.slice A l.length c) l.length 10 (esC l) := by
  refine ⟨esC_length l, A, c, rfl, fun h => ?_⟩
  obtain ⟨a, rfl⟩ := Option.isSome_iff_exists.1 (hsome h)
  refine ⟨a, rfl, CellsAt.frozen fun p v hv => ?_⟩
  have hp : p < l.length * 10 := by rw [← esC_length]; exact (List.getElem?_eq_some_iff.1 hv).1
  have e : p = p / 10 * 10 + p % 10 := by omega
  rw [e, ← adr_add]
  rw [e, esC_get l (p / 10) (p % 10) (by omega) (by omega)] at hv
  exact hcp (p / 10) (by omega) _ _ hv
theorem es_of_grow {v : Value} {l : List Ent} {ν : OH} (h : Grow 89 10 v l.length (esC l) ν) {G' : GH} (hG : ∀ b o, (b, o) ∈ ν → G' b = some o) (hok : ∀ x ∈ l, x.ok) : Es G' v l := by
  refine h.sl hG (by simp) fun i x cs hx hc => ?_
  rw [List.getElem?_map, hx] at hc
  simp only [Option.map_some, Option.some.injEq] at hc
  subst hc
  exact ⟨rfl, rfl, hok x (List.mem_of_getElem? hx)⟩
abbrev zE : Value := .agg #[.int .i64 0, .int .i64 0, .int .i64 0, .int .i64 0, .int .i64 0, .int .i64 0, .string ByteArray.empty, .string ByteArray.empty, .string ByteArray.empty, .int .i64 0]
theorem entClone_s {G : GH} {l : List Ent} {sv : Value} (hs : Es G sv l) (hn : l.length ≤ 200) : Con Tryd.prog 38 #[sv] G [] (fun r G' μ' => G' = G ∧ Grow 89 10 r l.length (esC l) μ') := by
  obtain ⟨A, c, rfl, hlc, hcm, hsome, hcp, hcb, hcc, hok⟩ := esOpen hs
  simp only [maxLen] at hcm
  (refine v_enter Tryd.func38 rfl Tryd.ntmps38 rfl ?_; intro B _)
  cases A with
  | none =>
    have h0 : l.length = 0 := by
      by_cases h : 0 < l.length
      · cases hsome h
      · omega
    have h1 : l = [] := List.eq_nil_of_length_eq_zero h0
    subst h1
    repeat' (first | apply v_seq | apply v_region | apply v_nil | (apply v_pure; (case hop => first | (apply p_move <;> rfl) | (apply p_assign <;> rfl) | (apply p_eqNilSlice <;> rfl)); (case hd => rfl)) | (apply v_condT; (case hc => rfl)) | fail)
    refine v_ret [] (outsA1 rfl rfl) (by repeat (exact List.Sublist.refl _)) ?_
    exact ⟨rfl, Grow.nil _ _⟩
  | some a =>
    have hsrc := fun μ => esC_src (μ := μ) (c := c) hsome hcp
    repeat' (first | apply v_seq | apply v_region | apply v_nil | apply v_skip | (apply v_pure; (case hop => first | (apply p_move <;> rfl) | (apply p_assign <;> rfl) | (apply p_eqNilSlice <;> rfl)); (case hd => rfl)) | (apply v_condF; (case hc => rfl)) | (apply v_buildSlice; (case hz => rfl); (case hi => rfl); (case hv => (simp only [List.map_cons, List.map_nil]; repeat (with_reducible exact evs_nil))); (case hp => (with_reducible exact pk_nil)); (case hb => rfl); (case hd => rfl); intro b) | fail)
    refine v_append (e := 89) (agg := true) (sz := 10) (bytes := 104) (zero := zE) rfl (by omega) rfl rfl Grow.empty (List.Perm.refl _) (hsrc _) (esC_one l) (by omega) (by simp only [maxLen]; omega) rfl fun v' ν' hg => ?_
    repeat' (first | apply v_nil | (apply v_pure; (case hop => (apply p_assign <;> rfl)); (case hd => rfl)) | fail)
    refine v_ret _ (outsA1 rfl rfl) (by repeat (exact List.Sublist.refl _)) ?_
    refine ⟨rfl, ?_⟩
    simpa using hg
end Go.Proofs.YtmdeeokejdkceaaDoor
/-
  entry (layer 12), the sixth part: With; the example.
-/
set_option linter.unusedSimpArgs false
set_option linter.unusedVariables false
namespace Go.Proofs.YtmdeeokejdkceaaDoor
open Go.Vx Go.ChangeShapes Go.WideShapes Go.ChangeAt Go.RowKit
theorem hitB_lt {l : List Ent} {n : Int} (h : hitB l n = true) : placeN l n < l.length := by
  unfold hitB at h
  by_cases h' : placeN l n < l.length
  · exact h'
  · rw [dif_neg h'] at h; cases h
def zeroE : Ent := ⟨0, 0, 0, zeroCm⟩
noncomputable def findE (l : List Ent) (n : Int) : Ent := if h : hitB l n = true then l[placeN l n]'(hitB_lt h) else zeroE
theorem find_s {G : GH} {l : List Ent} {sv : Value} (n : Int) (hs : Es G sv l) (hr : RiseL l) : Con Tryd.prog 68 #[sv, .int .i64 n] G [] (Just (.tuple [.agg (findE l n).cells.toArray, .bool (hitB l n)].toArray) G) := by
  have qp := place_s n hs hr
  obtain ⟨A, c, rfl, hlc, hcm, hsome, hcp, hcb, hcc, hok⟩ := esOpen hs
  simp only [maxLen] at hcm
  apply Con.just
  (refine v_enter Tryd.func68 rfl Tryd.ntmps68 rfl ?_; intro B _)
  cases hh : hitB l n
  · rw [hh] at qp
    repeat' (first | apply v_seq | apply v_region | apply v_nil | (apply v_pure; (case hop => first | (apply p_move <;> rfl) | (apply p_assign <;> rfl) | (apply p_not <;> rfl) | (apply p_extract0 <;> rfl) | (apply p_extract1 <;> rfl) | (apply p_build; (case hz => rfl); (case hv => (simp only [List.map_cons, List.map_nil]; repeat (with_reducible exact evs_nil))); (case hb => (apply bldL; repeat (exact bld_nil))))); (case hd => rfl)) | (apply v_condT; (case hc => rfl)) | (apply v_callJ (hs := qp); (case ha => rfl); (case hd => rfl)) | (apply v_alloc; (case hz => rfl); (case hd => rfl); intro b) | (apply v_store; (case hp => rfl); (case hx => rfl); (case hc => rfl); (case hsz => rfl); (case h1 => rfl); (case hb => (repeat (exact mhd _))); (case hfit => exact nle rfl); (case hov => ((repeat (first | with_reducible exact ov_nil | apply ov_cons)); done)); (case hu => repeat (exact Upd.here _ _))) | fail)
    refine v_retM [] (outsM_cell_tmp (vs := zeroE.cells) (e := 89) rfl rfl rfl ?_ ?_) (by repeat (exact List.nil_sublist _)) ?_
    · exact mhd _
    · rfl
    · exact ⟨by rw [findE, dif_neg (by rw [hh]; decide)], rfl⟩
  · rw [hh] at qp
    have hlt := hitB_lt hh
    repeat' (first | apply v_seq | apply v_region | apply v_nil | apply v_skip | (apply v_pure; (case hop => first | (apply p_move <;> rfl) | (apply p_assign <;> rfl) | (apply p_not <;> rfl) | (apply p_extract0 <;> rfl) | (apply p_extract1 <;> rfl) | (apply p_indexAddrS; (case hx => rfl); (case hi => rfl); (case h0 => omega); (case h => omega); (case hA => (apply_assumption; omega))) | fail); (case hd => rfl)) | (apply v_condF; (case hc => rfl)) | (apply v_callJ (hs := qp); (case ha => rfl); (case hd => rfl)) | (apply v_read; (case hop => (apply r_loadN; rfl; exact CellsAt.frozen (hcp _ (by omega)); rfl)); (case hd => rfl)) | (apply v_alloc; (case hz => rfl); (case hd => rfl); intro b) | (apply v_store; (case hp => rfl); (case hx => rfl); (case hc => rfl); (case hsz => rfl); (case h1 => rfl); (case hb => (repeat (exact mhd _))); (case hfit => exact nle rfl); (case hov => ((repeat (first | with_reducible exact ov_nil | apply ov_cons)); done)); (case hu => repeat (exact Upd.here _ _))) | fail)
    refine v_retM [] (outsM_cell_tmp (vs := (l[placeN l n]'hlt).cells) (e := 89) rfl rfl rfl ?_ ?_) (by repeat (exact List.nil_sublist _)) ?_
    · exact mhd _
    · rfl
    · exact ⟨by rw [findE, dif_pos hh], rfl⟩
def LargeB (n : Nat) (G : GH) (r : Value) (G' : GH) (μ' : OH) : Prop := G' = G ∧ μ' = [] ∧ ∃ b, r = .bool b ∧ (b = false → n ≤ 40)
theorem entLargeB_s {G : GH} {l : List Ent} {sv : Value} (hs : Es G sv l) : Con Tryd.prog 61 #[sv] G [] (LargeB l.length G) := by
  obtain ⟨A, c, rfl, hlc, hcm, hsome, hcp, hcb, hcc, hok⟩ := esOpen hs
  simp only [maxLen] at hcm
  have hz := fun i (h : i < l.length) => (hok i h).2.2.2
  simp only [Cm.ok, maxLen] at hz
  (refine v_enter Tryd.func61 rfl Tryd.ntmps61 rfl ?_; intro B _)
  repeat' (first | apply v_seq | apply v_region | apply v_nil | apply v_block | (apply v_pure; (case hop => (apply p_assign <;> rfl)); (case hd => rfl)) | fail)
  refine v_loop [3, 0] (fun us G' μ' => G' = G ∧ μ' = [] ∧ ∃ k, k ≤ l.length ∧ us = [Value.int .i64 (k : Nat), .slice A l.length c]) (fun us => l.length - (headI us).toNat) rfl ⟨rfl, rfl, 0, by omega, rfl⟩ ?_
  rintro us G' μ' ⟨rfl, rfl, k, hk, rfl⟩
  have e1 : ((k : Nat) : Int).toNat = k := by omega
  repeat' (first | apply v_seq | apply v_region | apply v_nil | apply v_skip | apply v_block | apply v_blk | (apply v_exit; (case hp => rfl)) | (apply v_take; (case hg => rfl)) | (apply v_pass; (case hg => rfl); (case hn => rfl); (case hd => rfl)) | (apply v_pure; (case hop => first | (apply p_move <;> rfl) | (apply p_lt <;> rfl) | (apply p_gt <;> rfl) | (apply p_assign <;> rfl) | (apply p_pickT <;> rfl) | (apply p_pickF <;> rfl) | (apply p_lenSlice <;> rfl) | (apply p_fieldAddrB <;> rfl) | (apply p_fieldAddr <;> rfl) | (apply p_add; (case hx => rfl); (case hy => rfl); (case h => omega)) | (apply p_indexAddrS; (case hx => rfl); (case hi => rfl); (case h0 => omega); (case h => omega); (case hA => (apply_assumption; omega))) | (apply p_lenString <;> rfl) | fail); (case hd => rfl)) | (apply v_condT; (case hc => rfl)) | (apply v_condF; (case hc => rfl)) | (apply v_cond; (case hc => rfl); all_goals (intro h; (try simp only [reduceCtorEq, zzz] at h))) | (apply v_guardB; (case h1 => rfl); (case h2 => rfl); all_goals (intro h; (try simp only [reduceCtorEq, zzz] at h))) | (apply v_read; (case hop => first | (apply r_load1; rfl; exact Cell.frozen (cmCell hcc _ (by omega) 3 _ rfl)) | (apply r_load1; rfl; exact Cell.frozen (cmCell hcc _ (by omega) 4 _ rfl)) | (apply r_load1; rfl; exact Cell.frozen (cmCell hcc _ (by omega) 5 _ rfl))); (case hd => rfl)) | fail)
  all_goals first
    | (refine v_ret [] (outsA1 rfl rfl) (by repeat (exact List.Sublist.refl _)) ?_
       refine ⟨rfl, rfl, _, rfl, fun h => ?_⟩
       first | (cases h; done) | (have := dec_false.1 h; omega))
    | (refine v_again rfl ⟨rfl, rfl, k + 1, by omega, rfl⟩ (by simp [headI]; omega))
structure Ms where
  kind : Int
  src : Int
  dst : Int
  round : Int
  node : Int
  index : Int
  commit : Int
  version : Int
  ents : List Ent
  img : List Int
abbrev msL (kind src dst round node index commit version : Int) (ev iv : Value) : List Value := [.int .i64 kind, .int .i64 src, .int .i64 dst, .int .i64 round, .int .i64 node, .int .i64 index, .int .i64 commit, .int .i64 version, ev, iv]
def Ms.cells (m : Ms) (ev iv : Value) : List Value := msL m.kind m.src m.dst m.round m.node m.index m.commit m.version ev iv
def MsR (G : GH) (m : Ms) (cs : List Value) : Prop := ∃ A c I ci, cs = m.cells (.slice A m.ents.length c) (.slice I m.img.length ci) ∧ Es G (.slice A m.ents.length c) m.ents ∧ Sl G 1 (IntR .u8) (.slice I m.img.length ci) m.img
theorem MsR.le {G G' : GH} (h : GH.le G G') {m : Ms} {cs : List Value} (hm : MsR G m cs) : MsR G' m cs := by
  obtain ⟨A, c, I, ci, e, h1, h2⟩ := hm
  exact ⟨A, c, I, ci, e, Sl.le h1 h fun _ _ h => h, h2.mono h⟩
def mF (k : Int) : Int := if k = 1 ∨ k = 2 then 8 else if k = 3 ∨ k = 6 then 3 else if k = 4 then 23 else if k = 5 then 17 else if k = 7 then 1 else if k = 8 then 5 else if k = 9 then 2 else if k = 10 then 20 else if k = 11 then 32 else 0
theorem mfields_s (G : GH) (k : Int) : Con Tryd.prog 63 #[.int .i64 k] G [] (Just (.int .i64 (mF k)) G) := by
  apply Con.just
  (refine v_enter Tryd.func63 rfl Tryd.ntmps63 rfl ?_; intro B _)
  repeat' (first | apply v_seq | apply v_region | apply v_nil | apply v_skip | apply v_block | apply v_blk | (apply v_pure; (case hop => first | (apply p_move <;> rfl) | (apply p_eq <;> rfl) | (apply p_assign <;> rfl) | fail); (case hd => rfl)) | (apply v_cond; (case hc => rfl); all_goals (intro h; (try simp only [reduceCtorEq, zzz] at h); first | (exfalso; omega) | skip)) | fail)
  all_goals
    (refine v_ret [] (outsA1 rfl rfl) (by repeat (exact List.Sublist.refl _)) ?_
     refine ⟨?_, rfl⟩
     congr 1
     unfold mF
     (repeat' split) <;> omega)
theorem mnode_s (G : GH) (n : Int) : Con Tryd.prog 90 #[.int .i64 n] G [] (Just (.bool (decide (1 ≤ n ∧ n ≤ 9))) G) := by
  apply Con.just
  (refine v_enter Tryd.func90 rfl Tryd.ntmps90 rfl ?_; intro B _)
  repeat' (first | apply v_seq | apply v_region | apply v_nil | (apply v_take; (case hg => rfl)) | (apply v_pass; (case hg => rfl); (case hn => rfl); (case hd => rfl)) | (apply v_pure; (case hop => first | (apply p_move <;> rfl) | (apply p_le <;> rfl) | (apply p_ge <;> rfl) | (apply p_assign <;> rfl) | (apply p_pickT <;> rfl) | (apply p_pickF <;> rfl) | fail); (case hd => rfl)) | (apply v_guardB; (case h1 => rfl); (case h2 => rfl); all_goals (intro h; (try simp only [reduceCtorEq, zzz] at h))) | fail)
  all_goals
    (refine v_ret [] (outsA1 rfl rfl) (by repeat (exact List.Sublist.refl _)) ?_
     refine ⟨?_, rfl⟩
     (try simp only [dec_eq])
     congr 1
     first
       | (rw [decide_eq_decide]; omega)
       | (rw [eq_comm, decide_eq_false_iff_not]; omega))
def RangesP (f : Int) (m : Ms) : Prop := (1 ≤ m.src ∧ m.src ≤ 9 ∧ 1 ≤ m.dst ∧ m.dst ≤ 9 ∧ m.src ≠ m.dst) ∧ (band f 1 ≠ 0 → mayP m.round m.node ∧ ¬ (m.round = 0 ∧ m.node = 0)) ∧ (band f 2 ≠ 0 → 1 ≤ m.index ∧ m.index ≤ 4294967296) ∧ (band f 4 ≠ 0 → 0 ≤ m.commit ∧ m.commit ≤ 4294967296) ∧ (band f 8 = 0 ∨ m.version = 1 ∨ m.version = 2)
instance (f : Int) (m : Ms) : Decidable (RangesP f m) := by unfold RangesP; infer_instance
set_option maxHeartbeats 4000000 in
theorem mranges_s (G : GH) (f : Int) (m : Ms) (ev iv : Value) {A I : Option Addr} {n c n' c' : Nat} (he : ev = .slice A n c) (hi : iv = .slice I n' c') : Con Tryd.prog 64 #[.agg (m.cells ev iv).toArray, .int .i64 f] G [] (Just (.bool (decide (RangesP f m))) G) := by
  subst he; subst hi
  have e : decide (RangesP f m) = decide ((1 ≤ m.src ∧ m.src ≤ 9 ∧ 1 ≤ m.dst ∧ m.dst ≤ 9 ∧ m.src ≠ m.dst) ∧ (band f 1 ≠ 0 → mayP m.round m.node ∧ ¬ (m.round = 0 ∧ m.node = 0)) ∧ (band f 2 ≠ 0 → 1 ≤ m.index ∧ m.index ≤ 4294967296) ∧ (band f 4 ≠ 0 → 0 ≤ m.commit ∧ m.commit ≤ 4294967296) ∧ (band f 8 = 0 ∨ m.version = 1 ∨ m.version = 2)) := decide_eq_decide.2 Iff.rfl
  rw [e]
  clear e
  obtain ⟨kind, src, dst, round, node, index, commit, version, ents, img⟩ := m
  simp only at *
  apply Con.just
  have q1 := mnode_s G
  have q2 := may_s G round node
  have q3 := vmay_s G version
  (refine v_enter Tryd.func64 rfl Tryd.ntmps64 rfl ?_; intro B _)
  repeat' (first | (apply v_box (d := 2) (zs := msL kind src dst round node index commit version (.slice A n c) (.slice I n' c')); (case hx => rfl); (case hz => rfl); (case hd => rfl); intro b2) | apply v_seq | apply v_region | apply v_nil | apply v_skip | apply v_block | apply v_blk | (apply v_take; (case hg => rfl)) | (apply v_pass; (case hg => rfl); (case hn => rfl); (case hd => rfl)) | (apply v_passN; (case hg => rfl); (case hn => rfl); (case hd => rfl)) | (apply v_pure; (case hop => first | (apply p_move <;> rfl) | (apply p_eq <;> rfl) | (apply p_lt <;> rfl) | (apply p_gt <;> rfl) | (apply p_ne <;> rfl) | (apply p_assign <;> rfl) | (apply p_pickT <;> rfl) | (apply p_pickF <;> rfl) | (apply p_not <;> rfl) | (apply p_fieldAddrB <;> rfl) | (apply p_build; (case hz => rfl); (case hv => (simp only [List.map_cons, List.map_nil]; repeat (with_reducible exact evs_nil))); (case hb => (apply bldL; repeat (exact bld_nil)))) | (apply p_and64 <;> rfl) | fail); (case hd => rfl)) | (apply v_condT; (case hc => rfl)) | (apply v_condF; (case hc => rfl)) | (apply v_cond; (case hc => rfl); all_goals (intro h; (try simp only [reduceCtorEq, zzz] at h); first | (exfalso; omega) | skip)) | (apply v_guardB; (case h1 => rfl); (case h2 => rfl); all_goals (intro h; (try simp only [reduceCtorEq, zzz] at h))) | (apply v_pure; (case hop => (apply eqBal; (case hx => rfl); (case hy => rfl))); (case hd => rfl)) | (apply v_callJ (hs := q2); (case ha => rfl); (case hd => rfl)) | (apply v_callJ (hs := q3); (case ha => rfl); (case hd => rfl)) | (apply v_callFJ0 (hs := q1 _); (case hx => rfl); (case ha => rfl); (case hd => rfl)) | (apply v_read; (case hop => first | (apply r_loadNo; (case hx => rfl); (case h => (repeat (exact mhd _))); (case hd => (repeat (first | with_reducible exact dt_nil | apply dt_here))); (case hn => rfl)) | (apply r_load1; rfl; (apply Cell.own; (case h => (repeat (exact mhd _))); rfl)) | fail); (case hd => rfl)) | fail)
  all_goals
    (refine v_ret [] (outsA1 rfl rfl) (by repeat (exact List.nil_sublist _)) ?_
     refine ⟨?_, rfl⟩
     (try simp only [dec_eq])
     congr 1
     unfold mayP at *
     first
       | (rw [decide_eq_decide]; omega)
       | (rw [eq_comm, decide_eq_false_iff_not]; omega)
       | (rw [eq_comm, decide_eq_true_iff]; omega))
def OthersP (f : Int) (m : Ms) : Prop := (band f 1 = 0 ∧ ¬ (m.round = 0 ∧ m.node = 0)) ∨ (band f 2 = 0 ∧ m.index ≠ 0) ∨ (band f 4 = 0 ∧ m.commit ≠ 0) ∨ (band f 8 = 0 ∧ m.version ≠ 0) ∨ (band f 16 = 0 ∧ 0 < m.ents.length) ∨ (band f 32 = 0 ∧ 0 < m.img.length)
instance (f : Int) (m : Ms) : Decidable (OthersP f m) := by unfold OthersP; infer_instance
set_option maxHeartbeats 4000000 in
theorem mothers_s (G : GH) (f : Int) (m : Ms) {A I : Option Addr} {c c' : Nat} : Con Tryd.prog 66 #[.agg (m.cells (.slice A m.ents.length c) (.slice I m.img.length c')).toArray, .int .i64 f] G [] (Just (.bool (decide (OthersP f m))) G) := by
  have e : decide (OthersP f m) = decide ((band f 1 = 0 ∧ ¬ (m.round = 0 ∧ m.node = 0)) ∨ (band f 2 = 0 ∧ m.index ≠ 0) ∨ (band f 4 = 0 ∧ m.commit ≠ 0) ∨ (band f 8 = 0 ∧ m.version ≠ 0) ∨ (band f 16 = 0 ∧ 0 < m.ents.length) ∨ (band f 32 = 0 ∧ 0 < m.img.length)) := decide_eq_decide.2 Iff.rfl
  rw [e]
  clear e
  obtain ⟨kind, src, dst, round, node, index, commit, version, ents, img⟩ := m
  simp only at *
  generalize ents.length = n at *
  generalize img.length = n' at *
  apply Con.just
  (refine v_enter Tryd.func66 rfl Tryd.ntmps66 rfl ?_; intro B _)
  repeat' (first | (apply v_box (d := 2) (zs := msL kind src dst round node index commit version (.slice A n c) (.slice I n' c')); (case hx => rfl); (case hz => rfl); (case hd => rfl); intro b2) | apply v_seq | apply v_region | apply v_nil | apply v_skip | apply v_block | apply v_blk | (apply v_take; (case hg => rfl)) | (apply v_pass; (case hg => rfl); (case hn => rfl); (case hd => rfl)) | (apply v_pure; (case hop => first | (apply p_move <;> rfl) | (apply p_eq <;> rfl) | (apply p_gt <;> rfl) | (apply p_ne <;> rfl) | (apply p_assign <;> rfl) | (apply p_pickT <;> rfl) | (apply p_pickF <;> rfl) | (apply p_lenSlice <;> rfl) | (apply p_fieldAddrB <;> rfl) | (apply p_build; (case hz => rfl); (case hv => (simp only [List.map_cons, List.map_nil]; repeat (with_reducible exact evs_nil))); (case hb => (apply bldL; repeat (exact bld_nil)))) | (apply p_and64 <;> rfl) | fail); (case hd => rfl)) | (apply v_condF; (case hc => rfl)) | (apply v_cond; (case hc => rfl); all_goals (intro h; (try simp only [reduceCtorEq, zzz] at h); first | (exfalso; omega) | skip)) | (apply v_guardB; (case h1 => rfl); (case h2 => rfl); all_goals (intro h; (try simp only [reduceCtorEq, zzz] at h))) | (apply v_pure; (case hop => (apply neBal; (case hx => rfl); (case hy => rfl))); (case hd => rfl)) | (apply v_read; (case hop => first | (apply r_loadNo; (case hx => rfl); (case h => (repeat (exact mhd _))); (case hd => (repeat (first | with_reducible exact dt_nil | apply dt_here))); (case hn => rfl)) | (apply r_load1; rfl; (apply Cell.own; (case h => (repeat (exact mhd _))); rfl)) | fail); (case hd => rfl)) | fail)
  all_goals
    (refine v_ret [] (outsA1 rfl rfl) (by repeat (exact List.nil_sublist _)) ?_
     refine ⟨?_, rfl⟩
     (try simp only [dec_eq])
     congr 1
     first
       | (rw [decide_eq_decide]; omega)
       | (rw [eq_comm, decide_eq_false_iff_not]; omega)
       | (rw [eq_comm, decide_eq_true_iff]; omega))
theorem maccept_s {G : GH} (m : Ms) {A I : Option Addr} {c c' : Nat} (he : Es G (.slice A m.ents.length c) m.ents) : Con Tryd.prog 67 #[.agg (m.cells (.slice A m.ents.length c) (.slice I m.img.length c')).toArray] G [] (SomeB G) := by
  obtain ⟨A0, c0, e0, hlc, hcm, hsome, hcp, hcb, hcc, hok⟩ := esOpen he
  cases e0
  obtain ⟨kind, src, dst, round, node, index, commit, version, ents, img⟩ := m
  simp only at *
  generalize img.length = n' at *
  (refine v_enter Tryd.func67 rfl Tryd.ntmps67 rfl ?_; intro B _)
  by_cases h1 : ents.length = 1
  · have hlt : 0 < ents.length := by omega
    have hA := hsome hlt
    have hb0 := hcb 0 hlt
    clear hcp hcb hcc hok
    generalize ents[0] = x at *
    generalize ents.length = n at *
    subst h1
    repeat' (first | (apply v_box (d := 1) (zs := msL kind src dst round node index commit version (.slice A 1 c) (.slice I n' c')); (case hx => rfl); (case hz => rfl); (case hd => rfl); intro b1) | apply v_seq | apply v_region | apply v_nil | (apply v_pure; (case hop => (apply p_assign <;> rfl)); (case hd => rfl)) | fail)
    refine d_start _ (by kernel_rfl) (by kernel_rfl) (by kernel_rfl) (fun _ he => he) ?_
    all_goals (apply dtk 0; (case hi => rfl); (case hop => (apply prd; apply p_fieldAddrB <;> rfl)); (case hq => kernel_rfl))
    all_goals (apply dtk 1; (case hi => rfl); (case hop => (apply r_load1; rfl; (apply Cell.own; (case h => (repeat (exact mhd _))); rfl))); (case hq => kernel_rfl))
    all_goals (apply dtk 2; (case hi => rfl); (case hop => (apply prd; apply p_lenSlice <;> rfl)); (case hq => kernel_rfl))
    all_goals (apply dtk 3; (case hi => rfl); (case hop => (apply prd; apply p_eqs <;> rfl)); (case hq => kernel_rfl))
    all_goals (apply dtk 4; (case hi => rfl); (case hop => (apply prd; apply p_move <;> rfl)); (case hq => kernel_rfl))
    all_goals (try (apply d_guardB 5; (case hi => rfl); (case hgd => rfl); (case h1 => rfl); (case h2 => rfl); all_goals (intro h; (try simp only [reduceCtorEq, zzz] at h))))
    all_goals (apply dtg 5; (case hi => rfl); (case hg => rfl); (case hop => (apply prd; apply p_fieldAddrB <;> rfl)); (case hq => kernel_rfl))
    all_goals (try (apply d_guardB 6; (case hi => rfl); (case hgd => rfl); (case h1 => rfl); (case h2 => rfl); all_goals (intro h; (try simp only [reduceCtorEq, zzz] at h))))
    all_goals (apply dtg 6; (case hi => rfl); (case hg => rfl); (case hop => (apply r_load1; rfl; (apply Cell.own; (case h => (repeat (exact mhd _))); rfl))); (case hq => kernel_rfl))
    all_goals (try (apply d_guardB 7; (case hi => rfl); (case hgd => rfl); (case h1 => rfl); (case h2 => rfl); all_goals (intro h; (try simp only [reduceCtorEq, zzz] at h))))
    all_goals (apply dtg 7; (case hi => rfl); (case hg => rfl); (case hop => (apply prd; apply p_indexAddrS; (case hx => rfl); (case hi => rfl); (case h0 => omega); (case h => omega); (case hA => assumption))); (case hq => kernel_rfl))
    all_goals (try (apply d_guardB 8; (case hi => rfl); (case hgd => rfl); (case h1 => rfl); (case h2 => rfl); all_goals (intro h; (try simp only [reduceCtorEq, zzz] at h))))
    all_goals (apply dtg 8; (case hi => rfl); (case hg => rfl); (case hop => (apply prd; apply p_fieldAddr <;> rfl)); (case hq => kernel_rfl))
    all_goals (try (apply d_guardB 9; (case hi => rfl); (case hgd => rfl); (case h1 => rfl); (case h2 => rfl); all_goals (intro h; (try simp only [reduceCtorEq, zzz] at h))))
    all_goals (apply dtg 9; (case hi => rfl); (case hg => rfl); (case hop => ((apply r_loadN; rfl; exact CellsAt.frozen hb0; rfl))); (case hq => kernel_rfl))
    all_goals (try (apply d_guardB 10; (case hi => rfl); (case hgd => rfl); (case h1 => rfl); (case h2 => rfl); all_goals (intro h; (try simp only [reduceCtorEq, zzz] at h))))
    all_goals (apply dtg 10; (case hi => rfl); (case hg => rfl); (case hop => (apply prd; apply p_fieldAddrB <;> rfl)); (case hq => kernel_rfl))
    all_goals (try (apply d_guardB 11; (case hi => rfl); (case hgd => rfl); (case h1 => rfl); (case h2 => rfl); all_goals (intro h; (try simp only [reduceCtorEq, zzz] at h))))
    all_goals (apply dtg 11; (case hi => rfl); (case hg => rfl); (case hop => (apply r_loadNo; (case hx => rfl); (case h => (repeat (exact mhd _))); (case hd => (repeat (first | with_reducible exact dt_nil | apply dt_here))); (case hn => rfl))); (case hq => kernel_rfl))
    all_goals (try (apply d_guardB 12; (case hi => rfl); (case hgd => rfl); (case h1 => rfl); (case h2 => rfl); all_goals (intro h; (try simp only [reduceCtorEq, zzz] at h))))
    all_goals (apply dtg 12; (case hi => rfl); (case hg => rfl); (case hop => ((apply prd; apply eqBal; (case hx => rfl); (case hy => rfl)))); (case hq => kernel_rfl))
    all_goals (apply dtk 13; (case hi => rfl); (case hop => (apply prd; apply p_pickT <;> rfl)); (case hq => kernel_rfl))
    all_goals (apply dtk 14; (case hi => rfl); (case hop => (apply prd; apply p_assign <;> rfl)); (case hq => kernel_rfl))
    all_goals (apply d_done; (case hr => kernel_rfl))
    all_goals repeat' (fail)
    all_goals
      (refine v_ret [] (outsA1 rfl rfl) (by repeat (exact List.nil_sublist _)) ?_
       exact ⟨rfl, rfl, _, rfl⟩)
  · clear hcp hcb hcc hok he hsome
    generalize ents.length = n at *
    repeat' (first | (apply v_box (d := 1) (zs := msL kind src dst round node index commit version (.slice A n c) (.slice I n' c')); (case hx => rfl); (case hz => rfl); (case hd => rfl); intro b1) | apply v_seq | apply v_region | apply v_nil | (apply v_pure; (case hop => (apply p_assign <;> rfl)); (case hd => rfl)) | fail)
    refine d_start _ (by kernel_rfl) (by kernel_rfl) (by kernel_rfl) (fun _ he => he) ?_
    all_goals (apply dtk 0; (case hi => rfl); (case hop => (apply prd; apply p_fieldAddrB <;> rfl)); (case hq => kernel_rfl))
    all_goals (apply dtk 1; (case hi => rfl); (case hop => (apply r_load1; rfl; (apply Cell.own; (case h => (repeat (exact mhd _))); rfl))); (case hq => kernel_rfl))
    all_goals (apply dtk 2; (case hi => rfl); (case hop => (apply prd; apply p_lenSlice <;> rfl)); (case hq => kernel_rfl))
    all_goals (apply dtk 3; (case hi => rfl); (case hop => (apply prd; apply p_eq <;> rfl)); (case hq => kernel_rfl))
    all_goals (apply dtk 4; (case hi => rfl); (case hop => (apply prd; apply p_move <;> rfl)); (case hq => kernel_rfl))
    all_goals (try (apply d_guardB 5; (case hi => rfl); (case hgd => rfl); (case h1 => rfl); (case h2 => rfl); all_goals (intro h; (try simp only [reduceCtorEq, zzz] at h); first | (exfalso; omega) | skip)))
    all_goals (apply dpa 5; (case hi => rfl); (case hg => rfl); (case hn => rfl); (case hq => kernel_rfl))
    all_goals (try (apply d_guardB 6; (case hi => rfl); (case hgd => rfl); (case h1 => rfl); (case h2 => rfl); all_goals (intro h; (try simp only [reduceCtorEq, zzz] at h))))
    all_goals (apply dpa 6; (case hi => rfl); (case hg => rfl); (case hn => rfl); (case hq => kernel_rfl))
    all_goals (try (apply d_guardB 7; (case hi => rfl); (case hgd => rfl); (case h1 => rfl); (case h2 => rfl); all_goals (intro h; (try simp only [reduceCtorEq, zzz] at h))))
    all_goals (apply dpa 7; (case hi => rfl); (case hg => rfl); (case hn => rfl); (case hq => kernel_rfl))
    all_goals (try (apply d_guardB 8; (case hi => rfl); (case hgd => rfl); (case h1 => rfl); (case h2 => rfl); all_goals (intro h; (try simp only [reduceCtorEq, zzz] at h))))
    all_goals (apply dpa 8; (case hi => rfl); (case hg => rfl); (case hn => rfl); (case hq => kernel_rfl))
    all_goals (try (apply d_guardB 9; (case hi => rfl); (case hgd => rfl); (case h1 => rfl); (case h2 => rfl); all_goals (intro h; (try simp only [reduceCtorEq, zzz] at h))))
    all_goals (apply dpa 9; (case hi => rfl); (case hg => rfl); (case hn => rfl); (case hq => kernel_rfl))
    all_goals (try (apply d_guardB 10; (case hi => rfl); (case hgd => rfl); (case h1 => rfl); (case h2 => rfl); all_goals (intro h; (try simp only [reduceCtorEq, zzz] at h))))
    all_goals (apply dpa 10; (case hi => rfl); (case hg => rfl); (case hn => rfl); (case hq => kernel_rfl))
    all_goals (try (apply d_guardB 11; (case hi => rfl); (case hgd => rfl); (case h1 => rfl); (case h2 => rfl); all_goals (intro h; (try simp only [reduceCtorEq, zzz] at h))))
    all_goals (apply dpa 11; (case hi => rfl); (case hg => rfl); (case hn => rfl); (case hq => kernel_rfl))
    all_goals (try (apply d_guardB 12; (case hi => rfl); (case hgd => rfl); (case h1 => rfl); (case h2 => rfl); all_goals (intro h; (try simp only [reduceCtorEq, zzz] at h))))
    all_goals (apply dpa 12; (case hi => rfl); (case hg => rfl); (case hn => rfl); (case hq => kernel_rfl))
    all_goals (apply dtk 13; (case hi => rfl); (case hop => (apply prd; apply p_pickF <;> rfl)); (case hq => kernel_rfl))
    all_goals (apply dtk 14; (case hi => rfl); (case hop => (apply prd; apply p_assign <;> rfl)); (case hq => kernel_rfl))
    all_goals (apply d_done; (case hr => kernel_rfl))
    all_goals repeat' (fail)
    all_goals
      (refine v_ret [] (outsA1 rfl rfl) (by repeat (exact List.nil_sublist _)) ?_
       exact ⟨rfl, rfl, _, rfl⟩)
def PromP (m : Ms) : Prop := (1 ≤ m.src ∧ m.src ≤ 9 ∧ 1 ≤ m.dst ∧ m.dst ≤ 9 ∧ m.src ≠ m.dst) ∧ (mayP m.round m.node ∧ ¬ (m.round = 0 ∧ m.node = 0)) ∧ (1 ≤ m.index ∧ m.index ≤ 4294967296) ∧ (0 ≤ m.commit ∧ m.commit ≤ 4294967296) ∧ m.ents.length ≤ 256 ∧ chkK m.ents 0 = 0 ∧ m.version = 0 ∧ m.img.length = 0
def PrE (m : Ms) (G : GH) (r : Value) (G' : GH) (μ' : OH) : Prop := G' = G ∧ μ' = [] ∧ ∃ z : Int, r = .int .i64 z ∧ (m.kind = 4 → (z = 0 ↔ PromP m))
set_option maxHeartbeats 4000000 in
theorem mcheck_s {G : GH} (hT : TabsG G) (m : Ms) {cs : List Value} (hm : MsR G m cs) : Con Tryd.prog 37 #[.agg cs.toArray] G [] (PrE m G) := by
  obtain ⟨A, c, I, ci, rfl, he, hi⟩ := hm
  have q1 := mfields_s G m.kind
  have q2 := fun f => mranges_s G f m (.slice A m.ents.length c) (.slice I m.img.length ci) rfl rfl
  have q3 := entCheck_s hT he
  have q4 := fun f => mothers_s G f m (A := A) (I := I) (c := c) (c' := ci)
  have q5 := maccept_s m (I := I) (c' := ci) he
  have hp : PromP m ↔ ((1 ≤ m.src ∧ m.src ≤ 9 ∧ 1 ≤ m.dst ∧ m.dst ≤ 9 ∧ m.src ≠ m.dst) ∧ (mayP m.round m.node ∧ ¬ (m.round = 0 ∧ m.node = 0)) ∧ (1 ≤ m.index ∧ m.index ≤ 4294967296) ∧ (0 ≤ m.commit ∧ m.commit ≤ 4294967296) ∧ m.ents.length ≤ 256 ∧ chkK m.ents 0 = 0 ∧ m.version = 0 ∧ m.img.length = 0) := Iff.rfl
  have b1 : band 23 1 = 1 := by decide
  have b2 : band 23 2 = 2 := by decide
  have b4 : band 23 4 = 4 := by decide
  have b8 : band 23 8 = 0 := by decide
  have b16 : band 23 16 = 16 := by decide
  have b32 : band 23 32 = 0 := by decide
  have hr : RangesP 23 m ↔ (1 ≤ m.src ∧ m.src ≤ 9 ∧ 1 ≤ m.dst ∧ m.dst ≤ 9 ∧ m.src ≠ m.dst) ∧ (mayP m.round m.node ∧ ¬ (m.round = 0 ∧ m.node = 0)) ∧ (1 ≤ m.index ∧ m.index ≤ 4294967296) ∧ (0 ≤ m.commit ∧ m.commit ≤ 4294967296) := by
    unfold RangesP
    rw [b1, b2, b4, b8]
    constructor
    · rintro ⟨h1, h2, h3, h4, h5⟩; exact ⟨h1, h2 (by decide), h3 (by decide), h4 (by decide)⟩
    · rintro ⟨h1, h2, h3, h4⟩; exact ⟨h1, fun _ => h2, fun _ => h3, fun _ => h4, .inl rfl⟩
  have ho : OthersP 23 m ↔ m.version ≠ 0 ∨ 0 < m.img.length := by
    unfold OthersP
    rw [b1, b2, b4, b8, b16, b32]
    omega
  unfold PrE
  rw [hp]
  clear hp hi he
  by_cases h4 : m.kind = 4
  · have ef : mF m.kind = 23 := by unfold mF; rw [h4]; decide
    rw [ef] at q1
    have q2 := q2 23
    have q4 := q4 23
    have e2 : decide (RangesP 23 m) = decide ((1 ≤ m.src ∧ m.src ≤ 9 ∧ 1 ≤ m.dst ∧ m.dst ≤ 9 ∧ m.src ≠ m.dst) ∧ (mayP m.round m.node ∧ ¬ (m.round = 0 ∧ m.node = 0)) ∧ (1 ≤ m.index ∧ m.index ≤ 4294967296) ∧ (0 ≤ m.commit ∧ m.commit ≤ 4294967296)) := decide_eq_decide.2 hr
    have e4 : decide (OthersP 23 m) = decide (m.version ≠ 0 ∨ 0 < m.img.length) := decide_eq_decide.2 ho
    rw [e2] at q2
    rw [e4] at q4
    clear e2 e4 hr ho b1 b2 b4 b8 ef
    obtain ⟨kind, src, dst, round, node, index, commit, version, ents, img⟩ := m
    simp only at *
    generalize chkK ents 0 = ck at *
    generalize ents.length = n at *
    generalize img.length = n' at *
    subst h4
    (refine v_enter Tryd.func37 rfl Tryd.ntmps37 rfl ?_; intro B _)
    repeat' (first | (apply v_box (d := 1) (zs := msL 4 src dst round node index commit version (.slice A n c) (.slice I n' ci)); (case hx => rfl); (case hz => rfl); (case hd => rfl); intro b1) | (apply v_read; (case hop => (apply r_loadNo; (case hx => rfl); (case h => repeat (exact mhd _)); (case hd => rfl); (case hn => rfl))); (case hd => rfl)) | apply v_seq | apply v_region | apply v_nil | apply v_skip | apply v_block | apply v_blk | (apply v_take; (case hg => rfl)) | (apply v_pass; (case hg => rfl); (case hn => rfl); (case hd => rfl)) | (apply v_passN; (case hg => rfl); (case hn => rfl); (case hd => rfl)) | (apply v_pure; (case hop => first | (apply p_move <;> rfl) | (apply p_nes <;> rfl) | (apply p_eq <;> rfl) | (apply p_gt <;> rfl) | (apply p_ne <;> rfl) | (apply p_assign <;> rfl) | (apply p_pickT <;> rfl) | (apply p_pickF <;> rfl) | (apply p_not <;> rfl) | (apply p_lenSlice <;> rfl) | (apply p_fieldAddrB <;> rfl) | (apply p_and64 <;> rfl) | fail); (case hd => rfl)) | (apply v_condT; (case hc => rfl)) | (apply v_condF; (case hc => rfl)) | (apply v_cond; (case hc => rfl); all_goals (intro h; (try simp only [reduceCtorEq, zzz] at h); first | (exfalso; omega) | skip)) | (apply v_guardB; (case h1 => rfl); (case h2 => rfl); all_goals (intro h; (try simp only [reduceCtorEq, zzz] at h); first | (exfalso; omega) | skip)) | (apply v_callJ (hs := q1); (case ha => rfl); (case hd => rfl)) | (apply v_callJ (hs := q2); (case ha => rfl); (case hd => rfl)) | (apply v_callJ (hs := q3); (case ha => rfl); (case hd => rfl)) | (apply v_callJ (hs := q4); (case ha => rfl); (case hd => rfl)) | (apply v_read; (case hop => (apply r_load1; rfl; (apply Cell.own; (case h => (repeat (exact mhd _))); rfl))); (case hd => rfl)) | fail)
    all_goals
      (refine v_ret [] (outsA1 rfl rfl) (by repeat (exact List.nil_sublist _)) ?_
       refine ⟨rfl, rfl, _, rfl, fun _ => ?_⟩
       clear q1 q2 q3 q4 q5
       unfold mayP at *
       constructor <;> intro hh <;> omega)
  · clear hr ho b1 b2 b4 b8 b16 b32
    have q2 := q2 (mF m.kind)
    have q4 := q4 (mF m.kind)
    generalize decide (RangesP (mF m.kind) m) = rb at *
    generalize decide (OthersP (mF m.kind) m) = ob at *
    generalize mF m.kind = f at *
    obtain ⟨kind, src, dst, round, node, index, commit, version, ents, img⟩ := m
    simp only at *
    generalize chkK ents 0 = ck at *
    generalize ents.length = n at *
    generalize img.length = n' at *
    (refine v_enter Tryd.func37 rfl Tryd.ntmps37 rfl ?_; intro B _)
    repeat' (first | (apply v_box (d := 1) (zs := msL kind src dst round node index commit version (.slice A n c) (.slice I n' ci)); (case hx => rfl); (case hz => rfl); (case hd => rfl); intro b1) | (apply v_read; (case hop => (apply r_loadNo; (case hx => rfl); (case h => repeat (exact mhd _)); (case hd => rfl); (case hn => rfl))); (case hd => rfl)) | apply v_seq | apply v_region | apply v_nil | apply v_skip | apply v_block | apply v_blk | (apply v_take; (case hg => rfl)) | (apply v_pass; (case hg => rfl); (case hn => rfl); (case hd => rfl)) | (apply v_passN; (case hg => rfl); (case hn => rfl); (case hd => rfl)) | (apply v_pure; (case hop => first | (apply p_move <;> rfl) | (apply p_eq <;> rfl) | (apply p_gt <;> rfl) | (apply p_ne <;> rfl) | (apply p_assign <;> rfl) | (apply p_pickT <;> rfl) | (apply p_pickF <;> rfl) | (apply p_not <;> rfl) | (apply p_lenSlice <;> rfl) | (apply p_fieldAddrB <;> rfl) | (apply p_and64 <;> rfl) | fail); (case hd => rfl)) | (apply v_condT; (case hc => rfl)) | (apply v_condF; (case hc => rfl)) | (apply v_cond; (case hc => rfl); all_goals (intro h; (try simp only [reduceCtorEq, zzz] at h); first | (exfalso; omega) | skip)) | (apply v_guardB; (case h1 => rfl); (case h2 => rfl); all_goals (intro h; (try simp only [reduceCtorEq, zzz] at h); first | (exfalso; omega) | skip)) | (apply v_callJ (hs := q1); (case ha => rfl); (case hd => rfl)) | (apply v_callJ (hs := q2); (case ha => rfl); (case hd => rfl)) | (apply v_callJ (hs := q3); (case ha => rfl); (case hd => rfl)) | (apply v_callJ (hs := q4); (case ha => rfl); (case hd => rfl)) | (apply v_call (μ1 := []) (hs := q5); (case ha => rfl); (case hp => exact List.Perm.refl _); (case hd => rfl); rintro _ G1 _ - ⟨hG1, rfl, bq, rfl⟩; subst hG1) | (apply v_read; (case hop => (apply r_load1; rfl; (apply Cell.own; (case h => (repeat (exact mhd _))); rfl))); (case hd => rfl)) | fail)
    all_goals
      (refine v_ret [] (outsA1 rfl rfl) (by repeat (exact List.nil_sublist _)) ?_
       exact ⟨rfl, rfl, _, rfl, fun h => absurd h h4⟩)
end Go.Proofs.YtmdeeokejdkceaaDoor
/-
  VX, SCOPES: a scope that no goto leaves, and a label.
-/
set_option linter.unusedVariables false
set_option linter.unusedSimpArgs false
namespace Go.Vx
open Go
attribute [local semireducible] Vc
section
variable {P : Program} {fn : Func} {n : Nat} {B : Base} {Φ : Value → GH → OH → Prop} {k : List It} {σ : Env} {G : GH} {μ : OH}
end
end Go.Vx
/-
  VX, A REGION THAT DRAWS ITS ORDER, TWO OPERATIONS READY: either may come first.
-/
set_option linter.unusedVariables false
set_option linter.unusedSimpArgs false
namespace Go.Vx
open Go
attribute [local semireducible] Vc DVc Con PureOp ReadOp MoveOp
section
variable {P : Program} {fn : Func} {n : Nat} {B : Base} {Φ : Value → GH → OH → Prop} {k : List It} {σ : Env} {G G0 : GH} {μ : OH} {all : Array Oper} {m : Nat} {listed : Array Bool} {d : Nat} {op : Op} {ty : TypeId} {pos : String} {af : Array Edge} {v : Value}
end
end Go.Vx
/-
  VX, A CUT: what is left is shown once, whichever way led there.
-/
set_option linter.unusedVariables false
set_option linter.unusedSimpArgs false
namespace Go.Vx
open Go
attribute [local semireducible] Vc DVc
section
variable {P : Program} {fn : Func} {n : Nat} {B : Base} {Φ : Value → GH → OH → Prop} {k : List It} {σ σ' : Env} {G G0 : GH} {μ : OH}
end
section
variable {P : Program} {fn : Func} {n : Nat} {B : Base} {Φ : Value → GH → OH → Prop} {k : List It} {σ : Env} {G G0 : GH} {μ : OH} {all : Array Oper} {m : Nat} {listed : Array Bool} {d : Nat} {op : Op} {ty : TypeId} {pos : String} {af : Array Edge} {t : TypeId} {bytes : Nat} {zero : Value} {ν : OH}
end
end Go.Vx
