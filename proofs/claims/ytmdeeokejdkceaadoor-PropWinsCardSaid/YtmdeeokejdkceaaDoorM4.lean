/-
  The reference 13: a promise that may be; large messages.
-/
import Derived.Test.YtmdeeokejdkceaaDoorM3
import Derived.Test.YtmdeeokejdkceaaDoorM2
import Derived.Maps.RangeRun
import Derived.Maps.Keyed
import Derived.Laws.MakeOwn
import Derived.RangeFuncOwn
import Derived.Test.YtmdeeokejdkceaaDoorM1
import Derived.Shelf.SortM.Plain
import Derived.Shelf.SortM.SortNone
import Derived.Shelf.Slices.CompactI
import Derived.Lib.LaidU8T
import Derived.MakeChecks
import Derived.Test.YtmdeeokejdkceaaDoorRows
set_option linter.unusedSimpArgs false
set_option linter.unusedVariables false
namespace Go.Proofs.YtmdeeokejdkceaaDoor
open Go.Vx Go.ChangeShapes Go.WideShapes Go.ChangeAt Go.RowKit
def MsZ (m : Ms) : Prop := m.ents.length ≤ 40 ∧ m.img.length ≤ 300
theorem mLarge_s {G : GH} (m : Ms) {cs : List Value} (hm : MsR G m cs) : Con Tryd.prog 35 #[.agg cs.toArray] G [] (LargeB m.ents.length G) := by
  obtain ⟨A, c, I, ci, rfl, he, hi⟩ := hm
  have q := entLargeB_s he
  obtain ⟨kind, src, dst, round, node, index, commit, version, ents, img⟩ := m
  simp only at *
  clear he hi
  generalize ents.length = n at *
  generalize img.length = n' at *
  (refine v_enter Tryd.func35 rfl Tryd.ntmps35 rfl ?_; intro B _)
  repeat' (first | (apply v_box (d := 1) (zs := msL kind src dst round node index commit version (.slice A n c) (.slice I n' ci)); (case hx => rfl); (case hz => rfl); (case hd => rfl); intro b1) | apply v_seq | apply v_region | apply v_nil | (apply v_pure; (case hop => first | (apply p_assign <;> rfl) | (apply p_fieldAddrB <;> rfl) | fail); (case hd => rfl)) | (apply v_read; (case hop => (apply r_load1; rfl; (apply Cell.own; (case h => (repeat (exact mhd _))); rfl))); (case hd => rfl)) | fail)
  refine v_call (μ1 := []) rfl q (List.Perm.refl _) rfl ?_
  rintro _ G1 _ - ⟨hG1, rfl, b2, rfl, h2⟩
  subst hG1
  cases b2 with
  | true =>
    repeat' (first | apply v_nil | (apply v_pass; (case hg => rfl); (case hn => rfl); (case hd => rfl)) | (apply v_passN; (case hg => rfl); (case hn => rfl); (case hd => rfl)) | (apply v_pure; (case hop => first | (apply p_move <;> rfl) | (apply p_assign <;> rfl) | (apply p_pickT <;> rfl) | fail); (case hd => rfl)) | fail)
    refine v_ret [] (outsA1 rfl rfl) (by repeat (exact List.nil_sublist _)) ?_
    exact ⟨rfl, rfl, _, rfl, fun h => by cases h⟩
  | false =>
    repeat' (first | apply v_nil | (apply v_take; (case hg => rfl)) | (apply v_pass; (case hg => rfl); (case hn => rfl); (case hd => rfl)) | (apply v_pure; (case hop => first | (apply p_move <;> rfl) | (apply p_lt <;> rfl) | (apply p_gt <;> rfl) | (apply p_assign <;> rfl) | (apply p_pickT <;> rfl) | (apply p_pickF <;> rfl) | (apply p_lenSlice <;> rfl) | (apply p_fieldAddrB <;> rfl) | fail); (case hd => rfl)) | (apply v_guardB; (case h1 => rfl); (case h2 => rfl); all_goals (intro h; (try simp only [reduceCtorEq, zzz] at h))) | (apply v_read; (case hop => (apply r_load1; rfl; (apply Cell.own; (case h => (repeat (exact mhd _))); rfl))); (case hd => rfl)) | fail)
    all_goals
      (refine v_ret [] (outsA1 rfl rfl) (by repeat (exact List.nil_sublist _)) ?_
       exact ⟨rfl, rfl, _, rfl, fun _ => h2 rfl⟩)
abbrev Mss (G : GH) (v : Value) (l : List Ms) : Prop := Sl G 10 (MsR G) v l
theorem msOpen {G : GH} {v : Value} {l : List Ms} (h : Mss G v l) : ∃ A c, v = .slice A l.length c ∧ l.length ≤ c ∧ c ≤ maxLen ∧ (0 < l.length → A.isSome = true) ∧
    ∀ i (h : i < l.length), ∃ EA ec IA ic, CellsG G ((adr A).add (i * 10)) (l[i].cells (.slice EA l[i].ents.length ec) (.slice IA l[i].img.length ic)) ∧ MsR G l[i] (l[i].cells (.slice EA l[i].ents.length ec) (.slice IA l[i].img.length ic)) := by
  obtain ⟨A, c, rfl, h1, h2, h3, h4⟩ := h.open
  refine ⟨A, c, rfl, h1, h2, h3, fun i hi => ?_⟩
  obtain ⟨cs, _, ⟨EA, ec, IA, ic, rfl, h5, h6⟩, h7⟩ := h4 i _ (List.getElem?_eq_getElem hi)
  exact ⟨EA, ec, IA, ic, h7, EA, ec, IA, ic, rfl, h5, h6⟩
theorem largeMs_s {G : GH} {l : List Ms} {sv : Value} (hs : Mss G sv l) : Con Tryd.prog 15 #[sv] G [] (fun r G' μ' => G' = G ∧ μ' = [] ∧ ∃ b, r = .bool b ∧ (b = false → l.length ≤ 30 ∧ ∀ m ∈ l, MsZ m)) := by
  obtain ⟨A, c, rfl, hlc, hcm, hsome, hcp⟩ := msOpen hs
  simp only [maxLen] at hcm
  (refine v_enter Tryd.func15 rfl Tryd.ntmps15 rfl ?_; intro B _)
  repeat' (first | apply v_seq | apply v_region | apply v_nil | apply v_block | (apply v_pure; (case hop => (apply p_assign <;> rfl)); (case hd => rfl)) | fail)
  refine v_loop [3, 0] (fun us G' μ' => G' = G ∧ μ' = [] ∧ ∃ k : Nat, k ≤ l.length ∧ k ≤ 30 ∧ us = [Value.int .i64 (k : Nat), .slice A l.length c] ∧ ∀ j (h : j < l.length), j < k → MsZ l[j]) (fun us => l.length - (headI us).toNat) rfl ⟨rfl, rfl, 0, by omega, by omega, rfl, by omega⟩ ?_
  rintro us G' _ ⟨hG', rfl, k, hk, hk30, rfl, hno⟩
  subst hG'
  by_cases hlt : k < l.length ∧ k < 30
  · obtain ⟨hlt, h30⟩ := hlt
    have e1 : ((k : Nat) : Int).toNat = k := by omega
    have hA := hsome (by omega)
    obtain ⟨EA, ec, IA, ic, hck, hmk⟩ := hcp k hlt
    have q := mLarge_s l[k] hmk
    have hnx : l[k].ents.length ≤ 40 → l[k].img.length ≤ 300 → ∀ j (h : j < l.length), j < k + 1 → MsZ l[j] := fun h1 h2 j hj hjk => by
      by_cases e : j = k
      · subst e; exact ⟨h1, h2⟩
      · exact hno j hj (by omega)
    clear hcp hmk
    have hci := hck.cell (j := 9) rfl
    generalize hl0 : l[k].ents.length = en at *
    generalize hl1 : l[k].img.length = im at *
    generalize l[k] = m at *
    repeat' (first | apply v_seq | apply v_region | apply v_nil | apply v_skip | apply v_block | (apply v_take; (case hg => rfl)) | (apply v_pure; (case hop => first | (apply p_move <;> rfl) | (apply p_lt <;> rfl) | (apply p_pickT <;> rfl) | (apply p_lenSlice <;> rfl) | (apply p_indexAddrS; (case hx => rfl); (case hi => rfl); (case h0 => omega); (case h => omega); (case hA => assumption)) | fail); (case hd => rfl)) | (apply v_cond; (case hc => rfl); all_goals (intro h; (try simp only [reduceCtorEq, zzz] at h); first | (exfalso; omega) | skip)) | (apply v_guardB; (case h1 => rfl); (case h2 => rfl); all_goals (intro h; (try simp only [reduceCtorEq, zzz] at h); first | (exfalso; omega) | skip)) | (apply v_read; (case hop => (apply r_loadN; rfl; exact CellsAt.frozen hck; rfl)); (case hd => rfl)) | fail)
    refine v_call (μ1 := []) rfl q (List.Perm.refl _) rfl ?_
    rintro _ G1 _ - ⟨hG1, rfl, b2, rfl, h2⟩
    subst hG1
    cases b2 with
    | true =>
      repeat' (first | apply v_seq | apply v_region | apply v_nil | (apply v_pass; (case hg => rfl); (case hn => rfl); (case hd => rfl)) | (apply v_pure; (case hop => first | (apply p_move <;> rfl) | (apply p_assign <;> rfl) | (apply p_pickT <;> rfl) | fail); (case hd => rfl)) | (apply v_condT; (case hc => rfl)) | fail)
      refine v_ret [] (outsA1 rfl rfl) (by repeat (exact List.Sublist.refl _)) ?_
      exact ⟨rfl, rfl, _, rfl, fun h => by cases h⟩
    | false =>
      repeat' (first | apply v_seq | apply v_region | apply v_nil | apply v_skip | apply v_blk | (apply v_take; (case hg => rfl)) | (apply v_pure; (case hop => first | (apply p_move <;> rfl) | (apply p_gt <;> rfl) | (apply p_assign <;> rfl) | (apply p_pickF <;> rfl) | (apply p_lenSlice <;> rfl) | (apply p_fieldAddr <;> rfl) | (apply p_add; (case hx => rfl); (case hy => rfl); (case h => omega)) | (apply p_indexAddrS; (case hx => rfl); (case hi => rfl); (case h0 => omega); (case h => omega); (case hA => assumption)) | fail); (case hd => rfl)) | (apply v_cond; (case hc => rfl); all_goals (intro h; (try simp only [reduceCtorEq, zzz] at h))) | (apply v_read; (case hop => (apply r_load1; rfl; exact Cell.frozen hci)); (case hd => rfl)) | fail)
      · refine v_ret [] (outsA1 rfl rfl) (by repeat (exact List.Sublist.refl _)) ?_
        exact ⟨rfl, rfl, _, rfl, fun h => by cases h⟩
      · exact v_again rfl ⟨rfl, rfl, k + 1, by omega, by omega, rfl, hnx (h2 rfl) (by omega)⟩ (by simp [headI]; omega)
  · repeat' (first | apply v_seq | apply v_region | apply v_nil | (apply v_exit; (case hp => rfl)) | (apply v_take; (case hg => rfl)) | (apply v_pass; (case hg => rfl); (case hn => rfl); (case hd => rfl)) | (apply v_pure; (case hop => first | (apply p_move <;> rfl) | (apply p_lt <;> rfl) | (apply p_gt <;> rfl) | (apply p_assign <;> rfl) | (apply p_pickT <;> rfl) | (apply p_pickF <;> rfl) | (apply p_lenSlice <;> rfl) | fail); (case hd => rfl)) | (apply v_condF; (case hc => rfl)) | (apply v_cond; (case hc => rfl); all_goals (intro h; (try simp only [reduceCtorEq, zzz] at h); first | (exfalso; omega) | skip)) | (apply v_guardB; (case h1 => rfl); (case h2 => rfl); all_goals (intro h; (try simp only [reduceCtorEq, zzz] at h))) | fail)
    all_goals
      (refine v_ret [] (outsA1 rfl rfl) (by repeat (exact List.Sublist.refl _)) ?_
       refine ⟨rfl, rfl, _, rfl, fun h => ?_⟩
       rw [dec_false] at h
       refine ⟨by omega, fun m hm => ?_⟩
       obtain ⟨j, hj, rfl⟩ := List.getElem_of_mem hm
       exact hno j hj (by omega))
def QMay (r n a : Int) : Prop := mayP r n ∧ 0 < r ∧ 1 ≤ a ∧ a ≤ 4294967296
instance (r n a : Int) : Decidable (QMay r n a) := by unfold QMay; infer_instance
def TakeP (r n a : Int) (got : List Ms) (m : Ms) : Prop := (m.kind = 4 ∧ PromP m) ∧ (m.round = r ∧ m.node = n) ∧ m.index = a ∧ ∀ x ∈ got, x.src ≠ m.src
noncomputable instance (r n a : Int) (got : List Ms) (m : Ms) : Decidable (TakeP r n a got m) := Classical.propDecidable _
end Go.Proofs.YtmdeeokejdkceaaDoor
/-
  VX, MAPS: a block of ours that is a map, as a list of keys and values; reads, writes, deletions; loops over it.
-/
set_option linter.unusedVariables false
set_option linter.unusedSimpArgs false
set_option linter.unusedSectionVars false
namespace Go.Vx
open Go
open Go.ChangeMaps (setBlock)
attribute [local semireducible] Vc DVc Con PureOp ReadOp MoveOp
structure KeyD (P : Program) (k : TypeId) {α : Type} [DecidableEq α] (mk : α → Value) (d : TypeDesc) : Prop where
  und : P.underlying k = some d
  same : ∀ a b, Instr.sameNow d (mk a) (mk b) = some (decide (a = b))
  check : ∀ (w : World) e a, (Instr.checkKey e 10000 k (mk a)).run P w = .ok () w
  bits : ∀ a, Instr.sameBits 10000 (mk a) (mk a) = true
class KeyT (P : Program) (k : TypeId) {α : Type} [DecidableEq α] (mk : α → Value) : Prop where
  h : ∃ d, KeyD P k mk d
abbrev keyI (a : Int) : Value := .int .i64 a
theorem KeyT.int {P : Program} {k : TypeId} [t : Ty P k (.int .i64)] : KeyT P k keyI :=
  ⟨_, ⟨t.h, fun a b => by simp only [Instr.sameNow, keyI, if_true]; congr 1, fun w e a => MapKept.run_checkKey t.h (show MapKept.IsKey (.int .i64) (.int .i64 a) from rfl) e 9999, fun a => by simp [Instr.sameBits, keyI]⟩⟩
section
variable {α : Type} [DecidableEq α] {mk : α → Value} {P : Program}
def mEnt (mk : α → Value) (x : α × Value × Nat) : MapEntry := ⟨mk x.1, x.2.1, x.2.2⟩
def kv (x : α × Value × Nat) : α × Value := (x.1, x.2.1)
structure MOk (L : List (α × Value × Nat)) (clock : Nat) : Prop where
  keys : (L.map (·.1)).Nodup
  rise : L.Pairwise (fun x y => x.2.2 < y.2.2)
  below : ∀ x ∈ L, x.2.2 < clock
def MapB (mk : α → Value) (l : List (α × Value)) (o : Obj) : Prop := ∃ L clock, o = .map (L.map (mEnt mk)).toArray clock ∧ L.map kv = l ∧ MOk L clock
def IterB (mk : α → Value) (m : Nat) (l : List (α × Value)) (left : List α) (oM oI : Obj) : Prop := ∃ L clock since seen stepped, oM = .map (L.map (mEnt mk)).toArray clock ∧ L.map kv = l ∧ MOk L clock ∧
  (∀ x ∈ L, x.2.2 < since) ∧ since ≤ stepped ∧ since ≤ clock ∧ oI = .mapIter (some m) since seen stepped ∧ left = (L.filter fun x => !seen.contains x.2.2).map (·.1)
theorem MapB.nodup {l : List (α × Value)} {o : Obj} (h : MapB mk l o) : (l.map (·.1)).Nodup := by
  obtain ⟨L, c, -, rfl, h3⟩ := h
  simpa [List.map_map, Function.comp_def, kv] using h3.keys
theorem MapB.nil : MapB mk [] (.map #[] 0) := ⟨[], 0, rfl, rfl, ⟨by simp, by simp, by simp⟩⟩
def mget (l : List (α × Value)) (k : α) : Option Value := (l.find? fun x => decide (x.1 = k)).map (·.2)
def mput (l : List (α × Value)) (k : α) (v : Value) : List (α × Value) := if k ∈ l.map (·.1) then l.map (fun x => if x.1 = k then (k, v) else x) else l ++ [(k, v)]
theorem findNow_no {d : TypeDesc} (hs : ∀ a b, Instr.sameNow d (mk a) (mk b) = some (decide (a = b))) {k : α} : ∀ {L : List (α × Value × Nat)} {i : Nat}, k ∉ L.map (·.1) → Instr.findNow d (mk k) (L.map (mEnt mk)) i = some none
  | [], i, _ => rfl
  | x :: L, i, h => by
    rw [List.map_cons, List.mem_cons, not_or] at h
    simp only [List.map_cons, Instr.findNow, mEnt, hs, decide_eq_false h.1]
    exact findNow_no hs h.2
theorem findNow_at {d : TypeDesc} (hs : ∀ a b, Instr.sameNow d (mk a) (mk b) = some (decide (a = b))) {k : α} {v : Value} {b : Nat} {L2 : List (α × Value × Nat)} : ∀ {L1 : List (α × Value × Nat)} {i : Nat}, k ∉ L1.map (·.1) → Instr.findNow d (mk k) ((L1 ++ (k, v, b) :: L2).map (mEnt mk)) i = some (some (i + L1.length, v))
  | [], i, _ => by simp only [List.nil_append, List.map_cons, Instr.findNow, mEnt, hs, decide_true, List.length_nil, Nat.add_zero]
  | x :: L, i, h => by
    rw [List.map_cons, List.mem_cons, not_or] at h
    simp only [List.cons_append, List.map_cons, Instr.findNow, mEnt, hs, decide_eq_false h.1]
    have := findNow_at (L2 := L2) hs (v := v) (b := b) (i := i + 1) h.2
    simp only [List.map_append, List.map_cons, mEnt] at this ⊢
    rw [this, List.length_cons]
    congr 3
    omega
theorem key_cases (L : List (α × Value × Nat)) (k : α) (hn : (L.map (·.1)).Nodup) : k ∉ L.map (·.1) ∨ ∃ L1 v b L2, L = L1 ++ (k, v, b) :: L2 ∧ k ∉ L1.map (·.1) ∧ k ∉ L2.map (·.1) := by
  by_cases h : k ∈ L.map (·.1)
  · right
    obtain ⟨⟨k', v, b⟩, hx, rfl⟩ := List.mem_map.1 h
    obtain ⟨L1, L2, rfl⟩ := List.append_of_mem hx
    rw [List.map_append, List.map_cons, List.nodup_append] at hn
    obtain ⟨n1, n2, n3⟩ := hn
    rw [List.nodup_cons] at n2
    exact ⟨L1, v, b, L2, rfl, fun h1 => n3 _ h1 _ List.mem_cons_self rfl, n2.1⟩
  · exact .inl h
theorem run_findKey {k : TypeId} {d : TypeDesc} (hK : KeyD P k mk d) (w : World) {a : α} {es : List MapEntry} {r : Option (Nat × Value)} (h : Instr.findNow d (mk a) es 0 = some r) : (Instr.findKey k (mk a) es).run P w = .ok r w := by
  unfold Instr.findKey
  rw [Sem.run_bind, run_underlying hK.und]
  simp only [Result.andThen_ok, h]
  rfl
theorem mget_no {l : List (α × Value)} {k : α} (h : k ∉ l.map (·.1)) : mget l k = none := by
  unfold mget
  rw [List.find?_eq_none.2 fun x hx => by
    rw [decide_eq_true_iff]
    exact fun e => h (List.mem_map.2 ⟨x, hx, e⟩)]
  rfl
theorem mget_at {l1 l2 : List (α × Value)} {k : α} {v : Value} (h : k ∉ l1.map (·.1)) : mget (l1 ++ (k, v) :: l2) k = some v := by
  unfold mget
  rw [List.find?_append, List.find?_eq_none.2 fun x hx => by
    rw [decide_eq_true_iff]
    exact fun e => h (List.mem_map.2 ⟨x, hx, e⟩)]
  simp
theorem map_ne {l : List (α × Value)} {k : α} {v : Value} (h : k ∉ l.map (·.1)) : l.map (fun x => if x.1 = k then (k, v) else x) = l := by
  conv => rhs; rw [← List.map_id l]
  exact List.map_congr_left fun x hx => by
    rw [if_neg fun e => h (List.mem_map.2 ⟨x, hx, e⟩)]
    rfl
theorem mput_no {l : List (α × Value)} {k : α} {v : Value} (h : k ∉ l.map (·.1)) : mput l k v = l ++ [(k, v)] := if_neg h
theorem mput_at {l1 l2 : List (α × Value)} {k : α} {u v : Value} (h1 : k ∉ l1.map (·.1)) (h2 : k ∉ l2.map (·.1)) : mput (l1 ++ (k, u) :: l2) k v = l1 ++ (k, v) :: l2 := by
  unfold mput
  rw [if_pos (by simp), List.map_append, List.map_cons, map_ne h1, map_ne h2, if_pos rfl]
theorem kv_keys (L : List (α × Value × Nat)) : (L.map kv).map (·.1) = L.map (·.1) := by simp [kv, Function.comp_def]
theorem Step.setBlock {G : GH} {μ μ' : OH} {w : World} {b : Nat} {o : Obj} (h : Mem G μ w) (hu : Upd b o μ μ') : Step G μ w G μ' (Go.ChangeMaps.setBlock w b o) := by
  obtain ⟨o0, h0⟩ := hu.was
  have hlt := lt_of_heap (h.own _ _ h0)
  refine Step.upd h hu rfl rfl rfl (by simp [Go.ChangeMaps.setBlock]) ?_ fun c hc => ?_
  · simp [Go.ChangeMaps.setBlock, hlt]
  · simp [Go.ChangeMaps.setBlock, Array.getElem?_setIfInBounds, Ne.symm hc]
theorem Step.setBlockP {G : GH} {μ r : OH} {w : World} {b : Nat} {o o' : Obj} (h : Mem G μ w) (hp : μ.Perm ((b, o) :: r)) : Step G μ w G ((b, o') :: r) (Go.ChangeMaps.setBlock w b o') :=
  (Step.setBlock (h.perm hp) (Upd.here o r)).permL hp.symm
end
section
variable {α : Type} [DecidableEq α] {mk : α → Value} {P : Program} {ty : TypeId} {σ : Env} {G : GH} {μ r : OH} {t k e : TypeId} {bytes sz : Nat} {agg : Bool} {zero : Value}
theorem m_makeMap : MoveOp P (.makeMap t none) ty σ G μ (fun v G' μ' => ∃ b, v = .map (some b) ∧ G' = G ∧ μ' = (b, .map #[] 0) :: μ) := by
  intro dst pos af g ρ hρ w hw a K Q hK
  have hr : (execOp ρ ⟨dst, .makeMap t none, ty, pos, af, g⟩).run P w = .ok (.value (.map (some w.heap.size))) (w.alloc (.map #[] 0)) := by
    simp [execOp, Instr.makeMap]
  rw [hr]
  exact hK _ _ _ _ (Step.alloc hw _) ⟨_, rfl, rfl, rfl⟩
theorem run_lookup [tm : Ty P t (.map k e)] [kt : KeyT P k mk] [Lay P e agg sz bytes zero] {l : List (α × Value)} {m : Nat} {oM : Obj} {w : World} (hb : w.heap[m]? = some oM) (hM : MapB mk l oM) (a : α) (ok : Bool) :
    (Instr.lookup t (.map (some m)) (mk a) ok).run P w = .ok (if ok then .tuple #[(mget l a).getD zero, .bool (mget l a).isSome] else (mget l a).getD zero) w := by
  obtain ⟨L, c, rfl, rfl, hok⟩ := hM
  obtain ⟨d, hK⟩ := kt.h
  have ht : P.underlying t = some (.map k e) := Ty.h
  rcases key_cases L a hok.keys with h | ⟨L1, v, b, L2, rfl, h1, h2⟩
  · have hf := run_findKey hK w (findNow_no (mk := mk) (i := 0) hK.same h)
    rw [mget_no (by rw [kv_keys]; exact h)]
    simp [Instr.lookup, run_underlying ht, MapKept.run_getObj_map hb, hK.check, hf, run_zeroOf (P := P) (t := e) (agg := agg) (size := sz) (bytes := bytes) (zero := zero), Result.andThen]
  · have hf := run_findKey hK w (findNow_at (mk := mk) (v := v) (b := b) (L2 := L2) (i := 0) hK.same h1)
    rw [List.map_append, List.map_cons, show kv (a, v, b) = (a, v) from rfl, mget_at (by rw [kv_keys]; exact h1)]
    simp only [List.map_append, List.map_cons] at hf hb
    simp [Instr.lookup, run_underlying ht, MapKept.run_getObj_map hb, hK.check, hf, Result.andThen]
theorem r_lookup {x i : Operand} {m : Nat} {oM : Obj} {l : List (α × Value)} (a : α) [tm : Ty P t (.map k e)] [kt : KeyT P k mk] [Lay P e agg sz bytes zero] (hx : Env.ev σ x = some (.map (some m))) (hi : Env.ev σ i = some (mk a)) (hb : (m, oM) ∈ μ) (hM : MapB mk l oM) :
    ReadOp P (.lookup t x i false) ty σ G μ ((mget l a).getD zero) := by
  intro dst pos af g ρ hρ w hw
  have := run_lookup (P := P) (t := t) (k := k) (e := e) (agg := agg) (sz := sz) (bytes := bytes) (zero := zero) (hw.own _ _ hb) hM a false
  simp [execOp, hρ _ _ hx, hρ _ _ hi, this]
theorem r_lookupOk {x i : Operand} {m : Nat} {oM : Obj} {l : List (α × Value)} (a : α) [tm : Ty P t (.map k e)] [kt : KeyT P k mk] [Lay P e agg sz bytes zero] (hx : Env.ev σ x = some (.map (some m))) (hi : Env.ev σ i = some (mk a)) (hb : (m, oM) ∈ μ) (hM : MapB mk l oM) :
    ReadOp P (.lookup t x i true) ty σ G μ (.tuple #[(mget l a).getD zero, .bool (mget l a).isSome]) := by
  intro dst pos af g ρ hρ w hw
  have := run_lookup (P := P) (t := t) (k := k) (e := e) (agg := agg) (sz := sz) (bytes := bytes) (zero := zero) (hw.own _ _ hb) hM a true
  simp [execOp, hρ _ _ hx, hρ _ _ hi, this]
theorem MOk.parts {L1 L2 : List (α × Value × Nat)} {a : α} {v : Value} {b c : Nat} (h : MOk (L1 ++ (a, v, b) :: L2) c) (u : Value) : MOk (L1 ++ (a, u, b) :: L2) c := by
  obtain ⟨h1, h2, h3⟩ := h
  refine ⟨by simpa using h1, ?_, fun x hx => ?_⟩
  · rw [List.pairwise_append, List.pairwise_cons] at h2 ⊢
    refine ⟨h2.1, ⟨h2.2.1.1, h2.2.1.2⟩, fun x hx y hy => ?_⟩
    rcases List.mem_cons.1 hy with rfl | hy
    · exact h2.2.2 x hx (a, v, b) List.mem_cons_self
    · exact h2.2.2 x hx y (List.mem_cons_of_mem _ hy)
  · rcases List.mem_append.1 hx with hx | hx
    · exact h3 x (List.mem_append_left _ hx)
    · rcases List.mem_cons.1 hx with rfl | hx
      · exact h3 (a, v, b) (List.mem_append_right _ List.mem_cons_self)
      · exact h3 x (List.mem_append_right _ (List.mem_cons_of_mem _ hx))
theorem modify_at (f : MapEntry → MapEntry) (es1 : List MapEntry) (x : MapEntry) (es2 : List MapEntry) : (es1 ++ x :: es2).toArray.modify es1.length f = (es1 ++ f x :: es2).toArray := by
  apply Array.ext'
  rw [Array.toList_modify]
  simp only
  induction es1 with
  | nil => rfl
  | cons y es1 ih => simpa using ih
def KeepIt (mk : α → Value) (l : List (α × Value)) (a : α) (v : Value) (oM oM' : Obj) : Prop := ∀ m left oI, a ∈ l.map (·.1) → IterB mk m l left oM oI → IterB mk m (mput l a v) left oM' oI
theorem mEnt_inj {mk : α → Value} (hmk : ∀ a b, mk a = mk b → a = b) {L L' : List (α × Value × Nat)} (h : L.map (mEnt mk) = L'.map (mEnt mk)) : L = L' := by
  induction L generalizing L' with
  | nil => cases L' with
    | nil => rfl
    | cons x L' => simp at h
  | cons x L ih => cases L' with
    | nil => simp at h
    | cons y L' =>
      simp only [List.map_cons, List.cons.injEq] at h
      obtain ⟨h1, h2⟩ := h
      rw [ih h2]
      obtain ⟨a, v, b⟩ := x
      obtain ⟨a', v', b'⟩ := y
      simp only [mEnt, MapEntry.mk.injEq] at h1
      rw [hmk _ _ h1.1, h1.2.1, h1.2.2]
theorem KeyT.inj (kt : KeyT P k mk) (a b : α) (h : mk a = mk b) : a = b := by
  obtain ⟨d, hK⟩ := kt.h
  have h1 := hK.same a b
  have h2 := hK.same b b
  rw [h] at h1
  rw [h1] at h2
  simpa using h2
theorem m_mapUpdate {x i y : Operand} {m : Nat} {oM : Obj} {l : List (α × Value)} {v : Value} (a : α) [tm : Ty P t (.map k e)] [kt : KeyT P k mk] (hx : Env.ev σ x = some (.map (some m))) (hi : Env.ev σ i = some (mk a)) (hy : Env.ev σ y = some v) (hp : μ.Perm ((m, oM) :: r)) (hM : MapB mk l oM) :
    MoveOp P (.mapUpdate t x i y) ty σ G μ (fun _ G' μ' => ∃ oM', MapB mk (mput l a v) oM' ∧ KeepIt mk l a v oM oM' ∧ G' = G ∧ μ' = (m, oM') :: r) := by
  intro dst pos af g ρ hρ w hw A K Q hK
  have hb := hw.own m oM (hp.mem_iff.2 List.mem_cons_self)
  have hmk := kt.inj
  obtain ⟨L, c, rfl, rfl, hok⟩ := hM
  obtain ⟨d, hKd⟩ := kt.h
  have ht : P.underlying t = some (.map k e) := Ty.h
  rcases key_cases L a hok.keys with h | ⟨L1, u, b, L2, rfl, h1, h2⟩
  · have hf := run_findKey hKd w (findNow_no (mk := mk) (i := 0) hKd.same h)
    have hr : (execOp ρ ⟨dst, .mapUpdate t x i y, ty, pos, af, g⟩).run P w = .ok .skip (setBlock w m (.map ((L ++ [(a, v, c)]).map (mEnt mk)).toArray (c + 1))) := by
      simp [execOp, hρ _ _ hx, hρ _ _ hi, hρ _ _ hy, Instr.mapUpdate, run_underlying ht, MapKept.run_getObj_map hb, hKd.check, hf, MapKept.run_setObj_map _ hb, Result.andThen, setBlock, mEnt]
    rw [hr]
    refine hK _ _ _ _ (Step.setBlockP hw hp) ⟨_, ⟨L ++ [(a, v, c)], c + 1, rfl, ?_, ?_⟩, ?_, rfl, rfl⟩
    · rw [mput_no (by rw [kv_keys]; exact h)]
      simp [kv]
    · refine ⟨?_, ?_, fun y hy => ?_⟩
      · rw [List.map_append, List.nodup_append]
        refine ⟨hok.keys, by simp, fun z hz z' hz' e => ?_⟩
        simp only [List.map_cons, List.map_nil, List.mem_singleton] at hz'
        subst hz' e
        exact h hz
      · rw [List.pairwise_append]
        refine ⟨hok.rise, by simp, fun z hz z' hz' => ?_⟩
        rw [List.mem_singleton] at hz'
        subst hz'
        exact hok.below z hz
      · rcases List.mem_append.1 hy with hy | hy
        · have := hok.below y hy; omega
        · rw [List.mem_singleton] at hy
          subst hy
          exact Nat.lt_succ_self _
    · intro m left oI ha
      rw [kv_keys] at ha
      exact absurd ha h
  · have hf := run_findKey hKd w (findNow_at (mk := mk) (v := u) (b := b) (L2 := L2) (i := 0) hKd.same h1)
    have hlen : (L1.map (mEnt mk)).length = L1.length := by simp
    have hmod := modify_at (fun e => { e with key := mk a, val := v }) (L1.map (mEnt mk)) (mEnt mk (a, u, b)) (L2.map (mEnt mk))
    rw [hlen] at hmod
    have hr : (execOp ρ ⟨dst, .mapUpdate t x i y, ty, pos, af, g⟩).run P w = .ok .skip (setBlock w m (.map ((L1 ++ (a, v, b) :: L2).map (mEnt mk)).toArray c)) := by
      simp only [List.map_append, List.map_cons] at hf hb ⊢
      have hget : ((L1.map (mEnt mk) ++ mEnt mk (a, u, b) :: L2.map (mEnt mk)).toArray)[L1.length]? = some (mEnt mk (a, u, b)) := by
        rw [List.getElem?_toArray, List.getElem?_append_right (by simp)]
        simp
      have hks : ∀ w, (Instr.keyThatStays (mk a) (mk a)).run P w = .ok (mk a) w := fun w => by simp [Instr.keyThatStays, hKd.bits]
      simp only [execOp, hρ _ _ hx, hρ _ _ hi, hρ _ _ hy, Instr.mapUpdate, Sem.run_bind, run_underlying ht, Result.andThen_ok, MapKept.run_getObj_map hb, hKd.check, hf, Nat.zero_add, hget, Option.map_some, Option.getD_some]
      simp only [mEnt] at hks hmod ⊢
      simp only [hks, Result.andThen_ok]
      rw [hmod, MapKept.run_setObj_map _ hb]
      rfl
    rw [hr]
    refine hK _ _ _ _ (Step.setBlockP hw hp) ⟨_, ⟨L1 ++ (a, v, b) :: L2, c, rfl, ?_, hok.parts v⟩, ?_, rfl, rfl⟩
    · rw [List.map_append, List.map_append, List.map_cons, List.map_cons, show kv (a, u, b) = (a, u) from rfl, mput_at (by rw [kv_keys]; exact h1) (by rw [kv_keys]; exact h2)]
      rfl
    · rintro m' left oI - ⟨L', c', since, seen, stepped, e1, e2, e3, e4, e5, e6, e7, e8⟩
      injection e1 with e1 e1'
      obtain rfl : L1 ++ (a, u, b) :: L2 = L' := mEnt_inj hmk (by simpa using e1)
      subst e1'
      refine ⟨L1 ++ (a, v, b) :: L2, c, since, seen, stepped, rfl, ?_, hok.parts v, fun z hz => ?_, e5, e6, e7, ?_⟩
      · rw [List.map_append, List.map_append, List.map_cons, List.map_cons, show kv (a, u, b) = (a, u) from rfl, mput_at (by rw [kv_keys]; exact h1) (by rw [kv_keys]; exact h2)]
        rfl
      · rcases List.mem_append.1 hz with hz | hz
        · exact e4 z (List.mem_append_left _ hz)
        · rcases List.mem_cons.1 hz with rfl | hz
          · exact e4 (a, u, b) (List.mem_append_right _ List.mem_cons_self)
          · exact e4 z (List.mem_append_right _ (List.mem_cons_of_mem _ hz))
      · rw [e8, List.filter_append, List.filter_append, List.filter_cons, List.filter_cons]
        simp only
        split <;> simp
theorem m_rangeM {x : Operand} {m : Nat} {oM : Obj} {l : List (α × Value)} [tm : Ty P t (.map k e)] (hx : Env.ev σ x = some (.map (some m))) (hb : (m, oM) ∈ μ) (hM : MapB mk l oM) :
    MoveOp P (.range t x) ty σ G μ (fun v G' μ' => ∃ b oI, IterB mk m l (l.map (·.1)) oM oI ∧ v = .pointer (some ⟨b, 0, none⟩) ∧ G' = G ∧ μ' = (b, oI) :: μ) := by
  intro dst pos af g ρ hρ w hw A K Q hK
  obtain ⟨L, c, rfl, rfl, hok⟩ := hM
  have hb' := hw.own _ _ hb
  have ht : P.underlying t = some (.map k e) := Ty.h
  have hr : (execOp ρ ⟨dst, .range t x, ty, pos, af, g⟩).run P w = .ok (.value (.pointer (some ⟨w.heap.size, 0, none⟩))) (w.alloc (.mapIter (some m) c #[] c)) := by
    simp [execOp, hρ _ _ hx, Instr.range, run_underlying ht, MapKept.run_getObj_map hb', Result.andThen]
  rw [hr]
  refine hK _ _ _ _ (Step.alloc hw _) ⟨_, _, ⟨L, c, c, #[], c, rfl, rfl, hok, hok.below, Nat.le_refl _, Nat.le_refl _, rfl, ?_⟩, rfl, rfl, rfl⟩
  rw [List.filter_eq_self.2 (by simp), kv_keys]
def EntB (mk : α → Value) (m : Nat) (a : α) (u : Value) (oM oI : Obj) : Prop := ∃ (L : List (α × Value × Nat)) (clock since : Nat) (seen : Array Nat) (b : Nat), oM = .map (L.map (mEnt mk)).toArray clock ∧ MOk L clock ∧ oI = .mapIter (some m) since (seen.push b) clock ∧ (a, u, b) ∈ L
theorem r_entry {x : Operand} {m it : Nat} {oM oI : Obj} {a : α} {u : Value} (hx : Env.ev σ x = some (.pointer (some ⟨it, 0, none⟩))) (hi : (it, oI) ∈ μ) (hb : (m, oM) ∈ μ) (hE : EntB mk m a u oM oI) : ReadOp P (.entry x) ty σ G μ (.tuple #[mk a, u]) := by
  intro dst pos af g ρ hρ w hw
  have hbI := hw.own _ _ hi
  have hbM := hw.own _ _ hb
  obtain ⟨L, c, since, seen, b, rfl, hok, rfl, hm⟩ := hE
  have hn : ((L.map (mEnt mk)).toArray.toList.map (·.born)).Nodup := by
    show ((L.map (mEnt mk)).map (·.born)).Nodup
    rw [List.map_map, List.Nodup, List.pairwise_map]
    exact hok.rise.imp fun h => Nat.ne_of_lt h
  have := run_entry_at (P := P) w it m since seen _ c (mEnt mk (a, u, b)) hbI hbM (show mEnt mk (a, u, b) ∈ L.map (mEnt mk) from List.mem_map.2 ⟨_, hm, rfl⟩) hn
  simp [execOp, hρ _ _ hx, this, mEnt]
theorem m_nextM {x : Operand} {m it : Nat} {oM oI : Obj} {l : List (α × Value)} {left : List α} [kt : KeyT P k mk] (hx : Env.ev σ x = some (.pointer (some ⟨it, 0, none⟩))) (hp : μ.Perm ((it, oI) :: r)) (hb : (m, oM) ∈ μ) (hI : IterB mk m l left oM oI) :
    MoveOp P (.next x false) ty σ G μ (fun v G' μ' => G' = G ∧ ((left = [] ∧ v = .tuple #[.bool false] ∧ μ' = (it, oI) :: r) ∨ ∃ a u oI', a ∈ left ∧ (a, u) ∈ l ∧ IterB mk m l (left.filter fun z => decide (z ≠ a)) oM oI' ∧ EntB mk m a u oM oI' ∧ v = .tuple #[.bool true, mk a, u] ∧ μ' = (it, oI') :: r)) := by
  intro dst pos af g ρ hρ w hw A K Q hK
  have hbI := hw.own it oI (hp.mem_iff.2 List.mem_cons_self)
  have hbM := hw.own _ _ hb
  obtain ⟨L, c, since, seen, stepped, rfl, rfl, hok, e4, e5, e6, rfl, rfl⟩ := hI
  have hold : ∀ y ∈ ((L.map (mEnt mk)).toArray).toList, y.born < since := fun y hy => by
    obtain ⟨z, hz, rfl⟩ := List.mem_map.1 (show y ∈ L.map (mEnt mk) from hy)
    exact e4 z hz
  have hleft : (leftOf (L.map (mEnt mk)).toArray seen).toList = (L.filter fun x => !seen.contains x.2.2).map (mEnt mk) := by
    unfold leftOf
    rw [Array.toList_filter, List.filter_map]
    rfl
  rcases run_next_at (P := P) w ty it m since stepped seen _ c hbI hbM hold e5 with ⟨h0, hr⟩ | ⟨e0, he, w1, hw1, hr⟩
  · have hr' : (execOp ρ ⟨dst, .next x false, ty, pos, af, g⟩).run P w = .ok (.value (.tuple #[.bool false])) w := by
      simp [execOp, hρ _ _ hx, hr]
    rw [hr']
    refine hK _ _ _ _ (((Step.refl (hw.perm hp)).permL hp.symm)) ⟨rfl, .inl ⟨?_, rfl, rfl⟩⟩
    have : (leftOf (L.map (mEnt mk)).toArray seen).toList = [] := by
      rw [← Array.length_toList, List.length_eq_zero_iff] at h0
      exact h0
    rw [hleft, List.map_eq_nil_iff] at this
    rw [this]
    rfl
  · rw [hleft] at he
    obtain ⟨⟨a, u, b⟩, hz, rfl⟩ := List.mem_map.1 he
    have hr' : (execOp ρ ⟨dst, .next x false, ty, pos, af, g⟩).run P w = .ok (.value (.tuple #[.bool true, mk a, u])) (setBlock w1 it (.mapIter (some m) since (seen.push b) c)) := by
      simp [execOp, hρ _ _ hx, hr, mEnt]
    rw [hr']
    have hzL := (List.mem_filter.1 hz).1
    have hst : Step G μ w G ((it, .mapIter (some m) since (seen.push b) c) :: r) (setBlock w1 it (.mapIter (some m) since (seen.push b) c)) := by
      rcases hw1 with rfl | rfl
      · exact Step.setBlockP hw hp
      · exact (Step.drew hw 1).trans (Step.setBlockP (Step.drew hw 1).mem hp)
    refine hK _ _ _ _ hst ⟨rfl, .inr ⟨a, u, _, List.mem_map.2 ⟨_, hz, rfl⟩, List.mem_map.2 ⟨_, hzL, rfl⟩, ⟨L, c, since, seen.push b, c, rfl, rfl, hok, e4, Nat.le_trans e6 (Nat.le_refl _), e6, rfl, ?_⟩, ⟨L, c, since, seen, b, rfl, hok, rfl, hzL⟩, rfl, rfl⟩⟩
    -- the keys and the stamps go together
    have key : ∀ y ∈ L, y.2.2 = b ↔ y.1 = a := fun y hy => by
      constructor
      · intro h
        by_cases hya : y = (a, u, b)
        · rw [hya]
        · let R : α × Value × Nat → α × Value × Nat → Prop := fun x y => x ≠ y → x.2.2 ≠ y.2.2
          have p1 : L.Pairwise R := hok.rise.imp fun {x y} h (_ : x ≠ y) => Nat.ne_of_lt h
          have p2 : L.Pairwise (flip R) := hok.rise.imp fun {x y} h (_ : y ≠ x) => (Nat.ne_of_lt h).symm
          exact absurd h (List.Pairwise.forall_of_forall_of_flip (R := R) (fun x _ h => absurd rfl h) p1 p2 hy hzL hya)
      · rintro h
        by_cases hya : y = (a, u, b)
        · rw [hya]
        · have hk := hok.keys
          rw [List.Nodup, List.pairwise_map] at hk
          let R : α × Value × Nat → α × Value × Nat → Prop := fun x y => x ≠ y → x.1 ≠ y.1
          have p1 : L.Pairwise R := hk.imp fun {x y} h (_ : x ≠ y) => h
          have p2 : L.Pairwise (flip R) := hk.imp fun {x y} h (_ : y ≠ x) => Ne.symm h
          exact absurd h (List.Pairwise.forall_of_forall_of_flip (R := R) (fun x _ h => absurd rfl h) p1 p2 hy hzL hya)
    rw [List.filter_map, List.filter_filter]
    congr 1
    apply List.filter_congr
    intro y hy
    have := key y hy
    simp only [Function.comp, Array.contains_push, Bool.not_or]
    by_cases hya : y.1 = a
    · have hb' := this.2 hya
      simp [hya, hb']
    · have hb' : ¬ y.2.2 = b := fun h => hya (this.1 h)
      simp [hya, hb']
end
section
variable {α : Type} [DecidableEq α] {mk : α → Value} {P : Program} {fn : Func} {n : Nat} {B : Base} {Φ : Value → GH → OH → Prop} {kk : List It} {σ : Env} {G : GH} {μ r : OH} {all : Array Oper} {rest : List Oper} {d : Nat} {ty : TypeId} {pos : String} {af : Array Edge} {t k e : TypeId} {bytes sz : Nat} {agg : Bool} {zero : Value}
theorem v_makeMap (hd : Nat.blt d n = true) (h : ∀ b, Vc P fn n B Φ (.ops all rest :: kk) ((d, .map (some b)) :: σ) G ((b, .map #[] 0) :: μ)) : Vc P fn n B Φ (.ops all (⟨some d, .makeMap t none, ty, pos, af, none⟩ :: rest) :: kk) σ G μ :=
  v_move m_makeMap hd fun _ _ _ ⟨b, h1, h2, h3⟩ => by rw [h1, h2, h3]; exact h b
theorem v_rangeM {x : Operand} {m : Nat} {oM : Obj} {l : List (α × Value)} [tm : Ty P t (.map k e)] (hx : Env.ev σ x = some (.map (some m))) (hb : (m, oM) ∈ μ) (hM : MapB mk l oM) (hd : Nat.blt d n = true)
    (h : ∀ b oI, IterB mk m l (l.map (·.1)) oM oI → Vc P fn n B Φ (.ops all rest :: kk) ((d, .pointer (some ⟨b, 0, none⟩)) :: σ) G ((b, oI) :: μ)) : Vc P fn n B Φ (.ops all (⟨some d, .range t x, ty, pos, af, none⟩ :: rest) :: kk) σ G μ :=
  v_move (m_rangeM hx hb hM) hd fun _ _ _ ⟨b, oI, h1, h2, h3, h4⟩ => by rw [h2, h3, h4]; exact h b oI h1
theorem v_nextM {x : Operand} {m it : Nat} {oM oI : Obj} {l : List (α × Value)} {left : List α} [kt : KeyT P k mk] (hx : Env.ev σ x = some (.pointer (some ⟨it, 0, none⟩))) (hp : μ.Perm ((it, oI) :: r)) (hb : (m, oM) ∈ μ) (hI : IterB mk m l left oM oI) (hd : Nat.blt d n = true)
    (h0 : left = [] → Vc P fn n B Φ (.ops all rest :: kk) ((d, .tuple #[.bool false]) :: σ) G ((it, oI) :: r))
    (h1 : ∀ a u oI', a ∈ left → (a, u) ∈ l → IterB mk m l (left.filter fun z => decide (z ≠ a)) oM oI' → EntB mk m a u oM oI' → Vc P fn n B Φ (.ops all rest :: kk) ((d, .tuple #[.bool true, mk a, u]) :: σ) G ((it, oI') :: r)) :
    Vc P fn n B Φ (.ops all (⟨some d, .next x false, ty, pos, af, none⟩ :: rest) :: kk) σ G μ :=
  v_move (m_nextM (k := k) hx hp hb hI) hd fun _ _ _ ⟨hG, hh⟩ => by
    subst hG
    rcases hh with ⟨e1, e2, e3⟩ | ⟨a, u, oI', e1, e2, e3, e3b, e4, e5⟩
    · rw [e2, e3]; exact h0 e1
    · rw [e4, e5]; exact h1 a u oI' e1 e2 e3 e3b
end
end Go.Vx
/-
  VX: make of a slice; copy of nothing; clear of a row's end; results that lie in memory, of several shapes.
-/
set_option linter.unusedVariables false
set_option linter.unusedSimpArgs false
set_option linter.unusedSectionVars false
namespace Go.Vx
open Go
section
attribute [local semireducible] MoveOp ReadOp PureOp
variable {P : Program} {fn : Func} {n : Nat} {B : Base} {Φ : Value → GH → OH → Prop} {k : List It} {rest : List Oper} {all : Array Oper} {σ : Env} {G : GH} {μ : OH} {d : Nat} {t ty : TypeId} {pos : String} {af : Array Edge} {bytes : Nat} {zero : Value}
end
section
variable {P : Program} {fn : Func} {n : Nat} {σ : Env} {G : GH} {μ : OH}
end
end Go.Vx
/-
  prop (layer 33): New, Take.
-/
set_option linter.unusedSimpArgs false
set_option linter.unusedVariables false
namespace Go.Proofs.YtmdeeokejdkceaaDoor
open Go.Vx Go.ChangeShapes Go.WideShapes Go.ChangeAt Go.RowKit
abbrev qO (r n a : Int) (m : Nat) : Obj := .cells [.int .i64 r, .int .i64 n, .int .i64 a, .map (some m)].toArray 93 (0, 0)
def GotR (G : GH) (got : List Ms) (ml : List (Int × Value)) : Prop := ml.length = got.length ∧ ∀ i (h : i < got.length) (h' : i < ml.length), ml[i].1 = got[i].src ∧ ∃ cs, ml[i].2 = .agg cs.toArray ∧ MsR G got[i] cs
theorem GotR.le {G G' : GH} (hle : GH.le G G') {got : List Ms} {ml : List (Int × Value)} (h : GotR G got ml) : GotR G' got ml :=
  ⟨h.1, fun i h1 h2 => let ⟨a, cs, b, c⟩ := h.2 i h1 h2; ⟨a, cs, b, c.le hle⟩⟩
theorem GotR.nil {G : GH} : GotR G [] [] := ⟨rfl, fun i h => by simp at h⟩
theorem GotR.keys {G : GH} {got : List Ms} {ml : List (Int × Value)} (h : GotR G got ml) : ml.map (·.1) = got.map (·.src) := by
  apply List.ext_getElem
  · simp [h.1]
  · intro i h1 h2
    simp only [List.getElem_map]
    exact (h.2 i (by simpa using h2) (by simpa using h1)).1
theorem GotR.snoc {G : GH} {got : List Ms} {ml : List (Int × Value)} {m : Ms} {cs : List Value} (h : GotR G got ml) (hm : MsR G m cs) : GotR G (got ++ [m]) (ml ++ [(m.src, .agg cs.toArray)]) := by
  refine ⟨by simp [h.1], fun i h1 h2 => ?_⟩
  have hl := h.1
  by_cases hi : i < got.length
  · rw [List.getElem_append_left hi, List.getElem_append_left (by omega)]
    exact h.2 i hi (by omega)
  · have e : i = got.length := by simp at h1; omega
    subst e
    rw [List.getElem_append_right (Nat.le_refl _), List.getElem_append_right (by omega)]
    have e0 : got.length - ml.length = 0 := by omega
    simp only [Nat.sub_self, e0, List.getElem_cons_zero]
    exact ⟨trivial, cs, rfl, hm⟩
theorem qnew_s {G : GH} (r n a : Int) : Con Tryd.prog 17 #[.agg #[.int .i64 r, .int .i64 n], .int .i64 a] G [] (fun v G' μ' => G' = G ∧ ((¬ QMay r n a ∧ v = .pointer none ∧ μ' = []) ∨ (QMay r n a ∧ ∃ q m, v = .pointer (some ⟨q, 0, none⟩) ∧ μ' = [(q, qO r n a m), (m, .map #[] 0)]))) := by
  have q := may_s G r n
  have hst : QMay r n a ↔ mayP r n ∧ 0 < r ∧ 1 ≤ a ∧ a ≤ 4294967296 := Iff.rfl
  rw [hst]
  clear hst
  (refine v_enter Tryd.func17 rfl Tryd.ntmps17 rfl ?_; intro B _)
  repeat' (first | (apply v_box (d := 2) (zs := [.int .i64 r, .int .i64 n]); (case hx => rfl); (case hz => rfl); (case hd => rfl); intro b2) | (apply v_read; (case hop => (apply r_loadNo; (case hx => rfl); (case h => repeat (exact mhd _)); (case hd => rfl); (case hn => rfl))); (case hd => rfl)) | apply v_seq | apply v_region | apply v_nil | apply v_skip | (apply v_take; (case hg => rfl)) | (apply v_pass; (case hg => rfl); (case hn => rfl); (case hd => rfl)) | (apply v_pure; (case hop => first | (apply p_move <;> rfl) | (apply p_lt <;> rfl) | (apply p_gt <;> rfl) | (apply p_assign <;> rfl) | (apply p_pickT <;> rfl) | (apply p_pickF <;> rfl) | (apply p_not <;> rfl) | (apply p_build; (case hz => rfl); (case hv => (simp only [List.map_cons, List.map_nil]; repeat (first | with_reducible exact evs_nil | (apply evs_cons; (case h1 => rfl))))); (case hb => (apply bldL; repeat (first | exact bld_nil | (apply bld_cons; (case hpf => rfl); (case hc => rfl); (case hs => rfl); (case hl => rfl); (case ho => (first | ((repeat (first | with_reducible exact ov_nil | apply ov_cons)); done) | rfl))))))) | fail); (case hd => rfl)) | (apply v_condT; (case hc => rfl)) | (apply v_cond; (case hc => rfl); all_goals (intro h; (try simp only [reduceCtorEq, zzz] at h))) | (apply v_guardB; (case h1 => rfl); (case h2 => rfl); all_goals (intro h; (try simp only [reduceCtorEq, zzz] at h))) | (apply v_callJ (hs := q); (case ha => rfl); (case hd => rfl)) | (apply v_pure; (case hop => (apply eqBal; (case hx => rfl); (case hy => rfl))); (case hd => rfl)) | (apply v_makeMap; (case hd => rfl); intro mb) | (apply v_box (d := 25) (zs := [.int .i64 r, .int .i64 n, .int .i64 a, .map (some mb)]); (case hx => rfl); (case hz => rfl); (case hd => rfl); intro b25) | fail)
  all_goals first
    | (refine v_ret [] (outsA1 rfl rfl) (by repeat (exact List.nil_sublist _)) ?_
       refine ⟨rfl, .inl ⟨?_, rfl, rfl⟩⟩
       unfold mayP at *
       omega)
    | skip
  refine v_ret [(b25, _), (mb, _)] (outsA1 rfl rfl) (by repeat (first | exact List.nil_sublist _ | apply List.Sublist.cons_cons)) ⟨rfl, .inr ⟨?_, b25, mb, rfl, rfl⟩⟩
  unfold mayP at *
  omega
theorem mget_key {l : List (Int × Value)} {k : Int} (h : k ∈ l.map (·.1)) : ∃ v, mget l k = some v ∧ (k, v) ∈ l := by
  obtain ⟨⟨k', v⟩, hx, hk⟩ := List.mem_map.1 h
  simp only at hk
  subst hk
  unfold mget
  cases hf : l.find? (fun x => decide (x.1 = k')) with
  | none =>
    have := List.find?_eq_none.1 hf _ hx
    simp at this
  | some y =>
    have h1 := List.find?_some hf
    have h2 := List.mem_of_find?_eq_some hf
    simp only [decide_eq_true_eq] at h1
    exact ⟨y.2, rfl, by rw [← h1]; exact h2⟩
instance keyT_intQ : KeyT Tryd.prog 3 keyI := KeyT.int
abbrev zMs : Value := .agg #[.int .i64 0, .int .i64 0, .int .i64 0, .int .i64 0, .int .i64 0, .int .i64 0, .int .i64 0, .int .i64 0, .slice none 0 0, .slice none 0 0]
theorem r_gotOk {σ : Env} {G : GH} {μ : OH} {ty : TypeId} {x i : Operand} {mp : Nat} {oM : Obj} {ml : List (Int × Value)} (a : Int) (v : Value) (b : Bool) (hv : (mget ml a).getD zMs = v) (hb' : (mget ml a).isSome = b) (hb : (mp, oM) ∈ μ) (hM : MapB keyI ml oM) (hx : Env.ev σ x = some (.map (some mp))) (hi : Env.ev σ i = some (keyI a)) : ReadOp Tryd.prog (.lookup 91 x i true) ty σ G μ (.tuple #[v, .bool b]) := by
  have := r_lookupOk (P := Tryd.prog) (ty := ty) (G := G) (t := 91) (k := 3) (e := 54) (mk := keyI) a hx hi hb hM
  rw [hb'] at this
  subst hv
  exact this
theorem r_got {σ : Env} {G : GH} {μ : OH} {ty : TypeId} {x i : Operand} {mp : Nat} {oM : Obj} {ml : List (Int × Value)} (a : Int) (v : Value) (hv : (mget ml a).getD zMs = v) (hb : (mp, oM) ∈ μ) (hM : MapB keyI ml oM) (hx : Env.ev σ x = some (.map (some mp))) (hi : Env.ev σ i = some (keyI a)) : ReadOp Tryd.prog (.lookup 91 x i false) ty σ G μ v := by
  have := r_lookup (P := Tryd.prog) (ty := ty) (G := G) (t := 91) (k := 3) (e := 54) (mk := keyI) a hx hi hb hM
  subst hv
  exact this
theorem GotR.val {G : GH} {got : List Ms} {ml : List (Int × Value)} (h : GotR G got ml) {k : Int} {v : Value} (hv : (k, v) ∈ ml) : ∃ x ∈ got, x.src = k ∧ ∃ EA ec IA ic, v = .agg (x.cells (.slice EA x.ents.length ec) (.slice IA x.img.length ic)).toArray ∧ Es G (.slice EA x.ents.length ec) x.ents := by
  obtain ⟨i, hi, e⟩ := List.getElem_of_mem hv
  have hl := h.1
  obtain ⟨h1, cs, h2, EA, ec, IA, ic, rfl, h3, -⟩ := h.2 i (by omega) hi
  rw [e] at h1 h2
  exact ⟨_, List.getElem_mem _, h1.symm, EA, ec, IA, ic, h2, h3⟩
theorem qtake_s {G : GH} (hT : TabsG G) {r n a : Int} {q mp : Nat} {oM : Obj} {got : List Ms} {ml : List (Int × Value)} (m : Ms) {cs : List Value} (hm : MsR G m cs) (hM : MapB keyI ml oM) (hg : GotR G got ml) (hz : m.ents.length ≤ 200) :
    Con Tryd.prog 18 #[.pointer (some ⟨q, 0, none⟩), .agg cs.toArray] G [(q, qO r n a mp), (mp, oM)]
      (fun v G' μ' => GH.le G G' ∧ v = .bool (decide (TakeP r n a got m)) ∧ ∃ ml' oM', MapB keyI ml' oM' ∧ GotR G' (if TakeP r n a got m then got ++ [m] else got) ml' ∧ μ' = [(q, qO r n a mp), (mp, oM')]) := by
  have q1 := mcheck_s hT m hm
  have hm0 := id hm
  obtain ⟨EA, ec, IA, ic, rfl, he, hi⟩ := hm
  have qc := entClone_s he hz
  obtain ⟨-, -, -, -, -, -, -, -, -, hok⟩ := esOpen he
  have hkeys := hg.keys
  have hst : TakeP r n a got m ↔ (m.kind = 4 ∧ PromP m) ∧ (m.round = r ∧ m.node = n) ∧ m.index = a ∧ ∀ x ∈ got, x.src ≠ m.src := Iff.rfl
  have hno : ¬ TakeP r n a got m → ∃ ml' oM', MapB keyI ml' oM' ∧ GotR G (if TakeP r n a got m then got ++ [m] else got) ml' ∧ [(q, qO r n a mp), (mp, oM)] = [(q, qO r n a mp), (mp, oM')] := fun h => ⟨ml, oM, hM, by rw [if_neg h]; exact hg, rfl⟩
  have hyes : ∀ G' EA' ec', GH.le G G' → Es G' (.slice EA' m.ents.length ec') m.ents → m.src ∉ ml.map (·.1) → GotR G' (got ++ [m]) (mput ml m.src (.agg (m.cells (.slice EA' m.ents.length ec') (.slice IA m.img.length ic)).toArray)) := fun G' EA' ec' hle h1 h2 => by
    rw [mput_no h2]
    exact (hg.le hle).snoc ⟨EA', ec', IA, ic, rfl, h1, hi.mono hle⟩
  have hmem : m.src ∈ ml.map (·.1) ↔ ∃ x ∈ got, x.src = m.src := by rw [hkeys, List.mem_map]
  have hval := fun k v (h : (k, v) ∈ ml) => hg.val h
  clear hi he hg hkeys hm0
  unfold PrE at q1
  obtain ⟨kind, src, dst, round, node, index, commit, version, ents, img⟩ := m
  simp only at *
  (refine v_enter Tryd.func18 rfl Tryd.ntmps18 rfl ?_; intro B _)
  repeat' (first | (apply v_box (d := 3) (zs := msL kind src dst round node index commit version (.slice EA ents.length ec) (.slice IA img.length ic)); (case hx => rfl); (case hz => rfl); (case hd => rfl); intro b3) | apply v_seq | apply v_region | apply v_nil | (apply v_pure; (case hop => (apply p_assign <;> rfl)); (case hd => rfl)) | fail)
  refine d_start _ (by kernel_rfl) (by kernel_rfl) (by kernel_rfl) (fun _ he => he) ?_
  all_goals (apply dtk 0; (case hi => rfl); (case hop => (apply prd; apply p_move <;> rfl)); (case hq => kernel_rfl))
  all_goals (apply dtk 1; (case hi => rfl); (case hop => (apply prd; apply p_eqNil <;> rfl)); (case hq => kernel_rfl))
  all_goals (apply dtk 2; (case hi => rfl); (case hop => (apply prd; apply p_move <;> rfl)); (case hq => kernel_rfl))
  all_goals (try (apply d_guardB 3; (case hi => rfl); (case hgd => rfl); (case h1 => rfl); (case h2 => rfl); all_goals (intro h; (try simp only [reduceCtorEq, zzz] at h))))
  all_goals (apply dtg 3; (case hi => rfl); (case hg => rfl); (case hop => first | (apply r_loadNo; (case hx => rfl); (case h => (repeat (exact mhd _))); (case hd => (repeat (first | with_reducible exact dt_nil | apply dt_here))); (case hn => rfl)) | (apply r_load1; rfl; (apply Cell.own; (case h => (repeat (fail))); rfl)) | (apply r_loadN; rfl; (apply CellsAt.own; (case h => (repeat (fail)))); rfl)); (case hq => kernel_rfl))
  all_goals (try (apply d_guardB 4; (case hi => rfl); (case hgd => rfl); (case h1 => rfl); (case h2 => rfl); all_goals (intro h; (try simp only [reduceCtorEq, zzz] at h))))
  all_goals ((apply d_callG 4 (hs := q1) (μ1 := []); (case hi => rfl); (case hg => rfl); (case hr => kernel_rfl);  (case ha => rfl); (case hp => exact List.Perm.refl _); (case hd => rfl); (case hν' => intro e he; exact he); rintro _ G1 _ - ⟨hG1, rfl, z, rfl, hz1⟩; subst hG1))
  all_goals (try (apply d_guardB 5; (case hi => rfl); (case hgd => rfl); (case h1 => rfl); (case h2 => rfl); all_goals (intro h; (try simp only [reduceCtorEq, zzz] at h))))
  all_goals (apply dtg 5; (case hi => rfl); (case hg => rfl); (case hop => (apply prd; apply p_ne <;> rfl)); (case hq => kernel_rfl))
  all_goals (apply dtk 6; (case hi => rfl); (case hop => (apply prd; apply p_pickF <;> rfl)); (case hq => kernel_rfl))
  all_goals (apply dtk 7; (case hi => rfl); (case hop => (apply prd; apply p_move <;> rfl)); (case hq => kernel_rfl))
  all_goals (try (apply d_guardB 8; (case hi => rfl); (case hgd => rfl); (case h1 => rfl); (case h2 => rfl); all_goals (intro h; (try simp only [reduceCtorEq, zzz] at h))))
  all_goals (first | (apply dpa 8; (case hi => rfl); (case hg => rfl); (case hn => rfl); (case hq => kernel_rfl)) | (apply dtg 8; (case hi => rfl); (case hg => rfl); (case hop => (apply prd; apply p_fieldAddrB <;> rfl)); (case hq => kernel_rfl)) | fail)
  all_goals (try (apply d_guardB 9; (case hi => rfl); (case hgd => rfl); (case h1 => rfl); (case h2 => rfl); all_goals (intro h; (try simp only [reduceCtorEq, zzz] at h))))
  all_goals (first | (apply dpa 9; (case hi => rfl); (case hg => rfl); (case hn => rfl); (case hq => kernel_rfl)) | (apply dtg 9; (case hi => rfl); (case hg => rfl); (case hop => first | (apply r_loadNo; (case hx => rfl); (case h => (repeat (fail))); (case hd => (repeat (fail))); (case hn => rfl)) | (apply r_load1; rfl; (apply Cell.own; (case h => (repeat (exact mhd _))); rfl)) | (apply r_loadN; rfl; (apply CellsAt.own; (case h => (repeat (fail)))); rfl)); (case hq => kernel_rfl)) | fail)
  all_goals (try (apply d_guardB 10; (case hi => rfl); (case hgd => rfl); (case h1 => rfl); (case h2 => rfl); all_goals (intro h; (try simp only [reduceCtorEq, zzz] at h))))
  all_goals (first | (apply dpa 10; (case hi => rfl); (case hg => rfl); (case hn => rfl); (case hq => kernel_rfl)) | (apply dtg 10; (case hi => rfl); (case hg => rfl); (case hop => (apply prd; apply p_ne <;> rfl)); (case hq => kernel_rfl)) | fail)
  all_goals (apply dtk 11; (case hi => rfl); (case hop => first | (apply prd; apply p_pickT <;> rfl) | (apply prd; apply p_pickF <;> rfl) | fail); (case hq => kernel_rfl))
  all_goals (apply dtk 12; (case hi => rfl); (case hop => (apply prd; apply p_move <;> rfl)); (case hq => kernel_rfl))
  all_goals (try (apply d_guardB 13; (case hi => rfl); (case hgd => rfl); (case h1 => rfl); (case h2 => rfl); all_goals (intro h; (try simp only [reduceCtorEq, zzz] at h))))
  all_goals (first | (apply dpa 13; (case hi => rfl); (case hg => rfl); (case hn => rfl); (case hq => kernel_rfl)) | (apply dtg 13; (case hi => rfl); (case hg => rfl); (case hop => (apply prd; apply p_fieldAddrB <;> rfl)); (case hq => kernel_rfl)) | fail)
  all_goals (try (apply d_guardB 14; (case hi => rfl); (case hgd => rfl); (case h1 => rfl); (case h2 => rfl); all_goals (intro h; (try simp only [reduceCtorEq, zzz] at h))))
  all_goals (first | (apply dpa 14; (case hi => rfl); (case hg => rfl); (case hn => rfl); (case hq => kernel_rfl)) | (apply dtg 14; (case hi => rfl); (case hg => rfl); (case hop => first | (apply r_loadNo; (case hx => rfl); (case h => (repeat (exact mhd _))); (case hd => (repeat (first | with_reducible exact dt_nil | apply dt_here))); (case hn => rfl)) | (apply r_load1; rfl; (apply Cell.own; (case h => (repeat (fail))); rfl)) | (apply r_loadN; rfl; (apply CellsAt.own; (case h => (repeat (fail)))); rfl)); (case hq => kernel_rfl)) | fail)
  all_goals (try (apply d_guardB 15; (case hi => rfl); (case hgd => rfl); (case h1 => rfl); (case h2 => rfl); all_goals (intro h; (try simp only [reduceCtorEq, zzz] at h))))
  all_goals (first | (apply dpa 15; (case hi => rfl); (case hg => rfl); (case hn => rfl); (case hq => kernel_rfl)) | (apply dtg 15; (case hi => rfl); (case hg => rfl); (case hop => (apply prd; apply p_move <;> rfl)); (case hq => kernel_rfl)) | fail)
  all_goals (try (apply d_guardB 16; (case hi => rfl); (case hgd => rfl); (case h1 => rfl); (case h2 => rfl); all_goals (intro h; (try simp only [reduceCtorEq, zzz] at h))))
  all_goals (first | (apply dpa 16; (case hi => rfl); (case hg => rfl); (case hn => rfl); (case hq => kernel_rfl)) | (apply dtg 16; (case hi => rfl); (case hg => rfl); (case hop => (apply prd; apply p_nilCheck <;> rfl)); (case hq => kernel_rfl)) | fail)
  all_goals (try (apply d_guardB 17; (case hi => rfl); (case hgd => rfl); (case h1 => rfl); (case h2 => rfl); all_goals (intro h; (try simp only [reduceCtorEq, zzz] at h))))
  all_goals (first | (apply dpa 17; (case hi => rfl); (case hg => rfl); (case hn => rfl); (case hq => kernel_rfl)) | (apply dtg 17; (case hi => rfl); (case hg => rfl); (case hop => (apply prd; apply p_fieldAddrB <;> rfl)); (case hq => kernel_rfl)) | fail)
  all_goals (try (apply d_guardB 18; (case hi => rfl); (case hgd => rfl); (case h1 => rfl); (case h2 => rfl); all_goals (intro h; (try simp only [reduceCtorEq, zzz] at h))))
  all_goals (first | (apply dpa 18; (case hi => rfl); (case hg => rfl); (case hn => rfl); (case hq => kernel_rfl)) | (apply dtg 18; (case hi => rfl); (case hg => rfl); (case hop => first | (apply r_loadNo; (case hx => rfl); (case h => (repeat (first | exact mhd _ | apply mtl))); (case hd => (repeat (first | with_reducible exact dt_nil | apply dt_here))); (case hn => rfl)) | (apply r_load1; rfl; (apply Cell.own; (case h => (repeat (fail))); rfl)) | (apply r_loadN; rfl; (apply CellsAt.own; (case h => (repeat (fail)))); rfl)); (case hq => kernel_rfl)) | fail)
  all_goals (try (apply d_guardB 19; (case hi => rfl); (case hgd => rfl); (case h1 => rfl); (case h2 => rfl); all_goals (intro h; (try simp only [reduceCtorEq, zzz] at h))))
  all_goals (first | (apply dpa 19; (case hi => rfl); (case hg => rfl); (case hn => rfl); (case hq => kernel_rfl)) | (apply dtg 19; (case hi => rfl); (case hg => rfl); (case hop => ((apply prd; apply neBal; (case hx => rfl); (case hy => rfl)))); (case hq => kernel_rfl)) | fail)
  all_goals (apply dtk 20; (case hi => rfl); (case hop => first | (apply prd; apply p_pickT <;> rfl) | (apply prd; apply p_pickF <;> rfl) | fail); (case hq => kernel_rfl))
  all_goals (apply dtk 21; (case hi => rfl); (case hop => (apply prd; apply p_move <;> rfl)); (case hq => kernel_rfl))
  all_goals (try (apply d_guardB 22; (case hi => rfl); (case hgd => rfl); (case h1 => rfl); (case h2 => rfl); all_goals (intro h; (try simp only [reduceCtorEq, zzz] at h))))
  all_goals (first | (apply dpa 22; (case hi => rfl); (case hg => rfl); (case hn => rfl); (case hq => kernel_rfl)) | (apply dtg 22; (case hi => rfl); (case hg => rfl); (case hop => (apply prd; apply p_fieldAddrB <;> rfl)); (case hq => kernel_rfl)) | fail)
  all_goals (try (apply d_guardB 23; (case hi => rfl); (case hgd => rfl); (case h1 => rfl); (case h2 => rfl); all_goals (intro h; (try simp only [reduceCtorEq, zzz] at h))))
  all_goals (first | (apply dpa 23; (case hi => rfl); (case hg => rfl); (case hn => rfl); (case hq => kernel_rfl)) | (apply dtg 23; (case hi => rfl); (case hg => rfl); (case hop => first | (apply r_loadNo; (case hx => rfl); (case h => (repeat (fail))); (case hd => (repeat (fail))); (case hn => rfl)) | (apply r_load1; rfl; (apply Cell.own; (case h => (repeat (exact mhd _))); rfl)) | (apply r_loadN; rfl; (apply CellsAt.own; (case h => (repeat (fail)))); rfl)); (case hq => kernel_rfl)) | fail)
  all_goals (try (apply d_guardB 24; (case hi => rfl); (case hgd => rfl); (case h1 => rfl); (case h2 => rfl); all_goals (intro h; (try simp only [reduceCtorEq, zzz] at h))))
  all_goals (first | (apply dpa 24; (case hi => rfl); (case hg => rfl); (case hn => rfl); (case hq => kernel_rfl)) | (apply dtg 24; (case hi => rfl); (case hg => rfl); (case hop => (apply prd; apply p_move <;> rfl)); (case hq => kernel_rfl)) | fail)
  all_goals (try (apply d_guardB 25; (case hi => rfl); (case hgd => rfl); (case h1 => rfl); (case h2 => rfl); all_goals (intro h; (try simp only [reduceCtorEq, zzz] at h))))
  all_goals (first | (apply dpa 25; (case hi => rfl); (case hg => rfl); (case hn => rfl); (case hq => kernel_rfl)) | (apply dtg 25; (case hi => rfl); (case hg => rfl); (case hop => (apply prd; apply p_nilCheck <;> rfl)); (case hq => kernel_rfl)) | fail)
  all_goals (try (apply d_guardB 26; (case hi => rfl); (case hgd => rfl); (case h1 => rfl); (case h2 => rfl); all_goals (intro h; (try simp only [reduceCtorEq, zzz] at h))))
  all_goals (first | (apply dpa 26; (case hi => rfl); (case hg => rfl); (case hn => rfl); (case hq => kernel_rfl)) | (apply dtg 26; (case hi => rfl); (case hg => rfl); (case hop => (apply prd; apply p_fieldAddrB <;> rfl)); (case hq => kernel_rfl)) | fail)
  all_goals (try (apply d_guardB 27; (case hi => rfl); (case hgd => rfl); (case h1 => rfl); (case h2 => rfl); all_goals (intro h; (try simp only [reduceCtorEq, zzz] at h))))
  all_goals (first | (apply dpa 27; (case hi => rfl); (case hg => rfl); (case hn => rfl); (case hq => kernel_rfl)) | (apply dtg 27; (case hi => rfl); (case hg => rfl); (case hop => first | (apply r_loadNo; (case hx => rfl); (case h => (repeat (fail))); (case hd => (repeat (fail))); (case hn => rfl)) | (apply r_load1; rfl; (apply Cell.own; (case h => (repeat (first | exact mhd _ | apply mtl))); rfl)) | (apply r_loadN; rfl; (apply CellsAt.own; (case h => (repeat (fail)))); rfl)); (case hq => kernel_rfl)) | fail)
  all_goals (try (apply d_guardB 28; (case hi => rfl); (case hgd => rfl); (case h1 => rfl); (case h2 => rfl); all_goals (intro h; (try simp only [reduceCtorEq, zzz] at h))))
  all_goals (first | (apply dpa 28; (case hi => rfl); (case hg => rfl); (case hn => rfl); (case hq => kernel_rfl)) | (apply dtg 28; (case hi => rfl); (case hg => rfl); (case hop => (apply prd; apply p_ne <;> rfl)); (case hq => kernel_rfl)) | fail)
  all_goals (apply dtk 29; (case hi => rfl); (case hop => first | (apply prd; apply p_pickT <;> rfl) | (apply prd; apply p_pickF <;> rfl) | fail); (case hq => kernel_rfl))
  all_goals (apply d_done; (case hr => kernel_rfl))
  all_goals repeat' (first | apply v_seq | apply v_region | apply v_nil | apply v_skip | (apply v_pure; (case hop => (apply p_assign <;> rfl)); (case hd => rfl)) | (apply v_condT; (case hc => rfl)) | (apply v_cond; (case hc => rfl); all_goals (intro h; (try simp only [reduceCtorEq, zzz] at h))) | fail)
  all_goals first
    | (refine v_ret [(q, qO r n a mp), (mp, oM)] (outsA1 rfl rfl) (by repeat (first | exact List.Sublist.refl _ | apply List.Sublist.cons)) ?_
       have hnt : ¬ TakeP r n a got ⟨kind, src, dst, round, node, index, commit, version, ents, img⟩ := fun h => by
         obtain ⟨⟨h1, h2⟩, ⟨h3, h4⟩, h5, h6⟩ := hst.1 h
         first
           | omega
           | (exact absurd ((hz1 h1).2 h2) (by assumption))
       exact ⟨GH.le_refl _, by rw [decide_eq_false hnt], hno hnt⟩)
    | skip
  have hz0 : z = 0 := by assumption
  have hk4 : kind = 4 := by assumption
  have hrn : round = r ∧ node = n := by assumption
  have hia : index = a := by assumption
  have hPP := (hz1 hk4).1 hz0
  refine v_perm (ν := [(b3, .cells (msL kind src dst round node index commit version (.slice EA ents.length ec) (.slice IA img.length ic)).toArray 54 (0, 0)), (q, qO r n a mp), (mp, oM)]) (List.Perm.refl _) ?_
  by_cases hin : src ∈ ml.map (·.1)
  · obtain ⟨v, hv, hvm⟩ := mget_key hin
    obtain ⟨x, hx, hxs, EA', ec', IA', ic', rfl, -⟩ := hval _ _ hvm
    have hnt : ¬ TakeP r n a got ⟨kind, src, dst, round, node, index, commit, version, ents, img⟩ := fun h => by
      obtain ⟨y, hy, e⟩ := hmem.1 hin
      exact (hst.1 h).2.2.2 y hy e
    refine d_start [(b3, .cells (msL kind src dst round node index commit version (.slice EA ents.length ec) (.slice IA img.length ic)).toArray 54 (0, 0)), (q, qO r n a mp), (mp, oM)] (by kernel_rfl) (by kernel_rfl) (by kernel_rfl) (by intro e he; exact he) ?_
    all_goals (apply dtk 0; (case hi => rfl); (case hop => (apply prd; apply p_move <;> rfl)); (case hq => kernel_rfl))
    all_goals (apply dtk 1; (case hi => rfl); (case hop => (apply prd; apply p_nilCheck <;> rfl)); (case hq => kernel_rfl))
    all_goals (apply dtk 2; (case hi => rfl); (case hop => (apply prd; apply p_fieldAddrB <;> rfl)); (case hq => kernel_rfl))
    all_goals (apply dtk 3; (case hi => rfl); (case hop => (apply r_load1; rfl; (apply Cell.own; (case h => (repeat (first | exact mhd _ | apply mtl))); rfl))); (case hq => kernel_rfl))
    all_goals (apply dtk 4; (case hi => rfl); (case hop => (apply prd; apply p_fieldAddrB <;> rfl)); (case hq => kernel_rfl))
    all_goals (apply dtk 5; (case hi => rfl); (case hop => (apply r_load1; rfl; (apply Cell.own; (case h => (repeat (exact mhd _))); rfl))); (case hq => kernel_rfl))
    all_goals (apply dtk 6; (case hi => rfl); (case hop => ((apply r_gotOk src (.agg (x.cells (.slice EA' x.ents.length ec') (.slice IA' x.img.length ic')).toArray) true (by rw [hv]; rfl) (by rw [hv]; rfl) (hM := hM); (case hb => (repeat (first | exact mhd _ | apply mtl))); (case hx => rfl); (case hi => rfl)))); (case hq => kernel_rfl))
    all_goals (apply dtk 7; (case hi => rfl); (case hop => (apply prd; apply p_move <;> rfl)); (case hq => kernel_rfl))
    all_goals (apply dtk 8; (case hi => rfl); (case hop => (apply prd; apply p_extract0 <;> rfl)); (case hq => kernel_rfl))
    all_goals (apply dtk 9; (case hi => rfl); (case hop => (apply prd; apply p_extract1 <;> rfl)); (case hq => kernel_rfl))
    all_goals (apply d_exec 10; (case hi => rfl); (case hr => kernel_rfl); (case hop => exact m_alloc rfl); (case hd => rfl); rintro _ _ _ ⟨b5, rfl, rfl, rfl⟩; refine ⟨(by intro e he; (simp at he; simp [he]; done)), ?_⟩)
    all_goals (apply d_store 11; (case hi => rfl); (case hr => kernel_rfl); (case hL => infer_instance); (case hp => rfl); (case hx => rfl); (case hc => rfl); (case hsz => rfl); (case h1 => rfl); (case hb => (repeat (exact mhd _))); (case hfit => exact nle rfl); (case hov => ((repeat (first | with_reducible exact ov_nil | apply ov_cons)); done)); (case hu => repeat (exact Upd.here _ _)); (case hν' => intro e he; (simp at he; simp [he]; done)))
    all_goals (apply dtk 12; (case hi => rfl); (case hop => (apply prd; apply p_assign <;> rfl)); (case hq => kernel_rfl))
    all_goals (apply d_done; (case hr => kernel_rfl))
    repeat' (first | apply v_seq | apply v_region | apply v_nil | (apply v_pure; (case hop => first | (apply p_move <;> rfl) | (apply p_assign <;> rfl) | fail); (case hd => rfl)) | (apply v_condT; (case hc => rfl)) | fail)
    refine v_ret [(q, qO r n a mp), (mp, oM)] (outsA1 rfl rfl) (by repeat (first | exact List.Sublist.refl _ | apply List.Sublist.cons)) ?_
    exact ⟨GH.le_refl _, by rw [decide_eq_false hnt], hno hnt⟩
  · have hv := mget_no hin
    have ht : TakeP r n a got ⟨kind, src, dst, round, node, index, commit, version, ents, img⟩ := hst.2 ⟨⟨hk4, hPP⟩, hrn, hia, fun x hx e => hin (hmem.2 ⟨x, hx, e⟩)⟩
    refine d_start [(b3, .cells (msL kind src dst round node index commit version (.slice EA ents.length ec) (.slice IA img.length ic)).toArray 54 (0, 0)), (q, qO r n a mp), (mp, oM)] (by kernel_rfl) (by kernel_rfl) (by kernel_rfl) (by intro e he; exact he) ?_
    all_goals (apply dtk 0; (case hi => rfl); (case hop => (apply prd; apply p_move <;> rfl)); (case hq => kernel_rfl))
    all_goals (apply dtk 1; (case hi => rfl); (case hop => (apply prd; apply p_nilCheck <;> rfl)); (case hq => kernel_rfl))
    all_goals (apply dtk 2; (case hi => rfl); (case hop => (apply prd; apply p_fieldAddrB <;> rfl)); (case hq => kernel_rfl))
    all_goals (apply dtk 3; (case hi => rfl); (case hop => (apply r_load1; rfl; (apply Cell.own; (case h => (repeat (first | exact mhd _ | apply mtl))); rfl))); (case hq => kernel_rfl))
    all_goals (apply dtk 4; (case hi => rfl); (case hop => (apply prd; apply p_fieldAddrB <;> rfl)); (case hq => kernel_rfl))
    all_goals (apply dtk 5; (case hi => rfl); (case hop => (apply r_load1; rfl; (apply Cell.own; (case h => (repeat (exact mhd _))); rfl))); (case hq => kernel_rfl))
    all_goals (apply dtk 6; (case hi => rfl); (case hop => ((apply r_gotOk src zMs false (by rw [hv]; rfl) (by rw [hv]; rfl) (hM := hM); (case hb => (repeat (first | exact mhd _ | apply mtl))); (case hx => rfl); (case hi => rfl)))); (case hq => kernel_rfl))
    all_goals (apply dtk 7; (case hi => rfl); (case hop => (apply prd; apply p_move <;> rfl)); (case hq => kernel_rfl))
    all_goals (apply dtk 8; (case hi => rfl); (case hop => (apply prd; apply p_extract0 <;> rfl)); (case hq => kernel_rfl))
    all_goals (apply dtk 9; (case hi => rfl); (case hop => (apply prd; apply p_extract1 <;> rfl)); (case hq => kernel_rfl))
    all_goals (apply d_exec 10; (case hi => rfl); (case hr => kernel_rfl); (case hop => exact m_alloc rfl); (case hd => rfl); rintro _ _ _ ⟨b5, rfl, rfl, rfl⟩; refine ⟨(by intro e he; (simp at he; simp [he]; done)), ?_⟩)
    all_goals (apply d_store 11; (case hi => rfl); (case hr => kernel_rfl); (case hL => infer_instance); (case hp => rfl); (case hx => rfl); (case hc => rfl); (case hsz => rfl); (case h1 => rfl); (case hb => (repeat (exact mhd _))); (case hfit => exact nle rfl); (case hov => ((repeat (first | with_reducible exact ov_nil | apply ov_cons)); done)); (case hu => repeat (exact Upd.here _ _)); (case hν' => intro e he; (simp at he; simp [he]; done)))
    all_goals (apply dtk 12; (case hi => rfl); (case hop => (apply prd; apply p_assign <;> rfl)); (case hq => kernel_rfl))
    all_goals (apply d_done; (case hr => kernel_rfl))
    repeat' (first | apply v_seq | apply v_region | apply v_nil | apply v_skip | (apply v_pure; (case hop => first | (apply p_move <;> rfl) | (apply p_fieldAddrB <;> rfl) | fail); (case hd => rfl)) | (apply v_condF; (case hc => rfl)) | (apply v_read; (case hop => (apply r_load1; rfl; (apply Cell.own; (case h => (repeat (first | exact mhd _ | apply mtl))); rfl))); (case hd => rfl)) | fail)
    refine v_call (μ1 := []) rfl qc (List.Perm.refl _) rfl ?_
    rintro _ G2 ν2 - ⟨hG2, hg2⟩
    subst hG2
    obtain ⟨A2, c2, rfl, -, -⟩ := hg2.shape
    refine v_frz ν2 (PickA.here _) ?_
    intro G3 hle3 hG3
    have hE := es_of_grow hg2 hG3 (fun x hx => by
      obtain ⟨j, hj, rfl⟩ := List.getElem_of_mem hx
      exact hok j hj)
    repeat' (first | apply v_seq | apply v_nil | (apply v_pure; (case hop => (apply p_fieldAddrB <;> rfl)); (case hd => rfl)) | (apply v_store; (case hp => rfl); (case hx => rfl); (case hc => rfl); (case hsz => rfl); (case h1 => rfl); (case hb => (repeat (first | exact mhd _ | apply mtl))); (case hfit => exact nle rfl); (case hov => ((repeat (first | with_reducible exact ov_nil | apply ov_cons)); done)); (case hu => repeat (first | exact Upd.here _ _ | apply Upd.there))) | fail)
    refine d_start [(b3, .cells (msL kind src dst round node index commit version (.slice A2 ents.length c2) (.slice IA img.length ic)).toArray 54 (0, 0)), (q, qO r n a mp)] (by kernel_rfl) (by kernel_rfl) (by kernel_rfl) (by intro e he; (simp only [List.mem_cons, List.not_mem_nil, or_false] at he; rcases he with rfl | rfl <;> simp; done)) ?_
    all_goals (apply dtk 0; (case hi => rfl); (case hop => (apply prd; apply p_move <;> rfl)); (case hq => kernel_rfl))
    all_goals (apply dtk 1; (case hi => rfl); (case hop => (apply prd; apply p_nilCheck <;> rfl)); (case hq => kernel_rfl))
    all_goals (apply dtk 2; (case hi => rfl); (case hop => (apply prd; apply p_fieldAddrB <;> rfl)); (case hq => kernel_rfl))
    all_goals (apply dtk 3; (case hi => rfl); (case hop => first | (apply r_loadNo; (case hx => rfl); (case h => (repeat (fail))); (case hd => (repeat (fail))); (case hn => rfl)) | (apply r_load1; rfl; (apply Cell.own; (case h => (repeat (first | exact mhd _ | apply mtl))); rfl)) | (apply r_loadN; rfl; (apply CellsAt.own; (case h => (repeat (fail)))); rfl)); (case hq => kernel_rfl))
    all_goals (apply dtk 4; (case hi => rfl); (case hop => (apply prd; apply p_fieldAddrB <;> rfl)); (case hq => kernel_rfl))
    all_goals (apply dtk 5; (case hi => rfl); (case hop => first | (apply r_loadNo; (case hx => rfl); (case h => (repeat (fail))); (case hd => (repeat (fail))); (case hn => rfl)) | (apply r_load1; rfl; (apply Cell.own; (case h => (repeat (exact mhd _))); rfl)) | (apply r_loadN; rfl; (apply CellsAt.own; (case h => (repeat (fail)))); rfl)); (case hq => kernel_rfl))
    all_goals (apply dtk 6; (case hi => rfl); (case hop => first | (apply r_loadNo; (case hx => rfl); (case h => (repeat (exact mhd _))); (case hd => (repeat (first | with_reducible exact dt_nil | apply dt_here))); (case hn => rfl)) | (apply r_load1; rfl; (apply Cell.own; (case h => (repeat (fail))); rfl)) | (apply r_loadN; rfl; (apply CellsAt.own; (case h => (repeat (fail)))); rfl)); (case hq => kernel_rfl))
    all_goals ((apply d_exec0 7; (case hi => rfl); (case hr => kernel_rfl);  (case hop => exact m_mapUpdate (k := 3) (mk := keyI) src rfl rfl rfl (PickA.perm (ν := [(mp, oM)]) (PickA.cons _ (PickA.cons _ (PickA.cons _ (PickA.one _))))) hM); rintro _ G4 _ ⟨oM2, hM2, hK2, hG4, rfl⟩; subst G4; refine ⟨(by intro e he; simp only [List.mem_cons, List.not_mem_nil, or_false] at he; rcases he with rfl | rfl <;> simp), ?_⟩))
    all_goals (apply d_done; (case hr => kernel_rfl))
    repeat' (first | apply v_seq | apply v_region | apply v_nil | (apply v_pure; (case hop => (apply p_assign <;> rfl)); (case hd => rfl)) | fail)
    refine v_perm (ν := [(q, qO r n a mp), (mp, oM2), (b5, _), (b3, _)]) (by apply perm_of_count; intro p; simp only [List.append_eq, List.countP_append, List.countP_cons, List.countP_nil, Nat.zero_add, Nat.add_zero]; try ac_rfl) ?_
    refine v_ret [(q, qO r n a mp), (mp, oM2)] (outsA1 rfl rfl) (by repeat (first | exact List.nil_sublist _ | apply List.Sublist.cons_cons)) ?_
    exact ⟨hle3, by rw [decide_eq_true ht], _, oM2, hM2, by rw [if_pos ht]; exact hyes G3 A2 c2 hle3 hE hin, rfl⟩
end Go.Proofs.YtmdeeokejdkceaaDoor
/-
  VX, LOOPS OVER A FUNCTION: what an iterator gives, and the statement 'for x := range seq'.
-/
set_option linter.unusedVariables false
set_option linter.unusedSimpArgs false
set_option linter.unusedSectionVars false
namespace Go.Vx
open Go
attribute [local semireducible] Vc DVc Con PureOp ReadOp MoveOp
def YieldCon (P : Program) (l : Nat) (args : Array Value) (G : GH) (μ : OH) (Ψ : Value → GH → OH → Prop) : Prop :=
  ∀ w, Mem G μ w → ∃ f tmps assign body, (Instr.yield l args).run P w = .ok (.round l f tmps assign body) w ∧
    RoundIn Fence.wide 0 P l f tmps assign body w fun e w' => ∃ v, e = .returned v ∧ ∃ G' μ', Step G μ w G' μ' w' ∧ Ψ v G' μ'
def SeqCon {α : Type} (P : Program) (gf : FuncId) (lb : List Value) (enc : α → Value) (S : List α → Prop) (N : Nat) (G : GH) (μ1 : OH) : Prop :=
  ∀ (l : Nat) (J : List α → GH → OH → Prop) (G1 : GH) (ν : OH), GH.le G G1 → J [] G1 ν →
    (∀ pre x G2 ν2, GH.le G1 G2 → J pre G2 ν2 → pre.length < N → YieldCon P l #[enc x] G2 ν2 (fun v G' ν' => v = .bool true ∧ J (pre ++ [x]) G' ν')) →
    Con P gf (.func (.yield l) #[] #[] :: lb).toArray G1 (μ1 ++ ν) (fun _ G' μ' => ∃ xs ν', S xs ∧ J xs G' ν' ∧ μ' = μ1 ++ ν')
section
variable {P : Program} {fn : Func} {n : Nat} {B : Base} {Φ : Value → GH → OH → Prop} {k : List It} {σ : Env} {G : GH} {μ : OH} {all : Array Oper} {rest : List Oper} {d : Nat} {ty : TypeId} {pos : String} {af : Array Edge}
theorem run_callY {x : Operand} {l : Nat} {args : List Operand} {ts : Array TypeId} {vs : List Value} (hx : Env.ev σ x = some (.func (.yield l) #[] #[])) (ha : Env.evs σ args = some vs) :
    ∀ dst pos af g ρ, Agree σ ρ → ∀ w, (execOp ρ ⟨dst, .call { callee := .value x, args := args.toArray, argTypes := ts }, ty, pos, af, g⟩).run P w = (Instr.yield l vs.toArray).run P w := by
  intro dst pos af g ρ hρ w
  simp [execOp, resolve, hρ _ _ hx, Deferred.ofValue, invoke, agree_evs hρ ha]
theorem v_yield {x : Operand} {l : Nat} {args : List Operand} {ts : Array TypeId} {vs : List Value} {μ1 μ2 : OH} {Ψ : Value → GH → OH → Prop} (hx : Env.ev σ x = some (.func (.yield l) #[] #[])) (ha : Env.evs σ args = some vs) (hs : YieldCon P l vs.toArray G μ1 Ψ) (hp : μ.Perm (μ1 ++ μ2)) (hd : Nat.blt d n = true)
    (h : ∀ v G' μ1', GH.le G G' → Ψ v G' μ1' → Vc P fn n B Φ (.ops all rest :: k) ((d, v) :: σ) G' (μ1' ++ μ2)) :
    Vc P fn n B Φ (.ops all (⟨some d, .call { callee := .value x, args := args.toArray, argTypes := ts }, ty, pos, af, none⟩ :: rest) :: k) σ G μ := by
  intro w hw a hh
  have hd' : d < n := by simpa [Nat.blt_eq] using hd
  have hw' := hw.mem.perm hp
  refine wpListIn_plain rfl fun K hK => ⟨fn_RF, ?_⟩
  rw [Oper.semAt_eq _ _ _ (by intro c; simp), run_callY hx ha _ _ _ _ _ hh.agree]
  obtain ⟨f, tmps, assign, body, hy, hR⟩ := hs w hw'.split.1
  rw [hy]
  refine ⟨fun e => (by cases e), RoundIn.mono (F := RF B.rk.r) hR ?_⟩
  rintro e w' ⟨v, rfl, G', μ1', hst, hΨ⟩
  exact hK _ _ (h v G' μ1' hst.le hΨ w' (hw.trans ((hst.frame hw').permL hp.symm)) _ (hh.put hd' v))
def Assigns (P : Program) (n : Nat) (c : Code) (σ σ' : Env) : Prop :=
  ∀ (r : Option Nat) (K : Act → World → Prop) (ds : List Deferred) (a : Act) (w : World), Holds ds n σ a → (∀ a', Holds ds n σ' a' → K a' w) → c.wpIn (RF r) 0 P (Exit.then K fun _ _ _ => False) a w
inductive AssL (P : Program) (n : Nat) : List Oper → Env → Env → Prop
  | nil (σ : Env) : AssL P n [] σ σ
  | cons {op : Op} {ty : TypeId} {pos : String} {af : Array Edge} {d : Nat} {v : Value} {l : List Oper} {σ σ' : Env} (hop : PureOp P op ty σ v) (hd : Nat.blt d n = true) (h : AssL P n l ((d, v) :: σ) σ') : AssL P n (⟨some d, op, ty, pos, af, none⟩ :: l) σ σ'
theorem AssL.run {σ σ' : Env} {l : List Oper} (h : AssL P n l σ σ') {r : Option Nat} {all : Array Oper} {Q : Exit → Act → World → Prop} {ds : List Deferred} : ∀ {a : Act} {w : World}, Holds ds n σ a → (∀ a', Holds ds n σ' a' → Q .normal a' w) → wpListIn (RF r) 0 P all Q l a w := by
  induction h with
  | nil σ => exact fun ha hK => hK _ ha
  | cons hop hd h ih =>
    intro a w ha hK
    rename_i op ty pos af d v l σ0 σ1
    have hd' : d < n := by simpa [Nat.blt_eq] using hd
    refine wpListIn_plain rfl fun K hKK => op_in ?_ ?_
    · rintro c rfl
      have e := hop none "" #[] none a.eval ha.agree w
      have e2 : (execOp a.eval ⟨none, .defer c, ty, "", #[], none⟩).run P w = ((resolve a.eval c ty).run P w).andThen fun d w' => .ok (.defer d) w' := by
        simp only [execOp, Sem.run_bind]
        rfl
      rw [e2] at e
      cases hr : (resolve a.eval c ty).run P w <;> rw [hr] at e <;> cases e
    · rw [hop _ pos af none a.eval ha.agree w]
      exact hKK _ _ (ih (ha.put hd' v) hK)
theorem Assigns.region {id : Nat} {l : List Oper} {σ σ' : Env} (h : AssL P n l σ σ') : Assigns P n (.region id l.toArray false) σ σ' :=
  fun r K ds a w ha hK => wpIn_region_lit (h.run ha fun a' ha' => hK a' ha')
def noAgain : List It → Bool
  | [] => true
  | .again _ _ :: _ => false
  | _ :: k => noAgain k
theorem kont_rk {K K' : RK} {V V' : Value → World → Prop} (hr : K'.r = K.r) (hpost : ∀ e a w, K'.post V' e a w → K.post V e a w) : ∀ (k : List It), noAgain k = true → ∀ e a w, Kont P K' n V' k e a w → Kont P K n V k e a w
  | [], _, e, a, w, h => hpost e a w h
  | .code c :: k, hk, e, a, w, h => by
    have ih := kont_rk hr hpost k hk
    cases e with
    | normal =>
      simp only [Kont] at h ⊢
      rw [← hr]
      exact wpIn_mono h ih
    | _ => exact ih _ _ _ h
  | .ops all l :: k, hk, e, a, w, h => by
    have ih := kont_rk hr hpost k hk
    cases e with
    | normal =>
      simp only [Kont] at h ⊢
      rw [← hr]
      clear hk
      induction l generalizing a w with
      | nil => exact ih _ _ _ h
      | cons o l ihl =>
        unfold wpListIn at h ⊢
        split at h
        · rename_i hw
          rw [if_pos hw]
          refine Oper.wpIn_mono (fun a w h => ihl a w h) ?_
          refine ⟨h.1, ?_⟩
          have h2 := h.2
          generalize (o.semAt (RF K'.r).round a.eval).run P w = R at h2 ⊢
          cases R with
          | ok x w' =>
            cases x <;> first
              | exact h2
              | exact ⟨h2.1, CallsIn.mono h2.2 fun e w'' he => by
                  cases e with
                  | returned v => exact he
                  | panicked ch => exact ih _ _ _ he
                  | outgrown => obtain ⟨a0, w0, h0⟩ := he; exact ⟨a0, w0, ih _ _ _ h0⟩⟩
              | exact ⟨h2.1, RoundIn.mono h2.2 fun e w'' he => by
                  cases e with
                  | returned v => exact he
                  | panicked ch => exact ih _ _ _ he
                  | outgrown => obtain ⟨a0, w0, h0⟩ := he; exact ⟨a0, w0, ih _ _ _ h0⟩⟩
          | halt x w' => cases x <;> first | exact ih _ _ _ h2 | exact h2
        · rename_i hw
          rw [if_neg hw]
          exact ⟨fn_RF, ihl _ _ h.2⟩
    | _ => exact ih _ _ _ h
  | .blk id :: k, hk, e, a, w, h => by
    have ih := kont_rk hr hpost k hk
    cases e with
    | normal => exact ih _ _ _ h
    | exit id' =>
      simp only [Kont] at h ⊢
      split at h
      · rename_i hi; rw [if_pos hi]; exact ih _ _ _ h
      · rename_i hi; rw [if_neg hi]; exact ih _ _ _ h
    | _ => exact ih _ _ _ h
theorem Step.upd1 {G : GH} {r : OH} {w : World} {b : Nat} {o o' : Obj} (h : Mem G ((b, o) :: r) w) : Step G ((b, o) :: r) w G ((b, o') :: r) (w.putObj b o') :=
  Step.upd h (Upd.here o r) rfl rfl rfl (by simp) (World.putObj_heap_same (lt_of_heap (h.own b o List.mem_cons_self))) (fun c hc => World.putObj_heap_other hc)
theorem Holds.pars {ds : List Deferred} {σ : Env} {a : Act} (h : Holds ds n σ a) {p : Nat} (hp : p < n) (v : Value) : Holds [] n ((p, v) :: σ) { tmps := a.tmps.setIfInBounds p v, defers := [] } := by
  have := h.put hp v
  exact ⟨rfl, this.size, this.get⟩
theorem v_rangeFunc {α : Type} {Ds : List Nat} [hB : FnB P fn B Ds] {g : Operand} {gf : FuncId} [hc : Callable P gf] {lb : List Value} {p : Nat} {assign body : Code} {enc : α → Value} {S : List α → Prop} {N : Nat} {μ1 μ2 : OH} {σ' : α → Env}
    (I : List α → GH → OH → Prop) (hg : Env.ev σ g = some (.func (.func gf) #[] lb.toArray)) (hseq : SeqCon P gf lb enc S N G μ1) (hp : μ.Perm (μ1 ++ μ2)) (hpn : Nat.blt p n = true) (hass : ∀ x, Assigns P n assign ((p, enc x) :: σ) (σ' x)) (hna : noAgain k = true) (h0 : I [] G μ2)
    (hbody : ∀ (l : Nat) (B' : Base) [RdB B' l] pre x G2 ν, GH.le G G2 → I pre G2 ν → pre.length < N → Vc P fn n B' (fun v G' ν' => v = .bool true ∧ I (pre ++ [x]) G' ν') [.code body] (σ' x) G2 ν)
    (hk : ∀ (B' : Base) (D : Nat) [FnB P fn B' (D :: Ds)] xs G2 ν, GH.le G G2 → S xs → I xs G2 ν → Vc P fn n B' Φ k σ G2 (dO D :: (μ1 ++ ν))) :
    Vc P fn n B Φ (.code (.rangeFunc g #[p] assign body) :: k) σ G μ := by
  intro w hw a ha
  have hpn' : p < n := by simpa [Nat.blt_eq] using hpn
  have hr : B.rk.r = none := by rw [hB.h]; rfl
  show (Code.rangeFunc g #[p] assign body).wpIn (RF B.rk.r) 0 P (Kont P B.rk n (Fin B Φ) k) a w
  rw [hr]
  refine wpIn_rangeFunc ?_
  intro fn0 hfn
  obtain ⟨rec, hrec⟩ : ∃ rec : LoopState → Loop, rec = fun st => { state := st, pending := none, fn := fn0, tmps := a.tmps, params := #[p], assign, body, defers := w.heap.size } := ⟨_, rfl⟩
  have hst1 : Step G μ w G ((w.heap.size + 1, .loop (rec .ready)) :: dO w.heap.size :: μ) ((w.alloc (.deferred (some []))).alloc (.loop (rec .ready))) := by
    have s1 := Step.alloc hw.mem (.deferred (some []))
    have s2 := Step.alloc s1.mem (.loop (rec .ready))
    rw [World.size_alloc] at s2
    exact s1.trans s2
  refine ⟨w.heap.size + 1, [mark w.heap.size], (w.alloc (.deferred (some []))).alloc (.loop (rec .ready)), { target := .fn (.func gf) lb.toArray, args := #[.func (.yield (w.heap.size + 1)) #[] #[]] }, (w.alloc (.deferred (some []))).alloc (.loop (rec .ready)), gf, #[.func (.yield (w.heap.size + 1)) #[] #[]] ++ lb.toArray, (w.alloc (.deferred (some []))).alloc (.loop (rec .ready)), ?_, ?_, fun _ _ => trivial, ?_, fun e => (by cases e), ?_⟩
  · rw [hrec]
    exact run_enterLoop_outer _ _ _ _ _
  · have e1 := ha.ev hg
    have e2 : ∀ v, a.eval (.const v) = v := fun _ => rfl
    simp [resolve, e1, e2, Deferred.ofValue]
  · simp [invoke, hc.h]
  generalize hW1 : (w.alloc (.deferred (some []))).alloc (.loop (rec .ready)) = W1 at hst1 ⊢
  generalize hD : w.heap.size = D at hst1 hrec ⊢
  have hne : D + 1 ≠ D := by omega
  have hargs : #[Value.func (.yield (D + 1)) #[] #[]] ++ lb.toArray = (Value.func (.yield (D + 1)) #[] #[] :: lb).toArray := by simp
  rw [hargs]
  let J : List α → GH → OH → Prop := fun pre G' ν => ∃ ν', ν = (D + 1, .loop (rec .ready)) :: dO D :: ν' ∧ I pre G' ν'
  have hJ0 : J [] G ((D + 1, .loop (rec .ready)) :: dO D :: μ2) := ⟨μ2, rfl, h0⟩
  have hcon := hseq (D + 1) J G _ (GH.le_refl _) hJ0 (fun pre x G2 ν2 hle hJ hlen => by
    obtain ⟨ν', rfl, hI⟩ := hJ
    intro w2 hw2
    have hl := hw2.own (D + 1) _ List.mem_cons_self
    have hy := run_yield (P := P) (args := #[enc x]) hl (by rw [hrec]; rfl)
    rw [hrec] at hy
    simp only at hy
    refine ⟨fn0, _, assign, body, hy, roundIn_of_wpIn trivial ?_⟩
    have hH : Holds [] n ((p, enc x) :: σ) { tmps := Array.foldl (fun tmps x => tmps.setIfInBounds x.fst x.snd) a.tmps (#[p].zip #[enc x]), defers := [] } := by
      have := ha.pars hpn' (enc x)
      simpa using this
    refine hass x (some (D + 1)) _ [] _ w2 hH fun a1 ha1 => ?_
    have hbr := run_beginRound (P := P) hl (by rw [hrec])
    refine ⟨_, hbr, ?_⟩
    have hs1 : Step G2 ((D + 1, .loop (rec .ready)) :: dO D :: ν') w2 G2 ((D + 1, .loop { rec .ready with state := .busy }) :: dO D :: ν') _ := Step.upd1 hw2
    have hm1 := hs1.mem
    have hsub : List.Sublist ν' ((D + 1, .loop { rec .ready with state := .busy }) :: dO D :: ν') := (List.Sublist.refl _).cons _ |>.cons _
    have hmν : Mem G2 ν' (w2.putObj (D + 1) (.loop { rec .ready with state := .busy })) := ((Step.refl hm1).drop hsub).mem
    have hb := @hbody (D + 1) ⟨G2, ν', _, RK.round (D + 1)⟩ ⟨rfl⟩ pre x G2 ν' hle hI hlen _ (Step.refl hmν) a1 ha1
    refine wpIn_mono (F := RF (some (D + 1))) (Q := Kont P (RK.round (D + 1)) n _ []) hb fun e a3 w3 hq => ?_
    cases e with
    | normal =>
      obtain ⟨G3, ν3, hst3, -, hI3⟩ := hq
      simp only at hst3
      have hperm : ((D + 1, Obj.loop { rec .ready with state := .busy }) :: dO D :: ν').Perm (ν' ++ [(D + 1, Obj.loop { rec .ready with state := .busy }), dO D]) := by
        have := (List.perm_append_comm (l₁ := ν') (l₂ := [(D + 1, Obj.loop { rec .ready with state := .busy }), dO D]))
        exact this.symm
      have hfr := (hst3.frame (hm1.perm hperm)).permL hperm.symm
      have hfr2 := hfr.perm (List.perm_append_comm (l₁ := ν3) (l₂ := [(D + 1, Obj.loop { rec .ready with state := .busy }), dO D]))
      have hl3 := hfr2.mem.own (D + 1) _ List.mem_cons_self
      refine ⟨_, _, run_endRound none hl3, .bool true, rfl, G3, (D + 1, .loop (rec .ready)) :: dO D :: ν3, ?_, rfl, ν3, rfl, hI3⟩
      have hu := Step.upd1 (o' := .loop (rec .ready)) hfr2.mem
      have := (hs1.trans hfr2).trans hu
      rw [hrec] at this ⊢
      exact this
    | ret =>
      obtain ⟨G3, ν3, hst3, hv, _⟩ := hq
      cases hv
    | exit id =>
      obtain ⟨G3, ν3, hst3, hv, _⟩ := hq
      cases hv
    | goto l => exact hq.elim
    | panic c => exact hq.elim
    | outgrown => exact hq.elim)
  have hpm : ((D + 1, Obj.loop (rec .ready)) :: dO D :: μ).Perm (μ1 ++ ((D + 1, .loop (rec .ready)) :: dO D :: μ2)) := by
    refine ((hp.cons _).cons _).trans ?_
    have := List.perm_append_comm_assoc [(D + 1, Obj.loop (rec .ready)), dO D] μ1 μ2
    simpa using this
  have hm1 := hst1.mem.perm hpm
  refine calls_RF.2 (Calls.mono (hcon W1 hm1) ?_)
  rintro e w3 ⟨v, rfl, G3, μ3, hst3, xs, ν3, hS, ⟨ν', rfl, hI⟩, rfl⟩
  have hp3 : (μ1 ++ ((D + 1, Obj.loop (rec .ready)) :: dO D :: ν')).Perm ((D + 1, Obj.loop (rec .ready)) :: dO D :: (μ1 ++ ν')) := by
    have := List.perm_append_comm_assoc [(D + 1, Obj.loop (rec .ready)), dO D] μ1 ν'
    simpa using this.symm
  have hst3' := hst3.perm hp3
  have hl3 := hst3'.mem.own (D + 1) _ List.mem_cons_self
  have hpend : (rec .ready).pending = none := by rw [hrec]
  have hend : (Instr.endLoop (D + 1)).run P w3 = .ok none (w3.putObj (D + 1) (.loop { rec .ready with state := .exhausted })) := by
    exact (run_endLoop (P := P) hl3 (by rw [hrec]; simp)).trans (congrArg (fun x => Result.ok x _) hpend)
  refine ⟨none, _, hend, ?_⟩
  have hu := Step.upd1 (o' := .loop { rec .ready with state := .exhausted }) hst3'.mem
  have hall : Step B.G B.μ B.w G3 (dO D :: (μ1 ++ ν')) _ := (((hw.trans (hst1.trans (Step.permL hst3' hpm.symm))).trans hu).drop (List.sublist_cons_self _ _))
  have hkk := @hk ⟨B.G, B.μ, B.w, RK.fn P fn (D :: Ds)⟩ D ⟨rfl⟩ xs G3 ν' (GH.le_trans hst1.le hst3.le) hS hI _ hall { a with defers := [mark D] ++ a.defers } ⟨by
    show [mark D] ++ a.defers = (D :: Ds).map mark
    rw [ha.defers, hB.h]
    rfl, ha.size, ha.get⟩
  refine kont_rk (K' := RK.fn P fn (D :: Ds)) (by rw [hr]; rfl) ?_ k hna _ _ _ hkk
  intro e a w h
  rw [hB.h]
  exact h
end
end Go.Vx
/-
  VX, BITS of numbers of 64 bits without sign, as natural numbers; what the program's text asks of maps beside.
-/
set_option linter.unusedVariables false
set_option linter.unusedSimpArgs false
namespace Go.Vx
open Go
attribute [local semireducible] Vc DVc Con PureOp ReadOp MoveOp
section
variable {P : Program} {ty : TypeId} {σ : Env} {t t' : TypeId}
end
end Go.Vx
/-
  slices.Sort and slices.Compact at numbers: the kit's contracts, laid at this program, as contracts of ours.
-/
set_option linter.unusedSimpArgs false
set_option linter.unusedVariables false
namespace Go.Proofs.YtmdeeokejdkceaaDoor
open Go.Vx Go.ChangeShapes Go.WideShapes Go.ChangeAt Go.RowKit
def laysSort_ren : Go.Shelf.Ren := ⟨fun | 5 => 71 | 7 => 97 | 8 => 89 | 10 => 124 | 11 => 125 | 12 => 126 | 13 => 127 | 14 => 128 | 15 => 129 | 16 => 130 | 17 => 131 | 18 => 132 | 19 => 119 | 20 => 120 | 30 => 144 | 31 => 139 | 32 => 140 | 33 => 145 | 34 => 146 | 35 => 123 | 40 => 149 | n => n, fun | 0 => 0 | 3 => 3 | 4 => 4 | 5 => 5 | 9 => 9 | 22 => 45 | 23 => 45 | 25 => 3 | 32 => 145 | 35 => 160 | 36 => 161 | 41 => 126 | 44 => 168 | 46 => 170 | 53 => 180 | 57 => 153 | 63 => 187 | 64 => 103 | n => n, fun n => n⟩
theorem laysSort : SlLaysM.n5 Tryd.prog laysSort_ren where
  mixed := by kernel_rfl
  f5 := ⟨"slices.Sort[[]int,int]", by decide, Tryd.func71.trans (congrArg some (by kernel_rfl))⟩
  f7 := ⟨"slices.pdqsortOrdered[int]", by decide, Tryd.func97.trans (congrArg some (by kernel_rfl))⟩
  f8 := Tryd.func89.trans (congrArg some (by kernel_rfl))
  f10 := ⟨"slices.insertionSortOrdered[int]", by decide, Tryd.func124.trans (congrArg some (by kernel_rfl))⟩
  f11 := ⟨"slices.heapSortOrdered[int]", by decide, Tryd.func125.trans (congrArg some (by kernel_rfl))⟩
  f12 := ⟨"slices.breakPatternsOrdered[int]", by decide, Tryd.func126.trans (congrArg some (by kernel_rfl))⟩
  f13 := ⟨"slices.choosePivotOrdered[int]", by decide, Tryd.func127.trans (congrArg some (by kernel_rfl))⟩
  f14 := ⟨"slices.reverseRangeOrdered[int]", by decide, Tryd.func128.trans (congrArg some (by kernel_rfl))⟩
  f15 := ⟨"slices.partialInsertionSortOrdered[int]", by decide, Tryd.func129.trans (congrArg some (by kernel_rfl))⟩
  f16 := ⟨"cmp.Less[int]", by decide, Tryd.func130.trans (congrArg some (by kernel_rfl))⟩
  f17 := ⟨"slices.partitionEqualOrdered[int]", by decide, Tryd.func131.trans (congrArg some (by kernel_rfl))⟩
  f18 := ⟨"slices.partitionOrdered[int]", by decide, Tryd.func132.trans (congrArg some (by kernel_rfl))⟩
  f19 := Tryd.func119.trans (congrArg some (by kernel_rfl))
  f20 := Tryd.func120.trans (congrArg some (by kernel_rfl))
  f30 := ⟨"slices.siftDownOrdered[int]", by decide, Tryd.func144.trans (congrArg some (by kernel_rfl))⟩
  f31 := Tryd.func139.trans (congrArg some (by kernel_rfl))
  f32 := Tryd.func140.trans (congrArg some (by kernel_rfl))
  f33 := ⟨"slices.medianAdjacentOrdered[int]", by decide, Tryd.func145.trans (congrArg some (by kernel_rfl))⟩
  f34 := ⟨"slices.medianOrdered[int]", by decide, Tryd.func146.trans (congrArg some (by kernel_rfl))⟩
  f35 := ⟨"cmp.isNaN[int]", by decide, Tryd.func123.trans (congrArg some (by kernel_rfl))⟩
  f40 := ⟨"slices.order2Ordered[int]", by decide, Tryd.func149.trans (congrArg some (by kernel_rfl))⟩
  t0 := Tryd.underlying0
  a0 := Tryd.isAgg0
  z0 := Tryd.sizeOf0
  v0 := Tryd.zeroValue0
  t3 := Tryd.underlying3
  a3 := Tryd.isAgg3
  z3 := Tryd.sizeOf3
  v3 := Tryd.zeroValue3
  t4 := Tryd.underlying4
  a4 := Tryd.isAgg4
  z4 := Tryd.sizeOf4
  v4 := Tryd.zeroValue4
  t5 := Tryd.underlying5
  a5 := Tryd.isAgg5
  z5 := Tryd.sizeOf5
  v5 := Tryd.zeroValue5
  t9 := Tryd.underlying9
  a9 := Tryd.isAgg9
  z9 := Tryd.sizeOf9
  v9 := Tryd.zeroValue9
  t22 := Tryd.underlying45
  a22 := Tryd.isAgg45
  z22 := Tryd.sizeOf45
  v22 := Tryd.zeroValue45
  t23 := Tryd.underlying45
  a23 := Tryd.isAgg45
  z23 := Tryd.sizeOf45
  v23 := Tryd.zeroValue45
  t25 := Tryd.underlying3
  a25 := Tryd.isAgg3
  z25 := Tryd.sizeOf3
  v25 := Tryd.zeroValue3
  t32 := Tryd.underlying145
  a32 := Tryd.isAgg145
  z32 := Tryd.sizeOf145
  v32 := Tryd.zeroValue145
  t35 := Tryd.underlying160
  a35 := Tryd.isAgg160
  z35 := Tryd.sizeOf160
  v35 := Tryd.zeroValue160
  t36 := Tryd.underlying161
  a36 := Tryd.isAgg161
  z36 := Tryd.sizeOf161
  v36 := Tryd.zeroValue161
  t41 := Tryd.underlying126
  a41 := Tryd.isAgg126
  z41 := Tryd.sizeOf126
  v41 := Tryd.zeroValue126
  t44 := Tryd.underlying168
  a44 := Tryd.isAgg168
  z44 := Tryd.sizeOf168
  v44 := Tryd.zeroValue168
  t46 := Tryd.underlying170
  a46 := Tryd.isAgg170
  z46 := Tryd.sizeOf170
  v46 := Tryd.zeroValue170
  t53 := Tryd.underlying180
  a53 := Tryd.isAgg180
  z53 := Tryd.sizeOf180
  v53 := Tryd.zeroValue180
  t57 := Tryd.underlying153
  a57 := Tryd.isAgg153
  z57 := Tryd.sizeOf153
  v57 := Tryd.zeroValue153
  t63 := Tryd.underlying187
  a63 := Tryd.isAgg187
  z63 := Tryd.sizeOf187
  v63 := Tryd.zeroValue187
  t64 := Tryd.underlying103
  a64 := Tryd.isAgg103
  z64 := Tryd.sizeOf103
  v64 := Tryd.zeroValue103
def laysCompact_ren : Go.Shelf.Ren := ⟨fun | 20 => 74 | n => n, fun | 0 => 0 | 3 => 3 | 4 => 4 | 22 => 45 | n => n, fun n => n⟩
theorem laysCompact : Lays2.n20 Tryd.prog laysCompact_ren where
  mixed := by kernel_rfl
  f20 := Tryd.func74.trans (congrArg some (by kernel_rfl))
  t0 := Tryd.underlying0
  a0 := Tryd.isAgg0
  z0 := Tryd.sizeOf0
  v0 := Tryd.zeroValue0
  t3 := Tryd.underlying3
  a3 := Tryd.isAgg3
  z3 := Tryd.sizeOf3
  v3 := Tryd.zeroValue3
  t4 := Tryd.underlying4
  a4 := Tryd.isAgg4
  z4 := Tryd.sizeOf4
  v4 := Tryd.zeroValue4
  t22 := Tryd.underlying45
  a22 := Tryd.isAgg45
  z22 := Tryd.sizeOf45
  v22 := Tryd.zeroValue45
  i3 := by kernel_rfl
attribute [local semireducible] Con
theorem Con.ofCallsS {P : Program} {f : FuncId} {args : Array Value} {G : GH} {μ : OH} {Φ : Value → GH → OH → Prop} (h : ∀ w, Mem G μ w → Calls P f args w fun e w' => ∃ v, e = .returned v ∧ ∃ G' μ', Step G μ w G' μ' w' ∧ Φ v G' μ') : Con P f args G μ Φ := by
  intro w hw
  exact (h w hw).mono fun e w' hq => by
    obtain ⟨v, rfl, hv⟩ := hq
    exact ⟨v, rfl, hv⟩
section
variable {G : GH} {μ μ' : OH} {w : World} {b : Nat} {e : TypeId}
theorem Step.mapS {vs vs' : List Value} {f : Array Value → Array Value} (hw : Mem G μ w) (hb : Has μ b vs e) (hf : f vs.toArray = vs'.toArray) (hu : Upd b (.cells vs'.toArray e (0, 0)) μ μ') : Step G μ w G μ' (Go.Sort.mapBlock w b f) := by
  have hg := hw.own _ _ hb
  refine Step.upd hw hu rfl rfl rfl (by simp [Go.Sort.mapBlock]) ?_ (fun c hc => ?_)
  · simp only [Go.Sort.mapBlock, Array.getElem?_modify, if_true, hg, Option.map_some, Go.Sort.onCells, hf]
  · simp only [Go.Sort.mapBlock, Array.getElem?_modify]
    rw [if_neg (fun h => hc h.symm)]
theorem Step.grow (h : Mem G μ w) (os : Array Obj) : Step G μ w G μ (Go.Sort.grow w os) := by
  have hold : ∀ c, c < w.heap.size → (Go.Sort.grow w os).heap[c]? = w.heap[c]? := fun c hc => by
    show (w.heap ++ os)[c]? = _
    rw [Array.getElem?_append_left hc]
  refine ⟨⟨fun c o hc => ?_, fun c o hc => ?_, h.nodup, h.apart⟩, GH.le_refl _, rfl, rfl, rfl, ?_, fun c hc _ => hold c hc, fun c o hc => .inl ⟨o, hc⟩, fun c o hc => .inl ⟨o, hc⟩⟩
  · rw [hold c (lt_of_heap (h.g c o hc))]; exact h.g c o hc
  · rw [hold c (lt_of_heap (h.own c o hc))]; exact h.own c o hc
  · show w.heap.size ≤ (w.heap ++ os).size
    simp
end
theorem holds_own {G : GH} {μ : OH} {w : World} {b : Nat} {e : TypeId} {zs : List Int} {spare : List Value} (hw : Mem G μ w) (hb : Has μ b (zs.map (Value.int .i64 ·) ++ spare) e) : Go.Sort.Holds (Value.int .i64) w b 0 zs.toArray := by
  intro j hj
  have hj' : j < zs.length := by simpa using hj
  refine ⟨?_, ?_⟩
  · rw [Nat.zero_add]
    refine Cell.own hb ?_ w hw.sees
    rw [List.getElem?_append_left (by simpa using hj'), List.getElem?_map, List.getElem?_eq_getElem hj']
    simp [hj']
  · have := hw.own _ _ hb
    simp [World.frozen?, this]
theorem putCells_own {zs ys : List Int} {spare : List Value} (h : ys.length = zs.length) : Go.Sort.putCells (Value.int .i64) 0 ys.toArray (zs.map (Value.int .i64 ·) ++ spare).toArray = (ys.map (Value.int .i64 ·) ++ spare).toArray := by
  apply Array.ext_getElem?
  intro k
  simp only [Go.Sort.putCells, Array.getElem?_mapIdx, List.getElem?_toArray, List.size_toArray, Nat.zero_le, true_and, Nat.zero_add, Nat.sub_zero]
  by_cases hk : k < ys.length
  · rw [List.getElem?_append_left (by simp; omega), List.getElem?_append_left (by simpa using hk)]
    simp [hk, h ▸ hk]
  · rw [List.getElem?_append_right (by simp; omega), List.getElem?_append_right (by simp; omega)]
    have hk2 : ¬ k < zs.length := by omega
    simp only [List.length_map, h]
    cases spare[k - zs.length]? with
    | none => rfl
    | some v => simp only [Option.map_some, hk2, if_false]
def sortL (l : List Int) : List Int := l.mergeSort fun x y => decide (x ≤ y)
theorem sortL_perm (l : List Int) : (sortL l).Perm l := List.mergeSort_perm _ _
theorem sortL_le (l : List Int) : (sortL l).Pairwise (· ≤ ·) := by
  have := List.pairwise_mergeSort (le := fun (x y : Int) => decide (x ≤ y)) (fun a b c h1 h2 => by simp only [decide_eq_true_eq] at *; omega) (fun a b => by simp only [Bool.or_eq_true, decide_eq_true_eq]; omega) l
  exact this.imp fun h => by simpa using h
theorem sort_s {G : GH} {zs : List Int} {b cap : Nat} {e : TypeId} {spare : List Value} (hsz : zs.length < 4611686018427387904) :
    Con Tryd.prog 71 #[.slice (some ⟨b, 0, none⟩) zs.length cap] G [(b, .cells (zs.map (Value.int .i64 ·) ++ spare).toArray e (0, 0))]
      (fun r G' μ' => r = .tuple #[] ∧ G' = G ∧ μ' = [(b, .cells ((sortL zs).map (Value.int .i64 ·) ++ spare).toArray e (0, 0))]) := by
  refine Con.ofCallsS fun w hw => ?_
  have hb : Has [(b, Obj.cells (zs.map (Value.int .i64 ·) ++ spare).toArray e (0, 0))] b (zs.map (Value.int .i64 ·) ++ spare) e := List.mem_cons_self
  refine (AnyM.slices_Sort_int laysSort b 0 cap zs w (holds_own hw hb) (lt_of_heap (hw.own _ _ hb)) hsz).mono ?_
  rintro _ w' ⟨rfl, n, os, rfl⟩
  have s1 := Step.drew hw n
  have s2 := Step.mapS (f := Go.Sort.putCells (Value.int .i64) 0 (sortL zs).toArray) s1.mem hb (putCells_own (sortL_perm zs).length_eq) (.here _ _)
  exact ⟨_, rfl, G, _, (s1.trans s2).trans (Step.grow s2.mem os), rfl, rfl, rfl⟩
theorem sort0_s {G : GH} {p : Option Addr} {cap : Nat} : Con Tryd.prog 71 #[.slice p 0 cap] G [] (Just (.tuple #[]) G) := by
  refine Con.ofCallsS fun w hw => ?_
  refine (AnyM.slices_Sort_int_none laysSort p cap w).mono ?_
  rintro _ w' ⟨rfl, rfl⟩
  exact ⟨_, rfl, G, [], Step.refl hw, rfl, rfl, rfl⟩
theorem compact_len (zs : List Int) : (Lib.compact zs).length ≤ zs.length := by
  unfold Lib.compact Lib.compactUpTo
  rw [List.length_map]
  exact Nat.le_trans (List.length_filter_le _ _) (by simp)
theorem compact_s {G : GH} {zs : List Int} {b cap : Nat} {e : TypeId} {spare : List Value} (hsz : zs.length ≤ 1048576) (hcap : zs.length ≤ cap) :
    Con Tryd.prog 74 #[.slice (some ⟨b, 0, none⟩) zs.length cap] G [(b, .cells (zs.map (Value.int .i64 ·) ++ spare).toArray e (0, 0))]
      (fun r G' μ' => r = .slice (some ⟨b, 0, none⟩) (Lib.compact zs).length cap ∧ G' = G ∧ ∃ r, μ' = [(b, .cells ((Lib.compact zs).map (Value.int .i64 ·) ++ r).toArray e (0, 0))]) := by
  refine Con.ofCallsS fun w hw => ?_
  have hb : Has [(b, Obj.cells (zs.map (Value.int .i64 ·) ++ spare).toArray e (0, 0))] b (zs.map (Value.int .i64 ·) ++ spare) e := List.mem_cons_self
  refine (Any.slices_Compact_int laysCompact b 0 cap zs w (holds_own hw hb) (by omega) hcap).mono ?_
  rintro _ w' ⟨rfl, q, rfl⟩
  have s1 := Step.drew hw q
  have s2 := Step.mapS (f := Go.Sort.putCells (Value.int .i64) 0 (Lib.compact zs ++ List.replicate (zs.length - (Lib.compact zs).length) 0).toArray) s1.mem hb (putCells_own (by have := compact_len zs; simp; omega)) (.here _ _)
  refine ⟨_, rfl, G, _, s1.trans s2, rfl, rfl, (List.replicate (zs.length - (Lib.compact zs).length) 0).map (Value.int .i64 ·) ++ spare, ?_⟩
  simp
theorem compact0_s {G : GH} {p : Option Addr} {cap : Nat} : Con Tryd.prog 74 #[.slice p 0 cap] G [] (Just (.slice p 0 cap) G) := by
  refine Con.ofCallsS fun w hw => ?_
  refine (Any.slices_Compact_int_empty laysCompact p cap w).mono ?_
  rintro _ w' ⟨rfl, rfl⟩
  exact ⟨_, rfl, G, [], Step.refl hw, rfl, rfl, rfl⟩
end Go.Proofs.YtmdeeokejdkceaaDoor
/-
  Majorities, in plain Lean: distinct members, counted in two ways; two majorities have a member in common.
-/
set_option linter.unusedSimpArgs false
set_option linter.unusedVariables false
namespace Go.Proofs.YtmdeeokejdkceaaDoor
open Go.Vx Go.ChangeShapes Go.WideShapes Go.ChangeAt Go.RowKit
theorem compact_lt {zs : List Int} (hs : zs.Pairwise (· ≤ ·)) : (Lib.compact zs).Pairwise (· < ·) := by
  unfold Lib.compact Lib.compactUpTo
  rw [List.pairwise_map]
  have h0 : ((List.range zs.length).filter (Lib.keeps zs.toArray)).Pairwise (· < ·) := List.Pairwise.filter _ List.pairwise_lt_range
  refine h0.imp_of_mem ?_
  intro i j hi hj hij
  simp only [List.mem_filter, List.mem_range] at hi hj
  obtain ⟨hi1, hi2⟩ := hi
  obtain ⟨hj1, hj2⟩ := hj
  have hd : zs[j - 1]'(by omega) ≠ zs[j] := by
    unfold Lib.keeps at hj2
    rw [decide_eq_true_iff] at hj2
    have e1 : zs.toArray[j]! = zs[j] := by simp [hj1]
    have e2 : zs.toArray[j - 1]! = zs[j - 1]'(by omega) := by simp [show j - 1 < zs.length by omega]
    rw [e1, e2] at hj2
    rcases hj2 with h | h
    · omega
    · exact fun e => h e.symm
  have hle : ∀ (a b : Nat) (hb : b < zs.length) (hab : a ≤ b), zs[a]'(by omega) ≤ zs[b] := fun a b hb hab => by
    by_cases e : a = b
    · subst e; exact Int.le_refl _
    · exact List.pairwise_iff_getElem.1 hs a b (by omega) hb (by omega)
  have h1 := hle i (j - 1) (by omega) (by omega)
  have h2 := hle (j - 1) j hj1 (by omega)
  have e1 : zs.toArray[i]! = zs[i] := by simp [hi1]
  have e2 : zs.toArray[j]! = zs[j] := by simp [hj1]
  rw [e1, e2]
  omega
theorem compact_mem {zs : List Int} {x : Int} : x ∈ Lib.compact zs ↔ x ∈ zs := by
  unfold Lib.compact Lib.compactUpTo
  rw [List.mem_map]
  constructor
  · rintro ⟨i, hi, rfl⟩
    simp only [List.mem_filter, List.mem_range] at hi
    have : zs.toArray[i]! = zs[i]'hi.1 := by simp [hi.1]
    rw [this]
    exact List.getElem_mem _
  · intro hx
    have hex : ∃ i, ∃ h : i < zs.length, zs[i] = x := by
      obtain ⟨i, h, e⟩ := List.getElem_of_mem hx
      exact ⟨i, h, e⟩
    obtain ⟨i, ⟨hi, rfl⟩, hmin⟩ := least hex
    refine ⟨i, ?_, by simp [hi]⟩
    simp only [List.mem_filter, List.mem_range]
    refine ⟨hi, ?_⟩
    unfold Lib.keeps
    rw [decide_eq_true_iff]
    by_cases h0 : i = 0
    · exact .inl h0
    · have hlt : i - 1 < zs.length := by omega
      have e1 : zs.toArray[i]! = zs[i] := by simp [hi]
      have e2 : zs.toArray[i - 1]! = zs[i - 1] := by simp [hlt]
      rw [e1, e2]
      refine .inr fun e => ?_
      have := hmin (i - 1) ⟨hlt, e.symm⟩
      omega
theorem lt_nodup {l : List Int} (h : l.Pairwise (· < ·)) : l.Nodup := h.imp fun h => by omega
theorem perm_of_mem {l l' : List Int} (h : l.Nodup) (h' : l'.Nodup) (hm : ∀ x, x ∈ l ↔ x ∈ l') : l.Perm l' := by
  rw [List.perm_iff_count]
  intro a
  rw [h.count, h'.count]
  simp only [hm a]
def once (l : List Int) : List Int := Lib.compact (sortL l)
theorem once_lt (l : List Int) : (once l).Pairwise (· < ·) := compact_lt (sortL_le l)
theorem once_mem {l : List Int} {x : Int} : x ∈ once l ↔ x ∈ l := by
  unfold once
  rw [compact_mem]
  exact (sortL_perm l).mem_iff
def majB (l of : List Int) : Bool := decide ((once l).length < 2 * (once l).countP (of.contains ·))
def firsts (l : List Int) : Nat → List Int
  | 0 => []
  | k + 1 => if h : k < l.length then (if (l.take k).contains l[k] then firsts l k else firsts l k ++ [l[k]]) else firsts l k
theorem firsts_mem {l : List Int} : ∀ {k : Nat}, k ≤ l.length → ∀ x, x ∈ firsts l k ↔ x ∈ l.take k
  | 0, _, x => by simp [firsts]
  | k + 1, hk, x => by
    have ih := firsts_mem (l := l) (k := k) (by omega)
    have hlt : k < l.length := by omega
    rw [firsts, dif_pos hlt, List.take_succ_eq_append_getElem hlt]
    split
    · rename_i h
      rw [ih, List.mem_append, List.mem_singleton]
      constructor
      · exact .inl
      · rintro (h1 | rfl)
        · exact h1
        · simpa using h
    · rw [List.mem_append, List.mem_append, ih]
theorem firsts_nodup {l : List Int} : ∀ {k : Nat}, k ≤ l.length → (firsts l k).Nodup
  | 0, _ => by simp [firsts]
  | k + 1, hk => by
    have ih := firsts_nodup (l := l) (k := k) (by omega)
    have hlt : k < l.length := by omega
    rw [firsts, dif_pos hlt]
    split
    · exact ih
    · rename_i h
      rw [List.nodup_append]
      refine ⟨ih, by simp, fun a ha b hb e => ?_⟩
      rw [List.mem_singleton] at hb
      subst hb e
      exact h (by simpa using (firsts_mem (by omega) _).1 ha)
theorem firsts_once (l : List Int) : (firsts l l.length).Perm (once l) :=
  perm_of_mem (firsts_nodup (Nat.le_refl _)) (lt_nodup (once_lt l)) fun x => by
    rw [firsts_mem (Nat.le_refl _), List.take_length, once_mem]
theorem maj_ref (l of : List Int) : majB l of = decide ((firsts l l.length).length < 2 * (firsts l l.length).countP (of.contains ·)) := by
  unfold majB
  rw [(firsts_once l).length_eq, (firsts_once l).countP_eq]
theorem values_s {G : GH} {A : Option Addr} {n c : Nat} : Con Tryd.prog 73 #[.slice A n c] G []
    (fun r G' μ' => ∃ b, r = .func (.func 98) #[] #[.pointer (some ⟨b, 0, none⟩)] ∧ G' = G ∧ μ' = [(b, .cells [.slice A n c].toArray 45 (0, 0))]) := by
  (refine v_enter Tryd.func73 rfl Tryd.ntmps73 rfl ?_; intro B _)
  repeat' (first | apply v_seq | apply v_region | apply v_nil | (apply v_pure; (case hop => first | (apply p_assign <;> rfl) | (apply p_makeFunc <;> rfl)); (case hd => rfl)) | (apply v_box; (case hx => rfl); (case hz => rfl); (case hd => rfl); intro b) | fail)
  refine v_ret [(b, _)] (outsA1 rfl rfl) (by repeat (exact List.Sublist.refl _)) ?_
  exact ⟨b, rfl, rfl, rfl⟩
theorem vals_seq {G : GH} {l : List Int} {A : Option Addr} {n c b : Nat} (hs : Sl G 1 (IntR .i64) (.slice A n c) l) (hl : l.length ≤ 1048576) : SeqCon Tryd.prog 98 [.pointer (some ⟨b, 0, none⟩)] keyI (fun xs => xs = l) l.length G [(b, .cells [.slice A n c].toArray 45 (0, 0))] := by
  intro lp J G1 ν hle hJ0 hY
  obtain ⟨A', c', e0, hlc, hcm, hsome, hel, -⟩ := (hs.mono hle).openInt
  cases e0
  simp only [maxLen] at hcm
  (refine v_enter Tryd.func98 rfl Tryd.ntmps98 rfl ?_; intro B _)
  repeat' (first | apply v_seq | apply v_region | apply v_nil | apply v_block | (apply v_pure; (case hop => first | (apply p_move <;> rfl) | (apply p_lenSlice <;> rfl) | fail); (case hd => rfl)) | (apply v_read; (case hop => (apply r_load1; rfl; (apply Cell.own; (case h => (repeat (exact mhd _))); rfl))); (case hd => rfl)) | fail)
  refine v_loopI (ι := Nat) [7, 5, 6, 0] (fun k vs G' μ' => GH.le G1 G' ∧ ∃ ν', k ≤ l.length ∧ vs = [Value.int .i64 (k : Nat), .slice A l.length c, .int .i64 (l.length : Nat), .func (.yield lp) #[] #[]] ∧ J (l.take k) G' ν' ∧ μ' = (b, .cells [.slice A l.length c].toArray 45 (0, 0)) :: ν') (fun k => l.length - k) rfl 0 ⟨GH.le_refl _, ν, by omega, rfl, hJ0, rfl⟩ ?_
  rintro k vs G' _ ⟨hle', ν', hk, rfl, hJ, rfl⟩
  by_cases hlt : k < l.length
  · have e1 : ((k : Nat) : Int).toNat = k := by omega
    have hc := GH.cell_le hle' (hel k hlt)
    have hA := hsome (by omega)
    have hy := hY (l.take k) l[k] G' ν' hle' hJ (by rw [List.length_take]; omega)
    rw [← List.take_succ_eq_append_getElem hlt] at hy
    generalize l[k] = x at *
    repeat' (first | apply v_seq | apply v_region | apply v_nil | apply v_skip | apply v_block | apply v_blk | (apply v_pure; (case hop => first | (apply p_move <;> rfl) | (apply p_lt <;> rfl) | (apply p_assign <;> rfl) | (apply p_not <;> rfl) | (apply p_add; (case hx => rfl); (case hy => rfl); (case h => omega)) | (apply p_indexAddrS; (case hx => rfl); (case hi => rfl); (case h0 => omega); (case h => omega); (case hA => assumption)) | fail); (case hd => rfl)) | (apply v_condF; (case hc => rfl)) | (apply v_cond; (case hc => rfl); all_goals (intro h; (try simp only [reduceCtorEq, zzz] at h); first | (exfalso; omega) | skip)) | (apply v_read; (case hop => (apply r_load1; rfl; exact Cell.frozen hc)); (case hd => rfl)) | (apply v_yield (hs := hy); (case hx => rfl); (case ha => rfl); (case hp => exact (List.perm_append_comm (l₁ := [(b, Obj.cells [Value.slice A l.length c].toArray 45 (0, 0))]) (l₂ := ν'))); (case hd => rfl); rintro _ G2 ν2 hle2 ⟨rfl, hJ2⟩) | fail)
    refine v_perm List.perm_append_comm ?_
    refine v_againI (k + 1) rfl ⟨GH.le_trans hle' hle2, ν2, by omega, rfl, hJ2, rfl⟩ (by omega)
  · repeat' (first | apply v_seq | apply v_region | apply v_nil | (apply v_exit; (case hp => rfl)) | (apply v_pure; (case hop => (apply p_lt <;> rfl)); (case hd => rfl)) | (apply v_cond; (case hc => rfl); all_goals (intro h; (try simp only [reduceCtorEq, zzz] at h); first | (exfalso; omega) | skip)) | fail)
    refine v_end _ (outsA0 rfl) (List.Sublist.refl _) ?_
    rw [List.take_of_length_le (by omega)] at hJ
    exact ⟨l, ν', rfl, hJ, rfl⟩
theorem appendSeq_s {G : GH} {gf : FuncId} [Callable Tryd.prog gf] {lb : List Value} {S : List Int → Prop} {N : Nat} {μ1 : OH} (hN : N ≤ 1048576) (hseq : SeqCon Tryd.prog gf lb keyI S N G μ1) :
    Con Tryd.prog 96 #[.slice none 0 0, .func (.func gf) #[] lb.toArray] G μ1 (fun r G' μ' => G' = G ∧ ∃ xs ν, S xs ∧ Grow 3 1 r xs.length (xs.map (Value.int .i64 ·)) ν ∧ μ' = ν ++ μ1) := by
  (refine v_enter Tryd.func96 rfl Tryd.ntmps96 rfl ?_; intro B _)
  repeat' (first | apply v_seq | apply v_region | apply v_nil | apply v_block | (apply v_pure; (case hop => first | (apply p_move <;> rfl) | (apply p_assign <;> rfl)); (case hd => rfl)) | (apply v_box; (case hx => rfl); (case hz => rfl); (case hd => rfl); intro b) | fail)
  refine v_rangeFunc (enc := keyI) (N := N) (S := S) (μ1 := μ1) (μ2 := [(b, .cells [.slice none 0 0].toArray 45 (0, 0))]) (σ' := fun x => _) (fun pre G' ν => G' = G ∧ ∃ v ν1, Grow 3 1 v pre.length (pre.map (Value.int .i64 ·)) ν1 ∧ ν = ν1 ++ [(b, .cells [v].toArray 45 (0, 0))]) rfl hseq ?_ rfl (fun x => Assigns.region (.cons (p_assign rfl) rfl (.nil _))) rfl ⟨rfl, _, [], Grow.nil _ _, rfl⟩ ?_ ?_
  · exact (List.perm_append_comm (l₁ := [(b, Obj.cells [Value.slice none 0 0].toArray 45 (0, 0))]) (l₂ := μ1))
  · rintro l B' _ pre x G2 _ hle ⟨rfl, v, ν1, hg, rfl⟩ hlen
    have hpl : pre.length ≤ 1048576 := by omega
    repeat' (first | apply v_region | apply v_nil | apply v_block | apply v_blk | (apply v_pure; (case hop => (apply p_move <;> rfl)); (case hd => rfl)) | (apply v_append (hg := hg) (m' := 1) (us := [keyI x]) (hp := PickA.perm (by repeat (first | exact PickA.here _ | apply PickA.cons))) (hsrc := Src.own (e := 3) (by repeat (exact mhd _)) rfl); (case hzs => rfl); (case hsz => omega); (case hs => rfl); (case hx => rfl); (case hb => omega); (case hb' => simp only [maxLen]; omega); (case hd => rfl); (case h1 => rfl); intro v3 n3 hg3; obtain ⟨A3, c3, rfl, -, -⟩ := hg3.shape) | (apply v_read; (case hop => (apply r_load1; rfl; (apply Cell.own; (case h => (repeat (first | exact mhd _ | apply List.mem_append_right))); rfl))); (case hd => rfl)) | (apply v_buildSlice; (case hz => rfl); (case hi => rfl); (case hv => (simp only [List.map_cons, List.map_nil]; repeat (first | with_reducible exact evs_nil | (apply evs_cons; (case h1 => rfl))))); (case hp => (apply pk_cons; (case hc => rfl); (case hs => rfl); (case h => (with_reducible exact pk_nil)); (case he => ((repeat (first | with_reducible exact ap_nil | apply ap_cons)); done)))); (case hb => rfl); (case hd => rfl); intro b) | (apply v_store; (case hp => rfl); (case hx => rfl); (case hc => rfl); (case hsz => rfl); (case h1 => rfl); (case hb => (repeat (first | exact mhd _ | apply mtl | apply List.mem_append_right))); (case hfit => exact nle rfl); (case hov => ((repeat (first | with_reducible exact ov_nil | apply ov_cons)); done)); (case hu => repeat (first | exact Upd.here _ _ | apply Upd.there | apply Upd.app))) | fail)
    refine v_endR (n3 ++ [_]) (List.Sublist.append_left (by repeat (first | exact List.Sublist.refl _ | apply List.Sublist.cons)) _) ⟨rfl, rfl, _, n3, by simpa using hg3, rfl⟩
  · rintro B' D _ xs G2 _ hle hS ⟨rfl, v, ν1, hg, rfl⟩
    repeat' (first | apply v_seq | apply v_region | apply v_nil | apply v_blk | (apply v_pure; (case hop => (apply p_assign <;> rfl)); (case hd => rfl)) | (apply v_read; (case hop => (apply r_load1; rfl; (apply Cell.own; (case h => (repeat (first | exact mhd _ | apply mtl | apply List.mem_append_right))); rfl))); (case hd => rfl)) | fail)
    refine v_retD (Ds := [D]) (μ1 := (ν1 ++ μ1) ++ [(b, .cells [v].toArray 45 (0, 0))]) (ν1 ++ μ1) (fun ds a ha w _ => outs1 rfl rfl ds a ha) ?_ (List.sublist_append_left _ _) ⟨rfl, xs, ν1, hS, hg, rfl⟩
    exact (show List.Perm (μ1 ++ (ν1 ++ [(b, Obj.cells [v].toArray 45 (0, 0))])) (ν1 ++ μ1 ++ [(b, Obj.cells [v].toArray 45 (0, 0))]) from (by apply perm_of_count; intro p; simp only [List.append_eq, List.countP_append, List.countP_cons, List.countP_nil, Nat.zero_add, Nat.add_zero]; try ac_rfl)).cons _
theorem collect_s {G : GH} {gf : FuncId} [Callable Tryd.prog gf] {lb : List Value} {S : List Int → Prop} {N : Nat} {μ1 : OH} (hN : N ≤ 1048576) (hseq : SeqCon Tryd.prog gf lb keyI S N G μ1) :
    Con Tryd.prog 70 #[.func (.func gf) #[] lb.toArray] G μ1 (fun r G' μ' => G' = G ∧ ∃ xs ν, S xs ∧ Grow 3 1 r xs.length (xs.map (Value.int .i64 ·)) ν ∧ μ' = ν ++ μ1) := by
  have q := appendSeq_s hN hseq
  (refine v_enter Tryd.func70 rfl Tryd.ntmps70 rfl ?_; intro B _)
  repeat' (first | apply v_seq | apply v_region | apply v_nil | (apply v_pure; (case hop => first | (apply p_move <;> rfl) | (apply p_assign <;> rfl)); (case hd => rfl)) | fail)
  refine v_call (μ1 := μ1) (μ2 := []) rfl q (by simp) rfl ?_
  rintro r _ _ - ⟨rfl, xs, ν, hS, hg, rfl⟩
  repeat' (first | apply v_nil | (apply v_pure; (case hop => (apply p_assign <;> rfl)); (case hd => rfl)) | fail)
  refine v_ret (ν ++ μ1) (outsA1 rfl rfl) (by simp) ⟨rfl, xs, ν, hS, hg, rfl⟩
def inB (l : List Int) (n : Int) : Bool := decide (n ∈ l)
theorem in_s {G : GH} {l : List Int} {sv : Value} (n : Int) (hs : Sl G 1 (IntR .i64) sv l) : Con Tryd.prog 44 #[sv, .int .i64 n] G [] (Just (.bool (inB l n)) G) := by
  obtain ⟨A, c, rfl, hlc, hcm, hsome, hel, _⟩ := hs.openInt
  simp only [maxLen] at hcm
  (refine v_enter Tryd.func44 rfl Tryd.ntmps44 rfl ?_; intro B _)
  repeat' (first | apply v_seq | apply v_region | apply v_nil | apply v_block | (apply v_pure; (case hop => (apply p_assign <;> rfl)); (case hd => rfl)) | fail)
  refine v_loop [5, 0, 1] (fun us G' μ' => G' = G ∧ μ' = [] ∧ ∃ k, k ≤ l.length ∧ us = [Value.int .i64 (k : Nat), .slice A l.length c, .int .i64 n] ∧ ∀ i (h : i < l.length), i < k → l[i] ≠ n) (fun us => l.length - (headI us).toNat) rfl ⟨rfl, rfl, 0, by omega, rfl, by omega⟩ ?_
  rintro us G' μ' ⟨rfl, rfl, k, hk, rfl, hno⟩
  repeat' (first | apply v_seq | apply v_region | apply v_nil | apply v_skip | apply v_block | apply v_blk | (apply v_exit; (case hp => rfl)) | (apply v_pure; (case hop => first | (apply p_move <;> rfl) | (apply p_eq <;> rfl) | (apply p_lt <;> rfl) | (apply p_assign <;> rfl) | (apply p_lenSlice <;> rfl) | (apply p_add; (case hx => rfl); (case hy => rfl); (case h => omega)) | (apply p_indexAddrS; (case hx => rfl); (case hi => rfl); (case h0 => omega); (case h => omega); (case hA => (apply_assumption; omega))) | fail); (case hd => rfl)) | (apply v_cond; (case hc => rfl); all_goals (intro h; (try simp only [reduceCtorEq, zzz] at h))) | (apply v_read; (case hop => (apply r_load1; rfl; exact Cell.frozen (hel _ (by omega)))); (case hd => rfl)) | fail)
  · refine v_ret [] (outsA1 rfl rfl) (by repeat (exact List.Sublist.refl _)) ?_
    refine ⟨?_, rfl, rfl⟩
    rw [inB, decide_eq_true (by rename_i h; rw [← h]; exact List.getElem_mem _)]
  · refine v_again rfl ⟨rfl, rfl, k + 1, by omega, rfl, fun i h hi => ?_⟩ (by simp [headI]; omega)
    by_cases hik : i = k
    · subst hik; assumption
    · exact hno i h (by omega)
  · refine v_ret [] (outsA1 rfl rfl) (by repeat (exact List.Sublist.refl _)) ?_
    refine ⟨?_, rfl, rfl⟩
    rw [inB, decide_eq_false]
    intro hm
    obtain ⟨i, hi, he⟩ := List.getElem_of_mem hm
    exact hno i hi (by omega) he
theorem index_s {G : GH} {l : List Int} {sv : Value} (n : Int) (hs : Sl G 1 (IntR .i64) sv l) : Con Tryd.prog 99 #[sv, .int .i64 n] G [] (fun r G' μ' => G' = G ∧ μ' = [] ∧ ∃ i : Int, r = .int .i64 i ∧ decide (0 ≤ i) = inB l n) := by
  obtain ⟨A, c, rfl, hlc, hcm, hsome, hel, _⟩ := hs.openInt
  simp only [maxLen] at hcm
  (refine v_enter Tryd.func99 rfl Tryd.ntmps99 rfl ?_; intro B _)
  repeat' (first | apply v_seq | apply v_region | apply v_nil | apply v_block | (apply v_pure; (case hop => first | (apply p_move <;> rfl) | (apply p_assign <;> rfl) | (apply p_lenSlice <;> rfl) | fail); (case hd => rfl)) | fail)
  refine v_loop [8, 7, 0, 1] (fun us G' μ' => G' = G ∧ μ' = [] ∧ ∃ k, k ≤ l.length ∧ us = [Value.int .i64 (k : Nat), .int .i64 l.length, .slice A l.length c, .int .i64 n] ∧ ∀ i (h : i < l.length), i < k → l[i] ≠ n) (fun us => l.length - (headI us).toNat) rfl ⟨rfl, rfl, 0, by omega, rfl, by omega⟩ ?_
  rintro us G' μ' ⟨rfl, rfl, k, hk, rfl, hno⟩
  repeat' (first | apply v_seq | apply v_region | apply v_nil | apply v_skip | apply v_block | apply v_blk | (apply v_exit; (case hp => rfl)) | (apply v_pure; (case hop => first | (apply p_move <;> rfl) | (apply p_eq <;> rfl) | (apply p_lt <;> rfl) | (apply p_assign <;> rfl) | (apply p_add; (case hx => rfl); (case hy => rfl); (case h => omega)) | (apply p_indexAddrS; (case hx => rfl); (case hi => rfl); (case h0 => omega); (case h => omega); (case hA => (apply_assumption; omega))) | fail); (case hd => rfl)) | (apply v_cond; (case hc => rfl); all_goals (intro h; (try simp only [reduceCtorEq, zzz] at h))) | (apply v_read; (case hop => (apply r_load1; rfl; exact Cell.frozen (hel _ (by omega)))); (case hd => rfl)) | fail)
  · refine v_ret [] (outsA1 rfl rfl) (by repeat (exact List.Sublist.refl _)) ?_
    refine ⟨rfl, rfl, _, rfl, ?_⟩
    rw [inB, decide_eq_true (p := n ∈ l) (by rename_i h; rw [h]; exact List.getElem_mem _), decide_eq_true (by omega)]
  · refine v_again rfl ⟨rfl, rfl, k + 1, by omega, rfl, fun i h hi => ?_⟩ (by simp [headI]; omega)
    by_cases hik : i = k
    · subst hik; exact fun e => ‹¬ n = _› e.symm
    · exact hno i h (by omega)
  · refine v_ret [] (outsA1 rfl rfl) (by repeat (exact List.Sublist.refl _)) ?_
    refine ⟨rfl, rfl, _, rfl, ?_⟩
    rw [inB, decide_eq_false (p := n ∈ l), decide_eq_false (by omega)]
    intro hm
    obtain ⟨i, hi, he⟩ := List.getElem_of_mem hm
    exact hno i hi (by omega) he
theorem contains_s {G : GH} {l : List Int} {sv : Value} (n : Int) (hs : Sl G 1 (IntR .i64) sv l) : Con Tryd.prog 75 #[sv, .int .i64 n] G [] (Just (.bool (inB l n)) G) := by
  (refine v_enter Tryd.func75 rfl Tryd.ntmps75 rfl ?_; intro B _)
  repeat' (first | apply v_seq | apply v_region | apply v_nil | (apply v_pure; (case hop => first | (apply p_move <;> rfl) | (apply p_assign <;> rfl)); (case hd => rfl)) | fail)
  refine v_call (μ1 := []) (μ2 := []) rfl (index_s n hs) (List.Perm.refl _) rfl ?_
  rintro r G' μ1 - ⟨rfl, rfl, i, rfl, hi⟩
  repeat' (first | apply v_nil | (apply v_pure; (case hop => first | (apply p_ge <;> rfl) | (apply p_assign <;> rfl)); (case hd => rfl)) | fail)
  refine v_ret [] (outsA1 rfl rfl) (by repeat (exact List.Sublist.refl _)) ?_
  exact ⟨by rw [dec_eq, hi], rfl, rfl⟩
theorem Grow.cases {e : TypeId} {v : Value} {m : Nat} {xs : List Value} {ν : OH} (h : Grow e 1 v m xs ν) : (v = .slice none 0 0 ∧ m = 0 ∧ xs = [] ∧ ν = []) ∨ ∃ b cap spare, v = .slice (some ⟨b, 0, none⟩) m cap ∧ m ≤ cap ∧ cap ≤ maxLen ∧ ν = [(b, .cells (xs ++ spare).toArray e (0, 0))] ∧ xs.length = m ∧ (xs ++ spare).length = cap := by
  obtain ⟨hx, ⟨rfl, rfl, rfl⟩ | ⟨b, cap, spare, rfl, rfl, h1, h2, h3⟩⟩ := h
  · left
    exact ⟨rfl, rfl, by simpa using hx, rfl⟩
  · right
    exact ⟨b, cap, spare, rfl, h1, h2, rfl, by simpa using hx, by simpa using h3⟩
theorem grow_of {e : TypeId} {b m cap : Nat} {xs spare : List Value} (h1 : xs.length = m) (h2 : m ≤ cap) (h3 : cap ≤ maxLen) (h4 : (xs ++ spare).length = cap) : Grow e 1 (.slice (some ⟨b, 0, none⟩) m cap) m xs [(b, .cells (xs ++ spare).toArray e (0, 0))] :=
  ⟨by omega, .inr ⟨b, cap, spare, rfl, rfl, h2, h3, by omega⟩⟩
theorem sorted_s {G : GH} {gf : FuncId} [Callable Tryd.prog gf] {lb : List Value} {S : List Int → Prop} {N : Nat} {μ1 : OH} (hN : N ≤ 1048576) (hS : ∀ xs, S xs → xs.length ≤ 1048576) (hseq : SeqCon Tryd.prog gf lb keyI S N G μ1) :
    Con Tryd.prog 40 #[.func (.func gf) #[] lb.toArray] G μ1 (fun r G' μ' => G' = G ∧ ∃ xs ν, S xs ∧ Grow 3 1 r xs.length ((sortL xs).map (Value.int .i64 ·)) ν ∧ μ' = ν ++ μ1) := by
  have q := collect_s hN hseq
  (refine v_enter Tryd.func40 rfl Tryd.ntmps40 rfl ?_; intro B _)
  repeat' (first | apply v_seq | apply v_region | apply v_nil | (apply v_pure; (case hop => first | (apply p_move <;> rfl) | (apply p_assign <;> rfl)); (case hd => rfl)) | fail)
  refine v_call (μ1 := μ1) (μ2 := []) rfl q (by simp) rfl ?_
  rintro r G1 _ - ⟨rfl, xs, ν, hSx, hg, rfl⟩
  have hlen := hS _ hSx
  obtain ⟨rfl, h0, h1, rfl⟩ | ⟨b, cap, spare, rfl, hc, hm, rfl, hxl, hcl⟩ := Grow.cases hg
  · have hx0 : xs = [] := List.eq_nil_of_length_eq_zero h0
    subst hx0
    repeat' (first | apply v_seq | apply v_region | apply v_nil | (apply v_pure; (case hop => first | (apply p_move <;> rfl) | (apply p_assign <;> rfl)); (case hd => rfl)) | (apply v_call (hs := sort0_s); (case ha => rfl); (case hp => exact List.Perm.refl _); (case hd => rfl); rintro _ _ _ _ ⟨rfl, rfl, rfl⟩) | fail)
    refine v_ret μ1 (outsA1 rfl rfl) (by simp) ⟨rfl, [], [], hSx, by simpa [sortL] using Grow.nil _ _, rfl⟩
  · have q2 := sort_s (G := G1) (zs := xs) (b := b) (cap := cap) (e := 3) (spare := spare) (by omega)
    repeat' (first | apply v_seq | apply v_region | apply v_nil | (apply v_pure; (case hop => first | (apply p_move <;> rfl) | (apply p_assign <;> rfl)); (case hd => rfl)) | fail)
    refine v_call (μ1 := [(b, _)]) (μ2 := μ1) rfl q2 (by simp) rfl ?_
    rintro _ G2 _ hle2 ⟨rfl, rfl, rfl⟩
    repeat' (first | apply v_seq | apply v_region | apply v_nil | (apply v_pure; (case hop => first | (apply p_move <;> rfl) | (apply p_assign <;> rfl)); (case hd => rfl)) | fail)
    refine v_ret ([(b, _)] ++ μ1) (outsA1 rfl rfl) (List.Sublist.refl _) ⟨rfl, xs, _, hSx, grow_of (by simp [(sortL_perm xs).length_eq]) hc hm (by simpa [(sortL_perm xs).length_eq] using hcl), rfl⟩
theorem inB_eq (l : List Int) (x : Int) : inB l x = l.contains x := by
  unfold inB
  rw [List.contains_eq_mem]
theorem maj_s {G : GH} {l of : List Int} {lv ov : Value} (hl : Sl G 1 (IntR .i64) lv l) (ho : Sl G 1 (IntR .i64) ov of) (hb : l.length ≤ 10000) : Con Tryd.prog 43 #[lv, ov] G [] (Just (.bool (majB l of)) G) := by
  obtain ⟨A, c, rfl, hlc, hcm, hsome, hel, hwl⟩ := id hl.openInt
  have q1 := values_s (G := G) (A := A) (n := l.length) (c := c)
  have q3 := fun G' (h : GH.le G G') x => contains_s x (ho.mono h)
  obtain ⟨A', c', rfl, hlc', hcm', hsome', hel', -⟩ := id ho.openInt
  (refine v_enter Tryd.func43 rfl Tryd.ntmps43 rfl ?_; intro B _)
  repeat' (first | apply v_seq | apply v_region | apply v_nil | (apply v_pure; (case hop => first | (apply p_move <;> rfl) | (apply p_assign <;> rfl) | fail); (case hd => rfl)) | fail)
  refine v_call (μ1 := []) (μ2 := []) rfl q1 (List.Perm.refl _) rfl ?_
  rintro _ _ _ - ⟨b, rfl, rfl, rfl⟩
  have q2 := sorted_s (by omega) (fun xs h => by rw [h]; omega) (vals_seq (b := b) hl (by omega))
  repeat' (fail)
  refine v_call (μ1 := [(b, _)]) (μ2 := []) rfl q2 (by simp) rfl ?_
  rintro r G1 _ - ⟨rfl, xs, ν, hxs, hg, rfl⟩
  subst hxs
  have hperm := sortL_perm xs
  have hlen := hperm.length_eq
  have hol := compact_len (sortL xs)
  obtain ⟨rfl, h0, h1, rfl⟩ | ⟨b2, cap, spare, rfl, hc, hm, rfl, hxl, hcl⟩ := Grow.cases hg
  · have hx0 : xs = [] := List.eq_nil_of_length_eq_zero h0
    subst hx0
    have hmaj : majB [] of = false := by simp [majB, once, sortL, Lib.compact, Lib.compactUpTo]
    rw [hmaj]
    repeat' (first | apply v_seq | apply v_region | apply v_nil | apply v_block | (apply v_pure; (case hop => first | (apply p_move <;> rfl) | (apply p_assign <;> rfl) | (apply p_lenSlice <;> rfl) | fail); (case hd => rfl)) | (apply v_callJ (hs := compact0_s); (case ha => rfl); (case hd => rfl)) | fail)
    refine v_loop [15, 14, 6, 5] (fun us G' μ' => G' = G1 ∧ us = [Value.int .i64 0, .int .i64 (0 : Nat), .int .i64 0, .slice none 0 0]) (fun us => 0) rfl ⟨rfl, rfl⟩ ?_
    rintro us G' μ' ⟨rfl, rfl⟩
    repeat' (first | apply v_seq | apply v_region | apply v_nil | (apply v_exit; (case hp => rfl)) | (apply v_pure; (case hop => first | (apply p_move <;> rfl) | (apply p_lt <;> rfl) | (apply p_gt <;> rfl) | (apply p_assign <;> rfl) | (apply p_lenSlice <;> rfl) | (apply p_mul; (case hx => rfl); (case hy => rfl); (case h => omega))); (case hd => rfl)) | (apply v_cond; (case hc => rfl); all_goals (intro h; (try simp only [reduceCtorEq, zzz] at h); first | (exfalso; omega) | skip)) | fail)
    refine v_ret [] (outsA1 rfl rfl) (List.nil_sublist _) ⟨?_, rfl, rfl⟩
    rw [dec_neg (by omega)]
  · have q4 := compact_s (G := G1) (zs := sortL xs) (b := b2) (cap := cap) (e := 3) (spare := spare) (by omega) (by omega)
    rw [hlen] at q4
    repeat' (fail)
    refine v_call (μ1 := [(b2, _)]) (μ2 := [(b, .cells [.slice A xs.length c].toArray 45 (0, 0))]) rfl q4 (by simp) rfl ?_
    rintro _ G2 _ hle2 ⟨rfl, rfl, sp, rfl⟩
    have e0 : Lib.compact (sortL xs) = once xs := rfl
    rw [e0] at hol ⊢
    have hon : (once xs).length ≤ 10000 := by omega
    have hmj : majB xs of = decide ((once xs).length < 2 * (once xs).countP (inB of ·)) := by
      unfold majB
      simp only [inB_eq]
    rw [hmj]
    generalize once xs = L at *
    repeat' (first | apply v_seq | apply v_region | apply v_nil | apply v_block | (apply v_pure; (case hop => first | (apply p_move <;> rfl) | (apply p_assign <;> rfl) | (apply p_lenSlice <;> rfl) | fail); (case hd => rfl)) | fail)
    refine v_loop [15, 14, 6, 5, 13, 1] (fun us G' μ' => G' = G2 ∧ μ' = [(b2, .cells (L.map (Value.int .i64 ·) ++ sp).toArray 3 (0, 0)), (b, .cells [.slice A xs.length c].toArray 45 (0, 0))] ∧ ∃ k, k ≤ L.length ∧ us = [Value.int .i64 (k : Nat), .int .i64 (L.length : Nat), .int .i64 ((L.take k).countP (inB of ·) : Nat), .slice (some ⟨b2, 0, none⟩) L.length cap, .slice (some ⟨b2, 0, none⟩) L.length cap, .slice A' of.length c']) (fun us => L.length - (headI us).toNat) rfl ⟨rfl, rfl, 0, by omega, rfl⟩ ?_
    rintro us G' μ' ⟨rfl, rfl, k, hk, rfl⟩
    by_cases hlt : k < L.length
    · have e1 : ((k : Nat) : Int).toNat = k := by omega
      have hval : (L.map (Value.int .i64 ·) ++ sp)[((k : Nat) : Int).toNat * 1]? = some (.int .i64 L[k]) := by
        rw [e1, Nat.mul_one, List.getElem?_append_left (by simpa using hlt), List.getElem?_map, List.getElem?_eq_getElem hlt]
        rfl
      have hcnt : (L.take (k + 1)).countP (inB of ·) = (L.take k).countP (inB of ·) + (if inB of L[k] = true then 1 else 0) := by
        rw [List.take_succ_eq_append_getElem hlt, List.countP_append, List.countP_singleton]
      have hcb : (L.take k).countP (inB of ·) ≤ k := Nat.le_trans List.countP_le_length (by rw [List.length_take]; omega)
      generalize L[k] = x at *
      generalize (L.take k).countP (inB of ·) = m at *
      have q := q3 _ (GH.le_refl _) x
      generalize inB of x = ib at *
      repeat' (first | apply v_seq | apply v_region | apply v_nil | apply v_skip | apply v_block | apply v_blk | (apply v_pure; (case hop => first | (apply p_move <;> rfl) | (apply p_lt <;> rfl) | (apply p_assign <;> rfl) | (apply p_add; (case hx => rfl); (case hy => rfl); (case h => omega)) | (apply p_indexAddr; (case hx => rfl); (case hi => rfl); (case h0 => omega); (case h => omega)) | fail); (case hd => rfl)) | (apply v_cond; (case hc => rfl); all_goals (intro h; (try simp only [reduceCtorEq, zzz] at h); first | (exfalso; omega) | skip)) | (apply v_read; (case hop => (apply r_load1; rfl; exact CellsAt.own (by repeat (exact mhd _)) _ _ hval)); (case hd => rfl)) | (apply v_callJ (hs := q); (case ha => rfl); (case hd => rfl)) | fail)
      · rw [if_pos h] at hcnt
        refine v_again rfl ⟨rfl, rfl, k + 1, by omega, by rw [hcnt]; rfl⟩ (by simp [headI]; omega)
      · rw [if_neg (by rw [h]; simp), Nat.add_zero] at hcnt
        refine v_again rfl ⟨rfl, rfl, k + 1, by omega, by rw [hcnt]; rfl⟩ (by simp [headI]; omega)
    · have htk : L.take k = L := List.take_of_length_le (by omega)
      rw [htk]
      have hcb : L.countP (inB of ·) ≤ L.length := List.countP_le_length
      generalize L.countP (inB of ·) = m at *
      repeat' (first | apply v_seq | apply v_region | apply v_nil | (apply v_exit; (case hp => rfl)) | (apply v_pure; (case hop => first | (apply p_move <;> rfl) | (apply p_lt <;> rfl) | (apply p_gt <;> rfl) | (apply p_assign <;> rfl) | (apply p_lenSlice <;> rfl) | (apply p_mul; (case hx => rfl); (case hy => rfl); (case h => omega))); (case hd => rfl)) | (apply v_cond; (case hc => rfl); all_goals (intro h; (try simp only [reduceCtorEq, zzz] at h); first | (exfalso; omega) | skip)) | fail)
      refine v_ret [] (outsA1 rfl rfl) (List.nil_sublist _) ⟨?_, rfl, rfl⟩
      rw [dec_eq]
      congr 1
      rw [decide_eq_decide]
      omega
theorem firsts_len (l : List Int) : ∀ k, (firsts l k).length ≤ k
  | 0 => by simp [firsts]
  | k + 1 => by
    have ih := firsts_len l k
    rw [firsts]
    split
    · split
      · omega
      · rw [List.length_append, List.length_singleton]
        omega
    · omega
theorem refMaj_s {G : GH} {l of : List Int} {lv ov : Value} (hl : Sl G 1 (IntR .i64) lv l) (ho : Sl G 1 (IntR .i64) ov of) (hb : l.length ≤ 10000) : Con Tryd.prog 27 #[lv, ov] G [] (Just (.bool (majB l of)) G) := by
  have qo := fun x => in_s x ho
  obtain ⟨A, c, rfl, hlc, hcm, hsome, hel, hwl⟩ := id hl.openInt
  obtain ⟨A', c', rfl, hlc', hcm', hsome', hel', -⟩ := id ho.openInt
  simp only [maxLen] at hcm hcm'
  apply Con.just
  rw [maj_ref]
  (refine v_enter Tryd.func27 rfl Tryd.ntmps27 rfl ?_; intro B _)
  repeat' (first | apply v_seq | apply v_region | apply v_nil | apply v_block | (apply v_pure; (case hop => (apply p_assign <;> rfl)); (case hd => rfl)) | fail)
  refine v_loop [7, 5, 6, 0, 1] (fun us G' μ' => G' = G ∧ μ' = [] ∧ ∃ k, k ≤ l.length ∧ us = [Value.int .i64 (k : Nat), .int .i64 ((firsts l k).length : Nat), .int .i64 ((firsts l k).countP (inB of ·) : Nat), .slice A l.length c, .slice A' of.length c']) (fun us => l.length - (headI us).toNat) rfl ⟨rfl, rfl, 0, by omega, rfl⟩ ?_
  rintro us G' μ' ⟨rfl, rfl, k, hk, rfl⟩
  have hfl := firsts_len l k
  have hfc : (firsts l k).countP (inB of ·) ≤ (firsts l k).length := List.countP_le_length
  by_cases hlt : k < l.length
  · have e1 : ((k : Nat) : Int).toNat = k := by omega
    have hA := hsome (by omega)
    have hc0 := hel k hlt
    have ht : Sl G' 1 (IntR .i64) (.slice A k c) (l.take k) := hl.take hk
    have qi := in_s (l[k]) ht
    have hnx : firsts l (k + 1) = if inB (l.take k) l[k] = true then firsts l k else firsts l k ++ [l[k]] := by
      rw [firsts, dif_pos hlt, inB_eq]
    have qx := qo l[k]
    generalize l[k] = x at *
    generalize inB (l.take k) x = ib at *
    repeat' (first | apply v_seq | apply v_region | apply v_nil | apply v_skip | apply v_block | (apply v_pure; (case hop => first | (apply p_move <;> rfl) | (apply p_lt <;> rfl) | (apply p_lenSlice <;> rfl) | fail); (case hd => rfl)) | (apply v_cond; (case hc => rfl); all_goals (intro h; (try simp only [reduceCtorEq, zzz] at h); first | (exfalso; omega) | skip)) | fail)
    refine d_start _ (by kernel_rfl) (by kernel_rfl) (by kernel_rfl) (fun _ he => he) ?_
    all_goals (apply dtk 0; (case hi => rfl); (case hop => (apply prd; apply p_move <;> rfl)); (case hq => kernel_rfl))
    all_goals (apply dtk 1; (case hi => rfl); (case hop => (apply prd; apply p_move <;> rfl)); (case hq => kernel_rfl))
    all_goals (apply dtk 2; (case hi => rfl); (case hop => (apply prd; apply p_sliceH; (case hx => rfl); (case hh => rfl); all_goals omega)); (case hq => kernel_rfl))
    all_goals (apply dtk 3; (case hi => rfl); (case hop => (apply prd; apply p_move <;> rfl)); (case hq => kernel_rfl))
    all_goals (apply dtk 4; (case hi => rfl); (case hop => (apply prd; apply p_move <;> rfl)); (case hq => kernel_rfl))
    all_goals (apply dtk 5; (case hi => rfl); (case hop => (apply prd; apply p_indexAddrS; (case hx => rfl); (case hi => rfl); (case h0 => omega); (case h => omega); (case hA => assumption))); (case hq => kernel_rfl))
    all_goals (apply dtk 6; (case hi => rfl); (case hop => ((apply r_load1; rfl; exact Cell.frozen hc0))); (case hq => kernel_rfl))
    all_goals (apply d_callJ 7 (hs := qi); (case hi => rfl); (case hr => kernel_rfl); (case ha => rfl); (case hd => rfl))
    all_goals (apply d_done; (case hr => kernel_rfl))
    repeat' (first | apply v_seq | apply v_region | apply v_nil | apply v_skip | apply v_blk | (apply v_exit; (case hp => rfl)) | (apply v_pure; (case hop => first | (apply p_move <;> rfl) | (apply p_assign <;> rfl) | (apply p_add; (case hx => rfl); (case hy => rfl); (case h => omega)) | (apply p_indexAddrS; (case hx => rfl); (case hi => rfl); (case h0 => omega); (case h => omega); (case hA => assumption)) | fail); (case hd => rfl)) | (apply v_cond; (case hc => rfl); all_goals (intro h; (try simp only [reduceCtorEq, zzz] at h))) | (apply v_read; (case hop => (apply r_load1; rfl; exact Cell.frozen hc0)); (case hd => rfl)) | (apply v_callJ (hs := qx); (case ha => rfl); (case hd => rfl)) | fail)
    · rw [if_pos h] at hnx
      refine v_again rfl ⟨rfl, rfl, k + 1, by omega, by rw [hnx]; rfl⟩ (by simp [headI]; omega)
    · rw [if_neg (by simp_all)] at hnx
      have e2 : (firsts l (k + 1)).length = (firsts l k).length + 1 := by rw [hnx]; simp
      have e3 : (firsts l (k + 1)).countP (inB of ·) = (firsts l k).countP (inB of ·) + 1 := by rw [hnx, List.countP_append, List.countP_singleton, if_pos h]
      refine v_again rfl ⟨rfl, rfl, k + 1, by omega, by rw [e2, e3]; rfl⟩ (by simp [headI]; omega)
    · rw [if_neg (by simp_all)] at hnx
      have e2 : (firsts l (k + 1)).length = (firsts l k).length + 1 := by rw [hnx]; simp
      have e3 : (firsts l (k + 1)).countP (inB of ·) = (firsts l k).countP (inB of ·) := by rw [hnx, List.countP_append, List.countP_singleton, if_neg (by rw [h]; simp), Nat.add_zero]
      refine v_again rfl ⟨rfl, rfl, k + 1, by omega, by rw [e2, e3]; rfl⟩ (by simp [headI]; omega)
  · have e1 : k = l.length := by omega
    subst e1
    have hmm : (firsts l l.length).countP (of.contains ·) = (firsts l l.length).countP (inB of ·) := by simp only [inB_eq]
    rw [hmm]
    generalize (firsts l l.length).countP (inB of ·) = n2 at *
    generalize (firsts l l.length).length = n1 at *
    repeat' (first | apply v_seq | apply v_region | apply v_nil | (apply v_exit; (case hp => rfl)) | (apply v_pure; (case hop => first | (apply p_move <;> rfl) | (apply p_lt <;> rfl) | (apply p_gt <;> rfl) | (apply p_assign <;> rfl) | (apply p_lenSlice <;> rfl) | (apply p_sub; (case hx => rfl); (case hy => rfl); (case h => omega)) | fail); (case hd => rfl)) | (apply v_cond; (case hc => rfl); all_goals (intro h; (try simp only [reduceCtorEq, zzz] at h); first | (exfalso; omega) | skip)) | fail)
    refine v_ret [] (outsA1 rfl rfl) (List.nil_sublist _) ⟨?_, rfl⟩
    rw [dec_eq]
    congr 1
    rw [decide_eq_decide]
    omega
theorem leftM_perm {left : List Int} {a : Int} (hn : left.Nodup) (ha : a ∈ left) : left.Perm (a :: left.filter fun z => decide (z ≠ a)) := by
  refine perm_of_mem hn ?_ fun x => ?_
  · rw [List.nodup_cons]
    exact ⟨by simp, hn.sublist List.filter_sublist⟩
  · simp only [List.mem_cons, List.mem_filter, decide_eq_true_eq]
    by_cases hx : x = a
    · subst hx; simp [ha]
    · simp [hx]
theorem keysM_s {G : GH} {m : Nat} : Con Tryd.prog 41 #[.map (some m)] G []
    (fun r G' μ' => ∃ b, r = .func (.func 72) #[] #[.pointer (some ⟨b, 0, none⟩)] ∧ G' = G ∧ μ' = [(b, .cells [Value.map (some m)].toArray 91 (0, 0))]) := by
  (refine v_enter Tryd.func41 rfl Tryd.ntmps41 rfl ?_; intro B _)
  repeat' (first | apply v_seq | apply v_region | apply v_nil | (apply v_pure; (case hop => first | (apply p_assign <;> rfl) | (apply p_makeFunc <;> rfl)); (case hd => rfl)) | (apply v_box; (case hx => rfl); (case hz => rfl); (case hd => rfl); intro b) | fail)
  refine v_ret [(b, _)] (outsA1 rfl rfl) (by repeat (exact List.Sublist.refl _)) ?_
  exact ⟨b, rfl, rfl, rfl⟩
theorem keysM_seq {G : GH} {l : List (Int × Value)} {m b : Nat} {oM : Obj} (hM : MapB keyI l oM) : SeqCon Tryd.prog 72 [.pointer (some ⟨b, 0, none⟩)] keyI (fun xs => xs.Perm (l.map (·.1))) l.length G [(b, .cells [Value.map (some m)].toArray 91 (0, 0)), (m, oM)] := by
  intro lp J G1 ν hle hJ0 hY
  have hnd := hM.nodup
  (refine v_enter Tryd.func72 rfl Tryd.ntmps72 rfl ?_; intro B _)
  repeat' (first | apply v_seq | apply v_region | apply v_nil | apply v_block | (apply v_rangeM (hb := (by repeat (first | exact mhd _ | apply mtl))) (hM := hM); (case hx => rfl); (case hd => rfl); intro it oI hI) | (apply v_read; (case hop => (apply r_load1; rfl; (apply Cell.own; (case h => (repeat (exact mhd _))); rfl))); (case hd => rfl)) | fail)
  refine v_loopI (ι := List Int × List Int) [5, 0] (fun i vs G' μ' => GH.le G1 G' ∧ ∃ ν' oI, IterB keyI m l i.2 oM oI ∧ i.2.Nodup ∧ (i.1 ++ i.2).Perm (l.map (·.1)) ∧ vs = [.pointer (some ⟨it, 0, none⟩), .func (.yield lp) #[] #[]] ∧ J i.1 G' ν' ∧ μ' = (it, oI) :: (b, .cells [Value.map (some m)].toArray 91 (0, 0)) :: (m, oM) :: ν') (fun i => i.2.length) rfl ([], l.map (·.1)) ⟨GH.le_refl _, ν, oI, hI, hnd, List.Perm.refl _, rfl, hJ0, rfl⟩ ?_
  rintro ⟨pre, left⟩ vs G' _ ⟨hle', ν', oI', hI', hn, hper, rfl, hJ, rfl⟩
  simp only at hI' hn hper hJ
  have hlen := hper.length_eq
  rw [List.length_append, List.length_map] at hlen
  repeat' (first | apply v_seq | apply v_region | (apply v_nextM (k := 3) (hb := (by repeat (first | exact mhd _ | apply mtl))) (hI := hI'); (case hx => rfl); (case hp => exact List.Perm.refl _); (case hd => rfl)) | fail)
  · intro h0
    subst h0
    repeat' (first | apply v_seq | apply v_nil | (apply v_exit; (case hp => rfl)) | (apply v_pure; (case hop => (apply p_extract0 <;> rfl)); (case hd => rfl)) | (apply v_condF; (case hc => rfl)) | fail)
    refine v_end ([(b, _), (m, oM)] ++ ν') (outsA0 rfl) (by repeat (first | exact List.Sublist.refl _ | apply List.Sublist.cons)) ?_
    exact ⟨pre, ν', by simpa using hper, hJ, rfl⟩
  · intro a u oI2 ha hau hI2 hE
    have hy := hY pre a G' ν' hle' hJ (by
      have : 0 < left.length := List.length_pos_of_mem ha
      omega)
    have hlp := leftM_perm hn ha
    repeat' (first | apply v_seq | apply v_region | apply v_nil | apply v_skip | apply v_block | apply v_blk | (apply v_pure; (case hop => first | (apply p_move <;> rfl) | (apply p_assign <;> rfl) | (apply p_not <;> rfl) | (apply p_extract0 <;> rfl) | fail); (case hd => rfl)) | (apply v_condT; (case hc => rfl)) | (apply v_condF; (case hc => rfl)) | (apply v_read; (case hop => apply r_entry (hE := hE); (case hx => rfl); (case hi => repeat (exact mhd _)); (case hb => repeat (first | exact mhd _ | apply mtl))); (case hd => rfl)) | (apply v_yield (hs := hy); (case hx => rfl); (case ha => rfl); (case hp => exact (List.perm_append_comm (l₁ := [(it, oI2), (b, Obj.cells [Value.map (some m)].toArray 91 (0, 0)), (m, oM)]) (l₂ := ν'))); (case hd => rfl); rintro _ G2 ν2 hle2 ⟨rfl, hJ2⟩) | fail)
    refine v_perm List.perm_append_comm ?_
    refine v_againI (pre ++ [a], left.filter fun z => decide (z ≠ a)) rfl ⟨GH.le_trans hle' hle2, ν2, oI2, hI2, hn.sublist List.filter_sublist, ?_, rfl, hJ2, rfl⟩ ?_
    · refine List.Perm.trans ?_ hper
      simp only [List.append_assoc, List.singleton_append]
      exact List.Perm.append_left _ hlp.symm
    · have := hlp.length_eq
      simp only [List.length_cons] at this ⊢
      omega
abbrev zeroMs : Ms := ⟨0, 0, 0, 0, 0, 0, 0, 0, [], []⟩
def msOf (got : List Ms) (n : Int) : Ms := (got.find? fun m => decide (m.src = n)).getD zeroMs
theorem GotR.get {G : GH} {got : List Ms} {ml : List (Int × Value)} (h : GotR G got ml) (n : Int) : ∃ EA ec IA ic, (mget ml n).getD zMs = .agg ((msOf got n).cells (.slice EA (msOf got n).ents.length ec) (.slice IA (msOf got n).img.length ic)).toArray ∧ Es G (.slice EA (msOf got n).ents.length ec) (msOf got n).ents := by
  induction got generalizing ml with
  | nil =>
    have := h.1
    have : ml = [] := List.eq_nil_of_length_eq_zero this
    subst this
    exact ⟨none, 0, none, 0, rfl, Sl.nil⟩
  | cons m got ih =>
    obtain ⟨hl, h2⟩ := h
    cases ml with
    | nil => simp at hl
    | cons p ml =>
      have h0 := h2 0 (by simp) (by simp)
      simp only [List.getElem_cons_zero] at h0
      obtain ⟨h1, cs, h3, EA, ec, IA, ic, rfl, h4, -⟩ := h0
      by_cases e : m.src = n
      · have em : msOf (m :: got) n = m := by unfold msOf; rw [List.find?_cons_of_pos (by simpa using e)]; rfl
        have eg : mget (p :: ml) n = some p.2 := by unfold mget; rw [List.find?_cons_of_pos (by rw [h1]; simpa using e)]; rfl
        rw [em, eg, Option.getD_some, h3]
        exact ⟨EA, ec, IA, ic, rfl, h4⟩
      · have em : msOf (m :: got) n = msOf got n := by unfold msOf; rw [List.find?_cons_of_neg (by simpa using e)]
        have eg : mget (p :: ml) n = mget ml n := by unfold mget; rw [List.find?_cons_of_neg (by rw [h1]; simpa using e)]
        rw [em, eg]
        exact ih ⟨by simpa using hl, fun i hi hi' => by
          have h9 := h2 (i + 1) (Nat.succ_lt_succ hi) (Nat.succ_lt_succ hi')
          simp only [List.getElem_cons_succ] at h9
          exact h9⟩
def nodesL (got : List Ms) : List Int := sortL (got.map (·.src))
theorem sortL_eq {l l' : List Int} (h : l.Perm l') : sortL l = sortL l' := by
  refine List.Perm.eq_of_pairwise (le := fun a b => a ≤ b) ?_ (sortL_le l) (sortL_le l') ((sortL_perm l).trans (h.trans (sortL_perm l').symm))
  intro a b _ _ h1 h2
  omega
theorem nodes_s {G : GH} {r n a : Int} {q mp : Nat} {oM : Obj} {got : List Ms} {ml : List (Int × Value)} (hM : MapB keyI ml oM) (hg : GotR G got ml) (hb : got.length ≤ 1000) :
    Con Tryd.prog 22 #[.pointer (some ⟨q, 0, none⟩)] G [(q, qO r n a mp), (mp, oM)]
      (fun v G' μ' => G' = G ∧ ∃ ν, Grow 3 1 v (nodesL got).length ((nodesL got).map (.int .i64 ·)) ν ∧ μ' = ν ++ [(q, qO r n a mp), (mp, oM)]) := by
  have q1 := keysM_s (G := G) (m := mp)
  have hl := hg.1
  have hks := hg.keys
  (refine v_enter Tryd.func22 rfl Tryd.ntmps22 rfl ?_; intro B _)
  repeat' (first | apply v_seq | apply v_region | apply v_nil | apply v_skip | (apply v_pure; (case hop => first | (apply p_move <;> rfl) | (apply p_assign <;> rfl) | (apply p_fieldAddrB <;> rfl) | (apply p_nilCheck <;> rfl) | (apply p_eqNil <;> rfl) | fail); (case hd => rfl)) | (apply v_condF; (case hc => rfl)) | (apply v_read; (case hop => (apply r_load1; rfl; (apply Cell.own; (case h => (repeat (exact mhd _))); rfl))); (case hd => rfl)) | fail)
  refine v_call (μ1 := []) (μ2 := [(q, qO r n a mp), (mp, oM)]) rfl q1 (List.Perm.refl _) rfl ?_
  rintro _ G1 _ - ⟨b3, rfl, hG1, rfl⟩
  subst G1
  have q2 := sorted_s (N := ml.length) (by omega) (fun xs h => by rw [h.length_eq, List.length_map]; omega) (keysM_seq (G := G) (m := mp) (b := b3) hM)
  repeat' (fail)
  refine v_call (μ1 := [(b3, .cells [Value.map (some mp)].toArray 91 (0, 0)), (mp, oM)]) (μ2 := [(q, qO r n a mp)]) rfl q2 (by apply perm_of_count; intro p; simp only [List.append_eq, List.countP_append, List.countP_cons, List.countP_nil, Nat.zero_add, Nat.add_zero]; try ac_rfl) rfl ?_
  rintro v2 G2 _ - ⟨hG2, xs, ν, hp, hgr, rfl⟩
  subst G2
  have e : sortL xs = nodesL got := by
    unfold nodesL
    rw [← hks]
    exact sortL_eq hp
  rw [← (sortL_perm xs).length_eq, e] at hgr
  repeat' (first | apply v_nil | (apply v_pure; (case hop => (apply p_assign <;> rfl)); (case hd => rfl)) | fail)
  refine v_perm (ν := (ν ++ [(q, qO r n a mp), (mp, oM)]) ++ [(b3, .cells [Value.map (some mp)].toArray 91 (0, 0))]) (by apply perm_of_count; intro p; simp only [List.append_eq, List.countP_append, List.countP_cons, List.countP_nil, Nat.zero_add, Nat.add_zero]; try ac_rfl) ?_
  exact v_ret (ν ++ [(q, qO r n a mp), (mp, oM)]) (outsA1 rfl rfl) (List.sublist_append_left _ _) ⟨rfl, ν, hgr, rfl⟩
def SrcP (got : List Ms) : Prop := got.length ≤ 1000 ∧ (∀ m ∈ got, 1 ≤ m.src ∧ m.src ≤ 9) ∧ ∀ m ∈ got, RiseL m.ents ∧ m.ents.length ≤ 256
def comF (got : List Ms) (s : Int × Int) (n : Int) : Int × Int := if s.1 < (msOf got n).commit then ((msOf got n).commit, n) else s
def comS (got : List Ms) (l : List Int) : Int × Int := l.foldl (comF got) (-1, 0)
theorem comS_snoc (got : List Ms) (l : List Int) (n : Int) : comS got (l ++ [n]) = comF got (comS got l) n := by
  unfold comS
  rw [List.foldl_append]
  rfl
theorem SrcP.nodes {got : List Ms} (h : SrcP got) : ∀ n ∈ nodesL got, 1 ≤ n ∧ n ≤ 9 := fun n hn => by
  have := (sortL_perm _).mem_iff.1 hn
  obtain ⟨m, hm, rfl⟩ := List.mem_map.1 this
  exact h.2.1 m hm
theorem nodesL_len (got : List Ms) : (nodesL got).length = got.length := by
  unfold nodesL
  rw [(sortL_perm _).length_eq, List.length_map]
theorem commit_s {G : GH} {r n a : Int} {q mp : Nat} {oM : Obj} {got : List Ms} {ml : List (Int × Value)} (hM : MapB keyI ml oM) (hg : GotR G got ml) (hb : SrcP got) :
    Con Tryd.prog 42 #[.pointer (some ⟨q, 0, none⟩)] G [(q, qO r n a mp), (mp, oM)]
      (fun v G' μ' => GH.le G G' ∧ v = .tuple [.int .i64 (comS got (nodesL got)).1, .int .i64 (comS got (nodesL got)).2].toArray ∧ μ' = [(q, qO r n a mp), (mp, oM)]) := by
  have q1 := nodes_s (r := r) (n := n) (a := a) (q := q) (mp := mp) hM hg hb.1
  have hlen := nodesL_len got
  have hl0 := hb.1
  have hnd := hb.nodes
  (refine v_enter Tryd.func42 rfl Tryd.ntmps42 rfl ?_; intro B _)
  repeat' (first | apply v_seq | apply v_region | apply v_nil | (apply v_pure; (case hop => (apply p_assign <;> rfl)); (case hd => rfl)) | (apply v_read; (case hop => (apply r_load1; rfl; (apply Cell.own; (case h => (repeat (first | exact mhd _ | apply mtl))); rfl))); (case hd => rfl)) | (apply v_alloc; (case hz => rfl); (case hd => rfl); intro b) | (apply v_box; (case hx => rfl); (case hz => rfl); (case hd => rfl); intro b) | (apply v_store; (case hp => rfl); (case hx => rfl); (case hc => rfl); (case hsz => rfl); (case h1 => rfl); (case hb => (repeat (first | exact mhd _ | apply mtl))); (case hfit => exact nle rfl); (case hov => ((repeat (first | with_reducible exact ov_nil | apply ov_cons)); done)); (case hu => repeat (first | exact Upd.here _ _ | apply Upd.there))) | fail)
  rename_i bq bm
  refine v_call (μ1 := [(q, qO r n a mp), (mp, oM)]) (μ2 := [(b, .cells [.int .i64 0].toArray 3 (0, 0)), (bm, .cells [.int .i64 (-1)].toArray 3 (0, 0)), (bq, .cells [.pointer (some ⟨q, 0, none⟩)].toArray 49 (0, 0))]) rfl q1 (by apply perm_of_count; intro p; simp only [List.append_eq, List.countP_append, List.countP_cons, List.countP_nil, Nat.zero_add, Nat.add_zero]; try ac_rfl) rfl ?_
  rintro v1 G1 _ - ⟨hG1, ν, hgr, rfl⟩
  subst G1
  refine v_frzP ν (List.Perm.of_eq (by simp only [List.append_assoc]; rfl)) ?_
  intro G1 hle1 hG1
  have hs := hgr.ints hG1 (fun x hx => by
    have := hnd x hx
    exact WalkArith.wf_i64 (by omega))
  obtain ⟨A2, c2, rfl, -⟩ := id hs.openInt
  generalize hns : nodesL got = ns at *
  repeat' (fail)
  refine v_call (μ1 := []) (μ2 := _) rfl values_s (List.Perm.refl _) rfl ?_
  rintro _ G3 _ - ⟨b4, rfl, hG3, rfl⟩
  subst G3
  have hseq := vals_seq (b := b4) hs (by omega)
  repeat' (first | apply v_nil | apply v_block)
  refine v_rangeFunc (enc := keyI) (N := ns.length) (S := fun xs' => xs' = ns) (μ1 := [(b4, .cells [.slice A2 ns.length c2].toArray 45 (0, 0))]) (μ2 := [(q, qO r n a mp), (mp, oM), (b, .cells [.int .i64 0].toArray 3 (0, 0)), (bm, .cells [.int .i64 (-1)].toArray 3 (0, 0)), (bq, .cells [.pointer (some ⟨q, 0, none⟩)].toArray 49 (0, 0))]) (σ' := fun x => _) (fun pre G' ν => GH.le G1 G' ∧ ν = [(q, qO r n a mp), (mp, oM), (b, .cells [.int .i64 (comS got pre).2].toArray 3 (0, 0)), (bm, .cells [.int .i64 (comS got pre).1].toArray 3 (0, 0)), (bq, .cells [.pointer (some ⟨q, 0, none⟩)].toArray 49 (0, 0))]) rfl hseq (by apply perm_of_count; intro p; simp only [List.append_eq, List.countP_append, List.countP_cons, List.countP_nil, Nat.zero_add, Nat.add_zero]; try ac_rfl) rfl (fun x => Assigns.region (.cons (p_assign rfl) rfl (.nil _))) rfl ⟨GH.le_refl _, rfl⟩ ?_ ?_
  · rintro l B' _ pre x G4 _ hle4 ⟨hle5', rfl⟩ hpl
    obtain ⟨EA, ec, IA, ic, hv, -⟩ := hg.get x
    rw [comS_snoc]
    generalize comS got pre = s at *
    obtain ⟨s1, s2⟩ := s
    have hF : comF got (s1, s2) x = if s1 < (msOf got x).commit then ((msOf got x).commit, x) else (s1, s2) := rfl
    rw [hF]
    clear hF
    generalize msOf got x = m at *
    repeat' (first | apply v_seq | apply v_region | apply v_nil | apply v_skip | apply v_block | apply v_blk | (apply v_pure; (case hop => first | (apply p_move <;> rfl) | (apply p_gt <;> rfl) | (apply p_assign <;> rfl) | (apply p_fieldAddrB <;> rfl) | (apply p_nilCheck <;> rfl) | (apply p_field1 <;> rfl) | fail); (case hd => rfl)) | (apply v_cond; (case hc => rfl); all_goals (intro h; (try simp only [reduceCtorEq, zzz] at h))) | (apply v_read; (case hop => (apply r_got x _ hv (hM := hM); (case hb => repeat (first | exact mhd _ | apply mtl)); (case hx => rfl); (case hi => rfl))); (case hd => rfl)) | (apply v_read; (case hop => (apply r_load1; rfl; (apply Cell.own; (case h => (repeat (first | exact mhd _ | apply mtl))); rfl))); (case hd => rfl)) | (apply v_store; (case hp => rfl); (case hx => rfl); (case hc => rfl); (case hsz => rfl); (case h1 => rfl); (case hb => (repeat (first | exact mhd _ | apply mtl))); (case hfit => exact nle rfl); (case hov => ((repeat (first | with_reducible exact ov_nil | apply ov_cons)); done)); (case hu => repeat (first | exact Upd.here _ _ | apply Upd.there))) | fail)
    · refine v_endR _ (List.Sublist.refl _) ⟨rfl, hle5', ?_⟩
      rw [if_pos (by omega)]
    · refine v_endR _ (List.Sublist.refl _) ⟨rfl, hle5', ?_⟩
      rw [if_neg (by omega)]
  · rintro B' D _ xs' G4 _ hle4 rfl ⟨hle5, rfl⟩
    repeat' (first | apply v_seq | apply v_blk)
    refine d_start _ (by kernel_rfl) (by kernel_rfl) (by kernel_rfl) (fun _ he => he) ?_
    all_goals (apply dtk 0; (case hi => rfl); (case hop => first | (apply r_loadNo; (case hx => rfl); (case h => (repeat (fail))); (case hd => (repeat (fail))); (case hn => rfl)) | (apply r_load1; rfl; (apply Cell.own; (case h => (repeat (first | exact mhd _ | apply mtl))); rfl)) | (apply r_loadN; rfl; (apply CellsAt.own; (case h => (repeat (fail)))); rfl)); (case hq => kernel_rfl))
    all_goals (apply dtk 1; (case hi => rfl); (case hop => first | (apply r_loadNo; (case hx => rfl); (case h => (repeat (fail))); (case hd => (repeat (fail))); (case hn => rfl)) | (apply r_load1; rfl; (apply Cell.own; (case h => (repeat (first | exact mhd _ | apply mtl))); rfl)) | (apply r_loadN; rfl; (apply CellsAt.own; (case h => (repeat (fail)))); rfl)); (case hq => kernel_rfl))
    all_goals (apply dtk 2; (case hi => rfl); (case hop => (apply prd; apply p_assign <;> rfl)); (case hq => kernel_rfl))
    all_goals (apply dtk 3; (case hi => rfl); (case hop => (apply prd; apply p_assign <;> rfl)); (case hq => kernel_rfl))
    all_goals (apply d_done; (case hr => kernel_rfl))
    all_goals repeat' (fail)
    all_goals
      (refine v_retD (Ds := [D]) [(q, qO r n a mp), (mp, oM)] (fun ds a ha w _ => outs2 rfl rfl rfl ds a ha) (List.Perm.refl _) ?_ ?_
       · exact List.Sublist.cons _ (List.Sublist.cons_cons _ (List.Sublist.cons_cons _ (List.nil_sublist _)))
       exact ⟨GH.le_trans hle1 hle4, rfl, rfl⟩)
def floorQ (a : Int) (got : List Ms) : Int := max (comS got (nodesL got)).1 (a - 1)
theorem floor_s {G : GH} {r n a : Int} {q mp : Nat} {oM : Obj} {got : List Ms} {ml : List (Int × Value)} (hM : MapB keyI ml oM) (hg : GotR G got ml) (hb : SrcP got) (ha : 1 ≤ a ∧ a ≤ 4294967296) :
    Con Tryd.prog 23 #[.pointer (some ⟨q, 0, none⟩)] G [(q, qO r n a mp), (mp, oM)] (fun v G' μ' => GH.le G G' ∧ v = .int .i64 (floorQ a got) ∧ μ' = [(q, qO r n a mp), (mp, oM)]) := by
  have q1 := commit_s (r := r) (n := n) (a := a) (q := q) (mp := mp) hM hg hb
  (refine v_enter Tryd.func23 rfl Tryd.ntmps23 rfl ?_; intro B _)
  repeat' (first | apply v_seq | apply v_region | apply v_nil | apply v_skip | (apply v_pure; (case hop => first | (apply p_move <;> rfl) | (apply p_assign <;> rfl) | (apply p_eqNil <;> rfl) | fail); (case hd => rfl)) | (apply v_condF; (case hc => rfl)) | fail)
  refine v_call (μ1 := [(q, qO r n a mp), (mp, oM)]) (μ2 := []) rfl q1 (List.Perm.refl _) rfl ?_
  rintro _ G1 _ hle ⟨-, rfl, rfl⟩
  repeat' (first | apply v_seq | apply v_region | apply v_nil | (apply v_pure; (case hop => first | (apply p_move <;> rfl) | (apply p_assign <;> rfl) | (apply p_fieldAddrB <;> rfl) | (apply p_nilCheck <;> rfl) | (apply p_extract0 <;> rfl) | (apply p_extract1 <;> rfl) | (apply p_sub; (case hx => rfl); (case hy => rfl); (case h => omega)) | (apply p_max <;> rfl) | fail); (case hd => rfl)) | (apply v_read; (case hop => (apply r_load1; rfl; (apply Cell.own; (case h => (repeat (exact mhd _))); rfl))); (case hd => rfl)) | fail)
  refine v_ret [(q, qO r n a mp), (mp, oM)] (outsA1 rfl rfl) (List.Sublist.refl _) ⟨hle, ?_, rfl⟩
  unfold floorQ
  rfl
def lessP (r n r' n' : Int) : Prop := r < r' ∨ (r = r' ∧ n < n')
instance (r n r' n' : Int) : Decidable (lessP r n r' n') := by unfold lessP; infer_instance
abbrev twoI (a b : Int) : Obj := .cells [.int .i64 a, .int .i64 b].toArray 3 (0, 0)
theorem cmpOr_s (G : GH) (sb : Nat) (a b : Int) : Con Tryd.prog 94 #[.slice (some ⟨sb, 0, none⟩) 2 2] G [(sb, twoI a b)] (Keeps (.int .i64 (if a ≠ 0 then a else b)) G [(sb, twoI a b)]) := by
  apply Con.keeps
  (refine v_enter Tryd.func94 rfl Tryd.ntmps94 rfl ?_; intro B _)
  repeat' (first | apply v_seq | apply v_region | apply v_nil | apply v_block | (apply v_pure; (case hop => first | (apply p_move <;> rfl) | (apply p_assign <;> rfl) | (apply p_lenSlice <;> rfl) | fail); (case hd => rfl)) | fail)
  refine v_loop [8, 7, 6, 3, 2] (fun us G' μ' => G' = G ∧ μ' = [(sb, twoI a b)] ∧ ∃ k : Nat, k ≤ 2 ∧ us = [Value.int .i64 (k : Nat), .int .i64 2, .slice (some ⟨sb, 0, none⟩) 2 2, .int .i64 0, .int .i64 0] ∧ (1 ≤ k → a = 0) ∧ (2 ≤ k → b = 0)) (fun us => 3 - (headI us).toNat) rfl ⟨rfl, rfl, 0, by omega, rfl, by omega, by omega⟩ ?_
  rintro us G' μ' ⟨rfl, rfl, k, hk, rfl, h1, h2⟩
  obtain rfl | rfl | rfl : k = 0 ∨ k = 1 ∨ k = 2 := by omega
  · repeat' (first | apply v_seq | apply v_region | apply v_nil | apply v_skip | apply v_block | apply v_blk | (apply v_pure; (case hop => first | (apply p_move <;> rfl) | (apply p_lt <;> rfl) | (apply p_ne <;> rfl) | (apply p_assign <;> rfl) | (apply p_add; (case hx => rfl); (case hy => rfl); (case h => omega)) | (apply p_indexAddr; (case hx => rfl); (case hi => rfl); (case h0 => omega); (case h => omega)) | fail); (case hd => rfl)) | (apply v_cond; (case hc => rfl); all_goals (intro h; (try simp only [reduceCtorEq, zzz] at h); first | (exfalso; omega) | skip)) | (apply v_read; (case hop => (apply r_load1; rfl; (apply Cell.own; (case h => (repeat (exact mhd _))); rfl))); (case hd => rfl)) | fail)
    · refine v_ret [(sb, _)] (outsA1 rfl rfl) (by repeat (exact List.Sublist.refl _)) ?_
      exact ⟨by rw [if_pos (by assumption)], rfl⟩
    · refine v_again rfl ⟨rfl, rfl, 1, by omega, rfl, fun _ => by omega, by omega⟩ (by simp [headI])
  · have h1 := h1 (by omega)
    repeat' (first | apply v_seq | apply v_region | apply v_nil | apply v_skip | apply v_block | apply v_blk | (apply v_pure; (case hop => first | (apply p_move <;> rfl) | (apply p_lt <;> rfl) | (apply p_ne <;> rfl) | (apply p_assign <;> rfl) | (apply p_add; (case hx => rfl); (case hy => rfl); (case h => omega)) | (apply p_indexAddr; (case hx => rfl); (case hi => rfl); (case h0 => omega); (case h => omega)) | fail); (case hd => rfl)) | (apply v_cond; (case hc => rfl); all_goals (intro h; (try simp only [reduceCtorEq, zzz] at h); first | (exfalso; omega) | skip)) | (apply v_read; (case hop => (apply r_load1; rfl; (apply Cell.own; (case h => (repeat (exact mhd _))); rfl))); (case hd => rfl)) | fail)
    · refine v_ret [(sb, _)] (outsA1 rfl rfl) (by repeat (exact List.Sublist.refl _)) ?_
      exact ⟨by rw [if_neg (by omega)], rfl⟩
    · refine v_again rfl ⟨rfl, rfl, 2, by omega, rfl, fun _ => by omega, fun _ => by omega⟩ (by simp [headI])
  · have h1 := h1 (by omega)
    have h2 := h2 (by omega)
    repeat' (first | apply v_seq | apply v_region | apply v_nil | (apply v_exit; (case hp => rfl)) | (apply v_pure; (case hop => first | (apply p_move <;> rfl) | (apply p_lt <;> rfl) | (apply p_assign <;> rfl) | fail); (case hd => rfl)) | (apply v_cond; (case hc => rfl); all_goals (intro h; (try simp only [reduceCtorEq, zzz] at h); first | (exfalso; omega) | skip)) | fail)
    refine v_ret [(sb, _)] (outsA1 rfl rfl) (by repeat (exact List.Sublist.refl _)) ?_
    exact ⟨by rw [if_neg (by omega), h2], rfl⟩
theorem less_s (G : GH) (r n r' n' : Int) : Con Tryd.prog 69 #[.agg #[.int .i64 r, .int .i64 n], .agg #[.int .i64 r', .int .i64 n']] G [] (Just (.bool (decide (lessP r n r' n'))) G) := by
  have q1 := cmp_s G r r'
  have q2 := cmp_s G n n'
  have qo := fun sb => cmpOr_s G sb (cmpI r r') (cmpI n n')
  have key : dec ((if cmpI r r' ≠ 0 then cmpI r r' else cmpI n n') < 0) = decide (lessP r n r' n') := by
    rw [dec_eq]
    congr 1
    rw [eq_iff_iff]
    have a1 := @cmpI_lt r r'
    have a2 := @cmpI_eq r r'
    have a3 := @cmpI_lt n n'
    unfold lessP
    by_cases h : cmpI r r' = 0
    · rw [if_neg (by omega)]; omega
    · rw [if_pos h]; omega
  apply Con.just
  (refine v_enter Tryd.func69 rfl Tryd.ntmps69 rfl ?_; intro B _)
  repeat' (first | apply v_seq | apply v_region | apply v_nil | (apply v_pure; (case hop => (apply p_assign <;> rfl)); (case hd => rfl)) | (apply v_box; (case hx => rfl); (case hz => rfl); (case hd => rfl); intro b) | fail)
  refine d_start _ (by kernel_rfl) (by kernel_rfl) (by kernel_rfl) (fun _ he => he) ?_
  all_goals (apply dtk 0; (case hi => rfl); (case hop => (apply prd; apply p_fieldAddrB <;> rfl)); (case hq => kernel_rfl))
  all_goals (apply dtk 1; (case hi => rfl); (case hop => first | (apply r_loadNo; (case hx => rfl); (case h => (repeat (fail))); (case hd => (repeat (fail))); (case hn => rfl)) | (apply r_load1; rfl; (apply Cell.own; (case h => (repeat (first | exact mhd _ | apply mtl))); rfl)) | (apply r_loadN; rfl; (apply CellsAt.own; (case h => (repeat (fail)))); rfl)); (case hq => kernel_rfl))
  all_goals (apply dtk 2; (case hi => rfl); (case hop => (apply prd; apply p_fieldAddrB <;> rfl)); (case hq => kernel_rfl))
  all_goals (apply dtk 3; (case hi => rfl); (case hop => first | (apply r_loadNo; (case hx => rfl); (case h => (repeat (fail))); (case hd => (repeat (fail))); (case hn => rfl)) | (apply r_load1; rfl; (apply Cell.own; (case h => (repeat (exact mhd _))); rfl)) | (apply r_loadN; rfl; (apply CellsAt.own; (case h => (repeat (fail)))); rfl)); (case hq => kernel_rfl))
  all_goals (apply dtk 5; (case hi => rfl); (case hop => (apply prd; apply p_fieldAddrB <;> rfl)); (case hq => kernel_rfl))
  all_goals (apply dtk 6; (case hi => rfl); (case hop => first | (apply r_loadNo; (case hx => rfl); (case h => (repeat (fail))); (case hd => (repeat (fail))); (case hn => rfl)) | (apply r_load1; rfl; (apply Cell.own; (case h => (repeat (first | exact mhd _ | apply mtl))); rfl)) | (apply r_loadN; rfl; (apply CellsAt.own; (case h => (repeat (fail)))); rfl)); (case hq => kernel_rfl))
  all_goals (apply dtk 7; (case hi => rfl); (case hop => (apply prd; apply p_fieldAddrB <;> rfl)); (case hq => kernel_rfl))
  all_goals (apply dtk 8; (case hi => rfl); (case hop => first | (apply r_loadNo; (case hx => rfl); (case h => (repeat (fail))); (case hd => (repeat (fail))); (case hn => rfl)) | (apply r_load1; rfl; (apply Cell.own; (case h => (repeat (exact mhd _))); rfl)) | (apply r_loadN; rfl; (apply CellsAt.own; (case h => (repeat (fail)))); rfl)); (case hq => kernel_rfl))
  all_goals (apply d_callJ 4 (hs := q1); (case hi => rfl); (case hr => kernel_rfl); (case ha => rfl); (case hd => rfl))
  all_goals (apply d_callJ 9 (hs := q2); (case hi => rfl); (case hr => kernel_rfl); (case ha => rfl); (case hd => rfl))
  all_goals (apply d_buildSlice 10; (case hi => rfl); (case hr => kernel_rfl); (case hT => infer_instance); (case hL => infer_instance); (case hz => rfl); (case hl => rfl); (case hv => (simp only [List.map_cons, List.map_nil]; repeat (first | with_reducible exact evs_nil | (apply evs_cons; (case h1 => rfl))))); (case hp => (apply pk_cons; (case hc => rfl); (case hs => rfl); (case h => (apply pk_cons; (case hc => rfl); (case hs => rfl); (case h => (with_reducible exact pk_nil)); (case he => ((repeat (first | with_reducible exact ap_nil | apply ap_cons)); done)))); (case he => ((repeat (first | with_reducible exact ap_nil | apply ap_cons)); done)))); (case hb => rfl); (case hd => rfl); (case hν => intro e he; exact he); intro sb)
  all_goals (apply d_callK 11 (hs := qo _); (case hi => rfl); (case hr => kernel_rfl); (case ha => rfl); (case hp => exact (Pick.perm (by repeat (exact Pick.here _)))); (case hd => rfl))
  all_goals (apply dtk 12; (case hi => rfl); (case hop => (apply prd; apply p_lt <;> rfl)); (case hq => kernel_rfl))
  all_goals (apply dtk 13; (case hi => rfl); (case hop => (apply prd; apply p_assign <;> rfl)); (case hq => kernel_rfl))
  all_goals (apply d_done; (case hr => kernel_rfl))
  repeat' (fail)
  refine v_ret [] (outsA1 rfl rfl) (by repeat (exact List.nil_sublist _)) ?_
  exact ⟨by rw [key], rfl⟩
theorem SrcP.of {got : List Ms} (h : SrcP got) (n : Int) : RiseL (msOf got n).ents ∧ (msOf got n).ents.length ≤ 256 := by
  unfold msOf
  cases hf : got.find? fun m => decide (m.src = n) with
  | none => exact ⟨fun i j hj => absurd hj (by simp), by simp⟩
  | some m => exact h.2.2 m (List.mem_of_find?_eq_some hf)
noncomputable def bestF (got : List Ms) (index : Int) (s : Bool × Ent) (n : Int) : Bool × Ent := if hitB (msOf got n).ents index = true ∧ (s.1 = false ∨ lessP s.2.round s.2.node (findE (msOf got n).ents index).round (findE (msOf got n).ents index).node) then (true, findE (msOf got n).ents index) else s
noncomputable def bestS (got : List Ms) (index : Int) (l : List Int) : Bool × Ent := l.foldl (bestF got index) (false, zeroE)
theorem bestS_snoc (got : List Ms) (index : Int) (l : List Int) (n : Int) : bestS got index (l ++ [n]) = bestF got index (bestS got index l) n := by
  unfold bestS
  rw [List.foldl_append]
  rfl
set_option maxHeartbeats 1000000 in
theorem best_s {G : GH} {r n a : Int} {q mp : Nat} {oM : Obj} {got : List Ms} {ml : List (Int × Value)} (index : Int) (hM : MapB keyI ml oM) (hg : GotR G got ml) (hb : SrcP got) :
    Con Tryd.prog 39 #[.pointer (some ⟨q, 0, none⟩), .int .i64 index] G [(q, qO r n a mp), (mp, oM)]
      (fun v G' μ' => GH.le G G' ∧ v = .tuple [.agg (bestS got index (nodesL got)).2.cells.toArray, .bool (bestS got index (nodesL got)).1].toArray ∧ μ' = [(q, qO r n a mp), (mp, oM)]) := by
  have q1 := nodes_s (r := r) (n := n) (a := a) (q := q) (mp := mp) hM hg hb.1
  have hlen := nodesL_len got
  have hl0 := hb.1
  have hnd := hb.nodes
  (refine v_enter Tryd.func39 rfl Tryd.ntmps39 rfl ?_; intro B _)
  repeat' (first | apply v_seq | apply v_region | apply v_nil | (apply v_pure; (case hop => first | (apply p_move <;> rfl) | (apply p_assign <;> rfl) | fail); (case hd => rfl)) | (apply v_alloc; (case hz => rfl); (case hd => rfl); intro b) | fail)
  rename_i b4
  revert b
  intro b6
  refine v_call (μ1 := [(q, qO r n a mp), (mp, oM)]) (μ2 := [(b6, .cells zeroE.cells.toArray 89 (0, 0)), (b4, .cells zeroE.cells.toArray 89 (0, 0))]) rfl q1 (by apply perm_of_count; intro p; simp only [List.append_eq, List.countP_append, List.countP_cons, List.countP_nil, Nat.zero_add, Nat.add_zero]; try ac_rfl) rfl ?_
  rintro v1 G1 _ - ⟨hG1, ν, hgr, rfl⟩
  subst G1
  refine v_frzP ν (List.Perm.of_eq (by simp only [List.append_assoc]; rfl)) ?_
  intro G1 hle1 hG1
  have hs := hgr.ints hG1 (fun x hx => by
    have := hnd x hx
    exact WalkArith.wf_i64 (by omega))
  obtain ⟨A2, c2, rfl, hlc, hcm, hsome, hel, -⟩ := id hs.openInt
  simp only [maxLen] at hcm
  generalize hns : nodesL got = ns at *
  repeat' (first | apply v_nil | apply v_block | (apply v_pure; (case hop => first | (apply p_move <;> rfl) | (apply p_lenSlice <;> rfl) | fail); (case hd => rfl)) | fail)
  refine v_loop [15, 7, 13, 14, 0, 1, 4, 6] (fun us G' μ' => GH.le G1 G' ∧ ∃ k : Nat, k ≤ ns.length ∧ us = [Value.int .i64 (k : Nat), .bool (bestS got index (ns.take k)).1, .slice A2 ns.length c2, .int .i64 (ns.length : Nat), .pointer (some ⟨q, 0, none⟩), .int .i64 index, .pointer (some ⟨b4, 0, none⟩), .pointer (some ⟨b6, 0, none⟩)] ∧ μ' = [(q, qO r n a mp), (mp, oM), (b6, .cells (bestS got index (ns.take k)).2.cells.toArray 89 (0, 0)), (b4, .cells zeroE.cells.toArray 89 (0, 0))]) (fun us => ns.length - (headI us).toNat) rfl ⟨GH.le_refl _, 0, by omega, rfl, rfl⟩ ?_
  rintro us G' _ ⟨hle', k, hk, rfl, rfl⟩
  by_cases hlt : k < ns.length
  · have e1 : ((k : Nat) : Int).toNat = k := by omega
    have hA := hsome (by omega)
    have hc := GH.cell_le hle' (hel k hlt)
    have hsn := bestS_snoc got index (ns.take k) ns[k]
    rw [← List.take_succ_eq_append_getElem hlt] at hsn
    generalize bestS got index (ns.take k) = s at *
    generalize ns[k] = x at *
    obtain ⟨EA, ec, IA, ic, hv, hes⟩ := hg.get x
    have qf := find_s index (hes.mono (GH.le_trans hle1 hle')) (hb.of x).1
    unfold bestF at hsn
    generalize msOf got x = m at *
    generalize findE m.ents index = e at *
    generalize hitB m.ents index = h at *
    obtain ⟨s1, s2⟩ := s
    simp only at hsn
    have ql := less_s G' s2.round s2.node e.round e.node
    obtain ⟨ei, er, en, ⟨e1k, e2k, e3k, e4k, e5k, e6k, e7k⟩⟩ := e
    obtain ⟨si, sr, sn, ⟨s1k, s2k, s3k, s4k, s5k, s6k, s7k⟩⟩ := s2
    simp only at hsn ql
    cases h with
    | false =>
      rw [if_neg (by simp)] at hsn
      repeat' (first | apply v_seq | apply v_region | apply v_nil | apply v_skip | apply v_block | apply v_blk | (apply v_pass; (case hg => rfl); (case hn => rfl); (case hd => rfl)) | (apply v_passN; (case hg => rfl); (case hn => rfl); (case hd => rfl)) | (apply v_pure; (case hop => first | (apply p_move <;> rfl) | (apply p_lt <;> rfl) | (apply p_assign <;> rfl) | (apply p_pickF <;> rfl) | (apply p_fieldAddrB <;> rfl) | (apply p_nilCheck <;> rfl) | (apply p_extract0 <;> rfl) | (apply p_extract1 <;> rfl) | (apply p_add; (case hx => rfl); (case hy => rfl); (case h => omega)) | (apply p_indexAddrS; (case hx => rfl); (case hi => rfl); (case h0 => omega); (case h => omega); (case hA => assumption)) | (apply p_field1 <;> rfl) | fail); (case hd => rfl)) | (apply v_condF; (case hc => rfl)) | (apply v_cond; (case hc => rfl); all_goals (intro h; (try simp only [reduceCtorEq, zzz] at h); first | (exfalso; omega) | skip)) | (apply v_read; (case hop => (apply r_got x _ hv (hM := hM); (case hb => repeat (first | exact mhd _ | apply mtl)); (case hx => rfl); (case hi => rfl))); (case hd => rfl)) | (apply v_read; (case hop => (apply r_load1; rfl; exact Cell.frozen hc)); (case hd => rfl)) | (apply v_callJ (hs := qf); (case ha => rfl); (case hd => rfl)) | (apply v_read; (case hop => (apply r_load1; rfl; (apply Cell.own; (case h => (repeat (exact mhd _))); rfl))); (case hd => rfl)) | (apply v_alloc; (case hz => rfl); (case hd => rfl); intro b) | (apply v_store; (case hp => rfl); (case hx => rfl); (case hc => rfl); (case hsz => rfl); (case h1 => rfl); (case hb => (repeat (exact mhd _))); (case hfit => exact nle rfl); (case hov => ((repeat (first | with_reducible exact ov_nil | apply ov_cons)); done)); (case hu => repeat (exact Upd.here _ _))) | fail)
      all_goals
       (refine v_drop (ν := [(q, qO r n a mp), (mp, oM), (b6, _), (b4, _)]) (by repeat (first | exact List.Sublist.refl _ | apply List.Sublist.cons)) ?_
        exact v_again rfl ⟨hle', k + 1, by omega, by rw [hsn] <;> rfl, by rw [hsn] <;> rfl⟩ (by simp [headI]; omega))
    | true =>
      cases s1 with
      | false =>
        rw [if_pos (by simp)] at hsn
        repeat' (first | (apply v_read; (case hop => (apply r_loadNo; (case hx => rfl); (case h => repeat (exact mhd _)); (case hd => rfl); (case hn => rfl))); (case hd => rfl)) | apply v_seq | apply v_region | apply v_nil | apply v_skip | apply v_block | apply v_blk | (apply v_take; (case hg => rfl)) | (apply v_pass; (case hg => rfl); (case hn => rfl); (case hd => rfl)) | (apply v_pure; (case hop => first | (apply p_move <;> rfl) | (apply p_lt <;> rfl) | (apply p_assign <;> rfl) | (apply p_pickT <;> rfl) | (apply p_not <;> rfl) | (apply p_fieldAddrB <;> rfl) | (apply p_nilCheck <;> rfl) | (apply p_extract0 <;> rfl) | (apply p_extract1 <;> rfl) | (apply p_add; (case hx => rfl); (case hy => rfl); (case h => omega)) | (apply p_indexAddrS; (case hx => rfl); (case hi => rfl); (case h0 => omega); (case h => omega); (case hA => assumption)) | (apply p_field1 <;> rfl) | fail); (case hd => rfl)) | (apply v_condT; (case hc => rfl)) | (apply v_cond; (case hc => rfl); all_goals (intro h; (try simp only [reduceCtorEq, zzz] at h); first | (exfalso; omega) | skip)) | (apply v_read; (case hop => (apply r_got x _ hv (hM := hM); (case hb => repeat (first | exact mhd _ | apply mtl)); (case hx => rfl); (case hi => rfl))); (case hd => rfl)) | (apply v_read; (case hop => (apply r_load1; rfl; exact Cell.frozen hc)); (case hd => rfl)) | (apply v_callJ (hs := qf); (case ha => rfl); (case hd => rfl)) | (apply v_read; (case hop => (apply r_load1; rfl; (apply Cell.own; (case h => (repeat (exact mhd _))); rfl))); (case hd => rfl)) | (apply v_alloc; (case hz => rfl); (case hd => rfl); intro b) | (apply v_store; (case hp => rfl); (case hx => rfl); (case hc => rfl); (case hsz => rfl); (case h1 => rfl); (case hb => (repeat (first | exact mhd _ | apply mtl))); (case hfit => exact nle rfl); (case hov => (first | ((repeat (first | with_reducible exact ov_nil | apply ov_cons)); done) | rfl)); (case hu => repeat (first | exact Upd.here _ _ | apply Upd.there))) | fail)
        all_goals
         (refine v_drop (ν := [(q, qO r n a mp), (mp, oM), (b6, _), (b4, _)]) (by repeat (first | exact List.Sublist.refl _ | apply List.Sublist.cons)) ?_
          exact v_again rfl ⟨hle', k + 1, by omega, by rw [hsn] <;> rfl, by rw [hsn] <;> rfl⟩ (by simp [headI]; omega))
      | true =>
        by_cases hl : lessP sr sn er en
        · rw [if_pos ⟨rfl, .inr hl⟩] at hsn
          rw [decide_eq_true hl] at ql
          repeat' (first | (apply v_read; (case hop => (apply r_loadNo; (case hx => rfl); (case h => repeat (first | exact mhd _ | apply mtl)); (case hd => rfl); (case hn => rfl))); (case hd => rfl)) | apply v_seq | apply v_region | apply v_nil | apply v_skip | apply v_block | apply v_blk | (apply v_take; (case hg => rfl)) | (apply v_pure; (case hop => first | (apply p_move <;> rfl) | (apply p_lt <;> rfl) | (apply p_assign <;> rfl) | (apply p_pickT <;> rfl) | (apply p_pickF <;> rfl) | (apply p_not <;> rfl) | (apply p_fieldAddrB <;> rfl) | (apply p_nilCheck <;> rfl) | (apply p_extract0 <;> rfl) | (apply p_extract1 <;> rfl) | (apply p_add; (case hx => rfl); (case hy => rfl); (case h => omega)) | (apply p_indexAddrS; (case hx => rfl); (case hi => rfl); (case h0 => omega); (case h => omega); (case hA => assumption)) | (apply p_field1 <;> rfl) | fail); (case hd => rfl)) | (apply v_condT; (case hc => rfl)) | (apply v_cond; (case hc => rfl); all_goals (intro h; (try simp only [reduceCtorEq, zzz] at h); first | (exfalso; omega) | skip)) | (apply v_read; (case hop => (apply r_got x _ hv (hM := hM); (case hb => repeat (first | exact mhd _ | apply mtl)); (case hx => rfl); (case hi => rfl))); (case hd => rfl)) | (apply v_read; (case hop => (apply r_load1; rfl; exact Cell.frozen hc)); (case hd => rfl)) | (apply v_callJ (hs := qf); (case ha => rfl); (case hd => rfl)) | (apply v_callJ (hs := ql); (case ha => rfl); (case hd => rfl)) | (apply v_read; (case hop => (apply r_load1; rfl; (apply Cell.own; (case h => (repeat (exact mhd _))); rfl))); (case hd => rfl)) | (apply v_alloc; (case hz => rfl); (case hd => rfl); intro b) | (apply v_store; (case hp => rfl); (case hx => rfl); (case hc => rfl); (case hsz => rfl); (case h1 => rfl); (case hb => (repeat (first | exact mhd _ | apply mtl))); (case hfit => exact nle rfl); (case hov => (first | ((repeat (first | with_reducible exact ov_nil | apply ov_cons)); done) | rfl)); (case hu => repeat (first | exact Upd.here _ _ | apply Upd.there))) | fail)
          all_goals
           (refine v_drop (ν := [(q, qO r n a mp), (mp, oM), (b6, _), (b4, _)]) (by repeat (first | exact List.Sublist.refl _ | apply List.Sublist.cons)) ?_
            exact v_again rfl ⟨hle', k + 1, by omega, by rw [hsn] <;> rfl, by rw [hsn] <;> rfl⟩ (by simp [headI]; omega))
        · rw [if_neg (by simpa using hl)] at hsn
          rw [decide_eq_false hl] at ql
          repeat' (first | (apply v_read; (case hop => (apply r_loadNo; (case hx => rfl); (case h => repeat (first | exact mhd _ | apply mtl)); (case hd => rfl); (case hn => rfl))); (case hd => rfl)) | apply v_seq | apply v_region | apply v_nil | apply v_skip | apply v_block | apply v_blk | (apply v_take; (case hg => rfl)) | (apply v_pure; (case hop => first | (apply p_move <;> rfl) | (apply p_lt <;> rfl) | (apply p_assign <;> rfl) | (apply p_pickT <;> rfl) | (apply p_pickF <;> rfl) | (apply p_not <;> rfl) | (apply p_fieldAddrB <;> rfl) | (apply p_nilCheck <;> rfl) | (apply p_extract0 <;> rfl) | (apply p_extract1 <;> rfl) | (apply p_add; (case hx => rfl); (case hy => rfl); (case h => omega)) | (apply p_indexAddrS; (case hx => rfl); (case hi => rfl); (case h0 => omega); (case h => omega); (case hA => assumption)) | (apply p_field1 <;> rfl) | fail); (case hd => rfl)) | (apply v_condF; (case hc => rfl)) | (apply v_cond; (case hc => rfl); all_goals (intro h; (try simp only [reduceCtorEq, zzz] at h); first | (exfalso; omega) | skip)) | (apply v_read; (case hop => (apply r_got x _ hv (hM := hM); (case hb => repeat (first | exact mhd _ | apply mtl)); (case hx => rfl); (case hi => rfl))); (case hd => rfl)) | (apply v_read; (case hop => (apply r_load1; rfl; exact Cell.frozen hc)); (case hd => rfl)) | (apply v_callJ (hs := qf); (case ha => rfl); (case hd => rfl)) | (apply v_callJ (hs := ql); (case ha => rfl); (case hd => rfl)) | (apply v_read; (case hop => (apply r_load1; rfl; (apply Cell.own; (case h => (repeat (exact mhd _))); rfl))); (case hd => rfl)) | (apply v_alloc; (case hz => rfl); (case hd => rfl); intro b) | (apply v_store; (case hp => rfl); (case hx => rfl); (case hc => rfl); (case hsz => rfl); (case h1 => rfl); (case hb => (repeat (exact mhd _))); (case hfit => exact nle rfl); (case hov => ((repeat (first | with_reducible exact ov_nil | apply ov_cons)); done)); (case hu => repeat (exact Upd.here _ _))) | fail)
          all_goals
           (refine v_drop (ν := [(q, qO r n a mp), (mp, oM), (b6, _), (b4, _)]) (by repeat (first | exact List.Sublist.refl _ | apply List.Sublist.cons)) ?_
            exact v_again rfl ⟨hle', k + 1, by omega, by rw [hsn] <;> rfl, by rw [hsn] <;> rfl⟩ (by simp [headI]; omega))
  · have ek : k = ns.length := by omega
    subst ek
    rw [List.take_length]
    repeat' (first | apply v_seq | apply v_region | apply v_nil | (apply v_exit; (case hp => rfl)) | (apply v_pure; (case hop => first | (apply p_move <;> rfl) | (apply p_lt <;> rfl) | (apply p_assign <;> rfl) | fail); (case hd => rfl)) | (apply v_cond; (case hc => rfl); all_goals (intro h; (try simp only [reduceCtorEq, zzz] at h); first | (exfalso; omega) | skip)) | (apply v_read; (case hop => (apply r_loadNo; (case hx => rfl); (case h => (repeat (first | exact mhd _ | apply mtl))); (case hd => (repeat (first | with_reducible exact dt_nil | apply dt_here))); (case hn => rfl))); (case hd => rfl)) | (apply v_store; (case hp => rfl); (case hx => rfl); (case hc => rfl); (case hsz => rfl); (case h1 => rfl); (case hb => (repeat (first | exact mhd _ | apply mtl))); (case hfit => exact nle rfl); (case hov => ((repeat (first | with_reducible exact ov_nil | apply ov_cons)); done)); (case hu => repeat (first | exact Upd.here _ _ | apply Upd.there))) | fail)
    refine v_retM [(q, qO r n a mp), (mp, oM)] (outsM_cell_tmp (vs := (bestS got index ns).2.cells) (e := 89) rfl rfl rfl ?_ ?_) (by repeat (first | exact List.nil_sublist _ | apply List.Sublist.cons_cons)) ?_
    · repeat (first | exact mhd _ | apply mtl)
    · rfl
    · exact ⟨GH.le_trans hle1 hle', rfl, rfl⟩
noncomputable def valueQ (a : Int) (got : List Ms) (index : Int) : Bool × Cm := if index ≤ floorQ a got then (false, zeroE.cmd) else ((bestS got index (nodesL got)).1, (bestS got index (nodesL got)).2.cmd)
theorem value_s {G : GH} {r n a : Int} {q mp : Nat} {oM : Obj} {got : List Ms} {ml : List (Int × Value)} (index : Int) (hM : MapB keyI ml oM) (hg : GotR G got ml) (hb : SrcP got) (ha : 1 ≤ a ∧ a ≤ 4294967296) :
    Con Tryd.prog 19 #[.pointer (some ⟨q, 0, none⟩), .int .i64 index] G [(q, qO r n a mp), (mp, oM)]
      (fun v G' μ' => GH.le G G' ∧ v = .tuple [.agg (valueQ a got index).2.cells.toArray, .bool (valueQ a got index).1].toArray ∧ μ' = [(q, qO r n a mp), (mp, oM)]) := by
  have q1 := floor_s (r := r) (n := n) (a := a) (q := q) (mp := mp) hM hg hb ha
  unfold valueQ
  generalize floorQ a got = f at *
  (refine v_enter Tryd.func19 rfl Tryd.ntmps19 rfl ?_; intro B _)
  repeat' (first | apply v_seq | apply v_region | apply v_nil | (apply v_take; (case hg => rfl)) | (apply v_pure; (case hop => first | (apply p_move <;> rfl) | (apply p_assign <;> rfl) | (apply p_eqNil <;> rfl) | fail); (case hd => rfl)) | (apply v_alloc; (case hz => rfl); (case hd => rfl); intro b) | fail)
  refine v_call (μ1 := [(q, qO r n a mp), (mp, oM)]) (μ2 := [(b, .cells zeroE.cmd.cells.toArray 32 (0, 0))]) rfl q1 (by apply perm_of_count; intro p; simp only [List.append_eq, List.countP_append, List.countP_cons, List.countP_nil, Nat.zero_add, Nat.add_zero]; try ac_rfl) rfl ?_
  rintro _ G1 _ hle1 ⟨-, rfl, rfl⟩
  have q2 := best_s (r := r) (n := n) (a := a) (q := q) (mp := mp) index hM (hg.le hle1) hb
  generalize bestS got index (nodesL got) = s at *
  obtain ⟨s1, ⟨si, sr, sn, sc⟩⟩ := s
  repeat' (first | apply v_seq | apply v_region | apply v_nil | apply v_skip | (apply v_take; (case hg => rfl)) | (apply v_pure; (case hop => first | (apply p_move <;> rfl) | (apply p_le <;> rfl) | (apply p_assign <;> rfl) | (apply p_pickF <;> rfl) | (apply p_build; (case hz => rfl); (case hv => (simp only [List.map_cons, List.map_nil]; repeat (with_reducible exact evs_nil))); (case hb => (apply bldL; repeat (exact bld_nil)))) | fail); (case hd => rfl)) | (apply v_cond; (case hc => rfl); all_goals (intro h; (try simp only [reduceCtorEq, zzz] at h))) | (apply v_store; (case hp => rfl); (case hx => rfl); (case hc => rfl); (case hsz => rfl); (case h1 => rfl); (case hb => (repeat (first | exact mhd _ | apply mtl))); (case hfit => exact nle rfl); (case hov => ((repeat (first | with_reducible exact ov_nil | apply ov_cons)); done)); (case hu => repeat (first | exact Upd.here _ _ | apply Upd.there))) | fail)
  · refine v_retM [(q, qO r n a mp), (mp, oM)] (outsM_cell_tmp (vs := zeroE.cmd.cells) (e := 32) rfl rfl rfl ?_ ?_) (by repeat (first | exact List.nil_sublist _ | apply List.Sublist.cons_cons)) ?_
    · repeat (first | exact mhd _ | apply mtl)
    · rfl
    · exact ⟨hle1, by rw [if_pos (by omega)], rfl⟩
  · refine v_call (μ1 := [(q, qO r n a mp), (mp, oM)]) (μ2 := [(b, .cells zeroE.cmd.cells.toArray 32 (0, 0))]) rfl q2 (by apply perm_of_count; intro p; simp only [List.append_eq, List.countP_append, List.countP_cons, List.countP_nil, Nat.zero_add, Nat.add_zero]; try ac_rfl) rfl ?_
    rintro _ G2 _ hle2 ⟨-, rfl, rfl⟩
    repeat' (first | (apply v_read; (case hop => (apply r_loadNo; (case hx => rfl); (case h => repeat (exact mhd _)); (case hd => rfl); (case hn => rfl))); (case hd => rfl)) | apply v_seq | apply v_region | apply v_nil | (apply v_pure; (case hop => first | (apply p_move <;> rfl) | (apply p_assign <;> rfl) | (apply p_fieldAddrB <;> rfl) | (apply p_extract0 <;> rfl) | (apply p_extract1 <;> rfl) | fail); (case hd => rfl)) | (apply v_alloc; (case hz => rfl); (case hd => rfl); intro b) | (apply v_store; (case hp => rfl); (case hx => rfl); (case hc => rfl); (case hsz => rfl); (case h1 => rfl); (case hb => (repeat (first | exact mhd _ | apply mtl))); (case hfit => exact nle rfl); (case hov => (first | ((repeat (first | with_reducible exact ov_nil | apply ov_cons)); done) | rfl)); (case hu => repeat (first | exact Upd.here _ _ | apply Upd.there))) | fail)
    refine v_retM [(q, qO r n a mp), (mp, oM)] (outsM_cell_tmp (vs := sc.cells) (e := 32) rfl rfl rfl ?_ ?_) (by repeat (first | exact List.nil_sublist _ | apply List.Sublist.cons_cons | apply List.Sublist.cons)) ?_
    · repeat (first | exact mhd _ | apply mtl)
    · rfl
    · exact ⟨GH.le_trans hle1 hle2, by rw [if_neg (by omega)], rfl⟩
def topL (t : Int) (l : List Ent) : Int := l.foldl (fun t e => max t e.index) t
theorem topL_snoc (t : Int) (l : List Ent) (e : Ent) : topL t (l ++ [e]) = max (topL t l) e.index := by
  unfold topL
  rw [List.foldl_append]
  rfl
theorem topL_prop (l : List Ent) : ∀ t, t ≤ topL t l ∧ (∀ e ∈ l, e.index ≤ topL t l) ∧ (topL t l = t ∨ ∃ e ∈ l, topL t l = e.index) := by
  induction l with
  | nil => intro t; exact ⟨Int.le_refl _, by simp, .inl rfl⟩
  | cons x l ih =>
    intro t
    obtain ⟨h1, h2, h3⟩ := ih (max t x.index)
    have e : topL t (x :: l) = topL (max t x.index) l := rfl
    rw [e]
    refine ⟨by omega, ?_, ?_⟩
    · intro y hy
      rcases List.mem_cons.1 hy with rfl | hy
      · omega
      · exact h2 y hy
    · rcases h3 with h3 | ⟨y, hy, h3⟩
      · rw [h3]
        rcases Int.le_total t x.index with h | h
        · exact .inr ⟨x, List.mem_cons_self, by omega⟩
        · exact .inl (by omega)
      · exact .inr ⟨y, List.mem_cons_of_mem _ hy, h3⟩
def TopP (f : Int) (got : List Ms) (pre : List Int) (t : Int) : Prop := f ≤ t ∧ (∀ m ∈ got, m.src ∈ pre → ∀ e ∈ m.ents, e.index ≤ t) ∧ (t = f ∨ ∃ m ∈ got, ∃ e ∈ m.ents, t = e.index)
theorem TopP.more {f : Int} {got : List Ms} {pre : List Int} {t : Int} {x : Ms} (h : TopP f got pre t) (hx : x ∈ got) (hn : (got.map (·.src)).Nodup) : TopP f got (pre ++ [x.src]) (topL t x.ents) := by
  obtain ⟨h1, h2, h3⟩ := h
  obtain ⟨p1, p2, p3⟩ := topL_prop x.ents t
  refine ⟨by omega, ?_, ?_⟩
  · intro m hm hs e he
    rcases List.mem_append.1 hs with hs | hs
    · have := h2 m hm hs e he; omega
    · have e1 : m.src = x.src := by simpa using hs
      have e2 : m = x := by
        obtain ⟨i, hi, rfl⟩ := List.getElem_of_mem hm
        obtain ⟨j, hj, rfl⟩ := List.getElem_of_mem hx
        have := (List.getElem_inj (i := i) (j := j) (h₀ := by simpa using hi) (h₁ := by simpa using hj) hn).1 (by simpa using e1)
        subst this; rfl
      subst e2
      exact p2 e he
  · rcases p3 with p3 | ⟨e, he, p3⟩
    · rw [p3]; exact h3
    · exact .inr ⟨x, hx, e, he, p3⟩
theorem TopP.uniq {f : Int} {got : List Ms} {pre pre' : List Int} {t t' : Int} (h : TopP f got pre t) (h' : TopP f got pre' t') (ha : ∀ m ∈ got, m.src ∈ pre) (ha' : ∀ m ∈ got, m.src ∈ pre') : t = t' := by
  obtain ⟨a1, a2, a3⟩ := h
  obtain ⟨b1, b2, b3⟩ := h'
  have h1 : t ≤ t' := by
    rcases a3 with rfl | ⟨m, hm, e, he, rfl⟩
    · exact b1
    · exact b2 m hm (ha' m hm) e he
  have h2 : t' ≤ t := by
    rcases b3 with rfl | ⟨m, hm, e, he, rfl⟩
    · exact a1
    · exact a2 m hm (ha m hm) e he
  omega
def topQ (f : Int) (got : List Ms) : Int := got.foldl (fun t m => topL t m.ents) f
theorem topQ_TopP {f : Int} {got : List Ms} (hn : (got.map (·.src)).Nodup) : ∀ (k : Nat), k ≤ got.length → TopP f got ((got.take k).map (·.src)) ((got.take k).foldl (fun t m => topL t m.ents) f) := by
  intro k
  induction k with
  | zero => intro _; exact ⟨Int.le_refl _, by simp, .inl rfl⟩
  | succ k ih =>
    intro hk
    have h := ih (by omega)
    rw [List.take_succ_eq_append_getElem (by omega), List.map_append, List.foldl_append]
    exact h.more (List.getElem_mem _) hn
theorem topQ_top {f : Int} {got : List Ms} (hn : (got.map (·.src)).Nodup) : TopP f got (got.map (·.src)) (topQ f got) := by
  have h := topQ_TopP (f := f) hn got.length (Nat.le_refl _)
  rw [List.take_length] at h
  exact h
set_option maxHeartbeats 1000000 in
theorem top_s {G : GH} {r n a : Int} {q mp : Nat} {oM : Obj} {got : List Ms} {ml : List (Int × Value)} (hM : MapB keyI ml oM) (hg : GotR G got ml) (hb : SrcP got) (ha : 1 ≤ a ∧ a ≤ 4294967296) :
    Con Tryd.prog 25 #[.pointer (some ⟨q, 0, none⟩)] G [(q, qO r n a mp), (mp, oM)] (fun v G' μ' => GH.le G G' ∧ v = .int .i64 (topQ (floorQ a got) got) ∧ μ' = [(q, qO r n a mp), (mp, oM)]) := by
  have q1 := floor_s (r := r) (n := n) (a := a) (q := q) (mp := mp) hM hg hb ha
  have hnd := hM.nodup
  have hks := hg.keys
  have hn := id hnd
  rw [hks] at hn
  have htop := topQ_top (f := floorQ a got) hn
  generalize topQ (floorQ a got) got = tq at *
  generalize floorQ a got = f at *
  (refine v_enter Tryd.func25 rfl Tryd.ntmps25 rfl ?_; intro B _)
  repeat' (first | apply v_seq | apply v_region | apply v_nil | apply v_skip | (apply v_pure; (case hop => first | (apply p_move <;> rfl) | (apply p_assign <;> rfl) | (apply p_eqNil <;> rfl) | fail); (case hd => rfl)) | (apply v_condF; (case hc => rfl)) | fail)
  refine v_call (μ1 := [(q, qO r n a mp), (mp, oM)]) (μ2 := []) rfl q1 (by apply perm_of_count; intro p; simp only [List.append_eq, List.countP_append, List.countP_cons, List.countP_nil, Nat.zero_add, Nat.add_zero]; try ac_rfl) rfl ?_
  rintro _ G1 _ hle1 ⟨-, rfl, rfl⟩
  repeat' (first | apply v_seq | apply v_region | apply v_nil | apply v_block | (apply v_pure; (case hop => first | (apply p_move <;> rfl) | (apply p_assign <;> rfl) | (apply p_fieldAddrB <;> rfl) | (apply p_nilCheck <;> rfl) | fail); (case hd => rfl)) | (apply v_rangeM (hb := (by repeat (first | exact mhd _ | apply mtl))) (hM := hM); (case hx => rfl); (case hd => rfl); intro it oI hI) | (apply v_read; (case hop => (apply r_load1; rfl; (apply Cell.own; (case h => (repeat (exact mhd _))); rfl))); (case hd => rfl)) | fail)
  refine v_loopI (ι := List Int × List Int) [3, 16] (fun i vs G' μ' => GH.le G1 G' ∧ ∃ t oI, TopP f got i.1 t ∧ IterB keyI mp ml i.2 oM oI ∧ i.2.Nodup ∧ (i.1 ++ i.2).Perm (ml.map (·.1)) ∧ vs = [.int .i64 t, .pointer (some ⟨it, 0, none⟩)] ∧ μ' = [(it, oI), (q, qO r n a mp), (mp, oM)]) (fun i => i.2.length) rfl ([], ml.map (·.1)) ⟨GH.le_refl _, f, oI, ⟨Int.le_refl _, by simp, .inl rfl⟩, hI, hnd, List.Perm.refl _, rfl, rfl⟩ ?_
  rintro ⟨pre, left⟩ vs G' _ ⟨hle', t, oI', htp, hI', hnl, hper, rfl, rfl⟩
  simp only at hI' hnl hper htp
  repeat' (first | apply v_seq | apply v_region | (apply v_nextM (k := 3) (hb := (by repeat (first | exact mhd _ | apply mtl))) (hI := hI'); (case hx => rfl); (case hp => exact List.Perm.refl _); (case hd => rfl)) | fail)
  · intro h0
    subst h0
    repeat' (first | apply v_seq | apply v_region | apply v_nil | (apply v_exit; (case hp => rfl)) | (apply v_pure; (case hop => first | (apply p_move <;> rfl) | (apply p_assign <;> rfl) | (apply p_extract0 <;> rfl) | fail); (case hd => rfl)) | (apply v_condF; (case hc => rfl)) | fail)
    refine v_ret [(q, qO r n a mp), (mp, oM)] (outsA1 rfl rfl) (by repeat (first | exact List.Sublist.refl _ | apply List.Sublist.cons)) ⟨GH.le_trans hle1 hle', ?_, rfl⟩
    rw [List.append_nil] at hper
    have : t = tq := htp.uniq htop (fun m hm => hper.mem_iff.2 (by rw [hks]; exact List.mem_map.2 ⟨m, hm, rfl⟩)) (fun m hm => List.mem_map.2 ⟨m, hm, rfl⟩)
    rw [this]
  · intro k u oI2 hal hau hI2 hE
    have hlp := leftM_perm hnl hal
    obtain ⟨x, hx, rfl, EA, ec, IA, ic, rfl, hes⟩ := hg.val hau
    have hmore := htp.more hx hn
    obtain ⟨A7, c7, e7, hlc, hcm, hsome, hcp, -⟩ := esOpen (hes.mono (GH.le_trans hle1 hle'))
    cases e7
    have hbl := (hb.2.2 x hx).2
    generalize hents : x.ents = ents at *
    repeat' (first | apply v_seq | apply v_region | apply v_nil | apply v_skip | apply v_block | (apply v_pure; (case hop => first | (apply p_move <;> rfl) | (apply p_lenSlice <;> rfl) | (apply p_fieldAddrB <;> rfl) | (apply p_extract0 <;> rfl) | (apply p_extract1 <;> rfl) | fail); (case hd => rfl)) | (apply v_condT; (case hc => rfl)) | (apply v_read; (case hop => apply r_entry (hE := hE); (case hx => rfl); (case hi => repeat (exact mhd _)); (case hb => repeat (first | exact mhd _ | apply mtl))); (case hd => rfl)) | (apply v_read; (case hop => (apply r_load1; rfl; (apply Cell.own; (case h => (repeat (exact mhd _))); rfl))); (case hd => rfl)) | (apply v_alloc; (case hz => rfl); (case hd => rfl); intro b) | (apply v_store; (case hp => rfl); (case hx => rfl); (case hc => rfl); (case hsz => rfl); (case h1 => rfl); (case hb => (repeat (exact mhd _))); (case hfit => exact nle rfl); (case hov => ((repeat (first | with_reducible exact ov_nil | apply ov_cons)); done)); (case hu => repeat (exact Upd.here _ _))) | fail)
    refine v_drop (List.sublist_cons_self _ _) ?_
    refine v_loop [24, 3, 22, 23, 16] (fun us H μ' => H = G' ∧ ∃ k : Nat, k ≤ ents.length ∧ us = [Value.int .i64 (k : Nat), .int .i64 (topL t (ents.take k)), .slice EA ents.length ec, .int .i64 (ents.length : Nat), .pointer (some ⟨it, 0, none⟩)] ∧ μ' = [(it, oI2), (q, qO r n a mp), (mp, oM)]) (fun us => ents.length - (headI us).toNat) rfl ⟨rfl, 0, by omega, rfl, rfl⟩ ?_
    rintro us H _ ⟨hH, k, hk, rfl, rfl⟩
    subst H
    by_cases hlt : k < ents.length
    · have e1 : ((k : Nat) : Int).toNat = k := by omega
      have hA := hsome (by omega)
      have hc := hcp k hlt
      have hsn := topL_snoc t (ents.take k) ents[k]
      rw [← List.take_succ_eq_append_getElem hlt] at hsn
      generalize topL t (ents.take k) = s at *
      generalize ents[k] = e at *
      obtain ⟨ei, er, en, ek⟩ := e
      simp only at hsn
      repeat' (first | apply v_seq | apply v_region | apply v_nil | apply v_skip | apply v_block | apply v_blk | (apply v_pure; (case hop => first | (apply p_move <;> rfl) | (apply p_lt <;> rfl) | (apply p_assign <;> rfl) | (apply p_fieldAddrB <;> rfl) | (apply p_add; (case hx => rfl); (case hy => rfl); (case h => omega)) | (apply p_max <;> rfl) | (apply p_indexAddrS; (case hx => rfl); (case hi => rfl); (case h0 => omega); (case h => omega); (case hA => assumption)) | fail); (case hd => rfl)) | (apply v_cond; (case hc => rfl); all_goals (intro h; (try simp only [reduceCtorEq, zzz] at h); first | (exfalso; omega) | skip)) | (apply v_read; (case hop => (apply r_loadN; rfl; exact CellsAt.frozen hc; rfl)); (case hd => rfl)) | (apply v_read; (case hop => (apply r_load1; rfl; (apply Cell.own; (case h => (repeat (exact mhd _))); rfl))); (case hd => rfl)) | (apply v_alloc; (case hz => rfl); (case hd => rfl); intro b) | (apply v_store; (case hp => rfl); (case hx => rfl); (case hc => rfl); (case hsz => rfl); (case h1 => rfl); (case hb => (repeat (exact mhd _))); (case hfit => exact nle rfl); (case hov => ((repeat (first | with_reducible exact ov_nil | apply ov_cons)); done)); (case hu => repeat (exact Upd.here _ _))) | fail)
      refine v_drop (List.sublist_cons_self _ _) ?_
      exact v_again rfl ⟨rfl, k + 1, by omega, by rw [hsn] <;> rfl, rfl⟩ (by simp [headI]; omega)
    · have ek : k = ents.length := by omega
      subst ek
      rw [List.take_length]
      repeat' (first | apply v_seq | apply v_region | apply v_nil | apply v_blk | (apply v_exit; (case hp => rfl)) | (apply v_pure; (case hop => (apply p_lt <;> rfl)); (case hd => rfl)) | (apply v_cond; (case hc => rfl); all_goals (intro h; (try simp only [reduceCtorEq, zzz] at h); first | (exfalso; omega) | skip)) | fail)
      refine v_againI (pre ++ [x.src], left.filter fun z => decide (z ≠ x.src)) rfl ⟨hle', _, oI2, hmore, hI2, hnl.sublist List.filter_sublist, ?_, rfl, rfl⟩ ?_
      · refine List.Perm.trans ?_ hper
        simp only [List.append_assoc, List.singleton_append]
        exact List.Perm.append_left _ hlp.symm
      · have := hlp.length_eq
        simp only [List.length_cons] at this ⊢
        omega
section
variable {P : Program} {σ : Env} {G : GH} {μ : OH} {t ty : TypeId} {bytes : Nat} {zero : Value}
end
theorem won_s {G : GH} {r n a : Int} {q mp : Nat} {oM : Obj} {got : List Ms} {ml : List (Int × Value)} {members : List Int} {sv : Value} (hM : MapB keyI ml oM) (hg : GotR G got ml) (hb : SrcP got) (hs : Sl G 1 (IntR .i64) sv members) (hl : members.length ≤ 10000) :
    Con Tryd.prog 26 #[.pointer (some ⟨q, 0, none⟩), sv] G [(q, qO r n a mp), (mp, oM)] (fun v G' μ' => GH.le G G' ∧ v = .bool (majB members (nodesL got)) ∧ μ' = [(q, qO r n a mp), (mp, oM)]) := by
  have q1 := nodes_s (r := r) (n := n) (a := a) (q := q) (mp := mp) hM hg hb.1
  have hnd := hb.nodes
  obtain ⟨A, c, rfl, -⟩ := id hs.openInt
  (refine v_enter Tryd.func26 rfl Tryd.ntmps26 rfl ?_; intro B _)
  repeat' (first | apply v_seq | apply v_region | apply v_nil | (apply v_take; (case hg => rfl)) | (apply v_pure; (case hop => first | (apply p_move <;> rfl) | (apply p_assign <;> rfl) | (apply p_neNil <;> rfl) | fail); (case hd => rfl)) | fail)
  refine v_call (μ1 := [(q, qO r n a mp), (mp, oM)]) (μ2 := []) rfl q1 (List.Perm.refl _) rfl ?_
  rintro v1 G1 _ - ⟨hG1, ν, hgr, rfl⟩
  subst hG1
  refine v_frzP ν (List.Perm.of_eq (List.append_nil _)) ?_
  intro G2 hle2 hG2
  have hn := hgr.ints hG2 (fun x hx => by
    have := hnd x hx
    exact WalkArith.wf_i64 (by omega))
  obtain ⟨A2, c2, rfl, -⟩ := id hn.openInt
  have q2 := maj_s (hs.mono hle2) hn hl
  repeat' (first | apply v_nil | (apply v_take; (case hg => rfl)) | (apply v_pure; (case hop => first | (apply p_assign <;> rfl) | (apply p_pickT <;> rfl) | fail); (case hd => rfl)) | (apply v_callJ (hs := q2); (case ha => rfl); (case hd => rfl)) | fail)
  exact v_ret [(q, qO r n a mp), (mp, oM)] (outsA1 rfl rfl) (List.Sublist.refl _) ⟨hle2, rfl, rfl⟩
theorem floor0_s (G : GH) : Con Tryd.prog 23 #[.pointer none] G [] (Just (.int .i64 0) G) := by
  apply Con.just
  (refine v_enter Tryd.func23 rfl Tryd.ntmps23 rfl ?_; intro B _)
  repeat' (first | apply v_seq | apply v_region | apply v_nil | (apply v_pure; (case hop => first | (apply p_move <;> rfl) | (apply p_assign <;> rfl) | (apply p_eqNil <;> rfl) | fail); (case hd => rfl)) | (apply v_condT; (case hc => rfl)) | fail)
  refine v_ret [] (outsA1 rfl rfl) (by repeat (exact List.Sublist.refl _)) ?_
  exact ⟨rfl, rfl⟩
theorem behind0_s (G : GH) : Con Tryd.prog 24 #[.pointer none] G [] (Just (.int .i64 0) G) := by
  apply Con.just
  (refine v_enter Tryd.func24 rfl Tryd.ntmps24 rfl ?_; intro B _)
  repeat' (first | apply v_seq | apply v_region | apply v_nil | (apply v_pure; (case hop => first | (apply p_move <;> rfl) | (apply p_assign <;> rfl) | (apply p_eqNil <;> rfl) | fail); (case hd => rfl)) | (apply v_condT; (case hc => rfl)) | fail)
  refine v_ret [] (outsA1 rfl rfl) (by repeat (exact List.Sublist.refl _)) ?_
  exact ⟨rfl, rfl⟩
theorem top0_s (G : GH) : Con Tryd.prog 25 #[.pointer none] G [] (Just (.int .i64 0) G) := by
  apply Con.just
  (refine v_enter Tryd.func25 rfl Tryd.ntmps25 rfl ?_; intro B _)
  repeat' (first | apply v_seq | apply v_region | apply v_nil | (apply v_pure; (case hop => first | (apply p_move <;> rfl) | (apply p_assign <;> rfl) | (apply p_eqNil <;> rfl) | fail); (case hd => rfl)) | (apply v_condT; (case hc => rfl)) | fail)
  refine v_ret [] (outsA1 rfl rfl) (by repeat (exact List.Sublist.refl _)) ?_
  exact ⟨rfl, rfl⟩
theorem from0_s (G : GH) : Con Tryd.prog 21 #[.pointer none] G [] (Just (.int .i64 0) G) := by
  apply Con.just
  (refine v_enter Tryd.func21 rfl Tryd.ntmps21 rfl ?_; intro B _)
  repeat' (first | apply v_seq | apply v_region | apply v_nil | (apply v_pure; (case hop => first | (apply p_move <;> rfl) | (apply p_assign <;> rfl) | (apply p_eqNil <;> rfl) | fail); (case hd => rfl)) | (apply v_condT; (case hc => rfl)) | fail)
  refine v_ret [] (outsA1 rfl rfl) (by repeat (exact List.Sublist.refl _)) ?_
  exact ⟨rfl, rfl⟩
theorem nodes0_s (G : GH) : Con Tryd.prog 22 #[.pointer none] G [] (Just (.slice none 0 0) G) := by
  apply Con.just
  (refine v_enter Tryd.func22 rfl Tryd.ntmps22 rfl ?_; intro B _)
  repeat' (first | apply v_seq | apply v_region | apply v_nil | (apply v_pure; (case hop => first | (apply p_move <;> rfl) | (apply p_assign <;> rfl) | (apply p_eqNil <;> rfl) | fail); (case hd => rfl)) | (apply v_condT; (case hc => rfl)) | fail)
  refine v_ret [] (outsA1 rfl rfl) (by repeat (exact List.Sublist.refl _)) ?_
  exact ⟨rfl, rfl⟩
theorem ballot0_s (G : GH) : Con Tryd.prog 20 #[.pointer none] G [] (Just (.agg #[.int .i64 0, .int .i64 0]) G) := by
  apply Con.just
  (refine v_enter Tryd.func20 rfl Tryd.ntmps20 rfl ?_; intro B _)
  repeat' (first | apply v_seq | apply v_region | apply v_nil | (apply v_pure; (case hop => first | (apply p_move <;> rfl) | (apply p_eqNil <;> rfl) | (apply p_build; (case hz => rfl); (case hv => (simp only [List.map_cons, List.map_nil]; repeat (with_reducible exact evs_nil))); (case hb => (apply bldL; repeat (exact bld_nil)))) | fail); (case hd => rfl)) | (apply v_condT; (case hc => rfl)) | (apply v_alloc; (case hz => rfl); (case hd => rfl); intro b) | (apply v_store; (case hp => rfl); (case hx => rfl); (case hc => rfl); (case hsz => rfl); (case h1 => rfl); (case hb => (repeat (exact mhd _))); (case hfit => exact nle rfl); (case hov => ((repeat (first | with_reducible exact ov_nil | apply ov_cons)); done)); (case hu => repeat (exact Upd.here _ _))) | fail)
  refine v_retM [] (outsM_cell (vs := [.int .i64 0, .int .i64 0]) (e := 48) rfl rfl ?_ rfl) (by repeat (exact List.nil_sublist _)) ⟨rfl, rfl⟩
  exact mhd _
theorem value0_s (G : GH) (index : Int) : Con Tryd.prog 19 #[.pointer none, .int .i64 index] G [] (Just (.tuple [.agg zeroE.cmd.cells.toArray, .bool false].toArray) G) := by
  apply Con.just
  (refine v_enter Tryd.func19 rfl Tryd.ntmps19 rfl ?_; intro B _)
  repeat' (first | apply v_seq | apply v_region | apply v_nil | (apply v_pass; (case hg => rfl); (case hn => rfl); (case hd => rfl)) | (apply v_pure; (case hop => first | (apply p_move <;> rfl) | (apply p_assign <;> rfl) | (apply p_pickT <;> rfl) | (apply p_eqNil <;> rfl) | (apply p_build; (case hz => rfl); (case hv => (simp only [List.map_cons, List.map_nil]; repeat (with_reducible exact evs_nil))); (case hb => (apply bldL; repeat (exact bld_nil)))) | fail); (case hd => rfl)) | (apply v_condT; (case hc => rfl)) | (apply v_alloc; (case hz => rfl); (case hd => rfl); intro b) | (apply v_store; (case hp => rfl); (case hx => rfl); (case hc => rfl); (case hsz => rfl); (case h1 => rfl); (case hb => (repeat (exact mhd _))); (case hfit => exact nle rfl); (case hov => ((repeat (first | with_reducible exact ov_nil | apply ov_cons)); done)); (case hu => repeat (exact Upd.here _ _))) | fail)
  refine v_retM [] (outsM_cell_tmp (vs := zeroE.cmd.cells) (e := 32) rfl rfl rfl ?_ rfl) (by repeat (exact List.nil_sublist _)) ⟨rfl, rfl⟩
  exact mhd _
theorem won0_s (G : GH) (v : Value) : Con Tryd.prog 26 #[.pointer none, v] G [] (Just (.bool false) G) := by
  apply Con.just
  (refine v_enter Tryd.func26 rfl Tryd.ntmps26 rfl ?_; intro B _)
  repeat' (first | apply v_seq | apply v_region | apply v_nil | (apply v_pass; (case hg => rfl); (case hn => rfl); (case hd => rfl)) | (apply v_pure; (case hop => first | (apply p_move <;> rfl) | (apply p_assign <;> rfl) | (apply p_pickF <;> rfl) | (apply p_neNil <;> rfl) | fail); (case hd => rfl)) | fail)
  refine v_ret [] (outsA1 rfl rfl) (by repeat (exact List.Sublist.refl _)) ?_
  exact ⟨rfl, rfl⟩
def xC : Cm := ⟨1, 0, 0, ByteArray.empty, ByteArray.empty, ByteArray.empty, 0⟩
def xE : Ent := ⟨5, 1, 1, xC⟩
def xM : Ms := ⟨4, 2, 1, 3, 1, 2, 1, 0, [xE], []⟩
theorem xOne : oneI xE = 0 := by
  rw [oneI, if_neg]
  · show cmdI xC = 0
    rw [cmdI_eq]
    simp [cmdE, xC]
  · rintro (h' | h' | h')
    · simp only [xE] at h'; omega
    · simp only [xE] at h'; omega
    · exact h' (.inr (by simp only [xE]; omega))
theorem xE_ok : xE.ok := by
  refine ⟨by decide, by decide, by decide, ?_⟩
  refine ⟨?_, ?_, ?_, ?_, ?_, ?_, ?_⟩ <;> decide
theorem xChk : chkK [xE] 0 = 0 := by
  rw [chkK_next (l := [xE]) (k := 0) (by decide) xOne (fun h => by omega)]
  exact chkK_end (by decide)
theorem xTake : TakeP 3 1 2 [] xM := by
  refine ⟨⟨rfl, ?_⟩, ⟨rfl, rfl⟩, rfl, by simp⟩
  refine ⟨by decide, ⟨.inr (by decide), by decide⟩, by decide, by decide, by decide, xChk, rfl, rfl⟩
theorem xRise : RiseL [xE] := fun i j hj h => by
  simp only [List.length_cons, List.length_nil] at hj
  omega
theorem xSrc : SrcP [xM] := ⟨by decide, by simp [xM], by
  intro m hm
  rw [List.mem_singleton] at hm
  subst hm
  exact ⟨xRise, by decide⟩⟩
theorem xNodes : nodesL [xM] = [2] := by
  unfold nodesL sortL
  simp [xM]
theorem xComS : comS [xM] (nodesL [xM]) = (1, 2) := by
  rw [xNodes]
  decide
theorem xFloor : floorQ 2 [xM] = 1 := by
  unfold floorQ
  rw [xComS]
  decide
theorem xTop : topQ (floorQ 2 [xM]) [xM] = 5 := by
  rw [xFloor]
  decide
theorem xVal : valueQ 2 [] 5 = (false, zeroE.cmd) := by
  have h1 : nodesL [] = [] := by unfold nodesL sortL; simp
  have h2 : floorQ 2 [] = 1 := by unfold floorQ; rw [h1]; decide
  unfold valueQ
  rw [h2, h1, if_neg (by omega)]
  rfl
theorem awake33_s {G : GH} (hT : TabsG G) : Con Tryd.prog 16 #[] G [] (fun v G' μ' => v = .bool true ∧ μ' = []) := by
  have q1 := qnew_s (G := G) (r := 3) (n := 1) (a := 2)
  (refine v_enter Tryd.func16 rfl Tryd.ntmps16 rfl ?_; intro B _)
  repeat' (first | (apply v_read; (case hop => (apply r_loadNo; (case hx => rfl); (case h => repeat (exact mhd _)); (case hd => rfl); (case hn => rfl))); (case hd => rfl)) | apply v_seq | apply v_region | apply v_nil | (apply v_pure; (case hop => first | (apply p_assign <;> rfl) | (apply p_build; (case hz => rfl); (case hv => (simp only [List.map_cons, List.map_nil]; repeat (first | with_reducible exact evs_nil | (apply evs_cons; (case h1 => rfl))))); (case hb => (apply bldL; repeat (first | exact bld_nil | (apply bld_cons; (case hpf => rfl); (case hc => rfl); (case hs => rfl); (case hl => rfl); (case ho => ((repeat (first | with_reducible exact ov_nil | apply ov_cons)); done))))))) | fail); (case hd => rfl)) | (apply v_alloc; (case hz => rfl); (case hd => rfl); intro b) | (apply v_store; (case hp => rfl); (case hx => rfl); (case hc => rfl); (case hsz => rfl); (case h1 => rfl); (case hb => (repeat (exact mhd _))); (case hfit => exact nle rfl); (case hov => ((repeat (first | with_reducible exact ov_nil | apply ov_cons)); done)); (case hu => repeat (exact Upd.here _ _))) | fail)
  refine v_call (μ1 := []) rfl q1 (List.Perm.refl _) rfl ?_
  rintro _ G1 _ - ⟨hG1, h⟩
  subst hG1
  obtain ⟨h, -, -⟩ | ⟨-, q, mp, rfl, rfl⟩ := h
  · exact absurd (show QMay 3 1 2 from ⟨.inr (by decide), by decide, by decide, by decide⟩) h
  repeat' (first | (apply v_read; (case hop => (apply r_loadNo; (case hx => rfl); (case h => repeat (first | exact mhd _ | apply mtl)); (case hd => rfl); (case hn => rfl))); (case hd => rfl)) | (apply v_buildSlice; (case hz => rfl); (case hi => rfl); (case hv => (simp only [List.map_cons, List.map_nil]; repeat (first | with_reducible exact evs_nil | (apply evs_cons; (case h1 => rfl))))); (case hp => (apply pk_cons; (case hc => rfl); (case hs => rfl); (case h => (with_reducible exact pk_nil)); (case he => ((repeat (first | with_reducible exact ap_nil | apply ap_cons)); done)))); (case hb => rfl); (case hd => rfl); intro b9) | apply v_seq | apply v_region | apply v_nil | (apply v_pure; (case hop => first | (apply p_move <;> rfl) | (apply p_assign <;> rfl) | (apply p_build; (case hz => rfl); (case hv => (simp only [List.map_cons, List.map_nil]; repeat (first | with_reducible exact evs_nil | (apply evs_cons; (case h1 => rfl))))); (case hb => (apply bldL; repeat (first | exact bld_nil | (apply bld_cons; (case hpf => rfl); (case hc => rfl); (case hs => rfl); (case hl => rfl); (case ho => (first | ((repeat (first | with_reducible exact ov_nil | apply ov_cons)); done) | rfl))))))) | fail); (case hd => rfl)) | (apply v_alloc; (case hz => rfl); (case hd => rfl); intro b) | (apply v_store; (case hp => rfl); (case hx => rfl); (case hc => rfl); (case hsz => rfl); (case h1 => rfl); (case hb => (repeat (exact mhd _))); (case hfit => exact nle rfl); (case hov => ((repeat (first | with_reducible exact ov_nil | apply ov_cons)); done)); (case hu => repeat (exact Upd.here _ _))) | fail)
  rename_i bl
  refine v_frz [(b9, .cells xE.cells.toArray 89 (0, 0))] (PickA.cons _ (PickA.here _)) ?_
  intro G2 hle2 hG2
  have hs1 : Es G2 (.slice (some ⟨b9, 0, none⟩) 1 1) [xE] := by
    refine es_of_grow (l := [xE]) (ν := [(b9, .cells (esC [xE]).toArray 89 (0, 0))]) (Grow.lit (m := 1) (by rw [esC_length]; rfl) (by simp [maxLen])) hG2 (fun x hx => ?_)
    rw [List.mem_singleton] at hx
    subst hx
    exact xE_ok
  have hm : MsR G2 xM (xM.cells (.slice (some ⟨b9, 0, none⟩) 1 1) (.slice none 0 0)) := ⟨_, _, _, _, rfl, hs1, Sl.nil⟩
  have q2 := value_s (G := G2) (r := 3) (n := 1) (a := 2) (q := q) (mp := mp) (oM := .map #[] 0) (got := []) (ml := []) 5 MapB.nil GotR.nil ⟨by decide, by simp, by simp⟩ ⟨by decide, by decide⟩
  rw [xVal] at q2
  refine v_call (μ1 := [(q, qO 3 1 2 mp), (mp, .map #[] 0)]) (μ2 := [(b, .cells (xM.cells (.slice (some ⟨b9, 0, none⟩) 1 1) (.slice none 0 0)).toArray 54 (0, 0)), (bl, _)]) rfl q2 (by apply perm_of_count; intro p; simp only [List.append_eq, List.countP_append, List.countP_cons, List.countP_nil, Nat.zero_add, Nat.add_zero]; try ac_rfl) rfl ?_
  rintro _ G3 _ hle3 ⟨-, rfl, rfl⟩
  have q3 := qtake_s ((hT.le hle2).le hle3) (r := 3) (n := 1) (a := 2) (q := q) (mp := mp) xM (hm.le hle3) MapB.nil GotR.nil (by decide)
  repeat' (first | (apply v_read; (case hop => (apply r_loadNo; (case hx => rfl); (case h => repeat (first | exact mhd _ | apply mtl)); (case hd => rfl); (case hn => rfl))); (case hd => rfl)) | apply v_seq | apply v_region | apply v_nil | (apply v_pure; (case hop => first | (apply p_move <;> rfl) | (apply p_assign <;> rfl) | (apply p_extract0 <;> rfl) | (apply p_extract1 <;> rfl) | fail); (case hd => rfl)) | (apply v_alloc; (case hz => rfl); (case hd => rfl); intro b) | (apply v_store; (case hp => rfl); (case hx => rfl); (case hc => rfl); (case hsz => rfl); (case h1 => rfl); (case hb => (repeat (exact mhd _))); (case hfit => exact nle rfl); (case hov => ((repeat (first | with_reducible exact ov_nil | apply ov_cons)); done)); (case hu => repeat (exact Upd.here _ _))) | fail)
  rename_i bm
  refine v_perm (ν := [(q, qO 3 1 2 mp), (mp, .map #[] 0)] ++ [(b, _), (bm, _), (bl, _)]) (by apply perm_of_count; intro p; simp only [List.append_eq, List.countP_append, List.countP_cons, List.countP_nil, Nat.zero_add, Nat.add_zero]; try ac_rfl) ?_
  refine v_call (μ1 := [(q, qO 3 1 2 mp), (mp, .map #[] 0)]) (μ2 := _) rfl q3 (List.Perm.refl _) rfl ?_
  rintro _ G4 _ hle4 ⟨-, rfl, ml, oM, hM, hg, rfl⟩
  rw [decide_eq_true xTake]
  rw [if_pos xTake, List.nil_append] at hg
  have q4 := top_s (r := 3) (n := 1) (a := 2) (q := q) (mp := mp) hM hg xSrc ⟨by decide, by decide⟩
  rw [xTop] at q4
  repeat' (first | (apply v_take; (case hg => rfl)) | (apply v_pure; (case hop => first | (apply p_move <;> rfl) | (apply p_eqs <;> rfl) | (apply p_pickT <;> rfl) | (apply p_not <;> rfl) | (apply p_fieldAddrB <;> rfl) | fail); (case hd => rfl)) | (apply v_read; (case hop => (apply r_load1; rfl; (apply Cell.own; (case h => (repeat (first | exact mhd _ | apply mtl))); rfl))); (case hd => rfl)) | fail)
  refine v_call (μ1 := [(q, qO 3 1 2 mp), (mp, oM)]) (μ2 := _) rfl q4 (List.Perm.refl _) rfl ?_
  rintro _ G5 _ hle5 ⟨-, rfl, rfl⟩
  have q5 := floor_s (r := 3) (n := 1) (a := 2) (q := q) (mp := mp) hM (hg.le hle5) xSrc ⟨by decide, by decide⟩
  rw [xFloor] at q5
  repeat' (first | (apply v_take; (case hg => rfl)) | (apply v_pure; (case hop => first | (apply p_move <;> rfl) | (apply p_eqs <;> rfl) | (apply p_pickT <;> rfl) | fail); (case hd => rfl)) | fail)
  refine v_call (μ1 := [(q, qO 3 1 2 mp), (mp, oM)]) (μ2 := _) rfl q5 (List.Perm.refl _) rfl ?_
  rintro _ G6 _ hle6 ⟨-, rfl, rfl⟩
  repeat' (first | apply v_nil | (apply v_take; (case hg => rfl)) | (apply v_pure; (case hop => first | (apply p_eqs <;> rfl) | (apply p_assign <;> rfl) | (apply p_pickT <;> rfl) | fail); (case hd => rfl)) | fail)
  refine v_ret [] (outsA1 rfl rfl) (List.nil_sublist _) ⟨?_, rfl⟩
  rfl
def CmR (c : Cm) (cs : List Value) : Prop := cs = c.cells ∧ c.ok
theorem el_cm {H : Type} {enc : TypeId × Value → H} {W : World} : Elem enc Tryd.prog W 32 CmR := by
  intro fuel cs x hf
  have h1 := el_flen (n := 7) Tryd.underlying32 (by kernel_rfl) hf
  obtain ⟨a0, h0, w0⟩ := el_fld (i := 0) (sz := 1) (by kernel_rfl) (el_int Tryd.underlying3) hf
  obtain ⟨a1, e1, w1⟩ := el_fld (i := 1) (sz := 1) (by kernel_rfl) (el_int Tryd.underlying3) hf
  obtain ⟨a2, e2, w2⟩ := el_fld (i := 2) (sz := 1) (by kernel_rfl) (el_int Tryd.underlying3) hf
  obtain ⟨a3, e3, w3⟩ := el_fld (i := 3) (sz := 1) (by kernel_rfl) (el_string Tryd.underlying9) hf
  obtain ⟨a4, e4, w4⟩ := el_fld (i := 4) (sz := 1) (by kernel_rfl) (el_string Tryd.underlying9) hf
  obtain ⟨a5, e5, w5⟩ := el_fld (i := 5) (sz := 1) (by kernel_rfl) (el_string Tryd.underlying9) hf
  obtain ⟨a6, e6, w6⟩ := el_fld (i := 6) (sz := 1) (by kernel_rfl) (el_int Tryd.underlying3) hf
  match cs, h1 with
  | [c0, c1, c2, c3, c4, c5, c6], _ =>
    simp only [List.drop_succ_cons, List.drop_zero, List.take_succ_cons, List.take_zero, List.cons.injEq, and_true] at h0 e1 e2 e3 e4 e5 e6
    exact ⟨⟨a0, a1, a2, a3, a4, a5, a6⟩, by rw [h0, e1, e2, e3, e4, e5, e6]; rfl, w0, w1, w2, w3, w4, w5, w6⟩
theorem el_ent {H : Type} {enc : TypeId × Value → H} {W : World} : Elem enc Tryd.prog W 89 EntR := by
  intro fuel cs x hf
  have h1 := el_flen (n := 10) Tryd.underlying89 (by kernel_rfl) hf
  obtain ⟨k, hk, wk⟩ := el_fld (i := 0) (sz := 1) (by kernel_rfl) (el_int Tryd.underlying3) hf
  have hb : Elem enc Tryd.prog W 48 (fun (p : Int × Int) cs => cs = [.int .i64 p.1, .int .i64 p.2] ∧ (Lit.int .i64 p.1).wf = true ∧ (Lit.int .i64 p.2).wf = true) := by
    intro fuel cs x hf
    have h1 := el_flen (n := 2) Tryd.underlying48 (by kernel_rfl) hf
    obtain ⟨a, ha, wa⟩ := el_fld (i := 0) (sz := 1) (by kernel_rfl) (el_int Tryd.underlying3) hf
    obtain ⟨b, hb, wb⟩ := el_fld (i := 1) (sz := 1) (by kernel_rfl) (el_int Tryd.underlying3) hf
    match cs, h1 with
    | [c0, c1], _ =>
      simp only [List.drop_succ_cons, List.drop_zero, List.take_succ_cons, List.take_zero, List.cons.injEq, and_true] at ha hb
      exact ⟨(a, b), by rw [ha, hb], wa, wb⟩
  obtain ⟨⟨r, n⟩, hr, wr, wn⟩ := el_fld (i := 1) (sz := 2) (by kernel_rfl) hb hf
  obtain ⟨c, hc, ho⟩ := el_fld (i := 2) (sz := 7) (by kernel_rfl) el_cm hf
  match cs, h1 with
  | [c0, c1, c2, c3, c4, c5, c6, c7, c8, c9], _ =>
    simp only [Cm.cells, List.drop_succ_cons, List.drop_zero, List.take_succ_cons, List.take_zero, List.cons.injEq, and_true] at hk hr hc
    obtain ⟨rfl, rfl⟩ := hr
    obtain ⟨rfl, rfl, rfl, rfl, rfl, rfl, rfl⟩ := hc
    subst hk
    exact ⟨⟨k, r, n, c⟩, rfl, wk, wr, wn, ho⟩
set_option maxRecDepth 100000 in
theorem el_ms {H : Type} {enc : TypeId × Value → H} {W : World} : Elem enc Tryd.prog W 54 (MsR (ghost W)) := by
  intro fuel cs x hf
  have h1 := el_flen (n := 10) Tryd.underlying54 (by kernel_rfl) hf
  have hb : Elem enc Tryd.prog W 48 (fun (p : Int × Int) cs => cs = [.int .i64 p.1, .int .i64 p.2] ∧ (Lit.int .i64 p.1).wf = true ∧ (Lit.int .i64 p.2).wf = true) := by
    intro fuel cs x hf
    have h1 := el_flen (n := 2) Tryd.underlying48 (by kernel_rfl) hf
    obtain ⟨a, ha, wa⟩ := el_fld (i := 0) (sz := 1) (by kernel_rfl) (el_int Tryd.underlying3) hf
    obtain ⟨b, hb, wb⟩ := el_fld (i := 1) (sz := 1) (by kernel_rfl) (el_int Tryd.underlying3) hf
    match cs, h1 with
    | [c0, c1], _ =>
      simp only [List.drop_succ_cons, List.drop_zero, List.take_succ_cons, List.take_zero, List.cons.injEq, and_true] at ha hb
      exact ⟨(a, b), by rw [ha, hb], wa, wb⟩
  obtain ⟨a0, e0, w0⟩ := el_fld (i := 0) (sz := 1) (by kernel_rfl) (el_int Tryd.underlying3) hf
  obtain ⟨a1, e1, w1⟩ := el_fld (i := 1) (sz := 1) (by kernel_rfl) (el_int Tryd.underlying3) hf
  obtain ⟨a2, e2, w2⟩ := el_fld (i := 2) (sz := 1) (by kernel_rfl) (el_int Tryd.underlying3) hf
  obtain ⟨⟨r, n⟩, e3, -⟩ := el_fld (i := 3) (sz := 2) (by kernel_rfl) hb hf
  obtain ⟨a4, e4, w4⟩ := el_fld (i := 4) (sz := 1) (by kernel_rfl) (el_int Tryd.underlying3) hf
  obtain ⟨a5, e5, w5⟩ := el_fld (i := 5) (sz := 1) (by kernel_rfl) (el_int Tryd.underlying3) hf
  obtain ⟨a6, e6, w6⟩ := el_fld (i := 6) (sz := 1) (by kernel_rfl) (el_int Tryd.underlying3) hf
  obtain ⟨l7, v7, e7, s7⟩ := el_fld (i := 7) (sz := 1) (by kernel_rfl) (el_slice (sz := 10) Tryd.underlying51 (by kernel_rfl) el_ent) hf
  obtain ⟨l8, v8, e8, s8⟩ := el_fld (i := 8) (sz := 1) (by kernel_rfl) (el_slice (sz := 1) Tryd.underlying52 (by kernel_rfl) (el_int Tryd.underlying5)) hf
  match cs, h1 with
  | [c0, c1, c2, c3, c4, c5, c6, c7, c8, c9], _ =>
    simp only [List.drop_succ_cons, List.drop_zero, List.take_succ_cons, List.take_zero, List.cons.injEq, and_true] at e0 e1 e2 e3 e4 e5 e6 e7 e8
    obtain ⟨rfl, rfl⟩ := e3
    subst e0; subst e1; subst e2; subst e4; subst e5; subst e6; subst e7; subst e8
    obtain ⟨A, c, rfl, -⟩ := id s7.open
    obtain ⟨A', c', rfl, -⟩ := id s8.open
    exact ⟨⟨a0, a1, a2, r, n, a4, a5, a6, l7, l8⟩, A, c, A', c', rfl, s7, s8⟩
set_option maxRecDepth 100000 in
theorem arg_t44 {H : Type} {enc : TypeId × Value → H} {W : World} {base : Nat} {v : Value} {d : DataW H} {p : List MemPlace} (hv : Value.okWide Tryd.prog W .any base 44 v) (h : DataW.Trod enc Tryd.prog W 0 (fun _ => true) true 44 v d p) : ∃ l : List Ms, Mss (ghost W) v l :=
  arg_slice Tryd.underlying44 (by kernel_rfl) el_ms hv h
set_option maxRecDepth 100000 in
theorem arg_t45 {H : Type} {enc : TypeId × Value → H} {W : World} {base : Nat} {v : Value} {d : DataW H} {p : List MemPlace} (hv : Value.okWide Tryd.prog W .any base 45 v) (h : DataW.Trod enc Tryd.prog W 0 (fun _ => true) true 45 v d p) : ∃ l : List Int, Sl (ghost W) 1 (IntR .i64) v l :=
  arg_slice Tryd.underlying45 (by kernel_rfl) (el_int Tryd.underlying3) hv h
theorem firstEq : (Rows.laid_unicode_utf8_first : DataW Unit) = Lib.firstData := by kernel_rfl
theorem acceptEq : (Rows.laid_unicode_utf8_acceptRanges : DataW Unit) = Lib.acceptData := by kernel_rfl
abbrev tabsLaid : List (String × DataW Unit) := [("unicode/utf8.acceptRanges", Rows.laid_unicode_utf8_acceptRanges), ("unicode/utf8.first", Rows.laid_unicode_utf8_first)]
theorem tabs_plain : (tabsLaid.all fun x => x.2.handleName?.isNone) = true := by kernel_rfl
theorem tabs_of_laid {W : World} (hL : laidMetH Tryd.prog tabsLaid W) : TabsG (ghost W) := by
  rw [MakeChecks.laidMetH_plain _ _ _ tabs_plain] at hL
  have r1 := Lib.laidMet.reads hL (.tail _ (.head _))
  have r2 := Lib.laidMet.reads hL (.head _)
  rw [firstEq] at r1
  rw [acceptEq] at r2
  have hU := utf8Tabs_of_readsT (ρ := laysDecode_ren) { laysDecode with } ⟨by kernel_rfl, by kernel_rfl, by kernel_rfl, by kernel_rfl, by kernel_rfl, by kernel_rfl, by kernel_rfl⟩ r1 r2
  clear hL r1 r2
  intro w hw
  have lift : ∀ (a : Addr) v, W.cell? a = some v → w.cell? a = some v := by
    intro a v h
    unfold World.cell? at h ⊢
    cases hb : W.heap[a.block]? with
    | none => rw [hb] at h; simp at h
    | some o => rw [hw _ _ hb]; rw [hb] at h; exact h
  exact ⟨fun c hc => lift _ _ (hU.1 c hc), fun i hi => ⟨lift _ _ (hU.2 i hi).1, lift _ _ (hU.2 i hi).2⟩⟩
section
variable {α : Type} {e : TypeId} {sz : Nat} {R R' : α → List Value → Prop} {v : Value} {l : List α} {ν : OH}
end
theorem chk_all {l : List Ent} : ∀ (n k : Nat), l.length - k = n → chkK l k = 0 → ∀ i (h : i < l.length), k ≤ i → oneI l[i] = 0
  | 0, k, hn, _, i, h, hk => by omega
  | n + 1, k, hn, hc, i, h, hk => by
    have hlt : k < l.length := by omega
    rw [chkK, dif_pos hlt] at hc
    by_cases h1 : oneI l[k] ≠ 0
    · rw [if_pos h1] at hc; exact absurd hc h1
    · rw [if_neg h1] at hc
      by_cases hik : i = k
      · subst hik; exact Decidable.not_not.1 h1
      · have hnext : chkK l (k + 1) = 0 := by
          by_cases h0 : 0 < k
          · rw [dif_pos h0] at hc
            split at hc
            · cases hc
            · exact hc
          · rw [dif_neg h0] at hc; exact hc
        exact chk_all n (k + 1) (by omega) hnext i h (by omega)
theorem chk_step {l : List Ent} : ∀ (n k : Nat), l.length - k = n → chkK l k = 0 → ∀ j (hj : j < l.length), k ≤ j → ∀ (h0 : 0 < j), (l[j - 1]'(by omega)).index < l[j].index
  | 0, k, hn, h, j, hj, hkj, h0 => by omega
  | n + 1, k, hn, h, j, hj, hkj, h0 => by
    have hlt : k < l.length := by omega
    have h1 : oneI l[k] = 0 := chk_all (n + 1) k hn h k hlt (Nat.le_refl _)
    by_cases hk : ∃ h0 : 0 < k, l[k].index ≤ (l[k - 1]'(by omega)).index
    · obtain ⟨h2, h3⟩ := hk
      have := chkK_low hlt h1 h2 h3
      omega
    · have hnx := chkK_next hlt h1 fun h2 h3 => hk ⟨h2, h3⟩
      by_cases e : j = k
      · subst e
        have : ¬ l[j].index ≤ (l[j - 1]'(by omega)).index := fun h3 => hk ⟨h0, h3⟩
        omega
      · exact chk_step n (k + 1) (by omega) (by rw [← hnx]; exact h) j hj (by omega) h0
theorem chk_rise {l : List Ent} (h : chkK l 0 = 0) : RiseL l := by
  have hs := chk_step (l.length - 0) 0 rfl h
  have key : ∀ (d i : Nat) (hi : i + d + 1 < l.length), (l[i]'(by omega)).index < l[i + d + 1].index := by
    intro d
    induction d with
    | zero =>
      intro i hi
      have := hs (i + 1) (by omega) (by omega) (by omega)
      simpa using this
    | succ d ih =>
      intro i hi
      have h1 := ih i (by omega)
      have h2 := hs (i + (d + 1) + 1) hi (by omega) (by omega)
      simp only [Nat.add_sub_cancel] at h2
      exact Int.lt_trans h1 h2
  intro i j hj hij
  have := key (j - i - 1) i (by omega)
  simpa only [show i + (j - i - 1) + 1 = j by omega] using this
theorem eqSame {σ : Env} {ty t t' : TypeId} {x y : Operand} {k : IntKind} {a : Int} (hx : Env.ev σ x = some (.int k a)) (hy : Env.ev σ y = some (.int k a)) : PureOp Tryd.prog (.binOp .eql t x y t') ty σ (.bool true) := by
  have := p_eq (P := Tryd.prog) (t := t) (t' := t') (ty := ty) hx hy
  rwa [dec_eq, decide_eq_true rfl] at this
theorem eqBalSame {σ : Env} {ty t' : TypeId} {x y : Operand} {a b : Int} (hx : Env.ev σ x = some (.agg [.int .i64 a, .int .i64 b].toArray)) (hy : Env.ev σ y = some (.agg [.int .i64 a, .int .i64 b].toArray)) : PureOp Tryd.prog (.binOp .eql 48 x y t') ty σ (.bool true) := by
  have := eqBal (ty := ty) (t' := t') hx hy
  rwa [dec_eq, decide_eq_true ⟨rfl, rfl⟩] at this
theorem eqBSame {σ : Env} {ty t' : TypeId} {x y : Operand} (b : Bool) (hx : Env.ev σ x = some (.bool b)) (hy : Env.ev σ y = some (.bool b)) : PureOp Tryd.prog (.binOp .eql 4 x y t') ty σ (.bool true) := by
  have := p_eqB (P := Tryd.prog) (t := 4) (ty := ty) (t' := t') hx hy
  rwa [beq_self_eq_true] at this
def LearnI (got : List Ms) (k : Nat) : Prop := got.length ≤ k ∧ (∀ m ∈ got, PromP m ∧ m.ents.length ≤ 40) ∧ (got.map (·.src)).Nodup
theorem LearnI.facts {got : List Ms} {k : Nat} (h : LearnI got k) (hk : k ≤ 30) : SrcP got ∧ (∀ m ∈ got, 0 ≤ m.commit) ∧ (got.map (·.src)).Nodup := by
  obtain ⟨h1, h2, h3⟩ := h
  refine ⟨⟨by omega, fun m hm => ?_, fun m hm => ?_⟩, fun m hm => ?_, h3⟩
  · obtain ⟨⟨a, b, -⟩, -⟩ := (h2 m hm).1
    exact ⟨a, b⟩
  · obtain ⟨⟨-, -, -, -, -, c, -⟩, d⟩ := h2 m hm
    exact ⟨chk_rise c, by omega⟩
  · obtain ⟨-, -, -, c, -⟩ := (h2 m hm).1
    exact c.1
theorem LearnI.snoc {got : List Ms} {k : Nat} {r n a : Int} {m : Ms} (h : LearnI got k) (ht : TakeP r n a got m) (hz : MsZ m) : LearnI (got ++ [m]) (k + 1) := by
  obtain ⟨h1, h2, h3⟩ := h
  obtain ⟨⟨-, t1⟩, -, -, t2⟩ := ht
  refine ⟨by simp only [List.length_append, List.length_cons, List.length_nil]; omega, fun x hx => ?_, ?_⟩
  · rcases List.mem_append.1 hx with hx | hx
    · exact h2 x hx
    · rw [List.mem_singleton] at hx; subst hx; exact ⟨t1, hz.1⟩
  · rw [List.map_append, List.nodup_append]
    refine ⟨h3, by simp, fun x hx y hy => ?_⟩
    obtain ⟨z, hz, rfl⟩ := List.mem_map.1 hx
    simp only [List.map_cons, List.map_nil, List.mem_singleton] at hy
    subst hy
    exact t2 z hz
theorem LearnI.more {got : List Ms} {k : Nat} (h : LearnI got k) : LearnI got (k + 1) := ⟨by have := h.1; omega, h.2⟩
end Go.Proofs.YtmdeeokejdkceaaDoor
