/-
  spec (layer 29), plain: what the machine holds against a state: clients' last commands as sessions, a map's entries as pairs.
-/
import Derived.Test.YtmdeeokejdkceaaDoorM3
import Derived.Test.YtmdeeokejdkceaaDoorM1
import Derived.Test.YtmdeeokejdkceaaDoorM2
import Derived.Shelf.SortM.Plain
import Derived.Shelf.SortM.SortNone
import Derived.Lib.LaidU8T
import Derived.MakeChecks
import Derived.Test.YtmdeeokejdkceaaDoorRows
set_option linter.unusedSimpArgs false
set_option linter.unusedVariables false
namespace Go.Proofs.YtmdeeokejdkceaaDoor
open Go.Vx Go.ChangeShapes Go.WideShapes Go.ChangeAt Go.RowKit
structure Ls where
  seq : Int
  ans : An
def Ls.cells (x : Ls) : List Value := .int .i64 x.seq :: x.ans.cells
theorem Ls.len (x : Ls) : x.cells.length = 7 := rfl
def zLs : Ls := ⟨0, zA⟩
def dAt (D : List Ls) (c : Nat) : Ls := D.getD c zLs
def sesOne (D : List Ls) (c : Nat) : List Ss := if 0 < (dAt D c).seq then [⟨c, (dAt D c).seq, (dAt D c).ans⟩] else []
def sesK (D : List Ls) : Nat → List Ss
  | 0 => []
  | k + 1 => sesK D k ++ sesOne D k
theorem sesOne_mem {D : List Ls} {x : Ss} {c : Nat} : x ∈ sesOne D c ↔ 0 < (dAt D c).seq ∧ x = ⟨c, (dAt D c).seq, (dAt D c).ans⟩ := by
  unfold sesOne
  by_cases h : 0 < (dAt D c).seq
  · rw [if_pos h, List.mem_singleton]; exact ⟨fun e => ⟨h, e⟩, fun e => e.2⟩
  · rw [if_neg h]; exact ⟨fun e => by simp at e, fun e => absurd e.1 h⟩
theorem sesK_mem {D : List Ls} {x : Ss} : ∀ k, x ∈ sesK D k ↔ ∃ c, c < k ∧ 0 < (dAt D c).seq ∧ x = ⟨c, (dAt D c).seq, (dAt D c).ans⟩
  | 0 => by simp [sesK]
  | k + 1 => by
    rw [sesK, List.mem_append, sesK_mem k, sesOne_mem]
    constructor
    · rintro (⟨c, h1, h2⟩ | h)
      · exact ⟨c, by omega, h2⟩
      · exact ⟨k, by omega, h⟩
    · rintro ⟨c, h1, h2⟩
      by_cases hc : c = k
      · subst hc; exact .inr h2
      · exact .inl ⟨c, by omega, h2⟩
theorem sesK_lt {D : List Ls} {k : Nat} {x : Ss} (h : x ∈ sesK D k) : 0 ≤ ksS x ∧ ksS x < k := by
  obtain ⟨c, h1, -, rfl⟩ := (sesK_mem k).1 h
  exact ⟨by show (0 : Int) ≤ (c : Nat); omega, by show ((c : Nat) : Int) < _; omega⟩
theorem sesK_rise (D : List Ls) : ∀ k, RiseW ksS (sesK D k)
  | 0 => List.Pairwise.nil
  | k + 1 => by
    rw [sesK]
    refine List.pairwise_append.2 ⟨sesK_rise D k, ?_, fun x hx y hy => ?_⟩
    · unfold sesOne
      split
      · exact List.pairwise_singleton _ _
      · exact List.Pairwise.nil
    · obtain ⟨-, rfl⟩ := sesOne_mem.1 hy
      exact (sesK_lt hx).2
theorem withG_snoc {α : Type} {key : α → Int} {l : List α} {p y : α} (h : key p < key y) : withG key (l ++ [y]) p = withG key l p ++ [y] := by
  unfold withG
  rw [List.filter_append, List.filter_append, List.filter_cons_of_neg (by simp; omega), List.filter_cons_of_pos (by simp; omega)]
  simp
theorem withG_all {α : Type} {key : α → Int} {l : List α} {p : α} (h : ∀ x ∈ l, key x < key p) : withG key l p = l ++ [p] := by
  unfold withG
  rw [List.filter_eq_self.2 (fun x hx => by simpa using h x hx), List.filter_eq_nil_iff.2 (fun x hx => by have := h x hx; simp; omega)]
theorem withG_same {α : Type} {key : α → Int} {l : List α} {p y : α} (h : key y = key p) : withG key (l ++ [y]) p = withG key l p := by
  unfold withG
  rw [List.filter_append, List.filter_append, List.filter_cons_of_neg (by simp; omega), List.filter_cons_of_neg (by simp; omega)]
  simp
theorem dAt_set {D : List Ls} {c : Nat} (hc : c < D.length) (x : Ls) (j : Nat) : dAt (D.set c x) j = if j = c then x else dAt D j := by
  unfold dAt
  rw [List.getD_eq_getElem?_getD, List.getElem?_set]
  by_cases h : c = j
  · subst h; simp [hc]
  · rw [if_neg h, if_neg (fun e => h e.symm)]; rfl
theorem sesK_set {D : List Ls} {c : Nat} (hc : c < D.length) {x : Ls} (hx : 0 < x.seq) : ∀ k, sesK (D.set c x) k = if k ≤ c then sesK D k else withG ksS (sesK D k) ⟨c, x.seq, x.ans⟩
  | 0 => by simp [sesK]
  | k + 1 => by
    have ih := sesK_set hc hx k
    have e := dAt_set hc x k
    rw [sesK, ih]
    rcases Nat.lt_trichotomy k c with h | h | h
    · have ek : dAt (D.set c x) k = dAt D k := by rw [e, if_neg (by omega)]
      rw [if_pos (by omega), if_pos (by omega)]
      have e2 : sesOne (D.set c x) k = sesOne D k := by unfold sesOne; rw [ek]
      rw [e2]
      rfl
    · subst h
      rw [if_pos (Nat.le_refl _), if_neg (by omega)]
      have e2 : sesOne (D.set k x) k = [⟨k, x.seq, x.ans⟩] := by
        unfold sesOne
        rw [e, if_pos rfl, if_pos hx]
      rw [e2, sesK]
      have hlt : ∀ y ∈ sesK D k, ksS y < ksS (⟨k, x.seq, x.ans⟩ : Ss) := fun y hy => (sesK_lt hy).2
      unfold sesOne
      split
      · rw [withG_same (show ksS (⟨k, (dAt D k).seq, (dAt D k).ans⟩ : Ss) = ksS (⟨k, x.seq, x.ans⟩ : Ss) from rfl), withG_all hlt]
      · rw [List.append_nil, withG_all hlt]
    · rw [if_neg (by omega), if_neg (by omega), sesK]
      have ek : dAt (D.set c x) k = dAt D k := by rw [e, if_neg (by omega)]
      have e2 : sesOne (D.set c x) k = sesOne D k := by unfold sesOne; rw [ek]
      rw [e2]
      unfold sesOne
      by_cases hd : 0 < (dAt D k).seq
      · rw [if_pos hd, withG_snoc (show ksS (⟨c, x.seq, x.ans⟩ : Ss) < ksS (⟨k, (dAt D k).seq, (dAt D k).ans⟩ : Ss) from by show ((c : Nat) : Int) < (k : Nat); omega)]
      · rw [if_neg hd, List.append_nil, List.append_nil]
theorem rise_same {α : Type} {key : α → Int} {l : List α} (h : RiseW key l) {x y : α} (hx : x ∈ l) (hy : y ∈ l) (e : key x = key y) : x = y := by
  obtain ⟨i, hi, rfl⟩ := List.getElem_of_mem hx
  obtain ⟨j, hj, rfl⟩ := List.getElem_of_mem hy
  have hp := List.pairwise_iff_getElem.1 h
  rcases Nat.lt_trichotomy i j with hlt | rfl | hlt
  · have := hp i j hi hj hlt; omega
  · rfl
  · have := hp j i hj hi hlt; omega
theorem dAt_look {D : List Ls} {k c : Nat} (hc : c < k) : (hitG ksS (sesK D k) (c : Nat) = true ∧ 0 < (dAt D c).seq ∧ sesAt (sesK D k) (c : Nat) = ⟨c, (dAt D c).seq, (dAt D c).ans⟩) ∨ (hitG ksS (sesK D k) (c : Nat) = false ∧ ¬ 0 < (dAt D c).seq) := by
  have hr := sesK_rise D k
  by_cases h : 0 < (dAt D c).seq
  · left
    have hm : (⟨c, (dAt D c).seq, (dAt D c).ans⟩ : Ss) ∈ sesK D k := (sesK_mem k).2 ⟨c, hc, h, rfl⟩
    have hh : hitG ksS (sesK D k) (c : Nat) = true := (hit_iff hr).2 ⟨_, hm, rfl⟩
    obtain ⟨h1, h2⟩ := sesAt_mem hr hh
    exact ⟨hh, h, rise_same hr h1 hm h2⟩
  · right
    refine ⟨?_, h⟩
    cases hh : hitG ksS (sesK D k) (c : Nat) with
    | false => rfl
    | true =>
      obtain ⟨x, hx, he⟩ := (hit_iff hr).1 hh
      obtain ⟨c', -, h1, rfl⟩ := (sesK_mem k).1 hx
      have : c' = c := by
        have : ((c' : Nat) : Int) = (c : Nat) := he
        omega
      subst this
      exact absurd h1 h
theorem nodup_of_map {α β : Type} (f : α → β) {l : List α} (h : (l.map f).Nodup) : l.Nodup := List.Pairwise.of_map f (fun a b hne e => hne (by rw [e])) h
def prE (p : Pr) : ByteArray × Value := (p.key, .agg #[.string p.val, .int .i64 p.rev])
theorem prE_keys (L : List Pr) : (L.map prE).map (·.1) = L.map (·.key) := by simp [prE, Function.comp_def]
theorem findP_hit {l : List Pr} (hr : RiseW ksP l) {n : Int} (h : hitG ksP l n = true) : findP l n ∈ l ∧ ksP (findP l n) = n := by
  unfold findP
  rw [dif_pos h]
  refine ⟨List.getElem_mem _, ?_⟩
  unfold hitG at h
  split at h
  · simpa using h
  · cases h
theorem findP_no {l : List Pr} {n : Int} (h : hitG ksP l n = false) : findP l n = zeroPr := by
  unfold findP
  rw [dif_neg (by simp [h])]
section
variable {L l : List Pr} (hp : L.Perm l) (hr : RiseW ksP l) (hz : Sized l)
include hp hr hz
set_option linter.unusedSectionVars false
theorem keys_nodup : (L.map (·.key)).Nodup := by
  refine (hp.map _).nodup_iff.2 ?_
  refine List.pairwise_map.2 (hr.imp fun {a b} h e => ?_)
  simp only [ksP, e] at h
  omega
theorem mget_prs {k : ByteArray} (hk : k.size ≤ 200) : mget (L.map prE) k = if hitG ksP l (kn k) = true then some (prE (findP l (kn k))).2 else none := by
  have hn : ((L.map prE).map (·.1)).Nodup := by rw [prE_keys]; exact keys_nodup hp hr hz
  by_cases h : hitG ksP l (kn k) = true
  · rw [if_pos h]
    obtain ⟨h1, h2⟩ := findP_hit hr h
    refine (mget_mem hn).2 (List.mem_map.2 ⟨_, hp.mem_iff.2 h1, ?_⟩)
    have : (findP l (kn k)).key = k := (kn_inj (hz _ h1).1 hk).1 h2
    unfold prE
    rw [this]
  · rw [if_neg h]
    refine mget_no ?_
    rw [prE_keys]
    intro hm
    obtain ⟨x, hx, e⟩ := List.mem_map.1 hm
    exact h ((hit_iff hr).2 ⟨x, hp.mem_iff.1 hx, by show kn x.key = _; rw [e]⟩)
theorem mput_prs {k v : ByteArray} {r : Int} (hk : k.size ≤ 200) : ∃ L' : List Pr, mput (L.map prE) k (.agg #[.string v, .int .i64 r]) = L'.map prE ∧ L'.Perm (withG ksP l ⟨k, v, r⟩) := by
  have hn := keys_nodup hp hr hz
  have hzL : ∀ x ∈ L, x.key.size ≤ 200 := fun x hx => (hz x (hp.mem_iff.1 hx)).1
  have hw : (withG ksP l ⟨k, v, r⟩).Nodup := (withG_rise hr _).imp fun {a b} h e => by subst e; omega
  have hmw : ∀ x, x ∈ withG ksP l ⟨k, v, r⟩ ↔ x = ⟨k, v, r⟩ ∨ (x ∈ L ∧ x.key ≠ k) := by
    intro x
    unfold withG
    simp only [List.mem_append, List.mem_cons, List.mem_filter, decide_eq_true_eq]
    constructor
    · rintro (⟨h1, h2⟩ | h | ⟨h1, h2⟩)
      · exact .inr ⟨hp.mem_iff.2 h1, fun e => by simp only [ksP, e] at h2; omega⟩
      · exact .inl h
      · exact .inr ⟨hp.mem_iff.2 h1, fun e => by simp only [ksP, e] at h2; omega⟩
    · rintro (h | ⟨h1, h2⟩)
      · exact .inr (.inl h)
      · have hne : kn x.key ≠ kn k := fun e => h2 ((kn_inj (hzL x h1) hk).1 e)
        rcases Int.lt_or_gt_of_ne hne with h | h
        · exact .inl ⟨hp.mem_iff.1 h1, h⟩
        · exact .inr (.inr ⟨hp.mem_iff.1 h1, h⟩)
  by_cases hin : k ∈ L.map (·.key)
  · refine ⟨L.map (fun p => if p.key = k then ⟨k, v, r⟩ else p), ?_, ?_⟩
    · have e : ∀ p : Pr, (if (prE p).1 = k then (k, (Value.agg #[.string v, .int .i64 r])) else prE p) = prE (if p.key = k then ⟨k, v, r⟩ else p) := fun p => by
        by_cases h : p.key = k
        · rw [if_pos (show (prE p).1 = k from h), if_pos h]; rfl
        · rw [if_neg (show ¬ (prE p).1 = k from h), if_neg h]
      unfold mput
      rw [if_pos (by rw [prE_keys]; exact hin), List.map_map, List.map_map]
      exact List.map_congr_left fun p _ => e p
    · have hk2 : (L.map (fun p => if p.key = k then (⟨k, v, r⟩ : Pr) else p)).map (·.key) = L.map (·.key) := by
        rw [List.map_map]
        refine List.map_congr_left fun p _ => ?_
        simp only [Function.comp_apply]
        split
        · rename_i h; exact h.symm
        · rfl
      have hnd : (L.map (fun p => if p.key = k then (⟨k, v, r⟩ : Pr) else p)).Nodup := nodup_of_map (·.key) (by rw [hk2]; exact hn)
      refine (List.perm_ext_iff_of_nodup hnd hw).2 fun x => ?_
      rw [hmw x]
      constructor
      · intro hx
        obtain ⟨p, hp1, rfl⟩ := List.mem_map.1 hx
        split
        · exact .inl rfl
        · rename_i h; exact .inr ⟨hp1, h⟩
      · rintro (rfl | ⟨h1, h2⟩)
        · obtain ⟨p, hp1, hp2⟩ := List.mem_map.1 hin
          exact List.mem_map.2 ⟨p, hp1, by rw [if_pos hp2]⟩
        · exact List.mem_map.2 ⟨x, h1, by rw [if_neg h2]⟩
  · refine ⟨L ++ [⟨k, v, r⟩], ?_, ?_⟩
    · rw [mput_no (by rw [prE_keys]; exact hin), List.map_append]
      rfl
    · have hnd : (L ++ [(⟨k, v, r⟩ : Pr)]).Nodup := by
        refine nodup_of_map (·.key) ?_
        rw [List.map_append, List.nodup_append]
        refine ⟨hn, by simp, fun x hx y hy e => ?_⟩
        simp only [List.map_cons, List.map_nil, List.mem_singleton] at hy
        subst hy; subst e
        exact hin hx
      refine (List.perm_ext_iff_of_nodup hnd hw).2 fun x => ?_
      rw [hmw x, List.mem_append, List.mem_singleton]
      constructor
      · rintro (h | h)
        · exact .inr ⟨h, fun e => hin (List.mem_map.2 ⟨x, h, e⟩)⟩
        · exact .inl h
      · rintro (h | ⟨h, -⟩)
        · exact .inr h
        · exact .inl h
theorem mdel_prs {k : ByteArray} (hk : k.size ≤ 200) : ∃ L' : List Pr, mdel (L.map prE) k = L'.map prE ∧ L'.Perm (l.filter (fun x => decide (ksP x ≠ kn k))) := by
  refine ⟨L.filter (fun x => decide (ksP x ≠ kn k)), ?_, hp.filter _⟩
  unfold mdel
  rw [List.filter_map]
  congr 1
  refine List.filter_congr fun x hx => ?_
  simp only [Function.comp_apply, prE, ne_eq, decide_not, Bool.not_eq_eq_eq_not, Bool.not_not]
  congr 1
  exact propext (kn_inj (hz x (hp.mem_iff.1 hx)).1 hk).symm
end
abbrev mcO (kb : Nat) (act : Bool) (D : List Ls) : Obj := .cells (Value.map (some kb) :: Value.bool act :: rowC Ls.cells D).toArray 69 (0, 0)
def MapP (l : List Pr) (o : Obj) : Prop := ∃ L : List Pr, L.Perm l ∧ MapB keyS (L.map prE) o
def MapW (l : List Pr) : Prop := RiseW ksP l ∧ Sized l ∧ l.length ≤ 64 ∧ ∀ x ∈ l, 0 ≤ x.rev ∧ x.rev ≤ 4294967296
instance keyT_strM : KeyT Tryd.prog 9 keyS := KeyT.string
def vlE (p : Pr) : Value := .agg #[.string p.val, .int .i64 p.rev]
theorem mgetV {l : List Pr} {oM : Obj} (hw : MapW l) {L : List Pr} (hp : L.Perm l) {k : ByteArray} (hk : k.size ≤ 200) : (mget (L.map prE) k).getD (.agg #[.string ByteArray.empty, .int .i64 0]) = vlE (findP l (kn k)) ∧ (mget (L.map prE) k).isSome = hitG ksP l (kn k) := by
  rw [mget_prs hp hw.1 hw.2.1 hk]
  cases h : hitG ksP l (kn k) with
  | true => rw [if_pos rfl]; exact ⟨rfl, rfl⟩
  | false => rw [if_neg (by simp), findP_no h]; exact ⟨rfl, rfl⟩
theorem r_keyOk {σ : Env} {G : GH} {μ : OH} {ty : TypeId} {x i : Operand} {kb : Nat} {oM : Obj} {l : List Pr} (k : ByteArray) (f : Pr) (hf : findP l (kn k) = f) (b : Bool) (hb' : hitG ksP l (kn k) = b) (hw : MapW l) (hM : MapP l oM) (hk : k.size ≤ 200) (hb : (kb, oM) ∈ μ) (hx : Env.ev σ x = some (.map (some kb))) (hi : Env.ev σ i = some (keyS k)) :
    ReadOp Tryd.prog (.lookup 64 x i true) ty σ G μ (.tuple #[.agg #[.string f.val, .int .i64 f.rev], .bool b]) := by
  obtain ⟨L, hp, hMB⟩ := hM
  have := r_lookupOk (P := Tryd.prog) (ty := ty) (G := G) (t := 64) (k := 9) (e := 83) (mk := keyS) k hx hi hb hMB
  obtain ⟨e1, e2⟩ := mgetV (oM := oM) hw hp hk
  rw [e1, e2, hf, hb'] at this
  exact this
theorem r_key {σ : Env} {G : GH} {μ : OH} {ty : TypeId} {x i : Operand} {kb : Nat} {oM : Obj} {l : List Pr} (k : ByteArray) (f : Pr) (hf : findP l (kn k) = f) (hw : MapW l) (hM : MapP l oM) (hk : k.size ≤ 200) (hb : (kb, oM) ∈ μ) (hx : Env.ev σ x = some (.map (some kb))) (hi : Env.ev σ i = some (keyS k)) :
    ReadOp Tryd.prog (.lookup 64 x i false) ty σ G μ (.agg #[.string f.val, .int .i64 f.rev]) := by
  obtain ⟨L, hp, hMB⟩ := hM
  have := r_lookup (P := Tryd.prog) (ty := ty) (G := G) (t := 64) (k := 9) (e := 83) (mk := keyS) k hx hi hb hMB
  rw [(mgetV (oM := oM) hw hp hk).1, hf] at this
  exact this
theorem r_lenP {σ : Env} {G : GH} {μ : OH} {ty : TypeId} {x : Operand} {kb : Nat} {oM : Obj} {l : List Pr} (n : Nat) (hn : l.length = n) (hM : MapP l oM) (hb : (kb, oM) ∈ μ) (hx : Env.ev σ x = some (.map (some kb))) :
    ReadOp Tryd.prog (.call { callee := .builtin .len, args := #[x], argTypes := #[64] }) ty σ G μ (.int .i64 (n : Nat)) := by
  obtain ⟨L, hp, hMB⟩ := hM
  have := r_lenMap (P := Tryd.prog) (ty := ty) (G := G) (t := 64) (k := 9) (e := 83) (mk := keyS) hx hb hMB
  rw [List.length_map, hp.length_eq, hn] at this
  exact this
def revQ (act : Bool) (r : Int) : Int := if act = true then nextR r else 0
theorem rev_s (G : GH) (mb kb : Nat) (act : Bool) (D : List Ls) (r : Int) (h : 0 ≤ r ∧ r ≤ 4294967296) : Con Tryd.prog 137 #[.pointer (some ⟨mb, 0, none⟩), .int .i64 r] G [(mb, mcO kb act D)] (Keeps (.int .i64 (revQ act r)) G [(mb, mcO kb act D)]) := by
  unfold revQ nextR
  cases act with
  | true =>
    (refine v_enter Tryd.func137 rfl Tryd.ntmps137 rfl ?_; intro B _)
    repeat' (first | apply v_seq | apply v_region | apply v_nil | apply v_skip | (apply v_pure; (case hop => first | (apply p_move <;> rfl) | (apply p_assign <;> rfl) | (apply p_not <;> rfl) | (apply p_fieldAddrB <;> rfl) | (apply p_nilCheck <;> rfl) | (apply p_add; (case hx => rfl); (case hy => rfl); (case h => omega)) | (apply p_min <;> rfl)); (case hd => rfl)) | (apply v_condF; (case hc => rfl)) | (apply v_read; (case hop => (apply r_load1; rfl; (apply Cell.own; (case h => (repeat (exact mhd _))); rfl))); (case hd => rfl)) | fail)
    refine v_ret [(mb, _)] (outsA1 rfl rfl) (List.Sublist.refl _) ⟨?_, rfl, rfl⟩
    congr 1
    simp only [if_true]
    omega
  | false =>
    (refine v_enter Tryd.func137 rfl Tryd.ntmps137 rfl ?_; intro B _)
    repeat' (first | apply v_seq | apply v_region | apply v_nil | (apply v_pure; (case hop => first | (apply p_move <;> rfl) | (apply p_assign <;> rfl) | (apply p_not <;> rfl) | (apply p_fieldAddrB <;> rfl) | (apply p_nilCheck <;> rfl) | fail); (case hd => rfl)) | (apply v_condT; (case hc => rfl)) | (apply v_read; (case hop => (apply r_load1; rfl; (apply Cell.own; (case h => (repeat (exact mhd _))); rfl))); (case hd => rfl)) | fail)
    exact v_ret [(mb, _)] (outsA1 rfl rfl) (List.Sublist.refl _) ⟨rfl, rfl, rfl⟩
theorem MapP.put {l : List Pr} {L : List Pr} {o : Obj} {k v : ByteArray} {r : Int} (hw : MapW l) (hp : L.Perm l) (hk : k.size ≤ 200) (hM : MapB keyS (mput (L.map prE) k (.agg #[.string v, .int .i64 r])) o) : MapP (withG ksP l ⟨k, v, r⟩) o := by
  obtain ⟨L', h1, h2⟩ := mput_prs (v := v) (r := r) hp hw.1 hw.2.1 hk
  exact ⟨L', h2, by rw [← h1]; exact hM⟩
theorem findP_revs {l : List Pr} (hw : MapW l) (n : Int) : 0 ≤ (findP l n).rev ∧ (findP l n).rev ≤ 4294967296 := by
  cases h : hitG ksP l n with
  | true => exact hw.2.2.2 _ (findP_hit hw.1 h).1
  | false => rw [findP_no h]; exact ⟨by decide, by decide⟩
def setL (act : Bool) (l : List Pr) (k v : ByteArray) : List Pr := if roomB l (kn k) = true then withG ksP l ⟨k, v, revQ act (findP l (kn k)).rev⟩ else l
set_option maxHeartbeats 1000000 in
theorem mset_s {G : GH} {mb kb : Nat} {act : Bool} {D : List Ls} {oM : Obj} {l : List Pr} (c : Cm) (hw : MapW l) (hM : MapP l oM) (hk : c.key.size ≤ 200) :
    Con Tryd.prog 109 #[.pointer (some ⟨mb, 0, none⟩), .agg c.cells.toArray] G [(mb, mcO kb act D), (kb, oM)] (fun r G' μ' => G' = G ∧ r = .bool (roomB l (kn c.key)) ∧ ∃ oM', MapP (setL act l c.key c.val) oM' ∧ μ' = [(mb, mcO kb act D), (kb, oM')]) := by
  have hfr := findP_revs hw (kn c.key)
  have hq := rev_s G mb kb act D (findP l (kn c.key)).rev hfr
  have hroom : roomB l (kn c.key) = (hitG ksP l (kn c.key) || decide (l.length < 64)) := rfl
  have hset : setL act l c.key c.val = if roomB l (kn c.key) = true then withG ksP l ⟨c.key, c.val, revQ act (findP l (kn c.key)).rev⟩ else l := rfl
  have hput := fun (L : List Pr) (o : Obj) (hp : L.Perm l) h => MapP.put (o := o) (v := c.val) (r := revQ act (findP l (kn c.key)).rev) hw hp hk h
  have hlen := hw.2.2.1
  rw [hset, hroom]
  clear hset hroom
  obtain ⟨kind, client, seq, key, val, old, node⟩ := c
  simp only at *
  generalize hf : findP l (kn key) = f at *
  generalize hb : hitG ksP l (kn key) = b at *
  generalize hn : l.length = n at *
  generalize revQ act f.rev = rq at *
  generalize withG ksP l ⟨key, val, rq⟩ = lw at *
  obtain ⟨L, hp, hMB⟩ := id hM
  have hr0 : b = false → ((n : Nat) : Int) = 64 → (b || decide (n < 64)) = false := by intro h1 h2; subst h1; simp; omega
  have hr1 : b = true ∨ ¬ ((n : Nat) : Int) = 64 → (b || decide (n < 64)) = true := by
    rintro (h1 | h1)
    · subst h1; rfl
    · cases b <;> simp; omega
  (refine v_enter Tryd.func109 rfl Tryd.ntmps109 rfl ?_; intro B _)
  repeat' (first | (apply v_box (d := 3) (zs := Cm.cells ⟨kind, client, seq, key, val, old, node⟩); (case hx => rfl); (case hz => rfl); (case hd => rfl); intro b3) | apply v_seq | apply v_region | apply v_nil | (apply v_pure; (case hop => (apply p_assign <;> rfl)); (case hd => rfl)) | fail)
  refine d_start [(b3, .cells (Cm.cells ⟨kind, client, seq, key, val, old, node⟩).toArray 32 (0, 0)), (mb, mcO kb act D), (kb, oM)] (by kernel_rfl) (by kernel_rfl) (by kernel_rfl) (by intro e he; exact he) ?_
  all_goals (apply dtk 0; (case hi => rfl); (case hop => (apply prd; apply p_move <;> rfl)); (case hq => kernel_rfl))
  all_goals (apply dtk 1; (case hi => rfl); (case hop => (apply prd; apply p_nilCheck <;> rfl)); (case hq => kernel_rfl))
  all_goals (apply dtk 2; (case hi => rfl); (case hop => (apply prd; apply p_fieldAddrB <;> rfl)); (case hq => kernel_rfl))
  all_goals (apply dtk 3; (case hi => rfl); (case hop => (apply r_load1; rfl; (apply Cell.own; (case h => (repeat (first | exact mhd _ | apply mtl))); rfl))); (case hq => kernel_rfl))
  all_goals (apply dtk 4; (case hi => rfl); (case hop => (apply prd; apply p_fieldAddrB <;> rfl)); (case hq => kernel_rfl))
  all_goals (apply dtk 5; (case hi => rfl); (case hop => (apply r_load1; rfl; (apply Cell.own; (case h => (repeat (exact mhd _))); rfl))); (case hq => kernel_rfl))
  all_goals (apply dtk 6; (case hi => rfl); (case hop => ((apply r_keyOk key f hf b hb hw hM hk; (case hb => repeat (first | exact mhd _ | apply mtl)); (case hx => rfl); (case hi => rfl)))); (case hq => kernel_rfl))
  all_goals (apply dtk 7; (case hi => rfl); (case hop => (apply prd; apply p_move <;> rfl)); (case hq => kernel_rfl))
  all_goals (apply dtk 8; (case hi => rfl); (case hop => (apply prd; apply p_extract0 <;> rfl)); (case hq => kernel_rfl))
  all_goals (apply dtk 9; (case hi => rfl); (case hop => (apply prd; apply p_extract1 <;> rfl)); (case hq => kernel_rfl))
  all_goals (apply d_exec 10; (case hi => rfl); (case hr => kernel_rfl); (case hop => exact m_alloc rfl); (case hd => rfl); rintro _ _ _ ⟨b5, rfl, rfl, rfl⟩; refine ⟨(by intro e he; (simp at he; simp [he]; done)), ?_⟩)
  all_goals (apply d_store 11; (case hi => rfl); (case hr => kernel_rfl); (case hL => infer_instance); (case hp => rfl); (case hx => rfl); (case hc => rfl); (case hsz => rfl); (case h1 => rfl); (case hb => (repeat (exact mhd _))); (case hfit => exact nle rfl); (case hov => ((repeat (first | with_reducible exact ov_nil | apply ov_cons)); done)); (case hu => repeat (exact Upd.here _ _)); (case hν' => intro e he; (simp at he; simp [he]; done)))
  all_goals (apply dtk 12; (case hi => rfl); (case hop => (apply prd; apply p_assign <;> rfl)); (case hq => kernel_rfl))
  all_goals (apply d_done; (case hr => kernel_rfl))
  repeat' (first | apply v_seq | apply v_region | apply v_nil | apply v_skip | (apply v_take; (case hg => rfl)) | (apply v_pass; (case hg => rfl); (case hn => rfl); (case hd => rfl)) | (apply v_pure; (case hop => first | (apply p_move <;> rfl) | (apply p_eq <;> rfl) | (apply p_assign <;> rfl) | (apply p_pickT <;> rfl) | (apply p_pickF <;> rfl) | (apply p_not <;> rfl) | (apply p_fieldAddrB <;> rfl) | (apply p_nilCheck <;> rfl) | fail); (case hd => rfl)) | (apply v_condF; (case hc => rfl)) | (apply v_cond; (case hc => rfl); all_goals (intro h; (try simp only [reduceCtorEq, zzz] at h))) | (apply v_guardB; (case h1 => rfl); (case h2 => rfl); all_goals (intro h; (try simp only [reduceCtorEq, zzz] at h))) | (apply v_read; (case hop => (apply r_lenP n hn hM; (case hb => repeat (first | exact mhd _ | apply mtl)); (case hx => rfl))); (case hd => rfl)) | (apply v_read; (case hop => (apply r_load1; rfl; (apply Cell.own; (case h => (repeat (first | exact mhd _ | apply mtl))); rfl))); (case hd => rfl)) | fail)
  all_goals first
    | (refine v_ret [(mb, mcO kb act D), (kb, oM)] (outsA1 rfl rfl) (by repeat (first | exact List.Sublist.refl _ | apply List.Sublist.cons)) ?_
       have e := hr0 (by assumption) (by assumption)
       exact ⟨rfl, by rw [e], oM, by rw [e, if_neg (by simp)]; exact hM, rfl⟩)
    | skip
  all_goals
    refine d_start [(b3, .cells (Cm.cells ⟨kind, client, seq, key, val, old, node⟩).toArray 32 (0, 0)), (b5, .cells [.string f.val, .int .i64 f.rev].toArray 83 (0, 0)), (mb, mcO kb act D)] (by kernel_rfl) (by kernel_rfl) (by kernel_rfl) (by intro e he; (simp only [List.mem_cons, List.not_mem_nil, or_false] at he; rcases he with rfl | rfl | rfl <;> simp; done)) ?_
    all_goals (apply dtk 0; (case hi => rfl); (case hop => (apply prd; apply p_move <;> rfl)); (case hq => kernel_rfl))
    all_goals (apply dtk 1; (case hi => rfl); (case hop => (apply prd; apply p_nilCheck <;> rfl)); (case hq => kernel_rfl))
    all_goals (apply dtk 2; (case hi => rfl); (case hop => (apply prd; apply p_fieldAddrB <;> rfl)); (case hq => kernel_rfl))
    all_goals (apply dtk 3; (case hi => rfl); (case hop => first | (apply r_loadNo; (case hx => rfl); (case h => (repeat (fail))); (case hd => (repeat (fail))); (case hn => rfl)) | (apply r_load1; rfl; (apply Cell.own; (case h => (repeat (first | exact mhd _ | apply mtl))); rfl)) | (apply r_loadN; rfl; (apply CellsAt.own; (case h => (repeat (fail)))); rfl)); (case hq => kernel_rfl))
    all_goals (apply dtk 4; (case hi => rfl); (case hop => (apply prd; apply p_fieldAddrB <;> rfl)); (case hq => kernel_rfl))
    all_goals (apply dtk 5; (case hi => rfl); (case hop => first | (apply r_loadNo; (case hx => rfl); (case h => (repeat (fail))); (case hd => (repeat (fail))); (case hn => rfl)) | (apply r_load1; rfl; (apply Cell.own; (case h => (repeat (exact mhd _))); rfl)) | (apply r_loadN; rfl; (apply CellsAt.own; (case h => (repeat (fail)))); rfl)); (case hq => kernel_rfl))
    all_goals (apply dtk 6; (case hi => rfl); (case hop => (apply prd; apply p_fieldAddrB <;> rfl)); (case hq => kernel_rfl))
    all_goals (apply dtk 7; (case hi => rfl); (case hop => first | (apply r_loadNo; (case hx => rfl); (case h => (repeat (fail))); (case hd => (repeat (fail))); (case hn => rfl)) | (apply r_load1; rfl; (apply Cell.own; (case h => (repeat (exact mhd _))); rfl)) | (apply r_loadN; rfl; (apply CellsAt.own; (case h => (repeat (fail)))); rfl)); (case hq => kernel_rfl))
    all_goals (apply dtk 8; (case hi => rfl); (case hop => (apply prd; apply p_move <;> rfl)); (case hq => kernel_rfl))
    all_goals (apply dtk 9; (case hi => rfl); (case hop => (apply prd; apply p_fieldAddrB <;> rfl)); (case hq => kernel_rfl))
    all_goals (apply dtk 10; (case hi => rfl); (case hop => first | (apply r_loadNo; (case hx => rfl); (case h => (repeat (fail))); (case hd => (repeat (fail))); (case hn => rfl)) | (apply r_load1; rfl; (apply Cell.own; (case h => (repeat (first | exact mhd _ | apply mtl))); rfl)) | (apply r_loadN; rfl; (apply CellsAt.own; (case h => (repeat (fail)))); rfl)); (case hq => kernel_rfl))
    all_goals (apply d_callK 11 (hs := hq); (case hi => rfl); (case hr => kernel_rfl); (case ha => rfl); (case hp => first | exact (Pick.perm (by repeat (first | exact Pick.here _ | apply Pick.there))) | fail); (case hd => rfl))
    all_goals (apply dtk 12; (case hi => rfl); (case hop => (apply prd; apply p_build; (case hz => rfl); (case hv => (simp only [List.map_cons, List.map_nil]; repeat (first | with_reducible exact evs_nil | (apply evs_cons; (case h1 => rfl))))); (case hb => (apply bldL; repeat (first | exact bld_nil | (apply bld_cons; (case hpf => rfl); (case hc => rfl); (case hs => rfl); (case hl => rfl); (case ho => ((repeat (first | with_reducible exact ov_nil | apply ov_cons)); done)))))))); (case hq => kernel_rfl))
    all_goals ((apply d_exec0 13; (case hi => rfl); (case hr => kernel_rfl);  (case hop => exact m_mapUpdate (k := 9) (mk := keyS) key rfl rfl rfl (PickA.perm (ν := [(kb, oM)]) (by repeat (first | exact PickA.last | apply PickA.cons))) hMB); rintro _ G4 _ ⟨oM2, hM2, hK2, hG4, rfl⟩; subst G4; refine ⟨(by intro e he; simp only [List.mem_cons, List.not_mem_nil, or_false] at he; rcases he with rfl | rfl | rfl <;> simp), ?_⟩))
    all_goals (apply d_done; (case hr => kernel_rfl))
  all_goals repeat' (first | apply v_seq | apply v_region | apply v_nil | (apply v_pure; (case hop => (apply p_assign <;> rfl)); (case hd => rfl)) | fail)
  all_goals
    (refine v_perm (ν := [(mb, mcO kb act D), (kb, oM2), (b5, _), (b3, _)]) (by apply perm_of_count; intro p; simp only [List.append_eq, List.countP_append, List.countP_cons, List.countP_nil, Nat.zero_add, Nat.add_zero]; try ac_rfl) ?_
     refine v_ret [(mb, mcO kb act D), (kb, oM2)] (outsA1 rfl rfl) (by repeat (first | exact List.nil_sublist _ | apply List.Sublist.cons_cons)) ?_
     have e := hr1 (by first | exact .inl (by assumption) | exact .inr (by assumption))
     exact ⟨rfl, by rw [e], oM2, by rw [e, if_pos rfl]; exact hput L oM2 hp hM2, rfl⟩)
theorem roomB_hit {l : List Pr} {n : Int} (h : hitG ksP l n = true) : roomB l n = true := by unfold roomB; rw [h]; rfl
theorem mapW_with {l : List Pr} (hw : MapW l) {p : Pr} (hk : p.key.size ≤ 200) (hv : p.val.size ≤ 200) (hr : 0 ≤ p.rev ∧ p.rev ≤ 4294967296) (hroom : roomB l (kn p.key) = true) : MapW (withG ksP l p) := by
  obtain ⟨h1, h2, h3, h4⟩ := hw
  refine ⟨withG_rise h1 p, fun x hx => ?_, ?_, fun x hx => ?_⟩
  · rcases withG_mem hx with rfl | hx
    · exact ⟨hk, hv⟩
    · exact h2 x hx
  · have := withG_len h1 p
    unfold roomB at hroom
    rw [this]
    split
    · exact h3
    · rename_i hh
      simp only [Bool.or_eq_true, decide_eq_true_eq] at hroom
      rcases hroom with h | h
      · exact absurd h hh
      · omega
  · rcases withG_mem hx with rfl | hx
    · exact hr
    · exact h4 x hx
theorem withG_in {α : Type} {key : α → Int} {l : List α} {p : α} : p ∈ withG key l p := by unfold withG; simp
theorem findP_with {l : List Pr} (hr : RiseW ksP l) (p : Pr) : findP (withG ksP l p) (kn p.key) = p := by
  have hr2 := withG_rise hr p
  have hh : hitG ksP (withG ksP l p) (kn p.key) = true := (hit_iff hr2).2 ⟨p, withG_in, rfl⟩
  obtain ⟨h1, h2⟩ := findP_hit hr2 hh
  exact rise_same hr2 h1 withG_in h2
theorem revQ_ok (act : Bool) {r : Int} (h : 0 ≤ r ∧ r ≤ 4294967296) : 0 ≤ revQ act r ∧ revQ act r ≤ 4294967296 := by
  unfold revQ nextR
  split <;> omega
def swapS (act : Bool) (l : List Pr) (c : Cm) : List Pr × An :=
  if hitG ksP l (kn c.key) = false then (l, { ans0 c with err := 10 })
  else if (findP l (kn c.key)).val = c.old then (setL act l c.key c.val, { ans0 c with found := true, val := (findP l (kn c.key)).val, rev := revQ act (findP l (kn c.key)).rev })
  else (l, { ans0 c with err := 15, found := true, val := (findP l (kn c.key)).val, rev := (findP l (kn c.key)).rev })
set_option maxHeartbeats 2000000 in
theorem mswap_s {G : GH} {mb kb : Nat} {act : Bool} {D : List Ls} {oM : Obj} {l : List Pr} (c : Cm) (hw : MapW l) (hM : MapP l oM) (hk : c.key.size ≤ 200) (hv : c.val.size ≤ 200) :
    Con Tryd.prog 108 #[.pointer (some ⟨mb, 0, none⟩), .agg c.cells.toArray, .agg (ans0 c).cells.toArray] G [(mb, mcO kb act D), (kb, oM)] (fun r G' μ' => G' = G ∧ r = .agg (swapS act l c).2.cells.toArray ∧ ∃ oM', MapP (swapS act l c).1 oM' ∧ μ' = [(mb, mcO kb act D), (kb, oM')]) := by
  have hset := fun G => mset_s (G := G) (mb := mb) (kb := kb) (act := act) (D := D) c hw hM hk
  have hroom : hitG ksP l (kn c.key) = true → roomB l (kn c.key) = true := roomB_hit
  have hsetL : hitG ksP l (kn c.key) = true → MapW (setL act l c.key c.val) ∧ findP (setL act l c.key c.val) (kn c.key) = ⟨c.key, c.val, revQ act (findP l (kn c.key)).rev⟩ := fun h => by
    unfold setL
    rw [if_pos (roomB_hit h)]
    exact ⟨mapW_with hw hk hv (revQ_ok act (findP_revs hw _)) (roomB_hit h), findP_with hw.1 ⟨c.key, c.val, revQ act (findP l (kn c.key)).rev⟩⟩
  unfold swapS ans0
  obtain ⟨kind, client, seq, key, val, old, node⟩ := c
  simp only at *
  generalize hf : findP l (kn key) = f at *
  generalize hb : hitG ksP l (kn key) = b at *
  generalize revQ act f.rev = rq at *
  generalize setL act l key val = l2 at *
  (refine v_enter Tryd.func108 rfl Tryd.ntmps108 rfl ?_; intro B _)
  repeat' (first | (apply v_box (d := 4) (zs := Cm.cells ⟨kind, client, seq, key, val, old, node⟩); (case hx => rfl); (case hz => rfl); (case hd => rfl); intro b4) | (apply v_box (d := 5) (zs := [.int .i64 client, .int .i64 seq, .int .i64 0, .bool false, .string ByteArray.empty, .int .i64 0]); (case hx => rfl); (case hz => rfl); (case hd => rfl); intro b5) | (apply v_alloc (d := 6); (case hz => rfl); (case hd => rfl); intro b6) | apply v_seq | apply v_region | apply v_nil)
  refine d_start [(b4, .cells (Cm.cells ⟨kind, client, seq, key, val, old, node⟩).toArray 32 (0, 0)), (mb, mcO kb act D), (kb, oM)] (by kernel_rfl) (by kernel_rfl) (by kernel_rfl) (by intro e he; (simp at he; simp [he]; done)) ?_
  all_goals (apply dtk 0; (case hi => rfl); (case hop => (apply prd; apply p_move <;> rfl)); (case hq => kernel_rfl))
  all_goals (apply dtk 1; (case hi => rfl); (case hop => (apply prd; apply p_nilCheck <;> rfl)); (case hq => kernel_rfl))
  all_goals (apply dtk 2; (case hi => rfl); (case hop => (apply prd; apply p_fieldAddrB <;> rfl)); (case hq => kernel_rfl))
  all_goals (apply dtk 3; (case hi => rfl); (case hop => (apply r_load1; rfl; (apply Cell.own; (case h => (repeat (first | exact mhd _ | apply mtl))); rfl))); (case hq => kernel_rfl))
  all_goals (apply dtk 4; (case hi => rfl); (case hop => (apply prd; apply p_fieldAddrB <;> rfl)); (case hq => kernel_rfl))
  all_goals (apply dtk 5; (case hi => rfl); (case hop => (apply r_load1; rfl; (apply Cell.own; (case h => (repeat (exact mhd _))); rfl))); (case hq => kernel_rfl))
  all_goals (apply dtk 6; (case hi => rfl); (case hop => ((apply r_keyOk key f hf b hb hw hM hk; (case hb => repeat (first | exact mhd _ | apply mtl)); (case hx => rfl); (case hi => rfl)))); (case hq => kernel_rfl))
  all_goals (apply dtk 7; (case hi => rfl); (case hop => (apply prd; apply p_move <;> rfl)); (case hq => kernel_rfl))
  all_goals (apply dtk 8; (case hi => rfl); (case hop => (apply prd; apply p_extract0 <;> rfl)); (case hq => kernel_rfl))
  all_goals (apply dtk 9; (case hi => rfl); (case hop => (apply prd; apply p_extract1 <;> rfl)); (case hq => kernel_rfl))
  all_goals (apply d_exec 10; (case hi => rfl); (case hr => kernel_rfl); (case hop => exact m_alloc rfl); (case hd => rfl); rintro _ _ _ ⟨b7, rfl, rfl, rfl⟩; refine ⟨(by intro e he; (simp at he; simp [he]; done)), ?_⟩)
  all_goals (apply d_store 11; (case hi => rfl); (case hr => kernel_rfl); (case hL => infer_instance); (case hp => rfl); (case hx => rfl); (case hc => rfl); (case hsz => rfl); (case h1 => rfl); (case hb => (repeat (exact mhd _))); (case hfit => exact nle rfl); (case hov => ((repeat (first | with_reducible exact ov_nil | apply ov_cons)); done)); (case hu => repeat (exact Upd.here _ _)); (case hν' => intro e he; (simp at he; simp [he]; done)))
  all_goals (apply dtk 12; (case hi => rfl); (case hop => (apply prd; apply p_assign <;> rfl)); (case hq => kernel_rfl))
  all_goals (apply d_done; (case hr => kernel_rfl))
  cases b with
  | false =>
    rw [if_pos rfl]
    repeat' (first | apply v_seq | apply v_region | apply v_nil | apply v_block | (apply v_pure; (case hop => first | (apply p_move <;> rfl) | (apply p_assign <;> rfl) | (apply p_not <;> rfl) | (apply p_fieldAddrB <;> rfl) | fail); (case hd => rfl)) | (apply v_condT; (case hc => rfl)) | (apply v_read; (case hop => (apply r_loadNo; (case hx => rfl); (case h => (repeat (first | exact mhd _ | apply mtl))); (case hd => (repeat (first | with_reducible exact dt_nil | apply dt_here))); (case hn => rfl))); (case hd => rfl)) | (apply v_store; (case hp => rfl); (case hx => rfl); (case hc => rfl); (case hsz => rfl); (case h1 => rfl); (case hb => (repeat (first | exact mhd _ | apply mtl))); (case hfit => exact nle rfl); (case hov => ((repeat (first | with_reducible exact ov_nil | apply ov_cons)); done)); (case hu => repeat (first | exact Upd.here _ _ | apply Upd.there))) | fail)
    refine v_retM [(mb, mcO kb act D), (kb, oM)] (outsM_cell (sz := 6) (vs := [.int .i64 client, .int .i64 seq, .int .i64 10, .bool false, .string ByteArray.empty, .int .i64 0]) (e := 29) rfl rfl (by repeat (first | exact mhd _ | apply mtl)) rfl) (by repeat (first | exact List.Sublist.refl _ | apply List.Sublist.cons)) ⟨rfl, rfl, oM, hM, rfl⟩
  | true =>
    rw [if_neg (by simp)]
    obtain ⟨hw2, hf2⟩ := hsetL rfl
    have hrm := hroom rfl
    rw [hrm] at hset
    clear hsetL hroom hrm
    repeat' (first | apply v_seq | apply v_region | apply v_nil | apply v_block | apply v_blk | (apply v_pure; (case hop => first | (apply p_move <;> rfl) | (apply p_assign <;> rfl) | (apply p_not <;> rfl) | (apply p_fieldAddrB <;> rfl) | (apply p_neS <;> rfl) | fail); (case hd => rfl)) | (apply v_condF; (case hc => rfl)) | (apply v_cond; (case hc => rfl); all_goals (intro h; (try simp only [reduceCtorEq, zzz] at h))) | (apply v_read; (case hop => first | (apply r_loadNo; (case hx => rfl); (case h => (repeat (first | exact mhd _ | apply mtl))); (case hd => (repeat (first | with_reducible exact dt_nil | apply dt_here))); (case hn => rfl)) | (apply r_load1; rfl; (apply Cell.own; (case h => (repeat (first | exact mhd _ | apply mtl))); rfl)) | fail); (case hd => rfl)) | (apply v_store; (case hp => rfl); (case hx => rfl); (case hc => rfl); (case hsz => rfl); (case h1 => rfl); (case hb => (repeat (first | exact mhd _ | apply mtl))); (case hfit => exact nle rfl); (case hov => ((repeat (first | with_reducible exact ov_nil | apply ov_cons)); done)); (case hu => repeat (first | exact Upd.here _ _ | apply Upd.there))) | fail)
    · have hne : ¬ f.val = old := by assumption
      rw [if_neg hne]
      refine d_start [(b7, .cells [.string f.val, .int .i64 f.rev].toArray 83 (0, 0)), (b4, .cells (Cm.cells ⟨kind, client, seq, key, val, old, node⟩).toArray 32 (0, 0)), (mb, mcO kb act D), (kb, oM)] (by kernel_rfl) (by kernel_rfl) (by kernel_rfl) (by (repeat (first | exact List.forall_mem_nil _ | (refine List.forall_mem_cons.2 (And.intro (by repeat (first | exact mhd _ | apply mtl)) ?_))))) ?_
      all_goals (apply dtk 0; (case hi => rfl); (case hop => (apply prd; apply p_fieldAddrB <;> rfl)); (case hq => kernel_rfl))
      all_goals (apply dtk 1; (case hi => rfl); (case hop => (apply r_load1; rfl; (apply Cell.own; (case h => (repeat (exact mhd _))); rfl))); (case hq => kernel_rfl))
      all_goals (apply dtk 2; (case hi => rfl); (case hop => (apply prd; apply p_move <;> rfl)); (case hq => kernel_rfl))
      all_goals (apply dtk 3; (case hi => rfl); (case hop => (apply prd; apply p_nilCheck <;> rfl)); (case hq => kernel_rfl))
      all_goals (apply dtk 4; (case hi => rfl); (case hop => (apply prd; apply p_fieldAddrB <;> rfl)); (case hq => kernel_rfl))
      all_goals (apply dtk 5; (case hi => rfl); (case hop => (apply r_load1; rfl; (apply Cell.own; (case h => (repeat (first | exact mhd _ | apply mtl))); rfl))); (case hq => kernel_rfl))
      all_goals (apply dtk 6; (case hi => rfl); (case hop => (apply prd; apply p_fieldAddrB <;> rfl)); (case hq => kernel_rfl))
      all_goals (apply dtk 7; (case hi => rfl); (case hop => (apply r_load1; rfl; (apply Cell.own; (case h => (repeat (first | exact mhd _ | apply mtl))); rfl))); (case hq => kernel_rfl))
      all_goals (apply dtk 8; (case hi => rfl); (case hop => ((apply r_key key f hf hw hM hk; (case hb => repeat (first | exact mhd _ | apply mtl)); (case hx => rfl); (case hi => rfl)))); (case hq => kernel_rfl))
      all_goals (apply dtk 9; (case hi => rfl); (case hop => (apply prd; apply p_field1 <;> rfl)); (case hq => kernel_rfl))
      all_goals (apply dtk 10; (case hi => rfl); (case hop => (apply prd; apply p_fieldAddrB <;> rfl)); (case hq => kernel_rfl))
      all_goals (apply d_store 11; (case hi => rfl); (case hr => kernel_rfl); (case hL => infer_instance); (case hp => rfl); (case hx => rfl); (case hc => rfl); (case hsz => rfl); (case h1 => rfl); (case hb => (repeat (first | exact mhd _ | apply mtl))); (case hfit => exact nle rfl); (case hov => ((repeat (first | with_reducible exact ov_nil | apply ov_cons)); done)); (case hu => repeat (first | exact Upd.here _ _ | apply Upd.there)); (case hν' => (repeat (first | exact List.forall_mem_nil _ | (refine List.forall_mem_cons.2 (And.intro (by repeat (first | exact mhd _ | apply mtl)) ?_))))))
      all_goals (apply dtk 12; (case hi => rfl); (case hop => (apply prd; apply p_fieldAddrB <;> rfl)); (case hq => kernel_rfl))
      all_goals (apply d_store 13; (case hi => rfl); (case hr => kernel_rfl); (case hL => infer_instance); (case hp => rfl); (case hx => rfl); (case hc => rfl); (case hsz => rfl); (case h1 => rfl); (case hb => (repeat (first | exact mhd _ | apply mtl))); (case hfit => exact nle rfl); (case hov => ((repeat (first | with_reducible exact ov_nil | apply ov_cons)); done)); (case hu => repeat (first | exact Upd.here _ _ | apply Upd.there)); (case hν' => (repeat (first | exact List.forall_mem_nil _ | (refine List.forall_mem_cons.2 (And.intro (by repeat (first | exact mhd _ | apply mtl)) ?_))))))
      all_goals (apply dtk 14; (case hi => rfl); (case hop => (apply prd; apply p_fieldAddrB <;> rfl)); (case hq => kernel_rfl))
      all_goals (apply d_store 15; (case hi => rfl); (case hr => kernel_rfl); (case hL => infer_instance); (case hp => rfl); (case hx => rfl); (case hc => rfl); (case hsz => rfl); (case h1 => rfl); (case hb => (repeat (first | exact mhd _ | apply mtl))); (case hfit => exact nle rfl); (case hov => ((repeat (first | with_reducible exact ov_nil | apply ov_cons)); done)); (case hu => repeat (first | exact Upd.here _ _ | apply Upd.there)); (case hν' => (repeat (first | exact List.forall_mem_nil _ | (refine List.forall_mem_cons.2 (And.intro (by repeat (first | exact mhd _ | apply mtl)) ?_))))))
      all_goals (apply d_done; (case hr => kernel_rfl))
      repeat' (first | apply v_seq | apply v_region | apply v_nil | (apply v_read; (case hop => (apply r_loadNo; (case hx => rfl); (case h => (repeat (first | exact mhd _ | apply mtl))); (case hd => (repeat (first | with_reducible exact dt_nil | apply dt_here))); (case hn => rfl))); (case hd => rfl)) | (apply v_store; (case hp => rfl); (case hx => rfl); (case hc => rfl); (case hsz => rfl); (case h1 => rfl); (case hb => (repeat (first | exact mhd _ | apply mtl))); (case hfit => exact nle rfl); (case hov => ((repeat (first | with_reducible exact ov_nil | apply ov_cons)); done)); (case hu => repeat (first | exact Upd.here _ _ | apply Upd.there))) | fail)
      refine v_retM [(mb, mcO kb act D), (kb, oM)] (outsM_cell (sz := 6) (vs := [.int .i64 client, .int .i64 seq, .int .i64 15, .bool true, .string f.val, .int .i64 f.rev]) (e := 29) rfl rfl (by repeat (first | exact mhd _ | apply mtl)) rfl) (by repeat (first | exact List.Sublist.refl _ | apply List.Sublist.cons)) ⟨rfl, rfl, oM, hM, rfl⟩
    · have he : f.val = old := by assumption
      rw [if_pos he]
      refine v_call (μ1 := [(mb, mcO kb act D), (kb, oM)]) rfl (hset _) (PickA.perm (by repeat (first | exact PickA.last | apply PickA.cons))) rfl ?_
      rintro _ G1 _ - ⟨hG1, rfl, oM2, hM2, rfl⟩
      subst G1
      repeat' (first | apply v_seq | apply v_nil | apply v_blk)
      refine v_perm (ν := [(b7, .cells [.string f.val, .int .i64 f.rev].toArray 83 (0, 0)), (b4, .cells (Cm.cells ⟨kind, client, seq, key, val, old, node⟩).toArray 32 (0, 0)), (b6, .cells [.int .i64 0, .int .i64 0, .int .i64 0, .bool false, .string ByteArray.empty, .int .i64 0].toArray 29 (0, 0)), (b5, .cells ([.int .i64 client, .int .i64 seq, .int .i64 0, .bool false, .string ByteArray.empty, .int .i64 0]).toArray 29 (0, 0)), (mb, mcO kb act D), (kb, oM2)]) (by apply perm_of_count; intro p; simp only [List.append_eq, List.countP_append, List.countP_cons, List.countP_nil, Nat.zero_add, Nat.add_zero]; try ac_rfl) ?_
      refine d_start [(b7, .cells [.string f.val, .int .i64 f.rev].toArray 83 (0, 0)), (b4, .cells (Cm.cells ⟨kind, client, seq, key, val, old, node⟩).toArray 32 (0, 0)), (mb, mcO kb act D), (kb, oM2)] (by kernel_rfl) (by kernel_rfl) (by kernel_rfl) (by (repeat (first | exact List.forall_mem_nil _ | (refine List.forall_mem_cons.2 (And.intro (by repeat (first | exact mhd _ | apply mtl)) ?_))))) ?_
      all_goals (apply dtk 0; (case hi => rfl); (case hop => (apply prd; apply p_fieldAddrB <;> rfl)); (case hq => kernel_rfl))
      all_goals (apply dtk 1; (case hi => rfl); (case hop => (apply r_load1; rfl; (apply Cell.own; (case h => (repeat (exact mhd _))); rfl))); (case hq => kernel_rfl))
      all_goals (apply dtk 2; (case hi => rfl); (case hop => (apply prd; apply p_move <;> rfl)); (case hq => kernel_rfl))
      all_goals (apply dtk 3; (case hi => rfl); (case hop => (apply prd; apply p_nilCheck <;> rfl)); (case hq => kernel_rfl))
      all_goals (apply dtk 4; (case hi => rfl); (case hop => (apply prd; apply p_fieldAddrB <;> rfl)); (case hq => kernel_rfl))
      all_goals (apply dtk 5; (case hi => rfl); (case hop => (apply r_load1; rfl; (apply Cell.own; (case h => (repeat (first | exact mhd _ | apply mtl))); rfl))); (case hq => kernel_rfl))
      all_goals (apply dtk 6; (case hi => rfl); (case hop => (apply prd; apply p_fieldAddrB <;> rfl)); (case hq => kernel_rfl))
      all_goals (apply dtk 7; (case hi => rfl); (case hop => (apply r_load1; rfl; (apply Cell.own; (case h => (repeat (first | exact mhd _ | apply mtl))); rfl))); (case hq => kernel_rfl))
      all_goals (apply dtk 8; (case hi => rfl); (case hop => ((apply r_key key ⟨key, val, rq⟩ hf2 hw2 hM2 hk; (case hb => repeat (first | exact mhd _ | apply mtl)); (case hx => rfl); (case hi => rfl)))); (case hq => kernel_rfl))
      all_goals (apply dtk 9; (case hi => rfl); (case hop => (apply prd; apply p_field1 <;> rfl)); (case hq => kernel_rfl))
      all_goals (apply dtk 10; (case hi => rfl); (case hop => (apply prd; apply p_fieldAddrB <;> rfl)); (case hq => kernel_rfl))
      all_goals (apply d_store 11; (case hi => rfl); (case hr => kernel_rfl); (case hL => infer_instance); (case hp => rfl); (case hx => rfl); (case hc => rfl); (case hsz => rfl); (case h1 => rfl); (case hb => (repeat (first | exact mhd _ | apply mtl))); (case hfit => exact nle rfl); (case hov => ((repeat (first | with_reducible exact ov_nil | apply ov_cons)); done)); (case hu => repeat (first | exact Upd.here _ _ | apply Upd.there)); (case hν' => (repeat (first | exact List.forall_mem_nil _ | (refine List.forall_mem_cons.2 (And.intro (by repeat (first | exact mhd _ | apply mtl)) ?_))))))
      all_goals (apply dtk 12; (case hi => rfl); (case hop => (apply prd; apply p_fieldAddrB <;> rfl)); (case hq => kernel_rfl))
      all_goals (apply d_store 13; (case hi => rfl); (case hr => kernel_rfl); (case hL => infer_instance); (case hp => rfl); (case hx => rfl); (case hc => rfl); (case hsz => rfl); (case h1 => rfl); (case hb => (repeat (first | exact mhd _ | apply mtl))); (case hfit => exact nle rfl); (case hov => ((repeat (first | with_reducible exact ov_nil | apply ov_cons)); done)); (case hu => repeat (first | exact Upd.here _ _ | apply Upd.there)); (case hν' => (repeat (first | exact List.forall_mem_nil _ | (refine List.forall_mem_cons.2 (And.intro (by repeat (first | exact mhd _ | apply mtl)) ?_))))))
      all_goals (apply dtk 14; (case hi => rfl); (case hop => (apply prd; apply p_fieldAddrB <;> rfl)); (case hq => kernel_rfl))
      all_goals (apply d_store 15; (case hi => rfl); (case hr => kernel_rfl); (case hL => infer_instance); (case hp => rfl); (case hx => rfl); (case hc => rfl); (case hsz => rfl); (case h1 => rfl); (case hb => (repeat (first | exact mhd _ | apply mtl))); (case hfit => exact nle rfl); (case hov => ((repeat (first | with_reducible exact ov_nil | apply ov_cons)); done)); (case hu => repeat (first | exact Upd.here _ _ | apply Upd.there)); (case hν' => (repeat (first | exact List.forall_mem_nil _ | (refine List.forall_mem_cons.2 (And.intro (by repeat (first | exact mhd _ | apply mtl)) ?_))))))
      all_goals (apply d_done; (case hr => kernel_rfl))
      repeat' (first | apply v_seq | apply v_region | apply v_nil | (apply v_read; (case hop => (apply r_loadNo; (case hx => rfl); (case h => (repeat (first | exact mhd _ | apply mtl))); (case hd => (repeat (first | with_reducible exact dt_nil | apply dt_here))); (case hn => rfl))); (case hd => rfl)) | (apply v_store; (case hp => rfl); (case hx => rfl); (case hc => rfl); (case hsz => rfl); (case h1 => rfl); (case hb => (repeat (first | exact mhd _ | apply mtl))); (case hfit => exact nle rfl); (case hov => ((repeat (first | with_reducible exact ov_nil | apply ov_cons)); done)); (case hu => repeat (first | exact Upd.here _ _ | apply Upd.there))) | fail)
      refine v_retM [(mb, mcO kb act D), (kb, oM2)] (outsM_cell (sz := 6) (vs := [.int .i64 client, .int .i64 seq, .int .i64 0, .bool true, .string f.val, .int .i64 rq]) (e := 29) rfl rfl (by repeat (first | exact mhd _ | apply mtl)) rfl) (by repeat (first | exact List.Sublist.refl _ | apply List.Sublist.cons)) ⟨rfl, rfl, oM2, hM2, rfl⟩
def freshS (act : Bool) (l : List Pr) (c : Cm) : List Pr × An :=
  if c.kind = 5 then swapS act l c
  else if c.kind = 2 ∧ roomB l (kn c.key) = false then (l, { ans0 c with err := 11 })
  else (if c.kind = 2 then setL act l c.key c.val else if c.kind = 4 then l.filter (fun x => decide (ksP x ≠ kn c.key)) else l, { ans0 c with found := hitG ksP l (kn c.key), val := (findP l (kn c.key)).val })
theorem MapP.del {l : List Pr} {L : List Pr} {o : Obj} {k : ByteArray} (hw : MapW l) (hp : L.Perm l) (hk : k.size ≤ 200) (hM : MapB keyS (mdel (L.map prE) k) o) : MapP (l.filter (fun x => decide (ksP x ≠ kn k))) o := by
  obtain ⟨L', h1, h2⟩ := mdel_prs hp hw.1 hw.2.1 hk
  exact ⟨L', h2, by rw [← h1]; exact hM⟩
set_option maxHeartbeats 2000000 in
theorem mfresh_s {G : GH} {mb kb : Nat} {act : Bool} {D : List Ls} {oM : Obj} {l : List Pr} (c : Cm) (hw : MapW l) (hM : MapP l oM) (hk : c.key.size ≤ 200) (hv : c.val.size ≤ 200) :
    Con Tryd.prog 80 #[.pointer (some ⟨mb, 0, none⟩), .agg c.cells.toArray] G [(mb, mcO kb act D), (kb, oM)] (fun r G' μ' => G' = G ∧ r = .agg (freshS act l c).2.cells.toArray ∧ ∃ oM', MapP (freshS act l c).1 oM' ∧ μ' = [(mb, mcO kb act D), (kb, oM')]) := by
  have hset := fun G => mset_s (G := G) (mb := mb) (kb := kb) (act := act) (D := D) c hw hM hk
  have hswap := fun G => mswap_s (G := G) (mb := mb) (kb := kb) (act := act) (D := D) c hw hM hk hv
  have hdel := fun (L : List Pr) (o : Obj) (hp : L.Perm l) h => MapP.del (o := o) (k := c.key) hw hp hk h
  have hroom : roomB l (kn c.key) = false → setL act l c.key c.val = l := fun h => by unfold setL; rw [h, if_neg (by simp)]
  unfold freshS
  unfold ans0 at *
  obtain ⟨kind, client, seq, key, val, old, node⟩ := c
  simp only at *
  generalize swapS act l ⟨kind, client, seq, key, val, old, node⟩ = sw at *
  generalize hf : findP l (kn key) = f at *
  generalize hb : hitG ksP l (kn key) = b at *
  generalize setL act l key val = l2 at *
  generalize l.filter (fun x => decide (ksP x ≠ kn key)) = l3 at *
  generalize roomB l (kn key) = rm at *
  obtain ⟨L, hp, hMB⟩ := id hM
  obtain ⟨l4, ⟨ac, aq, ae, af, av, ar⟩⟩ := sw
  (refine v_enter Tryd.func80 rfl Tryd.ntmps80 rfl ?_; intro B _)
  repeat' (first | (apply v_box (d := 3) (zs := Cm.cells ⟨kind, client, seq, key, val, old, node⟩); (case hx => rfl); (case hz => rfl); (case hd => rfl); intro b3) | (apply v_alloc (d := 4); (case hz => rfl); (case hd => rfl); intro b4) | (apply v_alloc (d := 5); (case hz => rfl); (case hd => rfl); intro b5) | (apply v_read; (case hop => (apply r_loadNo; (case hx => rfl); (case h => repeat (first | exact mhd _ | apply mtl)); (case hd => rfl); (case hn => rfl))); (case hd => rfl)) | apply v_seq | apply v_region | apply v_nil | apply v_skip | (apply v_pure; (case hop => first | (apply p_move <;> rfl) | (apply p_eq <;> rfl) | (apply p_fieldAddrB <;> rfl) | (apply p_build; (case hz => rfl); (case hv => (simp only [List.map_cons, List.map_nil]; repeat (first | with_reducible exact evs_nil | (apply evs_cons; (case h1 => rfl))))); (case hb => (apply bldL; repeat (first | exact bld_nil | (apply bld_cons; (case hpf => rfl); (case hc => rfl); (case hs => rfl); (case hl => rfl); (case ho => ((repeat (first | with_reducible exact ov_nil | apply ov_cons)); done))))))) | fail); (case hd => rfl)) | (apply v_cond; (case hc => rfl); all_goals (intro h; (try simp only [reduceCtorEq, zzz] at h))) | (apply v_read; (case hop => (apply r_load1; rfl; (apply Cell.own; (case h => (repeat (first | exact mhd _ | apply mtl))); rfl))); (case hd => rfl)) | (apply v_store; (case hp => rfl); (case hx => rfl); (case hc => rfl); (case hsz => rfl); (case h1 => rfl); (case hb => (repeat (exact mhd _))); (case hfit => exact nle rfl); (case hov => ((repeat (first | with_reducible exact ov_nil | apply ov_cons)); done)); (case hu => repeat (exact Upd.here _ _))) | fail)
  · rw [if_pos (by assumption)]
    refine v_call (μ1 := [(mb, mcO kb act D), (kb, oM)]) rfl (hswap _) (PickA.perm (by repeat (first | exact PickA.last | apply PickA.cons))) rfl ?_
    rintro _ G1 _ - ⟨hG1, rfl, oM2, hM2, rfl⟩
    subst G1
    repeat' (first | apply v_nil | (apply v_store; (case hp => rfl); (case hx => rfl); (case hc => rfl); (case hsz => rfl); (case h1 => rfl); (case hb => (repeat (first | exact mhd _ | apply mtl))); (case hfit => exact nle rfl); (case hov => ((repeat (first | with_reducible exact ov_nil | apply ov_cons)); done)); (case hu => repeat (first | exact Upd.here _ _ | apply Upd.there))) | fail)
    refine v_retM [(mb, mcO kb act D), (kb, oM2)] (outsM_cell (sz := 6) (vs := [.int .i64 ac, .int .i64 aq, .int .i64 ae, .bool af, .string av, .int .i64 ar]) (e := 29) rfl rfl (by repeat (first | exact mhd _ | apply mtl)) rfl) (by repeat (first | exact List.nil_sublist _ | apply List.Sublist.cons_cons)) ⟨rfl, rfl, oM2, hM2, rfl⟩
  · have h5 : ¬ kind = 5 := by assumption
    rw [if_neg h5]
    refine v_perm (ν := [(b4, .cells [.int .i64 0, .int .i64 0, .int .i64 0, .bool false, .string ByteArray.empty, .int .i64 0].toArray 29 (0, 0)), (b5, .cells ([.int .i64 client, .int .i64 seq, .int .i64 0, .bool false, .string ByteArray.empty, .int .i64 0]).toArray 29 (0, 0)), (b3, .cells (Cm.cells ⟨kind, client, seq, key, val, old, node⟩).toArray 32 (0, 0)), (mb, mcO kb act D), (kb, oM)]) (by apply perm_of_count; intro p; simp only [List.append_eq, List.countP_append, List.countP_cons, List.countP_nil, Nat.zero_add, Nat.add_zero]; try ac_rfl) ?_
    refine d_start [(b3, .cells (Cm.cells ⟨kind, client, seq, key, val, old, node⟩).toArray 32 (0, 0)), (mb, mcO kb act D), (kb, oM)] (by kernel_rfl) (by kernel_rfl) (by kernel_rfl) (by intro e he; (simp at he; simp [he]; done)) ?_
    all_goals (apply dtk 0; (case hi => rfl); (case hop => (apply prd; apply p_move <;> rfl)); (case hq => kernel_rfl))
    all_goals (apply dtk 1; (case hi => rfl); (case hop => (apply prd; apply p_nilCheck <;> rfl)); (case hq => kernel_rfl))
    all_goals (apply dtk 2; (case hi => rfl); (case hop => (apply prd; apply p_fieldAddrB <;> rfl)); (case hq => kernel_rfl))
    all_goals (apply dtk 3; (case hi => rfl); (case hop => (apply r_load1; rfl; (apply Cell.own; (case h => (repeat (first | exact mhd _ | apply mtl))); rfl))); (case hq => kernel_rfl))
    all_goals (apply dtk 4; (case hi => rfl); (case hop => (apply prd; apply p_fieldAddrB <;> rfl)); (case hq => kernel_rfl))
    all_goals (apply dtk 5; (case hi => rfl); (case hop => (apply r_load1; rfl; (apply Cell.own; (case h => (repeat (exact mhd _))); rfl))); (case hq => kernel_rfl))
    all_goals (apply dtk 6; (case hi => rfl); (case hop => ((apply r_keyOk key f hf b hb hw hM hk; (case hb => repeat (first | exact mhd _ | apply mtl)); (case hx => rfl); (case hi => rfl)))); (case hq => kernel_rfl))
    all_goals (apply dtk 7; (case hi => rfl); (case hop => (apply prd; apply p_move <;> rfl)); (case hq => kernel_rfl))
    all_goals (apply dtk 8; (case hi => rfl); (case hop => (apply prd; apply p_extract0 <;> rfl)); (case hq => kernel_rfl))
    all_goals (apply dtk 9; (case hi => rfl); (case hop => (apply prd; apply p_extract1 <;> rfl)); (case hq => kernel_rfl))
    all_goals (apply d_exec 10; (case hi => rfl); (case hr => kernel_rfl); (case hop => exact m_alloc rfl); (case hd => rfl); rintro _ _ _ ⟨b6, rfl, rfl, rfl⟩; refine ⟨(by intro e he; (simp at he; simp [he]; done)), ?_⟩)
    all_goals (apply d_store 11; (case hi => rfl); (case hr => kernel_rfl); (case hL => infer_instance); (case hp => rfl); (case hx => rfl); (case hc => rfl); (case hsz => rfl); (case h1 => rfl); (case hb => (repeat (exact mhd _))); (case hfit => exact nle rfl); (case hov => ((repeat (first | with_reducible exact ov_nil | apply ov_cons)); done)); (case hu => repeat (exact Upd.here _ _)); (case hν' => intro e he; (simp at he; simp [he]; done)))
    all_goals (apply dtk 12; (case hi => rfl); (case hop => (apply prd; apply p_assign <;> rfl)); (case hq => kernel_rfl))
    all_goals (apply d_done; (case hr => kernel_rfl))
    by_cases h2 : kind = 2
    · repeat' (first | (apply v_read; (case hop => (apply r_loadNo; (case hx => rfl); (case h => repeat (first | exact mhd _ | apply mtl)); (case hd => rfl); (case hn => rfl))); (case hd => rfl)) | apply v_seq | apply v_region | (apply v_take; (case hg => rfl)) | (apply v_pure; (case hop => first | (apply p_move <;> rfl) | (apply p_eq <;> rfl) | (apply p_fieldAddrB <;> rfl) | fail); (case hd => rfl)) | (apply v_guardB; (case h1 => rfl); (case h2 => rfl); all_goals (intro h; (try simp only [reduceCtorEq, zzz] at h); first | (exfalso; omega) | skip)) | (apply v_read; (case hop => (apply r_load1; rfl; (apply Cell.own; (case h => (repeat (first | exact mhd _ | apply mtl))); rfl))); (case hd => rfl)) | fail)
      refine v_call (μ1 := [(mb, mcO kb act D), (kb, oM)]) rfl (hset _) (PickA.perm (by repeat (first | exact PickA.last | apply PickA.cons))) rfl ?_
      rintro _ G1 _ - ⟨hG1, rfl, oM2, hM2, rfl⟩
      subst G1
      cases rm with
      | false =>
        rw [if_pos ⟨h2, rfl⟩]
        rw [hroom rfl] at hM2
        repeat' (first | apply v_seq | apply v_region | apply v_nil | (apply v_take; (case hg => rfl)) | (apply v_pure; (case hop => first | (apply p_pickT <;> rfl) | (apply p_not <;> rfl) | (apply p_fieldAddrB <;> rfl) | fail); (case hd => rfl)) | (apply v_condT; (case hc => rfl)) | (apply v_read; (case hop => (apply r_loadNo; (case hx => rfl); (case h => (repeat (first | exact mhd _ | apply mtl))); (case hd => (repeat (first | with_reducible exact dt_nil | apply dt_here))); (case hn => rfl))); (case hd => rfl)) | (apply v_store; (case hp => rfl); (case hx => rfl); (case hc => rfl); (case hsz => rfl); (case h1 => rfl); (case hb => (repeat (first | exact mhd _ | apply mtl))); (case hfit => exact nle rfl); (case hov => ((repeat (first | with_reducible exact ov_nil | apply ov_cons)); done)); (case hu => repeat (first | exact Upd.here _ _ | apply Upd.there))) | fail)
        refine v_retM [(mb, mcO kb act D), (kb, oM2)] (outsM_cell (sz := 6) (vs := [.int .i64 client, .int .i64 seq, .int .i64 11, .bool false, .string ByteArray.empty, .int .i64 0]) (e := 29) rfl rfl (by repeat (first | exact mhd _ | apply mtl)) rfl) (by repeat (first | exact List.nil_sublist _ | apply List.Sublist.cons_cons)) ⟨rfl, rfl, oM2, hM2, rfl⟩
      | true =>
        rw [if_neg (by simp), if_pos h2]
        repeat' (first | apply v_seq | apply v_region | apply v_nil | apply v_skip | (apply v_take; (case hg => rfl)) | (apply v_pure; (case hop => first | (apply p_eq <;> rfl) | (apply p_pickT <;> rfl) | (apply p_not <;> rfl) | (apply p_fieldAddrB <;> rfl) | fail); (case hd => rfl)) | (apply v_condF; (case hc => rfl)) | (apply v_cond; (case hc => rfl); all_goals (intro h; (try simp only [reduceCtorEq, zzz] at h); first | (exfalso; omega) | skip)) | (apply v_read; (case hop => (apply r_load1; rfl; (apply Cell.own; (case h => (repeat (first | exact mhd _ | apply mtl))); rfl))); (case hd => rfl)) | fail)
        refine d_start [(b6, .cells [.string f.val, .int .i64 f.rev].toArray 83 (0, 0))] (by kernel_rfl) (by kernel_rfl) (by kernel_rfl) (by intro e he; (simp at he; simp [he]; done)) ?_
        all_goals (apply dtk 0; (case hi => rfl); (case hop => (apply prd; apply p_move <;> rfl)); (case hq => kernel_rfl))
        all_goals (apply dtk 1; (case hi => rfl); (case hop => (apply prd; apply p_fieldAddrB <;> rfl)); (case hq => kernel_rfl))
        all_goals (apply dtk 2; (case hi => rfl); (case hop => first | (apply r_loadNo; (case hx => rfl); (case h => (repeat (fail))); (case hd => (repeat (fail))); (case hn => rfl)) | (apply r_load1; rfl; (apply Cell.own; (case h => (repeat (exact mhd _))); rfl)) | (apply r_loadN; rfl; (apply CellsAt.own; (case h => (repeat (fail)))); rfl)); (case hq => kernel_rfl))
        all_goals (apply dtk 3; (case hi => rfl); (case hop => (apply prd; apply p_fieldAddrB <;> rfl)); (case hq => kernel_rfl))
        all_goals (apply d_store 4; (case hi => rfl); (case hr => kernel_rfl); (case hL => infer_instance); (case hp => rfl); (case hx => rfl); (case hc => rfl); (case hsz => rfl); (case h1 => rfl); (case hb => (repeat (first | exact mhd _ | apply mtl))); (case hfit => exact nle rfl); (case hov => ((repeat (first | with_reducible exact ov_nil | apply ov_cons)); done)); (case hu => repeat (first | exact Upd.here _ _ | apply Upd.there)); (case hν' => intro e he; (simp at he; simp [he]; done)))
        all_goals (apply dtk 5; (case hi => rfl); (case hop => (apply prd; apply p_fieldAddrB <;> rfl)); (case hq => kernel_rfl))
        all_goals (apply d_store 6; (case hi => rfl); (case hr => kernel_rfl); (case hL => infer_instance); (case hp => rfl); (case hx => rfl); (case hc => rfl); (case hsz => rfl); (case h1 => rfl); (case hb => (repeat (first | exact mhd _ | apply mtl))); (case hfit => exact nle rfl); (case hov => ((repeat (first | with_reducible exact ov_nil | apply ov_cons)); done)); (case hu => repeat (first | exact Upd.here _ _ | apply Upd.there)); (case hν' => intro e he; (simp at he; simp [he]; done)))
        all_goals (apply d_done; (case hr => kernel_rfl))
        repeat' (first | apply v_seq | apply v_region | apply v_nil | (apply v_read; (case hop => (apply r_loadNo; (case hx => rfl); (case h => (repeat (first | exact mhd _ | apply mtl))); (case hd => (repeat (first | with_reducible exact dt_nil | apply dt_here))); (case hn => rfl))); (case hd => rfl)) | (apply v_store; (case hp => rfl); (case hx => rfl); (case hc => rfl); (case hsz => rfl); (case h1 => rfl); (case hb => (repeat (first | exact mhd _ | apply mtl))); (case hfit => exact nle rfl); (case hov => ((repeat (first | with_reducible exact ov_nil | apply ov_cons)); done)); (case hu => repeat (first | exact Upd.here _ _ | apply Upd.there))) | fail)
        refine v_retM [(mb, mcO kb act D), (kb, oM2)] (outsM_cell (sz := 6) (vs := [.int .i64 client, .int .i64 seq, .int .i64 0, .bool b, .string f.val, .int .i64 0]) (e := 29) rfl rfl (by repeat (first | exact mhd _ | apply mtl)) rfl) (by repeat (first | exact List.nil_sublist _ | apply List.Sublist.cons_cons)) ⟨rfl, rfl, oM2, hM2, rfl⟩
    · rw [if_neg (fun h => h2 h.1), if_neg h2]
      repeat' (first | apply v_seq | apply v_region | apply v_nil | apply v_skip | (apply v_pass; (case hg => rfl); (case hn => rfl); (case hd => rfl)) | (apply v_pure; (case hop => first | (apply p_move <;> rfl) | (apply p_eq <;> rfl) | (apply p_pickF <;> rfl) | (apply p_fieldAddrB <;> rfl) | fail); (case hd => rfl)) | (apply v_condF; (case hc => rfl)) | (apply v_cond; (case hc => rfl); all_goals (intro h; (try simp only [reduceCtorEq, zzz] at h))) | (apply v_guardB; (case h1 => rfl); (case h2 => rfl); all_goals (intro h; (try simp only [reduceCtorEq, zzz] at h); first | (exfalso; omega) | skip)) | (apply v_read; (case hop => (apply r_load1; rfl; (apply Cell.own; (case h => (repeat (first | exact mhd _ | apply mtl))); rfl))); (case hd => rfl)) | fail)
      · have h4 : kind = 4 := by assumption
        rw [if_pos h4]
        refine d_start [(b3, .cells (Cm.cells ⟨kind, client, seq, key, val, old, node⟩).toArray 32 (0, 0)), (mb, mcO kb act D)] (by kernel_rfl) (by kernel_rfl) (by kernel_rfl) (by intro e he; (simp only [List.mem_cons, List.not_mem_nil, or_false] at he; rcases he with rfl | rfl <;> simp; done)) ?_
        all_goals (apply dtk 0; (case hi => rfl); (case hop => (apply prd; apply p_move <;> rfl)); (case hq => kernel_rfl))
        all_goals (apply dtk 1; (case hi => rfl); (case hop => (apply prd; apply p_nilCheck <;> rfl)); (case hq => kernel_rfl))
        all_goals (apply dtk 2; (case hi => rfl); (case hop => (apply prd; apply p_fieldAddrB <;> rfl)); (case hq => kernel_rfl))
        all_goals (apply dtk 3; (case hi => rfl); (case hop => first | (apply r_loadNo; (case hx => rfl); (case h => (repeat (fail))); (case hd => (repeat (fail))); (case hn => rfl)) | (apply r_load1; rfl; (apply Cell.own; (case h => (repeat (first | exact mhd _ | apply mtl))); rfl)) | (apply r_loadN; rfl; (apply CellsAt.own; (case h => (repeat (fail)))); rfl)); (case hq => kernel_rfl))
        all_goals (apply dtk 4; (case hi => rfl); (case hop => (apply prd; apply p_fieldAddrB <;> rfl)); (case hq => kernel_rfl))
        all_goals (apply dtk 5; (case hi => rfl); (case hop => first | (apply r_loadNo; (case hx => rfl); (case h => (repeat (fail))); (case hd => (repeat (fail))); (case hn => rfl)) | (apply r_load1; rfl; (apply Cell.own; (case h => (repeat (exact mhd _))); rfl)) | (apply r_loadN; rfl; (apply CellsAt.own; (case h => (repeat (fail)))); rfl)); (case hq => kernel_rfl))
        all_goals ((apply d_exec0 6; (case hi => rfl); (case hr => kernel_rfl);  (case hop => exact m_delete (k := 9) (mk := keyS) key rfl rfl (PickA.perm (ν := [(kb, oM)]) (by repeat (first | exact PickA.last | apply PickA.cons))) hMB); rintro _ G4 _ ⟨-, oM2, hM2, hK2, hG4, rfl⟩; subst G4; refine ⟨(by intro e he; simp only [List.mem_cons, List.not_mem_nil, or_false] at he; rcases he with rfl | rfl <;> simp), ?_⟩))
        all_goals (apply d_done; (case hr => kernel_rfl))
        repeat' (first | apply v_seq)
        refine d_start [(b6, .cells [.string f.val, .int .i64 f.rev].toArray 83 (0, 0))] (by kernel_rfl) (by kernel_rfl) (by kernel_rfl) (by intro e he; (simp at he; simp [he]; done)) ?_
        all_goals (apply dtk 0; (case hi => rfl); (case hop => (apply prd; apply p_move <;> rfl)); (case hq => kernel_rfl))
        all_goals (apply dtk 1; (case hi => rfl); (case hop => (apply prd; apply p_fieldAddrB <;> rfl)); (case hq => kernel_rfl))
        all_goals (apply dtk 2; (case hi => rfl); (case hop => first | (apply r_loadNo; (case hx => rfl); (case h => (repeat (fail))); (case hd => (repeat (fail))); (case hn => rfl)) | (apply r_load1; rfl; (apply Cell.own; (case h => (repeat (exact mhd _))); rfl)) | (apply r_loadN; rfl; (apply CellsAt.own; (case h => (repeat (fail)))); rfl)); (case hq => kernel_rfl))
        all_goals (apply dtk 3; (case hi => rfl); (case hop => (apply prd; apply p_fieldAddrB <;> rfl)); (case hq => kernel_rfl))
        all_goals (apply d_store 4; (case hi => rfl); (case hr => kernel_rfl); (case hL => infer_instance); (case hp => rfl); (case hx => rfl); (case hc => rfl); (case hsz => rfl); (case h1 => rfl); (case hb => (repeat (first | exact mhd _ | apply mtl))); (case hfit => exact nle rfl); (case hov => ((repeat (first | with_reducible exact ov_nil | apply ov_cons)); done)); (case hu => repeat (first | exact Upd.here _ _ | apply Upd.there)); (case hν' => intro e he; (simp at he; simp [he]; done)))
        all_goals (apply dtk 5; (case hi => rfl); (case hop => (apply prd; apply p_fieldAddrB <;> rfl)); (case hq => kernel_rfl))
        all_goals (apply d_store 6; (case hi => rfl); (case hr => kernel_rfl); (case hL => infer_instance); (case hp => rfl); (case hx => rfl); (case hc => rfl); (case hsz => rfl); (case h1 => rfl); (case hb => (repeat (first | exact mhd _ | apply mtl))); (case hfit => exact nle rfl); (case hov => ((repeat (first | with_reducible exact ov_nil | apply ov_cons)); done)); (case hu => repeat (first | exact Upd.here _ _ | apply Upd.there)); (case hν' => intro e he; (simp at he; simp [he]; done)))
        all_goals (apply d_done; (case hr => kernel_rfl))
        repeat' (first | apply v_seq | apply v_region | apply v_nil | (apply v_read; (case hop => (apply r_loadNo; (case hx => rfl); (case h => (repeat (first | exact mhd _ | apply mtl))); (case hd => (repeat (first | with_reducible exact dt_nil | apply dt_here))); (case hn => rfl))); (case hd => rfl)) | (apply v_store; (case hp => rfl); (case hx => rfl); (case hc => rfl); (case hsz => rfl); (case h1 => rfl); (case hb => (repeat (first | exact mhd _ | apply mtl))); (case hfit => exact nle rfl); (case hov => ((repeat (first | with_reducible exact ov_nil | apply ov_cons)); done)); (case hu => repeat (first | exact Upd.here _ _ | apply Upd.there))) | fail)
        refine v_perm (ν := [(mb, mcO kb act D), (kb, oM2), (b4, .cells [.int .i64 client, .int .i64 seq, .int .i64 0, .bool b, .string f.val, .int .i64 0].toArray 29 (0, 0)), (b5, _), (b3, _), (b6, _)]) (by apply perm_of_count; intro p; simp only [List.append_eq, List.countP_append, List.countP_cons, List.countP_nil, Nat.zero_add, Nat.add_zero]; try ac_rfl) ?_
        refine v_retM [(mb, mcO kb act D), (kb, oM2)] (outsM_cell (sz := 6) (vs := [.int .i64 client, .int .i64 seq, .int .i64 0, .bool b, .string f.val, .int .i64 0]) (e := 29) rfl rfl (by repeat (first | exact mhd _ | apply mtl)) rfl) (by repeat (first | exact List.nil_sublist _ | apply List.Sublist.cons_cons)) ⟨rfl, rfl, oM2, hdel L oM2 hp hM2, rfl⟩
      · rw [if_neg (by assumption)]
        refine d_start [(b6, .cells [.string f.val, .int .i64 f.rev].toArray 83 (0, 0))] (by kernel_rfl) (by kernel_rfl) (by kernel_rfl) (by intro e he; (simp at he; simp [he]; done)) ?_
        all_goals (apply dtk 0; (case hi => rfl); (case hop => (apply prd; apply p_move <;> rfl)); (case hq => kernel_rfl))
        all_goals (apply dtk 1; (case hi => rfl); (case hop => (apply prd; apply p_fieldAddrB <;> rfl)); (case hq => kernel_rfl))
        all_goals (apply dtk 2; (case hi => rfl); (case hop => first | (apply r_loadNo; (case hx => rfl); (case h => (repeat (fail))); (case hd => (repeat (fail))); (case hn => rfl)) | (apply r_load1; rfl; (apply Cell.own; (case h => (repeat (exact mhd _))); rfl)) | (apply r_loadN; rfl; (apply CellsAt.own; (case h => (repeat (fail)))); rfl)); (case hq => kernel_rfl))
        all_goals (apply dtk 3; (case hi => rfl); (case hop => (apply prd; apply p_fieldAddrB <;> rfl)); (case hq => kernel_rfl))
        all_goals (apply d_store 4; (case hi => rfl); (case hr => kernel_rfl); (case hL => infer_instance); (case hp => rfl); (case hx => rfl); (case hc => rfl); (case hsz => rfl); (case h1 => rfl); (case hb => (repeat (first | exact mhd _ | apply mtl))); (case hfit => exact nle rfl); (case hov => ((repeat (first | with_reducible exact ov_nil | apply ov_cons)); done)); (case hu => repeat (first | exact Upd.here _ _ | apply Upd.there)); (case hν' => intro e he; (simp at he; simp [he]; done)))
        all_goals (apply dtk 5; (case hi => rfl); (case hop => (apply prd; apply p_fieldAddrB <;> rfl)); (case hq => kernel_rfl))
        all_goals (apply d_store 6; (case hi => rfl); (case hr => kernel_rfl); (case hL => infer_instance); (case hp => rfl); (case hx => rfl); (case hc => rfl); (case hsz => rfl); (case h1 => rfl); (case hb => (repeat (first | exact mhd _ | apply mtl))); (case hfit => exact nle rfl); (case hov => ((repeat (first | with_reducible exact ov_nil | apply ov_cons)); done)); (case hu => repeat (first | exact Upd.here _ _ | apply Upd.there)); (case hν' => intro e he; (simp at he; simp [he]; done)))
        all_goals (apply d_done; (case hr => kernel_rfl))
        repeat' (first | apply v_seq | apply v_region | apply v_nil | (apply v_read; (case hop => (apply r_loadNo; (case hx => rfl); (case h => (repeat (first | exact mhd _ | apply mtl))); (case hd => (repeat (first | with_reducible exact dt_nil | apply dt_here))); (case hn => rfl))); (case hd => rfl)) | (apply v_store; (case hp => rfl); (case hx => rfl); (case hc => rfl); (case hsz => rfl); (case h1 => rfl); (case hb => (repeat (first | exact mhd _ | apply mtl))); (case hfit => exact nle rfl); (case hov => ((repeat (first | with_reducible exact ov_nil | apply ov_cons)); done)); (case hu => repeat (first | exact Upd.here _ _ | apply Upd.there))) | fail)
        refine v_retM [(mb, mcO kb act D), (kb, oM)] (outsM_cell (sz := 6) (vs := [.int .i64 client, .int .i64 seq, .int .i64 0, .bool b, .string f.val, .int .i64 0]) (e := 29) rfl rfl (by repeat (first | exact mhd _ | apply mtl)) rfl) (by repeat (first | exact List.Sublist.refl _ | apply List.Sublist.cons)) ⟨rfl, rfl, oM, hM, rfl⟩
theorem dAt_get {D : List Ls} {n : Nat} (h : n < D.length) : dAt D n = D[n] := by unfold dAt; rw [List.getD_eq_getElem?_getD, List.getElem?_eq_getElem h]; rfl
theorem mc_seq {D : List Ls} {n : Nat} (h : n < D.length) (a b : Value) : (a :: b :: rowC Ls.cells D)[2 + n * 7]? = some (.int .i64 (dAt D n).seq) := by
  have e : 2 + n * 7 = n * 7 + 1 + 1 := by omega
  rw [e, List.getElem?_cons_succ, List.getElem?_cons_succ, show n * 7 = n * 7 + 0 from rfl, rowC_get Ls.len D n 0 h (by omega), dAt_get h]
  rfl
theorem mc_ans {D : List Ls} {n : Nat} (h : n < D.length) (a b : Value) : ((a :: b :: rowC Ls.cells D).drop (2 + n * 7 + 1)).take 6 = (dAt D n).ans.cells := by
  have e : 2 + n * 7 + 1 = (n * 7 + 1) + 1 + 1 := by omega
  have h7 := rowC_at Ls.len D n h
  rw [e, List.drop_succ_cons, List.drop_succ_cons, ← List.drop_drop, dAt_get h]
  have e2 : (List.drop 1 (List.drop (n * 7) (rowC Ls.cells D))).take 6 = ((List.drop (n * 7) (rowC Ls.cells D)).take 7).drop 1 := by rw [List.drop_take]
  rw [e2, h7]
  rfl
theorem over_two (a b : Value) (R us : List Value) (i : Nat) : over (a :: b :: R) (2 + i) us = a :: b :: over R i us := by
  have e : 2 + i + us.length = (i + us.length) + 1 + 1 := by omega
  have e2 : 2 + i = i + 1 + 1 := by omega
  unfold over
  rw [e, e2, List.take_succ_cons, List.take_succ_cons, List.drop_succ_cons, List.drop_succ_cons]
  rfl
theorem mc_set {D : List Ls} {n : Nat} (h : n < D.length) (a b : Value) (x : Ls) : over (a :: b :: rowC Ls.cells D) (2 + n * 7) x.cells = a :: b :: rowC Ls.cells (D.set n x) := by
  have := rowC_set Ls.len D n h x []
  rw [List.append_nil, List.append_nil] at this
  rw [over_two, this]
theorem mc_len (D : List Ls) (a b : Value) : (a :: b :: rowC Ls.cells D).length = 2 + D.length * 7 := by
  rw [List.length_cons, List.length_cons, rowC_length Ls.len]
  omega
theorem freshS_eq {z : Int} {l : List Pr} (c : Cm) (hz : z = 1 ∨ z = 2) (hk : 2 ≤ c.kind ∧ c.kind ≤ 5) (h5 : c.kind = 5 → z = 2) : freshS (decide (z = 2)) l c = doS z l c := by
  rw [doR_eq c hz hk h5]
  have hroom := roomB_iff (l := l) (n := kn c.key)
  have hq : revQ (decide (z = 2)) (findP l (kn c.key)).rev = prR z (findP l (kn c.key)) := by
    unfold revQ prR
    by_cases h : z = 2
    · rw [if_pos (by simpa using h), if_pos h]
    · rw [if_neg (by simpa using h), if_neg h]
  unfold freshS doR swapS setL
  rw [hq]
  by_cases k2 : c.kind = 2
  · rw [if_neg (show ¬ c.kind = 5 by omega)]
    by_cases hr : roomB l (kn c.key) = true
    · rw [if_neg (show ¬ (c.kind = 2 ∧ roomB l (kn c.key) = false) from fun h => by rw [hr] at h; cases h.2), if_pos k2, if_pos hr, if_pos k2, if_neg (hroom.1 hr)]
    · rw [if_pos (show c.kind = 2 ∧ roomB l (kn c.key) = false from ⟨k2, by simpa using hr⟩), if_pos k2]
      by_cases hx : hitG ksP l (kn c.key) = false ∧ 64 ≤ l.length
      · rw [if_pos hx]
      · exact absurd (hroom.2 hx) hr
  · by_cases k5 : c.kind = 5
    · rw [if_pos k5, if_neg k2, if_neg (show ¬ c.kind = 4 by omega), if_pos k5]
      by_cases hh : hitG ksP l (kn c.key) = false
      · rw [if_pos hh, if_pos hh]
      · rw [if_neg hh, if_neg hh, if_pos (roomB_hit (by simpa using hh))]
    · rw [if_neg k5, if_neg (show ¬ (c.kind = 2 ∧ roomB l (kn c.key) = false) from fun h => k2 h.1), if_neg k2, if_neg k2]
      by_cases k4 : c.kind = 4
      · rw [if_pos k4, if_pos k4]
      · rw [if_neg k4, if_neg k4, if_neg k5]
structure MachR (s : St) (D : List Ls) : Prop where
  len : D.length = 9
  ses : s.sess = sesK D 9
theorem StP.mapW {s : St} (h : StP s) : MapW s.pairs := by
  obtain ⟨-, h1, h2, -⟩ := stP_iff.1 h
  refine ⟨h2.2.1, fun x hx => ?_, h2.1, fun x hx => ?_⟩
  · obtain ⟨hk, hv⟩ := (h2.2.2 x hx).1
    have := keyB_size hk
    have := valB_size hv
    exact ⟨by omega, by omega⟩
  · have := (h2.2.2 x hx).2
    unfold RevOk at this
    omega
theorem verS_two {z : Int} (h : z = 1 ∨ z = 2) : verS z = z := by unfold verS; rcases h with rfl | rfl <;> rfl
theorem clientS_at {s : St} {D : List Ls} {c : Cm} {n : Nat} (hs : StP s) (hm : MachR s D) (hc : cmdI c = 0) (ho : 2 ≤ c.kind ∧ c.kind ≤ 5) (hn : c.client = (n : Nat)) :
    (c.seq = (dAt D n).seq → clientS s c = (s, (dAt D n).ans)) ∧
    (c.seq < (dAt D n).seq → clientS s c = (s, { ans0 c with err := 15 })) ∧
    (¬ c.seq = (dAt D n).seq → ¬ c.seq < (dAt D n).seq → (c.kind = 5 ∧ decide (s.schema = 2) = false → clientS s c = (s, { ans0 c with err := 14 })) ∧
      (¬ (c.kind = 5 ∧ decide (s.schema = 2) = false) → clientS s c = (⟨s.schema, (freshS (decide (s.schema = 2)) s.pairs c).1, withG ksS s.sess ⟨(n : Nat), c.seq, (freshS (decide (s.schema = 2)) s.pairs c).2⟩⟩, (freshS (decide (s.schema = 2)) s.pairs c).2))) := by
  obtain ⟨hses, hsch, hps, -⟩ := stP_iff.1 hs
  obtain ⟨hk, hown, hval⟩ := cmd_ok hc
  obtain ⟨hcl, hsq, hkey⟩ := hown ho
  have hlook := dAt_look (D := D) (k := 9) (c := n) (by omega)
  rw [← hm.ses, ← hn] at hlook
  have hw : whichS s.sess c.client c.seq = if (dAt D n).seq < c.seq then (0, zA) else if c.seq = (dAt D n).seq then (1, (dAt D n).ans) else (2, zA) := by
    unfold whichS
    rcases hlook with ⟨h1, h2, h3⟩ | ⟨h1, h2⟩
    · rw [h1, h3, if_neg (by simp)]
    · rw [h1, if_pos rfl, if_pos (by omega)]
  have hw0 : ¬ c.seq = (dAt D n).seq → ¬ c.seq < (dAt D n).seq → whichS s.sess c.client c.seq = (0, zA) := fun h1 h2 => by
    rw [hw, if_pos (show (dAt D n).seq < c.seq by omega)]
  have hw1 : c.seq = (dAt D n).seq → whichS s.sess c.client c.seq = (1, (dAt D n).ans) := fun h => by
    rw [hw, if_neg (show ¬ (dAt D n).seq < c.seq by omega), if_pos h]
  have hw2 : c.seq < (dAt D n).seq → whichS s.sess c.client c.seq = (2, zA) := fun h => by
    rw [hw, if_neg (show ¬ (dAt D n).seq < c.seq by omega), if_neg (show ¬ c.seq = (dAt D n).seq by omega)]
  unfold clientS
  rw [verS_two hsch]
  refine ⟨fun h => ?_, fun h => ?_, fun h1 h2 => ?_⟩
  · rw [hw1 h]; rfl
  · rw [hw2 h]; rfl
  · rw [hw0 h1 h2, if_neg (show ¬ ((0, zA) : Int × An).1 = 1 by decide), if_neg (show ¬ ((0, zA) : Int × An).1 = 2 by decide)]
    refine ⟨fun h => ?_, fun h => ?_⟩
    · have : s.schema ≠ 2 := by simpa using h.2
      rw [if_neg (fun hp => this (hp.2.2.2 h.1))]
    · have h5 : c.kind = 5 → s.schema = 2 := fun h5 => by
        cases hd : decide (s.schema = 2) with
        | true => simpa using hd
        | false => exact absurd ⟨h5, hd⟩ h
      rw [if_pos ⟨hsch, by omega, by omega, h5⟩, ← freshS_eq c hsch ho h5]
      have ha := (doS_ok c hsch hps hkey hval).2
      rw [← freshS_eq c hsch ho h5] at ha
      obtain ⟨a1, a2, -⟩ := ha
      unfold sesOf
      rw [a1, a2, hn]
abbrev mcV (kb : Nat) (act : Bool) (D : List Ls) : List Value := Value.map (some kb) :: Value.bool act :: rowC Ls.cells D
theorem mcAns {G : GH} {μ : OH} {mb kb : Nat} {act : Bool} {D : List Ls} {n : Nat} {e : TypeId} (h : n < D.length) (hb : Has μ mb (mcV kb act D) e) : CellsAt G μ ⟨mb, 2 + n * 7 + 1, none⟩ (dAt D n).ans.cells := by
  have := CellsAt.ownAt (G := G) (i := 2 + n * 7 + 1) (m := 6) hb
  rwa [mc_ans h] at this
set_option maxHeartbeats 4000000 in
theorem mclient_s {G : GH} {mb kb : Nat} {s : St} {D : List Ls} {oM : Obj} (c : Cm) (hs : StP s) (hm : MachR s D) (hM : MapP s.pairs oM) (hc : cmdI c = 0) (ho : 2 ≤ c.kind ∧ c.kind ≤ 5) (hv : c.val.size ≤ 200) :
    Con Tryd.prog 47 #[.pointer (some ⟨mb, 0, none⟩), .agg c.cells.toArray] G [(mb, mcO kb (decide (s.schema = 2)) D), (kb, oM)]
      (fun r G' μ' => G' = G ∧ ∃ b D' oM', r = .tuple [.agg (clientS s c).2.cells.toArray, .bool b].toArray ∧ MachR (clientS s c).1 D' ∧ MapP (clientS s c).1.pairs oM' ∧ (clientS s c).1.schema = s.schema ∧ μ' = [(mb, mcO kb (decide (s.schema = 2)) D'), (kb, oM')]) := by
  obtain ⟨hk8, hown, hval⟩ := cmd_ok hc
  obtain ⟨hcl, hsq, hkey⟩ := hown ho
  obtain ⟨n, hn⟩ : ∃ n : Nat, c.client = (n : Nat) := ⟨c.client.toNat, by omega⟩
  obtain ⟨k1, k2, k3⟩ := clientS_at hs hm hc ho hn
  have hks := keyB_size hkey
  have hfr := fun G => mfresh_s (G := G) (mb := mb) (kb := kb) (act := decide (s.schema = 2)) (D := D) c hs.mapW hM (by omega) hv
  have hlt : n < D.length := by rw [hm.len]; omega
  have hlen : (mcV kb (decide (s.schema = 2)) D).length = 65 := by rw [mc_len, hm.len]
  have hg1 := mc_seq hlt (Value.map (some kb)) (Value.bool (decide (s.schema = 2)))
  have hA := fun (G : GH) (μ : OH) (e : TypeId) (h : Has μ mb (mcV kb (decide (s.schema = 2)) D) e) => mcAns (G := G) hlt h
  have hg3 := fun x => mc_set hlt (Value.map (some kb)) (Value.bool (decide (s.schema = 2))) x
  have hmr : ∀ (x : Ls), 0 < x.seq → ∀ l, MachR ⟨s.schema, l, withG ksS s.sess ⟨(n : Nat), x.seq, x.ans⟩⟩ (D.set n x) := fun x hx l => ⟨by rw [List.length_set]; exact hm.len, by
    show withG ksS s.sess _ = _
    rw [sesK_set hlt hx, if_neg (by omega), hm.ses]⟩
  have hmset : ∀ x : Ls, dAt (D.set n x) n = x := fun x => by rw [dAt_set hlt, if_pos rfl]
  have hA2 := fun (x : Ls) (G : GH) (μ : OH) (e : TypeId) (h : Has μ mb (mcV kb (decide (s.schema = 2)) (D.set n x)) e) => mcAns (G := G) (n := n) (by rw [List.length_set]; exact hlt) h
  simp only [hmset] at hA2
  obtain ⟨kind, client, seq, key, val, old, node⟩ := c
  simp only at *
  subst hn
  generalize freshS (decide (s.schema = 2)) s.pairs ⟨kind, (n : Nat), seq, key, val, old, node⟩ = fs at *
  unfold ans0 at *
  simp only at *
  generalize clientS s ⟨kind, (n : Nat), seq, key, val, old, node⟩ = cs at *
  generalize decide (s.schema = 2) = act at *
  generalize dAt D n = x at *
  obtain ⟨xq, ⟨ac, aq, ae, af, av, ar⟩⟩ := x
  obtain ⟨l2, ⟨fc, fq, fe, ff, fv, fr⟩⟩ := fs
  simp only at *
  (refine v_enter Tryd.func47 rfl Tryd.ntmps47 rfl ?_; intro B _)
  repeat' (first | (apply v_box (d := 3) (zs := Cm.cells ⟨kind, (n : Nat), seq, key, val, old, node⟩); (case hx => rfl); (case hz => rfl); (case hd => rfl); intro b3) | (apply v_alloc (d := 4); (case hz => rfl); (case hd => rfl); intro b4) | apply v_seq | apply v_region | apply v_nil | (apply v_pure; (case hop => (apply p_assign <;> rfl)); (case hd => rfl)) | fail)
  refine d_start _ (by kernel_rfl) (by kernel_rfl) (by kernel_rfl) (fun _ he => he) ?_
  all_goals (apply dtk 0; (case hi => rfl); (case hop => (apply prd; apply p_move <;> rfl)); (case hq => kernel_rfl))
  all_goals (apply dtk 1; (case hi => rfl); (case hop => (apply prd; apply p_fieldAddrB <;> rfl)); (case hq => kernel_rfl))
  all_goals (apply dtk 2; (case hi => rfl); (case hop => first | (apply r_loadNo; (case hx => rfl); (case h => (repeat (fail))); (case hd => (repeat (fail))); (case hn => rfl)) | (apply r_load1; rfl; (apply Cell.own; (case h => (repeat (first | exact mhd _ | apply mtl))); rfl)) | (apply r_loadN; rfl; (apply CellsAt.own; (case h => (repeat (fail)))); rfl)); (case hq => kernel_rfl))
  all_goals (apply dtk 3; (case hi => rfl); (case hop => (apply prd; apply p_nilCheck <;> rfl)); (case hq => kernel_rfl))
  all_goals (apply dtk 4; (case hi => rfl); (case hop => (apply prd; apply p_fieldAddrB <;> rfl)); (case hq => kernel_rfl))
  all_goals (apply dtk 5; (case hi => rfl); (case hop => ((apply prd; apply p_indexAddrB (m := ((n : Nat) : Int)); (case hx => rfl); (case hi => rfl); (case h0 => omega); (case h => omega)))); (case hq => kernel_rfl))
  all_goals (apply dtk 6; (case hi => rfl); (case hop => (apply prd; apply p_assign <;> rfl)); (case hq => kernel_rfl))
  all_goals (apply d_done; (case hr => kernel_rfl))
  repeat' (first | (apply v_alloc (d := 7); (case hz => rfl); (case hd => rfl); intro b7) | apply v_seq | apply v_region | apply v_nil | apply v_block | (apply v_pure; (case hop => first | (apply p_fieldAddrB <;> rfl) | (apply p_build; (case hz => rfl); (case hv => (simp only [List.map_cons, List.map_nil]; repeat (first | with_reducible exact evs_nil | (apply evs_cons; (case h1 => rfl))))); (case hb => (apply bldL; repeat (first | exact bld_nil | (apply bld_cons; (case hpf => rfl); (case hc => rfl); (case hs => rfl); (case hl => rfl); (case ho => ((repeat (first | with_reducible exact ov_nil | apply ov_cons)); done))))))) | fail); (case hd => rfl)) | (apply v_read; (case hop => (apply r_load1; rfl; (apply Cell.own; (case h => (repeat (first | exact mhd _ | apply mtl))); rfl))); (case hd => rfl)) | (apply v_store; (case hp => rfl); (case hx => rfl); (case hc => rfl); (case hsz => rfl); (case h1 => rfl); (case hb => (repeat (exact mhd _))); (case hfit => exact nle rfl); (case hov => ((repeat (first | with_reducible exact ov_nil | apply ov_cons)); done)); (case hu => repeat (exact Upd.here _ _))) | fail)
  refine v_has (σ' := [(6, .pointer (some ⟨mb, 2 + n * 7, none⟩)), (7, .pointer (some ⟨b7, 0, none⟩)), (4, .pointer (some ⟨b4, 0, none⟩)), (3, .pointer (some ⟨b3, 0, none⟩)), (5, .bool false), (0, .pointer (some ⟨mb, 0, none⟩))]) ⟨rfl, rfl, rfl, rfl, rfl, rfl, trivial⟩ ?_
  refine d_start _ (by kernel_rfl) (by kernel_rfl) (by kernel_rfl) (fun _ he => he) ?_
  all_goals (apply dtk 0; (case hi => rfl); (case hop => (apply prd; apply p_fieldAddrB <;> rfl)); (case hq => kernel_rfl))
  all_goals (apply dtk 1; (case hi => rfl); (case hop => (apply r_load1; rfl; (apply Cell.own; (case h => (repeat (first | exact mhd _ | apply mtl))); rfl))); (case hq => kernel_rfl))
  all_goals (apply dtk 2; (case hi => rfl); (case hop => (apply prd; apply p_move <;> rfl)); (case hq => kernel_rfl))
  all_goals (apply dtk 3; (case hi => rfl); (case hop => (apply prd; apply p_nilCheck <;> rfl)); (case hq => kernel_rfl))
  all_goals (apply dtk 4; (case hi => rfl); (case hop => (apply prd; apply p_fieldAddrB <;> rfl)); (case hq => kernel_rfl))
  all_goals (apply dtk 5; (case hi => rfl); (case hop => ((apply r_load1; rfl; exact Cell.own (e := 69) (by repeat (first | exact mhd _ | apply mtl)) hg1))); (case hq => kernel_rfl))
  all_goals (apply dtk 6; (case hi => rfl); (case hop => (apply prd; apply p_eq <;> rfl)); (case hq => kernel_rfl))
  all_goals (apply dtk 7; (case hi => rfl); (case hop => (apply prd; apply p_assign <;> rfl)); (case hq => kernel_rfl))
  all_goals (apply d_done; (case hr => kernel_rfl))
  repeat' (first | apply v_seq | apply v_region | apply v_nil | (apply v_pure; (case hop => first | (apply p_move <;> rfl) | (apply p_assign <;> rfl) | (apply p_fieldAddrB <;> rfl) | (apply p_nilCheck <;> rfl) | fail); (case hd => rfl)) | (apply v_cond; (case hc => rfl); all_goals (intro h; (try simp only [reduceCtorEq, zzz] at h))) | (apply v_read; (case hop => (apply r_loadN; rfl; exact hA _ _ 69 (by repeat (first | exact mhd _ | apply mtl)); rfl)); (case hd => rfl)) | (apply v_store; (case hp => rfl); (case hx => rfl); (case hc => rfl); (case hsz => rfl); (case h1 => rfl); (case hb => (repeat (first | exact mhd _ | apply mtl))); (case hfit => exact nle rfl); (case hov => ((repeat (first | with_reducible exact ov_nil | apply ov_cons)); done)); (case hu => repeat (first | exact Upd.here _ _ | apply Upd.there))) | fail)
  · rw [k1 (by assumption)]
    refine v_retM [(mb, mcO kb act D), (kb, oM)] (outsM_cell_tmp (sz := 6) (vs := [.int .i64 ac, .int .i64 aq, .int .i64 ae, .bool af, .string av, .int .i64 ar]) (e := 29) rfl rfl rfl (by repeat (first | exact mhd _ | apply mtl)) rfl) (by repeat (first | exact List.Sublist.refl _ | apply List.Sublist.cons)) ⟨rfl, false, D, oM, rfl, hm, hM, rfl, rfl⟩
  · have hne : ¬ seq = xq := by assumption
    refine d_start _ (by kernel_rfl) (by kernel_rfl) (by kernel_rfl) (fun _ he => he) ?_
    all_goals (apply dtk 0; (case hi => rfl); (case hop => (apply prd; apply p_fieldAddrB <;> rfl)); (case hq => kernel_rfl))
    all_goals (apply dtk 1; (case hi => rfl); (case hop => (apply r_load1; rfl; (apply Cell.own; (case h => (repeat (first | exact mhd _ | apply mtl))); rfl))); (case hq => kernel_rfl))
    all_goals (apply dtk 2; (case hi => rfl); (case hop => (apply prd; apply p_move <;> rfl)); (case hq => kernel_rfl))
    all_goals (apply dtk 3; (case hi => rfl); (case hop => (apply prd; apply p_nilCheck <;> rfl)); (case hq => kernel_rfl))
    all_goals (apply dtk 4; (case hi => rfl); (case hop => (apply prd; apply p_fieldAddrB <;> rfl)); (case hq => kernel_rfl))
    all_goals (apply dtk 5; (case hi => rfl); (case hop => ((apply r_load1; rfl; exact Cell.own (e := 69) (by repeat (first | exact mhd _ | apply mtl)) hg1))); (case hq => kernel_rfl))
    all_goals (apply dtk 6; (case hi => rfl); (case hop => (apply prd; apply p_lt <;> rfl)); (case hq => kernel_rfl))
    all_goals (apply dtk 7; (case hi => rfl); (case hop => (apply prd; apply p_assign <;> rfl)); (case hq => kernel_rfl))
    all_goals (apply d_done; (case hr => kernel_rfl))
    repeat' (first | (apply v_read; (case hop => (apply r_loadNo; (case hx => rfl); (case h => repeat (exact mhd _)); (case hd => rfl); (case hn => rfl))); (case hd => rfl)) | apply v_seq | apply v_region | apply v_nil | apply v_skip | apply v_blk | (apply v_take; (case hg => rfl)) | (apply v_pass; (case hg => rfl); (case hn => rfl); (case hd => rfl)) | (apply v_pure; (case hop => first | (apply p_move <;> rfl) | (apply p_eq <;> rfl) | (apply p_assign <;> rfl) | (apply p_pickT <;> rfl) | (apply p_pickF <;> rfl) | (apply p_not <;> rfl) | (apply p_fieldAddrB <;> rfl) | (apply p_nilCheck <;> rfl) | fail); (case hd => rfl)) | (apply v_condF; (case hc => rfl)) | (apply v_cond; (case hc => rfl); all_goals (intro h; (try simp only [reduceCtorEq, zzz] at h))) | (apply v_guardB; (case h1 => rfl); (case h2 => rfl); all_goals (intro h; (try simp only [reduceCtorEq, zzz] at h))) | (apply v_read; (case hop => (apply r_load1; rfl; (apply Cell.own; (case h => (repeat (first | exact mhd _ | apply mtl))); rfl))); (case hd => rfl)) | (apply v_store; (case hp => rfl); (case hx => rfl); (case hc => rfl); (case hsz => rfl); (case h1 => rfl); (case hb => (repeat (first | exact mhd _ | apply mtl))); (case hfit => exact nle rfl); (case hov => (first | ((repeat (first | with_reducible exact ov_nil | apply ov_cons)); done) | rfl)); (case hu => repeat (first | exact Upd.here _ _ | apply Upd.there))) | fail)
    · rw [k2 (by assumption)]
      refine v_retM [(mb, mcO kb act D), (kb, oM)] (outsM_cell_tmp (sz := 6) (vs := [.int .i64 (n : Nat), .int .i64 seq, .int .i64 15, .bool false, .string ByteArray.empty, .int .i64 0]) (e := 29) rfl rfl rfl (by repeat (first | exact mhd _ | apply mtl)) rfl) (by repeat (first | exact List.Sublist.refl _ | apply List.Sublist.cons)) ⟨rfl, false, D, oM, rfl, hm, hM, rfl, rfl⟩
    all_goals have hlt2 : ¬ seq < xq := by assumption
    all_goals obtain ⟨k4, k5⟩ := k3 hne hlt2
    · rw [k4 ⟨by assumption, by assumption⟩]
      refine v_retM [(mb, mcO kb act D), (kb, oM)] (outsM_cell_tmp (sz := 6) (vs := [.int .i64 (n : Nat), .int .i64 seq, .int .i64 14, .bool false, .string ByteArray.empty, .int .i64 0]) (e := 29) rfl rfl rfl (by repeat (first | exact mhd _ | apply mtl)) rfl) (by repeat (first | exact List.Sublist.refl _ | apply List.Sublist.cons)) ⟨rfl, false, D, oM, rfl, hm, hM, rfl, rfl⟩
    all_goals
      (have hcs := k5 (fun h => by first | exact absurd h.1 (by assumption) | (have h2 := h.2; simp_all; done))
       clear k1 k2 k3 k4 k5
       rw [hcs]
       refine v_has (σ' := [(6, .pointer (some ⟨mb, 2 + n * 7, none⟩)), (4, .pointer (some ⟨b4, 0, none⟩)), (3, .pointer (some ⟨b3, 0, none⟩)), (0, .pointer (some ⟨mb, 0, none⟩))]) ⟨rfl, rfl, rfl, rfl, trivial⟩ ?_
       refine d_start [(b7, .cells [.int .i64 (n : Nat), .int .i64 seq, .int .i64 0, .bool false, .string ByteArray.empty, .int .i64 0].toArray 29 (0, 0)), (b4, .cells [.int .i64 0, .int .i64 0, .int .i64 0, .bool false, .string ByteArray.empty, .int .i64 0].toArray 29 (0, 0)), (b3, .cells (Cm.cells ⟨kind, (n : Nat), seq, key, val, old, node⟩).toArray 32 (0, 0))] (by kernel_rfl) (by kernel_rfl) (by kernel_rfl) (by intro e he; (simp only [List.mem_cons, List.not_mem_nil, or_false] at he; rcases he with rfl | rfl | rfl <;> simp; done)) ?_
       all_goals (apply dtk 0; (case hi => rfl); (case hop => (apply prd; apply p_move <;> rfl)); (case hq => kernel_rfl))
       all_goals (apply dtk 1; (case hi => rfl); (case hop => (apply prd; apply p_fieldAddrB <;> rfl)); (case hq => kernel_rfl))
       all_goals (apply dtk 2; (case hi => rfl); (case hop => first | (apply r_loadNo; (case hx => rfl); (case h => (repeat (fail))); (case hd => (repeat (fail))); (case hn => rfl)) | (apply r_load1; rfl; (apply Cell.own; (case h => (repeat (first | exact mhd _ | apply mtl))); rfl)) | (apply r_loadN; rfl; (apply CellsAt.own; (case h => (repeat (fail)))); rfl)); (case hq => kernel_rfl))
       all_goals (apply dtk 3; (case hi => rfl); (case hop => (apply prd; apply p_move <;> rfl)); (case hq => kernel_rfl))
       all_goals (apply dtk 4; (case hi => rfl); (case hop => first | (apply r_loadNo; (case hx => rfl); (case h => (repeat (first | exact mhd _ | apply mtl))); (case hd => (repeat (first | with_reducible exact dt_nil | apply dt_here))); (case hn => rfl)) | (apply r_load1; rfl; (apply Cell.own; (case h => (repeat (fail))); rfl)) | (apply r_loadN; rfl; (apply CellsAt.own; (case h => (repeat (fail)))); rfl)); (case hq => kernel_rfl))
       all_goals ((apply d_call 5 (hs := hfr _) (μ1 := [(mb, mcO kb act D), (kb, oM)]) (μ2 := [(b7, .cells [.int .i64 (n : Nat), .int .i64 seq, .int .i64 0, .bool false, .string ByteArray.empty, .int .i64 0].toArray 29 (0, 0)), (b4, .cells [.int .i64 0, .int .i64 0, .int .i64 0, .bool false, .string ByteArray.empty, .int .i64 0].toArray 29 (0, 0)), (b3, .cells (Cm.cells ⟨kind, (n : Nat), seq, key, val, old, node⟩).toArray 32 (0, 0))]); (case hi => rfl); (case hr => kernel_rfl);  (case ha => rfl); (case hp => exact (by apply perm_of_count; intro p; simp only [List.append_eq, List.countP_append, List.countP_cons, List.countP_nil, Nat.zero_add, Nat.add_zero]; try ac_rfl)); (case hd => rfl); (case hν' => intro e he; exact he); rintro _ G1 _ - ⟨hG1, rfl, oM2, hM2, rfl⟩; subst G1))
       all_goals (apply dtk 6; (case hi => rfl); (case hop => (apply prd; apply p_build; (case hz => rfl); (case hv => (simp only [List.map_cons, List.map_nil]; repeat (first | with_reducible exact evs_nil | (apply evs_cons; (case h1 => rfl))))); (case hb => (apply bldL; repeat (first | exact bld_nil | (apply bld_cons; (case hpf => rfl); (case hc => rfl); (case hs => rfl); (case hl => rfl); (case ho => ((repeat (first | with_reducible exact ov_nil | apply ov_cons)); done)))))))); (case hq => kernel_rfl))
       all_goals (apply dtk 7; (case hi => rfl); (case hop => (apply prd; apply p_nilCheck <;> rfl)); (case hq => kernel_rfl))
       all_goals ((apply d_store 8; (case hi => rfl); (case hr => kernel_rfl);  (case hL => infer_instance); (case hp => rfl); (case hx => rfl); (case hc => rfl); (case hsz => rfl); (case h1 => rfl); (case hb => exact (List.Mem.head _ : Has _ mb (mcV kb act D) 69)); (case hfit => show 2 + n * 7 + 7 ≤ (mcV kb act D).length; rw [hlen]; omega); (case hov => exact hg3 ⟨seq, ⟨fc, fq, fe, ff, fv, fr⟩⟩); (case hu => exact Upd.here _ _); (case hν' => exact fun e he => List.mem_cons_of_mem _ (List.mem_cons_of_mem _ he))))
       all_goals (apply d_done; (case hr => kernel_rfl))
       repeat' (first | apply v_seq | apply v_region | apply v_nil | (apply v_pure; (case hop => first | (apply p_move <;> rfl) | (apply p_assign <;> rfl) | (apply p_fieldAddrB <;> rfl) | (apply p_nilCheck <;> rfl) | fail); (case hd => rfl)) | (apply v_read; (case hop => (apply r_loadN; rfl; exact hA2 ⟨seq, ⟨fc, fq, fe, ff, fv, fr⟩⟩ _ _ 69 (by repeat (exact mhd _)); rfl)); (case hd => rfl)) | (apply v_store; (case hp => rfl); (case hx => rfl); (case hc => rfl); (case hsz => rfl); (case h1 => rfl); (case hb => (repeat (first | exact mhd _ | apply mtl))); (case hfit => exact nle rfl); (case hov => ((repeat (first | with_reducible exact ov_nil | apply ov_cons)); done)); (case hu => repeat (first | exact Upd.here _ _ | apply Upd.there))) | fail)
       refine v_retM [(mb, mcO kb act (D.set n ⟨seq, ⟨fc, fq, fe, ff, fv, fr⟩⟩)), (kb, oM2)] (outsM_cell_tmp (sz := 6) (vs := [.int .i64 fc, .int .i64 fq, .int .i64 fe, .bool ff, .string fv, .int .i64 fr]) (e := 29) rfl rfl rfl (by repeat (first | exact mhd _ | apply mtl)) rfl) (by repeat (first | exact List.nil_sublist _ | apply List.Sublist.cons_cons)) ⟨rfl, true, _, oM2, rfl, hmr ⟨seq, ⟨fc, fq, fe, ff, fv, fr⟩⟩ (by show 0 < seq; omega) l2, hM2, rfl, rfl⟩)
section
attribute [local semireducible] Vc DVc Con PureOp ReadOp MoveOp
theorem d_fork3 {P : Program} {fn : Func} {n : Nat} {B : Base} {Φ : Value → GH → OH → Prop} {k : List It} {σ : Env} {G G0 : GH} {μ : OH} {all : Array Oper} {m : Nat} {listed : Array Bool} {ν : OH} (i j l : Nat) (hr : Region.ready .any all listed = [i, j, l]) (h1 : DX P fn n B Φ all G0 ν m listed k σ G μ i) (h2 : DX P fn n B Φ all G0 ν m listed k σ G μ j) (h3 : DX P fn n B Φ all G0 ν m listed k σ G μ l) : DVc P fn n B Φ all G0 ν (m + 1) listed k σ G μ := by
  intro hsel hle hν w hw a ha
  refine wpAnyH_all hr (by simp) fun x hx => ?_
  simp only [List.mem_cons, List.mem_singleton, List.not_mem_nil, or_false] at hx
  obtain rfl | rfl | rfl := hx
  · exact h1 hsel hle hν w hw a ha
  · exact h2 hsel hle hν w hw a ha
  · exact h3 hsel hle hν w hw a ha
end
theorem applyS_err (s : St) (c : Cm) : (applyS s c).2.2 = cmdI c := by
  unfold applyS
  by_cases h : cmdI c = 0
  · rw [if_neg (by simp [h]), h]
    (repeat' split) <;> rfl
  · rw [if_pos h]
end Go.Proofs.YtmdeeokejdkceaaDoor
/-
  spec (layer 29): activate; Do.
-/
set_option linter.unusedSimpArgs false
set_option linter.unusedVariables false
namespace Go.Proofs.YtmdeeokejdkceaaDoor
open Go.Vx Go.ChangeShapes Go.WideShapes Go.ChangeAt Go.RowKit
open Classical in
noncomputable def actL (L : List Pr) (left : List ByteArray) : List Pr := L.map fun p => if p.key ∈ left then p else revOf 1 p
theorem actL_keys (L : List Pr) (left : List ByteArray) : (actL L left).map (·.key) = L.map (·.key) := by
  unfold actL
  rw [List.map_map]
  refine List.map_congr_left fun p _ => ?_
  simp only [Function.comp_apply]
  split <;> rfl
theorem actL_all (L : List Pr) : actL L (L.map (·.key)) = L := by
  unfold actL
  conv => rhs; rw [← List.map_id L]
  refine List.map_congr_left fun p hp => ?_
  rw [if_pos (List.mem_map.2 ⟨p, hp, rfl⟩)]
  rfl
theorem actL_none (L : List Pr) : actL L [] = L.map (revOf 1) := by
  unfold actL
  refine List.map_congr_left fun p hp => ?_
  rw [if_neg (by simp)]
theorem key_uniq {L : List Pr} (hn : (L.map (·.key)).Nodup) {p q : Pr} (hp : p ∈ L) (hq : q ∈ L) (e : p.key = q.key) : p = q := by
  obtain ⟨i, hi, rfl⟩ := List.getElem_of_mem hp
  obtain ⟨j, hj, rfl⟩ := List.getElem_of_mem hq
  have h := List.pairwise_iff_getElem.1 hn
  rcases Nat.lt_trichotomy i j with hlt | rfl | hlt
  · exact absurd (by rw [List.getElem_map, List.getElem_map]; exact e) (h i j (by simpa using hi) (by simpa using hj) hlt)
  · rfl
  · exact absurd (by rw [List.getElem_map, List.getElem_map]; exact e.symm) (h j i (by simpa using hj) (by simpa using hi) hlt)
theorem act_step {L : List Pr} (hn : (L.map (·.key)).Nodup) {left : List ByteArray} {a : ByteArray} (ha : a ∈ left) {u : Value} (hu : (a, u) ∈ (actL L left).map prE) :
    ∃ p : Pr, u = .agg #[.string p.val, .int .i64 p.rev] ∧ mput ((actL L left).map prE) a (.agg #[.string p.val, .int .i64 1]) = (actL L (left.filter fun z => decide (z ≠ a))).map prE := by
  obtain ⟨q, hq, e⟩ := List.mem_map.1 hu
  obtain ⟨p, hp, e2⟩ := List.mem_map.1 hq
  have hk : q.key = a := congrArg Prod.fst e
  have hpk : p.key = a := by
    rw [← hk, ← e2]
    split <;> rfl
  rw [if_pos (by rw [hpk]; exact ha)] at e2
  subst e2
  refine ⟨p, (congrArg Prod.snd e).symm, ?_⟩
  have hin : a ∈ ((actL L left).map prE).map (·.1) := by
    rw [prE_keys, actL_keys]
    exact List.mem_map.2 ⟨p, hp, hpk⟩
  unfold mput
  rw [if_pos hin]
  unfold actL
  rw [List.map_map, List.map_map, List.map_map]
  refine List.map_congr_left fun x hx => ?_
  simp only [Function.comp_apply]
  by_cases hxa : x.key = a
  · have hxp : x = p := key_uniq hn hx hp (by rw [hxa, hpk])
    subst hxp
    have h1 : x.key ∈ left := by rw [hxa]; exact ha
    have h2 : x.key ∉ left.filter fun z => decide (z ≠ a) := by rw [hxa]; simp
    rw [if_pos h1, if_neg h2, if_pos (show (prE x).1 = a from hxa)]
    subst hxa
    rfl
  · have hne : ∀ y : Pr, y.key = x.key → ¬ (prE y).1 = a := fun y hy h => hxa (by rw [← hy]; exact h)
    by_cases h1 : x.key ∈ left
    · have h2 : x.key ∈ left.filter fun z => decide (z ≠ a) := List.mem_filter.2 ⟨h1, by simpa using hxa⟩
      rw [if_pos h1, if_pos h2, if_neg (hne x rfl)]
    · have h2 : x.key ∉ left.filter fun z => decide (z ≠ a) := fun h => h1 (List.mem_filter.1 h).1
      rw [if_neg h1, if_neg h2, if_neg (hne (revOf 1 x) rfl)]
theorem mact_s {G : GH} {mb kb : Nat} {act : Bool} {D : List Ls} {oM : Obj} {l : List Pr} (hw : MapW l) (hM : MapP l oM) :
    Con Tryd.prog 48 #[.pointer (some ⟨mb, 0, none⟩)] G [(mb, mcO kb act D), (kb, oM)] (fun r G' μ' => G' = G ∧ r = .tuple #[] ∧ ∃ oM', MapP (if act = true then l else l.map (revOf 1)) oM' ∧ μ' = [(mb, mcO kb true D), (kb, oM')]) := by
  cases act with
  | true =>
    (refine v_enter Tryd.func48 rfl Tryd.ntmps48 rfl ?_; intro B _)
    repeat' (first | apply v_seq | apply v_region | apply v_nil | (apply v_pure; (case hop => first | (apply p_move <;> rfl) | (apply p_fieldAddrB <;> rfl) | (apply p_nilCheck <;> rfl) | fail); (case hd => rfl)) | (apply v_condT; (case hc => rfl)) | (apply v_read; (case hop => (apply r_load1; rfl; (apply Cell.own; (case h => (repeat (exact mhd _))); rfl))); (case hd => rfl)) | fail)
    exact v_ret [(mb, mcO kb true D), (kb, oM)] (outsA0 rfl) (List.Sublist.refl _) ⟨rfl, rfl, oM, hM, rfl⟩
  | false =>
    obtain ⟨L, hp, hMB⟩ := id hM
    have hnd := keys_nodup hp hw.1 hw.2.1
    have hall := actL_all L
    rw [if_neg (by simp)]
    (refine v_enter Tryd.func48 rfl Tryd.ntmps48 rfl ?_; intro B _)
    repeat' (first | apply v_seq | apply v_region | apply v_nil | apply v_skip | apply v_block | (apply v_pure; (case hop => first | (apply p_move <;> rfl) | (apply p_fieldAddrB <;> rfl) | (apply p_nilCheck <;> rfl) | fail); (case hd => rfl)) | (apply v_condF; (case hc => rfl)) | (apply v_rangeM (hb := (by repeat (first | exact mhd _ | apply mtl))) (hM := hMB); (case hx => rfl); (case hd => rfl); intro it oI hI) | (apply v_read; (case hop => (apply r_load1; rfl; (apply Cell.own; (case h => (repeat (exact mhd _))); rfl))); (case hd => rfl)) | (apply v_store; (case hp => rfl); (case hx => rfl); (case hc => rfl); (case hsz => rfl); (case h1 => rfl); (case hb => (repeat (exact mhd _))); (case hfit => exact nle rfl); (case hov => ((repeat (first | with_reducible exact ov_nil | apply ov_cons)); done)); (case hu => repeat (exact Upd.here _ _))) | fail)
    rw [prE_keys] at hI
    refine v_loopI (ι := List ByteArray) [15, 0] (fun left vs G' μ' => G' = G ∧ ∃ oM oI, IterB keyS kb ((actL L left).map prE) left oM oI ∧ left.Nodup ∧ vs = [.pointer (some ⟨it, 0, none⟩), .pointer (some ⟨mb, 0, none⟩)] ∧ μ' = [(it, oI), (mb, mcO kb true D), (kb, oM)]) (fun left => left.length) rfl (L.map (·.key)) ⟨rfl, oM, oI, by rw [hall]; exact hI, hnd, rfl, rfl⟩ ?_
    rintro left vs G' _ ⟨hG', oM1, oI1, hI1, hn1, rfl, rfl⟩
    subst G'
    have hMB1 := hI1.map
    repeat' (first | apply v_seq | apply v_region | (apply v_nextM (k := 9) (hb := (by repeat (first | exact mhd _ | apply mtl))) (hI := hI1); (case hx => rfl); (case hp => exact List.Perm.refl _); (case hd => rfl)) | fail)
    · intro h0
      subst h0
      repeat' (first | apply v_seq | apply v_nil | (apply v_exit; (case hp => rfl)) | (apply v_pure; (case hop => (apply p_extract0 <;> rfl)); (case hd => rfl)) | (apply v_condF; (case hc => rfl)) | fail)
      rw [actL_none] at hMB1
      refine v_perm (ν := [(mb, mcO kb true D), (kb, oM1), (it, oI1)]) (by apply perm_of_count; intro p; simp only [List.append_eq, List.countP_append, List.countP_cons, List.countP_nil, Nat.zero_add, Nat.add_zero]; try ac_rfl) ?_
      exact v_end [(mb, mcO kb true D), (kb, oM1)] (outsA0 rfl) (by repeat (first | exact List.nil_sublist _ | apply List.Sublist.cons_cons)) ⟨rfl, rfl, oM1, ⟨L.map (revOf 1), hp.map _, hMB1⟩, rfl⟩
    · intro a u oI2 ha hau hI2 hE
      obtain ⟨p, rfl, hput⟩ := act_step hnd ha hau
      repeat' (first | (apply v_alloc (d := 3); (case hz => rfl); (case hd => rfl); intro b3) | apply v_seq | apply v_region | apply v_nil | apply v_skip | apply v_block | (apply v_pure; (case hop => first | (apply p_assign <;> rfl) | (apply p_fieldAddrB <;> rfl) | (apply p_extract0 <;> rfl) | (apply p_extract1 <;> rfl) | fail); (case hd => rfl)) | (apply v_condT; (case hc => rfl)) | (apply v_read; (case hop => apply r_entry (hE := hE); (case hx => rfl); (case hi => (repeat (exact mhd _))); (case hb => (repeat (first | exact mhd _ | apply mtl)))); (case hd => rfl)) | (apply v_store; (case hp => rfl); (case hx => rfl); (case hc => rfl); (case hsz => rfl); (case h1 => rfl); (case hb => (repeat (exact mhd _))); (case hfit => exact nle rfl); (case hov => ((repeat (first | with_reducible exact ov_nil | apply ov_cons)); done)); (case hu => repeat (exact Upd.here _ _))) | fail)
      refine v_has (σ' := [(2, keyS a), (3, .pointer (some ⟨b3, 0, none⟩)), (15, .pointer (some ⟨it, 0, none⟩)), (0, .pointer (some ⟨mb, 0, none⟩))]) ⟨rfl, rfl, rfl, rfl, trivial⟩ ?_
      refine d_start [(b3, .cells [.string p.val, .int .i64 1].toArray 83 (0, 0)), (it, oI2), (mb, mcO kb true D)] (by kernel_rfl) (by kernel_rfl) (by kernel_rfl) (by intro e he; (simp only [List.mem_cons, List.not_mem_nil, or_false] at he; rcases he with rfl | rfl | rfl <;> simp; done)) ?_
      all_goals (apply dtk 0; (case hi => rfl); (case hop => (apply prd; apply p_move <;> rfl)); (case hq => kernel_rfl))
      all_goals (apply dtk 1; (case hi => rfl); (case hop => (apply prd; apply p_nilCheck <;> rfl)); (case hq => kernel_rfl))
      all_goals (apply dtk 2; (case hi => rfl); (case hop => (apply prd; apply p_fieldAddrB <;> rfl)); (case hq => kernel_rfl))
      all_goals (apply dtk 3; (case hi => rfl); (case hop => first | (apply r_loadNo; (case hx => rfl); (case h => (repeat (fail))); (case hd => (repeat (fail))); (case hn => rfl)) | (apply r_load1; rfl; (apply Cell.own; (case h => (repeat (first | exact mhd _ | apply mtl))); rfl)) | (apply r_loadN; rfl; (apply CellsAt.own; (case h => (repeat (fail)))); rfl)); (case hq => kernel_rfl))
      all_goals (apply dtk 4; (case hi => rfl); (case hop => (apply prd; apply p_move <;> rfl)); (case hq => kernel_rfl))
      all_goals (apply dtk 5; (case hi => rfl); (case hop => first | (apply r_loadNo; (case hx => rfl); (case h => (repeat (exact mhd _))); (case hd => (repeat (first | with_reducible exact dt_nil | apply dt_here))); (case hn => rfl)) | (apply r_load1; rfl; (apply Cell.own; (case h => (repeat (fail))); rfl)) | (apply r_loadN; rfl; (apply CellsAt.own; (case h => (repeat (fail)))); rfl)); (case hq => kernel_rfl))
      all_goals ((apply d_exec0 6; (case hi => rfl); (case hr => kernel_rfl);  (case hop => exact m_mapUpdate (k := 9) (mk := keyS) a rfl rfl rfl (PickA.perm (ν := [(kb, oM1)]) (by repeat (first | exact PickA.last | apply PickA.cons))) hMB1); rintro _ G4 _ ⟨oM2, hM2, hK2, hG4, rfl⟩; subst G4; refine ⟨(by intro e he; simp only [List.mem_cons, List.not_mem_nil, or_false] at he; rcases he with rfl | rfl | rfl <;> simp), ?_⟩))
      all_goals (apply d_done; (case hr => kernel_rfl))
      have hI3 := hK2 _ _ _ (List.mem_map.2 ⟨_, hau, rfl⟩) hI2
      rw [hput] at hI3
      repeat' (first | apply v_blk)
      refine v_perm (ν := [(it, oI2), (mb, mcO kb true D), (kb, oM2), (b3, _)]) (by apply perm_of_count; intro p; simp only [List.append_eq, List.countP_append, List.countP_cons, List.countP_nil, Nat.zero_add, Nat.add_zero]; try ac_rfl) ?_
      refine v_drop (ν := [(it, oI2), (mb, mcO kb true D), (kb, oM2)]) (by repeat (first | exact List.nil_sublist _ | apply List.Sublist.cons_cons)) ?_
      refine v_againI (left.filter fun z => decide (z ≠ a)) rfl ⟨rfl, oM2, oI2, hI3, hn1.sublist List.filter_sublist, rfl, rfl⟩ ?_
      have : (left.filter fun z => decide (z ≠ a)).length < left.length := by
        refine List.length_filter_lt_length_iff_exists.2 ⟨a, ha, by simp⟩
      exact this
noncomputable def specS (s : St) (c : Cm) : St × An := if cmdI c ≠ 0 then (s, zA) else ((applyS s c).1, (applyS s c).2.1)
theorem MachR.same {s t : St} {D : List Ls} (h : MachR s D) (e : t.sess = s.sess) : MachR t D := ⟨h.len, by rw [e]; exact h.ses⟩
theorem specS_ok {s : St} {c : Cm} (h : StP s) : StP (specS s c).1 := by
  unfold specS
  by_cases h0 : cmdI c = 0
  · rw [if_neg (by simp [h0])]
    exact (applyS_ok h (by rw [applyS_err]; exact h0)).1
  · rw [if_pos h0]
    exact h
set_option maxHeartbeats 2000000 in
theorem mstep_s {G : GH} (hT : TabsG G) {mb kb : Nat} {s : St} {D : List Ls} {oM : Obj} (c : Cm) (hs : StP s) (hm : MachR s D) (hM : MapP s.pairs oM) (hc : c.ok) (hv : c.val.size ≤ 200) :
    Con Tryd.prog 28 #[.pointer (some ⟨mb, 0, none⟩), .agg c.cells.toArray] G [(mb, mcO kb (decide (s.schema = 2)) D), (kb, oM)]
      (fun r G' μ' => ∃ b D' oM', r = .tuple [.agg (specS s c).2.cells.toArray, .bool b].toArray ∧ MachR (specS s c).1 D' ∧ MapP (specS s c).1.pairs oM' ∧ μ' = [(mb, mcO kb (decide ((specS s c).1.schema = 2)) D'), (kb, oM')]) := by
  have qc := cmdCheck_s hT c hc
  have qo := fun G => cmdOwned_s G c
  have qk := fun (G : GH) h0 ho => mclient_s (G := G) (mb := mb) (kb := kb) c hs hm hM h0 ho hv
  have qa := fun (G : GH) => mact_s (G := G) (mb := mb) (kb := kb) (act := decide (s.schema = 2)) (D := D) hs.mapW hM
  have hsch : s.schema = 1 ∨ s.schema = 2 := (stP_iff.1 hs).2.1
  unfold specS applyS
  obtain ⟨kind, client, seq, key, val, old, node⟩ := c
  generalize cmdI ⟨kind, client, seq, key, val, old, node⟩ = ci at *
  generalize clientS s ⟨kind, client, seq, key, val, old, node⟩ = cs at *
  simp only at *
  (refine v_enter Tryd.func28 rfl Tryd.ntmps28 rfl ?_; intro B _)
  repeat' (first | (apply v_box (d := 3) (zs := Cm.cells ⟨kind, client, seq, key, val, old, node⟩); (case hx => rfl); (case hz => rfl); (case hd => rfl); intro b3) | (apply v_alloc (d := 4); (case hz => rfl); (case hd => rfl); intro b4) | (apply v_read; (case hop => (apply r_loadNo; (case hx => rfl); (case h => repeat (first | exact mhd _ | apply mtl)); (case hd => rfl); (case hn => rfl))); (case hd => rfl)) | apply v_seq | apply v_region | apply v_nil | apply v_block | (apply v_take; (case hg => rfl)) | (apply v_pure; (case hop => first | (apply p_move <;> rfl) | (apply p_assign <;> rfl) | (apply p_eqNil <;> rfl) | fail); (case hd => rfl)) | fail)
  refine v_call (μ1 := []) rfl qc (List.Perm.refl _) rfl ?_
  rintro _ G1 _ hle1 ⟨rfl, rfl⟩
  by_cases h0 : ci = 0
  · subst h0
    rw [if_neg (by simp), if_neg (by simp)]
    repeat' (first | (apply v_read; (case hop => (apply r_loadNo; (case hx => rfl); (case h => repeat (first | exact mhd _ | apply mtl)); (case hd => rfl); (case hn => rfl))); (case hd => rfl)) | apply v_seq | apply v_region | apply v_nil | apply v_skip | apply v_blk | (apply v_take; (case hg => rfl)) | (apply v_pure; (case hop => first | (apply p_move <;> rfl) | (apply p_nes <;> rfl) | (apply p_eq <;> rfl) | (apply p_assign <;> rfl) | (apply p_pickF <;> rfl) | (apply p_fieldAddrB <;> rfl) | (apply p_build; (case hz => rfl); (case hv => (simp only [List.map_cons, List.map_nil]; repeat (with_reducible exact evs_nil))); (case hb => (apply bldL; repeat (exact bld_nil)))) | fail); (case hd => rfl)) | (apply v_condF; (case hc => rfl)) | (apply v_cond; (case hc => rfl); all_goals (intro h; (try simp only [reduceCtorEq, zzz] at h))) | (apply v_callJ (hs := qo _); (case ha => rfl); (case hd => rfl)) | (apply v_read; (case hop => (apply r_load1; rfl; (apply Cell.own; (case h => (repeat (first | exact mhd _ | apply mtl))); rfl))); (case hd => rfl)) | (apply v_store; (case hp => rfl); (case hx => rfl); (case hc => rfl); (case hsz => rfl); (case h1 => rfl); (case hb => (repeat (exact mhd _))); (case hfit => exact nle rfl); (case hov => ((repeat (first | with_reducible exact ov_nil | apply ov_cons)); done)); (case hu => repeat (exact Upd.here _ _))) | fail)
    · have ho : 2 ≤ kind ∧ kind ≤ 5 := by assumption
      rw [if_pos ho]
      refine v_call (μ1 := [(mb, mcO kb (decide (s.schema = 2)) D), (kb, oM)]) rfl (qk _ rfl ho) (PickA.perm (by repeat (first | exact PickA.last | apply PickA.cons))) rfl ?_
      rintro _ G2 _ - ⟨hG2, b, D2, oM2, rfl, hm2, hM2, hz2, rfl⟩
      subst G2
      obtain ⟨s2, ⟨ac, aq, ae, af, av, ar⟩⟩ := cs
      simp only at hz2 hm2 hM2
      repeat' (first | apply v_nil | (apply v_pure; (case hop => first | (apply p_assign <;> rfl) | (apply p_extract0 <;> rfl) | (apply p_extract1 <;> rfl) | fail); (case hd => rfl)) | (apply v_store; (case hp => rfl); (case hx => rfl); (case hc => rfl); (case hsz => rfl); (case h1 => rfl); (case hb => (repeat (first | exact mhd _ | apply mtl))); (case hfit => exact nle rfl); (case hov => ((repeat (first | with_reducible exact ov_nil | apply ov_cons)); done)); (case hu => repeat (first | exact Upd.here _ _ | apply Upd.there))) | fail)
      refine v_retM [(mb, mcO kb (decide (s.schema = 2)) D2), (kb, oM2)] (outsM_cell_tmp (sz := 6) (vs := [.int .i64 ac, .int .i64 aq, .int .i64 ae, .bool af, .string av, .int .i64 ar]) (e := 29) rfl rfl rfl (by repeat (first | exact mhd _ | apply mtl)) rfl) (by repeat (first | exact List.nil_sublist _ | apply List.Sublist.cons_cons)) ⟨b, D2, oM2, rfl, hm2, hM2, by rw [← hz2]⟩
    · have ho : ¬ (2 ≤ kind ∧ kind ≤ 5) := by assumption
      rw [if_neg ho]
      refine v_call (μ1 := [(mb, mcO kb (decide (s.schema = 2)) D), (kb, oM)]) rfl (qa _) (PickA.perm (by repeat (first | exact PickA.last | apply PickA.cons))) rfl ?_
      rintro _ G2 _ - ⟨hG2, rfl, oM2, hM2, rfl⟩
      subst G2
      repeat' (first | apply v_seq | apply v_region | apply v_nil | apply v_blk | (apply v_pure; (case hop => first | (apply p_assign <;> rfl) | (apply p_build; (case hz => rfl); (case hv => (simp only [List.map_cons, List.map_nil]; repeat (with_reducible exact evs_nil))); (case hb => (apply bldL; repeat (exact bld_nil)))) | fail); (case hd => rfl)) | (apply v_store; (case hp => rfl); (case hx => rfl); (case hc => rfl); (case hsz => rfl); (case h1 => rfl); (case hb => (repeat (first | exact mhd _ | apply mtl))); (case hfit => exact nle rfl); (case hov => ((repeat (first | with_reducible exact ov_nil | apply ov_cons)); done)); (case hu => repeat (first | exact Upd.here _ _ | apply Upd.there))) | fail)
      refine v_retM [(mb, mcO kb true D), (kb, oM2)] (outsM_cell_tmp (sz := 6) (vs := zA.cells) (e := 29) rfl rfl rfl (by repeat (first | exact mhd _ | apply mtl)) rfl) (by repeat (first | exact List.nil_sublist _ | apply List.Sublist.cons_cons)) ?_
      have h6 : kind = 6 := by assumption
      rcases hsch with h1 | h2
      · rw [if_pos ⟨h6, h1⟩]
        rw [if_neg (by simp [h1])] at hM2
        exact ⟨_, D, oM2, rfl, hm.same rfl, hM2, rfl⟩
      · rw [if_neg (fun h => by omega)]
        rw [if_pos (by simp [h2])] at hM2
        exact ⟨_, D, oM2, rfl, hm, hM2, by rw [h2]; rfl⟩
    · have ho : ¬ (2 ≤ kind ∧ kind ≤ 5) := by assumption
      have h6 : ¬ kind = 6 := by assumption
      rw [if_neg ho, if_neg (fun h => h6 h.1)]
      refine v_retM [(mb, mcO kb (decide (s.schema = 2)) D), (kb, oM)] (outsM_cell_tmp (sz := 6) (vs := zA.cells) (e := 29) rfl rfl rfl (by repeat (exact mhd _)) rfl) (by repeat (first | exact List.Sublist.refl _ | apply List.Sublist.cons)) ⟨_, D, oM, rfl, hm, hM, rfl⟩
  · rw [if_pos h0]
    repeat' (first | apply v_seq | apply v_region | apply v_nil | apply v_skip | apply v_blk | (apply v_take; (case hg => rfl)) | (apply v_pure; (case hop => first | (apply p_ne <;> rfl) | (apply p_assign <;> rfl) | (apply p_pickF <;> rfl) | (apply p_build; (case hz => rfl); (case hv => (simp only [List.map_cons, List.map_nil]; repeat (with_reducible exact evs_nil))); (case hb => (apply bldL; repeat (exact bld_nil)))) | fail); (case hd => rfl)) | (apply v_cond; (case hc => rfl); all_goals (intro h; (try simp only [reduceCtorEq, zzz] at h); first | (exfalso; omega) | skip)) | (apply v_store; (case hp => rfl); (case hx => rfl); (case hc => rfl); (case hsz => rfl); (case h1 => rfl); (case hb => (repeat (exact mhd _))); (case hfit => exact nle rfl); (case hov => ((repeat (first | with_reducible exact ov_nil | apply ov_cons)); done)); (case hu => repeat (exact Upd.here _ _))) | fail)
    refine v_retM [(mb, mcO kb (decide (s.schema = 2)) D), (kb, oM)] (outsM_cell_tmp (sz := 6) (vs := zA.cells) (e := 29) rfl rfl rfl (by repeat (exact mhd _)) rfl) (by repeat (first | exact List.Sublist.refl _ | apply List.Sublist.cons)) ⟨_, D, oM, rfl, hm, hM, rfl⟩
theorem mdo_s {G : GH} (hT : TabsG G) {mb kb : Nat} {s : St} {D : List Ls} {oM : Obj} (c : Cm) (hs : StP s) (hm : MachR s D) (hM : MapP s.pairs oM) (hc : c.ok) (hv : c.val.size ≤ 200) :
    Con Tryd.prog 8 #[.pointer (some ⟨mb, 0, none⟩), .agg c.cells.toArray] G [(mb, mcO kb (decide (s.schema = 2)) D), (kb, oM)]
      (fun r G' μ' => ∃ D' oM', r = .agg (specS s c).2.cells.toArray ∧ MachR (specS s c).1 D' ∧ MapP (specS s c).1.pairs oM' ∧ μ' = [(mb, mcO kb (decide ((specS s c).1.schema = 2)) D'), (kb, oM')]) := by
  have q := mstep_s hT (mb := mb) (kb := kb) c hs hm hM hc hv
  obtain ⟨kind, client, seq, key, val, old, node⟩ := c
  generalize specS s ⟨kind, client, seq, key, val, old, node⟩ = cs at *
  obtain ⟨s2, ⟨ac, aq, ae, af, av, ar⟩⟩ := cs
  (refine v_enter Tryd.func8 rfl Tryd.ntmps8 rfl ?_; intro B _)
  repeat' (first | (apply v_box (d := 3) (zs := Cm.cells ⟨kind, client, seq, key, val, old, node⟩); (case hx => rfl); (case hz => rfl); (case hd => rfl); intro b3) | (apply v_alloc (d := 4); (case hz => rfl); (case hd => rfl); intro b4) | (apply v_read; (case hop => (apply r_loadNo; (case hx => rfl); (case h => repeat (first | exact mhd _ | apply mtl)); (case hd => rfl); (case hn => rfl))); (case hd => rfl)) | apply v_seq | apply v_region | apply v_nil | (apply v_pure; (case hop => (apply p_move <;> rfl)); (case hd => rfl)) | fail)
  refine v_call (μ1 := [(mb, mcO kb (decide (s.schema = 2)) D), (kb, oM)]) rfl q (PickA.perm (by repeat (first | exact PickA.last | apply PickA.cons))) rfl ?_
  rintro _ G2 _ hle2 ⟨b, D2, oM2, rfl, hm2, hM2, rfl⟩
  repeat' (first | (apply v_alloc (d := 5); (case hz => rfl); (case hd => rfl); intro b5) | apply v_seq | apply v_region | apply v_nil | (apply v_pure; (case hop => first | (apply p_move <;> rfl) | (apply p_assign <;> rfl) | (apply p_extract0 <;> rfl) | (apply p_extract1 <;> rfl) | fail); (case hd => rfl)) | (apply v_read; (case hop => (apply r_loadNo; (case hx => rfl); (case h => (repeat (exact mhd _))); (case hd => (repeat (first | with_reducible exact dt_nil | apply dt_here))); (case hn => rfl))); (case hd => rfl)) | (apply v_store; (case hp => rfl); (case hx => rfl); (case hc => rfl); (case hsz => rfl); (case h1 => rfl); (case hb => (repeat (first | exact mhd _ | apply mtl))); (case hfit => exact nle rfl); (case hov => ((repeat (first | with_reducible exact ov_nil | apply ov_cons)); done)); (case hu => repeat (first | exact Upd.here _ _ | apply Upd.there))) | fail)
  refine v_perm (ν := [(mb, mcO kb (decide (s2.schema = 2)) D2), (kb, oM2), (b4, .cells [.int .i64 ac, .int .i64 aq, .int .i64 ae, .bool af, .string av, .int .i64 ar].toArray 29 (0, 0)), (b5, _), (b3, _)]) (by apply perm_of_count; intro p; simp only [List.append_eq, List.countP_append, List.countP_cons, List.countP_nil, Nat.zero_add, Nat.add_zero]; try ac_rfl) ?_
  refine v_retM [(mb, mcO kb (decide (s2.schema = 2)) D2), (kb, oM2)] (outsM_cell (sz := 6) (vs := [.int .i64 ac, .int .i64 aq, .int .i64 ae, .bool af, .string av, .int .i64 ar]) (e := 29) rfl rfl (by repeat (first | exact mhd _ | apply mtl)) rfl) (by repeat (first | exact List.nil_sublist _ | apply List.Sublist.cons_cons)) ⟨D2, oM2, rfl, hm2, hM2, rfl⟩
def laysSortT_ren : Go.Shelf.Ren := ⟨fun | 6 => 59 | 8 => 89 | 9 => 88 | 19 => 119 | 20 => 120 | 21 => 110 | 22 => 111 | 23 => 112 | 24 => 113 | 25 => 114 | 26 => 115 | 27 => 116 | 28 => 117 | 29 => 118 | 31 => 139 | 32 => 140 | 36 => 138 | 37 => 141 | 38 => 142 | 39 => 143 | 41 => 148 | n => n, fun | 0 => 0 | 3 => 3 | 4 => 4 | 5 => 5 | 9 => 9 | 26 => 77 | 27 => 77 | 29 => 9 | 32 => 145 | 35 => 160 | 36 => 161 | 41 => 126 | 44 => 168 | 46 => 170 | 53 => 180 | 57 => 153 | 63 => 187 | 64 => 103 | n => n, fun n => n⟩
theorem laysSortT : SlLaysM.n6 Tryd.prog laysSortT_ren where
  mixed := by kernel_rfl
  f6 := ⟨"slices.Sort[[]string,string]", by decide, Tryd.func59.trans (congrArg some (by kernel_rfl))⟩
  f8 := Tryd.func89.trans (congrArg some (by kernel_rfl))
  f9 := ⟨"slices.pdqsortOrdered[string]", by decide, Tryd.func88.trans (congrArg some (by kernel_rfl))⟩
  f19 := Tryd.func119.trans (congrArg some (by kernel_rfl))
  f20 := Tryd.func120.trans (congrArg some (by kernel_rfl))
  f21 := ⟨"slices.insertionSortOrdered[string]", by decide, Tryd.func110.trans (congrArg some (by kernel_rfl))⟩
  f22 := ⟨"slices.heapSortOrdered[string]", by decide, Tryd.func111.trans (congrArg some (by kernel_rfl))⟩
  f23 := ⟨"slices.breakPatternsOrdered[string]", by decide, Tryd.func112.trans (congrArg some (by kernel_rfl))⟩
  f24 := ⟨"slices.choosePivotOrdered[string]", by decide, Tryd.func113.trans (congrArg some (by kernel_rfl))⟩
  f25 := ⟨"slices.reverseRangeOrdered[string]", by decide, Tryd.func114.trans (congrArg some (by kernel_rfl))⟩
  f26 := ⟨"slices.partialInsertionSortOrdered[string]", by decide, Tryd.func115.trans (congrArg some (by kernel_rfl))⟩
  f27 := ⟨"cmp.Less[string]", by decide, Tryd.func116.trans (congrArg some (by kernel_rfl))⟩
  f28 := ⟨"slices.partitionEqualOrdered[string]", by decide, Tryd.func117.trans (congrArg some (by kernel_rfl))⟩
  f29 := ⟨"slices.partitionOrdered[string]", by decide, Tryd.func118.trans (congrArg some (by kernel_rfl))⟩
  f31 := Tryd.func139.trans (congrArg some (by kernel_rfl))
  f32 := Tryd.func140.trans (congrArg some (by kernel_rfl))
  f36 := ⟨"slices.siftDownOrdered[string]", by decide, Tryd.func138.trans (congrArg some (by kernel_rfl))⟩
  f37 := ⟨"slices.medianAdjacentOrdered[string]", by decide, Tryd.func141.trans (congrArg some (by kernel_rfl))⟩
  f38 := ⟨"slices.medianOrdered[string]", by decide, Tryd.func142.trans (congrArg some (by kernel_rfl))⟩
  f39 := ⟨"cmp.isNaN[string]", by decide, Tryd.func143.trans (congrArg some (by kernel_rfl))⟩
  f41 := ⟨"slices.order2Ordered[string]", by decide, Tryd.func148.trans (congrArg some (by kernel_rfl))⟩
  t0 := Tryd.underlying0
  a0 := Tryd.isAgg0
  z0 := Tryd.sizeOf0
  v0 := Tryd.zeroValue0
  t3 := Tryd.underlying3
  a3 := Tryd.isAgg3
  z3 := Tryd.sizeOf3
  v3 := Tryd.zeroValue3
  t4 := Tryd.underlying4
  a4 := Tryd.isAgg4
  z4 := Tryd.sizeOf4
  v4 := Tryd.zeroValue4
  t5 := Tryd.underlying5
  a5 := Tryd.isAgg5
  z5 := Tryd.sizeOf5
  v5 := Tryd.zeroValue5
  t9 := Tryd.underlying9
  a9 := Tryd.isAgg9
  z9 := Tryd.sizeOf9
  v9 := Tryd.zeroValue9
  t26 := Tryd.underlying77
  a26 := Tryd.isAgg77
  z26 := Tryd.sizeOf77
  v26 := Tryd.zeroValue77
  t27 := Tryd.underlying77
  a27 := Tryd.isAgg77
  z27 := Tryd.sizeOf77
  v27 := Tryd.zeroValue77
  t29 := Tryd.underlying9
  a29 := Tryd.isAgg9
  z29 := Tryd.sizeOf9
  v29 := Tryd.zeroValue9
  t32 := Tryd.underlying145
  a32 := Tryd.isAgg145
  z32 := Tryd.sizeOf145
  v32 := Tryd.zeroValue145
  t35 := Tryd.underlying160
  a35 := Tryd.isAgg160
  z35 := Tryd.sizeOf160
  v35 := Tryd.zeroValue160
  t36 := Tryd.underlying161
  a36 := Tryd.isAgg161
  z36 := Tryd.sizeOf161
  v36 := Tryd.zeroValue161
  t41 := Tryd.underlying126
  a41 := Tryd.isAgg126
  z41 := Tryd.sizeOf126
  v41 := Tryd.zeroValue126
  t44 := Tryd.underlying168
  a44 := Tryd.isAgg168
  z44 := Tryd.sizeOf168
  v44 := Tryd.zeroValue168
  t46 := Tryd.underlying170
  a46 := Tryd.isAgg170
  z46 := Tryd.sizeOf170
  v46 := Tryd.zeroValue170
  t53 := Tryd.underlying180
  a53 := Tryd.isAgg180
  z53 := Tryd.sizeOf180
  v53 := Tryd.zeroValue180
  t57 := Tryd.underlying153
  a57 := Tryd.isAgg153
  z57 := Tryd.sizeOf153
  v57 := Tryd.zeroValue153
  t63 := Tryd.underlying187
  a63 := Tryd.isAgg187
  z63 := Tryd.sizeOf187
  v63 := Tryd.zeroValue187
  t64 := Tryd.underlying103
  a64 := Tryd.isAgg103
  z64 := Tryd.sizeOf103
  v64 := Tryd.zeroValue103
attribute [local semireducible] Con
theorem Con.ofCallsT {P : Program} {f : FuncId} {args : Array Value} {G : GH} {μ : OH} {Φ : Value → GH → OH → Prop} (h : ∀ w, Mem G μ w → Calls P f args w fun e w' => ∃ v, e = .returned v ∧ ∃ G' μ', Step G μ w G' μ' w' ∧ Φ v G' μ') : Con P f args G μ Φ := by
  intro w hw
  exact (h w hw).mono fun e w' hq => by
    obtain ⟨v, rfl, hv⟩ := hq
    exact ⟨v, rfl, hv⟩
section
variable {G : GH} {μ μ' : OH} {w : World} {b : Nat} {e : TypeId}
theorem Step.mapT {vs vs' : List Value} {f : Array Value → Array Value} (hw : Mem G μ w) (hb : Has μ b vs e) (hf : f vs.toArray = vs'.toArray) (hu : Upd b (.cells vs'.toArray e (0, 0)) μ μ') : Step G μ w G μ' (Go.Sort.mapBlock w b f) := by
  have hg := hw.own _ _ hb
  refine Step.upd hw hu rfl rfl rfl (by simp [Go.Sort.mapBlock]) ?_ (fun c hc => ?_)
  · simp only [Go.Sort.mapBlock, Array.getElem?_modify, if_true, hg, Option.map_some, Go.Sort.onCells, hf]
  · simp only [Go.Sort.mapBlock, Array.getElem?_modify]
    rw [if_neg (fun h => hc h.symm)]
theorem Step.growT (h : Mem G μ w) (os : Array Obj) : Step G μ w G μ (Go.Sort.grow w os) := by
  have hold : ∀ c, c < w.heap.size → (Go.Sort.grow w os).heap[c]? = w.heap[c]? := fun c hc => by
    show (w.heap ++ os)[c]? = _
    rw [Array.getElem?_append_left hc]
  refine ⟨⟨fun c o hc => ?_, fun c o hc => ?_, h.nodup, h.apart⟩, GH.le_refl _, rfl, rfl, rfl, ?_, fun c hc _ => hold c hc, fun c o hc => .inl ⟨o, hc⟩, fun c o hc => .inl ⟨o, hc⟩⟩
  · rw [hold c (lt_of_heap (h.g c o hc))]; exact h.g c o hc
  · rw [hold c (lt_of_heap (h.own c o hc))]; exact h.own c o hc
  · show w.heap.size ≤ (w.heap ++ os).size
    simp
end
abbrev bytesL (s : ByteArray) : List UInt8 := s.data.toList
theorem enc_bytes (s : ByteArray) : Go.Proofs.encStr (bytesL s) = Value.string s := by
  obtain ⟨⟨l⟩⟩ := s
  rfl
theorem holds_ownT {G : GH} {μ : OH} {w : World} {b : Nat} {e : TypeId} {zs : List ByteArray} {spare : List Value} (hw : Mem G μ w) (hb : Has μ b (zs.map Value.string ++ spare) e) : Go.Sort.Holds Go.Proofs.encStr w b 0 (zs.map bytesL).toArray := by
  intro j hj
  have hj' : j < zs.length := by simpa using hj
  refine ⟨?_, ?_⟩
  · rw [Nat.zero_add]
    refine Cell.own hb ?_ w hw.sees
    rw [List.getElem?_append_left (by simpa using hj'), List.getElem?_map, List.getElem?_eq_getElem hj']
    have e : (zs.map bytesL).toArray[j]! = bytesL zs[j] := by simp [hj']
    rw [e, enc_bytes]
    rfl
  · have := hw.own _ _ hb
    simp [World.frozen?, this]
theorem putCells_ownT {zs : List ByteArray} {ys : List (List UInt8)} {spare : List Value} (h : ys.length = zs.length) : Go.Sort.putCells Go.Proofs.encStr 0 ys.toArray (zs.map Value.string ++ spare).toArray = (ys.map Go.Proofs.encStr ++ spare).toArray := by
  apply Array.ext_getElem?
  intro k
  simp only [Go.Sort.putCells, Array.getElem?_mapIdx, List.getElem?_toArray, List.size_toArray, Nat.zero_le, true_and, Nat.zero_add, Nat.sub_zero]
  by_cases hk : k < ys.length
  · rw [List.getElem?_append_left (by simp; omega), List.getElem?_append_left (by simpa using hk)]
    simp [hk, h ▸ hk]
  · rw [List.getElem?_append_right (by simp; omega), List.getElem?_append_right (by simp; omega)]
    have hk2 : ¬ k < zs.length := by omega
    simp only [List.length_map, h]
    cases spare[k - zs.length]? with
    | none => rfl
    | some v => simp only [Option.map_some, hk2, if_false]
def sortT (l : List ByteArray) : List ByteArray := ((l.map bytesL).mergeSort fun x y => decide (x ≤ y)).map fun x => ⟨x.toArray⟩
theorem sortT_perm (l : List ByteArray) : (sortT l).Perm l := by
  have h := (List.mergeSort_perm (l.map bytesL) (fun x y => decide (x ≤ y))).map (fun x => (⟨x.toArray⟩ : ByteArray))
  have e : (l.map bytesL).map (fun x => (⟨x.toArray⟩ : ByteArray)) = l := by
    rw [List.map_map]
    conv => rhs; rw [← List.map_id l]
    refine List.map_congr_left fun s _ => ?_
    obtain ⟨⟨x⟩⟩ := s
    rfl
  rw [e] at h
  exact h
theorem le_kn {x y : List UInt8} (hx : x.length ≤ 200) (hy : y.length ≤ 200) (h : x ≤ y) : knL 200 x ≤ knL 200 y := by
  rcases Nat.lt_or_ge (knL 200 y) (knL 200 x) with hlt | hge
  · have h1 := (knL_cmp 200 y x hy hx).1
    rw [Go.Proofs.bytesLess_eq, decide_eq_decide] at h1
    exact absurd (h1.2 hlt) (List.not_lt.2 h)
  · exact hge
theorem sortT_le (l : List ByteArray) (hz : ∀ s ∈ l, s.size ≤ 200) : (sortT l).Pairwise (fun a b => kn a ≤ kn b) := by
  have h := List.pairwise_mergeSort (le := fun (x y : List UInt8) => decide (x ≤ y)) (fun a b c h1 h2 => by simp only [decide_eq_true_eq] at *; exact List.le_trans h1 h2) (fun a b => by simp only [Bool.or_eq_true, decide_eq_true_eq]; exact List.le_total a b) (l.map bytesL)
  have hm : ∀ x ∈ (l.map bytesL).mergeSort (fun x y => decide (x ≤ y)), x.length ≤ 200 := fun x hx => by
    obtain ⟨s, hs, rfl⟩ := List.mem_map.1 ((List.mergeSort_perm _ _).mem_iff.1 hx)
    exact kn_len (hz s hs)
  unfold sortT
  refine List.pairwise_map.2 (List.Pairwise.imp_of_mem (fun {a b} ha hb h => ?_) h)
  have := le_kn (hm a ha) (hm b hb) (by simpa using h)
  unfold kn
  simpa using this
theorem sortT_s {G : GH} {zs : List ByteArray} {b cap : Nat} {e : TypeId} {spare : List Value} (hsz : zs.length < 4611686018427387904) :
    Con Tryd.prog 59 #[.slice (some ⟨b, 0, none⟩) zs.length cap] G [(b, .cells (zs.map Value.string ++ spare).toArray e (0, 0))]
      (fun r G' μ' => r = .tuple #[] ∧ G' = G ∧ μ' = [(b, .cells ((sortT zs).map Value.string ++ spare).toArray e (0, 0))]) := by
  refine Con.ofCallsT fun w hw => ?_
  have hb : Has [(b, Obj.cells (zs.map Value.string ++ spare).toArray e (0, 0))] b (zs.map Value.string ++ spare) e := List.mem_cons_self
  have hl : (zs.map bytesL).length = zs.length := List.length_map ..
  have hc := AnyM.slices_Sort_string laysSortT b 0 cap (zs.map bytesL) w (holds_ownT hw hb) (lt_of_heap (hw.own _ _ hb)) (by omega)
  rw [hl] at hc
  refine hc.mono ?_
  rintro _ w' ⟨rfl, n, os, rfl⟩
  have s1 := Step.drew hw n
  have s2 := Step.mapT (f := Go.Sort.putCells Go.Proofs.encStr 0 ((zs.map bytesL).mergeSort fun x y => decide (x ≤ y)).toArray) s1.mem hb (putCells_ownT (by rw [(List.mergeSort_perm _ _).length_eq, hl])) (.here _ _)
  refine ⟨_, rfl, G, _, (s1.trans s2).trans (Step.growT s2.mem os), rfl, rfl, ?_⟩
  unfold sortT
  rw [List.map_map]
  rfl
theorem sortT0_s {G : GH} {p : Option Addr} {cap : Nat} : Con Tryd.prog 59 #[.slice p 0 cap] G [] (Just (.tuple #[]) G) := by
  refine Con.ofCallsT fun w hw => ?_
  refine (AnyM.slices_Sort_string_none laysSortT p cap w).mono ?_
  rintro _ w' ⟨rfl, rfl⟩
  exact ⟨_, rfl, G, [], Step.refl hw, rfl, rfl, rfl⟩
end Go.Proofs.YtmdeeokejdkceaaDoor
/-
  The library's iterators at texts: slices.AppendSeq, slices.Collect, slices.Sorted; maps.Keys of the machine's map.
-/
set_option linter.unusedSimpArgs false
set_option linter.unusedVariables false
namespace Go.Proofs.YtmdeeokejdkceaaDoor
open Go.Vx Go.ChangeShapes Go.WideShapes Go.ChangeAt Go.RowKit
instance keyT_str : KeyT Tryd.prog 9 keyS := KeyT.string
theorem leftT_perm {left : List ByteArray} {a : ByteArray} (hn : left.Nodup) (ha : a ∈ left) : left.Perm (a :: left.filter fun z => decide (z ≠ a)) := by
  refine (List.perm_ext_iff_of_nodup hn ?_).2 fun x => ?_
  · rw [List.nodup_cons]
    exact ⟨by simp, hn.sublist List.filter_sublist⟩
  · simp only [List.mem_cons, List.mem_filter, decide_eq_true_eq]
    by_cases hx : x = a
    · subst hx; simp [ha]
    · simp [hx]
theorem Grow.casesT {e : TypeId} {v : Value} {m : Nat} {xs : List Value} {ν : OH} (h : Grow e 1 v m xs ν) : (v = .slice none 0 0 ∧ m = 0 ∧ xs = [] ∧ ν = []) ∨ ∃ b cap spare, v = .slice (some ⟨b, 0, none⟩) m cap ∧ m ≤ cap ∧ cap ≤ maxLen ∧ ν = [(b, .cells (xs ++ spare).toArray e (0, 0))] ∧ xs.length = m ∧ (xs ++ spare).length = cap := by
  obtain ⟨hx, ⟨rfl, rfl, rfl⟩ | ⟨b, cap, spare, rfl, rfl, h1, h2, h3⟩⟩ := h
  · left
    exact ⟨rfl, rfl, by simpa using hx, rfl⟩
  · right
    exact ⟨b, cap, spare, rfl, h1, h2, rfl, by simpa using hx, by simpa using h3⟩
theorem growT_of {e : TypeId} {b m cap : Nat} {xs spare : List Value} (h1 : xs.length = m) (h2 : m ≤ cap) (h3 : cap ≤ maxLen) (h4 : (xs ++ spare).length = cap) : Grow e 1 (.slice (some ⟨b, 0, none⟩) m cap) m xs [(b, .cells (xs ++ spare).toArray e (0, 0))] :=
  ⟨by omega, .inr ⟨b, cap, spare, rfl, rfl, h2, h3, by omega⟩⟩
theorem keysT_s {G : GH} {m : Nat} : Con Tryd.prog 34 #[.map (some m)] G []
    (fun r G' μ' => ∃ b, r = .func (.func 60) #[] #[.pointer (some ⟨b, 0, none⟩)] ∧ G' = G ∧ μ' = [(b, .cells [Value.map (some m)].toArray 64 (0, 0))]) := by
  (refine v_enter Tryd.func34 rfl Tryd.ntmps34 rfl ?_; intro B _)
  repeat' (first | apply v_seq | apply v_region | apply v_nil | (apply v_pure; (case hop => first | (apply p_assign <;> rfl) | (apply p_makeFunc <;> rfl)); (case hd => rfl)) | (apply v_box; (case hx => rfl); (case hz => rfl); (case hd => rfl); intro b) | fail)
  refine v_ret [(b, _)] (outsA1 rfl rfl) (by repeat (exact List.Sublist.refl _)) ?_
  exact ⟨b, rfl, rfl, rfl⟩
theorem keysT_seq {G : GH} {l : List (ByteArray × Value)} {m b : Nat} {oM : Obj} (hM : MapB keyS l oM) : SeqCon Tryd.prog 60 [.pointer (some ⟨b, 0, none⟩)] keyS (fun xs => xs.Perm (l.map (·.1))) l.length G [(b, .cells [Value.map (some m)].toArray 64 (0, 0)), (m, oM)] := by
  intro lp J G1 ν hle hJ0 hY
  have hnd := hM.nodup
  (refine v_enter Tryd.func60 rfl Tryd.ntmps60 rfl ?_; intro B _)
  repeat' (first | apply v_seq | apply v_region | apply v_nil | apply v_block | (apply v_rangeM (hb := (by repeat (first | exact mhd _ | apply mtl))) (hM := hM); (case hx => rfl); (case hd => rfl); intro it oI hI) | (apply v_read; (case hop => (apply r_load1; rfl; (apply Cell.own; (case h => (repeat (exact mhd _))); rfl))); (case hd => rfl)) | fail)
  refine v_loopI (ι := List ByteArray × List ByteArray) [5, 0] (fun i vs G' μ' => GH.le G1 G' ∧ ∃ ν' oI, IterB keyS m l i.2 oM oI ∧ i.2.Nodup ∧ (i.1 ++ i.2).Perm (l.map (·.1)) ∧ vs = [.pointer (some ⟨it, 0, none⟩), .func (.yield lp) #[] #[]] ∧ J i.1 G' ν' ∧ μ' = (it, oI) :: (b, .cells [Value.map (some m)].toArray 64 (0, 0)) :: (m, oM) :: ν') (fun i => i.2.length) rfl ([], l.map (·.1)) ⟨GH.le_refl _, ν, oI, hI, hnd, List.Perm.refl _, rfl, hJ0, rfl⟩ ?_
  rintro ⟨pre, left⟩ vs G' _ ⟨hle', ν', oI', hI', hn, hper, rfl, hJ, rfl⟩
  simp only at hI' hn hper hJ
  have hlen := hper.length_eq
  rw [List.length_append, List.length_map] at hlen
  repeat' (first | apply v_seq | apply v_region | (apply v_nextM (k := 9) (hb := (by repeat (first | exact mhd _ | apply mtl))) (hI := hI'); (case hx => rfl); (case hp => exact List.Perm.refl _); (case hd => rfl)) | fail)
  · intro h0
    subst h0
    repeat' (first | apply v_seq | apply v_nil | (apply v_exit; (case hp => rfl)) | (apply v_pure; (case hop => (apply p_extract0 <;> rfl)); (case hd => rfl)) | (apply v_condF; (case hc => rfl)) | fail)
    refine v_end ([(b, _), (m, oM)] ++ ν') (outsA0 rfl) (by repeat (first | exact List.Sublist.refl _ | apply List.Sublist.cons)) ?_
    exact ⟨pre, ν', by simpa using hper, hJ, rfl⟩
  · intro a u oI2 ha hau hI2 hE
    have hy := hY pre a G' ν' hle' hJ (by
      have : 0 < left.length := List.length_pos_of_mem ha
      omega)
    have hlp := leftT_perm hn ha
    repeat' (first | apply v_seq | apply v_region | apply v_nil | apply v_skip | apply v_block | apply v_blk | (apply v_pure; (case hop => first | (apply p_move <;> rfl) | (apply p_assign <;> rfl) | (apply p_not <;> rfl) | (apply p_extract0 <;> rfl) | fail); (case hd => rfl)) | (apply v_condT; (case hc => rfl)) | (apply v_condF; (case hc => rfl)) | (apply v_read; (case hop => apply r_entry (hE := hE); (case hx => rfl); (case hi => repeat (exact mhd _)); (case hb => repeat (first | exact mhd _ | apply mtl))); (case hd => rfl)) | (apply v_yield (hs := hy); (case hx => rfl); (case ha => rfl); (case hp => exact (List.perm_append_comm (l₁ := [(it, oI2), (b, Obj.cells [Value.map (some m)].toArray 64 (0, 0)), (m, oM)]) (l₂ := ν'))); (case hd => rfl); rintro _ G2 ν2 hle2 ⟨rfl, hJ2⟩) | fail)
    refine v_perm List.perm_append_comm ?_
    refine v_againI (pre ++ [a], left.filter fun z => decide (z ≠ a)) rfl ⟨GH.le_trans hle' hle2, ν2, oI2, hI2, hn.sublist List.filter_sublist, ?_, rfl, hJ2, rfl⟩ ?_
    · refine List.Perm.trans ?_ hper
      simp only [List.append_assoc, List.singleton_append]
      exact List.Perm.append_left _ hlp.symm
    · have := hlp.length_eq
      simp only [List.length_cons] at this ⊢
      omega
theorem appendSeqT_s {G : GH} {gf : FuncId} [Callable Tryd.prog gf] {lb : List Value} {S : List ByteArray → Prop} {N : Nat} {μ1 : OH} (hN : N ≤ 1048576) (hseq : SeqCon Tryd.prog gf lb keyS S N G μ1) :
    Con Tryd.prog 87 #[.slice none 0 0, .func (.func gf) #[] lb.toArray] G μ1 (fun r G' μ' => G' = G ∧ ∃ xs ν, S xs ∧ Grow 9 1 r xs.length (xs.map Value.string) ν ∧ μ' = ν ++ μ1) := by
  (refine v_enter Tryd.func87 rfl Tryd.ntmps87 rfl ?_; intro B _)
  repeat' (first | apply v_seq | apply v_region | apply v_nil | apply v_block | (apply v_pure; (case hop => first | (apply p_move <;> rfl) | (apply p_assign <;> rfl)); (case hd => rfl)) | (apply v_box; (case hx => rfl); (case hz => rfl); (case hd => rfl); intro b) | fail)
  refine v_rangeFunc (enc := keyS) (N := N) (S := S) (μ1 := μ1) (μ2 := [(b, .cells [.slice none 0 0].toArray 77 (0, 0))]) (σ' := fun x => _) (fun pre G' ν => G' = G ∧ ∃ v ν1, Grow 9 1 v pre.length (pre.map Value.string) ν1 ∧ ν = ν1 ++ [(b, .cells [v].toArray 77 (0, 0))]) rfl hseq ?_ rfl (fun x => Assigns.region (.cons (p_assign rfl) rfl (.nil _))) rfl ⟨rfl, _, [], Grow.nil _ _, rfl⟩ ?_ ?_
  · exact (List.perm_append_comm (l₁ := [(b, Obj.cells [Value.slice none 0 0].toArray 77 (0, 0))]) (l₂ := μ1))
  · rintro l B' _ pre x G2 _ hle ⟨rfl, v, ν1, hg, rfl⟩ hlen
    have hpl : pre.length ≤ 1048576 := by omega
    repeat' (first | apply v_region | apply v_nil | apply v_block | apply v_blk | (apply v_pure; (case hop => (apply p_move <;> rfl)); (case hd => rfl)) | (apply v_append (hg := hg) (m' := 1) (us := [keyS x]) (hp := PickA.perm (by repeat (first | exact PickA.here _ | apply PickA.cons))) (hsrc := Src.own (e := 9) (by repeat (exact mhd _)) rfl); (case hzs => rfl); (case hsz => omega); (case hs => rfl); (case hx => rfl); (case hb => omega); (case hb' => simp only [maxLen]; omega); (case hd => rfl); (case h1 => rfl); intro v3 n3 hg3; obtain ⟨A3, c3, rfl, -, -⟩ := hg3.shape) | (apply v_read; (case hop => (apply r_load1; rfl; (apply Cell.own; (case h => (repeat (first | exact mhd _ | apply List.mem_append_right))); rfl))); (case hd => rfl)) | (apply v_buildSlice; (case hz => rfl); (case hi => rfl); (case hv => (simp only [List.map_cons, List.map_nil]; repeat (first | with_reducible exact evs_nil | (apply evs_cons; (case h1 => rfl))))); (case hp => (apply pk_cons; (case hc => rfl); (case hs => rfl); (case h => (with_reducible exact pk_nil)); (case he => ((repeat (first | with_reducible exact ap_nil | apply ap_cons)); done)))); (case hb => rfl); (case hd => rfl); intro b) | (apply v_store; (case hp => rfl); (case hx => rfl); (case hc => rfl); (case hsz => rfl); (case h1 => rfl); (case hb => (repeat (first | exact mhd _ | apply mtl | apply List.mem_append_right))); (case hfit => exact nle rfl); (case hov => ((repeat (first | with_reducible exact ov_nil | apply ov_cons)); done)); (case hu => repeat (first | exact Upd.here _ _ | apply Upd.there | apply Upd.app))) | fail)
    refine v_endR (n3 ++ [_]) (List.Sublist.append_left (by repeat (first | exact List.Sublist.refl _ | apply List.Sublist.cons)) _) ⟨rfl, rfl, _, n3, by simpa using hg3, rfl⟩
  · rintro B' D _ xs G2 _ hle hS ⟨rfl, v, ν1, hg, rfl⟩
    repeat' (first | apply v_seq | apply v_region | apply v_nil | apply v_blk | (apply v_pure; (case hop => (apply p_assign <;> rfl)); (case hd => rfl)) | (apply v_read; (case hop => (apply r_load1; rfl; (apply Cell.own; (case h => (repeat (first | exact mhd _ | apply mtl | apply List.mem_append_right))); rfl))); (case hd => rfl)) | fail)
    refine v_retD (Ds := [D]) (μ1 := (ν1 ++ μ1) ++ [(b, .cells [v].toArray 77 (0, 0))]) (ν1 ++ μ1) (fun ds a ha w _ => outs1 rfl rfl ds a ha) ?_ (List.sublist_append_left _ _) ⟨rfl, xs, ν1, hS, hg, rfl⟩
    exact (show List.Perm (μ1 ++ (ν1 ++ [(b, Obj.cells [v].toArray 77 (0, 0))])) (ν1 ++ μ1 ++ [(b, Obj.cells [v].toArray 77 (0, 0))]) from (by apply perm_of_count; intro p; simp only [List.append_eq, List.countP_append, List.countP_cons, List.countP_nil, Nat.zero_add, Nat.add_zero]; try ac_rfl)).cons _
theorem collectT_s {G : GH} {gf : FuncId} [Callable Tryd.prog gf] {lb : List Value} {S : List ByteArray → Prop} {N : Nat} {μ1 : OH} (hN : N ≤ 1048576) (hseq : SeqCon Tryd.prog gf lb keyS S N G μ1) :
    Con Tryd.prog 58 #[.func (.func gf) #[] lb.toArray] G μ1 (fun r G' μ' => G' = G ∧ ∃ xs ν, S xs ∧ Grow 9 1 r xs.length (xs.map Value.string) ν ∧ μ' = ν ++ μ1) := by
  have q := appendSeqT_s hN hseq
  (refine v_enter Tryd.func58 rfl Tryd.ntmps58 rfl ?_; intro B _)
  repeat' (first | apply v_seq | apply v_region | apply v_nil | (apply v_pure; (case hop => first | (apply p_move <;> rfl) | (apply p_assign <;> rfl)); (case hd => rfl)) | fail)
  refine v_call (μ1 := μ1) (μ2 := []) rfl q (by simp) rfl ?_
  rintro r _ _ - ⟨rfl, xs, ν, hS, hg, rfl⟩
  repeat' (first | apply v_nil | (apply v_pure; (case hop => (apply p_assign <;> rfl)); (case hd => rfl)) | fail)
  refine v_ret (ν ++ μ1) (outsA1 rfl rfl) (by simp) ⟨rfl, xs, ν, hS, hg, rfl⟩
theorem sortedT_s {G : GH} {gf : FuncId} [Callable Tryd.prog gf] {lb : List Value} {S : List ByteArray → Prop} {N : Nat} {μ1 : OH} (hN : N ≤ 1048576) (hS : ∀ xs, S xs → xs.length ≤ 1048576) (hseq : SeqCon Tryd.prog gf lb keyS S N G μ1) :
    Con Tryd.prog 33 #[.func (.func gf) #[] lb.toArray] G μ1 (fun r G' μ' => G' = G ∧ ∃ xs ν, S xs ∧ Grow 9 1 r xs.length ((sortT xs).map Value.string) ν ∧ μ' = ν ++ μ1) := by
  have q := collectT_s hN hseq
  (refine v_enter Tryd.func33 rfl Tryd.ntmps33 rfl ?_; intro B _)
  repeat' (first | apply v_seq | apply v_region | apply v_nil | (apply v_pure; (case hop => first | (apply p_move <;> rfl) | (apply p_assign <;> rfl)); (case hd => rfl)) | fail)
  refine v_call (μ1 := μ1) (μ2 := []) rfl q (by simp) rfl ?_
  rintro r G1 _ - ⟨rfl, xs, ν, hSx, hg, rfl⟩
  have hlen := hS _ hSx
  obtain ⟨rfl, h0, h1, rfl⟩ | ⟨b, cap, spare, rfl, hc, hm, rfl, hxl, hcl⟩ := Grow.casesT hg
  · have hx0 : xs = [] := List.eq_nil_of_length_eq_zero h0
    subst hx0
    repeat' (first | apply v_seq | apply v_region | apply v_nil | (apply v_pure; (case hop => first | (apply p_move <;> rfl) | (apply p_assign <;> rfl)); (case hd => rfl)) | (apply v_call (hs := sortT0_s); (case ha => rfl); (case hp => exact List.Perm.refl _); (case hd => rfl); rintro _ _ _ _ ⟨rfl, rfl, rfl⟩) | fail)
    refine v_ret μ1 (outsA1 rfl rfl) (by simp) ⟨rfl, [], [], hSx, by simpa [sortT] using Grow.nil _ _, rfl⟩
  · have q2 := sortT_s (G := G1) (zs := xs) (b := b) (cap := cap) (e := 9) (spare := spare) (by omega)
    repeat' (first | apply v_seq | apply v_region | apply v_nil | (apply v_pure; (case hop => first | (apply p_move <;> rfl) | (apply p_assign <;> rfl)); (case hd => rfl)) | fail)
    refine v_call (μ1 := [(b, _)]) (μ2 := μ1) rfl q2 (by simp) rfl ?_
    rintro _ G2 _ hle2 ⟨rfl, rfl, rfl⟩
    repeat' (first | apply v_seq | apply v_region | apply v_nil | (apply v_pure; (case hop => first | (apply p_move <;> rfl) | (apply p_assign <;> rfl)); (case hd => rfl)) | fail)
    refine v_ret ([(b, _)] ++ μ1) (outsA1 rfl rfl) (List.Sublist.refl _) ⟨rfl, xs, _, hSx, growT_of (by simp [(sortT_perm xs).length_eq]) hc hm (by simpa [(sortT_perm xs).length_eq] using hcl), rfl⟩
abbrev kA : ByteArray := ⟨#[97]⟩
abbrev emp : St := ⟨1, [], []⟩
theorem keyA : keyB kA = true := by decide +kernel
theorem sesP_nil : SesP [] := ⟨fun i hi => by simp at hi, fun x hx => by simp at hx⟩
theorem emp_ok : StP emp := stP_iff.2 ⟨sesP_nil, .inl rfl, ⟨by simp, List.Pairwise.nil, fun x hx => by simp at hx⟩, fun _ => rfl⟩
theorem which_nil (n q : Int) : whichS [] n q = (0, zA) := by unfold whichS; rw [if_pos (show hitG ksS ([] : List Ss) n = false from rfl)]
abbrev D0 : List Ls := List.replicate 9 zLs
theorem mach0 : MachR emp D0 := ⟨rfl, by decide⟩
theorem map0 : MapP [] (.map #[] 0) := ⟨[], List.Perm.refl _, MapB.nil⟩
theorem mnew_s (G : GH) : Con Tryd.prog 7 #[] G [] (fun r G' μ' => G' = G ∧ ∃ mb kb, r = .pointer (some ⟨mb, 0, none⟩) ∧ μ' = [(mb, mcO kb false D0), (kb, .map #[] 0)]) := by
  (refine v_enter Tryd.func7 rfl Tryd.ntmps7 rfl ?_; intro B _)
  repeat' (first | (apply v_box (d := 3) (zs := mcV kb false D0); (case hx => rfl); (case hz => rfl); (case hd => rfl); intro mb) | apply v_seq | apply v_region | apply v_nil | (apply v_pure; (case hop => first | (apply p_assign <;> rfl) | (apply p_build; (case hz => rfl); (case hv => (simp only [List.map_cons, List.map_nil]; repeat (first | with_reducible exact evs_nil | (apply evs_cons; (case h1 => rfl))))); (case hb => (apply bldL; repeat (first | exact bld_nil | (apply bld_cons; (case hpf => rfl); (case hc => rfl); (case hs => rfl); (case hl => rfl); (case ho => ((repeat (first | with_reducible exact ov_nil | apply ov_cons)); done))))))) | fail); (case hd => rfl)) | (apply v_makeMap; (case hd => rfl); intro kb) | fail)
  exact v_ret [(mb, mcO kb false D0), (kb, .map #[] 0)] (outsA1 rfl rfl) (by repeat (exact List.Sublist.refl _)) ⟨rfl, mb, kb, rfl, rfl⟩
theorem mActive_s {G : GH} {mb kb : Nat} {act : Bool} {D : List Ls} : Con Tryd.prog 12 #[.pointer (some ⟨mb, 0, none⟩)] G [(mb, mcO kb act D)] (Keeps (.bool act) G [(mb, mcO kb act D)]) := by
  (refine v_enter Tryd.func12 rfl Tryd.ntmps12 rfl ?_; intro B _)
  repeat' (first | apply v_seq | apply v_region | apply v_nil | (apply v_take; (case hg => rfl)) | (apply v_pure; (case hop => first | (apply p_move <;> rfl) | (apply p_assign <;> rfl) | (apply p_pickT <;> rfl) | (apply p_fieldAddrB <;> rfl) | (apply p_nilCheck <;> rfl) | (apply p_neNil <;> rfl) | fail); (case hd => rfl)) | (apply v_read; (case hop => (apply r_load1; rfl; (apply Cell.own; (case h => (repeat (exact mhd _))); rfl))); (case hd => rfl)) | fail)
  all_goals exact v_ret [(mb, mcO kb act D)] (outsA1 rfl rfl) (List.Sublist.refl _) ⟨rfl, rfl, rfl⟩
theorem mActive0_s (G : GH) : Con Tryd.prog 12 #[.pointer none] G [] (Just (.bool false) G) := by
  apply Con.just
  (refine v_enter Tryd.func12 rfl Tryd.ntmps12 rfl ?_; intro B _)
  repeat' (first | apply v_seq | apply v_region | apply v_nil | (apply v_pass; (case hg => rfl); (case hn => rfl); (case hd => rfl)) | (apply v_pure; (case hop => first | (apply p_move <;> rfl) | (apply p_assign <;> rfl) | (apply p_pickF <;> rfl) | (apply p_neNil <;> rfl) | fail); (case hd => rfl)) | fail)
  all_goals exact v_ret [] (outsA1 rfl rfl) (by repeat (exact List.Sublist.refl _)) ⟨rfl, rfl⟩
theorem mState0_s (G : GH) : Con Tryd.prog 11 #[.pointer none] G [] (Just stZ G) := by
  apply Con.just
  (refine v_enter Tryd.func11 rfl Tryd.ntmps11 rfl ?_; intro B _)
  repeat' (first | apply v_seq | apply v_region | apply v_nil | (apply v_pure; (case hop => first | (apply p_move <;> rfl) | (apply p_eqNil <;> rfl) | (apply p_build; (case hz => rfl); (case hv => (simp only [List.map_cons, List.map_nil]; repeat (with_reducible exact evs_nil))); (case hb => (apply bldL; repeat (exact bld_nil)))) | fail); (case hd => rfl)) | (apply v_condT; (case hc => rfl)) | (apply v_alloc; (case hz => rfl); (case hd => rfl); intro b) | (apply v_store; (case hp => rfl); (case hx => rfl); (case hc => rfl); (case hsz => rfl); (case h1 => rfl); (case hb => (repeat (exact mhd _))); (case hfit => exact nle rfl); (case hov => ((repeat (first | with_reducible exact ov_nil | apply ov_cons)); done)); (case hu => repeat (exact Upd.here _ _))) | fail)
  refine v_retM [] (outsM_cell (sz := 3) (vs := [.int .i64 0, .slice none 0 0, .slice none 0 0]) (e := 36) rfl rfl (by repeat (exact mhd _)) rfl) (by repeat (exact List.nil_sublist _)) ⟨rfl, rfl⟩
theorem sorted_keys {L l : List Pr} (hp : L.Perm l) (hr : RiseW ksP l) (hz : Sized l) {xs : List ByteArray} (hx : xs.Perm ((L.map prE).map (·.1))) : sortT xs = l.map (·.key) := by
  rw [prE_keys] at hx
  have h1 : (sortT xs).Perm (l.map (·.key)) := (sortT_perm xs).trans (hx.trans (hp.map _))
  have hzx : ∀ s ∈ xs, s.size ≤ 200 := fun s hs => by
    obtain ⟨p, hp2, rfl⟩ := List.mem_map.1 ((hx.trans (hp.map _)).mem_iff.1 hs)
    exact (hz p hp2).1
  have h2 := sortT_le xs hzx
  have h3 : (l.map (·.key)).Pairwise (fun a b => kn a ≤ kn b) := List.pairwise_map.2 (hr.imp fun {a b} h => by simp only [ksP] at h; omega)
  have hz1 : ∀ s ∈ sortT xs, s.size ≤ 200 := fun s hs => hzx s ((sortT_perm xs).mem_iff.1 hs)
  refine List.Perm.eq_of_pairwise (le := fun a b => kn a ≤ kn b) ?_ h2 h3 h1
  intro a b ha hb hab hba
  have ha2 : a.size ≤ 200 := hz1 a ha
  have hb2 : b.size ≤ 200 := hz1 b (h1.mem_iff.2 hb)
  exact (kn_inj ha2 hb2).1 (by omega)
def keyC (s : ByteArray) : List Value := [.string s]
theorem keyC_len (s : ByteArray) : (keyC s).length = 1 := rfl
theorem rowC_keys (l : List ByteArray) : l.map Value.string = rowC keyC l := by
  induction l with
  | nil => rfl
  | cons x l ih => rw [rowC_cons, List.map_cons, ih]; rfl
theorem findP_at {l : List Pr} (hr : RiseW ksP l) {i : Nat} (hi : i < l.length) : findP l (kn (l[i]).key) = l[i] := by
  have hh : hitG ksP l (kn (l[i]).key) = true := (hit_iff hr).2 ⟨_, List.getElem_mem hi, rfl⟩
  obtain ⟨h1, h2⟩ := findP_hit hr hh
  exact rise_same hr h1 (List.getElem_mem hi) h2
section
variable {P : Program} {ty : TypeId} {σ : Env} {t : TypeId} {bytes : Nat} {zero : Value}
attribute [local semireducible] PureOp
theorem p_indexN {e : TypeId} {sz len : Nat} {x i : Operand} {vs us : List Value} {k : IntKind} {m : Nat} [Ty P t (.array len e)] [Lay P e true sz bytes zero] (hx : Env.ev σ x = some (.agg vs.toArray)) (hi : Env.ev σ i = some (.int k (m : Nat))) (h : m < len) (hu : (vs.drop (m * sz)).take sz = us) : PureOp P (.index t x i) ty σ (.agg us.toArray) := by
  subst hu
  intro dst pos af g ρ hρ w
  have e0 : vs.toArray.extract (m * sz) (m * sz + sz) = ((vs.drop (m * sz)).take sz).toArray := by
    apply Array.ext'
    simp
  have h1 : (0 : Int) ≤ ((m : Nat) : Int) ∧ ((m : Nat) : Int) < (len : Nat) := by omega
  simp only [execOp, hρ _ _ hx, hρ _ _ hi, Instr.index, asIntOf, Sem.run_bind, Sem.run_pure, Result.andThen_ok, run_under (t := t) (d := .array len e), h1, and_self, if_true, Int.toNat_natCast, Go.Vx.run_sizeOf (P := P) (t := e) (agg := true) (size := sz) (bytes := bytes) (zero := zero), part, Go.Vx.run_isAgg' (P := P) (t := e) (agg := true) (size := sz) (bytes := bytes) (zero := zero), e0]
end
theorem sesK_len (D : List Ls) : ∀ k, (sesK D k).length ≤ k
  | 0 => Nat.le_refl _
  | k + 1 => by
    have := sesK_len D k
    rw [sesK, List.length_append]
    unfold sesOne
    split <;> simp <;> omega
theorem mcArr {G : GH} {μ : OH} {mb kb : Nat} {act : Bool} {D : List Ls} {e : TypeId} (h : D.length = 9) (hb : Has μ mb (mcV kb act D) e) : CellsAt G μ ⟨mb, 0 + 2, none⟩ (rowC Ls.cells D) := by
  have := CellsAt.ownAt (G := G) (i := 0 + 2) (m := 63) hb
  have e2 : ((mcV kb act D).drop (0 + 2)).take 63 = rowC Ls.cells D := by
    show (rowC Ls.cells D).take 63 = _
    exact List.take_of_length_le (by rw [rowC_length Ls.len, h]; decide)
  rwa [e2] at this
set_option maxHeartbeats 4000000 in
theorem mState_s {G : GH} {mb kb : Nat} {s : St} {D : List Ls} {oM : Obj} (hs : StP s) (hm : MachR s D) (hM : MapP s.pairs oM) :
    Con Tryd.prog 11 #[.pointer (some ⟨mb, 0, none⟩)] G [(mb, mcO kb (decide (s.schema = 2)) D), (kb, oM)] (fun r G' μ' => StV G' s r ∧ μ' = [(mb, mcO kb (decide (s.schema = 2)) D), (kb, oM)]) := by
  have hw := hs.mapW
  obtain ⟨L, hp, hMB⟩ := id hM
  have hkeys := fun xs h => sorted_keys (xs := xs) hp hw.1 hw.2.1 h
  have hsch : s.schema = 1 ∨ s.schema = 2 := (stP_iff.1 hs).2.1
  have q1 := keysT_s (G := G) (m := kb)
  have q2 := fun bk => sortedT_s (gf := 60) (by have := hw.2.2.1; rw [List.length_map, hp.length_eq]; omega) (fun xs (h : xs.Perm ((L.map prE).map (·.1))) => by have h1 := h.length_eq; have := hw.2.2.1; rw [List.length_map, List.length_map, hp.length_eq] at h1; omega) (keysT_seq (G := G) (m := kb) (b := bk) hMB)
  have hz : s.schema = if decide (s.schema = 2) = true then 2 else 1 := by
    rcases hsch with h | h <;> rw [h] <;> rfl
  generalize ha : decide (s.schema = 2) = act at *
  (refine v_enter Tryd.func11 rfl Tryd.ntmps11 rfl ?_; intro B _)
  repeat' (first | (apply v_alloc (d := 2); (case hz => rfl); (case hd => rfl); intro b2) | (apply v_alloc (d := 3); (case hz => rfl); (case hd => rfl); intro b3) | apply v_seq | apply v_region | apply v_nil | apply v_skip | (apply v_pure; (case hop => first | (apply p_move <;> rfl) | (apply p_fieldAddrB <;> rfl) | (apply p_nilCheck <;> rfl) | (apply p_eqNil <;> rfl) | (apply p_build; (case hz => rfl); (case hv => (simp only [List.map_cons, List.map_nil]; repeat (first | with_reducible exact evs_nil | (apply evs_cons; (case h1 => rfl))))); (case hb => (apply bldL; repeat (first | exact bld_nil | (apply bld_cons; (case hpf => rfl); (case hc => rfl); (case hs => rfl); (case hl => rfl); (case ho => ((repeat (first | with_reducible exact ov_nil | apply ov_cons)); done))))))) | fail); (case hd => rfl)) | (apply v_condF; (case hc => rfl)) | (apply v_cond; (case hc => rfl); all_goals (intro h; (try simp only [reduceCtorEq, zzz] at h))) | (apply v_read; (case hop => (apply r_load1; rfl; (apply Cell.own; (case h => (repeat (first | exact mhd _ | apply mtl))); rfl))); (case hd => rfl)) | (apply v_store; (case hp => rfl); (case hx => rfl); (case hc => rfl); (case hsz => rfl); (case h1 => rfl); (case hb => (repeat (exact mhd _))); (case hfit => exact nle rfl); (case hov => ((repeat (first | with_reducible exact ov_nil | apply ov_cons)); done)); (case hu => repeat (exact Upd.here _ _))) | fail)
  all_goals
    (refine v_perm (ν := [(b3, .cells [.int .i64 s.schema, .slice none 0 0, .slice none 0 0].toArray 36 (0, 0)), (b2, .cells [.int .i64 0, .slice none 0 0, .slice none 0 0].toArray 36 (0, 0)), (mb, mcO kb act D), (kb, oM)]) (List.Perm.of_eq (by rw [hz]; simp [*])) ?_
     refine v_call (μ1 := []) rfl q1 (List.Perm.refl _) rfl ?_
     rintro _ G1 _ - ⟨bk, rfl, hG1, rfl⟩
     subst G1
     repeat' (fail)
     refine v_call (vs := [.func (.func 60) #[] #[.pointer (some ⟨bk, 0, none⟩)]]) (μ1 := [(bk, Obj.cells #[Value.map (some kb)] 64), (kb, oM)]) (μ2 := [(b3, .cells [.int .i64 s.schema, .slice none 0 0, .slice none 0 0].toArray 36 (0, 0)), (b2, .cells [.int .i64 0, .slice none 0 0, .slice none 0 0].toArray 36 (0, 0)), (mb, mcO kb act D)]) rfl (q2 bk) (by apply perm_of_count; intro p; simp only [List.append_eq, List.countP_append, List.countP_cons, List.countP_nil, Nat.zero_add, Nat.add_zero]; try ac_rfl) rfl ?_
     rintro kv G1 _ - ⟨hG1, xs, ν, hx, hgr, rfl⟩
     subst G1
     have hks := hkeys xs hx
     rw [hks] at hgr
     have hxl : xs.length = (s.pairs.map (·.key)).length := by rw [← hks]; exact (sortT_perm xs).length_eq.symm
     rw [hxl, rowC_keys] at hgr
     clear hx hks hkeys q1 q2
     refine v_frzP ν (List.Perm.of_eq (by rw [List.append_assoc])) ?_
     intro G1 hle1 hG1
     have hsl := row_of_grow keyC_len hgr hG1
     clear hgr hG1
     obtain ⟨KA, kc, rfl, hlc, hcm, hsome, hcp⟩ := rowOpen hsl
     rw [List.length_map] at hlc hsome
     simp only [maxLen] at hcm
     simp only [List.length_map]
     repeat' (first | apply v_nil | apply v_block | (apply v_pure; (case hop => first | (apply p_move <;> rfl) | (apply p_lenSlice <;> rfl) | fail); (case hd => rfl)) | fail)
     refine v_perm (ν := [(b3, .cells [.int .i64 s.schema, .slice none 0 0, .slice none 0 0].toArray 36 (0, 0)), (b2, .cells [.int .i64 0, .slice none 0 0, .slice none 0 0].toArray 36 (0, 0)), (mb, mcO kb act D), (kb, oM), (bk, Obj.cells #[Value.map (some kb)] 64)]) (by apply perm_of_count; intro p; simp only [List.append_eq, List.countP_append, List.countP_cons, List.countP_nil, Nat.zero_add, Nat.add_zero]; try ac_rfl) ?_
     refine v_drop (ν := [(b3, .cells [.int .i64 s.schema, .slice none 0 0, .slice none 0 0].toArray 36 (0, 0)), (b2, .cells [.int .i64 0, .slice none 0 0, .slice none 0 0].toArray 36 (0, 0)), (mb, mcO kb act D), (kb, oM)]) (by repeat (first | exact List.nil_sublist _ | apply List.Sublist.cons_cons)) ?_
     refine v_loop [24, 22, 23, 0, 3, 2] (fun us G' μ' => G' = G1 ∧ ∃ (k : Nat) (pA : Option Addr) (pc : Nat) (ν : OH), k ≤ s.pairs.length ∧ us = [Value.int .i64 (k : Nat), .slice KA s.pairs.length kc, .int .i64 (s.pairs.length : Nat), .pointer (some ⟨mb, 0, none⟩), .pointer (some ⟨b3, 0, none⟩), .pointer (some ⟨b2, 0, none⟩)] ∧ Grow 85 3 (.slice pA k pc) k (rowC Pr.cells (s.pairs.take k)) ν ∧ μ' = ν ++ [(b3, .cells [.int .i64 s.schema, .slice pA k pc, .slice none 0 0].toArray 36 (0, 0)), (b2, .cells [.int .i64 0, .slice none 0 0, .slice none 0 0].toArray 36 (0, 0)), (mb, mcO kb act D), (kb, oM)]) (fun us => s.pairs.length - (headI us).toNat) rfl ⟨rfl, 0, none, 0, [], by omega, rfl, Grow.nil _ _, rfl⟩ ?_
     rintro us G' _ ⟨hG', k, pA, pc, ν2, hk, rfl, hgr, rfl⟩
     subst G'
     have e1 : ((k : Nat) : Int).toNat = k := by omega
     by_cases hlt : k < s.pairs.length
     · have hA := hsome (by omega)
       have hck := (hcp k (by rw [List.length_map]; exact hlt)).head
       rw [List.getElem_map] at hck
       have hfa := findP_at hw.1 hlt
       have hkz := (hw.2.1 _ (List.getElem_mem hlt)).1
       have htk : s.pairs.take (k + 1) = s.pairs.take k ++ [s.pairs[k]] := by rw [List.take_succ_eq_append_getElem hlt]
       generalize s.pairs[k] = f at *
       obtain ⟨fk, fv, fr⟩ := f
       simp only at hck hfa hkz
       repeat' (first | apply v_seq | apply v_region | apply v_nil | apply v_skip | apply v_block | (apply v_pure; (case hop => first | (apply p_lt <;> rfl) | (apply p_assign <;> rfl) | (apply p_indexAddrS; (case hx => rfl); (case hi => rfl); (case h0 => omega); (case h => omega); (case hA => assumption)) | fail); (case hd => rfl)) | (apply v_cond; (case hc => rfl); all_goals (intro h; (try simp only [reduceCtorEq, zzz] at h); first | (exfalso; omega) | skip)) | (apply v_read; (case hop => (apply r_load1; rfl; exact Cell.frozen hck)); (case hd => rfl)) | fail)
       have hkl : k ≤ 64 := by have := hw.2.2.1; omega
       refine v_has (σ' := [(5, .string fk), (24, .int .i64 (k : Nat)), (22, .slice KA s.pairs.length kc), (23, .int .i64 (s.pairs.length : Nat)), (0, .pointer (some ⟨mb, 0, none⟩)), (3, .pointer (some ⟨b3, 0, none⟩)), (2, .pointer (some ⟨b2, 0, none⟩))]) ⟨rfl, rfl, rfl, rfl, rfl, rfl, rfl, trivial⟩ ?_
       refine d_start [(mb, mcO kb act D), (kb, oM)] (by kernel_rfl) (by kernel_rfl) (by kernel_rfl) (by intro e he; (simp at he; simp [he]; done)) ?_
       all_goals (apply dtk 0; (case hi => rfl); (case hop => (apply prd; apply p_fieldAddrB <;> rfl)); (case hq => kernel_rfl))
       all_goals (apply dtk 2; (case hi => rfl); (case hop => (apply prd; apply p_move <;> rfl)); (case hq => kernel_rfl))
       all_goals (apply dtk 3; (case hi => rfl); (case hop => (apply prd; apply p_move <;> rfl)); (case hq => kernel_rfl))
       all_goals (apply dtk 4; (case hi => rfl); (case hop => (apply prd; apply p_nilCheck <;> rfl)); (case hq => kernel_rfl))
       all_goals (apply dtk 5; (case hi => rfl); (case hop => (apply prd; apply p_fieldAddrB <;> rfl)); (case hq => kernel_rfl))
       all_goals (apply dtk 6; (case hi => rfl); (case hop => (apply r_load1; rfl; (apply Cell.own; (case h => (repeat (exact mhd _))); rfl))); (case hq => kernel_rfl))
       all_goals (apply dtk 7; (case hi => rfl); (case hop => (apply prd; apply p_move <;> rfl)); (case hq => kernel_rfl))
       all_goals (apply dtk 8; (case hi => rfl); (case hop => ((apply r_key fk ⟨fk, fv, fr⟩ hfa hw hM hkz; (case hb => repeat (first | exact mhd _ | apply mtl)); (case hx => rfl); (case hi => rfl)))); (case hq => kernel_rfl))
       all_goals (apply dtk 9; (case hi => rfl); (case hop => (apply prd; apply p_field1 <;> rfl)); (case hq => kernel_rfl))
       all_goals (apply dtk 10; (case hi => rfl); (case hop => (apply prd; apply p_move <;> rfl)); (case hq => kernel_rfl))
       all_goals (apply dtk 11; (case hi => rfl); (case hop => (apply prd; apply p_nilCheck <;> rfl)); (case hq => kernel_rfl))
       all_goals (apply dtk 12; (case hi => rfl); (case hop => (apply prd; apply p_fieldAddrB <;> rfl)); (case hq => kernel_rfl))
       all_goals (apply dtk 13; (case hi => rfl); (case hop => (apply r_load1; rfl; (apply Cell.own; (case h => (repeat (exact mhd _))); rfl))); (case hq => kernel_rfl))
       all_goals (apply dtk 14; (case hi => rfl); (case hop => (apply prd; apply p_move <;> rfl)); (case hq => kernel_rfl))
       all_goals (apply dtk 15; (case hi => rfl); (case hop => ((apply r_key fk ⟨fk, fv, fr⟩ hfa hw hM hkz; (case hb => repeat (first | exact mhd _ | apply mtl)); (case hx => rfl); (case hi => rfl)))); (case hq => kernel_rfl))
       all_goals (apply dtk 16; (case hi => rfl); (case hop => (apply prd; apply p_field1 <;> rfl)); (case hq => kernel_rfl))
       all_goals (apply dtk 17; (case hi => rfl); (case hop => (apply prd; apply p_build; (case hz => rfl); (case hv => (simp only [List.map_cons, List.map_nil]; repeat (first | with_reducible exact evs_nil | (apply evs_cons; (case h1 => rfl))))); (case hb => (apply bldL; repeat (first | exact bld_nil | (apply bld_cons; (case hpf => rfl); (case hc => rfl); (case hs => rfl); (case hl => rfl); (case ho => ((repeat (first | with_reducible exact ov_nil | apply ov_cons)); done)))))))); (case hq => kernel_rfl))
       focus
         refine d_fork 1 18 (by kernel_rfl) ?_ ?_
         rotate_right
         focus
           (apply x_buildSlice 18; (case hi => rfl); (case hT => infer_instance); (case hL => infer_instance); (case hz => rfl); (case hl => rfl); (case hv => (simp only [List.map_cons, List.map_nil]; repeat (first | with_reducible exact evs_nil | (apply evs_cons; (case h1 => rfl))))); (case hp => (apply pk_cons; (case hc => rfl); (case hs => rfl); (case h => (with_reducible exact pk_nil)); (case he => ((repeat (first | with_reducible exact ap_nil | apply ap_cons)); done)))); (case hb => rfl); (case hd => rfl); (case hν => intro e he; (simp at he; simp [he]; done)); intro sb)
           all_goals (apply d_keep 1 (hop := ReadOp.move ?hop); (case hi => rfl); (case hr => kernel_rfl); (case hop => (apply r_load1; rfl; (apply Cell.own; (case h => repeat (first | exact mhd _ | apply mtl | apply List.mem_append_right)); rfl))); (case hd => rfl))
           all_goals (apply d_append 19 (hg := hgr) (q' := 1) (us := [.string fk, .string fv, .int .i64 fr]) (hp := PickA.perm (by repeat (first | exact PickA.here _ | apply PickA.cons))) (hsrc := Src.own (e := 85) (List.Mem.head _) rfl); (case hi => rfl); (case hr => kernel_rfl); (case hT => infer_instance); (case hL => infer_instance); (case hzs => rfl); (case hsz => omega); (case hs => rfl); (case hx => rfl); (case hb => omega); (case hb' => simp only [maxLen]; omega); (case hd => rfl); (case h1 => rfl); (case hν => intro e he; (simp at he; simp [he]; done)); intro v5 n5 g5; obtain ⟨A5, c5, rfl, -, -⟩ := g5.shape)
           all_goals (apply dtk 20; (case hi => rfl); (case hop => (apply prd; apply p_fieldAddrB <;> rfl)); (case hq => kernel_rfl))
           all_goals (apply d_store 21; (case hi => rfl); (case hr => kernel_rfl); (case hL => infer_instance); (case hp => rfl); (case hx => rfl); (case hc => rfl); (case hsz => rfl); (case h1 => rfl); (case hb => (repeat (first | exact mhd _ | apply mtl | apply List.mem_append_right))); (case hfit => exact nle rfl); (case hov => ((repeat (first | with_reducible exact ov_nil | apply ov_cons)); done)); (case hu => repeat (first | exact Upd.here _ _ | apply Upd.there | apply Upd.app)); (case hν' => intro e he; (simp at he; simp [he]; done)))
           all_goals (apply d_done; (case hr => kernel_rfl))
         rotate_right
         focus
           (apply x_exec 1; (case hi => rfl);  (case hop => exact ReadOp.move (r_load1 rfl (Cell.own (by repeat (first | exact mhd _ | apply List.mem_append_right)) rfl))); (case hd => rfl); rintro _ G0 _ ⟨rfl, hG0, rfl⟩; subst G0; refine ⟨(by intro e he; simp only [List.mem_cons, List.not_mem_nil, or_false] at he; rcases he with rfl | rfl <;> simp), ?_⟩)
           all_goals (apply d_buildSlice 18; (case hi => rfl); (case hr => kernel_rfl); (case hT => infer_instance); (case hL => infer_instance); (case hz => rfl); (case hl => rfl); (case hv => (simp only [List.map_cons, List.map_nil]; repeat (first | with_reducible exact evs_nil | (apply evs_cons; (case h1 => rfl))))); (case hp => (apply pk_cons; (case hc => rfl); (case hs => rfl); (case h => (with_reducible exact pk_nil)); (case he => ((repeat (first | with_reducible exact ap_nil | apply ap_cons)); done)))); (case hb => rfl); (case hd => rfl); (case hν => intro e he; (simp at he; simp [he]; done)); intro sb)
           all_goals (apply d_append 19 (hg := hgr) (q' := 1) (us := [.string fk, .string fv, .int .i64 fr]) (hp := PickA.perm (by repeat (first | exact PickA.here _ | apply PickA.cons))) (hsrc := Src.own (e := 85) (List.Mem.head _) rfl); (case hi => rfl); (case hr => kernel_rfl); (case hT => infer_instance); (case hL => infer_instance); (case hzs => rfl); (case hsz => omega); (case hs => rfl); (case hx => rfl); (case hb => omega); (case hb' => simp only [maxLen]; omega); (case hd => rfl); (case h1 => rfl); (case hν => intro e he; (simp at he; simp [he]; done)); intro v5 n5 g5; obtain ⟨A5, c5, rfl, -, -⟩ := g5.shape)
           all_goals (apply dtk 20; (case hi => rfl); (case hop => (apply prd; apply p_fieldAddrB <;> rfl)); (case hq => kernel_rfl))
           all_goals (apply d_store 21; (case hi => rfl); (case hr => kernel_rfl); (case hL => infer_instance); (case hp => rfl); (case hx => rfl); (case hc => rfl); (case hsz => rfl); (case h1 => rfl); (case hb => (repeat (first | exact mhd _ | apply mtl | apply List.mem_append_right))); (case hfit => exact nle rfl); (case hov => ((repeat (first | with_reducible exact ov_nil | apply ov_cons)); done)); (case hu => repeat (first | exact Upd.here _ _ | apply Upd.there | apply Upd.app)); (case hν' => intro e he; (simp at he; simp [he]; done)))
           all_goals (apply d_done; (case hr => kernel_rfl))
       all_goals repeat' (first | apply v_region | apply v_nil | apply v_blk | (apply v_pure; (case hop => first | (apply p_move <;> rfl) | (apply p_add; (case hx => rfl); (case hy => rfl); (case h => omega)) | fail); (case hd => rfl)) | fail)
       all_goals
         (refine v_perm (ν := (n5 ++ [(b3, .cells [.int .i64 s.schema, .slice A5 (k + 1) c5, .slice none 0 0].toArray 36 (0, 0)), (b2, .cells [.int .i64 0, .slice none 0 0, .slice none 0 0].toArray 36 (0, 0)), (mb, mcO kb act D), (kb, oM)]) ++ [(sb, .cells [.string fk, .string fv, .int .i64 fr].toArray 85)]) (by apply perm_of_count; intro p; simp only [List.append_eq, List.countP_append, List.countP_cons, List.countP_nil, Nat.zero_add, Nat.add_zero]; try ac_rfl) ?_
          refine v_drop (List.sublist_append_left _ _) ?_
          exact v_again rfl ⟨rfl, k + 1, A5, c5, n5, by omega, rfl, by rw [htk, rowC_append]; simpa [rowC, Pr.cells] using g5, rfl⟩ (by simp [headI]; omega))
     · obtain rfl : k = s.pairs.length := by omega
       rw [List.take_length] at hgr
       have hP := fun (G2 : GH) h => row_of_grow Pr.len (l := s.pairs) (G' := G2) hgr h
       clear hgr hcp hsl hsome hlt
       refine v_frzP ν2 (List.Perm.refl _) ?_
       intro G2 hle2 hG2
       have hps := hP G2 hG2
       clear hP hG2
       repeat' (first | apply v_seq | apply v_region | apply v_nil | apply v_block | (apply v_exit; (case hp => rfl)) | (apply v_pure; (case hop => first | (apply p_move <;> rfl) | (apply p_lt <;> rfl) | (apply p_fieldAddrB <;> rfl) | (apply p_nilCheck <;> rfl) | fail); (case hd => rfl)) | (apply v_cond; (case hc => rfl); all_goals (intro h; (try simp only [reduceCtorEq, zzz] at h); first | (exfalso; omega) | skip)) | (apply v_read; (case hop => (apply r_loadN; rfl; exact mcArr hm.len (by repeat (first | exact mhd _ | apply mtl)); rw [rowC_length Ls.len, hm.len])); (case hd => rfl)) | fail)
       refine v_loop [54, 53, 3, 2] (fun us G' μ' => G' = G2 ∧ ∃ (k : Nat) (sA : Option Addr) (sc : Nat) (ν : OH), k ≤ 9 ∧ us = [Value.int .i64 (k : Nat), .agg (rowC Ls.cells D).toArray, .pointer (some ⟨b3, 0, none⟩), .pointer (some ⟨b2, 0, none⟩)] ∧ Grow 87 8 (.slice sA (sesK D k).length sc) (sesK D k).length (rowC Ss.cells (sesK D k)) ν ∧ μ' = ν ++ [(b3, .cells [.int .i64 s.schema, .slice pA s.pairs.length pc, .slice sA (sesK D k).length sc].toArray 36 (0, 0)), (b2, .cells [.int .i64 0, .slice none 0 0, .slice none 0 0].toArray 36 (0, 0)), (mb, mcO kb act D), (kb, oM)]) (fun us => 9 - (headI us).toNat) rfl ⟨rfl, 0, none, 0, [], by omega, rfl, Grow.nil _ _, rfl⟩ ?_
       rintro us G' _ ⟨hG', k, sA, sc, ν2, hk, rfl, hgr, rfl⟩
       subst G'
       have e1 : ((k : Nat) : Int).toNat = k := by omega
       by_cases hlt : k < 9
       · have hat : ((rowC Ls.cells D).drop (k * 7)).take 7 = (dAt D k).cells := by rw [rowC_at Ls.len D k (by rw [hm.len]; exact hlt), dAt_get (by rw [hm.len]; exact hlt)]
         have hsl : (sesK D k).length ≤ 9 := by
           have := sesK_len D k
           omega
         have hnx : sesK D (k + 1) = sesK D k ++ sesOne D k := rfl
         unfold sesOne at hnx
         generalize dAt D k = x at *
         obtain ⟨xq, ⟨ac, aq, ae, af, av, ar⟩⟩ := x
         simp only at hnx
         have hy : 0 < xq → (sesK D (k + 1)).length = (sesK D k).length + 1 ∧ rowC Ss.cells (sesK D (k + 1)) = rowC Ss.cells (sesK D k) ++ [.int .i64 (k : Nat), .int .i64 xq, .int .i64 ac, .int .i64 aq, .int .i64 ae, .bool af, .string av, .int .i64 ar] := fun h => by
           rw [hnx, if_pos h, rowC_append, List.length_append]
           exact ⟨rfl, by simp [rowC, Ss.cells, An.cells]⟩
         have hno : ¬ 0 < xq → sesK D (k + 1) = sesK D k := fun h => by rw [hnx, if_neg h, List.append_nil]
         clear hnx
         generalize hS0 : sesK D k = S0 at *
         repeat' (first | (apply v_alloc (d := 7); (case hz => rfl); (case hd => rfl); intro b7) | apply v_seq | apply v_region | apply v_nil | apply v_skip | apply v_block | apply v_blk | (apply v_pure; (case hop => first | (apply p_move <;> rfl) | (apply p_lt <;> rfl) | (apply p_gt <;> rfl) | (apply p_assign <;> rfl) | (apply p_fieldAddrB <;> rfl) | (apply p_add; (case hx => rfl); (case hy => rfl); (case h => omega)) | (apply p_build; (case hz => rfl); (case hv => (simp only [List.map_cons, List.map_nil]; repeat (first | with_reducible exact evs_nil | (apply evs_cons; (case h1 => rfl))))); (case hb => (apply bldL; repeat (first | exact bld_nil | (apply bld_cons; (case hpf => rfl); (case hc => rfl); (case hs => rfl); (case hl => rfl); (case ho => ((repeat (first | with_reducible exact ov_nil | apply ov_cons)); done))))))) | fail); (case hd => rfl)) | (apply v_cond; (case hc => rfl); all_goals (intro h; (try simp only [reduceCtorEq, zzz] at h); first | (exfalso; omega) | skip)) | (apply v_pure; (case hop => (apply p_indexN (us := Ls.cells ⟨xq, ⟨ac, aq, ae, af, av, ar⟩⟩); (case hx => rfl); (case hi => rfl); (case h => omega); (case hu => exact hat))); (case hd => rfl)) | (apply v_read; (case hop => first | (apply r_loadNo; (case hx => rfl); (case h => (repeat (exact mhd _))); (case hd => (repeat (first | with_reducible exact dt_nil | apply dt_here))); (case hn => rfl)) | (apply r_load1; rfl; (apply Cell.own; (case h => (repeat (first | exact mhd _ | apply mtl | apply List.mem_append_right))); rfl)) | fail); (case hd => rfl)) | (apply v_buildSlice; (case hz => rfl); (case hi => rfl); (case hv => (simp only [List.map_cons, List.map_nil]; repeat (first | with_reducible exact evs_nil | (apply evs_cons; (case h1 => rfl))))); (case hp => (apply pk_cons; (case hc => rfl); (case hs => rfl); (case h => (with_reducible exact pk_nil)); (case he => ((repeat (first | with_reducible exact ap_nil | apply ap_cons)); done)))); (case hb => rfl); (case hd => rfl); intro b) | (apply v_store; (case hp => rfl); (case hx => rfl); (case hc => rfl); (case hsz => rfl); (case h1 => rfl); (case hb => (repeat (exact mhd _))); (case hfit => exact nle rfl); (case hov => ((repeat (first | with_reducible exact ov_nil | apply ov_cons)); done)); (case hu => repeat (exact Upd.here _ _))) | fail)
         · obtain ⟨y1, y2⟩ := hy (by assumption)
           repeat' (first | apply v_region | apply v_nil | apply v_blk | (apply v_pure; (case hop => first | (apply p_move <;> rfl) | (apply p_fieldAddrB <;> rfl) | (apply p_add; (case hx => rfl); (case hy => rfl); (case h => omega)) | fail); (case hd => rfl)) | (apply v_append (hg := hgr) (m' := 1) (us := [.int .i64 (k : Nat), .int .i64 xq, .int .i64 ac, .int .i64 aq, .int .i64 ae, .bool af, .string av, .int .i64 ar]) (hp := PickA.perm (by repeat (first | exact PickA.here _ | apply PickA.cons))) (hsrc := Src.own (e := 87) (by repeat (exact mhd _)) rfl); (case hzs => rfl); (case hsz => omega); (case hs => rfl); (case hx => rfl); (case hb => omega); (case hb' => simp only [maxLen]; omega); (case hd => rfl); (case h1 => rfl); intro v3 n3 hg3; obtain ⟨A3, c3, rfl, -, -⟩ := hg3.shape) | (apply v_store; (case hp => rfl); (case hx => rfl); (case hc => rfl); (case hsz => rfl); (case h1 => rfl); (case hb => (repeat (first | exact mhd _ | apply mtl | apply List.mem_append_right))); (case hfit => exact nle rfl); (case hov => ((repeat (first | with_reducible exact ov_nil | apply ov_cons)); done)); (case hu => repeat (first | exact Upd.here _ _ | apply Upd.there | apply Upd.app))) | fail)
           refine v_perm (ν := (n3 ++ [(b3, .cells [.int .i64 s.schema, .slice pA s.pairs.length pc, .slice A3 (S0.length + 1) c3].toArray 36 (0, 0)), (b2, .cells [.int .i64 0, .slice none 0 0, .slice none 0 0].toArray 36 (0, 0)), (mb, mcO kb act D), (kb, oM)]) ++ [(b, _), (b7, _)]) (by apply perm_of_count; intro p; simp only [List.append_eq, List.countP_append, List.countP_cons, List.countP_nil, Nat.zero_add, Nat.add_zero]; try ac_rfl) ?_
           refine v_drop (List.sublist_append_left _ _) ?_
           exact v_again rfl ⟨rfl, k + 1, A3, c3, n3, by omega, rfl, by rw [y1, y2]; exact hg3, by rw [y1]⟩ (by simp [headI]; omega)
         · have y := hno (by assumption)
           refine v_perm (ν := (ν2 ++ [(b3, .cells [.int .i64 s.schema, .slice pA s.pairs.length pc, .slice sA S0.length sc].toArray 36 (0, 0)), (b2, .cells [.int .i64 0, .slice none 0 0, .slice none 0 0].toArray 36 (0, 0)), (mb, mcO kb act D), (kb, oM)]) ++ [(b7, _)]) (by apply perm_of_count; intro p; simp only [List.append_eq, List.countP_append, List.countP_cons, List.countP_nil, Nat.zero_add, Nat.add_zero]; try ac_rfl) ?_
           refine v_drop (List.sublist_append_left _ _) ?_
           exact v_again rfl ⟨rfl, k + 1, sA, sc, ν2, by omega, rfl, by rw [y]; exact hgr, by rw [y]⟩ (by simp [headI]; omega)
       · obtain rfl : k = 9 := by omega
         rw [← hm.ses] at hgr ⊢
         have hQ := fun (G2 : GH) h => row_of_grow Ss.len (l := s.sess) (G' := G2) hgr h
         refine v_frzP ν2 (List.Perm.refl _) ?_
         intro G3 hle3 hG3
         have hss := hQ G3 hG3
         repeat' (first | apply v_seq | apply v_region | apply v_nil | (apply v_exit; (case hp => rfl)) | (apply v_pure; (case hop => (apply p_lt <;> rfl)); (case hd => rfl)) | (apply v_cond; (case hc => rfl); all_goals (intro h; (try simp only [reduceCtorEq, zzz] at h); first | (exfalso; omega) | skip)) | (apply v_read; (case hop => (apply r_loadNo; (case hx => rfl); (case h => (repeat (exact mhd _))); (case hd => (repeat (first | with_reducible exact dt_nil | apply dt_here))); (case hn => rfl))); (case hd => rfl)) | (apply v_store; (case hp => rfl); (case hx => rfl); (case hc => rfl); (case hsz => rfl); (case h1 => rfl); (case hb => (repeat (first | exact mhd _ | apply mtl))); (case hfit => exact nle rfl); (case hov => ((repeat (first | with_reducible exact ov_nil | apply ov_cons)); done)); (case hu => repeat (first | exact Upd.here _ _ | apply Upd.there))) | fail)
         refine v_perm (ν := [(mb, mcO kb act D), (kb, oM), (b3, _), (b2, .cells [.int .i64 s.schema, .slice pA s.pairs.length pc, .slice sA s.sess.length sc].toArray 36 (0, 0))]) (by apply perm_of_count; intro p; simp only [List.append_eq, List.countP_append, List.countP_cons, List.countP_nil, Nat.zero_add, Nat.add_zero]; try ac_rfl) ?_
         refine v_retM [(mb, mcO kb act D), (kb, oM)] (outsM_cell (sz := 3) (vs := [.int .i64 s.schema, .slice pA s.pairs.length pc, .slice sA s.sess.length sc]) (e := 36) rfl rfl (by repeat (first | exact mhd _ | apply mtl)) rfl) (by repeat (first | exact List.nil_sublist _ | apply List.Sublist.cons_cons)) ⟨⟨pA, pc, sA, sc, rfl, hps.mono hle3, hss⟩, rfl⟩)
end Go.Proofs.YtmdeeokejdkceaaDoor
/-
  app's law (layer 28): awake.
-/
set_option linter.unusedSimpArgs false
set_option linter.unusedVariables false
namespace Go.Proofs.YtmdeeokejdkceaaDoor
open Go.Vx Go.ChangeShapes Go.WideShapes Go.ChangeAt Go.RowKit
theorem emp_v (G : GH) : StV G emp (.agg [.int .i64 1, .slice none 0 0, .slice none 0 0].toArray) := by
  refine ⟨none, 0, none, 0, rfl, ?_, ?_⟩
  · exact row_of_grow Pr.len (Grow.nil 85 3) (fun b o h => by cases h)
  · exact row_of_grow Ss.len (Grow.nil 87 8) (fun b o h => by cases h)
section
attribute [local semireducible] Vc DVc Con PureOp ReadOp MoveOp
theorem Con.give {P : Program} {f : FuncId} {args : Array Value} {G : GH} {ν : OH} {Ψ : Value → GH → OH → Prop} (h : ∀ G', GH.le G G' → (∀ b o, (b, o) ∈ ν → G' b = some o) → Con P f args G' [] Ψ) : Con P f args G ν Ψ := by
  intro w hw
  have s1 : Step G ν w G (ν ++ []) w := by rw [List.append_nil]; exact Step.refl hw
  have s2 := s1.freeze
  have hn := s1.mem.nodup
  rw [List.append_nil] at hn
  refine (h _ (GH.le_put _ _) (fun b o hb => GH.put_mem hn (hw.apart b o hb) hb) w s2.mem).mono fun v w' ⟨G', μ', hs, hΦ⟩ => ⟨G', μ', s2.trans hs, hΦ⟩
end
theorem madeC {G : GH} {l : List Cm} {b : Nat} (h : l.length ≤ 200) (hb : G b = some (.cells (rowC Cm.cells l).toArray 32 (0, 0))) : Cms G (.slice (some ⟨b, 0, none⟩) l.length l.length) l := by
  have hg : Grow 32 7 (.slice (some ⟨b, 0, none⟩) l.length l.length) l.length (rowC Cm.cells l) [(b, .cells (rowC Cm.cells l).toArray 32 (0, 0))] :=
    ⟨rowC_length Cm.len l, .inr ⟨b, l.length, [], rfl, by rw [List.append_nil], Nat.le_refl _, by simp only [maxLen]; omega, by rw [List.append_nil]; exact rowC_length Cm.len l⟩⟩
  exact row_of_grow Cm.len hg (fun b' o h => by simp only [List.mem_singleton] at h; cases h; exact hb)
end Go.Proofs.YtmdeeokejdkceaaDoor
/-
  spec (layer 29): Answers; awake.
-/
set_option linter.unusedSimpArgs false
set_option linter.unusedVariables false
namespace Go.Proofs.YtmdeeokejdkceaaDoor
open Go.Vx Go.ChangeShapes Go.WideShapes Go.ChangeAt Go.RowKit
noncomputable def specA (s : St) (acc : List An) : List Cm → St × List An
  | [] => (s, acc)
  | c :: l => specA (specS s c).1 (acc ++ [(specS s c).2]) l
theorem specA_ok : ∀ (l : List Cm) {s : St} {acc : List An}, StP s → StP (specA s acc l).1
  | [], _, _, h => h
  | c :: l, _, _, h => specA_ok l (specS_ok h)
theorem specA_snoc : ∀ (l : List Cm) (s : St) (acc : List An) (c : Cm), specA s acc (l ++ [c]) = ((specS (specA s acc l).1 c).1, (specA s acc l).2 ++ [(specS (specA s acc l).1 c).2])
  | [], _, _, _ => rfl
  | x :: l, s, acc, c => specA_snoc l (specS s x).1 (acc ++ [(specS s x).2]) c
theorem specA_len : ∀ (l : List Cm) (s : St) (acc : List An), (specA s acc l).2.length = acc.length + l.length
  | [], _, _ => rfl
  | x :: l, s, acc => by
    show (specA (specS s x).1 (acc ++ [(specS s x).2]) l).2.length = _
    rw [specA_len l, List.length_append, List.length_singleton, List.length_cons]
    omega
set_option maxHeartbeats 2000000 in
theorem answers_s {G : GH} (hT : TabsG G) {lv : Value} {l : List Cm} (hl : Cms G lv l) (hlw : CmsW l) :
    Con Tryd.prog 14 #[lv] G [] (fun r G' μ' => GrA r (specA emp [] l).2 μ') := by
  have hq := mnew_s G
  obtain ⟨LA, lc, rfl, hlc, hcm, hsome, hcp⟩ := rowOpen hl
  simp only [maxLen] at hcm
  (refine v_enter Tryd.func14 rfl Tryd.ntmps14 rfl ?_; intro B _)
  repeat' (first | apply v_seq | apply v_region | apply v_nil | (apply v_pure; (case hop => (apply p_assign <;> rfl)); (case hd => rfl)) | fail)
  refine v_call (μ1 := []) rfl hq (List.Perm.refl _) rfl ?_
  rintro _ G1 _ - ⟨hG1, mb, kb, rfl, rfl⟩
  subst G1
  repeat' (first | apply v_seq | apply v_region | apply v_nil | apply v_block | (apply v_pure; (case hop => first | (apply p_move <;> rfl) | (apply p_assign <;> rfl) | (apply p_lenSlice <;> rfl) | fail); (case hd => rfl)) | fail)
  refine v_loop [10, 9, 8, 4, 3] (fun us G' μ' => GH.le G G' ∧ ∃ (k : Nat) (s1 : St) (D : List Ls) (oM : Obj) (acc : List An) (av : Value) (ν : OH), k ≤ l.length ∧ us = [Value.int .i64 (k : Nat), .int .i64 (l.length : Nat), .slice LA l.length lc, av, .pointer (some ⟨mb, 0, none⟩)] ∧ μ' = (mb, mcO kb (decide (s1.schema = 2)) D) :: (kb, oM) :: ν ∧ GrA av acc ν ∧ StP s1 ∧ MachR s1 D ∧ MapP s1.pairs oM ∧ acc.length ≤ k ∧ specA emp [] l = specA s1 acc (l.drop k)) (fun us => l.length - (headI us).toNat) rfl ⟨GH.le_refl _, 0, emp, D0, _, [], .slice none 0 0, [], by omega, rfl, rfl, Grow.nil _ _, emp_ok, mach0, map0, Nat.le_refl _, rfl⟩ ?_
  rintro us G' _ ⟨hle, k, s1, D, oM, acc, av, ν, hk, rfl, rfl, hga, hok1, hm1, hM1, hak, hrun⟩
  have hn := hlw.1
  have hT' := hT.up hle
  by_cases hlt : k < l.length
  · have e1 : ((k : Nat) : Int).toNat = k := by omega
    have hA := hsome (by omega)
    obtain ⟨-, -, -, -, -, -, hcp'⟩ := rowOpen' (hl.mono hle)
    have hck := hcp' k hlt
    obtain ⟨hxo, hxw⟩ := hlw.2 _ (List.getElem_mem hlt)
    have hdo := mdo_s hT' (mb := mb) (kb := kb) (l[k]) hok1 hm1 hM1 hxo hxw.2
    have hkp : StP (specS s1 l[k]).1 := specS_ok hok1
    have hnx : specA emp [] l = specA (specS s1 l[k]).1 (acc ++ [(specS s1 l[k]).2]) (l.drop (k + 1)) := by
      rw [hrun, List.drop_eq_getElem_cons hlt]; rfl
    rw [hnx]
    clear hrun hxo hxw
    generalize specS s1 l[k] = ap at *
    obtain ⟨s5, ⟨ac, aq, ae, af, av5, ar⟩⟩ := ap
    generalize l[k] = x at *
    obtain ⟨kind, cl, seq, key, val, old, node⟩ := x
    simp only at *
    repeat' (first | (apply v_read; (case hop => (apply r_loadN; rfl; exact CellsAt.frozen hck; rfl)); (case hd => rfl)) | (apply v_alloc (d := 6); (case hz => rfl); (case hd => rfl); intro b6) | (apply v_read; (case hop => (apply r_loadNo; (case hx => rfl); (case h => repeat (exact mhd _)); (case hd => rfl); (case hn => rfl))); (case hd => rfl)) | apply v_seq | apply v_region | apply v_nil | apply v_skip | apply v_block | (apply v_pure; (case hop => first | (apply p_move <;> rfl) | (apply p_lt <;> rfl) | (apply p_indexAddrS; (case hx => rfl); (case hi => rfl); (case h0 => omega); (case h => omega); (case hA => assumption)) | fail); (case hd => rfl)) | (apply v_cond; (case hc => rfl); all_goals (intro h; (try simp only [reduceCtorEq, zzz] at h); first | (exfalso; omega) | skip)) | (apply v_store; (case hp => rfl); (case hx => rfl); (case hc => rfl); (case hsz => rfl); (case h1 => rfl); (case hb => (repeat (exact mhd _))); (case hfit => exact nle rfl); (case hov => ((repeat (first | with_reducible exact ov_nil | apply ov_cons)); done)); (case hu => repeat (exact Upd.here _ _))) | fail)
    refine v_call (μ1 := [(mb, mcO kb (decide (s1.schema = 2)) D), (kb, oM)]) rfl hdo (PickA.perm (by repeat (first | exact PickA.here _ | apply PickA.cons))) rfl ?_
    rintro _ G5 _ hle5 ⟨D2, oM2, rfl, hm2, hM2, rfl⟩
    repeat' (first | apply v_region | apply v_nil | apply v_blk | (apply v_pure; (case hop => first | (apply p_move <;> rfl) | (apply p_assign <;> rfl) | (apply p_add; (case hx => rfl); (case hy => rfl); (case h => omega)) | fail); (case hd => rfl)) | (apply v_append (hg := hga) (m' := 1) (us := An.cells ⟨ac, aq, ae, af, av5, ar⟩) (hp := PickA.perm (by repeat (first | exact PickA.last | apply PickA.cons))) (hsrc := Src.own (e := 29) (by repeat (exact mhd _)) rfl); (case hzs => rfl); (case hsz => omega); (case hs => rfl); (case hx => rfl); (case hb => omega); (case hb' => simp only [maxLen]; omega); (case hd => rfl); (case h1 => rfl); intro v3 n3 hg3) | (apply v_buildSlice; (case hz => rfl); (case hi => rfl); (case hv => (simp only [List.map_cons, List.map_nil]; repeat (first | with_reducible exact evs_nil | (apply evs_cons; (case h1 => rfl))))); (case hp => (apply pk_cons; (case hc => rfl); (case hs => rfl); (case h => (with_reducible exact pk_nil)); (case he => ((repeat (first | with_reducible exact ap_nil | apply ap_cons)); done)))); (case hb => rfl); (case hd => rfl); intro b) | fail)
    have hga' := GrA.snoc hg3
    refine v_perm (ν := ((mb, mcO kb (decide (s5.schema = 2)) D2) :: (kb, oM2) :: n3) ++ [(b, _), (b6, _)]) (by apply perm_of_count; intro p; simp only [List.append_eq, List.countP_append, List.countP_cons, List.countP_nil, Nat.zero_add, Nat.add_zero]; try ac_rfl) ?_
    refine v_drop (List.sublist_append_left _ _) ?_
    exact v_again rfl ⟨GH.le_trans hle hle5, k + 1, s5, D2, oM2, _, v3, n3, by omega, rfl, rfl, hga', hkp, hm2, hM2, by rw [List.length_append, List.length_singleton]; omega, rfl⟩ (by simp [headI]; omega)
  · obtain rfl : k = l.length := by omega
    rw [hrun, List.drop_length]
    repeat' (first | apply v_seq | apply v_region | apply v_nil | (apply v_exit; (case hp => rfl)) | (apply v_pure; (case hop => first | (apply p_move <;> rfl) | (apply p_lt <;> rfl) | (apply p_assign <;> rfl) | fail); (case hd => rfl)) | (apply v_cond; (case hc => rfl); all_goals (intro h; (try simp only [reduceCtorEq, zzz] at h); first | (exfalso; omega) | skip)) | fail)
    refine v_ret ν (outsA1 rfl rfl) (List.Sublist.cons _ (List.Sublist.cons _ (List.Sublist.refl _))) hga
abbrev k1 : ByteArray := ⟨#[49]⟩
abbrev xc1 : Cm := ⟨2, 1, 1, kA, k1, ByteArray.empty, 0⟩
abbrev xc2 : Cm := ⟨3, 2, 1, kA, ByteArray.empty, ByteArray.empty, 0⟩
theorem val1 : valB k1 = true := by
  unfold valB
  have h0 : k1.size = 1 := rfl
  simp only [Bool.and_eq_true, decide_eq_true_eq, h0]
  refine ⟨⟨by omega, by decide +kernel⟩, fun i hi => ?_⟩
  obtain rfl : i = 0 := by omega
  decide +kernel
theorem xc1_ok : cmdI xc1 = 0 := by
  rw [cmdI_eq]
  unfold cmdE
  simp [keyA, val1, valB_empty]
theorem xc2_ok : cmdI xc2 = 0 := by
  rw [cmdI_eq]
  unfold cmdE
  simp [keyA, valB_empty]
abbrev xs1 : St := ⟨1, [⟨kA, k1, 0⟩], [⟨1, 1, ⟨1, 1, 0, false, ByteArray.empty, 0⟩⟩]⟩
theorem xrun1 : specS emp xc1 = (xs1, ⟨1, 1, 0, false, ByteArray.empty, 0⟩) := by
  unfold specS applyS clientS
  rw [xc1_ok]
  simp only [which_nil]
  have hP : HasP 1 2 := ⟨.inl rfl, by decide, by decide, fun h => absurd h (by decide)⟩
  simp [verS, doS, doOne, roomB, hitG, placeG, withG, sesOf, ans0, findP, zeroPr]
  exact ⟨by rw [if_pos hP], by rw [if_pos hP]⟩
theorem xrun2 : (specS xs1 xc2).2 = ⟨2, 1, 0, true, k1, 0⟩ := by
  have hw : whichS xs1.sess 2 1 = (0, zA) := by
    unfold whichS
    rw [if_pos (by decide)]
  have hP : HasP 1 3 := ⟨.inl rfl, by decide, by decide, fun h => absurd h (by decide)⟩
  have hr : RiseW ksP xs1.pairs := List.pairwise_singleton _ _
  have hh : hitG ksP xs1.pairs (kn xc2.key) = true := (hit_iff hr).2 ⟨⟨kA, k1, 0⟩, List.mem_singleton.2 rfl, rfl⟩
  have hf : findP xs1.pairs (kn xc2.key) = ⟨kA, k1, 0⟩ := findP_at (l := xs1.pairs) (i := 0) hr (by decide)
  have hd : (doS 1 xs1.pairs xc2).2 = ⟨2, 1, 0, true, k1, 0⟩ := by
    unfold doS
    rw [if_pos rfl]
    unfold doOne
    rw [if_neg (by decide), if_pos rfl, hh, hf]
    rfl
  have hc : (clientS xs1 xc2).2 = ⟨2, 1, 0, true, k1, 0⟩ := by
    unfold clientS
    rw [show whichS xs1.sess xc2.client xc2.seq = (0, zA) from hw, if_neg (by decide), if_neg (by decide), if_pos (show HasP (verS xs1.schema) xc2.kind from hP)]
    exact hd
  unfold specS applyS
  rw [xc2_ok, if_neg (by simp), if_neg (by simp), if_pos (by decide)]
  exact hc
theorem xrun : (specA emp [] [xc1, xc2]).2 = [⟨1, 1, 0, false, ByteArray.empty, 0⟩, ⟨2, 1, 0, true, k1, 0⟩] := by
  show [(specS emp xc1).2, (specS (specS emp xc1).1 xc2).2] = _
  rw [xrun1, xrun2]
theorem awake29_s {G : GH} (hT : TabsG G) : Con Tryd.prog 6 #[] G [] (fun r G' μ' => r = .bool true ∧ μ' = []) := by
  have hlw : CmsW [xc1, xc2] := ⟨by decide, fun c hc => by
    have h1 : xc1.ok ∧ CmW xc1 := ⟨⟨by decide, by decide, by decide, by decide, by decide, by decide, by decide⟩, by decide, by decide⟩
    have h2 : xc2.ok ∧ CmW xc2 := ⟨⟨by decide, by decide, by decide, by decide, by decide, by decide, by decide⟩, by decide, by decide⟩
    simp only [List.mem_cons, List.not_mem_nil, or_false] at hc
    rcases hc with rfl | rfl
    · exact h1
    · exact h2⟩
  have qr := fun G' (h : TabsG G') b (hb : G' b = some (.cells (rowC Cm.cells [xc1, xc2]).toArray 32 (0, 0))) => answers_s (lv := .slice (some ⟨b, 0, none⟩) 2 2) (l := [xc1, xc2]) h (madeC (l := [xc1, xc2]) (by decide) hb) hlw
  rw [xrun] at qr
  have qg := fun b => Con.give (fun G' hle hG => qr G' (hT.up hle) b (hG _ _ (List.Mem.head _))) (G := G) (ν := [(b, .cells (rowC Cm.cells [xc1, xc2]).toArray 32 (0, 0))])
  (refine v_enter Tryd.func6 rfl Tryd.ntmps6 rfl ?_; intro B _)
  repeat' (first | apply v_seq | apply v_region | apply v_nil | (apply v_pure; (case hop => first | (apply p_assign <;> rfl) | (apply p_build; (case hz => rfl); (case hv => (simp only [List.map_cons, List.map_nil]; repeat (first | with_reducible exact evs_nil | (apply evs_cons; (case h1 => rfl))))); (case hb => (apply bldL; repeat (first | exact bld_nil | (apply bld_cons; (case hpf => rfl); (case hc => rfl); (case hs => rfl); (case hl => rfl); (case ho => ((repeat (first | with_reducible exact ov_nil | apply ov_cons)); done))))))) | fail); (case hd => rfl)) | (apply v_buildSlice; (case hz => rfl); (case hi => rfl); (case hv => (simp only [List.map_cons, List.map_nil]; repeat (first | with_reducible exact evs_nil | (apply evs_cons; (case h1 => rfl))))); (case hp => (apply pk_cons; (case hc => rfl); (case hs => rfl); (case h => (apply pk_cons; (case hc => rfl); (case hs => rfl); (case h => (with_reducible exact pk_nil)); (case he => ((repeat (first | with_reducible exact ap_nil | apply ap_cons)); done)))); (case he => ((repeat (first | with_reducible exact ap_nil | apply ap_cons)); done)))); (case hb => rfl); (case hd => rfl); intro b) | fail)
  refine v_call (vs := [.slice (some ⟨b, 0, none⟩) 2 2]) (μ1 := [(b, .cells (rowC Cm.cells [xc1, xc2]).toArray 32 (0, 0))]) (μ2 := []) rfl (qg b) (List.Perm.refl _) rfl ?_
  rintro r G2 ν2 hle2 hg2
  refine v_frzP ν2 (List.Perm.refl _) ?_
  intro G3 hle3 hG3
  obtain ⟨A7, c7, e7, hlc7, hcm7, hsome7, hcp7⟩ := rowOpen (row_of_grow An.len hg2 hG3)
  have e8 : r = .slice A7 2 c7 := e7
  subst e8
  clear e7 hg2
  have hA7 := hsome7 (by decide)
  have h3 := (hcp7 1 (by decide)).cell (j := 3) rfl
  have h4 := (hcp7 1 (by decide)).cell (j := 4) rfl
  repeat' (first | apply v_seq | apply v_region | apply v_nil | (apply v_take; (case hg => rfl)) | (apply v_pure; (case hop => first | (apply p_move <;> rfl) | (apply p_eqs <;> rfl) | (apply p_assign <;> rfl) | (apply p_pickT <;> rfl) | (apply p_lenSlice <;> rfl) | (apply p_fieldAddrB <;> rfl) | (apply p_indexAddrS; (case hx => rfl); (case hi => rfl); (case h0 => omega); (case h => omega); (case hA => assumption)) | (apply p_eqS <;> rfl) | fail); (case hd => rfl)) | (apply v_read; (case hop => first | (apply r_load1; rfl; exact Cell.frozen h3) | (apply r_load1; rfl; exact Cell.frozen h4)); (case hd => rfl)) | fail)
  all_goals
    (refine v_ret [] (outsA1 rfl rfl) (List.nil_sublist _) ⟨?_, rfl⟩
     first
       | rfl
       | (congr 1; exact dec_pos rfl))
theorem specS_bad {s : St} {c : Cm} (h : cmdI c ≠ 0) : specS s c = (s, zA) := by unfold specS; rw [if_pos h]
theorem specS_good {s : St} {c : Cm} (h : cmdI c = 0) : specS s c = ((applyS s c).1, (applyS s c).2.1) := by unfold specS; rw [if_neg (by simp [h])]
set_option maxHeartbeats 4000000 in
theorem refRun29_s {G : GH} {lv : Value} {l : List Cm} (hl : Cms G lv l) (hlw : CmsW l) :
    Con Tryd.prog 9 #[lv] G [] (fun r G' μ' => ∃ v' av, r = .tuple [v', av].toArray ∧ StV G' (specA emp [] l).1 v' ∧ GrA av (specA emp [] l).2 μ') := by
  obtain ⟨LA, lc, rfl, hlc, hcm, hsome, hcp⟩ := rowOpen hl
  simp only [maxLen] at hcm
  (refine v_enter Tryd.func9 rfl Tryd.ntmps9 rfl ?_; intro B _)
  repeat' (first | (apply v_alloc (d := 2); (case hz => rfl); (case hd => rfl); intro b2) | (apply v_alloc (d := 4); (case hz => rfl); (case hd => rfl); intro b4) | apply v_seq | apply v_region | apply v_nil | apply v_block | (apply v_pure; (case hop => first | (apply p_assign <;> rfl) | (apply p_build; (case hz => rfl); (case hv => (simp only [List.map_cons, List.map_nil]; repeat (first | with_reducible exact evs_nil | (apply evs_cons; (case h1 => rfl))))); (case hb => (apply bldL; repeat (first | exact bld_nil | (apply bld_cons; (case hpf => rfl); (case hc => rfl); (case hs => rfl); (case hl => rfl); (case ho => ((repeat (first | with_reducible exact ov_nil | apply ov_cons)); done))))))) | fail); (case hd => rfl)) | (apply v_store; (case hp => rfl); (case hx => rfl); (case hc => rfl); (case hsz => rfl); (case h1 => rfl); (case hb => (repeat (exact mhd _))); (case hfit => exact nle rfl); (case hov => ((repeat (first | with_reducible exact ov_nil | apply ov_cons)); done)); (case hu => repeat (exact Upd.here _ _))) | fail)
  refine v_loop [6, 0, 5, 4, 2] (fun us G' μ' => GH.le G G' ∧ ∃ (k : Nat) (s1 : St) (A1 A1' : Option Addr) (c1 c1' : Nat) (acc : List An) (av : Value) (ν : OH), k ≤ l.length ∧ us = [Value.int .i64 (k : Nat), .slice LA l.length lc, av, .pointer (some ⟨b4, 0, none⟩), .pointer (some ⟨b2, 0, none⟩)] ∧ μ' = (b4, .cells [.int .i64 s1.schema, .slice A1 s1.pairs.length c1, .slice A1' s1.sess.length c1'].toArray 36 (0, 0)) :: (b2, .cells [.int .i64 0, .slice none 0 0, .slice none 0 0].toArray 36 (0, 0)) :: ν ∧ GrA av acc ν ∧ StV G' s1 (.agg [.int .i64 s1.schema, .slice A1 s1.pairs.length c1, .slice A1' s1.sess.length c1'].toArray) ∧ StP s1 ∧ acc.length ≤ k ∧ specA emp [] l = specA s1 acc (l.drop k)) (fun us => l.length - (headI us).toNat) rfl ⟨GH.le_refl _, 0, emp, none, none, 0, 0, [], .slice none 0 0, [], by omega, rfl, rfl, Grow.nil _ _, emp_v G, emp_ok, Nat.le_refl _, rfl⟩ ?_
  rintro us G' _ ⟨hle, k, s1, A1, A1', c1, c1', acc, av, ν, hk, rfl, rfl, hga, hs1, hok1, hak, hrun⟩
  have hn := hlw.1
  by_cases hlt : k < l.length
  · have e1 : ((k : Nat) : Int).toNat = k := by omega
    have hA := hsome (by omega)
    have hck := (rowOpen' (hl.mono hle)).2.2.2.2.2.2 k hlt
    have hck2 := fun G2 (h2 : GH.le G' G2) => (rowOpen' (hl.mono (GH.le_trans hle h2))).2.2.2.2.2.2 k hlt
    obtain ⟨hxo, hxw⟩ := hlw.2 _ (List.getElem_mem hlt)
    have hcc := refCmdCheck_s (G := G') (l[k]) hxo
    have hap := fun G2 (h2 : GH.le G' G2) (h0 : cmdI l[k] = 0) => refApply_s (l[k]) (hs1.up h2) hok1 h0 hxw.1
    have hnx : specA emp [] l = specA (specS s1 l[k]).1 (acc ++ [(specS s1 l[k]).2]) (l.drop (k + 1)) := by
      rw [hrun, List.drop_eq_getElem_cons hlt]; rfl
    have hkp : StP (specS s1 l[k]).1 := specS_ok hok1
    have hb1 := specS_bad (s := s1) (c := l[k])
    have hb2 := specS_good (s := s1) (c := l[k])
    rw [hnx]
    clear hrun hxo hxw
    generalize specS s1 l[k] = ss at *
    generalize applyS s1 l[k] = ap at *
    obtain ⟨s5, ⟨ac, aq, ae, af, av5, ar⟩, e5⟩ := ap
    generalize l[k] = x at *
    generalize cmdI x = ci at *
    obtain ⟨kind, cl, seq, key, val, old, node⟩ := x
    simp only at *
    repeat' (first | apply v_seq | apply v_region | apply v_nil | apply v_skip | apply v_block | (apply v_pure; (case hop => first | (apply p_move <;> rfl) | (apply p_lt <;> rfl) | (apply p_lenSlice <;> rfl) | (apply p_indexAddrS; (case hx => rfl); (case hi => rfl); (case h0 => omega); (case h => omega); (case hA => assumption)) | fail); (case hd => rfl)) | (apply v_cond; (case hc => rfl); all_goals (intro h; (try simp only [reduceCtorEq, zzz] at h); first | (exfalso; omega) | skip)) | (apply v_read; (case hop => (apply r_loadN; rfl; exact CellsAt.frozen hck; rfl)); (case hd => rfl)) | fail)
    refine v_call (μ1 := []) rfl hcc (List.Perm.refl _) rfl ?_
    rintro _ G5 _ hle5 ⟨rfl, rfl⟩
    have hck5 := hck2 G5 hle5
    have hap5 := hap G5 hle5
    repeat' (first | apply v_seq | apply v_region | apply v_nil | apply v_skip | (apply v_pure; (case hop => first | (apply p_move <;> rfl) | (apply p_ne <;> rfl) | (apply p_build; (case hz => rfl); (case hv => (simp only [List.map_cons, List.map_nil]; repeat (with_reducible exact evs_nil))); (case hb => (apply bldL; repeat (exact bld_nil)))) | fail); (case hd => rfl)) | (apply v_cond; (case hc => rfl); all_goals (intro h; (try simp only [reduceCtorEq, zzz] at h))) | (apply v_buildSlice; (case hz => rfl); (case hi => rfl); (case hv => (simp only [List.map_cons, List.map_nil]; repeat (first | with_reducible exact evs_nil | (apply evs_cons; (case h1 => rfl))))); (case hp => (apply pk_cons; (case hc => rfl); (case hs => rfl); (case h => (with_reducible exact pk_nil)); (case he => ((repeat (first | with_reducible exact ap_nil | apply ap_cons)); done)))); (case hb => rfl); (case hd => rfl); intro b) | fail)
    · have hci : ci ≠ 0 := by assumption
      have hss := hb1 hci
      subst hss
      simp only at *
      repeat' (first | apply v_region | apply v_nil | (apply v_exit; (case hp => rfl)) | (apply v_pure; (case hop => first | (apply p_move <;> rfl) | (apply p_assign <;> rfl) | (apply p_add; (case hx => rfl); (case hy => rfl); (case h => omega)) | fail); (case hd => rfl)) | (apply v_append (hg := hga) (m' := 1) (us := zA.cells) (hp := PickA.perm (by repeat (first | exact PickA.last | apply PickA.cons))) (hsrc := Src.own (e := 29) (by repeat (exact mhd _)) rfl); (case hzs => rfl); (case hsz => omega); (case hs => rfl); (case hx => rfl); (case hb => omega); (case hb' => simp only [maxLen]; omega); (case hd => rfl); (case h1 => rfl); intro v3 n3 hg3) | fail)
      have hga' := GrA.snoc hg3
      refine v_perm (ν := ((b4, .cells [.int .i64 s1.schema, .slice A1 s1.pairs.length c1, .slice A1' s1.sess.length c1'].toArray 36 (0, 0)) :: (b2, .cells [.int .i64 0, .slice none 0 0, .slice none 0 0].toArray 36 (0, 0)) :: n3) ++ [(b, _)]) (by apply perm_of_count; intro p; simp only [List.append_eq, List.countP_append, List.countP_cons, List.countP_nil, Nat.zero_add, Nat.add_zero]; try ac_rfl) ?_
      refine v_drop (List.sublist_append_left _ _) ?_
      exact v_again rfl ⟨GH.le_trans hle hle5, k + 1, s1, A1, A1', c1, c1', _, v3, n3, by omega, rfl, rfl, hga', hs1.up hle5, hok1, by rw [List.length_append, List.length_singleton]; omega, rfl⟩ (by simp [headI]; omega)
    · have hci : ci = 0 := by assumption
      have hss := hb2 hci
      subst hss
      simp only at *
      have hap6 := hap5 hci
      refine d_start [(b4, .cells [.int .i64 s1.schema, .slice A1 s1.pairs.length c1, .slice A1' s1.sess.length c1'].toArray 36 (0, 0))] (by kernel_rfl) (by kernel_rfl) (by kernel_rfl) (by intro e he; (simp at he; simp [he]; done)) ?_
      all_goals (apply dtk 0; (case hi => rfl); (case hop => (apply r_loadNo; (case hx => rfl); (case h => (repeat (exact mhd _))); (case hd => (repeat (first | with_reducible exact dt_nil | apply dt_here))); (case hn => rfl))); (case hq => kernel_rfl))
      all_goals (apply dtk 1; (case hi => rfl); (case hop => (apply prd; apply p_move <;> rfl)); (case hq => kernel_rfl))
      all_goals (apply dtk 2; (case hi => rfl); (case hop => (apply prd; apply p_move <;> rfl)); (case hq => kernel_rfl))
      all_goals (apply dtk 3; (case hi => rfl); (case hop => (apply prd; apply p_indexAddrS; (case hx => rfl); (case hi => rfl); (case h0 => omega); (case h => omega); (case hA => assumption))); (case hq => kernel_rfl))
      all_goals (apply dtk 4; (case hi => rfl); (case hop => ((apply r_loadN; rfl; exact CellsAt.frozen hck5; rfl))); (case hq => kernel_rfl))
      focus
        refine d_fork3 5 9 10 (by kernel_rfl) ?_ ?_ ?_
        rotate_right
        focus
          (apply x_exec (d := 8) 10; (case hi => rfl);  (case hop => exact m_alloc rfl); (case hd => rfl); rintro _ G0 _ ⟨b11, rfl, hG0, rfl⟩; subst G0; refine ⟨(by intro e he; simp only [List.mem_cons, List.not_mem_nil, or_false] at he; rcases he with rfl; simp), ?_⟩)
          focus
            refine d_fork 5 9 (by kernel_rfl) ?_ ?_
            rotate_right
            focus
              (apply x_exec (d := 7) 9; (case hi => rfl);  (case hop => exact m_alloc rfl); (case hd => rfl); rintro _ G0 _ ⟨b10, rfl, hG0, rfl⟩; subst G0; refine ⟨(by intro e he; simp only [List.mem_cons, List.not_mem_nil, or_false] at he; rcases he with rfl; simp), ?_⟩)
              all_goals ((apply d_call 5 (hs := hap6) (μ1 := []); (case hi => rfl); (case hr => kernel_rfl);  (case ha => rfl); (case hp => exact List.Perm.refl _); (case hd => rfl); (case hν' => intro e he; simp only [List.mem_cons, List.not_mem_nil, or_false] at he; rcases he with rfl; simp); rintro _ G6 _ hle6 ⟨-, rfl, v6, rfl, hs6⟩; obtain ⟨A6, c6, A6', c6', rfl, -, -⟩ := id hs6))
              all_goals (apply dtk 6; (case hi => rfl); (case hop => (apply prd; apply p_move <;> rfl)); (case hq => kernel_rfl))
              all_goals (apply dtk 7; (case hi => rfl); (case hop => (apply prd; apply p_extract0 <;> rfl)); (case hq => kernel_rfl))
              all_goals (apply dtk 8; (case hi => rfl); (case hop => (apply prd; apply p_extract1 <;> rfl)); (case hq => kernel_rfl))
              all_goals (apply d_store 11; (case hi => rfl); (case hr => kernel_rfl); (case hL => infer_instance); (case hp => rfl); (case hx => rfl); (case hc => rfl); (case hsz => rfl); (case h1 => rfl); (case hb => (repeat (exact mhd _))); (case hfit => exact nle rfl); (case hov => ((repeat (first | with_reducible exact ov_nil | apply ov_cons)); done)); (case hu => repeat (exact Upd.here _ _)); (case hν' => intro e he; (simp at he; simp [he]; done)))
              all_goals (apply d_store 12; (case hi => rfl); (case hr => kernel_rfl); (case hL => infer_instance); (case hp => rfl); (case hx => rfl); (case hc => rfl); (case hsz => rfl); (case h1 => rfl); (case hb => (repeat (first | exact mhd _ | apply mtl))); (case hfit => exact nle rfl); (case hov => ((repeat (first | with_reducible exact ov_nil | apply ov_cons)); done)); (case hu => repeat (first | exact Upd.here _ _ | apply Upd.there)); (case hν' => intro e he; (simp at he; simp [he]; done)))
              all_goals (apply d_done; (case hr => kernel_rfl))
            rotate_right
            focus
              (apply x_call 5 (hs := hap6) (μ1 := []); (case hi => rfl);  (case ha => rfl); (case hp => exact List.Perm.refl _); (case hd => rfl); (case hν' => intro e he; simp only [List.mem_cons, List.not_mem_nil, or_false] at he; rcases he with rfl; simp); rintro _ G6 _ hle6 ⟨-, rfl, v6, rfl, hs6⟩; obtain ⟨A6, c6, A6', c6', rfl, -, -⟩ := id hs6)
              all_goals (apply dtk 6; (case hi => rfl); (case hop => (apply prd; apply p_move <;> rfl)); (case hq => kernel_rfl))
              all_goals (apply dtk 7; (case hi => rfl); (case hop => (apply prd; apply p_extract0 <;> rfl)); (case hq => kernel_rfl))
              all_goals (apply dtk 8; (case hi => rfl); (case hop => (apply prd; apply p_extract1 <;> rfl)); (case hq => kernel_rfl))
              all_goals ((apply d_exec (d := 7) 9; (case hi => rfl); (case hr => kernel_rfl);  (case hop => exact m_alloc rfl); (case hd => rfl); rintro _ G0 _ ⟨b10, rfl, hG0, rfl⟩; subst G0; refine ⟨(by intro e he; simp only [List.mem_cons, List.not_mem_nil, or_false] at he; rcases he with rfl; simp), ?_⟩))
              all_goals (apply d_store 11; (case hi => rfl); (case hr => kernel_rfl); (case hL => infer_instance); (case hp => rfl); (case hx => rfl); (case hc => rfl); (case hsz => rfl); (case h1 => rfl); (case hb => (repeat (exact mhd _))); (case hfit => exact nle rfl); (case hov => ((repeat (first | with_reducible exact ov_nil | apply ov_cons)); done)); (case hu => repeat (exact Upd.here _ _)); (case hν' => intro e he; (simp at he; simp [he]; done)))
              all_goals (apply d_store 12; (case hi => rfl); (case hr => kernel_rfl); (case hL => infer_instance); (case hp => rfl); (case hx => rfl); (case hc => rfl); (case hsz => rfl); (case h1 => rfl); (case hb => (repeat (first | exact mhd _ | apply mtl))); (case hfit => exact nle rfl); (case hov => ((repeat (first | with_reducible exact ov_nil | apply ov_cons)); done)); (case hu => repeat (first | exact Upd.here _ _ | apply Upd.there)); (case hν' => intro e he; (simp at he; simp [he]; done)))
              all_goals (apply d_done; (case hr => kernel_rfl))
        rotate_right
        focus
          (apply x_exec (d := 7) 9; (case hi => rfl);  (case hop => exact m_alloc rfl); (case hd => rfl); rintro _ G0 _ ⟨b10, rfl, hG0, rfl⟩; subst G0; refine ⟨(by intro e he; simp only [List.mem_cons, List.not_mem_nil, or_false] at he; rcases he with rfl; simp), ?_⟩)
          focus
            refine d_fork 5 10 (by kernel_rfl) ?_ ?_
            rotate_right
            focus
              (apply x_exec (d := 8) 10; (case hi => rfl);  (case hop => exact m_alloc rfl); (case hd => rfl); rintro _ G0 _ ⟨b11, rfl, hG0, rfl⟩; subst G0; refine ⟨(by intro e he; simp only [List.mem_cons, List.not_mem_nil, or_false] at he; rcases he with rfl; simp), ?_⟩)
              all_goals ((apply d_call 5 (hs := hap6) (μ1 := []); (case hi => rfl); (case hr => kernel_rfl);  (case ha => rfl); (case hp => exact List.Perm.refl _); (case hd => rfl); (case hν' => intro e he; simp only [List.mem_cons, List.not_mem_nil, or_false] at he; rcases he with rfl; simp); rintro _ G6 _ hle6 ⟨-, rfl, v6, rfl, hs6⟩; obtain ⟨A6, c6, A6', c6', rfl, -, -⟩ := id hs6))
              all_goals (apply dtk 6; (case hi => rfl); (case hop => (apply prd; apply p_move <;> rfl)); (case hq => kernel_rfl))
              all_goals (apply dtk 7; (case hi => rfl); (case hop => (apply prd; apply p_extract0 <;> rfl)); (case hq => kernel_rfl))
              all_goals (apply dtk 8; (case hi => rfl); (case hop => (apply prd; apply p_extract1 <;> rfl)); (case hq => kernel_rfl))
              all_goals (apply d_store 11; (case hi => rfl); (case hr => kernel_rfl); (case hL => infer_instance); (case hp => rfl); (case hx => rfl); (case hc => rfl); (case hsz => rfl); (case h1 => rfl); (case hb => (repeat (first | exact mhd _ | apply mtl))); (case hfit => exact nle rfl); (case hov => ((repeat (first | with_reducible exact ov_nil | apply ov_cons)); done)); (case hu => repeat (first | exact Upd.here _ _ | apply Upd.there)); (case hν' => intro e he; (simp at he; simp [he]; done)))
              all_goals (apply d_store 12; (case hi => rfl); (case hr => kernel_rfl); (case hL => infer_instance); (case hp => rfl); (case hx => rfl); (case hc => rfl); (case hsz => rfl); (case h1 => rfl); (case hb => (repeat (exact mhd _))); (case hfit => exact nle rfl); (case hov => ((repeat (first | with_reducible exact ov_nil | apply ov_cons)); done)); (case hu => repeat (exact Upd.here _ _)); (case hν' => intro e he; (simp at he; simp [he]; done)))
              all_goals (apply d_done; (case hr => kernel_rfl))
            rotate_right
            focus
              (apply x_call 5 (hs := hap6) (μ1 := []); (case hi => rfl);  (case ha => rfl); (case hp => exact List.Perm.refl _); (case hd => rfl); (case hν' => intro e he; simp only [List.mem_cons, List.not_mem_nil, or_false] at he; rcases he with rfl; simp); rintro _ G6 _ hle6 ⟨-, rfl, v6, rfl, hs6⟩; obtain ⟨A6, c6, A6', c6', rfl, -, -⟩ := id hs6)
              all_goals (apply dtk 6; (case hi => rfl); (case hop => (apply prd; apply p_move <;> rfl)); (case hq => kernel_rfl))
              all_goals (apply dtk 7; (case hi => rfl); (case hop => (apply prd; apply p_extract0 <;> rfl)); (case hq => kernel_rfl))
              all_goals (apply dtk 8; (case hi => rfl); (case hop => (apply prd; apply p_extract1 <;> rfl)); (case hq => kernel_rfl))
              all_goals ((apply d_exec (d := 8) 10; (case hi => rfl); (case hr => kernel_rfl);  (case hop => exact m_alloc rfl); (case hd => rfl); rintro _ G0 _ ⟨b11, rfl, hG0, rfl⟩; subst G0; refine ⟨(by intro e he; simp only [List.mem_cons, List.not_mem_nil, or_false] at he; rcases he with rfl; simp), ?_⟩))
              all_goals (apply d_store 11; (case hi => rfl); (case hr => kernel_rfl); (case hL => infer_instance); (case hp => rfl); (case hx => rfl); (case hc => rfl); (case hsz => rfl); (case h1 => rfl); (case hb => (repeat (first | exact mhd _ | apply mtl))); (case hfit => exact nle rfl); (case hov => ((repeat (first | with_reducible exact ov_nil | apply ov_cons)); done)); (case hu => repeat (first | exact Upd.here _ _ | apply Upd.there)); (case hν' => intro e he; (simp at he; simp [he]; done)))
              all_goals (apply d_store 12; (case hi => rfl); (case hr => kernel_rfl); (case hL => infer_instance); (case hp => rfl); (case hx => rfl); (case hc => rfl); (case hsz => rfl); (case h1 => rfl); (case hb => (repeat (exact mhd _))); (case hfit => exact nle rfl); (case hov => ((repeat (first | with_reducible exact ov_nil | apply ov_cons)); done)); (case hu => repeat (exact Upd.here _ _)); (case hν' => intro e he; (simp at he; simp [he]; done)))
              all_goals (apply d_done; (case hr => kernel_rfl))
        rotate_right
        focus
          (apply x_call 5 (hs := hap6) (μ1 := []); (case hi => rfl);  (case ha => rfl); (case hp => exact List.Perm.refl _); (case hd => rfl); (case hν' => intro e he; simp only [List.mem_cons, List.not_mem_nil, or_false] at he; rcases he with rfl; simp); rintro _ G6 _ hle6 ⟨-, rfl, v6, rfl, hs6⟩; obtain ⟨A6, c6, A6', c6', rfl, -, -⟩ := id hs6)
          all_goals (apply dtk 6; (case hi => rfl); (case hop => (apply prd; apply p_move <;> rfl)); (case hq => kernel_rfl))
          all_goals (apply dtk 7; (case hi => rfl); (case hop => (apply prd; apply p_extract0 <;> rfl)); (case hq => kernel_rfl))
          all_goals (apply dtk 8; (case hi => rfl); (case hop => (apply prd; apply p_extract1 <;> rfl)); (case hq => kernel_rfl))
          focus
            refine d_fork 9 10 (by kernel_rfl) ?_ ?_
            rotate_right
            focus
              (apply x_exec (d := 8) 10; (case hi => rfl);  (case hop => exact m_alloc rfl); (case hd => rfl); rintro _ G0 _ ⟨b11, rfl, hG0, rfl⟩; subst G0; refine ⟨(by intro e he; simp only [List.mem_cons, List.not_mem_nil, or_false] at he; rcases he with rfl; simp), ?_⟩)
              all_goals ((apply d_exec (d := 7) 9; (case hi => rfl); (case hr => kernel_rfl);  (case hop => exact m_alloc rfl); (case hd => rfl); rintro _ G0 _ ⟨b10, rfl, hG0, rfl⟩; subst G0; refine ⟨(by intro e he; simp only [List.mem_cons, List.not_mem_nil, or_false] at he; rcases he with rfl; simp), ?_⟩))
              all_goals (apply d_store 11; (case hi => rfl); (case hr => kernel_rfl); (case hL => infer_instance); (case hp => rfl); (case hx => rfl); (case hc => rfl); (case hsz => rfl); (case h1 => rfl); (case hb => (repeat (exact mhd _))); (case hfit => exact nle rfl); (case hov => ((repeat (first | with_reducible exact ov_nil | apply ov_cons)); done)); (case hu => repeat (exact Upd.here _ _)); (case hν' => intro e he; (simp at he; simp [he]; done)))
              all_goals (apply d_store 12; (case hi => rfl); (case hr => kernel_rfl); (case hL => infer_instance); (case hp => rfl); (case hx => rfl); (case hc => rfl); (case hsz => rfl); (case h1 => rfl); (case hb => (repeat (first | exact mhd _ | apply mtl))); (case hfit => exact nle rfl); (case hov => ((repeat (first | with_reducible exact ov_nil | apply ov_cons)); done)); (case hu => repeat (first | exact Upd.here _ _ | apply Upd.there)); (case hν' => intro e he; (simp at he; simp [he]; done)))
              all_goals (apply d_done; (case hr => kernel_rfl))
            rotate_right
            focus
              (apply x_exec (d := 7) 9; (case hi => rfl);  (case hop => exact m_alloc rfl); (case hd => rfl); rintro _ G0 _ ⟨b10, rfl, hG0, rfl⟩; subst G0; refine ⟨(by intro e he; simp only [List.mem_cons, List.not_mem_nil, or_false] at he; rcases he with rfl; simp), ?_⟩)
              all_goals ((apply d_exec (d := 8) 10; (case hi => rfl); (case hr => kernel_rfl);  (case hop => exact m_alloc rfl); (case hd => rfl); rintro _ G0 _ ⟨b11, rfl, hG0, rfl⟩; subst G0; refine ⟨(by intro e he; simp only [List.mem_cons, List.not_mem_nil, or_false] at he; rcases he with rfl; simp), ?_⟩))
              all_goals (apply d_store 11; (case hi => rfl); (case hr => kernel_rfl); (case hL => infer_instance); (case hp => rfl); (case hx => rfl); (case hc => rfl); (case hsz => rfl); (case h1 => rfl); (case hb => (repeat (first | exact mhd _ | apply mtl))); (case hfit => exact nle rfl); (case hov => ((repeat (first | with_reducible exact ov_nil | apply ov_cons)); done)); (case hu => repeat (first | exact Upd.here _ _ | apply Upd.there)); (case hν' => intro e he; (simp at he; simp [he]; done)))
              all_goals (apply d_store 12; (case hi => rfl); (case hr => kernel_rfl); (case hL => infer_instance); (case hp => rfl); (case hx => rfl); (case hc => rfl); (case hsz => rfl); (case h1 => rfl); (case hb => (repeat (exact mhd _))); (case hfit => exact nle rfl); (case hov => ((repeat (first | with_reducible exact ov_nil | apply ov_cons)); done)); (case hu => repeat (exact Upd.here _ _)); (case hν' => intro e he; (simp at he; simp [he]; done)))
              all_goals (apply d_done; (case hr => kernel_rfl))
      all_goals refine v_perm (ν := (b11, .cells [.int .i64 ac, .int .i64 aq, .int .i64 ae, .bool af, .string av5, .int .i64 ar].toArray 29 (0, 0)) :: (b10, .cells [.int .i64 s5.schema, .slice A6 s5.pairs.length c6, .slice A6' s5.sess.length c6'].toArray 36 (0, 0)) :: (b4, .cells [.int .i64 s1.schema, .slice A1 s1.pairs.length c1, .slice A1' s1.sess.length c1'].toArray 36 (0, 0)) :: (b2, .cells [.int .i64 0, .slice none 0 0, .slice none 0 0].toArray 36 (0, 0)) :: ν) (by first | exact List.Perm.refl _ | exact List.Perm.swap _ _ _) ?_
      all_goals
        repeat' (first | (apply v_read; (case hop => (apply r_loadNo; (case hx => rfl); (case h => repeat (first | exact mhd _ | apply mtl)); (case hd => rfl); (case hn => rfl))); (case hd => rfl)) | apply v_seq | apply v_region | apply v_nil | apply v_blk | (apply v_pure; (case hop => first | (apply p_move <;> rfl) | (apply p_assign <;> rfl) | (apply p_add; (case hx => rfl); (case hy => rfl); (case h => omega)) | fail); (case hd => rfl)) | (apply v_append (hg := hga) (m' := 1) (us := An.cells ⟨ac, aq, ae, af, av5, ar⟩) (hp := PickA.perm (by repeat (first | exact PickA.last | apply PickA.cons))) (hsrc := Src.own (e := 29) (by repeat (exact mhd _)) rfl); (case hzs => rfl); (case hsz => omega); (case hs => rfl); (case hx => rfl); (case hb => omega); (case hb' => simp only [maxLen]; omega); (case hd => rfl); (case h1 => rfl); intro v3 n3 hg3) | (apply v_buildSlice; (case hz => rfl); (case hi => rfl); (case hv => (simp only [List.map_cons, List.map_nil]; repeat (first | with_reducible exact evs_nil | (apply evs_cons; (case h1 => rfl))))); (case hp => (apply pk_cons; (case hc => rfl); (case hs => rfl); (case h => (with_reducible exact pk_nil)); (case he => (rfl)))); (case hb => rfl); (case hd => rfl); intro b) | (apply v_store; (case hp => rfl); (case hx => rfl); (case hc => rfl); (case hsz => rfl); (case h1 => rfl); (case hb => (repeat (first | exact mhd _ | apply mtl))); (case hfit => exact nle rfl); (case hov => (rfl)); (case hu => repeat (first | exact Upd.here _ _ | apply Upd.there))) | fail)
      all_goals
        (have hga' := GrA.snoc hg3
         refine v_perm (ν := ((b4, .cells [.int .i64 s5.schema, .slice A6 s5.pairs.length c6, .slice A6' s5.sess.length c6'].toArray 36 (0, 0)) :: (b2, .cells [.int .i64 0, .slice none 0 0, .slice none 0 0].toArray 36 (0, 0)) :: n3) ++ [(b, _), (b11, _), (b10, _)]) (by apply perm_of_count; intro p; simp only [List.append_eq, List.countP_append, List.countP_cons, List.countP_nil, Nat.zero_add, Nat.add_zero]; try ac_rfl) ?_
         refine v_drop (List.sublist_append_left _ _) ?_
         exact v_again rfl ⟨GH.le_trans hle (GH.le_trans hle5 hle6), k + 1, s5, A6, A6', c6, c6', _, v3, n3, by omega, rfl, rfl, hga', hs6, hkp, by rw [List.length_append, List.length_singleton]; omega, rfl⟩ (by simp [headI]; omega))
  · obtain rfl : k = l.length := by omega
    rw [hrun, List.drop_length]
    repeat' (first | apply v_seq | apply v_region | apply v_nil | (apply v_exit; (case hp => rfl)) | (apply v_pure; (case hop => first | (apply p_move <;> rfl) | (apply p_lt <;> rfl) | (apply p_assign <;> rfl) | (apply p_lenSlice <;> rfl) | fail); (case hd => rfl)) | (apply v_cond; (case hc => rfl); all_goals (intro h; (try simp only [reduceCtorEq, zzz] at h); first | (exfalso; omega) | skip)) | (apply v_read; (case hop => (apply r_loadNo; (case hx => rfl); (case h => (repeat (exact mhd _))); (case hd => (repeat (first | with_reducible exact dt_nil | apply dt_here))); (case hn => rfl))); (case hd => rfl)) | (apply v_store; (case hp => rfl); (case hx => rfl); (case hc => rfl); (case hsz => rfl); (case h1 => rfl); (case hb => (repeat (first | exact mhd _ | apply mtl))); (case hfit => exact nle rfl); (case hov => ((repeat (first | with_reducible exact ov_nil | apply ov_cons)); done)); (case hu => repeat (first | exact Upd.here _ _ | apply Upd.there))) | fail)
    refine v_perm (ν := ν ++ [(b4, .cells [.int .i64 s1.schema, .slice A1 s1.pairs.length c1, .slice A1' s1.sess.length c1'].toArray 36 (0, 0)), (b2, .cells [.int .i64 s1.schema, .slice A1 s1.pairs.length c1, .slice A1' s1.sess.length c1'].toArray 36 (0, 0))]) (by apply perm_of_count; intro p; simp only [List.append_eq, List.countP_append, List.countP_cons, List.countP_nil, Nat.zero_add, Nat.add_zero]; try ac_rfl) ?_
    refine v_retM ν (outsM_cell_tmp (sz := 3) (vs := [.int .i64 s1.schema, .slice A1 s1.pairs.length c1, .slice A1' s1.sess.length c1']) (e := 36) rfl rfl rfl (by repeat (first | exact mhd _ | apply mtl | apply List.mem_append_right)) rfl) (List.sublist_append_left _ _) ⟨_, _, rfl, hs1, hga⟩
def CmR (c : Cm) (cs : List Value) : Prop := cs = c.cells ∧ c.ok
theorem el_cm {H : Type} {enc : TypeId × Value → H} {W : World} : Elem enc Tryd.prog W 32 CmR := by
  intro fuel cs x hf
  have h1 := el_flen (n := 7) Tryd.underlying32 (by kernel_rfl) hf
  obtain ⟨a0, h0, w0⟩ := el_fld (i := 0) (sz := 1) (by kernel_rfl) (el_int Tryd.underlying3) hf
  obtain ⟨a1, e1, w1⟩ := el_fld (i := 1) (sz := 1) (by kernel_rfl) (el_int Tryd.underlying3) hf
  obtain ⟨a2, e2, w2⟩ := el_fld (i := 2) (sz := 1) (by kernel_rfl) (el_int Tryd.underlying3) hf
  obtain ⟨a3, e3, w3⟩ := el_fld (i := 3) (sz := 1) (by kernel_rfl) (el_string Tryd.underlying9) hf
  obtain ⟨a4, e4, w4⟩ := el_fld (i := 4) (sz := 1) (by kernel_rfl) (el_string Tryd.underlying9) hf
  obtain ⟨a5, e5, w5⟩ := el_fld (i := 5) (sz := 1) (by kernel_rfl) (el_string Tryd.underlying9) hf
  obtain ⟨a6, e6, w6⟩ := el_fld (i := 6) (sz := 1) (by kernel_rfl) (el_int Tryd.underlying3) hf
  match cs, h1 with
  | [c0, c1, c2, c3, c4, c5, c6], _ =>
    simp only [List.drop_succ_cons, List.drop_zero, List.take_succ_cons, List.take_zero, List.cons.injEq, and_true] at h0 e1 e2 e3 e4 e5 e6
    exact ⟨⟨a0, a1, a2, a3, a4, a5, a6⟩, by rw [h0, e1, e2, e3, e4, e5, e6]; rfl, w0, w1, w2, w3, w4, w5, w6⟩
set_option maxRecDepth 100000 in
theorem arg_t22 {H : Type} {enc : TypeId × Value → H} {W : World} {base : Nat} {v : Value} {d : DataW H} {p : List MemPlace} (hv : Value.okWide Tryd.prog W .any base 22 v) (h : DataW.Trod enc Tryd.prog W 0 (fun _ => true) true 22 v d p) : ∃ l : List Cm, Sl (ghost W) 7 CmR v l :=
  arg_slice Tryd.underlying22 (by kernel_rfl) el_cm hv h
theorem cms_of {G : GH} {v : Value} {l : List Cm} (h : Sl G 7 CmR v l) : Cms G v l ∧ ∀ c ∈ l, c.ok := by
  obtain ⟨A, c, rfl, h1, h2, h3, h4⟩ := h.open
  refine ⟨Sl.le h (GH.le_refl _) (fun _ _ hx => hx.1), fun x hx => ?_⟩
  obtain ⟨i, hi, rfl⟩ := List.getElem_of_mem hx
  obtain ⟨cs, _, h5, h6⟩ := h4 i _ (List.getElem?_eq_getElem hi)
  exact h5.2
theorem firstEq : (Rows.laid_unicode_utf8_first : DataW Unit) = Lib.firstData := by kernel_rfl
theorem acceptEq : (Rows.laid_unicode_utf8_acceptRanges : DataW Unit) = Lib.acceptData := by kernel_rfl
abbrev tabsLaid : List (String × DataW Unit) := [("unicode/utf8.acceptRanges", Rows.laid_unicode_utf8_acceptRanges), ("unicode/utf8.first", Rows.laid_unicode_utf8_first)]
theorem tabs_plain : (tabsLaid.all fun x => x.2.handleName?.isNone) = true := by kernel_rfl
theorem tabs_of_laid {W : World} (hL : laidMetH Tryd.prog tabsLaid W) : TabsG (ghost W) := by
  rw [MakeChecks.laidMetH_plain _ _ _ tabs_plain] at hL
  have r1 := Lib.laidMet.reads hL (.tail _ (.head _))
  have r2 := Lib.laidMet.reads hL (.head _)
  rw [firstEq] at r1
  rw [acceptEq] at r2
  have hU := utf8Tabs_of_readsT (ρ := laysDecode_ren) { laysDecode with } ⟨by kernel_rfl, by kernel_rfl, by kernel_rfl, by kernel_rfl, by kernel_rfl, by kernel_rfl, by kernel_rfl⟩ r1 r2
  clear hL r1 r2
  intro w hw
  have lift : ∀ (a : Addr) v, W.cell? a = some v → w.cell? a = some v := by
    intro a v h
    unfold World.cell? at h ⊢
    cases hb : W.heap[a.block]? with
    | none => rw [hb] at h; simp at h
    | some o => rw [hw _ _ hb]; rw [hb] at h; exact h
  exact ⟨fun c hc => lift _ _ (hU.1 c hc), fun i hi => ⟨lift _ _ (hU.2 i hi).1, lift _ _ (hU.2 i hi).2⟩⟩
end Go.Proofs.YtmdeeokejdkceaaDoor
