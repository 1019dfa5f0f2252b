/-
  The reference 33: Floor, Top.
-/
import Derived.Test.YtmdeeokejdkceaaGreatDoorM4
import Derived.Lib.LaidU8T
import Derived.MakeChecks
import Derived.Test.YtmdeeokejdkceaaGreatDoorRows
import Derived.Test.YtmdeeokejdkceaaGreatDoorM2
import Derived.Test.YtmdeeokejdkceaaGreatDoorM1
import Derived.Test.YtmdeeokejdkceaaGreatDoorChecked
import Derived.JoinedOf
import Derived.SevenTiedAt
import Derived.LaidMore
import Derived.Lay
import Derived.Test.YtmdeeokejdkceaaGreatDoorTie
import Derived.Test.YtmdeeokejdkceaaGreatDoorCards
import Derived.Stop.Joined
set_option linter.unusedSimpArgs false
set_option linter.unusedVariables false
namespace Go.Proofs.YtmdeeokejdkceaaGreatDoor
open Go.Vx Go.ChangeShapes Go.WideShapes Go.ChangeAt Go.RowKit
theorem msOpenE {G : GH} {v : Value} {l : List Ms} (h : Mss G v l) : ∃ A c, v = .slice A l.length c ∧ l.length ≤ c ∧ c ≤ maxLen ∧ (0 < l.length → A.isSome = true) ∧
    ∀ i (h : i < l.length), ∃ EA ec IA ic, CellsG G ((adr A).add (i * 10)) (l[i].cells (.slice EA l[i].ents.length ec) (.slice IA l[i].img.length ic)) ∧ Es G (.slice EA l[i].ents.length ec) l[i].ents := by
  obtain ⟨A, c, rfl, h1, h2, h3, h4⟩ := h.open
  refine ⟨A, c, rfl, h1, h2, h3, fun i hi => ?_⟩
  obtain ⟨cs, _, ⟨EA, ec, IA, ic, rfl, h5, h6⟩, h7⟩ := h4 i _ (List.getElem?_eq_getElem hi)
  exact ⟨EA, ec, IA, ic, h7, h5⟩
def flF (s : Int × Int) (m : Ms) : Int × Int := if s.1 < m.commit ∨ (m.commit = s.1 ∧ 0 < s.2 ∧ m.src < s.2) then (m.commit, m.src) else s
def flS (a : Int) (l : List Ms) : Int × Int := l.foldl flF (a - 1, 0)
theorem flS_snoc (a : Int) (l : List Ms) (m : Ms) : flS a (l ++ [m]) = flF (flS a l) m := by
  unfold flS
  rw [List.foldl_append]
  rfl
theorem refPFloor_s {G : GH} {got : List Ms} {gv : Value} (a : Int) (ha : 1 ≤ a ∧ a ≤ 4294967296) (hs : Mss G gv got) : Con Tryz.prog 47 #[.int .i64 a, gv] G [] (Just (.tuple [.int .i64 (flS a got).1, .int .i64 (flS a got).2].toArray) G) := by
  obtain ⟨A, c, rfl, hlc, hcm, hsome, hcp⟩ := msOpen hs
  simp only [maxLen] at hcm
  apply Con.just
  (refine v_enter Tryz.func47 rfl Tryz.ntmps47 rfl ?_; intro B _)
  repeat' (first | apply v_seq | apply v_region | apply v_nil | apply v_block | (apply v_pure; (case hop => first | (apply p_move <;> rfl) | (apply p_assign <;> rfl) | (apply p_sub; (case hx => rfl); (case hy => rfl); (case h => omega)) | fail); (case hd => rfl)) | fail)
  refine v_loop [8, 6, 7, 1] (fun us G' μ' => G' = G ∧ μ' = [] ∧ ∃ k : Nat, k ≤ got.length ∧ us = [Value.int .i64 (k : Nat), .int .i64 (flS a (got.take k)).1, .int .i64 (flS a (got.take k)).2, .slice A got.length c]) (fun us => got.length - (headI us).toNat) rfl ⟨rfl, rfl, 0, by omega, rfl⟩ ?_
  rintro us G' _ ⟨hG', rfl, k, hk, rfl⟩
  subst hG'
  have e1 : ((k : Nat) : Int).toNat = k := by omega
  by_cases hlt : k < got.length
  · have hA := hsome (by omega)
    obtain ⟨EA, ec, IA, ic, hck, -⟩ := hcp k hlt
    have hc1 := hck.cell (j := 1) rfl
    have hc5 := hck.cell (j := 6) rfl
    have hsn := flS_snoc a (got.take k) got[k]
    rw [← List.take_succ_eq_append_getElem hlt] at hsn
    generalize flS a (got.take k) = s at *
    generalize got[k] = m at *
    obtain ⟨s1, s2⟩ := s
    unfold flF at hsn
    simp only at hsn
    repeat' (first | apply v_seq | apply v_region | apply v_nil | apply v_skip | apply v_block | apply v_blk | (apply v_take; (case hg => rfl)) | (apply v_pass; (case hg => rfl); (case hn => rfl); (case hd => rfl)) | (apply v_passN; (case hg => rfl); (case hn => rfl); (case hd => rfl)) | (apply v_pure; (case hop => first | (apply p_move <;> rfl) | (apply p_eq <;> rfl) | (apply p_lt <;> rfl) | (apply p_gt <;> rfl) | (apply p_assign <;> rfl) | (apply p_pickT <;> rfl) | (apply p_pickF <;> rfl) | (apply p_lenSlice <;> rfl) | (apply p_fieldAddr <;> rfl) | (apply p_add; (case hx => rfl); (case hy => rfl); (case h => omega)) | (apply p_indexAddrS; (case hx => rfl); (case hi => rfl); (case h0 => omega); (case h => omega); (case hA => assumption)) | fail); (case hd => rfl)) | (apply v_condT; (case hc => rfl)) | (apply v_condF; (case hc => rfl)) | (apply v_cond; (case hc => rfl); all_goals (intro h; (try simp only [reduceCtorEq, zzz] at h); first | (exfalso; omega) | skip)) | (apply v_guardB; (case h1 => rfl); (case h2 => rfl); all_goals (intro h; (try simp only [reduceCtorEq, zzz] at h))) | (apply v_read; (case hop => first | (apply r_load1; rfl; exact Cell.frozen hc1) | (apply r_load1; rfl; exact Cell.frozen hc5)); (case hd => rfl)) | fail)
    all_goals first
      | (rw [if_pos (by first | (left; omega) | (right; omega))] at hsn
         exact v_again rfl ⟨rfl, rfl, k + 1, by omega, by rw [hsn] <;> rfl⟩ (by simp [headI]; omega))
      | (rw [if_neg (by omega)] at hsn
         exact v_again rfl ⟨rfl, rfl, k + 1, by omega, by rw [hsn] <;> rfl⟩ (by simp [headI]; omega))
  · have ek : k = got.length := by omega
    subst ek
    rw [List.take_length]
    repeat' (first | apply v_seq | apply v_region | apply v_nil | (apply v_exit; (case hp => rfl)) | (apply v_pure; (case hop => first | (apply p_move <;> rfl) | (apply p_lt <;> rfl) | (apply p_assign <;> rfl) | (apply p_lenSlice <;> rfl) | fail); (case hd => rfl)) | (apply v_cond; (case hc => rfl); all_goals (intro h; (try simp only [reduceCtorEq, zzz] at h); first | (exfalso; omega) | skip)) | fail)
    exact v_ret [] (outsA2 rfl rfl rfl) (by repeat (exact List.Sublist.refl _)) ⟨rfl, rfl⟩
theorem refPTop_s {G : GH} {got : List Ms} {gv : Value} (a : Int) (ha : 1 ≤ a ∧ a ≤ 4294967296) (hs : Mss G gv got) : Con Tryz.prog 57 #[.int .i64 a, gv] G [] (Just (.int .i64 (topQ (flS a got).1 got)) G) := by
  have qf := refPFloor_s a ha hs
  obtain ⟨A, c, rfl, hlc, hcm, hsome, hcp⟩ := msOpenE hs
  simp only [maxLen] at hcm
  generalize flS a got = f at *
  obtain ⟨f1, f2⟩ := f
  apply Con.just
  (refine v_enter Tryz.func57 rfl Tryz.ntmps57 rfl ?_; intro B _)
  repeat' (first | apply v_seq | apply v_region | apply v_nil | apply v_block | (apply v_pure; (case hop => first | (apply p_move <;> rfl) | (apply p_assign <;> rfl) | (apply p_extract0 <;> rfl) | (apply p_extract1 <;> rfl) | fail); (case hd => rfl)) | (apply v_callJ (hs := qf); (case ha => rfl); (case hd => rfl)) | fail)
  refine v_loop [7, 5, 1] (fun us G' μ' => G' = G ∧ μ' = [] ∧ ∃ k : Nat, k ≤ got.length ∧ us = [Value.int .i64 (k : Nat), .int .i64 (topQ f1 (got.take k)), .slice A got.length c]) (fun us => got.length - (headI us).toNat) rfl ⟨rfl, rfl, 0, by omega, rfl⟩ ?_
  rintro us G' _ ⟨hG', rfl, k, hk, rfl⟩
  subst hG'
  have e1 : ((k : Nat) : Int).toNat = k := by omega
  by_cases hlt : k < got.length
  · have hA := hsome (by omega)
    obtain ⟨EA, ec, IA, ic, hck, hes⟩ := hcp k hlt
    have hsn : topQ f1 (got.take (k + 1)) = topL (topQ f1 (got.take k)) got[k].ents := by
      rw [List.take_succ_eq_append_getElem hlt]
      unfold topQ
      rw [List.foldl_append]
      rfl
    have hc7 := hck.cell (j := 8) rfl
    generalize topQ f1 (got.take k) = t at *
    generalize got[k] = m at *
    obtain ⟨A7, c7, e7, hlc7, hcm7, hsome7, hcp7, -⟩ := esOpen hes
    cases e7
    simp only [maxLen] at hcm7
    generalize m.ents = ents at *
    repeat' (first | apply v_seq | apply v_region | apply v_nil | apply v_skip | apply v_block | (apply v_pure; (case hop => first | (apply p_move <;> rfl) | (apply p_lt <;> rfl) | (apply p_assign <;> rfl) | (apply p_lenSlice <;> rfl) | fail); (case hd => rfl)) | (apply v_cond; (case hc => rfl); all_goals (intro h; (try simp only [reduceCtorEq, zzz] at h); first | (exfalso; omega) | skip)) | fail)
    refine v_loop [8, 5, 7, 1] (fun us G2 μ' => G2 = G' ∧ μ' = [] ∧ ∃ j : Nat, j ≤ ents.length ∧ us = [Value.int .i64 (j : Nat), .int .i64 (topL t (ents.take j)), .int .i64 (k : Nat), .slice A got.length c]) (fun us => ents.length - (headI us).toNat) rfl ⟨rfl, rfl, 0, by omega, rfl⟩ ?_
    rintro us G2 _ ⟨hG2, rfl, j, hj, rfl⟩
    subst hG2
    have e2 : ((j : Nat) : Int).toNat = j := by omega
    by_cases hlt7 : j < ents.length
    · have hA7 := hsome7 (by omega)
      have hce := (hcp7 j hlt7).cell (j := 0) rfl
      have hsj := topL_snoc t (ents.take j) ents[j]
      rw [← List.take_succ_eq_append_getElem hlt7] at hsj
      generalize topL t (ents.take j) = t2 at *
      generalize ents[j].index = x at *
      repeat' (first | apply v_seq | apply v_region | apply v_nil | apply v_skip | apply v_block | apply v_blk | (apply v_pure; (case hop => first | (apply p_move <;> rfl) | (apply p_lt <;> rfl) | (apply p_gt <;> rfl) | (apply p_assign <;> rfl) | (apply p_lenSlice <;> rfl) | (apply p_fieldAddr <;> rfl) | (apply p_add; (case hx => rfl); (case hy => rfl); (case h => omega)) | (apply p_indexAddrS; (case hx => rfl); (case hi => rfl); (case h0 => omega); (case h => omega); (case hA => assumption)) | fail); (case hd => rfl)) | (apply v_cond; (case hc => rfl); all_goals (intro h; (try simp only [reduceCtorEq, zzz] at h); first | (exfalso; omega) | skip)) | (apply v_read; (case hop => first | (apply r_load1; rfl; exact Cell.frozen hc7) | (apply r_load1; rfl; exact Cell.frozen hce)); (case hd => rfl)) | fail)
      all_goals
        (refine v_again rfl ⟨rfl, rfl, j + 1, by omega, ?_⟩ (by simp [headI]; omega)
         rw [hsj]
         first
           | (have : max t2 x = x := by omega
              rw [this]; rfl)
           | (have : max t2 x = t2 := by omega
              rw [this]; rfl))
    · have ek : j = ents.length := by omega
      subst ek
      rw [List.take_length]
      repeat' (first | apply v_seq | apply v_region | apply v_nil | apply v_blk | (apply v_exit; (case hp => rfl)) | (apply v_pure; (case hop => first | (apply p_move <;> rfl) | (apply p_lt <;> rfl) | (apply p_assign <;> rfl) | (apply p_lenSlice <;> rfl) | (apply p_fieldAddr <;> rfl) | (apply p_add; (case hx => rfl); (case hy => rfl); (case h => omega)) | (apply p_indexAddrS; (case hx => rfl); (case hi => rfl); (case h0 => omega); (case h => omega); (case hA => assumption)) | fail); (case hd => rfl)) | (apply v_cond; (case hc => rfl); all_goals (intro h; (try simp only [reduceCtorEq, zzz] at h); first | (exfalso; omega) | skip)) | (apply v_read; (case hop => (apply r_load1; rfl; exact Cell.frozen hc7)); (case hd => rfl)) | fail)
      exact v_again rfl ⟨rfl, rfl, k + 1, by omega, by rw [hsn] <;> rfl⟩ (by simp [headI]; omega)
  · have ek : k = got.length := by omega
    subst ek
    rw [List.take_length]
    repeat' (first | apply v_seq | apply v_region | apply v_nil | (apply v_exit; (case hp => rfl)) | (apply v_pure; (case hop => first | (apply p_move <;> rfl) | (apply p_lt <;> rfl) | (apply p_assign <;> rfl) | (apply p_lenSlice <;> rfl) | fail); (case hd => rfl)) | (apply v_cond; (case hc => rfl); all_goals (intro h; (try simp only [reduceCtorEq, zzz] at h); first | (exfalso; omega) | skip)) | fail)
    exact v_ret [] (outsA1 rfl rfl) (by repeat (exact List.Sublist.refl _)) ⟨rfl, rfl⟩
noncomputable def vlF (index : Int) (s : Bool × Ent) (m : Ms) : Bool × Ent := if hitB m.ents index = true then (true, if s.1 = false ∨ lessP s.2.round s.2.node (findE m.ents index).round (findE m.ents index).node ∨ (((findE m.ents index).round = s.2.round ∧ (findE m.ents index).node = s.2.node) ∧ m.src < s.2.index) then { findE m.ents index with index := m.src } else s.2) else s
noncomputable def vlS (index : Int) (l : List Ms) : Bool × Ent := l.foldl (vlF index) (false, zeroE)
theorem vlS_snoc (index : Int) (l : List Ms) (m : Ms) : vlS index (l ++ [m]) = vlF index (vlS index l) m := by
  unfold vlS
  rw [List.foldl_append]
  rfl
noncomputable def valueR (a : Int) (got : List Ms) (index : Int) : Bool × Cm := if index ≤ (flS a got).1 then (false, zeroE.cmd) else ((vlS index got).1, (vlS index got).2.cmd)
set_option maxHeartbeats 4000000 in
theorem refPValue_s {G : GH} {got : List Ms} {gv : Value} (a index : Int) (ha : 1 ≤ a ∧ a ≤ 4294967296) (hr : ∀ m ∈ got, RiseL m.ents) (hs : Mss G gv got) : Con Tryz.prog 49 #[.int .i64 a, gv, .int .i64 index] G [] (Just (.tuple [.agg (valueR a got index).2.cells.toArray, .bool (valueR a got index).1].toArray) G) := by
  have qf := refPFloor_s a ha hs
  obtain ⟨A, c, rfl, hlc, hcm, hsome, hcp⟩ := msOpenE hs
  simp only [maxLen] at hcm
  unfold valueR
  generalize flS a got = f at *
  obtain ⟨f1, f2⟩ := f
  apply Con.just
  (refine v_enter Tryz.func49 rfl Tryz.ntmps49 rfl ?_; intro B _)
  repeat' (first | apply v_seq | apply v_region | apply v_nil | apply v_block | (apply v_pure; (case hop => first | (apply p_move <;> rfl) | (apply p_assign <;> rfl) | (apply p_extract0 <;> rfl) | (apply p_extract1 <;> rfl) | (apply p_build; (case hz => rfl); (case hv => (simp only [List.map_cons, List.map_nil]; repeat (with_reducible exact evs_nil))); (case hb => (apply bldL; repeat (exact bld_nil)))) | fail); (case hd => rfl)) | (apply v_callJ (hs := qf); (case ha => rfl); (case hd => rfl)) | (apply v_alloc; (case hz => rfl); (case hd => rfl); intro b) | (apply v_store; (case hp => rfl); (case hx => rfl); (case hc => rfl); (case hsz => rfl); (case h1 => rfl); (case hb => (repeat (exact mhd _))); (case hfit => exact nle rfl); (case hov => ((repeat (first | with_reducible exact ov_nil | apply ov_cons)); done)); (case hu => repeat (exact Upd.here _ _))) | fail)
  rename_i b6
  revert b
  intro b11
  refine v_loop [12, 10, 1, 2, 8, 11, 6] (fun us G' μ' => G' = G ∧ ∃ k : Nat, k ≤ got.length ∧ (0 < k → f1 < index) ∧ us = [Value.int .i64 (k : Nat), .bool (vlS index (got.take k)).1, .slice A got.length c, .int .i64 index, .int .i64 f1, .pointer (some ⟨b11, 0, none⟩), .pointer (some ⟨b6, 0, none⟩)] ∧ μ' = [(b11, .cells (vlS index (got.take k)).2.cells.toArray 105 (0, 0)), (b6, .cells zeroE.cmd.cells.toArray 28 (0, 0))]) (fun us => got.length - (headI us).toNat) rfl ⟨rfl, 0, by omega, by omega, rfl, rfl⟩ ?_
  rintro us G' _ ⟨hG', k, hk, hfk, rfl, rfl⟩
  subst hG'
  have e1 : ((k : Nat) : Int).toNat = k := by omega
  by_cases hlt : k < got.length ∧ f1 < index
  · obtain ⟨hlt, hfi⟩ := hlt
    have hA := hsome (by omega)
    obtain ⟨EA, ec, IA, ic, hck, hes⟩ := hcp k hlt
    have hsn := vlS_snoc index (got.take k) got[k]
    rw [← List.take_succ_eq_append_getElem hlt] at hsn
    have hc8 := hck.cell (j := 8) rfl
    have hc1 := hck.cell (j := 1) rfl
    have qr := refEntFind_s index hes (hr _ (List.getElem_mem hlt))
    obtain ⟨A7, c7, e7, hlc7, hcm7, hsome7, hcp7, -⟩ := esOpen hes
    cases e7
    simp only [maxLen] at hcm7
    generalize vlS index (got.take k) = s at *
    generalize got[k] = m at *
    unfold vlF at hsn
    cases hh : hitB m.ents index with
    | false =>
      rw [hh, if_neg (by simp)] at qr
      rw [hh, if_neg (by simp)] at hsn
      repeat' (first | apply v_seq | apply v_region | apply v_nil | apply v_skip | apply v_block | (apply v_exit; (case hp => rfl)) | (apply v_take; (case hg => rfl)) | (apply v_pure; (case hop => first | (apply p_move <;> rfl) | (apply p_lt <;> rfl) | (apply p_gt <;> rfl) | (apply p_assign <;> rfl) | (apply p_pickT <;> rfl) | (apply p_lenSlice <;> rfl) | (apply p_fieldAddr <;> rfl) | (apply p_add; (case hx => rfl); (case hy => rfl); (case h => omega)) | (apply p_indexAddrS; (case hx => rfl); (case hi => rfl); (case h0 => omega); (case h => omega); (case hA => assumption)) | fail); (case hd => rfl)) | (apply v_cond; (case hc => rfl); all_goals (intro h; (try simp only [reduceCtorEq, zzz] at h); first | (exfalso; omega) | skip)) | (apply v_guardB; (case h1 => rfl); (case h2 => rfl); all_goals (intro h; (try simp only [reduceCtorEq, zzz] at h); first | (exfalso; omega) | skip)) | (apply v_read; (case hop => (apply r_load1; rfl; exact Cell.frozen hc8)); (case hd => rfl)) | (apply v_callJ (hs := qr); (case ha => rfl); (case hd => rfl)) | fail)
      exact v_again rfl ⟨rfl, k + 1, by omega, fun _ => hfi, by rw [hsn] <;> rfl, by rw [hsn] <;> rfl⟩ (by simp [headI]; omega)
    | true =>
      rw [hh, if_pos rfl] at qr
      rw [hh, if_pos rfl] at hsn
      have hp := hitB_lt hh
      have hA7 := hsome7 (by omega)
      have hce := hcp7 _ hp
      have ef : findE m.ents index = m.ents[placeN m.ents index] := by rw [findE, dif_pos hh]
      rw [ef] at hsn
      generalize hpl : placeN m.ents index = pl at *
      have e2 : ((pl : Nat) : Int).toNat = pl := by omega
      generalize m.ents[pl] = e at *
      obtain ⟨s1, s2⟩ := s
      simp only at hsn
      have ql := refLess_s G' s2.round s2.node e.round e.node
      obtain ⟨ei, er, en, ⟨e1k, e2k, e3k, e4k, e5k, e6k, e7k⟩⟩ := e
      obtain ⟨si, sr, sn, ⟨s1k, s2k, s3k, s4k, s5k, s6k, s7k⟩⟩ := s2
      simp only at hsn ql
      clear hcp7 hes hck hcp hr hs
      generalize m.ents.length = elen at *
      generalize m.src = src at *
      repeat' (first | apply v_seq | apply v_region | apply v_nil | apply v_skip | apply v_block | (apply v_take; (case hg => rfl)) | (apply v_pure; (case hop => first | (apply p_move <;> rfl) | (apply p_lt <;> rfl) | (apply p_gt <;> rfl) | (apply p_assign <;> rfl) | (apply p_pickT <;> rfl) | (apply p_lenSlice <;> rfl) | (apply p_fieldAddr <;> rfl) | (apply p_indexAddrS; (case hx => rfl); (case hi => rfl); (case h0 => omega); (case h => omega); (case hA => assumption)) | fail); (case hd => rfl)) | (apply v_cond; (case hc => rfl); all_goals (intro h; (try simp only [reduceCtorEq, zzz] at h); first | (exfalso; omega) | skip)) | (apply v_guardB; (case h1 => rfl); (case h2 => rfl); all_goals (intro h; (try simp only [reduceCtorEq, zzz] at h); first | (exfalso; omega) | skip)) | (apply v_read; (case hop => (apply r_load1; rfl; exact Cell.frozen hc8)); (case hd => rfl)) | (apply v_callJ (hs := qr); (case ha => rfl); (case hd => rfl)) | (apply v_read; (case hop => (apply r_loadN; rfl; exact CellsAt.frozen hce; rfl)); (case hd => rfl)) | (apply v_alloc; (case hz => rfl); (case hd => rfl); intro b) | (apply v_store; (case hp => rfl); (case hx => rfl); (case hc => rfl); (case hsz => rfl); (case h1 => rfl); (case hb => (repeat (exact mhd _))); (case hfit => exact nle rfl); (case hov => ((repeat (first | with_reducible exact ov_nil | apply ov_cons)); done)); (case hu => repeat (exact Upd.here _ _))) | fail)
      cases s1 with
      | false =>
        rw [if_pos (.inl rfl)] at hsn
        refine d_start _ (by kernel_rfl) (by kernel_rfl) (by kernel_rfl) (fun _ he => he) ?_
        all_goals (apply dtk 0; (case hi => rfl); (case hop => (apply prd; apply p_move <;> rfl)); (case hq => kernel_rfl))
        all_goals (apply dtk 1; (case hi => rfl); (case hop => (apply prd; apply p_not <;> rfl)); (case hq => kernel_rfl))
        all_goals (apply dtk 2; (case hi => rfl); (case hop => (apply prd; apply p_move <;> rfl)); (case hq => kernel_rfl))
        all_goals (try (apply d_guardB 3; (case hi => rfl); (case hgd => rfl); (case h1 => rfl); (case h2 => rfl); all_goals (intro h; (try simp only [reduceCtorEq, zzz] at h))))
        all_goals (apply dpa 3; (case hi => rfl); (case hg => rfl); (case hn => rfl); (case hq => kernel_rfl))
        all_goals (try (apply d_guardB 4; (case hi => rfl); (case hgd => rfl); (case h1 => rfl); (case h2 => rfl); all_goals (intro h; (try simp only [reduceCtorEq, zzz] at h))))
        all_goals (apply dpa 4; (case hi => rfl); (case hg => rfl); (case hn => rfl); (case hq => kernel_rfl))
        all_goals (try (apply d_guardB 5; (case hi => rfl); (case hgd => rfl); (case h1 => rfl); (case h2 => rfl); all_goals (intro h; (try simp only [reduceCtorEq, zzz] at h))))
        all_goals (apply dpa 5; (case hi => rfl); (case hg => rfl); (case hn => rfl); (case hq => kernel_rfl))
        all_goals (try (apply d_guardB 6; (case hi => rfl); (case hgd => rfl); (case h1 => rfl); (case h2 => rfl); all_goals (intro h; (try simp only [reduceCtorEq, zzz] at h))))
        all_goals (apply dpa 6; (case hi => rfl); (case hg => rfl); (case hn => rfl); (case hq => kernel_rfl))
        all_goals (try (apply d_guardB 7; (case hi => rfl); (case hgd => rfl); (case h1 => rfl); (case h2 => rfl); all_goals (intro h; (try simp only [reduceCtorEq, zzz] at h))))
        all_goals (apply dpa 7; (case hi => rfl); (case hg => rfl); (case hn => rfl); (case hq => kernel_rfl))
        all_goals (apply dtk 8; (case hi => rfl); (case hop => (apply prd; apply p_pickT <;> rfl)); (case hq => kernel_rfl))
        all_goals (apply dtk 9; (case hi => rfl); (case hop => (apply prd; apply p_move <;> rfl)); (case hq => kernel_rfl))
        all_goals (try (apply d_guardB 10; (case hi => rfl); (case hgd => rfl); (case h1 => rfl); (case h2 => rfl); all_goals (intro h; (try simp only [reduceCtorEq, zzz] at h))))
        all_goals (apply dpa 10; (case hi => rfl); (case hg => rfl); (case hn => rfl); (case hq => kernel_rfl))
        all_goals (try (apply d_guardB 11; (case hi => rfl); (case hgd => rfl); (case h1 => rfl); (case h2 => rfl); all_goals (intro h; (try simp only [reduceCtorEq, zzz] at h))))
        all_goals (apply dpa 11; (case hi => rfl); (case hg => rfl); (case hn => rfl); (case hq => kernel_rfl))
        all_goals (try (apply d_guardB 12; (case hi => rfl); (case hgd => rfl); (case h1 => rfl); (case h2 => rfl); all_goals (intro h; (try simp only [reduceCtorEq, zzz] at h))))
        all_goals (apply dpa 12; (case hi => rfl); (case hg => rfl); (case hn => rfl); (case hq => kernel_rfl))
        all_goals (try (apply d_guardB 13; (case hi => rfl); (case hgd => rfl); (case h1 => rfl); (case h2 => rfl); all_goals (intro h; (try simp only [reduceCtorEq, zzz] at h))))
        all_goals (apply dpa 13; (case hi => rfl); (case hg => rfl); (case hn => rfl); (case hq => kernel_rfl))
        all_goals (try (apply d_guardB 14; (case hi => rfl); (case hgd => rfl); (case h1 => rfl); (case h2 => rfl); all_goals (intro h; (try simp only [reduceCtorEq, zzz] at h))))
        all_goals (apply dpa 14; (case hi => rfl); (case hg => rfl); (case hn => rfl); (case hq => kernel_rfl))
        all_goals (try (apply d_guardB 15; (case hi => rfl); (case hgd => rfl); (case h1 => rfl); (case h2 => rfl); all_goals (intro h; (try simp only [reduceCtorEq, zzz] at h))))
        all_goals (apply dpa 15; (case hi => rfl); (case hg => rfl); (case hn => rfl); (case hq => kernel_rfl))
        all_goals (try (apply d_guardB 16; (case hi => rfl); (case hgd => rfl); (case h1 => rfl); (case h2 => fail); all_goals (intro h; (try simp only [reduceCtorEq, zzz] at h); fail)))
        all_goals (apply dpn 16; (case hi => rfl); (case hg => rfl); (case hn => rfl); (case hq => kernel_rfl))
        all_goals (try (apply d_guardB 17; (case hi => rfl); (case hgd => rfl); (case h1 => rfl); (case h2 => fail); all_goals (intro h; (try simp only [reduceCtorEq, zzz] at h); fail)))
        all_goals (apply dpn 17; (case hi => rfl); (case hg => rfl); (case hn => rfl); (case hq => kernel_rfl))
        all_goals (try (apply d_guardB 18; (case hi => rfl); (case hgd => rfl); (case h1 => rfl); (case h2 => fail); all_goals (intro h; (try simp only [reduceCtorEq, zzz] at h); fail)))
        all_goals (apply dpn 18; (case hi => rfl); (case hg => rfl); (case hn => rfl); (case hq => kernel_rfl))
        all_goals (try (apply d_guardB 19; (case hi => rfl); (case hgd => rfl); (case h1 => rfl); (case h2 => fail); all_goals (intro h; (try simp only [reduceCtorEq, zzz] at h); fail)))
        all_goals (apply dpn 19; (case hi => rfl); (case hg => rfl); (case hn => rfl); (case hq => kernel_rfl))
        all_goals (try (apply d_guardB 20; (case hi => rfl); (case hgd => rfl); (case h1 => rfl); (case h2 => fail); all_goals (intro h; (try simp only [reduceCtorEq, zzz] at h); fail)))
        all_goals (apply dpn 20; (case hi => rfl); (case hg => rfl); (case hn => rfl); (case hq => kernel_rfl))
        all_goals (try (apply d_guardB 21; (case hi => rfl); (case hgd => rfl); (case h1 => rfl); (case h2 => fail); all_goals (intro h; (try simp only [reduceCtorEq, zzz] at h); fail)))
        all_goals (apply dpn 21; (case hi => rfl); (case hg => rfl); (case hn => rfl); (case hq => kernel_rfl))
        all_goals (try (apply d_guardB 22; (case hi => rfl); (case hgd => rfl); (case h1 => rfl); (case h2 => fail); all_goals (intro h; (try simp only [reduceCtorEq, zzz] at h); fail)))
        all_goals (apply dpn 22; (case hi => rfl); (case hg => rfl); (case hn => rfl); (case hq => kernel_rfl))
        all_goals (try (apply d_guardB 23; (case hi => rfl); (case hgd => rfl); (case h1 => rfl); (case h2 => fail); all_goals (intro h; (try simp only [reduceCtorEq, zzz] at h); fail)))
        all_goals (apply dpn 23; (case hi => rfl); (case hg => rfl); (case hn => rfl); (case hq => kernel_rfl))
        all_goals (try (apply d_guardB 24; (case hi => rfl); (case hgd => rfl); (case h1 => rfl); (case h2 => rfl); all_goals (intro h; (try simp only [reduceCtorEq, zzz] at h))))
        all_goals (apply dpa 24; (case hi => rfl); (case hg => rfl); (case hn => rfl); (case hq => kernel_rfl))
        all_goals (apply dtk 25; (case hi => rfl); (case hop => (apply prd; apply p_pickT <;> rfl)); (case hq => kernel_rfl))
        all_goals (apply d_done; (case hr => kernel_rfl))
        all_goals repeat' (first | (apply v_read; (case hop => (apply r_loadNo; (case hx => rfl); (case h => repeat (exact mhd _)); (case hd => rfl); (case hn => rfl))); (case hd => rfl)) | apply v_seq | apply v_region | apply v_nil | apply v_blk | (apply v_pure; (case hop => first | (apply p_move <;> rfl) | (apply p_assign <;> rfl) | (apply p_fieldAddrB <;> rfl) | (apply p_fieldAddr <;> rfl) | (apply p_add; (case hx => rfl); (case hy => rfl); (case h => omega)) | (apply p_indexAddrS; (case hx => rfl); (case hi => rfl); (case h0 => omega); (case h => omega); (case hA => assumption)) | fail); (case hd => rfl)) | (apply v_condT; (case hc => rfl)) | (apply v_read; (case hop => (apply r_load1; rfl; exact Cell.frozen hc1)); (case hd => rfl)) | (apply v_store; (case hp => rfl); (case hx => rfl); (case hc => rfl); (case hsz => rfl); (case h1 => rfl); (case hb => (repeat (first | exact mhd _ | apply mtl))); (case hfit => exact nle rfl); (case hov => (first | ((repeat (first | with_reducible exact ov_nil | apply ov_cons)); done) | rfl)); (case hu => repeat (first | exact Upd.here _ _ | apply Upd.there))) | fail)
        all_goals
          (refine v_drop (List.sublist_cons_self _ _) ?_
           exact v_again rfl ⟨rfl, k + 1, by omega, fun _ => hfi, by rw [hsn] <;> rfl, by rw [hsn] <;> rfl⟩ (by simp [headI]; omega))
      | true =>
        by_cases hl : lessP sr sn er en
        · rw [if_pos (.inr (.inl hl))] at hsn
          rw [decide_eq_true hl] at ql
          refine d_start _ (by kernel_rfl) (by kernel_rfl) (by kernel_rfl) (fun _ he => he) ?_
          all_goals (apply dtk 0; (case hi => rfl); (case hop => (apply prd; apply p_move <;> rfl)); (case hq => kernel_rfl))
          all_goals (apply dtk 1; (case hi => rfl); (case hop => (apply prd; apply p_not <;> rfl)); (case hq => kernel_rfl))
          all_goals (apply dtk 2; (case hi => rfl); (case hop => (apply prd; apply p_move <;> rfl)); (case hq => kernel_rfl))
          all_goals (try (apply d_guardB 3; (case hi => rfl); (case hgd => rfl); (case h1 => rfl); (case h2 => rfl); all_goals (intro h; (try simp only [reduceCtorEq, zzz] at h))))
          all_goals (apply dtg 3; (case hi => rfl); (case hg => rfl); (case hop => (apply prd; apply p_fieldAddrB <;> rfl)); (case hq => kernel_rfl))
          all_goals (try (apply d_guardB 4; (case hi => rfl); (case hgd => rfl); (case h1 => rfl); (case h2 => rfl); all_goals (intro h; (try simp only [reduceCtorEq, zzz] at h))))
          all_goals (apply dtg 4; (case hi => rfl); (case hg => rfl); (case hop => (apply r_loadNo; (case hx => rfl); (case h => (repeat (first | exact mhd _ | apply mtl))); (case hd => (repeat (first | with_reducible exact dt_nil | apply dt_here))); (case hn => rfl))); (case hq => kernel_rfl))
          all_goals (try (apply d_guardB 5; (case hi => rfl); (case hgd => rfl); (case h1 => rfl); (case h2 => rfl); all_goals (intro h; (try simp only [reduceCtorEq, zzz] at h))))
          all_goals (apply dtg 5; (case hi => rfl); (case hg => rfl); (case hop => (apply prd; apply p_fieldAddrB <;> rfl)); (case hq => kernel_rfl))
          all_goals (try (apply d_guardB 6; (case hi => rfl); (case hgd => rfl); (case h1 => rfl); (case h2 => rfl); all_goals (intro h; (try simp only [reduceCtorEq, zzz] at h))))
          all_goals (apply dtg 6; (case hi => rfl); (case hg => rfl); (case hop => (apply r_loadNo; (case hx => rfl); (case h => (repeat (exact mhd _))); (case hd => (repeat (first | with_reducible exact dt_nil | apply dt_here))); (case hn => rfl))); (case hq => kernel_rfl))
          all_goals (try (apply d_guardB 7; (case hi => rfl); (case hgd => rfl); (case h1 => rfl); (case h2 => rfl); all_goals (intro h; (try simp only [reduceCtorEq, zzz] at h))))
          all_goals (apply d_callJG 7 (hs := ql); (case hi => rfl); (case hg => rfl); (case hr => kernel_rfl); (case ha => rfl); (case hd => rfl))
          all_goals (apply dtk 8; (case hi => rfl); (case hop => (apply prd; apply p_pickF <;> rfl)); (case hq => kernel_rfl))
          all_goals (apply dtk 9; (case hi => rfl); (case hop => (apply prd; apply p_move <;> rfl)); (case hq => kernel_rfl))
          all_goals (try (apply d_guardB 10; (case hi => rfl); (case hgd => rfl); (case h1 => rfl); (case h2 => rfl); all_goals (intro h; (try simp only [reduceCtorEq, zzz] at h))))
          all_goals (apply dpa 10; (case hi => rfl); (case hg => rfl); (case hn => rfl); (case hq => kernel_rfl))
          all_goals (try (apply d_guardB 11; (case hi => rfl); (case hgd => rfl); (case h1 => rfl); (case h2 => rfl); all_goals (intro h; (try simp only [reduceCtorEq, zzz] at h))))
          all_goals (apply dpa 11; (case hi => rfl); (case hg => rfl); (case hn => rfl); (case hq => kernel_rfl))
          all_goals (try (apply d_guardB 12; (case hi => rfl); (case hgd => rfl); (case h1 => rfl); (case h2 => rfl); all_goals (intro h; (try simp only [reduceCtorEq, zzz] at h))))
          all_goals (apply dpa 12; (case hi => rfl); (case hg => rfl); (case hn => rfl); (case hq => kernel_rfl))
          all_goals (try (apply d_guardB 13; (case hi => rfl); (case hgd => rfl); (case h1 => rfl); (case h2 => rfl); all_goals (intro h; (try simp only [reduceCtorEq, zzz] at h))))
          all_goals (apply dpa 13; (case hi => rfl); (case hg => rfl); (case hn => rfl); (case hq => kernel_rfl))
          all_goals (try (apply d_guardB 14; (case hi => rfl); (case hgd => rfl); (case h1 => rfl); (case h2 => rfl); all_goals (intro h; (try simp only [reduceCtorEq, zzz] at h))))
          all_goals (apply dpa 14; (case hi => rfl); (case hg => rfl); (case hn => rfl); (case hq => kernel_rfl))
          all_goals (try (apply d_guardB 15; (case hi => rfl); (case hgd => rfl); (case h1 => rfl); (case h2 => rfl); all_goals (intro h; (try simp only [reduceCtorEq, zzz] at h))))
          all_goals (apply dpa 15; (case hi => rfl); (case hg => rfl); (case hn => rfl); (case hq => kernel_rfl))
          all_goals (try (apply d_guardB 16; (case hi => rfl); (case hgd => rfl); (case h1 => rfl); (case h2 => fail); all_goals (intro h; (try simp only [reduceCtorEq, zzz] at h); fail)))
          all_goals (apply dpn 16; (case hi => rfl); (case hg => rfl); (case hn => rfl); (case hq => kernel_rfl))
          all_goals (try (apply d_guardB 17; (case hi => rfl); (case hgd => rfl); (case h1 => rfl); (case h2 => fail); all_goals (intro h; (try simp only [reduceCtorEq, zzz] at h); fail)))
          all_goals (apply dpn 17; (case hi => rfl); (case hg => rfl); (case hn => rfl); (case hq => kernel_rfl))
          all_goals (try (apply d_guardB 18; (case hi => rfl); (case hgd => rfl); (case h1 => rfl); (case h2 => fail); all_goals (intro h; (try simp only [reduceCtorEq, zzz] at h); fail)))
          all_goals (apply dpn 18; (case hi => rfl); (case hg => rfl); (case hn => rfl); (case hq => kernel_rfl))
          all_goals (try (apply d_guardB 19; (case hi => rfl); (case hgd => rfl); (case h1 => rfl); (case h2 => fail); all_goals (intro h; (try simp only [reduceCtorEq, zzz] at h); fail)))
          all_goals (apply dpn 19; (case hi => rfl); (case hg => rfl); (case hn => rfl); (case hq => kernel_rfl))
          all_goals (try (apply d_guardB 20; (case hi => rfl); (case hgd => rfl); (case h1 => rfl); (case h2 => fail); all_goals (intro h; (try simp only [reduceCtorEq, zzz] at h); fail)))
          all_goals (apply dpn 20; (case hi => rfl); (case hg => rfl); (case hn => rfl); (case hq => kernel_rfl))
          all_goals (try (apply d_guardB 21; (case hi => rfl); (case hgd => rfl); (case h1 => rfl); (case h2 => fail); all_goals (intro h; (try simp only [reduceCtorEq, zzz] at h); fail)))
          all_goals (apply dpn 21; (case hi => rfl); (case hg => rfl); (case hn => rfl); (case hq => kernel_rfl))
          all_goals (try (apply d_guardB 22; (case hi => rfl); (case hgd => rfl); (case h1 => rfl); (case h2 => fail); all_goals (intro h; (try simp only [reduceCtorEq, zzz] at h); fail)))
          all_goals (apply dpn 22; (case hi => rfl); (case hg => rfl); (case hn => rfl); (case hq => kernel_rfl))
          all_goals (try (apply d_guardB 23; (case hi => rfl); (case hgd => rfl); (case h1 => rfl); (case h2 => fail); all_goals (intro h; (try simp only [reduceCtorEq, zzz] at h); fail)))
          all_goals (apply dpn 23; (case hi => rfl); (case hg => rfl); (case hn => rfl); (case hq => kernel_rfl))
          all_goals (try (apply d_guardB 24; (case hi => rfl); (case hgd => rfl); (case h1 => rfl); (case h2 => rfl); all_goals (intro h; (try simp only [reduceCtorEq, zzz] at h))))
          all_goals (apply dpa 24; (case hi => rfl); (case hg => rfl); (case hn => rfl); (case hq => kernel_rfl))
          all_goals (apply dtk 25; (case hi => rfl); (case hop => (apply prd; apply p_pickT <;> rfl)); (case hq => kernel_rfl))
          all_goals (apply d_done; (case hr => kernel_rfl))
          all_goals repeat' (first | (apply v_read; (case hop => (apply r_loadNo; (case hx => rfl); (case h => repeat (exact mhd _)); (case hd => rfl); (case hn => rfl))); (case hd => rfl)) | apply v_seq | apply v_region | apply v_nil | apply v_blk | (apply v_pure; (case hop => first | (apply p_move <;> rfl) | (apply p_assign <;> rfl) | (apply p_fieldAddrB <;> rfl) | (apply p_fieldAddr <;> rfl) | (apply p_add; (case hx => rfl); (case hy => rfl); (case h => omega)) | (apply p_indexAddrS; (case hx => rfl); (case hi => rfl); (case h0 => omega); (case h => omega); (case hA => assumption)) | fail); (case hd => rfl)) | (apply v_condT; (case hc => rfl)) | (apply v_read; (case hop => (apply r_load1; rfl; exact Cell.frozen hc1)); (case hd => rfl)) | (apply v_store; (case hp => rfl); (case hx => rfl); (case hc => rfl); (case hsz => rfl); (case h1 => rfl); (case hb => (repeat (first | exact mhd _ | apply mtl))); (case hfit => exact nle rfl); (case hov => (first | ((repeat (first | with_reducible exact ov_nil | apply ov_cons)); done) | rfl)); (case hu => repeat (first | exact Upd.here _ _ | apply Upd.there))) | fail)
          all_goals
            (refine v_drop (List.sublist_cons_self _ _) ?_
             exact v_again rfl ⟨rfl, k + 1, by omega, fun _ => hfi, by rw [hsn] <;> rfl, by rw [hsn] <;> rfl⟩ (by simp [headI]; omega))
        · rw [decide_eq_false hl] at ql
          refine d_start _ (by kernel_rfl) (by kernel_rfl) (by kernel_rfl) (fun _ he => he) ?_
          all_goals (apply dtk 0; (case hi => rfl); (case hop => (apply prd; apply p_move <;> rfl)); (case hq => kernel_rfl))
          all_goals (apply dtk 1; (case hi => rfl); (case hop => (apply prd; apply p_not <;> rfl)); (case hq => kernel_rfl))
          all_goals (apply dtk 2; (case hi => rfl); (case hop => (apply prd; apply p_move <;> rfl)); (case hq => kernel_rfl))
          all_goals (try (apply d_guardB 3; (case hi => rfl); (case hgd => rfl); (case h1 => rfl); (case h2 => rfl); all_goals (intro h; (try simp only [reduceCtorEq, zzz] at h))))
          all_goals (apply dtg 3; (case hi => rfl); (case hg => rfl); (case hop => (apply prd; apply p_fieldAddrB <;> rfl)); (case hq => kernel_rfl))
          all_goals (try (apply d_guardB 4; (case hi => rfl); (case hgd => rfl); (case h1 => rfl); (case h2 => rfl); all_goals (intro h; (try simp only [reduceCtorEq, zzz] at h))))
          all_goals (apply dtg 4; (case hi => rfl); (case hg => rfl); (case hop => (apply r_loadNo; (case hx => rfl); (case h => (repeat (first | exact mhd _ | apply mtl))); (case hd => (repeat (first | with_reducible exact dt_nil | apply dt_here))); (case hn => rfl))); (case hq => kernel_rfl))
          all_goals (try (apply d_guardB 5; (case hi => rfl); (case hgd => rfl); (case h1 => rfl); (case h2 => rfl); all_goals (intro h; (try simp only [reduceCtorEq, zzz] at h))))
          all_goals (apply dtg 5; (case hi => rfl); (case hg => rfl); (case hop => (apply prd; apply p_fieldAddrB <;> rfl)); (case hq => kernel_rfl))
          all_goals (try (apply d_guardB 6; (case hi => rfl); (case hgd => rfl); (case h1 => rfl); (case h2 => rfl); all_goals (intro h; (try simp only [reduceCtorEq, zzz] at h))))
          all_goals (apply dtg 6; (case hi => rfl); (case hg => rfl); (case hop => (apply r_loadNo; (case hx => rfl); (case h => (repeat (exact mhd _))); (case hd => (repeat (first | with_reducible exact dt_nil | apply dt_here))); (case hn => rfl))); (case hq => kernel_rfl))
          all_goals (try (apply d_guardB 7; (case hi => rfl); (case hgd => rfl); (case h1 => rfl); (case h2 => rfl); all_goals (intro h; (try simp only [reduceCtorEq, zzz] at h))))
          all_goals (apply d_callJG 7 (hs := ql); (case hi => rfl); (case hg => rfl); (case hr => kernel_rfl); (case ha => rfl); (case hd => rfl))
          all_goals (apply dtk 8; (case hi => rfl); (case hop => (apply prd; apply p_pickF <;> rfl)); (case hq => kernel_rfl))
          all_goals (apply dtk 9; (case hi => rfl); (case hop => (apply prd; apply p_move <;> rfl)); (case hq => kernel_rfl))
          all_goals (try (apply d_guardB 10; (case hi => rfl); (case hgd => rfl); (case h1 => rfl); (case h2 => rfl); all_goals (intro h; (try simp only [reduceCtorEq, zzz] at h))))
          all_goals (apply dtg 10; (case hi => rfl); (case hg => rfl); (case hop => (apply prd; apply p_fieldAddrB <;> rfl)); (case hq => kernel_rfl))
          all_goals (try (apply d_guardB 11; (case hi => rfl); (case hgd => rfl); (case h1 => rfl); (case h2 => rfl); all_goals (intro h; (try simp only [reduceCtorEq, zzz] at h))))
          all_goals (apply dtg 11; (case hi => rfl); (case hg => rfl); (case hop => (apply r_loadNo; (case hx => rfl); (case h => (repeat (exact mhd _))); (case hd => (repeat (first | with_reducible exact dt_nil | apply dt_here))); (case hn => rfl))); (case hq => kernel_rfl))
          all_goals (try (apply d_guardB 12; (case hi => rfl); (case hgd => rfl); (case h1 => rfl); (case h2 => rfl); all_goals (intro h; (try simp only [reduceCtorEq, zzz] at h))))
          all_goals (apply dtg 12; (case hi => rfl); (case hg => rfl); (case hop => (apply prd; apply p_fieldAddrB <;> rfl)); (case hq => kernel_rfl))
          all_goals (try (apply d_guardB 13; (case hi => rfl); (case hgd => rfl); (case h1 => rfl); (case h2 => rfl); all_goals (intro h; (try simp only [reduceCtorEq, zzz] at h))))
          all_goals (apply dtg 13; (case hi => rfl); (case hg => rfl); (case hop => (apply r_loadNo; (case hx => rfl); (case h => (repeat (first | exact mhd _ | apply mtl))); (case hd => (repeat (first | with_reducible exact dt_nil | apply dt_here))); (case hn => rfl))); (case hq => kernel_rfl))
          all_goals (try (apply d_guardB 14; (case hi => rfl); (case hgd => rfl); (case h1 => rfl); (case h2 => rfl); all_goals (intro h; (try simp only [reduceCtorEq, zzz] at h))))
          all_goals (apply dtg 14; (case hi => rfl); (case hg => rfl); (case hop => ((apply prd; apply eqBal; (case hx => rfl); (case hy => rfl)))); (case hq => kernel_rfl))
          all_goals (try (apply d_guardB 15; (case hi => rfl); (case hgd => rfl); (case h1 => rfl); (case h2 => rfl); all_goals (intro h; (try simp only [reduceCtorEq, zzz] at h))))
          all_goals (apply dtg 15; (case hi => rfl); (case hg => rfl); (case hop => (apply prd; apply p_move <;> rfl)); (case hq => kernel_rfl))
          all_goals (try (apply d_guardB 16; (case hi => rfl); (case hgd => rfl); (case h1 => rfl); (case h2 => rfl); all_goals (intro h; (try simp only [reduceCtorEq, zzz] at h))))
          all_goals (first | (apply dpa 16; (case hi => rfl); (case hg => rfl); (case hn => rfl); (case hq => kernel_rfl)) | (apply dtg 16; (case hi => rfl); (case hg => rfl); (case hop => (apply prd; apply p_move <;> rfl)); (case hq => kernel_rfl)) | fail)
          all_goals (try (apply d_guardB 17; (case hi => rfl); (case hgd => rfl); (case h1 => rfl); (case h2 => rfl); all_goals (intro h; (try simp only [reduceCtorEq, zzz] at h))))
          all_goals (first | (apply dpa 17; (case hi => rfl); (case hg => rfl); (case hn => rfl); (case hq => kernel_rfl)) | (apply dtg 17; (case hi => rfl); (case hg => rfl); (case hop => (apply prd; apply p_move <;> rfl)); (case hq => kernel_rfl)) | fail)
          all_goals (try (apply d_guardB 18; (case hi => rfl); (case hgd => rfl); (case h1 => rfl); (case h2 => rfl); all_goals (intro h; (try simp only [reduceCtorEq, zzz] at h))))
          all_goals (first | (apply dpa 18; (case hi => rfl); (case hg => rfl); (case hn => rfl); (case hq => kernel_rfl)) | (apply dtg 18; (case hi => rfl); (case hg => rfl); (case hop => (apply prd; apply p_indexAddrS; (case hx => rfl); (case hi => rfl); (case h0 => omega); (case h => omega); (case hA => assumption))); (case hq => kernel_rfl)) | fail)
          all_goals (try (apply d_guardB 19; (case hi => rfl); (case hgd => rfl); (case h1 => rfl); (case h2 => rfl); all_goals (intro h; (try simp only [reduceCtorEq, zzz] at h))))
          all_goals (first | (apply dpa 19; (case hi => rfl); (case hg => rfl); (case hn => rfl); (case hq => kernel_rfl)) | (apply dtg 19; (case hi => rfl); (case hg => rfl); (case hop => (apply prd; apply p_fieldAddr <;> rfl)); (case hq => kernel_rfl)) | fail)
          all_goals (try (apply d_guardB 20; (case hi => rfl); (case hgd => rfl); (case h1 => rfl); (case h2 => rfl); all_goals (intro h; (try simp only [reduceCtorEq, zzz] at h))))
          all_goals (first | (apply dpa 20; (case hi => rfl); (case hg => rfl); (case hn => rfl); (case hq => kernel_rfl)) | (apply dtg 20; (case hi => rfl); (case hg => rfl); (case hop => ((apply r_load1; rfl; exact Cell.frozen hc1))); (case hq => kernel_rfl)) | fail)
          all_goals (try (apply d_guardB 21; (case hi => rfl); (case hgd => rfl); (case h1 => rfl); (case h2 => rfl); all_goals (intro h; (try simp only [reduceCtorEq, zzz] at h))))
          all_goals (first | (apply dpa 21; (case hi => rfl); (case hg => rfl); (case hn => rfl); (case hq => kernel_rfl)) | (apply dtg 21; (case hi => rfl); (case hg => rfl); (case hop => (apply prd; apply p_fieldAddrB <;> rfl)); (case hq => kernel_rfl)) | fail)
          all_goals (try (apply d_guardB 22; (case hi => rfl); (case hgd => rfl); (case h1 => rfl); (case h2 => rfl); all_goals (intro h; (try simp only [reduceCtorEq, zzz] at h))))
          all_goals (first | (apply dpa 22; (case hi => rfl); (case hg => rfl); (case hn => rfl); (case hq => kernel_rfl)) | (apply dtg 22; (case hi => rfl); (case hg => rfl); (case hop => ((apply r_load1; rfl; (apply Cell.own; (case h => repeat (first | exact mhd _ | apply mtl)); rfl)))); (case hq => kernel_rfl)) | fail)
          all_goals (try (apply d_guardB 23; (case hi => rfl); (case hgd => rfl); (case h1 => rfl); (case h2 => rfl); all_goals (intro h; (try simp only [reduceCtorEq, zzz] at h))))
          all_goals (first | (apply dpa 23; (case hi => rfl); (case hg => rfl); (case hn => rfl); (case hq => kernel_rfl)) | (apply dtg 23; (case hi => rfl); (case hg => rfl); (case hop => (apply prd; apply p_lt <;> rfl)); (case hq => kernel_rfl)) | fail)
          all_goals (try (apply d_guardB 24; (case hi => rfl); (case hgd => rfl); (case h1 => rfl); (case h2 => rfl); all_goals (intro h; (try simp only [reduceCtorEq, zzz] at h))))
          all_goals (apply dtg 24; (case hi => rfl); (case hg => rfl); (case hop => first | (apply prd; apply p_pickT <;> rfl) | (apply prd; apply p_pickF <;> rfl) | fail); (case hq => kernel_rfl))
          all_goals (apply dtk 25; (case hi => rfl); (case hop => (apply prd; apply p_pickF <;> rfl)); (case hq => kernel_rfl))
          all_goals (apply d_done; (case hr => kernel_rfl))
          all_goals repeat' (first | (apply v_read; (case hop => (apply r_loadNo; (case hx => rfl); (case h => repeat (exact mhd _)); (case hd => rfl); (case hn => rfl))); (case hd => rfl)) | apply v_seq | apply v_region | apply v_nil | apply v_skip | apply v_blk | (apply v_pure; (case hop => first | (apply p_move <;> rfl) | (apply p_assign <;> rfl) | (apply p_fieldAddrB <;> rfl) | (apply p_fieldAddr <;> rfl) | (apply p_add; (case hx => rfl); (case hy => rfl); (case h => omega)) | (apply p_indexAddrS; (case hx => rfl); (case hi => rfl); (case h0 => omega); (case h => omega); (case hA => assumption)) | fail); (case hd => rfl)) | (apply v_condF; (case hc => rfl)) | (apply v_cond; (case hc => rfl); all_goals (intro h; (try simp only [reduceCtorEq, zzz] at h))) | (apply v_read; (case hop => (apply r_load1; rfl; exact Cell.frozen hc1)); (case hd => rfl)) | (apply v_store; (case hp => rfl); (case hx => rfl); (case hc => rfl); (case hsz => rfl); (case h1 => rfl); (case hb => (repeat (first | exact mhd _ | apply mtl))); (case hfit => exact nle rfl); (case hov => (first | ((repeat (first | with_reducible exact ov_nil | apply ov_cons)); done) | rfl)); (case hu => repeat (first | exact Upd.here _ _ | apply Upd.there))) | fail)
          all_goals refine v_drop (List.sublist_cons_self _ _) ?_
          all_goals first
            | (rw [if_pos (by exact .inr (.inr ⟨by assumption, by omega⟩))] at hsn
               exact v_again rfl ⟨rfl, k + 1, by omega, fun _ => hfi, by rw [hsn] <;> rfl, by rw [hsn] <;> rfl⟩ (by simp [headI]; omega))
            | (rw [if_neg (by
                 rintro (h | h | ⟨h, h2⟩)
                 · cases h
                 · exact hl h
                 · first
                     | omega
                     | exact absurd h (by assumption))] at hsn
               exact v_again rfl ⟨rfl, k + 1, by omega, fun _ => hfi, by rw [hsn] <;> rfl, by rw [hsn] <;> rfl⟩ (by simp [headI]; omega))
  · have hfin : (if index ≤ f1 then (false, zeroE.cmd) else ((vlS index got).1, (vlS index got).2.cmd)) = ((vlS index (got.take k)).1, (vlS index (got.take k)).2.cmd) := by
      by_cases h : f1 < index
      · have ek : k = got.length := by omega
        subst ek
        rw [List.take_length, if_neg (by omega)]
      · have ek : k = 0 := by
          by_cases h0 : 0 < k
          · exact absurd (hfk h0) h
          · omega
        subst ek
        rw [if_pos (by omega)]
        rfl
    simp only at hfin ⊢
    rw [hfin]
    generalize vlS index (got.take k) = s at *
    obtain ⟨s1, ⟨si, sr, sn, sc⟩⟩ := s
    repeat' (first | (apply v_read; (case hop => (apply r_loadNo; (case hx => rfl); (case h => repeat (exact mhd _)); (case hd => rfl); (case hn => rfl))); (case hd => rfl)) | apply v_seq | apply v_region | apply v_nil | (apply v_exit; (case hp => rfl)) | (apply v_take; (case hg => rfl)) | (apply v_pass; (case hg => rfl); (case hn => rfl); (case hd => rfl)) | (apply v_pure; (case hop => first | (apply p_move <;> rfl) | (apply p_lt <;> rfl) | (apply p_gt <;> rfl) | (apply p_assign <;> rfl) | (apply p_pickT <;> rfl) | (apply p_pickF <;> rfl) | (apply p_lenSlice <;> rfl) | (apply p_fieldAddrB <;> rfl) | fail); (case hd => rfl)) | (apply v_condF; (case hc => rfl)) | (apply v_cond; (case hc => rfl); all_goals (intro h; (try simp only [reduceCtorEq, zzz] at h); first | (exfalso; omega) | skip)) | (apply v_guardB; (case h1 => rfl); (case h2 => rfl); all_goals (intro h; (try simp only [reduceCtorEq, zzz] at h))) | (apply v_store; (case hp => rfl); (case hx => rfl); (case hc => rfl); (case hsz => rfl); (case h1 => rfl); (case hb => (repeat (first | exact mhd _ | apply mtl))); (case hfit => exact nle rfl); (case hov => (rfl)); (case hu => repeat (first | exact Upd.here _ _ | apply Upd.there))) | fail)
    all_goals
      (refine v_retM [] (outsM_cell_tmp (vs := sc.cells) (e := 28) rfl rfl rfl ?_ ?_) (by repeat (exact List.nil_sublist _)) ?_
       · repeat (first | exact mhd _ | apply mtl)
       · rfl
       · exact ⟨rfl, rfl⟩)
theorem msOf_src {got : List Ms} (hn : (got.map (·.src)).Nodup) {m : Ms} (hm : m ∈ got) : msOf got m.src = m := by
  unfold msOf
  cases hf : got.find? fun x => decide (x.src = m.src) with
  | none =>
    have := List.find?_eq_none.1 hf m hm
    simp at this
  | some x =>
    have h1 := List.find?_some hf
    have h2 := List.mem_of_find?_eq_some hf
    simp only [decide_eq_true_eq] at h1
    obtain ⟨i, hi, rfl⟩ := List.getElem_of_mem hm
    obtain ⟨j, hj, rfl⟩ := List.getElem_of_mem h2
    have := (List.getElem_inj (i := j) (j := i) (h₀ := by simpa using hj) (h₁ := by simpa using hi) hn).1 (by simpa using h1)
    subst this
    rfl
theorem nodesL_mem {got : List Ms} {n : Int} : n ∈ nodesL got ↔ ∃ m ∈ got, m.src = n := by
  unfold nodesL
  rw [(sortL_perm _).mem_iff, List.mem_map]
theorem nodesL_lt {got : List Ms} (hn : (got.map (·.src)).Nodup) : (nodesL got).Pairwise (· < ·) := by
  have h1 := sortL_le (got.map (·.src))
  have h2 : (nodesL got).Nodup := (sortL_perm _).nodup_iff.2 hn
  exact (h1.and h2).imp fun h => by omega
theorem foldl_inv {α β : Type} {f : β → α → β} {P : List α → β → Prop} {l : List α} {b : β} (h0 : P [] b) (hs : ∀ k (h : k < l.length) s, P (l.take k) s → P (l.take k ++ [l[k]]) (f s l[k])) : P l (l.foldl f b) := by
  have : ∀ k, k ≤ l.length → P (l.take k) ((l.take k).foldl f b) := by
    intro k
    induction k with
    | zero => intro _; exact h0
    | succ k ih =>
      intro hk
      rw [List.take_succ_eq_append_getElem (by omega), List.foldl_append]
      exact hs k (by omega) _ (ih (by omega))
  have h := this l.length (Nat.le_refl _)
  rwa [List.take_length] at h
theorem lt_take {l : List Int} (h : l.Pairwise (· < ·)) {k : Nat} (hk : k < l.length) : ∀ n ∈ l.take k, n < l[k] := by
  intro n hn
  obtain ⟨j, hj, rfl⟩ := List.getElem_of_mem hn
  rw [List.length_take] at hj
  rw [List.getElem_take]
  exact List.pairwise_iff_getElem.1 h j k (by omega) hk (by omega)
def CP (got : List Ms) (pre : List Int) (s : Int × Int) : Prop := -1 ≤ s.1 ∧ (∀ n ∈ pre, (msOf got n).commit ≤ s.1) ∧ (s = (-1, 0) ∨ ∃ n ∈ pre, s = ((msOf got n).commit, n) ∧ ∀ n' ∈ pre, (msOf got n').commit = s.1 → n ≤ n')
theorem CP.of {got : List Ms} (hn : (got.map (·.src)).Nodup) : CP got (nodesL got) (comS got (nodesL got)) := by
  unfold comS
  refine foldl_inv (P := CP got) ⟨Int.le_refl _, by simp, .inl rfl⟩ fun k hk s ⟨h1, h2, h3⟩ => ?_
  have hlt := lt_take (nodesL_lt hn) hk
  generalize (nodesL got)[k] = x at *
  generalize (nodesL got).take k = pre at *
  unfold comF
  by_cases hc : s.1 < (msOf got x).commit
  · rw [if_pos hc]
    refine ⟨by simp only; omega, fun n hn => ?_, .inr ⟨x, by simp, rfl, fun n hn he => ?_⟩⟩
    · rcases List.mem_append.1 hn with hn | hn
      · have := h2 n hn; simp only; omega
      · rw [List.mem_singleton] at hn; subst hn; exact Int.le_refl _
    · rcases List.mem_append.1 hn with hn | hn
      · have := h2 n hn; simp only at he; omega
      · rw [List.mem_singleton] at hn; subst hn; exact Int.le_refl _
  · rw [if_neg hc]
    refine ⟨h1, fun n hn => ?_, ?_⟩
    · rcases List.mem_append.1 hn with hn | hn
      · exact h2 n hn
      · rw [List.mem_singleton] at hn; subst hn; omega
    · rcases h3 with h3 | ⟨n, hn, h3, h4⟩
      · exact .inl h3
      · refine .inr ⟨n, List.mem_append_left _ hn, h3, fun n' hn' he => ?_⟩
        rcases List.mem_append.1 hn' with hn' | hn'
        · exact h4 n' hn' he
        · rw [List.mem_singleton] at hn'; subst hn'
          have := hlt n hn
          omega
def FP (a : Int) (S : List Ms) (s : Int × Int) : Prop := a - 1 ≤ s.1 ∧ (∀ m ∈ S, m.commit ≤ s.1) ∧ (s = (a - 1, 0) ∨ ∃ m ∈ S, s = (m.commit, m.src) ∧ a - 1 < m.commit ∧ ∀ m' ∈ S, m'.commit = m.commit → m.src ≤ m'.src)
theorem FP.of {got : List Ms} (a : Int) (hb : SrcP got) : FP a got (flS a got) := by
  unfold flS
  refine foldl_inv (P := FP a) ⟨Int.le_refl _, by simp, .inl rfl⟩ fun k hk s ⟨h1, h2, h3⟩ => ?_
  have hx := hb.2.1 _ (List.getElem_mem hk)
  have hS : ∀ m ∈ got.take k, 1 ≤ m.src := fun m hm => (hb.2.1 m (List.mem_of_mem_take hm)).1
  generalize got[k] = x at *
  generalize got.take k = S at *
  obtain ⟨s1, s2⟩ := s
  unfold flF
  simp only at h1 h2 h3 ⊢
  by_cases hc : s1 < x.commit
  · rw [if_pos (.inl hc)]
    refine ⟨by simp only; omega, fun m hm => ?_, .inr ⟨x, by simp, rfl, by omega, fun m hm he => ?_⟩⟩
    · rcases List.mem_append.1 hm with hm | hm
      · have := h2 m hm; simp only; omega
      · rw [List.mem_singleton] at hm; subst hm; exact Int.le_refl _
    · rcases List.mem_append.1 hm with hm | hm
      · have := h2 m hm; omega
      · rw [List.mem_singleton] at hm; subst hm; exact Int.le_refl _
  · by_cases hd : x.commit = s1 ∧ 0 < s2 ∧ x.src < s2
    · rw [if_pos (.inr hd)]
      rcases h3 with h3 | ⟨m0, hm0, h3, h4, h5⟩
      · simp only [Prod.mk.injEq] at h3; omega
      · simp only [Prod.mk.injEq] at h3
        refine ⟨by simp only; omega, fun m hm => ?_, .inr ⟨x, by simp, rfl, by omega, fun m hm he => ?_⟩⟩
        · rcases List.mem_append.1 hm with hm | hm
          · have := h2 m hm; simp only; omega
          · rw [List.mem_singleton] at hm; subst hm; exact Int.le_refl _
        · rcases List.mem_append.1 hm with hm | hm
          · have := h5 m hm (by omega); omega
          · rw [List.mem_singleton] at hm; subst hm; exact Int.le_refl _
    · rw [if_neg (by omega)]
      refine ⟨h1, fun m hm => ?_, ?_⟩
      · rcases List.mem_append.1 hm with hm | hm
        · exact h2 m hm
        · rw [List.mem_singleton] at hm; subst hm; simp only; omega
      · rcases h3 with h3 | ⟨m0, hm0, h3, h4, h5⟩
        · exact .inl h3
        · refine .inr ⟨m0, List.mem_append_left _ hm0, h3, h4, fun m hm he => ?_⟩
          simp only [Prod.mk.injEq] at h3
          have := hS m0 hm0
          rcases List.mem_append.1 hm with hm | hm
          · exact h5 m hm he
          · rw [List.mem_singleton] at hm; subst hm; omega
theorem floor_eq {got : List Ms} {a : Int} (ha : 1 ≤ a) (hb : SrcP got) (hc : ∀ m ∈ got, 0 ≤ m.commit) (hn : (got.map (·.src)).Nodup) : floorQ a got = (flS a got).1 ∧ behindQ a got = (flS a got).2 := by
  obtain ⟨p1, p2, p3⟩ := CP.of hn
  obtain ⟨q1, q2, q3⟩ := FP.of a hb
  unfold floorQ behindQ
  generalize comS got (nodesL got) = s at *
  generalize flS a got = f at *
  obtain ⟨s1, s2⟩ := s
  obtain ⟨f1, f2⟩ := f
  simp only [Prod.mk.injEq] at *
  have hup : ∀ m ∈ got, m.commit ≤ s1 := fun m hm => by
    have := p2 _ (nodesL_mem.2 ⟨m, hm, rfl⟩)
    rwa [msOf_src hn hm] at this
  rcases p3 with ⟨rfl, rfl⟩ | ⟨n, hn1, ⟨rfl, rfl⟩, p4⟩
  · rcases q3 with ⟨rfl, rfl⟩ | ⟨m, hm, ⟨rfl, rfl⟩, q4, q5⟩
    · exact ⟨by omega, by rw [if_pos (by omega)]⟩
    · have := hup m hm
      omega
  · obtain ⟨mn, hmn, rfl⟩ := nodesL_mem.1 hn1
    rw [msOf_src hn hmn] at *
    have h1 := q2 mn hmn
    rcases q3 with ⟨rfl, rfl⟩ | ⟨m, hm, ⟨rfl, rfl⟩, q4, q5⟩
    · exact ⟨by omega, by rw [if_pos (by omega)]⟩
    · have h2 := hup m hm
      have h3 := p4 m.src (nodesL_mem.2 ⟨m, hm, rfl⟩) (by rw [msOf_src hn hm]; omega)
      have h4 := q5 mn hmn (by omega)
      exact ⟨by omega, by rw [if_neg (by omega)]; omega⟩
theorem lessP_def (r n r' n' : Int) : lessP r n r' n' ↔ r < r' ∨ (r = r' ∧ n < n') := Iff.rfl
def BPq (index : Int) (got : List Ms) (pre : List Int) (s : Bool × Ent) : Prop :=
  (s = (false, zeroE) ∧ ∀ n ∈ pre, hitB (msOf got n).ents index = false) ∨
  ∃ n ∈ pre, hitB (msOf got n).ents index = true ∧ s = (true, findE (msOf got n).ents index) ∧
    ∀ n' ∈ pre, hitB (msOf got n').ents index = true → ¬ lessP s.2.round s.2.node (findE (msOf got n').ents index).round (findE (msOf got n').ents index).node ∧ ((findE (msOf got n').ents index).round = s.2.round → (findE (msOf got n').ents index).node = s.2.node → n ≤ n')
theorem BPq.of {got : List Ms} (index : Int) (hn : (got.map (·.src)).Nodup) : BPq index got (nodesL got) (bestS got index (nodesL got)) := by
  unfold bestS
  refine foldl_inv (P := BPq index got) (.inl ⟨rfl, by simp⟩) fun k hk s h => ?_
  have hlt := lt_take (nodesL_lt hn) hk
  generalize (nodesL got)[k] = x at *
  generalize (nodesL got).take k = pre at *
  unfold bestF
  cases hh : hitB (msOf got x).ents index with
  | false =>
    rw [if_neg (by simp)]
    rcases h with ⟨h1, h2⟩ | ⟨n, h1, h2, h3, h4⟩
    · refine .inl ⟨h1, fun n hn => ?_⟩
      rcases List.mem_append.1 hn with hn | hn
      · exact h2 n hn
      · rw [List.mem_singleton] at hn; subst hn; exact hh
    · refine .inr ⟨n, List.mem_append_left _ h1, h2, h3, fun n' hn' he => ?_⟩
      rcases List.mem_append.1 hn' with hn' | hn'
      · exact h4 n' hn' he
      · rw [List.mem_singleton] at hn'; subst hn'; rw [hh] at he; cases he
  | true =>
    rcases h with ⟨h1, h2⟩ | ⟨n, h1, h2, h3, h4⟩
    · subst h1
      rw [if_pos ⟨rfl, .inl rfl⟩]
      refine .inr ⟨x, by simp, hh, rfl, fun n' hn' he => ?_⟩
      rcases List.mem_append.1 hn' with hn' | hn'
      · rw [h2 n' hn'] at he; cases he
      · rw [List.mem_singleton] at hn'; subst hn'
        simp only [lessP_def]
        exact ⟨by omega, fun _ _ => Int.le_refl _⟩
    · subst h3
      simp only [lessP_def] at h4 ⊢
      by_cases hl : (findE (msOf got n).ents index).round < (findE (msOf got x).ents index).round ∨ (findE (msOf got n).ents index).round = (findE (msOf got x).ents index).round ∧ (findE (msOf got n).ents index).node < (findE (msOf got x).ents index).node
      · rw [if_pos ⟨trivial, .inr hl⟩]
        refine .inr ⟨x, by simp, hh, rfl, fun n' hn' he => ?_⟩
        simp only [lessP_def]
        rcases List.mem_append.1 hn' with hn' | hn'
        · have := (h4 n' hn' he).1
          exact ⟨by omega, fun _ _ => by omega⟩
        · rw [List.mem_singleton] at hn'; subst hn'
          exact ⟨by omega, fun _ _ => Int.le_refl _⟩
      · rw [if_neg (by
          rintro ⟨-, h | h⟩
          · cases h
          · exact hl h)]
        refine .inr ⟨n, List.mem_append_left _ h1, h2, rfl, fun n' hn' he => ?_⟩
        simp only [lessP_def]
        rcases List.mem_append.1 hn' with hn' | hn'
        · exact h4 n' hn' he
        · rw [List.mem_singleton] at hn'; subst hn'
          have := hlt n h1
          exact ⟨hl, fun _ _ => by omega⟩
def VPq (index : Int) (S : List Ms) (s : Bool × Ent) : Prop :=
  (s = (false, zeroE) ∧ ∀ m ∈ S, hitB m.ents index = false) ∨
  ∃ m ∈ S, hitB m.ents index = true ∧ s = (true, { findE m.ents index with index := m.src }) ∧
    ∀ m' ∈ S, hitB m'.ents index = true → ¬ lessP s.2.round s.2.node (findE m'.ents index).round (findE m'.ents index).node ∧ ((findE m'.ents index).round = s.2.round → (findE m'.ents index).node = s.2.node → m.src ≤ m'.src)
theorem VPq.of {got : List Ms} (index : Int) : VPq index got (vlS index got) := by
  unfold vlS
  refine foldl_inv (P := VPq index) (.inl ⟨rfl, by simp⟩) fun k hk s h => ?_
  generalize got[k] = x at *
  generalize got.take k = pre at *
  unfold vlF
  cases hh : hitB x.ents index with
  | false =>
    rw [if_neg (by simp)]
    rcases h with ⟨h1, h2⟩ | ⟨n, h1, h2, h3, h4⟩
    · refine .inl ⟨h1, fun n hn => ?_⟩
      rcases List.mem_append.1 hn with hn | hn
      · exact h2 n hn
      · rw [List.mem_singleton] at hn; subst hn; exact hh
    · refine .inr ⟨n, List.mem_append_left _ h1, h2, h3, fun n' hn' he => ?_⟩
      rcases List.mem_append.1 hn' with hn' | hn'
      · exact h4 n' hn' he
      · rw [List.mem_singleton] at hn'; subst hn'; rw [hh] at he; cases he
  | true =>
    rw [if_pos rfl]
    rcases h with ⟨h1, h2⟩ | ⟨n, h1, h2, h3, h4⟩
    · subst h1
      rw [if_pos (.inl rfl)]
      refine .inr ⟨x, by simp, hh, rfl, fun n' hn' he => ?_⟩
      rcases List.mem_append.1 hn' with hn' | hn'
      · rw [h2 n' hn'] at he; cases he
      · rw [List.mem_singleton] at hn'; subst hn'
        simp only [lessP_def]
        exact ⟨by omega, fun _ _ => Int.le_refl _⟩
    · subst h3
      simp only [lessP_def] at h4 ⊢
      by_cases hl : ((findE n.ents index).round < (findE x.ents index).round ∨ (findE n.ents index).round = (findE x.ents index).round ∧ (findE n.ents index).node < (findE x.ents index).node) ∨ (((findE x.ents index).round = (findE n.ents index).round ∧ (findE x.ents index).node = (findE n.ents index).node) ∧ x.src < n.src)
      · rw [if_pos (.inr hl)]
        refine .inr ⟨x, by simp, hh, rfl, fun n' hn' he => ?_⟩
        simp only [lessP_def]
        rcases List.mem_append.1 hn' with hn' | hn'
        · have h5 := h4 n' hn' he
          exact ⟨by omega, fun _ _ => by omega⟩
        · rw [List.mem_singleton] at hn'; subst hn'
          exact ⟨by omega, fun _ _ => Int.le_refl _⟩
      · rw [if_neg (by
          rintro (h | h)
          · cases h
          · exact hl h)]
        refine .inr ⟨n, List.mem_append_left _ h1, h2, rfl, fun n' hn' he => ?_⟩
        simp only [lessP_def]
        rcases List.mem_append.1 hn' with hn' | hn'
        · exact h4 n' hn' he
        · rw [List.mem_singleton] at hn'; subst hn'
          exact ⟨by omega, fun _ _ => by omega⟩
theorem value_eq {got : List Ms} {a : Int} (index : Int) (ha : 1 ≤ a) (hb : SrcP got) (hc : ∀ m ∈ got, 0 ≤ m.commit) (hn : (got.map (·.src)).Nodup) : valueQ a got index = valueR a got index := by
  have hf := (floor_eq ha hb hc hn).1
  unfold valueQ valueR
  rw [hf]
  by_cases hi : index ≤ (flS a got).1
  · rw [if_pos hi, if_pos hi]
  · rw [if_neg hi, if_neg hi]
    have p := BPq.of index hn
    have q := VPq.of (got := got) index
    generalize bestS got index (nodesL got) = s at *
    generalize vlS index got = t at *
    rcases p with ⟨rfl, p2⟩ | ⟨n, p1, p2, rfl, p4⟩
    · rcases q with ⟨rfl, q2⟩ | ⟨m, q1, q2, rfl, q4⟩
      · rfl
      · have := p2 m.src (nodesL_mem.2 ⟨m, q1, rfl⟩)
        rw [msOf_src hn q1, q2] at this
        cases this
    · obtain ⟨mn, hmn, rfl⟩ := nodesL_mem.1 p1
      rw [msOf_src hn hmn] at *
      rcases q with ⟨rfl, q2⟩ | ⟨m, q1, q2, rfl, q4⟩
      · have := q2 mn hmn
        rw [p2] at this
        cases this
      · have a1 := p4 m.src (nodesL_mem.2 ⟨m, q1, rfl⟩)
        rw [msOf_src hn q1] at a1
        have a1 := a1 q2
        have a2 := q4 mn hmn p2
        simp only [lessP_def] at a1 a2
        have e : mn.src = m.src := by
          have h1 : (findE m.ents index).round = (findE mn.ents index).round ∧ (findE m.ents index).node = (findE mn.ents index).node := by omega
          have h2 := a1.2 h1.1 h1.2
          have h3 := a2.2 h1.1.symm h1.2.symm
          omega
        have e2 : mn = m := by
          rw [← msOf_src hn hmn, e, msOf_src hn q1]
        subst e2
        rfl
def xC : Cm := ⟨1, 0, 0, ByteArray.empty, ByteArray.empty, ByteArray.empty, 0⟩
def xE : Ent := ⟨5, 1, 1, xC⟩
def xM : Ms := ⟨4, 2, 1, 3, 1, 2, 1, 0, [xE], []⟩
theorem xOne : oneI xE = 0 := by
  rw [oneI, if_neg]
  · show cmdI xC = 0
    rw [cmdI_eq]
    simp [cmdE, xC]
  · rintro (h' | h' | h')
    · simp only [xE] at h'; omega
    · simp only [xE] at h'; omega
    · exact h' (.inr (by simp only [xE]; omega))
theorem xE_ok : xE.ok := by
  refine ⟨by decide, by decide, by decide, ?_⟩
  refine ⟨?_, ?_, ?_, ?_, ?_, ?_, ?_⟩ <;> decide
theorem xChk : chkK [xE] 0 = 0 := by
  rw [chkK_next (l := [xE]) (k := 0) (by decide) xOne (fun h => by omega)]
  exact chkK_end (by decide)
theorem xTake : TakeP 3 1 2 [] xM := by
  refine ⟨⟨rfl, ?_⟩, ⟨rfl, rfl⟩, rfl, by simp⟩
  refine ⟨by decide, ⟨.inr (by decide), by decide⟩, by decide, by decide, by decide, xChk, rfl, rfl⟩
theorem xRise : RiseL [xE] := fun i j hj h => by
  simp only [List.length_cons, List.length_nil] at hj
  omega
theorem xSrc : SrcP [xM] := ⟨by decide, by simp [xM], by
  intro m hm
  rw [List.mem_singleton] at hm
  subst hm
  exact ⟨xRise, by decide⟩⟩
theorem xNodes : nodesL [xM] = [2] := by
  unfold nodesL sortL
  simp [xM]
theorem xComS : comS [xM] (nodesL [xM]) = (1, 2) := by
  rw [xNodes]
  decide
theorem xFloor : floorQ 2 [xM] = 1 := by
  unfold floorQ
  rw [xComS]
  decide
theorem xTop : topQ (floorQ 2 [xM]) [xM] = 5 := by
  rw [xFloor]
  decide
theorem xVal : valueQ 2 [] 5 = (false, zeroE.cmd) := by
  have h1 : nodesL [] = [] := by unfold nodesL sortL; simp
  have h2 : floorQ 2 [] = 1 := by unfold floorQ; rw [h1]; decide
  unfold valueQ
  rw [h2, h1, if_neg (by omega)]
  rfl
theorem awake33_s {G : GH} (hT : TabsG G) : Con Tryz.prog 42 #[] G [] (fun v G' μ' => v = .bool true ∧ μ' = []) := by
  have q1 := qnew_s (G := G) (r := 3) (n := 1) (a := 2)
  (refine v_enter Tryz.func42 rfl Tryz.ntmps42 rfl ?_; intro B _)
  repeat' (first | (apply v_read; (case hop => (apply r_loadNo; (case hx => rfl); (case h => repeat (exact mhd _)); (case hd => rfl); (case hn => rfl))); (case hd => rfl)) | apply v_seq | apply v_region | apply v_nil | (apply v_pure; (case hop => first | (apply p_assign <;> rfl) | (apply p_build; (case hz => rfl); (case hv => (simp only [List.map_cons, List.map_nil]; repeat (first | with_reducible exact evs_nil | (apply evs_cons; (case h1 => rfl))))); (case hb => (apply bldL; repeat (first | exact bld_nil | (apply bld_cons; (case hpf => rfl); (case hc => rfl); (case hs => rfl); (case hl => rfl); (case ho => ((repeat (first | with_reducible exact ov_nil | apply ov_cons)); done))))))) | fail); (case hd => rfl)) | (apply v_alloc; (case hz => rfl); (case hd => rfl); intro b) | (apply v_store; (case hp => rfl); (case hx => rfl); (case hc => rfl); (case hsz => rfl); (case h1 => rfl); (case hb => (repeat (exact mhd _))); (case hfit => exact nle rfl); (case hov => ((repeat (first | with_reducible exact ov_nil | apply ov_cons)); done)); (case hu => repeat (exact Upd.here _ _))) | fail)
  refine v_call (μ1 := []) rfl q1 (List.Perm.refl _) rfl ?_
  rintro _ G1 _ - ⟨hG1, h⟩
  subst hG1
  obtain ⟨h, -, -⟩ | ⟨-, q, mp, rfl, rfl⟩ := h
  · exact absurd (show QMay 3 1 2 from ⟨.inr (by decide), by decide, by decide, by decide⟩) h
  repeat' (first | (apply v_read; (case hop => (apply r_loadNo; (case hx => rfl); (case h => repeat (first | exact mhd _ | apply mtl)); (case hd => rfl); (case hn => rfl))); (case hd => rfl)) | (apply v_buildSlice; (case hz => rfl); (case hi => rfl); (case hv => (simp only [List.map_cons, List.map_nil]; repeat (first | with_reducible exact evs_nil | (apply evs_cons; (case h1 => rfl))))); (case hp => (apply pk_cons; (case hc => rfl); (case hs => rfl); (case h => (with_reducible exact pk_nil)); (case he => ((repeat (first | with_reducible exact ap_nil | apply ap_cons)); done)))); (case hb => rfl); (case hd => rfl); intro b9) | apply v_seq | apply v_region | apply v_nil | (apply v_pure; (case hop => first | (apply p_move <;> rfl) | (apply p_assign <;> rfl) | (apply p_build; (case hz => rfl); (case hv => (simp only [List.map_cons, List.map_nil]; repeat (first | with_reducible exact evs_nil | (apply evs_cons; (case h1 => rfl))))); (case hb => (apply bldL; repeat (first | exact bld_nil | (apply bld_cons; (case hpf => rfl); (case hc => rfl); (case hs => rfl); (case hl => rfl); (case ho => (first | ((repeat (first | with_reducible exact ov_nil | apply ov_cons)); done) | rfl))))))) | fail); (case hd => rfl)) | (apply v_alloc; (case hz => rfl); (case hd => rfl); intro b) | (apply v_store; (case hp => rfl); (case hx => rfl); (case hc => rfl); (case hsz => rfl); (case h1 => rfl); (case hb => (repeat (exact mhd _))); (case hfit => exact nle rfl); (case hov => ((repeat (first | with_reducible exact ov_nil | apply ov_cons)); done)); (case hu => repeat (exact Upd.here _ _))) | fail)
  rename_i bl
  refine v_frz [(b9, .cells xE.cells.toArray 105 (0, 0))] (PickA.cons _ (PickA.here _)) ?_
  intro G2 hle2 hG2
  have hs1 : Es G2 (.slice (some ⟨b9, 0, none⟩) 1 1) [xE] := by
    refine es_of_grow (l := [xE]) (ν := [(b9, .cells (esC [xE]).toArray 105 (0, 0))]) (Grow.lit (m := 1) (by rw [esC_length]; rfl) (by simp [maxLen])) hG2 (fun x hx => ?_)
    rw [List.mem_singleton] at hx
    subst hx
    exact xE_ok
  have hm : MsR G2 xM (xM.cells (.slice (some ⟨b9, 0, none⟩) 1 1) (.slice none 0 0)) := ⟨_, _, _, _, rfl, hs1, Sl.nil⟩
  have q2 := value_s (G := G2) (r := 3) (n := 1) (a := 2) (q := q) (mp := mp) (oM := .map #[] 0) (got := []) (ml := []) 5 MapB.nil GotR.nil ⟨by decide, by simp, by simp⟩ ⟨by decide, by decide⟩
  rw [xVal] at q2
  refine v_call (μ1 := [(q, qO 3 1 2 mp), (mp, .map #[] 0)]) (μ2 := [(b, .cells (xM.cells (.slice (some ⟨b9, 0, none⟩) 1 1) (.slice none 0 0)).toArray 89 (0, 0)), (bl, _)]) rfl q2 (by apply perm_of_count; intro p; simp only [List.append_eq, List.countP_append, List.countP_cons, List.countP_nil, Nat.zero_add, Nat.add_zero]; try ac_rfl) rfl ?_
  rintro _ G3 _ hle3 ⟨-, rfl, rfl⟩
  have q3 := qtake_s ((hT.le hle2).le hle3) (r := 3) (n := 1) (a := 2) (q := q) (mp := mp) xM (hm.le hle3) MapB.nil GotR.nil (by decide)
  repeat' (first | (apply v_read; (case hop => (apply r_loadNo; (case hx => rfl); (case h => repeat (first | exact mhd _ | apply mtl)); (case hd => rfl); (case hn => rfl))); (case hd => rfl)) | apply v_seq | apply v_region | apply v_nil | (apply v_pure; (case hop => first | (apply p_move <;> rfl) | (apply p_assign <;> rfl) | (apply p_extract0 <;> rfl) | (apply p_extract1 <;> rfl) | fail); (case hd => rfl)) | (apply v_alloc; (case hz => rfl); (case hd => rfl); intro b) | (apply v_store; (case hp => rfl); (case hx => rfl); (case hc => rfl); (case hsz => rfl); (case h1 => rfl); (case hb => (repeat (exact mhd _))); (case hfit => exact nle rfl); (case hov => ((repeat (first | with_reducible exact ov_nil | apply ov_cons)); done)); (case hu => repeat (exact Upd.here _ _))) | fail)
  rename_i bm
  refine v_perm (ν := [(q, qO 3 1 2 mp), (mp, .map #[] 0)] ++ [(b, _), (bm, _), (bl, _)]) (by apply perm_of_count; intro p; simp only [List.append_eq, List.countP_append, List.countP_cons, List.countP_nil, Nat.zero_add, Nat.add_zero]; try ac_rfl) ?_
  refine v_call (μ1 := [(q, qO 3 1 2 mp), (mp, .map #[] 0)]) (μ2 := _) rfl q3 (List.Perm.refl _) rfl ?_
  rintro _ G4 _ hle4 ⟨-, rfl, ml, oM, hM, hg, rfl⟩
  rw [decide_eq_true xTake]
  rw [if_pos xTake, List.nil_append] at hg
  have q4 := top_s (r := 3) (n := 1) (a := 2) (q := q) (mp := mp) hM hg xSrc ⟨by decide, by decide⟩
  rw [xTop] at q4
  repeat' (first | (apply v_take; (case hg => rfl)) | (apply v_pure; (case hop => first | (apply p_move <;> rfl) | (apply p_eqs <;> rfl) | (apply p_pickT <;> rfl) | (apply p_not <;> rfl) | (apply p_fieldAddrB <;> rfl) | fail); (case hd => rfl)) | (apply v_read; (case hop => (apply r_load1; rfl; (apply Cell.own; (case h => (repeat (first | exact mhd _ | apply mtl))); rfl))); (case hd => rfl)) | fail)
  refine v_call (μ1 := [(q, qO 3 1 2 mp), (mp, oM)]) (μ2 := _) rfl q4 (List.Perm.refl _) rfl ?_
  rintro _ G5 _ hle5 ⟨-, rfl, rfl⟩
  have q5 := floor_s (r := 3) (n := 1) (a := 2) (q := q) (mp := mp) hM (hg.le hle5) xSrc ⟨by decide, by decide⟩
  rw [xFloor] at q5
  repeat' (first | (apply v_take; (case hg => rfl)) | (apply v_pure; (case hop => first | (apply p_move <;> rfl) | (apply p_eqs <;> rfl) | (apply p_pickT <;> rfl) | fail); (case hd => rfl)) | fail)
  refine v_call (μ1 := [(q, qO 3 1 2 mp), (mp, oM)]) (μ2 := _) rfl q5 (List.Perm.refl _) rfl ?_
  rintro _ G6 _ hle6 ⟨-, rfl, rfl⟩
  repeat' (first | apply v_nil | (apply v_take; (case hg => rfl)) | (apply v_pure; (case hop => first | (apply p_eqs <;> rfl) | (apply p_assign <;> rfl) | (apply p_pickT <;> rfl) | fail); (case hd => rfl)) | fail)
  refine v_ret [] (outsA1 rfl rfl) (List.nil_sublist _) ⟨?_, rfl⟩
  rfl
def CmR (c : Cm) (cs : List Value) : Prop := cs = c.cells ∧ c.ok
theorem el_cm {H : Type} {enc : TypeId × Value → H} {W : World} : Elem enc Tryz.prog W 28 CmR := by
  intro fuel cs x hf
  have h1 := el_flen (n := 7) Tryz.underlying28 (by kernel_rfl) hf
  obtain ⟨a0, h0, w0⟩ := el_fld (i := 0) (sz := 1) (by kernel_rfl) (el_int Tryz.underlying3) hf
  obtain ⟨a1, e1, w1⟩ := el_fld (i := 1) (sz := 1) (by kernel_rfl) (el_int Tryz.underlying3) hf
  obtain ⟨a2, e2, w2⟩ := el_fld (i := 2) (sz := 1) (by kernel_rfl) (el_int Tryz.underlying3) hf
  obtain ⟨a3, e3, w3⟩ := el_fld (i := 3) (sz := 1) (by kernel_rfl) (el_string Tryz.underlying9) hf
  obtain ⟨a4, e4, w4⟩ := el_fld (i := 4) (sz := 1) (by kernel_rfl) (el_string Tryz.underlying9) hf
  obtain ⟨a5, e5, w5⟩ := el_fld (i := 5) (sz := 1) (by kernel_rfl) (el_string Tryz.underlying9) hf
  obtain ⟨a6, e6, w6⟩ := el_fld (i := 6) (sz := 1) (by kernel_rfl) (el_int Tryz.underlying3) hf
  match cs, h1 with
  | [c0, c1, c2, c3, c4, c5, c6], _ =>
    simp only [List.drop_succ_cons, List.drop_zero, List.take_succ_cons, List.take_zero, List.cons.injEq, and_true] at h0 e1 e2 e3 e4 e5 e6
    exact ⟨⟨a0, a1, a2, a3, a4, a5, a6⟩, by rw [h0, e1, e2, e3, e4, e5, e6]; rfl, w0, w1, w2, w3, w4, w5, w6⟩
theorem el_ent {H : Type} {enc : TypeId × Value → H} {W : World} : Elem enc Tryz.prog W 105 EntR := by
  intro fuel cs x hf
  have h1 := el_flen (n := 10) Tryz.underlying105 (by kernel_rfl) hf
  obtain ⟨k, hk, wk⟩ := el_fld (i := 0) (sz := 1) (by kernel_rfl) (el_int Tryz.underlying3) hf
  have hb : Elem enc Tryz.prog W 80 (fun (p : Int × Int) cs => cs = [.int .i64 p.1, .int .i64 p.2] ∧ (Lit.int .i64 p.1).wf = true ∧ (Lit.int .i64 p.2).wf = true) := by
    intro fuel cs x hf
    have h1 := el_flen (n := 2) Tryz.underlying80 (by kernel_rfl) hf
    obtain ⟨a, ha, wa⟩ := el_fld (i := 0) (sz := 1) (by kernel_rfl) (el_int Tryz.underlying3) hf
    obtain ⟨b, hb, wb⟩ := el_fld (i := 1) (sz := 1) (by kernel_rfl) (el_int Tryz.underlying3) hf
    match cs, h1 with
    | [c0, c1], _ =>
      simp only [List.drop_succ_cons, List.drop_zero, List.take_succ_cons, List.take_zero, List.cons.injEq, and_true] at ha hb
      exact ⟨(a, b), by rw [ha, hb], wa, wb⟩
  obtain ⟨⟨r, n⟩, hr, wr, wn⟩ := el_fld (i := 1) (sz := 2) (by kernel_rfl) hb hf
  obtain ⟨c, hc, ho⟩ := el_fld (i := 2) (sz := 7) (by kernel_rfl) el_cm hf
  match cs, h1 with
  | [c0, c1, c2, c3, c4, c5, c6, c7, c8, c9], _ =>
    simp only [Cm.cells, List.drop_succ_cons, List.drop_zero, List.take_succ_cons, List.take_zero, List.cons.injEq, and_true] at hk hr hc
    obtain ⟨rfl, rfl⟩ := hr
    obtain ⟨rfl, rfl, rfl, rfl, rfl, rfl, rfl⟩ := hc
    subst hk
    exact ⟨⟨k, r, n, c⟩, rfl, wk, wr, wn, ho⟩
set_option maxRecDepth 100000 in
theorem el_ms {H : Type} {enc : TypeId × Value → H} {W : World} : Elem enc Tryz.prog W 89 (MsR (ghost W)) := by
  intro fuel cs x hf
  have h1 := el_flen (n := 10) Tryz.underlying89 (by kernel_rfl) hf
  have hb : Elem enc Tryz.prog W 80 (fun (p : Int × Int) cs => cs = [.int .i64 p.1, .int .i64 p.2] ∧ (Lit.int .i64 p.1).wf = true ∧ (Lit.int .i64 p.2).wf = true) := by
    intro fuel cs x hf
    have h1 := el_flen (n := 2) Tryz.underlying80 (by kernel_rfl) hf
    obtain ⟨a, ha, wa⟩ := el_fld (i := 0) (sz := 1) (by kernel_rfl) (el_int Tryz.underlying3) hf
    obtain ⟨b, hb, wb⟩ := el_fld (i := 1) (sz := 1) (by kernel_rfl) (el_int Tryz.underlying3) hf
    match cs, h1 with
    | [c0, c1], _ =>
      simp only [List.drop_succ_cons, List.drop_zero, List.take_succ_cons, List.take_zero, List.cons.injEq, and_true] at ha hb
      exact ⟨(a, b), by rw [ha, hb], wa, wb⟩
  obtain ⟨a0, e0, w0⟩ := el_fld (i := 0) (sz := 1) (by kernel_rfl) (el_int Tryz.underlying3) hf
  obtain ⟨a1, e1, w1⟩ := el_fld (i := 1) (sz := 1) (by kernel_rfl) (el_int Tryz.underlying3) hf
  obtain ⟨a2, e2, w2⟩ := el_fld (i := 2) (sz := 1) (by kernel_rfl) (el_int Tryz.underlying3) hf
  obtain ⟨⟨r, n⟩, e3, -⟩ := el_fld (i := 3) (sz := 2) (by kernel_rfl) hb hf
  obtain ⟨a4, e4, w4⟩ := el_fld (i := 4) (sz := 1) (by kernel_rfl) (el_int Tryz.underlying3) hf
  obtain ⟨a5, e5, w5⟩ := el_fld (i := 5) (sz := 1) (by kernel_rfl) (el_int Tryz.underlying3) hf
  obtain ⟨a6, e6, w6⟩ := el_fld (i := 6) (sz := 1) (by kernel_rfl) (el_int Tryz.underlying3) hf
  obtain ⟨l7, v7, e7, s7⟩ := el_fld (i := 7) (sz := 1) (by kernel_rfl) (el_slice (sz := 10) Tryz.underlying86 (by kernel_rfl) el_ent) hf
  obtain ⟨l8, v8, e8, s8⟩ := el_fld (i := 8) (sz := 1) (by kernel_rfl) (el_slice (sz := 1) Tryz.underlying87 (by kernel_rfl) (el_int Tryz.underlying5)) hf
  match cs, h1 with
  | [c0, c1, c2, c3, c4, c5, c6, c7, c8, c9], _ =>
    simp only [List.drop_succ_cons, List.drop_zero, List.take_succ_cons, List.take_zero, List.cons.injEq, and_true] at e0 e1 e2 e3 e4 e5 e6 e7 e8
    obtain ⟨rfl, rfl⟩ := e3
    subst e0; subst e1; subst e2; subst e4; subst e5; subst e6; subst e7; subst e8
    obtain ⟨A, c, rfl, -⟩ := id s7.open
    obtain ⟨A', c', rfl, -⟩ := id s8.open
    exact ⟨⟨a0, a1, a2, r, n, a4, a5, a6, l7, l8⟩, A, c, A', c', rfl, s7, s8⟩
set_option maxRecDepth 100000 in
theorem arg_t78 {H : Type} {enc : TypeId × Value → H} {W : World} {base : Nat} {v : Value} {d : DataW H} {p : List MemPlace} (hv : Value.okWide Tryz.prog W .any base 78 v) (h : DataW.Trod enc Tryz.prog W 0 (fun _ => true) true 78 v d p) : ∃ l : List Ms, Mss (ghost W) v l :=
  arg_slice Tryz.underlying78 (by kernel_rfl) el_ms hv h
abbrev IsThree (v : Value) : Prop := ∃ a b c : Int, v = .agg [.int .i64 a, .int .i64 b, .int .i64 c].toArray
set_option maxRecDepth 100000 in
theorem arg_t77 {H : Type} {enc : TypeId × Value → H} {W : World} {base : Nat} {v : Value} {d : DataW H} {p : List MemPlace} (hv : Value.okWide Tryz.prog W .any base 77 v) (h : DataW.Trod enc Tryz.prog W 0 (fun _ => true) true 77 v d p) : IsThree v := by
  obtain ⟨cs, l, rfl, hl⟩ := arg_agg (by kernel_rfl) (el_array Tryz.underlying77 (by kernel_rfl) (by kernel_rfl) (el_int Tryz.underlying3)) hv h
  obtain ⟨a, b, c, rfl, _⟩ := hl.three
  exact ⟨a, b, c, rfl⟩
abbrev IsInt (v : Value) : Prop := ∃ a, v = .int .i64 a ∧ (Lit.int .i64 a).wf = true
set_option maxRecDepth 100000 in
theorem arg_t3 {H : Type} {enc : TypeId × Value → H} {W : World} {base : Nat} {v : Value} {d : DataW H} {p : List MemPlace} (hv : Value.okWide Tryz.prog W .any base 3 v) (h : DataW.Trod enc Tryz.prog W 0 (fun _ => true) true 3 v d p) : IsInt v := arg_int Tryz.underlying3 hv h
theorem firstEq : (Rows.laid_unicode_utf8_first : DataW Unit) = Lib.firstData := by kernel_rfl
theorem acceptEq : (Rows.laid_unicode_utf8_acceptRanges : DataW Unit) = Lib.acceptData := by kernel_rfl
abbrev tabsLaid : List (String × DataW Unit) := [("unicode/utf8.acceptRanges", Rows.laid_unicode_utf8_acceptRanges), ("unicode/utf8.first", Rows.laid_unicode_utf8_first)]
theorem tabs_plain : (tabsLaid.all fun x => x.2.handleName?.isNone) = true := by kernel_rfl
theorem tabs_of_laid {W : World} (hL : laidMetH Tryz.prog tabsLaid W) : TabsG (ghost W) := by
  rw [MakeChecks.laidMetH_plain _ _ _ tabs_plain] at hL
  have r1 := Lib.laidMet.reads hL (.tail _ (.head _))
  have r2 := Lib.laidMet.reads hL (.head _)
  rw [firstEq] at r1
  rw [acceptEq] at r2
  have hU := utf8Tabs_of_readsT (ρ := laysDecode_ren) { laysDecode with } ⟨by kernel_rfl, by kernel_rfl, by kernel_rfl, by kernel_rfl, by kernel_rfl, by kernel_rfl, by kernel_rfl⟩ r1 r2
  clear hL r1 r2
  intro w hw
  have lift : ∀ (a : Addr) v, W.cell? a = some v → w.cell? a = some v := by
    intro a v h
    unfold World.cell? at h ⊢
    cases hb : W.heap[a.block]? with
    | none => rw [hb] at h; simp at h
    | some o => rw [hw _ _ hb]; rw [hb] at h; exact h
  exact ⟨fun c hc => lift _ _ (hU.1 c hc), fun i hi => ⟨lift _ _ (hU.2 i hi).1, lift _ _ (hU.2 i hi).2⟩⟩
def GrL {α : Type} (e : TypeId) (sz : Nat) (R : α → List Value → Prop) (v : Value) (l : List α) (ν : OH) : Prop := ∃ css : List (List Value), css.length = l.length ∧ (∀ (i : Nat) x cs, l[i]? = some x → css[i]? = some cs → cs.length = sz ∧ R x cs) ∧ Grow e sz v l.length css.flatten ν
section
variable {α : Type} {e : TypeId} {sz : Nat} {R R' : α → List Value → Prop} {v : Value} {l : List α} {ν : OH}
theorem GrL.nil : GrL e sz R (.slice none 0 0) [] [] := ⟨[], rfl, fun i x cs h => by simp at h, Grow.nil _ _⟩
theorem GrL.le (h : GrL e sz R v l ν) (hR : ∀ x cs, R x cs → R' x cs) : GrL e sz R' v l ν := by
  obtain ⟨css, h1, h2, h3⟩ := h
  exact ⟨css, h1, fun i x cs hx hc => ⟨(h2 i x cs hx hc).1, hR _ _ (h2 i x cs hx hc).2⟩, h3⟩
theorem GrL.snoc {x : α} {rx : List Value} {css : List (List Value)} (h1 : css.length = l.length) (h2 : ∀ (i : Nat) y cs, l[i]? = some y → css[i]? = some cs → cs.length = sz ∧ R y cs) (h : Grow e sz v (l.length + 1) (css.flatten ++ rx) ν) (hl : rx.length = sz) (hx : R x rx) : GrL e sz R v (l ++ [x]) ν := by
  refine ⟨css ++ [rx], by simp [h1], fun i y cs hy hc => ?_, by simpa using h⟩
  by_cases hi : i < l.length
  · rw [List.getElem?_append_left hi] at hy
    rw [List.getElem?_append_left (by omega)] at hc
    exact h2 i y cs hy hc
  · rw [List.getElem?_append_right (by omega)] at hy hc
    obtain ⟨k1, k2⟩ := List.getElem?_eq_some_iff.1 hy
    have e : i = l.length := by simp at k1; omega
    subst e
    rw [Nat.sub_self] at hy
    rw [h1, Nat.sub_self] at hc
    simp only [List.getElem?_cons_zero, Option.some.injEq] at hy hc
    subst hy hc
    exact ⟨hl, hx⟩
theorem GrL.sl (h : GrL e sz R v l ν) {G' : GH} (hG : ∀ b o, (b, o) ∈ ν → G' b = some o) : Sl G' sz R v l := by
  obtain ⟨css, h1, h2, h3⟩ := h
  exact Grow.sl h3 hG h1 h2
end
theorem chk_all {l : List Ent} : ∀ (n k : Nat), l.length - k = n → chkK l k = 0 → ∀ i (h : i < l.length), k ≤ i → oneI l[i] = 0
  | 0, k, hn, _, i, h, hk => by omega
  | n + 1, k, hn, hc, i, h, hk => by
    have hlt : k < l.length := by omega
    rw [chkK, dif_pos hlt] at hc
    by_cases h1 : oneI l[k] ≠ 0
    · rw [if_pos h1] at hc; exact absurd hc h1
    · rw [if_neg h1] at hc
      by_cases hik : i = k
      · subst hik; exact Decidable.not_not.1 h1
      · have hnext : chkK l (k + 1) = 0 := by
          by_cases h0 : 0 < k
          · rw [dif_pos h0] at hc
            split at hc
            · cases hc
            · exact hc
          · rw [dif_neg h0] at hc; exact hc
        exact chk_all n (k + 1) (by omega) hnext i h (by omega)
theorem chk_step {l : List Ent} : ∀ (n k : Nat), l.length - k = n → chkK l k = 0 → ∀ j (hj : j < l.length), k ≤ j → ∀ (h0 : 0 < j), (l[j - 1]'(by omega)).index < l[j].index
  | 0, k, hn, h, j, hj, hkj, h0 => by omega
  | n + 1, k, hn, h, j, hj, hkj, h0 => by
    have hlt : k < l.length := by omega
    have h1 : oneI l[k] = 0 := chk_all (n + 1) k hn h k hlt (Nat.le_refl _)
    by_cases hk : ∃ h0 : 0 < k, l[k].index ≤ (l[k - 1]'(by omega)).index
    · obtain ⟨h2, h3⟩ := hk
      have := chkK_low hlt h1 h2 h3
      omega
    · have hnx := chkK_next hlt h1 fun h2 h3 => hk ⟨h2, h3⟩
      by_cases e : j = k
      · subst e
        have : ¬ l[j].index ≤ (l[j - 1]'(by omega)).index := fun h3 => hk ⟨h0, h3⟩
        omega
      · exact chk_step n (k + 1) (by omega) (by rw [← hnx]; exact h) j hj (by omega) h0
theorem chk_rise {l : List Ent} (h : chkK l 0 = 0) : RiseL l := by
  have hs := chk_step (l.length - 0) 0 rfl h
  have key : ∀ (d i : Nat) (hi : i + d + 1 < l.length), (l[i]'(by omega)).index < l[i + d + 1].index := by
    intro d
    induction d with
    | zero =>
      intro i hi
      have := hs (i + 1) (by omega) (by omega) (by omega)
      simpa using this
    | succ d ih =>
      intro i hi
      have h1 := ih i (by omega)
      have h2 := hs (i + (d + 1) + 1) hi (by omega) (by omega)
      simp only [Nat.add_sub_cancel] at h2
      exact Int.lt_trans h1 h2
  intro i j hj hij
  have := key (j - i - 1) i (by omega)
  simpa only [show i + (j - i - 1) + 1 = j by omega] using this
theorem eqSame {σ : Env} {ty t t' : TypeId} {x y : Operand} {k : IntKind} {a : Int} (hx : Env.ev σ x = some (.int k a)) (hy : Env.ev σ y = some (.int k a)) : PureOp Tryz.prog (.binOp .eql t x y t') ty σ (.bool true) := by
  have := p_eq (P := Tryz.prog) (t := t) (t' := t') (ty := ty) hx hy
  rwa [dec_eq, decide_eq_true rfl] at this
theorem eqBalSame {σ : Env} {ty t' : TypeId} {x y : Operand} {a b : Int} (hx : Env.ev σ x = some (.agg [.int .i64 a, .int .i64 b].toArray)) (hy : Env.ev σ y = some (.agg [.int .i64 a, .int .i64 b].toArray)) : PureOp Tryz.prog (.binOp .eql 80 x y t') ty σ (.bool true) := by
  have := eqBal (ty := ty) (t' := t') hx hy
  rwa [dec_eq, decide_eq_true ⟨rfl, rfl⟩] at this
theorem eqCmSame {σ : Env} {ty t' : TypeId} {x y : Operand} (c : Cm) (hx : Env.ev σ x = some (.agg c.cells.toArray)) (hy : Env.ev σ y = some (.agg c.cells.toArray)) : PureOp Tryz.prog (.binOp .eql 28 x y t') ty σ (.bool true) := by
  have := eqCm (ty := ty) (t' := t') hx hy
  rwa [dec_eq, decide_eq_true rfl] at this
theorem eqBSame {σ : Env} {ty t' : TypeId} {x y : Operand} (b : Bool) (hx : Env.ev σ x = some (.bool b)) (hy : Env.ev σ y = some (.bool b)) : PureOp Tryz.prog (.binOp .eql 4 x y t') ty σ (.bool true) := by
  have := p_eqB (P := Tryz.prog) (t := 4) (ty := ty) (t' := t') hx hy
  rwa [beq_self_eq_true] at this
def LearnI (got : List Ms) (k : Nat) : Prop := got.length ≤ k ∧ (∀ m ∈ got, PromP m ∧ m.ents.length ≤ 40) ∧ (got.map (·.src)).Nodup
theorem LearnI.facts {got : List Ms} {k : Nat} (h : LearnI got k) (hk : k ≤ 30) : SrcP got ∧ (∀ m ∈ got, 0 ≤ m.commit) ∧ (got.map (·.src)).Nodup := by
  obtain ⟨h1, h2, h3⟩ := h
  refine ⟨⟨by omega, fun m hm => ?_, fun m hm => ?_⟩, fun m hm => ?_, h3⟩
  · obtain ⟨⟨a, b, -⟩, -⟩ := (h2 m hm).1
    exact ⟨a, b⟩
  · obtain ⟨⟨-, -, -, -, -, c, -⟩, d⟩ := h2 m hm
    exact ⟨chk_rise c, by omega⟩
  · obtain ⟨-, -, -, c, -⟩ := (h2 m hm).1
    exact c.1
theorem LearnI.snoc {got : List Ms} {k : Nat} {r n a : Int} {m : Ms} (h : LearnI got k) (ht : TakeP r n a got m) (hz : MsZ m) : LearnI (got ++ [m]) (k + 1) := by
  obtain ⟨h1, h2, h3⟩ := h
  obtain ⟨⟨-, t1⟩, -, -, t2⟩ := ht
  refine ⟨by simp only [List.length_append, List.length_cons, List.length_nil]; omega, fun x hx => ?_, ?_⟩
  · rcases List.mem_append.1 hx with hx | hx
    · exact h2 x hx
    · rw [List.mem_singleton] at hx; subst hx; exact ⟨t1, hz.1⟩
  · rw [List.map_append, List.nodup_append]
    refine ⟨h3, by simp, fun x hx y hy => ?_⟩
    obtain ⟨z, hz, rfl⟩ := List.mem_map.1 hx
    simp only [List.map_cons, List.map_nil, List.mem_singleton] at hy
    subst hy
    exact t2 z hz
theorem LearnI.more {got : List Ms} {k : Nat} (h : LearnI got k) : LearnI got (k + 1) := ⟨by have := h.1; omega, h.2⟩
set_option maxHeartbeats 4000000 in
theorem propLearns_law {W : World} {v0 v1 v2 : Value} (hT : TabsG (ghost W)) (g0 : IsThree v0) (g1 : ∃ l : List Ms, Mss (ghost W) v1 l) (g2 : IsInt v2) : LawCon Tryz.prog 8 #[v0, v1, v2] W := by
  obtain ⟨r, n, a, rfl⟩ := g0
  obtain ⟨l, hs⟩ := g1
  obtain ⟨index, rfl, hwi⟩ := g2
  unfold LawCon
  generalize ghost W = G at *
  have qa := fun G' (h : GH.le G G') => awake33_s (hT.le h)
  have q1 := largeMs_s hs
  obtain ⟨LA, lc, rfl, hlc, hcm, hsome, hcp⟩ := msOpen hs
  simp only [maxLen] at hcm
  (refine v_enter Tryz.func8 rfl Tryz.ntmps8 rfl ?_; intro B _)
  repeat' (first | (apply v_box (d := 3) (zs := [.int .i64 r, .int .i64 n, .int .i64 a]); (case hx => rfl); (case hz => rfl); (case hd => rfl); intro b3) | apply v_seq | apply v_region | apply v_nil | (apply v_pure; (case hop => (apply p_assign <;> rfl)); (case hd => rfl)) | fail)
  refine d_start _ (by kernel_rfl) (by kernel_rfl) (by kernel_rfl) (fun _ he => he) ?_
  all_goals (apply dtk 0; (case hi => rfl); (case hop => (apply prd; apply p_indexAddrB; (case hx => rfl); (case hi => rfl); (case h0 => omega); (case h => omega))); (case hq => kernel_rfl))
  all_goals (apply dtk 1; (case hi => rfl); (case hop => ((apply r_load1; rfl; (apply Cell.own; (case h => repeat (exact mhd _)); rfl)))); (case hq => kernel_rfl))
  all_goals (apply dtk 2; (case hi => rfl); (case hop => (apply prd; apply p_indexAddrB; (case hx => rfl); (case hi => rfl); (case h0 => omega); (case h => omega))); (case hq => kernel_rfl))
  all_goals (apply dtk 3; (case hi => rfl); (case hop => ((apply r_load1; rfl; (apply Cell.own; (case h => repeat (exact mhd _)); rfl)))); (case hq => kernel_rfl))
  all_goals (apply dtk 4; (case hi => rfl); (case hop => (apply prd; apply p_build; (case hz => rfl); (case hv => (simp only [List.map_cons, List.map_nil]; repeat (first | with_reducible exact evs_nil | (apply evs_cons; (case h1 => rfl))))); (case hb => (apply bldL; repeat (first | exact bld_nil | (apply bld_cons; (case hpf => rfl); (case hc => rfl); (case hs => rfl); (case hl => rfl); (case ho => ((repeat (first | with_reducible exact ov_nil | apply ov_cons)); done)))))))); (case hq => kernel_rfl))
  all_goals (apply dtk 5; (case hi => rfl); (case hop => (apply prd; apply p_indexAddrB; (case hx => rfl); (case hi => rfl); (case h0 => omega); (case h => omega))); (case hq => kernel_rfl))
  all_goals (apply dtk 6; (case hi => rfl); (case hop => ((apply r_load1; rfl; (apply Cell.own; (case h => repeat (exact mhd _)); rfl)))); (case hq => kernel_rfl))
  all_goals (apply d_exec 7; (case hi => rfl); (case hr => kernel_rfl); (case hop => exact m_alloc rfl); (case hd => rfl); rintro _ _ _ ⟨b7, rfl, rfl, rfl⟩; refine ⟨(by intro e he; (simp at he; simp [he]; done)), ?_⟩)
  all_goals (apply d_store 8; (case hi => rfl); (case hr => kernel_rfl); (case hL => infer_instance); (case hp => rfl); (case hx => rfl); (case hc => rfl); (case hsz => rfl); (case h1 => rfl); (case hb => (repeat (exact mhd _))); (case hfit => exact nle rfl); (case hov => ((repeat (first | with_reducible exact ov_nil | apply ov_cons)); done)); (case hu => repeat (exact Upd.here _ _)); (case hν' => intro e he; (simp at he; simp [he]; done)))
  all_goals (apply dtk 9; (case hi => rfl); (case hop => (apply prd; apply p_assign <;> rfl)); (case hq => kernel_rfl))
  all_goals (apply d_done; (case hr => kernel_rfl))
  all_goals repeat' (first | apply v_seq | apply v_region | (apply v_pure; (case hop => (apply p_move <;> rfl)); (case hd => rfl)) | fail)
  rename_i Gx
  refine v_drop (ν := [(b7, .cells [.int .i64 r, .int .i64 n].toArray 80 (0, 0))]) (List.Sublist.cons_cons _ (List.nil_sublist _)) ?_
  refine v_call (μ1 := []) rfl q1 (List.Perm.refl _) rfl ?_
  rintro _ G1 _ - ⟨hG1, rfl, b1, rfl, h2⟩
  subst hG1
  cases b1 with
  | true =>
    repeat' (first | apply v_seq | apply v_region | apply v_nil | (apply v_condT; (case hc => rfl)) | fail)
    refine v_call (μ1 := []) rfl (qa _ (GH.le_refl _)) (List.Perm.refl _) rfl ?_
    rintro _ G9 _ - ⟨rfl, rfl⟩
    repeat' (first | apply v_nil | (apply v_pure; (case hop => (apply p_assign <;> rfl)); (case hd => rfl)) | fail)
    refine v_ret [] (outsA1 rfl rfl) (by repeat (exact List.nil_sublist _)) ?_
    rfl
  | false =>
    obtain ⟨hl30, hz⟩ := h2 rfl
    have q2 := qnew_s (G := G1) (r := r) (n := n) (a := a)
    have q3 := refQMay_s G1 r n a
    repeat' (first | (apply v_read; (case hop => (apply r_loadNo; (case hx => rfl); (case h => repeat (exact mhd _)); (case hd => rfl); (case hn => rfl))); (case hd => rfl)) | apply v_seq | apply v_region | apply v_nil | apply v_skip | (apply v_pure; (case hop => (apply p_move <;> rfl)); (case hd => rfl)) | (apply v_condF; (case hc => rfl)) | fail)
    refine v_call (μ1 := []) rfl q2 (List.Perm.refl _) rfl ?_
    rintro _ G2 _ - ⟨hG2, h⟩
    subst hG2
    obtain ⟨hm, rfl, rfl⟩ | ⟨hm, q, mp, rfl, rfl⟩ := h
    · rw [decide_eq_false hm] at q3
      repeat' (first | (apply v_read; (case hop => (apply r_loadNo; (case hx => rfl); (case h => repeat (exact mhd _)); (case hd => rfl); (case hn => rfl))); (case hd => rfl)) | apply v_seq | apply v_region | apply v_nil | (apply v_take; (case hg => rfl)) | (apply v_pure; (case hop => first | (apply p_move <;> rfl) | (apply p_assign <;> rfl) | (apply p_not <;> rfl) | (apply p_eqNil <;> rfl) | fail); (case hd => rfl)) | (apply v_condT; (case hc => rfl)) | (apply v_callJ (hs := q3); (case ha => rfl); (case hd => rfl)) | fail)
      refine v_call (μ1 := []) rfl (qa _ (GH.le_refl _)) (List.Perm.refl _) rfl ?_
      rintro _ G9 _ - ⟨rfl, rfl⟩
      repeat' (first | apply v_nil | (apply v_pure; (case hop => first | (apply p_assign <;> rfl) | (apply p_pickT <;> rfl) | fail); (case hd => rfl)) | fail)
      refine v_ret [] (outsA1 rfl rfl) (by repeat (exact List.nil_sublist _)) ?_
      rfl
    · rw [decide_eq_true hm] at q3
      have ha : 1 ≤ a ∧ a ≤ 4294967296 := hm.2.2
      repeat' (first | (apply v_read; (case hop => (apply r_loadNo; (case hx => rfl); (case h => repeat (first | exact mhd _ | apply mtl)); (case hd => rfl); (case hn => rfl))); (case hd => rfl)) | apply v_seq | apply v_region | apply v_nil | apply v_skip | apply v_block | (apply v_pure; (case hop => first | (apply p_move <;> rfl) | (apply p_assign <;> rfl) | (apply p_not <;> rfl) | fail); (case hd => rfl)) | (apply v_condF; (case hc => rfl)) | (apply v_callJ (hs := q3); (case ha => rfl); (case hd => rfl)) | fail)
      refine v_loop [11, 10, 9, 1, 7, 8, 2] (fun us G' μ' => GH.le G2 G' ∧ ∃ (k : Nat) (got : List Ms) (ml : List (Int × Value)) (oM : Obj) (gv : Value) (ν : OH), k ≤ l.length ∧ LearnI got k ∧ MapB keyI ml oM ∧ GotR G' got ml ∧ GrL 89 10 (MsR G') gv got ν ∧ us = [Value.int .i64 (k : Nat), gv, .pointer (some ⟨q, 0, none⟩), .slice LA l.length lc, .pointer (some ⟨b7, 0, none⟩), .int .i64 a, .int .i64 index] ∧ μ' = ν ++ [(q, qO r n a mp), (mp, oM), (b7, .cells [.int .i64 r, .int .i64 n].toArray 80 (0, 0))]) (fun us => l.length - (headI us).toNat) rfl ⟨GH.le_refl _, 0, [], [], .map #[] 0, .slice none 0 0, [], by omega, ⟨by simp, by simp, by simp⟩, MapB.nil, GotR.nil, GrL.nil, rfl, rfl⟩ ?_
      rintro us G' _ ⟨hle, k, got, ml, oM, gv, ν, hk, hI, hM, hg, hgr, rfl, rfl⟩
      have e1 : ((k : Nat) : Int).toNat = k := by omega
      by_cases hlt : k < l.length
      · have hA := hsome (by omega)
        obtain ⟨EA, ec, IA, ic, hck0, hmk0⟩ := hcp k hlt
        have hck := hck0.le hle
        have hmk := hmk0.le hle
        have hzm := hz _ (List.getElem_mem hlt)
        have hgl := hI.1
        clear hck0 hmk0 q1 q2 q3 hcp
        generalize l[k] = m at *
        have qt := Con.lendJ (P := Tryz.prog) (f := 45) (args := #[.agg #[.int .i64 r, .int .i64 n], .int .i64 a, gv, .agg (m.cells (.slice EA m.ents.length ec) (.slice IA m.img.length ic)).toArray]) (G := G') (ν := ν) (v := .bool (decide (TakeP r n a got m))) fun G3 h1 h2 => refTakes_s r n a ((hgr.le fun _ _ h => h.le h1).sl h2) m (hmk.le h1)
        have qk := qtake_s (hT.le hle) (r := r) (n := n) (a := a) (q := q) (mp := mp) m hmk hM hg (by have := hzm.1; omega)
        obtain ⟨css, hc1, hc2, hgw⟩ := id hgr
        obtain ⟨GA, gc, rfl, hG1, hG2⟩ := hgw.shape
        by_cases ht : TakeP r n a got m
        · rw [decide_eq_true ht] at qt qk
          rw [if_pos ht] at qk
          have hI2 := hI.snoc ht hzm
          have hrow : (m.cells (.slice EA m.ents.length ec) (.slice IA m.img.length ic)).length = 10 := rfl
          clear hzm hz ht
          repeat' (first | apply v_seq | apply v_region | apply v_nil | apply v_skip | apply v_block | (apply v_pure; (case hop => first | (apply p_move <;> rfl) | (apply p_lt <;> rfl) | (apply p_lenSlice <;> rfl) | fail); (case hd => rfl)) | (apply v_cond; (case hc => rfl); all_goals (intro h; (try simp only [reduceCtorEq, zzz] at h); first | (exfalso; omega) | skip)) | fail)
          refine d_start _ (by kernel_rfl) (by kernel_rfl) (by kernel_rfl) (fun _ he => he) ?_
          all_goals (apply dtk 0; (case hi => rfl); (case hop => ((apply r_loadNo; (case hx => rfl); (case h => repeat (first | exact mhd _ | apply mtl | apply List.mem_append_right)); (case hd => rfl); (case hn => rfl)))); (case hq => kernel_rfl))
          all_goals (apply dtk 1; (case hi => rfl); (case hop => (apply prd; apply p_move <;> rfl)); (case hq => kernel_rfl))
          all_goals (apply dtk 2; (case hi => rfl); (case hop => (apply prd; apply p_move <;> rfl)); (case hq => kernel_rfl))
          all_goals (apply dtk 3; (case hi => rfl); (case hop => (apply prd; apply p_move <;> rfl)); (case hq => kernel_rfl))
          all_goals (apply dtk 4; (case hi => rfl); (case hop => (apply prd; apply p_move <;> rfl)); (case hq => kernel_rfl))
          all_goals (apply dtk 5; (case hi => rfl); (case hop => (apply prd; apply p_indexAddrS; (case hx => rfl); (case hi => rfl); (case h0 => omega); (case h => omega); (case hA => assumption))); (case hq => kernel_rfl))
          all_goals (apply dtk 6; (case hi => rfl); (case hop => ((apply r_loadN; rfl; exact CellsAt.frozen hck; rfl))); (case hq => kernel_rfl))
          all_goals (apply d_callK 7 (hs := qt); (case hi => rfl); (case hr => kernel_rfl); (case ha => rfl); (case hp => exact List.Perm.refl _); (case hd => rfl))
          all_goals (apply dtk 8; (case hi => rfl); (case hop => (apply prd; apply p_assign <;> rfl)); (case hq => kernel_rfl))
          all_goals (apply d_done; (case hr => kernel_rfl))
          all_goals repeat' (first | apply v_seq | apply v_region | (apply v_pure; (case hop => first | (apply p_move <;> rfl) | (apply p_indexAddrS; (case hx => rfl); (case hi => rfl); (case h0 => omega); (case h => omega); (case hA => assumption)) | fail); (case hd => rfl)) | (apply v_read; (case hop => (apply r_loadN; rfl; exact CellsAt.frozen hck; rfl)); (case hd => rfl)) | fail)
          all_goals refine v_perm (ν := [(q, qO r n a mp), (mp, oM)] ++ (ν ++ [(b7, .cells [.int .i64 r, .int .i64 n].toArray 80 (0, 0))])) (by apply perm_of_count; intro p; simp only [List.append_eq, List.countP_append, List.countP_cons, List.countP_nil, Nat.zero_add, Nat.add_zero]; try ac_rfl) ?_
          all_goals refine v_call (μ1 := [(q, qO r n a mp), (mp, oM)]) (μ2 := ν ++ [(b7, .cells [.int .i64 r, .int .i64 n].toArray 80 (0, 0))]) rfl qk (List.Perm.refl _) rfl ?_
          all_goals
            rintro _ G5 _ hle5 ⟨-, rfl, ml', oM', hM', hg', rfl⟩
            have hck5 := hck.le hle5
            repeat' (first | (apply v_buildSlice; (case hz => rfl); (case hi => rfl); (case hv => (simp only [List.map_cons, List.map_nil]; repeat (first | with_reducible exact evs_nil | (apply evs_cons; (case h1 => rfl))))); (case hp => (apply pk_cons; (case hc => rfl); (case hs => rfl); (case h => (with_reducible exact pk_nil)); (case he => ((repeat (first | with_reducible exact ap_nil | apply ap_cons)); done)))); (case hb => rfl); (case hd => rfl); intro b9) | apply v_seq | apply v_region | apply v_nil | apply v_skip | apply v_blk | (apply v_pure; (case hop => first | (apply p_move <;> rfl) | (apply p_neBs <;> rfl) | (apply p_assign <;> rfl) | (apply p_add; (case hx => rfl); (case hy => rfl); (case h => omega)) | (apply p_indexAddrS; (case hx => rfl); (case hi => rfl); (case h0 => omega); (case h => omega); (case hA => assumption)) | fail); (case hd => rfl)) | (apply v_condT; (case hc => rfl)) | (apply v_condF; (case hc => rfl)) | (apply v_read; (case hop => (apply r_loadN; rfl; exact CellsAt.frozen hck5; rfl)); (case hd => rfl)) | (apply v_append (hg := hgw) (m' := 1) (us := m.cells (.slice EA m.ents.length ec) (.slice IA m.img.length ic)) (hp := PickA.perm (by repeat (first | exact PickA.here _ | apply PickA.cons))) (hsrc := Src.own (e := 89) (List.Mem.head _) rfl); (case hzs => rfl); (case hsz => omega); (case hs => rfl); (case hx => rfl); (case hb => omega); (case hb' => simp only [maxLen]; omega); (case hd => rfl); (case h1 => rfl); intro v3 n3 hg3) | fail)
            refine v_drop (ν := n3 ++ [(q, qO r n a mp), (mp, oM'), (b7, .cells [.int .i64 r, .int .i64 n].toArray 80 (0, 0))]) (List.Sublist.append_left (List.sublist_cons_self _ _) _) ?_
            refine v_again rfl ⟨GH.le_trans hle hle5, k + 1, got ++ [m], ml', oM', v3, n3, by omega, hI2, hM', hg', ?_, rfl, rfl⟩ (by simp [headI]; omega)
            exact GrL.snoc (R := MsR G5) (x := m) hc1 (fun i y cs hy hc => ⟨(hc2 i y cs hy hc).1, (hc2 i y cs hy hc).2.le hle5⟩) hg3 rfl (hmk.le hle5)
        · rw [decide_eq_false ht] at qt qk
          rw [if_neg ht] at qk
          have hI2 := hI.more
          repeat' (first | apply v_seq | apply v_region | apply v_nil | apply v_skip | apply v_block | (apply v_pure; (case hop => first | (apply p_move <;> rfl) | (apply p_lt <;> rfl) | (apply p_lenSlice <;> rfl) | fail); (case hd => rfl)) | (apply v_cond; (case hc => rfl); all_goals (intro h; (try simp only [reduceCtorEq, zzz] at h); first | (exfalso; omega) | skip)) | fail)
          refine d_start _ (by kernel_rfl) (by kernel_rfl) (by kernel_rfl) (fun _ he => he) ?_
          all_goals (apply dtk 0; (case hi => rfl); (case hop => ((apply r_loadNo; (case hx => rfl); (case h => repeat (first | exact mhd _ | apply mtl | apply List.mem_append_right)); (case hd => rfl); (case hn => rfl)))); (case hq => kernel_rfl))
          all_goals (apply dtk 1; (case hi => rfl); (case hop => (apply prd; apply p_move <;> rfl)); (case hq => kernel_rfl))
          all_goals (apply dtk 2; (case hi => rfl); (case hop => (apply prd; apply p_move <;> rfl)); (case hq => kernel_rfl))
          all_goals (apply dtk 3; (case hi => rfl); (case hop => (apply prd; apply p_move <;> rfl)); (case hq => kernel_rfl))
          all_goals (apply dtk 4; (case hi => rfl); (case hop => (apply prd; apply p_move <;> rfl)); (case hq => kernel_rfl))
          all_goals (apply dtk 5; (case hi => rfl); (case hop => (apply prd; apply p_indexAddrS; (case hx => rfl); (case hi => rfl); (case h0 => omega); (case h => omega); (case hA => assumption))); (case hq => kernel_rfl))
          all_goals (apply dtk 6; (case hi => rfl); (case hop => ((apply r_loadN; rfl; exact CellsAt.frozen hck; rfl))); (case hq => kernel_rfl))
          all_goals (apply d_callK 7 (hs := qt); (case hi => rfl); (case hr => kernel_rfl); (case ha => rfl); (case hp => exact List.Perm.refl _); (case hd => rfl))
          all_goals (apply dtk 8; (case hi => rfl); (case hop => (apply prd; apply p_assign <;> rfl)); (case hq => kernel_rfl))
          all_goals (apply d_done; (case hr => kernel_rfl))
          all_goals repeat' (first | apply v_seq | apply v_region | (apply v_pure; (case hop => first | (apply p_move <;> rfl) | (apply p_indexAddrS; (case hx => rfl); (case hi => rfl); (case h0 => omega); (case h => omega); (case hA => assumption)) | fail); (case hd => rfl)) | (apply v_read; (case hop => (apply r_loadN; rfl; exact CellsAt.frozen hck; rfl)); (case hd => rfl)) | fail)
          all_goals refine v_perm (ν := [(q, qO r n a mp), (mp, oM)] ++ (ν ++ [(b7, .cells [.int .i64 r, .int .i64 n].toArray 80 (0, 0))])) (by apply perm_of_count; intro p; simp only [List.append_eq, List.countP_append, List.countP_cons, List.countP_nil, Nat.zero_add, Nat.add_zero]; try ac_rfl) ?_
          all_goals refine v_call (μ1 := [(q, qO r n a mp), (mp, oM)]) (μ2 := ν ++ [(b7, .cells [.int .i64 r, .int .i64 n].toArray 80 (0, 0))]) rfl qk (List.Perm.refl _) rfl ?_
          all_goals
            rintro _ G5 _ hle5 ⟨-, rfl, ml', oM', hM', hg', rfl⟩
            repeat' (first | apply v_seq | apply v_region | apply v_nil | apply v_skip | apply v_blk | (apply v_pure; (case hop => first | (apply p_move <;> rfl) | (apply p_neBs <;> rfl) | (apply p_assign <;> rfl) | (apply p_add; (case hx => rfl); (case hy => rfl); (case h => omega)) | fail); (case hd => rfl)) | (apply v_condF; (case hc => rfl)) | fail)
            refine v_perm (ν := ν ++ [(q, qO r n a mp), (mp, oM'), (b7, .cells [.int .i64 r, .int .i64 n].toArray 80 (0, 0))]) (by apply perm_of_count; intro p; simp only [List.append_eq, List.countP_append, List.countP_cons, List.countP_nil, Nat.zero_add, Nat.add_zero]; try ac_rfl) ?_
            exact v_again rfl ⟨GH.le_trans hle hle5, k + 1, got, ml', oM', _, ν, by omega, hI2, hM', hg', hgr.le (fun _ _ h => h.le hle5), rfl, rfl⟩ (by simp [headI]; omega)
      · obtain rfl : k = l.length := by omega
        obtain ⟨hb, hcm0, hnd⟩ := hI.facts (by omega)
        clear hI q1 q2 q3 hcp hz h2
        repeat' (first | apply v_seq | apply v_region | apply v_nil | (apply v_exit; (case hp => rfl)) | (apply v_pure; (case hop => first | (apply p_move <;> rfl) | (apply p_lt <;> rfl) | (apply p_lenSlice <;> rfl) | fail); (case hd => rfl)) | (apply v_cond; (case hc => rfl); all_goals (intro h; (try simp only [reduceCtorEq, zzz] at h); first | (exfalso; omega) | skip)) | fail)
        refine v_frzP ν (List.Perm.refl _) ?_
        intro G3 hle3 hG3
        have hgs := (hgr.le (R' := MsR G3) fun _ _ h => h.le hle3).sl hG3
        have hg3 := hg.le hle3
        clear hgr hg hG3
        obtain ⟨GA, gc, rfl, -⟩ := id hgs.open
        obtain ⟨ef, eb⟩ := floor_eq (a := a) ha.1 hb hcm0 hnd
        have ev := value_eq (a := a) index ha.1 hb hcm0 hnd
        have r1 := refPFloor_s a ha hgs
        have r2 := value_s (r := r) (n := n) (a := a) (q := q) (mp := mp) index hM hg3 hb ha
        rw [ev] at r2
        repeat' (first | apply v_seq | apply v_region | apply v_nil | (apply v_pure; (case hop => first | (apply p_move <;> rfl) | (apply p_assign <;> rfl) | (apply p_extract0 <;> rfl) | (apply p_extract1 <;> rfl) | fail); (case hd => rfl)) | (apply v_callJ (hs := r1); (case ha => rfl); (case hd => rfl)) | fail)
        refine v_call (μ1 := [(q, qO r n a mp), (mp, oM)]) (μ2 := [(b7, .cells [.int .i64 r, .int .i64 n].toArray 80 (0, 0))]) rfl r2 (List.Perm.refl _) rfl ?_
        rintro _ G4 _ hle4 ⟨-, rfl, rfl⟩
        have hgs4 : Mss G4 (.slice GA got.length gc) got := hgs.le hle4 fun _ _ h => h.le hle4
        have r3 := refPValue_s a index ha (fun m hm => (hb.2.2 m hm).1) hgs4
        generalize valueR a got index = vv at *
        obtain ⟨v1, vc⟩ := vv
        repeat' (first | apply v_seq | apply v_region | apply v_nil | (apply v_pure; (case hop => first | (apply p_move <;> rfl) | (apply p_assign <;> rfl) | (apply p_extract0 <;> rfl) | (apply p_extract1 <;> rfl) | fail); (case hd => rfl)) | (apply v_callJ (hs := r3); (case ha => rfl); (case hd => rfl)) | (apply v_alloc; (case hz => rfl); (case hd => rfl); intro b) | (apply v_store; (case hp => rfl); (case hx => rfl); (case hc => rfl); (case hsz => rfl); (case h1 => rfl); (case hb => (repeat (exact mhd _))); (case hfit => exact nle rfl); (case hov => ((repeat (first | with_reducible exact ov_nil | apply ov_cons)); done)); (case hu => repeat (exact Upd.here _ _))) | fail)
        rename_i bc
        have hpm : ([(b, .cells vc.cells.toArray 28 (0, 0)), (bc, .cells vc.cells.toArray 28 (0, 0))] ++ [(q, qO r n a mp), (mp, oM)] ++ [(b7, .cells [.int .i64 r, .int .i64 n].toArray 80 (0, 0))] : OH).Perm ([(q, qO r n a mp), (mp, oM)] ++ [(b, .cells vc.cells.toArray 28 (0, 0)), (bc, .cells vc.cells.toArray 28 (0, 0)), (b7, .cells [.int .i64 r, .int .i64 n].toArray 80 (0, 0))] : OH) := (List.perm_append_comm (l₁ := ([(b, .cells vc.cells.toArray 28 (0, 0)), (bc, .cells vc.cells.toArray 28 (0, 0))] : OH)) (l₂ := ([(q, qO r n a mp), (mp, oM)] : OH))).append_right _
        refine v_perm hpm ?_
        have hg4 := hg3.le hle4
        have eN := nodes_ref hb hnd
        have hwN : ∀ y ∈ ndO got 9, (Lit.int .i64 y).wf = true := fun y hy => by
          have := (ndO_spec got 9).2.2 y
          have := this.1 hy
          exact WalkArith.wf_i64 (by omega)
        have qn := fun (G : GH) (h : GotR G got ml) => nodes_s (r := r) (n := n) (a := a) (q := q) (mp := mp) hM h hb.1
        have qf := fun (G : GH) (h : GotR G got ml) => floor_s (r := r) (n := n) (a := a) (q := q) (mp := mp) hM h hb ha
        have qb := fun (G : GH) (h : GotR G got ml) => behind_s (r := r) (n := n) (a := a) (q := q) (mp := mp) hM h hb
        have qt := fun (G : GH) (h : GotR G got ml) => top_s (r := r) (n := n) (a := a) (q := q) (mp := mp) hM h hb ha
        have qp := fun (G : GH) (h : Mss G (.slice GA got.length gc) got) => refPTop_s a ha h
        rw [eN] at qn
        rw [ef] at qf qt
        rw [eb] at qb
        have qi : ∀ {G : GH} {av bv : Value}, Sl G 1 (IntR .i64) av (ndO got 9) → Sl G 1 (IntR .i64) bv (ndO got 9) → Con Tryz.prog 26 #[av, bv] G [] (Just (.bool true) G) := fun h1 h2 => by
          have h := ints_s h1 h2
          rwa [show intsB (ndO got 9) (ndO got 9) = true by simp [intsB]] at h
        have qa4 := fun (G : GH) (h : GH.le G4 G) => qa G (GH.le_trans hle (GH.le_trans hle3 (GH.le_trans hle4 h)))
        clear r1 r2 r3 hgs hg3 ev ef eb eN hnd hcm0 qa hs hlt hk e1 hm
        generalize flS a got = fl at *
        obtain ⟨f1, f2⟩ := fl
        simp only at qf qt qb qp
        generalize topQ f1 got = tq at *
        refine d_start [(b, .cells vc.cells.toArray 28 (0, 0)), (bc, .cells vc.cells.toArray 28 (0, 0)), (b7, .cells [.int .i64 r, .int .i64 n].toArray 80 (0, 0))] (by kernel_rfl) (by kernel_rfl) (by kernel_rfl) (by intro e he; (simp at he; simp [he]; done)) ?_
        all_goals (apply dtk 0; (case hi => rfl); (case hop => (apply prd; apply p_move <;> rfl)); (case hq => kernel_rfl))
        all_goals (apply dtk 2; (case hi => rfl); (case hop => first | (apply r_loadNo; (case hx => rfl); (case h => (repeat (first | exact mhd _ | apply mtl))); (case hd => (repeat (first | with_reducible exact dt_nil | apply dt_here))); (case hn => rfl)) | (apply r_load1; rfl; (apply Cell.own; (case h => (repeat (fail))); rfl)) | (apply r_loadN; rfl; (apply CellsAt.own; (case h => (repeat (fail)))); rfl)); (case hq => kernel_rfl))
        all_goals ((apply d_call 1 (hs := ballot_s (r := r) (n := n) (a := a) (q := q) (mp := mp) (oM := oM)) (μ1 := [(q, qO r n a mp), (mp, oM)]) (μ2 := [(b, .cells vc.cells.toArray 28 (0, 0)), (bc, .cells vc.cells.toArray 28 (0, 0)), (b7, .cells [.int .i64 r, .int .i64 n].toArray 80 (0, 0))]); (case hi => rfl); (case hr => kernel_rfl);  (case ha => rfl); (case hp => exact List.Perm.refl _); (case hd => rfl); (case hν' => exact fun e he => he); rintro _ G5 _ - ⟨hG5, rfl, rfl⟩; subst hG5))
        all_goals (apply dtk 3; (case hi => rfl); (case hop => ((apply prd; apply eqBalSame; (case hx => rfl); (case hy => rfl)))); (case hq => kernel_rfl))
        all_goals (apply dtk 4; (case hi => rfl); (case hop => (apply prd; apply p_move <;> rfl)); (case hq => kernel_rfl))
        all_goals (try (apply d_guardB 5; (case hi => rfl); (case hgd => rfl); (case h1 => rfl); (case h2 => rfl); all_goals (intro h; (try simp only [reduceCtorEq, zzz] at h))))
        all_goals (apply dtg 5; (case hi => rfl); (case hg => rfl); (case hop => (apply prd; apply p_move <;> rfl)); (case hq => kernel_rfl))
        all_goals (try (apply d_guardB 7; (case hi => rfl); (case hgd => rfl); (case h1 => rfl); (case h2 => rfl); all_goals (intro h; (try simp only [reduceCtorEq, zzz] at h))))
        all_goals (apply dtg 7; (case hi => rfl); (case hg => rfl); (case hop => (apply prd; apply p_move <;> rfl)); (case hq => kernel_rfl))
        all_goals (try (apply d_guardB 6; (case hi => rfl); (case hgd => rfl); (case h1 => rfl); (case h2 => rfl); all_goals (intro h; (try simp only [reduceCtorEq, zzz] at h))))
        all_goals ((apply d_callG 6 (hs := from_s (r := r) (n := n) (a := a) (q := q) (mp := mp) (oM := oM)) (μ1 := [(q, qO r n a mp), (mp, oM)]) (μ2 := [(b, .cells vc.cells.toArray 28 (0, 0)), (bc, .cells vc.cells.toArray 28 (0, 0)), (b7, .cells [.int .i64 r, .int .i64 n].toArray 80 (0, 0))]); (case hi => rfl); (case hg => rfl); (case hr => kernel_rfl);  (case ha => rfl); (case hp => exact List.Perm.refl _); (case hd => rfl); (case hν' => exact fun e he => he); rintro _ G5 _ - ⟨hG5, rfl, rfl⟩; subst hG5))
        all_goals (try (apply d_guardB 8; (case hi => rfl); (case hgd => rfl); (case h1 => rfl); (case h2 => rfl); all_goals (intro h; (try simp only [reduceCtorEq, zzz] at h))))
        all_goals (apply dtg 8; (case hi => rfl); (case hg => rfl); (case hop => ((apply prd; apply eqSame; (case hx => rfl); (case hy => rfl)))); (case hq => kernel_rfl))
        all_goals (apply dtk 9; (case hi => rfl); (case hop => (apply prd; apply p_pickT <;> rfl)); (case hq => kernel_rfl))
        all_goals (apply dtk 10; (case hi => rfl); (case hop => (apply prd; apply p_move <;> rfl)); (case hq => kernel_rfl))
        all_goals (try (apply d_guardB 11; (case hi => rfl); (case hgd => rfl); (case h1 => rfl); (case h2 => rfl); all_goals (intro h; (try simp only [reduceCtorEq, zzz] at h))))
        all_goals (apply dtg 11; (case hi => rfl); (case hg => rfl); (case hop => (apply prd; apply p_move <;> rfl)); (case hq => kernel_rfl))
        all_goals (try (apply d_guardB 13; (case hi => rfl); (case hgd => rfl); (case h1 => rfl); (case h2 => rfl); all_goals (intro h; (try simp only [reduceCtorEq, zzz] at h))))
        all_goals (apply dtg 13; (case hi => rfl); (case hg => rfl); (case hop => (apply prd; apply p_move <;> rfl)); (case hq => kernel_rfl))
        all_goals (try (apply d_guardB 12; (case hi => rfl); (case hgd => rfl); (case h1 => rfl); (case h2 => rfl); all_goals (intro h; (try simp only [reduceCtorEq, zzz] at h))))
        all_goals ((apply d_callG 12 (hs := qn _ hg4) (μ1 := [(q, qO r n a mp), (mp, oM)]) (μ2 := [(b, .cells vc.cells.toArray 28 (0, 0)), (bc, .cells vc.cells.toArray 28 (0, 0)), (b7, .cells [.int .i64 r, .int .i64 n].toArray 80 (0, 0))]); (case hi => rfl); (case hg => rfl); (case hr => kernel_rfl);  (case ha => rfl); (case hp => exact List.Perm.refl _); (case hd => rfl); (case hν' => exact fun e he => he); rintro _ G5 _ - ⟨hG5, n1, hr1, rfl⟩; subst hG5; obtain ⟨A1, c1, rfl, -, -⟩ := hr1.shape))
        all_goals (try (apply d_guardB 14; (case hi => rfl); (case hgd => rfl); (case h1 => rfl); (case h2 => rfl); all_goals (intro h; (try simp only [reduceCtorEq, zzz] at h))))
        all_goals ((apply d_callG 14 (hs := refPNodes_s hgs4) (μ1 := []); (case hi => rfl); (case hg => rfl); (case hr => kernel_rfl);  (case ha => rfl); (case hp => exact List.Perm.refl _); (case hd => rfl); (case hν' => exact fun e he => List.mem_append_right _ he); rintro _ G5 n2 - ⟨hG5, hr2⟩; subst hG5; obtain ⟨A2, c2, rfl, -, -⟩ := hr2.shape))
        all_goals (try (apply d_guardB 15; (case hi => rfl); (case hgd => rfl); (case h1 => rfl); (case h2 => rfl); all_goals (intro h; (try simp only [reduceCtorEq, zzz] at h))))
        all_goals ((apply d_callKG 15 (μ1 := n2 ++ n1) (μ2 := [(q, qO r n a mp), (mp, oM)] ++ [(b, .cells vc.cells.toArray 28 (0, 0)), (bc, .cells vc.cells.toArray 28 (0, 0)), (b7, .cells [.int .i64 r, .int .i64 n].toArray 80 (0, 0))]) (hs := Con.lendJ (v := .bool true) fun G3 h1 h2 => qi (hr1.ints (fun b o hb => h2 b o (List.mem_append_right _ hb)) hwN) (hr2.ints (fun b o hb => h2 b o (List.mem_append_left _ hb)) hwN)); (case hi => rfl); (case hg => rfl); (case hr => kernel_rfl);  (case ha => rfl); (case hp => exact (by apply perm_of_count; intro p; simp only [List.append_eq, List.countP_append, List.countP_cons, List.countP_nil, Nat.zero_add, Nat.add_zero]; try ac_rfl)); (case hd => rfl)))
        all_goals (apply dtk 16; (case hi => rfl); (case hop => (apply prd; apply p_pickT <;> rfl)); (case hq => kernel_rfl))
        all_goals (apply dtk 17; (case hi => rfl); (case hop => (apply prd; apply p_move <;> rfl)); (case hq => kernel_rfl))
        all_goals (try (apply d_guardB 18; (case hi => rfl); (case hgd => rfl); (case h1 => rfl); (case h2 => rfl); all_goals (intro h; (try simp only [reduceCtorEq, zzz] at h))))
        all_goals (apply dtg 18; (case hi => rfl); (case hg => rfl); (case hop => (apply prd; apply p_move <;> rfl)); (case hq => kernel_rfl))
        all_goals (try (apply d_guardB 20; (case hi => rfl); (case hgd => rfl); (case h1 => rfl); (case h2 => rfl); all_goals (intro h; (try simp only [reduceCtorEq, zzz] at h))))
        all_goals (apply dtg 20; (case hi => rfl); (case hg => rfl); (case hop => (apply prd; apply p_move <;> rfl)); (case hq => kernel_rfl))
        all_goals (try (apply d_guardB 19; (case hi => rfl); (case hgd => rfl); (case h1 => rfl); (case h2 => rfl); all_goals (intro h; (try simp only [reduceCtorEq, zzz] at h))))
        all_goals ((apply d_callG 19 (hs := qf _ hg4) (μ1 := [(q, qO r n a mp), (mp, oM)]) (μ2 := (n2 ++ n1) ++ [(b, .cells vc.cells.toArray 28 (0, 0)), (bc, .cells vc.cells.toArray 28 (0, 0)), (b7, .cells [.int .i64 r, .int .i64 n].toArray 80 (0, 0))]); (case hi => rfl); (case hg => rfl); (case hr => kernel_rfl);  (case ha => rfl); (case hp => exact (by apply perm_of_count; intro p; simp only [List.append_eq, List.countP_append, List.countP_cons, List.countP_nil, Nat.zero_add, Nat.add_zero]; try ac_rfl)); (case hd => rfl); (case hν' => exact fun e he => List.mem_append_right _ he); rintro _ G6 _ hle6 ⟨-, rfl, rfl⟩))
        all_goals (try (apply d_guardB 21; (case hi => rfl); (case hgd => rfl); (case h1 => rfl); (case h2 => rfl); all_goals (intro h; (try simp only [reduceCtorEq, zzz] at h))))
        all_goals (apply dtg 21; (case hi => rfl); (case hg => rfl); (case hop => ((apply prd; apply eqSame; (case hx => rfl); (case hy => rfl)))); (case hq => kernel_rfl))
        all_goals (apply dtk 22; (case hi => rfl); (case hop => (apply prd; apply p_pickT <;> rfl)); (case hq => kernel_rfl))
        all_goals (apply dtk 23; (case hi => rfl); (case hop => (apply prd; apply p_move <;> rfl)); (case hq => kernel_rfl))
        all_goals (try (apply d_guardB 24; (case hi => rfl); (case hgd => rfl); (case h1 => rfl); (case h2 => rfl); all_goals (intro h; (try simp only [reduceCtorEq, zzz] at h))))
        all_goals (apply dtg 24; (case hi => rfl); (case hg => rfl); (case hop => (apply prd; apply p_move <;> rfl)); (case hq => kernel_rfl))
        all_goals (try (apply d_guardB 26; (case hi => rfl); (case hgd => rfl); (case h1 => rfl); (case h2 => rfl); all_goals (intro h; (try simp only [reduceCtorEq, zzz] at h))))
        all_goals (apply dtg 26; (case hi => rfl); (case hg => rfl); (case hop => (apply prd; apply p_move <;> rfl)); (case hq => kernel_rfl))
        all_goals (try (apply d_guardB 25; (case hi => rfl); (case hgd => rfl); (case h1 => rfl); (case h2 => rfl); all_goals (intro h; (try simp only [reduceCtorEq, zzz] at h))))
        all_goals ((apply d_callG 25 (hs := qb _ (hg4.le hle6)) (μ1 := [(q, qO r n a mp), (mp, oM)]) (μ2 := (n2 ++ n1) ++ [(b, .cells vc.cells.toArray 28 (0, 0)), (bc, .cells vc.cells.toArray 28 (0, 0)), (b7, .cells [.int .i64 r, .int .i64 n].toArray 80 (0, 0))]); (case hi => rfl); (case hg => rfl); (case hr => kernel_rfl);  (case ha => rfl); (case hp => exact List.Perm.refl _); (case hd => rfl); (case hν' => exact fun e he => List.mem_append_right _ he); rintro _ G7 _ hle7 ⟨-, rfl, rfl⟩))
        all_goals (try (apply d_guardB 27; (case hi => rfl); (case hgd => rfl); (case h1 => rfl); (case h2 => rfl); all_goals (intro h; (try simp only [reduceCtorEq, zzz] at h))))
        all_goals (apply dtg 27; (case hi => rfl); (case hg => rfl); (case hop => ((apply prd; apply eqSame; (case hx => rfl); (case hy => rfl)))); (case hq => kernel_rfl))
        all_goals (apply dtk 28; (case hi => rfl); (case hop => (apply prd; apply p_pickT <;> rfl)); (case hq => kernel_rfl))
        all_goals (apply dtk 29; (case hi => rfl); (case hop => (apply prd; apply p_move <;> rfl)); (case hq => kernel_rfl))
        all_goals (try (apply d_guardB 30; (case hi => rfl); (case hgd => rfl); (case h1 => rfl); (case h2 => rfl); all_goals (intro h; (try simp only [reduceCtorEq, zzz] at h))))
        all_goals (apply dtg 30; (case hi => rfl); (case hg => rfl); (case hop => (apply prd; apply p_move <;> rfl)); (case hq => kernel_rfl))
        all_goals (try (apply d_guardB 32; (case hi => rfl); (case hgd => rfl); (case h1 => rfl); (case h2 => rfl); all_goals (intro h; (try simp only [reduceCtorEq, zzz] at h))))
        all_goals (apply dtg 32; (case hi => rfl); (case hg => rfl); (case hop => (apply prd; apply p_move <;> rfl)); (case hq => kernel_rfl))
        all_goals (try (apply d_guardB 33; (case hi => rfl); (case hgd => rfl); (case h1 => rfl); (case h2 => rfl); all_goals (intro h; (try simp only [reduceCtorEq, zzz] at h))))
        all_goals (apply dtg 33; (case hi => rfl); (case hg => rfl); (case hop => (apply prd; apply p_move <;> rfl)); (case hq => kernel_rfl))
        all_goals (try (apply d_guardB 31; (case hi => rfl); (case hgd => rfl); (case h1 => rfl); (case h2 => rfl); all_goals (intro h; (try simp only [reduceCtorEq, zzz] at h))))
        all_goals ((apply d_callG 31 (hs := qt _ ((hg4.le hle6).le hle7)) (μ1 := [(q, qO r n a mp), (mp, oM)]) (μ2 := (n2 ++ n1) ++ [(b, .cells vc.cells.toArray 28 (0, 0)), (bc, .cells vc.cells.toArray 28 (0, 0)), (b7, .cells [.int .i64 r, .int .i64 n].toArray 80 (0, 0))]); (case hi => rfl); (case hg => rfl); (case hr => kernel_rfl);  (case ha => rfl); (case hp => exact List.Perm.refl _); (case hd => rfl); (case hν' => exact fun e he => List.mem_append_right _ he); rintro _ G8 _ hle8 ⟨-, rfl, rfl⟩; have hgs8 := hgs4.le (GH.le_trans hle6 (GH.le_trans hle7 hle8)) fun _ _ h => h.le (GH.le_trans hle6 (GH.le_trans hle7 hle8))))
        all_goals (try (apply d_guardB 34; (case hi => rfl); (case hgd => rfl); (case h1 => rfl); (case h2 => rfl); all_goals (intro h; (try simp only [reduceCtorEq, zzz] at h))))
        all_goals (apply d_callJG 34 (hs := (qp _ hgs8)); (case hi => rfl); (case hg => rfl); (case hr => kernel_rfl); (case ha => rfl); (case hd => rfl))
        all_goals (try (apply d_guardB 35; (case hi => rfl); (case hgd => rfl); (case h1 => rfl); (case h2 => rfl); all_goals (intro h; (try simp only [reduceCtorEq, zzz] at h))))
        all_goals (apply dtg 35; (case hi => rfl); (case hg => rfl); (case hop => ((apply prd; apply eqSame; (case hx => rfl); (case hy => rfl)))); (case hq => kernel_rfl))
        all_goals (apply dtk 36; (case hi => rfl); (case hop => (apply prd; apply p_pickT <;> rfl)); (case hq => kernel_rfl))
        all_goals (apply dtk 37; (case hi => rfl); (case hop => (apply prd; apply p_move <;> rfl)); (case hq => kernel_rfl))
        all_goals (try (apply d_guardB 38; (case hi => rfl); (case hgd => rfl); (case h1 => rfl); (case h2 => rfl); all_goals (intro h; (try simp only [reduceCtorEq, zzz] at h))))
        all_goals (apply dtg 38; (case hi => rfl); (case hg => rfl); (case hop => first | (apply r_loadNo; (case hx => rfl); (case h => (repeat (first | exact mhd _ | apply mtl))); (case hd => (repeat (first | with_reducible exact dt_nil | apply dt_here))); (case hn => rfl)) | (apply r_load1; rfl; (apply Cell.own; (case h => (repeat (fail))); rfl)) | (apply r_loadN; rfl; (apply CellsAt.own; (case h => (repeat (fail)))); rfl)); (case hq => kernel_rfl))
        all_goals (try (apply d_guardB 39; (case hi => rfl); (case hgd => rfl); (case h1 => rfl); (case h2 => rfl); all_goals (intro h; (try simp only [reduceCtorEq, zzz] at h))))
        all_goals (apply dtg 39; (case hi => rfl); (case hg => rfl); (case hop => first | (apply r_loadNo; (case hx => rfl); (case h => (repeat (exact mhd _))); (case hd => (repeat (first | with_reducible exact dt_nil | apply dt_here))); (case hn => rfl)) | (apply r_load1; rfl; (apply Cell.own; (case h => (repeat (fail))); rfl)) | (apply r_loadN; rfl; (apply CellsAt.own; (case h => (repeat (fail)))); rfl)); (case hq => kernel_rfl))
        all_goals (try (apply d_guardB 40; (case hi => rfl); (case hgd => rfl); (case h1 => rfl); (case h2 => rfl); all_goals (intro h; (try simp only [reduceCtorEq, zzz] at h))))
        all_goals (apply dtg 40; (case hi => rfl); (case hg => rfl); (case hop => ((apply prd; apply eqCmSame vc; (case hx => rfl); (case hy => rfl)))); (case hq => kernel_rfl))
        all_goals (apply dtk 41; (case hi => rfl); (case hop => (apply prd; apply p_pickT <;> rfl)); (case hq => kernel_rfl))
        all_goals (apply dtk 42; (case hi => rfl); (case hop => (apply prd; apply p_move <;> rfl)); (case hq => kernel_rfl))
        all_goals (try (apply d_guardB 43; (case hi => rfl); (case hgd => rfl); (case h1 => rfl); (case h2 => rfl); all_goals (intro h; (try simp only [reduceCtorEq, zzz] at h))))
        all_goals (apply dtg 43; (case hi => rfl); (case hg => rfl); (case hop => (apply prd; apply p_move <;> rfl)); (case hq => kernel_rfl))
        all_goals (try (apply d_guardB 44; (case hi => rfl); (case hgd => rfl); (case h1 => rfl); (case h2 => rfl); all_goals (intro h; (try simp only [reduceCtorEq, zzz] at h))))
        all_goals (apply dtg 44; (case hi => rfl); (case hg => rfl); (case hop => (apply prd; apply p_move <;> rfl)); (case hq => kernel_rfl))
        all_goals (try (apply d_guardB 45; (case hi => rfl); (case hgd => rfl); (case h1 => rfl); (case h2 => rfl); all_goals (intro h; (try simp only [reduceCtorEq, zzz] at h))))
        all_goals (apply dtg 45; (case hi => rfl); (case hg => rfl); (case hop => ((apply prd; apply eqBSame v1; (case hx => rfl); (case hy => rfl)))); (case hq => kernel_rfl))
        all_goals (apply dtk 46; (case hi => rfl); (case hop => (apply prd; apply p_pickT <;> rfl)); (case hq => kernel_rfl))
        all_goals (apply dtk 47; (case hi => rfl); (case hop => (apply prd; apply p_move <;> rfl)); (case hq => kernel_rfl))
        all_goals (try (apply d_guardB 48; (case hi => rfl); (case hgd => rfl); (case h1 => rfl); (case h2 => rfl); all_goals (intro h; (try simp only [reduceCtorEq, zzz] at h))))
        all_goals ((apply d_callG 48 (vs := []) (hs := qa4 _ (GH.le_trans hle6 (GH.le_trans hle7 hle8))) (μ1 := []); (case hi => rfl); (case hg => rfl); (case hr => kernel_rfl);  (case ha => rfl); (case hp => exact List.Perm.refl _); (case hd => rfl); (case hν' => exact fun e he => List.mem_append_right ([(q, qO r n a mp), (mp, oM)] ++ (n2 ++ n1)) he); rintro _ G9 _ - ⟨rfl, rfl⟩))
        all_goals (apply dtk 49; (case hi => rfl); (case hop => (apply prd; apply p_pickT <;> rfl)); (case hq => kernel_rfl))
        all_goals (apply dtk 50; (case hi => rfl); (case hop => (apply prd; apply p_assign <;> rfl)); (case hq => kernel_rfl))
        all_goals (apply d_done; (case hr => kernel_rfl))
        all_goals repeat' (fail)
        all_goals
          (refine v_ret [] (outsA1 rfl rfl) (List.nil_sublist _) ?_
           rfl)
theorem clos_laid : laidOutB Tryz.prog = true := by kernel_rfl
theorem clos_rowed : mapsRowed Tryz.prog = true := by kernel_rfl
theorem clos_heard : Tryz.prog.stopsHeard = true := by kernel_rfl
theorem clos_may : Tryz.prog.mayEnter = true := by kernel_rfl
theorem clos_lifts : (Rows.specAppRow.lifted == Tryz.prog.liftsFinal) = true := by kernel_rfl
theorem clos_make : (Tryz.prog.make == some Rows.specAppRow.make) = true := by kernel_rfl
theorem clos_plain : (Rows.specAppRow.plainKeys == Tryz.prog.plainKeys) = true := by kernel_rfl
theorem clos_main : Tryz.prog.mainIs = some (true, "fd00f198de0f1bbff99678f964db4a91607ae39a2c1c259642fb503572231bd3".toList) := by kernel_rfl
theorem clos_looks : true = Tryz.prog.looks [] := by kernel_rfl
theorem propLearns_own : ownKnob Tryz.prog.godebug = none := by kernel_rfl
theorem propLearns_laidOut : laidOutB Tryz.prog = true := clos_laid
theorem propLearns_spec : LawSpec Rows.propLearnsSpec 3 := ⟨rfl, fun H ds h => by match ds, h with | [d0, d1, d2], _ => rfl⟩
set_option maxRecDepth 100000 in
theorem propLearns_lifted (os : Os) (started : os.Started) (H : Type) (enc : TypeId × Value → H) :
    ReturnsInHanded {} Tryz.checked os 8 .any (fun w args => (Rows.propLearnsSpec.pre enc Tryz.prog Tryz.f8 Rows.propLearnsRow.domain false w args ∧ laidMetH Tryz.prog tabsLaid w) ∧ sizedMet enc Tryz.prog Tryz.f8 (OpenSpec.ofChange Rows.propLearnsSpec) false w args)
      (Rows.propLearnsSpec.post enc Tryz.prog Tryz.f8 false true false false) := by
  refine returnsInHanded_of_change_and (C := Tryz.checked) (X := fun w _ => laidMetH Tryz.prog tabsLaid w) (fun _ _ _ hh h => h.of_heap hh) propLearns_own started (by kernel_rfl) Tryz.func8
    (ChangeSpec.witness_shaped (enc := enc) (C := Tryz.checked) (os := os) (X := fun w _ => laidMetH Tryz.prog tabsLaid w) false (World.laidAll Tryz.prog os tabsLaid) #[.agg #[.int .i64 0, .int .i64 0, .int .i64 0], .slice none 0 0, .int .i64 0] 8 (World.laidAll_os _ _ _)
      (World.shaped_of_ZipB (by kernel_rfl) (by kernel_rfl)) (by kernel_rfl) (by kernel_rfl) (by kernel_rfl)
      (by rw [MakeChecks.laidMetH_plain _ _ _ tabs_plain]; exact laidMet_laidAll _ (by kernel_rfl) (by kernel_rfl))) ?_
  intro W base args ds gs before hval0 hW hcnd _ hL _
  have hval : ∀ (j : Nat) t v, Tryz.f8.params[j]? = some t → args[j]? = some v → Value.okWide Tryz.prog W .any base t v := hval0
  refine law_post propLearns_laidOut Tryz.underlying4 rfl propLearns_spec rfl (by kernel_rfl) hW ?_
  obtain ⟨p, q, hA0, hV, rfl, hfz, hnd⟩ := hW
  have hA : DataW.TrodAll enc Tryz.prog W 0 (fun _ => true) true Tryz.f8.params.toList args.toList ds p := hA0
  rw [Tryz.params8] at hA hval
  obtain ⟨v0, vs0, d0, ds0, p0, q0, hargs, rfl, rfl, h0, r0⟩ := trodAll_cons hA
  obtain ⟨v1, vs1, d1, ds1, p1, q1, rfl, rfl, rfl, h1, r1⟩ := trodAll_cons r0
  obtain ⟨v2, vs2, d2, ds2, p2, q2, rfl, rfl, rfl, h2, r2⟩ := trodAll_cons r1
  obtain ⟨rfl, rfl, rfl⟩ := trodAll_nil r2
  obtain rfl : args = #[v0, v1, v2] := by cases args; simp_all
  have g0 := arg_t77 (hval 0 77 v0 rfl rfl) h0
  have g1 := arg_t78 (hval 1 78 v1 rfl rfl) h1
  have g2 := arg_t3 (hval 2 3 v2 rfl rfl) h2
  exact propLearns_law (tabs_of_laid hL) g0 g1 g2
theorem propLearns_c_inPlace : (Rows.propLearnsRow.inPlace == Tryz.prog.inPlace 8) = true := by kernel_rfl
theorem propLearns_c_unfollowed : (Rows.propLearnsRow.unfollowed == Tryz.prog.unfollowed 8) = true := by kernel_rfl
theorem propLearns_c_recurses : (Rows.propLearnsRow.recurses == Tryz.prog.recurses 8) = true := by kernel_rfl
theorem propLearns_c_named : (Rows.propLearnsRow.named == Tryz.prog.varsNamed 8) = true := by kernel_rfl
theorem propLearns_c_lifted : (Rows.propLearnsRow.lifted == Tryz.prog.liftsFinal) = true := clos_lifts
theorem propLearns_c_make : (Tryz.prog.make == some Rows.propLearnsRow.make) = true := clos_make
theorem propLearns_c_plainKeys : (Rows.propLearnsRow.plainKeys == Tryz.prog.plainKeys) = true := clos_plain
theorem propLearns_closed : joinedFacts Tryz.prog 8 Tryz.f8 Rows.propLearnsSpec Rows.propLearnsRow = true := by
  unfold joinedFacts
  rw [clos_laid, clos_rowed, clos_heard, clos_may, propLearns_c_inPlace, propLearns_c_unfollowed, propLearns_c_recurses, propLearns_c_named, propLearns_c_lifted, propLearns_c_make, propLearns_c_plainKeys]
  kernel_rfl
theorem propLearns_over : Rows.propLearnsRow.holds Tryz.pinned (OpenSpec.ofChange Rows.propLearnsSpec) :=
  OpenClaim.holds_of_wide 8 Tryz.f8 rfl rfl rfl rfl rfl rfl rfl ⟨rfl, rfl, rfl, rfl, rfl⟩ rfl rfl rfl rfl rfl (by kernel_rfl) Tryz.func8 propLearns_closed
    (of_decide_eq_true (by kernel_rfl)) (by unfold Func.isWrapper; first | (rw [if_pos (by decide +kernel)]; kernel_rfl) | (rw [if_neg (by decide +kernel)]; exact ⟨rfl, rfl⟩))
    (fun os started H enc _ => propLearns_lifted os started H enc)
theorem propLearns_holds : Rows.PropLearnsSaid := propLearns_over
theorem propLearns_c_wft : Rows.propLearnsRow.wfByText (OpenSpec.ofChange Rows.propLearnsSpec) = true := by kernel_rfl
theorem propLearns_c_func : Tryz.prog.funcNamed Rows.propLearnsRow.func = some 8 := by kernel_rfl
theorem propLearns_c_stand : ([77, 78, 3].all fun u => !Tryz.prog.wantsStandIn u) = true := by kernel_rfl
theorem propLearns_c_goes : false = Rows.propLearnsRow.goesBy Tryz.prog := by kernel_rfl
theorem propLearnsCard_holds : Rows.PropLearnsCardSaid :=
  Claim7.holds_tied_plain_at .later [] [.data, .pinned] true (true, "fd00f198de0f1bbff99678f964db4a91607ae39a2c1c259642fb503572231bd3") true propLearns_holds (fun _ h => by cases h) propLearns_c_wft (fun _ h => by cases h) propLearns_row_tie rfl ⟨rfl, rfl⟩ clos_main rfl
    (fun f fn hf hfn => by
      obtain rfl : f = 8 := Option.some.inj (propLearns_c_func.symm.trans hf) |>.symm
      obtain rfl : fn = Tryz.f8 := (Option.some.inj (Tryz.func8.symm.trans hfn)).symm
      exact ⟨clos_looks, fun j t ht => by
        rw [Tryz.params8] at ht
        have hm : t ∈ [77, 78, 3] := by simpa using Array.mem_of_getElem? ht
        exact (show Tryz.prog.wantsStandIn t = false by simpa using List.all_eq_true.1 propLearns_c_stand t hm)⟩)
    propLearns_c_goes
end Go.Proofs.YtmdeeokejdkceaaGreatDoor
