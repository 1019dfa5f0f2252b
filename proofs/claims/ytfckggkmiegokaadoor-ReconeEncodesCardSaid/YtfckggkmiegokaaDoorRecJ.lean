/-
  recone (layer 16), the eleventh part: the bytes of a text, by the reference.
-/
import Derived.Test.YtfckggkmiegokaaDoorRecI
import Derived.Lib.AppendStr
set_option linter.unusedSimpArgs false
set_option linter.unusedVariables false
namespace Go.Proofs.YtfckggkmiegokaaDoor
open Go.Vx Go.ChangeShapes Go.WideShapes Go.ChangeAt Go.RowKit
attribute [local semireducible] MoveOp in
theorem m_appendS {ty t u : TypeId} {σ : Env} {G : GH} {μ μr ν : OH} {s x : Operand} {v : Value} {m : Nat} {xs : List Value} {z : ByteArray} [Ty Tryd.prog t (.slice 5)] [Ty Tryd.prog u .string] (hs : Env.ev σ s = some v) (hx : Env.ev σ x = some (.string z)) (hg : Grow 5 1 v m xs ν) (hm : 0 < m) (hp : μ.Perm (ν ++ μr)) (hb : m + z.size ≤ 140737488355328) :
    MoveOp Tryd.prog (.call { callee := .builtin .append, args := #[s, x], argTypes := #[t, u] }) ty σ G μ (fun v' G' μ' => ∃ ν', Grow 5 1 v' (m + z.size) (xs ++ Lib.strCells z) ν' ∧ G' = G ∧ μ' = ν' ++ μr) := by
  intro dst pos af g ρ hρ w hw a K Q hK
  have hw' := hw.perm hp
  obtain ⟨i, hi, hi1, hi2, hi3⟩ := Lay.infoEx (P := Tryd.prog) (t := 5) (agg := false) (size := 1) (bytes := 1) (zero := .int .u8 0) inferInstance
  have ht : (Tryd.prog).underlying t = some (.slice 5) := Ty.h
  have hu : (Tryd.prog).underlying u = some .string := Ty.h
  have hex : ∀ (r : Result Value), (Builtin.append_ #[t, u] ty #[v, .string z]).run Tryd.prog w = r → (execOp ρ ⟨dst, .call { callee := .builtin .append, args := #[s, x], argTypes := #[t, u] }, ty, pos, af, g⟩).run Tryd.prog w = r.andThen fun v w' => .ok (.value v) w' := by
    intro r hr
    subst hr
    simp only [execOp, resolve, invoke, builtin, Sem.run_bind, Sem.run_pure, Result.andThen_ok, List.map_toArray, List.map_cons, List.map_nil, hρ _ _ hs, hρ _ _ hx]
  obtain ⟨hl, ⟨rfl, h0, rfl⟩ | ⟨b, cap, spare, rfl, rfl, hc1, hc2, hc3⟩⟩ := hg
  · omega
  have hblk : w.heap[b]? = some (.cells (xs ++ spare).toArray 5 (0, 0)) := hw'.own b _ (by simp)
  have hsl := Lib.strCells_length z
  by_cases hroom : m + z.size ≤ cap
  · have hr := Lib.run_append_room_string (P := Tryd.prog) w t u ty 5 i ht hu hi hi1 b m cap (xs ++ spare).toArray hblk z hroom (by rw [List.size_toArray, hc3]; omega)
    rw [hex _ hr]
    have htake : ((xs ++ spare).toArray.toList.take m ++ Lib.strCells z ++ (xs ++ spare).toArray.toList.drop (m + z.size)) = xs ++ Lib.strCells z ++ spare.drop z.size := by
      have hl' : m = xs.length := by omega
      rw [hl']
      show (xs ++ spare).take xs.length ++ Lib.strCells z ++ (xs ++ spare).drop (xs.length + z.size) = _
      rw [List.take_left, ← List.drop_drop, List.drop_left]
    rw [htake]
    have hst : Step G ([(b, .cells (xs ++ spare).toArray 5 (0, 0))] ++ μr) w G ([(b, .cells (xs ++ Lib.strCells z ++ spare.drop z.size).toArray 5 (0, 0))] ++ μr) (w.setRow b (xs ++ Lib.strCells z ++ spare.drop z.size).toArray) :=
      Step.row hw' (b := b) (vs := xs ++ spare) (by simp [Has]) (.here _ _)
    refine hK _ _ G _ (hst.permL hp.symm) ⟨[(b, .cells (xs ++ Lib.strCells z ++ spare.drop z.size).toArray 5 (0, 0))], ⟨by rw [List.length_append, hl, hsl]; omega, .inr ⟨b, cap, spare.drop z.size, rfl, rfl, hroom, hc2, ?_⟩⟩, rfl, rfl⟩
    simp only [List.length_append, List.length_drop, hl, hsl] at hc3 ⊢
    omega
  · have holds : ∀ j q, xs[j]? = some q → w.cell? ((⟨b, 0, none⟩ : Addr).add j) = some q := by
      intro j q hq
      have hj : j < xs.length := (List.getElem?_eq_some_iff.1 hq).1
      rw [add_mk, Nat.zero_add]
      unfold World.cell?
      simp only [hblk]
      simp only [Option.isSome_none, Bool.false_eq_true, if_false, List.getElem?_toArray]
      rw [List.getElem?_append_left hj]
      exact hq
    have hr := Lib.run_append_grow_string (P := Tryd.prog) w t u ty 5 i (.int .u8 0) ht hu hi hi3 ⟨b, 0, none⟩ m cap xs (by rw [hl, hi1]) holds z (by omega) (by omega) (growslice_fits (by omega) (by rw [hi2]; omega))
    rw [hex _ hr]
    have hge := grownCap_ge w (m + z.size) cap 5
    have hst := (Step.drew hw' 1).trans (Step.alloc (Step.drew hw' 1).mem (.cells (xs.toArray ++ (Lib.strCells z).toArray ++ Builtin.zeroCells (Value.int .u8 0).cells (grownCap w (m + z.size) cap 5 - (m + z.size))) 5 (0, 0)))
    have hst2 := hst.drop (List.Sublist.cons_cons _ (List.Sublist.cons _ (List.Sublist.refl μr)))
    refine hK _ _ G _ (hst2.permL hp.symm) ⟨[(w.heap.size, .cells (xs ++ Lib.strCells z ++ (Builtin.zeroCells (Value.int .u8 0).cells (grownCap w (m + z.size) cap 5 - (m + z.size))).toList).toArray 5 (0, 0))], ⟨by rw [List.length_append, hl, hsl]; omega, .inr ⟨_, _, _, rfl, rfl, hge, grownCap_le_maxLen w _ _ _ (by simp only [maxLen]; omega), ?_⟩⟩, rfl, ?_⟩
    · simp only [List.length_append, hl, hsl, Array.length_toList, size_zeroCells]
      have : (Value.int .u8 0).cells.size = 1 := rfl
      rw [this]
      omega
    · simp
theorem strCells_map (s : ByteArray) : Lib.strCells s = (sbytes s).map (Value.int .u8 ·) := by
  rw [Lib.strCells, sbytes, List.map_map]
  rfl
theorem rtext_s (G : GH) (s : ByteArray) (hz : s.size ≤ 100000) : Con Tryd.prog 92 #[.string s] G [] (fun r G' μ' => G' = G ∧ Grow 5 1 r (vbytes s.size ++ sbytes s).length ((vbytes s.size ++ sbytes s).map (.int .u8 ·)) μ') := by
  have hl := vbytes_len (s.size : Nat)
  refine v_enter Tryd.func92 rfl Tryd.ntmps92 rfl (fun B => ?_)
  repeat' (first | apply v_seq | apply v_region | apply v_nil | apply v_skip | apply v_block | apply v_blk | (apply v_exit; (case hp => rfl)) | (apply v_take; (case hg => rfl)) | (apply v_pass; (case hg => rfl); (case hn => rfl); (case hd => rfl)) | (apply v_passN; (case hg => rfl); (case hn => rfl); (case hd => rfl)) | (apply v_pure; (case hop => first | (apply p_move <;> rfl) | (apply p_assign <;> rfl) | (apply p_lenSlice <;> rfl) | (apply p_lenString <;> rfl)); (case hd => rfl)) | (apply v_condT; (case hc => rfl)) | (apply v_condF; (case hc => rfl)) | (apply v_cond; (case hc => rfl); all_goals (intro h; (try simp only [reduceCtorEq, dec_true, dec_false, decide_eq_true_eq, decide_eq_false_iff_not, Bool.not_eq_true', Bool.not_eq_false', Option.isNone_iff_eq_none, beq_true, beq_false, beq_iff_eq, beq_eq_false_iff_ne, ne_eq, decide_eq_decide, Bool.not_eq_true, Bool.not_eq_false, Decidable.not_not] at h); first | done | (exfalso; omega) | (exfalso; exact h (by with_reducible assumption)) | (exfalso; revert h; rw [imp_false]; with_reducible assumption) | skip)) | (apply v_guardB; (case h1 => rfl); (case h2 => rfl); all_goals (intro h; (try simp only [reduceCtorEq, dec_true, dec_false, decide_eq_true_eq, decide_eq_false_iff_not, Bool.not_eq_true', Bool.not_eq_false', Option.isNone_iff_eq_none, beq_true, beq_false, beq_iff_eq, beq_eq_false_iff_ne, ne_eq, decide_eq_decide, Bool.not_eq_true, Bool.not_eq_false, Decidable.not_not] at h); first | done | (exfalso; omega) | (exfalso; exact h (by with_reducible assumption)) | (exfalso; revert h; rw [imp_false]; with_reducible assumption) | skip)) | fail)
  refine v_call (μ1 := []) (μ2 := _) rfl (rnum_s G (s.size : Nat) (by omega)) (List.Perm.refl _) rfl ?_
  rintro r G' μ1 - ⟨rfl, hg⟩
  repeat' (first | apply v_seq | apply v_region | apply v_nil | apply v_skip | apply v_block | apply v_blk | (apply v_exit; (case hp => rfl)) | (apply v_take; (case hg => rfl)) | (apply v_pass; (case hg => rfl); (case hn => rfl); (case hd => rfl)) | (apply v_passN; (case hg => rfl); (case hn => rfl); (case hd => rfl)) | (apply v_pure; (case hop => first | (apply p_move <;> rfl) | (apply p_assign <;> rfl) | (apply p_lenSlice <;> rfl) | (apply p_lenString <;> rfl)); (case hd => rfl)) | (apply v_condT; (case hc => rfl)) | (apply v_condF; (case hc => rfl)) | (apply v_cond; (case hc => rfl); all_goals (intro h; (try simp only [reduceCtorEq, dec_true, dec_false, decide_eq_true_eq, decide_eq_false_iff_not, Bool.not_eq_true', Bool.not_eq_false', Option.isNone_iff_eq_none, beq_true, beq_false, beq_iff_eq, beq_eq_false_iff_ne, ne_eq, decide_eq_decide, Bool.not_eq_true, Bool.not_eq_false, Decidable.not_not] at h); first | done | (exfalso; omega) | (exfalso; exact h (by with_reducible assumption)) | (exfalso; revert h; rw [imp_false]; with_reducible assumption) | skip)) | (apply v_guardB; (case h1 => rfl); (case h2 => rfl); all_goals (intro h; (try simp only [reduceCtorEq, dec_true, dec_false, decide_eq_true_eq, decide_eq_false_iff_not, Bool.not_eq_true', Bool.not_eq_false', Option.isNone_iff_eq_none, beq_true, beq_false, beq_iff_eq, beq_eq_false_iff_ne, ne_eq, decide_eq_decide, Bool.not_eq_true, Bool.not_eq_false, Decidable.not_not] at h); first | done | (exfalso; omega) | (exfalso; exact h (by with_reducible assumption)) | (exfalso; revert h; rw [imp_false]; with_reducible assumption) | skip)) | fail)
  refine v_move (m_appendS rfl rfl hg (by omega) (List.Perm.refl _) (by omega)) rfl ?_
  rintro v' G2 μ2 ⟨ν', hg', rfl, rfl⟩
  repeat' (first | apply v_seq | apply v_region | apply v_nil | apply v_skip | apply v_block | apply v_blk | (apply v_exit; (case hp => rfl)) | (apply v_take; (case hg => rfl)) | (apply v_pass; (case hg => rfl); (case hn => rfl); (case hd => rfl)) | (apply v_passN; (case hg => rfl); (case hn => rfl); (case hd => rfl)) | (apply v_pure; (case hop => first | (apply p_move <;> rfl) | (apply p_assign <;> rfl) | (apply p_lenSlice <;> rfl) | (apply p_lenString <;> rfl)); (case hd => rfl)) | (apply v_condT; (case hc => rfl)) | (apply v_condF; (case hc => rfl)) | (apply v_cond; (case hc => rfl); all_goals (intro h; (try simp only [reduceCtorEq, dec_true, dec_false, decide_eq_true_eq, decide_eq_false_iff_not, Bool.not_eq_true', Bool.not_eq_false', Option.isNone_iff_eq_none, beq_true, beq_false, beq_iff_eq, beq_eq_false_iff_ne, ne_eq, decide_eq_decide, Bool.not_eq_true, Bool.not_eq_false, Decidable.not_not] at h); first | done | (exfalso; omega) | (exfalso; exact h (by with_reducible assumption)) | (exfalso; revert h; rw [imp_false]; with_reducible assumption) | skip)) | (apply v_guardB; (case h1 => rfl); (case h2 => rfl); all_goals (intro h; (try simp only [reduceCtorEq, dec_true, dec_false, decide_eq_true_eq, decide_eq_false_iff_not, Bool.not_eq_true', Bool.not_eq_false', Option.isNone_iff_eq_none, beq_true, beq_false, beq_iff_eq, beq_eq_false_iff_ne, ne_eq, decide_eq_decide, Bool.not_eq_true, Bool.not_eq_false, Decidable.not_not] at h); first | done | (exfalso; omega) | (exfalso; exact h (by with_reducible assumption)) | (exfalso; revert h; rw [imp_false]; with_reducible assumption) | skip)) | fail)
  refine v_ret ν' (outsA1 rfl rfl) (by repeat (first | exact List.Sublist.refl _ | exact List.nil_sublist _ | apply List.Sublist.cons_cons | apply List.Sublist.cons | exact List.sublist_append_left _ _ | apply List.sublist_append_of_sublist_right)) ?_
  refine ⟨rfl, ?_⟩
  rw [strCells_map, ← List.map_append, ← sbytes_length, ← List.length_append] at hg'
  rw [sbytes_length] at hg'
  exact hg'
end Go.Proofs.YtfckggkmiegokaaDoor
