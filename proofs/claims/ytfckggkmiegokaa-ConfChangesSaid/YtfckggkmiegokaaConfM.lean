/-
  The three functions of slices, as contracts of ours.
-/
import Derived.Test.YtfckggkmiegokaaConfL
set_option linter.unusedSimpArgs false
set_option linter.unusedVariables false
namespace Go.Proofs.Ytfckggkmiegokaa
open Go.Vx Go.ChangeShapes Go.WideShapes Go.ChangeAt Go.RowKit
attribute [local semireducible] Con
theorem Con.ofCalls {P : Program} {f : FuncId} {args : Array Value} {G : GH} {μ : OH} {Φ : Value → GH → OH → Prop} (h : ∀ w, Mem G μ w → Calls P f args w fun e w' => ∃ v, e = .returned v ∧ ∃ G' μ', Step G μ w G' μ' w' ∧ Φ v G' μ') : Con P f args G μ Φ := by
  intro w hw
  exact (h w hw).mono fun e w' hq => by
    obtain ⟨v, rfl, hv⟩ := hq
    exact ⟨v, rfl, hv⟩
theorem cell_spot {G : GH} {a : Addr} {v : Value} (h : GH.cell? G a = some v) : a.spot = none := by
  unfold GH.cell? at h
  split at h
  · split at h
    · cases h
    · rename_i h'
      cases hs : a.spot with
      | none => rfl
      | some s => rw [hs] at h'; simp at h'
  · cases h
theorem search_s {G : GH} {l : List Int} {sv : Value} (x : Int) (hs : Sl G 1 (IntR .i64) sv l) (hl : 0 < l.length) (hbig : l.length ≤ 1048576) (hsort : l.Pairwise (· ≤ ·)) :
    Con Try.prog 55 #[sv, .int .i64 x] G [] (Just (.tuple #[.int .i64 (l.countP (· < x) : Nat), .bool (l.contains x)]) G) := by
  obtain ⟨A, c, rfl, hlc, hcm, hsome, hel, _⟩ := hs.openInt
  refine Con.ofCalls fun w hw => ?_
  have hA := hsome hl
  cases A with
  | none => cases hA
  | some a =>
    obtain ⟨b, off, spot⟩ := a
    have h0 := cell_spot (hel 0 hl)
    have : spot = none := by simpa [adr, Addr.add] using h0
    subst this
    refine (Any.slices_BinarySearch_int laysSearch b off l.length c l x w (Nat.le_refl _) (by omega) (fun j hj => ?_) (by rw [List.take_length]; exact hsort)).mono ?_
    · have := hel j hj
      rw [Nat.mul_one] at this
      have h2 := (Cell.frozen (μ := []) this) w hw.sees
      rw [show (adr (some ⟨b, off, none⟩)).add j = (⟨b, off + j, none⟩ : Addr) from add_mk b off j] at h2
      rw [h2, List.getD_eq_getElem?_getD, List.getElem?_eq_getElem hj]; rfl
    · rintro e w' ⟨rfl, q, rfl⟩
      rw [List.take_length]
      exact ⟨_, rfl, G, [], Step.drew hw q, rfl, rfl, rfl⟩
/-! ### What the kit's contracts do to the world, in steps of ours -/
section
variable {G : GH} {μ μ' : OH} {w : World} {b : Nat} {e : TypeId}
theorem Step.map {vs vs' : List Value} {f : Array Value → Array Value} (hw : Mem G μ w) (hb : Has μ b vs e) (hf : f vs.toArray = vs'.toArray) (hu : Upd b (.cells vs'.toArray e (0, 0)) μ μ') : Step G μ w G μ' (Go.Sort.mapBlock w b f) := by
  have hg := hw.own _ _ hb
  refine Step.upd hw hu rfl rfl rfl (by simp [Go.Sort.mapBlock]) ?_ (fun c hc => ?_)
  · simp only [Go.Sort.mapBlock, Array.getElem?_modify, if_true, hg, Option.map_some, Go.Sort.onCells, hf]
  · simp only [Go.Sort.mapBlock, Array.getElem?_modify]
    rw [if_neg (fun h => hc h.symm)]
theorem over_cons {vs : List Value} {i : Nat} {v : Value} {r : List Value} (h : i < vs.length) : over (vs.set i v) (i + 1) r = over vs i (v :: r) := by
  have t1 : (vs.set i v).take (i + 1) = vs.take i ++ [v] := by
    rw [List.take_add_one, List.getElem?_set_self h, List.take_set, List.set_eq_of_length_le (by rw [List.length_take]; omega)]; rfl
  have t2 : (vs.set i v).drop (i + 1 + r.length) = vs.drop (i + 1 + r.length) := by
    rw [List.drop_set, if_pos (by omega)]
  simp only [over, t1, t2, List.length_cons]
  rw [show i + 1 + r.length = i + (r.length + 1) by omega]
  simp
theorem Step.cells : ∀ (us : List Value) {vs : List Value} {o : Nat} {ν : OH} {w : World}, Mem G ((b, .cells vs.toArray e (0, 0)) :: ν) w → o + us.length ≤ vs.length →
    Step G ((b, .cells vs.toArray e (0, 0)) :: ν) w G ((b, .cells (over vs o us).toArray e (0, 0)) :: ν) (w.setCells b o us)
  | [], vs, o, ν, w, hw, _ => by simpa [over, World.setCells] using Step.refl hw
  | u :: us, vs, o, ν, w, hw, h => by
    rw [List.length_cons] at h
    have h1 : Step G ((b, .cells vs.toArray e (0, 0)) :: ν) w G ((b, .cells (vs.set o u).toArray e (0, 0)) :: ν) (w.setCell ⟨b, o, none⟩ u) := by
      rw [Go.Sort.setCell_eq]
      exact Step.map hw (List.Mem.head _) (by simp) (.here _ _)
    have h2 := Step.cells us (vs := vs.set o u) (o := o + 1) h1.mem (by simp; omega)
    rw [over_cons (by omega)] at h2
    exact h1.trans h2
end
theorem over_at {a m r us : List Value} (h : us.length = m.length) : over (a ++ m ++ r) a.length us = a ++ us ++ r := by
  simp only [over, h, List.append_assoc, List.take_left, ← List.drop_drop, List.drop_left]
theorem cellOwn {μ : OH} {G : GH} {w : World} {b : Nat} {e : TypeId} {vs : List Value} (hw : Mem G μ w) (hb : Has μ b vs e) {j : Nat} {v : Value} (hv : vs[j]? = some v) : w.cell? ⟨b, 0 + j, none⟩ = some v := by
  rw [Nat.zero_add]
  exact Cell.own hb hv w hw.sees
theorem frozenOwn {μ : OH} {G : GH} {w : World} {b : Nat} {e : TypeId} {vs : List Value} (hw : Mem G μ w) (hb : Has μ b vs e) (j : Nat) : w.frozen? ⟨b, j, none⟩ = false := by
  have := hw.own _ _ hb
  simp [World.frozen?, this]
theorem shapeOwn {μ : OH} {G : GH} {w : World} {b : Nat} {e : TypeId} {vs : List Value} (hw : Mem G μ w) (hb : Has μ b vs e) : w.shape? b = some (e, vs.length) := by
  have := hw.own _ _ hb
  simp [World.shape?, this]
theorem one_ints {k : IntKind} (l : List Int) : ∀ v ∈ l.map (Value.int k ·), v.oneCell' = true := fun v hv => List.all_eq_true.1 (allOne_ints l) v hv
theorem over_at2 {a m r us : List Value} (h : us.length = m.length) : over (a ++ (m ++ r)) a.length us = a ++ us ++ r := by
  rw [← List.append_assoc]; exact over_at h
theorem growOf {e : TypeId} {b n cap : Nat} {xs cells : List Value} (hx : xs.length = n) (hcells : ∃ spare, cells = xs ++ spare) (hl : cells.length = cap) (hn : n ≤ cap) (hm : cap ≤ maxLen) : Grow e 1 (.slice (some ⟨b, 0, none⟩) n cap) n xs [(b, .cells cells.toArray e (0, 0))] := by
  obtain ⟨spare, rfl⟩ := hcells
  exact ⟨by omega, .inr ⟨b, cap, spare, rfl, rfl, hn, hm, by omega⟩⟩
theorem shift_cells {cs spare : List Value} {i : Nat} {x : Value} (hi : i ≤ cs.length) (hs : 0 < spare.length) : ∃ r, over (over (cs ++ spare) (i + 1) (cs.drop i)) i [x] = cs.take i ++ [x] ++ cs.drop i ++ r := by
  have hlt : 0 < (cs.drop i ++ spare).length := by simp; omega
  obtain ⟨t0, t, ht⟩ : ∃ t0 t, cs.drop i ++ spare = t0 :: t := by
    cases h : cs.drop i ++ spare with
    | nil => rw [h] at hlt; simp at hlt
    | cons a b => exact ⟨a, b, rfl⟩
  have htl : (cs.drop i).length ≤ t.length := by
    have := congrArg List.length ht
    simp at this ⊢
    omega
  have e0 : cs ++ spare = (cs.take i ++ [t0]) ++ t.take (cs.drop i).length ++ t.drop (cs.drop i).length := by
    rw [List.append_assoc, List.take_append_drop, List.append_assoc, List.singleton_append, ← ht, ← List.append_assoc, List.take_append_drop]
  have hi1 : (cs.take i ++ [t0]).length = i + 1 := by simp; omega
  have hi2 : (cs.take i).length = i := by simp; omega
  refine ⟨t.drop (cs.drop i).length, ?_⟩
  rw [e0, ← hi1, over_at (by rw [List.length_take]; omega)]
  have e1 : cs.take i ++ [t0] ++ cs.drop i ++ t.drop (cs.drop i).length = cs.take i ++ [t0] ++ (cs.drop i ++ t.drop (cs.drop i).length) := by simp
  rw [e1]
  conv => lhs; rw [show over (cs.take i ++ [t0] ++ (cs.drop i ++ t.drop (cs.drop i).length)) i [x] = over (cs.take i ++ [t0] ++ (cs.drop i ++ t.drop (cs.drop i).length)) (cs.take i).length [x] by rw [hi2]]
  rw [over_at (m := [t0]) (us := [x]) rfl]
  simp
theorem end_cells {cs spare : List Value} {x : Value} (hs : 0 < spare.length) : ∃ r, over (cs ++ spare) cs.length [x] = cs ++ [x] ++ r := by
  match spare, hs with
  | y :: r, _ =>
    refine ⟨r, ?_⟩
    have : cs ++ y :: r = cs ++ [y] ++ r := by simp
    rw [this, over_at (m := [y]) (us := [x]) rfl]
theorem insert_s {G : GH} {l : List Int} {i : Nat} {x : Int} {b vb cap : Nat} {spare : List Value} (hl : 0 < l.length) (hbig : l.length ≤ 1048576) (hi : i ≤ l.length) (hc : l.length ≤ cap) (hm : cap ≤ maxLen) (hcap : (l.map (Value.int .i64 ·) ++ spare).length = cap) :
    Con Try.prog 56 #[.slice (some ⟨b, 0, none⟩) l.length cap, .int .i64 i, .slice (some ⟨vb, 0, none⟩) 1 1] G [(b, .cells (l.map (Value.int .i64 ·) ++ spare).toArray 3 (0, 0)), (vb, .cells [Value.int .i64 x].toArray 3 (0, 0))]
      (fun r G' μ' => G' = G ∧ Grow 3 1 r (l.length + 1) ((l.take i ++ [x] ++ l.drop i).map (Value.int .i64 ·)) μ') := by
  refine Con.ofCalls fun w hw => ?_
  have hne : vb ≠ b := by
    have := hw.nodup
    simp at this
    exact fun e => this e.symm
  simp only [maxLen] at hm
  have h1 : Has [(b, .cells (l.map (Value.int .i64 ·) ++ spare).toArray 3 (0, 0)), (vb, .cells [Value.int .i64 x].toArray 3 (0, 0))] b (l.map (Value.int .i64 ·) ++ spare) 3 := List.Mem.head _
  have h2 : Has [(b, .cells (l.map (Value.int .i64 ·) ++ spare).toArray 3 (0, 0)), (vb, .cells [Value.int .i64 x].toArray 3 (0, 0))] vb [Value.int .i64 x] 3 := List.Mem.tail _ (List.Mem.head _)
  have hcl : (l.map (Value.int .i64 ·)).length = l.length := by simp
  have hsl : spare.length = cap - l.length := by rw [List.length_append, hcl] at hcap; omega
  have hcs : ∀ j v, (l.map (Value.int .i64 ·))[j]? = some v → w.cell? ⟨b, 0 + j, none⟩ = some v := fun j v hv => cellOwn hw h1 (by rw [List.getElem?_append_left (List.getElem?_eq_some_iff.1 hv).1]; exact hv)
  have hvs : ∀ j v, [Value.int .i64 x][j]? = some v → w.cell? ⟨vb, 0 + j, none⟩ = some v := fun j v hv => cellOwn hw h2 hv
  have hsp : ∀ j, j < cap → (w.cell? ⟨b, 0 + j, none⟩).isSome = true := fun j hj => by
    have hlt : j < (l.map (Value.int .i64 ·) ++ spare).length := by rw [hcap]; exact hj
    rw [cellOwn hw h1 (List.getElem?_eq_getElem hlt)]; rfl
  have h1v : ∀ v ∈ [Value.int .i64 x], v.oneCell' = true := by intro v hv; simp at hv; subst hv; rfl
  have hlen : (l.take i ++ [x] ++ l.drop i).length = l.length + 1 := by simp; omega
  by_cases hroom : l.length + 1 ≤ cap
  · by_cases hin : i < l.length
    · refine (Any2.slices_Insert_int_shift laysInsert b 0 l.length cap i vb 0 1 1 (l.map (Value.int .i64 ·)) [Value.int .i64 x] w hin (by omega) hroom hm hne hcl rfl hcs (fun j hj => hsp j (by omega)) (fun j _ => frozenOwn hw h1 _) hvs (one_ints l) h1v _ _ _ _ (shapeOwn hw h2) (shapeOwn hw h1) (by rw [hcap]; omega) (frozenOwn hw h2 _) (frozenOwn hw h2 _)).mono ?_
      rintro e w' ⟨rfl, rfl⟩
      obtain ⟨r, hr⟩ := shift_cells (cs := l.map (Value.int .i64 ·)) (spare := spare) (i := i) (x := .int .i64 x) (by omega) (by omega)
      have st0 := Step.drew hw 1
      have st1 := Step.cells ((l.map (Value.int .i64 ·)).drop i) (o := 0 + (i + 1)) st0.mem (by simp; omega)
      have st2 := Step.cells [Value.int .i64 x] (o := 0 + i) st1.mem (by rw [over_length (by simp; omega), hcap]; simp; omega)
      rw [Nat.zero_add, Nat.zero_add, hr] at st2
      refine ⟨_, rfl, G, _, ((st0.trans st1).trans (by rw [Nat.zero_add, Nat.zero_add]; rw [Nat.zero_add] at st1; exact st2)).drop (List.Sublist.cons_cons _ (List.nil_sublist _)), rfl, growOf (by simp; omega) ⟨r, by simp [List.map_take, List.map_drop]⟩ ?_ hroom hm⟩
      rw [← hr, over_length (by rw [over_length (by simp; omega)]; simp; omega), over_length (by simp; omega), hcap]
    · obtain rfl : i = l.length := by omega
      refine (Any2.slices_Insert_int_end_room laysInsert b 0 l.length cap vb 0 1 1 [Value.int .i64 x] w (by omega) hroom hm rfl (fun j hj => by rw [Nat.add_assoc]; exact hsp _ (by omega)) (fun j _ => frozenOwn hw h1 _) hvs h1v).mono ?_
      rintro e w' ⟨rfl, rfl⟩
      obtain ⟨r, hr⟩ := end_cells (cs := l.map (Value.int .i64 ·)) (spare := spare) (x := .int .i64 x) (by omega)
      have st1 := Step.cells [Value.int .i64 x] (o := 0 + l.length) hw (by simp; omega)
      rw [hcl] at hr
      have hr' : over (l.map (Value.int .i64 ·) ++ spare) (0 + l.length) [Value.int .i64 x] = l.map (Value.int .i64 ·) ++ [Value.int .i64 x] ++ r := by rw [Nat.zero_add]; exact hr
      rw [hr'] at st1
      refine ⟨_, rfl, G, _, st1.drop (List.Sublist.cons_cons _ (List.nil_sublist _)), rfl, growOf (by simp) ⟨r, by simp⟩ ?_ hroom hm⟩
      rw [← hr', over_length (by simp; omega), hcap]
  · by_cases hin : i < l.length
    · refine (Any2.slices_Insert_int_grow laysInsert b 0 l.length cap i vb 0 1 1 (l.map (Value.int .i64 ·)) [Value.int .i64 x] w hin (by omega) hc (by omega) (by omega) hcl rfl hcs hvs (one_ints l) h1v).mono ?_
      rintro e w' ⟨rfl, rfl⟩
      have hge := grownCap_ge w (l.length + 1) cap 3
      have hle := grownCap_le_maxLen w (l.length + 1) cap 3 (by simp only [maxLen]; omega)
      generalize hK : (Builtin.zeroCells (Value.int .i64 0).cells (grownCap w (l.length + 1) cap (laysInsert_ren.t 3) - (l.length + 1))) = K
      have hKl : K.toList.length = grownCap w (l.length + 1) cap 3 - (l.length + 1) := by
        rw [← hK, show laysInsert_ren.t 3 = 3 from rfl]
        simp [size_zeroCells, Value.cells]
      generalize hZ : (Builtin.zeroCells (Value.int .i64 0).cells (l.length + 1 - i)) = Z
      have hZl : Z.toList.length = l.length + 1 - i := by
        rw [← hZ]
        simp [size_zeroCells, Value.cells]
      obtain ⟨z0, Z', hZ'⟩ : ∃ z0 Z', Z.toList = z0 :: Z' := by
        cases h : Z.toList with
        | nil => rw [h] at hZl; simp at hZl; omega
        | cons a b => exact ⟨a, b, rfl⟩
      have hZl' : Z'.length = l.length - i := by rw [hZ', List.length_cons] at hZl; omega
      have hobj : Obj.cells (((l.map (Value.int .i64 ·)).take i).toArray ++ Z ++ K) (laysInsert_ren.t 3) = Obj.cells ((l.map (Value.int .i64 ·)).take i ++ [z0] ++ (Z' ++ K.toList)).toArray 3 (0, 0) := by
        rw [show laysInsert_ren.t 3 = 3 from rfl]
        congr 1
        apply Array.ext'
        simp [hZ']
      rw [hobj]
      have st1 := (Step.alloc hw (.cells ((l.map (Value.int .i64 ·)).take i ++ [z0] ++ (Z' ++ K.toList)).toArray 3 (0, 0))).drop (List.Sublist.cons_cons _ (List.nil_sublist _))
      have st2 := Step.drew st1.mem 1
      have hti : ((l.map (Value.int .i64 ·)).take i).length = i := by simp; omega
      have st3 := Step.cells [Value.int .i64 x] (o := ((l.map (Value.int .i64 ·)).take i).length) st2.mem (by simp)
      rw [over_at (m := [z0]) (us := [Value.int .i64 x]) rfl] at st3
      have st4 := Step.drew st3.mem 1
      have st5 := Step.cells ((l.map (Value.int .i64 ·)).drop i) (o := ((l.map (Value.int .i64 ·)).take i ++ [Value.int .i64 x]).length) st4.mem (by simp; omega)
      rw [over_at2 (m := Z') (by simp; omega)] at st5
      have st := ((((st1.trans st2).trans st3).trans st4).trans st5)
      rw [hti, List.length_append, hti] at st
      refine ⟨_, rfl, G, _, st, rfl, growOf (by simp; omega) ⟨K.toList, by simp [List.map_take, List.map_drop]⟩ ?_ hge hle⟩
      rw [List.length_append, hKl, show laysInsert_ren.t 3 = 3 from rfl]
      simp
      omega
    · obtain rfl : i = l.length := by omega
      refine (Any2.slices_Insert_int_end_grow laysInsert (some ⟨b, 0, none⟩) l.length cap vb 0 1 1 (l.map (Value.int .i64 ·)) [Value.int .i64 x] w (by omega) hc (by omega) (by omega) hcl rfl (by intro h; cases h) (by rintro a ⟨rfl⟩ j v hv; rw [add_mk]; exact hcs j v hv) hvs h1v).mono ?_
      rintro e w' ⟨rfl, rfl⟩
      have hge := grownCap_ge w (l.length + 1) cap 3
      have hle := grownCap_le_maxLen w (l.length + 1) cap 3 (by simp only [maxLen]; omega)
      have st0 := Step.drew hw 1
      have st1 := Step.alloc st0.mem (.cells (l.map (Value.int .i64 ·) ++ [Value.int .i64 x] ++ (Builtin.zeroCells (Value.int .i64 0).cells (grownCap w (l.length + 1) cap 3 - (l.length + 1))).toList).toArray 3 (0, 0))
      have hobj : Obj.cells (l.map (Value.int .i64 ·) ++ [Value.int .i64 x] ++ (Builtin.zeroCells (Value.int .i64 0).cells (grownCap w (l.length + 1) cap 3 - (l.length + 1))).toList).toArray 3 (0, 0) = Obj.cells ((l.map (Value.int .i64 ·) ++ [Value.int .i64 x]).toArray ++ Builtin.zeroCells (Value.int .i64 0).cells (grownCap w (l.length + 1) cap 3 - (l.length + 1))) 3 (0, 0) := by simp
      have st2 := (st0.trans st1).drop (List.Sublist.cons_cons _ (List.nil_sublist _))
      refine ⟨_, rfl, G, [(w.heap.size, .cells (l.map (Value.int .i64 ·) ++ [Value.int .i64 x] ++ (Builtin.zeroCells (Value.int .i64 0).cells (grownCap w (l.length + 1) cap 3 - (l.length + 1))).toList).toArray 3 (0, 0))], ?_, rfl, growOf (by simp) ⟨_, by rw [List.take_length, List.drop_length]; simp; rfl⟩ ?_ hge hle⟩
      · have st3 := st2
        conv at st3 => arg 6; rw [hobj]
        exact st3
      · rw [show laysInsert_ren.t 3 = 3 from rfl]
        simp [size_zeroCells, Value.cells]
        omega
theorem putCells_list {cs spare : List Value} {d : List Int} (h : cs.length = d.length) : Go.Sort.putCells (Value.int .i64) 0 d.toArray (cs ++ spare).toArray = (d.map (Value.int .i64 ·) ++ spare).toArray := by
  apply Array.ext_getElem?
  intro k
  simp only [Go.Sort.putCells, Array.getElem?_mapIdx, List.getElem?_toArray]
  by_cases hk : k < d.length
  · rw [List.getElem?_append_left (by omega), List.getElem?_append_left (by simpa using hk), List.getElem?_eq_getElem (by omega)]
    simp [hk]
  · rw [List.getElem?_append_right (by omega), List.getElem?_append_right (by simp; omega)]
    simp only [List.length_map, h]
    cases hs : spare[k - d.length]? with
    | none => simp
    | some v => simp [hk]
theorem delete_s {G : GH} {l : List Int} {i : Nat} {b cap : Nat} {spare : List Value} (hi : i < l.length) (hc : l.length ≤ cap) (hm : cap ≤ maxLen) (hcap : (l.map (Value.int .i64 ·) ++ spare).length = cap) :
    Con Try.prog 57 #[.slice (some ⟨b, 0, none⟩) l.length cap, .int .i64 i, .int .i64 ((i + 1 : Nat) : Int)] G [(b, .cells (l.map (Value.int .i64 ·) ++ spare).toArray 3 (0, 0))]
      (fun r G' μ' => G' = G ∧ Grow 3 1 r (l.length - 1) ((l.take i ++ l.drop (i + 1)).map (Value.int .i64 ·)) μ') := by
  refine Con.ofCalls fun w hw => ?_
  have hm' := hm
  simp only [maxLen] at hm'
  have h1 : Has [(b, .cells (l.map (Value.int .i64 ·) ++ spare).toArray 3 (0, 0))] b (l.map (Value.int .i64 ·) ++ spare) 3 := List.Mem.head _
  refine (Any.slices_Delete_int laysDelete b 0 cap i (i + 1) l w (fun j hj => ⟨?_, frozenOwn hw h1 _⟩) hc hm' (by omega) (by omega)).mono ?_
  · have hj' : j < l.length := by simpa using hj
    rw [cellOwn hw h1 (v := .int .i64 l[j]) (by rw [List.getElem?_append_left (by simpa using hj'), List.getElem?_map, List.getElem?_eq_getElem hj']; rfl)]
    simp [hj']
  · rintro e w' ⟨rfl, q, rfl⟩
    have st0 := Step.drew hw q
    have hdl : (l.take i ++ l.drop (i + 1) ++ List.replicate (i + 1 - i) 0).length = l.length := by simp; omega
    have st1 : Step G _ _ G [(b, .cells ((l.take i ++ l.drop (i + 1) ++ List.replicate (i + 1 - i) 0).map (Value.int .i64 ·) ++ spare).toArray 3 (0, 0))] _ := Step.map (f := Go.Sort.putCells (Value.int .i64) 0 (l.take i ++ l.drop (i + 1) ++ List.replicate (i + 1 - i) 0).toArray) st0.mem h1 (putCells_list (by rw [hdl]; simp)) (.here _ _)
    refine ⟨_, rfl, G, _, st0.trans st1, rfl, ?_⟩
    rw [show i + 1 - i = 1 by omega]
    refine growOf (by simp; omega) ⟨Value.int .i64 0 :: spare, by simp⟩ ?_ (by omega) hm
    rw [List.length_append, List.length_map] at hcap ⊢
    simp
    omega
end Go.Proofs.Ytfckggkmiegokaa
