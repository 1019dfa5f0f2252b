/-
  Texts (layer 5), the third part: what the program's readers answer: the same.
-/
import Derived.Test.YtpemabgfmnhhnaaGreatDoorM1
import Derived.Shelf.Unicode.DecodeAny
import Derived.Lib.AppendZerosOnto
import Derived.Lib.Overlaps
set_option linter.unusedSimpArgs false
set_option linter.unusedVariables false
namespace Go.Proofs.YtpemabgfmnhhnaaGreatDoor
open Go.Vx Go.ChangeShapes Go.WideShapes Go.ChangeAt Go.RowKit
def allF (f:Nat → Bool) (s:ByteArray):Nat → Nat → Bool
  | 0,_=>true
  | n + 1,p=>if p < s.size then (if f (Utf8.decode s p).1 = true then allF f s n (p + (Utf8.decode s p).2) else false) else true
theorem allF_end {f:Nat → Bool} {s:ByteArray} {n p:Nat} (h:¬ p < s.size):allF f s n p = true:=by
  cases n with
  | zero=>rfl
  | succ n=>unfold allF;rw [if_neg h]
theorem decode_w (s:ByteArray) (p:Nat) (h:p < s.size):1 ≤ (Utf8.decode s p).2 ∧ (Utf8.decode s p).2 ≤ 4 ∧ (Utf8.decode s p).1 < 1114112:=by
  rw [decode_of_sz s p h]
  have h4:=szR_le s p
  have h5:(szR s p).2 ≤ 1114111:=by
    have:=byt_lt s p
    unfold szR szFin
    repeat' split
    all_goals (try simp only);omega
  split
  · simp
  · simp only;omega
theorem allF_plain (s:ByteArray):∀ n p,s.size ≤ p + n → (decide (badR s n p < 0) && allF (fun r=>decide (plainP (r:Int))) s n p) = keyR s n p
  | 0,p,h=>by simp [badR,allF,keyR]
  | n + 1,p,h=>by
    unfold badR allF keyR
    by_cases hp:p < s.size
    · simp only [if_pos hp]
      rw [decode_of_sz s p hp]
      by_cases hz:(szR s p).1 = 0
      · simp only [if_pos hz]
        simp;omega
      · simp only [if_neg hz]
        by_cases hf:plainP ((szR s p).2:Int)
        · simp only [decide_eq_true hf,if_true,if_pos hf]
          exact allF_plain s n _ (by omega)
        · simp [hf]
    · simp [hp]
theorem szFin_spec {s:ByteArray} {i m low v:Nat} (h:(szFin s i m low v).1 ≠ 0):¬ s.size < i + (m + 1) ∧ contB s i m = true ∧ szFin s i m low v = (m + 1,acc s i v m) ∧ low ≤ acc s i v m:=by
  by_cases h1:s.size < i + (m + 1)
  · rw [szFin_short h1] at h;exact absurd rfl h
  cases h2:contB s i m with
  | false=>rw [szFin_cont h2] at h;exact absurd rfl h
  | true =>
    by_cases h3:acc s i v m < low ∨ 1114111 < acc s i v m ∨ (55296 ≤ acc s i v m ∧ acc s i v m ≤ 57343)
    · rw [szFin_low h3] at h;exact absurd rfl h
    · exact ⟨h1,rfl,szFin_ok h1 h2 h3,by omega⟩
theorem cont_bytes {s:ByteArray} {i m:Nat} (h:contB s i m = true):∀ k,k < m → 128 ≤ byt s (i + (k + 1)):=by
  intro k hk
  have h1:(contB s i k && (decide (128 ≤ byt s (i + (k + 1))) && decide (byt s (i + (k + 1)) ≤ 191))) = true:=contB_mono h (k:=k + 1) (by omega)
  simp only [Bool.and_eq_true,decide_eq_true_eq] at h1
  exact h1.2.1
theorem szFin_bytes {s:ByteArray} {i m low v:Nat} (hb:128 ≤ byt s i) (hl:128 ≤ low) (h:(szFin s i m low v).1 ≠ 0):((decide (32 ≤ (szFin s i m low v).2) && decide ((szFin s i m low v).2 ≠ 127)) = true ↔ ∀ j,i ≤ j → j < i + (szFin s i m low v).1 → 32 ≤ byt s j ∧ byt s j ≠ 127) ∧ i + (szFin s i m low v).1 ≤ s.size:=by
  obtain ⟨h1,h2,h3,h4⟩:=szFin_spec h
  rw [h3]
  simp only [Bool.and_eq_true,decide_eq_true_eq]
  refine ⟨⟨fun _ j hj hj2=>?_,fun _=>by omega⟩,by omega⟩
  by_cases e:j = i
  · subst e;omega
  · have:=cont_bytes h2 (j - i - 1) (by omega)
    rw [show i + (j - i - 1 + 1) = j by omega] at this
    omega
theorem sz_both (s:ByteArray) (p:Nat) (hz:¬ (szR s p).1 = 0):((decide (32 ≤ (szR s p).2) && decide ((szR s p).2 ≠ 127)) = true ↔ ∀ i,p ≤ i → i < p + (szR s p).1 → 32 ≤ byt s i ∧ byt s i ≠ 127) ∧ (p < s.size → p + (szR s p).1 ≤ s.size):=by
  unfold szR at hz ⊢
  by_cases c0:byt s p < 128
  · simp only [if_pos c0] at hz ⊢
    simp only [Bool.and_eq_true,decide_eq_true_eq]
    refine ⟨⟨fun h i h1 h2=>?_,fun h=>h p (by omega) (by omega)⟩,by omega⟩
    obtain rfl:i = p:=by omega
    exact h
  · simp only [if_neg c0] at hz ⊢
    by_cases c1:194 ≤ byt s p ∧ byt s p ≤ 223
    · simp only [if_pos c1] at hz ⊢
      have:=szFin_bytes (by omega) (by omega) hz
      exact ⟨this.1,fun _=>this.2⟩
    · simp only [if_neg c1] at hz ⊢
      by_cases c2:224 ≤ byt s p ∧ byt s p ≤ 239
      · simp only [if_pos c2] at hz ⊢
        have:=szFin_bytes (by omega) (by omega) hz
        exact ⟨this.1,fun _=>this.2⟩
      · simp only [if_neg c2] at hz ⊢
        by_cases c3:240 ≤ byt s p ∧ byt s p ≤ 244
        · simp only [if_pos c3] at hz ⊢
          have:=szFin_bytes (by omega) (by omega) hz
          exact ⟨this.1,fun _=>this.2⟩
        · simp only [if_neg c3] at hz
          exact absurd trivial hz
theorem sz_bytes (s:ByteArray) (p:Nat) (hz:¬ (szR s p).1 = 0):((decide (32 ≤ (szR s p).2) && decide ((szR s p).2 ≠ 127)) = true ↔ ∀ i,p ≤ i → i < p + (szR s p).1 → 32 ≤ byt s i ∧ byt s i ≠ 127):=(sz_both s p hz).1
theorem sz_end (s:ByteArray) (p:Nat) (hz:¬ (szR s p).1 = 0) (h:p < s.size):p + (szR s p).1 ≤ s.size:=(sz_both s p hz).2 h
theorem allF_val (s:ByteArray):∀ n p,s.size ≤ p + n → badR s n p < 0 → (allF (fun r=>decide (32 ≤ r) && decide (r ≠ 127)) s n p = true ↔ ∀ i,p ≤ i → i < s.size → 32 ≤ byt s i ∧ byt s i ≠ 127)
  | 0,p,h,_=>by
    simp only [allF,true_iff]
    intro i h1 h2;omega
  | n + 1,p,h,hb=>by
    unfold badR at hb
    unfold allF
    by_cases hp:p < s.size
    · rw [if_pos hp] at hb ⊢
      rw [decode_of_sz s p hp]
      by_cases hz:(szR s p).1 = 0
      · rw [if_pos hz] at hb;omega
      · rw [if_neg hz] at hb
        simp only [if_neg hz]
        have ih:=allF_val s n (p + (szR s p).1) (by omega) hb
        have key:((decide (32 ≤ (szR s p).2) && decide ((szR s p).2 ≠ 127)) = true) ↔ ∀ i,p ≤ i → i < p + (szR s p).1 → 32 ≤ byt s i ∧ byt s i ≠ 127:=sz_bytes s p hz
        by_cases hf:(decide (32 ≤ (szR s p).2) && decide ((szR s p).2 ≠ 127)) = true
        · rw [if_pos hf,ih]
          have hk:=key.1 hf
          constructor
          · intro hh i h1 h2
            by_cases hi:i < p + (szR s p).1
            · exact hk i h1 hi
            · exact hh i (by omega) h2
          · intro hh i h1 h2
            exact hh i (by omega) h2
        · rw [if_neg hf]
          constructor
          · intro hh;cases hh
          · intro hh
            have:=key.2 fun i h1 h2=>hh i h1 (by have:=sz_end s p hz hp;omega)
            rw [this] at hf;exact absurd rfl hf
    · rw [if_neg hp]
      simp only [true_iff]
      intro i h1 h2;omega
def laysDecode_ren:Go.Shelf.Ren:=⟨fun|197=>235|260=>237|n=>n,fun|0=>0|3=>3|4=>4|5=>5|9=>9|21=>21|46=>182|105=>252|119=>255|138=>257|139=>258|n=>n,fun|3=>1|4=>2|n=>n⟩
theorem laysDecode:Lays.n197 Tryz.prog laysDecode_ren where
  mixed:=by kernel_rfl
  f197:=Tryz.func235.trans (congrArg some (by kernel_rfl))
  f260:=Tryz.func237.trans (congrArg some (by kernel_rfl))
  t0:=Tryz.underlying0
  a0:=Tryz.isAgg0
  z0:=Tryz.sizeOf0
  v0:=Tryz.zeroValue0
  t3:=Tryz.underlying3
  a3:=Tryz.isAgg3
  z3:=Tryz.sizeOf3
  v3:=Tryz.zeroValue3
  t4:=Tryz.underlying4
  a4:=Tryz.isAgg4
  z4:=Tryz.sizeOf4
  v4:=Tryz.zeroValue4
  t5:=Tryz.underlying5
  a5:=Tryz.isAgg5
  z5:=Tryz.sizeOf5
  v5:=Tryz.zeroValue5
  t9:=Tryz.underlying9
  a9:=Tryz.isAgg9
  z9:=Tryz.sizeOf9
  v9:=Tryz.zeroValue9
  t21:=Tryz.underlying21
  a21:=Tryz.isAgg21
  z21:=Tryz.sizeOf21
  v21:=Tryz.zeroValue21
  t46:=Tryz.underlying182
  a46:=Tryz.isAgg182
  z46:=Tryz.sizeOf182
  v46:=Tryz.zeroValue182
  t105:=Tryz.underlying252
  a105:=Tryz.isAgg252
  z105:=Tryz.sizeOf252
  v105:=Tryz.zeroValue252
  t119:=Tryz.underlying255
  a119:=Tryz.isAgg255
  z119:=Tryz.sizeOf255
  t138:=Tryz.underlying257
  a138:=Tryz.isAgg257
  z138:=Tryz.sizeOf257
  v138:=Tryz.zeroValue257
  t139:=Tryz.underlying258
  a139:=Tryz.isAgg258
  z139:=Tryz.sizeOf258
  v139:=Tryz.zeroValue258
  g3:=by kernel_rfl
  g4:=by kernel_rfl
def TabsG (G:GH):Prop := ∀ w:World,(∀ b o,G b = some o → w.heap[b]? = some o) → Lib.Utf8Tabs (laysDecode_ren.g 3) (laysDecode_ren.g 4) w
theorem TabsG.le {G G':GH} (h:TabsG G) (hle:GH.le G G'):TabsG G':=fun w hw=>h w fun b o hb=>hw b o (hle b o hb)
attribute [local semireducible] Con in
theorem Con.ofCalls {P:Program} {f:FuncId} {args:Array Value} {G:GH} {μ:OH} {Φ:Value → GH → OH → Prop} (h:∀ w,Mem G μ w → Calls P f args w fun e w'=>∃ v,e = .returned v ∧ ∃ G' μ',Step G μ w G' μ' w' ∧ Φ v G' μ'):Con P f args G μ Φ:=by
  intro w hw
  exact (h w hw).mono fun e w' hq=>by
    obtain ⟨v,rfl,hv⟩:=hq
    exact ⟨v,rfl,hv⟩
theorem Step.ofBelow {G:GH} {w w':World} (hw:Mem G [] w) (hb:Below w.heap.size w w'):Step G [] w G [] w' :=
  ⟨⟨fun b o h=>by rw [hb.block b (lt_of_heap (hw.g b o h))];exact hw.g b o h,fun _ _ h=>(by cases h),List.nodup_nil,fun _ _ h=>(by cases h)⟩,GH.le_refl _,hb.os,hb.tape,hb.output,hb.size,fun b h _=>hb.block b h,fun _ _ h=>(by cases h),fun b o h=>.inl ⟨o,h⟩⟩
theorem decode_s {G:GH} (hT:TabsG G) (s:ByteArray):Con Tryz.prog 235 #[.string s] G [] (Just (.tuple [.int .i32 ((Lib.decodeGo s).1:Int),.int .i64 ((Lib.decodeGo s).2:Int)].toArray) G):=by
  refine Con.ofCalls fun w hw=>?_
  refine (Any.utf8_DecodeRuneInString laysDecode s w (hT w hw.g)).mono ?_
  rintro e w' ⟨rfl,hb⟩
  exact ⟨_,rfl,G,[],Step.ofBelow hw hb,rfl,rfl,rfl⟩
end Go.Proofs.YtpemabgfmnhhnaaGreatDoor
/-
  Texts (layer 5), the fourth part: the program's walks.
-/
set_option linter.unusedSimpArgs false
set_option linter.unusedVariables false
namespace Go.Proofs.YtpemabgfmnhhnaaGreatDoor
open Go.Vx Go.ChangeShapes Go.WideShapes Go.ChangeAt Go.RowKit
theorem byt_extract {s:ByteArray} {i k:Nat} (h:i + k < s.size):byt (s.extract i s.size) k = byt s (i + k):=by
  have hs:(s.extract i s.size).size = s.size - i:=by simp
  rw [byt_eq (by omega),byt_eq h]
  congr 1
  simp [ByteArray.getElem_extract]
theorem decode_extract {s:ByteArray} {i:Nat} (h:i < s.size):Utf8.decode (s.extract i s.size) 0 = Utf8.decode s i:=by
  have hs:(s.extract i s.size).size = s.size - i:=by simp
  rw [decode_byt,decode_byt,hs]
  have e0:=byt_extract (s:=s) (i:=i) (k:=0) h
  rw [Nat.add_zero] at e0
  simp only [Nat.zero_add,e0]
  by_cases h1:i + 1 < s.size
  · have e1:=byt_extract (s:=s) (i:=i) (k:=1) h1
    rw [e1]
    have c1:(1 < s.size - i) ↔ (i + 1 < s.size):=by omega
    simp only [c1]
    by_cases h2:i + 2 < s.size
    · have e2:=byt_extract (s:=s) (i:=i) (k:=2) h2
      rw [e2]
      have c2:(2 < s.size - i) ↔ (i + 2 < s.size):=by omega
      simp only [c2]
      by_cases h3:i + 3 < s.size
      · have e3:=byt_extract (s:=s) (i:=i) (k:=3) h3
        rw [e3]
        have c3:(3 < s.size - i) ↔ (i + 3 < s.size):=by omega
        simp only [c3]
      · have c3:¬ (3 < s.size - i):=by omega
        simp only [h3,c3,false_and,and_false,if_false]
    · have c2:¬ (2 < s.size - i):=by omega
      simp only [h2,c2,false_and,and_false,if_false]
  · have c1:¬ (1 < s.size - i):=by omega
    simp only [h1,c1,false_and,and_false,if_false]
theorem decodeGo_extract {s:ByteArray} {i:Nat} (h:i < s.size):Lib.decodeGo (s.extract i s.size) = Utf8.decode s i:=by
  have hs:(s.extract i s.size).size = s.size - i:=by simp
  rw [Lib.decodeGo,if_neg (by omega),decode_extract h]
theorem sz_one {s:ByteArray} {p:Nat} (h:(szR s p).1 = 1):(szR s p).2 < 128:=by
  unfold szR at h ⊢
  by_cases c0:byt s p < 128
  · rw [if_pos c0];exact c0
  · rw [if_neg c0] at h
    exfalso
    have key:∀ m low v,0 < m → (szFin s p m low v).1 ≠ 1:=by
      intro m low v hm e
      obtain ⟨_,_,h3,_⟩:=szFin_spec (s:=s) (i:=p) (m:=m) (low:=low) (v:=v) (by omega)
      rw [h3] at e
      simp only at e
      omega
    split at h
    · exact key _ _ _ (by omega) h
    · split at h
      · exact key _ _ _ (by omega) h
      · split at h
        · exact key _ _ _ (by omega) h
        · cases h
theorem bad_s {G:GH} (hT:TabsG G) {s:ByteArray} (hs:s.size ≤ 9223372036854775807):Con Tryz.prog 232 #[.string s] G [] (Just (.int .i64 (badR s s.size 0)) G):=by
  apply Con.just
  (refine v_enter Tryz.func232 rfl Tryz.ntmps232 rfl ?_;intro B _)
  repeat' (first|apply v_seq|apply v_region|apply v_nil|apply v_block|(apply v_pure;(case hop=>first|(apply p_move <;> rfl)|(apply p_assign <;> rfl)|fail);(case hd=>rfl))|(apply v_rangeS;(case hx=>rfl);(case hd=>rfl);intro b)|fail)
  refine v_loopI (ι:=Nat × Nat) [8,0] (fun x us G' μ'=>G' = G ∧ ∃ b,us = [Value.pointer (some ⟨b,0,none⟩),.string s] ∧ μ' = [(b,.stringIter s x.1)] ∧ s.size ≤ x.1 + x.2 ∧ badR s s.size 0 = badR s x.2 x.1) (fun x=>s.size - x.1) rfl (0,s.size) ⟨rfl,_,rfl,rfl,by simp,rfl⟩ ?_
  rintro ⟨p,n⟩ us G' μ' ⟨rfl,b,rfl,rfl,hn,he⟩
  simp only at hn he
  by_cases hp:p < s.size
  · obtain ⟨m,rfl⟩:=fuel hp hn
    have hw:=decode_w s p hp
    have hd:=decode_of_sz s p hp
    have hd2:=decodeGo_extract hp
    have ep:((p:Nat):Int).toNat = p:=Int.toNat_natCast p
    have hcall:=decode_s hT (s.extract p s.size)
    rw [hd2] at hcall
    repeat' (first|apply v_seq|apply v_region|apply v_nil|apply v_skip|apply v_block|apply v_blk|(apply v_exit;(case hp=>rfl))|(apply v_pure;(case hop=>first|(apply p_move <;> rfl)|(apply p_eq <;> rfl)|(apply p_ne <;> rfl)|(apply p_assign <;> rfl)|(apply p_extract0 <;> rfl)|(apply p_extract1 <;> rfl)|(apply p_extract2 <;> rfl)|(apply p_sliceStrL;(case hx=>rfl);(case hl=>rfl);all_goals omega)|fail);(case hd=>rfl))|(apply v_condT;(case hc=>rfl))|(apply v_cond;(case hc=>rfl);all_goals (intro h;(try simp only [reduceCtorEq,zzz] at h)))|(apply v_nextS;(case hx=>rfl);(case hb=>(repeat (exact mhd _)));(case hp=>assumption);(case hu=>exact Upd.here _ _);(case hd=>rfl))|(apply v_callJ (hs:=hcall);(case ha=>rfl);(case hd=>rfl))|fail)
    · by_cases hz:(szR s p).1 = 0
      · rw [if_pos hz] at hd
        simp only [hd] at h
        omega
      · rw [if_neg hz] at hd
        refine v_againI (p + (szR s p).1,m) rfl ⟨rfl,b,rfl,by rw [hd],by simp only;rw [hd] at hw;simp only at hw;omega,?_⟩ (by simp only;rw [hd] at hw;simp only at hw;omega)
        rw [he,badR,if_pos hp,if_neg hz]
    · refine v_ret [] (outsA1 rfl rfl) (by repeat (exact List.nil_sublist _)) ?_
      refine ⟨?_,rfl⟩
      have hz:(szR s p).1 = 0:=by
        apply Classical.byContradiction
        intro hz
        rw [if_neg hz] at hd
        rename_i h1
        rw [hd] at h h1
        simp only at h h1
        have:=sz_one (s:=s) (p:=p) (by omega)
        omega
      rw [he,badR,if_pos hp,if_pos hz]
    · by_cases hz:(szR s p).1 = 0
      · rw [if_pos hz] at hd
        rw [hd] at h
        simp at h
      · rw [if_neg hz] at hd
        refine v_againI (p + (szR s p).1,m) rfl ⟨rfl,b,rfl,by rw [hd],by simp only;rw [hd] at hw;simp only at hw;omega,?_⟩ (by simp only;rw [hd] at hw;simp only at hw;omega)
        rw [he,badR,if_pos hp,if_neg hz]
  · repeat' (first|apply v_seq|apply v_region|apply v_nil|(apply v_exit;(case hp=>rfl))|(apply v_pure;(case hop=>first|(apply p_assign <;> rfl)|(apply p_extract0 <;> rfl)|fail);(case hd=>rfl))|(apply v_condF;(case hc=>rfl))|(apply v_read;(case hop=>(apply r_nextEnd;(case hx=>rfl);(case hb=>(repeat (exact mhd _)));(case hp=>assumption)));(case hd=>rfl))|fail)
    refine v_ret [] (outsA1 rfl rfl) (by repeat (exact List.nil_sublist _)) ?_
    refine ⟨?_,rfl⟩
    rw [he,badR_end hp]
theorem whole_s {G:GH} (hT:TabsG G) {s:ByteArray} (hs:s.size ≤ 9223372036854775807):Con Tryz.prog 217 #[.string s] G [] (Just (.bool (decide (badR s s.size 0 < 0))) G):=by
  (refine v_enter Tryz.func217 rfl Tryz.ntmps217 rfl ?_;intro B _)
  repeat' (first|apply v_seq|apply v_region|apply v_nil|(apply v_pure;(case hop=>first|(apply p_move <;> rfl)|(apply p_lt <;> rfl)|(apply p_assign <;> rfl));(case hd=>rfl))|(apply v_callJ (hs:=bad_s ?o1 ?o2);(case ha=>rfl);(case o1=>exact hT);(case o2=>exact hs);(case hd=>rfl))|fail)
  refine v_ret [] (outsA1 rfl rfl) (by repeat (exact List.Sublist.refl _)) ?_
  exact ⟨by rw [dec_eq],rfl,rfl⟩
theorem plainR_s (G:GH) (r:Int):Con Tryz.prog 219 #[.int .i32 r] G [] (Just (.bool (decide (plainP r))) G):=by
  (refine v_enter Tryz.func219 rfl Tryz.ntmps219 rfl ?_;intro B _)
  repeat' (first|apply v_seq|apply v_region|apply v_nil|apply v_skip|apply v_block|apply v_blk|(apply v_take;(case hg=>rfl))|(apply v_pass;(case hg=>rfl);(case hn=>rfl);(case hd=>rfl))|(apply v_pure;(case hop=>first|(apply p_move <;> rfl)|(apply p_eq <;> rfl)|(apply p_ne <;> rfl)|(apply p_le <;> rfl)|(apply p_ge <;> rfl)|(apply p_assign <;> rfl)|(apply p_pickT <;> rfl)|(apply p_pickF <;> rfl)|fail);(case hd=>rfl))|(apply v_condF;(case hc=>rfl))|(apply v_cond;(case hc=>rfl);all_goals (intro h;(try simp only [reduceCtorEq,zzz] at h);first|(exfalso;omega)|skip))|(apply v_guardB;(case h1=>rfl);(case h2=>rfl);all_goals (intro h;(try simp only [reduceCtorEq,zzz] at h);first|(exfalso;omega)|skip))|fail)
  all_goals
    (refine v_ret [] (outsA1 rfl rfl) (by repeat (exact List.Sublist.refl _)) ?_
     refine ⟨?_,rfl,rfl⟩
     first
       | rw [decide_eq_true (by unfold plainP;omega)]
       | rw [decide_eq_false (by unfold plainP;omega)]
       | (by_cases hr:r = 65533
          · rw [dec_pos hr,decide_eq_false (by unfold plainP;omega)];rfl
          · rw [dec_neg hr,decide_eq_true (by unfold plainP;omega)];rfl))
theorem valR_s (G:GH) (r:Nat):Con Tryz.prog 220 #[.int .i32 (r:Int)] G [] (Just (.bool (decide (32 ≤ r) && decide (r ≠ 127))) G):=by
  (refine v_enter Tryz.func220 rfl Tryz.ntmps220 rfl ?_;intro B _)
  repeat' (first|apply v_seq|apply v_region|apply v_nil|(apply v_take;(case hg=>rfl))|(apply v_pass;(case hg=>rfl);(case hn=>rfl);(case hd=>rfl))|(apply v_pure;(case hop=>first|(apply p_move <;> rfl)|(apply p_ne <;> rfl)|(apply p_ge <;> rfl)|(apply p_assign <;> rfl)|(apply p_pickT <;> rfl)|(apply p_pickF <;> rfl)|fail);(case hd=>rfl))|(apply v_guardB;(case h1=>rfl);(case h2=>rfl);all_goals (intro h;(try simp only [reduceCtorEq,zzz] at h)))|fail)
  all_goals
    (refine v_ret [] (outsA1 rfl rfl) (by repeat (exact List.Sublist.refl _)) ?_
     refine ⟨?_,rfl,rfl⟩
     by_cases h2:r = 127
     · first
         | rw [dec_pos (show (r:Int) = 127 by omega),decide_eq_false (p:=r ≠ 127) (by omega),Bool.and_false];rfl
         | rw [decide_eq_false (p:=r ≠ 127) (by omega),Bool.and_false]
     · first
         | rw [dec_neg (show ¬ (r:Int) = 127 by omega),decide_eq_true (p:=r ≠ 127) (by omega),decide_eq_true (p:=32 ≤ r) (by omega)];rfl
         | rw [decide_eq_false (p:=32 ≤ r) (by omega),Bool.false_and])
theorem all_s {G:GH} {s:ByteArray} (hs:s.size ≤ 9223372036854775807) (fid:FuncId) [Callable Tryz.prog fid] (f:Nat → Bool) (hf:∀ (r:Nat),Con Tryz.prog fid #[.int .i32 (r:Int)] G [] (Just (.bool (f r)) G)) :
    Con Tryz.prog 218 #[.string s,.func (.func fid) #[] #[]] G [] (Just (.bool (allF f s s.size 0)) G):=by
  apply Con.just
  (refine v_enter Tryz.func218 rfl Tryz.ntmps218 rfl ?_;intro B _)
  repeat' (first|apply v_seq|apply v_region|apply v_nil|apply v_block|(apply v_pure;(case hop=>first|(apply p_move <;> rfl)|(apply p_assign <;> rfl)|fail);(case hd=>rfl))|(apply v_rangeS;(case hx=>rfl);(case hd=>rfl);intro b)|fail)
  refine v_loopI (ι:=Nat × Nat) [8,1] (fun x us G' μ'=>G' = G ∧ ∃ b,us = [Value.pointer (some ⟨b,0,none⟩),.func (.func fid) #[] #[]] ∧ μ' = [(b,.stringIter s x.1)] ∧ s.size ≤ x.1 + x.2 ∧ allF f s s.size 0 = allF f s x.2 x.1) (fun x=>s.size - x.1) rfl (0,s.size) ⟨rfl,_,rfl,rfl,by simp,rfl⟩ ?_
  rintro ⟨p,n⟩ us G' μ' ⟨rfl,b,rfl,rfl,hn,he⟩
  simp only at hn he
  by_cases hp:p < s.size
  · obtain ⟨m,rfl⟩:=fuel hp hn
    have hw:=decode_w s p hp
    repeat' (first|apply v_seq|apply v_region|apply v_nil|apply v_skip|apply v_block|apply v_blk|(apply v_pure;(case hop=>first|(apply p_move <;> rfl)|(apply p_assign <;> rfl)|(apply p_not <;> rfl)|(apply p_extract0 <;> rfl)|(apply p_extract2 <;> rfl)|fail);(case hd=>rfl))|(apply v_condT;(case hc=>rfl))|(apply v_cond;(case hc=>rfl);all_goals (intro h;(try simp only [reduceCtorEq,zzz] at h)))|(apply v_nextS;(case hx=>rfl);(case hb=>(repeat (exact mhd _)));(case hp=>assumption);(case hu=>exact Upd.here _ _);(case hd=>rfl))|(apply v_callFJ0 (hs:=hf (Utf8.decode s p).1);(case hx=>rfl);(case ha=>rfl);(case hd=>rfl))|fail)
    · refine v_ret [] (outsA1 rfl rfl) (by repeat (exact List.nil_sublist _)) ?_
      refine ⟨?_,rfl⟩
      rw [he,allF,if_pos hp,if_neg (by rw [h];simp)]
    · refine v_againI (p + (Utf8.decode s p).2,m) rfl ⟨rfl,b,rfl,rfl,by simp only;omega,?_⟩ (by simp only;omega)
      rw [he,allF,if_pos hp,if_pos (by assumption)]
  · repeat' (first|apply v_seq|apply v_region|apply v_nil|(apply v_exit;(case hp=>rfl))|(apply v_pure;(case hop=>first|(apply p_assign <;> rfl)|(apply p_extract0 <;> rfl)|fail);(case hd=>rfl))|(apply v_condF;(case hc=>rfl))|(apply v_read;(case hop=>(apply r_nextEnd;(case hx=>rfl);(case hb=>(repeat (exact mhd _)));(case hp=>assumption)));(case hd=>rfl))|fail)
    refine v_ret [] (outsA1 rfl rfl) (by repeat (exact List.nil_sublist _)) ?_
    refine ⟨?_,rfl⟩
    rw [he,allF_end hp]
theorem key_s {G:GH} (hT:TabsG G) {s:ByteArray} (hs:s.size ≤ 9223372036854775807):Con Tryz.prog 188 #[.string s] G [] (Just (.bool (keyB s)) G):=by
  have hall:=all_s (G:=G) hs 219 (fun r=>decide (plainP (r:Int))) (fun r=>plainR_s G r)
  have hk:=allF_plain s s.size 0 (by omega)
  (refine v_enter Tryz.func188 rfl Tryz.ntmps188 rfl ?_;intro B _)
  repeat' (first|apply v_seq|apply v_region|apply v_nil|(apply v_take;(case hg=>rfl))|(apply v_pass;(case hg=>rfl);(case hn=>rfl);(case hd=>rfl))|(apply v_pure;(case hop=>first|(apply p_move <;> rfl)|(apply p_le <;> rfl)|(apply p_assign <;> rfl)|(apply p_pickT <;> rfl)|(apply p_pickF <;> rfl)|(apply p_lenString <;> rfl)|(apply p_neS <;> rfl)|fail);(case hd=>rfl))|(apply v_guardB;(case h1=>rfl);(case h2=>rfl);all_goals (intro h;(try simp only [reduceCtorEq,zzz] at h)))|(apply v_callJ (hs:=whole_s hT hs);(case ha=>rfl);(case hd=>rfl))|(apply v_callJ (hs:=hall);(case ha=>rfl);(case hd=>rfl))|fail)
  · refine v_ret [] (outsA1 rfl rfl) (by repeat (exact List.Sublist.refl _)) ?_
    refine ⟨?_,rfl,rfl⟩
    have h0:1 ≤ s.size:=by
      apply Classical.byContradiction
      intro h0
      have:s = ByteArray.empty:=by
        apply ByteArray.ext
        apply Array.eq_empty_of_size_eq_zero
        show s.size = 0
        omega
      exact absurd this (by assumption)
    rw [keyB,← hk,decide_eq_true h0,decide_eq_true (by omega),decide_eq_true (by assumption)];rfl
  · refine v_ret [] (outsA1 rfl rfl) (by repeat (exact List.Sublist.refl _)) ?_
    refine ⟨?_,rfl,rfl⟩
    rw [keyB,← hk,decide_eq_false (p:=badR s s.size 0 < 0) (by assumption),Bool.false_and,Bool.and_false]
  · refine v_ret [] (outsA1 rfl rfl) (by repeat (exact List.Sublist.refl _)) ?_
    refine ⟨?_,rfl,rfl⟩
    rw [keyB,decide_eq_false (p:=s.size ≤ 24) (by omega),Bool.and_false,Bool.false_and]
  · refine v_ret [] (outsA1 rfl rfl) (by repeat (exact List.Sublist.refl _)) ?_
    refine ⟨?_,rfl,rfl⟩
    have h0:s.size = 0:=by rw [h];rfl
    rw [keyB,decide_eq_false (p:=1 ≤ s.size) (by omega),Bool.false_and,Bool.false_and]
theorem val_s {G:GH} (hT:TabsG G) {s:ByteArray} (hs:s.size ≤ 9223372036854775807):Con Tryz.prog 190 #[.string s] G [] (Just (.bool (valB s)) G):=by
  have hall:=all_s (G:=G) hs 220 (fun r=>decide (32 ≤ r) && decide (r ≠ 127)) (fun r=>valR_s G r)
  have hv:=allF_val s s.size 0 (by omega)
  (refine v_enter Tryz.func190 rfl Tryz.ntmps190 rfl ?_;intro B _)
  repeat' (first|apply v_seq|apply v_region|apply v_nil|(apply v_take;(case hg=>rfl))|(apply v_pass;(case hg=>rfl);(case hn=>rfl);(case hd=>rfl))|(apply v_pure;(case hop=>first|(apply p_move <;> rfl)|(apply p_le <;> rfl)|(apply p_assign <;> rfl)|(apply p_pickT <;> rfl)|(apply p_pickF <;> rfl)|(apply p_lenString <;> rfl)|fail);(case hd=>rfl))|(apply v_guardB;(case h1=>rfl);(case h2=>rfl);all_goals (intro h;(try simp only [reduceCtorEq,zzz] at h)))|(apply v_callJ (hs:=whole_s hT hs);(case ha=>rfl);(case hd=>rfl))|(apply v_callJ (hs:=hall);(case ha=>rfl);(case hd=>rfl))|fail)
  · refine v_ret [] (outsA1 rfl rfl) (by repeat (exact List.Sublist.refl _)) ?_
    refine ⟨?_,rfl,rfl⟩
    have hv':=hv (by assumption)
    have e:allF (fun r=>decide (32 ≤ r) && decide (r ≠ 127)) s s.size 0 = decide (okBytes s):=by
      rw [Bool.eq_iff_iff,hv',decide_eq_true_iff]
      exact ⟨fun h i hi=>h i (by omega) hi,fun h i _ hi=>h i hi⟩
    rw [valB,e,decide_eq_true (p:=s.size ≤ 48) (by omega),decide_eq_true (p:=badR s s.size 0 < 0) (by assumption)];rfl
  · refine v_ret [] (outsA1 rfl rfl) (by repeat (exact List.Sublist.refl _)) ?_
    refine ⟨?_,rfl,rfl⟩
    rw [valB,decide_eq_false (p:=badR s s.size 0 < 0) (by assumption),Bool.and_false,Bool.false_and]
  · refine v_ret [] (outsA1 rfl rfl) (by repeat (exact List.Sublist.refl _)) ?_
    refine ⟨?_,rfl,rfl⟩
    rw [valB,decide_eq_false (p:=s.size ≤ 48) (by omega),Bool.false_and,Bool.false_and]
structure Cm where
  kind:Int
  client:Int
  seq:Int
  key:ByteArray
  val:ByteArray
  old:ByteArray
  node:Int
def Cm.cells (c:Cm):List Value:=[.int .i64 c.kind,.int .i64 c.client,.int .i64 c.seq,.string c.key,.string c.val,.string c.old,.int .i64 c.node]
def Cm.ok (c:Cm):Prop:=(Lit.int .i64 c.kind).wf = true ∧ (Lit.int .i64 c.client).wf = true ∧ (Lit.int .i64 c.seq).wf = true ∧ c.key.size ≤ maxLen ∧ c.val.size ≤ maxLen ∧ c.old.size ≤ maxLen ∧ (Lit.int .i64 c.node).wf = true
def cmdFields (kind:Int):Int × Bool :=
  if kind = 1 ∨ kind = 6 then (0,true) else if kind = 2 then (11,true) else if kind = 3 ∨ kind = 4 then (3,true) else if kind = 5 then (15,true) else if kind = 7 ∨ kind = 8 then (16,true) else (0,false)
theorem fields_s (G:GH) (kind:Int):Con Tryz.prog 162 #[.int .i64 kind] G [] (Just (.tuple [.int .i64 (cmdFields kind).1,.bool (cmdFields kind).2].toArray) G):=by
  (refine v_enter Tryz.func162 rfl Tryz.ntmps162 rfl ?_;intro B _)
  repeat' (first|apply v_seq|apply v_region|apply v_nil|apply v_skip|apply v_block|apply v_blk|(apply v_pure;(case hop=>first|(apply p_move <;> rfl)|(apply p_eq <;> rfl)|(apply p_assign <;> rfl)|fail);(case hd=>rfl))|(apply v_cond;(case hc=>rfl);all_goals (intro h;(try simp only [reduceCtorEq,zzz] at h);first|(exfalso;omega)|skip))|fail)
  all_goals
    (refine v_ret [] (outsA2 rfl rfl rfl) (by repeat (exact List.Sublist.refl _)) ?_
     refine ⟨?_,rfl,rfl⟩
     unfold cmdFields
     (repeat' split) <;> first|rfl|(exfalso;omega))
def partFn (f:FuncId):Value:=.func (.func f) #[] #[]
def partL:Nat → List Value
  | 0 => [.int .i64 1,.int .i64 8,.nilFunc,partFn 186]
  | 1 => [.int .i64 1,.int .i64 4294967296,.nilFunc,partFn 187]
  | 2 => [.int .i64 2,.int .i64 0,partFn 188,partFn 189]
  | 3 => [.int .i64 4,.int .i64 0,partFn 190,partFn 191]
  | 4 => [.int .i64 8,.int .i64 0,partFn 190,partFn 192]
  | _ => [.int .i64 16,.int .i64 9,.nilFunc,partFn 193]
def partsL:List Value:=partL 0 ++ (partL 1 ++ (partL 2 ++ (partL 3 ++ (partL 4 ++ partL 5))))
theorem parts_s (G:GH):Con Tryz.prog 163 #[] G [] (fun r G' μ'=>G' = G ∧ ∃ b,r = .slice (some ⟨b,0,none⟩) 6 6 ∧ μ' = [(b,.cells partsL.toArray 197 (0,0))]):=by
  (refine v_enter Tryz.func163 rfl Tryz.ntmps163 rfl ?_;intro B _)
  repeat' (first|apply v_seq|apply v_region|apply v_nil|(apply v_pure;(case hop=>first|(apply p_assign <;> rfl)|(apply p_build;(case hz=>rfl);(case hv=>(simp only [List.map_cons,List.map_nil];repeat (first|with_reducible exact evs_nil|(apply evs_cons;(case h1=>rfl)))));(case hb=>(apply bldL;repeat (first|exact bld_nil|(apply bld_cons;(case hpf=>rfl);(case hc=>rfl);(case hs=>rfl);(case hl=>rfl);(case ho=>((repeat (first|with_reducible exact ov_nil|apply ov_cons));done))))))));(case hd=>rfl))|(apply v_buildSlice;(case hz=>rfl);(case hi=>rfl);(case hv=>(simp only [List.map_cons,List.map_nil];repeat (first|with_reducible exact evs_nil|(apply evs_cons;(case h1=>rfl)))));(case hp=>(apply pk_cons;(case hc=>rfl);(case hs=>rfl);(case h=>(apply pk_cons;(case hc=>rfl);(case hs=>rfl);(case h=>(apply pk_cons;(case hc=>rfl);(case hs=>rfl);(case h=>(apply pk_cons;(case hc=>rfl);(case hs=>rfl);(case h=>(apply pk_cons;(case hc=>rfl);(case hs=>rfl);(case h=>(apply pk_cons;(case hc=>rfl);(case hs=>rfl);(case h=>(with_reducible exact pk_nil));(case he=>((repeat (first|with_reducible exact ap_nil|apply ap_cons));done))));(case he=>((repeat (first|with_reducible exact ap_nil|apply ap_cons));done))));(case he=>((repeat (first|with_reducible exact ap_nil|apply ap_cons));done))));(case he=>((repeat (first|with_reducible exact ap_nil|apply ap_cons));done))));(case he=>(first|((repeat (first|with_reducible exact ap_nil|apply ap_cons));done)|fail))));(case he=>(first|((repeat (first|with_reducible exact ap_nil|apply ap_cons));done)|fail))));(case hb=>rfl);(case hd=>rfl);intro b)|fail)
  refine v_ret [(b,_)] (outsA1 rfl rfl) (by repeat (exact List.Sublist.refl _)) ?_
  exact ⟨rfl,_,rfl,rfl⟩
theorem at1_s (G:GH) (b:Nat):Con Tryz.prog 186 #[.pointer (some ⟨b,0,none⟩)] G [] (Just (.iface 218 (.pointer (some ⟨b,0 + 1,none⟩))) G):=by
  (refine v_enter Tryz.func186 rfl Tryz.ntmps186 rfl ?_;intro B _)
  repeat' (first|apply v_seq|apply v_region|apply v_nil|(apply v_pure;(case hop=>first|(apply p_move <;> rfl)|(apply p_assign <;> rfl)|(apply p_fieldAddrB <;> rfl)|(apply p_nilCheck <;> rfl)|(apply p_iface <;> rfl));(case hd=>rfl))|fail)
  refine v_ret [] (outsA1 rfl rfl) (by repeat (exact List.Sublist.refl _)) ?_
  exact ⟨rfl,rfl,rfl⟩
theorem at2_s (G:GH) (b:Nat):Con Tryz.prog 187 #[.pointer (some ⟨b,0,none⟩)] G [] (Just (.iface 218 (.pointer (some ⟨b,0 + 2,none⟩))) G):=by
  (refine v_enter Tryz.func187 rfl Tryz.ntmps187 rfl ?_;intro B _)
  repeat' (first|apply v_seq|apply v_region|apply v_nil|(apply v_pure;(case hop=>first|(apply p_move <;> rfl)|(apply p_assign <;> rfl)|(apply p_fieldAddrB <;> rfl)|(apply p_nilCheck <;> rfl)|(apply p_iface <;> rfl));(case hd=>rfl))|fail)
  refine v_ret [] (outsA1 rfl rfl) (by repeat (exact List.Sublist.refl _)) ?_
  exact ⟨rfl,rfl,rfl⟩
theorem at3_s (G:GH) (b:Nat):Con Tryz.prog 189 #[.pointer (some ⟨b,0,none⟩)] G [] (Just (.iface 219 (.pointer (some ⟨b,0 + 3,none⟩))) G):=by
  (refine v_enter Tryz.func189 rfl Tryz.ntmps189 rfl ?_;intro B _)
  repeat' (first|apply v_seq|apply v_region|apply v_nil|(apply v_pure;(case hop=>first|(apply p_move <;> rfl)|(apply p_assign <;> rfl)|(apply p_fieldAddrB <;> rfl)|(apply p_nilCheck <;> rfl)|(apply p_iface <;> rfl));(case hd=>rfl))|fail)
  refine v_ret [] (outsA1 rfl rfl) (by repeat (exact List.Sublist.refl _)) ?_
  exact ⟨rfl,rfl,rfl⟩
theorem at4_s (G:GH) (b:Nat):Con Tryz.prog 191 #[.pointer (some ⟨b,0,none⟩)] G [] (Just (.iface 219 (.pointer (some ⟨b,0 + 5,none⟩))) G):=by
  (refine v_enter Tryz.func191 rfl Tryz.ntmps191 rfl ?_;intro B _)
  repeat' (first|apply v_seq|apply v_region|apply v_nil|(apply v_pure;(case hop=>first|(apply p_move <;> rfl)|(apply p_assign <;> rfl)|(apply p_fieldAddrB <;> rfl)|(apply p_nilCheck <;> rfl)|(apply p_iface <;> rfl));(case hd=>rfl))|fail)
  refine v_ret [] (outsA1 rfl rfl) (by repeat (exact List.Sublist.refl _)) ?_
  exact ⟨rfl,rfl,rfl⟩
theorem at5_s (G:GH) (b:Nat):Con Tryz.prog 192 #[.pointer (some ⟨b,0,none⟩)] G [] (Just (.iface 219 (.pointer (some ⟨b,0 + 4,none⟩))) G):=by
  (refine v_enter Tryz.func192 rfl Tryz.ntmps192 rfl ?_;intro B _)
  repeat' (first|apply v_seq|apply v_region|apply v_nil|(apply v_pure;(case hop=>first|(apply p_move <;> rfl)|(apply p_assign <;> rfl)|(apply p_fieldAddrB <;> rfl)|(apply p_nilCheck <;> rfl)|(apply p_iface <;> rfl));(case hd=>rfl))|fail)
  refine v_ret [] (outsA1 rfl rfl) (by repeat (exact List.Sublist.refl _)) ?_
  exact ⟨rfl,rfl,rfl⟩
theorem at6_s (G:GH) (b:Nat):Con Tryz.prog 193 #[.pointer (some ⟨b,0,none⟩)] G [] (Just (.iface 218 (.pointer (some ⟨b,0 + 6,none⟩))) G):=by
  (refine v_enter Tryz.func193 rfl Tryz.ntmps193 rfl ?_;intro B _)
  repeat' (first|apply v_seq|apply v_region|apply v_nil|(apply v_pure;(case hop=>first|(apply p_move <;> rfl)|(apply p_assign <;> rfl)|(apply p_fieldAddrB <;> rfl)|(apply p_nilCheck <;> rfl)|(apply p_iface <;> rfl));(case hd=>rfl))|fail)
  refine v_ret [] (outsA1 rfl rfl) (by repeat (exact List.Sublist.refl _)) ?_
  exact ⟨rfl,rfl,rfl⟩
def hasOf:Nat → Int
  | 0=>1
  | 1=>1
  | 2=>2
  | 3=>4
  | 4=>8
  | _=>16
def mostOf:Nat → Int
  | 0=>8
  | 1=>4294967296
  | _=>9
def Cm.num (c:Cm):Nat → Int
  | 0=>c.client
  | 1=>c.seq
  | _=>c.node
def Cm.txt (c:Cm):Nat → ByteArray
  | 2=>c.key
  | 3=>c.old
  | _=>c.val
noncomputable def isTxt:Nat → ByteArray → Bool
  | 2=>keyB
  | _=>valB
def isNum (j:Nat):Bool:=j == 0 || j == 1 || j == 5
def numR (c:Cm) (f:Int) (j:Nat):Bool:=if isNum j then (if band f (hasOf j) = 0 then true else decide (1 ≤ c.num j ∧ c.num j ≤ mostOf j)) else true
def numF (c:Cm) (f:Int) (j:Nat):Bool:=if isNum j then (if band f (hasOf j) = 0 then decide (c.num j = 0) else true) else true
noncomputable def txtT (c:Cm) (f:Int) (j:Nat):Bool:=if isNum j then true else (if band f (hasOf j) = 0 then true else isTxt j (c.txt j))
def txtF (c:Cm) (f:Int) (j:Nat):Bool:=if isNum j then true else (if band f (hasOf j) = 0 then decide ((c.txt j).size = 0) else true)
theorem dec_nil {s:ByteArray}:dec (s = { data:=#[] }) = decide (s.size = 0):=by
  rw [dec_eq]
  rw [decide_eq_decide]
  constructor
  · intro h;rw [h];rfl
  · intro h
    apply ByteArray.ext
    exact Array.eq_empty_of_size_eq_zero h
theorem number_s (G:GH) (c:Cm) (f:Int) (cb j:Nat) (hj:j < 6):Con Tryz.prog 164 #[.agg (partL j).toArray,.pointer (some ⟨cb,0,none⟩),.int .i64 f] G [(cb,.cells c.cells.toArray 40 (0,0))]
    (Keeps (.tuple [.bool (numR c f j),.bool (numF c f j)].toArray) G [(cb,.cells c.cells.toArray 40 (0,0))]):=by
  apply Con.keeps
  unfold Cm.cells
  (refine v_enter Tryz.func164 rfl Tryz.ntmps164 rfl ?_;intro B _)
  obtain rfl|rfl|rfl|rfl|rfl|rfl:j = 0 ∨ j = 1 ∨ j = 2 ∨ j = 3 ∨ j = 4 ∨ j = 5:=by omega
  all_goals
    repeat' (first|apply v_seq|apply v_region|apply v_nil|apply v_skip|(apply v_pure;(case hop=>first|(apply p_move <;> rfl)|(apply p_eq <;> rfl)|(apply p_assign <;> rfl)|(apply p_not <;> rfl)|(apply p_fieldAddrB <;> rfl)|(apply p_extract0 <;> rfl)|(apply p_extract1 <;> rfl)|(apply p_assertOk <;> rfl)|(apply p_assertNo <;> rfl)|(apply p_and64 <;> rfl)|fail);(case hd=>rfl))|(apply v_condT;(case hc=>rfl))|(apply v_condF;(case hc=>rfl))|(apply v_cond;(case hc=>rfl);all_goals (intro h;(try simp only [reduceCtorEq,zzz] at h)))|(apply v_callFJ0 (hs:=at1_s _ cb);(case hx=>rfl);(case ha=>rfl);(case hd=>rfl))|(apply v_callFJ0 (hs:=at2_s _ cb);(case hx=>rfl);(case ha=>rfl);(case hd=>rfl))|(apply v_callFJ0 (hs:=at3_s _ cb);(case hx=>rfl);(case ha=>rfl);(case hd=>rfl))|(apply v_callFJ0 (hs:=at4_s _ cb);(case hx=>rfl);(case ha=>rfl);(case hd=>rfl))|(apply v_callFJ0 (hs:=at5_s _ cb);(case hx=>rfl);(case ha=>rfl);(case hd=>rfl))|(apply v_callFJ0 (hs:=at6_s _ cb);(case hx=>rfl);(case ha=>rfl);(case hd=>rfl))|(apply v_read;(case hop=>(apply r_load1;rfl;(apply Cell.own;(case h=>(repeat (exact mhd _)));rfl)));(case hd=>rfl))|(apply v_box;(case hx=>rfl);(case hz=>rfl);(case hd=>rfl);intro b)|fail)
  all_goals try
    (refine v_ret [(cb,_)] (outsA2 rfl rfl rfl) (by repeat (first|exact List.Sublist.refl _|apply List.Sublist.cons)) ?_
     exact ⟨rfl,rfl⟩)
  all_goals try
    (refine d_start _ (by kernel_rfl) (by kernel_rfl) (by kernel_rfl) (fun _ he=>he) ?_
     all_goals (apply dtk 0;(case hi=>rfl);(case hop=>(apply prd;apply p_move <;> rfl));(case hq=>kernel_rfl))
     all_goals (apply dtk 1;(case hi=>rfl);(case hop=>(apply prd;apply p_nilCheck <;> rfl));(case hq=>kernel_rfl))
     all_goals (apply dtk 2;(case hi=>rfl);(case hop=>first|(apply r_loadNo;(case hx=>rfl);(case h=>(repeat (fail)));(case hd=>(repeat (fail)));(case hn=>rfl))|(apply r_load1;rfl;(apply Cell.own;(case h=>(repeat (first|exact mhd _|apply mtl)));rfl))|(apply r_loadN;rfl;(apply CellsAt.own;(case h=>(repeat (fail))));rfl));(case hq=>kernel_rfl))
     all_goals (apply dtk 3;(case hi=>rfl);(case hop=>(apply prd;apply p_eq <;> rfl));(case hq=>kernel_rfl))
     all_goals (apply dtk 4;(case hi=>rfl);(case hop=>(apply prd;apply p_assign <;> rfl));(case hq=>kernel_rfl))
     all_goals (apply dtk 5;(case hi=>rfl);(case hop=>(apply prd;apply p_assign <;> rfl));(case hq=>kernel_rfl))
     all_goals (apply d_done;(case hr=>kernel_rfl))
     refine v_ret [(cb,_)] (outsA2 rfl rfl rfl) (by repeat (first|exact List.Sublist.refl _|apply List.Sublist.cons)) ?_
     refine ⟨?_,rfl⟩
     simp [numR,numF,isNum,hasOf,Cm.num,dec_eq, *])
  all_goals
    (refine d_start _ (by kernel_rfl) (by kernel_rfl) (by kernel_rfl) (fun _ he=>he) ?_
     all_goals (apply dtk 0;(case hi=>rfl);(case hop=>(apply prd;apply p_move <;> rfl));(case hq=>kernel_rfl))
     all_goals (apply dtk 1;(case hi=>rfl);(case hop=>(apply prd;apply p_nilCheck <;> rfl));(case hq=>kernel_rfl))
     all_goals (apply dtk 2;(case hi=>rfl);(case hop=>first|(apply r_loadNo;(case hx=>rfl);(case h=>(repeat (fail)));(case hd=>(repeat (fail)));(case hn=>rfl))|(apply r_load1;rfl;(apply Cell.own;(case h=>(repeat (first|exact mhd _|apply mtl)));rfl))|(apply r_loadN;rfl;(apply CellsAt.own;(case h=>(repeat (fail))));rfl));(case hq=>kernel_rfl))
     all_goals (apply dtk 3;(case hi=>rfl);(case hop=>(apply prd;apply p_ge <;> rfl));(case hq=>kernel_rfl))
     all_goals (apply dtk 4;(case hi=>rfl);(case hop=>(apply prd;apply p_move <;> rfl));(case hq=>kernel_rfl))
     all_goals (try (apply d_guardB 5;(case hi=>rfl);(case hgd=>rfl);(case h1=>rfl);(case h2=>rfl);all_goals (intro h;(try simp only [reduceCtorEq,zzz] at h))))
     all_goals (first|(apply dpa 5;(case hi=>rfl);(case hg=>rfl);(case hn=>rfl);(case hq=>kernel_rfl))|(apply dtg 5;(case hi=>rfl);(case hg=>rfl);(case hop=>(apply prd;apply p_move <;> rfl));(case hq=>kernel_rfl))|fail)
     all_goals (try (apply d_guardB 6;(case hi=>rfl);(case hgd=>rfl);(case h1=>rfl);(case h2=>rfl);all_goals (intro h;(try simp only [reduceCtorEq,zzz] at h))))
     all_goals (first|(apply dpa 6;(case hi=>rfl);(case hg=>rfl);(case hn=>rfl);(case hq=>kernel_rfl))|(apply dtg 6;(case hi=>rfl);(case hg=>rfl);(case hop=>(apply prd;apply p_nilCheck <;> rfl));(case hq=>kernel_rfl))|fail)
     all_goals (try (apply d_guardB 7;(case hi=>rfl);(case hgd=>rfl);(case h1=>rfl);(case h2=>rfl);all_goals (intro h;(try simp only [reduceCtorEq,zzz] at h))))
     all_goals (first|(apply dpa 7;(case hi=>rfl);(case hg=>rfl);(case hn=>rfl);(case hq=>kernel_rfl))|(apply dtg 7;(case hi=>rfl);(case hg=>rfl);(case hop=>first|(apply r_loadNo;(case hx=>rfl);(case h=>(repeat (fail)));(case hd=>(repeat (fail)));(case hn=>rfl))|(apply r_load1;rfl;(apply Cell.own;(case h=>(repeat (first|exact mhd _|apply mtl)));rfl))|(apply r_loadN;rfl;(apply CellsAt.own;(case h=>(repeat (fail))));rfl));(case hq=>kernel_rfl))|fail)
     all_goals (try (apply d_guardB 8;(case hi=>rfl);(case hgd=>rfl);(case h1=>rfl);(case h2=>rfl);all_goals (intro h;(try simp only [reduceCtorEq,zzz] at h))))
     all_goals (first|(apply dpa 8;(case hi=>rfl);(case hg=>rfl);(case hn=>rfl);(case hq=>kernel_rfl))|(apply dtg 8;(case hi=>rfl);(case hg=>rfl);(case hop=>(apply prd;apply p_fieldAddrB <;> rfl));(case hq=>kernel_rfl))|fail)
     all_goals (try (apply d_guardB 9;(case hi=>rfl);(case hgd=>rfl);(case h1=>rfl);(case h2=>rfl);all_goals (intro h;(try simp only [reduceCtorEq,zzz] at h))))
     all_goals (first|(apply dpa 9;(case hi=>rfl);(case hg=>rfl);(case hn=>rfl);(case hq=>kernel_rfl))|(apply dtg 9;(case hi=>rfl);(case hg=>rfl);(case hop=>first|(apply r_loadNo;(case hx=>rfl);(case h=>(repeat (fail)));(case hd=>(repeat (fail)));(case hn=>rfl))|(apply r_load1;rfl;(apply Cell.own;(case h=>(repeat (exact mhd _)));rfl))|(apply r_loadN;rfl;(apply CellsAt.own;(case h=>(repeat (fail))));rfl));(case hq=>kernel_rfl))|fail)
     all_goals (try (apply d_guardB 10;(case hi=>rfl);(case hgd=>rfl);(case h1=>rfl);(case h2=>rfl);all_goals (intro h;(try simp only [reduceCtorEq,zzz] at h))))
     all_goals (first|(apply dpa 10;(case hi=>rfl);(case hg=>rfl);(case hn=>rfl);(case hq=>kernel_rfl))|(apply dtg 10;(case hi=>rfl);(case hg=>rfl);(case hop=>(apply prd;apply p_le <;> rfl));(case hq=>kernel_rfl))|fail)
     all_goals (apply dtk 11;(case hi=>rfl);(case hop=>first|(apply prd;apply p_pickT <;> rfl)|(apply prd;apply p_pickF <;> rfl)|fail);(case hq=>kernel_rfl))
     all_goals (apply dtk 12;(case hi=>rfl);(case hop=>(apply prd;apply p_assign <;> rfl));(case hq=>kernel_rfl))
     all_goals (apply dtk 13;(case hi=>rfl);(case hop=>(apply prd;apply p_assign <;> rfl));(case hq=>kernel_rfl))
     all_goals (apply d_done;(case hr=>kernel_rfl))
     all_goals
       (refine v_ret [(cb,_)] (outsA2 rfl rfl rfl) (by repeat (first|exact List.Sublist.refl _|apply List.Sublist.cons)) ?_
        refine ⟨?_,rfl⟩
        simp [numR,numF,isNum,hasOf,mostOf,Cm.num,dec_eq, *]))
theorem text_s {G:GH} (hT:TabsG G) (c:Cm) (hk:c.key.size ≤ maxLen) (hv:c.val.size ≤ maxLen) (ho:c.old.size ≤ maxLen) (f:Int) (cb j:Nat) (hj:j < 6):Con Tryz.prog 165 #[.agg (partL j).toArray,.pointer (some ⟨cb,0,none⟩),.int .i64 f] G [(cb,.cells c.cells.toArray 40 (0,0))]
    (Keeps (.tuple [.bool (txtT c f j),.bool (txtF c f j)].toArray) G [(cb,.cells c.cells.toArray 40 (0,0))]):=by
  apply Con.keeps
  unfold Cm.cells
  simp only [maxLen] at hk hv ho
  (refine v_enter Tryz.func165 rfl Tryz.ntmps165 rfl ?_;intro B _)
  obtain rfl|rfl|rfl|rfl|rfl|rfl:j = 0 ∨ j = 1 ∨ j = 2 ∨ j = 3 ∨ j = 4 ∨ j = 5:=by omega
  all_goals
    repeat' (first|apply v_seq|apply v_region|apply v_nil|apply v_skip|(apply v_pure;(case hop=>first|(apply p_move <;> rfl)|(apply p_eq <;> rfl)|(apply p_assign <;> rfl)|(apply p_not <;> rfl)|(apply p_fieldAddrB <;> rfl)|(apply p_extract0 <;> rfl)|(apply p_extract1 <;> rfl)|(apply p_assertOk <;> rfl)|(apply p_assertNo <;> rfl)|(apply p_and64 <;> rfl)|fail);(case hd=>rfl))|(apply v_condT;(case hc=>rfl))|(apply v_condF;(case hc=>rfl))|(apply v_cond;(case hc=>rfl);all_goals (intro h;(try simp only [reduceCtorEq,zzz] at h)))|(apply v_callFJ0 (hs:=at1_s _ cb);(case hx=>rfl);(case ha=>rfl);(case hd=>rfl))|(apply v_callFJ0 (hs:=at2_s _ cb);(case hx=>rfl);(case ha=>rfl);(case hd=>rfl))|(apply v_callFJ0 (hs:=at3_s _ cb);(case hx=>rfl);(case ha=>rfl);(case hd=>rfl))|(apply v_callFJ0 (hs:=at4_s _ cb);(case hx=>rfl);(case ha=>rfl);(case hd=>rfl))|(apply v_callFJ0 (hs:=at5_s _ cb);(case hx=>rfl);(case ha=>rfl);(case hd=>rfl))|(apply v_callFJ0 (hs:=at6_s _ cb);(case hx=>rfl);(case ha=>rfl);(case hd=>rfl))|(apply v_read;(case hop=>(apply r_load1;rfl;(apply Cell.own;(case h=>(repeat (exact mhd _)));rfl)));(case hd=>rfl))|(apply v_box;(case hx=>rfl);(case hz=>rfl);(case hd=>rfl);intro b)|fail)
  all_goals try
    (refine v_ret [(cb,_)] (outsA2 rfl rfl rfl) (by repeat (first|exact List.Sublist.refl _|apply List.Sublist.cons)) ?_
     exact ⟨rfl,rfl⟩)
  all_goals try
    (refine d_start _ (by kernel_rfl) (by kernel_rfl) (by kernel_rfl) (fun _ he=>he) ?_
     all_goals (apply dtk 0;(case hi=>rfl);(case hop=>(apply prd;apply p_move <;> rfl));(case hq=>kernel_rfl))
     all_goals (apply dtk 1;(case hi=>rfl);(case hop=>(apply prd;apply p_nilCheck <;> rfl));(case hq=>kernel_rfl))
     all_goals (apply dtk 2;(case hi=>rfl);(case hop=>first|(apply r_loadNo;(case hx=>rfl);(case h=>(repeat (fail)));(case hd=>(repeat (fail)));(case hn=>rfl))|(apply r_load1;rfl;(apply Cell.own;(case h=>(repeat (first|exact mhd _|apply mtl)));rfl))|(apply r_loadN;rfl;(apply CellsAt.own;(case h=>(repeat (fail))));rfl));(case hq=>kernel_rfl))
     all_goals (apply dtk 3;(case hi=>rfl);(case hop=>(apply prd;apply p_eqS <;> rfl));(case hq=>kernel_rfl))
     all_goals (apply dtk 4;(case hi=>rfl);(case hop=>(apply prd;apply p_assign <;> rfl));(case hq=>kernel_rfl))
     all_goals (apply dtk 5;(case hi=>rfl);(case hop=>(apply prd;apply p_assign <;> rfl));(case hq=>kernel_rfl))
     all_goals (apply d_done;(case hr=>kernel_rfl))
     refine v_ret [(cb,_)] (outsA2 rfl rfl rfl) (by repeat (first|exact List.Sublist.refl _|apply List.Sublist.cons)) ?_
     refine ⟨?_,rfl⟩
     simp [txtT,txtF,isNum,hasOf,Cm.txt,dec_nil, *])
  all_goals
    (refine d_start _ (by kernel_rfl) (by kernel_rfl) (by kernel_rfl) (fun _ he=>he) ?_
     all_goals (apply dtk 0;(case hi=>rfl);(case hop=>(apply prd;apply p_fieldAddrB <;> rfl));(case hq=>kernel_rfl))
     all_goals (apply dtk 1;(case hi=>rfl);(case hop=>first|(apply r_loadNo;(case hx=>rfl);(case h=>(repeat (fail)));(case hd=>(repeat (fail)));(case hn=>rfl))|(apply r_load1;rfl;(apply Cell.own;(case h=>(repeat (exact mhd _)));rfl))|(apply r_loadN;rfl;(apply CellsAt.own;(case h=>(repeat (fail))));rfl));(case hq=>kernel_rfl))
     all_goals (apply dtk 2;(case hi=>rfl);(case hop=>(apply prd;apply p_move <;> rfl));(case hq=>kernel_rfl))
     all_goals (apply dtk 3;(case hi=>rfl);(case hop=>(apply prd;apply p_nilCheck <;> rfl));(case hq=>kernel_rfl))
     all_goals (apply dtk 4;(case hi=>rfl);(case hop=>first|(apply r_loadNo;(case hx=>rfl);(case h=>(repeat (fail)));(case hd=>(repeat (fail)));(case hn=>rfl))|(apply r_load1;rfl;(apply Cell.own;(case h=>(repeat (first|exact mhd _|apply mtl)));rfl))|(apply r_loadN;rfl;(apply CellsAt.own;(case h=>(repeat (fail))));rfl));(case hq=>kernel_rfl))
     all_goals (first|(apply d_callJ0 5 (hs:=(key_s (s:=c.key) hT (by omega)));(case hi=>rfl);(case hr=>kernel_rfl);(case hx=>rfl);(case ha=>rfl);(case hd=>rfl))|(apply d_callJ0 5 (hs:=(val_s (s:=c.old) hT (by omega)));(case hi=>rfl);(case hr=>kernel_rfl);(case hx=>rfl);(case ha=>rfl);(case hd=>rfl))|(apply d_callJ0 5 (hs:=(val_s (s:=c.val) hT (by omega)));(case hi=>rfl);(case hr=>kernel_rfl);(case hx=>rfl);(case ha=>rfl);(case hd=>rfl))|fail)
     all_goals (apply dtk 6;(case hi=>rfl);(case hop=>(apply prd;apply p_assign <;> rfl));(case hq=>kernel_rfl))
     all_goals (apply dtk 7;(case hi=>rfl);(case hop=>(apply prd;apply p_assign <;> rfl));(case hq=>kernel_rfl))
     all_goals (apply d_done;(case hr=>kernel_rfl))
     all_goals
       (refine v_ret [(cb,_)] (outsA2 rfl rfl rfl) (by repeat (first|exact List.Sublist.refl _|apply List.Sublist.cons)) ?_
        refine ⟨?_,rfl⟩
        simp [txtT,txtF,isNum,hasOf,isTxt,Cm.txt,dec_nil, *]))
def allB (g:Nat → Bool):Nat → Bool
  | 0=>true
  | k + 1=>allB g k && g k
def allB2 (g h:Nat → Bool):Nat → Bool
  | 0=>true
  | k + 1=>(allB2 g h k && g k) && h k
noncomputable def cmdI (c:Cm):Int :=
  if (cmdFields c.kind).2 = false then 5
  else if allB (numR c (cmdFields c.kind).1) 6 = false then 6
  else if allB (txtT c (cmdFields c.kind).1) 6 = false then 7
  else if allB2 (numF c (cmdFields c.kind).1) (txtF c (cmdFields c.kind).1) 6 = false then 3 else 0
theorem partsL_at {k:Nat} (hk:k < 6):(partsL.drop (k * 4)).take 4 = partL k:=by
  obtain rfl|rfl|rfl|rfl|rfl|rfl:k = 0 ∨ k = 1 ∨ k = 2 ∨ k = 3 ∨ k = 4 ∨ k = 5:=by omega
  all_goals rfl
theorem partsG {G:GH} {b:Nat} {e:TypeId} (h:G b = some (.cells partsL.toArray e (0,0))) {k:Nat} (hk:k < 6):CellsG G ((⟨b,0,none⟩:Addr).add (k * 4)) (partL k):=by
  intro j v hv
  rw [add_mk,add_mk,Nat.zero_add]
  rw [← partsL_at hk,List.getElem?_take] at hv
  split at hv
  · rw [List.getElem?_drop] at hv
    simp [GH.cell?,h,hv]
  · cases hv
theorem cmdCheck_s {G:GH} (hT:TabsG G) (c:Cm) (hc:c.ok):Con Tryz.prog 123 #[.agg c.cells.toArray] G [] (fun r _ μ'=>r = .int .i64 (cmdI c) ∧ μ' = []):=by
  obtain ⟨hk1,hc1,hs1,hk,hv,ho,hn1⟩:=id hc
  (refine v_enter Tryz.func123 rfl Tryz.ntmps123 rfl ?_;intro B _)
  obtain ⟨f,is,hf⟩:∃ f is,cmdFields c.kind = (f,is):=⟨_,_,rfl⟩
  have hfs:=fields_s G c.kind
  rw [hf] at hfs
  repeat' (first|apply v_seq|apply v_region|apply v_nil|apply v_skip|(apply v_pure;(case hop=>first|(apply p_move <;> rfl)|(apply p_assign <;> rfl)|(apply p_not <;> rfl)|(apply p_fieldAddrB <;> rfl)|(apply p_extract0 <;> rfl)|(apply p_extract1 <;> rfl)|fail);(case hd=>rfl))|(apply v_cond;(case hc=>rfl);all_goals (intro h;(try simp only [reduceCtorEq,zzz] at h)))|(apply v_box (zs:=c.cells);(case hx=>rfl);(case hz=>rfl);(case hd=>rfl);intro cb)|(apply v_callJ (hs:=hfs);(case ha=>rfl);(case hd=>rfl))|(apply v_read;(case hop=>(apply r_load1;rfl;(apply Cell.own;(case h=>(repeat (exact mhd _)));rfl)));(case hd=>rfl))|fail)
  · refine v_ret [] (outsA1 rfl rfl) (by repeat (exact List.nil_sublist _)) ?_
    refine ⟨?_,rfl⟩
    rw [cmdI,hf,if_pos (by assumption)]
  refine v_call (μ1:=[]) (μ2:=_) rfl (parts_s G) (List.Perm.refl _) rfl ?_
  rintro r G' μ1 - ⟨rfl,pb,rfl,rfl⟩
  refine v_frz [(pb,_)] (by repeat (exact PickA.here _)) ?_
  intro G1 hle1 hG1
  have hpb:=hG1 pb _ (List.Mem.head _)
  have hT1:=hT.le hle1
  repeat' (first|apply v_nil|apply v_block|(apply v_pure;(case hop=>first|(apply p_move <;> rfl)|(apply p_lenSlice <;> rfl)|fail);(case hd=>rfl))|fail)
  refine v_loop [24,23,22,5,6,7,1,3] (fun us G' μ'=>G' = G1 ∧ μ' = [(cb,.cells c.cells.toArray 40 (0,0))] ∧ ∃ (k:Nat) (R T F:Bool),us = [Value.int .i64 (k:Int),.int .i64 6,.slice (some ⟨pb,0,none⟩) 6 6,.bool R,.bool T,.bool F,.pointer (some ⟨cb,0,none⟩),.int .i64 f] ∧ k ≤ 6 ∧ R = allB (numR c f) k ∧ T = allB (txtT c f) k ∧ F = allB2 (numF c f) (txtF c f) k) (fun us=>7 - (headI us).toNat) rfl ⟨rfl,rfl,0,true,true,true,rfl,by omega,rfl,rfl,rfl⟩ ?_
  rintro us G' μ' ⟨rfl,rfl,k,R,T,F,rfl,hk6,hR,hTt,hF⟩
  by_cases hlt:k < 6
  · have hnum:=number_s G' c f cb k hlt
    have htxt:=text_s hT1 c hk hv ho f cb k hlt
    have hpk:=partsG hpb hlt
    have e1:allB (numR c f) (k + 1) = (R && numR c f k):=by rw [hR];rfl
    have e2:allB (txtT c f) (k + 1) = (T && txtT c f k):=by rw [hTt];rfl
    have e3:allB2 (numF c f) (txtF c f) (k + 1) = ((F && numF c f k) && txtF c f k):=by rw [hF];rfl
    generalize numR c f k = a1 at *
    generalize numF c f k = a2 at *
    generalize txtT c f k = a3 at *
    generalize txtF c f k = a4 at *
    clear hR hTt hF
    obtain rfl|rfl|rfl|rfl|rfl|rfl:k = 0 ∨ k = 1 ∨ k = 2 ∨ k = 3 ∨ k = 4 ∨ k = 5:=by omega
    all_goals
      (repeat' (first|(apply v_guardM;(case h1=>rfl);(case h2=>rfl);(case hop=>(apply p_move;rfl));(case hd=>rfl))|apply v_seq|apply v_region|apply v_nil|apply v_skip|apply v_block|apply v_blk|(apply v_pure;(case hop=>first|(apply p_move <;> rfl)|(apply p_lt <;> rfl)|(apply p_assign <;> rfl)|(apply p_extract0 <;> rfl)|(apply p_extract1 <;> rfl)|(apply p_add;(case hx=>rfl);(case hy=>rfl);(case h=>omega))|(apply p_indexAddr;(case hx=>rfl);(case hi=>rfl);(case h0=>omega);(case h=>omega))|(apply p_pickAnd <;> rfl)|fail);(case hd=>rfl))|(apply v_cond;(case hc=>rfl);all_goals (intro h;(try simp only [reduceCtorEq,zzz] at h);first|(exfalso;omega)|skip))|(apply v_read;(case hop=>(apply r_loadN;rfl;exact CellsAt.frozen hpk;rfl));(case hd=>rfl))|(apply v_callK (hs:=hnum);(case ha=>rfl);(case hp=>first|exact (Pick.perm (by repeat (first|exact Pick.here _|apply Pick.there)))|fail);(case hd=>rfl))|(apply v_callK (hs:=htxt);(case ha=>rfl);(case hp=>first|exact (Pick.perm (by repeat (first|exact Pick.here _|apply Pick.there)))|fail);(case hd=>rfl))|(apply v_read;(case hop=>(apply r_loadNo;(case hx=>rfl);(case h=>(repeat (exact mhd _)));(case hd=>(repeat (first|with_reducible exact dt_nil|apply dt_here)));(case hn=>rfl)));(case hd=>rfl))|(apply v_alloc;(case hz=>rfl);(case hd=>rfl);intro b)|(apply v_store;(case hp=>rfl);(case hx=>rfl);(case hc=>rfl);(case hsz=>rfl);(case h1=>rfl);(case hb=>(repeat (exact mhd _)));(case hfit=>exact nle rfl);(case hov=>((repeat (first|with_reducible exact ov_nil|apply ov_cons));done));(case hu=>repeat (exact Upd.here _ _)))|fail))
    all_goals
      (refine v_only [(cb,_)] (by repeat (first|exact PickA.last|apply PickA.cons)) ?_
       refine v_again rfl ⟨rfl,rfl,_,_,_,_,?_,?_,e1.symm,e2.symm,e3.symm⟩ ?_
       · rfl
       · omega
       · simp [headI])
  · obtain rfl:k = 6:=by omega
    have his:is = true:=by assumption
    subst his
    repeat' (first|apply v_seq|apply v_region|apply v_nil|apply v_skip|apply v_block|apply v_blk|(apply v_exit;(case hp=>rfl))|(apply v_pure;(case hop=>first|(apply p_move <;> rfl)|(apply p_lt <;> rfl)|(apply p_assign <;> rfl)|(apply p_not <;> rfl)|fail);(case hd=>rfl))|(apply v_cond;(case hc=>rfl);all_goals (intro h;(try simp only [reduceCtorEq,zzz] at h);first|(exfalso;omega)|skip))|fail)
    all_goals
      (refine v_ret [] (outsA1 rfl rfl) (by repeat (exact List.nil_sublist _)) ?_
       refine ⟨?_,rfl⟩
       rw [cmdI,hf,if_neg (by simp)]
       simp only [← hR,← hTt,← hF]
       clear hR hTt hF
       simp [*])
theorem band_0_1:band 0 1 = 0:=by decide
theorem band_0_2:band 0 2 = 0:=by decide
theorem band_0_4:band 0 4 = 0:=by decide
theorem band_0_8:band 0 8 = 0:=by decide
theorem band_0_16:band 0 16 = 0:=by decide
theorem band_3_1:band 3 1 = 1:=by decide
theorem band_3_2:band 3 2 = 2:=by decide
theorem band_3_4:band 3 4 = 0:=by decide
theorem band_3_8:band 3 8 = 0:=by decide
theorem band_3_16:band 3 16 = 0:=by decide
theorem band_11_1:band 11 1 = 1:=by decide
theorem band_11_2:band 11 2 = 2:=by decide
theorem band_11_4:band 11 4 = 0:=by decide
theorem band_11_8:band 11 8 = 8:=by decide
theorem band_11_16:band 11 16 = 0:=by decide
theorem band_15_1:band 15 1 = 1:=by decide
theorem band_15_2:band 15 2 = 2:=by decide
theorem band_15_4:band 15 4 = 4:=by decide
theorem band_15_8:band 15 8 = 8:=by decide
theorem band_15_16:band 15 16 = 0:=by decide
theorem band_16_1:band 16 1 = 0:=by decide
theorem band_16_2:band 16 2 = 0:=by decide
theorem band_16_4:band 16 4 = 0:=by decide
theorem band_16_8:band 16 8 = 0:=by decide
theorem band_16_16:band 16 16 = 16:=by decide
theorem owned_s (G:GH) (k:Int):Con Tryz.prog 129 #[.int .i64 k] G [] (Just (.bool (decide (2 ≤ k ∧ k ≤ 5))) G):=by
  (refine v_enter Tryz.func129 rfl Tryz.ntmps129 rfl ?_;intro B _)
  repeat' (first|apply v_seq|apply v_region|apply v_nil|(apply v_take;(case hg=>rfl))|(apply v_pass;(case hg=>rfl);(case hn=>rfl);(case hd=>rfl))|(apply v_pure;(case hop=>first|(apply p_move <;> rfl)|(apply p_le <;> rfl)|(apply p_ge <;> rfl)|(apply p_assign <;> rfl)|(apply p_pickT <;> rfl)|(apply p_pickF <;> rfl)|fail);(case hd=>rfl))|(apply v_guardB;(case h1=>rfl);(case h2=>rfl);all_goals (intro h;(try simp only [reduceCtorEq,zzz] at h)))|fail)
  all_goals
    (refine v_ret [] (outsA1 rfl rfl) (by repeat (exact List.Sublist.refl _)) ?_
     refine ⟨?_,rfl,rfl⟩
     first
       | (rw [decide_eq_false (by omega)])
       | (by_cases h5:k ≤ 5
          · rw [dec_pos h5,decide_eq_true (by omega)]
          · rw [dec_neg h5,decide_eq_false (by omega)]))
theorem member_s (G:GH) (k:Int):Con Tryz.prog 130 #[.int .i64 k] G [] (Just (.bool (decide (k = 7 ∨ k = 8))) G):=by
  (refine v_enter Tryz.func130 rfl Tryz.ntmps130 rfl ?_;intro B _)
  repeat' (first|apply v_seq|apply v_region|apply v_nil|(apply v_take;(case hg=>rfl))|(apply v_pass;(case hg=>rfl);(case hn=>rfl);(case hd=>rfl))|(apply v_pure;(case hop=>first|(apply p_move <;> rfl)|(apply p_eq <;> rfl)|(apply p_assign <;> rfl)|(apply p_pickT <;> rfl)|(apply p_pickF <;> rfl)|fail);(case hd=>rfl))|(apply v_guardB;(case h1=>rfl);(case h2=>rfl);all_goals (intro h;(try simp only [reduceCtorEq,zzz] at h)))|fail)
  all_goals
    (refine v_ret [] (outsA1 rfl rfl) (by repeat (exact List.Sublist.refl _)) ?_
     refine ⟨?_,rfl,rfl⟩
     first
       | (rw [decide_eq_true (by omega)])
       | (by_cases h5:k = 8
          · rw [dec_pos h5,decide_eq_true (by omega)]
          · rw [dec_neg h5,decide_eq_false (by omega)]))
noncomputable def cmdE (c:Cm):Int :=
  if c.kind < 1 ∨ 8 < c.kind then 5
  else if ((2 ≤ c.kind ∧ c.kind ≤ 5) ∧ ¬ (1 ≤ c.client ∧ c.client ≤ 8 ∧ 1 ≤ c.seq ∧ c.seq ≤ 4294967296)) ∨ ((c.kind = 7 ∨ c.kind = 8) ∧ ¬ (1 ≤ c.node ∧ c.node ≤ 9)) then 6
  else if ((2 ≤ c.kind ∧ c.kind ≤ 5) ∧ keyB c.key = false) ∨ ((c.kind = 2 ∨ c.kind = 5) ∧ valB c.val = false) ∨ (c.kind = 5 ∧ valB c.old = false) then 7
  else if (¬ (2 ≤ c.kind ∧ c.kind ≤ 5) ∧ (c.client ≠ 0 ∨ c.seq ≠ 0 ∨ c.key.size ≠ 0)) ∨ (¬ (c.kind = 2 ∨ c.kind = 5) ∧ c.val.size ≠ 0) ∨ (c.kind ≠ 5 ∧ c.old.size ≠ 0) ∨ (¬ (c.kind = 7 ∨ c.kind = 8) ∧ c.node ≠ 0) then 3 else 0
theorem nil_iff {s:ByteArray}:s = { data:=#[] } ↔ s.size = 0:=by
  constructor
  · intro h;rw [h];rfl
  · intro h
    apply ByteArray.ext
    exact Array.eq_empty_of_size_eq_zero h
theorem ite6 {p:Bool} {a b:Int} {q:Prop} [Decidable q] (h:p = false ↔ q):(if p = false then a else b) = (if q then a else b):=by
  by_cases hq:q
  · rw [if_pos hq,if_pos (h.2 hq)]
  · rw [if_neg hq,if_neg (fun e=>hq (h.1 e))]
theorem cmdI_case {c:Cm} (f:Int) {q1 q2 q3:Prop} [Decidable q1] [Decidable q2] [Decidable q3] (hf:cmdFields c.kind = (f,true)) (h1:allB (numR c f) 6 = false ↔ q1) (h2:allB (txtT c f) 6 = false ↔ q2) (h3:allB2 (numF c f) (txtF c f) 6 = false ↔ q3) :
    (if (cmdFields c.kind).2 = false then (5:Int) else if allB (numR c (cmdFields c.kind).1) 6 = false then 6 else if allB (txtT c (cmdFields c.kind).1) 6 = false then 7 else if allB2 (numF c (cmdFields c.kind).1) (txtF c (cmdFields c.kind).1) 6 = false then 3 else 0) = (if q1 then 6 else if q2 then 7 else if q3 then 3 else 0):=by
  rw [hf,if_neg (by simp),ite6 h1,ite6 h2,ite6 h3]
theorem cmdI_eq (c:Cm):cmdI c = cmdE c:=by
  obtain ⟨kind,client,seq,key,val,old,node⟩:=c
  by_cases hr:kind < 1 ∨ 8 < kind
  · have:cmdFields kind = (0,false):=by unfold cmdFields;rw [if_neg (by omega),if_neg (by omega),if_neg (by omega),if_neg (by omega),if_neg (by omega)]
    simp only [cmdI,cmdE,this,if_true]
    rw [if_pos hr]
  · unfold cmdI cmdE
    simp only
    rw [if_neg hr]
    obtain rfl|rfl|rfl|rfl|rfl|rfl|rfl|rfl:kind = 1 ∨ kind = 2 ∨ kind = 3 ∨ kind = 4 ∨ kind = 5 ∨ kind = 6 ∨ kind = 7 ∨ kind = 8:=by omega
    · refine cmdI_case (c:=⟨1,client,seq,key,val,old,node⟩) 0 rfl ?_ ?_ ?_
      · (simp [allB,allB2,numR,numF,txtT,txtF,isNum,hasOf,mostOf,isTxt,Cm.num,Cm.txt,band_0_1,band_0_2,band_0_4,band_0_8,band_0_16,band_3_1,band_3_2,band_3_4,band_3_8,band_3_16,band_11_1,band_11_2,band_11_4,band_11_8,band_11_16,band_15_1,band_15_2,band_15_4,band_15_8,band_15_16,band_16_1,band_16_2,band_16_4,band_16_8,band_16_16];done)
      · cases hk:keyB key <;> cases hv:valB val <;> cases ho:valB old <;> simp [hk,hv,ho,allB,allB2,numR,numF,txtT,txtF,isNum,hasOf,mostOf,isTxt,Cm.num,Cm.txt,band_0_1,band_0_2,band_0_4,band_0_8,band_0_16,band_3_1,band_3_2,band_3_4,band_3_8,band_3_16,band_11_1,band_11_2,band_11_4,band_11_8,band_11_16,band_15_1,band_15_2,band_15_4,band_15_8,band_15_16,band_16_1,band_16_2,band_16_4,band_16_8,band_16_16]
      · (simp [allB,allB2,numR,numF,txtT,txtF,isNum,hasOf,mostOf,isTxt,Cm.num,Cm.txt,band_0_1,band_0_2,band_0_4,band_0_8,band_0_16,band_3_1,band_3_2,band_3_4,band_3_8,band_3_16,band_11_1,band_11_2,band_11_4,band_11_8,band_11_16,band_15_1,band_15_2,band_15_4,band_15_8,band_15_16,band_16_1,band_16_2,band_16_4,band_16_8,band_16_16];grind)
    · refine cmdI_case (c:=⟨2,client,seq,key,val,old,node⟩) 11 rfl ?_ ?_ ?_
      · (simp [allB,allB2,numR,numF,txtT,txtF,isNum,hasOf,mostOf,isTxt,Cm.num,Cm.txt,band_0_1,band_0_2,band_0_4,band_0_8,band_0_16,band_3_1,band_3_2,band_3_4,band_3_8,band_3_16,band_11_1,band_11_2,band_11_4,band_11_8,band_11_16,band_15_1,band_15_2,band_15_4,band_15_8,band_15_16,band_16_1,band_16_2,band_16_4,band_16_8,band_16_16];done)
      · cases hk:keyB key <;> cases hv:valB val <;> cases ho:valB old <;> simp [hk,hv,ho,allB,allB2,numR,numF,txtT,txtF,isNum,hasOf,mostOf,isTxt,Cm.num,Cm.txt,band_0_1,band_0_2,band_0_4,band_0_8,band_0_16,band_3_1,band_3_2,band_3_4,band_3_8,band_3_16,band_11_1,band_11_2,band_11_4,band_11_8,band_11_16,band_15_1,band_15_2,band_15_4,band_15_8,band_15_16,band_16_1,band_16_2,band_16_4,band_16_8,band_16_16]
      · (simp [allB,allB2,numR,numF,txtT,txtF,isNum,hasOf,mostOf,isTxt,Cm.num,Cm.txt,band_0_1,band_0_2,band_0_4,band_0_8,band_0_16,band_3_1,band_3_2,band_3_4,band_3_8,band_3_16,band_11_1,band_11_2,band_11_4,band_11_8,band_11_16,band_15_1,band_15_2,band_15_4,band_15_8,band_15_16,band_16_1,band_16_2,band_16_4,band_16_8,band_16_16];grind)
    · refine cmdI_case (c:=⟨3,client,seq,key,val,old,node⟩) 3 rfl ?_ ?_ ?_
      · (simp [allB,allB2,numR,numF,txtT,txtF,isNum,hasOf,mostOf,isTxt,Cm.num,Cm.txt,band_0_1,band_0_2,band_0_4,band_0_8,band_0_16,band_3_1,band_3_2,band_3_4,band_3_8,band_3_16,band_11_1,band_11_2,band_11_4,band_11_8,band_11_16,band_15_1,band_15_2,band_15_4,band_15_8,band_15_16,band_16_1,band_16_2,band_16_4,band_16_8,band_16_16];done)
      · cases hk:keyB key <;> cases hv:valB val <;> cases ho:valB old <;> simp [hk,hv,ho,allB,allB2,numR,numF,txtT,txtF,isNum,hasOf,mostOf,isTxt,Cm.num,Cm.txt,band_0_1,band_0_2,band_0_4,band_0_8,band_0_16,band_3_1,band_3_2,band_3_4,band_3_8,band_3_16,band_11_1,band_11_2,band_11_4,band_11_8,band_11_16,band_15_1,band_15_2,band_15_4,band_15_8,band_15_16,band_16_1,band_16_2,band_16_4,band_16_8,band_16_16]
      · (simp [allB,allB2,numR,numF,txtT,txtF,isNum,hasOf,mostOf,isTxt,Cm.num,Cm.txt,band_0_1,band_0_2,band_0_4,band_0_8,band_0_16,band_3_1,band_3_2,band_3_4,band_3_8,band_3_16,band_11_1,band_11_2,band_11_4,band_11_8,band_11_16,band_15_1,band_15_2,band_15_4,band_15_8,band_15_16,band_16_1,band_16_2,band_16_4,band_16_8,band_16_16];grind)
    · refine cmdI_case (c:=⟨4,client,seq,key,val,old,node⟩) 3 rfl ?_ ?_ ?_
      · (simp [allB,allB2,numR,numF,txtT,txtF,isNum,hasOf,mostOf,isTxt,Cm.num,Cm.txt,band_0_1,band_0_2,band_0_4,band_0_8,band_0_16,band_3_1,band_3_2,band_3_4,band_3_8,band_3_16,band_11_1,band_11_2,band_11_4,band_11_8,band_11_16,band_15_1,band_15_2,band_15_4,band_15_8,band_15_16,band_16_1,band_16_2,band_16_4,band_16_8,band_16_16];done)
      · cases hk:keyB key <;> cases hv:valB val <;> cases ho:valB old <;> simp [hk,hv,ho,allB,allB2,numR,numF,txtT,txtF,isNum,hasOf,mostOf,isTxt,Cm.num,Cm.txt,band_0_1,band_0_2,band_0_4,band_0_8,band_0_16,band_3_1,band_3_2,band_3_4,band_3_8,band_3_16,band_11_1,band_11_2,band_11_4,band_11_8,band_11_16,band_15_1,band_15_2,band_15_4,band_15_8,band_15_16,band_16_1,band_16_2,band_16_4,band_16_8,band_16_16]
      · (simp [allB,allB2,numR,numF,txtT,txtF,isNum,hasOf,mostOf,isTxt,Cm.num,Cm.txt,band_0_1,band_0_2,band_0_4,band_0_8,band_0_16,band_3_1,band_3_2,band_3_4,band_3_8,band_3_16,band_11_1,band_11_2,band_11_4,band_11_8,band_11_16,band_15_1,band_15_2,band_15_4,band_15_8,band_15_16,band_16_1,band_16_2,band_16_4,band_16_8,band_16_16];grind)
    · refine cmdI_case (c:=⟨5,client,seq,key,val,old,node⟩) 15 rfl ?_ ?_ ?_
      · (simp [allB,allB2,numR,numF,txtT,txtF,isNum,hasOf,mostOf,isTxt,Cm.num,Cm.txt,band_0_1,band_0_2,band_0_4,band_0_8,band_0_16,band_3_1,band_3_2,band_3_4,band_3_8,band_3_16,band_11_1,band_11_2,band_11_4,band_11_8,band_11_16,band_15_1,band_15_2,band_15_4,band_15_8,band_15_16,band_16_1,band_16_2,band_16_4,band_16_8,band_16_16];done)
      · cases hk:keyB key <;> cases hv:valB val <;> cases ho:valB old <;> simp [hk,hv,ho,allB,allB2,numR,numF,txtT,txtF,isNum,hasOf,mostOf,isTxt,Cm.num,Cm.txt,band_0_1,band_0_2,band_0_4,band_0_8,band_0_16,band_3_1,band_3_2,band_3_4,band_3_8,band_3_16,band_11_1,band_11_2,band_11_4,band_11_8,band_11_16,band_15_1,band_15_2,band_15_4,band_15_8,band_15_16,band_16_1,band_16_2,band_16_4,band_16_8,band_16_16]
      · (simp [allB,allB2,numR,numF,txtT,txtF,isNum,hasOf,mostOf,isTxt,Cm.num,Cm.txt,band_0_1,band_0_2,band_0_4,band_0_8,band_0_16,band_3_1,band_3_2,band_3_4,band_3_8,band_3_16,band_11_1,band_11_2,band_11_4,band_11_8,band_11_16,band_15_1,band_15_2,band_15_4,band_15_8,band_15_16,band_16_1,band_16_2,band_16_4,band_16_8,band_16_16];done)
    · refine cmdI_case (c:=⟨6,client,seq,key,val,old,node⟩) 0 rfl ?_ ?_ ?_
      · (simp [allB,allB2,numR,numF,txtT,txtF,isNum,hasOf,mostOf,isTxt,Cm.num,Cm.txt,band_0_1,band_0_2,band_0_4,band_0_8,band_0_16,band_3_1,band_3_2,band_3_4,band_3_8,band_3_16,band_11_1,band_11_2,band_11_4,band_11_8,band_11_16,band_15_1,band_15_2,band_15_4,band_15_8,band_15_16,band_16_1,band_16_2,band_16_4,band_16_8,band_16_16];done)
      · cases hk:keyB key <;> cases hv:valB val <;> cases ho:valB old <;> simp [hk,hv,ho,allB,allB2,numR,numF,txtT,txtF,isNum,hasOf,mostOf,isTxt,Cm.num,Cm.txt,band_0_1,band_0_2,band_0_4,band_0_8,band_0_16,band_3_1,band_3_2,band_3_4,band_3_8,band_3_16,band_11_1,band_11_2,band_11_4,band_11_8,band_11_16,band_15_1,band_15_2,band_15_4,band_15_8,band_15_16,band_16_1,band_16_2,band_16_4,band_16_8,band_16_16]
      · (simp [allB,allB2,numR,numF,txtT,txtF,isNum,hasOf,mostOf,isTxt,Cm.num,Cm.txt,band_0_1,band_0_2,band_0_4,band_0_8,band_0_16,band_3_1,band_3_2,band_3_4,band_3_8,band_3_16,band_11_1,band_11_2,band_11_4,band_11_8,band_11_16,band_15_1,band_15_2,band_15_4,band_15_8,band_15_16,band_16_1,band_16_2,band_16_4,band_16_8,band_16_16];grind)
    · refine cmdI_case (c:=⟨7,client,seq,key,val,old,node⟩) 16 rfl ?_ ?_ ?_
      · (simp [allB,allB2,numR,numF,txtT,txtF,isNum,hasOf,mostOf,isTxt,Cm.num,Cm.txt,band_0_1,band_0_2,band_0_4,band_0_8,band_0_16,band_3_1,band_3_2,band_3_4,band_3_8,band_3_16,band_11_1,band_11_2,band_11_4,band_11_8,band_11_16,band_15_1,band_15_2,band_15_4,band_15_8,band_15_16,band_16_1,band_16_2,band_16_4,band_16_8,band_16_16];done)
      · cases hk:keyB key <;> cases hv:valB val <;> cases ho:valB old <;> simp [hk,hv,ho,allB,allB2,numR,numF,txtT,txtF,isNum,hasOf,mostOf,isTxt,Cm.num,Cm.txt,band_0_1,band_0_2,band_0_4,band_0_8,band_0_16,band_3_1,band_3_2,band_3_4,band_3_8,band_3_16,band_11_1,band_11_2,band_11_4,band_11_8,band_11_16,band_15_1,band_15_2,band_15_4,band_15_8,band_15_16,band_16_1,band_16_2,band_16_4,band_16_8,band_16_16]
      · (simp [allB,allB2,numR,numF,txtT,txtF,isNum,hasOf,mostOf,isTxt,Cm.num,Cm.txt,band_0_1,band_0_2,band_0_4,band_0_8,band_0_16,band_3_1,band_3_2,band_3_4,band_3_8,band_3_16,band_11_1,band_11_2,band_11_4,band_11_8,band_11_16,band_15_1,band_15_2,band_15_4,band_15_8,band_15_16,band_16_1,band_16_2,band_16_4,band_16_8,band_16_16];grind)
    · refine cmdI_case (c:=⟨8,client,seq,key,val,old,node⟩) 16 rfl ?_ ?_ ?_
      · (simp [allB,allB2,numR,numF,txtT,txtF,isNum,hasOf,mostOf,isTxt,Cm.num,Cm.txt,band_0_1,band_0_2,band_0_4,band_0_8,band_0_16,band_3_1,band_3_2,band_3_4,band_3_8,band_3_16,band_11_1,band_11_2,band_11_4,band_11_8,band_11_16,band_15_1,band_15_2,band_15_4,band_15_8,band_15_16,band_16_1,band_16_2,band_16_4,band_16_8,band_16_16];done)
      · cases hk:keyB key <;> cases hv:valB val <;> cases ho:valB old <;> simp [hk,hv,ho,allB,allB2,numR,numF,txtT,txtF,isNum,hasOf,mostOf,isTxt,Cm.num,Cm.txt,band_0_1,band_0_2,band_0_4,band_0_8,band_0_16,band_3_1,band_3_2,band_3_4,band_3_8,band_3_16,band_11_1,band_11_2,band_11_4,band_11_8,band_11_16,band_15_1,band_15_2,band_15_4,band_15_8,band_15_16,band_16_1,band_16_2,band_16_4,band_16_8,band_16_16]
      · (simp [allB,allB2,numR,numF,txtT,txtF,isNum,hasOf,mostOf,isTxt,Cm.num,Cm.txt,band_0_1,band_0_2,band_0_4,band_0_8,band_0_16,band_3_1,band_3_2,band_3_4,band_3_8,band_3_16,band_11_1,band_11_2,band_11_4,band_11_8,band_11_16,band_15_1,band_15_2,band_15_4,band_15_8,band_15_16,band_16_1,band_16_2,band_16_4,band_16_8,band_16_16];grind)
set_option maxHeartbeats 4000000 in
theorem refCmdCheck_s {G:GH} (c:Cm) (hc:c.ok):Con Tryz.prog 91 #[.agg c.cells.toArray] G [] (fun r _ μ'=>r = .int .i64 (cmdI c) ∧ μ' = []):=by
  obtain ⟨hk1,hc1,hs1,hk,hv,ho,hn1⟩:=id hc
  simp only [maxLen] at hk hv ho
  have qk:=refKey_s (G:=G) (s:=c.key) (by omega)
  have qv:=refVal_s (G:=G) (s:=c.val) (by omega)
  have qo:=refVal_s (G:=G) (s:=c.old) (by omega)
  obtain ⟨kind,client,seq,key,val,old,node⟩:=c
  simp only at qk qv qo
  (refine v_enter Tryz.func91 rfl Tryz.ntmps91 rfl ?_;intro B _)
  by_cases hr:kind < 1 ∨ 8 < kind
  · repeat' (first|apply v_seq|apply v_region|apply v_nil|(apply v_take;(case hg=>rfl))|(apply v_pass;(case hg=>rfl);(case hn=>rfl);(case hd=>rfl))|(apply v_pure;(case hop=>first|(apply p_move <;> rfl)|(apply p_lt <;> rfl)|(apply p_gt <;> rfl)|(apply p_assign <;> rfl)|(apply p_pickT <;> rfl)|(apply p_pickF <;> rfl)|(apply p_fieldAddrB <;> rfl)|fail);(case hd=>rfl))|(apply v_condT;(case hc=>rfl))|(apply v_cond;(case hc=>rfl);all_goals (intro h;(try simp only [reduceCtorEq,zzz] at h);first|(exfalso;omega)|skip))|(apply v_guardB;(case h1=>rfl);(case h2=>rfl);all_goals (intro h;(try simp only [reduceCtorEq,zzz] at h)))|(apply v_box (zs:=Cm.cells ⟨kind,client,seq,key,val,old,node⟩);(case hx=>rfl);(case hz=>rfl);(case hd=>rfl);intro cb)|(apply v_read;(case hop=>(apply r_load1;rfl;(apply Cell.own;(case h=>(repeat (exact mhd _)));rfl)));(case hd=>rfl))|fail)
    all_goals
      (refine v_ret [] (outsA1 rfl rfl) (by repeat (exact List.nil_sublist _)) ?_
       refine ⟨?_,rfl⟩
       have:cmdFields kind = (0,false):=by unfold cmdFields;rw [if_neg (by omega),if_neg (by omega),if_neg (by omega),if_neg (by omega),if_neg (by omega)]
       simp [cmdI,this])
  have qw:=owned_s G kind
  have qm:=member_s G kind
  obtain rfl|rfl|rfl|rfl|rfl|rfl|rfl|rfl:kind = 1 ∨ kind = 2 ∨ kind = 3 ∨ kind = 4 ∨ kind = 5 ∨ kind = 6 ∨ kind = 7 ∨ kind = 8:=by omega
  all_goals
    (first|rw [decide_eq_true (by omega)] at qw|rw [decide_eq_false (by omega)] at qw)
    (first|rw [decide_eq_true (by omega)] at qm|rw [decide_eq_false (by omega)] at qm)
    repeat' (first|apply v_seq|apply v_region|apply v_nil|apply v_skip|(apply v_take;(case hg=>rfl))|(apply v_pass;(case hg=>rfl);(case hn=>rfl);(case hd=>rfl))|(apply v_passN;(case hg=>rfl);(case hn=>rfl);(case hd=>rfl))|(apply v_pure;(case hop=>first|(apply p_move <;> rfl)|(apply p_eqs <;> rfl)|(apply p_nes <;> rfl)|(apply p_eq <;> rfl)|(apply p_lt <;> rfl)|(apply p_gt <;> rfl)|(apply p_ne <;> rfl)|(apply p_assign <;> rfl)|(apply p_pickT <;> rfl)|(apply p_pickF <;> rfl)|(apply p_not <;> rfl)|(apply p_fieldAddrB <;> rfl)|(apply p_neS <;> rfl)|fail);(case hd=>rfl))|(apply v_condT;(case hc=>rfl))|(apply v_condF;(case hc=>rfl))|(apply v_cond;(case hc=>rfl);all_goals (intro h;(try simp only [reduceCtorEq,zzz] at h);first|(exfalso;omega)|skip))|(apply v_guardB;(case h1=>rfl);(case h2=>rfl);all_goals (intro h;(try simp only [reduceCtorEq,zzz] at h);first|(exfalso;omega)|skip))|(apply v_box (zs:=Cm.cells ⟨_,client,seq,key,val,old,node⟩);(case hx=>rfl);(case hz=>rfl);(case hd=>rfl);intro cb)|(apply v_callJ (hs:=qw);(case ha=>rfl);(case hd=>rfl))|(apply v_callJ (hs:=qm);(case ha=>rfl);(case hd=>rfl))|(apply v_callJ (hs:=qk);(case ha=>rfl);(case hd=>rfl))|(apply v_callJ (hs:=qv);(case ha=>rfl);(case hd=>rfl))|(apply v_callJ (hs:=qo);(case ha=>rfl);(case hd=>rfl))|(apply v_read;(case hop=>(apply r_load1;rfl;(apply Cell.own;(case h=>(repeat (exact mhd _)));rfl)));(case hd=>rfl))|fail)
  all_goals
    (refine v_ret [] (outsA1 rfl rfl) (by repeat (exact List.nil_sublist _)) ?_
     refine ⟨?_,rfl⟩
     rw [cmdI_eq]
     congr 1
     unfold cmdE
     try simp only [nil_iff] at *
     try simp only
     (repeat' split) <;> first|rfl|(exfalso;omega)|(exfalso;simp_all;done)|(exfalso;simp_all;omega))
theorem eqBal {σ:Env} {ty t':TypeId} {x y:Operand} {a b a' b':Int} (hx:Env.ev σ x = some (.agg [.int .i64 a,.int .i64 b].toArray)) (hy:Env.ev σ y = some (.agg [.int .i64 a',.int .i64 b'].toArray)):PureOp Tryz.prog (.binOp .eql 23 x y t') ty σ (.bool (dec (a = a' ∧ b = b'))):=by
  have:=p_eqStruct (P:=Tryz.prog) (ty:=ty) (t:=23) (t':=t') hx hy (feq_int (k:=.i64) (a:=a) (b:=a') (bytes:=8) (zero:=.int .i64 0) (sz:=1) rfl rfl rfl (feq_int (k:=.i64) (a:=b) (b:=b') (bytes:=8) (zero:=.int .i64 0) (sz:=1) rfl rfl rfl feq_nil))
  have e:(dec (a = a') && (dec (b = b') && true)) = dec (a = a' ∧ b = b'):=by simp only [dec_eq];simp
  rwa [e] at this
theorem neBal {σ:Env} {ty t':TypeId} {x y:Operand} {a b a' b':Int} (hx:Env.ev σ x = some (.agg [.int .i64 a,.int .i64 b].toArray)) (hy:Env.ev σ y = some (.agg [.int .i64 a',.int .i64 b'].toArray)):PureOp Tryz.prog (.binOp .neq 23 x y t') ty σ (.bool (!dec (a = a' ∧ b = b'))):=by
  have:=p_neStruct (P:=Tryz.prog) (ty:=ty) (t:=23) (t':=t') hx hy (feq_int (k:=.i64) (a:=a) (b:=a') (bytes:=8) (zero:=.int .i64 0) (sz:=1) rfl rfl rfl (feq_int (k:=.i64) (a:=b) (b:=b') (bytes:=8) (zero:=.int .i64 0) (sz:=1) rfl rfl rfl feq_nil))
  have e:(dec (a = a') && (dec (b = b') && true)) = dec (a = a' ∧ b = b'):=by simp only [dec_eq];simp
  rwa [e] at this
noncomputable instance:DecidableEq Cm:=fun a b=>Classical.propDecidable (a = b)
theorem cm_feq (c c':Cm):FEq Tryz.prog 9999 c.cells c'.cells [⟨"Kind",3,0,false, "", "",0⟩,⟨"Client",3,1,false, "", "",8⟩,⟨"Seq",3,2,false, "", "",16⟩,⟨"Key",9,3,false, "", "",24⟩,⟨"Val",9,4,false, "", "",40⟩,⟨"Old",9,5,false, "", "",56⟩,⟨"Node",3,6,false, "", "",72⟩] (dec (c.kind = c'.kind) && (dec (c.client = c'.client) && (dec (c.seq = c'.seq) && (dec (c.key = c'.key) && (dec (c.val = c'.val) && (dec (c.old = c'.old) && (dec (c.node = c'.node) && true))))))) :=
  feq_int (k:=.i64) (bytes:=8) (zero:=.int .i64 0) (sz:=1) (nm := "Kind") (ft:=3) (off:=0) (em:=false) (tg := "") (pk := "") (bo:=0) rfl rfl rfl
    (feq_int (k:=.i64) (bytes:=8) (zero:=.int .i64 0) (sz:=1) (nm := "Client") (ft:=3) (off:=1) (em:=false) (tg := "") (pk := "") (bo:=8) rfl rfl rfl
    (feq_int (k:=.i64) (bytes:=8) (zero:=.int .i64 0) (sz:=1) (nm := "Seq") (ft:=3) (off:=2) (em:=false) (tg := "") (pk := "") (bo:=16) rfl rfl rfl
    (feq_str (bytes:=16) (zero:=.string ByteArray.empty) (sz:=1) (nm := "Key") (ft:=9) (off:=3) (em:=false) (tg := "") (pk := "") (bo:=24) rfl rfl rfl
    (feq_str (bytes:=16) (zero:=.string ByteArray.empty) (sz:=1) (nm := "Val") (ft:=9) (off:=4) (em:=false) (tg := "") (pk := "") (bo:=40) rfl rfl rfl
    (feq_str (bytes:=16) (zero:=.string ByteArray.empty) (sz:=1) (nm := "Old") (ft:=9) (off:=5) (em:=false) (tg := "") (pk := "") (bo:=56) rfl rfl rfl
    (feq_int (k:=.i64) (bytes:=8) (zero:=.int .i64 0) (sz:=1) (nm := "Node") (ft:=3) (off:=6) (em:=false) (tg := "") (pk := "") (bo:=72) rfl rfl rfl feq_nil))))))
theorem cm_dec (c c':Cm):(dec (c.kind = c'.kind) && (dec (c.client = c'.client) && (dec (c.seq = c'.seq) && (dec (c.key = c'.key) && (dec (c.val = c'.val) && (dec (c.old = c'.old) && (dec (c.node = c'.node) && true))))))) = dec (c = c'):=by
  obtain ⟨a1,a2,a3,a4,a5,a6,a7⟩:=c
  obtain ⟨b1,b2,b3,b4,b5,b6,b7⟩:=c'
  rw [Bool.eq_iff_iff]
  simp [dec_true]
theorem neCm {σ:Env} {ty t':TypeId} {x y:Operand} {c c':Cm} (hx:Env.ev σ x = some (.agg c.cells.toArray)) (hy:Env.ev σ y = some (.agg c'.cells.toArray)):PureOp Tryz.prog (.binOp .neq 40 x y t') ty σ (.bool (!dec (c = c'))):=by
  have:=p_neStruct (P:=Tryz.prog) (ty:=ty) (t:=40) (t':=t') hx hy (cm_feq c c')
  rwa [cm_dec] at this
def mayP (r n:Int):Prop:=(r = 0 ∧ n = 0) ∨ (1 ≤ r ∧ r ≤ 4294967296 ∧ 1 ≤ n ∧ n ≤ 9)
instance (r n:Int):Decidable (mayP r n):=by unfold mayP;infer_instance
theorem node_s (G:GH) (n:Int):Con Tryz.prog 120 #[.int .i64 n] G [] (Just (.bool (decide (1 ≤ n ∧ n ≤ 9))) G):=by
  (refine v_enter Tryz.func120 rfl Tryz.ntmps120 rfl ?_;intro B _)
  repeat' (first|apply v_seq|apply v_region|apply v_nil|(apply v_take;(case hg=>rfl))|(apply v_pass;(case hg=>rfl);(case hn=>rfl);(case hd=>rfl))|(apply v_pure;(case hop=>first|(apply p_move <;> rfl)|(apply p_le <;> rfl)|(apply p_ge <;> rfl)|(apply p_assign <;> rfl)|(apply p_pickT <;> rfl)|(apply p_pickF <;> rfl)|fail);(case hd=>rfl))|(apply v_guardB;(case h1=>rfl);(case h2=>rfl);all_goals (intro h;(try simp only [reduceCtorEq,zzz] at h)))|fail)
  all_goals
    (refine v_ret [] (outsA1 rfl rfl) (by repeat (exact List.Sublist.refl _)) ?_
     refine ⟨?_,rfl,rfl⟩
     first
       | (rw [decide_eq_false (by omega)])
       | (by_cases h5:n ≤ 9
          · rw [dec_pos h5,decide_eq_true (by omega)]
          · rw [dec_neg h5,decide_eq_false (by omega)]))
theorem may_s (G:GH) (r n:Int):Con Tryz.prog 79 #[.agg #[.int .i64 r,.int .i64 n]] G [] (Just (.bool (decide (mayP r n))) G):=by
  apply Con.just
  (refine v_enter Tryz.func79 rfl Tryz.ntmps79 rfl ?_;intro B _)
  repeat' (first|(apply v_pure;(case hop=>(apply eqBal;(case hx=>rfl);(case hy=>rfl)));(case hd=>rfl))|apply v_seq|apply v_region|apply v_nil|(apply v_take;(case hg=>rfl))|(apply v_pass;(case hg=>rfl);(case hn=>rfl);(case hd=>rfl))|(apply v_passN;(case hg=>rfl);(case hn=>rfl);(case hd=>rfl))|(apply v_pure;(case hop=>first|(apply p_move <;> rfl)|(apply p_le <;> rfl)|(apply p_ge <;> rfl)|(apply p_assign <;> rfl)|(apply p_pickT <;> rfl)|(apply p_pickF <;> rfl)|(apply p_fieldAddrB <;> rfl)|(apply p_build;(case hz=>rfl);(case hv=>(simp only [List.map_cons,List.map_nil];repeat (with_reducible exact evs_nil)));(case hb=>(apply bldL;repeat (exact bld_nil))))|fail);(case hd=>rfl))|(apply v_guardB;(case h1=>rfl);(case h2=>rfl);all_goals (intro h;(try simp only [reduceCtorEq,zzz] at h)))|(apply v_callJ (hs:=node_s _ _);(case ha=>rfl);(case hd=>rfl))|(apply v_read;(case hop=>first|(apply r_loadNo;(case hx=>rfl);(case h=>(repeat (exact mhd _)));(case hd=>(repeat (first|with_reducible exact dt_nil|apply dt_here)));(case hn=>rfl))|(apply r_load1;rfl;(apply Cell.own;(case h=>(repeat (exact mhd _)));rfl))|fail);(case hd=>rfl))|(apply v_box;(case hx=>rfl);(case hz=>rfl);(case hd=>rfl);intro b)|fail)
  all_goals
    (refine v_ret [] (outsA1 rfl rfl) (by repeat (exact List.nil_sublist _)) ?_
     refine ⟨?_,rfl⟩
     first
       | (rw [decide_eq_true (p:=mayP r n) (by unfold mayP;omega)];done)
       | (rw [decide_eq_false (p:=mayP r n) (by unfold mayP;omega)];done)
       | (rw [decide_eq_decide.2];unfold mayP;omega)
       | (congr 1;rw [decide_eq_decide];unfold mayP;omega))
theorem refMay_s (G:GH) (r n:Int):Con Tryz.prog 52 #[.agg #[.int .i64 r,.int .i64 n]] G [] (Just (.bool (decide (mayP r n))) G):=by
  apply Con.just
  (refine v_enter Tryz.func52 rfl Tryz.ntmps52 rfl ?_;intro B _)
  repeat' (first|apply v_seq|apply v_region|apply v_nil|apply v_skip|(apply v_take;(case hg=>rfl))|(apply v_pass;(case hg=>rfl);(case hn=>rfl);(case hd=>rfl))|(apply v_pure;(case hop=>first|(apply p_move <;> rfl)|(apply p_eq <;> rfl)|(apply p_le <;> rfl)|(apply p_ge <;> rfl)|(apply p_assign <;> rfl)|(apply p_pickT <;> rfl)|(apply p_pickF <;> rfl)|(apply p_fieldAddrB <;> rfl)|fail);(case hd=>rfl))|(apply v_condF;(case hc=>rfl))|(apply v_cond;(case hc=>rfl);all_goals (intro h;(try simp only [reduceCtorEq,zzz] at h)))|(apply v_guardB;(case h1=>rfl);(case h2=>rfl);all_goals (intro h;(try simp only [reduceCtorEq,zzz] at h);first|(exfalso;omega)|skip))|(apply v_read;(case hop=>(apply r_load1;rfl;(apply Cell.own;(case h=>(repeat (exact mhd _)));rfl)));(case hd=>rfl))|(apply v_box;(case hx=>rfl);(case hz=>rfl);(case hd=>rfl);intro b)|fail)
  all_goals
    (refine v_ret [] (outsA1 rfl rfl) (by repeat (exact List.nil_sublist _)) ?_
     refine ⟨?_,rfl⟩
     first
       | (rw [decide_eq_true (p:=mayP r n) (by unfold mayP;omega)];done)
       | (rw [decide_eq_false (p:=mayP r n) (by unfold mayP;omega)];done)
       | (rw [dec_eq];congr 1;rw [decide_eq_decide];unfold mayP;omega))
def recL (k r n i:Int) (c:Cm) (iv:Value):List Value:=[.int .i64 k,.int .i64 r,.int .i64 n,.int .i64 i,.int .i64 c.kind,.int .i64 c.client,.int .i64 c.seq,.string c.key,.string c.val,.string c.old,.int .i64 c.node,iv]
def hasL (k:Int):List Value :=
  if k = 1 then [.bool true,.bool false,.bool false,.bool false] else if k = 2 then [.bool true,.bool true,.bool true,.bool false]
  else if k = 3 then [.bool false,.bool true,.bool true,.bool false] else if k = 4 then [.bool false,.bool true,.bool false,.bool true]
  else [.bool false,.bool false,.bool false,.bool false]
theorem rfields_s (G:GH) (k:Int):Con Tryz.prog 121 #[.int .i64 k] G [] (Just (.tuple [.agg (hasL k).toArray,.bool (decide (1 ≤ k ∧ k ≤ 4))].toArray) G):=by
  apply Con.just
  (refine v_enter Tryz.func121 rfl Tryz.ntmps121 rfl ?_;intro B _)
  repeat' (first|apply v_seq|apply v_region|apply v_nil|apply v_skip|apply v_block|apply v_blk|(apply v_exit;(case hp=>rfl))|(apply v_pure;(case hop=>first|(apply p_move <;> rfl)|(apply p_eq <;> rfl)|(apply p_assign <;> rfl)|(apply p_fieldAddrB <;> rfl)|fail);(case hd=>rfl))|(apply v_cond;(case hc=>rfl);all_goals (intro h;(try simp only [reduceCtorEq,zzz] at h)))|(apply v_read;(case hop=>(apply r_loadNo;(case hx=>rfl);(case h=>(repeat (exact mhd _)));(case hd=>(repeat (first|with_reducible exact dt_nil|apply dt_here)));(case hn=>rfl)));(case hd=>rfl))|(apply v_alloc;(case hz=>rfl);(case hd=>rfl);intro b)|(apply v_store;(case hp=>rfl);(case hx=>rfl);(case hc=>rfl);(case hsz=>rfl);(case h1=>rfl);(case hb=>(repeat (first|exact mhd _|apply mtl)));(case hfit=>exact nle rfl);(case hov=>((repeat (first|with_reducible exact ov_nil|apply ov_cons));done));(case hu=>repeat (first|exact Upd.here _ _|apply Upd.there)))|fail)
  all_goals
    (refine v_retM [] (outsM_cell_tmp (vs:=hasL k) (e:=168) rfl rfl rfl ?_ ?_) (by repeat (exact List.nil_sublist _)) ?_
     · unfold hasL
       first
         | (rw [if_pos (show k = 1 by omega)];(repeat (first|exact mhd _|apply mtl)))
         | (rw [if_neg (show ¬ k = 1 by omega),if_pos (show k = 2 by omega)];(repeat (first|exact mhd _|apply mtl)))
         | (rw [if_neg (show ¬ k = 1 by omega),if_neg (show ¬ k = 2 by omega),if_pos (show k = 3 by omega)];(repeat (first|exact mhd _|apply mtl)))
         | (rw [if_neg (show ¬ k = 1 by omega),if_neg (show ¬ k = 2 by omega),if_neg (show ¬ k = 3 by omega),if_pos (show k = 4 by omega)];(repeat (first|exact mhd _|apply mtl)))
         | (rw [if_neg (show ¬ k = 1 by omega),if_neg (show ¬ k = 2 by omega),if_neg (show ¬ k = 3 by omega),if_neg (show ¬ k = 4 by omega)];(repeat (first|exact mhd _|apply mtl)))
     · unfold hasL;(repeat' split) <;> rfl
     · refine ⟨?_,rfl⟩
       first
         | rw [decide_eq_true (by omega)]
         | rw [decide_eq_false (by omega)])
def ranP (k r n i:Int):Prop:=((k = 1 ∨ k = 2) → mayP r n ∧ ¬ (r = 0 ∧ n = 0)) ∧ ((k = 2 ∨ k = 3 ∨ k = 4) → 1 ≤ i ∧ i ≤ 4294967296)
instance (k r n i:Int):Decidable (ranP k r n i):=by unfold ranP;infer_instance
theorem ranges_s (G:GH) (k r n i:Int) (c:Cm) (iv:Value) (hk:1 ≤ k ∧ k ≤ 4):Con Tryz.prog 122 #[.agg (recL k r n i c iv).toArray,.agg (hasL k).toArray] G [] (Just (.bool (decide (ranP k r n i))) G):=by
  apply Con.just
  (refine v_enter Tryz.func122 rfl Tryz.ntmps122 rfl ?_;intro B _)
  obtain rfl|rfl|rfl|rfl:k = 1 ∨ k = 2 ∨ k = 3 ∨ k = 4:=by omega
  all_goals
    repeat' (first|(apply v_pure;(case hop=>(apply eqBal;(case hx=>rfl);(case hy=>rfl)));(case hd=>rfl))|apply v_seq|apply v_region|apply v_nil|apply v_skip|(apply v_take;(case hg=>rfl))|(apply v_pass;(case hg=>rfl);(case hn=>rfl);(case hd=>rfl))|(apply v_passN;(case hg=>rfl);(case hn=>rfl);(case hd=>rfl))|(apply v_pure;(case hop=>first|(apply p_move <;> rfl)|(apply p_le <;> rfl)|(apply p_ge <;> rfl)|(apply p_assign <;> rfl)|(apply p_pickT <;> rfl)|(apply p_pickF <;> rfl)|(apply p_not <;> rfl)|(apply p_fieldAddrB <;> rfl)|(apply p_build;(case hz=>rfl);(case hv=>(simp only [List.map_cons,List.map_nil];repeat (with_reducible exact evs_nil)));(case hb=>(apply bldL;repeat (exact bld_nil))))|fail);(case hd=>rfl))|(apply v_condT;(case hc=>rfl))|(apply v_condF;(case hc=>rfl))|(apply v_cond;(case hc=>rfl);all_goals (intro h;(try simp only [reduceCtorEq,zzz] at h)))|(apply v_guardB;(case h1=>rfl);(case h2=>rfl);all_goals (intro h;(try simp only [reduceCtorEq,zzz] at h)))|(apply v_box (zs:=recL _ r n i c iv);(case hx=>rfl);(case hz=>rfl);(case hd=>rfl);intro b)|(apply v_box (zs:=hasL _);(case hx=>rfl);(case hz=>rfl);(case hd=>rfl);intro b)|(apply v_callJ (hs:=may_s _ _ _);(case ha=>rfl);(case hd=>rfl))|(apply v_read;(case hop=>first|(apply r_loadNo;(case hx=>rfl);(case h=>(repeat (first|exact mhd _|apply mtl)));(case hd=>(repeat (first|with_reducible exact dt_nil|apply dt_here)));(case hn=>rfl))|(apply r_load1;rfl;(apply Cell.own;(case h=>(repeat (first|exact mhd _|apply mtl)));rfl))|fail);(case hd=>rfl))|fail)
  all_goals
    (refine v_ret [] (outsA1 rfl rfl) (by repeat (exact List.nil_sublist _)) ?_
     refine ⟨?_,rfl⟩
     first
       | (rw [decide_eq_true (p:=ranP _ r n i) (by unfold mayP at *;unfold ranP mayP;omega)];done)
       | (rw [decide_eq_false (p:=ranP _ r n i) (by unfold mayP at *;unfold ranP mayP;omega)];done)
       | (rw [decide_eq_true (p:=ranP _ r n i) (by unfold ranP mayP;omega)];done)
       | (rw [decide_eq_false (p:=ranP _ r n i) (by unfold ranP mayP;omega)];done)
       | (rw [dec_eq];congr 1;rw [decide_eq_decide];unfold mayP at *;unfold ranP mayP;omega)
       | (rw [dec_eq];congr 1;rw [decide_eq_decide];unfold ranP mayP;omega))
def zeroCm:Cm:=⟨0,0,0,ByteArray.empty,ByteArray.empty,ByteArray.empty,0⟩
def othP (k r n i:Int) (c:Cm) (len:Nat):Prop:=(¬ (k = 1 ∨ k = 2) ∧ ¬ (r = 0 ∧ n = 0)) ∨ (k = 1 ∧ i ≠ 0) ∨ (¬ (k = 2 ∨ k = 3) ∧ c ≠ zeroCm) ∨ ¬ (k = 4 ↔ 0 < len)
noncomputable instance (k r n i:Int) (c:Cm) (len:Nat):Decidable (othP k r n i c len):=Classical.propDecidable _
theorem others_s (G:GH) (k r n i:Int) (c:Cm) (A:Option Addr) (len cap:Nat) (hl:len ≤ 9223372036854775807) (hk:1 ≤ k ∧ k ≤ 4):Con Tryz.prog 124 #[.agg (recL k r n i c (.slice A len cap)).toArray,.agg (hasL k).toArray] G [] (Just (.bool (decide (othP k r n i c len))) G):=by
  apply Con.just
  (refine v_enter Tryz.func124 rfl Tryz.ntmps124 rfl ?_;intro B _)
  obtain rfl|rfl|rfl|rfl:k = 1 ∨ k = 2 ∨ k = 3 ∨ k = 4:=by omega
  all_goals
    repeat' (first|(apply v_pure;(case hop=>(apply neCm (c:=c) (c':=zeroCm);(case hx=>rfl);(case hy=>rfl)));(case hd=>rfl))|apply v_seq|apply v_region|apply v_nil|apply v_skip|apply v_block|apply v_blk|(apply v_take;(case hg=>rfl))|(apply v_pass;(case hg=>rfl);(case hn=>rfl);(case hd=>rfl))|(apply v_pure;(case hop=>first|(apply p_move <;> rfl)|(apply p_gt <;> rfl)|(apply p_ne <;> rfl)|(apply p_assign <;> rfl)|(apply p_pickT <;> rfl)|(apply p_pickF <;> rfl)|(apply p_not <;> rfl)|(apply p_lenSlice <;> rfl)|(apply p_fieldAddrB <;> rfl)|(apply p_neB <;> rfl)|(apply p_build;(case hz=>rfl);(case hv=>(simp only [List.map_cons,List.map_nil];repeat (with_reducible exact evs_nil)));(case hb=>(apply bldL;repeat (exact bld_nil))))|fail);(case hd=>rfl))|(apply v_condF;(case hc=>rfl))|(apply v_cond;(case hc=>rfl);all_goals (intro h;(try simp only [reduceCtorEq,zzz] at h);first|(exfalso;omega)|skip))|(apply v_pure;(case hop=>(apply neBal;(case hx=>rfl);(case hy=>rfl)));(case hd=>rfl))|(apply v_box (zs:=recL _ r n i c (.slice A len cap));(case hx=>rfl);(case hz=>rfl);(case hd=>rfl);intro b)|(apply v_box (zs:=hasL _);(case hx=>rfl);(case hz=>rfl);(case hd=>rfl);intro b)|(apply v_read;(case hop=>first|(apply r_loadNo;(case hx=>rfl);(case h=>(repeat (first|exact mhd _|apply mtl)));(case hd=>(repeat (first|with_reducible exact dt_nil|apply dt_here)));(case hn=>rfl))|(apply r_load1;rfl;(apply Cell.own;(case h=>(repeat (first|exact mhd _|apply mtl)));rfl))|fail);(case hd=>rfl))|fail)
  all_goals
    (refine v_ret [] (outsA1 rfl rfl) (by repeat (exact List.nil_sublist _)) ?_
     refine ⟨?_,rfl⟩
     first|(simp [othP,dec_eq, *];done)|(simp [othP,dec_eq, *];grind))
noncomputable def recI (k r n i:Int) (c:Cm) (len:Nat):Int :=
  if k < 1 ∨ 4 < k then 5 else if ¬ ranP k r n i then 6 else if k = 4 ∧ 32768 < len then 2 else if (k = 2 ∨ k = 3) ∧ cmdI c ≠ 0 then cmdI c else if othP k r n i c len then 3 else 0
theorem recCheck_s {G:GH} (hT:TabsG G) (k r n i:Int) (c:Cm) (hc:c.ok) (A:Option Addr) (len cap:Nat) (hl:len ≤ 9223372036854775807):Con Tryz.prog 80 #[.agg (recL k r n i c (.slice A len cap)).toArray] G [] (Just (.int .i64 (recI k r n i c len)) G):=by
  have qc:=Con.just (cmdCheck_s hT c hc)
  have qf:=rfields_s G k
  apply Con.just
  (refine v_enter Tryz.func80 rfl Tryz.ntmps80 rfl ?_;intro B _)
  by_cases hk:1 ≤ k ∧ k ≤ 4
  · rw [decide_eq_true hk] at qf
    have qr:=ranges_s G k r n i c (.slice A len cap) hk
    have qo:=others_s G k r n i c A len cap hl hk
    obtain rfl|rfl|rfl|rfl:k = 1 ∨ k = 2 ∨ k = 3 ∨ k = 4:=by omega
    all_goals
      repeat' (first|apply v_seq|apply v_region|apply v_nil|apply v_skip|apply v_block|apply v_blk|(apply v_take;(case hg=>rfl))|(apply v_pass;(case hg=>rfl);(case hn=>rfl);(case hd=>rfl))|(apply v_pure;(case hop=>first|(apply p_move <;> rfl)|(apply p_gt <;> rfl)|(apply p_ne <;> rfl)|(apply p_assign <;> rfl)|(apply p_pickT <;> rfl)|(apply p_pickF <;> rfl)|(apply p_not <;> rfl)|(apply p_lenSlice <;> rfl)|(apply p_fieldAddrB <;> rfl)|(apply p_extract0 <;> rfl)|(apply p_extract1 <;> rfl)|fail);(case hd=>rfl))|(apply v_condT;(case hc=>rfl))|(apply v_condF;(case hc=>rfl))|(apply v_cond;(case hc=>rfl);all_goals (intro h;(try simp only [reduceCtorEq,zzz] at h)))|(apply v_box (zs:=recL _ r n i c (.slice A len cap));(case hx=>rfl);(case hz=>rfl);(case hd=>rfl);intro b)|(apply v_callJ (hs:=qf);(case ha=>rfl);(case hd=>rfl))|(apply v_callJ (hs:=qr);(case ha=>rfl);(case hd=>rfl))|(apply v_callJ (hs:=qo);(case ha=>rfl);(case hd=>rfl))|(apply v_callJ (hs:=qc);(case ha=>rfl);(case hd=>rfl))|(apply v_read;(case hop=>first|(apply r_loadNo;(case hx=>rfl);(case h=>(repeat (first|exact mhd _|apply mtl)));(case hd=>(repeat (first|with_reducible exact dt_nil|apply dt_here)));(case hn=>rfl))|(apply r_load1;rfl;(apply Cell.own;(case h=>(repeat (first|exact mhd _|apply mtl)));rfl))|fail);(case hd=>rfl))|(apply v_alloc;(case hz=>rfl);(case hd=>rfl);intro b)|(apply v_store;(case hp=>rfl);(case hx=>rfl);(case hc=>rfl);(case hsz=>rfl);(case h1=>rfl);(case hb=>(repeat (exact mhd _)));(case hfit=>exact nle rfl);(case hov=>((repeat (first|with_reducible exact ov_nil|apply ov_cons));done));(case hu=>repeat (exact Upd.here _ _)))|fail)
    all_goals
      (refine v_ret [] (outsA1 rfl rfl) (by repeat (exact List.nil_sublist _)) ?_
       refine ⟨?_,rfl⟩
       first|(simp [recI, *];done)|(simp [recI, *];omega))
  · have e:hasL k = [.bool false,.bool false,.bool false,.bool false]:=by unfold hasL;rw [if_neg (by omega),if_neg (by omega),if_neg (by omega),if_neg (by omega)]
    rw [decide_eq_false hk,e] at qf
    repeat' (first|apply v_seq|apply v_region|apply v_nil|apply v_block|(apply v_pure;(case hop=>first|(apply p_move <;> rfl)|(apply p_assign <;> rfl)|(apply p_not <;> rfl)|(apply p_fieldAddrB <;> rfl)|(apply p_extract0 <;> rfl)|(apply p_extract1 <;> rfl)|fail);(case hd=>rfl))|(apply v_condT;(case hc=>rfl))|(apply v_box (zs:=recL _ r n i c (.slice A len cap));(case hx=>rfl);(case hz=>rfl);(case hd=>rfl);intro b)|(apply v_callJ (hs:=qf);(case ha=>rfl);(case hd=>rfl))|(apply v_read;(case hop=>(apply r_load1;rfl;(apply Cell.own;(case h=>(repeat (exact mhd _)));rfl)));(case hd=>rfl))|(apply v_alloc;(case hz=>rfl);(case hd=>rfl);intro b)|(apply v_store;(case hp=>rfl);(case hx=>rfl);(case hc=>rfl);(case hsz=>rfl);(case h1=>rfl);(case hb=>(repeat (exact mhd _)));(case hfit=>exact nle rfl);(case hov=>((repeat (first|with_reducible exact ov_nil|apply ov_cons));done));(case hu=>repeat (exact Upd.here _ _)))|fail)
    refine v_ret [] (outsA1 rfl rfl) (by repeat (exact List.nil_sublist _)) ?_
    refine ⟨?_,rfl⟩
    rw [recI,if_pos (by omega)]
theorem hasBallot_s (G:GH) (k:Int):Con Tryz.prog 94 #[.int .i64 k] G [] (Just (.bool (decide (k = 1 ∨ k = 2))) G):=by
  (refine v_enter Tryz.func94 rfl Tryz.ntmps94 rfl ?_;intro B _)
  repeat' (first|apply v_seq|apply v_region|apply v_nil|(apply v_take;(case hg=>rfl))|(apply v_pass;(case hg=>rfl);(case hn=>rfl);(case hd=>rfl))|(apply v_pure;(case hop=>first|(apply p_move <;> rfl)|(apply p_eq <;> rfl)|(apply p_assign <;> rfl)|(apply p_pickT <;> rfl)|(apply p_pickF <;> rfl)|fail);(case hd=>rfl))|(apply v_guardB;(case h1=>rfl);(case h2=>rfl);all_goals (intro h;(try simp only [reduceCtorEq,zzz] at h)))|fail)
  all_goals
    (refine v_ret [] (outsA1 rfl rfl) (by repeat (exact List.Sublist.refl _)) ?_
     refine ⟨?_,rfl,rfl⟩
     (simp [dec_eq, *];done))
theorem hasIndex_s (G:GH) (k:Int):Con Tryz.prog 95 #[.int .i64 k] G [] (Just (.bool (decide (k = 2 ∨ k = 3 ∨ k = 4))) G):=by
  (refine v_enter Tryz.func95 rfl Tryz.ntmps95 rfl ?_;intro B _)
  repeat' (first|apply v_seq|apply v_region|apply v_nil|(apply v_take;(case hg=>rfl))|(apply v_pass;(case hg=>rfl);(case hn=>rfl);(case hd=>rfl))|(apply v_pure;(case hop=>first|(apply p_move <;> rfl)|(apply p_eq <;> rfl)|(apply p_assign <;> rfl)|(apply p_pickT <;> rfl)|(apply p_pickF <;> rfl)|fail);(case hd=>rfl))|(apply v_guardB;(case h1=>rfl);(case h2=>rfl);all_goals (intro h;(try simp only [reduceCtorEq,zzz] at h)))|fail)
  all_goals
    (refine v_ret [] (outsA1 rfl rfl) (by repeat (exact List.Sublist.refl _)) ?_
     refine ⟨?_,rfl,rfl⟩
     (simp [dec_eq, *];done))
theorem hasCmd_s (G:GH) (k:Int):Con Tryz.prog 89 #[.int .i64 k] G [] (Just (.bool (decide (k = 2 ∨ k = 3))) G):=by
  (refine v_enter Tryz.func89 rfl Tryz.ntmps89 rfl ?_;intro B _)
  repeat' (first|apply v_seq|apply v_region|apply v_nil|(apply v_take;(case hg=>rfl))|(apply v_pass;(case hg=>rfl);(case hn=>rfl);(case hd=>rfl))|(apply v_pure;(case hop=>first|(apply p_move <;> rfl)|(apply p_eq <;> rfl)|(apply p_assign <;> rfl)|(apply p_pickT <;> rfl)|(apply p_pickF <;> rfl)|fail);(case hd=>rfl))|(apply v_guardB;(case h1=>rfl);(case h2=>rfl);all_goals (intro h;(try simp only [reduceCtorEq,zzz] at h)))|fail)
  all_goals
    (refine v_ret [] (outsA1 rfl rfl) (by repeat (exact List.Sublist.refl _)) ?_
     refine ⟨?_,rfl,rfl⟩
     (simp [dec_eq, *];done))
set_option maxHeartbeats 4000000 in
theorem refRecCheck_s {G:GH} (k r n i:Int) (c:Cm) (hc:c.ok) (A:Option Addr) (len cap:Nat) (hl:len ≤ 9223372036854775807):Con Tryz.prog 88 #[.agg (recL k r n i c (.slice A len cap)).toArray] G [] (Just (.int .i64 (recI k r n i c len)) G):=by
  have qc:=Con.just (refCmdCheck_s (G:=G) c hc)
  have qb:=hasBallot_s G k
  have qi:=hasIndex_s G k
  have qm:=hasCmd_s G k
  apply Con.just
  (refine v_enter Tryz.func88 rfl Tryz.ntmps88 rfl ?_;intro B _)
  by_cases hk:1 ≤ k ∧ k ≤ 4
  · obtain rfl|rfl|rfl|rfl:k = 1 ∨ k = 2 ∨ k = 3 ∨ k = 4:=by omega
    all_goals
      (first|rw [decide_eq_true (by omega)] at qb|rw [decide_eq_false (by omega)] at qb)
      (first|rw [decide_eq_true (by omega)] at qi|rw [decide_eq_false (by omega)] at qi)
      (first|rw [decide_eq_true (by omega)] at qm|rw [decide_eq_false (by omega)] at qm)
      repeat' (first|(apply v_pure;(case hop=>(apply neCm (c:=c) (c':=zeroCm);(case hx=>rfl);(case hy=>rfl)));(case hd=>rfl))|apply v_seq|apply v_region|apply v_nil|apply v_skip|(apply v_take;(case hg=>rfl))|(apply v_pass;(case hg=>rfl);(case hn=>rfl);(case hd=>rfl))|(apply v_passN;(case hg=>rfl);(case hn=>rfl);(case hd=>rfl))|(apply v_pure;(case hop=>first|(apply p_move <;> rfl)|(apply p_eqs <;> rfl)|(apply p_eq <;> rfl)|(apply p_lt <;> rfl)|(apply p_gt <;> rfl)|(apply p_ne <;> rfl)|(apply p_assign <;> rfl)|(apply p_pickT <;> rfl)|(apply p_pickF <;> rfl)|(apply p_not <;> rfl)|(apply p_lenSlice <;> rfl)|(apply p_fieldAddrB <;> rfl)|(apply p_neB <;> rfl)|(apply p_build;(case hz=>rfl);(case hv=>(simp only [List.map_cons,List.map_nil];repeat (with_reducible exact evs_nil)));(case hb=>(apply bldL;repeat (exact bld_nil))))|fail);(case hd=>rfl))|(apply v_condT;(case hc=>rfl))|(apply v_condF;(case hc=>rfl))|(apply v_cond;(case hc=>rfl);all_goals (intro h;(try simp only [reduceCtorEq,zzz] at h);first|(exfalso;omega)|skip))|(apply v_guardB;(case h1=>rfl);(case h2=>rfl);all_goals (intro h;(try simp only [reduceCtorEq,zzz] at h);first|(exfalso;omega)|skip))|(apply v_box (zs:=recL _ r n i c (.slice A len cap));(case hx=>rfl);(case hz=>rfl);(case hd=>rfl);intro b)|(apply v_callJ (hs:=qb);(case ha=>rfl);(case hd=>rfl))|(apply v_callJ (hs:=qi);(case ha=>rfl);(case hd=>rfl))|(apply v_callJ (hs:=qm);(case ha=>rfl);(case hd=>rfl))|(apply v_callJ (hs:=qc);(case ha=>rfl);(case hd=>rfl))|(apply v_callJ (hs:=refMay_s _ _ _);(case ha=>rfl);(case hd=>rfl))|(apply v_read;(case hop=>first|(apply r_loadNo;(case hx=>rfl);(case h=>(repeat (exact mhd _)));(case hd=>(repeat (first|with_reducible exact dt_nil|apply dt_here)));(case hn=>rfl))|(apply r_load1;rfl;(apply Cell.own;(case h=>(repeat (exact mhd _)));rfl))|fail);(case hd=>rfl))|fail)
    all_goals
      (refine v_ret [] (outsA1 rfl rfl) (by repeat (exact List.nil_sublist _)) ?_
       refine ⟨?_,rfl⟩
       clear qc qb qi qm hc
       congr 1
       (try simp only [dec_eq] at *)
       (try unfold mayP at *)
       unfold recI ranP othP mayP
       grind)
  · repeat' (first|apply v_seq|apply v_region|apply v_nil|(apply v_take;(case hg=>rfl))|(apply v_pass;(case hg=>rfl);(case hn=>rfl);(case hd=>rfl))|(apply v_pure;(case hop=>first|(apply p_move <;> rfl)|(apply p_lt <;> rfl)|(apply p_gt <;> rfl)|(apply p_assign <;> rfl)|(apply p_pickT <;> rfl)|(apply p_pickF <;> rfl)|(apply p_fieldAddrB <;> rfl)|fail);(case hd=>rfl))|(apply v_condT;(case hc=>rfl))|(apply v_cond;(case hc=>rfl);all_goals (intro h;(try simp only [reduceCtorEq,zzz] at h);first|(exfalso;omega)|skip))|(apply v_guardB;(case h1=>rfl);(case h2=>rfl);all_goals (intro h;(try simp only [reduceCtorEq,zzz] at h)))|(apply v_box (zs:=recL _ r n i c (.slice A len cap));(case hx=>rfl);(case hz=>rfl);(case hd=>rfl);intro b)|(apply v_read;(case hop=>(apply r_load1;rfl;(apply Cell.own;(case h=>(repeat (exact mhd _)));rfl)));(case hd=>rfl))|fail)
    all_goals
      (refine v_ret [] (outsA1 rfl rfl) (by repeat (exact List.nil_sublist _)) ?_
       refine ⟨?_,rfl⟩
       rw [recI,if_pos (by omega)])
structure Ent where
  index:Int
  round:Int
  node:Int
  cmd:Cm
noncomputable instance:DecidableEq Ent:=fun a b=>Classical.propDecidable (a = b)
def Ent.cells (x:Ent):List Value:=[.int .i64 x.index,.int .i64 x.round,.int .i64 x.node,.int .i64 x.cmd.kind,.int .i64 x.cmd.client,.int .i64 x.cmd.seq,.string x.cmd.key,.string x.cmd.val,.string x.cmd.old,.int .i64 x.cmd.node]
def Ent.ok (x:Ent):Prop:=(Lit.int .i64 x.index).wf = true ∧ (Lit.int .i64 x.round).wf = true ∧ (Lit.int .i64 x.node).wf = true ∧ x.cmd.ok
def EntR (x:Ent) (cs:List Value):Prop:=cs = x.cells ∧ x.ok
abbrev Es (G:GH) (v:Value) (l:List Ent):Prop:=Sl G 10 EntR v l
theorem adr_add (X:Addr) (a b:Nat):(X.add a).add b = X.add (a + b):=by
  by_cases ha:a = 0 <;> by_cases hb:b = 0 <;> simp [Addr.add,ha,hb,Nat.add_assoc]
theorem cellsG_drop {G:GH} {X:Addr} {cs:List Value} (n:Nat) (h:CellsG G X cs):CellsG G (X.add n) (cs.drop n):=by
  intro j u hu
  rw [adr_add]
  exact h _ _ (by simpa using hu)
theorem cellsG_take {G:GH} {X:Addr} {cs:List Value} (n:Nat) (h:CellsG G X cs):CellsG G X (cs.take n):=by
  intro j u hu
  exact h _ _ (by rw [List.getElem?_take] at hu;split at hu;exact hu;cases hu)
theorem esOpen {G:GH} {v:Value} {l:List Ent} (h:Es G v l):∃ A c,v = .slice A l.length c ∧ l.length ≤ c ∧ c ≤ maxLen ∧ (0 < l.length → A.isSome = true) ∧
    (∀ i (h:i < l.length),CellsG G ((adr A).add (i * 10)) l[i].cells) ∧ (∀ i (h:i < l.length),CellsG G (((adr A).add (i * 10)).add 1) [.int .i64 l[i].round,.int .i64 l[i].node]) ∧
    (∀ i (h:i < l.length),CellsG G (((adr A).add (i * 10)).add 3) l[i].cmd.cells) ∧ (∀ i (h:i < l.length),l[i].ok):=by
  obtain ⟨A,c,rfl,h1,h2,h3,h4⟩:=h.open
  have key:∀ i (h:i < l.length),CellsG G ((adr A).add (i * 10)) l[i].cells ∧ l[i].ok:=fun i hi=>by
    obtain ⟨cs,_,⟨rfl,h6⟩,h5⟩:=h4 i _ (List.getElem?_eq_getElem hi)
    exact ⟨h5,h6⟩
  refine ⟨A,c,rfl,h1,h2,h3,fun i hi=>(key i hi).1,fun i hi=>?_,fun i hi=>?_,fun i hi=>(key i hi).2⟩
  · exact cellsG_take 2 (cellsG_drop 1 (key i hi).1)
  · exact cellsG_drop 3 (key i hi).1
noncomputable def oneI (x:Ent):Int:=if x.index < 1 ∨ 4294967296 < x.index ∨ ¬ mayP x.round x.node then 6 else cmdI x.cmd
theorem one_s {G:GH} (hT:TabsG G) (x:Ent) (hx:x.ok):Con Tryz.prog 125 #[.agg x.cells.toArray] G [] (Just (.int .i64 (oneI x)) G):=by
  have qm:=may_s G x.round x.node
  have qc:=Con.just (cmdCheck_s hT x.cmd hx.2.2.2)
  apply Con.just
  (refine v_enter Tryz.func125 rfl Tryz.ntmps125 rfl ?_;intro B _)
  repeat' (first|apply v_seq|apply v_region|apply v_nil|apply v_skip|(apply v_take;(case hg=>rfl))|(apply v_pass;(case hg=>rfl);(case hn=>rfl);(case hd=>rfl))|(apply v_pure;(case hop=>first|(apply p_move <;> rfl)|(apply p_lt <;> rfl)|(apply p_gt <;> rfl)|(apply p_assign <;> rfl)|(apply p_pickT <;> rfl)|(apply p_pickF <;> rfl)|(apply p_not <;> rfl)|(apply p_fieldAddrB <;> rfl)|fail);(case hd=>rfl))|(apply v_condT;(case hc=>rfl))|(apply v_cond;(case hc=>rfl);all_goals (intro h;(try simp only [reduceCtorEq,zzz] at h)))|(apply v_guardB;(case h1=>rfl);(case h2=>rfl);all_goals (intro h;(try simp only [reduceCtorEq,zzz] at h)))|(apply v_box (zs:=x.cells);(case hx=>rfl);(case hz=>rfl);(case hd=>rfl);intro b)|(apply v_callJ (hs:=qm);(case ha=>rfl);(case hd=>rfl))|(apply v_callJ (hs:=qc);(case ha=>rfl);(case hd=>rfl))|(apply v_read;(case hop=>first|(apply r_loadNo;(case hx=>rfl);(case h=>(repeat (exact mhd _)));(case hd=>(repeat (first|with_reducible exact dt_nil|apply dt_here)));(case hn=>rfl))|(apply r_load1;rfl;(apply Cell.own;(case h=>(repeat (exact mhd _)));rfl))|fail);(case hd=>rfl))|fail)
  all_goals
    (refine v_ret [] (outsA1 rfl rfl) (by repeat (exact List.nil_sublist _)) ?_
     refine ⟨?_,rfl⟩
     (simp [oneI, *];done))
theorem esCell {G:GH} {A:Option Addr} {l:List Ent} (hcp:∀ i (h:i < l.length),CellsG G ((adr A).add (i * 10)) l[i].cells) (i:Nat) (h:i < l.length):GH.cell? G (((adr A).add (i * 10)).add 0) = some (.int .i64 l[i].index):=(hcp i h).cell (j:=0) rfl
noncomputable def chkK (l:List Ent) (k:Nat):Int :=
  if h:k < l.length then if oneI l[k] ≠ 0 then oneI l[k] else if h0:0 < k then if l[k].index ≤ (l[k - 1]'(by omega)).index then 12 else chkK l (k + 1) else chkK l (k + 1) else 0
termination_by l.length - k
theorem entCheck_s {G:GH} (hT:TabsG G) {l:List Ent} {sv:Value} (hs:Es G sv l):Con Tryz.prog 81 #[sv] G [] (Just (.int .i64 (chkK l 0)) G):=by
  obtain ⟨A,c,rfl,hlc,hcm,hsome,hcp,hcb,hcc,hok⟩:=esOpen hs
  simp only [maxLen] at hcm
  apply Con.just
  (refine v_enter Tryz.func81 rfl Tryz.ntmps81 rfl ?_;intro B _)
  repeat' (first|apply v_seq|apply v_region|apply v_nil|apply v_block|(apply v_pure;(case hop=>first|(apply p_move <;> rfl)|(apply p_assign <;> rfl)|(apply p_lenSlice <;> rfl)|fail);(case hd=>rfl))|fail)
  refine v_loop [8,7,6,0] (fun us G' μ'=>G' = G ∧ μ' = [] ∧ ∃ k,k ≤ l.length ∧ us = [Value.int .i64 (k:Nat),.int .i64 l.length,.slice A l.length c,.slice A l.length c] ∧ chkK l 0 = chkK l k) (fun us=>l.length - (headI us).toNat) rfl ⟨rfl,rfl,0,by omega,rfl,rfl⟩ ?_
  rintro us G' μ' ⟨rfl,rfl,k,hk,rfl,hno⟩
  have e1:((k:Nat):Int).toNat = k:=by omega
  have e2:(((k:Nat):Int) - 1).toNat = k - 1:=by omega
  have q1:=fun (h:k < l.length)=>one_s hT l[k] (hok k h)
  repeat' (first|apply v_seq|apply v_region|apply v_nil|apply v_skip|apply v_block|(apply v_exit;(case hp=>rfl))|(apply v_pure;(case hop=>first|(apply p_move <;> rfl)|(apply p_lt <;> rfl)|(apply p_ne <;> rfl)|(apply p_assign <;> rfl)|(apply p_indexAddrS;(case hx=>rfl);(case hi=>rfl);(case h0=>omega);(case h=>omega);(case hA=>(apply_assumption;omega)))|fail);(case hd=>rfl))|(apply v_cond;(case hc=>rfl);all_goals (intro h;(try simp only [reduceCtorEq,zzz] at h)))|(apply v_read;(case hop=>(apply r_loadN;rfl;exact CellsAt.frozen (hcp _ (by omega));rfl));(case hd=>rfl))|(apply v_callJ (hs:=q1 (by omega));(case ha=>rfl);(case hd=>rfl))|(apply v_read;(case hop=>(apply r_loadNo;(case hx=>rfl);(case h=>(repeat (exact mhd _)));(case hd=>(repeat (first|with_reducible exact dt_nil|apply dt_here)));(case hn=>rfl)));(case hd=>rfl))|(apply v_alloc;(case hz=>rfl);(case hd=>rfl);intro b)|(apply v_store;(case hp=>rfl);(case hx=>rfl);(case hc=>rfl);(case hsz=>rfl);(case h1=>rfl);(case hb=>(repeat (exact mhd _)));(case hfit=>exact nle rfl);(case hov=>((repeat (first|with_reducible exact ov_nil|apply ov_cons));done));(case hu=>repeat (exact Upd.here _ _)))|fail)
  · refine v_ret [] (outsA1 rfl rfl) (by repeat (exact List.nil_sublist _)) ?_
    refine ⟨?_,rfl⟩
    rw [hno,chkK,dif_pos (by omega),if_pos (by assumption)]
  · have hlt:k < l.length:=by omega
    refine d_start _ (by kernel_rfl) (by kernel_rfl) (by kernel_rfl) (fun _ he=>he) ?_
    all_goals (apply dtk 0;(case hi=>rfl);(case hop=>(apply prd;apply p_move <;> rfl));(case hq=>kernel_rfl))
    all_goals (apply dtk 1;(case hi=>rfl);(case hop=>(apply prd;apply p_gt <;> rfl));(case hq=>kernel_rfl))
    all_goals (apply dtk 2;(case hi=>rfl);(case hop=>(apply prd;apply p_move <;> rfl));(case hq=>kernel_rfl))
    all_goals (try (apply d_guardB 3;(case hi=>rfl);(case hgd=>rfl);(case h1=>rfl);(case h2=>rfl);all_goals (intro h;(try simp only [reduceCtorEq,zzz] at h))))
    all_goals (first|(apply dpa 3;(case hi=>rfl);(case hg=>rfl);(case hn=>rfl);(case hq=>kernel_rfl))|(apply dtg 3;(case hi=>rfl);(case hg=>rfl);(case hop=>(apply prd;apply p_fieldAddrB <;> rfl));(case hq=>kernel_rfl))|fail)
    all_goals (try (apply d_guardB 4;(case hi=>rfl);(case hgd=>rfl);(case h1=>rfl);(case h2=>rfl);all_goals (intro h;(try simp only [reduceCtorEq,zzz] at h))))
    all_goals (first|(apply dpa 4;(case hi=>rfl);(case hg=>rfl);(case hn=>rfl);(case hq=>kernel_rfl))|(apply dtg 4;(case hi=>rfl);(case hg=>rfl);(case hop=>(apply r_load1;rfl;(apply Cell.own;(case h=>(repeat (exact mhd _)));rfl)));(case hq=>kernel_rfl))|fail)
    all_goals (try (apply d_guardB 5;(case hi=>rfl);(case hgd=>rfl);(case h1=>rfl);(case h2=>rfl);all_goals (intro h;(try simp only [reduceCtorEq,zzz] at h))))
    all_goals (first|(apply dpa 5;(case hi=>rfl);(case hg=>rfl);(case hn=>rfl);(case hq=>kernel_rfl))|(apply dtg 5;(case hi=>rfl);(case hg=>rfl);(case hop=>(apply prd;apply p_move <;> rfl));(case hq=>kernel_rfl))|fail)
    all_goals (try (apply d_guardB 6;(case hi=>rfl);(case hgd=>rfl);(case h1=>rfl);(case h2=>rfl);all_goals (intro h;(try simp only [reduceCtorEq,zzz] at h))))
    all_goals (first|(apply dpa 6;(case hi=>rfl);(case hg=>rfl);(case hn=>rfl);(case hq=>kernel_rfl))|(apply dtg 6;(case hi=>rfl);(case hg=>rfl);(case hop=>(apply prd;apply p_move <;> rfl));(case hq=>kernel_rfl))|fail)
    all_goals (try (apply d_guardB 7;(case hi=>rfl);(case hgd=>rfl);(case h1=>rfl);(case h2=>rfl);all_goals (intro h;(try simp only [reduceCtorEq,zzz] at h))))
    all_goals (first|(apply dpa 7;(case hi=>rfl);(case hg=>rfl);(case hn=>rfl);(case hq=>kernel_rfl))|(apply dtg 7;(case hi=>rfl);(case hg=>rfl);(case hop=>(apply prd;apply p_sub;(case hx=>rfl);(case hy=>rfl);(case h=>omega)));(case hq=>kernel_rfl))|fail)
    all_goals (try (apply d_guardB 8;(case hi=>rfl);(case hgd=>rfl);(case h1=>rfl);(case h2=>rfl);all_goals (intro h;(try simp only [reduceCtorEq,zzz] at h))))
    all_goals (first|(apply dpa 8;(case hi=>rfl);(case hg=>rfl);(case hn=>rfl);(case hq=>kernel_rfl))|(apply dtg 8;(case hi=>rfl);(case hg=>rfl);(case hop=>(apply prd;apply p_indexAddrS;(case hx=>rfl);(case hi=>rfl);(case h0=>omega);(case h=>omega);(case hA=>(apply_assumption;omega))));(case hq=>kernel_rfl))|fail)
    all_goals (try (apply d_guardB 9;(case hi=>rfl);(case hgd=>rfl);(case h1=>rfl);(case h2=>rfl);all_goals (intro h;(try simp only [reduceCtorEq,zzz] at h))))
    all_goals (first|(apply dpa 9;(case hi=>rfl);(case hg=>rfl);(case hn=>rfl);(case hq=>kernel_rfl))|(apply dtg 9;(case hi=>rfl);(case hg=>rfl);(case hop=>(apply prd;apply p_fieldAddr <;> rfl));(case hq=>kernel_rfl))|fail)
    all_goals (try (apply d_guardB 10;(case hi=>rfl);(case hgd=>rfl);(case h1=>rfl);(case h2=>rfl);all_goals (intro h;(try simp only [reduceCtorEq,zzz] at h))))
    all_goals (first|(apply dpa 10;(case hi=>rfl);(case hg=>rfl);(case hn=>rfl);(case hq=>kernel_rfl))|(apply dtg 10;(case hi=>rfl);(case hg=>rfl);(case hop=>((apply r_load1;rfl;exact Cell.frozen (esCell hcp _ (by omega)))));(case hq=>kernel_rfl))|fail)
    all_goals (try (apply d_guardB 11;(case hi=>rfl);(case hgd=>rfl);(case h1=>rfl);(case h2=>rfl);all_goals (intro h;(try simp only [reduceCtorEq,zzz] at h))))
    all_goals (first|(apply dpa 11;(case hi=>rfl);(case hg=>rfl);(case hn=>rfl);(case hq=>kernel_rfl))|(apply dtg 11;(case hi=>rfl);(case hg=>rfl);(case hop=>(apply prd;apply p_le <;> rfl));(case hq=>kernel_rfl))|fail)
    all_goals (apply dtk 12;(case hi=>rfl);(case hop=>first|(apply prd;apply p_pickT <;> rfl)|(apply prd;apply p_pickF <;> rfl)|fail);(case hq=>kernel_rfl))
    all_goals (apply d_done;(case hr=>kernel_rfl))
    repeat' (first|apply v_seq|apply v_region|apply v_nil|apply v_skip|apply v_blk|(apply v_pure;(case hop=>first|(apply p_move <;> rfl)|(apply p_assign <;> rfl)|(apply p_add;(case hx=>rfl);(case hy=>rfl);(case h=>omega))|fail);(case hd=>rfl))|(apply v_condF;(case hc=>rfl))|(apply v_cond;(case hc=>rfl);all_goals (intro h;(try simp only [reduceCtorEq,zzz] at h)))|fail)
    all_goals try
      (refine v_ret [] (outsA1 rfl rfl) (by repeat (first|exact List.Sublist.refl _|exact List.nil_sublist _|fail)) ?_
       refine ⟨?_,rfl⟩
       rw [hno,chkK,dif_pos hlt,if_neg (by simpa using ‹oneI l[k] = 0›),dif_pos (by omega),if_pos (by simp only [e1,e2] at *;omega)])
    all_goals
      (refine v_drop (ν:=[]) (by repeat (exact List.nil_sublist _)) ?_
       refine v_again rfl ⟨rfl,rfl,k + 1,by omega,rfl,?_⟩ (by simp [headI];omega)
       rw [hno,chkK,dif_pos hlt,if_neg (by simpa using ‹oneI l[k] = 0›)]
       by_cases h0:0 < k
       · rw [dif_pos h0,if_neg (by simp only [e1,e2] at *;omega)]
       · rw [dif_neg h0])
  · refine v_ret [] (outsA1 rfl rfl) (by repeat (exact List.Sublist.refl _)) ?_
    refine ⟨?_,rfl⟩
    rw [hno,chkK,dif_neg (by omega)]
theorem bSame_s {G:GH} {a b:List Int} {av bv:Value} (ha:Sl G 1 (IntR .u8) av a) (hb:Sl G 1 (IntR .u8) bv b):Con Tryz.prog 16 #[av,bv] G [] (Just (.bool (decide (a = b))) G):=by
  obtain ⟨A,c,rfl,hlc,hcm,hsome,hel,_⟩:=ha.openInt
  obtain ⟨A',c',rfl,hlc',hcm',hsome',hel',_⟩:=hb.openInt
  simp only [maxLen] at hcm hcm'
  (refine v_enter Tryz.func16 rfl Tryz.ntmps16 rfl ?_;intro B _)
  repeat' (first|apply v_seq|apply v_region|apply v_nil|apply v_skip|apply v_block|(apply v_pure;(case hop=>first|(apply p_move <;> rfl)|(apply p_ne <;> rfl)|(apply p_assign <;> rfl)|(apply p_lenSlice <;> rfl)|fail);(case hd=>rfl))|(apply v_cond;(case hc=>rfl);all_goals (intro h;(try simp only [reduceCtorEq,zzz] at h)))|fail)
  · refine v_ret [] (outsA1 rfl rfl) (by repeat (exact List.Sublist.refl _)) ?_
    refine ⟨?_,rfl,rfl⟩
    rw [decide_eq_false]
    intro e
    subst e
    omega
  have hab:a.length = b.length:=by omega
  refine v_loop [5,0,1] (fun us G' μ'=>G' = G ∧ μ' = [] ∧ ∃ k,k ≤ a.length ∧ us = [Value.int .i64 (k:Nat),.slice A a.length c,.slice A' b.length c'] ∧ ∀ i (h:i < a.length) (h':i < b.length),i < k → a[i] = b[i]) (fun us=>a.length - (headI us).toNat) rfl ⟨rfl,rfl,0,by omega,rfl,by omega⟩ ?_
  rintro us G' μ' ⟨rfl,rfl,k,hk,rfl,hno⟩
  repeat' (first|apply v_seq|apply v_region|apply v_nil|apply v_skip|apply v_block|(apply v_exit;(case hp=>rfl))|(apply v_pure;(case hop=>first|(apply p_move <;> rfl)|(apply p_lt <;> rfl)|(apply p_assign <;> rfl)|(apply p_lenSlice <;> rfl)|fail);(case hd=>rfl))|(apply v_cond;(case hc=>rfl);all_goals (intro h;(try simp only [reduceCtorEq,zzz] at h)))|fail)
  · refine d_start [] (by kernel_rfl) (by kernel_rfl) (by kernel_rfl) (by intro e he;exact he) ?_
    all_goals (apply dtk 0;(case hi=>rfl);(case hop=>(apply prd;apply p_move <;> rfl));(case hq=>kernel_rfl))
    all_goals (apply dtk 1;(case hi=>rfl);(case hop=>(apply prd;apply p_move <;> rfl));(case hq=>kernel_rfl))
    all_goals (apply dtk 2;(case hi=>rfl);(case hop=>(apply prd;apply p_indexAddrS;(case hx=>rfl);(case hi=>rfl);(case h0=>omega);(case h=>omega);(case hA=>(apply_assumption;omega))));(case hq=>kernel_rfl))
    all_goals (apply dtk 3;(case hi=>rfl);(case hop=>((apply r_load1;rfl;exact Cell.frozen (hel _ (by omega)))));(case hq=>kernel_rfl))
    all_goals (apply dtk 4;(case hi=>rfl);(case hop=>(apply prd;apply p_move <;> rfl));(case hq=>kernel_rfl))
    all_goals (apply dtk 5;(case hi=>rfl);(case hop=>(apply prd;apply p_move <;> rfl));(case hq=>kernel_rfl))
    all_goals (apply dtk 6;(case hi=>rfl);(case hop=>(apply prd;apply p_indexAddrS;(case hx=>rfl);(case hi=>rfl);(case h0=>omega);(case h=>omega);(case hA=>(apply_assumption;omega))));(case hq=>kernel_rfl))
    all_goals (apply dtk 7;(case hi=>rfl);(case hop=>((apply r_load1;rfl;exact Cell.frozen (hel' _ (by omega)))));(case hq=>kernel_rfl))
    all_goals (apply dtk 8;(case hi=>rfl);(case hop=>(apply prd;apply p_ne <;> rfl));(case hq=>kernel_rfl))
    all_goals (apply d_done;(case hr=>kernel_rfl))
    repeat' (first|apply v_seq|apply v_region|apply v_nil|apply v_skip|apply v_blk|(apply v_pure;(case hop=>first|(apply p_move <;> rfl)|(apply p_assign <;> rfl)|(apply p_add;(case hx=>rfl);(case hy=>rfl);(case h=>omega))|fail);(case hd=>rfl))|(apply v_cond;(case hc=>rfl);all_goals (intro h;(try simp only [reduceCtorEq,zzz] at h)))|fail)
    · refine v_ret [] (outsA1 rfl rfl) (by repeat (exact List.Sublist.refl _)) ?_
      refine ⟨?_,rfl,rfl⟩
      rw [decide_eq_false]
      intro e
      subst e
      contradiction
    · refine v_again rfl ⟨rfl,rfl,k + 1,by omega,rfl,fun i h h' hi=>?_⟩ (by simp [headI];omega)
      by_cases hik:i = k
      · subst hik;assumption
      · exact hno i h h' (by omega)
  · refine v_ret [] (outsA1 rfl rfl) (by repeat (exact List.Sublist.refl _)) ?_
    refine ⟨?_,rfl,rfl⟩
    rw [decide_eq_true]
    exact List.ext_getElem hab fun i h h'=>hno i h h' (by omega)
structure Rc where
  kind:Int
  round:Int
  node:Int
  index:Int
  cmd:Cm
  image:List Int
def RcV (G:GH) (x:Rc) (v:Value):Prop := ∃ iv,v = .agg (recL x.kind x.round x.node x.index x.cmd iv).toArray ∧ Sl G 1 (IntR .u8) iv x.image
def Rc.large (x:Rc):Prop:=200 < x.cmd.key.size ∨ 200 < x.cmd.val.size ∨ 200 < x.cmd.old.size ∨ (300 < x.image.length ∧ x.image.length < 32760) ∨ 32780 < x.image.length
instance (x:Rc):Decidable x.large:=by unfold Rc.large;infer_instance
theorem recLarge_s {G:GH} {x:Rc} {xv:Value} (hx:RcV G x xv) (hc:x.cmd.ok):Con Tryz.prog 58 #[xv] G [] (Just (.bool (decide x.large)) G):=by
  obtain ⟨k,r,n,i,c,im⟩:=x
  obtain ⟨iv,rfl,hi⟩:=hx
  obtain ⟨A,cp,rfl,hlc,hcm,_⟩:=hi.openInt
  obtain ⟨_,_,_,hk,hv,ho,_⟩:=hc
  simp only [maxLen] at hk hv ho hcm
  simp only at hlc hi
  apply Con.just
  (refine v_enter Tryz.func58 rfl Tryz.ntmps58 rfl ?_;intro B _)
  repeat' (first|apply v_seq|apply v_region|apply v_nil|(apply v_take;(case hg=>rfl))|(apply v_pass;(case hg=>rfl);(case hn=>rfl);(case hd=>rfl))|(apply v_passN;(case hg=>rfl);(case hn=>rfl);(case hd=>rfl))|(apply v_pure;(case hop=>first|(apply p_move <;> rfl)|(apply p_lt <;> rfl)|(apply p_gt <;> rfl)|(apply p_assign <;> rfl)|(apply p_pickT <;> rfl)|(apply p_pickF <;> rfl)|(apply p_lenSlice <;> rfl)|(apply p_fieldAddrB <;> rfl)|(apply p_lenString <;> rfl)|fail);(case hd=>rfl))|(apply v_guardB;(case h1=>rfl);(case h2=>rfl);all_goals (intro h;(try simp only [reduceCtorEq,zzz] at h)))|(apply v_box (zs:=recL k r n i c (.slice A im.length cp));(case hx=>rfl);(case hz=>rfl);(case hd=>rfl);intro b1)|(apply v_read;(case hop=>(apply r_load1;rfl;(apply Cell.own;(case h=>(repeat (exact mhd _)));rfl)));(case hd=>rfl))|fail)
  all_goals
    (refine v_ret [] (outsA1 rfl rfl) (by repeat (exact List.nil_sublist _)) ?_
     refine ⟨?_,rfl⟩
     (try simp only [dec_eq])
     congr 1
     (try rw [decide_eq_decide])
     (try symm)
     first
       | (rw [decide_eq_true_iff];unfold Rc.large;simp only;omega)
       | (rw [decide_eq_false_iff_not];unfold Rc.large;simp only;omega)
       | (unfold Rc.large;simp only;omega))
theorem p_convU8 {σ:Env} {ty:TypeId} {x:Operand} {k k'':IntKind} {a:Int} {t u:TypeId} [Ty Tryz.prog t (.int k'')] [Ty Tryz.prog u (.int .u8)] (hx:Env.ev σ x = some (.int k a)):PureOp Tryz.prog (.convert t u x) ty σ (.int .u8 (a % 256)):=by
  have:=p_conv (P:=Tryz.prog) (ty:=ty) (t:=t) (u:=u) hx
  rwa [IntKind.wrap_u8] at this
theorem or128:∀ a:Nat,a < 256 → (BitVec.ofNat 8 a ||| 128#8).toNat = a % 128 + 128:=by decide +kernel
theorem p_or128 {σ:Env} {ty:TypeId} {x y:Operand} {a:Int} {t t':TypeId} (hx:Env.ev σ x = some (.int .u8 (a % 256))) (hy:Env.ev σ y = some (.int .u8 128)):PureOp Tryz.prog (.binOp .or t x y t') ty σ (.int .u8 (a % 128 + 128)):=by
  have:=p_or (P:=Tryz.prog) (ty:=ty) (t:=t) (t':=t') hx hy
  have e:IntKind.u8.wrap (BitVec.ofInt IntKind.u8.bits (a % 256) ||| BitVec.ofInt IntKind.u8.bits 128).toNat = a % 128 + 128:=by
    obtain ⟨m,hm⟩:=Int.eq_ofNat_of_zero_le (Int.emod_nonneg a (show (256:Int) ≠ 0 by decide))
    have hlt:m < 256:=by omega
    have h1:=or128 m hlt
    rw [hm]
    have e1:BitVec.ofInt IntKind.u8.bits (m:Int) = BitVec.ofNat 8 m:=by
      show BitVec.ofInt 8 (m:Int) = _
      exact BitVec.ofInt_natCast 8 m
    have e2:BitVec.ofInt IntKind.u8.bits 128 = 128#8:=rfl
    rw [e1,e2]
    show IntKind.u8.wrap (((BitVec.ofNat 8 m ||| 128#8).toNat:Nat):Int) = _
    rw [h1,IntKind.wrap_u8]
    omega
  rwa [e] at this
attribute [local semireducible] PureOp in
theorem p_shr7 {σ:Env} {ty:TypeId} {x y:Operand} {k':IntKind} {a:Int} {t t':TypeId} (hx:Env.ev σ x = some (.int .i64 a)) (hy:Env.ev σ y = some (.int k' 7)):PureOp Tryz.prog (.binOp .shr t x y t') ty σ (.int .i64 (a / 128)):=by
  intro dst pos af g ρ hρ w
  have:=shift_shr .i64 k' a 7 (by decide) (by decide)
  simp [execOp,hρ _ _ hx,hρ _ _ hy,eqGuard,binOp_shr,this]
def vb:Nat → Int → List Int
  | 0,n => [n]
  | f + 1,n=>if n < 128 then [n] else (n % 128 + 128) :: vb f (n / 128)
theorem vb_succ (f:Nat) (n:Int):vb (f + 1) n = if n < 128 then [n] else (n % 128 + 128) :: vb f (n / 128):=rfl
def vbytes (n:Int):List Int:=vb 10 (max n 0)
theorem vb_wf:∀ (f:Nat) (n:Int),0 ≤ n → n < 128 ^ (f + 1) → ∀ x ∈ vb f n,0 ≤ x ∧ x ≤ 255
  | 0,n,h0,h,x,hx=>by simp [vb] at hx;subst hx;omega
  | f + 1,n,h0,h,x,hx=>by
    unfold vb at hx
    split at hx
    · simp at hx;omega
    · simp only [List.mem_cons] at hx
      rcases hx with rfl|hx
      · omega
      · refine vb_wf f (n / 128) (by omega) ?_ x hx
        have:(128:Int) ^ (f + 1 + 1) = 128 * 128 ^ (f + 1):=by rw [Int.pow_succ,Int.mul_comm]
        omega
theorem vb_len:∀ (f:Nat) (n:Int),(vb f n).length ≤ f + 1 ∧ 1 ≤ (vb f n).length
  | 0,n=>by simp [vb]
  | f + 1,n=>by
    unfold vb
    split
    · simp
    · have:=vb_len f (n / 128)
      simp only [List.length_cons];omega
theorem p128 (n:Int) (hn:n ≤ 9223372036854775807):max n 0 < 128 ^ (10 + 1):=by
  have:(128:Int) ^ (10 + 1) = 151115727451828646838272:=by decide
  omega
theorem vbytes_wf {n:Int} (h:n ≤ 9223372036854775807):∀ x ∈ vbytes n,(Lit.int .u8 x).wf = true:=fun x hx=>by
  have:=vb_wf 10 (max n 0) (by omega) (p128 n h) x hx
  exact WalkArith.wf_u8 (by omega)
theorem vbytes_len (n:Int):(vbytes n).length ≤ 11 ∧ 1 ≤ (vbytes n).length:=vb_len 10 _
theorem bclone_s {G:GH} {l:List Int} {sv:Value} (hs:Sl G 1 (IntR .u8) sv l) (hl:l.length ≤ 1048576):Con Tryz.prog 76 #[sv] G [] (fun r G' μ'=>G' = G ∧ Grow 5 1 r l.length (l.map (.int .u8 ·)) μ'):=by
  obtain ⟨A,c,rfl,hlc,hcm,hsome,hel,_⟩:=hs.openInt
  simp only [maxLen] at hcm
  (refine v_enter Tryz.func76 rfl Tryz.ntmps76 rfl ?_;intro B _)
  repeat' (first|apply v_seq|apply v_region|apply v_nil|apply v_skip|(apply v_pure;(case hop=>first|(apply p_move <;> rfl)|(apply p_assign <;> rfl)|(apply p_eqNilSlice <;> rfl));(case hd=>rfl))|(apply v_cond;(case hc=>rfl);all_goals (intro h;(try simp only [reduceCtorEq,zzz] at h)))|(apply v_buildSlice;(case hz=>rfl);(case hi=>rfl);(case hv=>(simp only [List.map_cons,List.map_nil];repeat (with_reducible exact evs_nil)));(case hp=>(with_reducible exact pk_nil));(case hb=>rfl);(case hd=>rfl);intro b)|fail)
  · refine v_ret [] (outsA1 rfl rfl) (by repeat (exact List.Sublist.refl _)) ?_
    have:l = []:=by
      cases l with
      | nil=>rfl
      | cons a l=>have:=hsome (by simp);simp_all
    subst this
    exact ⟨rfl,Grow.nil _ _⟩
  · refine v_append (e:=5) (sz:=1) (zero:=.int .u8 0) rfl (by omega) rfl rfl Grow.empty (List.Perm.refl _) (Src.ints hs) (allOne_ints l) (by omega) (by simp only [maxLen];omega) rfl ?_
    intro v' ν' hg
    repeat' (first|apply v_nil|(apply v_pure;(case hop=>(apply p_assign <;> rfl));(case hd=>rfl))|fail)
    refine v_ret ν' (outsA1 rfl rfl) (by simp) ?_
    rw [Nat.zero_add,List.nil_append] at hg
    exact ⟨rfl,hg⟩
theorem pushLen {l xs:List Int} {y:Int}:(l ++ (xs ++ [y])).length = (l ++ xs).length + 1:=by simp;omega
theorem pushMap {l xs:List Int} {y:Int}:(l ++ (xs ++ [y])).map (Value.int .u8 ·) = (l ++ xs).map (Value.int .u8 ·) ++ [.int .u8 y]:=by simp
theorem put_s {G:GH} {l:List Int} {sv:Value} (n:Int) (hs:Sl G 1 (IntR .u8) sv l) (hl:l.length ≤ 1048000) (hn:n ≤ 9223372036854775807):Con Tryz.prog 101 #[sv,.int .i64 n] G [] (fun r G' μ'=>G' = G ∧ Grow 5 1 r (l ++ vbytes n).length ((l ++ vbytes n).map (.int .u8 ·)) μ'):=by
  (refine v_enter Tryz.func101 rfl Tryz.ntmps101 rfl ?_;intro B _)
  repeat' (first|apply v_seq|apply v_region|apply v_nil|(apply v_pure;(case hop=>first|(apply p_move <;> rfl)|(apply p_assign <;> rfl)|fail);(case hd=>rfl))|fail)
  refine v_call (μ1:=[]) (μ2:=_) rfl (bclone_s hs (by omega)) (List.Perm.refl _) rfl ?_
  rintro r G' μ1 - ⟨rfl,hg⟩
  repeat' (first|apply v_seq|apply v_region|apply v_nil|apply v_block|(apply v_pure;(case hop=>first|(apply p_move <;> rfl)|(apply p_assign <;> rfl)|(apply p_max <;> rfl)|fail);(case hd=>rfl))|fail)
  refine v_loopI (ι:=Nat × Int × List Int) [5,1] (fun x us G2 μ'=>G2 = G' ∧ ∃ v,us = [v,Value.int .i64 x.2.1] ∧ Grow 5 1 v (l ++ x.2.2).length ((l ++ x.2.2).map (.int .u8 ·)) μ' ∧ 0 ≤ x.2.1 ∧ x.2.1 < 128 ^ (x.1 + 1) ∧ x.2.1 ≤ 9223372036854775807 ∧ x.1 ≤ 10 ∧ x.2.2.length ≤ 10 - x.1 ∧ vbytes n = x.2.2 ++ vb x.1 x.2.1) (fun x=>x.1) rfl (10,max n 0,[]) ⟨rfl,_,rfl,by simpa using hg,by simp only;omega,p128 n hn,by simp only;omega,by simp,by simp,rfl⟩ ?_
  rintro ⟨f,m,xs⟩ us G2 μ' ⟨rfl,v,rfl,hg2,h0,hlt,hm,hf,hx,he⟩
  simp only at hg2 h0 hlt hm hf hx he
  repeat' (first|(apply v_pure;(case hop=>(apply p_convU8;(case hx=>rfl)));(case hd=>rfl))|apply v_seq|apply v_region|apply v_nil|apply v_skip|apply v_block|(apply v_exit;(case hp=>rfl))|(apply v_pure;(case hop=>first|(apply p_move <;> rfl)|(apply p_ge <;> rfl)|fail);(case hd=>rfl))|(apply v_cond;(case hc=>rfl);all_goals (intro h;(try simp only [reduceCtorEq,zzz] at h)))|(apply v_pure;(case hop=>(apply p_or128;(case hx=>rfl);(case hy=>rfl)));(case hd=>rfl))|(apply v_buildSlice;(case hz=>rfl);(case hi=>rfl);(case hv=>(simp only [List.map_cons,List.map_nil];repeat (first|with_reducible exact evs_nil|(apply evs_cons;(case h1=>rfl)))));(case hp=>(apply pk_cons;(case hc=>rfl);(case hs=>rfl);(case h=>(with_reducible exact pk_nil));(case he=>((repeat (first|with_reducible exact ap_nil|apply ap_cons));done))));(case hb=>rfl);(case hd=>rfl);intro b)|fail)
  · obtain ⟨f',rfl⟩:∃ f',f = f' + 1:=by
      cases f with
      | zero=>simp at hlt;omega
      | succ f'=>exact ⟨f',rfl⟩
    have hvb:vb (f' + 1) m = (m % 128 + 128) :: vb f' (m / 128):=by rw [vb_succ,if_neg (by omega)]
    refine v_append (e:=5) (sz:=1) (zero:=.int .u8 0) (m':=1) (us:=[.int .u8 (m % 128 + 128)]) rfl (by omega) rfl rfl hg2 (PickA.perm (by repeat (first|exact PickA.last|apply PickA.cons))) (Src.own (List.Mem.head _) rfl) rfl (by simp;omega) (by simp [maxLen];omega) rfl ?_
    intro v' ν' hg'
    repeat' (first|apply v_region|apply v_nil|apply v_blk|(apply v_pure;(case hop=>first|(apply p_move <;> rfl)|(apply p_assign <;> rfl)|fail);(case hd=>rfl))|(apply v_pure;(case hop=>(apply p_shr7;(case hx=>rfl);(case hy=>rfl)));(case hd=>rfl))|fail)
    refine v_only ν' (by repeat (exact PickA.here _)) ?_
    refine v_againI (f',m / 128,xs ++ [m % 128 + 128]) rfl ⟨rfl,v',rfl,?_,by simp only;omega,?_,by simp only;omega,by simp only;omega,by simp;omega,?_⟩ (by simp)
    · simp only
      rw [pushLen,pushMap]
      exact hg'
    · simp only
      have:(128:Int) ^ (f' + 1 + 1) = 128 * 128 ^ (f' + 1):=by rw [Int.pow_succ,Int.mul_comm]
      omega
    · simp only
      rw [he,hvb];simp
  · have hvb:vb f m = [m]:=by
      cases f with
      | zero=>rfl
      | succ f=>rw [vb_succ,if_pos (by omega)]
    refine v_append (e:=5) (sz:=1) (zero:=.int .u8 0) (m':=1) (us:=[.int .u8 (m % 256)]) rfl (by omega) rfl rfl hg2 (PickA.perm (by repeat (first|exact PickA.last|apply PickA.cons))) (Src.own (List.Mem.head _) rfl) rfl (by simp;omega) (by simp [maxLen];omega) rfl ?_
    intro v' ν' hg'
    repeat' (first|apply v_nil|(apply v_pure;(case hop=>(apply p_assign <;> rfl));(case hd=>rfl))|fail)
    refine v_ret ν' (outsA1 rfl rfl) (by repeat (exact List.sublist_append_left _ _)) ?_
    refine ⟨rfl,?_⟩
    rw [he,hvb,pushLen,pushMap]
    rw [show m % 256 = m by omega] at hg'
    exact hg'
theorem wnumber_s {G:GH} {l:List Int} {sv:Value} (wb:Nat) (n:Int) (hs:Sl G 1 (IntR .u8) sv l) (hl:l.length ≤ 1048000) (hn:n ≤ 9223372036854775807) :
    Con Tryz.prog 86 #[.pointer (some ⟨wb,0,none⟩),.int .i64 n] G [(wb,.cells [sv].toArray 130 (0,0))]
      (fun r G' μ'=>∃ v',μ' = [(wb,.cells [v'].toArray 130 (0,0))] ∧ Sl G' 1 (IntR .u8) v' (l ++ vbytes n)):=by
  obtain ⟨A,c,rfl,hlc,hcm,hsome,hel,hwf⟩:=hs.openInt
  (refine v_enter Tryz.func86 rfl Tryz.ntmps86 rfl ?_;intro B _)
  repeat' (first|apply v_seq|apply v_region|apply v_nil|(apply v_pure;(case hop=>first|(apply p_move <;> rfl)|(apply p_fieldAddrB <;> rfl)|(apply p_nilCheck <;> rfl)|(apply p_neNil <;> rfl)|fail);(case hd=>rfl))|(apply v_condT;(case hc=>rfl))|(apply v_read;(case hop=>(apply r_load1;rfl;(apply Cell.own;(case h=>(repeat (exact mhd _)));rfl)));(case hd=>rfl))|fail)
  refine v_call (μ1:=[]) (μ2:=_) rfl (put_s n hs hl hn) (List.Perm.refl _) rfl ?_
  rintro r G' μ1 - ⟨rfl,hg⟩
  obtain ⟨A1,c1,rfl,_⟩:=hg.shape
  refine v_frz μ1 (by repeat (exact PickA.here _)) ?_
  intro G1 hle hG
  repeat' (first|apply v_nil|(apply v_pure;(case hop=>first|(apply p_fieldAddrB <;> rfl)|(apply p_nilCheck <;> rfl)|fail);(case hd=>rfl))|(apply v_store;(case hp=>rfl);(case hx=>rfl);(case hc=>rfl);(case hsz=>rfl);(case h1=>rfl);(case hb=>(repeat (exact mhd _)));(case hfit=>exact nle rfl);(case hov=>((repeat (first|with_reducible exact ov_nil|apply ov_cons));done));(case hu=>repeat (exact Upd.here _ _)))|fail)
  refine v_end [(wb,_)] (outsA0 rfl) (by repeat (exact List.Sublist.refl _)) ?_
  refine ⟨_,rfl,hg.ints hG fun x hx=>?_⟩
  rcases List.mem_append.1 hx with hx|hx
  · exact hwf x hx
  · exact vbytes_wf hn x hx
theorem wbytes_s {G:GH} {l:List Int} {sv:Value} (wb:Nat) (hs:Sl G 1 (IntR .u8) sv l) (hl:l.length ≤ 1048000) :
    Con Tryz.prog 87 #[.pointer (some ⟨wb,0,none⟩)] G [(wb,.cells [sv].toArray 130 (0,0))]
      (fun r G' μ'=>μ' = [] ∧ Sl G' 1 (IntR .u8) r l):=by
  obtain ⟨A,c,rfl,hlc,hcm,hsome,hel,hwf⟩:=hs.openInt
  (refine v_enter Tryz.func87 rfl Tryz.ntmps87 rfl ?_;intro B _)
  repeat' (first|apply v_seq|apply v_region|apply v_nil|apply v_skip|(apply v_pure;(case hop=>first|(apply p_move <;> rfl)|(apply p_assign <;> rfl)|(apply p_fieldAddrB <;> rfl)|(apply p_nilCheck <;> rfl)|(apply p_eqNil <;> rfl)|fail);(case hd=>rfl))|(apply v_condF;(case hc=>rfl))|(apply v_read;(case hop=>(apply r_load1;rfl;(apply Cell.own;(case h=>(repeat (exact mhd _)));rfl)));(case hd=>rfl))|fail)
  refine v_call (μ1:=[]) (μ2:=_) rfl (bclone_s hs (by omega)) (List.Perm.refl _) rfl ?_
  rintro r G' μ1 - ⟨rfl,hg⟩
  refine v_frz μ1 (by repeat (exact PickA.here _)) ?_
  intro G1 hle hG
  repeat' (first|apply v_nil|(apply v_pure;(case hop=>(apply p_assign <;> rfl));(case hd=>rfl))|fail)
  refine v_ret [] (outsA1 rfl rfl) (by repeat (exact List.nil_sublist _)) ?_
  exact ⟨rfl,hg.ints hG hwf⟩
end Go.Proofs.YtpemabgfmnhhnaaGreatDoor
/-
  recone (layer 16), the fifth part: what V1 has; the example.
-/
set_option linter.unusedSimpArgs false
set_option linter.unusedVariables false
namespace Go.Proofs.YtpemabgfmnhhnaaGreatDoor
open Go.Vx Go.ChangeShapes Go.WideShapes Go.ChangeAt Go.RowKit
def HasV (v k:Int):Prop:=(v = 1 ∧ 1 ≤ k ∧ k ≤ 8 ∧ k ≠ 5) ∨ (v = 2 ∧ 1 ≤ k ∧ k ≤ 8)
instance (v k:Int):Decidable (HasV v k):=by unfold HasV;infer_instance
theorem vmay_s (G:GH) (v:Int):Con Tryz.prog 47 #[.int .i64 v] G [] (Just (.bool (decide (v = 1 ∨ v = 2))) G):=by
  (refine v_enter Tryz.func47 rfl Tryz.ntmps47 rfl ?_;intro B _)
  repeat' (first|apply v_seq|apply v_region|apply v_nil|apply v_skip|apply v_block|apply v_blk|(apply v_exit;(case hp=>rfl))|(apply v_pure;(case hop=>first|(apply p_move <;> rfl)|(apply p_eq <;> rfl)|(apply p_assign <;> rfl)|fail);(case hd=>rfl))|(apply v_cond;(case hc=>rfl);all_goals (intro h;(try simp only [reduceCtorEq,zzz] at h)))|fail)
  all_goals
    (refine v_ret [] (outsA1 rfl rfl) (by repeat (exact List.Sublist.refl _)) ?_
     refine ⟨?_,rfl,rfl⟩
     (simp [dec_eq, *];done))
theorem vhas_s (G:GH) (v k:Int):Con Tryz.prog 170 #[.int .i64 v,.int .i64 k] G [] (Just (.bool (decide (HasV v k))) G):=by
  (refine v_enter Tryz.func170 rfl Tryz.ntmps170 rfl ?_;intro B _)
  repeat' (first|apply v_seq|apply v_region|apply v_nil|apply v_skip|apply v_block|apply v_blk|(apply v_pure;(case hop=>first|(apply p_move <;> rfl)|(apply p_eq <;> rfl)|(apply p_ge <;> rfl)|(apply p_assign <;> rfl)|(apply p_not <;> rfl)|fail);(case hd=>rfl))|(apply v_cond;(case hc=>rfl);all_goals (intro h;(try simp only [reduceCtorEq,zzz] at h);first|(exfalso;omega)|skip))|(apply v_callJ (hs:=vmay_s _ _);(case ha=>rfl);(case hd=>rfl))|fail)
  all_goals
    (refine v_ret [] (outsA1 rfl rfl) (by repeat (exact List.Sublist.refl _)) ?_
     refine ⟨?_,rfl,rfl⟩
     (try simp only [dec_eq])
     congr 1
     (try symm)
     first
       | (rw [decide_eq_true_iff];unfold HasV;omega)
       | (rw [decide_eq_false_iff_not];unfold HasV;omega)
       | (rw [decide_eq_decide];unfold HasV;omega))
theorem refVHas_s (G:GH) (v k:Int):Con Tryz.prog 90 #[.int .i64 v,.int .i64 k] G [] (Just (.bool (decide (HasV v k))) G):=by
  (refine v_enter Tryz.func90 rfl Tryz.ntmps90 rfl ?_;intro B _)
  repeat' (first|apply v_seq|apply v_region|apply v_nil|apply v_skip|(apply v_take;(case hg=>rfl))|(apply v_pass;(case hg=>rfl);(case hn=>rfl);(case hd=>rfl))|(apply v_passN;(case hg=>rfl);(case hn=>rfl);(case hd=>rfl))|(apply v_pure;(case hop=>first|(apply p_move <;> rfl)|(apply p_eq <;> rfl)|(apply p_lt <;> rfl)|(apply p_gt <;> rfl)|(apply p_ne <;> rfl)|(apply p_assign <;> rfl)|(apply p_pickT <;> rfl)|(apply p_pickF <;> rfl)|fail);(case hd=>rfl))|(apply v_condT;(case hc=>rfl))|(apply v_cond;(case hc=>rfl);all_goals (intro h;(try simp only [reduceCtorEq,zzz] at h)))|(apply v_guardB;(case h1=>rfl);(case h2=>rfl);all_goals (intro h;(try simp only [reduceCtorEq,zzz] at h)))|fail)
  all_goals
    (refine v_ret [] (outsA1 rfl rfl) (by repeat (exact List.Sublist.refl _)) ?_
     refine ⟨?_,rfl,rfl⟩
     first
       | (rw [decide_eq_true (p:=HasV v k) (by unfold HasV;omega)];done)
       | (rw [decide_eq_false (p:=HasV v k) (by unfold HasV;omega)];done)
       | (simp only [dec_eq];congr 1;rw [Bool.eq_iff_iff];simp [HasV];omega)
       | (simp only [dec_eq];congr 1;rw [Bool.eq_iff_iff];simp [HasV];grind))
noncomputable def olderI (x:Rc):Int:=if recI x.kind x.round x.node x.index x.cmd x.image.length ≠ 0 then recI x.kind x.round x.node x.index x.cmd x.image.length else if (x.kind = 2 ∨ x.kind = 3) ∧ ¬ HasV 1 x.cmd.kind then 8 else 0
theorem older_s {G:GH} (hT:TabsG G) {x:Rc} {xv:Value} (hx:RcV G x xv) (hc:x.cmd.ok):Con Tryz.prog 134 #[xv] G [] (Just (.int .i64 (olderI x)) G):=by
  obtain ⟨k,r,n,i,c,im⟩:=x
  obtain ⟨iv,rfl,hi⟩:=hx
  obtain ⟨A,cp,rfl,hlc,hcm,_⟩:=hi.openInt
  simp only [maxLen] at hcm
  simp only at hc hlc hi
  have q:=recCheck_s hT k r n i c hc A im.length cp (by omega)
  have qf:=rfields_s G k
  have qv:=vhas_s G 1 c.kind
  apply Con.just
  (refine v_enter Tryz.func134 rfl Tryz.ntmps134 rfl ?_;intro B _)
  by_cases hk:1 ≤ k ∧ k ≤ 4
  · rw [decide_eq_true hk] at qf
    obtain rfl|rfl|rfl|rfl:k = 1 ∨ k = 2 ∨ k = 3 ∨ k = 4:=by omega
    all_goals
      repeat' (first|apply v_seq|apply v_region|apply v_nil|apply v_skip|(apply v_take;(case hg=>rfl))|(apply v_pass;(case hg=>rfl);(case hn=>rfl);(case hd=>rfl))|(apply v_pure;(case hop=>first|(apply p_move <;> rfl)|(apply p_ne <;> rfl)|(apply p_assign <;> rfl)|(apply p_pickT <;> rfl)|(apply p_pickF <;> rfl)|(apply p_not <;> rfl)|(apply p_fieldAddrB <;> rfl)|(apply p_extract0 <;> rfl)|(apply p_extract1 <;> rfl)|fail);(case hd=>rfl))|(apply v_condF;(case hc=>rfl))|(apply v_cond;(case hc=>rfl);all_goals (intro h;(try simp only [reduceCtorEq,zzz] at h)))|(apply v_box (zs:=recL _ r n i c (.slice A im.length cp));(case hx=>rfl);(case hz=>rfl);(case hd=>rfl);intro b1)|(apply v_callJ (hs:=q);(case ha=>rfl);(case hd=>rfl))|(apply v_callJ (hs:=qf);(case ha=>rfl);(case hd=>rfl))|(apply v_callJ (hs:=qv);(case ha=>rfl);(case hd=>rfl))|(apply v_read;(case hop=>first|(apply r_loadNo;(case hx=>rfl);(case h=>(repeat (exact mhd _)));(case hd=>(repeat (first|with_reducible exact dt_nil|apply dt_here)));(case hn=>rfl))|(apply r_load1;rfl;(apply Cell.own;(case h=>(repeat (first|exact mhd _|apply mtl)));rfl))|fail);(case hd=>rfl))|(apply v_alloc;(case hz=>rfl);(case hd=>rfl);intro b)|(apply v_store;(case hp=>rfl);(case hx=>rfl);(case hc=>rfl);(case hsz=>rfl);(case h1=>rfl);(case hb=>(repeat (exact mhd _)));(case hfit=>exact nle rfl);(case hov=>((repeat (first|with_reducible exact ov_nil|apply ov_cons));done));(case hu=>repeat (exact Upd.here _ _)))|fail)
    all_goals
      (refine v_ret [] (outsA1 rfl rfl) (by repeat (exact List.nil_sublist _)) ?_
       refine ⟨?_,rfl⟩
       clear q qf qv
       simp [olderI, *])
  · have e:hasL k = [.bool false,.bool false,.bool false,.bool false]:=by unfold hasL;rw [if_neg (by omega),if_neg (by omega),if_neg (by omega),if_neg (by omega)]
    rw [decide_eq_false hk,e] at qf
    have e2:recI k r n i c im.length = 5:=by rw [recI,if_pos (by omega)]
    rw [e2] at q
    repeat' (first|apply v_seq|apply v_region|apply v_nil|(apply v_pure;(case hop=>first|(apply p_move <;> rfl)|(apply p_ne <;> rfl)|(apply p_assign <;> rfl)|fail);(case hd=>rfl))|(apply v_cond;(case hc=>rfl);all_goals (intro h;(try simp only [reduceCtorEq,zzz] at h);first|(exfalso;omega)|skip))|(apply v_box (zs:=recL k r n i c (.slice A im.length cp));(case hx=>rfl);(case hz=>rfl);(case hd=>rfl);intro b1)|(apply v_callJ (hs:=q);(case ha=>rfl);(case hd=>rfl))|(apply v_read;(case hop=>(apply r_loadNo;(case hx=>rfl);(case h=>(repeat (exact mhd _)));(case hd=>(repeat (first|with_reducible exact dt_nil|apply dt_here)));(case hn=>rfl)));(case hd=>rfl))|fail)
    refine v_ret [] (outsA1 rfl rfl) (by repeat (exact List.nil_sublist _)) ?_
    refine ⟨?_,rfl⟩
    simp [olderI,e2]
theorem cmCell {G:GH} {A:Option Addr} {l:List Ent} (hcc:∀ i (h:i < l.length),CellsG G (((adr A).add (i * 10)).add 3) l[i].cmd.cells) (i:Nat) (h:i < l.length) (j:Nat) (v:Value) (hv:l[i].cmd.cells[j]? = some v):GH.cell? G ((((adr A).add (i * 10)).add 3).add j) = some v:=(hcc i h).cell hv
theorem oneI_six {x:Ent} (h:x.index < 1 ∨ 4294967296 < x.index ∨ ¬ mayP x.round x.node):oneI x = 6:=by rw [oneI,if_pos h]
theorem oneI_cmd {x:Ent} (h:¬ x.index < 1) (h1:¬ 4294967296 < x.index) (h2:mayP x.round x.node):oneI x = cmdI x.cmd:=by
  rw [oneI,if_neg]
  rintro (h'|h'|h')
  · exact h h'
  · exact h1 h'
  · exact h' h2
theorem chkK_bad {l:List Ent} {k:Nat} (hlt:k < l.length) {z:Int} (h:oneI l[k] = z) (hz:z ≠ 0):chkK l k = z:=by rw [chkK,dif_pos hlt,if_pos (by rw [h];exact hz),h]
theorem chkK_low {l:List Ent} {k:Nat} (hlt:k < l.length) (h:oneI l[k] = 0) (h0:0 < k) (h1:l[k].index ≤ (l[k - 1]'(by omega)).index):chkK l k = 12:=by rw [chkK,dif_pos hlt,if_neg (by simpa using h),dif_pos h0,if_pos h1]
theorem chkK_next {l:List Ent} {k:Nat} (hlt:k < l.length) (h:oneI l[k] = 0) (h1:∀ h0:0 < k,¬ l[k].index ≤ (l[k - 1]'(by omega)).index):chkK l k = chkK l (k + 1):=by
  rw [chkK,dif_pos hlt,if_neg (by simpa using h)]
  by_cases h0:0 < k
  · rw [dif_pos h0,if_neg (h1 h0)]
  · rw [dif_neg h0]
theorem chkK_end {l:List Ent} {k:Nat} (h:¬ k < l.length):chkK l k = 0:=by rw [chkK,dif_neg h]
theorem refEntCheck_s {G:GH} {l:List Ent} {sv:Value} (hs:Es G sv l):Con Tryz.prog 53 #[sv] G [] (Just (.int .i64 (chkK l 0)) G):=by
  obtain ⟨A,c,rfl,hlc,hcm,hsome,hcp,hcb,hcc,hok⟩:=esOpen hs
  simp only [maxLen] at hcm
  apply Con.just
  (refine v_enter Tryz.func53 rfl Tryz.ntmps53 rfl ?_;intro B _)
  repeat' (first|apply v_seq|apply v_region|apply v_nil|apply v_block|(apply v_pure;(case hop=>(apply p_assign <;> rfl));(case hd=>rfl))|fail)
  refine v_loop [3,0] (fun us G' μ'=>G' = G ∧ μ' = [] ∧ ∃ k,k ≤ l.length ∧ us = [Value.int .i64 (k:Nat),.slice A l.length c] ∧ chkK l 0 = chkK l k) (fun us=>l.length - (headI us).toNat) rfl ⟨rfl,rfl,0,by omega,rfl,rfl⟩ ?_
  rintro us G' μ' ⟨rfl,rfl,k,hk,rfl,hno⟩
  have e1:((k:Nat):Int).toNat = k:=by omega
  have e2:(((k:Nat):Int) - 1).toNat = k - 1:=by omega
  have qc:=fun (h:k < l.length)=>Con.just (refCmdCheck_s (G:=G') l[k].cmd (hok k h).2.2.2)
  have qm:=fun (h:k < l.length)=>refMay_s G' l[k].round l[k].node
  repeat' (first|apply v_seq|apply v_region|apply v_nil|apply v_skip|apply v_block|(apply v_exit;(case hp=>rfl))|(apply v_take;(case hg=>rfl))|(apply v_pass;(case hg=>rfl);(case hn=>rfl);(case hd=>rfl))|(apply v_pure;(case hop=>first|(apply p_move <;> rfl)|(apply p_lt <;> rfl)|(apply p_gt <;> rfl)|(apply p_ne <;> rfl)|(apply p_assign <;> rfl)|(apply p_pickT <;> rfl)|(apply p_pickF <;> rfl)|(apply p_not <;> rfl)|(apply p_lenSlice <;> rfl)|(apply p_fieldAddr <;> rfl)|(apply p_indexAddrS;(case hx=>rfl);(case hi=>rfl);(case h0=>omega);(case h=>omega);(case hA=>(apply_assumption;omega)))|fail);(case hd=>rfl))|(apply v_condT;(case hc=>rfl))|(apply v_cond;(case hc=>rfl);all_goals (intro h;(try simp only [reduceCtorEq,zzz] at h)))|(apply v_guardB;(case h1=>rfl);(case h2=>rfl);all_goals (intro h;(try simp only [reduceCtorEq,zzz] at h)))|(apply v_read;(case hop=>first|(apply r_load1;rfl;exact Cell.frozen (esCell hcp _ (by omega)))|(apply r_loadN;rfl;exact CellsAt.frozen (hcb _ (by omega));rfl)|(apply r_loadN;rfl;exact CellsAt.frozen (hcc _ (by omega));rfl)|fail);(case hd=>rfl))|(apply v_callJ (hs:=qm (by omega));(case ha=>rfl);(case hd=>rfl))|(apply v_callJ (hs:=qc (by omega));(case ha=>rfl);(case hd=>rfl))|fail)
  · refine v_ret [] (outsA1 rfl rfl) (by repeat (exact List.Sublist.refl _)) ?_
    refine ⟨?_,rfl⟩
    rw [hno,chkK_bad (by omega) (oneI_six (.inl (by assumption))) (by decide)]
  · refine v_ret [] (outsA1 rfl rfl) (by repeat (exact List.Sublist.refl _)) ?_
    refine ⟨?_,rfl⟩
    rw [hno,chkK_bad (by omega) (oneI_six (.inr (.inl (by assumption)))) (by decide)]
  · refine v_ret [] (outsA1 rfl rfl) (by repeat (exact List.Sublist.refl _)) ?_
    refine ⟨?_,rfl⟩
    rw [hno,chkK_bad (by omega) (oneI_six (.inr (.inr (by assumption)))) (by decide)]
  · refine v_ret [] (outsA1 rfl rfl) (by repeat (exact List.Sublist.refl _)) ?_
    refine ⟨?_,rfl⟩
    rw [hno,chkK_bad (by omega) (oneI_cmd (by assumption) (by assumption) (by assumption)) (by assumption)]
  · have hlt:k < l.length:=by omega
    have q0:oneI l[k] = 0:=by rw [oneI_cmd (by assumption) (by assumption) (by assumption)];assumption
    clear qc qm
    refine d_start [] (by kernel_rfl) (by kernel_rfl) (by kernel_rfl) (by intro e he;exact he) ?_
    all_goals (apply dtk 0;(case hi=>rfl);(case hop=>(apply prd;apply p_move <;> rfl));(case hq=>kernel_rfl))
    all_goals (apply dtk 1;(case hi=>rfl);(case hop=>(apply prd;apply p_gt <;> rfl));(case hq=>kernel_rfl))
    all_goals (apply dtk 2;(case hi=>rfl);(case hop=>(apply prd;apply p_move <;> rfl));(case hq=>kernel_rfl))
    all_goals (try (apply d_guardB 3;(case hi=>rfl);(case hgd=>rfl);(case h1=>rfl);(case h2=>rfl);all_goals (intro h;(try simp only [reduceCtorEq,zzz] at h))))
    all_goals (first|(apply dpa 3;(case hi=>rfl);(case hg=>rfl);(case hn=>rfl);(case hq=>kernel_rfl))|(apply dtg 3;(case hi=>rfl);(case hg=>rfl);(case hop=>(apply prd;apply p_move <;> rfl));(case hq=>kernel_rfl))|fail)
    all_goals (try (apply d_guardB 4;(case hi=>rfl);(case hgd=>rfl);(case h1=>rfl);(case h2=>rfl);all_goals (intro h;(try simp only [reduceCtorEq,zzz] at h))))
    all_goals (first|(apply dpa 4;(case hi=>rfl);(case hg=>rfl);(case hn=>rfl);(case hq=>kernel_rfl))|(apply dtg 4;(case hi=>rfl);(case hg=>rfl);(case hop=>(apply prd;apply p_move <;> rfl));(case hq=>kernel_rfl))|fail)
    all_goals (try (apply d_guardB 5;(case hi=>rfl);(case hgd=>rfl);(case h1=>rfl);(case h2=>rfl);all_goals (intro h;(try simp only [reduceCtorEq,zzz] at h))))
    all_goals (first|(apply dpa 5;(case hi=>rfl);(case hg=>rfl);(case hn=>rfl);(case hq=>kernel_rfl))|(apply dtg 5;(case hi=>rfl);(case hg=>rfl);(case hop=>(apply prd;apply p_indexAddrS;(case hx=>rfl);(case hi=>rfl);(case h0=>omega);(case h=>omega);(case hA=>(apply_assumption;omega))));(case hq=>kernel_rfl))|fail)
    all_goals (try (apply d_guardB 6;(case hi=>rfl);(case hgd=>rfl);(case h1=>rfl);(case h2=>rfl);all_goals (intro h;(try simp only [reduceCtorEq,zzz] at h))))
    all_goals (first|(apply dpa 6;(case hi=>rfl);(case hg=>rfl);(case hn=>rfl);(case hq=>kernel_rfl))|(apply dtg 6;(case hi=>rfl);(case hg=>rfl);(case hop=>(apply prd;apply p_fieldAddr <;> rfl));(case hq=>kernel_rfl))|fail)
    all_goals (try (apply d_guardB 7;(case hi=>rfl);(case hgd=>rfl);(case h1=>rfl);(case h2=>rfl);all_goals (intro h;(try simp only [reduceCtorEq,zzz] at h))))
    all_goals (first|(apply dpa 7;(case hi=>rfl);(case hg=>rfl);(case hn=>rfl);(case hq=>kernel_rfl))|(apply dtg 7;(case hi=>rfl);(case hg=>rfl);(case hop=>((apply r_load1;rfl;exact Cell.frozen (esCell hcp _ (by omega)))));(case hq=>kernel_rfl))|fail)
    all_goals (try (apply d_guardB 8;(case hi=>rfl);(case hgd=>rfl);(case h1=>rfl);(case h2=>rfl);all_goals (intro h;(try simp only [reduceCtorEq,zzz] at h))))
    all_goals (first|(apply dpa 8;(case hi=>rfl);(case hg=>rfl);(case hn=>rfl);(case hq=>kernel_rfl))|(apply dtg 8;(case hi=>rfl);(case hg=>rfl);(case hop=>(apply prd;apply p_move <;> rfl));(case hq=>kernel_rfl))|fail)
    all_goals (try (apply d_guardB 9;(case hi=>rfl);(case hgd=>rfl);(case h1=>rfl);(case h2=>rfl);all_goals (intro h;(try simp only [reduceCtorEq,zzz] at h))))
    all_goals (first|(apply dpa 9;(case hi=>rfl);(case hg=>rfl);(case hn=>rfl);(case hq=>kernel_rfl))|(apply dtg 9;(case hi=>rfl);(case hg=>rfl);(case hop=>(apply prd;apply p_move <;> rfl));(case hq=>kernel_rfl))|fail)
    all_goals (try (apply d_guardB 10;(case hi=>rfl);(case hgd=>rfl);(case h1=>rfl);(case h2=>rfl);all_goals (intro h;(try simp only [reduceCtorEq,zzz] at h))))
    all_goals (first|(apply dpa 10;(case hi=>rfl);(case hg=>rfl);(case hn=>rfl);(case hq=>kernel_rfl))|(apply dtg 10;(case hi=>rfl);(case hg=>rfl);(case hop=>(apply prd;apply p_sub;(case hx=>rfl);(case hy=>rfl);(case h=>omega)));(case hq=>kernel_rfl))|fail)
    all_goals (try (apply d_guardB 11;(case hi=>rfl);(case hgd=>rfl);(case h1=>rfl);(case h2=>rfl);all_goals (intro h;(try simp only [reduceCtorEq,zzz] at h))))
    all_goals (first|(apply dpa 11;(case hi=>rfl);(case hg=>rfl);(case hn=>rfl);(case hq=>kernel_rfl))|(apply dtg 11;(case hi=>rfl);(case hg=>rfl);(case hop=>(apply prd;apply p_indexAddrS;(case hx=>rfl);(case hi=>rfl);(case h0=>omega);(case h=>omega);(case hA=>(apply_assumption;omega))));(case hq=>kernel_rfl))|fail)
    all_goals (try (apply d_guardB 12;(case hi=>rfl);(case hgd=>rfl);(case h1=>rfl);(case h2=>rfl);all_goals (intro h;(try simp only [reduceCtorEq,zzz] at h))))
    all_goals (first|(apply dpa 12;(case hi=>rfl);(case hg=>rfl);(case hn=>rfl);(case hq=>kernel_rfl))|(apply dtg 12;(case hi=>rfl);(case hg=>rfl);(case hop=>(apply prd;apply p_fieldAddr <;> rfl));(case hq=>kernel_rfl))|fail)
    all_goals (try (apply d_guardB 13;(case hi=>rfl);(case hgd=>rfl);(case h1=>rfl);(case h2=>rfl);all_goals (intro h;(try simp only [reduceCtorEq,zzz] at h))))
    all_goals (first|(apply dpa 13;(case hi=>rfl);(case hg=>rfl);(case hn=>rfl);(case hq=>kernel_rfl))|(apply dtg 13;(case hi=>rfl);(case hg=>rfl);(case hop=>((apply r_load1;rfl;exact Cell.frozen (esCell hcp _ (by omega)))));(case hq=>kernel_rfl))|fail)
    all_goals (try (apply d_guardB 14;(case hi=>rfl);(case hgd=>rfl);(case h1=>rfl);(case h2=>rfl);all_goals (intro h;(try simp only [reduceCtorEq,zzz] at h))))
    all_goals (first|(apply dpa 14;(case hi=>rfl);(case hg=>rfl);(case hn=>rfl);(case hq=>kernel_rfl))|(apply dtg 14;(case hi=>rfl);(case hg=>rfl);(case hop=>(apply prd;apply p_le <;> rfl));(case hq=>kernel_rfl))|fail)
    all_goals (apply dtk 15;(case hi=>rfl);(case hop=>first|(apply prd;apply p_pickT <;> rfl)|(apply prd;apply p_pickF <;> rfl)|fail);(case hq=>kernel_rfl))
    all_goals (apply d_done;(case hr=>kernel_rfl))
    repeat' (first|apply v_seq|apply v_region|apply v_nil|apply v_skip|apply v_blk|(apply v_pure;(case hop=>first|(apply p_move <;> rfl)|(apply p_assign <;> rfl)|(apply p_add;(case hx=>rfl);(case hy=>rfl);(case h=>omega))|fail);(case hd=>rfl))|(apply v_condF;(case hc=>rfl))|(apply v_cond;(case hc=>rfl);all_goals (intro h;(try simp only [reduceCtorEq,zzz] at h)))|fail)
    all_goals try
      (refine v_ret [] (outsA1 rfl rfl) (by repeat (exact List.Sublist.refl _)) ?_
       refine ⟨?_,rfl⟩
       rw [hno,chkK_low hlt q0 (by omega) (by simp only [e1,e2] at *;omega)])
    all_goals
      (refine v_again rfl ⟨rfl,rfl,k + 1,by omega,rfl,?_⟩ (by simp [headI];omega)
       rw [hno]
       exact chkK_next hlt q0 (fun h0=>by simp only [e1,e2] at *;omega))
  · refine v_ret [] (outsA1 rfl rfl) (by repeat (exact List.Sublist.refl _)) ?_
    refine ⟨?_,rfl⟩
    rw [hno,chkK_end (by omega)]
theorem p_convUW {σ:Env} {ty:TypeId} {x:Operand} {k'':IntKind} {a:Int} {t u:TypeId} [Ty Tryz.prog t (.int k'')] [Ty Tryz.prog u (.int .u64)] (hx:Env.ev σ x = some (.int .i64 (IntKind.i64.wrap a))) (h:0 ≤ a ∧ a ≤ 18446744073709551615):PureOp Tryz.prog (.convert t u x) ty σ (.int .u64 a):=by
  have e:IntKind.u64.wrap (IntKind.i64.wrap a) = a:=by rw [IntKind.wrap_u64,IntKind.wrap_i64];omega
  have:=p_conv (P:=Tryz.prog) (ty:=ty) (t:=t) (u:=u) hx
  rwa [e] at this
attribute [local semireducible] PureOp in
theorem p_shr1 {σ:Env} {ty:TypeId} {x y:Operand} {k':IntKind} {a:Int} {t t':TypeId} (hx:Env.ev σ x = some (.int .u64 a)) (hy:Env.ev σ y = some (.int k' 1)):PureOp Tryz.prog (.binOp .shr t x y t') ty σ (.int .u64 (a / 2)):=by
  intro dst pos af g ρ hρ w
  have:=shift_shr .u64 k' a 1 (by decide) (by decide)
  simp [execOp,hρ _ _ hx,hρ _ _ hy,eqGuard,binOp_shr,this]
theorem isNaN_s (G:GH) (a:Int):Con Tryz.prog 166 #[.int .i64 a] G [] (Just (.bool false) G):=by
  apply Con.just
  (refine v_enter Tryz.func166 rfl Tryz.ntmps166 rfl ?_;intro B _)
  repeat' (first|apply v_seq|apply v_region|apply v_nil|(apply v_pure;(case hop=>first|(apply p_move <;> rfl)|(apply p_nes <;> rfl)|(apply p_assign <;> rfl)|fail);(case hd=>rfl))|fail)
  refine v_ret [] (outsA1 rfl rfl) (by repeat (exact List.Sublist.refl _)) ?_
  refine ⟨?_,rfl⟩
  simp [dec_eq]
def cmpI (a b:Int):Int:=if a < b then -1 else if b < a then 1 else 0
theorem cmp_s (G:GH) (a b:Int):Con Tryz.prog 127 #[.int .i64 a,.int .i64 b] G [] (Just (.int .i64 (cmpI a b)) G):=by
  have qa:=isNaN_s G a
  have qb:=isNaN_s G b
  apply Con.just
  (refine v_enter Tryz.func127 rfl Tryz.ntmps127 rfl ?_;intro B _)
  repeat' (first|apply v_seq|apply v_region|apply v_nil|apply v_skip|(apply v_pure;(case hop=>first|(apply p_move <;> rfl)|(apply p_lt <;> rfl)|(apply p_gt <;> rfl)|(apply p_assign <;> rfl));(case hd=>rfl))|(apply v_condF;(case hc=>rfl))|(apply v_cond;(case hc=>rfl);all_goals (intro h;(try simp only [reduceCtorEq,zzz] at h)))|(apply v_callJ (hs:=qa);(case ha=>rfl);(case hd=>rfl))|(apply v_callJ (hs:=qb);(case ha=>rfl);(case hd=>rfl))|fail)
  all_goals
    (refine v_ret [] (outsA1 rfl rfl) (by repeat (exact List.Sublist.refl _)) ?_
     refine ⟨?_,rfl⟩
     simp [cmpI, *])
theorem cmpI_lt {a b:Int}:cmpI a b < 0 ↔ a < b:=by unfold cmpI;split <;> (try split) <;> simp <;> omega
theorem cmpI_eq {a b:Int}:cmpI a b = 0 ↔ a = b:=by unfold cmpI;split <;> (try split) <;> simp <;> omega
theorem place1_s (G:GH) (x:Ent) (n:Int):Con Tryz.prog 224 #[.agg x.cells.toArray,.int .i64 n] G [] (Just (.int .i64 (cmpI x.index n)) G):=by
  have qc:=cmp_s G x.index n
  apply Con.just
  (refine v_enter Tryz.func224 rfl Tryz.ntmps224 rfl ?_;intro B _)
  repeat' (first|apply v_seq|apply v_region|apply v_nil|(apply v_pure;(case hop=>first|(apply p_move <;> rfl)|(apply p_assign <;> rfl)|(apply p_fieldAddrB <;> rfl)|fail);(case hd=>rfl))|(apply v_box (zs:=x.cells);(case hx=>rfl);(case hz=>rfl);(case hd=>rfl);intro b)|(apply v_callJ (hs:=qc);(case ha=>rfl);(case hd=>rfl))|(apply v_read;(case hop=>(apply r_load1;rfl;(apply Cell.own;(case h=>(repeat (exact mhd _)));rfl)));(case hd=>rfl))|fail)
  refine v_ret [] (outsA1 rfl rfl) (by repeat (exact List.nil_sublist _)) ?_
  exact ⟨rfl,rfl⟩
def RiseL (l:List Ent):Prop := ∀ i j (hj:j < l.length) (h:i < j),(l[i]'(by omega)).index < l[j].index
def placeN (l:List Ent) (n:Int):Nat:=l.countP fun x=>decide (x.index < n)
theorem placeN_eq {l:List Ent} {n:Int} {i:Nat} (hi:i ≤ l.length) (h1:∀ m (h:m < l.length),m < i → l[m].index < n) (h2:∀ m (h:m < l.length),i ≤ m → ¬ l[m].index < n):placeN l n = i:=by
  have e:l = l.take i ++ l.drop i:=(List.take_append_drop i l).symm
  rw [placeN,e,List.countP_append,List.countP_eq_length.2,List.countP_eq_zero.2,List.length_take,Nat.add_zero]
  · omega
  · intro x hx
    obtain ⟨m,hm,rfl⟩:=List.getElem_of_mem hx
    rw [List.length_drop] at hm
    rw [List.getElem_drop]
    simpa using h2 (i + m) (by omega) (by omega)
  · intro x hx
    obtain ⟨m,hm,rfl⟩:=List.getElem_of_mem hx
    rw [List.length_take] at hm
    rw [List.getElem_take]
    simpa using h1 m (by omega) (by omega)
noncomputable def hitB (l:List Ent) (n:Int):Bool:=if h:placeN l n < l.length then decide ((l[placeN l n]).index = n) else false
theorem entSearch_s {G:GH} {l:List Ent} {sv:Value} (n:Int) (hs:Es G sv l) (hr:RiseL l):Con Tryz.prog 223 #[sv,.int .i64 n,.func (.func 224) #[] #[]] G [] (Just (.tuple [.int .i64 (placeN l n:Nat),.bool (hitB l n)].toArray) G):=by
  obtain ⟨A,c,rfl,hlc,hcm,hsome,hcp,hcb,hcc,hok⟩:=esOpen hs
  simp only [maxLen] at hcm
  apply Con.just
  (refine v_enter Tryz.func223 rfl Tryz.ntmps223 rfl ?_;intro B _)
  repeat' (first|apply v_seq|apply v_region|apply v_nil|apply v_block|(apply v_pure;(case hop=>first|(apply p_move <;> rfl)|(apply p_assign <;> rfl)|(apply p_lenSlice <;> rfl)|fail);(case hd=>rfl))|fail)
  refine v_loop [9,10,8,0,1,2] (fun us G' μ'=>G' = G ∧ μ' = [] ∧ ∃ i j:Nat,i ≤ j ∧ j ≤ l.length ∧ us = [Value.int .i64 (i:Nat),.int .i64 (j:Nat),.int .i64 l.length,.slice A l.length c,.int .i64 n,.func (.func 224) #[] #[]] ∧ (∀ m (h:m < l.length),m < i → l[m].index < n) ∧ (∀ m (h:m < l.length),j ≤ m → ¬ l[m].index < n)) (fun us=>match us with | .int _ i :: .int _ j :: _=>(j - i).toNat|_=>0) rfl ⟨rfl,rfl,0,l.length,by omega,by omega,rfl,by omega,by omega⟩ ?_
  rintro us G' μ' ⟨rfl,rfl,i,j,hij,hj,rfl,h1,h2⟩
  have qp:=fun (m:Nat) (h:m < l.length)=>place1_s G' l[m] n
  have em:((((i:Nat):Int) + ((j:Nat):Int)) / 2).toNat = (i + j) / 2:=by omega
  repeat' (first|apply v_seq|apply v_region|apply v_nil|apply v_skip|apply v_block|apply v_blk|(apply v_exit;(case hp=>rfl))|(apply v_take;(case hg=>rfl))|(apply v_pass;(case hg=>rfl);(case hn=>rfl);(case hd=>rfl))|(apply v_pure;(case hop=>first|(apply p_move <;> rfl)|(apply p_eq <;> rfl)|(apply p_lt <;> rfl)|(apply p_assign <;> rfl)|(apply p_pickT <;> rfl)|(apply p_pickF <;> rfl)|(apply p_add;(case hx=>rfl);(case hy=>rfl);(case h=>omega))|(apply p_indexAddrS;(case hx=>rfl);(case hi=>rfl);(case h0=>omega);(case h=>omega);(case hA=>(apply_assumption;omega)))|(apply p_conv64;(case hx=>rfl);(case h=>omega))|fail);(case hd=>rfl))|(apply v_cond;(case hc=>rfl);all_goals (intro h;(try simp only [reduceCtorEq,zzz] at h)))|(apply v_guardB;(case h1=>rfl);(case h2=>rfl);all_goals (intro h;(try simp only [reduceCtorEq,zzz] at h)))|(apply v_pure;(case hop=>(apply p_convUW;(case hx=>rfl);(case h=>omega)));(case hd=>rfl))|(apply v_pure;(case hop=>(apply p_addw;(case hx=>rfl);(case hy=>rfl)));(case hd=>rfl))|(apply v_pure;(case hop=>(apply p_shr1;(case hx=>rfl);(case hy=>rfl)));(case hd=>rfl))|(apply v_read;(case hop=>(apply r_loadN;rfl;exact CellsAt.frozen (hcp _ (by omega));rfl));(case hd=>rfl))|(apply v_callFJ0 (hs:=qp ((((i:Nat):Int) + ((j:Nat):Int)) / 2).toNat (by omega));(case hx=>rfl);(case ha=>rfl);(case hd=>rfl))|(apply v_callFJ0 (hs:=qp i (by omega));(case hx=>rfl);(case ha=>rfl);(case hd=>rfl))|fail)
  · have hc:(l[(i + j) / 2]'(by omega)).index < n:=by
      have h0:=cmpI_lt.1 ‹cmpI _ _ < 0›
      simpa only [em] using h0
    refine v_again rfl ⟨rfl,rfl,(i + j) / 2 + 1,j,by omega,hj,rfl,fun m hm hlt=>?_,h2⟩ ?_
    · by_cases he:m = (i + j) / 2
      · subst he;exact hc
      · have:=hr m ((i + j) / 2) (by omega) (by omega)
        omega
    · simp only;omega
  · have hc:¬ (l[(i + j) / 2]'(by omega)).index < n:=by
      have h0:=mt cmpI_lt.2 ‹¬ cmpI _ _ < 0›
      simpa only [em] using h0
    refine v_again rfl ⟨rfl,rfl,i,(i + j) / 2,by omega,by omega,rfl,h1,fun m hm hlt=>?_⟩ ?_
    · by_cases he:m = (i + j) / 2
      · subst he;exact hc
      · have:=hr ((i + j) / 2) m hm (by omega)
        omega
    · simp only;omega
  · have hp:placeN l n = i:=placeN_eq (by omega) h1 (fun m h hm=>h2 m h (by omega))
    refine v_ret [] (outsA2 rfl rfl rfl) (by repeat (exact List.Sublist.refl _)) ?_
    refine ⟨?_,rfl⟩
    unfold hitB
    simp only [hp]
    rw [dif_pos (by omega)]
    congr 5
    rw [Bool.eq_iff_iff,dec_true,decide_eq_true_iff,cmpI_eq]
  · have hp:placeN l n = i:=placeN_eq (by omega) h1 (fun m h hm=>h2 m h (by omega))
    refine v_ret [] (outsA2 rfl rfl rfl) (by repeat (exact List.Sublist.refl _)) ?_
    refine ⟨?_,rfl⟩
    unfold hitB
    simp only [hp]
    rw [dif_neg (by omega)]
theorem place_s {G:GH} {l:List Ent} {sv:Value} (n:Int) (hs:Es G sv l) (hr:RiseL l):Con Tryz.prog 204 #[sv,.int .i64 n] G [] (Just (.tuple [.int .i64 (placeN l n:Nat),.bool (hitB l n)].toArray) G):=by
  have qs:=entSearch_s n hs hr
  apply Con.just
  (refine v_enter Tryz.func204 rfl Tryz.ntmps204 rfl ?_;intro B _)
  repeat' (first|apply v_seq|apply v_region|apply v_nil|(apply v_pure;(case hop=>first|(apply p_move <;> rfl)|(apply p_assign <;> rfl)|(apply p_extract0 <;> rfl)|(apply p_extract1 <;> rfl)|fail);(case hd=>rfl))|(apply v_callJ (hs:=qs);(case ha=>rfl);(case hd=>rfl))|fail)
  refine v_ret [] (outsA2 rfl rfl rfl) (by repeat (exact List.Sublist.refl _)) ?_
  exact ⟨rfl,rfl⟩
end Go.Proofs.YtpemabgfmnhhnaaGreatDoor
/-
  VX: copy, append of zeros, slices.overlaps.
-/
set_option linter.unusedVariables false
set_option linter.unusedSimpArgs false
namespace Go.Vx
attribute [local semireducible] Vc MoveOp PureOp ReadOp DVc Con
open Go Go.Lib
section
variable {P:Program} {fn:Func} {n:Nat} {B:Base} {Φ:Value → GH → OH → Prop} {k:List It} {rest:List Oper} {all:Array Oper} {σ:Env} {G:GH} {μ:OH} {d:Nat} {t ty:TypeId} {pos:String} {af:Array Edge} {bytes:Nat} {zero:Value}
theorem m_copy {e:TypeId} {agg:Bool} {sz:Nat} {y x:Operand} {b o m c m' q:Nat} {u:Value} {vs us vs':List Value} {μ':OH} [Ty P t (.slice e)] [Lay P e agg sz bytes zero] (hy:Env.ev σ y = some (.slice (some ⟨b,o,none⟩) m c)) (hx:Env.ev σ x = some u) (hq:Nat.min m' m = q) (hm:0 < m') (hsrc:Src G μ u m' sz us)
    (hb:Has μ b vs e) (h1:(us.take (q * sz)).all Value.oneCell' = true) (hfit:o + q * sz ≤ vs.length) (hov:over vs o (us.take (q * sz)) = vs') (hu:Upd b (.cells vs'.toArray e (0,0)) μ μ') :
    MoveOp P (.call { callee:=.builtin .copy,args:=#[y,x],argTypes:=#[t,t] }) ty σ G μ (fun v' G' μ''=>v' = .int .i64 q ∧ G' = G ∧ μ'' = μ'):=by
  intro dst pos af g ρ hρ w hw a K Q hK
  obtain ⟨i,hi,hi1,hi2,hi3⟩:=Lay.infoEx (P:=P) (t:=e) (agg:=agg) (size:=sz) (bytes:=bytes) (zero:=zero) inferInstance
  have ht:P.underlying t = some (.slice e):=Ty.h
  obtain ⟨hus,A,c',rfl,hA⟩:=hsrc
  obtain ⟨ad,rfl,hcs⟩:=hA hm
  have hqm:q ≤ m':=by rw [← hq];exact Nat.min_le_left _ _
  have hlen:(us.take (q * sz)).length = q * sz:=by
    rw [List.length_take,hus]
    exact Nat.min_eq_left (Nat.mul_le_mul_right _ hqm)
  have hl:=run_firstCells_some (P:=P) w i.size q ad m' c' (us.take (q * sz)) (by rw [hlen,hi1]) (fun j v hv=>by
    rw [List.getElem?_take] at hv
    split at hv
    · exact hcs j v hv w hw.sees
    · cases hv)
  have hst:=run_storeCells_at P b o e (us.take (q * sz)) 0 vs.toArray w (hw.own b _ hb) (by simp only [Nat.add_zero,List.size_toArray,hlen];exact hfit) (fun v hv=>List.all_eq_true.1 h1 v hv)
  simp only [Nat.add_zero] at hst
  have hov':(vs.toArray.toList.take o ++ us.take (q * sz) ++ vs.toArray.toList.drop (o + (us.take (q * sz)).length)) = vs':=by rw [← hov];rfl
  rw [hov'] at hst
  have hr:(Builtin.copy_ #[t,t] ty #[.slice (some ⟨b,o,none⟩) m c,.slice (some ad) m' c']).run P w = .ok (.int .i64 q) (w.setRow b vs'.toArray):=by
    simp [Builtin.copy_,run_underlying ht,Builtin.lenOf,sizeOf,typeInfo,hi,hq,hl,hst,goInt]
  have hex:(execOp ρ ⟨dst,.call { callee:=.builtin .copy,args:=#[y,x],argTypes:=#[t,t] },ty,pos,af,g⟩).run P w = .ok (.value (.int .i64 q)) (w.setRow b vs'.toArray):=by
    simp only [execOp,resolve,invoke,builtin,Sem.run_bind,Sem.run_pure,Result.andThen_ok,List.map_toArray,List.map_cons,List.map_nil,hρ _ _ hy,hρ _ _ hx,hr]
  rw [hex]
  exact hK _ _ G _ (Step.row hw hb hu) ⟨rfl,rfl,rfl⟩
theorem v_copy {e:TypeId} {agg:Bool} {sz:Nat} {y x:Operand} {b o m c m' q:Nat} {u:Value} {vs us vs':List Value} {μ':OH} [Ty P t (.slice e)] [Lay P e agg sz bytes zero] (hy:Env.ev σ y = some (.slice (some ⟨b,o,none⟩) m c)) (hx:Env.ev σ x = some u) (hq:Nat.min m' m = q) (hm:0 < m') (hsrc:Src G μ u m' sz us)
    (hb:Has μ b vs e) (h1:(us.take (q * sz)).all Value.oneCell' = true) (hfit:o + q * sz ≤ vs.length) (hov:over vs o (us.take (q * sz)) = vs') (hu:Upd b (.cells vs'.toArray e (0,0)) μ μ') (hd:Nat.blt d n = true)
    (h:Vc P fn n B Φ (.ops all rest :: k) ((d,.int .i64 q) :: σ) G μ'):Vc P fn n B Φ (.ops all (⟨some d,.call { callee:=.builtin .copy,args:=#[y,x],argTypes:=#[t,t] },ty,pos,af,none⟩ :: rest) :: k) σ G μ :=
  v_move (m_copy hy hx hq hm hsrc hb h1 hfit hov hu) hd fun _ _ _ ⟨h1,h2,h3⟩=>by rw [h1,h2,h3];exact h
theorem Src.ownAt {e:TypeId} {b o m sz c:Nat} {vs us:List Value} (h:Has μ b vs e) (hus:(vs.drop o).take (m * sz) = us) (hl:us.length = m * sz):Src G μ (.slice (some ⟨b,o,none⟩) m c) m sz us:=⟨hl,_,_,rfl,fun _=>⟨_,rfl,by rw [← hus];exact CellsAt.ownAt h⟩⟩
theorem m_appendZ {e:TypeId} {agg:Bool} {sz:Nat} {s x:Operand} {A:Option Addr} {m c q:Nat} {xs:List Value} {tn:TypeId} [Ty P t (.slice e)] [Ty P tn (.int .i64)] [Lay P e agg sz bytes zero] (hzs:zero.cells.size = sz) (hsz:0 < sz) (hs:Env.ev σ s = some (.slice A m c)) {z:Int} (hx:Env.ev σ x = some (.int .i64 z)) (hz:z = (q:Nat)) (hsrc:Src G μ (.slice A m c) m sz xs) (hq:0 < q) (hroom:c < m + q)
    (hb:(m + q) * bytes ≤ 140737488355328) (hb':m + q ≤ maxLen) :
    MoveOp P (.call { callee:=.builtin .append,args:=#[s,x],argTypes:=#[t,tn] }) ty σ G μ (fun v' G' μ'=>∃ b c' spare,v' = .slice (some ⟨b,0,none⟩) (m + q) c' ∧ m + q ≤ c' ∧ c' ≤ maxLen ∧ (xs ++ (Builtin.zeroCells zero.cells q).toList ++ spare).length = c' * sz ∧ G' = G ∧ μ' = (b,.cells (xs ++ (Builtin.zeroCells zero.cells q).toList ++ spare).toArray e (0,0)) :: μ):=by
  subst hz
  intro dst pos af g ρ hρ w hw a K Q hK
  obtain ⟨i,hi,hi1,hi2,hi3⟩:=Lay.infoEx (P:=P) (t:=e) (agg:=agg) (size:=sz) (bytes:=bytes) (zero:=zero) inferInstance
  have ht:P.underlying t = some (.slice e):=Ty.h
  have htn:P.underlying tn = some (.int .i64):=Ty.h
  obtain ⟨hus,A',c',he,hA⟩:=hsrc
  cases he
  have hold:(Builtin.firstCells i.size m (.slice A m c)).run P w.drew = .ok xs.toArray w.drew:=by
    by_cases hm:0 < m
    · obtain ⟨ad,rfl,hcs⟩:=hA hm
      exact run_firstCells_some (P:=P) w.drew i.size m ad m c xs (by rw [hus,hi1]) (fun j v hv=>hcs j v hv w hw.sees)
    · obtain rfl:m = 0:=by omega
      have hx0:xs = []:=List.eq_nil_of_length_eq_zero (by simpa using hus)
      subst hx0
      cases A <;> simp [Builtin.firstCells,loadCells,loadCellsFrom]
  have hr:=run_append_grow_zeros (P:=P) w t tn ty e i zero .i64 .i64 ht htn hi hi3 A m c xs hold q hq (by omega) hroom (by simp only [maxLen] at hb';omega)
    (by rw [hi2];have:=Nat.mul_le_mul_right bytes (show q ≤ m + q by omega);omega) (growslice_fits (by omega) (by rw [hi2];exact hb))
  have hex:(execOp ρ ⟨dst,.call { callee:=.builtin .append,args:=#[s,x],argTypes:=#[t,tn] },ty,pos,af,g⟩).run P w = .ok (.value (.slice (some ⟨w.heap.size,0,none⟩) (m + q) (grownCap w (m + q) c e)))
        (w.drew.alloc (.cells (xs.toArray ++ Builtin.zeroCells zero.cells q ++ Builtin.zeroCells zero.cells (grownCap w (m + q) c e - (m + q))) e)):=by
    simp only [execOp,resolve,invoke,builtin,Sem.run_bind,Sem.run_pure,Result.andThen_ok,List.map_toArray,List.map_cons,List.map_nil,hρ _ _ hs,hρ _ _ hx,hr]
  rw [hex]
  have hge:=grownCap_ge w (m + q) c e
  have hst:=(Step.drew hw 1).trans (Step.alloc (Step.drew hw 1).mem (.cells (xs.toArray ++ Builtin.zeroCells zero.cells q ++ Builtin.zeroCells zero.cells (grownCap w (m + q) c e - (m + q))) e (0,0)))
  refine hK _ _ G _ hst ⟨w.heap.size,grownCap w (m + q) c e,(Builtin.zeroCells zero.cells (grownCap w (m + q) c e - (m + q))).toList,rfl,hge,grownCap_le_maxLen w (m + q) c e hb',?_,rfl,?_⟩
  · simp only [List.length_append,Array.length_toList,size_zeroCells,hzs,hus,← Nat.add_mul]
    congr 1
    omega
  · simp [World.drewN]
theorem v_appendZ {e:TypeId} {agg:Bool} {sz:Nat} {s x:Operand} {A:Option Addr} {m c q:Nat} {xs:List Value} {tn:TypeId} [Ty P t (.slice e)] [Ty P tn (.int .i64)] [Lay P e agg sz bytes zero] (hzs:zero.cells.size = sz) (hsz:0 < sz) (hs:Env.ev σ s = some (.slice A m c)) {z:Int} (hx:Env.ev σ x = some (.int .i64 z)) (hz:z = (q:Nat)) (hsrc:Src G μ (.slice A m c) m sz xs) (hq:0 < q) (hroom:c < m + q)
    (hb:(m + q) * bytes ≤ 140737488355328) (hb':m + q ≤ maxLen) (hd:Nat.blt d n = true)
    (h:∀ b c' spare,m + q ≤ c' → c' ≤ maxLen → (xs ++ (Builtin.zeroCells zero.cells q).toList ++ spare).length = c' * sz → Vc P fn n B Φ (.ops all rest :: k) ((d,.slice (some ⟨b,0,none⟩) (m + q) c') :: σ) G ((b,.cells (xs ++ (Builtin.zeroCells zero.cells q).toList ++ spare).toArray e (0,0)) :: μ)) :
    Vc P fn n B Φ (.ops all (⟨some d,.call { callee:=.builtin .append,args:=#[s,x],argTypes:=#[t,tn] },ty,pos,af,none⟩ :: rest) :: k) σ G μ :=
  v_move (m_appendZ hzs hsz hs hx hz hsrc hq hroom hb hb') hd fun _ _ _ ⟨b,c',sp,h1,h2,h3,h4,h5,h6⟩=>by rw [h1,h5,h6];exact h b c' sp h2 h3 h4
class Overl (P:Program) (f:FuncId) (e:outParam TypeId) (tR:outParam TypeId):Prop where
  h:∃ ts,P.underlying ts = some (.slice e) ∧ ∀ args w,(callFunc f args).run P w = ((Extern.SlicesOverlaps.overlaps #[ts,ts] #[tR] args).run P w).andThen fun v w'=>.ok (.value v) w'
theorem m_apart {f:FuncId} {e tR:TypeId} [ho:Overl P f e tR] {agg:Bool} {sz:Nat} [Lay P e agg sz bytes zero] {x y:Operand} {ts:Array TypeId} {b1 o1 m1 c1 b2 o2 m2 c2:Nat} {vs1 vs2:List Value} {e1 e2:TypeId} (hx:Env.ev σ x = some (.slice (some ⟨b1,o1,none⟩) m1 c1)) (hy:Env.ev σ y = some (.slice (some ⟨b2,o2,none⟩) m2 c2))
    (h1:Has μ b1 vs1 e1) (h2:Has μ b2 vs2 e2) (hne:b1 ≠ b2) (h0:vs2 ≠ []) :
    MoveOp P (.call { callee:=.value (.func f),args:=#[x,y],argTypes:=ts }) ty σ G μ (fun v' G' μ'=>v' = .bool false ∧ G' = G ∧ μ' = μ):=by
  intro dst pos af g ρ hρ w hw a K Q hK
  obtain ⟨T,hT,hc⟩:=ho.h
  have w1:=hw.own _ _ h1
  have w2:=hw.own _ _ h2
  have hr:=run_overlaps_apart (P:=P) w T tR e hT sz (fun w=>run_sizeOf (P:=P) (t:=e) (agg:=agg) (size:=sz) (bytes:=bytes) (zero:=zero) w) ⟨b1,o1,none⟩ ⟨b2,o2,none⟩ m1 c1 m2 c2 hne e1 e2 vs1.length vs2.length
    (by simp [World.shape?,w1]) (by simp [World.shape?,w2]) (by simpa using h0) (by simp [World.frozen?,w1]) (by simp [World.frozen?,w1])
  have hf:ρ (.func f) = .func (.func f) #[] #[]:=hρ _ _ rfl
  have hex:(execOp ρ ⟨dst,.call { callee:=.value (.func f),args:=#[x,y],argTypes:=ts },ty,pos,af,g⟩).run P w = .ok (.value (.bool false)) w:=by
    simp [execOp,resolve,hf,Deferred.ofValue,invoke,hρ _ _ hx,hρ _ _ hy,hc,hr]
  rw [hex]
  exact hK _ _ G μ (Step.refl hw) ⟨rfl,rfl,rfl⟩
theorem v_ne {is:List It} {b b':Nat} {o:Obj} {r:OH} (hm:b' ∈ r.map (·.1)) (h:b' ≠ b → Vc P fn n B Φ is σ G ((b,o) :: r)):Vc P fn n B Φ is σ G ((b,o) :: r):=by
  intro w hw a ha
  refine h (fun e=>?_) w hw a ha
  have:=hw.mem.nodup
  rw [List.map_cons,List.nodup_cons] at this
  exact this.1 (e ▸ hm)
theorem v_apart {f:FuncId} {e tR:TypeId} [ho:Overl P f e tR] {agg:Bool} {sz:Nat} [Lay P e agg sz bytes zero] {x y:Operand} {ts:Array TypeId} {b1 o1 m1 c1 b2 o2 m2 c2:Nat} {vs1 vs2:List Value} {e1 e2:TypeId} (hx:Env.ev σ x = some (.slice (some ⟨b1,o1,none⟩) m1 c1)) (hy:Env.ev σ y = some (.slice (some ⟨b2,o2,none⟩) m2 c2))
    (h1:Has μ b1 vs1 e1) (h2:Has μ b2 vs2 e2) (hne:b1 ≠ b2) (h0:vs2 ≠ []) (hd:Nat.blt d n = true)
    (h:Vc P fn n B Φ (.ops all rest :: k) ((d,.bool false) :: σ) G μ):Vc P fn n B Φ (.ops all (⟨some d,.call { callee:=.value (.func f),args:=#[x,y],argTypes:=ts },ty,pos,af,none⟩ :: rest) :: k) σ G μ :=
  v_move (m_apart (sz:=sz) (agg:=agg) (bytes:=bytes) (zero:=zero) hx hy h1 h2 hne h0) hd fun _ _ _ ⟨h1,h2,h3⟩=>by rw [h1,h2,h3];exact h
theorem d_copy {ν μ':OH} {G0:GH} {m0:Nat} {listed:Array Bool} (i:Nat) {e:TypeId} {agg:Bool} {sz:Nat} {y x:Operand} {b o m c m' q:Nat} {u:Value} {vs us vs':List Value} (hi:all[i]? = some ⟨some d,.call { callee:=.builtin .copy,args:=#[y,x],argTypes:=#[t,t] },ty,pos,af,none⟩) (hT:Ty P t (.slice e)) (hL:Lay P e agg sz bytes zero) (hr:Region.ready .any all listed = [i])
    (hy:Env.ev σ y = some (.slice (some ⟨b,o,none⟩) m c)) (hx:Env.ev σ x = some u) (hq:Nat.min m' m = q) (hm:0 < m') (hsrc:Src G μ u m' sz us)
    (hb:Has μ b vs e) (h1:(us.take (q * sz)).all Value.oneCell' = true) (hfit:o + q * sz ≤ vs.length) (hov:over vs o (us.take (q * sz)) = vs') (hu:Upd b (.cells vs'.toArray e (0,0)) μ μ') (hd:Nat.blt d n = true) (hν':∀ e ∈ ν,e ∈ μ')
    (h:DVc P fn n B Φ all G0 ν m0 (listed.setIfInBounds i true) k ((d,.int .i64 q) :: σ) G μ'):DVc P fn n B Φ all G0 ν (m0 + 1) listed k σ G μ :=
  d_exec i hi hr (m_copy hy hx hq hm hsrc hb h1 hfit hov hu) hd fun _ _ _ ⟨h1,h2,h3⟩=>by rw [h1,h2,h3];exact ⟨hν',h⟩
end
end Go.Vx
/-
  entry (layer 12), the fifth part: clones of entries, and slices.Insert.
-/
set_option linter.unusedSimpArgs false
set_option linter.unusedVariables false
namespace Go.Proofs.YtpemabgfmnhhnaaGreatDoor
open Go.Vx Go.ChangeShapes Go.WideShapes Go.ChangeAt Go.RowKit
def esC (l:List Ent):List Value:=(l.map Ent.cells).flatten
theorem cells_length (x:Ent):x.cells.length = 10:=rfl
theorem esC_cons (x:Ent) (l:List Ent):esC (x :: l) = x.cells ++ esC l:=by simp [esC]
theorem esC_append (a b:List Ent):esC (a ++ b) = esC a ++ esC b:=by simp [esC]
theorem esC_length (l:List Ent):(esC l).length = l.length * 10:=by
  induction l with
  | nil=>rfl
  | cons x l ih=>rw [esC_cons,List.length_append,ih,cells_length,List.length_cons];omega
theorem esC_take (l:List Ent) (i:Nat):(esC l).take (i * 10) = esC (l.take i):=by
  by_cases h:i ≤ l.length
  · conv=>lhs;rw [← List.take_append_drop i l,esC_append]
    rw [List.take_append_of_le_length (by rw [esC_length,List.length_take];omega),List.take_of_length_le (by rw [esC_length,List.length_take];omega)]
  · rw [List.take_of_length_le (by rw [esC_length];omega),List.take_of_length_le (by omega)]
theorem esC_drop (l:List Ent) (i:Nat):(esC l).drop (i * 10) = esC (l.drop i):=by
  by_cases h:i ≤ l.length
  · conv=>lhs;rw [← List.take_append_drop i l,esC_append]
    rw [List.drop_append,List.drop_of_length_le (by rw [esC_length,List.length_take];omega),esC_length,List.length_take,show i * 10 - min i l.length * 10 = 0 by omega]
    simp
  · rw [List.drop_of_length_le (by rw [esC_length];omega),List.drop_of_length_le (by omega)];rfl
theorem esC_get (l:List Ent) (i j:Nat) (hi:i < l.length) (hj:j < 10):(esC l)[i * 10 + j]? = l[i].cells[j]? := by
  have h:=congrArg (·[j]?) (esC_drop l i)
  simp only [List.getElem?_drop] at h
  rw [h,List.drop_eq_getElem_cons hi,esC_cons,List.getElem?_append_left (by rw [cells_length];omega)]
theorem esC_one (l:List Ent):(esC l).all Value.oneCell' = true:=by
  induction l with
  | nil=>rfl
  | cons x l ih=>rw [esC_cons,List.all_append,ih,Bool.and_true];rfl
theorem esC_src {G:GH} {μ:OH} {A:Option Addr} {c:Nat} {l:List Ent} (hsome:0 < l.length → A.isSome = true) (hcp:∀ i (h:i < l.length),CellsG G ((adr A).add (i * 10)) l[i].cells):Go.Vx.Src G μ (.slice A l.length c) l.length 10 (esC l):=by
  refine ⟨esC_length l,A,c,rfl,fun h=>?_⟩
  obtain ⟨a,rfl⟩:=Option.isSome_iff_exists.1 (hsome h)
  refine ⟨a,rfl,CellsAt.frozen fun p v hv=>?_⟩
  have hp:p < l.length * 10:=by rw [← esC_length];exact (List.getElem?_eq_some_iff.1 hv).1
  have e:p = p / 10 * 10 + p % 10:=by omega
  rw [e,← adr_add]
  rw [e,esC_get l (p / 10) (p % 10) (by omega) (by omega)] at hv
  exact hcp (p / 10) (by omega) _ _ hv
theorem es_of_grow {v:Value} {l:List Ent} {ν:OH} (h:Grow 97 10 v l.length (esC l) ν) {G':GH} (hG:∀ b o,(b,o) ∈ ν → G' b = some o) (hok:∀ x ∈ l,x.ok):Es G' v l:=by
  refine h.sl hG (by simp) fun i x cs hx hc=>?_
  rw [List.getElem?_map,hx] at hc
  simp only [Option.map_some,Option.some.injEq] at hc
  subst hc
  exact ⟨rfl,rfl,hok x (List.mem_of_getElem? hx)⟩
abbrev zE:Value:=.agg #[.int .i64 0,.int .i64 0,.int .i64 0,.int .i64 0,.int .i64 0,.int .i64 0,.string ByteArray.empty,.string ByteArray.empty,.string ByteArray.empty,.int .i64 0]
theorem entClone_s {G:GH} {l:List Ent} {sv:Value} (hs:Es G sv l) (hn:l.length ≤ 200):Con Tryz.prog 114 #[sv] G [] (fun r G' μ'=>G' = G ∧ Grow 97 10 r l.length (esC l) μ'):=by
  obtain ⟨A,c,rfl,hlc,hcm,hsome,hcp,hcb,hcc,hok⟩:=esOpen hs
  simp only [maxLen] at hcm
  (refine v_enter Tryz.func114 rfl Tryz.ntmps114 rfl ?_;intro B _)
  cases A with
  | none =>
    have h0:l.length = 0:=by
      by_cases h:0 < l.length
      · cases hsome h
      · omega
    have h1:l = []:=List.eq_nil_of_length_eq_zero h0
    subst h1
    repeat' (first|apply v_seq|apply v_region|apply v_nil|(apply v_pure;(case hop=>first|(apply p_move <;> rfl)|(apply p_assign <;> rfl)|(apply p_eqNilSlice <;> rfl));(case hd=>rfl))|(apply v_condT;(case hc=>rfl))|fail)
    refine v_ret [] (outsA1 rfl rfl) (by repeat (exact List.Sublist.refl _)) ?_
    exact ⟨rfl,Grow.nil _ _⟩
  | some a =>
    have hsrc:=fun μ=>esC_src (μ:=μ) (c:=c) hsome hcp
    repeat' (first|apply v_seq|apply v_region|apply v_nil|apply v_skip|(apply v_pure;(case hop=>first|(apply p_move <;> rfl)|(apply p_assign <;> rfl)|(apply p_eqNilSlice <;> rfl));(case hd=>rfl))|(apply v_condF;(case hc=>rfl))|(apply v_buildSlice;(case hz=>rfl);(case hi=>rfl);(case hv=>(simp only [List.map_cons,List.map_nil];repeat (with_reducible exact evs_nil)));(case hp=>(with_reducible exact pk_nil));(case hb=>rfl);(case hd=>rfl);intro b)|fail)
    refine v_append (e:=97) (agg:=true) (sz:=10) (bytes:=104) (zero:=zE) rfl (by omega) rfl rfl Grow.empty (List.Perm.refl _) (hsrc _) (esC_one l) (by omega) (by simp only [maxLen];omega) rfl fun v' ν' hg=>?_
    repeat' (first|apply v_nil|(apply v_pure;(case hop=>(apply p_assign <;> rfl));(case hd=>rfl))|fail)
    refine v_ret _ (outsA1 rfl rfl) (by repeat (exact List.Sublist.refl _)) ?_
    refine ⟨rfl,?_⟩
    simpa using hg
theorem p_sliceB {σ:Env} {ty t e:TypeId} {agg:Bool} {sz bytes:Nat} {zero:Value} {x lo:Operand} {b o n c:Nat} {k:IntKind} {z:Int} [Ty Tryz.prog t (.slice e)] [Lay Tryz.prog e agg sz bytes zero] (m:Nat) (hx:Env.ev σ x = some (.slice (some ⟨b,o,none⟩) n c)) (hl:Env.ev σ lo = some (.int k z)) (hz:z = (m:Nat)) (h1:m ≤ n) (h2:n ≤ c) (h3:m < c) :
    PureOp Tryz.prog (.slice t x (some lo) none none) ty σ (.slice (some ⟨b,o + m * sz,none⟩) (n - m) (c - m)):=by
  subst hz
  have h:=p_sliceL (P:=Tryz.prog) (ty:=ty) (t:=t) (e:=e) (agg:=agg) (sz:=sz) (bytes:=bytes) (zero:=zero) hx hl (by omega) (by omega) h2
  simp only [Int.toNat_natCast] at h
  rw [if_neg (by omega),Option.map_some,add_mk] at h
  exact h
theorem p_sliceHB {σ:Env} {ty t e:TypeId} {agg:Bool} {sz bytes:Nat} {zero:Value} {x hi:Operand} {A:Option Addr} {n c:Nat} {k:IntKind} {z:Int} [Ty Tryz.prog t (.slice e)] [Lay Tryz.prog e agg sz bytes zero] (m:Nat) (hx:Env.ev σ x = some (.slice A n c)) (hl:Env.ev σ hi = some (.int k z)) (hz:z = (m:Nat)) (h1:m ≤ c) :
    PureOp Tryz.prog (.slice t x none (some hi) none) ty σ (.slice A m c):=by
  subst hz
  exact p_sliceH (P:=Tryz.prog) (ty:=ty) (t:=t) (e:=e) (agg:=agg) (sz:=sz) (bytes:=bytes) (zero:=zero) hx hl (by omega) (by omega)
instance:Overl Tryz.prog 225 97 4:=⟨_,Tryz.underlying25,fun args w=>run_callFunc_extern Tryz.func225 (by kernel_rfl) (by kernel_rfl) (by kernel_rfl) (e:=Extern.SlicesOverlaps.overlaps #[25,25] #[4]) (by kernel_rfl) args w⟩
theorem zeros_length (q:Nat):(Builtin.zeroCells zE.cells q).toList.length = q * 10:=by rw [Array.length_toList,size_zeroCells];rfl
theorem ins_row (p z sp a t:List Value) (hz:z.length = a.length + t.length) (h:t.length = z.length - a.length):over (over (p ++ z ++ sp) p.length a) (p.length + a.length) t = p ++ a ++ t ++ sp:=by
  have e1:over (p ++ z ++ sp) p.length a = p ++ a ++ z.drop a.length ++ sp:=by
    unfold over
    rw [List.append_assoc p z sp,List.take_left,← List.drop_drop,List.drop_left,List.drop_append_of_le_length (by omega)]
    simp
  rw [e1]
  unfold over
  rw [show p.length + a.length = (p ++ a).length by simp,List.append_assoc (p ++ a),List.take_left,← List.drop_drop,List.drop_left,List.drop_append_of_le_length (by rw [List.length_drop];omega),List.drop_of_length_le (l:=List.drop a.length z) (by rw [List.length_drop];omega)]
  simp
theorem ins_shift (p t sp a:List Value) (h:a.length ≤ sp.length):over (over (p ++ t ++ sp) (p.length + a.length) t) p.length a = p ++ a ++ t ++ sp.drop a.length:=by
  have e1:over (p ++ t ++ sp) (p.length + a.length) t = (p ++ (t ++ sp).take a.length) ++ (t ++ sp.drop a.length):=by
    unfold over
    rw [List.append_assoc p t sp,List.take_append,List.take_of_length_le (by omega),show p.length + a.length - p.length = a.length by omega,show p.length + a.length + t.length = p.length + (t.length + a.length) by omega,← List.drop_drop,List.drop_left,← List.drop_drop,List.drop_left]
    simp
  have e2:((t ++ sp).take a.length).length = a.length:=by rw [List.length_take,List.length_append];omega
  rw [e1]
  unfold over
  rw [List.append_assoc p,List.take_left,show p.length + a.length = (p ++ (t ++ sp).take a.length).length by rw [List.length_append,e2],← List.append_assoc p,List.drop_left]
  simp
theorem entInsert_s {G:GH} {l:List Ent} {v:Value} {ν:OH} (x:Ent) (b2 i:Nat) (hg:Grow 97 10 v l.length (esC l) ν) (hi:i ≤ l.length) (hn:l.length ≤ 200) :
    Con Tryz.prog 205 #[v,.int .i64 i,.slice (some ⟨b2,0,none⟩) 1 1] G (ν ++ [(b2,.cells x.cells.toArray 97 (0,0))]) (fun r G' μ'=>G' = G ∧ Grow 97 10 r (l.length + 1) (esC (l.take i ++ x :: l.drop i)) μ'):=by
  by_cases hin:i = l.length
  · subst hin
    obtain ⟨A,c,rfl,hc1,hc2⟩:=hg.shape
    simp only [maxLen] at hc2
    (refine v_enter Tryz.func205 rfl Tryz.ntmps205 rfl ?_;intro B _)
    repeat' (first|apply v_seq|apply v_region|apply v_nil|apply v_skip|(apply v_pure;(case hop=>first|(apply p_move <;> rfl)|(apply p_eqs <;> rfl)|(apply p_eq <;> rfl)|(apply p_assign <;> rfl)|(apply p_lenSlice <;> rfl)|(apply p_sliceL;(case hx=>rfl);(case hl=>rfl);all_goals omega)|fail);(case hd=>rfl))|(apply v_condT;(case hc=>rfl))|(apply v_cond;(case hc=>rfl);all_goals (intro h;(try simp only [reduceCtorEq,zzz] at h);first|(exfalso;omega)|skip))|fail)
    refine v_append (e:=97) (agg:=true) (sz:=10) (bytes:=104) (zero:=zE) rfl (by omega) rfl rfl hg (List.Perm.refl _) (m':=1) (us:=x.cells) (Src.own (e:=97) (by simp [Has]) rfl) rfl (by omega) (by simp only [maxLen];omega) rfl fun v' ν' hg'=>?_
    repeat' (first|apply v_nil|(apply v_pure;(case hop=>(apply p_assign <;> rfl));(case hd=>rfl))|fail)
    refine v_ret ν' (outsA1 rfl rfl) (by repeat (exact List.sublist_append_left _ _)) ?_
    refine ⟨rfl,?_⟩
    rw [List.take_length,List.drop_length,esC_append,esC_cons]
    simpa [esC] using hg'
  · have hlt:i < l.length:=by omega
    obtain ⟨hxl,⟨rfl,h0,rfl⟩|⟨b,cap,spare,rfl,rfl,hc1,hc2,hc3⟩⟩:=hg
    · omega
    simp only [maxLen] at hc2
    simp only [List.singleton_append]
    rw [List.length_append,esC_length] at hc3
    by_cases hroom:cap < l.length + 1
    · (refine v_enter Tryz.func205 rfl Tryz.ntmps205 rfl ?_;intro B _)
      repeat' (first|(apply v_pure;(case hop=>(apply p_sliceB i;(case hx=>rfl);(case hl=>rfl);(case hz=>omega);(case h1=>omega);(case h2=>omega);(case h3=>omega)));(case hd=>rfl))|(apply v_pure;(case hop=>(apply p_sliceHB i;(case hx=>rfl);(case hl=>rfl);(case hz=>omega);(case h1=>omega)));(case hd=>rfl))|apply v_seq|apply v_region|apply v_nil|apply v_skip|(apply v_pure;(case hop=>first|(apply p_move <;> rfl)|(apply p_eq <;> rfl)|(apply p_gt <;> rfl)|(apply p_assign <;> rfl)|(apply p_lenSlice <;> rfl)|(apply p_add;(case hx=>rfl);(case hy=>rfl);(case h=>omega))|(apply p_sub;(case hx=>rfl);(case hy=>rfl);(case h=>omega))|(apply p_capSlice <;> rfl)|fail);(case hd=>rfl))|(apply v_cond;(case hc=>rfl);all_goals (intro h;(try simp only [reduceCtorEq,zzz] at h);first|(exfalso;omega)|skip))|fail)
      refine v_appendZ (e:=97) (agg:=true) (sz:=10) (bytes:=104) (zero:=zE) (q:=l.length + 1 - i) (xs:=esC (l.take i)) rfl (by omega) rfl rfl (by omega) ?_ (by omega) (by omega) (by omega) (by simp only [maxLen];omega) rfl fun b3 c3 sp3 hd1 hd2 hd3=>?_
      · refine Src.ownAt (vs:=esC l ++ spare) (e:=97) (by simp [Has]) ?_ (by rw [esC_length,List.length_take];omega)
        rw [List.drop_zero,List.take_append_of_le_length (by omega),esC_take]
      simp only [maxLen] at hd2
      have zl:=zeros_length (l.length + 1 - i)
      have tl:(esC (l.take i)).length = i * 10:=by rw [esC_length,List.length_take];omega
      repeat' (first|(apply v_pure;(case hop=>(apply p_sliceB i;(case hx=>rfl);(case hl=>rfl);(case hz=>omega);(case h1=>omega);(case h2=>omega);(case h3=>omega)));(case hd=>rfl))|apply v_seq|apply v_region|apply v_nil|(apply v_pure;(case hop=>first|(apply p_move <;> rfl)|(apply p_assign <;> rfl)|fail);(case hd=>rfl))|fail)
      refine v_copy (e:=97) (agg:=true) (sz:=10) (bytes:=104) (zero:=zE) (q:=1) rfl rfl (show min 1 _ = 1 by omega) (by omega) (us:=x.cells) (Src.own (e:=97) (by simp [Has]) rfl) (by (repeat (exact mhd _))) rfl (by simp only [List.length_append,zl,tl];omega) rfl (by (repeat (exact Upd.here _ _))) rfl ?_
      repeat' (first|apply v_seq|apply v_nil)
      have hus:((esC l ++ spare).drop (0 + i * 10)).take ((l.length - i) * 10) = esC (l.drop i):=by
        rw [Nat.zero_add,List.drop_append_of_le_length (by omega),esC_drop,List.take_append_of_le_length (by rw [esC_length,List.length_drop];omega),List.take_of_length_le (by rw [esC_length,List.length_drop];omega)]
      have dl:(esC (l.drop i)).length = (l.length - i) * 10:=by rw [esC_length,List.length_drop]
      refine d_start [] (by kernel_rfl) (by kernel_rfl) (by kernel_rfl) (by intro e he;(simp at he ⊢;try omega)) ?_
      all_goals (apply dtk 0;(case hi=>rfl);(case hop=>(apply prd;apply p_move <;> rfl));(case hq=>kernel_rfl))
      all_goals (apply dtk 1;(case hi=>rfl);(case hop=>(apply prd;apply p_move <;> rfl));(case hq=>kernel_rfl))
      all_goals (apply dtk 2;(case hi=>rfl);(case hop=>(apply prd;apply p_move <;> rfl));(case hq=>kernel_rfl))
      all_goals (apply dtk 3;(case hi=>rfl);(case hop=>(apply prd;apply p_add;(case hx=>rfl);(case hy=>rfl);(case h=>omega)));(case hq=>kernel_rfl))
      all_goals (apply dtk 4;(case hi=>rfl);(case hop=>((apply prd;apply p_sliceB (i + 1);(case hx=>rfl);(case hl=>rfl);(case hz=>omega);(case h1=>omega);(case h2=>omega);(case h3=>omega))));(case hq=>kernel_rfl))
      all_goals (apply dtk 5;(case hi=>rfl);(case hop=>(apply prd;apply p_move <;> rfl));(case hq=>kernel_rfl))
      all_goals (apply dtk 6;(case hi=>rfl);(case hop=>(apply prd;apply p_move <;> rfl));(case hq=>kernel_rfl))
      all_goals (apply dtk 7;(case hi=>rfl);(case hop=>((apply prd;apply p_sliceB i;(case hx=>rfl);(case hl=>rfl);(case hz=>omega);(case h1=>omega);(case h2=>omega);(case h3=>omega))));(case hq=>kernel_rfl))
      all_goals ((apply d_copy 8 (e:=97) (agg:=true) (sz:=10) (bytes:=104) (zero:=zE) (m':=l.length - i) (q:=l.length - i) (us:=esC (l.drop i));(case hi=>rfl);(case hr=>kernel_rfl);  (case hT=>infer_instance);(case hL=>infer_instance);(case hy=>rfl);(case hx=>rfl);(case hq=>(show min _ _ = _);omega);(case hm=>omega);(case hsrc=>exact Src.ownAt (vs:=esC l ++ spare) (e:=97) (by (repeat (first|exact mhd _|apply mtl))) hus dl);(case hb=>(repeat (exact mhd _)));(case h1=>rw [List.take_of_length_le (by omega)];exact esC_one _);(case hfit=>simp only [over,List.length_append,List.length_take,List.length_drop,zl,tl,cells_length];omega);(case hov=>rfl);(case hu=>(repeat (exact Upd.here _ _)));(case hd=>rfl);(case hν'=>intro e he;cases he)))
      all_goals (apply d_done;(case hr=>kernel_rfl))
      repeat' (first|apply v_seq|apply v_region|apply v_nil|(apply v_pure;(case hop=>first|(apply p_move <;> rfl)|(apply p_assign <;> rfl)|fail);(case hd=>rfl))|fail)
      refine v_ret [(b3,_)] (outsA1 rfl rfl) (by repeat (first|exact List.nil_sublist _|apply List.Sublist.cons_cons)) ?_
      refine ⟨rfl,?_⟩
      have el:(esC (l.take i ++ x :: l.drop i)) = esC (l.take i) ++ x.cells ++ esC (l.drop i):=by rw [esC_append,esC_cons,List.append_assoc]
      have e:=ins_row (esC (l.take i)) (Builtin.zeroCells zE.cells (l.length + 1 - i)).toList sp3 x.cells (esC (l.drop i)) (by rw [zl,dl,cells_length];omega) (by rw [zl,dl,cells_length];omega)
      rw [tl,cells_length] at e
      rw [show 0 + (i + 1) * 10 = i * 10 + 10 by omega,show 0 + i * 10 = i * 10 by omega,List.take_of_length_le (l:=esC (l.drop i)) (by omega),show x.cells.take (1 * 10) = x.cells from rfl,e,show i + (l.length + 1 - i) = l.length + 1 by omega]
      refine ⟨by rw [el,List.length_append,List.length_append,tl,dl,cells_length];omega,.inr ⟨b3,c3,sp3,rfl,by rw [el],by omega,by simp only [maxLen];omega,?_⟩⟩
      simp only [List.length_append,zl,tl] at hd3
      rw [el]
      simp only [List.length_append,tl,dl,cells_length]
      omega
    · (refine v_enter Tryz.func205 rfl Tryz.ntmps205 rfl ?_;intro B _)
      repeat' (first|(apply v_pure;(case hop=>(apply p_sliceB i;(case hx=>rfl);(case hl=>rfl);(case hz=>omega);(case h1=>omega);(case h2=>omega);(case h3=>omega)));(case hd=>rfl))|(apply v_pure;(case hop=>(apply p_sliceB (i + 1);(case hx=>rfl);(case hl=>rfl);(case hz=>omega);(case h1=>omega);(case h2=>omega);(case h3=>omega)));(case hd=>rfl))|(apply v_pure;(case hop=>(apply p_sliceHB (l.length + 1);(case hx=>rfl);(case hl=>rfl);(case hz=>omega);(case h1=>omega)));(case hd=>rfl))|apply v_seq|apply v_region|apply v_nil|apply v_skip|(apply v_pure;(case hop=>first|(apply p_move <;> rfl)|(apply p_eq <;> rfl)|(apply p_gt <;> rfl)|(apply p_assign <;> rfl)|(apply p_lenSlice <;> rfl)|(apply p_add;(case hx=>rfl);(case hy=>rfl);(case h=>omega))|(apply p_capSlice <;> rfl)|fail);(case hd=>rfl))|(apply v_cond;(case hc=>rfl);all_goals (intro h;(try simp only [reduceCtorEq,zzz] at h);first|(exfalso;omega)|skip))|fail)
      refine v_ne (b':=b2) (by simp) fun hne=>?_
      refine v_apart (e:=97) (agg:=true) (sz:=10) (bytes:=104) (zero:=zE) rfl rfl (by (repeat (first|exact mhd _|apply mtl))) (by (repeat (exact mhd _))) hne (fun h=>by have:=congrArg List.length h;rw [List.length_append,esC_length,List.length_nil] at this;omega) rfl ?_
      repeat' (first|apply v_seq|apply v_nil|(apply v_pure;(case hop=>(apply p_not <;> rfl));(case hd=>rfl))|(apply v_condT;(case hc=>rfl))|fail)
      have tl:(esC (l.take i)).length = i * 10:=by rw [esC_length,List.length_take];omega
      have dl:(esC (l.drop i)).length = (l.length - i) * 10:=by rw [esC_length,List.length_drop]
      have hus:(((esC l ++ spare).drop (0 + i * 10)).take ((l.length + 1 - i) * 10)).take ((l.length - i) * 10) = esC (l.drop i):=by
        rw [List.take_take,Nat.zero_add,Nat.min_eq_left (by omega),List.drop_append_of_le_length (by omega),esC_drop,List.take_append_of_le_length (by omega),List.take_of_length_le (by omega)]
      refine d_start [] (by kernel_rfl) (by kernel_rfl) (by kernel_rfl) (by intro e he;(simp at he ⊢;try omega)) ?_
      all_goals (apply dtk 0;(case hi=>rfl);(case hop=>(apply prd;apply p_move <;> rfl));(case hq=>kernel_rfl))
      all_goals (apply dtk 1;(case hi=>rfl);(case hop=>(apply prd;apply p_move <;> rfl));(case hq=>kernel_rfl))
      all_goals (apply dtk 2;(case hi=>rfl);(case hop=>(apply prd;apply p_move <;> rfl));(case hq=>kernel_rfl))
      all_goals (apply dtk 3;(case hi=>rfl);(case hop=>(apply prd;apply p_add;(case hx=>rfl);(case hy=>rfl);(case h=>omega)));(case hq=>kernel_rfl))
      all_goals (apply dtk 4;(case hi=>rfl);(case hop=>((apply prd;apply p_sliceB (i + 1);(case hx=>rfl);(case hl=>rfl);(case hz=>omega);(case h1=>omega);(case h2=>omega);(case h3=>omega))));(case hq=>kernel_rfl))
      all_goals (apply dtk 5;(case hi=>rfl);(case hop=>(apply prd;apply p_move <;> rfl));(case hq=>kernel_rfl))
      all_goals (apply dtk 6;(case hi=>rfl);(case hop=>(apply prd;apply p_move <;> rfl));(case hq=>kernel_rfl))
      all_goals (apply dtk 7;(case hi=>rfl);(case hop=>((apply prd;apply p_sliceB i;(case hx=>rfl);(case hl=>rfl);(case hz=>omega);(case h1=>omega);(case h2=>omega);(case h3=>omega))));(case hq=>kernel_rfl))
      all_goals ((apply d_copy 8 (e:=97) (agg:=true) (sz:=10) (bytes:=104) (zero:=zE) (m':=l.length + 1 - i) (q:=l.length - i) (us:=((esC l ++ spare).drop (0 + i * 10)).take ((l.length + 1 - i) * 10));(case hi=>rfl);(case hr=>kernel_rfl);  (case hT=>infer_instance);(case hL=>infer_instance);(case hy=>rfl);(case hx=>rfl);(case hq=>(show min _ _ = _);omega);(case hm=>omega);(case hsrc=>exact Src.ownAt (vs:=esC l ++ spare) (e:=97) (by (repeat (exact mhd _))) rfl (by simp only [List.length_take,List.length_drop,List.length_append,esC_length];omega));(case hb=>(repeat (exact mhd _)));(case h1=>rw [hus];exact esC_one _);(case hfit=>rw [List.length_append,esC_length];omega);(case hov=>rw [hus]);(case hu=>(repeat (exact Upd.here _ _)));(case hd=>rfl);(case hν'=>intro e he;cases he)))
      all_goals (apply d_done;(case hr=>kernel_rfl))
      repeat' (first|(apply v_pure;(case hop=>(apply p_sliceB i;(case hx=>rfl);(case hl=>rfl);(case hz=>omega);(case h1=>omega);(case h2=>omega);(case h3=>omega)));(case hd=>rfl))|apply v_seq|apply v_region|(apply v_pure;(case hop=>(apply p_move <;> rfl));(case hd=>rfl))|fail)
      refine v_copy (e:=97) (agg:=true) (sz:=10) (bytes:=104) (zero:=zE) (q:=1) rfl rfl (show min 1 _ = 1 by omega) (by omega) (us:=x.cells) (Src.own (e:=97) (by simp [Has]) rfl) (by (repeat (exact mhd _))) rfl (by rw [over_length (by rw [List.length_append,hxl,dl];omega),List.length_append,hxl];omega) rfl (by (repeat (exact Upd.here _ _))) rfl ?_
      repeat' (first|apply v_seq|apply v_region|apply v_nil|(apply v_pure;(case hop=>first|(apply p_move <;> rfl)|(apply p_assign <;> rfl)|fail);(case hd=>rfl))|fail)
      refine v_ret [(b,_)] (outsA1 rfl rfl) (by repeat (first|exact List.nil_sublist _|apply List.Sublist.cons_cons)) ?_
      refine ⟨rfl,?_⟩
      have el:(esC (l.take i ++ x :: l.drop i)) = esC (l.take i) ++ x.cells ++ esC (l.drop i):=by rw [esC_append,esC_cons,List.append_assoc]
      have e:=ins_shift (esC (l.take i)) (esC (l.drop i)) spare x.cells (by rw [cells_length];omega)
      rw [tl,cells_length,← esC_append,List.take_append_drop] at e
      rw [show 0 + (i + 1) * 10 = i * 10 + 10 by omega,show 0 + i * 10 = i * 10 by omega,show x.cells.take (1 * 10) = x.cells from rfl,e]
      refine ⟨by rw [el,List.length_append,List.length_append,tl,dl,cells_length];omega,.inr ⟨b,cap,spare.drop 10,rfl,by rw [el],by omega,by simp only [maxLen];omega,?_⟩⟩
      rw [el]
      simp only [List.length_append,List.length_drop,tl,dl,cells_length]
      omega
end Go.Proofs.YtpemabgfmnhhnaaGreatDoor
/-
  entry (layer 12), the sixth part: With; the example.
-/
set_option linter.unusedSimpArgs false
set_option linter.unusedVariables false
namespace Go.Proofs.YtpemabgfmnhhnaaGreatDoor
open Go.Vx Go.ChangeShapes Go.WideShapes Go.ChangeAt Go.RowKit
noncomputable def withL (l:List Ent) (x:Ent):List Ent:=if hitB l x.index = true then l.set (placeN l x.index) x else l.take (placeN l x.index) ++ x :: l.drop (placeN l x.index)
theorem hitB_lt {l:List Ent} {n:Int} (h:hitB l n = true):placeN l n < l.length:=by
  unfold hitB at h
  by_cases h':placeN l n < l.length
  · exact h'
  · rw [dif_neg h'] at h;cases h
theorem placeN_le (l:List Ent) (n:Int):placeN l n ≤ l.length:=List.countP_le_length
theorem withL_len (l:List Ent) (x:Ent):(withL l x).length = if hitB l x.index = true then l.length else l.length + 1:=by
  unfold withL
  have:=placeN_le l x.index
  split
  · simp
  · simp;omega
theorem esC_set (l:List Ent) (x:Ent) (sp:List Value) (p:Nat) (hp:p < l.length):over (esC l ++ sp) (p * 10) x.cells = esC (l.set p x) ++ sp:=by
  have e:l.set p x = l.take p ++ x :: l.drop (p + 1):=List.set_eq_take_append_cons_drop.trans (if_pos hp)
  have e1:(esC l ++ sp).take (p * 10) = esC (l.take p):=by rw [List.take_append_of_le_length (by rw [esC_length];omega),esC_take]
  have e2:(esC l ++ sp).drop (p * 10 + x.cells.length) = esC (l.drop (p + 1)) ++ sp:=by
    rw [cells_length,show p * 10 + 10 = (p + 1) * 10 by omega,List.drop_append_of_le_length (by rw [esC_length];omega),esC_drop]
  rw [over,e1,e2,e,esC_append,esC_cons]
  simp
theorem with_s {G:GH} {l:List Ent} {sv:Value} (x:Ent) (hs:Es G sv l) (hr:RiseL l) (hn:l.length ≤ 200):Con Tryz.prog 180 #[sv,.agg x.cells.toArray] G [] (fun r G' μ'=>G' = G ∧ Grow 97 10 r (withL l x).length (esC (withL l x)) μ'):=by
  have qp:=place_s x.index hs hr
  have qc:=entClone_s hs hn
  have hlp:=placeN_le l x.index
  (refine v_enter Tryz.func180 rfl Tryz.ntmps180 rfl ?_;intro B _)
  repeat' (first|apply v_seq|apply v_region|apply v_nil|(apply v_pure;(case hop=>first|(apply p_move <;> rfl)|(apply p_assign <;> rfl)|(apply p_fieldAddrB <;> rfl)|(apply p_extract0 <;> rfl)|(apply p_extract1 <;> rfl)|fail);(case hd=>rfl))|(apply v_box (zs:=x.cells);(case hx=>rfl);(case hz=>rfl);(case hd=>rfl);intro bx)|(apply v_callJ (hs:=qp);(case ha=>rfl);(case hd=>rfl))|(apply v_read;(case hop=>(apply r_load1;rfl;(apply Cell.own;(case h=>(repeat (exact mhd _)));rfl)));(case hd=>rfl))|fail)
  refine v_call (μ1:=[]) (μ2:=_) rfl qc (List.Perm.refl _) rfl ?_
  rintro r G' μ1 _ ⟨rfl,hg⟩
  clear qp qc
  cases hh:hitB l x.index
  · have el:withL l x = l.take (placeN l x.index) ++ x :: l.drop (placeN l x.index):=by rw [withL,if_neg (by rw [hh];decide)]
    have ell:(withL l x).length = l.length + 1:=by rw [withL_len,if_neg (by rw [hh];decide)]
    rw [ell,el]
    generalize placeN l x.index = p at *
    obtain ⟨A,c,rfl,hc1,hc2⟩:=hg.shape
    repeat' (first|apply v_seq|apply v_region|apply v_nil|apply v_skip|(apply v_pure;(case hop=>first|(apply p_move <;> rfl)|(apply p_assign <;> rfl)|fail);(case hd=>rfl))|(apply v_condF;(case hc=>rfl))|(apply v_read;(case hop=>(apply r_loadNo;(case hx=>rfl);(case h=>(repeat (first|exact mhd _|apply List.mem_append_right)));(case hd=>(repeat (first|with_reducible exact dt_nil|apply dt_here)));(case hn=>rfl)));(case hd=>rfl))|(apply v_buildSlice;(case hz=>rfl);(case hi=>rfl);(case hv=>(simp only [List.map_cons,List.map_nil];repeat (first|with_reducible exact evs_nil|(apply evs_cons;(case h1=>rfl)))));(case hp=>(apply pk_cons;(case hc=>rfl);(case hs=>rfl);(case h=>(with_reducible exact pk_nil));(case he=>((repeat (first|with_reducible exact ap_nil|apply ap_cons));done))));(case hb=>rfl);(case hd=>rfl);intro b)|fail)
    refine v_call (μ1:=μ1 ++ [(b,.cells x.cells.toArray 97 (0,0))]) (μ2:=[(bx,.cells x.cells.toArray 97 (0,0))]) rfl (entInsert_s x b p hg hlp hn) (show List.Perm ((b,Obj.cells x.cells.toArray 97 (0,0)) :: (μ1 ++ [(bx,Obj.cells x.cells.toArray 97 (0,0))])) _ from (by apply perm_of_count;intro p;simp only [List.append_eq,List.countP_append,List.countP_cons,List.countP_nil,Nat.zero_add,Nat.add_zero];try ac_rfl)) rfl ?_
    rintro r' G1 μ2 _ ⟨rfl,hg'⟩
    repeat' (first|apply v_nil|(apply v_pure;(case hop=>(apply p_assign <;> rfl));(case hd=>rfl))|fail)
    refine v_ret μ2 (outsA1 rfl rfl) (by repeat (exact List.sublist_append_left _ _)) ?_
    exact ⟨rfl,hg'⟩
  · have el:withL l x = l.set (placeN l x.index) x:=by rw [withL,if_pos hh]
    have hlt:=hitB_lt hh
    rw [el,List.length_set]
    generalize placeN l x.index = p at *
    obtain ⟨hxl,⟨rfl,h0,rfl⟩|⟨b1,cap,spare,rfl,rfl,hc1,hc2,hc3⟩⟩:=hg
    · omega
    simp only [maxLen] at hc2
    simp only [List.singleton_append]
    rw [List.length_append,esC_length] at hc3
    repeat' (first|apply v_seq|apply v_region|apply v_nil|(apply v_pure;(case hop=>first|(apply p_move <;> rfl)|(apply p_assign <;> rfl)|(apply p_indexAddr;(case hx=>rfl);(case hi=>rfl);(case h0=>omega);(case h=>omega))|fail);(case hd=>rfl))|(apply v_condT;(case hc=>rfl))|(apply v_read;(case hop=>(apply r_loadNo;(case hx=>rfl);(case h=>(repeat (first|exact mhd _|apply mtl)));(case hd=>(repeat (first|with_reducible exact dt_nil|apply dt_here)));(case hn=>rfl)));(case hd=>rfl))|fail)
    refine v_store (agg:=true) (sz:=10) (bytes:=104) (zero:=zE) (b:=b1) (i:=p * 10) (us:=x.cells) (vs':=esC (l.set p x) ++ spare) (show some (Value.pointer (some ((⟨b1,0,none⟩:Addr).add (p * 10)))) = _ by rw [add_mk,Nat.zero_add]) rfl rfl rfl rfl (by (repeat (exact mhd _))) (by rw [cells_length,List.length_append,hxl];omega) (esC_set l x spare p hlt) (by (repeat (exact Upd.here _ _))) ?_
    repeat' (first|apply v_seq|apply v_region|apply v_nil|(apply v_pure;(case hop=>first|(apply p_move <;> rfl)|(apply p_assign <;> rfl)|fail);(case hd=>rfl))|fail)
    refine v_ret [(b1,_)] (outsA1 rfl rfl) (by repeat (first|exact List.nil_sublist _|apply List.Sublist.cons_cons)) ?_
    exact ⟨rfl,by rw [esC_length,List.length_set],.inr ⟨b1,cap,spare,rfl,rfl,hc1,by simp only [maxLen];omega,by rw [List.length_append,esC_length,List.length_set];omega⟩⟩
theorem cm_feqD (d:Nat) (c c':Cm):FEq Tryz.prog (d + 1) c.cells c'.cells [⟨"Kind",3,0,false, "", "",0⟩,⟨"Client",3,1,false, "", "",8⟩,⟨"Seq",3,2,false, "", "",16⟩,⟨"Key",9,3,false, "", "",24⟩,⟨"Val",9,4,false, "", "",40⟩,⟨"Old",9,5,false, "", "",56⟩,⟨"Node",3,6,false, "", "",72⟩] (dec (c.kind = c'.kind) && (dec (c.client = c'.client) && (dec (c.seq = c'.seq) && (dec (c.key = c'.key) && (dec (c.val = c'.val) && (dec (c.old = c'.old) && (dec (c.node = c'.node) && true))))))) :=
  feq_int (k:=.i64) (bytes:=8) (zero:=.int .i64 0) (sz:=1) (nm := "Kind") (ft:=3) (off:=0) (em:=false) (tg := "") (pk := "") (bo:=0) rfl rfl rfl
    (feq_int (k:=.i64) (bytes:=8) (zero:=.int .i64 0) (sz:=1) (nm := "Client") (ft:=3) (off:=1) (em:=false) (tg := "") (pk := "") (bo:=8) rfl rfl rfl
    (feq_int (k:=.i64) (bytes:=8) (zero:=.int .i64 0) (sz:=1) (nm := "Seq") (ft:=3) (off:=2) (em:=false) (tg := "") (pk := "") (bo:=16) rfl rfl rfl
    (feq_str (bytes:=16) (zero:=.string ByteArray.empty) (sz:=1) (nm := "Key") (ft:=9) (off:=3) (em:=false) (tg := "") (pk := "") (bo:=24) rfl rfl rfl
    (feq_str (bytes:=16) (zero:=.string ByteArray.empty) (sz:=1) (nm := "Val") (ft:=9) (off:=4) (em:=false) (tg := "") (pk := "") (bo:=40) rfl rfl rfl
    (feq_str (bytes:=16) (zero:=.string ByteArray.empty) (sz:=1) (nm := "Old") (ft:=9) (off:=5) (em:=false) (tg := "") (pk := "") (bo:=56) rfl rfl rfl
    (feq_int (k:=.i64) (bytes:=8) (zero:=.int .i64 0) (sz:=1) (nm := "Node") (ft:=3) (off:=6) (em:=false) (tg := "") (pk := "") (bo:=72) rfl rfl rfl feq_nil))))))
theorem ent_feq (x y:Ent):∃ b,FEq Tryz.prog 9999 x.cells y.cells [⟨"Index",3,0,false, "", "",0⟩,⟨"Ballot",23,1,false, "", "",8⟩,⟨"Cmd",40,3,false, "", "",24⟩] b ∧ b = dec (x = y):=by
  refine ⟨_,feq_int (k:=.i64) (bytes:=8) (zero:=.int .i64 0) (sz:=1) rfl (a:=x.index) (b:=y.index) rfl rfl (feq_agg (bytes:=16) (zero:=.agg #[.int .i64 0,.int .i64 0]) (sz:=2) (us:=[.int .i64 x.round,.int .i64 x.node]) (vs:=[.int .i64 y.round,.int .i64 y.node]) rfl rfl rfl
    (feq_int (k:=.i64) (bytes:=8) (zero:=.int .i64 0) (sz:=1) (a:=x.round) (b:=y.round) rfl rfl rfl (feq_int (k:=.i64) (bytes:=8) (zero:=.int .i64 0) (sz:=1) (a:=x.node) (b:=y.node) rfl rfl rfl feq_nil))
    (feq_agg (bytes:=80) (zero:=.agg #[.int .i64 0,.int .i64 0,.int .i64 0,.string ByteArray.empty,.string ByteArray.empty,.string ByteArray.empty,.int .i64 0]) (sz:=7) (us:=x.cmd.cells) (vs:=y.cmd.cells) rfl rfl rfl (cm_feqD 9997 x.cmd y.cmd) feq_nil)),?_⟩
  rw [cm_dec]
  obtain ⟨a1,a2,a3,a4⟩:=x
  obtain ⟨b1,b2,b3,b4⟩:=y
  rw [Bool.eq_iff_iff]
  simp [dec_true,and_assoc]
theorem neEnt {σ:Env} {ty t':TypeId} {a b:Operand} {x y:Ent} (hx:Env.ev σ a = some (.agg x.cells.toArray)) (hy:Env.ev σ b = some (.agg y.cells.toArray)):PureOp Tryz.prog (.binOp .neq 97 a b t') ty σ (.bool (!dec (x = y))):=by
  obtain ⟨q,hq,rfl⟩:=ent_feq x y
  exact p_neStruct (P:=Tryz.prog) (ty:=ty) (t:=97) (t':=t') hx hy hq
theorem entSame_s {G:GH} {a b:List Ent} {av bv:Value} (ha:Es G av a) (hb:Es G bv b):Con Tryz.prog 65 #[av,bv] G [] (Just (.bool (decide (a = b))) G):=by
  obtain ⟨A,c,rfl,hlc,hcm,hsome,hcp,hcb,hcc,hok⟩:=esOpen ha
  obtain ⟨A',c',rfl,hlc',hcm',hsome',hcp',hcb',hcc',hok'⟩:=esOpen hb
  clear hcb hcc hok hcb' hcc' hok'
  simp only [maxLen] at hcm hcm'
  apply Con.just
  (refine v_enter Tryz.func65 rfl Tryz.ntmps65 rfl ?_;intro B _)
  repeat' (first|apply v_seq|apply v_region|apply v_nil|apply v_skip|apply v_block|(apply v_pure;(case hop=>first|(apply p_move <;> rfl)|(apply p_ne <;> rfl)|(apply p_assign <;> rfl)|(apply p_lenSlice <;> rfl)|fail);(case hd=>rfl))|(apply v_cond;(case hc=>rfl);all_goals (intro h;(try simp only [reduceCtorEq,zzz] at h)))|fail)
  · refine v_ret [] (outsA1 rfl rfl) (by repeat (exact List.Sublist.refl _)) ?_
    refine ⟨?_,rfl⟩
    rw [decide_eq_false]
    intro e
    subst e
    omega
  have hab:a.length = b.length:=by omega
  refine v_loop [5,0,1] (fun us G' μ'=>G' = G ∧ μ' = [] ∧ ∃ k,k ≤ a.length ∧ us = [Value.int .i64 (k:Nat),.slice A a.length c,.slice A' b.length c'] ∧ ∀ i (h:i < a.length) (h':i < b.length),i < k → a[i] = b[i]) (fun us=>a.length - (headI us).toNat) rfl ⟨rfl,rfl,0,by omega,rfl,by omega⟩ ?_
  rintro us G' μ' ⟨rfl,rfl,k,hk,rfl,hno⟩
  repeat' (first|apply v_seq|apply v_region|apply v_nil|apply v_skip|apply v_block|(apply v_exit;(case hp=>rfl))|(apply v_pure;(case hop=>first|(apply p_move <;> rfl)|(apply p_lt <;> rfl)|(apply p_assign <;> rfl)|(apply p_lenSlice <;> rfl)|fail);(case hd=>rfl))|(apply v_cond;(case hc=>rfl);all_goals (intro h;(try simp only [reduceCtorEq,zzz] at h)))|fail)
  · have hlt:k < a.length:=by omega
    refine d_start [] (by kernel_rfl) (by kernel_rfl) (by kernel_rfl) (by intro e he;exact he) ?_
    all_goals (apply dtk 0;(case hi=>rfl);(case hop=>(apply prd;apply p_move <;> rfl));(case hq=>kernel_rfl))
    all_goals (apply dtk 1;(case hi=>rfl);(case hop=>(apply prd;apply p_move <;> rfl));(case hq=>kernel_rfl))
    all_goals (apply dtk 2;(case hi=>rfl);(case hop=>(apply prd;apply p_indexAddrS;(case hx=>rfl);(case hi=>rfl);(case h0=>omega);(case h=>omega);(case hA=>(apply_assumption;omega))));(case hq=>kernel_rfl))
    all_goals (apply dtk 3;(case hi=>rfl);(case hop=>((apply r_loadN;rfl;exact CellsAt.frozen (hcp _ (by omega));rfl)));(case hq=>kernel_rfl))
    all_goals (apply dtk 4;(case hi=>rfl);(case hop=>(apply prd;apply p_move <;> rfl));(case hq=>kernel_rfl))
    all_goals (apply dtk 5;(case hi=>rfl);(case hop=>(apply prd;apply p_move <;> rfl));(case hq=>kernel_rfl))
    all_goals (apply dtk 6;(case hi=>rfl);(case hop=>(apply prd;apply p_indexAddrS;(case hx=>rfl);(case hi=>rfl);(case h0=>omega);(case h=>omega);(case hA=>(apply_assumption;omega))));(case hq=>kernel_rfl))
    all_goals (apply dtk 7;(case hi=>rfl);(case hop=>((apply r_loadN;rfl;exact CellsAt.frozen (hcp' _ (by omega));rfl)));(case hq=>kernel_rfl))
    all_goals (apply dtk 8;(case hi=>rfl);(case hop=>((apply prd;apply neEnt (x:=a[k]'(by omega)) (y:=b[k]'(by omega));(case hx=>rfl);(case hy=>rfl))));(case hq=>kernel_rfl))
    all_goals (apply d_done;(case hr=>kernel_rfl))
    repeat' (first|apply v_seq|apply v_region|apply v_nil|apply v_skip|apply v_blk|(apply v_pure;(case hop=>first|(apply p_move <;> rfl)|(apply p_assign <;> rfl)|(apply p_add;(case hx=>rfl);(case hy=>rfl);(case h=>omega))|fail);(case hd=>rfl))|(apply v_cond;(case hc=>rfl);all_goals (intro h;(try simp only [reduceCtorEq,zzz] at h)))|fail)
    · refine v_ret [] (outsA1 rfl rfl) (by repeat (exact List.Sublist.refl _)) ?_
      refine ⟨?_,rfl⟩
      rw [decide_eq_false]
      intro e
      subst e
      contradiction
    · refine v_again rfl ⟨rfl,rfl,k + 1,by omega,rfl,fun i h h' hi=>?_⟩ (by simp [headI];omega)
      by_cases hik:i = k
      · subst hik;assumption
      · exact hno i h h' (by omega)
  · refine v_ret [] (outsA1 rfl rfl) (by repeat (exact List.Sublist.refl _)) ?_
    refine ⟨?_,rfl⟩
    rw [decide_eq_true]
    exact List.ext_getElem hab fun i h h'=>hno i h h' (by omega)
theorem placeN_at {l:List Ent} (hr:RiseL l) {i:Nat} (hi:i < l.length):placeN l l[i].index = i:=by
  refine placeN_eq (by omega) (fun m h hm=>hr m i hi hm) (fun m h hm=>?_)
  by_cases he:m = i
  · subst he;omega
  · have:=hr i m h (by omega)
    omega
theorem hitB_at {l:List Ent} (hr:RiseL l) {i:Nat} (hi:i < l.length):hitB l l[i].index = true:=by
  unfold hitB
  simp only [placeN_at hr hi]
  rw [dif_pos hi]
  simp
theorem hitB_index {l:List Ent} {n:Int} (h:hitB l n = true):(l[placeN l n]'(hitB_lt h)).index = n:=by
  have hl:=hitB_lt h
  unfold hitB at h
  rw [dif_pos hl] at h
  exact of_decide_eq_true h
theorem refEntFind_s {G:GH} {l:List Ent} {sv:Value} (n:Int) (hs:Es G sv l) (hr:RiseL l):Con Tryz.prog 110 #[sv,.int .i64 n] G [] (Just (.int .i64 (if hitB l n = true then (placeN l n:Nat) else -1)) G):=by
  obtain ⟨A,c,rfl,hlc,hcm,hsome,hcp,hcb,hcc,hok⟩:=esOpen hs
  simp only [maxLen] at hcm
  apply Con.just
  (refine v_enter Tryz.func110 rfl Tryz.ntmps110 rfl ?_;intro B _)
  repeat' (first|apply v_seq|apply v_region|apply v_nil|apply v_block|(apply v_pure;(case hop=>(apply p_assign <;> rfl));(case hd=>rfl))|fail)
  refine v_loop [5,0,1] (fun us G' μ'=>G' = G ∧ μ' = [] ∧ ∃ k,k ≤ l.length ∧ us = [Value.int .i64 (k:Nat),.slice A l.length c,.int .i64 n] ∧ ∀ i (h:i < l.length),i < k → l[i].index ≠ n) (fun us=>l.length - (headI us).toNat) rfl ⟨rfl,rfl,0,by omega,rfl,by omega⟩ ?_
  rintro us G' μ' ⟨rfl,rfl,k,hk,rfl,hno⟩
  have e1:((k:Nat):Int).toNat = k:=by omega
  repeat' (first|apply v_seq|apply v_region|apply v_nil|apply v_skip|apply v_block|apply v_blk|(apply v_exit;(case hp=>rfl))|(apply v_pure;(case hop=>first|(apply p_move <;> rfl)|(apply p_eq <;> rfl)|(apply p_lt <;> rfl)|(apply p_assign <;> rfl)|(apply p_lenSlice <;> rfl)|(apply p_fieldAddr <;> rfl)|(apply p_add;(case hx=>rfl);(case hy=>rfl);(case h=>omega))|(apply p_indexAddrS;(case hx=>rfl);(case hi=>rfl);(case h0=>omega);(case h=>omega);(case hA=>(apply_assumption;omega)))|fail);(case hd=>rfl))|(apply v_cond;(case hc=>rfl);all_goals (intro h;(try simp only [reduceCtorEq,zzz] at h)))|(apply v_read;(case hop=>(apply r_load1;rfl;exact Cell.frozen (esCell hcp _ (by omega))));(case hd=>rfl))|fail)
  · refine v_ret [] (outsA1 rfl rfl) (by repeat (exact List.Sublist.refl _)) ?_
    refine ⟨?_,rfl⟩
    have hlt:k < l.length:=by omega
    have he:l[k].index = n:=by assumption
    have h1:=hitB_at hr hlt
    have h2:=placeN_at hr hlt
    rw [he] at h1 h2
    rw [if_pos h1,h2]
  · refine v_again rfl ⟨rfl,rfl,k + 1,by omega,rfl,fun i h hi=>?_⟩ (by simp [headI];omega)
    by_cases hik:i = k
    · subst hik;assumption
    · exact hno i h (by omega)
  · refine v_ret [] (outsA1 rfl rfl) (by repeat (exact List.Sublist.refl _)) ?_
    refine ⟨?_,rfl⟩
    rw [if_neg]
    intro h
    exact hno _ (hitB_lt h) (by have:=hitB_lt h;omega) (hitB_index h)
def zeroE:Ent:=⟨0,0,0,zeroCm⟩
noncomputable def findE (l:List Ent) (n:Int):Ent:=if h:hitB l n = true then l[placeN l n]'(hitB_lt h) else zeroE
theorem find_s {G:GH} {l:List Ent} {sv:Value} (n:Int) (hs:Es G sv l) (hr:RiseL l):Con Tryz.prog 181 #[sv,.int .i64 n] G [] (Just (.tuple [.agg (findE l n).cells.toArray,.bool (hitB l n)].toArray) G):=by
  have qp:=place_s n hs hr
  obtain ⟨A,c,rfl,hlc,hcm,hsome,hcp,hcb,hcc,hok⟩:=esOpen hs
  simp only [maxLen] at hcm
  apply Con.just
  (refine v_enter Tryz.func181 rfl Tryz.ntmps181 rfl ?_;intro B _)
  cases hh:hitB l n
  · rw [hh] at qp
    repeat' (first|apply v_seq|apply v_region|apply v_nil|(apply v_pure;(case hop=>first|(apply p_move <;> rfl)|(apply p_assign <;> rfl)|(apply p_not <;> rfl)|(apply p_extract0 <;> rfl)|(apply p_extract1 <;> rfl)|(apply p_build;(case hz=>rfl);(case hv=>(simp only [List.map_cons,List.map_nil];repeat (with_reducible exact evs_nil)));(case hb=>(apply bldL;repeat (exact bld_nil)))));(case hd=>rfl))|(apply v_condT;(case hc=>rfl))|(apply v_callJ (hs:=qp);(case ha=>rfl);(case hd=>rfl))|(apply v_alloc;(case hz=>rfl);(case hd=>rfl);intro b)|(apply v_store;(case hp=>rfl);(case hx=>rfl);(case hc=>rfl);(case hsz=>rfl);(case h1=>rfl);(case hb=>(repeat (exact mhd _)));(case hfit=>exact nle rfl);(case hov=>((repeat (first|with_reducible exact ov_nil|apply ov_cons));done));(case hu=>repeat (exact Upd.here _ _)))|fail)
    refine v_retM [] (outsM_cell_tmp (vs:=zeroE.cells) (e:=97) rfl rfl rfl ?_ ?_) (by repeat (exact List.nil_sublist _)) ?_
    · exact mhd _
    · rfl
    · exact ⟨by rw [findE,dif_neg (by rw [hh];decide)],rfl⟩
  · rw [hh] at qp
    have hlt:=hitB_lt hh
    repeat' (first|apply v_seq|apply v_region|apply v_nil|apply v_skip|(apply v_pure;(case hop=>first|(apply p_move <;> rfl)|(apply p_assign <;> rfl)|(apply p_not <;> rfl)|(apply p_extract0 <;> rfl)|(apply p_extract1 <;> rfl)|(apply p_indexAddrS;(case hx=>rfl);(case hi=>rfl);(case h0=>omega);(case h=>omega);(case hA=>(apply_assumption;omega)))|fail);(case hd=>rfl))|(apply v_condF;(case hc=>rfl))|(apply v_callJ (hs:=qp);(case ha=>rfl);(case hd=>rfl))|(apply v_read;(case hop=>(apply r_loadN;rfl;exact CellsAt.frozen (hcp _ (by omega));rfl));(case hd=>rfl))|(apply v_alloc;(case hz=>rfl);(case hd=>rfl);intro b)|(apply v_store;(case hp=>rfl);(case hx=>rfl);(case hc=>rfl);(case hsz=>rfl);(case h1=>rfl);(case hb=>(repeat (exact mhd _)));(case hfit=>exact nle rfl);(case hov=>((repeat (first|with_reducible exact ov_nil|apply ov_cons));done));(case hu=>repeat (exact Upd.here _ _)))|fail)
    refine v_retM [] (outsM_cell_tmp (vs:=(l[placeN l n]'hlt).cells) (e:=97) rfl rfl rfl ?_ ?_) (by repeat (exact List.nil_sublist _)) ?_
    · exact mhd _
    · rfl
    · exact ⟨by rw [findE,dif_pos hh],rfl⟩
def LargeB (n:Nat) (G:GH) (r:Value) (G':GH) (μ':OH):Prop:=G' = G ∧ μ' = [] ∧ ∃ b,r = .bool b ∧ (b = false → n ≤ 40)
theorem entLargeB_s {G:GH} {l:List Ent} {sv:Value} (hs:Es G sv l):Con Tryz.prog 46 #[sv] G [] (LargeB l.length G):=by
  obtain ⟨A,c,rfl,hlc,hcm,hsome,hcp,hcb,hcc,hok⟩:=esOpen hs
  simp only [maxLen] at hcm
  have hz:=fun i (h:i < l.length)=>(hok i h).2.2.2
  simp only [Cm.ok,maxLen] at hz
  (refine v_enter Tryz.func46 rfl Tryz.ntmps46 rfl ?_;intro B _)
  repeat' (first|apply v_seq|apply v_region|apply v_nil|apply v_block|(apply v_pure;(case hop=>(apply p_assign <;> rfl));(case hd=>rfl))|fail)
  refine v_loop [3,0] (fun us G' μ'=>G' = G ∧ μ' = [] ∧ ∃ k,k ≤ l.length ∧ us = [Value.int .i64 (k:Nat),.slice A l.length c]) (fun us=>l.length - (headI us).toNat) rfl ⟨rfl,rfl,0,by omega,rfl⟩ ?_
  rintro us G' μ' ⟨rfl,rfl,k,hk,rfl⟩
  have e1:((k:Nat):Int).toNat = k:=by omega
  repeat' (first|apply v_seq|apply v_region|apply v_nil|apply v_skip|apply v_block|apply v_blk|(apply v_exit;(case hp=>rfl))|(apply v_take;(case hg=>rfl))|(apply v_pass;(case hg=>rfl);(case hn=>rfl);(case hd=>rfl))|(apply v_pure;(case hop=>first|(apply p_move <;> rfl)|(apply p_lt <;> rfl)|(apply p_gt <;> rfl)|(apply p_assign <;> rfl)|(apply p_pickT <;> rfl)|(apply p_pickF <;> rfl)|(apply p_lenSlice <;> rfl)|(apply p_fieldAddrB <;> rfl)|(apply p_fieldAddr <;> rfl)|(apply p_add;(case hx=>rfl);(case hy=>rfl);(case h=>omega))|(apply p_indexAddrS;(case hx=>rfl);(case hi=>rfl);(case h0=>omega);(case h=>omega);(case hA=>(apply_assumption;omega)))|(apply p_lenString <;> rfl)|fail);(case hd=>rfl))|(apply v_condT;(case hc=>rfl))|(apply v_condF;(case hc=>rfl))|(apply v_cond;(case hc=>rfl);all_goals (intro h;(try simp only [reduceCtorEq,zzz] at h)))|(apply v_guardB;(case h1=>rfl);(case h2=>rfl);all_goals (intro h;(try simp only [reduceCtorEq,zzz] at h)))|(apply v_read;(case hop=>first|(apply r_load1;rfl;exact Cell.frozen (cmCell hcc _ (by omega) 3 _ rfl))|(apply r_load1;rfl;exact Cell.frozen (cmCell hcc _ (by omega) 4 _ rfl))|(apply r_load1;rfl;exact Cell.frozen (cmCell hcc _ (by omega) 5 _ rfl)));(case hd=>rfl))|fail)
  all_goals first
    | (refine v_ret [] (outsA1 rfl rfl) (by repeat (exact List.Sublist.refl _)) ?_
       refine ⟨rfl,rfl,_,rfl,fun h=>?_⟩
       first|(cases h;done)|(have:=dec_false.1 h;omega))
    | (refine v_again rfl ⟨rfl,rfl,k + 1,by omega,rfl⟩ (by simp [headI];omega))
theorem rise_of_step {l:List Ent} (h:∀ i (hi:i < l.length),0 < i → (l[i - 1]'(by omega)).index < l[i].index):RiseL l:=by
  intro i j hj hij
  induction j with
  | zero=>omega
  | succ j ih =>
    have h1:=h (j + 1) hj (by omega)
    simp only [Nat.add_sub_cancel] at h1
    by_cases he:i = j
    · subst he;exact h1
    · have:=ih (by omega) (by omega)
      omega
theorem es_drop {G:GH} {A:Option Addr} {c p:Nat} {l:List Ent} (hs:Es G (.slice A l.length c) l) (hp:p ≤ l.length):Es G (.slice (if c = p then A else A.map (·.add (p * 10))) (l.length - p) (c - p)) (l.drop p):=by
  obtain ⟨A',c',he,h1,h2,h3⟩:=hs
  cases he
  refine ⟨_,_,by rw [List.length_drop],by rw [List.length_drop];omega,by omega,fun h0=>?_⟩
  rw [List.length_drop] at h0
  obtain ⟨a,rfl,h4⟩:=h3 (by omega)
  refine ⟨a.add (p * 10),by rw [if_neg (by omega)];rfl,fun i x hx=>?_⟩
  rw [List.getElem?_drop] at hx
  obtain ⟨cs,q1,q2,q3⟩:=h4 (p + i) x hx
  refine ⟨cs,q1,q2,?_⟩
  rw [adr_add,← Nat.add_mul]
  exact q3
def Mine (l:List Ent) (G:GH) (r:Value) (G':GH) (μ':OH):Prop:=G' = G ∧ Grow 97 10 r l.length (esC l) μ'
theorem from_s {G:GH} {l:List Ent} {sv:Value} (n:Int) (hs:Es G sv l) (hr:RiseL l) (hn:l.length ≤ 200):Con Tryz.prog 182 #[sv,.int .i64 n] G [] (Mine (l.drop (placeN l n)) G):=by
  have qp:=place_s n hs hr
  have hp:=placeN_le l n
  obtain ⟨A,c,rfl,hlc,hcm,-⟩:=esOpen hs
  simp only [maxLen] at hcm
  have qc:=entClone_s (es_drop hs hp) (by rw [List.length_drop];omega)
  (refine v_enter Tryz.func182 rfl Tryz.ntmps182 rfl ?_;intro B _)
  repeat' (first|apply v_seq|apply v_region|apply v_nil|(apply v_pure;(case hop=>first|(apply p_move <;> rfl)|(apply p_assign <;> rfl)|(apply p_extract0 <;> rfl)|(apply p_extract1 <;> rfl)|(apply p_sliceL;(case hx=>rfl);(case hl=>rfl);all_goals omega)|fail);(case hd=>rfl))|(apply v_callJ (hs:=qp);(case ha=>rfl);(case hd=>rfl))|fail)
  refine v_call (μ1:=[]) (μ2:=_) rfl qc (List.Perm.refl _) rfl ?_
  rintro r G' μ1 _ ⟨rfl,hg⟩
  repeat' (first|apply v_nil|(apply v_pure;(case hop=>(apply p_assign <;> rfl));(case hd=>rfl))|fail)
  refine v_ret _ (outsA1 rfl rfl) (by repeat (exact List.Sublist.refl _)) ?_
  exact ⟨rfl,by simpa using hg⟩
theorem placeN_lt {l:List Ent} (hr:RiseL l) {n:Int} {m:Nat} (hm:m < l.length):m < placeN l n ↔ l[m].index < n:=by
  constructor
  · intro h
    by_cases hc:l[m].index < n
    · exact hc
    · exfalso
      have:=placeN_le l n
      have hle:placeN l n ≤ m:=by
        have e:l = l.take m ++ l.drop m:=(List.take_append_drop m l).symm
        have z:(l.drop m).countP (fun x=>decide (x.index < n)) = 0:=by
          rw [List.countP_eq_zero]
          intro x hx
          obtain ⟨q,hq,rfl⟩:=List.getElem_of_mem hx
          rw [List.length_drop] at hq
          rw [List.getElem_drop]
          simp only [decide_eq_true_eq]
          by_cases h0:q = 0
          · subst h0;exact hc
          · have:=hr m (m + q) (by omega) (by omega)
            omega
        have z2:placeN l n = (l.take m).countP (fun x=>decide (x.index < n)):=by
          rw [placeN]
          conv=>lhs;rw [e]
          rw [List.countP_append,z,Nat.add_zero]
        have z3:(l.take m).countP (fun x=>decide (x.index < n)) ≤ (l.take m).length:=List.countP_le_length
        rw [List.length_take] at z3
        omega
      omega
  · intro h
    have e:l = l.take (m + 1) ++ l.drop (m + 1):=(List.take_append_drop (m + 1) l).symm
    have h1:(l.take (m + 1)).countP (fun x=>decide (x.index < n)) = m + 1:=by
      rw [List.countP_eq_length.2,List.length_take]
      · omega
      · intro x hx
        obtain ⟨q,hq,rfl⟩:=List.getElem_of_mem hx
        rw [List.length_take] at hq
        rw [List.getElem_take]
        simp only [decide_eq_true_eq]
        by_cases h0:q = m
        · subst h0;exact h
        · have:=hr q m hm (by omega)
          omega
    have h2:placeN l n = m + 1 + (l.drop (m + 1)).countP (fun x=>decide (x.index < n)):=by
      rw [placeN]
      conv=>lhs;rw [e]
      rw [List.countP_append,h1]
    omega
end Go.Proofs.YtpemabgfmnhhnaaGreatDoor
