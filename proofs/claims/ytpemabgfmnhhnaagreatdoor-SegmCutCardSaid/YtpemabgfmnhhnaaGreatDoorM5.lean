/-
  A frame by the reference (layer 3); the program's sum, and how long one may be.
-/
import Derived.Test.YtpemabgfmnhhnaaGreatDoorM4
import Derived.Test.YtpemabgfmnhhnaaGreatDoorM1
import Derived.Test.YtpemabgfmnhhnaaGreatDoorM2
import VxDev
import Derived.Test.YtpemabgfmnhhnaaGreatDoorM3
import Derived.Lib.AppendStr
set_option linter.unusedSimpArgs false
set_option linter.unusedVariables false
namespace Go.Proofs.YtpemabgfmnhhnaaGreatDoor
open Go.Vx Go.ChangeShapes Go.WideShapes Go.ChangeAt Go.RowKit
theorem sumB_take (l:List Int) {j:Nat} (h:j < 4):(sumB l).take (j + 1) = (sumB l).take j ++ [((crcN l / 256 ^ j % 256:Nat):Int)]:=by
  obtain rfl|rfl|rfl|rfl:j = 0 ∨ j = 1 ∨ j = 2 ∨ j = 3:=by omega
  all_goals simp [sumB]
section
attribute [local semireducible] PureOp
variable {P:Program} {ty:TypeId} {σ:Env} {t t' u:TypeId}
theorem p_mod256 {x y:Operand} {v:Nat} (hx:Env.ev σ x = some (.int .u32 (v:Nat))) (hy:Env.ev σ y = some (.int .u32 256)):PureOp P (.binOp .rem t x y t') ty σ (.int .u32 ((v % 256:Nat):Int)):=by
  have h:=p_rem0 (P:=P) (ty:=ty) (t:=t) (t':=t') hx hy (Int.natCast_nonneg _) (by omega)
  have e:((v:Nat):Int) % 256 = ((v % 256:Nat):Int):=by omega
  rw [e] at h
  exact h
theorem p_byteR {x:Operand} {v:Nat} {k k'':IntKind} [Ty P t (.int k'')] [Ty P u (.int .u8)] (hx:Env.ev σ x = some (.int k (v:Nat))):PureOp P (.convert t u x) ty σ (.int .u8 ((v % 256:Nat):Int)):=by
  have h:=p_conv (P:=P) (ty:=ty) (t:=t) (u:=u) hx
  rw [IntKind.wrap_u8,show ((v:Nat):Int) % 256 = ((v % 256:Nat):Int) by omega] at h
  exact h
theorem ofNatR {x:Operand} {v:Nat} (hv:v < 4294967296) (hx:Env.ev σ x = some (.int .u32 (v:Nat))):Env.ev σ x = some (rv (BitVec.ofNat 32 v)):=by
  rw [hx]
  show _ = some (Value.int .u32 ((BitVec.ofNat 32 v).toNat:Int))
  rw [BitVec.toNat_ofNat,Nat.mod_eq_of_lt (show v < 2 ^ 32 by omega)]
theorem p_div256 {x y:Operand} {v:Nat} (hv:v < 4294967296) (hx:Env.ev σ x = some (.int .u32 (v:Nat))) (hy:Env.ev σ y = some (.int .u32 256)):PureOp P (.binOp .quo t x y t') ty σ (.int .u32 ((v / 256:Nat):Int)):=by
  have h:=p_quoR (P:=P) (ty:=ty) (t:=t) (t':=t') (a:=BitVec.ofNat 32 v) (b:=256) (ofNatR hv hx) hy (by omega)
  rw [BitVec.toNat_ofNat,Nat.mod_eq_of_lt (show v < 2 ^ 32 by omega)] at h
  exact h
theorem p_shr32 {x y:Operand} {v n:Nat} {k:IntKind} (hv:v < 4294967296) (hx:Env.ev σ x = some (.int .u32 (v:Nat))) (hy:Env.ev σ y = some (.int k (n:Nat))) (hn:n < 32):PureOp P (.binOp .shr t x y t') ty σ (.int .u32 ((v / 2 ^ n:Nat):Int)):=by
  have h:=p_shrR (P:=P) (ty:=ty) (t:=t) (t':=t') (a:=BitVec.ofNat 32 v) (n:=n) (ofNatR hv hx) hy hn
  have e:(BitVec.ofNat 32 v >>> n).toNat = v / 2 ^ n:=by rw [BitVec.toNat_ushiftRight,Nat.shiftRight_eq_div_pow,BitVec.toNat_ofNat,Nat.mod_eq_of_lt (show v < 2 ^ 32 by omega)]
  have e2:rv (BitVec.ofNat 32 v >>> n) = .int .u32 ((v / 2 ^ n:Nat):Int):=by
    show Value.int .u32 ((BitVec.ofNat 32 v >>> n).toNat:Int) = _
    rw [e]
  rw [e2] at h
  exact h
end
theorem fmay_s (G:GH) (n:Nat):Con Tryz.prog 99 #[.int .i64 (n:Nat)] G [] (Just (.int .i64 (if n = 0 then 3 else if 65536 < n then 2 else 0)) G):=by
  apply Con.just
  (refine v_enter Tryz.func99 rfl Tryz.ntmps99 rfl ?_;intro B _)
  repeat' (first|apply v_seq|apply v_region|apply v_nil|apply v_skip|apply v_block|apply v_blk|(apply v_pure;(case hop=>first|(apply p_move <;> rfl)|(apply p_gt <;> rfl)|(apply p_le <;> rfl)|(apply p_assign <;> rfl));(case hd=>rfl))|(apply v_cond;(case hc=>rfl);all_goals (intro h;(try simp only [reduceCtorEq,zzz] at h)))|fail)
  all_goals
    (refine v_ret [] (outsA1 rfl rfl) (by repeat (exact List.Sublist.refl _)) ?_
     refine ⟨?_,rfl⟩)
  · rw [if_pos (by omega)]
  · rw [if_neg (by omega),if_pos (by omega)]
  · rw [if_neg (by omega),if_neg (by omega)]
theorem fsum_s {G:GH} (hC:CrcG G) {l:List Int} {sv:Value} (hs:Sl G 1 (IntR .u8) sv l):Con Tryz.prog 102 #[sv] G [] (fun r G' μ'=>G' = G ∧ Grow 5 1 r (sumB l).length ((sumB l).map (.int .u8 ·)) μ'):=by
  have q:=csum_s hC hs
  have hv:=crcN_lt l
  generalize hc:crcN l = v at *
  have hS:sumB l = [((v % 256:Nat):Int),((v / 2 ^ 8 % 256:Nat):Int),((v / 2 ^ 16 % 256:Nat):Int),((v / 2 ^ 24 % 256:Nat):Int)]:=by
    unfold sumB
    rw [hc]
  (refine v_enter Tryz.func102 rfl Tryz.ntmps102 rfl ?_;intro B _)
  repeat' (first|(apply v_pure;(case hop=>(apply p_byteR;(case hx=>rfl)));(case hd=>rfl))|(apply v_pure;(case hop=>(apply p_shr32 (n:=8);(case hv=>exact hv);(case hx=>rfl);(case hy=>rfl);(case hn=>omega)));(case hd=>rfl))|(apply v_pure;(case hop=>(apply p_shr32 (n:=16);(case hv=>exact hv);(case hx=>rfl);(case hy=>rfl);(case hn=>omega)));(case hd=>rfl))|(apply v_pure;(case hop=>(apply p_shr32 (n:=24);(case hv=>exact hv);(case hx=>rfl);(case hy=>rfl);(case hn=>omega)));(case hd=>rfl))|apply v_seq|apply v_region|apply v_nil|(apply v_pure;(case hop=>first|(apply p_move <;> rfl)|(apply p_assign <;> rfl)|fail);(case hd=>rfl))|(apply v_callJ (hs:=q);(case ha=>rfl);(case hd=>rfl))|(apply v_buildSlice;(case hz=>rfl);(case hi=>rfl);(case hv=>(simp only [List.map_cons,List.map_nil];repeat (first|with_reducible exact evs_nil|(apply evs_cons;(case h1=>rfl)))));(case hp=>(apply pk_cons;(case hc=>rfl);(case hs=>rfl);(case h=>(apply pk_cons;(case hc=>rfl);(case hs=>rfl);(case h=>(apply pk_cons;(case hc=>rfl);(case hs=>rfl);(case h=>(apply pk_cons;(case hc=>rfl);(case hs=>rfl);(case h=>(with_reducible exact pk_nil));(case he=>((repeat (first|with_reducible exact ap_nil|apply ap_cons));done))));(case he=>((repeat (first|with_reducible exact ap_nil|apply ap_cons));done))));(case he=>((repeat (first|with_reducible exact ap_nil|apply ap_cons));done))));(case he=>((repeat (first|with_reducible exact ap_nil|apply ap_cons));done))));(case hb=>rfl);(case hd=>rfl);intro b)|fail)
  refine v_ret [(b,_)] (outsA1 rfl rfl) (by repeat (exact List.Sublist.refl _)) ?_
  refine ⟨rfl,?_⟩
  rw [hS]
  exact Grow.lit rfl (by simp only [maxLen];omega)
theorem rframe_s {G:GH} {l:List Int} {sv:Value} (hs:Sl G 1 (IntR .u8) sv l) (hl:l.length ≤ 100000):Con Tryz.prog 55 #[sv] G [] (fun r G' μ'=>G' = G ∧ Grow 5 1 r (frB l).length ((frB l).map (.int .u8 ·)) μ'):=by
  have q1:=rnum_s G (l.length:Nat) (by omega)
  have q2:=rsum_s hs
  have hv:=crcN_lt l
  have hvl:=(vbytes_len (l.length:Nat)).1
  have hsd:=fun μ=>Src.ints (μ:=μ) hs
  have h4:=fun j h=>sumB_take l (j:=j) h
  obtain ⟨A,c,rfl,hlc,hcm,hsome,hel,hwf⟩:=id hs.openInt
  simp only [maxLen] at hcm
  (refine v_enter Tryz.func55 rfl Tryz.ntmps55 rfl ?_;intro B _)
  repeat' (first|apply v_seq|apply v_region|apply v_nil|(apply v_pure;(case hop=>first|(apply p_move <;> rfl)|(apply p_assign <;> rfl)|(apply p_lenSlice <;> rfl)|fail);(case hd=>rfl))|fail)
  refine v_call (μ1:=[]) rfl q1 (List.Perm.refl _) rfl ?_
  rintro r1 G1 ν1 - ⟨hG1,hg1⟩
  subst hG1
  repeat' (first|apply v_seq|apply v_region|apply v_nil|apply v_block|(apply v_pure;(case hop=>first|(apply p_move <;> rfl)|(apply p_assign <;> rfl)|fail);(case hd=>rfl))|(apply v_callJ (hs:=q2);(case ha=>rfl);(case hd=>rfl))|(apply v_append (hg:=hg1) (m':=l.length) (us:=l.map (.int .u8 ·)) (hp:=List.Perm.refl _) (hsrc:=hsd _);(case hzs=>rfl);(case hsz=>omega);(case hs=>rfl);(case hx=>rfl);(case hb=>omega);(case hb'=>simp only [maxLen];omega);(case hd=>rfl);(case h1=>exact allOne_ints l);intro v2 n2 hg2)|fail)
  have hg3:Grow 5 1 v2 (vbytes (l.length:Nat) ++ l).length ((vbytes (l.length:Nat) ++ l).map (Value.int .u8 ·)) n2:=by
    rw [List.length_append,List.map_append]
    exact hg2
  have hPl:(vbytes (l.length:Nat) ++ l).length ≤ 100011:=by rw [List.length_append];omega
  have hF:frB l = (vbytes (l.length:Nat) ++ l) ++ (sumB l).take 4:=rfl
  rw [hF]
  clear hF hg1 hg2 q1 q2 hsd hel hs hwf
  generalize vbytes (l.length:Nat) ++ l = P at *
  refine v_drop (ν:=n2) (List.sublist_append_left _ _) ?_
  refine v_loop [5,4,3] (fun us G' μ'=>G' = G1 ∧ ∃ (k:Nat) (v:Value),k ≤ 4 ∧ us = [Value.int .i64 (k:Nat),.int .u32 ((crcN l / 256 ^ k:Nat):Int),v] ∧ Grow 5 1 v (P ++ (sumB l).take k).length ((P ++ (sumB l).take k).map (Value.int .u8 ·)) μ') (fun us=>4 - (headI us).toNat) rfl ⟨rfl,0,v2,by omega,by rw [Nat.pow_zero,Nat.div_one];rfl,by rw [List.take_zero,List.append_nil];exact hg3⟩ ?_
  rintro us G' μ' ⟨hG',k,w,hk,rfl,hg⟩
  subst hG'
  obtain ⟨A3,c3,rfl,-,-⟩:=hg.shape
  have e1:((k:Nat):Int).toNat = k:=by omega
  by_cases hlt:k < 4
  · have hv2:crcN l / 256 ^ k < 4294967296:=Nat.lt_of_le_of_lt (Nat.div_le_self _ _) hv
    have hnx:crcN l / 256 ^ (k + 1) = crcN l / 256 ^ k / 256:=by rw [Nat.pow_succ,Nat.div_div_eq_div_mul]
    have htk:=h4 k hlt
    have hlen:(P ++ (sumB l).take k).length ≤ 100020:=by rw [List.length_append,List.length_take,sumB_len];omega
    generalize crcN l / 256 ^ k = v at *
    repeat' (first|(apply v_pure;(case hop=>(apply p_mod256;(case hx=>rfl);(case hy=>rfl)));(case hd=>rfl))|(apply v_pure;(case hop=>(apply p_byteR;(case hx=>rfl)));(case hd=>rfl))|(apply v_pure;(case hop=>(apply p_div256;(case hv=>exact hv2);(case hx=>rfl);(case hy=>rfl)));(case hd=>rfl))|apply v_seq|apply v_region|apply v_nil|apply v_skip|apply v_block|apply v_blk|(apply v_pure;(case hop=>first|(apply p_move <;> rfl)|(apply p_lt <;> rfl)|(apply p_assign <;> rfl)|(apply p_add;(case hx=>rfl);(case hy=>rfl);(case h=>omega))|fail);(case hd=>rfl))|(apply v_cond;(case hc=>rfl);all_goals (intro h;(try simp only [reduceCtorEq,zzz] at h);first|(exfalso;omega)|skip))|(apply v_append (hg:=hg) (m':=1) (us:=[.int .u8 ((v % 256 % 256:Nat):Int)]) (hp:=PickA.perm (by repeat (first|exact PickA.last|apply PickA.cons))) (hsrc:=Src.own (e:=5) (List.Mem.head _) rfl);(case hzs=>rfl);(case hsz=>omega);(case hs=>rfl);(case hx=>rfl);(case hb=>omega);(case hb'=>simp only [maxLen];omega);(case hd=>rfl);(case h1=>rfl);intro v4 n4 hg4)|(apply v_buildSlice;(case hz=>rfl);(case hi=>rfl);(case hv=>(simp only [List.map_cons,List.map_nil];repeat (first|with_reducible exact evs_nil|(apply evs_cons;(case h1=>rfl)))));(case hp=>(apply pk_cons;(case hc=>rfl);(case hs=>rfl);(case h=>(with_reducible exact pk_nil));(case he=>((repeat (first|with_reducible exact ap_nil|apply ap_cons));done))));(case hb=>rfl);(case hd=>rfl);intro b)|fail)
    refine v_only n4 (by repeat (exact PickA.here _)) ?_
    refine v_again rfl ⟨rfl,k + 1,v4,by omega,by rw [hnx];rfl,?_⟩ (by simp [headI];omega)
    rw [htk,← List.append_assoc,List.length_append,List.map_append]
    rw [Nat.mod_mod] at hg4
    exact hg4
  · obtain rfl:k = 4:=by omega
    repeat' (first|apply v_seq|apply v_region|apply v_nil|(apply v_exit;(case hp=>rfl))|(apply v_pure;(case hop=>first|(apply p_move <;> rfl)|(apply p_lt <;> rfl)|(apply p_assign <;> rfl)|fail);(case hd=>rfl))|(apply v_cond;(case hc=>rfl);all_goals (intro h;(try simp only [reduceCtorEq,zzz] at h);first|(exfalso;omega)|skip))|fail)
    exact v_ret _ (outsA1 rfl rfl) (List.Sublist.refl _) ⟨rfl,hg⟩
end Go.Proofs.YtpemabgfmnhhnaaGreatDoor
/-
  A file that is cut off anywhere, in plain Lean.
-/
set_option linter.unusedSimpArgs false
set_option linter.unusedVariables false
namespace Go.Proofs.YtpemabgfmnhhnaaGreatDoor
theorem vbytes_byte {n:Int} (h:n ≤ 9223372036854775807):byteL (vbytes n):=fun x hx=>by
  have:=vbytes_wf h x hx
  simp [Lit.wf,IntKind.min,IntKind.max,IntKind.signed,IntKind.bits] at this
  omega
theorem frB_byte {b:List Int} (h:byteL b) (hl:okF b):byteL (frB b) :=
  ((vbytes_byte (by have:=hl.2;omega)).app h).app (sumB_wf b)
section
variable {α:Type} (enc:α → List Int) (dec:List Int → Option α)
def flatF (xs:List α):List Int:=(xs.map (fun x=>frB (enc x))).flatten
theorem flatF_cons (x:α) (xs:List α):flatF enc (x :: xs) = frB (enc x) ++ flatF enc xs:=rfl
theorem flatF_nil:flatF enc [] = []:=rfl
theorem flatF_app (xs ys:List α):flatF enc (xs ++ ys) = flatF enc xs ++ flatF enc ys:=by simp [flatF]
theorem flatF_len_take (xs:List α) (i:Nat):(flatF enc (xs.take i)).length ≤ (flatF enc xs).length:=by
  have:=flatF_app enc (xs.take i) (xs.drop i)
  rw [List.take_append_drop] at this
  rw [this,List.length_append]
  omega
theorem flatF_many (xs:List α):5 * xs.length ≤ (flatF enc xs).length:=by
  induction xs with
  | nil=>simp [flatF]
  | cons x xs ih =>
    rw [flatF_cons,List.length_append,List.length_cons]
    have:=frB_pos (enc x)
    omega
def wholeN:List α → Nat → Nat
  | [],_=>0
  | x :: xs,m=>if (frB (enc x)).length ≤ m then wholeN xs (m - (frB (enc x)).length) + 1 else 0
theorem wholeN_le:∀ (xs:List α) (m:Nat),wholeN enc xs m ≤ xs.length
  | [],m=>Nat.le_refl 0
  | x :: xs,m=>by
    unfold wholeN
    split
    · have:=wholeN_le xs (m - (frB (enc x)).length)
      rw [List.length_cons];omega
    · omega
theorem wholeN_fits:∀ (xs:List α) (m:Nat),(flatF enc (xs.take (wholeN enc xs m))).length ≤ m
  | [],m=>by simp [flatF]
  | x :: xs,m=>by
    unfold wholeN
    split
    · have:=wholeN_fits xs (m - (frB (enc x)).length)
      rw [List.take_succ_cons,flatF_cons,List.length_append];omega
    · simp [flatF]
theorem wholeN_most:∀ (xs:List α) (m i:Nat),i ≤ xs.length → (flatF enc (xs.take i)).length ≤ m → i ≤ wholeN enc xs m
  | [],m,i,h,_=>by
    have:i = 0:=by simpa using h
    omega
  | x :: xs,m,0,_,_=>Nat.zero_le _
  | x :: xs,m,i + 1,h,h2=>by
    rw [List.take_succ_cons,flatF_cons,List.length_append] at h2
    unfold wholeN
    rw [if_pos (by omega)]
    have:=wholeN_most xs (m - (frB (enc x)).length) i (by simpa using h) (by omega)
    omega
def okC (x:α):Prop:=okF (enc x) ∧ dec (enc x) = some x ∧ byteL (enc x)
theorem flatF_byte {xs:List α} (h:∀ x ∈ xs,okC enc dec x):byteL (flatF enc xs):=by
  induction xs with
  | nil=>intro y hy;simp [flatF] at hy
  | cons x xs ih =>
    rw [flatF_cons]
    have:=h x (List.mem_cons_self)
    exact (frB_byte this.2.2 this.1).app (ih fun y hy=>h y (List.mem_cons_of_mem _ hy))
theorem cut_recs:∀ (xs:List α) (m f:Nat),(∀ x ∈ xs,okC enc dec x) → xs.length ≤ f → m ≤ (flatF enc xs).length →
    recsF dec f ((flatF enc xs).take m) = (xs.take (wholeN enc xs m),((flatF enc xs).take m).drop (flatF enc (xs.take (wholeN enc xs m))).length)
  | [],m,f,h,hf,hm=>by
    rw [flatF_nil,List.take_nil,recsF_none dec nextF_nil]
    simp
  | x :: xs,m,0,h,hf,hm=>by simp at hf
  | x :: xs,m,f + 1,h,hf,hm=>by
    have hx:=h x (List.mem_cons_self)
    have hb:=flatF_byte enc dec h
    rw [flatF_cons] at hb hm ⊢
    unfold wholeN
    by_cases hc:(frB (enc x)).length ≤ m
    · rw [if_pos hc]
      have e:(frB (enc x) ++ flatF enc xs).take m = frB (enc x) ++ (flatF enc xs).take (m - (frB (enc x)).length):=by
        rw [List.take_append,List.take_of_length_le hc]
      rw [e,recsF_some dec (nextF_fr _ hx.1) hx.2.1,cut_recs xs (m - (frB (enc x)).length) f (fun y hy=>h y (List.mem_cons_of_mem _ hy)) (by simpa using hf) (by rw [List.length_append] at hm;omega)]
      rw [List.take_succ_cons,flatF_cons,List.length_append,← List.drop_drop,List.drop_left]
    · rw [if_neg hc,recsF_none dec (nextF_cut hx.1 hb (by omega))]
      simp [flatF]
theorem cut_recs' {xs:List α} {m f:Nat} (h:∀ x ∈ xs,okC enc dec x) (hm:m ≤ (flatF enc xs).length) (hf:m ≤ f) :
    recsF dec f ((flatF enc xs).take m) = (xs.take (wholeN enc xs m),((flatF enc xs).take m).drop (flatF enc (xs.take (wholeN enc xs m))).length):=by
  have hb:byteL ((flatF enc xs).take m):=(flatF_byte enc dec h).take m
  have hl:((flatF enc xs).take m).length ≤ m:=by rw [List.length_take];omega
  rw [recsF_fuel dec f (m + xs.length) _ hb (by omega) (by omega)]
  exact cut_recs enc dec xs m (m + xs.length) h (by omega) hm
end
end Go.Proofs.YtpemabgfmnhhnaaGreatDoor
/-
  slices.Grow of bytes that are none, slices.Concat of two and of three lists of bytes.
-/
set_option linter.unusedSimpArgs false
set_option linter.unusedVariables false
namespace Go.Proofs.YtpemabgfmnhhnaaGreatDoor
open Go.Vx Go.ChangeShapes Go.WideShapes Go.ChangeAt Go.RowKit
theorem bgrow0_s {G:GH} {n:Nat} (hn:n ≤ 1048576):Con Tryz.prog 142 #[.slice none 0 0,.int .i64 (n:Nat)] G [] (fun r G' μ'=>G' = G ∧ Grow 5 1 r 0 [] μ'):=by
  (refine v_enter Tryz.func142 rfl Tryz.ntmps142 rfl ?_;intro B _)
  repeat' (first|apply v_seq|apply v_region|apply v_nil|apply v_skip|(apply v_pure;(case hop=>first|(apply p_move <;> rfl)|(apply p_lt <;> rfl)|(apply p_gt <;> rfl)|(apply p_assign <;> rfl)|(apply p_lenSlice <;> rfl)|(apply p_sub;(case hx=>rfl);(case hy=>rfl);(case h=>omega))|(apply p_capSlice <;> rfl)|(apply p_sliceH;(case hx=>rfl);(case hh=>rfl);all_goals omega)|fail);(case hd=>rfl))|(apply v_cond;(case hc=>rfl);all_goals (intro h;(try simp only [reduceCtorEq,zzz] at h);first|(exfalso;omega)|skip))|fail)
  · refine v_appendZ (e:=5) (agg:=false) (sz:=1) (bytes:=1) (zero:=.int .u8 0) (q:=n) (m:=0) (xs:=[]) rfl (by omega) rfl rfl (by omega) (Src.ints (k:=.u8) (l:=[]) Sl.nil) (by omega) (by omega) (by omega) (by simp only [maxLen];omega) rfl fun b3 c3 sp3 hd1 hd2 hd3=>?_
    simp only [maxLen] at hd2
    repeat' (first|apply v_seq|apply v_region|apply v_nil|(apply v_pure;(case hop=>first|(apply p_move <;> rfl)|(apply p_assign <;> rfl)|(apply p_lenSlice <;> rfl)|(apply p_sliceH;(case hx=>rfl);(case hh=>rfl);all_goals omega)|fail);(case hd=>rfl))|fail)
    refine v_ret [(b3,_)] (outsA1 rfl rfl) (by repeat (exact List.Sublist.refl _)) ?_
    exact ⟨rfl,by simp,.inr ⟨b3,c3,(Builtin.zeroCells (Value.int IntKind.u8 0).cells n).toList ++ sp3,rfl,rfl,by omega,by simp only [maxLen];omega,hd3⟩⟩
  · refine v_ret [] (outsA1 rfl rfl) (by repeat (exact List.Sublist.refl _)) ?_
    exact ⟨rfl,Grow.nil _ _⟩
def pre3 (a d e:List Int) (k:Nat):List Int:=if k = 0 then [] else if k = 1 then a else if k = 2 then a ++ d else a ++ d ++ e
theorem concat3_s {G:GH} {a d f:List Int} {av dv fv:Value} {sb:Nat} (ha:Sl G 1 (IntR .u8) av a) (hd:Sl G 1 (IntR .u8) dv d) (hf:Sl G 1 (IntR .u8) fv f) (hla:a.length ≤ 100000) (hld:d.length ≤ 100000) (hlf:f.length ≤ 100000) :
    Con Tryz.prog 100 #[.slice (some ⟨sb,0,none⟩) 3 3] G [(sb,.cells [av,dv,fv].toArray 24 (0,0))] (fun r G' μ'=>G' = G ∧ ∃ ν,Grow 5 1 r (a ++ d ++ f).length ((a ++ d ++ f).map (.int .u8 ·)) ν ∧ μ' = ν ++ [(sb,.cells [av,dv,fv].toArray 24 (0,0))]):=by
  have qg:=bgrow0_s (G:=G) (n:=a.length + d.length + f.length) (by omega)
  obtain ⟨A1,c1,rfl,hlc1,hcm1,-,-,-⟩:=id ha.openInt
  obtain ⟨A2,c2,rfl,hlc2,hcm2,-,-,-⟩:=id hd.openInt
  obtain ⟨A3,c3,rfl,hlc3,hcm3,-,-,-⟩:=id hf.openInt
  simp only [maxLen] at hcm1 hcm2 hcm3
  have hsa:=fun μ=>Src.ints (μ:=μ) ha
  have hsd:=fun μ=>Src.ints (μ:=μ) hd
  have hsf:=fun μ=>Src.ints (μ:=μ) hf
  have p0:pre3 a d f 0 = []:=rfl
  have p1:pre3 a d f 1 = a:=rfl
  have p2:pre3 a d f 2 = a ++ d:=rfl
  have p3:pre3 a d f 3 = a ++ d ++ f:=rfl
  have l2:(a ++ d).length = a.length + d.length:=List.length_append
  have l3:(a ++ d ++ f).length = a.length + d.length + f.length:=by rw [List.length_append,List.length_append]
  (refine v_enter Tryz.func100 rfl Tryz.ntmps100 rfl ?_;intro B _)
  repeat' (first|apply v_seq|apply v_region|apply v_nil|apply v_block|(apply v_pure;(case hop=>first|(apply p_move <;> rfl)|(apply p_assign <;> rfl)|(apply p_lenSlice <;> rfl)|fail);(case hd=>rfl))|fail)
  refine v_loop [11,3,9,10,0] (fun us G' μ'=>G' = G ∧ ∃ k:Nat,k ≤ 3 ∧ us = [Value.int .i64 (k:Nat),.int .i64 ((pre3 a d f k).length:Nat),.slice (some ⟨sb,0,none⟩) 3 3,.int .i64 (3:Nat),.slice (some ⟨sb,0,none⟩) 3 3] ∧ μ' = [(sb,.cells [Value.slice A1 a.length c1,Value.slice A2 d.length c2,Value.slice A3 f.length c3].toArray 24 (0,0))]) (fun us=>3 - (headI us).toNat) rfl ⟨rfl,0,by omega,rfl,rfl⟩ ?_
  rintro us G' _ ⟨hG',k,hk,rfl,rfl⟩
  subst G'
  obtain rfl|rfl|rfl|rfl:k = 0 ∨ k = 1 ∨ k = 2 ∨ k = 3:=by omega
  · rw [p0,show ([]:List Int).length = 0 from rfl]
    repeat' (first|apply v_seq|apply v_region|apply v_nil|apply v_skip|apply v_block|apply v_blk|(apply v_pure;(case hop=>first|(apply p_move <;> rfl)|(apply p_lt <;> rfl)|(apply p_assign <;> rfl)|(apply p_lenSlice <;> rfl)|(apply p_add;(case hx=>rfl);(case hy=>rfl);(case h=>omega))|(apply p_indexAddr;(case hx=>rfl);(case hi=>rfl);(case h0=>omega);(case h=>omega))|fail);(case hd=>rfl))|(apply v_cond;(case hc=>rfl);all_goals (intro h;(try simp only [reduceCtorEq,zzz] at h);first|(exfalso;omega)|skip))|(apply v_read;(case hop=>(apply r_load1;rfl;(apply Cell.own;(case h=>(repeat (exact mhd _)));rfl)));(case hd=>rfl))|fail)
    refine v_again rfl ⟨rfl,1,by omega,?_,rfl⟩ (by simp [headI])
    rw [p1]
    simp
  · rw [p1]
    repeat' (first|apply v_seq|apply v_region|apply v_nil|apply v_skip|apply v_block|apply v_blk|(apply v_pure;(case hop=>first|(apply p_move <;> rfl)|(apply p_lt <;> rfl)|(apply p_assign <;> rfl)|(apply p_lenSlice <;> rfl)|(apply p_add;(case hx=>rfl);(case hy=>rfl);(case h=>omega))|(apply p_indexAddr;(case hx=>rfl);(case hi=>rfl);(case h0=>omega);(case h=>omega))|fail);(case hd=>rfl))|(apply v_cond;(case hc=>rfl);all_goals (intro h;(try simp only [reduceCtorEq,zzz] at h);first|(exfalso;omega)|skip))|(apply v_read;(case hop=>(apply r_load1;rfl;(apply Cell.own;(case h=>(repeat (exact mhd _)));rfl)));(case hd=>rfl))|fail)
    refine v_again rfl ⟨rfl,2,by omega,?_,rfl⟩ (by simp [headI])
    rw [p2]
    simp
  · rw [p2,l2]
    repeat' (first|apply v_seq|apply v_region|apply v_nil|apply v_skip|apply v_block|apply v_blk|(apply v_pure;(case hop=>first|(apply p_move <;> rfl)|(apply p_lt <;> rfl)|(apply p_assign <;> rfl)|(apply p_lenSlice <;> rfl)|(apply p_add;(case hx=>rfl);(case hy=>rfl);(case h=>omega))|(apply p_indexAddr;(case hx=>rfl);(case hi=>rfl);(case h0=>omega);(case h=>omega))|fail);(case hd=>rfl))|(apply v_cond;(case hc=>rfl);all_goals (intro h;(try simp only [reduceCtorEq,zzz] at h);first|(exfalso;omega)|skip))|(apply v_read;(case hop=>(apply r_load1;rfl;(apply Cell.own;(case h=>(repeat (exact mhd _)));rfl)));(case hd=>rfl))|fail)
    refine v_again rfl ⟨rfl,3,by omega,?_,rfl⟩ (by simp [headI])
    rw [p3]
    simp [Int.add_assoc]
  · rw [p3,l3]
    repeat' (first|apply v_seq|apply v_region|apply v_nil|(apply v_exit;(case hp=>rfl))|(apply v_pure;(case hop=>first|(apply p_move <;> rfl)|(apply p_lt <;> rfl)|fail);(case hd=>rfl))|(apply v_cond;(case hc=>rfl);all_goals (intro h;(try simp only [reduceCtorEq,zzz] at h);first|(exfalso;omega)|skip))|fail)
    refine v_call (μ1:=[]) (μ2:=[(sb,_)]) rfl qg (List.Perm.refl _) rfl ?_
    rintro r3 G3 ν3 - ⟨hG3,hg3⟩
    subst hG3
    repeat' (first|apply v_seq|apply v_region|apply v_nil|apply v_block|(apply v_pure;(case hop=>first|(apply p_move <;> rfl)|(apply p_assign <;> rfl)|(apply p_lenSlice <;> rfl)|fail);(case hd=>rfl))|fail)
    refine v_loop [27,6,25,26] (fun us G' μ'=>G' = G3 ∧ ∃ (k:Nat) (v:Value) (ν:OH),k ≤ 3 ∧ us = [Value.int .i64 (k:Nat),v,.slice (some ⟨sb,0,none⟩) 3 3,.int .i64 (3:Nat)] ∧ Grow 5 1 v (pre3 a d f k).length ((pre3 a d f k).map (.int .u8 ·)) ν ∧ μ' = ν ++ [(sb,.cells [Value.slice A1 a.length c1,Value.slice A2 d.length c2,Value.slice A3 f.length c3].toArray 24 (0,0))]) (fun us=>3 - (headI us).toNat) rfl ⟨rfl,0,_,_,by omega,rfl,hg3,rfl⟩ ?_
    rintro us G' _ ⟨hG',k,v,ν,hk,rfl,hg,rfl⟩
    subst hG'
    obtain rfl|rfl|rfl|rfl:k = 0 ∨ k = 1 ∨ k = 2 ∨ k = 3:=by omega
    · rw [p0] at hg
      repeat' (first|apply v_seq|apply v_region|apply v_nil|apply v_skip|apply v_block|apply v_blk|(apply v_pure;(case hop=>first|(apply p_move <;> rfl)|(apply p_lt <;> rfl)|(apply p_assign <;> rfl)|(apply p_add;(case hx=>rfl);(case hy=>rfl);(case h=>omega))|(apply p_indexAddr;(case hx=>rfl);(case hi=>rfl);(case h0=>omega);(case h=>omega))|fail);(case hd=>rfl))|(apply v_cond;(case hc=>rfl);all_goals (intro h;(try simp only [reduceCtorEq,zzz] at h);first|(exfalso;omega)|skip))|(apply v_append (hg:=hg) (m':=a.length) (us:=a.map (.int .u8 ·)) (hp:=List.Perm.refl _) (hsrc:=hsa _);(case hzs=>rfl);(case hsz=>omega);(case hs=>rfl);(case hx=>rfl);(case hb=>simp only [List.length_nil];omega);(case hb'=>simp only [maxLen,List.length_nil];omega);(case hd=>rfl);(case h1=>exact allOne_ints a);intro v4 n4 hg4)|(apply v_read;(case hop=>(apply r_load1;rfl;(apply Cell.own;(case h=>(repeat (first|exact mhd _|apply List.mem_append_right)));rfl)));(case hd=>rfl))|fail)
      refine v_again rfl ⟨rfl,1,v4,n4,by omega,rfl,?_,rfl⟩ (by simp [headI])
      rw [p1]
      simpa using hg4
    · rw [p1] at hg
      repeat' (first|apply v_seq|apply v_region|apply v_nil|apply v_skip|apply v_block|apply v_blk|(apply v_pure;(case hop=>first|(apply p_move <;> rfl)|(apply p_lt <;> rfl)|(apply p_assign <;> rfl)|(apply p_add;(case hx=>rfl);(case hy=>rfl);(case h=>omega))|(apply p_indexAddr;(case hx=>rfl);(case hi=>rfl);(case h0=>omega);(case h=>omega))|fail);(case hd=>rfl))|(apply v_cond;(case hc=>rfl);all_goals (intro h;(try simp only [reduceCtorEq,zzz] at h);first|(exfalso;omega)|skip))|(apply v_append (hg:=hg) (m':=d.length) (us:=d.map (.int .u8 ·)) (hp:=List.Perm.refl _) (hsrc:=hsd _);(case hzs=>rfl);(case hsz=>omega);(case hs=>rfl);(case hx=>rfl);(case hb=>omega);(case hb'=>simp only [maxLen];omega);(case hd=>rfl);(case h1=>exact allOne_ints d);intro v4 n4 hg4)|(apply v_read;(case hop=>(apply r_load1;rfl;(apply Cell.own;(case h=>(repeat (first|exact mhd _|apply List.mem_append_right)));rfl)));(case hd=>rfl))|fail)
      refine v_again rfl ⟨rfl,2,v4,n4,by omega,rfl,?_,rfl⟩ (by simp [headI])
      rw [p2]
      simpa using hg4
    · rw [p2] at hg
      repeat' (first|apply v_seq|apply v_region|apply v_nil|apply v_skip|apply v_block|apply v_blk|(apply v_pure;(case hop=>first|(apply p_move <;> rfl)|(apply p_lt <;> rfl)|(apply p_assign <;> rfl)|(apply p_add;(case hx=>rfl);(case hy=>rfl);(case h=>omega))|(apply p_indexAddr;(case hx=>rfl);(case hi=>rfl);(case h0=>omega);(case h=>omega))|fail);(case hd=>rfl))|(apply v_cond;(case hc=>rfl);all_goals (intro h;(try simp only [reduceCtorEq,zzz] at h);first|(exfalso;omega)|skip))|(apply v_append (hg:=hg) (m':=f.length) (us:=f.map (.int .u8 ·)) (hp:=List.Perm.refl _) (hsrc:=hsf _);(case hzs=>rfl);(case hsz=>omega);(case hs=>rfl);(case hx=>rfl);(case hb=>omega);(case hb'=>simp only [maxLen];omega);(case hd=>rfl);(case h1=>exact allOne_ints f);intro v4 n4 hg4)|(apply v_read;(case hop=>(apply r_load1;rfl;(apply Cell.own;(case h=>(repeat (first|exact mhd _|apply List.mem_append_right)));rfl)));(case hd=>rfl))|fail)
      refine v_again rfl ⟨rfl,3,v4,n4,by omega,rfl,?_,rfl⟩ (by simp [headI])
      have hl:(a ++ d ++ f).length = (a ++ d).length + f.length:=List.length_append
      have hm:(a ++ d ++ f).map (Value.int .u8 ·) = (a ++ d).map (Value.int .u8 ·) ++ f.map (Value.int .u8 ·):=List.map_append
      rw [p3,hl,hm]
      exact hg4
    · rw [p3,l3] at hg
      repeat' (first|apply v_seq|apply v_region|apply v_nil|(apply v_exit;(case hp=>rfl))|(apply v_pure;(case hop=>first|(apply p_move <;> rfl)|(apply p_lt <;> rfl)|(apply p_assign <;> rfl)|fail);(case hd=>rfl))|(apply v_cond;(case hc=>rfl);all_goals (intro h;(try simp only [reduceCtorEq,zzz] at h);first|(exfalso;omega)|skip))|fail)
      refine v_ret (ν ++ [(sb,_)]) (outsA1 rfl rfl) (List.Sublist.refl _) ⟨rfl,ν,hg,rfl⟩
def wfL (l:List Int):Prop := ∀ x ∈ l,(Lit.int .u8 x).wf = true
theorem byteL.wf {l:List Int} (h:byteL l):wfL l:=fun x hx=>by
  have:=h x hx
  simp [Lit.wf,IntKind.min,IntKind.max,IntKind.signed,IntKind.bits]
  omega
theorem wfL.byte {l:List Int} (h:wfL l):byteL l:=fun x hx=>by
  have:=h x hx
  simp [Lit.wf,IntKind.min,IntKind.max,IntKind.signed,IntKind.bits] at this
  omega
def addNo (n:Nat):Int:=if n = 0 then 3 else if 65536 < n then 2 else 0
theorem addNo0 {n:Nat}:addNo n = 0 ↔ 1 ≤ n ∧ n ≤ 65536:=by
  unfold addNo
  split
  · constructor <;> intro h <;> omega
  · split <;> constructor <;> intro h <;> omega
def AddF (l:List Int) (r:Value) (G':GH) (μ':OH):Prop:=μ' = [] ∧ ∃ v,r = .tuple [v,.int .i64 (addNo l.length)].toArray ∧ Sl G' 1 (IntR .u8) v (if addNo l.length = 0 then frB l else [])
theorem fadd_s {G:GH} (hC:CrcG G) {l:List Int} {bv:Value} (hs:Sl G 1 (IntR .u8) bv l) (hl:l.length ≤ 100000):Con Tryz.prog 60 #[.slice none 0 0,bv] G [] (AddF l):=by
  have qm:Con Tryz.prog 99 #[.int .i64 (l.length:Nat)] G [] (Just (.int .i64 (addNo l.length)) G):=fmay_s G l.length
  have q1:=put_s (G:=G) (l:=[]) (sv:=.slice none 0 0) (l.length:Nat) Sl.nil (by simp) (by omega)
  have q2:=fsum_s hC hs
  have hvl:=(vbytes_len (l.length:Nat)).1
  obtain ⟨A,c,rfl,hlc,hcm,hsome,hel,hwf⟩:=id hs.openInt
  simp only [maxLen] at hcm
  unfold AddF
  generalize hno:addNo l.length = no at *
  (refine v_enter Tryz.func60 rfl Tryz.ntmps60 rfl ?_;intro B _)
  repeat' (first|apply v_seq|apply v_region|apply v_nil|apply v_skip|(apply v_pure;(case hop=>first|(apply p_move <;> rfl)|(apply p_ne <;> rfl)|(apply p_assign <;> rfl)|(apply p_lenSlice <;> rfl)|fail);(case hd=>rfl))|(apply v_cond;(case hc=>rfl);all_goals (intro h;(try simp only [reduceCtorEq,zzz] at h)))|(apply v_callJ (hs:=qm);(case ha=>rfl);(case hd=>rfl))|fail)
  · refine v_ret [] (outsA2 rfl rfl rfl) (by repeat (exact List.Sublist.refl _)) ?_
    exact ⟨rfl,_,rfl,by rw [if_neg (by assumption)];exact Sl.nil⟩
  · refine v_call (μ1:=[]) rfl q1 (List.Perm.refl _) rfl ?_
    rintro r1 G1 ν1 - ⟨hG1,hg1⟩
    subst hG1
    obtain ⟨A1,c1,rfl,-,-⟩:=hg1.shape
    repeat' (first|(apply v_pure;(case hop=>(apply p_move <;> rfl));(case hd=>rfl))|fail)
    refine v_call (μ1:=[]) rfl q2 (List.Perm.refl _) rfl ?_
    rintro r2 G2 ν2 - ⟨hG2,hg2⟩
    subst hG2
    obtain ⟨A2,c2,rfl,-,-⟩:=hg2.shape
    refine v_frzP (r:=[]) (ν2 ++ ν1) (List.Perm.of_eq (by simp)) ?_
    intro G3 hle3 hG3
    have s1:Sl G3 1 (IntR .u8) (.slice A1 (vbytes (l.length:Nat)).length c1) (vbytes (l.length:Nat)):=hg1.ints (l:=[] ++ vbytes (l.length:Nat)) (fun b o hb=>hG3 b o (List.mem_append_right _ hb)) (vbytes_wf (by omega))
    have s2:Sl G3 1 (IntR .u8) (.slice A2 (sumB l).length c2) (sumB l):=hg2.ints (fun b o hb=>hG3 b o (List.mem_append_left _ hb)) (byteL.wf (sumB_wf l))
    clear hg1 hg2 hG3 q1 q2
    repeat' (first|(apply v_buildSlice;(case hz=>rfl);(case hi=>rfl);(case hv=>(simp only [List.map_cons,List.map_nil];repeat (first|with_reducible exact evs_nil|(apply evs_cons;(case h1=>rfl)))));(case hp=>(apply pk_cons;(case hc=>rfl);(case hs=>rfl);(case h=>(apply pk_cons;(case hc=>rfl);(case hs=>rfl);(case h=>(apply pk_cons;(case hc=>rfl);(case hs=>rfl);(case h=>(with_reducible exact pk_nil));(case he=>((repeat (first|with_reducible exact ap_nil|apply ap_cons));done))));(case he=>((repeat (first|with_reducible exact ap_nil|apply ap_cons));done))));(case he=>((repeat (first|with_reducible exact ap_nil|apply ap_cons));done))));(case hb=>rfl);(case hd=>rfl);intro b)|fail)
    refine v_call (μ1:=[(b,_)]) rfl (concat3_s s1 (hs.mono hle3) s2 (by omega) (by omega) (by rw [sumB_len];omega)) (List.Perm.refl _) rfl ?_
    rintro r4 G4 _ - ⟨hG4,ν4,hg4,rfl⟩
    subst hG4
    obtain ⟨A4,c4,rfl,-,-⟩:=hg4.shape
    refine v_drop (ν:=ν4) ?_ ?_
    · simp
    refine v_frzP ν4 (List.Perm.of_eq (List.append_nil _).symm) ?_
    intro G5 hle5 hG5
    have s4:=hg4.ints hG5 (byteL.wf (((vbytes_byte (by omega)).app (wfL.byte hwf)).app (sumB_wf l)))
    repeat' (first|apply v_nil|(apply v_pure;(case hop=>(apply p_assign <;> rfl));(case hd=>rfl))|fail)
    refine v_ret [] (outsA2 rfl rfl rfl) (by repeat (exact List.Sublist.refl _)) ?_
    exact ⟨rfl,_,by rw [show no = 0 from by assumption],by rw [if_pos (by assumption)];exact s4⟩
theorem faddO_s {G:GH} (hC:CrcG G) {l:List Int} {bv:Value} (hs:Sl G 1 (IntR .u8) bv l) (hl:l.length ≤ 100000) (hno:addNo l.length = 0):Con Tryz.prog 60 #[.slice none 0 0,bv] G [] (fun r G' μ'=>∃ v,r = .tuple [v,.int .i64 0].toArray ∧ Grow 5 1 v (frB l).length ((frB l).map (.int .u8 ·)) μ'):=by
  have qm:Con Tryz.prog 99 #[.int .i64 (l.length:Nat)] G [] (Just (.int .i64 (addNo l.length)) G):=fmay_s G l.length
  have q1:=put_s (G:=G) (l:=[]) (sv:=.slice none 0 0) (l.length:Nat) Sl.nil (by simp) (by omega)
  have q2:=fsum_s hC hs
  have hvl:=(vbytes_len (l.length:Nat)).1
  obtain ⟨A,c,rfl,hlc,hcm,hsome,hel,hwf⟩:=id hs.openInt
  simp only [maxLen] at hcm
  rw [hno] at qm
  (refine v_enter Tryz.func60 rfl Tryz.ntmps60 rfl ?_;intro B _)
  repeat' (first|apply v_seq|apply v_region|apply v_nil|apply v_skip|(apply v_pure;(case hop=>first|(apply p_move <;> rfl)|(apply p_nes <;> rfl)|(apply p_assign <;> rfl)|(apply p_lenSlice <;> rfl)|fail);(case hd=>rfl))|(apply v_condF;(case hc=>rfl))|(apply v_callJ (hs:=qm);(case ha=>rfl);(case hd=>rfl))|fail)
  · refine v_call (μ1:=[]) rfl q1 (List.Perm.refl _) rfl ?_
    rintro r1 G1 ν1 - ⟨hG1,hg1⟩
    subst hG1
    obtain ⟨A1,c1,rfl,-,-⟩:=hg1.shape
    repeat' (first|(apply v_pure;(case hop=>(apply p_move <;> rfl));(case hd=>rfl))|fail)
    refine v_call (μ1:=[]) rfl q2 (List.Perm.refl _) rfl ?_
    rintro r2 G2 ν2 - ⟨hG2,hg2⟩
    subst hG2
    obtain ⟨A2,c2,rfl,-,-⟩:=hg2.shape
    refine v_frzP (r:=[]) (ν2 ++ ν1) (List.Perm.of_eq (by simp)) ?_
    intro G3 hle3 hG3
    have s1:Sl G3 1 (IntR .u8) (.slice A1 (vbytes (l.length:Nat)).length c1) (vbytes (l.length:Nat)):=hg1.ints (l:=[] ++ vbytes (l.length:Nat)) (fun b o hb=>hG3 b o (List.mem_append_right _ hb)) (vbytes_wf (by omega))
    have s2:Sl G3 1 (IntR .u8) (.slice A2 (sumB l).length c2) (sumB l):=hg2.ints (fun b o hb=>hG3 b o (List.mem_append_left _ hb)) (byteL.wf (sumB_wf l))
    clear hg1 hg2 hG3 q1 q2
    repeat' (first|(apply v_buildSlice;(case hz=>rfl);(case hi=>rfl);(case hv=>(simp only [List.map_cons,List.map_nil];repeat (first|with_reducible exact evs_nil|(apply evs_cons;(case h1=>rfl)))));(case hp=>(apply pk_cons;(case hc=>rfl);(case hs=>rfl);(case h=>(apply pk_cons;(case hc=>rfl);(case hs=>rfl);(case h=>(apply pk_cons;(case hc=>rfl);(case hs=>rfl);(case h=>(with_reducible exact pk_nil));(case he=>((repeat (first|with_reducible exact ap_nil|apply ap_cons));done))));(case he=>((repeat (first|with_reducible exact ap_nil|apply ap_cons));done))));(case he=>((repeat (first|with_reducible exact ap_nil|apply ap_cons));done))));(case hb=>rfl);(case hd=>rfl);intro b)|fail)
    refine v_call (μ1:=[(b,_)]) rfl (concat3_s s1 (hs.mono hle3) s2 (by omega) (by omega) (by rw [sumB_len];omega)) (List.Perm.refl _) rfl ?_
    rintro r4 G4 _ - ⟨hG4,ν4,hg4,rfl⟩
    subst hG4
    obtain ⟨A4,c4,rfl,-,-⟩:=hg4.shape
    refine v_drop (ν:=ν4) ?_ ?_
    · simp
    have hg5:Grow 5 1 (.slice A4 (frB l).length c4) (frB l).length ((frB l).map (.int .u8 ·)) ν4:=hg4
    repeat' (first|apply v_nil|(apply v_pure;(case hop=>(apply p_assign <;> rfl));(case hd=>rfl))|fail)
    refine v_ret ν4 (outsA2 rfl rfl rfl) (List.Sublist.refl _) ⟨_,rfl,hg5⟩
theorem Mem.lent {G:GH} {μ ν:OH} {w:World} (h:Mem G (ν ++ μ) w):Mem (GH.put G ν) μ w:=by
  have hs:=(Step.refl h).freeze
  exact hs.mem
theorem Con.lend {P:Program} {f:FuncId} {args:Array Value} {G:GH} {ν μ:OH} {Ψ:Value → OH → Prop}
    (h:∀ G',GH.le G G' → (∀ b o,(b,o) ∈ ν → G' b = some o) → Con P f args G' μ (fun v _ μ'=>Ψ v μ')) :
    Con P f args G (ν ++ μ) (fun v G' μ'=>G' = G ∧ ∃ μ1,Ψ v μ1 ∧ μ' = ν ++ μ1):=by
  unfold Con at h ⊢
  intro w hw
  have hn:=hw.nodup
  rw [List.map_append,List.nodup_append] at hn
  have hin:∀ b o,(b,o) ∈ ν → GH.put G ν b = some o:=fun b o hb=>GH.put_mem hn.1 (hw.apart b o (List.mem_append_left _ hb)) hb
  refine (h (GH.put G ν) (GH.le_put _ _) hin w (Mem.lent hw)).mono ?_
  rintro v w' ⟨G2,μ1,hs,hΨ⟩
  refine ⟨G,ν ++ μ1,⟨⟨fun b o hb=>hs.mem.g b o (hs.le b o (GH.le_put G ν b o hb)),fun b o hb=>?_,?_,fun b o hb=>?_⟩,GH.le_refl _,hs.os,hs.tape,hs.output,hs.size,fun b hb hno=>hs.same b hb fun o ho=>hno o (List.mem_append_right _ ho),fun b o hb=>?_,fun b o hb=>.inl ⟨o,hb⟩⟩,rfl,μ1,hΨ,rfl⟩
  · rcases List.mem_append.1 hb with hb|hb
    · exact hs.mem.g b o (hs.le b o (hin b o hb))
    · exact hs.mem.own b o hb
  · rw [List.map_append,List.nodup_append]
    refine ⟨hn.1,hs.mem.nodup,fun a ha b hb e=>?_⟩
    subst e
    obtain ⟨⟨a1,o1⟩,h1,rfl⟩:=List.mem_map.1 ha
    obtain ⟨⟨a2,o2⟩,h2,e2⟩:=List.mem_map.1 hb
    simp only at e2
    subst e2
    have:=hs.mem.apart _ _ h2
    rw [hs.le _ _ (hin _ _ h1)] at this
    cases this
  · rcases List.mem_append.1 hb with hb|hb
    · exact hw.apart b o (List.mem_append_left _ hb)
    · have:=hs.mem.apart b o hb
      cases hg:G b with
      | none=>rfl
      | some o' =>
        rw [hs.le _ _ (GH.le_put G ν b o' hg)] at this
        cases this
  · rcases List.mem_append.1 hb with hb|hb
    · exact .inl ⟨o,List.mem_append_left _ hb⟩
    · rcases hs.mine b o hb with ⟨o',h'⟩|h'
      · exact .inl ⟨o',List.mem_append_right _ h'⟩
      · exact .inr h'
theorem Con.lendJ {P:Program} {f:FuncId} {args:Array Value} {G:GH} {ν:OH} {v:Value}
    (h:∀ G',GH.le G G' → (∀ b o,(b,o) ∈ ν → G' b = some o) → Con P f args G' [] (Just v G')):Con P f args G ν (Keeps v G ν):=by
  have:=Con.lend (G:=G) (ν:=ν) (μ:=[]) (Ψ:=fun u μ'=>u = v ∧ μ' = []) fun G' h1 h2=>(h G' h1 h2).mono fun _ _ _ h=>⟨h.1,h.2.2⟩
  rw [List.append_nil] at this
  exact this.mono fun u G' μ' ⟨h1,μ1,⟨h2,h3⟩,h4⟩=>⟨h2,h1,by rw [h4,h3,List.append_nil]⟩
section
variable {P:Program} {σ:Env} {G:GH} {μ:OH} {t ty:TypeId} {bytes:Nat} {zero:Value}
end
theorem bequal_s {G:GH} {a d:List Int} {av dv:Value} (ha:Sl G 1 (IntR .u8) av a) (hd:Sl G 1 (IntR .u8) dv d):Con Tryz.prog 145 #[av,dv] G [] (Just (.bool (decide (a = d))) G):=by
  obtain ⟨A1,c1,rfl,hlc1,hcm1,hs1,he1,-⟩:=ha.openInt
  obtain ⟨A2,c2,rfl,hlc2,hcm2,hs2,he2,-⟩:=hd.openInt
  simp only [maxLen] at hcm1 hcm2
  apply Con.just
  (refine v_enter Tryz.func145 rfl Tryz.ntmps145 rfl ?_;intro B _)
  repeat' (first|apply v_seq|apply v_region|apply v_nil|apply v_skip|apply v_block|(apply v_pure;(case hop=>first|(apply p_move <;> rfl)|(apply p_ne <;> rfl)|(apply p_assign <;> rfl)|(apply p_lenSlice <;> rfl)|fail);(case hd=>rfl))|(apply v_cond;(case hc=>rfl);all_goals (intro h;(try simp only [reduceCtorEq,zzz] at h)))|fail)
  · refine v_ret [] (outsA1 rfl rfl) (by repeat (exact List.Sublist.refl _)) ?_
    refine ⟨?_,rfl⟩
    rw [decide_eq_false]
    intro e
    subst e
    omega
  · have hll:a.length = d.length:=by omega
    refine v_loop [13,12,0,1] (fun us G' μ'=>G' = G ∧ ∃ k:Nat,k ≤ a.length ∧ a.take k = d.take k ∧ us = [Value.int .i64 (k:Nat),.int .i64 (a.length:Nat),.slice A1 a.length c1,.slice A2 d.length c2] ∧ μ' = []) (fun us=>a.length - (headI us).toNat) rfl ⟨rfl,0,by omega,rfl,rfl,rfl⟩ ?_
    rintro us G' _ ⟨hG',k,hk,ht,rfl,rfl⟩
    subst G'
    have e1:((k:Nat):Int).toNat = k:=by omega
    by_cases hlt:k < a.length
    · have hA1:=hs1 (by omega)
      have hA2:=hs2 (by omega)
      have hc1:=he1 k hlt
      have hc2:=he2 k (by omega)
      have ht1:a.take (k + 1) = a.take k ++ [a[k]]:=List.take_succ_eq_append_getElem hlt
      have ht2:d.take (k + 1) = d.take k ++ [d[k]'(by omega)]:=List.take_succ_eq_append_getElem (by omega)
      have hne:¬ a[k] = d[k]'(by omega) → decide (a = d) = false:=fun h=>by
        rw [decide_eq_false]
        intro e
        subst e
        exact h rfl
      generalize a[k] = x at *
      generalize d[k]'(by omega) = y at *
      repeat' (first|apply v_seq|apply v_region|apply v_nil|apply v_skip|apply v_block|(apply v_pure;(case hop=>first|(apply p_move <;> rfl)|(apply p_lt <;> rfl)|(apply p_assign <;> rfl)|fail);(case hd=>rfl))|(apply v_cond;(case hc=>rfl);all_goals (intro h;(try simp only [reduceCtorEq,zzz] at h);first|(exfalso;omega)|skip))|fail)
      refine d_start [] (by kernel_rfl) (by kernel_rfl) (by kernel_rfl) (by intro e he;exact he) ?_
      all_goals (apply dtk 0;(case hi=>rfl);(case hop=>(apply prd;apply p_move <;> rfl));(case hq=>kernel_rfl))
      all_goals (apply dtk 1;(case hi=>rfl);(case hop=>(apply prd;apply p_move <;> rfl));(case hq=>kernel_rfl))
      all_goals (apply dtk 2;(case hi=>rfl);(case hop=>(apply prd;apply p_indexAddrS;(case hx=>rfl);(case hi=>rfl);(case h0=>omega);(case h=>omega);(case hA=>assumption)));(case hq=>kernel_rfl))
      all_goals (apply dtk 3;(case hi=>rfl);(case hop=>((apply r_load1;rfl;exact Cell.frozen hc1)));(case hq=>kernel_rfl))
      all_goals (apply dtk 4;(case hi=>rfl);(case hop=>(apply prd;apply p_move <;> rfl));(case hq=>kernel_rfl))
      all_goals (apply dtk 5;(case hi=>rfl);(case hop=>(apply prd;apply p_move <;> rfl));(case hq=>kernel_rfl))
      all_goals (apply dtk 6;(case hi=>rfl);(case hop=>(apply prd;apply p_indexAddrS;(case hx=>rfl);(case hi=>rfl);(case h0=>omega);(case h=>omega);(case hA=>assumption)));(case hq=>kernel_rfl))
      all_goals (apply dtk 7;(case hi=>rfl);(case hop=>((apply r_load1;rfl;exact Cell.frozen hc2)));(case hq=>kernel_rfl))
      all_goals (apply dtk 8;(case hi=>rfl);(case hop=>(apply prd;apply p_ne <;> rfl));(case hq=>kernel_rfl))
      all_goals (apply d_done;(case hr=>kernel_rfl))
      all_goals repeat' (first|apply v_seq|apply v_region|apply v_nil|apply v_skip|apply v_blk|(apply v_pure;(case hop=>first|(apply p_move <;> rfl)|(apply p_assign <;> rfl)|(apply p_add;(case hx=>rfl);(case hy=>rfl);(case h=>omega))|fail);(case hd=>rfl))|(apply v_cond;(case hc=>rfl);all_goals (intro h;(try simp only [reduceCtorEq,zzz] at h)))|fail)
      all_goals first
        | (refine v_ret [] (outsA1 rfl rfl) (by repeat (exact List.Sublist.refl _)) ?_
           exact ⟨by rw [hne (by assumption)],rfl⟩)
        | exact v_again rfl ⟨rfl,k + 1,by omega,by rw [ht1,ht2,ht,show x = y from by assumption],rfl,rfl⟩ (by simp [headI];omega)
        | skip
      all_goals vx_show
    · obtain rfl:k = a.length:=by omega
      rw [List.take_length,hll,List.take_length] at ht
      repeat' (first|apply v_seq|apply v_region|apply v_nil|(apply v_exit;(case hp=>rfl))|(apply v_pure;(case hop=>first|(apply p_lt <;> rfl)|(apply p_assign <;> rfl)|fail);(case hd=>rfl))|(apply v_cond;(case hc=>rfl);all_goals (intro h;(try simp only [reduceCtorEq,zzz] at h);first|(exfalso;omega)|skip))|fail)
      refine v_ret [] (outsA1 rfl rfl) (by repeat (exact List.Sublist.refl _)) ?_
      refine ⟨?_,rfl⟩
      rw [decide_eq_true ht]
def NextR (l:List Int) (at_:Nat) (r:Value) (G':GH) (μ':OH):Prop:=μ' = [] ∧ ∃ v z e,r = .tuple [v,.int .i64 z,.int .i64 e].toArray ∧ ((∃ b t,nextF (l.drop at_) = some (b,t) ∧ Sl G' 1 (IntR .u8) v b ∧ z = (l.length - t.length:Nat) ∧ e = 0) ∨ (nextF (l.drop at_) = none ∧ e ≠ 0 ∧ v = .slice none 0 0 ∧ z = 0))
theorem nextF_dvk {l r:List Int} {m:Nat} (h:dvk 0 l = some (((m:Nat):Int),r)):nextF l = if 1 ≤ m ∧ m ≤ 65536 ∧ m + 4 ≤ r.length ∧ (r.drop m).take 4 = sumB (r.take m) then some (r.take m,r.drop (m + 4)) else none:=by
  unfold nextF
  rw [h]
  simp only [Int.toNat_natCast]
  have e:(1 ≤ ((m:Nat):Int) ∧ ((m:Nat):Int) ≤ 65536 ∧ ((m:Nat):Int) + 4 ≤ r.length ∧ (r.drop m).take 4 = sumB (r.take m)) ↔ (1 ≤ m ∧ m ≤ 65536 ∧ m + 4 ≤ r.length ∧ (r.drop m).take 4 = sumB (r.take m)):=by
    constructor
    · rintro ⟨h1,h2,h3,h4⟩;exact ⟨by omega,by omega,by omega,h4⟩
    · rintro ⟨h1,h2,h3,h4⟩;exact ⟨by omega,by omega,by omega,h4⟩
  simp only [e]
theorem fnext_s {G:GH} (hC:CrcG G) {l:List Int} {sv:Value} (at_:Nat) (hs:Sl G 1 (IntR .u8) sv l) (hl:l.length ≤ 1048576) (ha:at_ ≤ l.length):Con Tryz.prog 103 #[sv,.int .i64 (at_:Nat)] G [] (NextR l at_):=by
  have q1:=vget_s at_ hs hl ha
  obtain ⟨A,c,rfl,hlc,hcm,hsome,hel,hwf⟩:=id hs.openInt
  simp only [maxLen] at hcm
  unfold GetV at q1
  unfold NextR
  cases hd:dvk 0 (l.drop at_) with
  | none =>
    rw [hd] at q1
    have hn:nextF (l.drop at_) = none:=by unfold nextF;rw [hd]
    have he:=(dve_none (l.drop at_) 0).1 hd
    generalize dve 0 (l.drop at_) = ev at *
    (refine v_enter Tryz.func103 rfl Tryz.ntmps103 rfl ?_;intro B _)
    repeat' (first|apply v_seq|apply v_region|apply v_nil|apply v_skip|apply v_block|apply v_blk|(apply v_exit;(case hp=>rfl))|(apply v_take;(case hg=>rfl))|(apply v_pass;(case hg=>rfl);(case hn=>rfl);(case hd=>rfl))|(apply v_passN;(case hg=>rfl);(case hn=>rfl);(case hd=>rfl))|(apply v_pure;(case hop=>first|(apply p_move <;> rfl)|(apply p_nes <;> rfl)|(apply p_neBs <;> rfl)|(apply p_lt <;> rfl)|(apply p_ne <;> rfl)|(apply p_assign <;> rfl)|(apply p_not <;> rfl)|(apply p_lenSlice <;> rfl)|(apply p_extract0 <;> rfl)|(apply p_extract1 <;> rfl)|(apply p_extract2 <;> rfl)|(apply p_extract <;> rfl)|(apply p_add;(case hx=>rfl);(case hy=>rfl);(case h=>omega))|(apply p_sub;(case hx=>rfl);(case hy=>rfl);(case h=>omega))|(apply p_lenString <;> rfl)|(apply p_neB <;> rfl)|(apply p_neNil <;> rfl)|(apply p_sliceL;(case hx=>rfl);(case hl=>rfl);all_goals omega)|(apply p_sliceH;(case hx=>rfl);(case hh=>rfl);all_goals omega)|(apply p_sliceLH;(case hx=>rfl);(case hl=>rfl);(case hh=>rfl);all_goals omega)|(apply p_slice3;(case hx=>rfl);(case hh=>rfl);(case hq=>rfl);all_goals omega)|(apply p_sliceStrL;(case hx=>rfl);(case hl=>rfl);all_goals omega)|(apply p_sliceStrH;(case hx=>rfl);(case hh=>rfl);all_goals omega)|(apply p_neS <;> rfl)|(apply p_neNilSlice <;> rfl));(case hd=>rfl))|(apply v_condT;(case hc=>rfl))|(apply v_condF;(case hc=>rfl))|(apply v_cond;(case hc=>rfl);all_goals (intro h;(try simp only [reduceCtorEq,zzz] at h);first|done|(exfalso;omega)|(exfalso;exact h (by with_reducible assumption))|(exfalso;revert h;rw [imp_false];with_reducible assumption)|skip))|(apply v_guardB;(case h1=>rfl);(case h2=>rfl);all_goals (intro h;(try simp only [reduceCtorEq,zzz] at h);first|done|(exfalso;omega)|(exfalso;exact h (by with_reducible assumption))|(exfalso;revert h;rw [imp_false];with_reducible assumption)|skip))|(apply v_callJ (hs:=q1);(case ha=>rfl);(case hd=>rfl))|fail)
    all_goals first
      | (exfalso;omega)
      | (refine v_ret [] (outsA3 rfl rfl rfl rfl) (by repeat (first|exact List.Sublist.refl _|exact List.nil_sublist _|apply List.Sublist.cons_cons|apply List.Sublist.cons|exact List.sublist_append_left _ _|apply List.sublist_append_of_sublist_right)) ?_
         exact ⟨rfl,_,_,_,rfl,.inr ⟨hn,he,rfl,rfl⟩⟩)
      | skip
    all_goals vx_show
  | some p =>
    obtain ⟨m',r'⟩:=p
    rw [hd] at q1
    obtain ⟨h0,h1,hr⟩:=vbytes_dvk (fun x hx=>(wfL.byte hwf) x (List.mem_of_mem_drop hx)) hd
    obtain ⟨m,rfl⟩:∃ m:Nat,m' = (m:Nat):=⟨m'.toNat,by omega⟩
    have hN:=nextF_dvk hd
    obtain ⟨hlt,hdr⟩:=dvk_len _ _ _ _ hd
    rw [List.length_drop] at hlt hdr
    obtain ⟨f,hf⟩:∃ f,f = l.length - r'.length:=⟨_,rfl⟩
    have hr':r' = l.drop f:=by
      have h:=hdr
      rw [List.drop_drop,show at_ + (l.length - at_ - r'.length) = f by omega] at h
      exact h
    have hfl:f ≤ l.length:=by omega
    have hrl:r'.length = l.length - f:=by omega
    have qm:Con Tryz.prog 99 #[.int .i64 (m:Nat)] G [] (Just (.int .i64 (addNo m)) G):=fmay_s G m
    have ham:=addNo0 (n:=m)
    generalize addNo m = no at *
    simp only [← hf] at q1
    (refine v_enter Tryz.func103 rfl Tryz.ntmps103 rfl ?_;intro B _)
    repeat' (first|apply v_seq|apply v_region|apply v_nil|apply v_skip|apply v_block|apply v_blk|(apply v_exit;(case hp=>rfl))|(apply v_take;(case hg=>rfl))|(apply v_pass;(case hg=>rfl);(case hn=>rfl);(case hd=>rfl))|(apply v_passN;(case hg=>rfl);(case hn=>rfl);(case hd=>rfl))|(apply v_pure;(case hop=>first|(apply p_move <;> rfl)|(apply p_nes <;> rfl)|(apply p_neBs <;> rfl)|(apply p_lt <;> rfl)|(apply p_ne <;> rfl)|(apply p_assign <;> rfl)|(apply p_not <;> rfl)|(apply p_lenSlice <;> rfl)|(apply p_extract0 <;> rfl)|(apply p_extract1 <;> rfl)|(apply p_extract2 <;> rfl)|(apply p_extract <;> rfl)|(apply p_add;(case hx=>rfl);(case hy=>rfl);(case h=>omega))|(apply p_sub;(case hx=>rfl);(case hy=>rfl);(case h=>omega))|(apply p_lenString <;> rfl)|(apply p_neB <;> rfl)|(apply p_neNil <;> rfl)|(apply p_sliceL;(case hx=>rfl);(case hl=>rfl);all_goals omega)|(apply p_sliceH;(case hx=>rfl);(case hh=>rfl);all_goals omega)|(apply p_sliceLH;(case hx=>rfl);(case hl=>rfl);(case hh=>rfl);all_goals omega)|(apply p_slice3;(case hx=>rfl);(case hh=>rfl);(case hq=>rfl);all_goals omega)|(apply p_sliceStrL;(case hx=>rfl);(case hl=>rfl);all_goals omega)|(apply p_sliceStrH;(case hx=>rfl);(case hh=>rfl);all_goals omega)|(apply p_neS <;> rfl)|(apply p_neNilSlice <;> rfl));(case hd=>rfl))|(apply v_condT;(case hc=>rfl))|(apply v_condF;(case hc=>rfl))|(apply v_cond;(case hc=>rfl);all_goals (intro h;(try simp only [reduceCtorEq,zzz] at h);first|done|(exfalso;omega)|(exfalso;exact h (by with_reducible assumption))|(exfalso;revert h;rw [imp_false];with_reducible assumption)|skip))|(apply v_guardB;(case h1=>rfl);(case h2=>rfl);all_goals (intro h;(try simp only [reduceCtorEq,zzz] at h);first|done|(exfalso;omega)|(exfalso;exact h (by with_reducible assumption))|(exfalso;revert h;rw [imp_false];with_reducible assumption)|skip))|(apply v_callJ (hs:=q1);(case ha=>rfl);(case hd=>rfl))|(apply v_callJ (hs:=qm);(case ha=>rfl);(case hd=>rfl))|fail)
    all_goals first
      | (refine v_ret [] (outsA3 rfl rfl rfl rfl) (by repeat (first|exact List.Sublist.refl _|exact List.nil_sublist _|apply List.Sublist.cons_cons|apply List.Sublist.cons|exact List.sublist_append_left _ _|apply List.sublist_append_of_sublist_right)) ?_
         refine ⟨rfl,_,_,_,rfl,.inr ⟨?_,by first|assumption|decide,rfl,rfl⟩⟩
         rw [hN,if_neg]
         rintro ⟨g1,g2,g3,-⟩
         omega)
      | skip
    have hle4:m + 4 ≤ r'.length:=by omega
    have hB:(l.take (((f:Nat):Int) + (m:Nat)).toNat).drop ((f:Nat):Int).toNat = r'.take m:=by
      rw [hr',List.drop_take]
      congr 1
      omega
    have hTl:(l.take (((f:Nat):Int) + (m:Nat) + 4).toNat).drop (((f:Nat):Int) + (m:Nat)).toNat = (r'.drop m).take 4:=by
      rw [hr',List.drop_take,List.drop_drop]
      congr 1
      omega
    have sB:=sl_sub hs (lo:=((f:Nat):Int)) (hi:=((f:Nat):Int) + (m:Nat)) (by omega) (by omega) (by omega)
    have sT:=sl_sub hs (lo:=((f:Nat):Int) + (m:Nat)) (hi:=((f:Nat):Int) + (m:Nat) + 4) (by omega) (by omega) (by omega)
    rw [hB] at sB
    rw [hTl] at sT
    have hbl:(r'.take m).length = m:=by rw [List.length_take];omega
    have q2:=fsum_s hC sB
    have q3:=bclone_s sB (by omega)
    have hwb:wfL (r'.take m):=fun x hx=>hwf x (by
      rw [hr'] at hx
      exact List.mem_of_mem_drop (List.mem_of_mem_take hx))
    refine d_start [] (by kernel_rfl) (by kernel_rfl) (by kernel_rfl) (by intro e he;first|exact he|(simp at he;simp [he];done)|(simp only [List.mem_cons,List.not_mem_nil,or_false] at he;rcases he with rfl|rfl <;> simp;done)|(simp only [List.mem_cons,List.not_mem_nil,or_false] at he;rcases he with rfl|rfl|rfl <;> simp;done)|(simp at he ⊢;try omega)) ?_
    all_goals (apply dtk 0;(case hi=>rfl);(case hop=>(apply prd;apply p_move <;> rfl));(case hq=>kernel_rfl))
    all_goals (apply dtk 1;(case hi=>rfl);(case hop=>(apply prd;apply p_move <;> rfl));(case hq=>kernel_rfl))
    all_goals (apply dtk 2;(case hi=>rfl);(case hop=>(apply prd;apply p_move <;> rfl));(case hq=>kernel_rfl))
    all_goals (apply dtk 3;(case hi=>rfl);(case hop=>(apply prd;apply p_add;(case hx=>rfl);(case hy=>rfl);(case h=>omega)));(case hq=>kernel_rfl))
    all_goals (apply dtk 4;(case hi=>rfl);(case hop=>(apply prd;apply p_move <;> rfl));(case hq=>kernel_rfl))
    all_goals (apply dtk 5;(case hi=>rfl);(case hop=>first|(apply prd;apply p_sliceL;(case hx=>rfl);(case hl=>rfl);all_goals omega)|(apply prd;apply p_sliceH;(case hx=>rfl);(case hh=>rfl);all_goals omega)|(apply prd;apply p_sliceLH;(case hx=>rfl);(case hl=>rfl);(case hh=>rfl);all_goals omega)|(apply prd;apply p_slice3;(case hx=>rfl);(case hh=>rfl);(case hq=>rfl);all_goals omega)|(apply prd;apply p_sliceStrL;(case hx=>rfl);(case hl=>rfl);all_goals omega)|(apply prd;apply p_sliceStrH;(case hx=>rfl);(case hh=>rfl);all_goals omega));(case hq=>kernel_rfl))
    all_goals (apply dtk 6;(case hi=>rfl);(case hop=>(apply prd;apply p_move <;> rfl));(case hq=>kernel_rfl))
    all_goals (first|((apply d_call 7 (hs:=q2) (μ1:=[]);(case hi=>rfl);(case hr=>kernel_rfl);  (case ha=>rfl);(case hp=>exact List.Perm.refl _);(case hd=>rfl);(case hν'=>exact fun e he=>he);rintro _ G5 ν2 - ⟨hG5,hg2⟩;subst hG5;obtain ⟨A5,c5,rfl,-,-⟩:=hg2.shape))|((apply d_callK 7 (μ1:=ν2) (μ2:=[]) (hs:=Con.lendJ (v:=.bool (decide ((r'.drop m).take 4 = sumB (r'.take m)))) fun G3 h1 h2=>bequal_s (sT.mono h1) (hg2.ints h2 (byteL.wf (sumB_wf _))));(case hi=>rfl);(case hr=>kernel_rfl);  (case ha=>rfl);(case hp=>exact List.Perm.refl _);(case hd=>rfl)))|fail)
    all_goals (first|((apply d_call 8 (hs:=q2) (μ1:=[]);(case hi=>rfl);(case hr=>kernel_rfl);  (case ha=>rfl);(case hp=>exact List.Perm.refl _);(case hd=>rfl);(case hν'=>exact fun e he=>he);rintro _ G5 ν2 - ⟨hG5,hg2⟩;subst hG5;obtain ⟨A5,c5,rfl,-,-⟩:=hg2.shape))|((apply d_callK 8 (μ1:=ν2) (μ2:=[]) (hs:=Con.lendJ (v:=.bool (decide ((r'.drop m).take 4 = sumB (r'.take m)))) fun G3 h1 h2=>bequal_s (sT.mono h1) (hg2.ints h2 (byteL.wf (sumB_wf _))));(case hi=>rfl);(case hr=>kernel_rfl);  (case ha=>rfl);(case hp=>exact List.Perm.refl _);(case hd=>rfl)))|fail)
    all_goals (apply dtk 9;(case hi=>rfl);(case hop=>(apply prd;apply p_not <;> rfl));(case hq=>kernel_rfl))
    all_goals (apply d_done;(case hr=>kernel_rfl))
    all_goals
      generalize hq:decide ((r'.drop m).take 4 = sumB (r'.take m)) = bq at *
      repeat' (first|apply v_seq|apply v_region|apply v_nil|apply v_skip|apply v_block|apply v_blk|(apply v_exit;(case hp=>rfl))|(apply v_take;(case hg=>rfl))|(apply v_pass;(case hg=>rfl);(case hn=>rfl);(case hd=>rfl))|(apply v_passN;(case hg=>rfl);(case hn=>rfl);(case hd=>rfl))|(apply v_pure;(case hop=>first|(apply p_move <;> rfl)|(apply p_nes <;> rfl)|(apply p_neBs <;> rfl)|(apply p_lt <;> rfl)|(apply p_ne <;> rfl)|(apply p_assign <;> rfl)|(apply p_not <;> rfl)|(apply p_lenSlice <;> rfl)|(apply p_extract0 <;> rfl)|(apply p_extract1 <;> rfl)|(apply p_extract2 <;> rfl)|(apply p_extract <;> rfl)|(apply p_add;(case hx=>rfl);(case hy=>rfl);(case h=>omega))|(apply p_sub;(case hx=>rfl);(case hy=>rfl);(case h=>omega))|(apply p_lenString <;> rfl)|(apply p_neB <;> rfl)|(apply p_neNil <;> rfl)|(apply p_sliceL;(case hx=>rfl);(case hl=>rfl);all_goals omega)|(apply p_sliceH;(case hx=>rfl);(case hh=>rfl);all_goals omega)|(apply p_sliceLH;(case hx=>rfl);(case hl=>rfl);(case hh=>rfl);all_goals omega)|(apply p_slice3;(case hx=>rfl);(case hh=>rfl);(case hq=>rfl);all_goals omega)|(apply p_sliceStrL;(case hx=>rfl);(case hl=>rfl);all_goals omega)|(apply p_sliceStrH;(case hx=>rfl);(case hh=>rfl);all_goals omega)|(apply p_neS <;> rfl)|(apply p_neNilSlice <;> rfl));(case hd=>rfl))|(apply v_condT;(case hc=>rfl))|(apply v_condF;(case hc=>rfl))|(apply v_cond;(case hc=>rfl);all_goals (intro h;(try simp only [reduceCtorEq,zzz] at h);first|done|(exfalso;omega)|(exfalso;exact h (by with_reducible assumption))|(exfalso;revert h;rw [imp_false];with_reducible assumption)|skip))|(apply v_guardB;(case h1=>rfl);(case h2=>rfl);all_goals (intro h;(try simp only [reduceCtorEq,zzz] at h);first|done|(exfalso;omega)|(exfalso;exact h (by with_reducible assumption))|(exfalso;revert h;rw [imp_false];with_reducible assumption)|skip))|fail)
    all_goals first
      | (refine v_ret [] (outsA3 rfl rfl rfl rfl) (List.nil_sublist _) ?_
         refine ⟨rfl,_,_,_,rfl,.inr ⟨?_,by decide,rfl,rfl⟩⟩
         rw [hN,if_neg]
         rintro ⟨-,-,-,g4⟩
         rw [decide_eq_true g4] at hq
         subst hq
         contradiction)
      | (refine v_call (μ1:=[]) rfl q3 (List.Perm.refl _) rfl ?_
         rintro r6 G6 ν6 - ⟨hG6,hg6⟩
         subst hG6
         obtain ⟨A6,c6,rfl,-,-⟩:=hg6.shape
         refine v_drop (List.sublist_append_left _ _) ?_
         refine v_frzP (r:=[]) ν6 (List.Perm.of_eq (by simp)) ?_
         intro G7 hle7 hG7
         have s7:=hg6.ints hG7 hwb
         repeat' (first|apply v_seq|apply v_region|apply v_nil|apply v_skip|apply v_block|apply v_blk|(apply v_exit;(case hp=>rfl))|(apply v_take;(case hg=>rfl))|(apply v_pass;(case hg=>rfl);(case hn=>rfl);(case hd=>rfl))|(apply v_passN;(case hg=>rfl);(case hn=>rfl);(case hd=>rfl))|(apply v_pure;(case hop=>first|(apply p_move <;> rfl)|(apply p_nes <;> rfl)|(apply p_neBs <;> rfl)|(apply p_lt <;> rfl)|(apply p_ne <;> rfl)|(apply p_assign <;> rfl)|(apply p_not <;> rfl)|(apply p_lenSlice <;> rfl)|(apply p_extract0 <;> rfl)|(apply p_extract1 <;> rfl)|(apply p_extract2 <;> rfl)|(apply p_extract <;> rfl)|(apply p_add;(case hx=>rfl);(case hy=>rfl);(case h=>omega))|(apply p_sub;(case hx=>rfl);(case hy=>rfl);(case h=>omega))|(apply p_lenString <;> rfl)|(apply p_neB <;> rfl)|(apply p_neNil <;> rfl)|(apply p_sliceL;(case hx=>rfl);(case hl=>rfl);all_goals omega)|(apply p_sliceH;(case hx=>rfl);(case hh=>rfl);all_goals omega)|(apply p_sliceLH;(case hx=>rfl);(case hl=>rfl);(case hh=>rfl);all_goals omega)|(apply p_slice3;(case hx=>rfl);(case hh=>rfl);(case hq=>rfl);all_goals omega)|(apply p_sliceStrL;(case hx=>rfl);(case hl=>rfl);all_goals omega)|(apply p_sliceStrH;(case hx=>rfl);(case hh=>rfl);all_goals omega)|(apply p_neS <;> rfl)|(apply p_neNilSlice <;> rfl));(case hd=>rfl))|(apply v_condT;(case hc=>rfl))|(apply v_condF;(case hc=>rfl))|(apply v_cond;(case hc=>rfl);all_goals (intro h;(try simp only [reduceCtorEq,zzz] at h);first|done|(exfalso;omega)|(exfalso;exact h (by with_reducible assumption))|(exfalso;revert h;rw [imp_false];with_reducible assumption)|skip))|(apply v_guardB;(case h1=>rfl);(case h2=>rfl);all_goals (intro h;(try simp only [reduceCtorEq,zzz] at h);first|done|(exfalso;omega)|(exfalso;exact h (by with_reducible assumption))|(exfalso;revert h;rw [imp_false];with_reducible assumption)|skip))|fail)
         refine v_ret [] (outsA3 rfl rfl rfl rfl) (List.nil_sublist _) ?_
         have heq:=of_decide_eq_true (hq.trans (by assumption))
         refine ⟨rfl,_,_,_,rfl,.inl ⟨r'.take m,r'.drop (m + 4),?_,s7,?_,rfl⟩⟩
         · rw [hN,if_pos ⟨by omega,by omega,hle4,heq⟩]
         · rw [List.length_drop]
           omega)
      | skip
    all_goals vx_show
end Go.Proofs.YtpemabgfmnhhnaaGreatDoor
/-
  What is read of a file, in plain Lean: of one that is cut off, and of what was read again.
-/
set_option linter.unusedSimpArgs false
set_option linter.unusedVariables false
namespace Go.Proofs.YtpemabgfmnhhnaaGreatDoor
section
variable {α:Type} (enc:Int → α → List Int) (dec:Int → List Int → Option α)
def headF (most:Int) (hd:List Int):Int × Int × Bool:=(numV 2 (some hd),numV most (numS 2 (some hd)),decide (numS most (numS 2 (some hd)) = some []))
noncomputable def readF (B:List Int):Option (Int × List α × Nat) :=
  match nextF B with
  | none=>none
  | some (hd,r) =>
    if (headF B.length hd).2.2 = true ∧ ((headF B.length hd).1 = 1 ∨ (headF B.length hd).1 = 2) ∧ (headF B.length hd).2.1 ≤ (recsF (dec (headF B.length hd).1) B.length r).1.length then
      some ((headF B.length hd).1,(recsF (dec (headF B.length hd).1) B.length r).1,B.length - (recsF (dec (headF B.length hd).1) B.length r).2.length)
    else none
theorem readF_none {B:List Int} (h:nextF B = none):readF dec B = none:=by
  unfold readF;rw [h]
theorem readF_some {B hd r:List Int} (h:nextF B = some (hd,r)):readF dec B =
    if (headF B.length hd).2.2 = true ∧ ((headF B.length hd).1 = 1 ∨ (headF B.length hd).1 = 2) ∧ (headF B.length hd).2.1 ≤ (recsF (dec (headF B.length hd).1) B.length r).1.length then
      some ((headF B.length hd).1,(recsF (dec (headF B.length hd).1) B.length r).1,B.length - (recsF (dec (headF B.length hd).1) B.length r).2.length)
    else none:=by
  conv=>lhs;unfold readF
  rw [h]
def fileB (f:Int) (n:Nat) (xs:List α):List Int:=frB (vbytes f ++ vbytes (n:Nat)) ++ flatF (enc f) xs
theorem headB_ok {f:Int} {n:Nat}:okF (vbytes f ++ vbytes (n:Nat)):=by
  have h1:=vbytes_len f
  have h2:=vbytes_len (n:Nat)
  unfold okF
  rw [List.length_append]
  omega
theorem headF_of {f:Int} {n:Nat} {m:Int} (hf:f = 1 ∨ f = 2) (hn:(n:Int) ≤ 9223372036854775807) (hm:(n:Int) ≤ m):headF m (vbytes f ++ vbytes (n:Nat)) = (f,(n:Int),true):=by
  have d1:dvk 0 (vbytes f ++ vbytes (n:Nat)) = some (f,vbytes (n:Nat)):=dvk_vbytes _ (by omega) (by omega)
  have d2:dvk 0 (vbytes (n:Nat)) = some ((n:Int),[]):=by
    have:=dvk_vbytes (m:=(n:Int)) [] (by omega) hn
    rwa [List.append_nil] at this
  unfold headF numS numV
  simp only [d1]
  rw [if_neg (by omega),if_neg (by omega)]
  simp only [d2]
  rw [if_neg (by omega),if_neg (by omega)]
  simp
theorem headF_over {f:Int} {n:Nat} {m:Int} (hf:f = 1 ∨ f = 2) (hn:(n:Int) ≤ 9223372036854775807) (hm:m < (n:Int)):(headF m (vbytes f ++ vbytes (n:Nat))).2.2 = false:=by
  have d1:dvk 0 (vbytes f ++ vbytes (n:Nat)) = some (f,vbytes (n:Nat)):=dvk_vbytes _ (by omega) (by omega)
  have d2:dvk 0 (vbytes (n:Nat)) = some ((n:Int),[]):=by
    have:=dvk_vbytes (m:=(n:Int)) [] (by omega) hn
    rwa [List.append_nil] at this
  unfold headF numS numV
  simp only [d1]
  rw [if_neg (by omega)]
  simp only [d2]
  rw [if_pos (by omega)]
  simp
def endN (f:Int) (n:Nat) (xs:List α) (i:Nat):Nat:=(frB (vbytes f ++ vbytes (n:Nat))).length + (flatF (enc f) (xs.take i)).length
theorem readF_cut {f:Int} {n m:Nat} {xs:List α} (hf:f = 1 ∨ f = 2) (hn:n ≤ xs.length) (hx:∀ x ∈ xs,okC (enc f) (dec f) x) (hbig:(xs.length:Int) ≤ 9223372036854775807) (hm:m ≤ (fileB enc f n xs).length) :
    (m < endN enc f n xs n → readF dec ((fileB enc f n xs).take m) = none) ∧
    (¬ m < endN enc f n xs n → ∃ K,n ≤ K ∧ K ≤ xs.length ∧ endN enc f n xs K ≤ m ∧ (∀ i,i ≤ xs.length → endN enc f n xs i ≤ m → i ≤ K) ∧ readF dec ((fileB enc f n xs).take m) = some (f,xs.take K,endN enc f n xs K)):=by
  have hb:byteL (fileB enc f n xs):=(frB_byte ((vbytes_byte (by omega)).app (vbytes_byte (by omega))) headB_ok).app (flatF_byte _ _ hx)
  have hT:(fileB enc f n xs).length = (frB (vbytes f ++ vbytes (n:Nat))).length + (flatF (enc f) xs).length:=by unfold fileB;rw [List.length_append]
  by_cases hc:m < (frB (vbytes f ++ vbytes (n:Nat))).length
  · have hno:nextF ((fileB enc f n xs).take m) = none:=nextF_cut headB_ok hb hc
    refine ⟨fun _=>readF_none dec hno,fun h=>absurd ?_ h⟩
    unfold endN
    omega
  · have ht:(fileB enc f n xs).take m = frB (vbytes f ++ vbytes (n:Nat)) ++ (flatF (enc f) xs).take (m - (frB (vbytes f ++ vbytes (n:Nat))).length):=by
      unfold fileB
      rw [List.take_append,List.take_of_length_le (by omega)]
    have hl:((fileB enc f n xs).take m).length = m:=by rw [List.length_take];omega
    have hnx:nextF ((fileB enc f n xs).take m) = some (vbytes f ++ vbytes (n:Nat),(flatF (enc f) xs).take (m - (frB (vbytes f ++ vbytes (n:Nat))).length)):=by rw [ht];exact nextF_fr _ headB_ok
    have hr:=cut_recs' (enc f) (dec f) (xs:=xs) (m:=m - (frB (vbytes f ++ vbytes (n:Nat))).length) (f:=m) hx (by omega) (by omega)
    have w1:=wholeN_le (enc f) xs (m - (frB (vbytes f ++ vbytes (n:Nat))).length)
    have w2:=wholeN_fits (enc f) xs (m - (frB (vbytes f ++ vbytes (n:Nat))).length)
    have w3:=wholeN_most (enc f) xs (m - (frB (vbytes f ++ vbytes (n:Nat))).length)
    generalize hK:wholeN (enc f) xs (m - (frB (vbytes f ++ vbytes (n:Nat))).length) = K at *
    have hmono:∀ i,i ≤ K → (flatF (enc f) (xs.take i)).length ≤ (flatF (enc f) (xs.take K)).length:=fun i hi=>by
      have:=flatF_len_take (enc f) (xs.take K) i
      rwa [List.take_take,Nat.min_eq_left hi] at this
    have hmn:=flatF_many (enc f) (xs.take n)
    rw [List.length_take,Nat.min_eq_left hn] at hmn
    constructor
    · intro h
      rw [readF_some dec hnx,hl]
      by_cases hmn2:(n:Int) ≤ (m:Int)
      · rw [headF_of hf (by omega) hmn2]
        simp only
        rw [hr,if_neg]
        rintro ⟨-,-,h3⟩
        rw [List.length_take] at h3
        have:=hmono n (by omega)
        unfold endN at h
        omega
      · rw [if_neg]
        rintro ⟨h1,-,-⟩
        rw [headF_over hf (by omega) (by omega)] at h1
        cases h1
    · intro h
      unfold endN at h
      have hnK:n ≤ K:=w3 n hn (by omega)
      refine ⟨K,hnK,w1,by unfold endN;omega,fun i hi h2=>w3 i hi (by unfold endN at h2;omega),?_⟩
      rw [readF_some dec hnx,hl,headF_of hf (by omega) (by omega)]
      simp only
      rw [hr,if_pos ⟨trivial,hf,by rw [List.length_take];omega⟩]
      simp only [Option.some.injEq,Prod.mk.injEq,true_and]
      rw [List.length_drop,List.length_take]
      unfold endN
      omega
end
end Go.Proofs.YtpemabgfmnhhnaaGreatDoor
/-
  rectwo (layer 17), the first part: Encode.
-/
set_option linter.unusedSimpArgs false
set_option linter.unusedVariables false
namespace Go.Proofs.YtpemabgfmnhhnaaGreatDoor
open Go.Vx Go.ChangeShapes Go.WideShapes Go.ChangeAt Go.RowKit
abbrev twoW (wb pb xb:Nat) (sv:Value) (k r n i:Int) (c:Cm) (iv:Value):OH:=[(wb,.cells [sv].toArray 130 (0,0)),(pb,.cells [.pointer (some ⟨wb,0,none⟩)].toArray 128 (0,0)),(xb,.cells (recL k r n i c iv).toArray 42 (0,0))]
def PutsW (G0:GH) (f:FuncId) (wb pb xb:Nat) (k r n i:Int) (c:Cm) (iv:Value) (add:List Int):Prop := ∀ (G:GH) (sv:Value) (l:List Int),GH.le G0 G → Sl G 1 (IntR .u8) sv l → l.length ≤ 50000 →
  Con Tryz.prog f #[.pointer (some ⟨pb,0,none⟩),.pointer (some ⟨xb,0,none⟩)] G (twoW wb pb xb sv k r n i c iv) (fun r' G' μ'=>∃ v',μ' = twoW wb pb xb v' k r n i c iv ∧ Sl G' 1 (IntR .u8) v' (l ++ add))
theorem enc1_s (G0:GH) (wb pb xb:Nat) (k r n i:Int) (c:Cm) (iv:Value) (hr:r ≤ 9223372036854775807) (hn:n ≤ 9223372036854775807):PutsW G0 138 wb pb xb k r n i c iv (vbytes r ++ vbytes n):=by
  intro G sv l hle hs hl
  (refine v_enter Tryz.func138 rfl Tryz.ntmps138 rfl ?_;intro B _)
  repeat' (first|apply v_seq|apply v_region|(apply v_pure;(case hop=>(apply p_fieldAddrB <;> rfl));(case hd=>rfl))|(apply v_read;(case hop=>(apply r_load1;rfl;(apply Cell.own;(case h=>(repeat (first|exact mhd _|apply mtl)));rfl)));(case hd=>rfl))|fail)
  refine v_call (μ1:=[(wb,_)]) (μ2:=_) rfl (wnumber_s wb r hs (by omega) hr) (PickA.perm (by repeat (exact PickA.here _))) rfl ?_
  rintro r1 G1 _ hle1 ⟨v1,rfl,h1⟩
  repeat' (first|apply v_region|apply v_nil|(apply v_pure;(case hop=>(apply p_fieldAddrB <;> rfl));(case hd=>rfl))|(apply v_read;(case hop=>(apply r_load1;rfl;(apply Cell.own;(case h=>(repeat (first|exact mhd _|apply mtl)));rfl)));(case hd=>rfl))|fail)
  refine v_call (μ1:=[(wb,_)]) (μ2:=_) rfl (wnumber_s wb n h1 (by have:=(vbytes_len r).1;simp;omega) hn) (PickA.perm (by repeat (exact PickA.here _))) rfl ?_
  rintro r2 G2 _ hle2 ⟨v2,rfl,h2⟩
  repeat' (first|apply v_nil)
  refine v_end [(wb,_),(pb,_),(xb,_)] (outsA0 rfl) (by repeat (exact List.Sublist.refl _)) ?_
  exact ⟨v2,rfl,by rw [List.append_assoc] at h2;exact h2⟩
theorem enc2_s (G0:GH) (wb pb xb:Nat) (k r n i:Int) (c:Cm) (iv:Value) (hi:i ≤ 9223372036854775807):PutsW G0 139 wb pb xb k r n i c iv (vbytes i):=by
  intro G sv l hle hs hl
  (refine v_enter Tryz.func139 rfl Tryz.ntmps139 rfl ?_;intro B _)
  repeat' (first|apply v_region|(apply v_pure;(case hop=>(apply p_fieldAddrB <;> rfl));(case hd=>rfl))|(apply v_read;(case hop=>(apply r_load1;rfl;(apply Cell.own;(case h=>(repeat (first|exact mhd _|apply mtl)));rfl)));(case hd=>rfl))|fail)
  refine v_call (μ1:=[(wb,_)]) (μ2:=_) rfl (wnumber_s wb i hs (by omega) hi) (PickA.perm (by repeat (exact PickA.here _))) rfl ?_
  rintro r1 G1 _ hle1 ⟨v1,rfl,h1⟩
  repeat' (first|apply v_nil)
  refine v_end [(wb,_),(pb,_),(xb,_)] (outsA0 rfl) (by repeat (exact List.Sublist.refl _)) ?_
  exact ⟨v1,rfl,h1⟩
theorem enc3_s (G0:GH) (wb pb xb:Nat) (k r n i:Int) (c:Cm) (iv:Value) (hc:c.ok) (hk:c.key.size ≤ 1000) (hv:c.val.size ≤ 1000) (ho:c.old.size ≤ 1000):PutsW G0 140 wb pb xb k r n i c iv (vbytes c.kind ++ putW (wantB 2 c.kind) c 6):=by
  intro G sv l hle hs hl
  (refine v_enter Tryz.func140 rfl Tryz.ntmps140 rfl ?_;intro B _)
  repeat' (first|apply v_region|(apply v_pure;(case hop=>(apply p_fieldAddrB <;> rfl));(case hd=>rfl))|(apply v_read;(case hop=>first|(apply r_loadNo;(case hx=>rfl);(case h=>(repeat (first|exact mhd _|apply mtl)));(case hd=>(repeat (first|with_reducible exact dt_nil|apply dt_here)));(case hn=>rfl))|(apply r_load1;rfl;(apply Cell.own;(case h=>(repeat (first|exact mhd _|apply mtl)));rfl))|fail);(case hd=>rfl))|fail)
  refine v_call (μ1:=[(wb,_)]) (μ2:=_) rfl (cputV_s 2 c hc hk hv ho wb hs (by omega)) (PickA.perm (by repeat (exact PickA.here _))) rfl ?_
  rintro r1 G1 _ hle1 ⟨v1,rfl,h1⟩
  repeat' (first|apply v_nil)
  refine v_end [(wb,_),(pb,_),(xb,_)] (outsA0 rfl) (by repeat (exact List.Sublist.refl _)) ?_
  exact ⟨v1,rfl,by rw [List.append_assoc] at h1;exact h1⟩
theorem enc4_s {G0:GH} (wb pb xb:Nat) (k r n i:Int) (c:Cm) {A:Option Addr} {cp:Nat} {im:List Int} (hi:Sl G0 1 (IntR .u8) (.slice A im.length cp) im) (hm:im.length ≤ 40000):PutsW G0 141 wb pb xb k r n i c (.slice A im.length cp) (vbytes im.length ++ im):=by
  intro G sv l hle hs hl
  (refine v_enter Tryz.func141 rfl Tryz.ntmps141 rfl ?_;intro B _)
  repeat' (first|apply v_region|(apply v_pure;(case hop=>(apply p_fieldAddrB <;> rfl));(case hd=>rfl))|(apply v_read;(case hop=>(apply r_load1;rfl;(apply Cell.own;(case h=>(repeat (first|exact mhd _|apply mtl)));rfl)));(case hd=>rfl))|fail)
  refine v_call (μ1:=[(wb,_)]) (μ2:=_) rfl (wraw_s wb hs (hi.mono hle) (by omega) (by omega)) (PickA.perm (by repeat (exact PickA.here _))) rfl ?_
  rintro r1 G1 _ hle1 ⟨v1,rfl,h1⟩
  repeat' (first|apply v_nil)
  refine v_end [(wb,_),(pb,_),(xb,_)] (outsA0 rfl) (by repeat (exact List.Sublist.refl _)) ?_
  exact ⟨v1,rfl,by rw [List.append_assoc] at h1;exact h1⟩
theorem whenW_s {G0:GH} {f:FuncId} [Callable Tryz.prog f] {wb pb xb:Nat} {k r n i:Int} {c:Cm} {iv:Value} {add:List Int} (hf:PutsW G0 f wb pb xb k r n i c iv add) (b:Bool) {G:GH} {sv:Value} {l:List Int} (hle:GH.le G0 G) (hs:Sl G 1 (IntR .u8) sv l) (hl:l.length ≤ 50000) :
    Con Tryz.prog 173 #[.bool b,.func (.func f) #[] #[.pointer (some ⟨pb,0,none⟩),.pointer (some ⟨xb,0,none⟩)]] G (twoW wb pb xb sv k r n i c iv) (fun r' G' μ'=>∃ v',μ' = twoW wb pb xb v' k r n i c iv ∧ Sl G' 1 (IntR .u8) v' (l ++ (if b then add else []))):=by
  have q:=hf G sv l hle hs hl
  (refine v_enter Tryz.func173 rfl Tryz.ntmps173 rfl ?_;intro B _)
  cases b
  · repeat' (first|apply v_seq|apply v_region|apply v_nil|apply v_skip|(apply v_pure;(case hop=>(apply p_move <;> rfl));(case hd=>rfl))|(apply v_condF;(case hc=>rfl))|fail)
    refine v_end [(wb,_),(pb,_),(xb,_)] (outsA0 rfl) (by repeat (exact List.Sublist.refl _)) ?_
    exact ⟨sv,rfl,by simpa using hs⟩
  · repeat' (first|apply v_seq|apply v_region|apply v_nil|(apply v_pure;(case hop=>(apply p_move <;> rfl));(case hd=>rfl))|(apply v_condT;(case hc=>rfl))|fail)
    refine v_callC (first:=[]) (captured:=[.pointer (some ⟨pb,0,none⟩),.pointer (some ⟨xb,0,none⟩)]) (vs:=[]) rfl rfl q (List.Perm.refl _) rfl ?_
    rintro r1 G1 _ hle1 ⟨v1,rfl,h1⟩
    repeat' (first|apply v_nil)
    refine v_end [(wb,_),(pb,_),(xb,_)] (outsA0 rfl) (by repeat (exact List.Sublist.refl _)) ?_
    exact ⟨v1,rfl,by simpa using h1⟩
def tailT (x:Rc):List Int:=(if x.kind = 1 ∨ x.kind = 2 then vbytes x.round ++ vbytes x.node else []) ++ (if x.kind = 1 then [] else vbytes x.index) ++ (if x.kind = 2 ∨ x.kind = 3 then vbytes x.cmd.kind ++ putW (wantB 2 x.cmd.kind) x.cmd 6 else []) ++ (if x.kind = 4 then vbytes x.image.length ++ x.image else [])
def encT (x:Rc):List Int:=vbytes (x.kind + 16) ++ tailT x
abbrev clo (f:FuncId) (pb xb:Nat):Value:=.func (.func f) #[] #[.pointer (some ⟨pb,0,none⟩),.pointer (some ⟨xb,0,none⟩)]
theorem lenIf {b:Bool} {l a:List Int} {m p:Nat} (h:l.length ≤ m) (h2:a.length ≤ p):(l ++ (if b = true then a else [])).length ≤ m + p:=by
  rw [List.length_append]
  cases b <;> simp <;> omega
def walkL (k:Int) (a1 a2 a3 a4:List Int):List Int:=(((if k = 1 ∨ k = 2 then a1 else []) ++ (if k = 1 then [] else a2)) ++ (if k = 2 ∨ k = 3 then a3 else [])) ++ (if k = 4 then a4 else [])
theorem walkW_s {G0:GH} {wb pb xb:Nat} {k k' r n i:Int} {c:Cm} {iv:Value} {a1 a2 a3 a4:List Int} (hk:k = 1 ∨ k = 2 ∨ k = 3 ∨ k = 4) (h1:PutsW G0 138 wb pb xb k' r n i c iv a1) (h2:PutsW G0 139 wb pb xb k' r n i c iv a2) (h3:PutsW G0 140 wb pb xb k' r n i c iv a3) (h4:PutsW G0 141 wb pb xb k' r n i c iv a4)
    (l1:a1.length ≤ 100) (l2:a2.length ≤ 100) (l3:a3.length ≤ 10000) {G:GH} {sv:Value} {l:List Int} (hle:GH.le G0 G) (hs:Sl G 1 (IntR .u8) sv l) (hl:l.length ≤ 1000) :
    Con Tryz.prog 137 #[.int .i64 k,clo 138 pb xb,clo 139 pb xb,clo 140 pb xb,clo 141 pb xb] G (twoW wb pb xb sv k' r n i c iv) (fun r' G' μ'=>∃ v',μ' = twoW wb pb xb v' k' r n i c iv ∧ Sl G' 1 (IntR .u8) v' (l ++ walkL k a1 a2 a3 a4)):=by
  (refine v_enter Tryz.func137 rfl Tryz.ntmps137 rfl ?_;intro B _)
  obtain rfl|rfl|rfl|rfl:=hk
  all_goals
    (repeat' (first|apply v_seq|apply v_region|(apply v_take;(case hg=>rfl))|(apply v_pass;(case hg=>rfl);(case hn=>rfl);(case hd=>rfl))|(apply v_pure;(case hop=>first|(apply p_move <;> rfl)|(apply p_eqs <;> rfl)|(apply p_eq <;> rfl)|(apply p_pickT <;> rfl)|(apply p_pickF <;> rfl)|fail);(case hd=>rfl))|(apply v_guardB;(case h1=>rfl);(case h2=>rfl);all_goals (intro h;(try simp only [reduceCtorEq,zzz] at h);first|(exfalso;omega)|skip))|fail)
     refine v_call (μ1:=twoW wb pb xb sv k' r n i c iv) (μ2:=[]) rfl (whenW_s h1 _ hle hs (by omega)) (by simp) rfl ?_
     rintro r1 G1 _ hle1 ⟨v1,rfl,s1⟩
     repeat' (first|apply v_seq|apply v_region|apply v_nil|(apply v_pure;(case hop=>first|(apply p_move <;> rfl)|(apply p_nes <;> rfl)|(apply p_ne <;> rfl)|fail);(case hd=>rfl))|fail)
     refine v_call (μ1:=twoW wb pb xb v1 k' r n i c iv) (μ2:=[]) rfl (whenW_s h2 _ (GH.le_trans hle hle1) s1 (Nat.le_trans (lenIf hl l1) (by decide))) (by simp) rfl ?_
     rintro r2 G2 _ hle2 ⟨v2,rfl,s2⟩
     repeat' (first|apply v_seq|apply v_region|apply v_nil|(apply v_take;(case hg=>rfl))|(apply v_pass;(case hg=>rfl);(case hn=>rfl);(case hd=>rfl))|(apply v_pure;(case hop=>first|(apply p_move <;> rfl)|(apply p_eqs <;> rfl)|(apply p_eq <;> rfl)|(apply p_pickT <;> rfl)|(apply p_pickF <;> rfl)|fail);(case hd=>rfl))|(apply v_guardB;(case h1=>rfl);(case h2=>rfl);all_goals (intro h;(try simp only [reduceCtorEq,zzz] at h);first|(exfalso;omega)|skip))|fail)
     refine v_call (μ1:=twoW wb pb xb v2 k' r n i c iv) (μ2:=[]) rfl (whenW_s h3 _ (GH.le_trans (GH.le_trans hle hle1) hle2) s2 (Nat.le_trans (lenIf (lenIf hl l1) l2) (by decide))) (by simp) rfl ?_
     rintro r3 G3 _ hle3 ⟨v3,rfl,s3⟩
     repeat' (first|apply v_region|apply v_nil|(apply v_pure;(case hop=>first|(apply p_move <;> rfl)|(apply p_eqs <;> rfl)|(apply p_eq <;> rfl)|fail);(case hd=>rfl))|fail)
     refine v_call (μ1:=twoW wb pb xb v3 k' r n i c iv) (μ2:=[]) rfl (whenW_s h4 _ (GH.le_trans (GH.le_trans (GH.le_trans hle hle1) hle2) hle3) s3 (Nat.le_trans (lenIf (lenIf (lenIf hl l1) l2) l3) (by decide))) (by simp) rfl ?_
     rintro r4 G4 _ hle4 ⟨v4,rfl,s4⟩
     repeat' (first|apply v_nil)
     refine v_end (twoW wb pb xb v4 k' r n i c iv) (outsA0 rfl) (by simp) ?_
     refine ⟨v4,rfl,?_⟩
     simpa [dec_eq,walkL] using s4)
attribute [local semireducible] MoveOp in
theorem m_appendS {ty t u:TypeId} {σ:Env} {G:GH} {μ μr ν:OH} {s x:Operand} {v:Value} {m:Nat} {xs:List Value} {z:ByteArray} [Ty Tryz.prog t (.slice 5)] [Ty Tryz.prog u .string] (hs:Env.ev σ s = some v) (hx:Env.ev σ x = some (.string z)) (hg:Grow 5 1 v m xs ν) (hm:0 < m) (hp:μ.Perm (ν ++ μr)) (hb:m + z.size ≤ 140737488355328) :
    MoveOp Tryz.prog (.call { callee:=.builtin .append,args:=#[s,x],argTypes:=#[t,u] }) ty σ G μ (fun v' G' μ'=>∃ ν',Grow 5 1 v' (m + z.size) (xs ++ Lib.strCells z) ν' ∧ G' = G ∧ μ' = ν' ++ μr):=by
  intro dst pos af g ρ hρ w hw a K Q hK
  have hw':=hw.perm hp
  obtain ⟨i,hi,hi1,hi2,hi3⟩:=Lay.infoEx (P:=Tryz.prog) (t:=5) (agg:=false) (size:=1) (bytes:=1) (zero:=.int .u8 0) inferInstance
  have ht:(Tryz.prog).underlying t = some (.slice 5):=Ty.h
  have hu:(Tryz.prog).underlying u = some .string:=Ty.h
  have hex:∀ (r:Result Value),(Builtin.append_ #[t,u] ty #[v,.string z]).run Tryz.prog w = r → (execOp ρ ⟨dst,.call { callee:=.builtin .append,args:=#[s,x],argTypes:=#[t,u] },ty,pos,af,g⟩).run Tryz.prog w = r.andThen fun v w'=>.ok (.value v) w':=by
    intro r hr
    subst hr
    simp only [execOp,resolve,invoke,builtin,Sem.run_bind,Sem.run_pure,Result.andThen_ok,List.map_toArray,List.map_cons,List.map_nil,hρ _ _ hs,hρ _ _ hx]
  obtain ⟨hl,⟨rfl,h0,rfl⟩|⟨b,cap,spare,rfl,rfl,hc1,hc2,hc3⟩⟩:=hg
  · omega
  have hblk:w.heap[b]? = some (.cells (xs ++ spare).toArray 5 (0,0)):=hw'.own b _ (by simp)
  have hsl:=Lib.strCells_length z
  by_cases hroom:m + z.size ≤ cap
  · have hr:=Lib.run_append_room_string (P:=Tryz.prog) w t u ty 5 i ht hu hi hi1 b m cap (xs ++ spare).toArray hblk z hroom (by rw [List.size_toArray,hc3];omega)
    rw [hex _ hr]
    have htake:((xs ++ spare).toArray.toList.take m ++ Lib.strCells z ++ (xs ++ spare).toArray.toList.drop (m + z.size)) = xs ++ Lib.strCells z ++ spare.drop z.size:=by
      have hl':m = xs.length:=by omega
      rw [hl']
      show (xs ++ spare).take xs.length ++ Lib.strCells z ++ (xs ++ spare).drop (xs.length + z.size) = _
      rw [List.take_left,← List.drop_drop,List.drop_left]
    rw [htake]
    have hst:Step G ([(b,.cells (xs ++ spare).toArray 5 (0,0))] ++ μr) w G ([(b,.cells (xs ++ Lib.strCells z ++ spare.drop z.size).toArray 5 (0,0))] ++ μr) (w.setRow b (xs ++ Lib.strCells z ++ spare.drop z.size).toArray) :=
      Step.row hw' (b:=b) (vs:=xs ++ spare) (by simp [Has]) (.here _ _)
    refine hK _ _ G _ (hst.permL hp.symm) ⟨[(b,.cells (xs ++ Lib.strCells z ++ spare.drop z.size).toArray 5 (0,0))],⟨by rw [List.length_append,hl,hsl];omega,.inr ⟨b,cap,spare.drop z.size,rfl,rfl,hroom,hc2,?_⟩⟩,rfl,rfl⟩
    simp only [List.length_append,List.length_drop,hl,hsl] at hc3 ⊢
    omega
  · have holds:∀ j q,xs[j]? = some q → w.cell? ((⟨b,0,none⟩:Addr).add j) = some q:=by
      intro j q hq
      have hj:j < xs.length:=(List.getElem?_eq_some_iff.1 hq).1
      rw [add_mk,Nat.zero_add]
      unfold World.cell?
      simp only [hblk]
      simp only [Option.isSome_none,Bool.false_eq_true,if_false,List.getElem?_toArray]
      rw [List.getElem?_append_left hj]
      exact hq
    have hr:=Lib.run_append_grow_string (P:=Tryz.prog) w t u ty 5 i (.int .u8 0) ht hu hi hi3 ⟨b,0,none⟩ m cap xs (by rw [hl,hi1]) holds z (by omega) (by omega) (growslice_fits (by omega) (by rw [hi2];omega))
    rw [hex _ hr]
    have hge:=grownCap_ge w (m + z.size) cap 5
    have hst:=(Step.drew hw' 1).trans (Step.alloc (Step.drew hw' 1).mem (.cells (xs.toArray ++ (Lib.strCells z).toArray ++ Builtin.zeroCells (Value.int .u8 0).cells (grownCap w (m + z.size) cap 5 - (m + z.size))) 5 (0,0)))
    have hst2:=hst.drop (List.Sublist.cons_cons _ (List.Sublist.cons _ (List.Sublist.refl μr)))
    refine hK _ _ G _ (hst2.permL hp.symm) ⟨[(w.heap.size,.cells (xs ++ Lib.strCells z ++ (Builtin.zeroCells (Value.int .u8 0).cells (grownCap w (m + z.size) cap 5 - (m + z.size))).toList).toArray 5 (0,0))],⟨by rw [List.length_append,hl,hsl];omega,.inr ⟨_,_,_,rfl,rfl,hge,grownCap_le_maxLen w _ _ _ (by simp only [maxLen];omega),?_⟩⟩,rfl,?_⟩
    · simp only [List.length_append,hl,hsl,Array.length_toList,size_zeroCells]
      have:(Value.int .u8 0).cells.size = 1:=rfl
      rw [this]
      omega
    · simp
theorem strCells_map (s:ByteArray):Lib.strCells s = (sbytes s).map (Value.int .u8 ·):=by
  rw [Lib.strCells,sbytes,List.map_map]
  rfl
theorem rtext_s (G:GH) (s:ByteArray) (hz:s.size ≤ 100000):Con Tryz.prog 133 #[.string s] G [] (fun r G' μ'=>G' = G ∧ Grow 5 1 r (vbytes s.size ++ sbytes s).length ((vbytes s.size ++ sbytes s).map (.int .u8 ·)) μ'):=by
  have hl:=vbytes_len (s.size:Nat)
  (refine v_enter Tryz.func133 rfl Tryz.ntmps133 rfl ?_;intro B _)
  repeat' (first|apply v_seq|apply v_region|apply v_nil|(apply v_pure;(case hop=>first|(apply p_move <;> rfl)|(apply p_assign <;> rfl)|(apply p_lenString <;> rfl));(case hd=>rfl))|fail)
  refine v_call (μ1:=[]) (μ2:=_) rfl (rnum_s G (s.size:Nat) (by omega)) (List.Perm.refl _) rfl ?_
  rintro r G' μ1 - ⟨rfl,hg⟩
  repeat' (first|(apply v_pure;(case hop=>(apply p_move <;> rfl));(case hd=>rfl))|fail)
  refine v_move (m_appendS rfl rfl hg (by omega) (List.Perm.refl _) (by omega)) rfl ?_
  rintro v' G2 μ2 ⟨ν',hg',rfl,rfl⟩
  repeat' (first|apply v_nil|(apply v_pure;(case hop=>(apply p_assign <;> rfl));(case hd=>rfl))|fail)
  refine v_ret ν' (outsA1 rfl rfl) (by repeat (exact List.sublist_append_left _ _)) ?_
  refine ⟨rfl,?_⟩
  rw [strCells_map,← List.map_append,← sbytes_length,← List.length_append] at hg'
  rw [sbytes_length] at hg'
  exact hg'
end Go.Proofs.YtpemabgfmnhhnaaGreatDoor
/-
  recone (layer 16), the twelfth part: the bytes of a command, by the reference.
-/
set_option linter.unusedSimpArgs false
set_option linter.unusedVariables false
namespace Go.Proofs.YtpemabgfmnhhnaaGreatDoor
open Go.Vx Go.ChangeShapes Go.WideShapes Go.ChangeAt Go.RowKit
theorem sbytes_wf (s:ByteArray):∀ x ∈ sbytes s,(Lit.int .u8 x).wf = true:=by
  intro x hx
  simp only [sbytes,List.mem_map] at hx
  obtain ⟨b,_,rfl⟩:=hx
  have:=b.toNat_lt
  exact WalkArith.wf_u8 (by omega)
theorem tbytes_wf (s:ByteArray) (hz:s.size ≤ 100000):∀ x ∈ vbytes s.size ++ sbytes s,(Lit.int .u8 x).wf = true:=fun x hx=>by
  rcases List.mem_append.1 hx with hx|hx
  · exact vbytes_wf (by omega) x hx
  · exact sbytes_wf s x hx
theorem want2 {v k:Int} (hv:v ≠ 1):wantB v k = fun j=>decide (band (cmdFields k).1 (hasOf j) ≠ 0):=by
  funext j
  rw [wantB,if_neg hv]
theorem rcmdV_s (G:GH) (v:Int) (c:Cm) (hc:c.ok) (hk:c.key.size ≤ 1000) (hv:c.val.size ≤ 1000) (ho:c.old.size ≤ 1000):Con Tryz.prog 96 #[.int .i64 v,.agg c.cells.toArray] G [] (fun r G' μ'=>GH.le G G' ∧ Grow 5 1 r (vbytes c.kind ++ putW (wantB v c.kind) c 6).length ((vbytes c.kind ++ putW (wantB v c.kind) c 6).map (.int .u8 ·)) μ'):=by
  obtain ⟨hk1,hc1,hs1,-,-,-,hn1⟩:=hc
  simp [Lit.wf,IntKind.min,IntKind.max,IntKind.signed,IntKind.bits] at hk1 hc1 hs1 hn1
  have qw:=fun G=>owned_s G c.kind
  have qm:=fun G=>member_s G c.kind
  have hL0:=(vbytes_len c.kind).1
  have hL1:=(vbytes_len c.client).1
  have hL2:=(vbytes_len c.seq).1
  have hL3:=(vbytes_len (c.key.size:Nat)).1
  have hL4:=(vbytes_len (c.val.size:Nat)).1
  have hL5:=(vbytes_len c.node).1
  have hL6:=(vbytes_len (c.old.size:Nat)).1
  (refine v_enter Tryz.func96 rfl Tryz.ntmps96 rfl ?_;intro B _)
  repeat' (first|apply v_seq|apply v_region|apply v_nil|(apply v_pure;(case hop=>first|(apply p_assign <;> rfl)|(apply p_fieldAddrB <;> rfl)|fail);(case hd=>rfl))|(apply v_box (zs:=c.cells);(case hx=>rfl);(case hz=>rfl);(case hd=>rfl);intro cb)|(apply v_read;(case hop=>(apply r_load1;rfl;(apply Cell.own;(case h=>(repeat (exact mhd _)));rfl)));(case hd=>rfl))|fail)
  refine v_call (μ1:=[]) (μ2:=_) rfl (rnum_s G c.kind (by omega)) (List.Perm.refl _) rfl ?_
  rintro v0 G0 ν0 - ⟨rfl,ho0⟩
  obtain hq|hq|hq|hq|hq|hq:v = 1 ∨ (v ≠ 1 ∧ c.kind = 2) ∨ (v ≠ 1 ∧ (c.kind = 3 ∨ c.kind = 4)) ∨ (v ≠ 1 ∧ c.kind = 5) ∨ (v ≠ 1 ∧ (c.kind = 7 ∨ c.kind = 8)) ∨ (v ≠ 1 ∧ (¬ (2 ≤ c.kind ∧ c.kind ≤ 5) ∧ ¬ (c.kind = 7 ∨ c.kind = 8))):=by omega
  · subst hq
    repeat' (first|apply v_seq|apply v_region|apply v_nil|(apply v_pass;(case hg=>rfl);(case hn=>rfl);(case hd=>rfl))|(apply v_pure;(case hop=>first|(apply p_move <;> rfl)|(apply p_eqs <;> rfl)|(apply p_assign <;> rfl)|(apply p_pickT <;> rfl)|(apply p_fieldAddrB <;> rfl)|fail);(case hd=>rfl))|(apply v_condT;(case hc=>rfl))|(apply v_read;(case hop=>(apply r_load1;rfl;(apply Cell.own;(case h=>(repeat (first|exact mhd _|apply List.mem_append_right)));rfl)));(case hd=>rfl))|fail)
    refine v_call (μ1:=[]) (μ2:=_) rfl (rnum_s _ c.client (by omega)) (List.Perm.refl _) rfl ?_
    rintro r1 G1 μ1 - ⟨rfl,hg1⟩
    refine v_frz μ1 (by repeat (exact PickA.here _)) ?_
    intro H1 hle1 hG1
    have hs1:Sl H1 1 (IntR .u8) r1 (vbytes c.client):=hg1.ints hG1 (fun x hx=>vbytes_wf (by omega) x hx)
    have hsrc1:=fun μ=>Src.ints (μ:=μ) hs1
    obtain ⟨A1,c1,rfl,-,-⟩:=hg1.shape
    repeat' (fail)
    refine v_append (e:=5) (sz:=1) (zero:=.int .u8 0) rfl (by omega) rfl rfl ho0 (PickA.perm (by repeat (exact PickA.here _))) (hsrc1 _) (allOne_ints _) (by (try simp only [List.length_append,sbytes_length]);omega) (by simp only [maxLen];(try simp only [List.length_append,sbytes_length]);omega) rfl fun v1 ν1 ho1=>?_
    rw [← List.map_append,← List.length_append] at ho1
    repeat' (first|apply v_seq|apply v_region|apply v_nil|(apply v_pure;(case hop=>first|(apply p_move <;> rfl)|(apply p_assign <;> rfl)|(apply p_fieldAddrB <;> rfl)|fail);(case hd=>rfl))|(apply v_read;(case hop=>(apply r_load1;rfl;(apply Cell.own;(case h=>(repeat (first|exact mhd _|apply List.mem_append_right)));rfl)));(case hd=>rfl))|fail)
    refine v_call (μ1:=[]) (μ2:=_) rfl (rnum_s _ c.seq (by omega)) (List.Perm.refl _) rfl ?_
    rintro r2 G2 μ2 - ⟨rfl,hg2⟩
    refine v_frz μ2 (by repeat (exact PickA.here _)) ?_
    intro H2 hle2 hG2
    have hs2:Sl H2 1 (IntR .u8) r2 (vbytes c.seq):=hg2.ints hG2 (fun x hx=>vbytes_wf (by omega) x hx)
    have hsrc2:=fun μ=>Src.ints (μ:=μ) hs2
    obtain ⟨A2,c2,rfl,-,-⟩:=hg2.shape
    repeat' (fail)
    refine v_append (e:=5) (sz:=1) (zero:=.int .u8 0) rfl (by omega) rfl rfl ho1 (PickA.perm (by repeat (exact PickA.here _))) (hsrc2 _) (allOne_ints _) (by (try simp only [List.length_append,sbytes_length]);omega) (by simp only [maxLen];(try simp only [List.length_append,sbytes_length]);omega) rfl fun v2 ν2 ho2=>?_
    rw [← List.map_append,← List.length_append] at ho2
    repeat' (first|apply v_region|apply v_nil|(apply v_pure;(case hop=>first|(apply p_move <;> rfl)|(apply p_assign <;> rfl)|(apply p_fieldAddrB <;> rfl)|fail);(case hd=>rfl))|(apply v_read;(case hop=>(apply r_load1;rfl;(apply Cell.own;(case h=>(repeat (first|exact mhd _|apply List.mem_append_right)));rfl)));(case hd=>rfl))|fail)
    refine v_call (μ1:=[]) (μ2:=_) rfl (rtext_s _ c.key (by omega)) (List.Perm.refl _) rfl ?_
    rintro r3 G3 μ3 - ⟨rfl,hg3⟩
    refine v_frz μ3 (by repeat (exact PickA.here _)) ?_
    intro H3 hle3 hG3
    have hs3:Sl H3 1 (IntR .u8) r3 (vbytes c.key.size ++ sbytes c.key):=hg3.ints hG3 (tbytes_wf c.key (by omega))
    have hsrc3:=fun μ=>Src.ints (μ:=μ) hs3
    obtain ⟨A3,c3,rfl,-,-⟩:=hg3.shape
    repeat' (fail)
    refine v_append (e:=5) (sz:=1) (zero:=.int .u8 0) rfl (by omega) rfl rfl ho2 (PickA.perm (by repeat (exact PickA.here _))) (hsrc3 _) (allOne_ints _) (by (try simp only [List.length_append,sbytes_length]);omega) (by simp only [maxLen];(try simp only [List.length_append,sbytes_length]);omega) rfl fun v3 ν3 ho3=>?_
    rw [← List.map_append,← List.length_append] at ho3
    repeat' (first|apply v_seq|apply v_region|apply v_nil|apply v_skip|(apply v_pass;(case hg=>rfl);(case hn=>rfl);(case hd=>rfl))|(apply v_pure;(case hop=>first|(apply p_move <;> rfl)|(apply p_assign <;> rfl)|(apply p_pickT <;> rfl)|(apply p_pickF <;> rfl)|(apply p_not <;> rfl)|(apply p_fieldAddrB <;> rfl)|fail);(case hd=>rfl))|(apply v_condT;(case hc=>rfl))|(apply v_condF;(case hc=>rfl))|(apply v_read;(case hop=>(apply r_load1;rfl;(apply Cell.own;(case h=>(repeat (first|exact mhd _|apply List.mem_append_right)));rfl)));(case hd=>rfl))|fail)
    refine v_call (μ1:=[]) (μ2:=_) rfl (rtext_s _ c.val (by omega)) (List.Perm.refl _) rfl ?_
    rintro r4 G4 μ4 - ⟨rfl,hg4⟩
    refine v_frz μ4 (by repeat (exact PickA.here _)) ?_
    intro H4 hle4 hG4
    have hs4:Sl H4 1 (IntR .u8) r4 (vbytes c.val.size ++ sbytes c.val):=hg4.ints hG4 (tbytes_wf c.val (by omega))
    have hsrc4:=fun μ=>Src.ints (μ:=μ) hs4
    obtain ⟨A4,c4,rfl,-,-⟩:=hg4.shape
    repeat' (fail)
    refine v_append (e:=5) (sz:=1) (zero:=.int .u8 0) rfl (by omega) rfl rfl ho3 (PickA.perm (by repeat (exact PickA.here _))) (hsrc4 _) (allOne_ints _) (by (try simp only [List.length_append,sbytes_length]);omega) (by simp only [maxLen];(try simp only [List.length_append,sbytes_length]);omega) rfl fun v4 ν4 ho4=>?_
    rw [← List.map_append,← List.length_append] at ho4
    repeat' (first|apply v_seq|apply v_region|apply v_nil|(apply v_pass;(case hg=>rfl);(case hn=>rfl);(case hd=>rfl))|(apply v_pure;(case hop=>first|(apply p_move <;> rfl)|(apply p_assign <;> rfl)|(apply p_pickT <;> rfl)|(apply p_fieldAddrB <;> rfl)|fail);(case hd=>rfl))|(apply v_condT;(case hc=>rfl))|(apply v_read;(case hop=>(apply r_load1;rfl;(apply Cell.own;(case h=>(repeat (first|exact mhd _|apply List.mem_append_right)));rfl)));(case hd=>rfl))|fail)
    refine v_call (μ1:=[]) (μ2:=_) rfl (rnum_s _ c.node (by omega)) (List.Perm.refl _) rfl ?_
    rintro r5 G5 μ5 - ⟨rfl,hg5⟩
    refine v_frz μ5 (by repeat (exact PickA.here _)) ?_
    intro H5 hle5 hG5
    have hs5:Sl H5 1 (IntR .u8) r5 (vbytes c.node):=hg5.ints hG5 (fun x hx=>vbytes_wf (by omega) x hx)
    have hsrc5:=fun μ=>Src.ints (μ:=μ) hs5
    obtain ⟨A5,c5,rfl,-,-⟩:=hg5.shape
    repeat' (fail)
    refine v_append (e:=5) (sz:=1) (zero:=.int .u8 0) rfl (by omega) rfl rfl ho4 (PickA.perm (by repeat (exact PickA.here _))) (hsrc5 _) (allOne_ints _) (by (try simp only [List.length_append,sbytes_length]);omega) (by simp only [maxLen];(try simp only [List.length_append,sbytes_length]);omega) rfl fun v5 ν5 ho5=>?_
    rw [← List.map_append,← List.length_append] at ho5
    repeat' (first|apply v_seq|apply v_region|apply v_nil|(apply v_pure;(case hop=>first|(apply p_move <;> rfl)|(apply p_assign <;> rfl)|fail);(case hd=>rfl))|fail)
    have el:vbytes c.kind ++ putW (wantB 1 c.kind) c 6 = vbytes c.kind ++ (vbytes c.client) ++ (vbytes c.seq) ++ (vbytes c.key.size ++ sbytes c.key) ++ (vbytes c.val.size ++ sbytes c.val) ++ (vbytes c.node):=by
      simp [putW,wantB,hasOf,pbytes,isNum,Cm.num,Cm.txt]
    rw [el]
    refine v_ret ν5 (outsA1 rfl rfl) (by repeat (exact List.sublist_append_left _ _)) ?_
    refine ⟨fun b o h=>hle5 b o (hle4 b o (hle3 b o (hle2 b o (hle1 b o (h))))),?_⟩
    simpa using ho5
  · have ow:decide (2 ≤ c.kind ∧ c.kind ≤ 5) = true:=by rw [decide_eq_true_iff];omega
    have om:decide (c.kind = 7 ∨ c.kind = 8) = false:=by rw [decide_eq_false_iff_not];omega
    simp only [ow,om] at qw qm
    repeat' (first|apply v_seq|apply v_region|apply v_nil|(apply v_take;(case hg=>rfl))|(apply v_pure;(case hop=>first|(apply p_move <;> rfl)|(apply p_eq <;> rfl)|(apply p_assign <;> rfl)|(apply p_pickF <;> rfl)|(apply p_fieldAddrB <;> rfl)|fail);(case hd=>rfl))|(apply v_condT;(case hc=>rfl))|(apply v_guardB;(case h1=>rfl);(case h2=>rfl);all_goals (intro h;(try simp only [reduceCtorEq,zzz] at h);first|(exfalso;omega)|skip))|(apply v_callJ (hs:=qw _);(case ha=>rfl);(case hd=>rfl))|(apply v_read;(case hop=>(apply r_load1;rfl;(apply Cell.own;(case h=>(repeat (first|exact mhd _|apply List.mem_append_right)));rfl)));(case hd=>rfl))|fail)
    refine v_call (μ1:=[]) (μ2:=_) rfl (rnum_s _ c.client (by omega)) (List.Perm.refl _) rfl ?_
    rintro r1 G1 μ1 - ⟨rfl,hg1⟩
    refine v_frz μ1 (by repeat (exact PickA.here _)) ?_
    intro H1 hle1 hG1
    have hs1:Sl H1 1 (IntR .u8) r1 (vbytes c.client):=hg1.ints hG1 (fun x hx=>vbytes_wf (by omega) x hx)
    have hsrc1:=fun μ=>Src.ints (μ:=μ) hs1
    obtain ⟨A1,c1,rfl,-,-⟩:=hg1.shape
    repeat' (fail)
    refine v_append (e:=5) (sz:=1) (zero:=.int .u8 0) rfl (by omega) rfl rfl ho0 (PickA.perm (by repeat (exact PickA.here _))) (hsrc1 _) (allOne_ints _) (by (try simp only [List.length_append,sbytes_length]);omega) (by simp only [maxLen];(try simp only [List.length_append,sbytes_length]);omega) rfl fun v1 ν1 ho1=>?_
    rw [← List.map_append,← List.length_append] at ho1
    repeat' (first|apply v_seq|apply v_region|apply v_nil|(apply v_pure;(case hop=>first|(apply p_move <;> rfl)|(apply p_assign <;> rfl)|(apply p_fieldAddrB <;> rfl)|fail);(case hd=>rfl))|(apply v_read;(case hop=>(apply r_load1;rfl;(apply Cell.own;(case h=>(repeat (first|exact mhd _|apply List.mem_append_right)));rfl)));(case hd=>rfl))|fail)
    refine v_call (μ1:=[]) (μ2:=_) rfl (rnum_s _ c.seq (by omega)) (List.Perm.refl _) rfl ?_
    rintro r2 G2 μ2 - ⟨rfl,hg2⟩
    refine v_frz μ2 (by repeat (exact PickA.here _)) ?_
    intro H2 hle2 hG2
    have hs2:Sl H2 1 (IntR .u8) r2 (vbytes c.seq):=hg2.ints hG2 (fun x hx=>vbytes_wf (by omega) x hx)
    have hsrc2:=fun μ=>Src.ints (μ:=μ) hs2
    obtain ⟨A2,c2,rfl,-,-⟩:=hg2.shape
    repeat' (fail)
    refine v_append (e:=5) (sz:=1) (zero:=.int .u8 0) rfl (by omega) rfl rfl ho1 (PickA.perm (by repeat (exact PickA.here _))) (hsrc2 _) (allOne_ints _) (by (try simp only [List.length_append,sbytes_length]);omega) (by simp only [maxLen];(try simp only [List.length_append,sbytes_length]);omega) rfl fun v2 ν2 ho2=>?_
    rw [← List.map_append,← List.length_append] at ho2
    repeat' (first|apply v_region|apply v_nil|(apply v_pure;(case hop=>first|(apply p_move <;> rfl)|(apply p_assign <;> rfl)|(apply p_fieldAddrB <;> rfl)|fail);(case hd=>rfl))|(apply v_read;(case hop=>(apply r_load1;rfl;(apply Cell.own;(case h=>(repeat (first|exact mhd _|apply List.mem_append_right)));rfl)));(case hd=>rfl))|fail)
    refine v_call (μ1:=[]) (μ2:=_) rfl (rtext_s _ c.key (by omega)) (List.Perm.refl _) rfl ?_
    rintro r3 G3 μ3 - ⟨rfl,hg3⟩
    refine v_frz μ3 (by repeat (exact PickA.here _)) ?_
    intro H3 hle3 hG3
    have hs3:Sl H3 1 (IntR .u8) r3 (vbytes c.key.size ++ sbytes c.key):=hg3.ints hG3 (tbytes_wf c.key (by omega))
    have hsrc3:=fun μ=>Src.ints (μ:=μ) hs3
    obtain ⟨A3,c3,rfl,-,-⟩:=hg3.shape
    repeat' (fail)
    refine v_append (e:=5) (sz:=1) (zero:=.int .u8 0) rfl (by omega) rfl rfl ho2 (PickA.perm (by repeat (exact PickA.here _))) (hsrc3 _) (allOne_ints _) (by (try simp only [List.length_append,sbytes_length]);omega) (by simp only [maxLen];(try simp only [List.length_append,sbytes_length]);omega) rfl fun v3 ν3 ho3=>?_
    rw [← List.map_append,← List.length_append] at ho3
    repeat' (first|apply v_seq|apply v_region|apply v_nil|apply v_skip|(apply v_take;(case hg=>rfl))|(apply v_pass;(case hg=>rfl);(case hn=>rfl);(case hd=>rfl))|(apply v_pure;(case hop=>first|(apply p_move <;> rfl)|(apply p_eq <;> rfl)|(apply p_assign <;> rfl)|(apply p_pickT <;> rfl)|(apply p_pickF <;> rfl)|(apply p_not <;> rfl)|(apply p_fieldAddrB <;> rfl)|fail);(case hd=>rfl))|(apply v_condT;(case hc=>rfl))|(apply v_cond;(case hc=>rfl);all_goals (intro h;(try simp only [reduceCtorEq,zzz] at h);first|(exfalso;omega)|skip))|(apply v_guardB;(case h1=>rfl);(case h2=>rfl);all_goals (intro h;(try simp only [reduceCtorEq,zzz] at h);first|(exfalso;omega)|skip))|(apply v_read;(case hop=>(apply r_load1;rfl;(apply Cell.own;(case h=>(repeat (first|exact mhd _|apply List.mem_append_right)));rfl)));(case hd=>rfl))|fail)
    refine v_call (μ1:=[]) (μ2:=_) rfl (rtext_s _ c.val (by omega)) (List.Perm.refl _) rfl ?_
    rintro r4 G4 μ4 - ⟨rfl,hg4⟩
    refine v_frz μ4 (by repeat (exact PickA.here _)) ?_
    intro H4 hle4 hG4
    have hs4:Sl H4 1 (IntR .u8) r4 (vbytes c.val.size ++ sbytes c.val):=hg4.ints hG4 (tbytes_wf c.val (by omega))
    have hsrc4:=fun μ=>Src.ints (μ:=μ) hs4
    obtain ⟨A4,c4,rfl,-,-⟩:=hg4.shape
    repeat' (fail)
    refine v_append (e:=5) (sz:=1) (zero:=.int .u8 0) rfl (by omega) rfl rfl ho3 (PickA.perm (by repeat (exact PickA.here _))) (hsrc4 _) (allOne_ints _) (by (try simp only [List.length_append,sbytes_length]);omega) (by simp only [maxLen];(try simp only [List.length_append,sbytes_length]);omega) rfl fun v4 ν4 ho4=>?_
    rw [← List.map_append,← List.length_append] at ho4
    repeat' (first|apply v_seq|apply v_region|apply v_nil|apply v_skip|(apply v_take;(case hg=>rfl))|(apply v_pure;(case hop=>first|(apply p_move <;> rfl)|(apply p_assign <;> rfl)|(apply p_pickF <;> rfl)|(apply p_fieldAddrB <;> rfl)|fail);(case hd=>rfl))|(apply v_condF;(case hc=>rfl))|(apply v_guardB;(case h1=>rfl);(case h2=>rfl);all_goals (intro h;(try simp only [reduceCtorEq,zzz] at h);first|(exfalso;omega)|skip))|(apply v_callJ (hs:=qm _);(case ha=>rfl);(case hd=>rfl))|(apply v_read;(case hop=>(apply r_load1;rfl;(apply Cell.own;(case h=>(repeat (first|exact mhd _|apply List.mem_append_right)));rfl)));(case hd=>rfl))|fail)
    have el:vbytes c.kind ++ putW (wantB v c.kind) c 6 = vbytes c.kind ++ (vbytes c.client) ++ (vbytes c.seq) ++ (vbytes c.key.size ++ sbytes c.key) ++ (vbytes c.val.size ++ sbytes c.val):=by
      rw [want2 hq.1,hq.2];simp [cmdFields,putW,hasOf,pbytes,isNum,Cm.num,Cm.txt,band_0_1,band_0_2,band_0_4,band_0_8,band_0_16,band_3_1,band_3_2,band_3_4,band_3_8,band_3_16,band_11_1,band_11_2,band_11_4,band_11_8,band_11_16,band_15_1,band_15_2,band_15_4,band_15_8,band_15_16,band_16_1,band_16_2,band_16_4,band_16_8,band_16_16]
    rw [el]
    refine v_ret ν4 (outsA1 rfl rfl) (by repeat (exact List.sublist_append_left _ _)) ?_
    refine ⟨fun b o h=>hle4 b o (hle3 b o (hle2 b o (hle1 b o (h)))),?_⟩
    simpa using ho4
  · have ow:decide (2 ≤ c.kind ∧ c.kind ≤ 5) = true:=by rw [decide_eq_true_iff];omega
    have om:decide (c.kind = 7 ∨ c.kind = 8) = false:=by rw [decide_eq_false_iff_not];omega
    simp only [ow,om] at qw qm
    repeat' (first|apply v_seq|apply v_region|apply v_nil|(apply v_take;(case hg=>rfl))|(apply v_pure;(case hop=>first|(apply p_move <;> rfl)|(apply p_eq <;> rfl)|(apply p_assign <;> rfl)|(apply p_pickF <;> rfl)|(apply p_fieldAddrB <;> rfl)|fail);(case hd=>rfl))|(apply v_condT;(case hc=>rfl))|(apply v_guardB;(case h1=>rfl);(case h2=>rfl);all_goals (intro h;(try simp only [reduceCtorEq,zzz] at h);first|(exfalso;omega)|skip))|(apply v_callJ (hs:=qw _);(case ha=>rfl);(case hd=>rfl))|(apply v_read;(case hop=>(apply r_load1;rfl;(apply Cell.own;(case h=>(repeat (first|exact mhd _|apply List.mem_append_right)));rfl)));(case hd=>rfl))|fail)
    refine v_call (μ1:=[]) (μ2:=_) rfl (rnum_s _ c.client (by omega)) (List.Perm.refl _) rfl ?_
    rintro r1 G1 μ1 - ⟨rfl,hg1⟩
    refine v_frz μ1 (by repeat (exact PickA.here _)) ?_
    intro H1 hle1 hG1
    have hs1:Sl H1 1 (IntR .u8) r1 (vbytes c.client):=hg1.ints hG1 (fun x hx=>vbytes_wf (by omega) x hx)
    have hsrc1:=fun μ=>Src.ints (μ:=μ) hs1
    obtain ⟨A1,c1,rfl,-,-⟩:=hg1.shape
    repeat' (fail)
    refine v_append (e:=5) (sz:=1) (zero:=.int .u8 0) rfl (by omega) rfl rfl ho0 (PickA.perm (by repeat (exact PickA.here _))) (hsrc1 _) (allOne_ints _) (by (try simp only [List.length_append,sbytes_length]);omega) (by simp only [maxLen];(try simp only [List.length_append,sbytes_length]);omega) rfl fun v1 ν1 ho1=>?_
    rw [← List.map_append,← List.length_append] at ho1
    repeat' (first|apply v_seq|apply v_region|apply v_nil|(apply v_pure;(case hop=>first|(apply p_move <;> rfl)|(apply p_assign <;> rfl)|(apply p_fieldAddrB <;> rfl)|fail);(case hd=>rfl))|(apply v_read;(case hop=>(apply r_load1;rfl;(apply Cell.own;(case h=>(repeat (first|exact mhd _|apply List.mem_append_right)));rfl)));(case hd=>rfl))|fail)
    refine v_call (μ1:=[]) (μ2:=_) rfl (rnum_s _ c.seq (by omega)) (List.Perm.refl _) rfl ?_
    rintro r2 G2 μ2 - ⟨rfl,hg2⟩
    refine v_frz μ2 (by repeat (exact PickA.here _)) ?_
    intro H2 hle2 hG2
    have hs2:Sl H2 1 (IntR .u8) r2 (vbytes c.seq):=hg2.ints hG2 (fun x hx=>vbytes_wf (by omega) x hx)
    have hsrc2:=fun μ=>Src.ints (μ:=μ) hs2
    obtain ⟨A2,c2,rfl,-,-⟩:=hg2.shape
    repeat' (fail)
    refine v_append (e:=5) (sz:=1) (zero:=.int .u8 0) rfl (by omega) rfl rfl ho1 (PickA.perm (by repeat (exact PickA.here _))) (hsrc2 _) (allOne_ints _) (by (try simp only [List.length_append,sbytes_length]);omega) (by simp only [maxLen];(try simp only [List.length_append,sbytes_length]);omega) rfl fun v2 ν2 ho2=>?_
    rw [← List.map_append,← List.length_append] at ho2
    repeat' (first|apply v_region|apply v_nil|(apply v_pure;(case hop=>first|(apply p_move <;> rfl)|(apply p_assign <;> rfl)|(apply p_fieldAddrB <;> rfl)|fail);(case hd=>rfl))|(apply v_read;(case hop=>(apply r_load1;rfl;(apply Cell.own;(case h=>(repeat (first|exact mhd _|apply List.mem_append_right)));rfl)));(case hd=>rfl))|fail)
    refine v_call (μ1:=[]) (μ2:=_) rfl (rtext_s _ c.key (by omega)) (List.Perm.refl _) rfl ?_
    rintro r3 G3 μ3 - ⟨rfl,hg3⟩
    refine v_frz μ3 (by repeat (exact PickA.here _)) ?_
    intro H3 hle3 hG3
    have hs3:Sl H3 1 (IntR .u8) r3 (vbytes c.key.size ++ sbytes c.key):=hg3.ints hG3 (tbytes_wf c.key (by omega))
    have hsrc3:=fun μ=>Src.ints (μ:=μ) hs3
    obtain ⟨A3,c3,rfl,-,-⟩:=hg3.shape
    repeat' (fail)
    refine v_append (e:=5) (sz:=1) (zero:=.int .u8 0) rfl (by omega) rfl rfl ho2 (PickA.perm (by repeat (exact PickA.here _))) (hsrc3 _) (allOne_ints _) (by (try simp only [List.length_append,sbytes_length]);omega) (by simp only [maxLen];(try simp only [List.length_append,sbytes_length]);omega) rfl fun v3 ν3 ho3=>?_
    rw [← List.map_append,← List.length_append] at ho3
    repeat' (first|apply v_seq|apply v_region|apply v_nil|apply v_skip|(apply v_take;(case hg=>rfl))|(apply v_pure;(case hop=>first|(apply p_move <;> rfl)|(apply p_eq <;> rfl)|(apply p_assign <;> rfl)|(apply p_pickT <;> rfl)|(apply p_pickF <;> rfl)|(apply p_not <;> rfl)|(apply p_fieldAddrB <;> rfl)|fail);(case hd=>rfl))|(apply v_condF;(case hc=>rfl))|(apply v_cond;(case hc=>rfl);all_goals (intro h;(try simp only [reduceCtorEq,zzz] at h);first|(exfalso;omega)|skip))|(apply v_guardB;(case h1=>rfl);(case h2=>rfl);all_goals (intro h;(try simp only [reduceCtorEq,zzz] at h);first|(exfalso;omega)|skip))|(apply v_callJ (hs:=qm _);(case ha=>rfl);(case hd=>rfl))|(apply v_read;(case hop=>(apply r_load1;rfl;(apply Cell.own;(case h=>(repeat (first|exact mhd _|apply List.mem_append_right)));rfl)));(case hd=>rfl))|fail)
    have el:vbytes c.kind ++ putW (wantB v c.kind) c 6 = vbytes c.kind ++ (vbytes c.client) ++ (vbytes c.seq) ++ (vbytes c.key.size ++ sbytes c.key):=by
      rw [want2 hq.1]
      obtain ⟨-,h|h⟩:=hq <;> rw [h] <;> simp [cmdFields,putW,hasOf,pbytes,isNum,Cm.num,Cm.txt,band_0_1,band_0_2,band_0_4,band_0_8,band_0_16,band_3_1,band_3_2,band_3_4,band_3_8,band_3_16,band_11_1,band_11_2,band_11_4,band_11_8,band_11_16,band_15_1,band_15_2,band_15_4,band_15_8,band_15_16,band_16_1,band_16_2,band_16_4,band_16_8,band_16_16]
    rw [el]
    refine v_ret ν3 (outsA1 rfl rfl) (by repeat (exact List.sublist_append_left _ _)) ?_
    refine ⟨fun b o h=>hle3 b o (hle2 b o (hle1 b o (h))),?_⟩
    simpa using ho3
  · have ow:decide (2 ≤ c.kind ∧ c.kind ≤ 5) = true:=by rw [decide_eq_true_iff];omega
    have om:decide (c.kind = 7 ∨ c.kind = 8) = false:=by rw [decide_eq_false_iff_not];omega
    simp only [ow,om] at qw qm
    repeat' (first|apply v_seq|apply v_region|apply v_nil|(apply v_take;(case hg=>rfl))|(apply v_pure;(case hop=>first|(apply p_move <;> rfl)|(apply p_eq <;> rfl)|(apply p_assign <;> rfl)|(apply p_pickF <;> rfl)|(apply p_fieldAddrB <;> rfl)|fail);(case hd=>rfl))|(apply v_condT;(case hc=>rfl))|(apply v_guardB;(case h1=>rfl);(case h2=>rfl);all_goals (intro h;(try simp only [reduceCtorEq,zzz] at h);first|(exfalso;omega)|skip))|(apply v_callJ (hs:=qw _);(case ha=>rfl);(case hd=>rfl))|(apply v_read;(case hop=>(apply r_load1;rfl;(apply Cell.own;(case h=>(repeat (first|exact mhd _|apply List.mem_append_right)));rfl)));(case hd=>rfl))|fail)
    refine v_call (μ1:=[]) (μ2:=_) rfl (rnum_s _ c.client (by omega)) (List.Perm.refl _) rfl ?_
    rintro r1 G1 μ1 - ⟨rfl,hg1⟩
    refine v_frz μ1 (by repeat (exact PickA.here _)) ?_
    intro H1 hle1 hG1
    have hs1:Sl H1 1 (IntR .u8) r1 (vbytes c.client):=hg1.ints hG1 (fun x hx=>vbytes_wf (by omega) x hx)
    have hsrc1:=fun μ=>Src.ints (μ:=μ) hs1
    obtain ⟨A1,c1,rfl,-,-⟩:=hg1.shape
    repeat' (fail)
    refine v_append (e:=5) (sz:=1) (zero:=.int .u8 0) rfl (by omega) rfl rfl ho0 (PickA.perm (by repeat (exact PickA.here _))) (hsrc1 _) (allOne_ints _) (by (try simp only [List.length_append,sbytes_length]);omega) (by simp only [maxLen];(try simp only [List.length_append,sbytes_length]);omega) rfl fun v1 ν1 ho1=>?_
    rw [← List.map_append,← List.length_append] at ho1
    repeat' (first|apply v_seq|apply v_region|apply v_nil|(apply v_pure;(case hop=>first|(apply p_move <;> rfl)|(apply p_assign <;> rfl)|(apply p_fieldAddrB <;> rfl)|fail);(case hd=>rfl))|(apply v_read;(case hop=>(apply r_load1;rfl;(apply Cell.own;(case h=>(repeat (first|exact mhd _|apply List.mem_append_right)));rfl)));(case hd=>rfl))|fail)
    refine v_call (μ1:=[]) (μ2:=_) rfl (rnum_s _ c.seq (by omega)) (List.Perm.refl _) rfl ?_
    rintro r2 G2 μ2 - ⟨rfl,hg2⟩
    refine v_frz μ2 (by repeat (exact PickA.here _)) ?_
    intro H2 hle2 hG2
    have hs2:Sl H2 1 (IntR .u8) r2 (vbytes c.seq):=hg2.ints hG2 (fun x hx=>vbytes_wf (by omega) x hx)
    have hsrc2:=fun μ=>Src.ints (μ:=μ) hs2
    obtain ⟨A2,c2,rfl,-,-⟩:=hg2.shape
    repeat' (fail)
    refine v_append (e:=5) (sz:=1) (zero:=.int .u8 0) rfl (by omega) rfl rfl ho1 (PickA.perm (by repeat (exact PickA.here _))) (hsrc2 _) (allOne_ints _) (by (try simp only [List.length_append,sbytes_length]);omega) (by simp only [maxLen];(try simp only [List.length_append,sbytes_length]);omega) rfl fun v2 ν2 ho2=>?_
    rw [← List.map_append,← List.length_append] at ho2
    repeat' (first|apply v_region|apply v_nil|(apply v_pure;(case hop=>first|(apply p_move <;> rfl)|(apply p_assign <;> rfl)|(apply p_fieldAddrB <;> rfl)|fail);(case hd=>rfl))|(apply v_read;(case hop=>(apply r_load1;rfl;(apply Cell.own;(case h=>(repeat (first|exact mhd _|apply List.mem_append_right)));rfl)));(case hd=>rfl))|fail)
    refine v_call (μ1:=[]) (μ2:=_) rfl (rtext_s _ c.key (by omega)) (List.Perm.refl _) rfl ?_
    rintro r3 G3 μ3 - ⟨rfl,hg3⟩
    refine v_frz μ3 (by repeat (exact PickA.here _)) ?_
    intro H3 hle3 hG3
    have hs3:Sl H3 1 (IntR .u8) r3 (vbytes c.key.size ++ sbytes c.key):=hg3.ints hG3 (tbytes_wf c.key (by omega))
    have hsrc3:=fun μ=>Src.ints (μ:=μ) hs3
    obtain ⟨A3,c3,rfl,-,-⟩:=hg3.shape
    repeat' (fail)
    refine v_append (e:=5) (sz:=1) (zero:=.int .u8 0) rfl (by omega) rfl rfl ho2 (PickA.perm (by repeat (exact PickA.here _))) (hsrc3 _) (allOne_ints _) (by (try simp only [List.length_append,sbytes_length]);omega) (by simp only [maxLen];(try simp only [List.length_append,sbytes_length]);omega) rfl fun v3 ν3 ho3=>?_
    rw [← List.map_append,← List.length_append] at ho3
    repeat' (first|apply v_seq|apply v_region|apply v_nil|(apply v_take;(case hg=>rfl))|(apply v_pure;(case hop=>first|(apply p_move <;> rfl)|(apply p_eq <;> rfl)|(apply p_assign <;> rfl)|(apply p_pickT <;> rfl)|(apply p_not <;> rfl)|(apply p_fieldAddrB <;> rfl)|fail);(case hd=>rfl))|(apply v_cond;(case hc=>rfl);all_goals (intro h;(try simp only [reduceCtorEq,zzz] at h);first|(exfalso;omega)|skip))|(apply v_guardB;(case h1=>rfl);(case h2=>rfl);all_goals (intro h;(try simp only [reduceCtorEq,zzz] at h);first|(exfalso;omega)|skip))|(apply v_read;(case hop=>(apply r_load1;rfl;(apply Cell.own;(case h=>(repeat (first|exact mhd _|apply List.mem_append_right)));rfl)));(case hd=>rfl))|fail)
    refine v_call (μ1:=[]) (μ2:=_) rfl (rtext_s _ c.old (by omega)) (List.Perm.refl _) rfl ?_
    rintro r4 G4 μ4 - ⟨rfl,hg4⟩
    refine v_frz μ4 (by repeat (exact PickA.here _)) ?_
    intro H4 hle4 hG4
    have hs4:Sl H4 1 (IntR .u8) r4 (vbytes c.old.size ++ sbytes c.old):=hg4.ints hG4 (tbytes_wf c.old (by omega))
    have hsrc4:=fun μ=>Src.ints (μ:=μ) hs4
    obtain ⟨A4,c4,rfl,-,-⟩:=hg4.shape
    repeat' (fail)
    refine v_append (e:=5) (sz:=1) (zero:=.int .u8 0) rfl (by omega) rfl rfl ho3 (PickA.perm (by repeat (exact PickA.here _))) (hsrc4 _) (allOne_ints _) (by (try simp only [List.length_append,sbytes_length]);omega) (by simp only [maxLen];(try simp only [List.length_append,sbytes_length]);omega) rfl fun v4 ν4 ho4=>?_
    rw [← List.map_append,← List.length_append] at ho4
    repeat' (first|apply v_seq|apply v_region|apply v_nil|(apply v_take;(case hg=>rfl))|(apply v_pure;(case hop=>first|(apply p_move <;> rfl)|(apply p_eq <;> rfl)|(apply p_assign <;> rfl)|(apply p_pickF <;> rfl)|(apply p_fieldAddrB <;> rfl)|fail);(case hd=>rfl))|(apply v_cond;(case hc=>rfl);all_goals (intro h;(try simp only [reduceCtorEq,zzz] at h);first|(exfalso;omega)|skip))|(apply v_guardB;(case h1=>rfl);(case h2=>rfl);all_goals (intro h;(try simp only [reduceCtorEq,zzz] at h);first|(exfalso;omega)|skip))|(apply v_read;(case hop=>(apply r_load1;rfl;(apply Cell.own;(case h=>(repeat (first|exact mhd _|apply List.mem_append_right)));rfl)));(case hd=>rfl))|fail)
    refine v_call (μ1:=[]) (μ2:=_) rfl (rtext_s _ c.val (by omega)) (List.Perm.refl _) rfl ?_
    rintro r5 G5 μ5 - ⟨rfl,hg5⟩
    refine v_frz μ5 (by repeat (exact PickA.here _)) ?_
    intro H5 hle5 hG5
    have hs5:Sl H5 1 (IntR .u8) r5 (vbytes c.val.size ++ sbytes c.val):=hg5.ints hG5 (tbytes_wf c.val (by omega))
    have hsrc5:=fun μ=>Src.ints (μ:=μ) hs5
    obtain ⟨A5,c5,rfl,-,-⟩:=hg5.shape
    repeat' (fail)
    refine v_append (e:=5) (sz:=1) (zero:=.int .u8 0) rfl (by omega) rfl rfl ho4 (PickA.perm (by repeat (exact PickA.here _))) (hsrc5 _) (allOne_ints _) (by (try simp only [List.length_append,sbytes_length]);omega) (by simp only [maxLen];(try simp only [List.length_append,sbytes_length]);omega) rfl fun v5 ν5 ho5=>?_
    rw [← List.map_append,← List.length_append] at ho5
    repeat' (first|apply v_seq|apply v_region|apply v_nil|apply v_skip|(apply v_take;(case hg=>rfl))|(apply v_pure;(case hop=>first|(apply p_move <;> rfl)|(apply p_assign <;> rfl)|(apply p_pickF <;> rfl)|(apply p_fieldAddrB <;> rfl)|fail);(case hd=>rfl))|(apply v_condF;(case hc=>rfl))|(apply v_guardB;(case h1=>rfl);(case h2=>rfl);all_goals (intro h;(try simp only [reduceCtorEq,zzz] at h);first|(exfalso;omega)|skip))|(apply v_callJ (hs:=qm _);(case ha=>rfl);(case hd=>rfl))|(apply v_read;(case hop=>(apply r_load1;rfl;(apply Cell.own;(case h=>(repeat (first|exact mhd _|apply List.mem_append_right)));rfl)));(case hd=>rfl))|fail)
    have el:vbytes c.kind ++ putW (wantB v c.kind) c 6 = vbytes c.kind ++ (vbytes c.client) ++ (vbytes c.seq) ++ (vbytes c.key.size ++ sbytes c.key) ++ (vbytes c.old.size ++ sbytes c.old) ++ (vbytes c.val.size ++ sbytes c.val):=by
      rw [want2 hq.1,hq.2];simp [cmdFields,putW,hasOf,pbytes,isNum,Cm.num,Cm.txt,band_0_1,band_0_2,band_0_4,band_0_8,band_0_16,band_3_1,band_3_2,band_3_4,band_3_8,band_3_16,band_11_1,band_11_2,band_11_4,band_11_8,band_11_16,band_15_1,band_15_2,band_15_4,band_15_8,band_15_16,band_16_1,band_16_2,band_16_4,band_16_8,band_16_16]
    rw [el]
    refine v_ret ν5 (outsA1 rfl rfl) (by repeat (exact List.sublist_append_left _ _)) ?_
    refine ⟨fun b o h=>hle5 b o (hle4 b o (hle3 b o (hle2 b o (hle1 b o (h))))),?_⟩
    simpa using ho5
  · have ow:decide (2 ≤ c.kind ∧ c.kind ≤ 5) = false:=by rw [decide_eq_false_iff_not];omega
    have om:decide (c.kind = 7 ∨ c.kind = 8) = true:=by rw [decide_eq_true_iff];omega
    simp only [ow,om] at qw qm
    repeat' (first|apply v_seq|apply v_region|apply v_nil|apply v_skip|(apply v_take;(case hg=>rfl))|(apply v_pure;(case hop=>first|(apply p_move <;> rfl)|(apply p_eq <;> rfl)|(apply p_assign <;> rfl)|(apply p_pickT <;> rfl)|(apply p_pickF <;> rfl)|(apply p_not <;> rfl)|(apply p_fieldAddrB <;> rfl)|fail);(case hd=>rfl))|(apply v_condT;(case hc=>rfl))|(apply v_condF;(case hc=>rfl))|(apply v_cond;(case hc=>rfl);all_goals (intro h;(try simp only [reduceCtorEq,zzz] at h);first|(exfalso;omega)|skip))|(apply v_guardB;(case h1=>rfl);(case h2=>rfl);all_goals (intro h;(try simp only [reduceCtorEq,zzz] at h);first|(exfalso;omega)|skip))|(apply v_callJ (hs:=qw _);(case ha=>rfl);(case hd=>rfl))|(apply v_callJ (hs:=qm _);(case ha=>rfl);(case hd=>rfl))|(apply v_read;(case hop=>(apply r_load1;rfl;(apply Cell.own;(case h=>(repeat (first|exact mhd _|apply List.mem_append_right)));rfl)));(case hd=>rfl))|fail)
    refine v_call (μ1:=[]) (μ2:=_) rfl (rnum_s _ c.node (by omega)) (List.Perm.refl _) rfl ?_
    rintro r1 G1 μ1 - ⟨rfl,hg1⟩
    refine v_frz μ1 (by repeat (exact PickA.here _)) ?_
    intro H1 hle1 hG1
    have hs1:Sl H1 1 (IntR .u8) r1 (vbytes c.node):=hg1.ints hG1 (fun x hx=>vbytes_wf (by omega) x hx)
    have hsrc1:=fun μ=>Src.ints (μ:=μ) hs1
    obtain ⟨A1,c1,rfl,-,-⟩:=hg1.shape
    repeat' (fail)
    refine v_append (e:=5) (sz:=1) (zero:=.int .u8 0) rfl (by omega) rfl rfl ho0 (PickA.perm (by repeat (exact PickA.here _))) (hsrc1 _) (allOne_ints _) (by (try simp only [List.length_append,sbytes_length]);omega) (by simp only [maxLen];(try simp only [List.length_append,sbytes_length]);omega) rfl fun v1 ν1 ho1=>?_
    rw [← List.map_append,← List.length_append] at ho1
    repeat' (first|apply v_seq|apply v_region|apply v_nil|(apply v_pure;(case hop=>first|(apply p_move <;> rfl)|(apply p_assign <;> rfl)|fail);(case hd=>rfl))|fail)
    have el:vbytes c.kind ++ putW (wantB v c.kind) c 6 = vbytes c.kind ++ (vbytes c.node):=by
      rw [want2 hq.1]
      obtain ⟨-,h|h⟩:=hq <;> rw [h] <;> simp [cmdFields,putW,hasOf,pbytes,isNum,Cm.num,Cm.txt,band_0_1,band_0_2,band_0_4,band_0_8,band_0_16,band_3_1,band_3_2,band_3_4,band_3_8,band_3_16,band_11_1,band_11_2,band_11_4,band_11_8,band_11_16,band_15_1,band_15_2,band_15_4,band_15_8,band_15_16,band_16_1,band_16_2,band_16_4,band_16_8,band_16_16]
    rw [el]
    refine v_ret ν1 (outsA1 rfl rfl) (by repeat (exact List.sublist_append_left _ _)) ?_
    refine ⟨fun b o h=>hle1 b o (h),?_⟩
    simpa using ho1
  · have ow:decide (2 ≤ c.kind ∧ c.kind ≤ 5) = false:=by rw [decide_eq_false_iff_not];omega
    have om:decide (c.kind = 7 ∨ c.kind = 8) = false:=by rw [decide_eq_false_iff_not];omega
    simp only [ow,om] at qw qm
    repeat' (first|apply v_seq|apply v_region|apply v_nil|apply v_skip|(apply v_take;(case hg=>rfl))|(apply v_pure;(case hop=>first|(apply p_move <;> rfl)|(apply p_eq <;> rfl)|(apply p_assign <;> rfl)|(apply p_pickT <;> rfl)|(apply p_pickF <;> rfl)|(apply p_not <;> rfl)|(apply p_fieldAddrB <;> rfl)|fail);(case hd=>rfl))|(apply v_condF;(case hc=>rfl))|(apply v_cond;(case hc=>rfl);all_goals (intro h;(try simp only [reduceCtorEq,zzz] at h);first|(exfalso;omega)|skip))|(apply v_guardB;(case h1=>rfl);(case h2=>rfl);all_goals (intro h;(try simp only [reduceCtorEq,zzz] at h);first|(exfalso;omega)|skip))|(apply v_callJ (hs:=qw _);(case ha=>rfl);(case hd=>rfl))|(apply v_callJ (hs:=qm _);(case ha=>rfl);(case hd=>rfl))|(apply v_read;(case hop=>(apply r_load1;rfl;(apply Cell.own;(case h=>(repeat (first|exact mhd _|apply List.mem_append_right)));rfl)));(case hd=>rfl))|fail)
    have el:vbytes c.kind ++ putW (wantB v c.kind) c 6 = vbytes c.kind:=by
      rw [want2 hq.1]
      have e0:(cmdFields c.kind).1 = 0:=by unfold cmdFields;(repeat' split) <;> first|rfl|(exfalso;omega)
      simp [e0,putW,hasOf,band_0_1,band_0_2,band_0_4,band_0_8,band_0_16,band_3_1,band_3_2,band_3_4,band_3_8,band_3_16,band_11_1,band_11_2,band_11_4,band_11_8,band_11_16,band_15_1,band_15_2,band_15_4,band_15_8,band_15_16,band_16_1,band_16_2,band_16_4,band_16_8,band_16_16]
    rw [el]
    refine v_ret ν0 (outsA1 rfl rfl) (by repeat (exact List.sublist_append_left _ _)) ?_
    refine ⟨GH.le_refl _,?_⟩
    simpa using ho0
theorem rcmd_s (G:GH) (c:Cm) (hc:c.ok) (hk:c.key.size ≤ 1000) (hv:c.val.size ≤ 1000) (ho:c.old.size ≤ 1000):Con Tryz.prog 96 #[.int .i64 1,.agg c.cells.toArray] G [] (fun r G' μ'=>GH.le G G' ∧ Grow 5 1 r (vbytes c.kind ++ putL c 6).length ((vbytes c.kind ++ putL c 6).map (.int .u8 ·)) μ'):=rcmdV_s G 1 c hc hk hv ho
theorem memwf {a b:List Int} (ha:∀ x ∈ a,(Lit.int .u8 x).wf = true) (hb:∀ x ∈ b,(Lit.int .u8 x).wf = true):∀ x ∈ a ++ b,(Lit.int .u8 x).wf = true:=fun x hx=>by
  rcases List.mem_append.1 hx with h|h
  · exact ha x h
  · exact hb x h
theorem rrec_s {G:GH} {x:Rc} {xv:Value} (hx:RcV G x xv) (hc:x.cmd.ok) (hl:x.fits) (hw:x.small) (hk:1 ≤ x.kind ∧ x.kind ≤ 4):Con Tryz.prog 93 #[xv] G [] (fun r G' μ'=>GH.le G G' ∧ Grow 5 1 r (encL x).length ((encL x).map (.int .u8 ·)) μ'):=by
  have hcw:∀ y ∈ vbytes x.cmd.kind ++ putL x.cmd 6,(Lit.int .u8 y).wf = true:=by
    obtain ⟨hk1,hc1,hs1,-,-,-,hn1⟩:=hc
    simp [Lit.wf,IntKind.min,IntKind.max,IntKind.signed,IntKind.bits] at hk1 hc1 hs1 hn1
    unfold Rc.fits at hl
    have el:vbytes x.cmd.kind ++ vbytes x.cmd.client ++ vbytes x.cmd.seq ++ (vbytes x.cmd.key.size ++ sbytes x.cmd.key) ++ (vbytes x.cmd.val.size ++ sbytes x.cmd.val) ++ vbytes x.cmd.node = vbytes x.cmd.kind ++ putL x.cmd 6:=by
      simp [putL,putW,wantB,hasOf,pbytes,isNum,Cm.num,Cm.txt]
    rw [← el]
    exact memwf (memwf (memwf (memwf (memwf (vbytes_wf (by omega)) (vbytes_wf (by omega))) (vbytes_wf (by omega))) (tbytes_wf _ (by omega))) (tbytes_wf _ (by omega))) (vbytes_wf (by omega))
  have hcl:=putL_len x.cmd (by unfold Rc.fits at hl;omega) (by unfold Rc.fits at hl;omega) (by unfold Rc.fits at hl;omega) 6
  unfold Rc.fits at hl
  obtain ⟨hw1,hw2,hw3,hw4⟩:=hw
  obtain ⟨iv,rfl,hi⟩:=hx
  have hL0:=(vbytes_len x.kind).1
  have hL1:=(vbytes_len x.round).1
  have hL2:=(vbytes_len x.node).1
  have hL3:=(vbytes_len x.index).1
  have hL4:=(vbytes_len x.cmd.kind).1
  have hL5:=(vbytes_len (x.image.length:Nat)).1
  have hh:=fun G=>hasCmd_s G x.kind
  obtain ⟨A,c,rfl,-⟩:=hi.openInt
  (refine v_enter Tryz.func93 rfl Tryz.ntmps93 rfl ?_;intro B _)
  repeat' (first|apply v_seq|apply v_region|apply v_nil|(apply v_pure;(case hop=>first|(apply p_assign <;> rfl)|(apply p_fieldAddrB <;> rfl)|fail);(case hd=>rfl))|(apply v_box (zs:=recL x.kind x.round x.node x.index x.cmd (.slice A x.image.length c));(case hx=>rfl);(case hz=>rfl);(case hd=>rfl);intro rb)|(apply v_read;(case hop=>(apply r_load1;rfl;(apply Cell.own;(case h=>(repeat (exact mhd _)));rfl)));(case hd=>rfl))|fail)
  refine v_call (μ1:=[]) (μ2:=_) rfl (rnum_s _ x.kind (by omega)) (List.Perm.refl _) rfl ?_
  rintro v0 G0 ν0 - ⟨rfl,ho0⟩
  repeat' (first|apply v_seq|apply v_region|apply v_nil|(apply v_pure;(case hop=>first|(apply p_move <;> rfl)|(apply p_assign <;> rfl)|(apply p_fieldAddrB <;> rfl)|fail);(case hd=>rfl))|(apply v_read;(case hop=>(apply r_load1;rfl;(apply Cell.own;(case h=>(repeat (first|exact mhd _|apply List.mem_append_right)));rfl)));(case hd=>rfl))|fail)
  refine v_call (μ1:=[]) (μ2:=_) rfl (rnum_s _ x.round (by omega)) (List.Perm.refl _) rfl ?_
  rintro r1 G1 μ1 - ⟨rfl,hg1⟩
  refine v_frz μ1 (by repeat (exact PickA.here _)) ?_
  intro H1 hle1 hG1
  have hs1:Sl H1 1 (IntR .u8) r1 (vbytes x.round):=hg1.ints hG1 (fun x hx=>vbytes_wf (by omega) x hx)
  have hsrc1:=fun μ=>Src.ints (μ:=μ) hs1
  obtain ⟨A1,c1,rfl,-,-⟩:=hg1.shape
  repeat' (fail)
  refine v_append (e:=5) (sz:=1) (zero:=.int .u8 0) rfl (by omega) rfl rfl ho0 (PickA.perm (by repeat (exact PickA.here _))) (hsrc1 _) (allOne_ints _) (by (try simp only [List.length_append,sbytes_length]);omega) (by simp only [maxLen];(try simp only [List.length_append,sbytes_length]);omega) rfl fun v1 ν1 ho1=>?_
  rw [← List.map_append,← List.length_append] at ho1
  repeat' (first|apply v_seq|apply v_region|apply v_nil|(apply v_pure;(case hop=>first|(apply p_move <;> rfl)|(apply p_assign <;> rfl)|(apply p_fieldAddrB <;> rfl)|fail);(case hd=>rfl))|(apply v_read;(case hop=>(apply r_load1;rfl;(apply Cell.own;(case h=>(repeat (first|exact mhd _|apply List.mem_append_right)));rfl)));(case hd=>rfl))|fail)
  refine v_call (μ1:=[]) (μ2:=_) rfl (rnum_s _ x.node (by omega)) (List.Perm.refl _) rfl ?_
  rintro r2 G2 μ2 - ⟨rfl,hg2⟩
  refine v_frz μ2 (by repeat (exact PickA.here _)) ?_
  intro H2 hle2 hG2
  have hs2:Sl H2 1 (IntR .u8) r2 (vbytes x.node):=hg2.ints hG2 (fun x hx=>vbytes_wf (by omega) x hx)
  have hsrc2:=fun μ=>Src.ints (μ:=μ) hs2
  obtain ⟨A2,c2,rfl,-,-⟩:=hg2.shape
  repeat' (fail)
  refine v_append (e:=5) (sz:=1) (zero:=.int .u8 0) rfl (by omega) rfl rfl ho1 (PickA.perm (by repeat (exact PickA.here _))) (hsrc2 _) (allOne_ints _) (by (try simp only [List.length_append,sbytes_length]);omega) (by simp only [maxLen];(try simp only [List.length_append,sbytes_length]);omega) rfl fun v2 ν2 ho2=>?_
  rw [← List.map_append,← List.length_append] at ho2
  repeat' (first|apply v_seq|apply v_region|apply v_nil|(apply v_pure;(case hop=>first|(apply p_move <;> rfl)|(apply p_assign <;> rfl)|(apply p_fieldAddrB <;> rfl)|fail);(case hd=>rfl))|(apply v_read;(case hop=>(apply r_load1;rfl;(apply Cell.own;(case h=>(repeat (first|exact mhd _|apply List.mem_append_right)));rfl)));(case hd=>rfl))|fail)
  refine v_call (μ1:=[]) (μ2:=_) rfl (rnum_s _ x.index (by omega)) (List.Perm.refl _) rfl ?_
  rintro r3 G3 μ3 - ⟨rfl,hg3⟩
  refine v_frz μ3 (by repeat (exact PickA.here _)) ?_
  intro H3 hle3 hG3
  have hs3:Sl H3 1 (IntR .u8) r3 (vbytes x.index):=hg3.ints hG3 (fun x hx=>vbytes_wf (by omega) x hx)
  have hsrc3:=fun μ=>Src.ints (μ:=μ) hs3
  obtain ⟨A3,c3,rfl,-,-⟩:=hg3.shape
  repeat' (fail)
  refine v_append (e:=5) (sz:=1) (zero:=.int .u8 0) rfl (by omega) rfl rfl ho2 (PickA.perm (by repeat (exact PickA.here _))) (hsrc3 _) (allOne_ints _) (by (try simp only [List.length_append,sbytes_length]);omega) (by simp only [maxLen];(try simp only [List.length_append,sbytes_length]);omega) rfl fun v3 ν3 ho3=>?_
  rw [← List.map_append,← List.length_append] at ho3
  repeat' (first|apply v_seq|apply v_region|apply v_nil|(apply v_pure;(case hop=>first|(apply p_assign <;> rfl)|(apply p_fieldAddrB <;> rfl)|fail);(case hd=>rfl))|(apply v_read;(case hop=>(apply r_load1;rfl;(apply Cell.own;(case h=>(repeat (first|exact mhd _|apply List.mem_append_right)));rfl)));(case hd=>rfl))|fail)
  have hi3:=((hi.mono hle1).mono hle2).mono hle3
  have hlh:∀ G',GH.le H3 G' → GH.le G1 G':=fun G' h b o q=>h b o (hle3 b o (hle2 b o (hle1 b o q)))
  have e0:vbytes x.kind ++ vbytes x.round ++ vbytes x.node ++ vbytes x.index = headL x:=by simp [headL]
  rw [e0] at ho3
  have hhl:=headL_len x
  obtain h|h|h|h:x.kind = 1 ∨ x.kind = 2 ∨ x.kind = 3 ∨ x.kind = 4:=by omega
  all_goals repeat' (first|apply v_seq|apply v_region|apply v_nil|apply v_skip|(apply v_pure;(case hop=>first|(apply p_move <;> rfl)|(apply p_eq <;> rfl)|(apply p_assign <;> rfl)|(apply p_lenSlice <;> rfl)|(apply p_fieldAddrB <;> rfl)|fail);(case hd=>rfl))|(apply v_cond;(case hc=>rfl);all_goals (intro h;(try simp only [reduceCtorEq,zzz] at h);first|(exfalso;omega)|skip))|(apply v_callJ (hs:=hh _);(case ha=>rfl);(case hd=>rfl))|(apply v_read;(case hop=>first|(apply r_loadNo;(case hx=>rfl);(case h=>(repeat (first|exact mhd _|apply List.mem_append_right)));(case hd=>(repeat (first|with_reducible exact dt_nil|apply dt_here)));(case hn=>rfl))|(apply r_load1;rfl;(apply Cell.own;(case h=>(repeat (first|exact mhd _|apply List.mem_append_right)));rfl))|fail);(case hd=>rfl))|fail)
  · refine v_ret ν3 (outsA1 rfl rfl) (by repeat (exact List.sublist_append_left _ _)) ?_
    rw [show encL x = headL x by rw [encL,if_neg (by omega),if_neg (by omega)]]
    exact ⟨hlh _ (GH.le_refl _),ho3⟩
  · refine v_call (μ1:=[]) (μ2:=_) rfl (rcmd_s _ x.cmd hc (by omega) (by omega) (by omega)) (List.Perm.refl _) rfl ?_
    rintro r4 G4 μ4 - ⟨hleR,hg4⟩
    refine v_frz μ4 (by repeat (exact PickA.here _)) ?_
    intro H4 hle4 hG4
    have hs4:Sl H4 1 (IntR .u8) r4 (vbytes x.cmd.kind ++ putL x.cmd 6):=hg4.ints hG4 (hcw)
    have hsrc4:=fun μ=>Src.ints (μ:=μ) hs4
    obtain ⟨A4,c4,rfl,-,-⟩:=hg4.shape
    repeat' (fail)
    refine v_append (e:=5) (sz:=1) (zero:=.int .u8 0) rfl (by omega) rfl rfl ho3 (PickA.perm (by repeat (exact PickA.here _))) (hsrc4 _) (allOne_ints _) (by (try simp only [List.length_append,sbytes_length]);omega) (by simp only [maxLen];(try simp only [List.length_append,sbytes_length]);omega) rfl fun v4 ν4 ho4=>?_
    rw [← List.map_append,← List.length_append] at ho4
    repeat' (first|apply v_seq|apply v_region|apply v_nil|apply v_skip|(apply v_pure;(case hop=>first|(apply p_move <;> rfl)|(apply p_eq <;> rfl)|(apply p_assign <;> rfl)|(apply p_fieldAddrB <;> rfl)|fail);(case hd=>rfl))|(apply v_cond;(case hc=>rfl);all_goals (intro h;(try simp only [reduceCtorEq,zzz] at h);first|(exfalso;omega)|skip))|(apply v_read;(case hop=>(apply r_load1;rfl;(apply Cell.own;(case h=>(repeat (first|exact mhd _|apply List.mem_append_right)));rfl)));(case hd=>rfl))|fail)
    refine v_ret ν4 (outsA1 rfl rfl) (by repeat (exact List.sublist_append_left _ _)) ?_
    rw [show encL x = headL x ++ (vbytes x.cmd.kind ++ putL x.cmd 6) by rw [encL,if_pos (by omega)];simp]
    exact ⟨hlh _ (fun b o q=>hle4 b o (hleR b o q)),by simpa using ho4⟩
  · refine v_call (μ1:=[]) (μ2:=_) rfl (rcmd_s _ x.cmd hc (by omega) (by omega) (by omega)) (List.Perm.refl _) rfl ?_
    rintro r4 G4 μ4 - ⟨hleR,hg4⟩
    refine v_frz μ4 (by repeat (exact PickA.here _)) ?_
    intro H4 hle4 hG4
    have hs4:Sl H4 1 (IntR .u8) r4 (vbytes x.cmd.kind ++ putL x.cmd 6):=hg4.ints hG4 (hcw)
    have hsrc4:=fun μ=>Src.ints (μ:=μ) hs4
    obtain ⟨A4,c4,rfl,-,-⟩:=hg4.shape
    repeat' (fail)
    refine v_append (e:=5) (sz:=1) (zero:=.int .u8 0) rfl (by omega) rfl rfl ho3 (PickA.perm (by repeat (exact PickA.here _))) (hsrc4 _) (allOne_ints _) (by (try simp only [List.length_append,sbytes_length]);omega) (by simp only [maxLen];(try simp only [List.length_append,sbytes_length]);omega) rfl fun v4 ν4 ho4=>?_
    rw [← List.map_append,← List.length_append] at ho4
    repeat' (first|apply v_seq|apply v_region|apply v_nil|apply v_skip|(apply v_pure;(case hop=>first|(apply p_move <;> rfl)|(apply p_eq <;> rfl)|(apply p_assign <;> rfl)|(apply p_fieldAddrB <;> rfl)|fail);(case hd=>rfl))|(apply v_cond;(case hc=>rfl);all_goals (intro h;(try simp only [reduceCtorEq,zzz] at h);first|(exfalso;omega)|skip))|(apply v_read;(case hop=>(apply r_load1;rfl;(apply Cell.own;(case h=>(repeat (first|exact mhd _|apply List.mem_append_right)));rfl)));(case hd=>rfl))|fail)
    refine v_ret ν4 (outsA1 rfl rfl) (by repeat (exact List.sublist_append_left _ _)) ?_
    rw [show encL x = headL x ++ (vbytes x.cmd.kind ++ putL x.cmd 6) by rw [encL,if_pos (by omega)];simp]
    exact ⟨hlh _ (fun b o q=>hle4 b o (hleR b o q)),by simpa using ho4⟩
  · refine v_call (μ1:=[]) (μ2:=_) rfl (rnum_s _ (x.image.length:Nat) (by omega)) (List.Perm.refl _) rfl ?_
    rintro r4 G4 μ4 - ⟨rfl,hg4⟩
    refine v_frz μ4 (by repeat (exact PickA.here _)) ?_
    intro H4 hle4 hG4
    have hs4:Sl H4 1 (IntR .u8) r4 (vbytes x.image.length):=hg4.ints hG4 (fun x hx=>vbytes_wf (by omega) x hx)
    have hsrc4:=fun μ=>Src.ints (μ:=μ) hs4
    obtain ⟨A4,c4,rfl,-,-⟩:=hg4.shape
    repeat' (fail)
    refine v_append (e:=5) (sz:=1) (zero:=.int .u8 0) rfl (by omega) rfl rfl ho3 (PickA.perm (by repeat (exact PickA.here _))) (hsrc4 _) (allOne_ints _) (by (try simp only [List.length_append,sbytes_length]);omega) (by simp only [maxLen];(try simp only [List.length_append,sbytes_length]);omega) rfl fun v4 ν4 ho4=>?_
    rw [← List.map_append,← List.length_append] at ho4
    repeat' (first|apply v_region|apply v_nil|(apply v_pure;(case hop=>first|(apply p_move <;> rfl)|(apply p_assign <;> rfl)|(apply p_fieldAddrB <;> rfl)|fail);(case hd=>rfl))|(apply v_read;(case hop=>(apply r_load1;rfl;(apply Cell.own;(case h=>(repeat (first|exact mhd _|apply List.mem_append_right)));rfl)));(case hd=>rfl))|fail)
    have hsi:=fun μ=>Src.ints (μ:=μ) (hi3.mono hle4)
    refine v_append (e:=5) (sz:=1) (zero:=.int .u8 0) rfl (by omega) rfl rfl ho4 (PickA.perm (by repeat (exact PickA.here _))) (hsi _) (allOne_ints _) (by (try simp only [List.length_append,sbytes_length]);omega) (by simp only [maxLen];(try simp only [List.length_append,sbytes_length]);omega) rfl fun v5 ν5 ho5=>?_
    rw [← List.map_append,← List.length_append] at ho5
    repeat' (first|apply v_seq|apply v_region|apply v_nil|(apply v_pure;(case hop=>first|(apply p_move <;> rfl)|(apply p_assign <;> rfl)|fail);(case hd=>rfl))|fail)
    refine v_ret ν5 (outsA1 rfl rfl) (by repeat (exact List.sublist_append_left _ _)) ?_
    rw [show encL x = headL x ++ vbytes x.image.length ++ x.image by rw [encL,if_neg (by omega),if_pos (by omega)]]
    exact ⟨hlh _ hle4,ho5⟩
def decX (s:Option (List Int)):Rc :=
  if nV s = 2 ∨ nV s = 3 then ⟨nV s,nV (nS s),nV (nS (nS s)),nV (nS (nS (nS s))),(getK (nS (nS (nS (nS s)))) 6).1,[]⟩
  else if nV s = 4 then ⟨nV s,nV (nS s),nV (nS (nS s)),nV (nS (nS (nS s))),zeroC,rawB 32768 (nS (nS (nS (nS s))))⟩
  else ⟨nV s,nV (nS s),nV (nS (nS s)),nV (nS (nS (nS s))),zeroC,[]⟩
def decS (s:Option (List Int)):Option (List Int) :=
  if nV s = 2 ∨ nV s = 3 then (getK (nS (nS (nS (nS s)))) 6).2
  else if nV s = 4 then rawS 32768 (nS (nS (nS (nS s))))
  else nS (nS (nS (nS s)))
theorem decX_ok {s:Option (List Int)} (h:byteS s):(decX s).cmd.ok:=by
  have h4:=numS_b (numS_b (numS_b (numS_b h 9223372036854775807) 9223372036854775807) 9223372036854775807) 9223372036854775807
  unfold decX
  split
  · exact (getW_ok _ h4 6).1
  · split <;> exact zeroC_ok
theorem older0 {x:Rc} (h:olderI x = 0):recI x.kind x.round x.node x.index x.cmd x.image.length = 0 ∧ ((x.kind = 2 ∨ x.kind = 3) → HasV 1 x.cmd.kind):=by
  unfold olderI at h
  by_cases h0:recI x.kind x.round x.node x.index x.cmd x.image.length = 0
  · rw [if_neg (by rw [h0];decide)] at h
    obtain ⟨h1,-⟩:=ite0 (by decide) h
    refine ⟨h0,fun hk=>?_⟩
    exact Decidable.not_not.1 fun hn=>h1 ⟨hk,hn⟩
  · rw [if_pos h0] at h;exact absurd h h0
theorem dec_enc {x:Rc} (h:olderI x = 0) (hl:¬ x.large):decX (some (encL x)) = x ∧ decS (some (encL x)) = some []:=by
  obtain ⟨h0,hv⟩:=older0 h
  obtain ⟨hk,hr,hi,hc,ho⟩:=rec0 h0
  unfold Rc.large at hl
  obtain ⟨k,r,n,i,c,im⟩:=x
  simp only at hk hr hi hc ho hv hl
  unfold ranP mayP at hr
  have hcz:¬ (k = 2 ∨ k = 3) → c = zeroCm:=fun hh=>Decidable.not_not.1 fun hn=>ho (.inr (.inr (.inl ⟨hh,hn⟩)))
  have hr0:0 ≤ r ∧ r ≤ 4294967296:=by unfold othP at ho;omega
  have hn0:0 ≤ n ∧ n ≤ 9:=by unfold othP at ho;omega
  have hi0:0 ≤ i ∧ i ≤ 4294967296:=by unfold othP at ho;omega
  have him:k ≠ 4 → im = []:=fun hh=>by
    have:im.length = 0:=by unfold othP at ho;omega
    exact List.eq_nil_of_length_eq_zero this
  have q1:=fun t=>num_v (m:=k) t (by omega) (by omega)
  have q2:=fun t=>num_v (m:=r) t (by omega) (by omega)
  have q3:=fun t=>num_v (m:=n) t (by omega) (by omega)
  have q4:=fun t=>num_v (m:=i) t (by omega) (by omega)
  by_cases h23:k = 2 ∨ k = 3
  · have e:encL ⟨k,r,n,i,c,im⟩ = vbytes k ++ (vbytes r ++ (vbytes n ++ (vbytes i ++ (vbytes c.kind ++ putW (wantB 1 c.kind) c 6 ++ [])))):=by
      rw [encL,if_pos h23];simp [headL,putL]
    obtain ⟨c1,c2,c3,c4,c5⟩:=cmd0 (hc h23)
    have c6:=hv h23
    unfold HasV at c6
    have qk:=getV_put (v:=1) (c:=c) (hc h23) (.inl ⟨rfl,by omega⟩) (by omega) []
    rw [e]
    unfold decX decS
    simp only [q1,q2,q3,q4,qk]
    rw [if_pos h23,if_pos h23,him (by omega)]
    exact ⟨rfl,rfl⟩
  · rw [hcz h23]
    by_cases h4:k = 4
    · have e:encL ⟨k,r,n,i,zeroCm,im⟩ = vbytes k ++ (vbytes r ++ (vbytes n ++ (vbytes i ++ (vbytes im.length ++ im ++ [])))):=by
        rw [encL,if_neg h23,if_pos h4];simp [headL]
      have qk:=raw_v (most:=32768) im [] (by omega) (by omega)
      rw [e]
      unfold decX decS
      simp only [q1,q2,q3,q4,qk]
      rw [if_neg h23,if_pos h4,if_neg h23,if_pos h4]
      exact ⟨rfl,rfl⟩
    · have e:encL ⟨k,r,n,i,zeroCm,im⟩ = vbytes k ++ (vbytes r ++ (vbytes n ++ (vbytes i ++ []))):=by
        rw [encL,if_neg h23,if_neg h4];simp [headL]
      rw [e]
      unfold decX decS
      simp only [q1,q2,q3,q4]
      rw [if_neg h23,if_neg h4,if_neg h23,if_neg h4,him h4]
      exact ⟨rfl,rfl⟩
theorem walkL_tail (x:Rc):walkL x.kind (vbytes x.round ++ vbytes x.node) (vbytes x.index) (vbytes x.cmd.kind ++ putW (wantB 2 x.cmd.kind) x.cmd 6) (vbytes x.image.length ++ x.image) = tailT x:=rfl
theorem tailT_len {x:Rc} (h:x.fits):(tailT x).length ≤ 40000:=by
  unfold Rc.fits at h
  have h1:=(vbytes_len x.round).1
  have h2:=(vbytes_len x.node).1
  have h3:=(vbytes_len x.index).1
  have h4:=(vbytes_len x.cmd.kind).1
  have h5:=putW_len (wantB 2 x.cmd.kind) x.cmd (by omega) (by omega) (by omega) 6
  have h6:=(vbytes_len (x.image.length:Nat)).1
  have hif:∀ (p:Prop) [Decidable p] (a b:List Int) (m:Nat),a.length ≤ m → b.length ≤ m → (if p then a else b).length ≤ m:=fun p _ a b m ha hb=>by split <;> assumption
  unfold tailT
  rw [List.length_append,List.length_append,List.length_append]
  have e1:=hif (x.kind = 1 ∨ x.kind = 2) (vbytes x.round ++ vbytes x.node) [] 22 (by rw [List.length_append];omega) (by simp)
  have e2:=hif (x.kind = 1) [] (vbytes x.index) 11 (by simp) (by omega)
  have e3:=hif (x.kind = 2 ∨ x.kind = 3) (vbytes x.cmd.kind ++ putW (wantB 2 x.cmd.kind) x.cmd 6) [] 6077 (by rw [List.length_append];omega) (by simp)
  have e4:=hif (x.kind = 4) (vbytes x.image.length ++ x.image) [] 32791 (by rw [List.length_append];omega) (by simp)
  omega
def EncT (x:Rc) (r:Value) (G':GH) (μ':OH):Prop:=μ' = [] ∧ ∃ v,r = .tuple [v,.int .i64 (chkI x)].toArray ∧ Sl G' 1 (IntR .u8) v (if chkI x = 0 then encT x else [])
theorem encodeT_s {G:GH} (hT:TabsG G) {x:Rc} {xv:Value} (hx:RcV G x xv) (hc:x.cmd.ok):Con Tryz.prog 98 #[xv] G [] (EncT x):=by
  obtain ⟨iv,rfl,hi⟩:=hx
  obtain ⟨A,cp,rfl,hlc,hcm,-⟩:=id hi.openInt
  simp only [maxLen] at hcm
  have qc:=recCheck_s hT x.kind x.round x.node x.index x.cmd hc A x.image.length cp (by omega)
  unfold EncT
  by_cases h0:chkI x = 0
  rotate_left
  · rw [if_neg h0]
    unfold chkI at h0 ⊢
    generalize recI x.kind x.round x.node x.index x.cmd x.image.length = o at *
    (refine v_enter Tryz.func98 rfl Tryz.ntmps98 rfl ?_;intro B _)
    repeat' (first|apply v_seq|apply v_region|apply v_nil|(apply v_pure;(case hop=>first|(apply p_move <;> rfl)|(apply p_ne <;> rfl)|(apply p_assign <;> rfl)|fail);(case hd=>rfl))|(apply v_cond;(case hc=>rfl);all_goals (intro h;(try simp only [reduceCtorEq,zzz] at h);first|(exfalso;omega)|skip))|(apply v_box (zs:=recL x.kind x.round x.node x.index x.cmd (.slice A x.image.length cp));(case hx=>rfl);(case hz=>rfl);(case hd=>rfl);intro xb)|(apply v_callJ (hs:=qc);(case ha=>rfl);(case hd=>rfl))|(apply v_read;(case hop=>(apply r_loadNo;(case hx=>rfl);(case h=>(repeat (exact mhd _)));(case hd=>(repeat (first|with_reducible exact dt_nil|apply dt_here)));(case hn=>rfl)));(case hd=>rfl))|fail)
    refine v_ret [] (outsA2 rfl rfl rfl) (by repeat (exact List.nil_sublist _)) ?_
    exact ⟨rfl,_,rfl,Sl.nil⟩
  · rw [if_pos h0]
    have h0':recI x.kind x.round x.node x.index x.cmd x.image.length = 0:=h0
    have hf:=fits0 h0'
    obtain ⟨hfit,hsm,him,hsz⟩:=hf
    have hk:=(rec0 h0').1
    have htl:=tailT_len hfit
    unfold Rc.small at hsm
    rw [h0'] at qc
    rw [h0]
    (refine v_enter Tryz.func98 rfl Tryz.ntmps98 rfl ?_;intro B _)
    repeat' (first|apply v_seq|apply v_region|apply v_nil|apply v_skip|(apply v_pure;(case hop=>first|(apply p_move <;> rfl)|(apply p_nes <;> rfl)|(apply p_assign <;> rfl)|(apply p_fieldAddrB <;> rfl)|(apply p_add;(case hx=>rfl);(case hy=>rfl);(case h=>omega))|(apply p_build;(case hz=>rfl);(case hv=>(simp only [List.map_cons,List.map_nil];repeat (with_reducible exact evs_nil)));(case hb=>(apply bldL;repeat (exact bld_nil))))|fail);(case hd=>rfl))|(apply v_condF;(case hc=>rfl))|(apply v_box (zs:=recL x.kind x.round x.node x.index x.cmd (.slice A x.image.length cp));(case hx=>rfl);(case hz=>rfl);(case hd=>rfl);intro xb)|(apply v_box (zs:=[.slice none 0 0]);(case hx=>rfl);(case hz=>rfl);(case hd=>rfl);intro wb)|(apply v_callJ (hs:=qc);(case ha=>rfl);(case hd=>rfl))|(apply v_read;(case hop=>first|(apply r_loadNo;(case hx=>rfl);(case h=>(repeat (exact mhd _)));(case hd=>(repeat (first|with_reducible exact dt_nil|apply dt_here)));(case hn=>rfl))|(apply r_load1;rfl;(apply Cell.own;(case h=>(repeat (first|exact mhd _|apply mtl)));rfl))|fail);(case hd=>rfl))|(apply v_alloc;(case hz=>rfl);(case hd=>rfl);intro b)|(apply v_store;(case hp=>rfl);(case hx=>rfl);(case hc=>rfl);(case hsz=>rfl);(case h1=>rfl);(case hb=>(repeat (exact mhd _)));(case hfit=>exact nle rfl);(case hov=>((repeat (first|with_reducible exact ov_nil|apply ov_cons));done));(case hu=>repeat (exact Upd.here _ _)))|fail)
    rename Nat=>pb
    refine v_call (μ1:=[(wb,_)]) (μ2:=_) rfl (wnumber_s wb (x.kind + 16) Sl.nil (by simp) (by omega)) (PickA.perm (by repeat (first|exact PickA.here _|apply PickA.cons))) rfl ?_
    rintro r1 G1 _ hle1 ⟨v1,rfl,s1⟩
    repeat' (first|apply v_seq|apply v_region|apply v_nil|(apply v_pure;(case hop=>first|(apply p_fieldAddrB <;> rfl)|(apply p_makeFunc <;> rfl)|fail);(case hd=>rfl))|(apply v_read;(case hop=>(apply r_load1;rfl;(apply Cell.own;(case h=>(repeat (first|exact mhd _|apply mtl)));rfl)));(case hd=>rfl))|fail)
    have e1:=enc1_s G wb pb xb x.kind x.round x.node x.index x.cmd (.slice A x.image.length cp) (by omega) (by omega)
    have e2:=enc2_s G wb pb xb x.kind x.round x.node x.index x.cmd (.slice A x.image.length cp) (by omega)
    have e3:=enc3_s G wb pb xb x.kind x.round x.node x.index x.cmd (.slice A x.image.length cp) hc (by omega) (by omega) (by omega)
    have e4:=enc4_s wb pb xb x.kind x.round x.node x.index x.cmd hi (by omega)
    have qk:=walkW_s (k:=x.kind) (by omega) e1 e2 e3 e4 (by have:=(vbytes_len x.round).1;have:=(vbytes_len x.node).1;rw [List.length_append];omega) (by have:=(vbytes_len x.index).1;omega) (by have:=(vbytes_len x.cmd.kind).1;have:=putW_len (wantB 2 x.cmd.kind) x.cmd (by omega) (by omega) (by omega) 6;rw [List.length_append];omega) hle1 s1 (by have:=(vbytes_len (x.kind + 16)).1;simp;omega)
    rw [walkL_tail] at qk
    refine v_call (μ1:=twoW wb pb xb v1 x.kind x.round x.node x.index x.cmd (.slice A x.image.length cp)) (μ2:=[]) rfl qk (by apply perm_of_count;intro p;simp only [List.append_eq,List.countP_append,List.countP_cons,List.countP_nil,Nat.zero_add,Nat.add_zero];try ac_rfl) rfl ?_
    rintro r2 G2 _ hle2 ⟨v2,rfl,s2⟩
    repeat' (first|apply v_seq|apply v_region|apply v_nil|(apply v_read;(case hop=>(apply r_load1;rfl;(apply Cell.own;(case h=>(repeat (first|exact mhd _|apply mtl)));rfl)));(case hd=>rfl))|fail)
    refine v_call (μ1:=[(wb,_)]) (μ2:=_) rfl (wbytes_s wb s2 (by have:=(vbytes_len (x.kind + 16)).1;rw [List.length_append,List.length_append];simp;omega)) (PickA.perm (by repeat (exact PickA.here _))) rfl ?_
    rintro r3 G3 _ hle3 ⟨rfl,s3⟩
    repeat' (first|apply v_nil|(apply v_pure;(case hop=>(apply p_assign <;> rfl));(case hd=>rfl))|fail)
    refine v_ret [] (outsA2 rfl rfl rfl) (by repeat (exact List.nil_sublist _)) ?_
    exact ⟨rfl,_,rfl,s3⟩
def zeroRc:Rc:=⟨0,0,0,0,zeroC,[]⟩
def zeroRL:List Value:=recL 0 0 0 0 zeroC (.slice none 0 0)
def decOk (s:Option (List Int)):Prop:=decS s = some [] ∧ (1 ≤ nV s ∧ nV s ≤ 4) ∧ olderI (decX s) = 0
def DecR (s:Option (List Int)) (r:Value) (G':GH) (μ':OH):Prop:=μ' = [] ∧ ∃ x v e,r = .tuple [v,.int .i64 e].toArray ∧ RcV G' x v ∧ ((decOk s ∧ x = decX s ∧ e = 0) ∨ (¬ decOk s ∧ x = zeroRc ∧ e ≠ 0))
set_option maxHeartbeats 4000000 in
theorem rdecode_s {G:GH} (hT:TabsG G) {l:List Int} {bv:Value} (hs:Sl G 1 (IntR .u8) bv l) (hl:l.length ≤ 1048000):Con Tryz.prog 151 #[bv] G [] (DecR (some l)):=by
  have hby:byteS (some l):=fun r hr x hx=>by cases hr;exact sl_byte hs x hx
  have hok:=decX_ok hby
  have hb4:byteS (numS 9223372036854775807 (numS 9223372036854775807 (numS 9223372036854775807 (numS 9223372036854775807 (some l))))):=numS_b (numS_b (numS_b (numS_b hby _) _) _) _
  have eX:decX (some l) = if numV 9223372036854775807 (some l) = 2 ∨ numV 9223372036854775807 (some l) = 3 then ⟨numV 9223372036854775807 (some l),numV 9223372036854775807 (numS 9223372036854775807 (some l)),numV 9223372036854775807 (numS 9223372036854775807 (numS 9223372036854775807 (some l))),numV 9223372036854775807 (numS 9223372036854775807 (numS 9223372036854775807 (numS 9223372036854775807 (some l)))),(getK (numS 9223372036854775807 (numS 9223372036854775807 (numS 9223372036854775807 (numS 9223372036854775807 (some l))))) 6).1,[]⟩ else if numV 9223372036854775807 (some l) = 4 then ⟨numV 9223372036854775807 (some l),numV 9223372036854775807 (numS 9223372036854775807 (some l)),numV 9223372036854775807 (numS 9223372036854775807 (numS 9223372036854775807 (some l))),numV 9223372036854775807 (numS 9223372036854775807 (numS 9223372036854775807 (numS 9223372036854775807 (some l)))),zeroC,rawB 32768 (numS 9223372036854775807 (numS 9223372036854775807 (numS 9223372036854775807 (numS 9223372036854775807 (some l)))))⟩ else ⟨numV 9223372036854775807 (some l),numV 9223372036854775807 (numS 9223372036854775807 (some l)),numV 9223372036854775807 (numS 9223372036854775807 (numS 9223372036854775807 (some l))),numV 9223372036854775807 (numS 9223372036854775807 (numS 9223372036854775807 (numS 9223372036854775807 (some l)))),zeroC,[]⟩:=rfl
  have eS:decS (some l) = if numV 9223372036854775807 (some l) = 2 ∨ numV 9223372036854775807 (some l) = 3 then (getK (numS 9223372036854775807 (numS 9223372036854775807 (numS 9223372036854775807 (numS 9223372036854775807 (some l))))) 6).2 else if numV 9223372036854775807 (some l) = 4 then rawS 32768 (numS 9223372036854775807 (numS 9223372036854775807 (numS 9223372036854775807 (numS 9223372036854775807 (some l))))) else numS 9223372036854775807 (numS 9223372036854775807 (numS 9223372036854775807 (numS 9223372036854775807 (some l)))):=rfl
  have eO:decOk (some l) ↔ (decS (some l) = some [] ∧ (1 ≤ numV 9223372036854775807 (some l) ∧ numV 9223372036854775807 (some l) ≤ 4) ∧ olderI (decX (some l)) = 0):=Iff.rfl
  unfold DecR
  generalize decX (some l) = X at *
  generalize decS (some l) = S at *
  generalize decOk (some l) = OK at *
  (refine v_enter Tryz.func151 rfl Tryz.ntmps151 rfl ?_;intro B _)
  repeat' (first|apply v_seq|apply v_region|apply v_nil|(apply v_pure;(case hop=>first|(apply p_move <;> rfl)|(apply p_assign <;> rfl)|fail);(case hd=>rfl))|(apply v_alloc;(case hz=>rfl);(case hd=>rfl);intro b)|fail)
  refine v_call (μ1:=[]) (μ2:=_) rfl (newReader_s hs hl) (List.Perm.refl _) rfl ?_
  rintro _ G1 _ - ⟨hle1,rb,bv1,rfl,rfl,hs1⟩
  have hr0:RdS l 0 0 (some l):=⟨by omega,.inr ⟨by simp,rfl⟩⟩
  repeat' (first|apply v_seq|apply v_region|apply v_nil|(apply v_pure;(case hop=>first|(apply p_move <;> rfl)|(apply p_assign <;> rfl)|fail);(case hd=>rfl))|fail)
  refine v_call (μ1:=[(rb,_)]) (μ2:=_) rfl (rdNumber_s rb _ _ 9223372036854775807 hs1 (by omega) hr0) (PickA.perm (by repeat (exact PickA.here _))) rfl ?_
  rintro _ _ _ - ⟨rfl,rfl,a1,no1,rfl,hr1⟩
  repeat' (first|apply v_seq|apply v_region|apply v_nil|(apply v_pure;(case hop=>first|(apply p_move <;> rfl)|(apply p_build;(case hz=>rfl);(case hv=>(simp only [List.map_cons,List.map_nil];repeat (first|with_reducible exact evs_nil|(apply evs_cons;(case h1=>rfl)))));(case hb=>(apply bldL;repeat (first|exact bld_nil|(apply bld_cons;(case hpf=>rfl);(case hc=>rfl);(case hs=>rfl);(case hl=>rfl);(case ho=>((repeat (first|with_reducible exact ov_nil|apply ov_cons));done)))))))|fail);(case hd=>rfl))|(apply v_alloc;(case hz=>rfl);(case hd=>rfl);intro b)|(apply v_store;(case hp=>rfl);(case hx=>rfl);(case hc=>rfl);(case hsz=>rfl);(case h1=>rfl);(case hb=>(repeat (exact mhd _)));(case hfit=>exact nle rfl);(case hov=>((repeat (first|with_reducible exact ov_nil|apply ov_cons));done));(case hu=>repeat (exact Upd.here _ _)))|fail)
  refine v_call (μ1:=[(rb,_)]) (μ2:=_) rfl (rdNumber_s rb _ _ 9223372036854775807 hs1 (by omega) hr1) (PickA.perm (by repeat (first|exact PickA.here _|apply PickA.cons))) rfl ?_
  rintro _ _ _ - ⟨rfl,rfl,a2,no2,rfl,hr2⟩
  repeat' (first|apply v_seq|apply v_region|apply v_nil|(apply v_pure;(case hop=>first|(apply p_move <;> rfl)|(apply p_fieldAddrB <;> rfl)|fail);(case hd=>rfl))|(apply v_store;(case hp=>rfl);(case hx=>rfl);(case hc=>rfl);(case hsz=>rfl);(case h1=>rfl);(case hb=>(repeat (first|exact mhd _|apply mtl)));(case hfit=>exact nle rfl);(case hov=>((repeat (first|with_reducible exact ov_nil|apply ov_cons));done));(case hu=>repeat (first|exact Upd.here _ _|apply Upd.there)))|fail)
  refine v_call (μ1:=[(rb,_)]) (μ2:=_) rfl (rdNumber_s rb _ _ 9223372036854775807 hs1 (by omega) hr2) (PickA.perm (by repeat (exact PickA.here _))) rfl ?_
  rintro _ _ _ - ⟨rfl,rfl,a3,no3,rfl,hr3⟩
  repeat' (first|apply v_seq|apply v_region|apply v_nil|(apply v_pure;(case hop=>first|(apply p_move <;> rfl)|(apply p_fieldAddrB <;> rfl)|fail);(case hd=>rfl))|(apply v_store;(case hp=>rfl);(case hx=>rfl);(case hc=>rfl);(case hsz=>rfl);(case h1=>rfl);(case hb=>(repeat (first|exact mhd _|apply mtl)));(case hfit=>exact nle rfl);(case hov=>((repeat (first|with_reducible exact ov_nil|apply ov_cons));done));(case hu=>repeat (first|exact Upd.here _ _|apply Upd.there)))|fail)
  refine v_call (μ1:=[(rb,_)]) (μ2:=_) rfl (rdNumber_s rb _ _ 9223372036854775807 hs1 (by omega) hr3) (PickA.perm (by repeat (exact PickA.here _))) rfl ?_
  rintro _ _ _ - ⟨rfl,rfl,a4,no4,rfl,hr4⟩
  repeat' (first|apply v_seq|apply v_region|apply v_nil|(apply v_pure;(case hop=>(apply p_fieldAddrB <;> rfl));(case hd=>rfl))|(apply v_read;(case hop=>(apply r_load1;rfl;(apply Cell.own;(case h=>(repeat (first|exact mhd _|apply mtl)));rfl)));(case hd=>rfl))|(apply v_store;(case hp=>rfl);(case hx=>rfl);(case hc=>rfl);(case hsz=>rfl);(case h1=>rfl);(case hb=>(repeat (first|exact mhd _|apply mtl)));(case hfit=>exact nle rfl);(case hov=>((repeat (first|with_reducible exact ov_nil|apply ov_cons));done));(case hu=>repeat (first|exact Upd.here _ _|apply Upd.there)))|fail)
  clear hr0 hr1 hr2 hr3
  generalize numS 9223372036854775807 (numS 9223372036854775807 (numS 9223372036854775807 (numS 9223372036854775807 (some l)))) = s4 at *
  generalize numV 9223372036854775807 (numS 9223372036854775807 (numS 9223372036854775807 (numS 9223372036854775807 (some l)))) = ix at *
  generalize numV 9223372036854775807 (numS 9223372036854775807 (numS 9223372036854775807 (some l))) = nd at *
  generalize numV 9223372036854775807 (numS 9223372036854775807 (some l)) = rd at *
  generalize numV 9223372036854775807 (some l) = kd at *
  have qf:=fun G=>rfields_s G kd
  have qe:=fun G no a=>rerr_s G rb bv1 a no
  by_cases h23:kd = 2 ∨ kd = 3
  · rw [if_pos h23] at eX eS
    have e:hasL kd = [.bool (decide (kd = 2)),.bool true,.bool true,.bool false]:=by
      obtain rfl|rfl:=h23 <;> rfl
    simp only [e,decide_eq_true (show 1 ≤ kd ∧ kd ≤ 4 by omega)] at qf
    repeat' (first|apply v_seq|apply v_region|apply v_nil|(apply v_pure;(case hop=>first|(apply p_move <;> rfl)|(apply p_assign <;> rfl)|(apply p_fieldAddrB <;> rfl)|(apply p_extract0 <;> rfl)|(apply p_extract1 <;> rfl)|fail);(case hd=>rfl))|(apply v_condT;(case hc=>rfl))|(apply v_callJ (hs:=qf _);(case ha=>rfl);(case hd=>rfl))|(apply v_read;(case hop=>(apply r_load1;rfl;(apply Cell.own;(case h=>(repeat (exact mhd _)));rfl)));(case hd=>rfl))|(apply v_alloc;(case hz=>rfl);(case hd=>rfl);intro b)|(apply v_store;(case hp=>rfl);(case hx=>rfl);(case hc=>rfl);(case hsz=>rfl);(case h1=>rfl);(case hb=>(repeat (exact mhd _)));(case hfit=>exact nle rfl);(case hov=>((repeat (first|with_reducible exact ov_nil|apply ov_cons));done));(case hu=>repeat (exact Upd.here _ _)))|fail)
    refine v_call (μ1:=[(rb,_)]) (μ2:=_) rfl (cgetV_s 1 rb _ _ hs1 (by omega) hr4) (PickA.perm (by repeat (first|exact PickA.here _|apply PickA.cons))) rfl ?_
    rintro _ G2 _ hle2 ⟨rfl,a5,no5,rfl,hr5⟩
    have qo:=older_s (x:=X) (xv:=.agg (recL kd rd nd ix (getK s4 6).1 (.slice none 0 0)).toArray) (hT.le (GH.le_trans hle1 hle2)) (by rw [eX];exact ⟨_,rfl,Sl.nil⟩) hok
    generalize olderI X = o at *
    repeat' (first|apply v_seq|apply v_region|apply v_nil|apply v_skip|(apply v_take;(case hg=>rfl))|(apply v_pass;(case hg=>rfl);(case hn=>rfl);(case hd=>rfl))|(apply v_pure;(case hop=>first|(apply p_move <;> rfl)|(apply p_eq <;> rfl)|(apply p_ne <;> rfl)|(apply p_assign <;> rfl)|(apply p_pickT <;> rfl)|(apply p_pickF <;> rfl)|(apply p_not <;> rfl)|(apply p_fieldAddrB <;> rfl)|(apply p_build;(case hz=>rfl);(case hv=>(simp only [List.map_cons,List.map_nil];repeat (with_reducible exact evs_nil)));(case hb=>(apply bldL;repeat (exact bld_nil))))|fail);(case hd=>rfl))|(apply v_condF;(case hc=>rfl))|(apply v_cond;(case hc=>rfl);all_goals (intro h;(try simp only [reduceCtorEq,zzz] at h);first|(exfalso;omega)|skip))|(apply v_guardB;(case h1=>rfl);(case h2=>rfl);all_goals (intro h;(try simp only [reduceCtorEq,zzz] at h)))|(apply v_callK (hs:=qe _ _ _);(case ha=>rfl);(case hp=>exact (Pick.perm (by repeat (exact Pick.here _))));(case hd=>rfl))|(apply v_read;(case hop=>(apply r_load1;rfl;(apply Cell.own;(case h=>(repeat (first|exact mhd _|apply mtl)));rfl)));(case hd=>rfl))|(apply v_store;(case hp=>rfl);(case hx=>rfl);(case hc=>rfl);(case hsz=>rfl);(case h1=>rfl);(case hb=>(repeat (first|exact mhd _|apply mtl)));(case hfit=>exact nle rfl);(case hov=>((repeat (first|with_reducible exact ov_nil|apply ov_cons));done));(case hu=>repeat (first|exact Upd.here _ _|apply Upd.there)))|fail)
    · refine v_call (μ1:=[(rb,_)]) (μ2:=_) rfl (rdDone_s rb _ _ (hs1.mono hle2) (by omega) hr5) (PickA.perm (by repeat (exact PickA.here _))) rfl ?_
      rintro _ _ _ - ⟨rfl,⟨ed,rfl,hed⟩,rfl⟩
      repeat' (first|apply v_seq|apply v_region|apply v_nil|apply v_skip|(apply v_pure;(case hop=>first|(apply p_move <;> rfl)|(apply p_eq <;> rfl)|(apply p_ne <;> rfl)|(apply p_assign <;> rfl)|(apply p_build;(case hz=>rfl);(case hv=>(simp only [List.map_cons,List.map_nil];repeat (with_reducible exact evs_nil)));(case hb=>(apply bldL;repeat (exact bld_nil))))|fail);(case hd=>rfl))|(apply v_cond;(case hc=>rfl);all_goals (intro h;(try simp only [reduceCtorEq,zzz] at h);first|(exfalso;omega)|skip))|(apply v_callJ (hs:=qo);(case ha=>rfl);(case hd=>rfl))|(apply v_read;(case hop=>(apply r_loadNo;(case hx=>rfl);(case h=>(repeat (first|exact mhd _|apply mtl)));(case hd=>(repeat (first|with_reducible exact dt_nil|apply dt_here)));(case hn=>rfl)));(case hd=>rfl))|(apply v_store;(case hp=>rfl);(case hx=>rfl);(case hc=>rfl);(case hsz=>rfl);(case h1=>rfl);(case hb=>(repeat (first|exact mhd _|apply mtl)));(case hfit=>exact nle rfl);(case hov=>((repeat (first|with_reducible exact ov_nil|apply ov_cons));done));(case hu=>repeat (first|exact Upd.here _ _|apply Upd.there)))|fail)
      · refine v_retM [] (outsM_cell_tmp (vs:=zeroRL) (e:=42) rfl rfl rfl (by repeat (first|exact mhd _|apply mtl)) rfl) (by repeat (exact List.nil_sublist _)) ?_
        exact ⟨rfl,_,_,_,rfl,⟨_,rfl,Sl.nil⟩,.inr ⟨fun hh=>absurd (eO.1 hh).2.2 ‹_›,rfl,‹_›⟩⟩
      · refine v_retM [] (outsM_cell_tmp (vs:=recL kd rd nd ix (getK s4 6).1 (.slice none 0 0)) (e:=42) rfl rfl rfl (by repeat (first|exact mhd _|apply mtl)) rfl) (by repeat (exact List.nil_sublist _)) ?_
        exact ⟨rfl,_,_,_,rfl,⟨_,rfl,Sl.nil⟩,.inl ⟨eO.2 ⟨by rw [eS];exact hed.1 ‹_›,by omega,‹_›⟩,eX.symm,rfl⟩⟩
      · refine v_retM [] (outsM_cell_tmp (vs:=zeroRL) (e:=42) rfl rfl rfl (by repeat (first|exact mhd _|apply mtl)) rfl) (by repeat (exact List.nil_sublist _)) ?_
        exact ⟨rfl,_,_,_,rfl,⟨_,rfl,Sl.nil⟩,.inr ⟨fun hh=>absurd (hed.2 (by rw [← eS];exact (eO.1 hh).1)) ‹_›,rfl,‹_›⟩⟩
    · refine v_retM [] (outsM_cell_tmp (vs:=zeroRL) (e:=42) rfl rfl rfl (by repeat (first|exact mhd _|apply mtl)) rfl) (by repeat (exact List.nil_sublist _)) ?_
      refine ⟨rfl,_,_,_,rfl,⟨_,rfl,Sl.nil⟩,.inr ⟨fun hh=>?_,rfl,‹_›⟩⟩
      have h1:=(eO.1 hh).1
      rw [eS] at h1
      obtain ⟨-,⟨h2,-⟩|⟨-,h2⟩⟩:=hr5
      · rw [h2] at h1;cases h1
      · exact absurd h2 ‹_›
  · rw [if_neg h23] at eX eS
    by_cases h4:kd = 4
    · rw [if_pos h4] at eX eS
      have e:hasL kd = [.bool false,.bool true,.bool false,.bool true]:=by rw [h4];rfl
      simp only [e,decide_eq_true (show 1 ≤ kd ∧ kd ≤ 4 by omega)] at qf
      repeat' (first|apply v_seq|apply v_region|apply v_nil|apply v_skip|(apply v_pure;(case hop=>first|(apply p_move <;> rfl)|(apply p_assign <;> rfl)|(apply p_fieldAddrB <;> rfl)|(apply p_extract0 <;> rfl)|(apply p_extract1 <;> rfl)|fail);(case hd=>rfl))|(apply v_condT;(case hc=>rfl))|(apply v_condF;(case hc=>rfl))|(apply v_callJ (hs:=qf _);(case ha=>rfl);(case hd=>rfl))|(apply v_read;(case hop=>(apply r_load1;rfl;(apply Cell.own;(case h=>(repeat (exact mhd _)));rfl)));(case hd=>rfl))|(apply v_alloc;(case hz=>rfl);(case hd=>rfl);intro b)|(apply v_store;(case hp=>rfl);(case hx=>rfl);(case hc=>rfl);(case hsz=>rfl);(case h1=>rfl);(case hb=>(repeat (exact mhd _)));(case hfit=>exact nle rfl);(case hov=>((repeat (first|with_reducible exact ov_nil|apply ov_cons));done));(case hu=>repeat (exact Upd.here _ _)))|fail)
      refine v_call (μ1:=[(rb,_)]) (μ2:=_) rfl (rdRaw_s rb _ _ 32768 hs1 (by omega) hr4) (PickA.perm (by repeat (first|exact PickA.here _|apply PickA.cons))) rfl ?_
      rintro _ G2 _ hle2 ⟨hraw,a5,no5,rfl,hr5⟩
      obtain ⟨A1,c1,rfl,-⟩:=hraw.openInt
      have qo:=older_s (x:=X) (xv:=.agg (recL kd rd nd ix zeroC (.slice A1 (rawB 32768 s4).length c1)).toArray) (hT.le (GH.le_trans hle1 hle2)) (by rw [eX];exact ⟨_,rfl,hraw⟩) hok
      generalize olderI X = o at *
      repeat' (first|apply v_seq|apply v_region|apply v_nil|apply v_skip|(apply v_take;(case hg=>rfl))|(apply v_pass;(case hg=>rfl);(case hn=>rfl);(case hd=>rfl))|(apply v_pure;(case hop=>first|(apply p_move <;> rfl)|(apply p_eq <;> rfl)|(apply p_ne <;> rfl)|(apply p_assign <;> rfl)|(apply p_pickT <;> rfl)|(apply p_pickF <;> rfl)|(apply p_not <;> rfl)|(apply p_fieldAddrB <;> rfl)|(apply p_build;(case hz=>rfl);(case hv=>(simp only [List.map_cons,List.map_nil];repeat (with_reducible exact evs_nil)));(case hb=>(apply bldL;repeat (exact bld_nil))))|fail);(case hd=>rfl))|(apply v_condF;(case hc=>rfl))|(apply v_cond;(case hc=>rfl);all_goals (intro h;(try simp only [reduceCtorEq,zzz] at h);first|(exfalso;omega)|skip))|(apply v_guardB;(case h1=>rfl);(case h2=>rfl);all_goals (intro h;(try simp only [reduceCtorEq,zzz] at h)))|(apply v_callK (hs:=qe _ _ _);(case ha=>rfl);(case hp=>exact (Pick.perm (by repeat (exact Pick.here _))));(case hd=>rfl))|(apply v_store;(case hp=>rfl);(case hx=>rfl);(case hc=>rfl);(case hsz=>rfl);(case h1=>rfl);(case hb=>(repeat (first|exact mhd _|apply mtl)));(case hfit=>exact nle rfl);(case hov=>((repeat (first|with_reducible exact ov_nil|apply ov_cons));done));(case hu=>repeat (first|exact Upd.here _ _|apply Upd.there)))|fail)
      · refine v_call (μ1:=[(rb,_)]) (μ2:=_) rfl (rdDone_s rb _ _ (hs1.mono hle2) (by omega) hr5) (PickA.perm (by repeat (exact PickA.here _))) rfl ?_
        rintro _ _ _ - ⟨rfl,⟨ed,rfl,hed⟩,rfl⟩
        repeat' (first|apply v_seq|apply v_region|apply v_nil|apply v_skip|(apply v_pure;(case hop=>first|(apply p_move <;> rfl)|(apply p_eq <;> rfl)|(apply p_ne <;> rfl)|(apply p_assign <;> rfl)|(apply p_build;(case hz=>rfl);(case hv=>(simp only [List.map_cons,List.map_nil];repeat (with_reducible exact evs_nil)));(case hb=>(apply bldL;repeat (exact bld_nil))))|fail);(case hd=>rfl))|(apply v_cond;(case hc=>rfl);all_goals (intro h;(try simp only [reduceCtorEq,zzz] at h);first|(exfalso;omega)|skip))|(apply v_callJ (hs:=qo);(case ha=>rfl);(case hd=>rfl))|(apply v_read;(case hop=>(apply r_loadNo;(case hx=>rfl);(case h=>(repeat (first|exact mhd _|apply mtl)));(case hd=>(repeat (first|with_reducible exact dt_nil|apply dt_here)));(case hn=>rfl)));(case hd=>rfl))|(apply v_store;(case hp=>rfl);(case hx=>rfl);(case hc=>rfl);(case hsz=>rfl);(case h1=>rfl);(case hb=>(repeat (first|exact mhd _|apply mtl)));(case hfit=>exact nle rfl);(case hov=>((repeat (first|with_reducible exact ov_nil|apply ov_cons));done));(case hu=>repeat (first|exact Upd.here _ _|apply Upd.there)))|fail)
        · refine v_retM [] (outsM_cell_tmp (vs:=zeroRL) (e:=42) rfl rfl rfl (by repeat (first|exact mhd _|apply mtl)) rfl) (by repeat (exact List.nil_sublist _)) ?_
          exact ⟨rfl,_,_,_,rfl,⟨_,rfl,Sl.nil⟩,.inr ⟨fun hh=>absurd (eO.1 hh).2.2 ‹_›,rfl,‹_›⟩⟩
        · refine v_retM [] (outsM_cell_tmp (vs:=recL kd rd nd ix zeroC (.slice A1 (rawB 32768 s4).length c1)) (e:=42) rfl rfl rfl (by repeat (first|exact mhd _|apply mtl)) rfl) (by repeat (exact List.nil_sublist _)) ?_
          exact ⟨rfl,_,_,_,rfl,⟨_,rfl,hraw⟩,.inl ⟨eO.2 ⟨by rw [eS];exact hed.1 ‹_›,by omega,‹_›⟩,eX.symm,rfl⟩⟩
        · refine v_retM [] (outsM_cell_tmp (vs:=zeroRL) (e:=42) rfl rfl rfl (by repeat (first|exact mhd _|apply mtl)) rfl) (by repeat (exact List.nil_sublist _)) ?_
          exact ⟨rfl,_,_,_,rfl,⟨_,rfl,Sl.nil⟩,.inr ⟨fun hh=>absurd (hed.2 (by rw [← eS];exact (eO.1 hh).1)) ‹_›,rfl,‹_›⟩⟩
      · refine v_retM [] (outsM_cell_tmp (vs:=zeroRL) (e:=42) rfl rfl rfl (by repeat (first|exact mhd _|apply mtl)) rfl) (by repeat (exact List.nil_sublist _)) ?_
        refine ⟨rfl,_,_,_,rfl,⟨_,rfl,Sl.nil⟩,.inr ⟨fun hh=>?_,rfl,‹_›⟩⟩
        have h1:=(eO.1 hh).1
        rw [eS] at h1
        obtain ⟨-,⟨h2,-⟩|⟨-,h2⟩⟩:=hr5
        · rw [h2] at h1;cases h1
        · exact absurd h2 ‹_›
    · rw [if_neg h4] at eX eS
      by_cases h1:kd = 1
      · have e:hasL kd = [.bool true,.bool false,.bool false,.bool false]:=by rw [h1];rfl
        simp only [e,decide_eq_true (show 1 ≤ kd ∧ kd ≤ 4 by omega)] at qf
        repeat' (first|apply v_seq|apply v_region|apply v_nil|apply v_skip|(apply v_pure;(case hop=>first|(apply p_move <;> rfl)|(apply p_assign <;> rfl)|(apply p_fieldAddrB <;> rfl)|(apply p_extract0 <;> rfl)|(apply p_extract1 <;> rfl)|fail);(case hd=>rfl))|(apply v_condF;(case hc=>rfl))|(apply v_callJ (hs:=qf _);(case ha=>rfl);(case hd=>rfl))|(apply v_read;(case hop=>(apply r_load1;rfl;(apply Cell.own;(case h=>(repeat (exact mhd _)));rfl)));(case hd=>rfl))|(apply v_alloc;(case hz=>rfl);(case hd=>rfl);intro b)|(apply v_store;(case hp=>rfl);(case hx=>rfl);(case hc=>rfl);(case hsz=>rfl);(case h1=>rfl);(case hb=>(repeat (exact mhd _)));(case hfit=>exact nle rfl);(case hov=>((repeat (first|with_reducible exact ov_nil|apply ov_cons));done));(case hu=>repeat (exact Upd.here _ _)))|fail)
        have qo:=older_s (x:=X) (xv:=.agg (recL kd rd nd ix zeroC (.slice none 0 0)).toArray) (hT.le hle1) (by rw [eX];exact ⟨_,rfl,Sl.nil⟩) hok
        generalize olderI X = o at *
        repeat' (first|apply v_seq|apply v_region|apply v_nil|apply v_skip|(apply v_take;(case hg=>rfl))|(apply v_pass;(case hg=>rfl);(case hn=>rfl);(case hd=>rfl))|(apply v_pure;(case hop=>first|(apply p_move <;> rfl)|(apply p_eq <;> rfl)|(apply p_ne <;> rfl)|(apply p_assign <;> rfl)|(apply p_pickT <;> rfl)|(apply p_pickF <;> rfl)|(apply p_not <;> rfl)|(apply p_build;(case hz=>rfl);(case hv=>(simp only [List.map_cons,List.map_nil];repeat (with_reducible exact evs_nil)));(case hb=>(apply bldL;repeat (exact bld_nil))))|fail);(case hd=>rfl))|(apply v_condF;(case hc=>rfl))|(apply v_cond;(case hc=>rfl);all_goals (intro h;(try simp only [reduceCtorEq,zzz] at h);first|(exfalso;omega)|skip))|(apply v_guardB;(case h1=>rfl);(case h2=>rfl);all_goals (intro h;(try simp only [reduceCtorEq,zzz] at h)))|(apply v_callK (hs:=qe _ _ _);(case ha=>rfl);(case hp=>first|exact (Pick.perm (by repeat (first|exact Pick.here _|apply Pick.there)))|fail);(case hd=>rfl))|(apply v_store;(case hp=>rfl);(case hx=>rfl);(case hc=>rfl);(case hsz=>rfl);(case h1=>rfl);(case hb=>(repeat (first|exact mhd _|apply mtl)));(case hfit=>exact nle rfl);(case hov=>((repeat (first|with_reducible exact ov_nil|apply ov_cons));done));(case hu=>repeat (first|exact Upd.here _ _|apply Upd.there)))|fail)
        · refine v_call (μ1:=[(rb,_)]) (μ2:=_) rfl (rdDone_s rb _ _ hs1 (by omega) hr4) (PickA.perm (by repeat (first|exact PickA.here _|apply PickA.cons))) rfl ?_
          rintro _ _ _ - ⟨rfl,⟨ed,rfl,hed⟩,rfl⟩
          repeat' (first|apply v_seq|apply v_region|apply v_nil|apply v_skip|(apply v_pure;(case hop=>first|(apply p_move <;> rfl)|(apply p_eq <;> rfl)|(apply p_ne <;> rfl)|(apply p_assign <;> rfl)|(apply p_build;(case hz=>rfl);(case hv=>(simp only [List.map_cons,List.map_nil];repeat (with_reducible exact evs_nil)));(case hb=>(apply bldL;repeat (exact bld_nil))))|fail);(case hd=>rfl))|(apply v_cond;(case hc=>rfl);all_goals (intro h;(try simp only [reduceCtorEq,zzz] at h);first|(exfalso;omega)|skip))|(apply v_callJ (hs:=qo);(case ha=>rfl);(case hd=>rfl))|(apply v_read;(case hop=>(apply r_loadNo;(case hx=>rfl);(case h=>(repeat (first|exact mhd _|apply mtl)));(case hd=>(repeat (first|with_reducible exact dt_nil|apply dt_here)));(case hn=>rfl)));(case hd=>rfl))|(apply v_store;(case hp=>rfl);(case hx=>rfl);(case hc=>rfl);(case hsz=>rfl);(case h1=>rfl);(case hb=>(repeat (first|exact mhd _|apply mtl)));(case hfit=>exact nle rfl);(case hov=>((repeat (first|with_reducible exact ov_nil|apply ov_cons));done));(case hu=>repeat (first|exact Upd.here _ _|apply Upd.there)))|fail)
          · refine v_retM [] (outsM_cell_tmp (vs:=zeroRL) (e:=42) rfl rfl rfl (by repeat (first|exact mhd _|apply mtl)) rfl) (by repeat (exact List.nil_sublist _)) ?_
            exact ⟨rfl,_,_,_,rfl,⟨_,rfl,Sl.nil⟩,.inr ⟨fun hh=>absurd (eO.1 hh).2.2 ‹_›,rfl,‹_›⟩⟩
          · refine v_retM [] (outsM_cell_tmp (vs:=recL kd rd nd ix zeroC (.slice none 0 0)) (e:=42) rfl rfl rfl (by repeat (first|exact mhd _|apply mtl)) rfl) (by repeat (exact List.nil_sublist _)) ?_
            exact ⟨rfl,_,_,_,rfl,⟨_,rfl,Sl.nil⟩,.inl ⟨eO.2 ⟨by rw [eS];exact hed.1 ‹_›,by omega,‹_›⟩,eX.symm,rfl⟩⟩
          · refine v_retM [] (outsM_cell_tmp (vs:=zeroRL) (e:=42) rfl rfl rfl (by repeat (first|exact mhd _|apply mtl)) rfl) (by repeat (exact List.nil_sublist _)) ?_
            exact ⟨rfl,_,_,_,rfl,⟨_,rfl,Sl.nil⟩,.inr ⟨fun hh=>absurd (hed.2 (by rw [← eS];exact (eO.1 hh).1)) ‹_›,rfl,‹_›⟩⟩
        · refine v_retM [] (outsM_cell_tmp (vs:=zeroRL) (e:=42) rfl rfl rfl (by repeat (first|exact mhd _|apply mtl)) rfl) (by repeat (exact List.nil_sublist _)) ?_
          refine ⟨rfl,_,_,_,rfl,⟨_,rfl,Sl.nil⟩,.inr ⟨fun hh=>?_,rfl,‹_›⟩⟩
          have h1:=(eO.1 hh).1
          rw [eS] at h1
          obtain ⟨-,⟨h2,-⟩|⟨-,h2⟩⟩:=hr4
          · rw [h2] at h1;cases h1
          · exact absurd h2 ‹_›
      · have e:hasL kd = [.bool false,.bool false,.bool false,.bool false]:=by unfold hasL;rw [if_neg (by omega),if_neg (by omega),if_neg (by omega),if_neg (by omega)]
        simp only [e,decide_eq_false (show ¬ (1 ≤ kd ∧ kd ≤ 4) by omega)] at qf
        repeat' (first|apply v_seq|apply v_region|apply v_nil|apply v_skip|(apply v_take;(case hg=>rfl))|(apply v_pass;(case hg=>rfl);(case hn=>rfl);(case hd=>rfl))|(apply v_pure;(case hop=>first|(apply p_move <;> rfl)|(apply p_eq <;> rfl)|(apply p_ne <;> rfl)|(apply p_assign <;> rfl)|(apply p_pickT <;> rfl)|(apply p_pickF <;> rfl)|(apply p_not <;> rfl)|(apply p_fieldAddrB <;> rfl)|(apply p_extract0 <;> rfl)|(apply p_extract1 <;> rfl)|(apply p_build;(case hz=>rfl);(case hv=>(simp only [List.map_cons,List.map_nil];repeat (with_reducible exact evs_nil)));(case hb=>(apply bldL;repeat (exact bld_nil))))|fail);(case hd=>rfl))|(apply v_condT;(case hc=>rfl))|(apply v_condF;(case hc=>rfl))|(apply v_cond;(case hc=>rfl);all_goals (intro h;(try simp only [reduceCtorEq,zzz] at h);first|(exfalso;omega)|skip))|(apply v_guardB;(case h1=>rfl);(case h2=>rfl);all_goals (intro h;(try simp only [reduceCtorEq,zzz] at h)))|(apply v_callJ (hs:=qf _);(case ha=>rfl);(case hd=>rfl))|(apply v_callK (hs:=qe _ _ _);(case ha=>rfl);(case hp=>first|exact (Pick.perm (by repeat (first|exact Pick.here _|apply Pick.there)))|fail);(case hd=>rfl))|(apply v_read;(case hop=>(apply r_load1;rfl;(apply Cell.own;(case h=>(repeat (exact mhd _)));rfl)));(case hd=>rfl))|(apply v_alloc;(case hz=>rfl);(case hd=>rfl);intro b)|(apply v_store;(case hp=>rfl);(case hx=>rfl);(case hc=>rfl);(case hsz=>rfl);(case h1=>rfl);(case hb=>(repeat (first|exact mhd _|apply mtl)));(case hfit=>exact nle rfl);(case hov=>((repeat (first|with_reducible exact ov_nil|apply ov_cons));done));(case hu=>repeat (first|exact Upd.here _ _|apply Upd.there)))|fail)
        · refine v_retM [] (outsM_cell_tmp (vs:=zeroRL) (e:=42) rfl rfl rfl (by repeat (first|exact mhd _|apply mtl)) rfl) (by repeat (exact List.nil_sublist _)) ?_
          exact ⟨rfl,_,_,_,rfl,⟨_,rfl,Sl.nil⟩,.inr ⟨fun hh=>by have:=(eO.1 hh).2.1;omega,rfl,by decide⟩⟩
        · refine v_retM [] (outsM_cell_tmp (vs:=zeroRL) (e:=42) rfl rfl rfl (by repeat (first|exact mhd _|apply mtl)) rfl) (by repeat (exact List.nil_sublist _)) ?_
          exact ⟨rfl,_,_,_,rfl,⟨_,rfl,Sl.nil⟩,.inr ⟨fun hh=>by have:=(eO.1 hh).2.1;omega,rfl,‹_›⟩⟩
abbrev twoR (rb pb xb:Nat) (bv:Value) (a:Nat) (no:Int) (k r n i:Int) (c:Cm) (iv:Value):OH:=[(rb,rdO bv (a:Nat) no),(pb,pO rb),(xb,.cells (recL k r n i c iv).toArray 42 (0,0))]
section
variable {G:GH} {l:List Int} {bv:Value} {s:Option (List Int)} {rb pb xb a:Nat} {no k r n i:Int} {c:Cm} {iv:Value}
theorem rd1_s (hs:Sl G 1 (IntR .u8) bv l) (hl:l.length ≤ 1048576) (hr:RdS l a no s):Con Tryz.prog 200 #[.pointer (some ⟨pb,0,none⟩),.pointer (some ⟨xb,0,none⟩)] G (twoR rb pb xb bv a no k r n i c iv)
    (fun _ G' μ'=>G' = G ∧ ∃ a' no',μ' = twoR rb pb xb bv a' no' k (nV s) (nV (nS s)) i c iv ∧ RdS l a' no' (nS (nS s))):=by
  (refine v_enter Tryz.func200 rfl Tryz.ntmps200 rfl ?_;intro B _)
  repeat' (first|apply v_seq|apply v_region|(apply v_read;(case hop=>(apply r_load1;rfl;(apply Cell.own;(case h=>(repeat (first|exact mhd _|apply mtl)));rfl)));(case hd=>rfl))|fail)
  refine v_call (μ1:=[(rb,_)]) (μ2:=_) rfl (rdNumber_s rb _ _ 9223372036854775807 hs hl hr) (PickA.perm (by repeat (exact PickA.here _))) rfl ?_
  rintro _ _ _ - ⟨rfl,rfl,a1,no1,rfl,hr1⟩
  repeat' (first|apply v_region|apply v_nil|(apply v_pure;(case hop=>(apply p_fieldAddrB <;> rfl));(case hd=>rfl))|(apply v_read;(case hop=>(apply r_load1;rfl;(apply Cell.own;(case h=>(repeat (first|exact mhd _|apply mtl)));rfl)));(case hd=>rfl))|(apply v_store;(case hp=>rfl);(case hx=>rfl);(case hc=>rfl);(case hsz=>rfl);(case h1=>rfl);(case hb=>(repeat (first|exact mhd _|apply mtl)));(case hfit=>exact nle rfl);(case hov=>((repeat (first|with_reducible exact ov_nil|apply ov_cons));done));(case hu=>repeat (first|exact Upd.here _ _|apply Upd.there)))|fail)
  refine v_call (μ1:=[(rb,_)]) (μ2:=_) rfl (rdNumber_s rb _ _ 9223372036854775807 hs hl hr1) (PickA.perm (by repeat (exact PickA.here _))) rfl ?_
  rintro _ _ _ - ⟨rfl,rfl,a2,no2,rfl,hr2⟩
  repeat' (first|apply v_nil|(apply v_pure;(case hop=>(apply p_fieldAddrB <;> rfl));(case hd=>rfl))|(apply v_store;(case hp=>rfl);(case hx=>rfl);(case hc=>rfl);(case hsz=>rfl);(case h1=>rfl);(case hb=>(repeat (first|exact mhd _|apply mtl)));(case hfit=>exact nle rfl);(case hov=>((repeat (first|with_reducible exact ov_nil|apply ov_cons));done));(case hu=>repeat (first|exact Upd.here _ _|apply Upd.there)))|fail)
  refine v_end [(rb,_),(pb,_),(xb,_)] (outsA0 rfl) (by repeat (exact List.Sublist.refl _)) ?_
  exact ⟨rfl,a2,no2,rfl,hr2⟩
theorem rd2_s (hs:Sl G 1 (IntR .u8) bv l) (hl:l.length ≤ 1048576) (hr:RdS l a no s):Con Tryz.prog 201 #[.pointer (some ⟨pb,0,none⟩),.pointer (some ⟨xb,0,none⟩)] G (twoR rb pb xb bv a no k r n i c iv)
    (fun _ G' μ'=>G' = G ∧ ∃ a' no',μ' = twoR rb pb xb bv a' no' k r n (nV s) c iv ∧ RdS l a' no' (nS s)):=by
  (refine v_enter Tryz.func201 rfl Tryz.ntmps201 rfl ?_;intro B _)
  repeat' (first|apply v_region|(apply v_read;(case hop=>(apply r_load1;rfl;(apply Cell.own;(case h=>(repeat (first|exact mhd _|apply mtl)));rfl)));(case hd=>rfl))|fail)
  refine v_call (μ1:=[(rb,_)]) (μ2:=_) rfl (rdNumber_s rb _ _ 9223372036854775807 hs hl hr) (PickA.perm (by repeat (exact PickA.here _))) rfl ?_
  rintro _ _ _ - ⟨rfl,rfl,a1,no1,rfl,hr1⟩
  repeat' (first|apply v_nil|(apply v_pure;(case hop=>(apply p_fieldAddrB <;> rfl));(case hd=>rfl))|(apply v_store;(case hp=>rfl);(case hx=>rfl);(case hc=>rfl);(case hsz=>rfl);(case h1=>rfl);(case hb=>(repeat (first|exact mhd _|apply mtl)));(case hfit=>exact nle rfl);(case hov=>((repeat (first|with_reducible exact ov_nil|apply ov_cons));done));(case hu=>repeat (first|exact Upd.here _ _|apply Upd.there)))|fail)
  refine v_end [(rb,_),(pb,_),(xb,_)] (outsA0 rfl) (by repeat (exact List.Sublist.refl _)) ?_
  exact ⟨rfl,a1,no1,rfl,hr1⟩
abbrev getT (s:Option (List Int)):Cm × Option (List Int):=getW (wantB 2 (nV s)) s 6
theorem rd3_s (hs:Sl G 1 (IntR .u8) bv l) (hl:l.length ≤ 1048576) (hr:RdS l a no s):Con Tryz.prog 202 #[.pointer (some ⟨pb,0,none⟩),.pointer (some ⟨xb,0,none⟩)] G (twoR rb pb xb bv a no k r n i c iv)
    (fun _ G' μ'=>∃ a' no',μ' = twoR rb pb xb bv a' no' k r n i (getT s).1 iv ∧ RdS l a' no' (getT s).2):=by
  have q:=cgetV_s 2 rb _ _ hs hl hr
  have eg:getW (wantB 2 (nV s)) s 6 = getT s:=rfl
  rw [eg] at q
  generalize getT s = g at *
  obtain ⟨gc,gs⟩:=g
  (refine v_enter Tryz.func202 rfl Tryz.ntmps202 rfl ?_;intro B _)
  repeat' (first|apply v_region|(apply v_read;(case hop=>(apply r_load1;rfl;(apply Cell.own;(case h=>(repeat (first|exact mhd _|apply mtl)));rfl)));(case hd=>rfl))|fail)
  refine v_call (μ1:=[(rb,_)]) (μ2:=_) rfl q (PickA.perm (by repeat (exact PickA.here _))) rfl ?_
  rintro _ G1 _ hle ⟨rfl,a1,no1,rfl,hr1⟩
  repeat' (first|apply v_nil|(apply v_pure;(case hop=>(apply p_fieldAddrB <;> rfl));(case hd=>rfl))|(apply v_store;(case hp=>rfl);(case hx=>rfl);(case hc=>rfl);(case hsz=>rfl);(case h1=>rfl);(case hb=>(repeat (first|exact mhd _|apply mtl)));(case hfit=>exact nle rfl);(case hov=>((repeat (first|with_reducible exact ov_nil|apply ov_cons));done));(case hu=>repeat (first|exact Upd.here _ _|apply Upd.there)))|fail)
  refine v_end [(rb,_),(pb,_),(xb,_)] (outsA0 rfl) (by repeat (exact List.Sublist.refl _)) ?_
  exact ⟨a1,no1,rfl,hr1⟩
theorem rd4_s (hs:Sl G 1 (IntR .u8) bv l) (hl:l.length ≤ 1048576) (hr:RdS l a no s):Con Tryz.prog 203 #[.pointer (some ⟨pb,0,none⟩),.pointer (some ⟨xb,0,none⟩)] G (twoR rb pb xb bv a no k r n i c iv)
    (fun _ G' μ'=>∃ a' no' jv,μ' = twoR rb pb xb bv a' no' k r n i c jv ∧ Sl G' 1 (IntR .u8) jv (rawB 32768 s) ∧ RdS l a' no' (rawS 32768 s)):=by
  have q:=rdRaw_s rb _ _ 32768 hs hl hr
  generalize rawB 32768 s = rl at *
  (refine v_enter Tryz.func203 rfl Tryz.ntmps203 rfl ?_;intro B _)
  repeat' (first|apply v_region|(apply v_read;(case hop=>(apply r_load1;rfl;(apply Cell.own;(case h=>(repeat (first|exact mhd _|apply mtl)));rfl)));(case hd=>rfl))|fail)
  refine v_call (μ1:=[(rb,_)]) (μ2:=_) rfl q (PickA.perm (by repeat (exact PickA.here _))) rfl ?_
  rintro _ G1 _ hle ⟨h1,a1,no1,rfl,hr1⟩
  obtain ⟨A1,c1,rfl,-⟩:=h1.openInt
  repeat' (first|apply v_nil|(apply v_pure;(case hop=>(apply p_fieldAddrB <;> rfl));(case hd=>rfl))|(apply v_store;(case hp=>rfl);(case hx=>rfl);(case hc=>rfl);(case hsz=>rfl);(case h1=>rfl);(case hb=>(repeat (first|exact mhd _|apply mtl)));(case hfit=>exact nle rfl);(case hov=>((repeat (first|with_reducible exact ov_nil|apply ov_cons));done));(case hu=>repeat (first|exact Upd.here _ _|apply Upd.there)))|fail)
  refine v_end [(rb,_),(pb,_),(xb,_)] (outsA0 rfl) (by repeat (exact List.Sublist.refl _)) ?_
  exact ⟨a1,no1,_,rfl,h1,hr1⟩
end
theorem whenR_s {f:FuncId} [Callable Tryz.prog f] {pb xb:Nat} (b:Bool) {G:GH} {μ:OH} {Ψ:GH → OH → Prop} (q:Con Tryz.prog f #[.pointer (some ⟨pb,0,none⟩),.pointer (some ⟨xb,0,none⟩)] G μ (fun _ G' μ'=>Ψ G' μ')) :
    Con Tryz.prog 173 #[.bool b,clo f pb xb] G μ (fun _ G' μ'=>(b = true ∧ Ψ G' μ') ∨ (b = false ∧ G' = G ∧ μ' = μ)):=by
  (refine v_enter Tryz.func173 rfl Tryz.ntmps173 rfl ?_;intro B _)
  cases b
  · repeat' (first|apply v_seq|apply v_region|apply v_nil|apply v_skip|(apply v_pure;(case hop=>(apply p_move <;> rfl));(case hd=>rfl))|(apply v_condF;(case hc=>rfl))|fail)
    refine v_end μ (outsA0 rfl) (List.Sublist.refl _) ?_
    exact .inr ⟨rfl,rfl,rfl⟩
  · repeat' (first|apply v_seq|apply v_region|apply v_nil|(apply v_pure;(case hop=>(apply p_move <;> rfl));(case hd=>rfl))|(apply v_condT;(case hc=>rfl))|fail)
    refine v_callC (μ1:=μ) (μ2:=[]) (first:=[]) (captured:=[.pointer (some ⟨pb,0,none⟩),.pointer (some ⟨xb,0,none⟩)]) (vs:=[]) rfl rfl q (by simp) rfl ?_
    rintro r1 G1 μ1 hle1 h1
    repeat' (first|apply v_nil)
    refine v_end μ1 (outsA0 rfl) (by simp) ?_
    exact .inl ⟨rfl,h1⟩
def rdX (k:Int) (s:Option (List Int)):Rc × Option (List Int) :=
  if k = 1 then (⟨k,nV s,nV (nS s),0,zeroC,[]⟩,nS (nS s))
  else if k = 2 then (⟨k,nV s,nV (nS s),nV (nS (nS s)),(getT (nS (nS (nS s)))).1,[]⟩,(getT (nS (nS (nS s)))).2)
  else if k = 3 then (⟨k,0,0,nV s,(getT (nS s)).1,[]⟩,(getT (nS s)).2)
  else (⟨k,0,0,nV s,zeroC,rawB 32768 (nS s)⟩,rawS 32768 (nS s))
theorem walkR_s {G:GH} {l:List Int} {bv:Value} {s:Option (List Int)} {rb pb xb a:Nat} {no k:Int} (hk:k = 1 ∨ k = 2 ∨ k = 3 ∨ k = 4) (hs:Sl G 1 (IntR .u8) bv l) (hl:l.length ≤ 1048576) (hr:RdS l a no s) :
    Con Tryz.prog 137 #[.int .i64 k,clo 200 pb xb,clo 201 pb xb,clo 202 pb xb,clo 203 pb xb] G (twoR rb pb xb bv a no k 0 0 0 zeroC (.slice none 0 0))
    (fun _ G' μ'=>∃ a' no' iv,μ' = twoR rb pb xb bv a' no' k (rdX k s).1.round (rdX k s).1.node (rdX k s).1.index (rdX k s).1.cmd iv ∧ Sl G' 1 (IntR .u8) iv (rdX k s).1.image ∧ RdS l a' no' (rdX k s).2):=by
  (refine v_enter Tryz.func137 rfl Tryz.ntmps137 rfl ?_;intro B _)
  obtain rfl|rfl|rfl|rfl:=hk
  · repeat' (first|apply v_seq|apply v_region|(apply v_pass;(case hg=>rfl);(case hn=>rfl);(case hd=>rfl))|(apply v_pure;(case hop=>first|(apply p_move <;> rfl)|(apply p_eqs <;> rfl)|(apply p_pickT <;> rfl)|fail);(case hd=>rfl))|fail)
    refine v_call (μ1:=twoR rb pb xb bv a no 1 0 0 0 zeroC (.slice none 0 0)) (μ2:=[]) rfl (whenR_s _ (rd1_s hs hl hr)) (by simp) rfl ?_
    rintro _ G1 _ hle1 (⟨hb,rfl,a1,no1,rfl,hr1⟩|⟨hb,rfl,rfl⟩)
    rotate_left
    · (exfalso;revert hb;simp [dec_eq])
    repeat' (first|apply v_seq|apply v_region|apply v_nil|(apply v_pure;(case hop=>first|(apply p_move <;> rfl)|(apply p_nes <;> rfl)|fail);(case hd=>rfl))|fail)
    refine v_call (μ1:=twoR rb pb xb bv a1 no1 1 (nV s) (nV (nS s)) 0 zeroC (.slice none 0 0)) (μ2:=[]) rfl (whenR_s _ (rd2_s hs hl hr1)) (by simp) rfl ?_
    rintro _ G2 _ hle2 (⟨hb,rfl,a2,no2,rfl,hr2⟩|⟨hb,rfl,rfl⟩)
    · (exfalso;revert hb;simp [dec_eq])
    repeat' (first|apply v_seq|apply v_region|apply v_nil|(apply v_take;(case hg=>rfl))|(apply v_pure;(case hop=>first|(apply p_move <;> rfl)|(apply p_eq <;> rfl)|(apply p_pickF <;> rfl)|fail);(case hd=>rfl))|(apply v_guardB;(case h1=>rfl);(case h2=>rfl);all_goals (intro h;(try simp only [reduceCtorEq,zzz] at h);first|(exfalso;omega)|skip))|fail)
    refine v_call (μ1:=twoR rb pb xb bv a1 no1 1 (nV s) (nV (nS s)) 0 zeroC (.slice none 0 0)) (μ2:=[]) rfl (whenR_s _ (rd3_s hs hl hr1)) (by simp) rfl ?_
    rintro _ G3 _ hle3 (⟨hb,a3,no3,rfl,hr3⟩|⟨hb,rfl,rfl⟩)
    · (exfalso;revert hb;simp [dec_eq])
    repeat' (first|apply v_region|apply v_nil|(apply v_pure;(case hop=>first|(apply p_move <;> rfl)|(apply p_eq <;> rfl)|fail);(case hd=>rfl))|fail)
    refine v_call (μ1:=twoR rb pb xb bv a1 no1 1 (nV s) (nV (nS s)) 0 zeroC (.slice none 0 0)) (μ2:=[]) rfl (whenR_s _ (rd4_s hs hl hr1)) (by simp) rfl ?_
    rintro _ G4 _ hle4 (⟨hb,a4,no4,jv,rfl,hj,hr4⟩|⟨hb,rfl,rfl⟩)
    · (exfalso;revert hb;simp [dec_eq])
    repeat' (first|apply v_nil)
    refine v_end (twoR rb pb xb bv a1 no1 1 (nV s) (nV (nS s)) 0 zeroC (.slice none 0 0)) (outsA0 rfl) (by simp) ?_
    exact ⟨a1,no1,_,rfl,Sl.nil,hr1⟩
  · repeat' (first|apply v_seq|apply v_region|(apply v_take;(case hg=>rfl))|(apply v_pure;(case hop=>first|(apply p_move <;> rfl)|(apply p_eqs <;> rfl)|(apply p_eq <;> rfl)|(apply p_pickF <;> rfl)|fail);(case hd=>rfl))|(apply v_guardB;(case h1=>rfl);(case h2=>rfl);all_goals (intro h;(try simp only [reduceCtorEq,zzz] at h);first|(exfalso;omega)|skip))|fail)
    refine v_call (μ1:=twoR rb pb xb bv a no 2 0 0 0 zeroC (.slice none 0 0)) (μ2:=[]) rfl (whenR_s _ (rd1_s hs hl hr)) (by simp) rfl ?_
    rintro _ G1 _ hle1 (⟨hb,rfl,a1,no1,rfl,hr1⟩|⟨hb,rfl,rfl⟩)
    rotate_left
    · (exfalso;revert hb;simp [dec_eq])
    repeat' (first|apply v_seq|apply v_region|apply v_nil|(apply v_pure;(case hop=>first|(apply p_move <;> rfl)|(apply p_ne <;> rfl)|fail);(case hd=>rfl))|fail)
    refine v_call (μ1:=twoR rb pb xb bv a1 no1 2 (nV s) (nV (nS s)) 0 zeroC (.slice none 0 0)) (μ2:=[]) rfl (whenR_s _ (rd2_s hs hl hr1)) (by simp) rfl ?_
    rintro _ G2 _ hle2 (⟨hb,rfl,a2,no2,rfl,hr2⟩|⟨hb,rfl,rfl⟩)
    rotate_left
    · (exfalso;revert hb;simp [dec_eq])
    repeat' (first|apply v_seq|apply v_region|apply v_nil|(apply v_pass;(case hg=>rfl);(case hn=>rfl);(case hd=>rfl))|(apply v_pure;(case hop=>first|(apply p_move <;> rfl)|(apply p_eqs <;> rfl)|(apply p_pickT <;> rfl)|fail);(case hd=>rfl))|fail)
    refine v_call (μ1:=twoR rb pb xb bv a2 no2 2 (nV s) (nV (nS s)) (nV (nS (nS s))) zeroC (.slice none 0 0)) (μ2:=[]) rfl (whenR_s _ (rd3_s hs hl hr2)) (by simp) rfl ?_
    rintro _ G3 _ hle3 (⟨hb,a3,no3,rfl,hr3⟩|⟨hb,rfl,rfl⟩)
    rotate_left
    · (exfalso;revert hb;simp [dec_eq])
    repeat' (first|apply v_region|apply v_nil|(apply v_pure;(case hop=>first|(apply p_move <;> rfl)|(apply p_eq <;> rfl)|fail);(case hd=>rfl))|fail)
    refine v_call (μ1:=twoR rb pb xb bv a3 no3 2 (nV s) (nV (nS s)) (nV (nS (nS s))) (getT (nS (nS (nS s)))).1 (.slice none 0 0)) (μ2:=[]) rfl (whenR_s _ (rd4_s (hs.mono hle3) hl hr3)) (by simp) rfl ?_
    rintro _ G4 _ hle4 (⟨hb,a4,no4,jv,rfl,hj,hr4⟩|⟨hb,rfl,rfl⟩)
    · (exfalso;revert hb;simp [dec_eq])
    repeat' (first|apply v_nil)
    refine v_end (twoR rb pb xb bv a3 no3 2 (nV s) (nV (nS s)) (nV (nS (nS s))) (getT (nS (nS (nS s)))).1 (.slice none 0 0)) (outsA0 rfl) (by simp) ?_
    exact ⟨a3,no3,_,rfl,Sl.nil,hr3⟩
  · repeat' (first|apply v_seq|apply v_region|(apply v_take;(case hg=>rfl))|(apply v_pure;(case hop=>first|(apply p_move <;> rfl)|(apply p_eq <;> rfl)|(apply p_pickF <;> rfl)|fail);(case hd=>rfl))|(apply v_guardB;(case h1=>rfl);(case h2=>rfl);all_goals (intro h;(try simp only [reduceCtorEq,zzz] at h);first|(exfalso;omega)|skip))|fail)
    refine v_call (μ1:=twoR rb pb xb bv a no 3 0 0 0 zeroC (.slice none 0 0)) (μ2:=[]) rfl (whenR_s _ (rd1_s hs hl hr)) (by simp) rfl ?_
    rintro _ G1 _ hle1 (⟨hb,rfl,a1,no1,rfl,hr1⟩|⟨hb,rfl,rfl⟩)
    · (exfalso;revert hb;simp [dec_eq])
    repeat' (first|apply v_seq|apply v_region|apply v_nil|(apply v_pure;(case hop=>first|(apply p_move <;> rfl)|(apply p_ne <;> rfl)|fail);(case hd=>rfl))|fail)
    refine v_call (μ1:=twoR rb pb xb bv a no 3 0 0 0 zeroC (.slice none 0 0)) (μ2:=[]) rfl (whenR_s _ (rd2_s hs hl hr)) (by simp) rfl ?_
    rintro _ G2 _ hle2 (⟨hb,rfl,a2,no2,rfl,hr2⟩|⟨hb,rfl,rfl⟩)
    rotate_left
    · (exfalso;revert hb;simp [dec_eq])
    repeat' (first|apply v_seq|apply v_region|apply v_nil|(apply v_take;(case hg=>rfl))|(apply v_pure;(case hop=>first|(apply p_move <;> rfl)|(apply p_eqs <;> rfl)|(apply p_eq <;> rfl)|(apply p_pickF <;> rfl)|fail);(case hd=>rfl))|(apply v_guardB;(case h1=>rfl);(case h2=>rfl);all_goals (intro h;(try simp only [reduceCtorEq,zzz] at h);first|(exfalso;omega)|skip))|fail)
    refine v_call (μ1:=twoR rb pb xb bv a2 no2 3 0 0 (nV s) zeroC (.slice none 0 0)) (μ2:=[]) rfl (whenR_s _ (rd3_s hs hl hr2)) (by simp) rfl ?_
    rintro _ G3 _ hle3 (⟨hb,a3,no3,rfl,hr3⟩|⟨hb,rfl,rfl⟩)
    rotate_left
    · (exfalso;revert hb;simp [dec_eq])
    repeat' (first|apply v_region|apply v_nil|(apply v_pure;(case hop=>first|(apply p_move <;> rfl)|(apply p_eq <;> rfl)|fail);(case hd=>rfl))|fail)
    refine v_call (μ1:=twoR rb pb xb bv a3 no3 3 0 0 (nV s) (getT (nS s)).1 (.slice none 0 0)) (μ2:=[]) rfl (whenR_s _ (rd4_s (hs.mono hle3) hl hr3)) (by simp) rfl ?_
    rintro _ G4 _ hle4 (⟨hb,a4,no4,jv,rfl,hj,hr4⟩|⟨hb,rfl,rfl⟩)
    · (exfalso;revert hb;simp [dec_eq])
    repeat' (first|apply v_nil)
    refine v_end (twoR rb pb xb bv a3 no3 3 0 0 (nV s) (getT (nS s)).1 (.slice none 0 0)) (outsA0 rfl) (by simp) ?_
    exact ⟨a3,no3,_,rfl,Sl.nil,hr3⟩
  · repeat' (first|apply v_seq|apply v_region|(apply v_take;(case hg=>rfl))|(apply v_pure;(case hop=>first|(apply p_move <;> rfl)|(apply p_eq <;> rfl)|(apply p_pickF <;> rfl)|fail);(case hd=>rfl))|(apply v_guardB;(case h1=>rfl);(case h2=>rfl);all_goals (intro h;(try simp only [reduceCtorEq,zzz] at h);first|(exfalso;omega)|skip))|fail)
    refine v_call (μ1:=twoR rb pb xb bv a no 4 0 0 0 zeroC (.slice none 0 0)) (μ2:=[]) rfl (whenR_s _ (rd1_s hs hl hr)) (by simp) rfl ?_
    rintro _ G1 _ hle1 (⟨hb,rfl,a1,no1,rfl,hr1⟩|⟨hb,rfl,rfl⟩)
    · (exfalso;revert hb;simp [dec_eq])
    repeat' (first|apply v_seq|apply v_region|apply v_nil|(apply v_pure;(case hop=>first|(apply p_move <;> rfl)|(apply p_ne <;> rfl)|fail);(case hd=>rfl))|fail)
    refine v_call (μ1:=twoR rb pb xb bv a no 4 0 0 0 zeroC (.slice none 0 0)) (μ2:=[]) rfl (whenR_s _ (rd2_s hs hl hr)) (by simp) rfl ?_
    rintro _ G2 _ hle2 (⟨hb,rfl,a2,no2,rfl,hr2⟩|⟨hb,rfl,rfl⟩)
    rotate_left
    · (exfalso;revert hb;simp [dec_eq])
    repeat' (first|apply v_seq|apply v_region|apply v_nil|(apply v_take;(case hg=>rfl))|(apply v_pure;(case hop=>first|(apply p_move <;> rfl)|(apply p_eq <;> rfl)|(apply p_pickF <;> rfl)|fail);(case hd=>rfl))|(apply v_guardB;(case h1=>rfl);(case h2=>rfl);all_goals (intro h;(try simp only [reduceCtorEq,zzz] at h);first|(exfalso;omega)|skip))|fail)
    refine v_call (μ1:=twoR rb pb xb bv a2 no2 4 0 0 (nV s) zeroC (.slice none 0 0)) (μ2:=[]) rfl (whenR_s _ (rd3_s hs hl hr2)) (by simp) rfl ?_
    rintro _ G3 _ hle3 (⟨hb,a3,no3,rfl,hr3⟩|⟨hb,rfl,rfl⟩)
    · (exfalso;revert hb;simp [dec_eq])
    repeat' (first|apply v_region|apply v_nil|(apply v_pure;(case hop=>first|(apply p_move <;> rfl)|(apply p_eqs <;> rfl)|fail);(case hd=>rfl))|fail)
    refine v_call (μ1:=twoR rb pb xb bv a2 no2 4 0 0 (nV s) zeroC (.slice none 0 0)) (μ2:=[]) rfl (whenR_s _ (rd4_s hs hl hr2)) (by simp) rfl ?_
    rintro _ G4 _ hle4 (⟨hb,a4,no4,jv,rfl,hj,hr4⟩|⟨hb,rfl,rfl⟩)
    rotate_left
    · (exfalso;revert hb;simp [dec_eq])
    repeat' (first|apply v_nil)
    refine v_end (twoR rb pb xb bv a4 no4 4 0 0 (nV s) zeroC jv) (outsA0 rfl) (by simp) ?_
    exact ⟨a4,no4,_,rfl,hj,hr4⟩
theorem tread_s {G:GH} {l:List Int} {bv:Value} {s:Option (List Int)} {rb a:Nat} {no k:Int} (hk:k = 1 ∨ k = 2 ∨ k = 3 ∨ k = 4) (hs:Sl G 1 (IntR .u8) bv l) (hl:l.length ≤ 1048576) (hr:RdS l a no s) :
    Con Tryz.prog 178 #[.pointer (some ⟨rb,0,none⟩),.int .i64 k] G [(rb,rdO bv a no)] (fun r' G' μ'=>RcV G' (rdX k s).1 r' ∧ ∃ a' no',μ' = [(rb,rdO bv (a':Nat) no')] ∧ RdS l a' no' (rdX k s).2):=by
  have ek:(rdX k s).1.kind = k:=by unfold rdX;(repeat' split) <;> rfl
  have q:=fun pb xb=>walkR_s (rb:=rb) (pb:=pb) (xb:=xb) hk hs hl hr
  generalize rdX k s = X at *
  obtain ⟨x,s'⟩:=X
  simp only at ek q ⊢
  (refine v_enter Tryz.func178 rfl Tryz.ntmps178 rfl ?_;intro B _)
  repeat' (first|apply v_seq|apply v_region|apply v_nil|(apply v_pure;(case hop=>first|(apply p_move <;> rfl)|(apply p_makeFunc <;> rfl)|(apply p_build;(case hz=>rfl);(case hv=>(simp only [List.map_cons,List.map_nil];repeat (first|with_reducible exact evs_nil|(apply evs_cons;(case h1=>rfl)))));(case hb=>(apply bldL;repeat (first|exact bld_nil|(apply bld_cons;(case hpf=>rfl);(case hc=>rfl);(case hs=>rfl);(case hl=>rfl);(case ho=>((repeat (first|with_reducible exact ov_nil|apply ov_cons));done))))))));(case hd=>rfl))|(apply v_alloc;(case hz=>rfl);(case hd=>rfl);intro b)|(apply v_box;(case hx=>rfl);(case hz=>rfl);(case hd=>rfl);intro b)|(apply v_store;(case hp=>rfl);(case hx=>rfl);(case hc=>rfl);(case hsz=>rfl);(case h1=>rfl);(case hb=>(repeat (exact mhd _)));(case hfit=>exact nle rfl);(case hov=>((repeat (first|with_reducible exact ov_nil|apply ov_cons));done));(case hu=>repeat (exact Upd.here _ _)))|fail)
  rename_i pb ob
  refine v_call (μ1:=twoR rb pb b bv a no k 0 0 0 zeroC (.slice none 0 0)) (μ2:=[(ob,.cells (recL 0 0 0 0 zeroC (.slice none 0 0)).toArray 42 (0,0))]) rfl (q pb b) (by apply perm_of_count;intro p;simp only [List.append_eq,List.countP_append,List.countP_cons,List.countP_nil,Nat.zero_add,Nat.add_zero];try ac_rfl) rfl ?_
  rintro _ G1 _ hle ⟨a',no',iv,rfl,hi,hr'⟩
  obtain ⟨A1,c1,rfl,-⟩:=hi.openInt
  repeat' (first|apply v_seq|apply v_region|apply v_nil|(apply v_read;(case hop=>(apply r_loadNo;(case hx=>rfl);(case h=>(repeat (first|exact mhd _|apply mtl)));(case hd=>(repeat (first|with_reducible exact dt_nil|apply dt_here)));(case hn=>rfl)));(case hd=>rfl))|(apply v_store;(case hp=>rfl);(case hx=>rfl);(case hc=>rfl);(case hsz=>rfl);(case h1=>rfl);(case hb=>(repeat (first|exact mhd _|apply mtl)));(case hfit=>exact nle rfl);(case hov=>((repeat (first|with_reducible exact ov_nil|apply ov_cons));done));(case hu=>repeat (first|exact Upd.here _ _|apply Upd.there)))|fail)
  refine v_retM [(rb,_)] (outsM_cell (vs:=recL k x.round x.node x.index x.cmd (.slice A1 x.image.length c1)) (e:=42) rfl rfl (by repeat (first|exact mhd _|apply mtl)) rfl) (by repeat (first|exact List.nil_sublist _|apply List.Sublist.cons_cons)) ?_
  exact ⟨⟨_,by rw [ek],hi⟩,a',no',rfl,hr'⟩
def decT (s:Option (List Int)):Rc × Option (List Int):=rdX (nV s - 16) (nS s)
def decTOk (s:Option (List Int)):Prop:=nS s ≠ none ∧ (17 ≤ nV s ∧ nV s ≤ 20) ∧ (decT s).2 = some [] ∧ chkI (decT s).1 = 0
theorem rdX_ok {k:Int} {s:Option (List Int)} (h:byteS s):(rdX k s).1.cmd.ok:=by
  have h1:=numS_b h 9223372036854775807
  have h2:=numS_b h1 9223372036854775807
  have h3:=numS_b h2 9223372036854775807
  unfold rdX
  split
  · exact zeroC_ok
  · split
    · exact (getW_ok _ h3 6).1
    · split
      · exact (getW_ok _ h1 6).1
      · exact zeroC_ok
def DecT (s:Option (List Int)) (r:Value) (G':GH) (μ':OH):Prop:=μ' = [] ∧ ∃ x v e,r = .tuple [v,.int .i64 e].toArray ∧ RcV G' x v ∧ ((decTOk s ∧ x = (decT s).1 ∧ e = 0) ∨ (¬ decTOk s ∧ x = zeroRc ∧ e ≠ 0))
theorem tdecode_s {G:GH} (hT:TabsG G) {l:List Int} {bv:Value} (hs:Sl G 1 (IntR .u8) bv l) (hl:l.length ≤ 1048000):Con Tryz.prog 152 #[bv] G [] (DecT (some l)):=by
  have hby:byteS (some l):=fun r hr x hx=>by cases hr;exact sl_byte hs x hx
  have hok:(decT (some l)).1.cmd.ok:=rdX_ok (numS_b hby _)
  have eT:decT (some l) = rdX (numV 9223372036854775807 (some l) - 16) (numS 9223372036854775807 (some l)):=rfl
  have eO:decTOk (some l) ↔ (numS 9223372036854775807 (some l) ≠ none ∧ (17 ≤ numV 9223372036854775807 (some l) ∧ numV 9223372036854775807 (some l) ≤ 20) ∧ (decT (some l)).2 = some [] ∧ chkI (decT (some l)).1 = 0):=Iff.rfl
  have hnb:=numV_b hby 9223372036854775807
  unfold DecT
  generalize decT (some l) = X at *
  generalize decTOk (some l) = OK at *
  obtain ⟨x,s'⟩:=X
  simp only at hok eO ⊢
  (refine v_enter Tryz.func152 rfl Tryz.ntmps152 rfl ?_;intro B _)
  repeat' (first|apply v_seq|apply v_region|apply v_nil|(apply v_pure;(case hop=>first|(apply p_move <;> rfl)|(apply p_assign <;> rfl)|fail);(case hd=>rfl))|(apply v_alloc;(case hz=>rfl);(case hd=>rfl);intro b)|fail)
  refine v_call (μ1:=[]) (μ2:=_) rfl (newReader_s hs hl) (List.Perm.refl _) rfl ?_
  rintro _ G1 _ - ⟨hle1,rb,bv1,rfl,rfl,hs1⟩
  have hr0:RdS l 0 0 (some l):=⟨by omega,.inr ⟨by simp,rfl⟩⟩
  repeat' (first|apply v_seq|apply v_region|apply v_nil|(apply v_pure;(case hop=>first|(apply p_move <;> rfl)|(apply p_assign <;> rfl)|fail);(case hd=>rfl))|fail)
  refine v_call (μ1:=[(rb,_)]) (μ2:=_) rfl (rdNumber_s rb _ _ 9223372036854775807 hs1 (by omega) hr0) (PickA.perm (by repeat (exact PickA.here _))) rfl ?_
  rintro _ _ _ - ⟨rfl,rfl,a1,no1,rfl,hr1⟩
  generalize numS 9223372036854775807 (some l) = s1 at *
  generalize numV 9223372036854775807 (some l) = fn at *
  have qe:=fun G no a=>rerr_s G rb bv1 a no
  repeat' (first|apply v_seq|apply v_region|apply v_nil|apply v_skip|(apply v_take;(case hg=>rfl))|(apply v_pass;(case hg=>rfl);(case hn=>rfl);(case hd=>rfl))|(apply v_pure;(case hop=>first|(apply p_move <;> rfl)|(apply p_gt <;> rfl)|(apply p_ne <;> rfl)|(apply p_le <;> rfl)|(apply p_assign <;> rfl)|(apply p_pickT <;> rfl)|(apply p_pickF <;> rfl)|(apply p_sub;(case hx=>rfl);(case hy=>rfl);(case h=>omega))|(apply p_build;(case hz=>rfl);(case hv=>(simp only [List.map_cons,List.map_nil];repeat (with_reducible exact evs_nil)));(case hb=>(apply bldL;repeat (exact bld_nil))))|fail);(case hd=>rfl))|(apply v_condT;(case hc=>rfl))|(apply v_cond;(case hc=>rfl);all_goals (intro h;(try simp only [reduceCtorEq,zzz] at h)))|(apply v_guardB;(case h1=>rfl);(case h2=>rfl);all_goals (intro h;(try simp only [reduceCtorEq,zzz] at h)))|(apply v_callK (hs:=qe _ _ _);(case ha=>rfl);(case hp=>exact (Pick.perm (by repeat (exact Pick.here _))));(case hd=>rfl))|(apply v_store;(case hp=>rfl);(case hx=>rfl);(case hc=>rfl);(case hsz=>rfl);(case h1=>rfl);(case hb=>(repeat (first|exact mhd _|apply mtl)));(case hfit=>exact nle rfl);(case hov=>((repeat (first|with_reducible exact ov_nil|apply ov_cons));done));(case hu=>repeat (first|exact Upd.here _ _|apply Upd.there)))|fail)
  · refine v_retM [] (outsM_cell_tmp (vs:=zeroRL) (e:=42) rfl rfl rfl (by repeat (first|exact mhd _|apply mtl)) rfl) (by repeat (exact List.nil_sublist _)) ?_
    obtain ⟨-,⟨h2,-⟩|⟨-,h2⟩⟩:=hr1
    · exact ⟨rfl,_,_,_,rfl,⟨_,rfl,Sl.nil⟩,.inr ⟨fun hh=>(eO.1 hh).1 h2,rfl,‹_›⟩⟩
    · exact absurd h2 ‹_›
  · refine v_retM [] (outsM_cell_tmp (vs:=zeroRL) (e:=42) rfl rfl rfl (by repeat (first|exact mhd _|apply mtl)) rfl) (by repeat (exact List.nil_sublist _)) ?_
    exact ⟨rfl,_,_,_,rfl,⟨_,rfl,Sl.nil⟩,.inr ⟨fun hh=>by have:=(eO.1 hh).2.1;omega,rfl,by decide⟩⟩
  · refine v_retM [] (outsM_cell_tmp (vs:=zeroRL) (e:=42) rfl rfl rfl (by repeat (first|exact mhd _|apply mtl)) rfl) (by repeat (exact List.nil_sublist _)) ?_
    exact ⟨rfl,_,_,_,rfl,⟨_,rfl,Sl.nil⟩,.inr ⟨fun hh=>by have:=(eO.1 hh).2.1;omega,rfl,by decide⟩⟩
  · have qr:=tread_s (rb:=rb) (k:=fn - 16) (by omega) hs1 (by omega) hr1
    rw [← eT] at qr
    simp only at qr
    refine v_call (μ1:=[(rb,_)]) (μ2:=_) rfl qr (PickA.perm (by repeat (exact PickA.here _))) rfl ?_
    rintro r2 G2 _ hle2 ⟨hx,a2,no2,rfl,hr2⟩
    obtain ⟨iv,rfl,hi⟩:=id hx
    obtain ⟨A1,c1,rfl,hlc1,hcm1,-⟩:=id hi.openInt
    simp only [maxLen] at hcm1
    have qc:=recCheck_s (hT.le (GH.le_trans hle1 hle2)) x.kind x.round x.node x.index x.cmd hok A1 x.image.length c1 (by omega)
    have hne:s1 ≠ none:=by
      obtain ⟨-,⟨h2,h3⟩|⟨h2,-⟩⟩:=hr1
      · exact absurd ‹no1 = 0› h3
      · rw [h2];simp
    unfold chkI at eO
    generalize recI x.kind x.round x.node x.index x.cmd x.image.length = o at *
    unfold recL
    repeat' (first|apply v_seq|apply v_region|apply v_nil|(apply v_pure;(case hop=>(apply p_move <;> rfl));(case hd=>rfl))|(apply v_alloc;(case hz=>rfl);(case hd=>rfl);intro b)|(apply v_store;(case hp=>rfl);(case hx=>rfl);(case hc=>rfl);(case hsz=>rfl);(case h1=>rfl);(case hb=>(repeat (exact mhd _)));(case hfit=>exact nle rfl);(case hov=>((repeat (first|with_reducible exact ov_nil|apply ov_cons));done));(case hu=>repeat (exact Upd.here _ _)))|fail)
    refine v_call (μ1:=[(rb,_)]) (μ2:=_) rfl (rdDone_s rb _ _ (hs1.mono hle2) (by omega) hr2) (PickA.perm (by repeat (first|exact PickA.here _|apply PickA.cons))) rfl ?_
    rintro _ _ _ - ⟨rfl,⟨ed,rfl,hed⟩,rfl⟩
    repeat' (first|apply v_seq|apply v_region|apply v_nil|apply v_skip|(apply v_pure;(case hop=>first|(apply p_move <;> rfl)|(apply p_eq <;> rfl)|(apply p_ne <;> rfl)|(apply p_assign <;> rfl)|(apply p_build;(case hz=>rfl);(case hv=>(simp only [List.map_cons,List.map_nil];repeat (with_reducible exact evs_nil)));(case hb=>(apply bldL;repeat (exact bld_nil))))|fail);(case hd=>rfl))|(apply v_cond;(case hc=>rfl);all_goals (intro h;(try simp only [reduceCtorEq,zzz] at h);first|(exfalso;omega)|skip))|(apply v_callJ (hs:=qc);(case ha=>rfl);(case hd=>rfl))|(apply v_read;(case hop=>(apply r_loadNo;(case hx=>rfl);(case h=>(repeat (first|exact mhd _|apply mtl)));(case hd=>(repeat (first|with_reducible exact dt_nil|apply dt_here)));(case hn=>rfl)));(case hd=>rfl))|(apply v_store;(case hp=>rfl);(case hx=>rfl);(case hc=>rfl);(case hsz=>rfl);(case h1=>rfl);(case hb=>(repeat (first|exact mhd _|apply mtl)));(case hfit=>exact nle rfl);(case hov=>((repeat (first|with_reducible exact ov_nil|apply ov_cons));done));(case hu=>repeat (first|exact Upd.here _ _|apply Upd.there)))|fail)
    · refine v_retM [] (outsM_cell_tmp (vs:=zeroRL) (e:=42) rfl rfl rfl (by repeat (first|exact mhd _|apply mtl)) rfl) (by repeat (exact List.nil_sublist _)) ?_
      exact ⟨rfl,_,_,_,rfl,⟨_,rfl,Sl.nil⟩,.inr ⟨fun hh=>absurd (eO.1 hh).2.2.2 ‹_›,rfl,‹_›⟩⟩
    · refine v_retM [] (outsM_cell_tmp (vs:=recL x.kind x.round x.node x.index x.cmd (.slice A1 x.image.length c1)) (e:=42) rfl rfl rfl (by repeat (first|exact mhd _|apply mtl)) rfl) (by repeat (exact List.nil_sublist _)) ?_
      exact ⟨rfl,_,_,_,rfl,hx,.inl ⟨eO.2 ⟨hne,by omega,hed.1 ‹_›,‹_›⟩,rfl,rfl⟩⟩
    · refine v_retM [] (outsM_cell_tmp (vs:=zeroRL) (e:=42) rfl rfl rfl (by repeat (first|exact mhd _|apply mtl)) rfl) (by repeat (exact List.nil_sublist _)) ?_
      exact ⟨rfl,_,_,_,rfl,⟨_,rfl,Sl.nil⟩,.inr ⟨fun hh=>absurd (hed.2 (eO.1 hh).2.2.1) ‹_›,rfl,‹_›⟩⟩
theorem enc_dec {l:List Int} (hb:byteS (some l)) (h:decOk (some l)):encL (decX (some l)) = l:=by
  obtain ⟨h1,h2,h3⟩:=h
  have b1:=numS_b hb 9223372036854775807
  have b2:=numS_b b1 9223372036854775807
  have b3:=numS_b b2 9223372036854775807
  have b4:=numS_b b3 9223372036854775807
  have key:∀ t,nS (nS (nS (nS (some l)))) = some t → l = vbytes (nV (some l)) ++ (vbytes (nV (nS (some l))) ++ (vbytes (nV (nS (nS (some l)))) ++ (vbytes (nV (nS (nS (nS (some l))))) ++ t))):=fun t ht=>by
    have q3:=num_inv b3 ht
    have q2:=num_inv b2 q3
    have q1:=num_inv b1 q2
    have q0:=num_inv hb q1
    exact Option.some.inj q0
  unfold decS at h1
  unfold decX encL headL
  by_cases h23:nV (some l) = 2 ∨ nV (some l) = 3
  · rw [if_pos h23] at h1 ⊢
    have:=key _ (getW_all _ b4 h1)
    have hk:putL (getK (nS (nS (nS (nS (some l))))) 6).1 6 = putW (wantB 1 (nV (nS (nS (nS (nS (some l))))))) (getK (nS (nS (nS (nS (some l))))) 6).1 6:=by unfold putL;rw [getW_kind]
    rw [if_pos h23,hk]
    simp only [List.append_nil,List.nil_append,List.append_assoc] at this ⊢
    exact this.symm
  · rw [if_neg h23] at h1 ⊢
    by_cases h4:nV (some l) = 4
    · rw [if_pos h4] at h1 ⊢
      have:=key _ (raw_inv b4 h1)
      rw [if_neg h23,if_pos h4]
      simp only [List.append_nil,List.nil_append,List.append_assoc] at this ⊢
      exact this.symm
    · rw [if_neg h4] at h1 ⊢
      have:=key _ h1
      rw [if_neg h23,if_neg h4]
      simp only [List.append_nil,List.nil_append,List.append_assoc] at this ⊢
      exact this.symm
theorem decX_kind (s:Option (List Int)):(decX s).kind = nV s:=by
  unfold decX
  split
  · rfl
  · split <;> rfl
theorem decOk_enc {x:Rc} (h:olderI x = 0) (hl:¬ x.large):decOk (some (encL x)):=by
  obtain ⟨h1,h2⟩:=dec_enc h hl
  have hk:=decX_kind (some (encL x))
  rw [h1] at hk
  obtain ⟨h3,-⟩:=older0 h
  obtain ⟨h4,-⟩:=rec0 h3
  exact ⟨h2,by rw [← hk];exact h4,by rw [h1];exact h⟩
theorem nz {v:Int} {r:List Int} (h0:0 ≤ v) (h1:v ≤ 9223372036854775807):nV (some (vbytes v ++ r)) = v ∧ nS (some (vbytes v ++ r)) = some r:=num_v r h0 h1
theorem decT_enc {x:Rc} (h:chkI x = 0):decTOk (some (encT x)) ∧ (decT (some (encT x))).1 = x:=by
  have h0:recI x.kind x.round x.node x.index x.cmd x.image.length = 0:=h
  obtain ⟨hk,hr,hi,hc,ho⟩:=rec0 h0
  obtain ⟨hfit,hsm,him,hsz⟩:=fits0 h0
  have hchk:=h
  obtain ⟨k,r,n,i,c,im⟩:=x
  simp only at hk hr hi hc ho him hsz
  unfold ranP mayP at hr
  have hcz:¬ (k = 2 ∨ k = 3) → c = zeroC:=fun hh=>Decidable.not_not.1 fun hn=>ho (.inr (.inr (.inl ⟨hh,hn⟩)))
  have hr0:0 ≤ r ∧ r ≤ 4294967296:=by unfold othP at ho;omega
  have hn0:0 ≤ n ∧ n ≤ 9:=by unfold othP at ho;omega
  have hi0:0 ≤ i ∧ i ≤ 4294967296:=by unfold othP at ho;omega
  have hz:¬ (k = 1 ∨ k = 2) → r = 0 ∧ n = 0:=fun hh=>Decidable.not_not.1 fun hn=>ho (.inl ⟨hh,hn⟩)
  have hiz:k = 1 → i = 0:=fun hh=>Decidable.not_not.1 fun hn=>ho (.inr (.inl ⟨hh,hn⟩))
  have himz:k ≠ 4 → im = []:=fun hh=>by
    have:im.length = 0:=by unfold othP at ho;omega
    exact List.eq_nil_of_length_eq_zero this
  have q0:=fun t=>nz (v:=k + 16) (r:=t) (by omega) (by omega)
  have q1:=fun t=>nz (v:=r) (r:=t) (by omega) (by omega)
  have q2:=fun t=>nz (v:=n) (r:=t) (by omega) (by omega)
  have q3:=fun t=>nz (v:=i) (r:=t) (by omega) (by omega)
  have key:decT (some (encT ⟨k,r,n,i,c,im⟩)) = (⟨k,r,n,i,c,im⟩,some []):=by
    unfold decT encT
    rw [(q0 _).1,(q0 _).2,show k + 16 - 16 = k by omega]
    obtain rfl|rfl|rfl|rfl:k = 1 ∨ k = 2 ∨ k = 3 ∨ k = 4:=by omega
    · rw [himz (by decide),hcz (by decide),hiz rfl]
      have e:tailT ⟨1,r,n,0,zeroC,[]⟩ = vbytes r ++ (vbytes n ++ []):=by simp [tailT]
      rw [e]
      simp only [rdX,q1,q2,if_true]
    · rw [himz (by decide)]
      have qc:=getV_put (v:=2) (c:=c) (hc (.inl rfl)) (.inr rfl) (by omega) []
      have e:tailT ⟨2,r,n,i,c,[]⟩ = vbytes r ++ (vbytes n ++ (vbytes i ++ (vbytes c.kind ++ putW (wantB 2 c.kind) c 6 ++ []))):=by simp [tailT]
      rw [e]
      simp only [rdX,q1,q2,q3,qc,if_true,Int.reduceEq,if_false]
    · obtain ⟨rfl,rfl⟩:=hz (by decide)
      rw [himz (by decide)]
      have qc:=getV_put (v:=2) (c:=c) (hc (.inr rfl)) (.inr rfl) (by omega) []
      have e:tailT ⟨3,0,0,i,c,[]⟩ = vbytes i ++ (vbytes c.kind ++ putW (wantB 2 c.kind) c 6 ++ []):=by simp [tailT]
      rw [e]
      simp only [rdX,q3,qc,if_true,Int.reduceEq,if_false]
    · obtain ⟨rfl,rfl⟩:=hz (by decide)
      rw [hcz (by decide)]
      have qc:=raw_v (most:=32768) im [] (by omega) (by omega)
      have e:tailT ⟨4,0,0,i,zeroC,im⟩ = vbytes i ++ (vbytes im.length ++ im ++ []):=by simp [tailT]
      rw [e]
      simp only [rdX,q3,qc,if_true,Int.reduceEq,if_false]
  rw [key]
  refine ⟨⟨?_,?_,by rw [key],by rw [key];exact hchk⟩,rfl⟩
  · unfold encT;rw [(q0 _).2];simp
  · unfold encT;rw [(q0 _).1];omega
theorem getT_inv {s:Option (List Int)} (hb:byteS s) {t:List Int} (h:(getT s).2 = some t):s = some (vbytes (getT s).1.kind ++ putW (wantB 2 (getT s).1.kind) (getT s).1 6 ++ t):=by
  have h1:=getW_all (wantB 2 (nV s)) hb h
  have hk:(getT s).1.kind = nV s:=getW_kind _ _ _
  rw [hk] at h1 ⊢
  exact h1
theorem encT_dec {l:List Int} (hb:byteS (some l)) (h:decTOk (some l)):encT (decT (some l)).1 = l:=by
  obtain ⟨h1,h2,h3,h4⟩:=h
  have b1:byteS (nS (some l)):=numS_b hb 9223372036854775807
  have b2:byteS (nS (nS (some l))):=numS_b b1 9223372036854775807
  have b3:byteS (nS (nS (nS (some l)))):=numS_b b2 9223372036854775807
  have b4:byteS (nS (nS (nS (nS (some l))))):=numS_b b3 9223372036854775807
  unfold decT at h3 ⊢
  obtain ⟨t,ht⟩:∃ t,nS (some l) = some t:=by
    cases hh:nS (some l) with
    | none=>exact absurd hh h1
    | some t=>exact ⟨t,rfl⟩
  have q0:=Option.some.inj (num_inv hb ht)
  have key:encT (rdX (nV (some l) - 16) (nS (some l))).1 = vbytes (nV (some l)) ++ tailT (rdX (nV (some l) - 16) (nS (some l))).1:=by
    have ek:(rdX (nV (some l) - 16) (nS (some l))).1.kind = nV (some l) - 16:=by unfold rdX;(repeat' split) <;> rfl
    rw [encT,ek,show nV (some l) - 16 + 16 = nV (some l) by omega]
  rw [key]
  have fin:tailT (rdX (nV (some l) - 16) (nS (some l))).1 = t:=by
    have ht':=ht
    generalize nS (some l) = s1 at *
    obtain hk|hk|hk|hk:nV (some l) - 16 = 1 ∨ nV (some l) - 16 = 2 ∨ nV (some l) - 16 = 3 ∨ nV (some l) - 16 = 4:=by omega
    all_goals
      rw [hk] at h3 ⊢
      simp only [rdX,if_true,Int.reduceEq,if_false] at h3 ⊢
    · have q2:=num_inv b2 h3
      have q1:=num_inv b1 q2
      rw [ht'] at q1
      have q1:=Option.some.inj q1
      rw [q1]
      subst ht'
      simp [tailT]
    · have q4:=getT_inv b4 h3
      have q3:=num_inv b3 q4
      have q2:=num_inv b2 q3
      have q1:=num_inv b1 q2
      rw [ht'] at q1
      have q1:=Option.some.inj q1
      rw [q1]
      subst ht'
      simp [tailT]
    · have q4:=getT_inv b2 h3
      have q1:=num_inv b1 q4
      rw [ht'] at q1
      have q1:=Option.some.inj q1
      rw [q1]
      subst ht'
      simp [tailT]
    · have q4:=raw_inv b2 h3
      have q1:=num_inv b1 q4
      rw [ht'] at q1
      have q1:=Option.some.inj q1
      rw [q1]
      subst ht'
      simp [tailT]
  rw [fin,← q0]
theorem pbytes_wf {c:Cm} (hc:c.ok) (hk:c.key.size ≤ 1000) (hv:c.val.size ≤ 1000) (ho:c.old.size ≤ 1000) (j:Nat):∀ y ∈ pbytes c j,(Lit.int .u8 y).wf = true:=by
  obtain ⟨hk1,hc1,hs1,-,-,-,hn1⟩:=hc
  simp [Lit.wf,IntKind.min,IntKind.max,IntKind.signed,IntKind.bits] at hk1 hc1 hs1 hn1
  unfold pbytes
  split
  · exact fun y hy=>vbytes_wf (by unfold Cm.num;split <;> omega) y hy
  · exact tbytes_wf _ (by unfold Cm.txt;split <;> omega)
theorem putW_wf {w:Nat → Bool} {c:Cm} (hc:c.ok) (hk:c.key.size ≤ 1000) (hv:c.val.size ≤ 1000) (ho:c.old.size ≤ 1000):∀ k,∀ y ∈ putW w c k,(Lit.int .u8 y).wf = true
  | 0,y,hy=>by simp [putW] at hy
  | k + 1,y,hy=>by
    rw [putW] at hy
    rcases List.mem_append.1 hy with hy|hy
    · exact putW_wf hc hk hv ho k y hy
    · split at hy
      · exact pbytes_wf hc hk hv ho k y hy
      · cases hy
theorem rtwo_s {G:GH} {x:Rc} {xv:Value} (hx:RcV G x xv) (hc:x.cmd.ok) (hl:x.fits) (hw:x.small) (hk:1 ≤ x.kind ∧ x.kind ≤ 4):Con Tryz.prog 57 #[.int .i64 2,xv] G [] (fun r G' μ'=>GH.le G G' ∧ Grow 5 1 r (encT x).length ((encT x).map (.int .u8 ·)) μ'):=by
  have hcok:=hc
  have hfit:=hl
  unfold Rc.fits at hl
  have hcw:∀ y ∈ vbytes x.cmd.kind ++ putW (wantB 2 x.cmd.kind) x.cmd 6,(Lit.int .u8 y).wf = true:=fun y hy=>by
    rcases List.mem_append.1 hy with hy|hy
    · obtain ⟨hk1,-⟩:=hc
      simp [Lit.wf,IntKind.min,IntKind.max,IntKind.signed,IntKind.bits] at hk1
      exact vbytes_wf (by omega) y hy
    · exact putW_wf hc (by omega) (by omega) (by omega) 6 y hy
  have hcl:=putW_len (wantB 2 x.cmd.kind) x.cmd (by omega) (by omega) (by omega) 6
  unfold Rc.small at hw
  obtain ⟨hw1,hw2,hw3,hw4⟩:=hw
  obtain ⟨iv,rfl,hi⟩:=hx
  have hL0:=(vbytes_len (x.kind + 16)).1
  have hL1:=(vbytes_len x.round).1
  have hL2:=(vbytes_len x.node).1
  have hL3:=(vbytes_len x.index).1
  have hL4:=(vbytes_len x.cmd.kind).1
  have hL5:=(vbytes_len (x.image.length:Nat)).1
  have qb:=fun G=>hasBallot_s G x.kind
  have qi:=fun G=>hasIndex_s G x.kind
  have qh:=fun G=>hasCmd_s G x.kind
  obtain ⟨A,c,rfl,-⟩:=id hi.openInt
  (refine v_enter Tryz.func57 rfl Tryz.ntmps57 rfl ?_;intro B _)
  repeat' (first|apply v_seq|apply v_region|apply v_nil|apply v_skip|(apply v_pure;(case hop=>first|(apply p_move <;> rfl)|(apply p_nes <;> rfl)|(apply p_assign <;> rfl)|(apply p_fieldAddrB <;> rfl)|(apply p_add;(case hx=>rfl);(case hy=>rfl);(case h=>omega))|fail);(case hd=>rfl))|(apply v_condF;(case hc=>rfl))|(apply v_box (zs:=recL x.kind x.round x.node x.index x.cmd (.slice A x.image.length c));(case hx=>rfl);(case hz=>rfl);(case hd=>rfl);intro rb)|(apply v_read;(case hop=>(apply r_load1;rfl;(apply Cell.own;(case h=>(repeat (exact mhd _)));rfl)));(case hd=>rfl))|fail)
  refine v_call (μ1:=[]) (μ2:=_) rfl (rnum_s _ (x.kind + 16) (by omega)) (List.Perm.refl _) rfl ?_
  rintro v0 G0 ν0 - ⟨rfl,ho0⟩
  obtain hkk|hkk|hkk|hkk:x.kind = 1 ∨ x.kind = 2 ∨ x.kind = 3 ∨ x.kind = 4:=by omega
  · repeat' (first|apply v_seq|apply v_region|apply v_nil|(apply v_pure;(case hop=>first|(apply p_move <;> rfl)|(apply p_assign <;> rfl)|(apply p_fieldAddrB <;> rfl)|fail);(case hd=>rfl))|(apply v_cond;(case hc=>rfl);all_goals (intro h;(try simp only [reduceCtorEq,zzz] at h);first|(exfalso;omega)|skip))|(apply v_callJ (hs:=qb _);(case ha=>rfl);(case hd=>rfl))|(apply v_read;(case hop=>(apply r_load1;rfl;(apply Cell.own;(case h=>(repeat (first|exact mhd _|apply List.mem_append_right)));rfl)));(case hd=>rfl))|fail)
    refine v_call (μ1:=[]) (μ2:=_) rfl (rnum_s _ x.round (by omega)) (List.Perm.refl _) rfl ?_
    rintro r1 G1 μ1 - ⟨rfl,hg1⟩
    refine v_frz μ1 (by repeat (exact PickA.here _)) ?_
    intro H1 hle1 hG1
    have hs1:Sl H1 1 (IntR .u8) r1 (vbytes x.round):=hg1.ints hG1 (fun x hx=>vbytes_wf (by omega) x hx)
    have hsrc1:=fun μ=>Src.ints (μ:=μ) hs1
    obtain ⟨A1,c1,rfl,-,-⟩:=hg1.shape
    repeat' (fail)
    refine v_append (e:=5) (sz:=1) (zero:=.int .u8 0) rfl (by omega) rfl rfl ho0 (PickA.perm (by repeat (exact PickA.here _))) (hsrc1 _) (allOne_ints _) (by (try simp only [List.length_append,sbytes_length]);omega) (by simp only [maxLen];(try simp only [List.length_append,sbytes_length]);omega) rfl fun v1 ν1 ho1=>?_
    rw [← List.map_append,← List.length_append] at ho1
    repeat' (first|apply v_region|apply v_nil|(apply v_pure;(case hop=>first|(apply p_move <;> rfl)|(apply p_assign <;> rfl)|(apply p_fieldAddrB <;> rfl)|fail);(case hd=>rfl))|(apply v_read;(case hop=>(apply r_load1;rfl;(apply Cell.own;(case h=>(repeat (first|exact mhd _|apply List.mem_append_right)));rfl)));(case hd=>rfl))|fail)
    refine v_call (μ1:=[]) (μ2:=_) rfl (rnum_s _ x.node (by omega)) (List.Perm.refl _) rfl ?_
    rintro r2 G2 μ2 - ⟨rfl,hg2⟩
    refine v_frz μ2 (by repeat (exact PickA.here _)) ?_
    intro H2 hle2 hG2
    have hs2:Sl H2 1 (IntR .u8) r2 (vbytes x.node):=hg2.ints hG2 (fun x hx=>vbytes_wf (by omega) x hx)
    have hsrc2:=fun μ=>Src.ints (μ:=μ) hs2
    obtain ⟨A2,c2,rfl,-,-⟩:=hg2.shape
    repeat' (fail)
    refine v_append (e:=5) (sz:=1) (zero:=.int .u8 0) rfl (by omega) rfl rfl ho1 (PickA.perm (by repeat (exact PickA.here _))) (hsrc2 _) (allOne_ints _) (by (try simp only [List.length_append,sbytes_length]);omega) (by simp only [maxLen];(try simp only [List.length_append,sbytes_length]);omega) rfl fun v2 ν2 ho2=>?_
    rw [← List.map_append,← List.length_append] at ho2
    repeat' (first|apply v_seq|apply v_region|apply v_nil|apply v_skip|(apply v_pure;(case hop=>first|(apply p_move <;> rfl)|(apply p_eq <;> rfl)|(apply p_assign <;> rfl)|(apply p_fieldAddrB <;> rfl)|fail);(case hd=>rfl))|(apply v_cond;(case hc=>rfl);all_goals (intro h;(try simp only [reduceCtorEq,zzz] at h);first|(exfalso;omega)|skip))|(apply v_callJ (hs:=qi _);(case ha=>rfl);(case hd=>rfl))|(apply v_callJ (hs:=qh _);(case ha=>rfl);(case hd=>rfl))|(apply v_read;(case hop=>(apply r_load1;rfl;(apply Cell.own;(case h=>(repeat (first|exact mhd _|apply List.mem_append_right)));rfl)));(case hd=>rfl))|fail)
    have el:encT x = vbytes (x.kind + 16) ++ (vbytes x.round) ++ (vbytes x.node):=by unfold encT tailT;rw [hkk];simp
    rw [el]
    refine v_ret ν2 (outsA1 rfl rfl) (by repeat (exact List.sublist_append_left _ _)) ?_
    exact ⟨fun b o h'=>hle2 b o (hle1 b o h'),by simpa using ho2⟩
  · repeat' (first|apply v_seq|apply v_region|apply v_nil|(apply v_pure;(case hop=>first|(apply p_move <;> rfl)|(apply p_assign <;> rfl)|(apply p_fieldAddrB <;> rfl)|fail);(case hd=>rfl))|(apply v_cond;(case hc=>rfl);all_goals (intro h;(try simp only [reduceCtorEq,zzz] at h);first|(exfalso;omega)|skip))|(apply v_callJ (hs:=qb _);(case ha=>rfl);(case hd=>rfl))|(apply v_read;(case hop=>(apply r_load1;rfl;(apply Cell.own;(case h=>(repeat (first|exact mhd _|apply List.mem_append_right)));rfl)));(case hd=>rfl))|fail)
    refine v_call (μ1:=[]) (μ2:=_) rfl (rnum_s _ x.round (by omega)) (List.Perm.refl _) rfl ?_
    rintro r1 G1 μ1 - ⟨rfl,hg1⟩
    refine v_frz μ1 (by repeat (exact PickA.here _)) ?_
    intro H1 hle1 hG1
    have hs1:Sl H1 1 (IntR .u8) r1 (vbytes x.round):=hg1.ints hG1 (fun x hx=>vbytes_wf (by omega) x hx)
    have hsrc1:=fun μ=>Src.ints (μ:=μ) hs1
    obtain ⟨A1,c1,rfl,-,-⟩:=hg1.shape
    repeat' (fail)
    refine v_append (e:=5) (sz:=1) (zero:=.int .u8 0) rfl (by omega) rfl rfl ho0 (PickA.perm (by repeat (exact PickA.here _))) (hsrc1 _) (allOne_ints _) (by (try simp only [List.length_append,sbytes_length]);omega) (by simp only [maxLen];(try simp only [List.length_append,sbytes_length]);omega) rfl fun v1 ν1 ho1=>?_
    rw [← List.map_append,← List.length_append] at ho1
    repeat' (first|apply v_region|apply v_nil|(apply v_pure;(case hop=>first|(apply p_move <;> rfl)|(apply p_assign <;> rfl)|(apply p_fieldAddrB <;> rfl)|fail);(case hd=>rfl))|(apply v_read;(case hop=>(apply r_load1;rfl;(apply Cell.own;(case h=>(repeat (first|exact mhd _|apply List.mem_append_right)));rfl)));(case hd=>rfl))|fail)
    refine v_call (μ1:=[]) (μ2:=_) rfl (rnum_s _ x.node (by omega)) (List.Perm.refl _) rfl ?_
    rintro r2 G2 μ2 - ⟨rfl,hg2⟩
    refine v_frz μ2 (by repeat (exact PickA.here _)) ?_
    intro H2 hle2 hG2
    have hs2:Sl H2 1 (IntR .u8) r2 (vbytes x.node):=hg2.ints hG2 (fun x hx=>vbytes_wf (by omega) x hx)
    have hsrc2:=fun μ=>Src.ints (μ:=μ) hs2
    obtain ⟨A2,c2,rfl,-,-⟩:=hg2.shape
    repeat' (fail)
    refine v_append (e:=5) (sz:=1) (zero:=.int .u8 0) rfl (by omega) rfl rfl ho1 (PickA.perm (by repeat (exact PickA.here _))) (hsrc2 _) (allOne_ints _) (by (try simp only [List.length_append,sbytes_length]);omega) (by simp only [maxLen];(try simp only [List.length_append,sbytes_length]);omega) rfl fun v2 ν2 ho2=>?_
    rw [← List.map_append,← List.length_append] at ho2
    repeat' (first|apply v_seq|apply v_region|apply v_nil|(apply v_pure;(case hop=>first|(apply p_move <;> rfl)|(apply p_assign <;> rfl)|(apply p_fieldAddrB <;> rfl)|fail);(case hd=>rfl))|(apply v_cond;(case hc=>rfl);all_goals (intro h;(try simp only [reduceCtorEq,zzz] at h);first|(exfalso;omega)|skip))|(apply v_callJ (hs:=qi _);(case ha=>rfl);(case hd=>rfl))|(apply v_read;(case hop=>(apply r_load1;rfl;(apply Cell.own;(case h=>(repeat (first|exact mhd _|apply List.mem_append_right)));rfl)));(case hd=>rfl))|fail)
    refine v_call (μ1:=[]) (μ2:=_) rfl (rnum_s _ x.index (by omega)) (List.Perm.refl _) rfl ?_
    rintro r3 G3 μ3 - ⟨rfl,hg3⟩
    refine v_frz μ3 (by repeat (exact PickA.here _)) ?_
    intro H3 hle3 hG3
    have hs3:Sl H3 1 (IntR .u8) r3 (vbytes x.index):=hg3.ints hG3 (fun x hx=>vbytes_wf (by omega) x hx)
    have hsrc3:=fun μ=>Src.ints (μ:=μ) hs3
    obtain ⟨A3,c3,rfl,-,-⟩:=hg3.shape
    repeat' (fail)
    refine v_append (e:=5) (sz:=1) (zero:=.int .u8 0) rfl (by omega) rfl rfl ho2 (PickA.perm (by repeat (exact PickA.here _))) (hsrc3 _) (allOne_ints _) (by (try simp only [List.length_append,sbytes_length]);omega) (by simp only [maxLen];(try simp only [List.length_append,sbytes_length]);omega) rfl fun v3 ν3 ho3=>?_
    rw [← List.map_append,← List.length_append] at ho3
    repeat' (first|apply v_seq|apply v_region|apply v_nil|(apply v_pure;(case hop=>first|(apply p_move <;> rfl)|(apply p_assign <;> rfl)|(apply p_fieldAddrB <;> rfl)|fail);(case hd=>rfl))|(apply v_cond;(case hc=>rfl);all_goals (intro h;(try simp only [reduceCtorEq,zzz] at h);first|(exfalso;omega)|skip))|(apply v_callJ (hs:=qh _);(case ha=>rfl);(case hd=>rfl))|(apply v_read;(case hop=>first|(apply r_loadNo;(case hx=>rfl);(case h=>(repeat (first|exact mhd _|apply List.mem_append_right)));(case hd=>(repeat (first|with_reducible exact dt_nil|apply dt_here)));(case hn=>rfl))|(apply r_load1;rfl;(apply Cell.own;(case h=>(repeat (first|exact mhd _|apply List.mem_append_right)));rfl))|fail);(case hd=>rfl))|fail)
    refine v_call (μ1:=[]) (μ2:=_) rfl (rcmdV_s _ 2 x.cmd hc (by omega) (by omega) (by omega)) (List.Perm.refl _) rfl ?_
    rintro r4 G4 μ4 - ⟨hleR4,hg4⟩
    refine v_frz μ4 (by repeat (exact PickA.here _)) ?_
    intro H4 hle4 hG4
    have hs4:Sl H4 1 (IntR .u8) r4 (vbytes x.cmd.kind ++ putW (wantB 2 x.cmd.kind) x.cmd 6):=hg4.ints hG4 hcw
    have hsrc4:=fun μ=>Src.ints (μ:=μ) hs4
    obtain ⟨A4,c4,rfl,-,-⟩:=hg4.shape
    repeat' (fail)
    refine v_append (e:=5) (sz:=1) (zero:=.int .u8 0) rfl (by omega) rfl rfl ho3 (PickA.perm (by repeat (exact PickA.here _))) (hsrc4 _) (allOne_ints _) (by (try simp only [List.length_append,sbytes_length]);omega) (by simp only [maxLen];(try simp only [List.length_append,sbytes_length]);omega) rfl fun v4 ν4 ho4=>?_
    rw [← List.map_append,← List.length_append] at ho4
    repeat' (first|apply v_seq|apply v_region|apply v_nil|apply v_skip|(apply v_pure;(case hop=>first|(apply p_move <;> rfl)|(apply p_eq <;> rfl)|(apply p_assign <;> rfl)|(apply p_fieldAddrB <;> rfl)|fail);(case hd=>rfl))|(apply v_cond;(case hc=>rfl);all_goals (intro h;(try simp only [reduceCtorEq,zzz] at h);first|(exfalso;omega)|skip))|(apply v_read;(case hop=>(apply r_load1;rfl;(apply Cell.own;(case h=>(repeat (first|exact mhd _|apply List.mem_append_right)));rfl)));(case hd=>rfl))|fail)
    have el:encT x = vbytes (x.kind + 16) ++ (vbytes x.round) ++ (vbytes x.node) ++ (vbytes x.index) ++ (vbytes x.cmd.kind ++ putW (wantB 2 x.cmd.kind) x.cmd 6):=by unfold encT tailT;rw [hkk];simp
    rw [el]
    refine v_ret ν4 (outsA1 rfl rfl) (by repeat (exact List.sublist_append_left _ _)) ?_
    exact ⟨fun b o h'=>hle4 b o (hleR4 b o (hle3 b o (hle2 b o (hle1 b o h')))),by simpa using ho4⟩
  · repeat' (first|apply v_seq|apply v_region|apply v_nil|apply v_skip|(apply v_pure;(case hop=>first|(apply p_move <;> rfl)|(apply p_assign <;> rfl)|(apply p_fieldAddrB <;> rfl)|fail);(case hd=>rfl))|(apply v_cond;(case hc=>rfl);all_goals (intro h;(try simp only [reduceCtorEq,zzz] at h);first|(exfalso;omega)|skip))|(apply v_callJ (hs:=qb _);(case ha=>rfl);(case hd=>rfl))|(apply v_callJ (hs:=qi _);(case ha=>rfl);(case hd=>rfl))|(apply v_read;(case hop=>(apply r_load1;rfl;(apply Cell.own;(case h=>(repeat (first|exact mhd _|apply List.mem_append_right)));rfl)));(case hd=>rfl))|fail)
    refine v_call (μ1:=[]) (μ2:=_) rfl (rnum_s _ x.index (by omega)) (List.Perm.refl _) rfl ?_
    rintro r1 G1 μ1 - ⟨rfl,hg1⟩
    refine v_frz μ1 (by repeat (exact PickA.here _)) ?_
    intro H1 hle1 hG1
    have hs1:Sl H1 1 (IntR .u8) r1 (vbytes x.index):=hg1.ints hG1 (fun x hx=>vbytes_wf (by omega) x hx)
    have hsrc1:=fun μ=>Src.ints (μ:=μ) hs1
    obtain ⟨A1,c1,rfl,-,-⟩:=hg1.shape
    repeat' (fail)
    refine v_append (e:=5) (sz:=1) (zero:=.int .u8 0) rfl (by omega) rfl rfl ho0 (PickA.perm (by repeat (exact PickA.here _))) (hsrc1 _) (allOne_ints _) (by (try simp only [List.length_append,sbytes_length]);omega) (by simp only [maxLen];(try simp only [List.length_append,sbytes_length]);omega) rfl fun v1 ν1 ho1=>?_
    rw [← List.map_append,← List.length_append] at ho1
    repeat' (first|apply v_seq|apply v_region|apply v_nil|(apply v_pure;(case hop=>first|(apply p_move <;> rfl)|(apply p_assign <;> rfl)|(apply p_fieldAddrB <;> rfl)|fail);(case hd=>rfl))|(apply v_cond;(case hc=>rfl);all_goals (intro h;(try simp only [reduceCtorEq,zzz] at h);first|(exfalso;omega)|skip))|(apply v_callJ (hs:=qh _);(case ha=>rfl);(case hd=>rfl))|(apply v_read;(case hop=>first|(apply r_loadNo;(case hx=>rfl);(case h=>(repeat (first|exact mhd _|apply List.mem_append_right)));(case hd=>(repeat (first|with_reducible exact dt_nil|apply dt_here)));(case hn=>rfl))|(apply r_load1;rfl;(apply Cell.own;(case h=>(repeat (first|exact mhd _|apply List.mem_append_right)));rfl))|fail);(case hd=>rfl))|fail)
    refine v_call (μ1:=[]) (μ2:=_) rfl (rcmdV_s _ 2 x.cmd hc (by omega) (by omega) (by omega)) (List.Perm.refl _) rfl ?_
    rintro r2 G2 μ2 - ⟨hleR2,hg2⟩
    refine v_frz μ2 (by repeat (exact PickA.here _)) ?_
    intro H2 hle2 hG2
    have hs2:Sl H2 1 (IntR .u8) r2 (vbytes x.cmd.kind ++ putW (wantB 2 x.cmd.kind) x.cmd 6):=hg2.ints hG2 hcw
    have hsrc2:=fun μ=>Src.ints (μ:=μ) hs2
    obtain ⟨A2,c2,rfl,-,-⟩:=hg2.shape
    repeat' (fail)
    refine v_append (e:=5) (sz:=1) (zero:=.int .u8 0) rfl (by omega) rfl rfl ho1 (PickA.perm (by repeat (exact PickA.here _))) (hsrc2 _) (allOne_ints _) (by (try simp only [List.length_append,sbytes_length]);omega) (by simp only [maxLen];(try simp only [List.length_append,sbytes_length]);omega) rfl fun v2 ν2 ho2=>?_
    rw [← List.map_append,← List.length_append] at ho2
    repeat' (first|apply v_seq|apply v_region|apply v_nil|apply v_skip|(apply v_pure;(case hop=>first|(apply p_move <;> rfl)|(apply p_eq <;> rfl)|(apply p_assign <;> rfl)|(apply p_fieldAddrB <;> rfl)|fail);(case hd=>rfl))|(apply v_cond;(case hc=>rfl);all_goals (intro h;(try simp only [reduceCtorEq,zzz] at h);first|(exfalso;omega)|skip))|(apply v_read;(case hop=>(apply r_load1;rfl;(apply Cell.own;(case h=>(repeat (first|exact mhd _|apply List.mem_append_right)));rfl)));(case hd=>rfl))|fail)
    have el:encT x = vbytes (x.kind + 16) ++ (vbytes x.index) ++ (vbytes x.cmd.kind ++ putW (wantB 2 x.cmd.kind) x.cmd 6):=by unfold encT tailT;rw [hkk];simp
    rw [el]
    refine v_ret ν2 (outsA1 rfl rfl) (by repeat (exact List.sublist_append_left _ _)) ?_
    exact ⟨fun b o h'=>hle2 b o (hleR2 b o (hle1 b o h')),by simpa using ho2⟩
  · repeat' (first|apply v_seq|apply v_region|apply v_nil|apply v_skip|(apply v_pure;(case hop=>first|(apply p_move <;> rfl)|(apply p_assign <;> rfl)|(apply p_fieldAddrB <;> rfl)|fail);(case hd=>rfl))|(apply v_cond;(case hc=>rfl);all_goals (intro h;(try simp only [reduceCtorEq,zzz] at h);first|(exfalso;omega)|skip))|(apply v_callJ (hs:=qb _);(case ha=>rfl);(case hd=>rfl))|(apply v_callJ (hs:=qi _);(case ha=>rfl);(case hd=>rfl))|(apply v_read;(case hop=>(apply r_load1;rfl;(apply Cell.own;(case h=>(repeat (first|exact mhd _|apply List.mem_append_right)));rfl)));(case hd=>rfl))|fail)
    refine v_call (μ1:=[]) (μ2:=_) rfl (rnum_s _ x.index (by omega)) (List.Perm.refl _) rfl ?_
    rintro r1 G1 μ1 - ⟨rfl,hg1⟩
    refine v_frz μ1 (by repeat (exact PickA.here _)) ?_
    intro H1 hle1 hG1
    have hs1:Sl H1 1 (IntR .u8) r1 (vbytes x.index):=hg1.ints hG1 (fun x hx=>vbytes_wf (by omega) x hx)
    have hsrc1:=fun μ=>Src.ints (μ:=μ) hs1
    obtain ⟨A1,c1,rfl,-,-⟩:=hg1.shape
    repeat' (fail)
    refine v_append (e:=5) (sz:=1) (zero:=.int .u8 0) rfl (by omega) rfl rfl ho0 (PickA.perm (by repeat (exact PickA.here _))) (hsrc1 _) (allOne_ints _) (by (try simp only [List.length_append,sbytes_length]);omega) (by simp only [maxLen];(try simp only [List.length_append,sbytes_length]);omega) rfl fun v1 ν1 ho1=>?_
    rw [← List.map_append,← List.length_append] at ho1
    repeat' (first|apply v_seq|apply v_region|apply v_nil|apply v_skip|(apply v_pure;(case hop=>first|(apply p_move <;> rfl)|(apply p_eq <;> rfl)|(apply p_assign <;> rfl)|(apply p_lenSlice <;> rfl)|(apply p_fieldAddrB <;> rfl)|fail);(case hd=>rfl))|(apply v_cond;(case hc=>rfl);all_goals (intro h;(try simp only [reduceCtorEq,zzz] at h);first|(exfalso;omega)|skip))|(apply v_callJ (hs:=qh _);(case ha=>rfl);(case hd=>rfl))|(apply v_read;(case hop=>(apply r_load1;rfl;(apply Cell.own;(case h=>(repeat (first|exact mhd _|apply List.mem_append_right)));rfl)));(case hd=>rfl))|fail)
    refine v_call (μ1:=[]) (μ2:=_) rfl (rnum_s _ (x.image.length:Nat) (by omega)) (List.Perm.refl _) rfl ?_
    rintro r2 G2 μ2 - ⟨rfl,hg2⟩
    refine v_frz μ2 (by repeat (exact PickA.here _)) ?_
    intro H2 hle2 hG2
    have hs2:Sl H2 1 (IntR .u8) r2 (vbytes (x.image.length:Nat)):=hg2.ints hG2 (fun x hx=>vbytes_wf (by omega) x hx)
    have hsrc2:=fun μ=>Src.ints (μ:=μ) hs2
    obtain ⟨A2,c2,rfl,-,-⟩:=hg2.shape
    repeat' (fail)
    refine v_append (e:=5) (sz:=1) (zero:=.int .u8 0) rfl (by omega) rfl rfl ho1 (PickA.perm (by repeat (exact PickA.here _))) (hsrc2 _) (allOne_ints _) (by (try simp only [List.length_append,sbytes_length]);omega) (by simp only [maxLen];(try simp only [List.length_append,sbytes_length]);omega) rfl fun v2 ν2 ho2=>?_
    rw [← List.map_append,← List.length_append] at ho2
    repeat' (first|apply v_region|apply v_nil|(apply v_pure;(case hop=>first|(apply p_move <;> rfl)|(apply p_assign <;> rfl)|(apply p_fieldAddrB <;> rfl)|fail);(case hd=>rfl))|(apply v_read;(case hop=>(apply r_load1;rfl;(apply Cell.own;(case h=>(repeat (first|exact mhd _|apply List.mem_append_right)));rfl)));(case hd=>rfl))|fail)
    have hsi:=fun μ=>Src.ints (μ:=μ) ((hi.mono hle1).mono hle2)
    refine v_append (e:=5) (sz:=1) (zero:=.int .u8 0) rfl (by omega) rfl rfl ho2 (PickA.perm (by repeat (exact PickA.here _))) (hsi _) (allOne_ints _) (by (try simp only [List.length_append,sbytes_length]);omega) (by simp only [maxLen];(try simp only [List.length_append,sbytes_length]);omega) rfl fun v3 ν3 ho3=>?_
    rw [← List.map_append,← List.length_append] at ho3
    repeat' (first|apply v_seq|apply v_region|apply v_nil|(apply v_pure;(case hop=>first|(apply p_move <;> rfl)|(apply p_assign <;> rfl)|fail);(case hd=>rfl))|fail)
    have el:encT x = vbytes (x.kind + 16) ++ (vbytes x.index) ++ (vbytes (x.image.length:Nat)) ++ x.image:=by unfold encT tailT;rw [hkk];simp
    rw [el]
    refine v_ret ν3 (outsA1 rfl rfl) (by repeat (exact List.sublist_append_left _ _)) ?_
    exact ⟨fun b o h'=>hle2 b o (hle1 b o h'),by simpa using ho3⟩
noncomputable def hasI (v:Int) (x:Rc):Int:=if recI x.kind x.round x.node x.index x.cmd x.image.length ≠ 0 then recI x.kind x.round x.node x.index x.cmd x.image.length else if (x.kind = 2 ∨ x.kind = 3) ∧ ¬ HasV v x.cmd.kind then 8 else 0
theorem hasI_one (x:Rc):hasI 1 x = olderI x:=rfl
theorem hasI_two (x:Rc):hasI 2 x = chkI x:=by
  unfold hasI chkI
  by_cases h0:recI x.kind x.round x.node x.index x.cmd x.image.length = 0
  · rw [if_neg (by rw [h0];decide),h0,if_neg]
    rintro ⟨hk,hn⟩
    have:=(cmd0 ((rec0 h0).2.2.2.1 hk)).1
    exact hn (.inr ⟨rfl,by omega⟩)
  · rw [if_pos h0]
theorem refHasV_s {G:GH} (v:Int) {x:Rc} {xv:Value} (hx:RcV G x xv) (hc:x.cmd.ok):Con Tryz.prog 51 #[.int .i64 v,xv] G [] (Just (.int .i64 (hasI v x)) G):=by
  obtain ⟨k,r,n,i,c,im⟩:=x
  obtain ⟨iv,rfl,hi⟩:=hx
  obtain ⟨A,cp,rfl,hlc,hcm,_⟩:=hi.openInt
  simp only [maxLen] at hcm
  simp only at hc hlc hi
  have q:=refRecCheck_s (G:=G) k r n i c hc A im.length cp (by omega)
  have qf:=hasCmd_s G k
  have qv:=refVHas_s G v c.kind
  have ho:hasI v ⟨k,r,n,i,c,im⟩ = if recI k r n i c im.length ≠ 0 then recI k r n i c im.length else if (k = 2 ∨ k = 3) ∧ ¬ HasV v c.kind then 8 else 0:=rfl
  rw [ho]
  generalize recI k r n i c im.length = I at *
  apply Con.just
  (refine v_enter Tryz.func51 rfl Tryz.ntmps51 rfl ?_;intro B _)
  repeat' (first|apply v_seq|apply v_region|apply v_nil|apply v_skip|(apply v_take;(case hg=>rfl))|(apply v_pass;(case hg=>rfl);(case hn=>rfl);(case hd=>rfl))|(apply v_pure;(case hop=>first|(apply p_move <;> rfl)|(apply p_ne <;> rfl)|(apply p_assign <;> rfl)|(apply p_pickT <;> rfl)|(apply p_pickF <;> rfl)|(apply p_not <;> rfl)|(apply p_fieldAddrB <;> rfl)|fail);(case hd=>rfl))|(apply v_condF;(case hc=>rfl))|(apply v_cond;(case hc=>rfl);all_goals (intro h;(try simp only [reduceCtorEq,zzz] at h)))|(apply v_guardB;(case h1=>rfl);(case h2=>rfl);all_goals (intro h;(try simp only [reduceCtorEq,zzz] at h)))|(apply v_box (zs:=recL k r n i c (.slice A im.length cp));(case hx=>rfl);(case hz=>rfl);(case hd=>rfl);intro b1)|(apply v_callJ (hs:=q);(case ha=>rfl);(case hd=>rfl))|(apply v_callJ (hs:=qf);(case ha=>rfl);(case hd=>rfl))|(apply v_callJ (hs:=qv);(case ha=>rfl);(case hd=>rfl))|(apply v_read;(case hop=>first|(apply r_loadNo;(case hx=>rfl);(case h=>(repeat (exact mhd _)));(case hd=>(repeat (first|with_reducible exact dt_nil|apply dt_here)));(case hn=>rfl))|(apply r_load1;rfl;(apply Cell.own;(case h=>(repeat (exact mhd _)));rfl))|fail);(case hd=>rfl))|fail)
  all_goals
    (refine v_ret [] (outsA1 rfl rfl) (by repeat (exact List.nil_sublist _)) ?_
     refine ⟨?_,rfl⟩
     clear q qf qv
     simp [*])
end Go.Proofs.YtpemabgfmnhhnaaGreatDoor
