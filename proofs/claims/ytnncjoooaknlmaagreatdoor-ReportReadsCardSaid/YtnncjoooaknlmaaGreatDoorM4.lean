/-
  quote (layer 6), the walks, 7: Words.
-/
import Derived.Test.YtnncjoooaknlmaaGreatDoorM3
import Derived.Test.YtnncjoooaknlmaaGreatDoorM1
import Derived.Test.YtnncjoooaknlmaaGreatDoorM2
set_option linter.unusedSimpArgs false
set_option linter.unusedVariables false
set_option maxHeartbeats 2000000
namespace Go.Proofs.YtnncjoooaknlmaaGreatDoor
open Go.Vx Go.ChangeShapes Go.WideShapes Go.ChangeAt Go.RowKit
def strV (w:B8L):Value:=.string ⟨w.toArray⟩
def WordsA (o:Option (List B8L)) (r:Value) (μ:OH):Prop:=match o with
 | some ws=>∃ v,r=.tuple [v,.int .i64 0].toArray∧Grow 9 1 v ws.length (ws.map strV) μ
 | none=>r=.tuple [.slice none 0 0,.int .i64 3].toArray∧μ=[]
theorem wordL_len {l w:B8L}(h:wordL l=some w):w.length≤l.length∧w≠[]:=by
 unfold wordL at h
 split at h
 ·split at h
  ·rename_i h2
   obtain rfl:=Option.some.inj h
   refine ⟨by rw [List.length_take];omega,fun e=>?_⟩
   rw [e] at h2
   exact absurd h2 (by decide)
  ·cases h
 ·split at h
  ·cases h
  ·split at h
   ·cases h
   ·rename_i h3
    obtain rfl:=Option.some.inj h
    exact ⟨(headL_spec l).2.2.2,h3⟩
section
attribute [local semireducible] PureOp
theorem p_sliceStrN {P:Program}{ty t:TypeId}{σ:Env}{x lo:Operand}{s s2:ByteArray}{k:IntKind}{a:Int}(l:Nat) [Ty P t .string] (hx:Env.ev σ x=some (.string s)) (hl:Env.ev σ lo=some (.int k a)) (ha:a=(l:Int)) (h1:l≤s.size) (e:s.extract l s.size=s2) :
 PureOp P (.slice t x (some lo) none none) ty σ (.string s2):=by
 subst ha
 have q:=p_sliceStrL (P:=P) (ty:=ty) (t:=t) hx hl (by omega) (by omega)
 rw [Int.toNat_natCast,e] at q
 exact q
end
theorem extract_drop (s:ByteArray) (i:Nat):(s.extract i s.size).data.toList=s.data.toList.drop i:=by
 have hl:s.data.toList.length=s.size:=Array.length_toList ..
 rw [ByteArray.data_extract,Array.toList_extract,List.extract_eq_take_drop,List.take_of_length_le (by rw [List.length_drop];omega)]
theorem words_s {G:GH}(hT:TabsG G) {s:ByteArray}(hs:s.size≤4096) (h0:¬ s=⟨#[]⟩):Con Tryz.prog 47 #[.string s] G [] (fun r G' μ'=>G'=G∧WordsA (wordsL s.size s.data.toList) r μ'):=by
 (refine v_enter Tryz.func47 rfl Tryz.ntmps47 rfl ?_;intro B _)
 repeat' (first|(exact absurd (show s=⟨#[]⟩ by assumption) h0)|refine Wa ?_|(refine Wc ⟨?_,?_⟩<;>first|intro h|exact ⟨⟩)|(refine Wb ?_;intro b)|fail)
 refine v_loopI (ι:=Nat) [0,4] (fun n us G' μ'=>G'=G∧∃ l v ws ν,us=[Value.string l,v]∧μ'=ν∧Grow 9 1 v ws.length (ws.map strV) ν∧l.size≤n∧l.size≤s.size∧ws.length≤4096-l.size∧wordsL s.size s.data.toList=(wordsL n l.data.toList).map (ws ++ ·)) (fun n=>n) rfl s.size ⟨rfl,s,_,[],[],rfl,rfl,Grow.nil _ 1,Nat.le_refl _,Nat.le_refl _,by simp,by cases wordsL s.size s.data.toList<;>rfl⟩ ?_
 rintro n us G' μ' ⟨rfl,l,v,ws,ν,rfl,rfl,hg,hn,hls,hwl,he⟩
 obtain ⟨A,c,rfl,-,-⟩:=hg.shape
 have hw:=word_s hT (s:=l) (by omega)
 cases hwd:wordL l.data.toList with
 | none =>
  have hw':=hw.mono (Φ':=fun r G2 μ2=>G2=G'∧μ2=[]∧∃ a,r=.tuple [.string a,.bool false].toArray) (by
   rintro r G2 μ2 ⟨h1,h2,a,b,h3,h4⟩
   unfold WordA at h4
   rw [hwd] at h4
   exact ⟨h1,h2,a,by rw [h3,h4]⟩)
  repeat' (first|refine Wa ?_|(refine Wc ⟨?_,?_⟩<;>first|intro h|exact ⟨⟩)|apply v_call (hs:=hw') (μ1:=[]) (μ2:=μ');(case ha=>rfl);(case hp=>exact List.Perm.refl _);(case hd=>rfl);rintro _ G _ hle ⟨rfl,rfl,a,rfl⟩|(refine Wb ?_;intro b)|fail)
  have e0:wordsL n l.data.toList=none:=by
   cases n with
   | zero=>rfl
   | succ n=>rw [wordsL,hwd]
  rw [e0] at he
  refine v_ret [] (outsA2 rfl rfl rfl) sS ?_
  refine ⟨rfl,?_⟩
  rw [he]
  exact ⟨rfl,rfl⟩
 | some w =>
  have hw':=hw.mono (Φ':=fun r G2 μ2=>r=.tuple [strV w,.bool true].toArray∧G2=G'∧μ2=[]) (by
   rintro r G2 μ2 ⟨h1,h2,a,b,h3,h4⟩
   unfold WordA at h4
   rw [hwd] at h4
   exact ⟨by rw [h3,h4.1,h4.2];rfl,h1,h2⟩)
  unfold strV at hw'
  obtain ⟨hw1,hw2⟩:=wordL_len hwd
  have hw3:0<w.length:=List.length_pos_iff.2 hw2
  have hll:l.data.toList.length=l.size:=Array.length_toList ..
  have hws:(ByteArray.mk w.toArray).size=w.length:=by
   show Array.size _=_
   rw [List.size_toArray]
  obtain ⟨m,rfl⟩:∃ m,n=m+1:=⟨n-1,by omega⟩
  rw [wordsL,hwd] at he
  simp only at he
  have hd1:=extract_drop l w.length
  have hd2:(l.extract w.length l.size).size=l.size-w.length:=by rw [ByteArray.size_extract];omega
  rw [← hd1] at he
  generalize hdef:l.extract w.length l.size=l2 at hd1 hd2 he
  have hd3:=extract_drop l2 1
  have hd4:(l2.extract 1 l2.size).size=l2.size-1:=by rw [ByteArray.size_extract];omega
  generalize hdef3:l2.extract 1 l2.size=l3 at hd3 hd4
  have c1:=get_iff l2 0 32
  have t1:(32:UInt8).toNat=32:=rfl
  rw [t1] at c1
  by_cases hz:l2=⟨#[]⟩
  ·rw [if_pos (by rw [hz])] at he
   repeat' (first|(exact absurd hz (by assumption:¬ l2=⟨#[]⟩))|(refine Wd 18 ?_;intro b18)|apply v_pure;(case hop=>apply p_sliceStrN w.length rfl rfl (by rw [hws]) (by omega) hdef);(case hd=>rfl)|apply v_pure;(case hop=>apply p_sliceStrN 1 rfl rfl rfl (by omega) hdef3);(case hd=>rfl)|refine Wa ?_|(refine Wc ⟨?_,?_⟩<;>first|intro h|exact ⟨⟩)|refine cJ hw' ?_|apply v_append (hg:=hg) (m':=1) (us:=[strV w]) (μr:=[(b18,.cells [Value.string ⟨w.toArray⟩].toArray 9 (0,0))]) (hp:=aV) (hsrc:=Src.own (e:=9) (b:=b18) (List.Mem.head _) rfl);(case hzs=>rfl);(case hsz=>omega);(case hs|hx=>rfl);(case hb=>omega);(case hb'=>simp only [maxLen];omega);(case hd|h1=>rfl);intro v3 n3 hg3;obtain ⟨A3,c3,rfl,-,-⟩:=hg3.shape|(refine Wb ?_;intro b)|fail)
   refine v_ret n3 (outsA2 rfl rfl rfl) (List.sublist_append_left _ _) ?_
   refine ⟨rfl,?_⟩
   rw [he]
   refine ⟨_,rfl,?_⟩
   rw [List.length_append,List.map_append]
   exact hg3
  have hpos:0<l2.size:=by
   apply Classical.byContradiction
   intro h
   exact hz (ByteArray.ext (Array.eq_empty_of_size_eq_zero (by show l2.size=0;omega)))
  have hhd:l2.data.toList.headD 0=l2.get! 0:=by
   have:=drop_get hpos
   rw [List.drop_zero] at this
   rw [this]
   rfl
  have hne:¬ l2.data.toList=[]:=by
   intro e
   have:l2.data.toList.length=l2.size:=Array.length_toList ..
   rw [e] at this
   simp at this
   omega
  rw [if_neg hne,hhd] at he
  repeat' (first|(exact absurd (by assumption:l2=⟨#[]⟩) hz)|(refine Wd 18 ?_;intro b18)|apply v_pure;(case hop=>apply p_sliceStrN w.length rfl rfl (by rw [hws]) (by omega) hdef);(case hd=>rfl)|apply v_pure;(case hop=>apply p_sliceStrN 1 rfl rfl rfl (by omega) hdef3);(case hd=>rfl)|refine Wa ?_|(refine Wc ⟨?_,?_⟩<;>first|intro h|exact ⟨⟩)|refine cJ hw' ?_|apply v_append (hg:=hg) (m':=1) (us:=[strV w]) (μr:=[(b18,.cells [Value.string ⟨w.toArray⟩].toArray 9 (0,0))]) (hp:=aV) (hsrc:=Src.own (e:=9) (b:=b18) (List.Mem.head _) rfl);(case hzs=>rfl);(case hsz=>omega);(case hs|hx=>rfl);(case hb=>omega);(case hb'=>simp only [maxLen];omega);(case hd|h1=>rfl);intro v3 n3 hg3;obtain ⟨A3,c3,rfl,-,-⟩:=hg3.shape|(refine Wb ?_;intro b)|fail)
  ·refine v_ret [] (outsA2 rfl rfl rfl) sS ?_
   refine ⟨rfl,?_⟩
   rw [if_pos (fun e=>by have:=c1.1 e;omega)] at he
   rw [he]
   exact ⟨rfl,rfl⟩
  ·rw [if_neg (by rw [Decidable.not_not];exact c1.2 (by omega)),hd3.symm] at he
   refine v_drop (List.sublist_append_left _ _) ?_
   refine v_againI m rfl ⟨rfl,l3,_,ws++[w],n3,rfl,rfl,by rw [List.length_append,List.map_append];exact hg3,by omega,by omega,by rw [List.length_append];simp only [List.length_cons,List.length_nil];omega,?_⟩ (by omega)
   rw [he]
   cases wordsL m l3.data.toList with
   | none=>rfl
   | some l=>simp
end Go.Proofs.YtnncjoooaknlmaaGreatDoor
/-
  crc, in plain Lean: four bits at a time is bit by bit.
-/
namespace Go.Proofs.YtnncjoooaknlmaaGreatDoor
abbrev R32:=BitVec 32
def tabL:List Nat:=[0x00000000,0x1db71064,0x3b6e20c8,0x26d930ac,0x76dc4190,0x6b6b51f4,0x4db26158,0x5005713c,0xedb88320,0xf00f9344,0xd6d6a3e8,0xcb61b38c,0x9b64c2b0,0x86d3d2d4,0xa00ae278,0xbdbdf21c]
def tab (i:Nat):R32:=BitVec.ofNat 32 (tabL.getD i 0)
def quad (r:R32):R32:=(r >>> 4) ^^^ tab (r &&& 15#32).toNat
def turnR (r:R32) (c:Int):R32:=quad (quad (r ^^^ BitVec.ofInt 32 c))
def crcR (l:List Int):R32:=l.foldl turnR (BitVec.allOnes 32)
def crcN (l:List Int):Nat:=(~~~ crcR l).toNat
theorem crcN_lt (l:List Int):crcN l<4294967296:=(~~~ crcR l).isLt
end Go.Proofs.YtnncjoooaknlmaaGreatDoor
/-
  Numbers of 32 bits without sign, as bit vectors.
-/
namespace Go.Proofs.YtnncjoooaknlmaaGreatDoor
open Go Go.Vx
abbrev rv (r:R32):Value:=.int .u32 (r.toNat:Int)
theorem wrap32 (r:R32):IntKind.u32.wrap (r.toNat:Int)=(r.toNat:Int):=by
 have e:IntKind.u32.wrap (r.toNat:Int)=((r.toNat:Int)) % (2 ^ 32:Int):=by
  simp [IntKind.wrap,IntKind.signed,IntKind.bits]
 rw [e]
 have:=r.isLt
 omega
theorem ofInt32 (r:R32):BitVec.ofInt IntKind.u32.bits (r.toNat:Int)=r:=by
 apply BitVec.eq_of_toNat_eq
 have h:=r.isLt
 simp [IntKind.bits]
section
attribute [local semireducible] PureOp
variable {P:Program}{ty:TypeId}{σ:Env}{t t':TypeId}
theorem p_xorR {x y:Operand}{a b:R32}(hx:Env.ev σ x=some (rv a)) (hy:Env.ev σ y=some (rv b)):PureOp P (.binOp .xor t x y t') ty σ (rv (a ^^^ b)):=by
 have h:=p_xor (P:=P) (ty:=ty) (t:=t) (t':=t') hx hy
 have e:IntKind.u32.wrap ((BitVec.ofInt IntKind.u32.bits (a.toNat:Int) ^^^ BitVec.ofInt IntKind.u32.bits (b.toNat:Int)).toNat:Int)=((a ^^^ b).toNat:Int):=by
  rw [ofInt32,ofInt32]
  exact wrap32 (a ^^^ b)
 rw [e] at h
 exact h
theorem p_andR {x y:Operand}{a b:R32}(hx:Env.ev σ x=some (rv a)) (hy:Env.ev σ y=some (rv b)):PureOp P (.binOp .and t x y t') ty σ (rv (a &&& b)):=by
 have h:=p_and (P:=P) (ty:=ty) (t:=t) (t':=t') hx hy
 have e:IntKind.u32.wrap ((BitVec.ofInt IntKind.u32.bits (a.toNat:Int) &&& BitVec.ofInt IntKind.u32.bits (b.toNat:Int)).toNat:Int)=((a &&& b).toNat:Int):=by
  rw [ofInt32,ofInt32]
  exact wrap32 (a &&& b)
 rw [e] at h
 exact h
theorem p_shrR {x y:Operand}{a:R32}{k:IntKind}{n:Nat}(hx:Env.ev σ x=some (rv a)) (hy:Env.ev σ y=some (.int k (n:Nat))) (hn:n<32):PureOp P (.binOp .shr t x y t') ty σ (rv (a >>> n)):=by
 intro dst pos af g ρ hρ w
 have e1:min n IntKind.u32.bits=n:=Nat.min_eq_left (by simp [IntKind.bits];omega)
 have e2:¬ ((n:Nat):Int)<0:=by omega
 have e3:((a.toNat:Nat):Int).fdiv (2 ^ n)=((a >>> n).toNat:Int):=by
  rw [BitVec.toNat_ushiftRight,Nat.shiftRight_eq_div_pow,Int.natCast_ediv,Int.natCast_pow]
  exact Int.fdiv_eq_ediv_of_nonneg _ (by rw [show (2:Int) ^ n=((2 ^ n:Nat):Int) by simp];exact Int.natCast_nonneg _)
 simp [execOp,hρ _ _ hx,hρ _ _ hy,eqGuard,binOp,Op.shift,e2,e1]
 exact (Int.shiftRight_eq_div_pow _ _).symm
theorem p_convR {x:Operand}{k k'':IntKind}{c:Int}{u:TypeId} [Ty P t (.int k'')] [Ty P u (.int .u32)] (hx:Env.ev σ x=some (.int k c)):PureOp P (.convert t u x) ty σ (rv (BitVec.ofInt 32 c)):=by
 have h:=p_conv (P:=P) (ty:=ty) (t:=t) (u:=u) hx
 have e:IntKind.u32.wrap c=((BitVec.ofInt 32 c).toNat:Int):=by
  have e:IntKind.u32.wrap c=c % (2 ^ 32:Int):=by
   simp [IntKind.wrap,IntKind.signed,IntKind.bits]
  rw [e,BitVec.toNat_ofInt]
  omega
 rw [e] at h
 exact h
theorem p_cplR {x:Operand}{a:R32}(hx:Env.ev σ x=some (rv a)):PureOp P (.unOp .xor t x) ty σ (rv (~~~ a)):=by
 intro dst pos af g ρ hρ w
 have e:(((if IntKind.u32.signed=true then -1 else IntKind.u32.max) % 2 ^ IntKind.u32.bits).toNat ^^^ a.toNat % 2 ^ IntKind.u32.bits)=(~~~ a).toNat:=by
  have h1:(~~~ a)=BitVec.allOnes 32 ^^^ a:=(BitVec.allOnes_xor).symm
  rw [h1,BitVec.toNat_xor]
  congr 1
  exact Nat.mod_eq_of_lt a.isLt
 have e2:=wrap32 (~~~ a)
 rw [← e] at e2
 simp [execOp,hρ _ _ hx,Op.unary,Op.intBits]
 rw [e2,e,BitVec.toNat_not]
end
end Go.Proofs.YtnncjoooaknlmaaGreatDoor
/-
  crc (layer 2): turn, Add, Sum; the reference's sum.
-/
namespace Go.Proofs.YtnncjoooaknlmaaGreatDoor
open Go.Vx Go.ChangeShapes Go.WideShapes Go.ChangeAt Go.RowKit
def CrcG (G:GH):Prop := ∀ i,i<16→GH.cell? G ⟨3,i,none⟩=some (rv (tab i))
theorem CrcG.le {G G':GH}(h:CrcG G) (hle:GH.le G G'):CrcG G':=fun i hi=>GH.cell_le hle (h i hi)
theorem and15 (x:R32):(x &&& 15#32).toNat<16:=by
 have:(x &&& 15#32).toNat≤15:=by
  rw [BitVec.toNat_and]
  exact Nat.and_le_right
 omega
theorem crc_at {G:GH}(hC:CrcG G) (x:R32):GH.cell? G ⟨3,0+(((x &&& 15#32).toNat:Nat):Int).toNat*1,none⟩=some (rv (tab (x &&& 15#32).toNat)):=by
 rw [Nat.zero_add,Nat.mul_one,Int.toNat_natCast]
 exact hC _ (and15 x)
theorem turn_s {G:GH}(hC:CrcG G) (r:R32) (c:Int):Con Tryz.prog 121 #[rv r,.int .u8 c] G [] (Just (rv (turnR r c)) G):=by
 apply Con.just
 (refine v_enter Tryz.func121 rfl Tryz.ntmps121 rfl ?_;intro B _)
 repeat' (first|apply v_pure;(case hop=>(apply p_convR;(case hx=>rfl)));(case hd=>rfl)|apply v_pure;(case hop=>(apply p_xorR;(case hx|hy=>rfl)));(case hd=>rfl)|apply v_pure;(case hop=>(apply p_andR (b:=15#32);(case hx|hy=>rfl)));(case hd=>rfl)|apply v_pure;(case hop=>(apply p_shrR (n:=4);(case hx|hy=>rfl);(case hn=>omega)));(case hd=>rfl)|apply v_pure;(case hop=>(apply p_indexAddrB;(case hx|hi=>rfl);(case h0=>exact Int.natCast_nonneg _);(case h=>exact Int.ofNat_lt.2 (and15 _))));(case hd=>rfl)|refine Rf (crc_at hC _) ?_|refine Wa ?_|(refine Wc ⟨?_,?_⟩<;>first|intro h|exact ⟨⟩)|refine Wr ?_|fail)
 refine Vr ?_
 exact ⟨rfl,rfl⟩
theorem take_snoc {l:List Int}{k:Nat}(h:k<l.length) {β:Type}(f:β→Int→β) (b:β):(l.take (k+1)).foldl f b=f ((l.take k).foldl f b) l[k]:=by
 rw [List.take_succ_eq_append_getElem h,List.foldl_append]
 rfl
theorem cadd_s {G:GH}(hC:CrcG G) {l:List Int}{sv:Value}(hs:Sl G 1 (IntR .u8) sv l):Con Tryz.prog 79 #[rv 0#32,sv] G [] (Just (.int .u32 (crcN l:Nat)) G):=by
 obtain ⟨A,c,rfl,hlc,hcm,hsome,hel,hwf⟩:=hs.openInt
 simp only [maxLen] at hcm
 apply Con.just
 (refine v_enter Tryz.func79 rfl Tryz.ntmps79 rfl ?_;intro B _)
 repeat' (first|apply v_pure;(case hop=>(apply p_cplR;(case hx=>rfl)));(case hd=>rfl)|refine Wa ?_|(refine Wc ⟨?_,?_⟩<;>first|intro h|exact ⟨⟩)|refine Wr ?_|fail)
 refine v_loop [12,5,10,11] (fun us G' μ'=>G'=G∧∃ k:Nat,k≤l.length∧us=[Value.int .i64 (k:Nat),rv ((l.take k).foldl turnR (BitVec.allOnes 32)),.slice A l.length c,.int .i64 (l.length:Nat)]∧μ'=[]) (fun us=>l.length-(headI us).toNat) rfl ⟨rfl,0,by omega,rfl,rfl⟩ ?_
 rintro us G' _ ⟨hG',k,hk,rfl,rfl⟩
 subst G'
 have e1:((k:Nat):Int).toNat=k:=by omega
 by_cases hlt:k<l.length
 ·have hA:=hsome (by omega)
  have hc:=hel k hlt
  have qt:=fun r=>turn_s hC r l[k]
  have ht:=take_snoc hlt turnR (BitVec.allOnes 32)
  repeat' (first|refine Wa ?_|(refine Wc ⟨?_,?_⟩<;>first|intro h|exact ⟨⟩)|refine Rf hc ?_|refine cJ ((qt _)) ?_|refine Wr ?_|fail)
  exact Va rfl ⟨rfl,k+1,by omega,by rw [ht];rfl,rfl⟩
 ·obtain rfl:k=l.length:=by omega
  rw [List.take_length]
  repeat' (first|apply v_pure;(case hop=>(apply p_cplR;(case hx=>rfl)));(case hd=>rfl)|refine Wa ?_|(refine Wc ⟨?_,?_⟩<;>first|intro h|exact ⟨⟩)|refine Wr ?_|fail)
  refine Vr ?_
  exact ⟨rfl,rfl⟩
theorem csum_s {G:GH}(hC:CrcG G) {l:List Int}{sv:Value}(hs:Sl G 1 (IntR .u8) sv l):Con Tryz.prog 42 #[sv] G [] (Just (.int .u32 (crcN l:Nat)) G):=by
 have q:=cadd_s hC hs
 apply Con.just
 (refine v_enter Tryz.func42 rfl Tryz.ntmps42 rfl ?_;intro B _)
 repeat' (first|refine Wa ?_|(refine Wc ⟨?_,?_⟩<;>first|intro h|exact ⟨⟩)|refine cJ q ?_|fail)
 refine Vr ?_
 exact ⟨rfl,rfl⟩
end Go.Proofs.YtnncjoooaknlmaaGreatDoor
/-
  The library's FormatUint at base 16, of a number of nine digits; crc's Text.
-/
set_option maxHeartbeats 2000000
namespace Go.Proofs.YtnncjoooaknlmaaGreatDoor
open Go.Vx Go.ChangeShapes Go.WideShapes Go.ChangeAt Go.RowKit
section
attribute [local semireducible] PureOp ReadOp
theorem p_eqv {P:Program}{op:Op}{ty:TypeId}{σ:Env}{v:Value}(v':Value) (h:PureOp P op ty σ v) (e:v=v'):PureOp P op ty σ v':=e ▸ h
theorem p_sliceArr {P:Program}{ty t e:TypeId}{σ:Env}{agg:Bool}{sz bytes len:Nat}{zero:Value}{x lo:Operand}{b o:Nat}{k:IntKind}(l:Nat) [Ty P t (.array len e)] [Lay P e agg sz bytes zero] (hx:Env.ev σ x=some (.pointer (some ⟨b,o,none⟩))) (hl:Env.ev σ lo=some (.int k (l:Nat))) (h:l<len) :
 PureOp P (.slice t x (some lo) none none) ty σ (.slice (some ⟨b,o+l*sz,none⟩) (len-l) (len-l)):=by
 intro dst pos af g ρ hρ w
 have h1:¬ len=l:=by omega
 have h2:(0:Int)≤((l:Nat):Int)∧((l:Nat):Int)≤(len:Nat):=by omega
 have h3:¬ ((l:Nat):Int)<0:=by omega
 have h4:¬ ((len:Nat):Int)<(l:Nat):=by omega
 simp [execOp,hρ _ _ hx,hρ _ _ hl,Instr.sliceAt,Instr.sureAddr,Instr.sliceBounds,Instr.sliceBound,asIntOf,run_under (P:=P) (t:=t) (d:=.array len e),Go.Vx.run_sizeOf (P:=P) (t:=e) (agg:=agg) (size:=sz) (bytes:=bytes) (zero:=zero),h1,h2,h3,h4,add_mk]
 all_goals omega
abbrev u8V (b:UInt8):Value:=.int .u8 (b.toNat:Int)
theorem r_bytesArr {P:Program}{ty t t' e:TypeId}{σ:Env}{G:GH}{μ:OH}{x:Operand}{b o c n:Nat}{L u:List UInt8}{e':TypeId}[hT:Ty P t (.slice e)] [hS:Ty P t' .string] [hE:Ty P e (.int .u8)] (hb:(b,.cells (L.map u8V).toArray e' (0,0))∈μ) (hc:∀ j (h:j<u.length),L[o+j]? = some u[j]) (hx:Env.ev σ x=some (.slice (some ⟨b,o,none⟩) n c)) (hn:u.length=n):ReadOp P (.convert t t' x) ty σ G μ (.string ⟨u.toArray⟩):=by
 subst hn
 intro d pos af g ρ hρ w hw
 have hr:=run_convert_bytes_back (P:=P) w t t' e ⟨b,o,none⟩ c u hT.h hE.h hS.h (fun j hj=>by
  have h1:=hw.own _ _ hb
  have h2:=hc j hj
  unfold World.cell?
  simp only [add_mk,h1]
  simp [h2])
 simp [execOp,hρ _ _ hx,hr]
end
def BruG (G:GH):Prop:=GH.cell? G ⟨8,15,none⟩=some (.int .u8 4)
theorem BruG.le {G G':GH}(h:BruG G) (hle:GH.le G G'):BruG G':=GH.cell_le hle h
theorem tz64_s {G:GH}(hB:BruG G):Con Tryz.prog 196 #[.int .u64 16] G [] (Just (.int .i64 4) G):=by
 unfold BruG at hB
 (refine v_enter Tryz.func196 rfl Tryz.ntmps196 rfl ?_;intro B _)
 repeat' (first|apply v_pure;(case hop=>exact p_eqv (.int .u64 18446744073709551600) (p_neg (a:=16) rfl) (congrArg (Value.int .u64) (by decide)));(case hd=>rfl)|apply v_pure;(case hop=>exact p_eqv (.int .u64 16) (p_and (a:=16) (b:=18446744073709551600) rfl rfl) (congrArg (Value.int .u64) (by decide)));(case hd=>rfl)|apply v_pure;(case hop=>exact p_eqv (.int .u64 4573923408821661840) (p_mulw (a:=16) (b:=285870213051353865) rfl rfl) (congrArg (Value.int .u64) (by decide)));(case hd=>rfl)|apply v_pure;(case hop=>exact p_eqv (.int .u64 15) (p_shrU (a:=4573923408821661840) (n:=58) rfl rfl (by decide)) (congrArg (Value.int .u64) (by decide)));(case hd=>rfl)|refine Wa ?_|(refine Wc ⟨?_,?_⟩<;>first|intro h|exact ⟨⟩)|refine Rf hB ?_|refine Wr ?_|fail)
 refine Vr ?_
 exact ⟨rfl,rfl,rfl⟩
theorem tz_s {G:GH}(hB:BruG G):Con Tryz.prog 168 #[.int .u64 16] G [] (Just (.int .i64 4) G):=by
 have q:=tz64_s hB
 (refine v_enter Tryz.func168 rfl Tryz.ntmps168 rfl ?_;intro B _)
 repeat' (first|refine Wa ?_|(refine Wc ⟨?_,?_⟩<;>first|intro h|exact ⟨⟩)|refine cJ q ?_|fail)
 refine Vr ?_
 exact ⟨rfl,rfl,rfl⟩
theorem pow2_s {G:GH}:Con Tryz.prog 167 #[.int .i64 16] G [] (Just (.bool true) G):=by
 (refine v_enter Tryz.func167 rfl Tryz.ntmps167 rfl ?_;intro B _)
 repeat' (first|apply v_pure;(case hop=>exact p_eqv (.int .i64 0) (p_and (a:=16) (b:=15) rfl rfl) (congrArg (Value.int .i64) (by decide)));(case hd=>rfl)|refine Wa ?_|(refine Wc ⟨?_,?_⟩<;>first|intro h|exact ⟨⟩)|fail)
 refine Vr ?_
 exact ⟨rfl,rfl,rfl⟩
instance:Callable Tryz.prog 167:=callable_of Tryz.func167 (by kernel_rfl) rfl
instance:Callable Tryz.prog 141:=callable_of Tryz.func141 (by kernel_rfl) rfl
instance:Callable Tryz.prog 120:=callable_of Tryz.func120 (by kernel_rfl) rfl
def dgB:ByteArray:=⟨#[48,49,50,51,52,53,54,55,56,57,97,98,99,100,101,102,103,104,105,106,107,108,109,110,111,112,113,114,115,116,117,118,119,120,121,122]⟩
theorem dgB_size:dgB.size=36:=rfl
theorem u8V_set (L:List UInt8) (i:Nat) (b:UInt8) (h:i<L.length):over (L.map u8V) i [u8V b]=(L.set i b).map u8V:=by
 rw [over_set (by simpa using h),List.map_set]
theorem bytV (d:ByteArray) (j:Nat):Value.int .u8 (byt d j:Nat)=u8V (d.get! j):=by
 unfold byt
 rfl
theorem fbits_s {G:GH}(hB:BruG G) {u:Nat}(h1:4294967296≤u) (h2:u<8589934592):Con Tryz.prog 141 #[.slice none 0 0,.int .u64 (u:Nat),.int .i64 16,.bool false,.bool false] G [] (fun r G' μ'=>∃ s:ByteArray,s.size=9∧r=.tuple [.slice none 0 0,.string s].toArray∧G'=G∧μ'=[]):=by
 have q1:=pow2_s (G:=G)
 have q2:=tz_s hB
 (refine v_enter Tryz.func141 rfl Tryz.ntmps141 rfl ?_;intro B _)
 repeat' (first|apply v_alloc (d:=12) (zs:=(List.replicate 65 (0:UInt8)).map u8V);(case hz|hd=>rfl);intro ab|apply v_pure;(case hop=>exact p_eqv (.int .u64 4) (p_conv (a:=4) rfl) (congrArg (Value.int .u64) (by decide)));(case hd=>rfl)|apply v_pure;(case hop=>exact p_eqv (.int .u64 16) (p_conv (a:=16) rfl) (congrArg (Value.int .u64) (by decide)));(case hd=>rfl)|apply v_pure;(case hop=>exact p_eqv (.int .u64 15) (p_subw (a:=16) (b:=1) rfl rfl) (congrArg (Value.int .u64) (by decide)));(case hd=>rfl)|refine Wa ?_|(refine Wc ⟨?_,?_⟩<;>first|intro h|exact ⟨⟩)|refine cJ q1 ?_|refine cJ q2 ?_|refine Wr ?_|(refine Wb ?_;intro b)|fail)
 refine v_loopI (ι:=Nat) [1,13,14,15,16,12,3,4,0,10] (fun k us G' μ'=>G'=G∧k≤8∧∃ (m:Nat) (L:List UInt8),L.length=65∧16 ^ (8-k)≤m∧m<2*16 ^ (8-k)∧us=[Value.int .u64 (m:Nat),.int .i64 ((65-k:Nat):Int),.int .u64 4,.int .u64 16,.int .u64 15,.pointer (some ⟨ab,0,none⟩),.bool false,.bool false,.slice none 0 0,.slice none 0 0]∧μ'=[(ab,.cells (L.map u8V).toArray 256 (0,0))]) (fun k=>8-k) rfl 0 ⟨rfl,by omega,u,List.replicate 65 0,by simp,by omega,by omega,rfl,rfl⟩ ?_
 rintro k us G' _ ⟨rfl,hk,m,L,hL,hm1,hm2,rfl,rfl⟩
 by_cases hlt:k<8
 ·obtain ⟨q,hq⟩:∃ q,16 ^ (8-(k+1))=q:=⟨_,rfl⟩
  have hq1:16 ^ (8-k)=16*q:=by
   rw [← hq,show 8-k=(8-(k+1))+1 by omega,Nat.pow_succ,Nat.mul_comm]
  rw [hq1] at hm1 hm2
  have hq0:1≤q:=by rw [← hq];exact Nat.pow_pos (by decide)
  have he:m &&& 15≤15:=Nat.and_le_right
  have hmu:m<2 ^ 64:=by
   have:q≤16 ^ 8:=by rw [← hq];exact Nat.pow_le_pow_right (by omega) (by omega)
   omega
  generalize he2:m &&& 15=e at he
  have hset:over (L.map u8V) (64-k) [Value.int .u8 (byt dgB e:Nat)]=(L.set (64-k) (dgB.get! e)).map u8V:=by
   rw [bytV]
   exact u8V_set L (64-k) (dgB.get! e) (by omega)
  repeat' (first|apply v_pure;(case hop=>exact p_eqv (.int .u64 (e:Nat)) (p_andU (a:=m) (b:=15) rfl rfl hmu (by decide)) (by rw [he2]));(case hd=>rfl)|apply v_pure;(case hop=>apply p_indexSn (s:=dgB) (m:=e) rfl rfl (by rw [dgB_size];omega));(case hd=>rfl)|apply v_pure;(case hop=>apply p_shrU (a:=m) (n:=4) rfl rfl (by decide));(case hd=>rfl)|refine Wa ?_|(refine Wc ⟨?_,?_⟩<;>first|intro h|exact ⟨⟩)|refine Wr ?_|(refine Wb ?_;intro b)|fail)
  have hidx:0+(((65-k:Nat):Int)-1).toNat*1=64-k:=by omega
  refine v_againI (k+1) rfl ⟨rfl,by omega,m / 2 ^ 4,L.set (64-k) (dgB.get! e),by simp [hL],by rw [hq];omega,by rw [hq];omega,?_,?_⟩ (by omega)
  ·rw [show ((65-(k+1):Nat):Int)=((65-k:Nat):Int)-1 by omega]
  ·rw [hidx]
   exact congrArg (fun l => [(ab,Obj.cells (List.toArray l) 256 (0,0))]) hset
 ·obtain rfl:k=8:=by omega
  have hm3:m=1:=by omega
  subst hm3
  repeat' (first|apply v_pure;(case hop=>apply p_indexSn (s:=dgB) (m:=1) rfl rfl (by decide));(case hd=>rfl)|apply v_pure;(case hop=>apply p_sliceArr 56 rfl rfl (by decide));(case hd=>rfl)|refine Wa ?_|(refine Wc ⟨?_,?_⟩<;>first|intro h|exact ⟨⟩)|refine Wr ?_|(refine Wb ?_;intro b)|fail)
  have hset:over (L.map u8V) (0+(((65-8:Nat):Int)-1).toNat*1) [Value.int .u8 (byt dgB 1:Nat)]=(L.set 56 (dgB.get! 1)).map u8V:=by
   rw [bytV]
   exact u8V_set L 56 (dgB.get! 1) (by omega)
  refine v_perm (ν:=[(ab,.cells ((L.set 56 (dgB.get! 1)).map u8V).toArray 256 (0,0))]) (List.Perm.of_eq (congrArg (fun l => [(ab,Obj.cells (List.toArray l) 256 (0,0))]) hset)) ?_
  have hL2:(L.set 56 (dgB.get! 1)).length=65:=by simp [hL]
  generalize L.set 56 (dgB.get! 1)=L2 at *
  have hd:(L2.drop 56).length=65-56:=by rw [List.length_drop,hL2]
  apply v_read
  case hop=>exact r_bytesArr (e:=5) (u:=L2.drop 56) (List.Mem.head _) (fun j h=>by rw [List.getElem_drop,← List.getElem?_eq_getElem]) rfl hd
  case hd=>rfl
  repeat' (first|refine Wa ?_|(refine Wc ⟨?_,?_⟩<;>first|intro h|exact ⟨⟩)|refine Wr ?_|(refine Wb ?_;intro b)|fail)
  refine v_ret [] (outsA2 rfl rfl rfl) sS ?_
  refine ⟨_,?_,rfl,rfl,rfl⟩
  show (List.toArray _).size=_
  rw [List.size_toArray,hd]
theorem formatU_s {G:GH}(hB:BruG G) {u:Nat}(h1:4294967296≤u) (h2:u<8589934592):Con Tryz.prog 78 #[.int .u64 (u:Nat),.int .i64 16] G [] (fun r G' μ'=>∃ s:ByteArray,s.size=9∧r=.string s∧G'=G∧μ'=[]):=by
 have q:=fbits_s hB h1 h2
 have q2:Con Tryz.prog 120 #[.int .u64 (u:Nat),.int .i64 16] G [] (fun r G' μ'=>∃ s:ByteArray,s.size=9∧r=.string s∧G'=G∧μ'=[]):=by
  (refine v_enter Tryz.func120 rfl Tryz.ntmps120 rfl ?_;intro B _)
  repeat' (first|refine Wa ?_|(refine Wc ⟨?_,?_⟩<;>first|intro h|exact ⟨⟩)|apply v_call (hs:=q) (μ1:=[]);(case ha=>rfl);(case hp=>exact List.Perm.refl _);(case hd=>rfl);rintro _ _ _ hle ⟨s,hs,rfl,rfl,rfl⟩|(refine Wb ?_;intro b)|fail)
  refine Vr ?_
  exact ⟨s,hs,rfl,rfl,rfl⟩
 (refine v_enter Tryz.func78 rfl Tryz.ntmps78 rfl ?_;intro B _)
 repeat' (first|refine Wa ?_|(refine Wc ⟨?_,?_⟩<;>first|intro h|exact ⟨⟩)|apply v_call (hs:=q2) (μ1:=[]);(case ha=>rfl);(case hp=>exact List.Perm.refl _);(case hd=>rfl);rintro _ _ _ hle ⟨s,hs,rfl,rfl,rfl⟩|fail)
 refine Vr ?_
 exact ⟨s,hs,rfl,rfl,rfl⟩
theorem or_bit {n:Nat}(h:n<4294967296):n ||| 4294967296=4294967296+n:=by
 rw [Nat.or_comm]
 have:=Nat.two_pow_add_eq_or_of_lt (i:=32) h 1
 simpa using this.symm
theorem crcText_s {G:GH}(hB:BruG G) {n:Nat}(hn:n<4294967296):Con Tryz.prog 41 #[.int .u32 (n:Nat)] G [] (fun r G' μ'=>∃ s:ByteArray,s.size=8∧r=.string s∧G'=G∧μ'=[]):=by
 have q:=formatU_s hB (u:=4294967296+n) (by omega) (by omega)
 have hor:=or_bit hn
 (refine v_enter Tryz.func41 rfl Tryz.ntmps41 rfl ?_;intro B _)
 repeat' (first|apply v_pure;(case hop=>exact p_eqv (.int .u64 (n:Nat)) (p_conv (a:=(n:Nat)) rfl) (congrArg (Value.int .u64) (wrap_uv (by omega))));(case hd=>rfl)|apply v_pure;(case hop=>exact p_eqv (.int .u64 ((4294967296+n:Nat):Int)) (p_orU (a:=n) (b:=4294967296) rfl rfl (by omega) (by decide)) (by rw [hor]));(case hd=>rfl)|apply v_pure;(case hop=>apply p_sliceStrN 1 rfl rfl rfl (by omega) rfl);(case hd=>rfl)|refine Wa ?_|(refine Wc ⟨?_,?_⟩<;>first|intro h|exact ⟨⟩)|apply v_call (hs:=q) (μ1:=[]);(case ha=>rfl);(case hp=>exact List.Perm.refl _);(case hd=>rfl);rintro _ _ _ hle ⟨s,hs,rfl,rfl,rfl⟩|fail)
 refine Vr ?_
 exact ⟨_,by rw [ByteArray.size_extract];omega,rfl,rfl,rfl⟩
end Go.Proofs.YtnncjoooaknlmaaGreatDoor
/-
  entry (layer 12), the first part: entries in cells; what may be, of one and of all.
-/
namespace Go.Proofs.YtnncjoooaknlmaaGreatDoor
open Go.Vx Go.ChangeShapes Go.WideShapes Go.ChangeAt Go.RowKit
structure Ent where
 index:Int
 round:Int
 node:Int
 cmd:Cm
noncomputable instance:DecidableEq Ent:=fun a b=>Classical.propDecidable (a=b)
def Ent.cells (x:Ent):List Value:=[.int .i64 x.index,.int .i64 x.round,.int .i64 x.node,.int .i64 x.cmd.kind,.int .i64 x.cmd.client,.int .i64 x.cmd.seq,.string x.cmd.key,.string x.cmd.val,.string x.cmd.old,.int .i64 x.cmd.node]
def Ent.ok (x:Ent):Prop:=(Lit.int .i64 x.index).wf=true∧(Lit.int .i64 x.round).wf=true∧(Lit.int .i64 x.node).wf=true∧x.cmd.ok
def EntR (x:Ent) (cs:List Value):Prop:=cs=x.cells∧x.ok
abbrev Es (G:GH) (v:Value) (l:List Ent):Prop:=Sl G 10 EntR v l
theorem adr_add (X:Addr) (a b:Nat):(X.add a).add b=X.add (a+b):=by
 by_cases ha:a=0<;>by_cases hb:b=0<;>simp [Addr.add,ha,hb,Nat.add_assoc]
theorem cellsG_drop {G:GH}{X:Addr}{cs:List Value}(n:Nat) (h:CellsG G X cs):CellsG G (X.add n) (cs.drop n):=by
 intro j u hu
 rw [adr_add]
 exact h _ _ (by simpa using hu)
theorem cellsG_take {G:GH}{X:Addr}{cs:List Value}(n:Nat) (h:CellsG G X cs):CellsG G X (cs.take n):=by
 intro j u hu
 exact h _ _ (by rw [List.getElem?_take] at hu;split at hu;exact hu;cases hu)
theorem esOpen {G:GH}{v:Value}{l:List Ent}(h:Es G v l):∃ A c,v=.slice A l.length c∧l.length≤c∧c≤maxLen∧(0<l.length→A.isSome=true) ∧
 (∀ i (h:i<l.length),CellsG G ((adr A).add (i*10)) l[i].cells)∧(∀ i (h:i<l.length),CellsG G (((adr A).add (i*10)).add 1) [.int .i64 l[i].round,.int .i64 l[i].node]) ∧
 (∀ i (h:i<l.length),CellsG G (((adr A).add (i*10)).add 3) l[i].cmd.cells)∧(∀ i (h:i<l.length),l[i].ok):=by
 obtain ⟨A,c,rfl,h1,h2,h3,h4⟩:=h.open
 have key:∀ i (h:i<l.length),CellsG G ((adr A).add (i*10)) l[i].cells∧l[i].ok:=fun i hi=>by
  obtain ⟨cs,_,⟨rfl,h6⟩,h5⟩:=h4 i _ (List.getElem?_eq_getElem hi)
  exact ⟨h5,h6⟩
 refine ⟨A,c,rfl,h1,h2,h3,fun i hi=>(key i hi).1,fun i hi=>?_,fun i hi=>?_,fun i hi=>(key i hi).2⟩
 ·exact cellsG_take 2 (cellsG_drop 1 (key i hi).1)
 ·exact cellsG_drop 3 (key i hi).1
theorem esCell {G:GH}{A:Option Addr}{l:List Ent}(hcp:∀ i (h:i<l.length),CellsG G ((adr A).add (i*10)) l[i].cells) (i:Nat) (h:i<l.length):GH.cell? G (((adr A).add (i*10)).add 0)=some (.int .i64 l[i].index):=(hcp i h).cell (j:=0) rfl
theorem cmCell {G:GH}{A:Option Addr}{l:List Ent}(hcc:∀ i (h:i<l.length),CellsG G (((adr A).add (i*10)).add 3) l[i].cmd.cells) (i:Nat) (h:i<l.length) (j:Nat) (v:Value) (hv:l[i].cmd.cells[j]? = some v):GH.cell? G ((((adr A).add (i*10)).add 3).add j)=some v:=(hcc i h).cell hv
theorem keyR_fine (s:ByteArray):∀ n p,s.size≤p+n→keyR s n p=true→badR s n p<0∧∀ i,p≤i→i<s.size→32≤byt s i∧byt s i≠127
 | 0,p,hp,_=>⟨by unfold badR;omega,fun i h1 h2=>by omega⟩
 | n+1,p,hp,hk=>by
  by_cases h:p<s.size
  ·unfold keyR at hk
   rw [if_pos h] at hk
   by_cases hz:(szR s p).1=0
   ·rw [if_pos hz] at hk;cases hk
   ·rw [if_neg hz] at hk
    by_cases hpl:plainP ((szR s p).2:Int)
    ·rw [if_pos hpl] at hk
     have hend:=sz_end s p hz h
     obtain ⟨h1,h2⟩:=keyR_fine s n (p+(szR s p).1) (by omega) hk
     refine ⟨by unfold badR;rw [if_pos h,if_neg hz];exact h1,fun i hi1 hi2=>?_⟩
     by_cases hc:i<p+(szR s p).1
     ·rcases sz_big s p hz with ⟨e1,h3⟩|⟨h3,h4,h5⟩
      ·have e:i=p:=by rw [e1] at hc;simp only at hc;omega
       subst e
       rw [e1] at hpl
       unfold plainP at hpl
       simp only at hpl
       omega
      ·have:=h5 i hi1 hc
       omega
     ·exact h2 i (by omega) hi2
    ·rw [if_neg hpl] at hk;cases hk
  ·exact ⟨by rw [badR_end h];omega,fun i h1 h2=>by omega⟩
theorem fine_key {s:ByteArray}(h:keyB s=true):fineB s∧s.size≤24:=by
 unfold keyB at h
 simp only [Bool.and_eq_true,decide_eq_true_eq] at h
 obtain ⟨h1,h2⟩:=keyR_fine s s.size 0 (by omega) h.2
 exact ⟨⟨fun i hi=>h2 i (by omega) hi,h1⟩,h.1.2⟩
theorem fine_val {s:ByteArray}(h:valB s=true):fineB s∧s.size≤48:=by
 unfold valB at h
 simp only [Bool.and_eq_true,decide_eq_true_eq] at h
 exact ⟨⟨h.2,h.1.2⟩,h.1.1⟩
def nameL (k:Int):B8L:=if k=1 then [110,111,112] else if k=2 then [112,117,116] else if k=3 then [103,101,116] else if k=4 then [100,101,108] else if k=5 then [99,97,115] else if k=6 then [97,99,116,105,118,97,116,101] else if k=7 then [97,100,100] else if k=8 then [100,114,111,112] else []
def nameB (k:Int):ByteArray:=⟨(nameL k).toArray⟩
def wantP (kind:Int) (j:Nat):Bool:=decide (band (cmdFields kind).1 (hasOf j)≠0)
def wordOf (c:Cm) (j:Nat):B8L:=if isNum j then Lib.decDigits (c.num j).toNat else (quoteB (c.txt j)).data.toList
def wordsC (c:Cm):Nat→List B8L
 | 0 => [nameL c.kind]
 | k+1=>wordsC c k++(if wantP c.kind k then [wordOf c k] else [])
def cmdL (c:Cm):B8L:=joinL (wordsC c 6)
def cmdB (c:Cm):ByteArray:=⟨(cmdL c).toArray⟩
noncomputable def textB (c:Cm):ByteArray:=if cmdI c=0 then cmdB c else ⟨#[]⟩
def kindUp (w:B8L):Nat→Int
 | 0=>0
 | k+1=>if nameL ((k+1:Nat):Int)=w then ((k+1:Nat):Int) else kindUp w k
def unqT (w:B8L):ByteArray:=(unquoteB ⟨w.toArray⟩).getD ⟨#[]⟩
def Cm.setW (c:Cm) (j:Nat) (w:B8L):Cm:=match j with
 | 0 => { c with client:=atoiN w }
 | 1 => { c with seq:=atoiN w }
 | 2 => { c with key:=unqT w }
 | 3 => { c with old:=unqT w }
 | 4 => { c with val:=unqT w }
 | _ => { c with node:=atoiN w }
def fillW (c:Cm) (ws:List B8L):Nat→Cm×List B8L
 | 0=>(c,ws)
 | k+1=>if wantP c.kind k=true∧(fillW c ws k).2≠[] then ((fillW c ws k).1.setW k ((fillW c ws k).2.headD []),(fillW c ws k).2.tail) else fillW c ws k
def zeroK (k:Int):Cm:=⟨k,0,0,⟨#[]⟩,⟨#[]⟩,⟨#[]⟩,0⟩
def cmOf:List B8L→Cm
 | []=>zeroK 0
 | w::ws=>(fillW (zeroK (kindUp w 8)) ws 6).1
noncomputable def parseB (s:ByteArray):Option Cm:=if s.size=0 then none else match wordsL s.size s.data.toList with
 | none=>none
 | some ws=>if textB (cmOf ws)=s then some (cmOf ws) else none
theorem atoiN_dig {n:Int}(h0:0≤n) (h1:n≤4294967296):atoiN (Lib.decDigits n.toNat)=n:=by
 unfold atoiN
 rw [atoi_digits (by omega)]
 exact Int.toNat_of_nonneg h0
theorem unqT_quote {s:ByteArray}(h:fineB s):unqT (quoteB s).data.toList=s:=by
 have hb:(⟨(quoteB s).data.toList.toArray⟩:ByteArray)=quoteB s:=by simp
 unfold unqT
 rw [hb,unquote_quote h]
 rfl
theorem empty_of {s:ByteArray}(h:s.size=0):s=⟨#[]⟩:=ByteArray.ext (Array.eq_empty_of_size_eq_zero h)
theorem cmd_fine {c:Cm}(h:cmdI c=0):(1≤c.kind∧c.kind≤8)∧((2≤c.kind∧c.kind≤5)→(1≤c.client∧c.client≤8)∧(1≤c.seq∧c.seq≤4294967296)∧keyB c.key=true)∧(c.kind=2∨c.kind=5→valB c.val=true)∧(c.kind=5→valB c.old=true)∧((c.kind=7∨c.kind=8)→1≤c.node∧c.node≤9)
 ∧ (¬ (2≤c.kind∧c.kind≤5)→c.client=0∧c.seq=0∧c.key.size=0)∧(¬ (c.kind=2∨c.kind=5)→c.val.size=0)∧(c.kind≠5→c.old.size=0)∧(¬ (c.kind=7∨c.kind=8)→c.node=0):=by
 rw [cmdI_eq] at h
 unfold cmdE at h
 by_cases h1:c.kind<1∨8<c.kind
 ·rw [if_pos h1] at h;omega
 rw [if_neg h1] at h
 by_cases h2:((2≤c.kind∧c.kind≤5)∧¬ (1≤c.client∧c.client≤8∧1≤c.seq∧c.seq≤4294967296))∨((c.kind=7∨c.kind=8)∧¬ (1≤c.node∧c.node≤9))
 ·rw [if_pos h2] at h;omega
 rw [if_neg h2] at h
 by_cases h3:((2≤c.kind∧c.kind≤5)∧keyB c.key=false)∨((c.kind=2∨c.kind=5)∧valB c.val=false)∨(c.kind=5∧valB c.old=false)
 ·rw [if_pos h3] at h;omega
 rw [if_neg h3] at h
 by_cases h4:(¬ (2≤c.kind∧c.kind≤5)∧(c.client≠0∨c.seq≠0∨c.key.size≠0))∨(¬ (c.kind=2∨c.kind=5)∧c.val.size≠0)∨(c.kind≠5∧c.old.size≠0)∨(¬ (c.kind=7∨c.kind=8)∧c.node≠0)
 ·rw [if_pos h4] at h;omega
 clear h
 have e1:(2≤c.kind∧c.kind≤5)→keyB c.key=true:=fun a=>by
  cases hk:keyB c.key with
  | true=>rfl
  | false=>exact absurd (.inl ⟨a,hk⟩) h3
 have e2:(c.kind=2∨c.kind=5)→valB c.val=true:=fun a=>by
  cases hk:valB c.val with
  | true=>rfl
  | false=>exact absurd (.inr (.inl ⟨a,hk⟩)) h3
 have e3:c.kind=5→valB c.old=true:=fun a=>by
  cases hk:valB c.old with
  | true=>rfl
  | false=>exact absurd (.inr (.inr ⟨a,hk⟩)) h3
 refine ⟨by omega,fun a=>⟨by omega,by omega,e1 a⟩,e2,e3,fun a=>by omega,fun a=>by omega,fun a=>by omega,fun a=>by omega,fun a=>by omega⟩
theorem name_kind {k:Int}(h:1≤k∧k≤8):kindUp (nameL k) 8=k:=by
 obtain rfl|rfl|rfl|rfl|rfl|rfl|rfl|rfl:k=1∨k=2∨k=3∨k=4∨k=5∨k=6∨k=7∨k=8:=by omega
 all_goals decide
theorem name_word {k:Int}(h:1≤k∧k≤8):isWord (nameL k):=by
 obtain rfl|rfl|rfl|rfl|rfl|rfl|rfl|rfl:k=1∨k=2∨k=3∨k=4∨k=5∨k=6∨k=7∨k=8:=by omega
 all_goals exact .inr ⟨by decide,by decide,by decide⟩
theorem wantK (j:Nat) (hj:j<6):∀ k:Int,1≤k→k≤8→(wantP k j=true↔(if j<3 then 2≤k∧k≤5 else if j=3 then k=5 else if j=4 then k=2∨k=5 else k=7∨k=8)):=by
 intro k h1 h2
 obtain rfl|rfl|rfl|rfl|rfl|rfl|rfl|rfl:k=1∨k=2∨k=3∨k=4∨k=5∨k=6∨k=7∨k=8:=by omega
 all_goals
  obtain rfl|rfl|rfl|rfl|rfl|rfl:j=0∨j=1∨j=2∨j=3∨j=4∨j=5:=by omega
 all_goals decide
theorem word_of {c:Cm}(h:cmdI c=0) {j:Nat}(hj:j<6) (hw:wantP c.kind j=true):isWord (wordOf c j):=by
 obtain ⟨hk,h1,h2,h3,h4,-⟩:=cmd_fine h
 have hwk:=(wantK j hj c.kind hk.1 hk.2).1 hw
 unfold wordOf
 obtain rfl|rfl|rfl|rfl|rfl|rfl:j=0∨j=1∨j=2∨j=3∨j=4∨j=5:=by omega
 ·exact isWord_digits _
 ·exact isWord_digits _
 ·exact .inl ⟨c.key,(fine_key (h1 (by simpa using hwk)).2.2).1,rfl⟩
 ·exact .inl ⟨c.old,(fine_val (h3 (by simpa using hwk))).1,rfl⟩
 ·exact .inl ⟨c.val,(fine_val (h2 (by simpa using hwk))).1,rfl⟩
 ·exact isWord_digits _
theorem words_all {c:Cm}(h:cmdI c=0):∀ k,k≤6→∀ w∈wordsC c k,isWord w
 | 0,_,w,hw=>by
  have:w=nameL c.kind:=by simpa [wordsC] using hw
  subst this
  exact name_word (cmd_fine h).1
 | k+1,hk,w,hw=>by
  rw [wordsC] at hw
  rcases List.mem_append.1 hw with hw|hw
  ·exact words_all h k (by omega) w hw
  ·by_cases e:wantP c.kind k=true
   ·rw [if_pos e] at hw
    have:w=wordOf c k:=by simpa using hw
    subst this
    exact word_of h (by omega) e
   ·rw [if_neg e] at hw;cases hw
theorem wordsC_len (c:Cm):∀ k,1≤(wordsC c k).length∧(wordsC c k).length≤k+1
 | 0=>by simp [wordsC]
 | k+1=>by
  have:=wordsC_len c k
  rw [wordsC,List.length_append]
  split
  ·simp only [List.length_cons,List.length_nil];omega
  ·simp only [List.length_nil];omega
theorem joinL_len:∀ (ws:List B8L),(∀ w∈ws,w≠[])→ws.length≤(joinL ws).length
 | [],_=>Nat.le_refl _
 | [w],h=>by
  have:=List.length_pos_iff.2 (h w (List.mem_cons_self ..))
  show 1≤w.length
  omega
 | w::v::ws,h=>by
  have h1:=List.length_pos_iff.2 (h w (List.mem_cons_self ..))
  have ih:=joinL_len (v::ws) fun x hx=>h x (List.mem_cons_of_mem _ hx)
  show _≤(w++32::joinL (v::ws)).length
  rw [List.length_append,List.length_cons]
  simp only [List.length_cons] at ih ⊢
  omega
theorem cmdB_list (c:Cm):(cmdB c).data.toList=cmdL c:=rfl
theorem cmdB_size (c:Cm):(cmdB c).size=(cmdL c).length:=by
 show Array.size _=_
 rw [List.size_toArray]
theorem words_cmd {c:Cm}(h:cmdI c=0):wordsL (cmdB c).size (cmdB c).data.toList=some (wordsC c 6):=by
 have hw:=words_all h 6 (by omega)
 rw [cmdB_list,cmdB_size]
 refine wordsL_join _ _ (fun e=>?_) hw (joinL_len _ fun w hw2=>isWord_ne (hw w hw2))
 have:=(wordsC_len c 6).1
 rw [e] at this
 simp at this
theorem fillW_yes {c:Cm}{ws r:List B8L}{w:B8L}{k:Nat}{c':Cm}(h:wantP c.kind k=true) (e:fillW c ws k=(c',w::r)):fillW c ws (k+1)=(c'.setW k w,r):=by
 rw [fillW,if_pos ⟨h,by rw [e];simp⟩,e]
 rfl
theorem fillW_no {c:Cm}{ws r:List B8L}{k:Nat}{c':Cm}(h:wantP c.kind k=false) (e:fillW c ws k=(c',r)):fillW c ws (k+1)=(c',r):=by
 rw [fillW,if_neg (by simp [h]),e]
theorem wordsC_yes {c:Cm}{k:Nat}{l:List B8L}(h:wantP c.kind k=true) (e:wordsC c k=l):wordsC c (k+1)=l++[wordOf c k]:=by
 rw [wordsC,if_pos h,e]
theorem wordsC_no {c:Cm}{k:Nat}{l:List B8L}(h:wantP c.kind k=false) (e:wordsC c k=l):wordsC c (k+1)=l:=by
 rw [wordsC,if_neg (by simp [h]),e,List.append_nil]
section
variable (client seq node:Int) (key val old:ByteArray)
theorem want_1:wantP 1 0=false∧wantP 1 1=false∧wantP 1 2=false∧wantP 1 3=false∧wantP 1 4=false∧wantP 1 5=false:=by decide
theorem want_2:wantP 2 0=true∧wantP 2 1=true∧wantP 2 2=true∧wantP 2 3=false∧wantP 2 4=true∧wantP 2 5=false:=by decide
theorem want_3:wantP 3 0=true∧wantP 3 1=true∧wantP 3 2=true∧wantP 3 3=false∧wantP 3 4=false∧wantP 3 5=false:=by decide
theorem want_4:wantP 4 0=true∧wantP 4 1=true∧wantP 4 2=true∧wantP 4 3=false∧wantP 4 4=false∧wantP 4 5=false:=by decide
theorem want_5:wantP 5 0=true∧wantP 5 1=true∧wantP 5 2=true∧wantP 5 3=true∧wantP 5 4=true∧wantP 5 5=false:=by decide
theorem want_6:wantP 6 0=false∧wantP 6 1=false∧wantP 6 2=false∧wantP 6 3=false∧wantP 6 4=false∧wantP 6 5=false:=by decide
theorem want_7:wantP 7 0=false∧wantP 7 1=false∧wantP 7 2=false∧wantP 7 3=false∧wantP 7 4=false∧wantP 7 5=true:=by decide
theorem want_8:wantP 8 0=false∧wantP 8 1=false∧wantP 8 2=false∧wantP 8 3=false∧wantP 8 4=false∧wantP 8 5=true:=by decide
theorem words_1:wordsC ⟨1,client,seq,key,val,old,node⟩ 6=[nameL 1]:=by
 obtain ⟨w0,w1,w2,w3,w4,w5⟩:=want_1
 have e0:wordsC ⟨1,client,seq,key,val,old,node⟩ 0=[nameL 1]:=rfl
 have e1:=wordsC_no (c:=⟨1,client,seq,key,val,old,node⟩) (k:=0) w0 e0
 have e2:=wordsC_no (c:=⟨1,client,seq,key,val,old,node⟩) (k:=1) w1 e1
 have e3:=wordsC_no (c:=⟨1,client,seq,key,val,old,node⟩) (k:=2) w2 e2
 have e4:=wordsC_no (c:=⟨1,client,seq,key,val,old,node⟩) (k:=3) w3 e3
 have e5:=wordsC_no (c:=⟨1,client,seq,key,val,old,node⟩) (k:=4) w4 e4
 have e6:=wordsC_no (c:=⟨1,client,seq,key,val,old,node⟩) (k:=5) w5 e5
 exact e6
theorem fill_1:cmOf [nameL 1]=⟨1,0,0,⟨#[]⟩,⟨#[]⟩,⟨#[]⟩,0⟩:=by
 obtain ⟨w0,w1,w2,w3,w4,w5⟩:=want_1
 have e0:fillW (zeroK 1) [] 0=(⟨1,0,0,⟨#[]⟩,⟨#[]⟩,⟨#[]⟩,0⟩,[]):=rfl
 have e1:fillW (zeroK 1) [] 1=(⟨1,0,0,⟨#[]⟩,⟨#[]⟩,⟨#[]⟩,0⟩,[]):=fillW_no (c:=zeroK 1) (k:=0) w0 e0
 have e2:fillW (zeroK 1) [] 2=(⟨1,0,0,⟨#[]⟩,⟨#[]⟩,⟨#[]⟩,0⟩,[]):=fillW_no (c:=zeroK 1) (k:=1) w1 e1
 have e3:fillW (zeroK 1) [] 3=(⟨1,0,0,⟨#[]⟩,⟨#[]⟩,⟨#[]⟩,0⟩,[]):=fillW_no (c:=zeroK 1) (k:=2) w2 e2
 have e4:fillW (zeroK 1) [] 4=(⟨1,0,0,⟨#[]⟩,⟨#[]⟩,⟨#[]⟩,0⟩,[]):=fillW_no (c:=zeroK 1) (k:=3) w3 e3
 have e5:fillW (zeroK 1) [] 5=(⟨1,0,0,⟨#[]⟩,⟨#[]⟩,⟨#[]⟩,0⟩,[]):=fillW_no (c:=zeroK 1) (k:=4) w4 e4
 have e6:fillW (zeroK 1) [] 6=(⟨1,0,0,⟨#[]⟩,⟨#[]⟩,⟨#[]⟩,0⟩,[]):=fillW_no (c:=zeroK 1) (k:=5) w5 e5
 show (fillW (zeroK (kindUp (nameL 1) 8)) [] 6).1=_
 have hn:=name_kind (k:=1) (by omega)
 rw [hn,e6]
theorem words_2:wordsC ⟨2,client,seq,key,val,old,node⟩ 6=[nameL 2,Lib.decDigits client.toNat,Lib.decDigits seq.toNat,(quoteB key).data.toList,(quoteB val).data.toList]:=by
 obtain ⟨w0,w1,w2,w3,w4,w5⟩:=want_2
 have e0:wordsC ⟨2,client,seq,key,val,old,node⟩ 0=[nameL 2]:=rfl
 have e1:=wordsC_yes (c:=⟨2,client,seq,key,val,old,node⟩) (k:=0) w0 e0
 have e2:=wordsC_yes (c:=⟨2,client,seq,key,val,old,node⟩) (k:=1) w1 e1
 have e3:=wordsC_yes (c:=⟨2,client,seq,key,val,old,node⟩) (k:=2) w2 e2
 have e4:=wordsC_no (c:=⟨2,client,seq,key,val,old,node⟩) (k:=3) w3 e3
 have e5:=wordsC_yes (c:=⟨2,client,seq,key,val,old,node⟩) (k:=4) w4 e4
 have e6:=wordsC_no (c:=⟨2,client,seq,key,val,old,node⟩) (k:=5) w5 e5
 exact e6
theorem fill_2 (a0 a1 a2 a4:B8L):cmOf [nameL 2,a0,a1,a2,a4]=⟨2,atoiN a0,atoiN a1,unqT a2,unqT a4,⟨#[]⟩,0⟩:=by
 obtain ⟨w0,w1,w2,w3,w4,w5⟩:=want_2
 have e0:fillW (zeroK 2) [a0,a1,a2,a4] 0=(⟨2,0,0,⟨#[]⟩,⟨#[]⟩,⟨#[]⟩,0⟩,[a0,a1,a2,a4]):=rfl
 have e1:fillW (zeroK 2) [a0,a1,a2,a4] 1=(⟨2,atoiN a0,0,⟨#[]⟩,⟨#[]⟩,⟨#[]⟩,0⟩,[a1,a2,a4]):=fillW_yes (c:=zeroK 2) (k:=0) w0 e0
 have e2:fillW (zeroK 2) [a0,a1,a2,a4] 2=(⟨2,atoiN a0,atoiN a1,⟨#[]⟩,⟨#[]⟩,⟨#[]⟩,0⟩,[a2,a4]):=fillW_yes (c:=zeroK 2) (k:=1) w1 e1
 have e3:fillW (zeroK 2) [a0,a1,a2,a4] 3=(⟨2,atoiN a0,atoiN a1,unqT a2,⟨#[]⟩,⟨#[]⟩,0⟩,[a4]):=fillW_yes (c:=zeroK 2) (k:=2) w2 e2
 have e4:fillW (zeroK 2) [a0,a1,a2,a4] 4=(⟨2,atoiN a0,atoiN a1,unqT a2,⟨#[]⟩,⟨#[]⟩,0⟩,[a4]):=fillW_no (c:=zeroK 2) (k:=3) w3 e3
 have e5:fillW (zeroK 2) [a0,a1,a2,a4] 5=(⟨2,atoiN a0,atoiN a1,unqT a2,unqT a4,⟨#[]⟩,0⟩,[]):=fillW_yes (c:=zeroK 2) (k:=4) w4 e4
 have e6:fillW (zeroK 2) [a0,a1,a2,a4] 6=(⟨2,atoiN a0,atoiN a1,unqT a2,unqT a4,⟨#[]⟩,0⟩,[]):=fillW_no (c:=zeroK 2) (k:=5) w5 e5
 show (fillW (zeroK (kindUp (nameL 2) 8)) [a0,a1,a2,a4] 6).1=_
 have hn:=name_kind (k:=2) (by omega)
 rw [hn,e6]
theorem words_3:wordsC ⟨3,client,seq,key,val,old,node⟩ 6=[nameL 3,Lib.decDigits client.toNat,Lib.decDigits seq.toNat,(quoteB key).data.toList]:=by
 obtain ⟨w0,w1,w2,w3,w4,w5⟩:=want_3
 have e0:wordsC ⟨3,client,seq,key,val,old,node⟩ 0=[nameL 3]:=rfl
 have e1:=wordsC_yes (c:=⟨3,client,seq,key,val,old,node⟩) (k:=0) w0 e0
 have e2:=wordsC_yes (c:=⟨3,client,seq,key,val,old,node⟩) (k:=1) w1 e1
 have e3:=wordsC_yes (c:=⟨3,client,seq,key,val,old,node⟩) (k:=2) w2 e2
 have e4:=wordsC_no (c:=⟨3,client,seq,key,val,old,node⟩) (k:=3) w3 e3
 have e5:=wordsC_no (c:=⟨3,client,seq,key,val,old,node⟩) (k:=4) w4 e4
 have e6:=wordsC_no (c:=⟨3,client,seq,key,val,old,node⟩) (k:=5) w5 e5
 exact e6
theorem fill_3 (a0 a1 a2:B8L):cmOf [nameL 3,a0,a1,a2]=⟨3,atoiN a0,atoiN a1,unqT a2,⟨#[]⟩,⟨#[]⟩,0⟩:=by
 obtain ⟨w0,w1,w2,w3,w4,w5⟩:=want_3
 have e0:fillW (zeroK 3) [a0,a1,a2] 0=(⟨3,0,0,⟨#[]⟩,⟨#[]⟩,⟨#[]⟩,0⟩,[a0,a1,a2]):=rfl
 have e1:fillW (zeroK 3) [a0,a1,a2] 1=(⟨3,atoiN a0,0,⟨#[]⟩,⟨#[]⟩,⟨#[]⟩,0⟩,[a1,a2]):=fillW_yes (c:=zeroK 3) (k:=0) w0 e0
 have e2:fillW (zeroK 3) [a0,a1,a2] 2=(⟨3,atoiN a0,atoiN a1,⟨#[]⟩,⟨#[]⟩,⟨#[]⟩,0⟩,[a2]):=fillW_yes (c:=zeroK 3) (k:=1) w1 e1
 have e3:fillW (zeroK 3) [a0,a1,a2] 3=(⟨3,atoiN a0,atoiN a1,unqT a2,⟨#[]⟩,⟨#[]⟩,0⟩,[]):=fillW_yes (c:=zeroK 3) (k:=2) w2 e2
 have e4:fillW (zeroK 3) [a0,a1,a2] 4=(⟨3,atoiN a0,atoiN a1,unqT a2,⟨#[]⟩,⟨#[]⟩,0⟩,[]):=fillW_no (c:=zeroK 3) (k:=3) w3 e3
 have e5:fillW (zeroK 3) [a0,a1,a2] 5=(⟨3,atoiN a0,atoiN a1,unqT a2,⟨#[]⟩,⟨#[]⟩,0⟩,[]):=fillW_no (c:=zeroK 3) (k:=4) w4 e4
 have e6:fillW (zeroK 3) [a0,a1,a2] 6=(⟨3,atoiN a0,atoiN a1,unqT a2,⟨#[]⟩,⟨#[]⟩,0⟩,[]):=fillW_no (c:=zeroK 3) (k:=5) w5 e5
 show (fillW (zeroK (kindUp (nameL 3) 8)) [a0,a1,a2] 6).1=_
 have hn:=name_kind (k:=3) (by omega)
 rw [hn,e6]
theorem words_4:wordsC ⟨4,client,seq,key,val,old,node⟩ 6=[nameL 4,Lib.decDigits client.toNat,Lib.decDigits seq.toNat,(quoteB key).data.toList]:=by
 obtain ⟨w0,w1,w2,w3,w4,w5⟩:=want_4
 have e0:wordsC ⟨4,client,seq,key,val,old,node⟩ 0=[nameL 4]:=rfl
 have e1:=wordsC_yes (c:=⟨4,client,seq,key,val,old,node⟩) (k:=0) w0 e0
 have e2:=wordsC_yes (c:=⟨4,client,seq,key,val,old,node⟩) (k:=1) w1 e1
 have e3:=wordsC_yes (c:=⟨4,client,seq,key,val,old,node⟩) (k:=2) w2 e2
 have e4:=wordsC_no (c:=⟨4,client,seq,key,val,old,node⟩) (k:=3) w3 e3
 have e5:=wordsC_no (c:=⟨4,client,seq,key,val,old,node⟩) (k:=4) w4 e4
 have e6:=wordsC_no (c:=⟨4,client,seq,key,val,old,node⟩) (k:=5) w5 e5
 exact e6
theorem fill_4 (a0 a1 a2:B8L):cmOf [nameL 4,a0,a1,a2]=⟨4,atoiN a0,atoiN a1,unqT a2,⟨#[]⟩,⟨#[]⟩,0⟩:=by
 obtain ⟨w0,w1,w2,w3,w4,w5⟩:=want_4
 have e0:fillW (zeroK 4) [a0,a1,a2] 0=(⟨4,0,0,⟨#[]⟩,⟨#[]⟩,⟨#[]⟩,0⟩,[a0,a1,a2]):=rfl
 have e1:fillW (zeroK 4) [a0,a1,a2] 1=(⟨4,atoiN a0,0,⟨#[]⟩,⟨#[]⟩,⟨#[]⟩,0⟩,[a1,a2]):=fillW_yes (c:=zeroK 4) (k:=0) w0 e0
 have e2:fillW (zeroK 4) [a0,a1,a2] 2=(⟨4,atoiN a0,atoiN a1,⟨#[]⟩,⟨#[]⟩,⟨#[]⟩,0⟩,[a2]):=fillW_yes (c:=zeroK 4) (k:=1) w1 e1
 have e3:fillW (zeroK 4) [a0,a1,a2] 3=(⟨4,atoiN a0,atoiN a1,unqT a2,⟨#[]⟩,⟨#[]⟩,0⟩,[]):=fillW_yes (c:=zeroK 4) (k:=2) w2 e2
 have e4:fillW (zeroK 4) [a0,a1,a2] 4=(⟨4,atoiN a0,atoiN a1,unqT a2,⟨#[]⟩,⟨#[]⟩,0⟩,[]):=fillW_no (c:=zeroK 4) (k:=3) w3 e3
 have e5:fillW (zeroK 4) [a0,a1,a2] 5=(⟨4,atoiN a0,atoiN a1,unqT a2,⟨#[]⟩,⟨#[]⟩,0⟩,[]):=fillW_no (c:=zeroK 4) (k:=4) w4 e4
 have e6:fillW (zeroK 4) [a0,a1,a2] 6=(⟨4,atoiN a0,atoiN a1,unqT a2,⟨#[]⟩,⟨#[]⟩,0⟩,[]):=fillW_no (c:=zeroK 4) (k:=5) w5 e5
 show (fillW (zeroK (kindUp (nameL 4) 8)) [a0,a1,a2] 6).1=_
 have hn:=name_kind (k:=4) (by omega)
 rw [hn,e6]
theorem words_5:wordsC ⟨5,client,seq,key,val,old,node⟩ 6=[nameL 5,Lib.decDigits client.toNat,Lib.decDigits seq.toNat,(quoteB key).data.toList,(quoteB old).data.toList,(quoteB val).data.toList]:=by
 obtain ⟨w0,w1,w2,w3,w4,w5⟩:=want_5
 have e0:wordsC ⟨5,client,seq,key,val,old,node⟩ 0=[nameL 5]:=rfl
 have e1:=wordsC_yes (c:=⟨5,client,seq,key,val,old,node⟩) (k:=0) w0 e0
 have e2:=wordsC_yes (c:=⟨5,client,seq,key,val,old,node⟩) (k:=1) w1 e1
 have e3:=wordsC_yes (c:=⟨5,client,seq,key,val,old,node⟩) (k:=2) w2 e2
 have e4:=wordsC_yes (c:=⟨5,client,seq,key,val,old,node⟩) (k:=3) w3 e3
 have e5:=wordsC_yes (c:=⟨5,client,seq,key,val,old,node⟩) (k:=4) w4 e4
 have e6:=wordsC_no (c:=⟨5,client,seq,key,val,old,node⟩) (k:=5) w5 e5
 exact e6
theorem fill_5 (a0 a1 a2 a3 a4:B8L):cmOf [nameL 5,a0,a1,a2,a3,a4]=⟨5,atoiN a0,atoiN a1,unqT a2,unqT a4,unqT a3,0⟩:=by
 obtain ⟨w0,w1,w2,w3,w4,w5⟩:=want_5
 have e0:fillW (zeroK 5) [a0,a1,a2,a3,a4] 0=(⟨5,0,0,⟨#[]⟩,⟨#[]⟩,⟨#[]⟩,0⟩,[a0,a1,a2,a3,a4]):=rfl
 have e1:fillW (zeroK 5) [a0,a1,a2,a3,a4] 1=(⟨5,atoiN a0,0,⟨#[]⟩,⟨#[]⟩,⟨#[]⟩,0⟩,[a1,a2,a3,a4]):=fillW_yes (c:=zeroK 5) (k:=0) w0 e0
 have e2:fillW (zeroK 5) [a0,a1,a2,a3,a4] 2=(⟨5,atoiN a0,atoiN a1,⟨#[]⟩,⟨#[]⟩,⟨#[]⟩,0⟩,[a2,a3,a4]):=fillW_yes (c:=zeroK 5) (k:=1) w1 e1
 have e3:fillW (zeroK 5) [a0,a1,a2,a3,a4] 3=(⟨5,atoiN a0,atoiN a1,unqT a2,⟨#[]⟩,⟨#[]⟩,0⟩,[a3,a4]):=fillW_yes (c:=zeroK 5) (k:=2) w2 e2
 have e4:fillW (zeroK 5) [a0,a1,a2,a3,a4] 4=(⟨5,atoiN a0,atoiN a1,unqT a2,⟨#[]⟩,unqT a3,0⟩,[a4]):=fillW_yes (c:=zeroK 5) (k:=3) w3 e3
 have e5:fillW (zeroK 5) [a0,a1,a2,a3,a4] 5=(⟨5,atoiN a0,atoiN a1,unqT a2,unqT a4,unqT a3,0⟩,[]):=fillW_yes (c:=zeroK 5) (k:=4) w4 e4
 have e6:fillW (zeroK 5) [a0,a1,a2,a3,a4] 6=(⟨5,atoiN a0,atoiN a1,unqT a2,unqT a4,unqT a3,0⟩,[]):=fillW_no (c:=zeroK 5) (k:=5) w5 e5
 show (fillW (zeroK (kindUp (nameL 5) 8)) [a0,a1,a2,a3,a4] 6).1=_
 have hn:=name_kind (k:=5) (by omega)
 rw [hn,e6]
theorem words_6:wordsC ⟨6,client,seq,key,val,old,node⟩ 6=[nameL 6]:=by
 obtain ⟨w0,w1,w2,w3,w4,w5⟩:=want_6
 have e0:wordsC ⟨6,client,seq,key,val,old,node⟩ 0=[nameL 6]:=rfl
 have e1:=wordsC_no (c:=⟨6,client,seq,key,val,old,node⟩) (k:=0) w0 e0
 have e2:=wordsC_no (c:=⟨6,client,seq,key,val,old,node⟩) (k:=1) w1 e1
 have e3:=wordsC_no (c:=⟨6,client,seq,key,val,old,node⟩) (k:=2) w2 e2
 have e4:=wordsC_no (c:=⟨6,client,seq,key,val,old,node⟩) (k:=3) w3 e3
 have e5:=wordsC_no (c:=⟨6,client,seq,key,val,old,node⟩) (k:=4) w4 e4
 have e6:=wordsC_no (c:=⟨6,client,seq,key,val,old,node⟩) (k:=5) w5 e5
 exact e6
theorem fill_6:cmOf [nameL 6]=⟨6,0,0,⟨#[]⟩,⟨#[]⟩,⟨#[]⟩,0⟩:=by
 obtain ⟨w0,w1,w2,w3,w4,w5⟩:=want_6
 have e0:fillW (zeroK 6) [] 0=(⟨6,0,0,⟨#[]⟩,⟨#[]⟩,⟨#[]⟩,0⟩,[]):=rfl
 have e1:fillW (zeroK 6) [] 1=(⟨6,0,0,⟨#[]⟩,⟨#[]⟩,⟨#[]⟩,0⟩,[]):=fillW_no (c:=zeroK 6) (k:=0) w0 e0
 have e2:fillW (zeroK 6) [] 2=(⟨6,0,0,⟨#[]⟩,⟨#[]⟩,⟨#[]⟩,0⟩,[]):=fillW_no (c:=zeroK 6) (k:=1) w1 e1
 have e3:fillW (zeroK 6) [] 3=(⟨6,0,0,⟨#[]⟩,⟨#[]⟩,⟨#[]⟩,0⟩,[]):=fillW_no (c:=zeroK 6) (k:=2) w2 e2
 have e4:fillW (zeroK 6) [] 4=(⟨6,0,0,⟨#[]⟩,⟨#[]⟩,⟨#[]⟩,0⟩,[]):=fillW_no (c:=zeroK 6) (k:=3) w3 e3
 have e5:fillW (zeroK 6) [] 5=(⟨6,0,0,⟨#[]⟩,⟨#[]⟩,⟨#[]⟩,0⟩,[]):=fillW_no (c:=zeroK 6) (k:=4) w4 e4
 have e6:fillW (zeroK 6) [] 6=(⟨6,0,0,⟨#[]⟩,⟨#[]⟩,⟨#[]⟩,0⟩,[]):=fillW_no (c:=zeroK 6) (k:=5) w5 e5
 show (fillW (zeroK (kindUp (nameL 6) 8)) [] 6).1=_
 have hn:=name_kind (k:=6) (by omega)
 rw [hn,e6]
theorem words_7:wordsC ⟨7,client,seq,key,val,old,node⟩ 6=[nameL 7,Lib.decDigits node.toNat]:=by
 obtain ⟨w0,w1,w2,w3,w4,w5⟩:=want_7
 have e0:wordsC ⟨7,client,seq,key,val,old,node⟩ 0=[nameL 7]:=rfl
 have e1:=wordsC_no (c:=⟨7,client,seq,key,val,old,node⟩) (k:=0) w0 e0
 have e2:=wordsC_no (c:=⟨7,client,seq,key,val,old,node⟩) (k:=1) w1 e1
 have e3:=wordsC_no (c:=⟨7,client,seq,key,val,old,node⟩) (k:=2) w2 e2
 have e4:=wordsC_no (c:=⟨7,client,seq,key,val,old,node⟩) (k:=3) w3 e3
 have e5:=wordsC_no (c:=⟨7,client,seq,key,val,old,node⟩) (k:=4) w4 e4
 have e6:=wordsC_yes (c:=⟨7,client,seq,key,val,old,node⟩) (k:=5) w5 e5
 exact e6
theorem fill_7 (a5:B8L):cmOf [nameL 7,a5]=⟨7,0,0,⟨#[]⟩,⟨#[]⟩,⟨#[]⟩,atoiN a5⟩:=by
 obtain ⟨w0,w1,w2,w3,w4,w5⟩:=want_7
 have e0:fillW (zeroK 7) [a5] 0=(⟨7,0,0,⟨#[]⟩,⟨#[]⟩,⟨#[]⟩,0⟩,[a5]):=rfl
 have e1:fillW (zeroK 7) [a5] 1=(⟨7,0,0,⟨#[]⟩,⟨#[]⟩,⟨#[]⟩,0⟩,[a5]):=fillW_no (c:=zeroK 7) (k:=0) w0 e0
 have e2:fillW (zeroK 7) [a5] 2=(⟨7,0,0,⟨#[]⟩,⟨#[]⟩,⟨#[]⟩,0⟩,[a5]):=fillW_no (c:=zeroK 7) (k:=1) w1 e1
 have e3:fillW (zeroK 7) [a5] 3=(⟨7,0,0,⟨#[]⟩,⟨#[]⟩,⟨#[]⟩,0⟩,[a5]):=fillW_no (c:=zeroK 7) (k:=2) w2 e2
 have e4:fillW (zeroK 7) [a5] 4=(⟨7,0,0,⟨#[]⟩,⟨#[]⟩,⟨#[]⟩,0⟩,[a5]):=fillW_no (c:=zeroK 7) (k:=3) w3 e3
 have e5:fillW (zeroK 7) [a5] 5=(⟨7,0,0,⟨#[]⟩,⟨#[]⟩,⟨#[]⟩,0⟩,[a5]):=fillW_no (c:=zeroK 7) (k:=4) w4 e4
 have e6:fillW (zeroK 7) [a5] 6=(⟨7,0,0,⟨#[]⟩,⟨#[]⟩,⟨#[]⟩,atoiN a5⟩,[]):=fillW_yes (c:=zeroK 7) (k:=5) w5 e5
 show (fillW (zeroK (kindUp (nameL 7) 8)) [a5] 6).1=_
 have hn:=name_kind (k:=7) (by omega)
 rw [hn,e6]
theorem words_8:wordsC ⟨8,client,seq,key,val,old,node⟩ 6=[nameL 8,Lib.decDigits node.toNat]:=by
 obtain ⟨w0,w1,w2,w3,w4,w5⟩:=want_8
 have e0:wordsC ⟨8,client,seq,key,val,old,node⟩ 0=[nameL 8]:=rfl
 have e1:=wordsC_no (c:=⟨8,client,seq,key,val,old,node⟩) (k:=0) w0 e0
 have e2:=wordsC_no (c:=⟨8,client,seq,key,val,old,node⟩) (k:=1) w1 e1
 have e3:=wordsC_no (c:=⟨8,client,seq,key,val,old,node⟩) (k:=2) w2 e2
 have e4:=wordsC_no (c:=⟨8,client,seq,key,val,old,node⟩) (k:=3) w3 e3
 have e5:=wordsC_no (c:=⟨8,client,seq,key,val,old,node⟩) (k:=4) w4 e4
 have e6:=wordsC_yes (c:=⟨8,client,seq,key,val,old,node⟩) (k:=5) w5 e5
 exact e6
theorem fill_8 (a5:B8L):cmOf [nameL 8,a5]=⟨8,0,0,⟨#[]⟩,⟨#[]⟩,⟨#[]⟩,atoiN a5⟩:=by
 obtain ⟨w0,w1,w2,w3,w4,w5⟩:=want_8
 have e0:fillW (zeroK 8) [a5] 0=(⟨8,0,0,⟨#[]⟩,⟨#[]⟩,⟨#[]⟩,0⟩,[a5]):=rfl
 have e1:fillW (zeroK 8) [a5] 1=(⟨8,0,0,⟨#[]⟩,⟨#[]⟩,⟨#[]⟩,0⟩,[a5]):=fillW_no (c:=zeroK 8) (k:=0) w0 e0
 have e2:fillW (zeroK 8) [a5] 2=(⟨8,0,0,⟨#[]⟩,⟨#[]⟩,⟨#[]⟩,0⟩,[a5]):=fillW_no (c:=zeroK 8) (k:=1) w1 e1
 have e3:fillW (zeroK 8) [a5] 3=(⟨8,0,0,⟨#[]⟩,⟨#[]⟩,⟨#[]⟩,0⟩,[a5]):=fillW_no (c:=zeroK 8) (k:=2) w2 e2
 have e4:fillW (zeroK 8) [a5] 4=(⟨8,0,0,⟨#[]⟩,⟨#[]⟩,⟨#[]⟩,0⟩,[a5]):=fillW_no (c:=zeroK 8) (k:=3) w3 e3
 have e5:fillW (zeroK 8) [a5] 5=(⟨8,0,0,⟨#[]⟩,⟨#[]⟩,⟨#[]⟩,0⟩,[a5]):=fillW_no (c:=zeroK 8) (k:=4) w4 e4
 have e6:fillW (zeroK 8) [a5] 6=(⟨8,0,0,⟨#[]⟩,⟨#[]⟩,⟨#[]⟩,atoiN a5⟩,[]):=fillW_yes (c:=zeroK 8) (k:=5) w5 e5
 show (fillW (zeroK (kindUp (nameL 8) 8)) [a5] 6).1=_
 have hn:=name_kind (k:=8) (by omega)
 rw [hn,e6]
end
theorem cmOf_words {c:Cm}(h:cmdI c=0):cmOf (wordsC c 6)=c:=by
 obtain ⟨hk,h1,h2,h3,h4,h5,h6,h7,h8⟩:=cmd_fine h
 obtain ⟨kind,client,seq,key,val,old,node⟩:=c
 simp only at hk h1 h2 h3 h4 h5 h6 h7 h8
 obtain rfl|rfl|rfl|rfl|rfl|rfl|rfl|rfl:kind=1∨kind=2∨kind=3∨kind=4∨kind=5∨kind=6∨kind=7∨kind=8:=by omega
 ·obtain ⟨rfl,rfl,e1⟩:=h5 (by omega)
  obtain rfl:=empty_of e1
  obtain rfl:=empty_of (h6 (by omega))
  obtain rfl:=empty_of (h7 (by omega))
  obtain rfl:=h8 (by omega)
  rw [words_1,fill_1]
 ·obtain ⟨a1,a2,a3⟩:=h1 (by omega)
  obtain rfl:=empty_of (h7 (by omega))
  obtain rfl:=h8 (by omega)
  rw [words_2,fill_2]
  rw [atoiN_dig (n:=client) (by omega) (by omega),atoiN_dig (n:=seq) (by omega) (by omega),unqT_quote (fine_key a3).1,unqT_quote (fine_val (h2 (by omega))).1]
 ·obtain ⟨a1,a2,a3⟩:=h1 (by omega)
  obtain rfl:=empty_of (h6 (by omega))
  obtain rfl:=empty_of (h7 (by omega))
  obtain rfl:=h8 (by omega)
  rw [words_3,fill_3]
  rw [atoiN_dig (n:=client) (by omega) (by omega),atoiN_dig (n:=seq) (by omega) (by omega),unqT_quote (fine_key a3).1]
 ·obtain ⟨a1,a2,a3⟩:=h1 (by omega)
  obtain rfl:=empty_of (h6 (by omega))
  obtain rfl:=empty_of (h7 (by omega))
  obtain rfl:=h8 (by omega)
  rw [words_4,fill_4]
  rw [atoiN_dig (n:=client) (by omega) (by omega),atoiN_dig (n:=seq) (by omega) (by omega),unqT_quote (fine_key a3).1]
 ·obtain ⟨a1,a2,a3⟩:=h1 (by omega)
  obtain rfl:=h8 (by omega)
  rw [words_5,fill_5]
  rw [atoiN_dig (n:=client) (by omega) (by omega),atoiN_dig (n:=seq) (by omega) (by omega),unqT_quote (fine_key a3).1,unqT_quote (fine_val (h3 (by omega))).1,unqT_quote (fine_val (h2 (by omega))).1]
 ·obtain ⟨rfl,rfl,e1⟩:=h5 (by omega)
  obtain rfl:=empty_of e1
  obtain rfl:=empty_of (h6 (by omega))
  obtain rfl:=empty_of (h7 (by omega))
  obtain rfl:=h8 (by omega)
  rw [words_6,fill_6]
 ·obtain ⟨rfl,rfl,e1⟩:=h5 (by omega)
  obtain rfl:=empty_of e1
  obtain rfl:=empty_of (h6 (by omega))
  obtain rfl:=empty_of (h7 (by omega))
  rw [words_7,fill_7]
  rw [atoiN_dig (n:=node) (by have:=h4 (by omega);omega) (by have:=h4 (by omega);omega)]
 ·obtain ⟨rfl,rfl,e1⟩:=h5 (by omega)
  obtain rfl:=empty_of e1
  obtain rfl:=empty_of (h6 (by omega))
  obtain rfl:=empty_of (h7 (by omega))
  rw [words_8,fill_8]
  rw [atoiN_dig (n:=node) (by have:=h4 (by omega);omega) (by have:=h4 (by omega);omega)]
theorem cmdL_ne {c:Cm}(h:cmdI c=0):cmdL c≠[]:=by
 have hw:=words_all h 6 (by omega)
 have h1:=joinL_len _ fun w hw2=>isWord_ne (hw w hw2)
 have h2:=(wordsC_len c 6).1
 intro e
 unfold cmdL at e
 rw [e] at h1
 simp at h1
 rw [h1] at h2
 simp at h2
theorem parse_cmd {c:Cm}(h:cmdI c=0):parseB (cmdB c)=some c:=by
 have hne:=List.length_pos_iff.2 (cmdL_ne h)
 unfold parseB
 rw [if_neg (by rw [cmdB_size];omega),words_cmd h]
 simp only [cmOf_words h]
 unfold textB
 rw [if_pos h,if_pos rfl]
def okLine (x:Ent):Prop:=cmdI x.cmd=0∧1≤x.index∧x.index≤4294967296
noncomputable instance (x:Ent):Decidable (okLine x):=Classical.propDecidable _
def lineL (x:Ent):B8L:=joinL [Lib.decDigits x.index.toNat,cmdL x.cmd]
def lineB (x:Ent):ByteArray:=⟨(lineL x).toArray⟩
noncomputable def logB (l:List Ent):List ByteArray:=(l.filter fun x=>decide (okLine x)).map lineB
def tailL (l:B8L):B8L:=l.drop ((headL l).length+1)
def entOf (n:Int) (c:Cm):Ent:=⟨n,0,0,c⟩
noncomputable def readOne (s:ByteArray):Option Ent:=match parseB ⟨(tailL s.data.toList).toArray⟩ with
 | none=>none
 | some c=>if okLine (entOf (atoiN (headL s.data.toList)) c)∧lineB (entOf (atoiN (headL s.data.toList)) c)=s then some (entOf (atoiN (headL s.data.toList)) c) else none
noncomputable def readLog:List ByteArray→Option (List Ent)
 | []=>some []
 | s::l=>match readOne s with
  | none=>none
  | some x=>(readLog l).map (x :: ·)
theorem readOne_line {s:ByteArray}{x:Ent}(h:readOne s=some x):okLine x∧lineB x=s:=by
 unfold readOne at h
 split at h
 ·cases h
 ·split at h
  ·rename_i h2
   rw [← Option.some.inj h]
   exact h2
  ·cases h
theorem readLog_lines:∀ {l:List ByteArray}{xs:List Ent},readLog l=some xs→logB xs=l
 | [],xs,h=>by
  have:xs=[]:=(Option.some.inj h).symm
  subst this
  rfl
 | s::l,xs,h=>by
  unfold readLog at h
  split at h
  ·cases h
  ·rename_i x hx
   obtain ⟨h1,h2⟩:=readOne_line hx
   obtain ⟨ys,hy,rfl⟩:=Option.map_eq_some_iff.1 h
   have ih:=readLog_lines hy
   unfold logB at ih ⊢
   rw [List.filter_cons,if_pos (by simpa using h1),List.map_cons,ih,h2]
theorem headL_of {a b:B8L}(h:∀ x∈a,x≠32):headL (a++32::b)=a:=by
 unfold headL
 rw [List.takeWhile_append_of_pos (fun x hx=>decide_eq_true (h x hx)),List.takeWhile_cons,if_neg (by simp),List.append_nil]
theorem readOne_of {x:Ent}(h:okLine x):readOne (lineB x)=some (entOf x.index x.cmd):=by
 obtain ⟨h1,h2,h3⟩:=h
 have e:(lineB x).data.toList=Lib.decDigits x.index.toNat++32::cmdL x.cmd:=rfl
 have hh:headL (lineB x).data.toList=Lib.decDigits x.index.toNat:=by
  rw [e]
  exact headL_of fun b hb e=>by
   have:=decDigits_dig _ b hb
   subst e
   simp at this
 have ht:tailL (lineB x).data.toList=cmdL x.cmd:=by
  unfold tailL
  rw [hh,e,← List.drop_drop,List.drop_left]
  rfl
 have hn:=atoiN_dig (n:=x.index) (by omega) h3
 have hc:(⟨(cmdL x.cmd).toArray⟩:ByteArray)=cmdB x.cmd:=rfl
 unfold readOne
 rw [ht,hc,parse_cmd h1,hh,hn]
 simp only
 rw [if_pos]
 exact ⟨⟨h1,h2,h3⟩,rfl⟩
theorem readLog_of (l:List Ent):readLog (logB l)=some ((l.filter fun x=>decide (okLine x)).map fun x=>entOf x.index x.cmd):=by
 unfold logB
 have hall:∀ x∈l.filter (fun x=>decide (okLine x)),okLine x:=fun x hx=>by simpa using (List.mem_filter.1 hx).2
 generalize l.filter (fun x=>decide (okLine x))=m at hall
 induction m with
 | nil=>rfl
 | cons x m ih =>
  rw [List.map_cons,readLog,readOne_of (hall x (List.mem_cons_self ..)),ih fun y hy=>hall y (List.mem_cons_of_mem _ hy)]
  rfl
end Go.Proofs.YtnncjoooaknlmaaGreatDoor
/-
  report (layer 46), the reference's walks: Digits, Number, Quote (of a fine text), Text (of a command that may be).
-/
set_option maxHeartbeats 2000000
namespace Go.Proofs.YtnncjoooaknlmaaGreatDoor
open Go.Vx Go.ChangeShapes Go.WideShapes Go.ChangeAt Go.RowKit
section
attribute [local semireducible] PureOp
variable {P:Program}{ty t t':TypeId}{σ:Env}
theorem p_rem10 {x y:Operand}{a:Nat}(hx:Env.ev σ x=some (.int .i64 (a:Nat))) (hy:Env.ev σ y=some (.int .i64 10)):PureOp P (.binOp .rem t x y t') ty σ (.int .i64 ((a % 10:Nat):Int)):=by
 have q:=p_rem0 (P:=P) (ty:=ty) (t:=t) (t':=t') hx hy (by omega) (by omega)
 rw [show ((a:Nat):Int) % 10=((a % 10:Nat):Int) by omega] at q
 exact q
theorem p_quo10 {x y:Operand}{a:Nat}(hx:Env.ev σ x=some (.int .i64 (a:Nat))) (hy:Env.ev σ y=some (.int .i64 10)) (h:a≤9223372036854775807):PureOp P (.binOp .quo t x y t') ty σ (.int .i64 ((a / 10:Nat):Int)):=by
 have q:=p_quo (P:=P) (ty:=ty) (t:=t) (t':=t') hx hy (by omega) (by omega)
 rw [show ((a:Nat):Int) / 10=((a / 10:Nat):Int) by omega] at q
 exact q
theorem p_sliceStrE {x lo hi:Operand}{s pc:ByteArray}{k k':IntKind}(l h:Nat) [Ty P t .string] (hx:Env.ev σ x=some (.string s)) (hl:Env.ev σ lo=some (.int k (l:Int))) (hh:Env.ev σ hi=some (.int k' (h:Int))) (h0:l≤h) (h1:h≤s.size) (e:s.extract l h=pc) :
 PureOp P (.slice t x (some lo) (some hi) none) ty σ (.string pc):=by
 subst e
 exact p_sliceStrLH l h hx hl hh h0 h1
end
def digB:ByteArray:=⟨#[48,49,50,51,52,53,54,55,56,57]⟩
theorem digB_size:digB.size=10:=rfl
theorem digB_at {n:Nat}(h:n<10):digB.extract n (n+1)=⟨#[UInt8.ofNat (48+n)]⟩:=by
 match n,h with
 | 0,_|1,_|2,_|3,_|4,_|5,_|6,_|7,_|8,_|9,_=>rfl
 | n+10,h=>omega
theorem decDigits_step {n:Nat}(h:¬ n<10):Lib.decDigits n=Lib.decDigits (n / 10)++[UInt8.ofNat (48+n % 10)]:=by rw [Lib.decDigits,dif_neg h]
theorem ba_ext {a b:ByteArray}(h:a.data.toList=b.data.toList):a=b:=ByteArray.ext (Array.ext' h)
theorem refDigits_s {G:GH}{n:Nat}(hn:n<10000000000):Con Tryz.prog 53 #[.int .i64 (n:Int)] G [] (Just (.string (numB n)) G):=by
 have hlen:=decDigits_len 9 n (by omega)
 apply Con.just
 (refine v_enter Tryz.func53 rfl Tryz.ntmps53 rfl ?_;intro B _)
 repeat' (first|refine Wa ?_|(refine Wc ⟨?_,?_⟩<;>first|intro h|exact ⟨⟩)|fail)
 refine v_loopI (ι:=Nat) [0,3] (fun m us G' μ'=>G'=G∧μ'=[]∧∃ s:ByteArray,us=[Value.int .i64 (m:Nat),.string s]∧Lib.decDigits n=Lib.decDigits m++s.data.toList∧m≤n) (fun m=>m) rfl n ⟨rfl,rfl,_,rfl,(List.append_nil _).symm,Nat.le_refl _⟩ ?_
 rintro m us G' μ' ⟨rfl,rfl,s,rfl,he,hm⟩
 have hd:=digB_at (n:=m % 10) (by omega)
 have hs:s.size≤10:=by
  have h1:=congrArg List.length he
  have h2:s.data.toList.length=s.size:=Array.length_toList ..
  rw [List.length_append,h2] at h1
  omega
 repeat' (first|apply v_pure;(case hop=>apply p_rem10 rfl rfl);(case hd=>rfl)|apply v_pure;(case hop=>apply p_quo10 rfl rfl (by omega));(case hd=>rfl)|apply v_pure;(case hop=>apply p_sliceStrLH (s:=digB) (m % 10) (m % 10+1) rfl rfl rfl (by omega) (by rw [digB_size];omega));(case hd=>rfl)|apply v_pure;(case hop=>apply p_addS rfl rfl (by rw [hd];show 1+s.size≤_;omega));(case hd=>rfl)|refine Wa ?_|(refine Wc ⟨?_,?_⟩<;>first|intro h|exact ⟨⟩)|fail)
 ·refine Vr ?_
  refine ⟨?_,rfl⟩
  rw [hd]
  congr 1
  apply ba_ext
  rw [numB_list,he,Lib.decDigits_one (by omega:m<10)]
  have e:m % 10=m:=by omega
  rw [e]
  simp
 ·refine v_againI (m / 10) rfl ⟨rfl,rfl,_,rfl,?_,by omega⟩ (by omega)
  rw [hd,he,decDigits_step (by omega:¬ m<10)]
  simp
theorem refNumber_s {G:GH}{n:Int}(h0:0≤n) (hn:n<10000000000):Con Tryz.prog 18 #[.int .i64 n] G [] (Just (.string (numB n.toNat)) G):=by
 have q:=refDigits_s (G:=G) (n:=n.toNat) (by omega)
 rw [Int.toNat_of_nonneg h0] at q
 (refine v_enter Tryz.func18 rfl Tryz.ntmps18 rfl ?_;intro B _)
 repeat' (first|refine Wa ?_|(refine Wc ⟨?_,?_⟩<;>first|intro h|exact ⟨⟩)|refine cJ q ?_|fail)
 refine Vr ?_
 exact ⟨rfl,rfl,rfl⟩
theorem refQuote_s {G:GH}{s:ByteArray}(hf:fineB s) (hs:s.size≤65536):Con Tryz.prog 54 #[.string s] G [] (Just (.string (quoteB s)) G):=by
 have hz92:(ByteArray.mk #[92]).size=1:=rfl
 have hz34:(ByteArray.mk #[34]).size=1:=rfl
 apply Con.just
 (refine v_enter Tryz.func54 rfl Tryz.ntmps54 rfl ?_;intro B _)
 repeat' (first|refine Wa ?_|(refine Wc ⟨?_,?_⟩<;>first|intro h|exact ⟨⟩)|fail)
 have hq:(quoteB s).data.toList=34::(quoR s s.size 0++[34]):=rfl
 refine v_loopI (ι:=Nat×Nat) [0,3,4] (fun x us G' μ'=>G'=G∧μ'=[]∧∃ u:ByteArray,us=[Value.string s,.string u,.int .i64 (x.1:Nat)]∧u.data.toList++quoR s x.2 x.1++[34]=(quoteB s).data.toList∧u.size≤1+5*x.1∧s.size≤x.1+x.2∧x.1≤s.size∧badR s x.2 x.1<0) (fun x=>s.size-x.1) rfl (0,s.size) ⟨rfl,rfl,_,rfl,by rw [hq];rfl,by rw [hz34];omega,by simp,by simp,hf.2⟩ ?_
 rintro ⟨i,m⟩ us G' μ' ⟨rfl,rfl,u,rfl,he,hu,hm,hi,hb⟩
 simp only at he hu hm hi hb
 by_cases hp:i<s.size
 ·obtain ⟨m,rfl⟩:=fuel hp hm
  have hsz:=size_s (G:=G') hp (by omega)
  have hd:=decode_of_sz s i hp
  unfold badR at hb
  rw [if_pos hp] at hb
  by_cases hz:(szR s i).1=0
  ·rw [if_pos hz] at hb;omega
  rw [if_neg hz] at hb hd
  have hend:=sz_end s i hz hp
  have hbig:=sz_big s i hz
  have hok:=hf.1 i hp
  have hq2:quoR s (m+1) i=escape1 (szR s i).2 (pieceL s i (szR s i).1)++quoR s m (i+(szR s i).1):=by rw [quoR,if_pos hp,hd]
  have hpl:=pieceL_len hend
  have hpt:=piece_toList s i (szR s i).1
  rw [hq2] at he
  clear hq2 hd
  unfold szV at hsz
  have hnv:((szR s i).1=1∧(szR s i).2=byt s i∧byt s i<128)∨(2≤(szR s i).1∧128≤(szR s i).2):=by
   rcases hbig with ⟨e,h⟩|⟨a,b,-⟩
   ·rw [e];exact .inl ⟨rfl,rfl,h⟩
   ·exact .inr ⟨a,b⟩
  clear hbig
  generalize (szR s i).1=n at *
  generalize (szR s i).2=v at *
  have hxs:(s.extract i (i+n)).size=n:=by rw [ByteArray.size_extract];omega
  by_cases hqq:v=34∨v=92
  ·have hn1:n=1:=by omega
   subst hn1
   have he1:escape1 v (pieceL s i 1)=92::pieceL s i 1:=by unfold escape1;rw [if_pos hqq]
   rw [he1] at he
   generalize hpc:s.extract i (i+1)=pc at *
   repeat' (first|apply v_pure;(case hop=>apply p_sliceStrE i (i+1) rfl rfl rfl (by omega) hend hpc);(case hd=>rfl)|apply v_pure;(case hop=>apply p_addS rfl rfl (by first|omega|(rw [ByteArray.size_append];omega)));(case hd=>rfl)|refine Wa ?_|(refine Wc ⟨?_,?_⟩<;>first|intro h|exact ⟨⟩)|refine cJ hsz ?_|fail)
   all_goals
    (refine v_againI (i+1,m) rfl ⟨rfl,rfl,_,rfl,?_,?_,by simp only;omega,by simp only;omega,hb⟩ (by simp only;omega)
     ·rw [← he]
      simp [hpt]
     ·rw [ByteArray.size_append,ByteArray.size_append]
      simp only
      omega)
  ·have he1:escape1 v (pieceL s i n)=pieceL s i n:=by
    unfold escape1
    rw [if_neg hqq,if_neg (by rw [hpl];omega)]
   rw [he1] at he
   generalize hpc:s.extract i (i+n)=pc at *
   repeat' (first|apply v_pure;(case hop=>apply p_sliceStrE i (i+n) rfl rfl rfl (by omega) hend hpc);(case hd=>rfl)|apply v_pure;(case hop=>apply p_addS rfl rfl (by first|omega|(rw [ByteArray.size_append];omega)));(case hd=>rfl)|refine Wa ?_|(refine Wc ⟨?_,?_⟩<;>first|intro h|exact ⟨⟩)|refine cJ hsz ?_|fail)
   all_goals
    (refine v_againI (i+n,m) rfl ⟨rfl,rfl,_,rfl,?_,?_,by simp only;omega,by simp only;omega,hb⟩ (by simp only;omega)
     ·rw [← he]
      simp [hpt]
     ·rw [ByteArray.size_append]
      simp only
      omega)
 ·have hq0:quoR s m i=[]:=by
   cases m with
   | zero=>rfl
   | succ m=>rw [quoR,if_neg hp]
  repeat' (first|apply v_pure;(case hop=>apply p_addS rfl rfl (by omega));(case hd=>rfl)|refine Wa ?_|(refine Wc ⟨?_,?_⟩<;>first|intro h|exact ⟨⟩)|fail)
  refine Vr ?_
  refine ⟨?_,rfl⟩
  congr 1
  apply ba_ext
  rw [← he,hq0]
  simp
theorem quoteB_len {s:ByteArray}(h:fineB s):(quoteB s).size≤2+2*s.size:=by
 have hl:s.data.toList.length=s.size:=Array.length_toList ..
 have h1:∀ l:List UInt8,(escL l).length≤2*l.length:=by
  intro l
  induction l with
  | nil=>exact Nat.le_refl _
  | cons b l ih =>
   show (escB b++escL l).length≤_
   rw [List.length_append,List.length_cons]
   have:(escB b).length≤2:=by unfold escB;split<;>simp
   omega
 have h2:=h1 s.data.toList
 rw [quoteB_fine h]
 show (List.toArray _).size≤_
 simp only [List.size_toArray,List.length_cons,List.length_append,List.length_nil]
 omega
theorem numB_len {n:Int}(h:n≤4294967296):(numB n.toNat).size≤10:=by
 rw [numB_size]
 exact decDigits_len 9 _ (by omega)
end Go.Proofs.YtnncjoooaknlmaaGreatDoor
/-
  report (layer 46), the walks: the reference's Text, the program's name.
-/
set_option maxHeartbeats 2000000
namespace Go.Proofs.YtnncjoooaknlmaaGreatDoor
open Go.Vx Go.ChangeShapes Go.WideShapes Go.ChangeAt Go.RowKit
section
variable {P:Program}{ty:TypeId}{σ:Env}{t:TypeId}{bytes:Nat}{zero:Value}
attribute [local semireducible] PureOp
theorem p_buildArr {e:TypeId}{agg agg':Bool}{sz len sz' bytes':Nat}{zero':Value}{ps:List (Nat×Operand)}{vs zs cs:List Value}[hA:Ty P t (.array len e)] [Lay P t agg sz bytes zero] [Lay P e agg' sz' bytes' zero'] (hz:zero.cells=zs.toArray) (hv:Env.evs σ (ps.map (·.2))=some vs) (hb:buildF (fun i=>some (i*sz',sz')) zs ((ps.map (·.1)).zip vs)=some cs) :
 PureOp P (.build t ps.toArray) ty σ (.agg cs.toArray):=by
 intro dst pos af g ρ hρ w
 have hfill:=fill_buildF _ _ _ _ hb
 have hparts:(ps.toArray.map fun (x:Nat×Operand)=>(x.1,ρ x.2)).toList=(ps.map (·.1)).zip vs:=by
  simp [evs_snd hρ hv]
 simp only [execOp,Instr.build,Sem.run_bind,run_zeroOf (P:=P) (t:=t) (agg:=agg) (size:=sz) (bytes:=bytes) (zero:=zero),Result.andThen_ok,run_under (t:=t) (d:=.array len e),Go.Vx.run_sizeOf (P:=P) (t:=e) (agg:=agg') (size:=sz') (bytes:=bytes') (zero:=zero'),hz,hparts,hfill,Sem.run_pure]
theorem p_indexN1 {e:TypeId}{len:Nat}{x i:Operand}{vs:List Value}{v:Value}{k:IntKind}(m:Nat) [Ty P t (.array len e)] [Lay P e false 1 bytes zero] (hx:Env.ev σ x=some (.agg vs.toArray)) (hi:Env.ev σ i=some (.int k (m:Nat))) (h:m<len) (hu:vs[m]? = some v):PureOp P (.index t x i) ty σ v:=by
 intro dst pos af g ρ hρ w
 have h1:(0:Int)≤((m:Nat):Int)∧((m:Nat):Int)<(len:Nat):=by omega
 have h2:vs.toArray[m]! = v:=by
  have:vs.toArray[m]? = some v:=by simpa using hu
  rw [getElem!_def,this]
 simp only [execOp,hρ _ _ hx,hρ _ _ hi,Instr.index,asIntOf,Sem.run_bind,Sem.run_pure,Result.andThen_ok,run_under (t:=t) (d:=.array len e),h1,and_self,if_true,Int.toNat_natCast,Go.Vx.run_sizeOf (P:=P) (t:=e) (agg:=false) (size:=1) (bytes:=bytes) (zero:=zero),part,Go.Vx.run_isAgg' (P:=P) (t:=e) (agg:=false) (size:=1) (bytes:=bytes) (zero:=zero)]
 simp [hu]
end
theorem name_s (G:GH) {k:Int}(hk:1≤k∧k≤8):Con Tryz.prog 48 #[.int .i64 k] G [] (Just (.string (nameB k)) G):=by
 (refine v_enter Tryz.func48 rfl Tryz.ntmps48 rfl ?_;intro B _)
 obtain rfl|rfl|rfl|rfl|rfl|rfl|rfl|rfl:k=1∨k=2∨k=3∨k=4∨k=5∨k=6∨k=7∨k=8:=by omega
 ·repeat' (first|apply v_pure;(case hop=>(apply p_buildArr;(case hz=>rfl);(case hv=>(simp only [List.map_cons,List.map_nil];repeat (first|with_reducible exact evs_nil|apply evs_cons;(case h1=>rfl))));(case hb=>rfl)));(case hd=>rfl)|apply v_pure;(case hop=>apply p_indexN1 1 rfl rfl (by omega) rfl);(case hd=>rfl)|refine Wa ?_|(refine Wc ⟨?_,?_⟩<;>first|intro h|exact ⟨⟩)|fail)
  refine Vr ?_
  exact ⟨rfl,rfl,rfl⟩
 ·repeat' (first|apply v_pure;(case hop=>(apply p_buildArr;(case hz=>rfl);(case hv=>(simp only [List.map_cons,List.map_nil];repeat (first|with_reducible exact evs_nil|apply evs_cons;(case h1=>rfl))));(case hb=>rfl)));(case hd=>rfl)|apply v_pure;(case hop=>apply p_indexN1 2 rfl rfl (by omega) rfl);(case hd=>rfl)|refine Wa ?_|(refine Wc ⟨?_,?_⟩<;>first|intro h|exact ⟨⟩)|fail)
  refine Vr ?_
  exact ⟨rfl,rfl,rfl⟩
 ·repeat' (first|apply v_pure;(case hop=>(apply p_buildArr;(case hz=>rfl);(case hv=>(simp only [List.map_cons,List.map_nil];repeat (first|with_reducible exact evs_nil|apply evs_cons;(case h1=>rfl))));(case hb=>rfl)));(case hd=>rfl)|apply v_pure;(case hop=>apply p_indexN1 3 rfl rfl (by omega) rfl);(case hd=>rfl)|refine Wa ?_|(refine Wc ⟨?_,?_⟩<;>first|intro h|exact ⟨⟩)|fail)
  refine Vr ?_
  exact ⟨rfl,rfl,rfl⟩
 ·repeat' (first|apply v_pure;(case hop=>(apply p_buildArr;(case hz=>rfl);(case hv=>(simp only [List.map_cons,List.map_nil];repeat (first|with_reducible exact evs_nil|apply evs_cons;(case h1=>rfl))));(case hb=>rfl)));(case hd=>rfl)|apply v_pure;(case hop=>apply p_indexN1 4 rfl rfl (by omega) rfl);(case hd=>rfl)|refine Wa ?_|(refine Wc ⟨?_,?_⟩<;>first|intro h|exact ⟨⟩)|fail)
  refine Vr ?_
  exact ⟨rfl,rfl,rfl⟩
 ·repeat' (first|apply v_pure;(case hop=>(apply p_buildArr;(case hz=>rfl);(case hv=>(simp only [List.map_cons,List.map_nil];repeat (first|with_reducible exact evs_nil|apply evs_cons;(case h1=>rfl))));(case hb=>rfl)));(case hd=>rfl)|apply v_pure;(case hop=>apply p_indexN1 5 rfl rfl (by omega) rfl);(case hd=>rfl)|refine Wa ?_|(refine Wc ⟨?_,?_⟩<;>first|intro h|exact ⟨⟩)|fail)
  refine Vr ?_
  exact ⟨rfl,rfl,rfl⟩
 ·repeat' (first|apply v_pure;(case hop=>(apply p_buildArr;(case hz=>rfl);(case hv=>(simp only [List.map_cons,List.map_nil];repeat (first|with_reducible exact evs_nil|apply evs_cons;(case h1=>rfl))));(case hb=>rfl)));(case hd=>rfl)|apply v_pure;(case hop=>apply p_indexN1 6 rfl rfl (by omega) rfl);(case hd=>rfl)|refine Wa ?_|(refine Wc ⟨?_,?_⟩<;>first|intro h|exact ⟨⟩)|fail)
  refine Vr ?_
  exact ⟨rfl,rfl,rfl⟩
 ·repeat' (first|apply v_pure;(case hop=>(apply p_buildArr;(case hz=>rfl);(case hv=>(simp only [List.map_cons,List.map_nil];repeat (first|with_reducible exact evs_nil|apply evs_cons;(case h1=>rfl))));(case hb=>rfl)));(case hd=>rfl)|apply v_pure;(case hop=>apply p_indexN1 7 rfl rfl (by omega) rfl);(case hd=>rfl)|refine Wa ?_|(refine Wc ⟨?_,?_⟩<;>first|intro h|exact ⟨⟩)|fail)
  refine Vr ?_
  exact ⟨rfl,rfl,rfl⟩
 ·repeat' (first|apply v_pure;(case hop=>(apply p_buildArr;(case hz=>rfl);(case hv=>(simp only [List.map_cons,List.map_nil];repeat (first|with_reducible exact evs_nil|apply evs_cons;(case h1=>rfl))));(case hb=>rfl)));(case hd=>rfl)|apply v_pure;(case hop=>apply p_indexN1 8 rfl rfl (by omega) rfl);(case hd=>rfl)|refine Wa ?_|(refine Wc ⟨?_,?_⟩<;>first|intro h|exact ⟨⟩)|fail)
  refine Vr ?_
  exact ⟨rfl,rfl,rfl⟩
section
variable (cl sq nd:Int) (k v o:ByteArray)
theorem cmdL_1:cmdL ⟨1,cl,sq,k,v,o,nd⟩=[110,111,112]:=by
 rw [cmdL,words_1]
 rfl
theorem cmdL_2:cmdL ⟨2,cl,sq,k,v,o,nd⟩=[112,117,116]++32::(Lib.decDigits cl.toNat++32::(Lib.decDigits sq.toNat++32::((quoteB k).data.toList++32::(quoteB v).data.toList))):=by
 rw [cmdL,words_2]
 rfl
theorem cmdL_3:cmdL ⟨3,cl,sq,k,v,o,nd⟩=[103,101,116]++32::(Lib.decDigits cl.toNat++32::(Lib.decDigits sq.toNat++32::(quoteB k).data.toList)):=by
 rw [cmdL,words_3]
 rfl
theorem cmdL_4:cmdL ⟨4,cl,sq,k,v,o,nd⟩=[100,101,108]++32::(Lib.decDigits cl.toNat++32::(Lib.decDigits sq.toNat++32::(quoteB k).data.toList)):=by
 rw [cmdL,words_4]
 rfl
theorem cmdL_5:cmdL ⟨5,cl,sq,k,v,o,nd⟩=[99,97,115]++32::(Lib.decDigits cl.toNat++32::(Lib.decDigits sq.toNat++32::((quoteB k).data.toList++32::((quoteB o).data.toList++32::(quoteB v).data.toList)))):=by
 rw [cmdL,words_5]
 rfl
theorem cmdL_6:cmdL ⟨6,cl,sq,k,v,o,nd⟩=[97,99,116,105,118,97,116,101]:=by
 rw [cmdL,words_6]
 rfl
theorem cmdL_7:cmdL ⟨7,cl,sq,k,v,o,nd⟩=[97,100,100]++32::Lib.decDigits nd.toNat:=by
 rw [cmdL,words_7]
 rfl
theorem cmdL_8:cmdL ⟨8,cl,sq,k,v,o,nd⟩=[100,114,111,112]++32::Lib.decDigits nd.toNat:=by
 rw [cmdL,words_8]
 rfl
end
theorem refText_s {G:GH}{c:Cm}(h:cmdI c=0):Con Tryz.prog 19 #[.agg c.cells.toArray] G [] (Just (.string (cmdB c)) G):=by
 have hz32:(ByteArray.mk #[32]).size=1:=rfl
 have hz2:(ByteArray.mk #[112,117,116]).size=3:=rfl
 have hz3:(ByteArray.mk #[103,101,116]).size=3:=rfl
 have hz4:(ByteArray.mk #[100,101,108]).size=3:=rfl
 have hz5:(ByteArray.mk #[99,97,115]).size=3:=rfl
 have hz7:(ByteArray.mk #[97,100,100]).size=3:=rfl
 have hz8:(ByteArray.mk #[100,114,111,112]).size=4:=rfl
 obtain ⟨hk,h1,h2,h3,h4,h5,h6,h7,h8⟩:=cmd_fine h
 obtain ⟨kind,client,seq,key,val,old,node⟩:=c
 simp only at hk h1 h2 h3 h4 h5 h6 h7 h8
 have hcl:0≤client∧client≤4294967296:=by
  by_cases e:2≤kind∧kind≤5
  ·have:=h1 e;omega
  ·have:=h5 e;omega
 have hsq:0≤seq∧seq≤4294967296:=by
  by_cases e:2≤kind∧kind≤5
  ·have:=h1 e;omega
  ·have:=h5 e;omega
 have hnd:0≤node∧node≤4294967296:=by
  by_cases e:kind=7∨kind=8
  ·have:=h4 e;omega
  ·have:=h8 e;omega
 have n1:=numB_len hcl.2
 have n2:=numB_len hsq.2
 have n3:=numB_len hnd.2
 have qc:=refDigits_s (G:=G) (n:=client.toNat) (by omega)
 have qs:=refDigits_s (G:=G) (n:=seq.toNat) (by omega)
 have qn:=refDigits_s (G:=G) (n:=node.toNat) (by omega)
 rw [Int.toNat_of_nonneg hcl.1] at qc
 rw [Int.toNat_of_nonneg hsq.1] at qs
 rw [Int.toNat_of_nonneg hnd.1] at qn
 have qw:=owned_s G kind
 have qm:=member_s G kind
 clear h hcl hsq hnd h5 h8 h4
 apply Con.just
 unfold Cm.cells
 simp only
 (refine v_enter Tryz.func19 rfl Tryz.ntmps19 rfl ?_;intro B _)
 obtain rfl|rfl|rfl|rfl|rfl|rfl|rfl|rfl:kind=1∨kind=2∨kind=3∨kind=4∨kind=5∨kind=6∨kind=7∨kind=8:=by omega
 all_goals
  (first|rw [decide_eq_true (by omega)] at qw|rw [decide_eq_false (by omega)] at qw)
  (first|rw [decide_eq_true (by omega)] at qm|rw [decide_eq_false (by omega)] at qm)
 ·repeat' (first|apply v_pure;(case hop=>apply p_addS rfl rfl (by first|omega|(simp only [ByteArray.size_append,hz32,hz2,hz3,hz4,hz5,hz7,hz8];omega)));(case hd=>rfl)|refine Wa ?_|(refine Wc ⟨?_,?_⟩<;>first|intro h|exact ⟨⟩)|refine cJ qw ?_|refine cJ qm ?_|refine Wr ?_|(refine Wb ?_;intro b)|fail)
  (refine Vr ?_;refine ⟨?_,rfl⟩;congr 1;apply ba_ext;rw [cmdB_list];first|(rw [cmdL_2];simp [numB_list];done)|(rw [cmdL_3];simp [numB_list];done)|(rw [cmdL_4];simp [numB_list];done)|(rw [cmdL_5];simp [numB_list];done)|(rw [cmdL_7];simp [numB_list];done)|(rw [cmdL_8];simp [numB_list];done)|(rw [cmdL_1];done)|(rw [cmdL_6];done))
 ·have f1:=fine_key (h1 (by omega)).2.2
  have f2:=fine_val (h2 (by omega))
  have l1:=quoteB_len f1.1
  have l2:=quoteB_len f2.1
  have qk:=refQuote_s (G:=G) f1.1 (by omega)
  have qv:=refQuote_s (G:=G) f2.1 (by omega)
  repeat' (first|apply v_pure;(case hop=>apply p_addS rfl rfl (by first|omega|(simp only [ByteArray.size_append,hz32,hz2,hz3,hz4,hz5,hz7,hz8];omega)));(case hd=>rfl)|refine Wa ?_|(refine Wc ⟨?_,?_⟩<;>first|intro h|exact ⟨⟩)|refine cJ qw ?_|refine cJ qm ?_|refine cJ qv ?_|refine Wr ?_|(refine Wb ?_;intro b)|fail)
  refine Dz _ ?_
  all_goals refine Dt [0] ?_
  all_goals (first|refine Tv 1 ?_ (hop:=by first|apply PureOp.read;apply p_addS rfl rfl (by first|omega|(simp only [ByteArray.size_append,hz32,hz2,hz3,hz4,hz5,hz7,hz8];omega))|fail)|refine Dt [1] ?_)
  all_goals (first|refine Tv 2 ?_ (hop:=by first|apply PureOp.read;apply p_addS rfl rfl (by first|omega|(simp only [ByteArray.size_append,hz32,hz2,hz3,hz4,hz5,hz7,hz8];omega))|fail)|refine Dt [2] ?_)
  all_goals refine Dt [3] ?_
  all_goals (first|refine Tv 7 ?_ (hop:=by first|apply PureOp.read;apply p_addS rfl rfl (by first|omega|(simp only [ByteArray.size_append,hz32,hz2,hz3,hz4,hz5,hz7,hz8];omega))|fail)|refine Dt [7] ?_)
  all_goals refine Dt [8] ?_
  all_goals (first|refine Tv 12 ?_ (hop:=by first|apply PureOp.read;apply p_addS rfl rfl (by first|omega|(simp only [ByteArray.size_append,hz32,hz2,hz3,hz4,hz5,hz7,hz8];omega))|fail)|refine Dt [12] ?_)
  all_goals refine Dt [13] ?_
  all_goals (first|refine DJ 4 (hs:=qc) ?_|refine DJ 4 (hs:=qs) ?_|refine DJ 4 (hs:=qk) ?_|fail)
  all_goals (first|refine Tv 5 ?_ (hop:=by first|apply PureOp.read;apply p_addS rfl rfl (by first|omega|(simp only [ByteArray.size_append,hz32,hz2,hz3,hz4,hz5,hz7,hz8];omega))|fail)|refine Dt [5] ?_)
  all_goals (first|refine Tv 6 ?_ (hop:=by first|apply PureOp.read;apply p_addS rfl rfl (by first|omega|(simp only [ByteArray.size_append,hz32,hz2,hz3,hz4,hz5,hz7,hz8];omega))|fail)|refine Dt [6] ?_)
  all_goals (first|refine DJ 9 (hs:=qc) ?_|refine DJ 9 (hs:=qs) ?_|refine DJ 9 (hs:=qk) ?_|fail)
  all_goals (first|refine Tv 10 ?_ (hop:=by first|apply PureOp.read;apply p_addS rfl rfl (by first|omega|(simp only [ByteArray.size_append,hz32,hz2,hz3,hz4,hz5,hz7,hz8];omega))|fail)|refine Dt [10] ?_)
  all_goals (first|refine Tv 11 ?_ (hop:=by first|apply PureOp.read;apply p_addS rfl rfl (by first|omega|(simp only [ByteArray.size_append,hz32,hz2,hz3,hz4,hz5,hz7,hz8];omega))|fail)|refine Dt [11] ?_)
  all_goals (first|refine DJ 14 (hs:=qc) ?_|refine DJ 14 (hs:=qs) ?_|refine DJ 14 (hs:=qk) ?_|fail)
  all_goals (first|refine Tv 15 ?_ (hop:=by first|apply PureOp.read;apply p_addS rfl rfl (by first|omega|(simp only [ByteArray.size_append,hz32,hz2,hz3,hz4,hz5,hz7,hz8];omega))|fail)|refine Dt [15] ?_)
  all_goals refine Dt [16] ?_
  all_goals refine Dd ?_
  repeat' (first|apply v_pure;(case hop=>apply p_addS rfl rfl (by first|omega|(simp only [ByteArray.size_append,hz32,hz2,hz3,hz4,hz5,hz7,hz8];omega)));(case hd=>rfl)|refine Wa ?_|(refine Wc ⟨?_,?_⟩<;>first|intro h|exact ⟨⟩)|refine cJ qw ?_|refine cJ qm ?_|refine cJ qv ?_|refine Wr ?_|(refine Wb ?_;intro b)|fail)
  (refine Vr ?_;refine ⟨?_,rfl⟩;congr 1;apply ba_ext;rw [cmdB_list];first|(rw [cmdL_2];simp [numB_list];done)|(rw [cmdL_3];simp [numB_list];done)|(rw [cmdL_4];simp [numB_list];done)|(rw [cmdL_5];simp [numB_list];done)|(rw [cmdL_7];simp [numB_list];done)|(rw [cmdL_8];simp [numB_list];done)|(rw [cmdL_1];done)|(rw [cmdL_6];done))
 ·have f1:=fine_key (h1 (by omega)).2.2
  have l1:=quoteB_len f1.1
  have qk:=refQuote_s (G:=G) f1.1 (by omega)
  repeat' (first|apply v_pure;(case hop=>apply p_addS rfl rfl (by first|omega|(simp only [ByteArray.size_append,hz32,hz2,hz3,hz4,hz5,hz7,hz8];omega)));(case hd=>rfl)|refine Wa ?_|(refine Wc ⟨?_,?_⟩<;>first|intro h|exact ⟨⟩)|refine cJ qw ?_|refine cJ qm ?_|refine Wr ?_|(refine Wb ?_;intro b)|fail)
  refine Dz _ ?_
  all_goals refine Dt [0] ?_
  all_goals (first|refine Tv 1 ?_ (hop:=by first|apply PureOp.read;apply p_addS rfl rfl (by first|omega|(simp only [ByteArray.size_append,hz32,hz2,hz3,hz4,hz5,hz7,hz8];omega))|fail)|refine Dt [1] ?_)
  all_goals (first|refine Tv 2 ?_ (hop:=by first|apply PureOp.read;apply p_addS rfl rfl (by first|omega|(simp only [ByteArray.size_append,hz32,hz2,hz3,hz4,hz5,hz7,hz8];omega))|fail)|refine Dt [2] ?_)
  all_goals refine Dt [3] ?_
  all_goals (first|refine Tv 7 ?_ (hop:=by first|apply PureOp.read;apply p_addS rfl rfl (by first|omega|(simp only [ByteArray.size_append,hz32,hz2,hz3,hz4,hz5,hz7,hz8];omega))|fail)|refine Dt [7] ?_)
  all_goals refine Dt [8] ?_
  all_goals (first|refine Tv 12 ?_ (hop:=by first|apply PureOp.read;apply p_addS rfl rfl (by first|omega|(simp only [ByteArray.size_append,hz32,hz2,hz3,hz4,hz5,hz7,hz8];omega))|fail)|refine Dt [12] ?_)
  all_goals refine Dt [13] ?_
  all_goals (first|refine DJ 4 (hs:=qc) ?_|refine DJ 4 (hs:=qs) ?_|refine DJ 4 (hs:=qk) ?_|fail)
  all_goals (first|refine Tv 5 ?_ (hop:=by first|apply PureOp.read;apply p_addS rfl rfl (by first|omega|(simp only [ByteArray.size_append,hz32,hz2,hz3,hz4,hz5,hz7,hz8];omega))|fail)|refine Dt [5] ?_)
  all_goals (first|refine Tv 6 ?_ (hop:=by first|apply PureOp.read;apply p_addS rfl rfl (by first|omega|(simp only [ByteArray.size_append,hz32,hz2,hz3,hz4,hz5,hz7,hz8];omega))|fail)|refine Dt [6] ?_)
  all_goals (first|refine DJ 9 (hs:=qc) ?_|refine DJ 9 (hs:=qs) ?_|refine DJ 9 (hs:=qk) ?_|fail)
  all_goals (first|refine Tv 10 ?_ (hop:=by first|apply PureOp.read;apply p_addS rfl rfl (by first|omega|(simp only [ByteArray.size_append,hz32,hz2,hz3,hz4,hz5,hz7,hz8];omega))|fail)|refine Dt [10] ?_)
  all_goals (first|refine Tv 11 ?_ (hop:=by first|apply PureOp.read;apply p_addS rfl rfl (by first|omega|(simp only [ByteArray.size_append,hz32,hz2,hz3,hz4,hz5,hz7,hz8];omega))|fail)|refine Dt [11] ?_)
  all_goals (first|refine DJ 14 (hs:=qc) ?_|refine DJ 14 (hs:=qs) ?_|refine DJ 14 (hs:=qk) ?_|fail)
  all_goals (first|refine Tv 15 ?_ (hop:=by first|apply PureOp.read;apply p_addS rfl rfl (by first|omega|(simp only [ByteArray.size_append,hz32,hz2,hz3,hz4,hz5,hz7,hz8];omega))|fail)|refine Dt [15] ?_)
  all_goals refine Dt [16] ?_
  all_goals refine Dd ?_
  repeat' (first|apply v_pure;(case hop=>apply p_addS rfl rfl (by first|omega|(simp only [ByteArray.size_append,hz32,hz2,hz3,hz4,hz5,hz7,hz8];omega)));(case hd=>rfl)|refine Wa ?_|(refine Wc ⟨?_,?_⟩<;>first|intro h|exact ⟨⟩)|refine cJ qw ?_|refine cJ qm ?_|refine Wr ?_|(refine Wb ?_;intro b)|fail)
  (refine Vr ?_;refine ⟨?_,rfl⟩;congr 1;apply ba_ext;rw [cmdB_list];first|(rw [cmdL_2];simp [numB_list];done)|(rw [cmdL_3];simp [numB_list];done)|(rw [cmdL_4];simp [numB_list];done)|(rw [cmdL_5];simp [numB_list];done)|(rw [cmdL_7];simp [numB_list];done)|(rw [cmdL_8];simp [numB_list];done)|(rw [cmdL_1];done)|(rw [cmdL_6];done))
 ·have f1:=fine_key (h1 (by omega)).2.2
  have l1:=quoteB_len f1.1
  have qk:=refQuote_s (G:=G) f1.1 (by omega)
  repeat' (first|apply v_pure;(case hop=>apply p_addS rfl rfl (by first|omega|(simp only [ByteArray.size_append,hz32,hz2,hz3,hz4,hz5,hz7,hz8];omega)));(case hd=>rfl)|refine Wa ?_|(refine Wc ⟨?_,?_⟩<;>first|intro h|exact ⟨⟩)|refine cJ qw ?_|refine cJ qm ?_|refine Wr ?_|(refine Wb ?_;intro b)|fail)
  refine Dz _ ?_
  all_goals refine Dt [0] ?_
  all_goals (first|refine Tv 1 ?_ (hop:=by first|apply PureOp.read;apply p_addS rfl rfl (by first|omega|(simp only [ByteArray.size_append,hz32,hz2,hz3,hz4,hz5,hz7,hz8];omega))|fail)|refine Dt [1] ?_)
  all_goals (first|refine Tv 2 ?_ (hop:=by first|apply PureOp.read;apply p_addS rfl rfl (by first|omega|(simp only [ByteArray.size_append,hz32,hz2,hz3,hz4,hz5,hz7,hz8];omega))|fail)|refine Dt [2] ?_)
  all_goals refine Dt [3] ?_
  all_goals (first|refine Tv 7 ?_ (hop:=by first|apply PureOp.read;apply p_addS rfl rfl (by first|omega|(simp only [ByteArray.size_append,hz32,hz2,hz3,hz4,hz5,hz7,hz8];omega))|fail)|refine Dt [7] ?_)
  all_goals refine Dt [8] ?_
  all_goals (first|refine Tv 12 ?_ (hop:=by first|apply PureOp.read;apply p_addS rfl rfl (by first|omega|(simp only [ByteArray.size_append,hz32,hz2,hz3,hz4,hz5,hz7,hz8];omega))|fail)|refine Dt [12] ?_)
  all_goals refine Dt [13] ?_
  all_goals (first|refine DJ 4 (hs:=qc) ?_|refine DJ 4 (hs:=qs) ?_|refine DJ 4 (hs:=qk) ?_|fail)
  all_goals (first|refine Tv 5 ?_ (hop:=by first|apply PureOp.read;apply p_addS rfl rfl (by first|omega|(simp only [ByteArray.size_append,hz32,hz2,hz3,hz4,hz5,hz7,hz8];omega))|fail)|refine Dt [5] ?_)
  all_goals (first|refine Tv 6 ?_ (hop:=by first|apply PureOp.read;apply p_addS rfl rfl (by first|omega|(simp only [ByteArray.size_append,hz32,hz2,hz3,hz4,hz5,hz7,hz8];omega))|fail)|refine Dt [6] ?_)
  all_goals (first|refine DJ 9 (hs:=qc) ?_|refine DJ 9 (hs:=qs) ?_|refine DJ 9 (hs:=qk) ?_|fail)
  all_goals (first|refine Tv 10 ?_ (hop:=by first|apply PureOp.read;apply p_addS rfl rfl (by first|omega|(simp only [ByteArray.size_append,hz32,hz2,hz3,hz4,hz5,hz7,hz8];omega))|fail)|refine Dt [10] ?_)
  all_goals (first|refine Tv 11 ?_ (hop:=by first|apply PureOp.read;apply p_addS rfl rfl (by first|omega|(simp only [ByteArray.size_append,hz32,hz2,hz3,hz4,hz5,hz7,hz8];omega))|fail)|refine Dt [11] ?_)
  all_goals (first|refine DJ 14 (hs:=qc) ?_|refine DJ 14 (hs:=qs) ?_|refine DJ 14 (hs:=qk) ?_|fail)
  all_goals (first|refine Tv 15 ?_ (hop:=by first|apply PureOp.read;apply p_addS rfl rfl (by first|omega|(simp only [ByteArray.size_append,hz32,hz2,hz3,hz4,hz5,hz7,hz8];omega))|fail)|refine Dt [15] ?_)
  all_goals refine Dt [16] ?_
  all_goals refine Dd ?_
  repeat' (first|apply v_pure;(case hop=>apply p_addS rfl rfl (by first|omega|(simp only [ByteArray.size_append,hz32,hz2,hz3,hz4,hz5,hz7,hz8];omega)));(case hd=>rfl)|refine Wa ?_|(refine Wc ⟨?_,?_⟩<;>first|intro h|exact ⟨⟩)|refine cJ qw ?_|refine cJ qm ?_|refine Wr ?_|(refine Wb ?_;intro b)|fail)
  (refine Vr ?_;refine ⟨?_,rfl⟩;congr 1;apply ba_ext;rw [cmdB_list];first|(rw [cmdL_2];simp [numB_list];done)|(rw [cmdL_3];simp [numB_list];done)|(rw [cmdL_4];simp [numB_list];done)|(rw [cmdL_5];simp [numB_list];done)|(rw [cmdL_7];simp [numB_list];done)|(rw [cmdL_8];simp [numB_list];done)|(rw [cmdL_1];done)|(rw [cmdL_6];done))
 ·have f1:=fine_key (h1 (by omega)).2.2
  have f2:=fine_val (h2 (by omega))
  have f3:=fine_val (h3 (by omega))
  have l1:=quoteB_len f1.1
  have l2:=quoteB_len f2.1
  have l3:=quoteB_len f3.1
  have qk:=refQuote_s (G:=G) f1.1 (by omega)
  have qv:=refQuote_s (G:=G) f2.1 (by omega)
  have qo:=refQuote_s (G:=G) f3.1 (by omega)
  repeat' (first|apply v_pure;(case hop=>apply p_addS rfl rfl (by first|omega|(simp only [ByteArray.size_append,hz32,hz2,hz3,hz4,hz5,hz7,hz8];omega)));(case hd=>rfl)|refine Wa ?_|(refine Wc ⟨?_,?_⟩<;>first|intro h|exact ⟨⟩)|refine cJ qw ?_|refine cJ qm ?_|refine cJ qv ?_|refine cJ qo ?_|refine Wr ?_|(refine Wb ?_;intro b)|fail)
  refine Dz _ ?_
  all_goals refine Dt [0] ?_
  all_goals (first|refine Tv 1 ?_ (hop:=by first|apply PureOp.read;apply p_addS rfl rfl (by first|omega|(simp only [ByteArray.size_append,hz32,hz2,hz3,hz4,hz5,hz7,hz8];omega))|fail)|refine Dt [1] ?_)
  all_goals (first|refine Tv 2 ?_ (hop:=by first|apply PureOp.read;apply p_addS rfl rfl (by first|omega|(simp only [ByteArray.size_append,hz32,hz2,hz3,hz4,hz5,hz7,hz8];omega))|fail)|refine Dt [2] ?_)
  all_goals refine Dt [3] ?_
  all_goals (first|refine Tv 7 ?_ (hop:=by first|apply PureOp.read;apply p_addS rfl rfl (by first|omega|(simp only [ByteArray.size_append,hz32,hz2,hz3,hz4,hz5,hz7,hz8];omega))|fail)|refine Dt [7] ?_)
  all_goals refine Dt [8] ?_
  all_goals (first|refine Tv 12 ?_ (hop:=by first|apply PureOp.read;apply p_addS rfl rfl (by first|omega|(simp only [ByteArray.size_append,hz32,hz2,hz3,hz4,hz5,hz7,hz8];omega))|fail)|refine Dt [12] ?_)
  all_goals refine Dt [13] ?_
  all_goals (first|refine DJ 4 (hs:=qc) ?_|refine DJ 4 (hs:=qs) ?_|refine DJ 4 (hs:=qk) ?_|fail)
  all_goals (first|refine Tv 5 ?_ (hop:=by first|apply PureOp.read;apply p_addS rfl rfl (by first|omega|(simp only [ByteArray.size_append,hz32,hz2,hz3,hz4,hz5,hz7,hz8];omega))|fail)|refine Dt [5] ?_)
  all_goals (first|refine Tv 6 ?_ (hop:=by first|apply PureOp.read;apply p_addS rfl rfl (by first|omega|(simp only [ByteArray.size_append,hz32,hz2,hz3,hz4,hz5,hz7,hz8];omega))|fail)|refine Dt [6] ?_)
  all_goals (first|refine DJ 9 (hs:=qc) ?_|refine DJ 9 (hs:=qs) ?_|refine DJ 9 (hs:=qk) ?_|fail)
  all_goals (first|refine Tv 10 ?_ (hop:=by first|apply PureOp.read;apply p_addS rfl rfl (by first|omega|(simp only [ByteArray.size_append,hz32,hz2,hz3,hz4,hz5,hz7,hz8];omega))|fail)|refine Dt [10] ?_)
  all_goals (first|refine Tv 11 ?_ (hop:=by first|apply PureOp.read;apply p_addS rfl rfl (by first|omega|(simp only [ByteArray.size_append,hz32,hz2,hz3,hz4,hz5,hz7,hz8];omega))|fail)|refine Dt [11] ?_)
  all_goals (first|refine DJ 14 (hs:=qc) ?_|refine DJ 14 (hs:=qs) ?_|refine DJ 14 (hs:=qk) ?_|fail)
  all_goals (first|refine Tv 15 ?_ (hop:=by first|apply PureOp.read;apply p_addS rfl rfl (by first|omega|(simp only [ByteArray.size_append,hz32,hz2,hz3,hz4,hz5,hz7,hz8];omega))|fail)|refine Dt [15] ?_)
  all_goals refine Dt [16] ?_
  all_goals refine Dd ?_
  repeat' (first|apply v_pure;(case hop=>apply p_addS rfl rfl (by first|omega|(simp only [ByteArray.size_append,hz32,hz2,hz3,hz4,hz5,hz7,hz8];omega)));(case hd=>rfl)|refine Wa ?_|(refine Wc ⟨?_,?_⟩<;>first|intro h|exact ⟨⟩)|refine cJ qw ?_|refine cJ qm ?_|refine cJ qv ?_|refine cJ qo ?_|refine Wr ?_|(refine Wb ?_;intro b)|fail)
  (refine Vr ?_;refine ⟨?_,rfl⟩;congr 1;apply ba_ext;rw [cmdB_list];first|(rw [cmdL_2];simp [numB_list];done)|(rw [cmdL_3];simp [numB_list];done)|(rw [cmdL_4];simp [numB_list];done)|(rw [cmdL_5];simp [numB_list];done)|(rw [cmdL_7];simp [numB_list];done)|(rw [cmdL_8];simp [numB_list];done)|(rw [cmdL_1];done)|(rw [cmdL_6];done))
 ·repeat' (first|apply v_pure;(case hop=>apply p_addS rfl rfl (by first|omega|(simp only [ByteArray.size_append,hz32,hz2,hz3,hz4,hz5,hz7,hz8];omega)));(case hd=>rfl)|refine Wa ?_|(refine Wc ⟨?_,?_⟩<;>first|intro h|exact ⟨⟩)|refine cJ qw ?_|refine cJ qm ?_|refine Wr ?_|(refine Wb ?_;intro b)|fail)
  (refine Vr ?_;refine ⟨?_,rfl⟩;congr 1;apply ba_ext;rw [cmdB_list];first|(rw [cmdL_2];simp [numB_list];done)|(rw [cmdL_3];simp [numB_list];done)|(rw [cmdL_4];simp [numB_list];done)|(rw [cmdL_5];simp [numB_list];done)|(rw [cmdL_7];simp [numB_list];done)|(rw [cmdL_8];simp [numB_list];done)|(rw [cmdL_1];done)|(rw [cmdL_6];done))
 ·repeat' (first|apply v_pure;(case hop=>apply p_addS rfl rfl (by first|omega|(simp only [ByteArray.size_append,hz32,hz2,hz3,hz4,hz5,hz7,hz8];omega)));(case hd=>rfl)|refine Wa ?_|(refine Wc ⟨?_,?_⟩<;>first|intro h|exact ⟨⟩)|refine cJ qw ?_|refine cJ qm ?_|refine cJ qn ?_|refine Wr ?_|(refine Wb ?_;intro b)|fail)
  (refine Vr ?_;refine ⟨?_,rfl⟩;congr 1;apply ba_ext;rw [cmdB_list];first|(rw [cmdL_2];simp [numB_list];done)|(rw [cmdL_3];simp [numB_list];done)|(rw [cmdL_4];simp [numB_list];done)|(rw [cmdL_5];simp [numB_list];done)|(rw [cmdL_7];simp [numB_list];done)|(rw [cmdL_8];simp [numB_list];done)|(rw [cmdL_1];done)|(rw [cmdL_6];done))
 ·repeat' (first|apply v_pure;(case hop=>apply p_addS rfl rfl (by first|omega|(simp only [ByteArray.size_append,hz32,hz2,hz3,hz4,hz5,hz7,hz8];omega)));(case hd=>rfl)|refine Wa ?_|(refine Wc ⟨?_,?_⟩<;>first|intro h|exact ⟨⟩)|refine cJ qw ?_|refine cJ qm ?_|refine cJ qn ?_|refine Wr ?_|(refine Wb ?_;intro b)|fail)
  (refine Vr ?_;refine ⟨?_,rfl⟩;congr 1;apply ba_ext;rw [cmdB_list];first|(rw [cmdL_2];simp [numB_list];done)|(rw [cmdL_3];simp [numB_list];done)|(rw [cmdL_4];simp [numB_list];done)|(rw [cmdL_5];simp [numB_list];done)|(rw [cmdL_7];simp [numB_list];done)|(rw [cmdL_8];simp [numB_list];done)|(rw [cmdL_1];done)|(rw [cmdL_6];done))
end Go.Proofs.YtnncjoooaknlmaaGreatDoor
/-
  report (layer 46), the walks: the program's Text of any command.
-/
set_option maxHeartbeats 2000000
namespace Go.Proofs.YtnncjoooaknlmaaGreatDoor
open Go.Vx Go.ChangeShapes Go.WideShapes Go.ChangeAt Go.RowKit
theorem wantT_s (G:GH) (kind:Int) (j:Nat) (hj:j<6):Con Tryz.prog 50 #[.agg (partL j).toArray,.int .i64 2,.int .i64 kind] G [] (Just (.bool (wantP kind j)) G):=by
 have qf:=fields_s G kind
 apply Con.just
 unfold wantP
 (refine v_enter Tryz.func50 rfl Tryz.ntmps50 rfl ?_;intro B _)
 obtain rfl|rfl|rfl|rfl|rfl|rfl:j=0∨j=1∨j=2∨j=3∨j=4∨j=5:=by omega
 all_goals
  repeat' (first|refine Wa ?_|(refine Wc ⟨?_,?_⟩<;>first|intro h|exact ⟨⟩)|refine cJ qf ?_|refine Wr ?_|(refine Wb ?_;intro b)|fail)
 all_goals
  (refine Vr ?_
   refine ⟨?_,rfl⟩
   simp [hasOf,dec_eq, *])
theorem fit_of {c:Cm}(h:cmdI c=0) {k:Nat}(hk:k<6) (hw:wantP c.kind k=true):(isNum k=true→0≤c.num k∧c.num k≤4294967296)∧(isNum k=false→(c.txt k).size≤48∧fineB (c.txt k)):=by
 obtain ⟨hb,h1,h2,h3,h4,-⟩:=cmd_fine h
 have hwk:=(wantK k hk c.kind hb.1 hb.2).1 hw
 obtain rfl|rfl|rfl|rfl|rfl|rfl:k=0∨k=1∨k=2∨k=3∨k=4∨k=5:=by omega
 ·exact ⟨fun _=>by have:=h1 (by simpa using hwk);show 0≤c.client∧c.client≤_;omega,fun e=>(by cases e)⟩
 ·exact ⟨fun _=>by have:=h1 (by simpa using hwk);show 0≤c.seq∧c.seq≤_;omega,fun e=>(by cases e)⟩
 ·exact ⟨fun e=>(by cases e),fun _=>by have:=fine_key (h1 (by simpa using hwk)).2.2;exact ⟨Nat.le_trans this.2 (by omega),this.1⟩⟩
 ·exact ⟨fun e=>(by cases e),fun _=>by have:=fine_val (h3 (by simpa using hwk));exact ⟨this.2,this.1⟩⟩
 ·exact ⟨fun e=>(by cases e),fun _=>by have:=fine_val (h2 (by simpa using hwk));exact ⟨this.2,this.1⟩⟩
 ·exact ⟨fun _=>by have:=h4 (by simpa using hwk);show 0≤c.node∧c.node≤_;omega,fun e=>(by cases e)⟩
theorem wordOf_len {c:Cm}(h:cmdI c=0) {k:Nat}(hk:k<6) (hw:wantP c.kind k=true):(wordOf c k).length≤98:=by
 obtain ⟨h1,h2⟩:=fit_of h hk hw
 unfold wordOf
 cases hn:isNum k with
 | true =>
  have:=numB_len (h1 hn).2
  rw [numB_size] at this
  rw [if_pos rfl]
  omega
 | false =>
  have:=quoteB_len (h2 hn).2
  have h3:=(h2 hn).1
  have hl:(quoteB (c.txt k)).data.toList.length=(quoteB (c.txt k)).size:=Array.length_toList ..
  rw [if_neg (by simp),hl]
  omega
theorem joinL_size:∀ (ws:List B8L) (m:Nat),(∀ w∈ws,w.length≤m)→(joinL ws).length≤ws.length*(m+1)
 | [],m,_=>by simp [joinL]
 | [w],m,h=>by
  have:=h w (List.mem_cons_self ..)
  simp only [joinL,List.length_cons,List.length_nil]
  omega
 | w::v::ws,m,h=>by
  have h1:=h w (List.mem_cons_self ..)
  have ih:=joinL_size (v::ws) m fun x hx=>h x (List.mem_cons_of_mem _ hx)
  show (w++32::joinL (v::ws)).length≤_
  rw [List.length_append,List.length_cons]
  simp only [List.length_cons] at ih ⊢
  rw [Nat.add_mul (ws.length+1) 1 (m+1)]
  omega
theorem wordsC_mem {c:Cm}(h:cmdI c=0):∀ k,k≤6→∀ w∈wordsC c k,w.length≤98
 | 0,_,w,hw=>by
  have:w=nameL c.kind:=by simpa [wordsC] using hw
  subst this
  have hk:=(cmd_fine h).1
  generalize c.kind=kd at hk
  obtain rfl|rfl|rfl|rfl|rfl|rfl|rfl|rfl:kd=1∨kd=2∨kd=3∨kd=4∨kd=5∨kd=6∨kd=7∨kd=8:=by omega
  all_goals decide
 | k+1,hk,w,hw=>by
  rw [wordsC] at hw
  rcases List.mem_append.1 hw with hw|hw
  ·exact wordsC_mem h k (by omega) w hw
  ·by_cases e:wantP c.kind k=true
   ·rw [if_pos e] at hw
    have:w=wordOf c k:=by simpa using hw
    subst this
    exact wordOf_len h (by omega) e
   ·rw [if_neg e] at hw;cases hw
theorem cmdL_len {c:Cm}(h:cmdI c=0):(cmdL c).length≤700:=by
 have h1:=joinL_size (wordsC c 6) 98 (wordsC_mem h 6 (by omega))
 have h2:=(wordsC_len c 6).2
 unfold cmdL
 omega
theorem strV_list (ws:List B8L):(ws.map fun w=>(⟨w.toArray⟩:ByteArray)).map Value.string=ws.map strV:=by
 rw [List.map_map]
 rfl
theorem line_s {G:GH}{v:Value}{ws:List B8L}{ν:OH}(hg:Grow 9 1 v ws.length (ws.map strV) ν) (hn:ws.length≤65536) (hl:(joinL ws).length≤65536):Con Tryz.prog 64 #[v] G ν (Keeps (.string ⟨(joinL ws).toArray⟩) G ν):=by
 have e1:(ws.map fun w=>(⟨w.toArray⟩:ByteArray)).map (·.data.toList)=ws:=by
  rw [List.map_map]
  exact List.map_id' ws
 have q:=join_s (G:=G) (v:=v) (xs:=ws.map fun w=>(⟨w.toArray⟩:ByteArray)) (ν:=ν) (by rw [strV_list,List.length_map];exact hg) (by rw [List.length_map];exact hn) (by rw [e1];exact hl)
 unfold joinB at q
 rw [e1] at q
 apply Con.keeps
 obtain ⟨A,c,rfl,-,-⟩:=hg.shape
 (refine v_enter Tryz.func64 rfl Tryz.ntmps64 rfl ?_;intro B _)
 repeat' (first|refine Wa ?_|(refine Wc ⟨?_,?_⟩<;>first|intro h|exact ⟨⟩)|refine cK q ?_|fail)
 refine v_ret ν (outsA1 rfl rfl) (List.Sublist.refl _) ?_
 exact ⟨rfl,rfl⟩
theorem textOf_s {G:GH}(hT:TabsG G) (hP:PowG G) {c:Cm}(hc:c.ok):Con Tryz.prog 52 #[.agg c.cells.toArray] G [] (Just (.string (textB c)) G):=by
 have qchk:=Con.just (cmdCheck_s hT c hc)
 unfold textB
 apply Con.just
 by_cases h0:cmdI c=0
 ·rw [if_pos h0]
  rw [h0] at qchk
  have hkd:=(cmd_fine h0).1
  have qname:=name_s G hkd
  have hlen:=cmdL_len h0
  (refine v_enter Tryz.func52 rfl Tryz.ntmps52 rfl ?_;intro B _)
  repeat' (first|(refine Wd 14 ?_;intro b14)|refine Wa ?_|(refine Wc ⟨?_,?_⟩<;>first|intro h|exact ⟨⟩)|apply v_box (zs:=c.cells);(case hx|hz|hd=>rfl);intro cb|refine cJ qchk ?_|refine cJ qname ?_|refine Wr ?_|(refine Wb ?_;intro b)|fail)
  refine v_call (μ1:=[]) (μ2:=_) rfl (parts_s G) (List.Perm.refl _) rfl ?_
  rintro r G' μ1 - ⟨rfl,pb,rfl,rfl⟩
  refine v_frz [(pb,_)] (by repeat (first|exact PickA.last|exact PickA.here _|exact PickA.one _|apply PickA.cons|apply PickA.app)) ?_
  intro G1 hle1 hG1
  have hpb:=hG1 pb _ (List.Mem.head _)
  have hT1:=hT.le hle1
  have hP1:=hP.le hle1
  repeat' (first|refine Wa ?_|(refine Wc ⟨?_,?_⟩<;>first|intro h|exact ⟨⟩)|refine Wr ?_|(refine Wb ?_;intro b)|fail)
  refine v_perm (ν:=(cb,.cells c.cells.toArray 35 (0,0))::[(b14,.cells ([strV (nameL c.kind)]:List Value).toArray 9 (0,0))]) (List.Perm.swap _ _ _) ?_
  refine v_loopI (ι:=Nat) [17,16,15,3,1] (fun k us G' μ'=>G'=G1∧k≤6∧∃ v ν,us=[Value.int .i64 (k:Nat),.int .i64 6,.slice (some ⟨pb,0,none⟩) 6 6,v,.pointer (some ⟨cb,0,none⟩)]∧μ'=(cb,.cells c.cells.toArray 35 (0,0))::ν∧Grow 9 1 v (wordsC c k).length ((wordsC c k).map strV) ν) (fun k=>6-k) rfl 0 ⟨rfl,by omega,_,_,rfl,rfl,Grow.lit rfl (by simp only [maxLen];omega)⟩ ?_
  rintro k us G2 μ' ⟨rfl,hk6,v,ν,rfl,rfl,hg⟩
  have hwl:=(wordsC_len c k).2
  by_cases hlt:k<6
  ·have hpk:=partsG hpb hlt
   have hwt:=wantT_s G2 c.kind k hlt
   have e1:wordsC c (k+1)=wordsC c k++(if wantP c.kind k then [wordOf c k] else []):=rfl
   obtain ⟨A,cc,rfl,-,-⟩:=hg.shape
   by_cases hw:wantP c.kind k=true
   ·rw [hw] at hwt e1
    rw [if_pos rfl] at e1
    obtain ⟨hnum,htxt⟩:=fit_of h0 hlt hw
    have qi:isNum k=true→Con Tryz.prog 27 #[.int .i64 (c.num k)] G2 [] (Just (strV (wordOf c k)) G2):=fun e=>by
     have q:=itoaN_s hP1 (hnum e).1 (hnum e).2
     have e2:Value.string (numB (c.num k).toNat)=strV (wordOf c k):=by
      unfold wordOf
      rw [e]
      rfl
     rw [e2] at q
     exact q
    have qq:isNum k=false→Con Tryz.prog 70 #[.string (c.txt k)] G2 [] (Just (strV (wordOf c k)) G2):=fun e=>by
     have q:=quote_s hT1 (s:=c.txt k) (by have:=(htxt e).1;omega)
     have e2:Value.string (quoteB (c.txt k))=strV (wordOf c k):=by
      unfold wordOf
      rw [e]
      simp [strV]
     rw [e2] at q
     exact q
    clear hnum htxt
    have hg1:∀ v ν',Grow 9 1 v ((wordsC c k).length+1) ((wordsC c k).map strV++[strV (wordOf c k)]) ν'→Grow 9 1 v (wordsC c (k+1)).length ((wordsC c (k+1)).map strV) ν':=fun v ν' h=>by
     rw [e1,List.length_append,List.map_append]
     exact h
    clear e1
    generalize wordOf c k=wo at *
    generalize (wordsC c k).map strV=wl at *
    generalize (wordsC c k).length=wn at *
    unfold strV at qi qq hg1
    obtain rfl|rfl|rfl|rfl|rfl|rfl:k=0∨k=1∨k=2∨k=3∨k=4∨k=5:=by omega
    all_goals
     (first|have q:=qi rfl|have q:=qq rfl)
     clear qi qq
     repeat' (first|(refine Wd 37 ?_;intro b37)|(refine Wd 47 ?_;intro b37)|refine Wa ?_|(refine Wc ⟨?_,?_⟩<;>first|intro h|exact ⟨⟩)|refine RN hpk ?_|refine cJ hwt ?_|apply v_callFJ0 (hs:=at1_s _ cb);(case hx|ha|hd=>rfl)|apply v_callFJ0 (hs:=at2_s _ cb);(case hx|ha|hd=>rfl)|apply v_callFJ0 (hs:=at3_s _ cb);(case hx|ha|hd=>rfl)|apply v_callFJ0 (hs:=at4_s _ cb);(case hx|ha|hd=>rfl)|apply v_callFJ0 (hs:=at5_s _ cb);(case hx|ha|hd=>rfl)|apply v_callFJ0 (hs:=at6_s _ cb);(case hx|ha|hd=>rfl)|refine cJ q ?_|apply v_append (hg:=hg) (m':=1) (us:=[.string ⟨wo.toArray⟩]) (hp:=PickA.perm (by repeat (first|exact PickA.last|exact PickA.here _|exact PickA.one _|apply PickA.cons|apply PickA.app))) (hsrc:=Src.own (e:=9) (b:=b37) (List.Mem.head _) rfl);(case hzs=>rfl);(case hsz=>omega);(case hs|hx=>rfl);(case hb=>omega);(case hb'=>simp only [maxLen];omega);(case hd|h1=>rfl);intro v3 n3 hg3;obtain ⟨A3,c3,rfl,-,-⟩:=hg3.shape|refine Wr ?_|(refine Wb ?_;intro b)|fail)
     (refine v_drop (ν:=n3++[(cb,_)]) (List.Sublist.append_left sS _) ?_
      refine v_perm List.perm_append_comm ?_
      first
       | exact v_againI (0+1) rfl ⟨rfl,by omega,_,n3,rfl,rfl,hg1 _ _ hg3⟩ (by omega)
       | exact v_againI (1+1) rfl ⟨rfl,by omega,_,n3,rfl,rfl,hg1 _ _ hg3⟩ (by omega)
       | exact v_againI (2+1) rfl ⟨rfl,by omega,_,n3,rfl,rfl,hg1 _ _ hg3⟩ (by omega)
       | exact v_againI (3+1) rfl ⟨rfl,by omega,_,n3,rfl,rfl,hg1 _ _ hg3⟩ (by omega)
       | exact v_againI (4+1) rfl ⟨rfl,by omega,_,n3,rfl,rfl,hg1 _ _ hg3⟩ (by omega)
       | exact v_againI (5+1) rfl ⟨rfl,by omega,_,n3,rfl,rfl,hg1 _ _ hg3⟩ (by omega))
   ·rw [Bool.not_eq_true] at hw
    rw [hw] at hwt e1
    rw [if_neg (by simp),List.append_nil] at e1
    obtain rfl|rfl|rfl|rfl|rfl|rfl:k=0∨k=1∨k=2∨k=3∨k=4∨k=5:=by omega
    all_goals
     repeat' (first|refine Wa ?_|(refine Wc ⟨?_,?_⟩<;>first|intro h|exact ⟨⟩)|refine RN hpk ?_|refine cJ hwt ?_|refine Wr ?_|(refine Wb ?_;intro b)|fail)
     (refine v_only ((cb,_)::ν) (by repeat (first|exact PickA.last|exact PickA.here _|exact PickA.one _|apply PickA.cons|apply PickA.app)) ?_
      first
       | exact v_againI (0+1) rfl ⟨rfl,by omega,_,ν,rfl,rfl,by rw [e1];exact hg⟩ (by omega)
       | exact v_againI (1+1) rfl ⟨rfl,by omega,_,ν,rfl,rfl,by rw [e1];exact hg⟩ (by omega)
       | exact v_againI (2+1) rfl ⟨rfl,by omega,_,ν,rfl,rfl,by rw [e1];exact hg⟩ (by omega)
       | exact v_againI (3+1) rfl ⟨rfl,by omega,_,ν,rfl,rfl,by rw [e1];exact hg⟩ (by omega)
       | exact v_againI (4+1) rfl ⟨rfl,by omega,_,ν,rfl,rfl,by rw [e1];exact hg⟩ (by omega)
       | exact v_againI (5+1) rfl ⟨rfl,by omega,_,ν,rfl,rfl,by rw [e1];exact hg⟩ (by omega))
  ·obtain rfl:k=6:=by omega
   have ql:=line_s (G:=G2) hg (by omega) (by show (cmdL c).length≤_;omega)
   obtain ⟨A,cc,rfl,-,-⟩:=hg.shape
   repeat' (first|refine Wa ?_|(refine Wc ⟨?_,?_⟩<;>first|intro h|exact ⟨⟩)|refine cK ql ?_|refine Wr ?_|(refine Wb ?_;intro b)|fail)
   refine Vr ?_
   exact ⟨rfl,rfl⟩
 ·rw [if_neg h0]
  generalize cmdI c=e at *
  (refine v_enter Tryz.func52 rfl Tryz.ntmps52 rfl ?_;intro B _)
  repeat' (first|refine Wa ?_|(refine Wc ⟨?_,?_⟩<;>first|intro h|exact ⟨⟩)|apply v_box (zs:=c.cells);(case hx|hz|hd=>rfl);intro cb|refine cJ qchk ?_|refine Wr ?_|(refine Wb ?_;intro b)|fail)
  refine Vr ?_
  exact ⟨rfl,rfl⟩
end Go.Proofs.YtnncjoooaknlmaaGreatDoor
/-
  report (layer 46), the walks: fill and Parse, of any text.
-/
set_option maxHeartbeats 2000000
namespace Go.Proofs.YtnncjoooaknlmaaGreatDoor
open Go.Vx Go.ChangeShapes Go.WideShapes Go.ChangeAt Go.RowKit
theorem unqV_ex (w:B8L):∃ e,unqV (unquoteB ⟨w.toArray⟩)=.tuple [.string (unqT w),.int .i64 e].toArray:=by
 unfold unqT
 cases unquoteB ⟨w.toArray⟩ with
 | none=>exact ⟨3,rfl⟩
 | some o=>exact ⟨0,rfl⟩
theorem fill_s {G:GH}(hT:TabsG G) (hE:ErrsG G) (c:Cm) (w:B8L) (hw:w.length≤4096) (cb j:Nat) (hj:j<6):Con Tryz.prog 51 #[.agg (partL j).toArray,.pointer (some ⟨cb,0,none⟩),strV w] G [(cb,.cells c.cells.toArray 35 (0,0))]
 (fun r G' μ'=>G'=G∧μ'=[(cb,.cells (c.setW j w).cells.toArray 35 (0,0))]):=by
 have hsz:(ByteArray.mk w.toArray).size=w.length:=by
  show Array.size _=_
  rw [List.size_toArray]
 have qa:=atoi_s hE (s:=⟨w.toArray⟩) (by rw [hsz];omega)
 have qu:=unquote_s hT (s:=⟨w.toArray⟩) (by rw [hsz];omega)
 obtain ⟨e,he⟩:=unqV_ex w
 rw [he] at qu
 unfold Cm.cells Cm.setW strV
 (refine v_enter Tryz.func51 rfl Tryz.ntmps51 rfl ?_;intro B _)
 obtain rfl|rfl|rfl|rfl|rfl|rfl:j=0∨j=1∨j=2∨j=3∨j=4∨j=5:=by omega
 all_goals
  repeat' (first|refine Wa ?_|(refine Wc ⟨?_,?_⟩<;>first|intro h|exact ⟨⟩)|apply v_callFJ0 (hs:=at1_s _ cb);(case hx|ha|hd=>rfl)|apply v_callFJ0 (hs:=at2_s _ cb);(case hx|ha|hd=>rfl)|apply v_callFJ0 (hs:=at3_s _ cb);(case hx|ha|hd=>rfl)|apply v_callFJ0 (hs:=at4_s _ cb);(case hx|ha|hd=>rfl)|apply v_callFJ0 (hs:=at5_s _ cb);(case hx|ha|hd=>rfl)|apply v_callFJ0 (hs:=at6_s _ cb);(case hx|ha|hd=>rfl)|refine cJ qu ?_|apply v_call (hs:=qa) (μ1:=[]);(case ha=>rfl);(case hp=>exact List.Perm.refl _);(case hd=>rfl);rintro _ _ _ hle ⟨⟨ev,rfl⟩,rfl,rfl⟩|refine Wr ?_|(refine Wb ?_;intro b)|fail)
 all_goals
  (refine v_end [(cb,_)] (outsA0 rfl) sS ?_
   exact ⟨rfl,rfl⟩)
theorem unqL_len:∀ (n:Nat) (l out:B8L),unqL n l=some out→out.length≤l.length
 | 0,l,out,h=>by
  have:=Option.some.inj h
  subst this
  exact Nat.zero_le _
 | n+1,[],out,h=>by
  have:=Option.some.inj h
  subst this
  exact Nat.zero_le _
 | n+1,c::l,out,h=>by
  unfold unqL at h
  split at h
  ·split at h
   ·cases h
   ·obtain ⟨o,ho,rfl⟩:=Option.map_eq_some_iff.1 h
    have:=unqL_len n _ _ ho
    rw [List.length_drop] at this
    simp only [List.length_cons]
    omega
  ·obtain ⟨o,ho,rfl⟩:=Option.map_eq_some_iff.1 h
   have:=unqL_len n _ _ ho
   simp only [List.length_cons]
   omega
theorem unqT_len (w:B8L):(unqT w).size≤w.length:=by
 have hsz:(ByteArray.mk w.toArray).size=w.length:=by
  show Array.size _=_
  rw [List.size_toArray]
 unfold unqT unquoteB
 split
 ·exact Nat.zero_le _
 ·split
  ·exact Nat.zero_le _
  ·rename_i out ho
   have h1:=unqL_len _ _ _ ho
   have h2:(innerL ⟨w.toArray⟩).length≤w.length:=by
    unfold innerL
    rw [List.length_take,List.length_drop]
    simp only
    omega
   split
   ·show (List.toArray out).size≤_
    rw [List.size_toArray]
    omega
   ·exact Nat.zero_le _
theorem atoiN_wf (w:B8L):(Lit.int .i64 (atoiN w)).wf=true:=by
 have h : -9223372036854775808≤atoiN w∧atoiN w≤9223372036854775807:=by
  unfold atoiN
  cases h:Lib.atoiAll w with
  | ok v=>exact Lib.atoiAll_bounds h
  | range=>exact Lib.atoiSat_bounds w
  | _=>simp
 simp only [Lit.wf,IntKind.min,IntKind.max,IntKind.signed,IntKind.bits]
 simp
 omega
theorem wordsL_mem:∀ (n:Nat) (l:B8L) (ws:List B8L),wordsL n l=some ws→(∀ w∈ws,w.length≤l.length)∧ws≠[]
 | 0,l,ws,h=>by cases h
 | n+1,l,ws,h=>by
  unfold wordsL at h
  split at h
  ·cases h
  ·rename_i w hw
   have hl:=(wordL_len hw).1
   split at h
   ·obtain rfl:=Option.some.inj h
    exact ⟨fun x hx=>by rw [List.mem_singleton.1 hx];exact hl,by simp⟩
   ·split at h
    ·cases h
    ·obtain ⟨vs,hv,rfl⟩:=Option.map_eq_some_iff.1 h
     have ih:=(wordsL_mem n _ _ hv).1
     refine ⟨fun x hx=>?_,by simp⟩
     rcases List.mem_cons.1 hx with rfl|hx
     ·exact hl
     ·have:=ih x hx
      rw [List.length_drop,List.length_drop] at this
      omega
theorem Cm.ok_setW {c:Cm}(h:c.ok) (j:Nat) {w:B8L}(hw:w.length≤4096):(c.setW j w).ok:=by
 obtain ⟨h1,h2,h3,h4,h5,h6,h7⟩:=h
 have a:=atoiN_wf w
 have b:(unqT w).size≤maxLen:=by
  have:=unqT_len w
  simp only [maxLen]
  omega
 unfold Cm.setW
 split
 ·exact ⟨h1,a,h3,h4,h5,h6,h7⟩
 ·exact ⟨h1,h2,a,h4,h5,h6,h7⟩
 ·exact ⟨h1,h2,h3,b,h5,h6,h7⟩
 ·exact ⟨h1,h2,h3,h4,h5,b,h7⟩
 ·exact ⟨h1,h2,h3,h4,b,h6,h7⟩
 ·exact ⟨h1,h2,h3,h4,h5,h6,a⟩
theorem setW_kind (c:Cm) (j:Nat) (w:B8L):(c.setW j w).kind=c.kind:=by
 unfold Cm.setW
 split<;>rfl
theorem fillW_kind (c:Cm) (ws:List B8L):∀ k,(fillW c ws k).1.kind=c.kind
 | 0=>rfl
 | k+1=>by
  unfold fillW
  split
  ·rw [setW_kind];exact fillW_kind c ws k
  ·exact fillW_kind c ws k
theorem fillW_rest (c:Cm) (ws:List B8L):∀ k,∃ j,j≤ws.length∧(fillW c ws k).2=ws.drop j
 | 0=>⟨0,Nat.zero_le _,rfl⟩
 | k+1=>by
  obtain ⟨j,hj,e⟩:=fillW_rest c ws k
  unfold fillW
  split
  ·rename_i h
   have hne:=h.2
   rw [e] at hne
   have:j<ws.length:=by
    apply Classical.byContradiction
    intro hh
    exact hne (List.drop_eq_nil_of_le (by omega))
   exact ⟨j+1,this,by simp only [e,List.tail_drop]⟩
  ·exact ⟨j,hj,e⟩
theorem fillW_ok {c:Cm}(hc:c.ok) {ws:List B8L}(hw:∀ w∈ws,w.length≤4096):∀ k,(fillW c ws k).1.ok
 | 0=>hc
 | k+1=>by
  obtain ⟨j,hj,e⟩:=fillW_rest c ws k
  have ih:=fillW_ok hc hw k
  unfold fillW
  split
  ·rename_i h
   refine Cm.ok_setW ih k ?_
   cases hr:(fillW c ws k).2 with
   | nil=>exact absurd hr h.2
   | cons x r=>exact hw x (by rw [e] at hr;exact List.mem_of_mem_drop (by rw [hr];exact List.mem_cons_self ..))
  ·exact ih
theorem zeroK_ok {k:Int}(h:0≤k∧k≤8):(zeroK k).ok:=by
 have e:∀ n:Int,0≤n→n≤8→(Lit.int .i64 n).wf=true:=fun n h1 h2=>by
  simp only [Lit.wf,IntKind.min,IntKind.max,IntKind.signed,IntKind.bits]
  simp
  omega
 exact ⟨e _ h.1 h.2,e 0 (by decide) (by decide),e 0 (by decide) (by decide),Nat.zero_le _,Nat.zero_le _,Nat.zero_le _,e 0 (by decide) (by decide)⟩
theorem kindUp_bd (w:B8L):∀ k,0≤kindUp w k∧kindUp w k≤k
 | 0=>⟨Int.le_refl _,Int.le_refl _⟩
 | k+1=>by
  have:=kindUp_bd w k
  unfold kindUp
  split<;>omega
theorem cmOf_ok {ws:List B8L}(hw:∀ w∈ws,w.length≤4096):(cmOf ws).ok:=by
 cases ws with
 | nil=>exact zeroK_ok (by omega)
 | cons w ws =>
  exact fillW_ok (zeroK_ok (by have:=kindUp_bd w 8;omega)) (fun x hx=>hw x (List.mem_cons_of_mem _ hx)) 6
theorem parse_fine {s:ByteArray}{c:Cm}(h:parseB s=some c):cmdI c=0∧cmdB c=s:=by
 unfold parseB at h
 split at h
 ·cases h
 ·rename_i h0
  split at h
  ·cases h
  ·split at h
   ·rename_i h2
    obtain rfl:=Option.some.inj h
    unfold textB at h2
    split at h2
    ·rename_i h3
     exact ⟨h3,h2⟩
    ·exact absurd (by rw [← h2];rfl) h0
   ·cases h
theorem cmd_ok0 {c:Cm}(h:cmdI c=0):c.ok:=by
 obtain ⟨hk,h1,h2,h3,h4,h5,h6,h7,h8⟩:=cmd_fine h
 have e:∀ n:Int,0≤n→n≤4294967296→(Lit.int .i64 n).wf=true:=fun n h1 h2=>by
  simp only [Lit.wf,IntKind.min,IntKind.max,IntKind.signed,IntKind.bits]
  simp
  omega
 have hcl:(0≤c.client∧c.client≤4294967296)∧(0≤c.seq∧c.seq≤4294967296)∧c.key.size≤24:=by
  by_cases e:2≤c.kind∧c.kind≤5
  ·have:=h1 e
   have:=(fine_key this.2.2).2
   omega
  ·have:=h5 e;omega
 have hv:c.val.size≤48:=by
  by_cases e:c.kind=2∨c.kind=5
  ·exact (fine_val (h2 e)).2
  ·have:=h6 e;omega
 have ho:c.old.size≤48:=by
  by_cases e:c.kind=5
  ·exact (fine_val (h3 e)).2
  ·have:=h7 e;omega
 have hnd:0≤c.node∧c.node≤4294967296:=by
  by_cases e:c.kind=7∨c.kind=8
  ·have:=h4 e;omega
  ·have:=h8 e;omega
 exact ⟨e _ (by omega) (by omega),e _ hcl.1.1 hcl.1.2,e _ hcl.2.1.1 hcl.2.1.2,by simp only [maxLen];omega,by simp only [maxLen];omega,by simp only [maxLen];omega,e _ hnd.1 hnd.2⟩
end Go.Proofs.YtnncjoooaknlmaaGreatDoor
/-
  report (layer 46), the walks: Parse, of any text.
-/
set_option maxHeartbeats 2000000
namespace Go.Proofs.YtnncjoooaknlmaaGreatDoor
open Go.Vx Go.ChangeShapes Go.WideShapes Go.ChangeAt Go.RowKit
def ParseA (o:Option Cm) (r:Value):Prop:=match o with
 | some c=>r=.tuple [.agg c.cells.toArray,.int .i64 0].toArray
 | none=>r=.tuple [.agg (zeroK 0).cells.toArray,.int .i64 3].toArray
abbrev WordR (w:B8L) (cs:List Value):Prop:=cs=[strV w]
theorem words_sl {G:GH}{v:Value}{ws:List B8L}{ν:OH}(hg:Grow 9 1 v ws.length (ws.map strV) ν) (hG:∀ b o,(b,o)∈ν→G b=some o):Sl G 1 WordR v ws:=by
 refine Grow.sl (css:=ws.map fun w => [strV w]) (R:=WordR) (sz:=1) (e:=9) (ν:=ν) (l:=ws) ?_ hG (by simp) (fun i x cs hx hc=>?_)
 ·have e:(ws.map fun w => [strV w]).flatten=ws.map strV:=by
   clear hg
   induction ws with
   | nil=>rfl
   | cons w ws ih=>simp [ih]
  rw [e]
  exact hg
 ·rw [List.getElem?_map,hx] at hc
  obtain rfl:=(Option.some.inj hc).symm
  exact ⟨rfl,rfl⟩
section
variable {P:Program}{ty:TypeId}{σ:Env}{t:TypeId}{bytes:Nat}{zero:Value}
attribute [local semireducible] PureOp
theorem p_build0 {agg:Bool}{sz:Nat}{pl:List (Nat×Nat)}{zs:List Value}[hP:Places P t pl] [Lay P t agg sz bytes zero] (hz:zero.cells=zs.toArray):PureOp P (.build t #[]) ty σ (.agg zs.toArray):=p_build (ps:=[]) (vs:=[]) hz rfl rfl
end
theorem kindUp_name (w:B8L) (k:Nat):(nameB ((k+1:Nat):Int)=⟨w.toArray⟩)↔nameL ((k+1:Nat):Int)=w:=by
 unfold nameB
 constructor
 ·intro h
  have:=congrArg (fun b:ByteArray=>b.data.toList) h
  simpa using this
 ·intro h
  rw [h]
theorem parse_s {G:GH}(hT:TabsG G) (hP:PowG G) (hE:ErrsG G) {s:ByteArray}(hs:s.size≤4096):Con Tryz.prog 16 #[.string s] G [] (fun r G' μ'=>G'=G∧μ'=[]∧ParseA (parseB s) r):=by
 have hnone:∀ r,ParseA none r↔r=.tuple [.agg (zeroK 0).cells.toArray,.int .i64 3].toArray:=fun r=>Iff.rfl
 refine (Con.thaw (Ψ:=fun r μ'=>μ'=[]∧ParseA (parseB s) r) ?_).mono (fun r G' μ' h=>⟨h.1,h.2.1,h.2.2⟩)
 by_cases h0:s.size=0
 ·have hs0:s=⟨#[]⟩:=empty_of h0
  subst hs0
  have hp:parseB ⟨#[]⟩=none:=rfl
  have qw:Con Tryz.prog 47 #[.string ⟨#[]⟩] G [] (Just (.tuple [.slice none 0 0,.int .i64 0].toArray) G):=by
   (refine v_enter Tryz.func47 rfl Tryz.ntmps47 rfl ?_;intro B _)
   repeat' (first|refine Wa ?_|(refine Wc ⟨?_,?_⟩<;>first|intro h|exact ⟨⟩)|(refine Wb ?_;intro b)|fail)
   ·refine v_ret [] (outsA2 rfl rfl rfl) sS ?_
    exact ⟨rfl,rfl,rfl⟩
   ·exact absurd trivial (by assumption)
  rw [hp]
  (refine v_enter Tryz.func16 rfl Tryz.ntmps16 rfl ?_;intro B _)
  repeat' (first|apply v_pure;(case hop=>apply p_build0 (zs:=[Value.int .i64 0,Value.int .i64 0,Value.int .i64 0,Value.string ⟨#[]⟩,Value.string ⟨#[]⟩,Value.string ⟨#[]⟩,Value.int .i64 0]) rfl);(case hd=>rfl)|refine Wa ?_|(refine Wc ⟨?_,?_⟩<;>first|intro h|exact ⟨⟩)|refine cJ qw ?_|refine Wr ?_|(refine Wb ?_;intro b)|fail)
  exact v_retM [] (outsM_cell_tmp (sz:=7) (vs:=(zeroK 0).cells) (e:=35) rfl rfl rfl (List.Mem.head _) rfl) sS ⟨rfl,rfl⟩
 ·have qw:=words_s hT hs (fun e=>h0 (by rw [e];rfl))
  have hpd:parseB s=match wordsL s.size s.data.toList with|none=>none|some ws=>if textB (cmOf ws)=s then some (cmOf ws) else none:=by
   unfold parseB
   rw [if_neg h0]
   all_goals (cases wordsL s.size s.data.toList<;>rfl)
  have hmem:=wordsL_mem s.size s.data.toList
  have hll:s.data.toList.length=s.size:=Array.length_toList ..
  rw [hll] at hmem
  generalize wordsL s.size s.data.toList=o at qw hpd hmem
  cases o with
  | none =>
   have hpd:parseB s=none:=hpd
   rw [hpd]
   have qw':Con Tryz.prog 47 #[.string s] G [] (Just (.tuple [.slice none 0 0,.int .i64 3].toArray) G):=qw.mono fun r G' μ' h=>⟨h.2.1,h.1,h.2.2⟩
   (refine v_enter Tryz.func16 rfl Tryz.ntmps16 rfl ?_;intro B _)
   repeat' (first|apply v_pure;(case hop=>apply p_build0 (zs:=[Value.int .i64 0,Value.int .i64 0,Value.int .i64 0,Value.string ⟨#[]⟩,Value.string ⟨#[]⟩,Value.string ⟨#[]⟩,Value.int .i64 0]) rfl);(case hd=>rfl)|refine Wa ?_|(refine Wc ⟨?_,?_⟩<;>first|intro h|exact ⟨⟩)|refine cJ qw' ?_|refine Wr ?_|(refine Wb ?_;intro b)|fail)
   exact v_retM [] (outsM_cell_tmp (sz:=7) (vs:=(zeroK 0).cells) (e:=35) rfl rfl rfl (List.Mem.head _) rfl) sS ⟨rfl,rfl⟩
  | some ws =>
   obtain ⟨hlen,hne⟩:=hmem ws rfl
   obtain ⟨w,tl,rfl⟩:∃ w tl,ws=w::tl:=by
    cases ws with
    | nil=>exact absurd rfl hne
    | cons w tl=>exact ⟨w,tl,rfl⟩
   have hok:=cmOf_ok (ws:=w::tl) (fun x hx=>by have:=hlen x hx;omega)
   have hcm:cmOf (w::tl)=(fillW (zeroK (kindUp w 8)) tl 6).1:=rfl
   simp only at hpd
   rw [hcm] at hok hpd
   have qw':Con Tryz.prog 47 #[.string s] G [] (fun r G' μ'=>G'=G∧∃ v,r=.tuple [v,.int .i64 0].toArray∧Grow 9 1 v (w::tl).length ((w::tl).map strV) μ'):=qw
   have hbd:=kindUp_bd w
   have hwl:(w::tl).length=tl.length+1:=rfl
   (refine v_enter Tryz.func16 rfl Tryz.ntmps16 rfl ?_;intro B _)
   repeat' (first|apply v_pure;(case hop=>apply p_build0 (zs:=[Value.int .i64 0,Value.int .i64 0,Value.int .i64 0,Value.string ⟨#[]⟩,Value.string ⟨#[]⟩,Value.string ⟨#[]⟩,Value.int .i64 0]) rfl);(case hd=>rfl)|(refine Wd 2 ?_;intro rb)|(refine Wd 6 ?_;intro cb)|refine Wa ?_|(refine Wc ⟨?_,?_⟩<;>first|intro h|exact ⟨⟩)|apply v_call (hs:=qw') (μ1:=[]);(case ha=>rfl);(case hp=>exact List.Perm.refl _);(case hd=>rfl);rintro _ _ ν0 hle ⟨rfl,v0,rfl,hg0⟩;refine v_frz ν0 (by repeat (first|exact PickA.last|exact PickA.here _|exact PickA.one _|apply PickA.cons|apply PickA.app)) ?_;intro G1 hle1 hG1;obtain ⟨A0,c0,rfl,hlc,hcm,hA0⟩:=id (words_sl hg0 hG1)|refine Wr ?_|(refine Wb ?_;intro b)|fail)
   obtain ⟨a0,rfl,hcells⟩:=hA0 (by simp)
   have hc0:GH.cell? G1 (a0.add (0*1))=some (.string ⟨w.toArray⟩):=by
    obtain ⟨cs,-,e2,e3⟩:=hcells 0 w rfl
    rw [e2] at e3
    exact e3.head
   have hsl0:=words_sl hg0 hG1
   have hT1:=hT.le hle1
   have hP1:=hP.le hle1
   have hE1:=hE.le hle1
   have hcl:c0≤9223372036854775807:=by simp only [maxLen] at hcm;omega
   have hqn:=fun (k:Nat) (h:k<8)=>name_s G1 (k:=(k:Int)+1) (by omega)
   refine v_loopI (ι:=Nat) [7,4,6,2,0] (fun k us G' μ'=>G'=G1∧k≤8∧us=[Value.int .i64 ((k:Nat)+1:Int),.slice (some a0) (tl.length+1) c0,.pointer (some ⟨cb,0,none⟩),.pointer (some ⟨rb,0,none⟩),.string s]∧μ'=[(cb,.cells (zeroK (kindUp w k)).cells.toArray 35 (0,0)),(rb,.cells (zeroK 0).cells.toArray 35 (0,0))]) (fun k=>8-k) rfl 0 ⟨rfl,by omega,rfl,rfl⟩ ?_
   rintro k us G2 μ' ⟨rfl,hk8,rfl,rfl⟩
   by_cases hlt:k<8
   ·have qn:=hqn k hlt
    have hcast:((k+1:Nat):Int)=(k:Int)+1:=by omega
    have hkn:=kindUp_name w k
    have hku:kindUp w (k+1)=if nameL ((k+1:Nat):Int)=w then ((k+1:Nat):Int) else kindUp w k:=rfl
    rw [hcast] at hkn hku
    unfold zeroK Cm.cells
    simp only
    repeat' (first|refine Wa ?_|(refine Wc ⟨?_,?_⟩<;>first|intro h|exact ⟨⟩)|refine Wr ?_|(refine Wb ?_;intro b)|fail)
    refine Dz _ ?_
    all_goals refine Dt [0,2,3] ?_
    all_goals (first|refine T1 4 hc0 ?_|refine Dt [4] ?_)
    all_goals (refine DJ 1 (hs:=qn) ?_)
    all_goals refine Dt [5] ?_
    all_goals refine Dd ?_
    repeat' (first|refine Wa ?_|(refine Wc ⟨?_,?_⟩<;>first|intro h|exact ⟨⟩)|refine Wr ?_|(refine Wb ?_;intro b)|fail)
    all_goals
     refine v_againI (k+1) rfl ⟨rfl,by omega,?_,?_⟩ (by omega)
    ·rw [hcast]
    ·rw [hku,if_pos (hkn.1 (by assumption))]
    ·rw [hcast]
    ·rw [hku,if_neg (fun e=>absurd (hkn.2 e) (by assumption))]
   obtain rfl:k=8:=by omega
   have hslr:=Sl.drop (k:=1) hsl0 (by simp)
   rw [List.drop_succ_cons,List.drop_zero] at hslr
   have hbk:=hbd 8
   generalize kindUp w 8=kd at *
   have hz0:∀ k,(fillW (zeroK kd) tl k).1.kind=kd:=fun k=>fillW_kind _ _ _
   have hlr:=fillW_rest (zeroK kd) tl
   repeat' (first|refine Wa ?_|(refine Wc ⟨?_,?_⟩<;>first|intro h|exact ⟨⟩)|refine Wr ?_|(refine Wb ?_;intro b)|fail)
   refine v_call (μ1:=[]) (μ2:=_) rfl (parts_s G2) (List.Perm.refl _) rfl ?_
   rintro r G' μ1 - ⟨rfl,pb,rfl,rfl⟩
   refine v_frz [(pb,_)] (by repeat (first|exact PickA.last|exact PickA.here _|exact PickA.one _|apply PickA.cons|apply PickA.app)) ?_
   intro G3 hle3 hG3
   have hpb:=hG3 pb _ (List.Mem.head _)
   have hT3:=hT1.le hle3
   have hP3:=hP1.le hle3
   have hE3:=hE1.le hle3
   repeat' (first|refine Wa ?_|(refine Wc ⟨?_,?_⟩<;>first|intro h|exact ⟨⟩)|refine Wr ?_|(refine Wb ?_;intro b)|fail)
   refine v_loopI (ι:=Nat) [41,40,39,8,6,2,0] (fun k us G' μ'=>G'=G3∧k≤6∧∃ rv,us=[Value.int .i64 (k:Nat),.int .i64 6,.slice (some ⟨pb,0,none⟩) 6 6,rv,.pointer (some ⟨cb,0,none⟩),.pointer (some ⟨rb,0,none⟩),.string s]∧μ'=[(cb,.cells (fillW (zeroK kd) tl k).1.cells.toArray 35 (0,0)),(rb,.cells (zeroK 0).cells.toArray 35 (0,0))]∧Sl G3 1 WordR rv (fillW (zeroK kd) tl k).2) (fun k=>6-k) rfl 0 ⟨rfl,by omega,_,rfl,rfl,hslr.mono hle3⟩ ?_
   rintro k us G4 μ' ⟨rfl,hk6,rv,rfl,rfl,hrv⟩
   by_cases hlt:k<6
   ·have hpk:=partsG hpb hlt
    have hwt:=wantT_s G4 kd k hlt
    have e1:wantP kd k=true→(fillW (zeroK kd) tl k).2≠[]→(fillW (zeroK kd) tl (k+1)).1=(fillW (zeroK kd) tl k).1.setW k ((fillW (zeroK kd) tl k).2.headD [])∧(fillW (zeroK kd) tl (k+1)).2=(fillW (zeroK kd) tl k).2.tail:=fun h h'=>by
     rw [fillW,if_pos (show wantP (zeroK kd).kind k=true∧_ from ⟨h,h'⟩)]
     exact ⟨rfl,rfl⟩
    have e0:¬ (wantP kd k=true∧(fillW (zeroK kd) tl k).2≠[])→(fillW (zeroK kd) tl (k+1)).1=(fillW (zeroK kd) tl k).1∧(fillW (zeroK kd) tl (k+1)).2=(fillW (zeroK kd) tl k).2:=fun h=>by
     rw [fillW,if_neg (show ¬ (wantP (zeroK kd).kind k=true∧_) from h)]
     exact ⟨rfl,rfl⟩
    have hk0:=hz0 k
    obtain ⟨j,hj,hjr⟩:=hlr k
    generalize (fillW (zeroK kd) tl k).1=gc at *
    generalize (fillW (zeroK kd) tl k).2=gr at *
    have hgl:∀ x∈gr,x.length≤4096:=fun x hx=>by
     rw [hjr] at hx
     have:=hlen x (List.mem_cons_of_mem _ (List.mem_of_mem_drop hx))
     omega
    clear hjr
    subst hk0
    generalize hg2:fillW (zeroK gc.kind) tl (k+1)=g2 at *
    obtain ⟨n2,r2⟩:=g2
    simp only at e0 e1
    by_cases hw:wantP gc.kind k=true
    ·rw [hw] at hwt
     cases gr with
     | nil =>
      obtain ⟨rfl,rfl⟩:=e0 (by simp)
      clear e1 e0
      obtain ⟨A,c,rfl,hlc2,hcm2,-⟩:=id hrv
      obtain rfl|rfl|rfl|rfl|rfl|rfl:k=0∨k=1∨k=2∨k=3∨k=4∨k=5:=by omega
      all_goals
       repeat' (first|refine Wa ?_|(refine Wc ⟨?_,?_⟩<;>first|intro h|exact ⟨⟩)|refine RN hpk ?_|refine cJ hwt ?_|refine Wr ?_|(refine Wb ?_;intro b)|fail)
      all_goals try (exfalso;rename_i h;simp at h;done)
      all_goals
       (refine v_only [(cb,_),(rb,_)] (by repeat (first|exact PickA.last|exact PickA.here _|exact PickA.one _|apply PickA.cons|apply PickA.app)) ?_
        first
         | exact v_againI (0+1) rfl ⟨rfl,by omega,_,rfl,by rw [hg2],by rw [hg2];exact hrv⟩ (by omega)
         | exact v_againI (1+1) rfl ⟨rfl,by omega,_,rfl,by rw [hg2],by rw [hg2];exact hrv⟩ (by omega)
         | exact v_againI (2+1) rfl ⟨rfl,by omega,_,rfl,by rw [hg2],by rw [hg2];exact hrv⟩ (by omega)
         | exact v_againI (3+1) rfl ⟨rfl,by omega,_,rfl,by rw [hg2],by rw [hg2];exact hrv⟩ (by omega)
         | exact v_againI (4+1) rfl ⟨rfl,by omega,_,rfl,by rw [hg2],by rw [hg2];exact hrv⟩ (by omega)
         | exact v_againI (5+1) rfl ⟨rfl,by omega,_,rfl,by rw [hg2],by rw [hg2];exact hrv⟩ (by omega))
     | cons x gr =>
      have hxl:(x::gr).length=gr.length+1:=rfl
      obtain ⟨h1',h2'⟩:=e1 hw (by simp)
      have h3':gr=r2:=h2'.symm
      subst h3'
      have h4':gc.setW k x=n2:=h1'.symm
      subst h4'
      clear h1' h2'
      clear e1 e0
      obtain ⟨A,c,rfl,hlc2,hcm2,hA2⟩:=id hrv
      obtain ⟨a,rfl,hc2⟩:=hA2 (by simp)
      have hcx:GH.cell? G4 (a.add (0*1))=some (strV x):=by
       obtain ⟨cs,-,e2,e3⟩:=hc2 0 x rfl
       rw [e2] at e3
       exact e3.head
      have hrt:=Sl.drop (k:=1) hrv (by simp)
      rw [List.drop_succ_cons,List.drop_zero] at hrt
      have qf:=fill_s hT3 hE3 gc x (hgl x (List.mem_cons_self ..)) cb k hlt
      generalize gc.setW k x=gc2 at *
      have hrt':Sl G4 1 WordR (.slice (if c=Int.toNat 1 then some a else (some a).map (·.add (Int.toNat 1*1))) ((x::gr).length-Int.toNat 1) (c-Int.toNat 1)) gr:=hrt
      obtain rfl|rfl|rfl|rfl|rfl|rfl:k=0∨k=1∨k=2∨k=3∨k=4∨k=5:=by omega
      all_goals
       repeat' (first|(refine Wd 10 ?_;intro b10)|refine Wa ?_|(refine Wc ⟨?_,?_⟩<;>first|intro h|exact ⟨⟩)|refine RN hpk ?_|refine cJ hwt ?_|refine Wr ?_|(refine Wb ?_;intro b)|fail)
      all_goals
       refine Dz [(b10,_)] ?_
       all_goals (first|refine T1 0 hcx ?_|refine Dt [0] ?_)
       all_goals refine Dt [1,2] ?_
       all_goals (first|refine T1 3 hcx ?_|refine Dt [3] ?_)
       all_goals (((apply d_call 4 (hs:=qf);(case hi=>rfl);(case hr=>kernel_rfl);(case ha=>rfl);(case hp=>exact aP);(case hd=>rfl);(case hν'=>exact aE);rintro _ _ _ _ ⟨rfl,rfl⟩)))
       all_goals refine Dd ?_
      all_goals
       repeat' (first|refine Wa ?_|(refine Wc ⟨?_,?_⟩<;>first|intro h|exact ⟨⟩)|refine Wr ?_|(refine Wb ?_;intro b)|fail)
      all_goals
       (refine v_drop (ν:=[(cb,.cells gc2.cells.toArray 35 (0,0)),(rb,.cells (zeroK 0).cells.toArray 35 (0,0))]) (List.Sublist.cons_cons _ (List.Sublist.cons _ (List.Sublist.refl _))) ?_
        first
         | exact v_againI (0+1) rfl ⟨rfl,by omega,_,rfl,by rw [hg2],by rw [hg2];exact hrt'⟩ (by omega)
         | exact v_againI (1+1) rfl ⟨rfl,by omega,_,rfl,by rw [hg2],by rw [hg2];exact hrt'⟩ (by omega)
         | exact v_againI (2+1) rfl ⟨rfl,by omega,_,rfl,by rw [hg2],by rw [hg2];exact hrt'⟩ (by omega)
         | exact v_againI (3+1) rfl ⟨rfl,by omega,_,rfl,by rw [hg2],by rw [hg2];exact hrt'⟩ (by omega)
         | exact v_againI (4+1) rfl ⟨rfl,by omega,_,rfl,by rw [hg2],by rw [hg2];exact hrt'⟩ (by omega)
         | exact v_againI (5+1) rfl ⟨rfl,by omega,_,rfl,by rw [hg2],by rw [hg2];exact hrt'⟩ (by omega))
    ·rw [Bool.not_eq_true] at hw
     rw [hw] at hwt
     obtain ⟨rfl,rfl⟩:=e0 (by simp [hw])
     clear e1 e0
     obtain ⟨A,c,rfl,hlc2,hcm2,-⟩:=id hrv
     obtain rfl|rfl|rfl|rfl|rfl|rfl:k=0∨k=1∨k=2∨k=3∨k=4∨k=5:=by omega
     all_goals
      repeat' (first|refine Wa ?_|(refine Wc ⟨?_,?_⟩<;>first|intro h|exact ⟨⟩)|refine RN hpk ?_|refine cJ hwt ?_|refine Wr ?_|(refine Wb ?_;intro b)|fail)
     all_goals
      (refine v_only [(cb,_),(rb,_)] (by repeat (first|exact PickA.last|exact PickA.here _|exact PickA.one _|apply PickA.cons|apply PickA.app)) ?_
       first
        | exact v_againI (0+1) rfl ⟨rfl,by omega,_,rfl,by rw [hg2],by rw [hg2];exact hrv⟩ (by omega)
        | exact v_againI (1+1) rfl ⟨rfl,by omega,_,rfl,by rw [hg2],by rw [hg2];exact hrv⟩ (by omega)
        | exact v_againI (2+1) rfl ⟨rfl,by omega,_,rfl,by rw [hg2],by rw [hg2];exact hrv⟩ (by omega)
        | exact v_againI (3+1) rfl ⟨rfl,by omega,_,rfl,by rw [hg2],by rw [hg2];exact hrv⟩ (by omega)
        | exact v_againI (4+1) rfl ⟨rfl,by omega,_,rfl,by rw [hg2],by rw [hg2];exact hrv⟩ (by omega)
        | exact v_againI (5+1) rfl ⟨rfl,by omega,_,rfl,by rw [hg2],by rw [hg2];exact hrv⟩ (by omega))
   ·obtain rfl:k=6:=by omega
    clear hrv hz0 hlr
    generalize (fillW (zeroK kd) tl 6).1=gc at *
    have qt:=textOf_s hT3 hP3 hok
    by_cases ht:textB gc=s
    ·rw [if_pos ht] at hpd
     rw [hpd]
     repeat' (first|refine Wa ?_|(refine Wc ⟨?_,?_⟩<;>first|intro h|exact ⟨⟩)|refine cJ qt ?_|refine Wr ?_|(refine Wb ?_;intro b)|fail)
     all_goals try (exfalso;rename_i h;exact h ht)
     exact v_retM [] (outsM_cell_tmp (sz:=7) (vs:=gc.cells) (e:=35) rfl rfl rfl (.tail _ (.head _)) rfl) sS ⟨rfl,rfl⟩
    ·rw [if_neg ht] at hpd
     rw [hpd]
     repeat' (first|apply v_pure;(case hop=>apply p_build0 (zs:=[Value.int .i64 0,Value.int .i64 0,Value.int .i64 0,Value.string ⟨#[]⟩,Value.string ⟨#[]⟩,Value.string ⟨#[]⟩,Value.int .i64 0]) rfl);(case hd=>rfl)|refine Wa ?_|(refine Wc ⟨?_,?_⟩<;>first|intro h|exact ⟨⟩)|refine cJ qt ?_|refine Wr ?_|(refine Wb ?_;intro b)|fail)
     all_goals try (exfalso;rename_i h;exact ht h)
     exact v_retM [] (outsM_cell_tmp (sz:=7) (vs:=(zeroK 0).cells) (e:=35) rfl rfl rfl (.tail _ (.head _)) rfl) sS ⟨rfl,rfl⟩
end Go.Proofs.YtnncjoooaknlmaaGreatDoor
/-
  entry (layer 12): the cells of entries.
-/
namespace Go.Proofs.YtnncjoooaknlmaaGreatDoor
open Go.Vx Go.ChangeShapes Go.WideShapes Go.ChangeAt Go.RowKit
def esC (l:List Ent):List Value:=(l.map Ent.cells).flatten
theorem esC_append (a b:List Ent):esC (a++b)=esC a++esC b:=by simp [esC]
theorem es_of_grow {v:Value}{l:List Ent}{ν:OH}(h:Grow 37 10 v l.length (esC l) ν) {G':GH}(hG:∀ b o,(b,o)∈ν→G' b=some o) (hok:∀ x∈l,x.ok):Es G' v l:=by
 refine h.sl hG (by simp) fun i x cs hx hc=>?_
 rw [List.getElem?_map,hx] at hc
 simp only [Option.map_some,Option.some.injEq] at hc
 subst hc
 exact ⟨rfl,rfl,hok x (List.mem_of_getElem? hx)⟩
end Go.Proofs.YtnncjoooaknlmaaGreatDoor
/-
  report (layer 46), the walks: line, Log.
-/
set_option maxHeartbeats 2000000
namespace Go.Proofs.YtnncjoooaknlmaaGreatDoor
open Go.Vx Go.ChangeShapes Go.WideShapes Go.ChangeAt Go.RowKit
theorem rline_s {G:GH}{v:Value}{ws:List B8L}{ν:OH}(hg:Grow 9 1 v ws.length (ws.map strV) ν) (hn:ws.length≤65536) (hl:(joinL ws).length≤65536):Con Tryz.prog 29 #[v] G ν (Keeps (.string ⟨(joinL ws).toArray⟩) G ν):=by
 have q:=line_s (G:=G) hg hn hl
 apply Con.keeps
 obtain ⟨A,c,rfl,-,-⟩:=hg.shape
 (refine v_enter Tryz.func29 rfl Tryz.ntmps29 rfl ?_;intro B _)
 repeat' (first|refine Wa ?_|(refine Wc ⟨?_,?_⟩<;>first|intro h|exact ⟨⟩)|refine cK q ?_|fail)
 refine v_ret ν (outsA1 rfl rfl) (List.Sublist.refl _) ?_
 exact ⟨rfl,rfl⟩
theorem logB_take {l:List Ent}{k:Nat}(h:k<l.length):logB (l.take (k+1))=logB (l.take k)++(if okLine l[k] then [lineB l[k]] else []):=by
 unfold logB
 rw [List.take_succ_eq_append_getElem h,List.filter_append,List.map_append]
 congr 1
 by_cases hk:okLine l[k]
 ·rw [if_pos hk,List.filter_cons,if_pos (by simpa using hk)]
  rfl
 ·rw [if_neg hk,List.filter_cons,if_neg (by simpa using hk)]
  rfl
theorem logB_len (l:List Ent):(logB l).length≤l.length:=by
 unfold logB
 rw [List.length_map]
 exact List.length_filter_le _ _
theorem cmdB_ne {c:Cm}(h:cmdI c=0):¬ cmdB c=⟨#[]⟩:=by
 intro e
 have h1:=List.length_pos_iff.2 (cmdL_ne h)
 have h2:=cmdB_size c
 rw [e] at h2
 have h3:(ByteArray.mk #[]).size=0:=rfl
 omega
theorem lineL_len {x:Ent}(h:okLine x):(lineL x).length≤720:=by
 have h1:=cmdL_len h.1
 have h2:=decDigits_len 9 x.index.toNat (by have:=h.2.2;omega)
 unfold lineL
 show (Lib.decDigits x.index.toNat++32::cmdL x.cmd).length≤_
 rw [List.length_append,List.length_cons]
 omega
theorem report_Log_s {G:GH}(hT:TabsG G) (hP:PowG G) {l:List Ent}{sv:Value}(hs:Es G sv l) (hn:l.length≤200):Con Tryz.prog 17 #[sv] G [] (fun r G' μ'=>G'=G∧Grow 9 1 r (logB l).length ((logB l).map Value.string) μ'):=by
 obtain ⟨A,c,rfl,hlc,hcm,hsome,hcp,hcb,hcc,hok⟩:=esOpen hs
 clear hcb hcc
 simp only [maxLen] at hcm
 refine Con.thaw (Ψ:=fun r μ'=>Grow 9 1 r (logB l).length ((logB l).map Value.string) μ') ?_
 (refine v_enter Tryz.func17 rfl Tryz.ntmps17 rfl ?_;intro B _)
 repeat' (first|refine Wa ?_|(refine Wc ⟨?_,?_⟩<;>first|intro h|exact ⟨⟩)|refine Wr ?_|(refine Wb ?_;intro b)|fail)
 refine v_loopI (ι:=Nat) [9,8,7,3] (fun k us G' μ'=>G'=G∧k≤l.length∧∃ v,us=[Value.int .i64 (k:Nat),.int .i64 (l.length:Nat),.slice A l.length c,v]∧Grow 9 1 v (logB (l.take k)).length ((logB (l.take k)).map Value.string) μ') (fun k=>l.length-k) rfl 0 ⟨rfl,by omega,_,rfl,Grow.nil _ 1⟩ ?_
 rintro k us G' μ' ⟨rfl,hk,v,rfl,hg⟩
 by_cases hlt:k<l.length
 ·have hcx:=hcp k hlt
  have hxok:=hok k hlt
  have ht:=logB_take hlt
  have hlb:=logB_len (l.take k)
  rw [List.length_take] at hlb
  generalize l[k]=x at *
  generalize logB (l.take k)=wl at *
  have qt:=textOf_s hT hP hxok.2.2.2
  obtain ⟨A2,c2,rfl,-,-⟩:=hg.shape
  obtain ⟨ix,rd,nd,cm⟩:=x
  unfold textB at qt
  simp only at qt
  by_cases h0:cmdI cm=0
  ·rw [if_pos h0] at qt
   have hne:=cmdB_ne h0
   by_cases hr:1≤ix∧ix≤4294967296
   ·have hokl:okLine ⟨ix,rd,nd,cm⟩:=⟨h0,hr.1,hr.2⟩
    rw [if_pos hokl] at ht
    have hll:=lineL_len hokl
    have qi:=itoaN_s hP (n:=ix) (by omega) hr.2
    have ql:=fun (b:Nat)=>rline_s (G:=G') (ws:=[Lib.decDigits ix.toNat,cmdL cm]) (v:=.slice (some ⟨b,0,none⟩) 2 2) (ν:=[(b,.cells ([Value.string (numB ix.toNat),Value.string (cmdB cm)]:List Value).toArray 9 (0,0))]) (Grow.lit rfl (by simp only [maxLen];omega)) (by simp) (by show (lineL ⟨ix,rd,nd,cm⟩).length≤_;omega)
    have hlv:Value.string ⟨(joinL [Lib.decDigits ix.toNat,cmdL cm]).toArray⟩=.string (lineB ⟨ix,rd,nd,cm⟩):=rfl
    rw [hlv] at ql
    generalize lineB ⟨ix,rd,nd,cm⟩=lb at *
    generalize cmdB cm=cb at *
    repeat' (first|(refine Wd 33 ?_;intro b33)|(refine Wd 35 ?_;intro b35)|refine Wa ?_|(refine Wc ⟨?_,?_⟩<;>first|intro h|exact ⟨⟩)|refine RN hcx ?_|refine cJ qt ?_|refine cJ qi ?_|refine cK (ql b33) ?_|apply v_append (hg:=hg) (m':=1) (us:=[Value.string lb]) (hp:=PickA.perm (by repeat (first|exact PickA.last|exact PickA.here _|exact PickA.one _|apply PickA.cons|apply PickA.app))) (hsrc:=Src.own (e:=9) (b:=b35) (List.Mem.head _) rfl);(case hzs=>rfl);(case hsz=>omega);(case hs|hx=>rfl);(case hb=>omega);(case hb'=>simp only [maxLen];omega);(case hd|h1=>rfl);intro v3 n3 hg3;obtain ⟨A3,c3,rfl,-,-⟩:=hg3.shape|refine Wr ?_|(refine Wb ?_;intro b)|fail)
    all_goals try (exfalso;first|apply hne;assumption|(rename_i h;exact h hne))
    all_goals
     (refine v_drop (ν:=n3) (List.sublist_append_left _ _) ?_
      refine v_againI (k+1) rfl ⟨rfl,by omega,_,rfl,?_⟩ (by omega)
      rw [ht,List.length_append,List.map_append]
      exact hg3)
   ·rw [if_neg (fun h=>hr ⟨h.2.1,h.2.2⟩),List.append_nil] at ht
    generalize cmdB cm=cb at *
    repeat' (first|refine Wa ?_|(refine Wc ⟨?_,?_⟩<;>first|intro h|exact ⟨⟩)|refine RN hcx ?_|refine cJ qt ?_|refine Wr ?_|(refine Wb ?_;intro b)|fail)
    all_goals try (exfalso;first|apply hne;assumption|(rename_i h;exact h hne))
    all_goals
     (refine v_only μ' (by repeat (first|exact PickA.last|exact PickA.here _|exact PickA.one _|apply PickA.cons|apply PickA.app)) ?_
      refine v_againI (k+1) rfl ⟨rfl,by omega,_,rfl,?_⟩ (by omega)
      rw [ht]
      exact hg)
  ·rw [if_neg h0] at qt
   rw [if_neg (fun h=>h0 h.1),List.append_nil] at ht
   repeat' (first|(exact absurd trivial (by assumption:¬ True))|refine Wa ?_|(refine Wc ⟨?_,?_⟩<;>first|intro h|exact ⟨⟩)|refine RN hcx ?_|refine cJ qt ?_|refine Wr ?_|(refine Wb ?_;intro b)|fail)
   all_goals
    (refine v_only μ' (by repeat (first|exact PickA.last|exact PickA.here _|exact PickA.one _|apply PickA.cons|apply PickA.app)) ?_
     refine v_againI (k+1) rfl ⟨rfl,by omega,_,rfl,?_⟩ (by omega)
     rw [ht]
     exact hg)
 ·obtain rfl:k=l.length:=by omega
  rw [List.take_length] at hg
  obtain ⟨A2,c2,rfl,-,-⟩:=hg.shape
  repeat' (first|refine Wa ?_|(refine Wc ⟨?_,?_⟩<;>first|intro h|exact ⟨⟩)|refine Wr ?_|(refine Wb ?_;intro b)|fail)
  refine v_ret μ' (outsA1 rfl rfl) (List.Sublist.refl _) ?_
  exact hg
end Go.Proofs.YtnncjoooaknlmaaGreatDoor
/-
  report (layer 46), the walks: ReadLog.
-/
set_option maxHeartbeats 2000000
namespace Go.Proofs.YtnncjoooaknlmaaGreatDoor
open Go.Vx Go.ChangeShapes Go.WideShapes Go.ChangeAt Go.RowKit
theorem cutV_eq (s:ByteArray):∃ b,cutV s=.tuple [.string ⟨(headL s.data.toList).toArray⟩,.string ⟨(tailL s.data.toList).toArray⟩,.bool b].toArray:=by
 have hl:s.data.toList.length=s.size:=Array.length_toList ..
 obtain ⟨-,-,h3,h4⟩:=headL_spec s.data.toList
 unfold cutV tailL
 split
 ·have e1:=piece_toList s 0 (headL s.data.toList).length
  rw [Nat.zero_add] at e1
  have e2:s.extract 0 (headL s.data.toList).length=⟨(headL s.data.toList).toArray⟩:=ba_of_list (by
   rw [e1]
   unfold pieceL
   rw [List.drop_zero,← h3])
  have e3:s.extract ((headL s.data.toList).length+1) s.size=⟨(s.data.toList.drop ((headL s.data.toList).length+1)).toArray⟩:=ba_of_list (extract_drop s _)
  exact ⟨true,by rw [e2,e3]⟩
 ·have e1:headL s.data.toList=s.data.toList:=by rw [h3,List.take_of_length_le (by omega)]
  have e2:s.data.toList.drop ((headL s.data.toList).length+1)=[]:=List.drop_eq_nil_of_le (by omega)
  refine ⟨false,?_⟩
  rw [e2,e1]
  rfl
abbrev TxR (s:ByteArray) (cs:List Value):Prop:=cs=[.string s]
def ReadA (o:Option (List Ent)) (r:Value) (μ:OH):Prop:=match o with
 | some xs=>∃ v,r=.tuple [v,.int .i64 0].toArray∧Grow 37 10 v xs.length (esC xs) μ
 | none=>r=.tuple [.slice none 0 0,.int .i64 3].toArray∧μ=[]
theorem readOne_eq (s:ByteArray):readOne s=match parseB ⟨(tailL s.data.toList).toArray⟩ with|none=>none|some c=>if okLine (entOf (atoiN (headL s.data.toList)) c)∧lineB (entOf (atoiN (headL s.data.toList)) c)=s then some (entOf (atoiN (headL s.data.toList)) c) else none:=rfl
theorem ent_ok {n:Int}{c:Cm}(hn:(Lit.int .i64 n).wf=true) (hc:c.ok):(entOf n c).ok:=⟨hn,(by decide:(Lit.int .i64 0).wf=true),(by decide:(Lit.int .i64 0).wf=true),hc⟩
theorem logB_one (x:Ent):logB [x]=if okLine x then [lineB x] else []:=by
 unfold logB
 by_cases h:okLine x
 ·rw [if_pos h,List.filter_cons,if_pos (by simpa using h)]
  rfl
 ·rw [if_neg h,List.filter_cons,if_neg (by simpa using h)]
  rfl
theorem CellsG.ofB {G:GH}{b:Nat}{cs:List Value}{e:TypeId}{m:Nat×Nat}(h:G b=some (.cells cs.toArray e m)):CellsG G ⟨b,0,none⟩ cs:=fun j v hv=>by
 rw [add_mk,Nat.zero_add]
 simp [GH.cell?,h,hv]
theorem es_one {G:GH}{b:Nat}{x:Ent}(hG:G b=some (.cells x.cells.toArray 37 (0,0))) (hx:x.ok):Es G (.slice (some ⟨b,0,none⟩) 1 1) [x]:=by
 refine es_of_grow (l:=[x]) (ν:=[(b,.cells x.cells.toArray 37 (0,0))]) ?_ (fun b' o h=>?_) (fun y hy=>by rw [List.mem_singleton.1 hy];exact hx)
 ·exact Grow.lit rfl (by simp only [maxLen];omega)
 ·rw [List.mem_singleton] at h
  cases h
  exact hG
theorem readLog_s {G:GH}(hT:TabsG G) (hP:PowG G) (hE:ErrsG G) {ls:List ByteArray}{sv:Value}(hs:Sl G 1 TxR sv ls) (hn:ls.length≤200) (hl:∀ s∈ls,s.size≤4096):Con Tryz.prog 6 #[sv] G [] (fun r G' μ'=>G'=G∧ReadA (readLog ls) r μ'):=by
 obtain ⟨A,c,rfl,hlc,hcm,hsome,hel⟩:=hs.open
 have hcp:∀ i (h:i<ls.length),GH.cell? G ((adr A).add (i*1))=some (.string ls[i]):=fun i h=>by
  obtain ⟨cs,-,e2,e3⟩:=hel i _ (List.getElem?_eq_getElem h)
  rw [e2] at e3
  exact e3.head
 simp only [maxLen] at hcm
 refine Con.thaw (Ψ:=fun r μ'=>ReadA (readLog ls) r μ') ?_
 (refine v_enter Tryz.func6 rfl Tryz.ntmps6 rfl ?_;intro B _)
 repeat' (first|refine Wa ?_|(refine Wc ⟨?_,?_⟩<;>first|intro h|exact ⟨⟩)|refine Wr ?_|(refine Wb ?_;intro b)|fail)
 refine v_loopI (ι:=Nat) [18,17,16,4] (fun k us G' μ'=>GH.le G G'∧k≤ls.length∧∃ v xs,us=[Value.int .i64 (k:Nat),.int .i64 (ls.length:Nat),.slice A ls.length c,v]∧xs.length≤k∧Grow 37 10 v xs.length (esC xs) μ'∧readLog ls=(readLog (ls.drop k)).map (xs ++ ·)) (fun k=>ls.length-k) rfl 0 ⟨GH.le_refl _,by omega,_,[],rfl,Nat.le_refl _,Grow.nil _ 10,by rw [List.drop_zero];cases readLog ls<;>rfl⟩ ?_
 rintro k us G1 μ' ⟨hle1,k2,v,xs,rfl,hxk,hg,he⟩
 obtain ⟨A2,c2,rfl,-,-⟩:=hg.shape
 by_cases hlt:k<ls.length
 ·have hcx:=(hcp k hlt)
  have hsz:=hl _ (List.getElem_mem hlt)
  have hd:=List.drop_eq_getElem_cons hlt
  rw [hd] at he
  have hT1:=hT.le hle1
  have hP1:=hP.le hle1
  have hE1:=hE.le hle1
  have hcx1:GH.cell? G1 ((adr A).add (k*1))=some (.string ls[k]):=by
   unfold GH.cell? at hcx ⊢
   cases hg0:G ((adr A).add (k*1)).block with
   | none=>rw [hg0] at hcx;cases hcx
   | some o=>rw [hle1 _ _ hg0];rw [hg0] at hcx;exact hcx
  have hrd:readLog (ls[k]::ls.drop (k+1))=match readOne ls[k] with|none=>none|some x=>(readLog (ls.drop (k+1))).map (x :: ·):=rfl
  rw [hrd] at he
  clear hcx hd hrd
  generalize ls[k]=s at *
  obtain ⟨bb,hcut⟩:=cutV_eq s
  have qc:=cut_s G1 (s:=s) (by omega)
  rw [hcut] at qc
  have hll:s.data.toList.length=s.size:=Array.length_toList ..
  have hhl:=(headL_spec s.data.toList).2.2.2
  have htl:(tailL s.data.toList).length≤s.size:=by
   unfold tailL
   rw [List.length_drop]
   omega
  have hr1:=readOne_eq s
  generalize headL s.data.toList=hd at *
  generalize tailL s.data.toList=tl at *
  have hz1:(ByteArray.mk hd.toArray).size=hd.length:=by
   show Array.size _=_
   rw [List.size_toArray]
  have hz2:(ByteArray.mk tl.toArray).size=tl.length:=by
   show Array.size _=_
   rw [List.size_toArray]
  have qa:Con Tryz.prog 15 #[.string ⟨hd.toArray⟩] G1 [] (fun r G' μ'=>(∃ ev,r=.tuple [.int .i64 (atoiN hd),ev].toArray)∧G'=G1∧μ'=[]):=atoi_s hE1 (s:=⟨hd.toArray⟩) (by rw [hz1];omega)
  have hn:=atoiN_wf hd
  have qp:=parse_s hT1 hP1 hE1 (s:=⟨tl.toArray⟩) (by rw [hz2];omega)
  have hpf:=fun c=>parse_fine (s:=⟨tl.toArray⟩) (c:=c)
  generalize atoiN hd=n at *
  generalize parseB ⟨tl.toArray⟩=po at *
  cases po with
  | none =>
   have hr2:readOne s=none:=hr1
   rw [hr2] at he
   have he2:readLog ls=none:=he
   rw [he2]
   have qp':Con Tryz.prog 16 #[.string ⟨tl.toArray⟩] G1 [] (Just (.tuple [.agg (zeroK 0).cells.toArray,.int .i64 3].toArray) G1):=qp.mono fun r G' μ' h=>⟨h.2.2,h.1,h.2.1⟩
   have hxok:(entOf n (zeroK 0)).ok:=ent_ok hn (zeroK_ok (by omega))
   repeat' (first|apply v_pure;(case hop=>(apply p_build (cs:=(entOf n (zeroK 0)).cells);(case hz=>rfl);(case hv=>(simp only [List.map_cons,List.map_nil];repeat (first|with_reducible exact evs_nil|apply evs_cons;(case h1=>rfl))));(case hb=>rfl)));(case hd=>rfl)|(refine Wd 12 ?_;intro cb)|(refine Wd 41 ?_;intro b41)|refine Wa ?_|(refine Wc ⟨?_,?_⟩<;>first|intro h|exact ⟨⟩)|refine Rf hcx1 ?_|refine cJ qc ?_|apply v_call (hs:=qa) (μ1:=[]);(case ha=>rfl);(case hp=>exact List.Perm.refl _);(case hd=>rfl);rintro _ _ _ hle ⟨⟨ev,rfl⟩,rfl,rfl⟩|refine cJ qp' ?_|refine Wr ?_|(refine Wb ?_;intro b)|fail)
   refine v_frz [(b41,_)] (by repeat (first|exact PickA.last|exact PickA.here _|exact PickA.one _|apply PickA.cons|apply PickA.app)) ?_
   intro G2 hle2 hG2
   have h41:=hG2 b41 _ (List.Mem.head _)
   have hEs:=es_one (x:=entOf n (zeroK 0)) h41 hxok
   have qlog:=report_Log_s (hT1.le hle2) (hP1.le hle2) hEs (by simp)
   refine v_call (hs:=qlog) (μ1:=[]) rfl (List.Perm.refl _) rfl ?_
   rintro r4 _ ν4 hle4 ⟨rfl,hg4⟩
   obtain ⟨A4,c4,rfl,-,-⟩:=hg4.shape
   repeat' (first|refine Wa ?_|(refine Wc ⟨?_,?_⟩<;>first|intro h|exact ⟨⟩)|refine Wr ?_|(refine Wb ?_;intro b)|fail)
   refine v_ret [] (outsA2 rfl rfl rfl) sS ?_
   exact ⟨rfl,rfl⟩
  | some cm =>
   obtain ⟨hc0,-⟩:=hpf cm rfl
   have hxok:(entOf n cm).ok:=ent_ok hn (cmd_ok0 hc0)
   have hr2:readOne s=if okLine (entOf n cm)∧lineB (entOf n cm)=s then some (entOf n cm) else none:=hr1
   have qp':Con Tryz.prog 16 #[.string ⟨tl.toArray⟩] G1 [] (Just (.tuple [.agg cm.cells.toArray,.int .i64 0].toArray) G1):=qp.mono fun r G' μ' h=>⟨h.2.2,h.1,h.2.1⟩
   have hce:esC [entOf n cm]=(entOf n cm).cells:=by simp [esC]
   by_cases hokl:okLine (entOf n cm)
   ·repeat' (first|apply v_pure;(case hop=>(apply p_build (cs:=(entOf n cm).cells);(case hz=>rfl);(case hv=>(simp only [List.map_cons,List.map_nil];repeat (first|with_reducible exact evs_nil|apply evs_cons;(case h1=>rfl))));(case hb=>rfl)));(case hd=>rfl)|(refine Wd 12 ?_;intro cb)|(refine Wd 41 ?_;intro b41)|refine Wa ?_|(refine Wc ⟨?_,?_⟩<;>first|intro h|exact ⟨⟩)|refine Rf hcx1 ?_|refine cJ qc ?_|apply v_call (hs:=qa) (μ1:=[]);(case ha=>rfl);(case hp=>exact List.Perm.refl _);(case hd=>rfl);rintro _ _ _ hle ⟨⟨ev,rfl⟩,rfl,rfl⟩|refine cJ qp' ?_|refine Wr ?_|(refine Wb ?_;intro b)|fail)
    refine v_frz [(b41,_)] (by repeat (first|exact PickA.last|exact PickA.here _|exact PickA.one _|apply PickA.cons|apply PickA.app)) ?_
    intro G2 hle2 hG2
    have h41:=hG2 b41 _ (List.Mem.head _)
    have hEs:=es_one (x:=entOf n cm) h41 hxok
    have qlog:=report_Log_s (hT1.le hle2) (hP1.le hle2) hEs (by simp)
    rw [logB_one,if_pos hokl] at qlog
    refine v_call (hs:=qlog) (μ1:=[]) rfl (List.Perm.refl _) rfl ?_
    rintro r4 G4 ν4 hle4 ⟨hG4,hg4⟩
    have hG4':=hG4.symm
    subst hG4'
    have hg4:Grow 9 1 r4 1 [Value.string (lineB (entOf n cm))] ν4:=hg4
    rcases hg4.2 with ⟨-,h,-⟩|⟨b4,c5,spare,rfl,rfl,-,-,-⟩
    ·exact absurd h (by simp)
    by_cases hls:lineB (entOf n cm)=s
    ·rw [if_pos ⟨hokl,hls⟩] at hr2
     rw [hr2] at he
     have hsrc:∀ μ,Vx.Src G2 μ (.slice (some ⟨b41,0,none⟩) 1 1) 1 10 (entOf n cm).cells:=fun μ=>⟨rfl,_,_,rfl,fun _=>⟨_,rfl,CellsAt.frozen (CellsG.ofB h41)⟩⟩
     have hle3:GH.le G G2:=GH.le_trans hle1 hle2
     have h1c:(entOf n cm).cells.all Value.oneCell'=true:=rfl
     generalize lineB (entOf n cm)=lb at *
     generalize (entOf n cm).cells=xcs at *
     repeat' (first|(exact absurd hls (by assumption))|refine Wa ?_|(refine Wc ⟨?_,?_⟩<;>first|intro h|exact ⟨⟩)|apply v_append (hg:=hg) (m':=1) (us:=xcs) (hp:=PickA.perm (by repeat (first|exact PickA.last|exact PickA.here _|exact PickA.one _|apply PickA.cons|apply PickA.app))) (hsrc:=hsrc _);(case hzs=>rfl);(case hsz=>omega);(case hs|hx=>rfl);(case hb=>omega);(case hb'=>simp only [maxLen];omega);(case hd=>rfl);(case h1=>exact h1c);intro v3 n3 hg3;obtain ⟨A3,c3,rfl,-,-⟩:=hg3.shape|refine Wr ?_|(refine Wb ?_;intro b)|fail)
     refine v_drop (ν:=n3) (List.sublist_append_left _ _) ?_
     refine v_againI (k+1) rfl ⟨hle3,by omega,_,xs++[entOf n cm],rfl,by rw [List.length_append];simp only [List.length_singleton];omega,?_,?_⟩ (by omega)
     ·rw [esC_append,hce,List.length_append]
      exact hg3
     ·rw [he]
      cases readLog (ls.drop (k+1)) with
      | none=>rfl
      | some ys=>simp
    ·rw [if_neg (fun h=>hls h.2)] at hr2
     rw [hr2] at he
     have he2:readLog ls=none:=he
     rw [he2]
     repeat' (first|(exact absurd (by assumption) hls)|refine Wa ?_|(refine Wc ⟨?_,?_⟩<;>first|intro h|exact ⟨⟩)|refine Wr ?_|(refine Wb ?_;intro b)|fail)
     refine v_ret [] (outsA2 rfl rfl rfl) sS ?_
     exact ⟨rfl,rfl⟩
   ·repeat' (first|apply v_pure;(case hop=>(apply p_build (cs:=(entOf n cm).cells);(case hz=>rfl);(case hv=>(simp only [List.map_cons,List.map_nil];repeat (first|with_reducible exact evs_nil|apply evs_cons;(case h1=>rfl))));(case hb=>rfl)));(case hd=>rfl)|(refine Wd 12 ?_;intro cb)|(refine Wd 41 ?_;intro b41)|refine Wa ?_|(refine Wc ⟨?_,?_⟩<;>first|intro h|exact ⟨⟩)|refine Rf hcx1 ?_|refine cJ qc ?_|apply v_call (hs:=qa) (μ1:=[]);(case ha=>rfl);(case hp=>exact List.Perm.refl _);(case hd=>rfl);rintro _ _ _ hle ⟨⟨ev,rfl⟩,rfl,rfl⟩|refine cJ qp' ?_|refine Wr ?_|(refine Wb ?_;intro b)|fail)
    refine v_frz [(b41,_)] (by repeat (first|exact PickA.last|exact PickA.here _|exact PickA.one _|apply PickA.cons|apply PickA.app)) ?_
    intro G2 hle2 hG2
    have h41:=hG2 b41 _ (List.Mem.head _)
    have hEs:=es_one (x:=entOf n cm) h41 hxok
    have qlog:=report_Log_s (hT1.le hle2) (hP1.le hle2) hEs (by simp)
    rw [logB_one,if_neg hokl] at qlog
    refine v_call (hs:=qlog) (μ1:=[]) rfl (List.Perm.refl _) rfl ?_
    rintro r4 G4 ν4 hle4 ⟨hG4,hg4⟩
    have hg4:Grow 9 1 r4 0 [] ν4:=hg4
    obtain ⟨A4,c4,rfl,-,-⟩:=hg4.shape
    rw [if_neg (fun h=>hokl h.1)] at hr2
    rw [hr2] at he
    have he2:readLog ls=none:=he
    rw [he2]
    repeat' (first|refine Wa ?_|(refine Wc ⟨?_,?_⟩<;>first|intro h|exact ⟨⟩)|refine Wr ?_|(refine Wb ?_;intro b)|fail)
    refine v_ret [] (outsA2 rfl rfl rfl) sS ?_
    exact ⟨rfl,rfl⟩
 ·obtain rfl:k=ls.length:=by omega
  rw [List.drop_length] at he
  have he2:readLog ls=some xs:=by rw [he];simp [readLog]
  rw [he2]
  repeat' (first|refine Wa ?_|(refine Wc ⟨?_,?_⟩<;>first|intro h|exact ⟨⟩)|refine Wr ?_|(refine Wb ?_;intro b)|fail)
  refine v_ret μ' (outsA2 rfl rfl rfl) (List.Sublist.refl _) ?_
  exact ⟨_,rfl,hg⟩
end Go.Proofs.YtnncjoooaknlmaaGreatDoor
/-
  report (layer 46), the reference's walks, 2: Log, and equal texts.
-/
set_option maxHeartbeats 2000000
namespace Go.Proofs.YtnncjoooaknlmaaGreatDoor
open Go.Vx Go.ChangeShapes Go.WideShapes Go.ChangeAt Go.RowKit
theorem tx_sl {G:GH}{v:Value}{ls:List ByteArray}{ν:OH}(hg:Grow 9 1 v ls.length (ls.map Value.string) ν) (hG:∀ b o,(b,o)∈ν→G b=some o):Sl G 1 TxR v ls:=by
 refine Grow.sl (css:=ls.map fun w => [Value.string w]) (R:=TxR) (sz:=1) (e:=9) (ν:=ν) (l:=ls) ?_ hG (by simp) (fun i x cs hx hc=>?_)
 ·have e:(ls.map fun w => [Value.string w]).flatten=ls.map Value.string:=by
   clear hg
   induction ls with
   | nil=>rfl
   | cons w ws ih=>simp [ih]
  rw [e]
  exact hg
 ·rw [List.getElem?_map,hx] at hc
  obtain rfl:=(Option.some.inj hc).symm
  exact ⟨rfl,rfl⟩
theorem refTexts_s {G:GH}{a b:List ByteArray}{av bv:Value}(ha:Sl G 1 TxR av a) (hb:Sl G 1 TxR bv b):Con Tryz.prog 7 #[av,bv] G [] (Just (.bool (decide (a=b))) G):=by
 obtain ⟨A,c,rfl,hlc,hcm,hsome,hel⟩:=ha.open
 obtain ⟨A',c',rfl,hlc',hcm',hsome',hel'⟩:=hb.open
 have hcp:∀ i (h:i<a.length),GH.cell? G ((adr A).add (i*1))=some (.string a[i]):=fun i h=>by
  obtain ⟨cs,-,e2,e3⟩:=hel i _ (List.getElem?_eq_getElem h)
  rw [e2] at e3
  exact e3.head
 have hcp':∀ i (h:i<b.length),GH.cell? G ((adr A').add (i*1))=some (.string b[i]):=fun i h=>by
  obtain ⟨cs,-,e2,e3⟩:=hel' i _ (List.getElem?_eq_getElem h)
  rw [e2] at e3
  exact e3.head
 simp only [maxLen] at hcm hcm'
 clear hel hel' ha hb
 apply Con.just
 (refine v_enter Tryz.func7 rfl Tryz.ntmps7 rfl ?_;intro B _)
 by_cases hln:a.length=b.length
 ·repeat' (first|refine Wa ?_|(refine Wc ⟨?_,?_⟩<;>first|intro h|exact ⟨⟩)|refine Wr ?_|fail)
  refine v_loopI (ι:=Nat) [5,0,1] (fun k us G' μ'=>G'=G∧μ'=[]∧k≤a.length∧us=[Value.int .i64 (k:Nat),.slice A a.length c,.slice A' b.length c']∧∀ i (h:i<a.length) (h':i<b.length),i<k→a[i]=b[i]) (fun k=>a.length-k) rfl 0 ⟨rfl,rfl,by omega,rfl,by omega⟩ ?_
  rintro k us G' μ' ⟨rfl,rfl,hk,rfl,heq⟩
  by_cases hlt:k<a.length
  ·have h1:=hcp k hlt
   have h2:=hcp' k (by omega)
   have e1:((k:Nat):Int).toNat=k:=by omega
   repeat' (first|refine Wa ?_|(refine Wc ⟨?_,?_⟩<;>first|intro h|exact ⟨⟩)|refine Wr ?_|fail)
   refine Dz _ ?_
   all_goals refine Dt [0,1,2] ?_
   all_goals (first|refine T1 3 h1 ?_|refine T1 3 h2 ?_|refine Dt [3] ?_)
   all_goals refine Dt [4,5,6] ?_
   all_goals (first|refine T1 7 h1 ?_|refine T1 7 h2 ?_|refine Dt [7] ?_)
   all_goals refine Dt [8] ?_
   all_goals refine Dd ?_
   repeat' (first|refine Wa ?_|(refine Wc ⟨?_,?_⟩<;>first|intro h|exact ⟨⟩)|refine Wr ?_|fail)
   ·refine Vr ?_
    refine ⟨?_,rfl⟩
    rw [decide_eq_false]
    rintro rfl
    exact h rfl
   ·refine v_againI (k+1) rfl ⟨rfl,rfl,by omega,rfl,fun i hi1 hi2 hi=>?_⟩ (by omega)
    by_cases e:i=k
    ·subst e
     first|exact h|exact Classical.not_not.1 h
    ·exact heq i hi1 hi2 (by omega)
  ·repeat' (first|refine Wa ?_|(refine Wc ⟨?_,?_⟩<;>first|intro h|exact ⟨⟩)|refine Wr ?_|fail)
   refine Vr ?_
   refine ⟨?_,rfl⟩
   rw [decide_eq_true (List.ext_getElem hln fun i h h'=>heq i h h' (by omega))]
 ·repeat' (first|refine Wa ?_|(refine Wc ⟨?_,?_⟩<;>first|intro h|exact ⟨⟩)|refine Wr ?_|fail)
  refine Vr ?_
  refine ⟨?_,rfl⟩
  rw [decide_eq_false (fun e=>hln (congrArg List.length e))]
theorem refLog_s {G:GH}{l:List Ent}{sv:Value}(hs:Es G sv l) (hn:l.length≤200):Con Tryz.prog 8 #[sv] G [] (fun r G' μ'=>G'=G∧Grow 9 1 r (logB l).length ((logB l).map Value.string) μ'):=by
 obtain ⟨A,c,rfl,hlc,hcm,hsome,hcp,hcb,hcc,hok⟩:=esOpen hs
 clear hcb
 simp only [maxLen] at hcm
 have hz32:(ByteArray.mk #[32]).size=1:=rfl
 refine Con.thaw (Ψ:=fun r μ'=>Grow 9 1 r (logB l).length ((logB l).map Value.string) μ') ?_
 (refine v_enter Tryz.func8 rfl Tryz.ntmps8 rfl ?_;intro B _)
 repeat' (first|refine Wa ?_|(refine Wc ⟨?_,?_⟩<;>first|intro h|exact ⟨⟩)|refine Wr ?_|(refine Wb ?_;intro b)|fail)
 refine v_loopI (ι:=Nat) [4,0,3] (fun k us G' μ'=>G'=G∧k≤l.length∧∃ v,us=[Value.int .i64 (k:Nat),.slice A l.length c,v]∧Grow 9 1 v (logB (l.take k)).length ((logB (l.take k)).map Value.string) μ') (fun k=>l.length-k) rfl 0 ⟨rfl,by omega,_,rfl,Grow.nil _ 1⟩ ?_
 rintro k us G' μ' ⟨rfl,hk,v,rfl,hg⟩
 have e1:((k:Nat):Int).toNat=k:=by omega
 by_cases hlt:k<l.length
 ·have hix:=esCell hcp k hlt
  have hcx:=hcc k hlt
  have hxok:=hok k hlt
  have ht:=logB_take hlt
  have hlb:=logB_len (l.take k)
  rw [List.length_take] at hlb
  clear hcp hcc hok
  generalize l[k]=x at *
  generalize logB (l.take k)=wl at *
  have qc:=Con.just (refCmdCheck_s (G:=G') x.cmd hxok.2.2.2)
  obtain ⟨A2,c2,rfl,-,-⟩:=hg.shape
  obtain ⟨ix,rd,nd,cm⟩:=x
  simp only at qc hix hcx
  by_cases h0:cmdI cm=0
  ·rw [h0] at qc
   by_cases hr:1≤ix∧ix≤4294967296
   ·have hokl:okLine ⟨ix,rd,nd,cm⟩:=⟨h0,hr.1,hr.2⟩
    rw [if_pos hokl] at ht
    have hcl:=cmdL_len h0
    have hcs:=cmdB_size cm
    have hnl:=numB_len hr.2
    have qi:=refNumber_s (G:=G') (n:=ix) (by omega) (by omega)
    have qt:=refText_s (G:=G') h0
    have hlv:(numB ix.toNat++⟨#[32]⟩)++cmdB cm=lineB ⟨ix,rd,nd,cm⟩:=by
     apply ba_ext
     show _=Lib.decDigits ix.toNat++32::cmdL cm
     simp [numB_list,cmdB_list]
    generalize lineB ⟨ix,rd,nd,cm⟩=lb at *
    generalize cmdB cm=cb at *
    generalize numB ix.toNat=nb at *
    repeat' (first|refine Wa ?_|(refine Wc ⟨?_,?_⟩<;>first|intro h|exact ⟨⟩)|apply v_read;(case hop=>first|apply r_load1;rfl;exact Cell.frozen hix|apply r_loadN;rfl;exact CellsAt.frozen hcx;rfl);(case hd=>rfl)|refine cJ qc ?_|refine Wr ?_|(refine Wb ?_;intro b)|fail)
    all_goals
     refine Dz [] ?_
     all_goals refine Dt [0,1,2] ?_
     all_goals (first|refine Tv 3 ?_ (hop:=by first|apply PureOp.read;apply p_addS rfl rfl (by first|omega|(rw [ByteArray.size_append];omega))|fail)|refine Dt [3] ?_)
     all_goals (first|refine Tv 4 ?_ (hop:=by first|apply PureOp.read;apply p_addS rfl rfl (by first|omega|(rw [ByteArray.size_append];omega))|fail)|refine Dt [4] ?_)
     all_goals (first|refine T1 5 hix ?_|refine TN 5 hcx ?_|refine Dt [5] ?_)
     all_goals refine Dt [8,9] ?_
     all_goals (first|refine Tv 10 ?_ (hop:=by first|apply PureOp.read;apply p_addS rfl rfl (by first|omega|(rw [ByteArray.size_append];omega))|fail)|refine Dt [10] ?_)
     all_goals (first|refine Tv 11 ?_ (hop:=by first|apply PureOp.read;apply p_addS rfl rfl (by first|omega|(rw [ByteArray.size_append];omega))|fail)|refine Dt [11] ?_)
     all_goals (first|refine T1 12 hix ?_|refine TN 12 hcx ?_|refine Dt [12] ?_)
     all_goals (first|refine DJ 6 (hs:=qi) ?_|refine DJ 6 (hs:=qt) ?_|apply d_buildSlice 6;(case hi=>rfl);(case hr=>kernel_rfl);(case hT=>infer_instance);(case hL=>infer_instance);(case hz|hl=>rfl);(case hv=>(simp only [List.map_cons,List.map_nil];repeat (first|with_reducible exact evs_nil|apply evs_cons;(case h1=>rfl))));(case hp=>(first|with_reducible exact pk_nil|apply pk_cons;(case hc|hs=>rfl);(case h=>(first|with_reducible exact pk_nil|apply pk_cons;(case hc|hs=>rfl);(case h=>(first|with_reducible exact pk_nil|apply pk_cons;(case hc|hs=>rfl);(case h=>(first|with_reducible exact pk_nil|apply pk_cons;(case hc|hs=>rfl);(case h=>(first|with_reducible exact pk_nil|apply pk_cons;(case hc|hs=>rfl);(case h=>(first|with_reducible exact pk_nil|apply pk_cons;(case hc|hs=>rfl);(case h=>(first|with_reducible exact pk_nil|apply pk_cons;(case hc|hs=>rfl);(case h=>(first|with_reducible exact pk_nil|apply pk_cons;(case hc|hs=>rfl);(case h=>(with_reducible exact pk_nil));(case he=>(first|((repeat (first|with_reducible exact ap_nil|apply ap_cons));done)|rfl))|rfl));(case he=>(first|((repeat (first|with_reducible exact ap_nil|apply ap_cons));done)|rfl))|rfl));(case he=>(first|((repeat (first|with_reducible exact ap_nil|apply ap_cons));done)|rfl))|rfl));(case he=>(first|((repeat (first|with_reducible exact ap_nil|apply ap_cons));done)|rfl))|rfl));(case he=>(first|((repeat (first|with_reducible exact ap_nil|apply ap_cons));done)|rfl))|rfl));(case he=>(first|((repeat (first|with_reducible exact ap_nil|apply ap_cons));done)|rfl))|rfl));(case he=>(first|((repeat (first|with_reducible exact ap_nil|apply ap_cons));done)|rfl))|rfl));(case he=>(first|((repeat (first|with_reducible exact ap_nil|apply ap_cons));done)|rfl))|rfl));(case hb|hd=>rfl);(case hν=>exact aE);intro b49|apply d_append 6 (hg:=hg) (q':=1) (us:=[Value.string ((nb++⟨#[32]⟩)++cb)]) (hp:=PickA.perm (by repeat (first|exact PickA.last|exact PickA.here _|exact PickA.one _|apply PickA.cons|apply PickA.app))) (hsrc:=Src.own (e:=9) (List.Mem.head _) rfl);(case hi=>rfl);(case hr=>kernel_rfl);(case hT=>infer_instance);(case hL=>infer_instance);(case hzs=>rfl);(case hsz=>omega);(case hs|hx=>rfl);(case hb=>omega);(case hb'=>simp only [maxLen];omega);(case hd=>rfl);(case h1=>first|rfl|assumption);(case hν=>exact aE);intro v3 n3 hg3;obtain ⟨A3,c3,rfl,-,-⟩:=hg3.shape|fail)
     all_goals (first|refine Tv 7 ?_ (hop:=by first|apply PureOp.read;apply p_addS rfl rfl (by first|omega|(rw [ByteArray.size_append];omega))|fail)|refine Dt [7] ?_)
     all_goals (first|refine DJ 13 (hs:=qi) ?_|refine DJ 13 (hs:=qt) ?_|apply d_buildSlice 13;(case hi=>rfl);(case hr=>kernel_rfl);(case hT=>infer_instance);(case hL=>infer_instance);(case hz|hl=>rfl);(case hv=>(simp only [List.map_cons,List.map_nil];repeat (first|with_reducible exact evs_nil|apply evs_cons;(case h1=>rfl))));(case hp=>(first|with_reducible exact pk_nil|apply pk_cons;(case hc|hs=>rfl);(case h=>(first|with_reducible exact pk_nil|apply pk_cons;(case hc|hs=>rfl);(case h=>(first|with_reducible exact pk_nil|apply pk_cons;(case hc|hs=>rfl);(case h=>(first|with_reducible exact pk_nil|apply pk_cons;(case hc|hs=>rfl);(case h=>(first|with_reducible exact pk_nil|apply pk_cons;(case hc|hs=>rfl);(case h=>(first|with_reducible exact pk_nil|apply pk_cons;(case hc|hs=>rfl);(case h=>(first|with_reducible exact pk_nil|apply pk_cons;(case hc|hs=>rfl);(case h=>(first|with_reducible exact pk_nil|apply pk_cons;(case hc|hs=>rfl);(case h=>(with_reducible exact pk_nil));(case he=>(first|((repeat (first|with_reducible exact ap_nil|apply ap_cons));done)|rfl))|rfl));(case he=>(first|((repeat (first|with_reducible exact ap_nil|apply ap_cons));done)|rfl))|rfl));(case he=>(first|((repeat (first|with_reducible exact ap_nil|apply ap_cons));done)|rfl))|rfl));(case he=>(first|((repeat (first|with_reducible exact ap_nil|apply ap_cons));done)|rfl))|rfl));(case he=>(first|((repeat (first|with_reducible exact ap_nil|apply ap_cons));done)|rfl))|rfl));(case he=>(first|((repeat (first|with_reducible exact ap_nil|apply ap_cons));done)|rfl))|rfl));(case he=>(first|((repeat (first|with_reducible exact ap_nil|apply ap_cons));done)|rfl))|rfl));(case he=>(first|((repeat (first|with_reducible exact ap_nil|apply ap_cons));done)|rfl))|rfl));(case hb|hd=>rfl);(case hν=>exact aE);intro b49|apply d_append 13 (hg:=hg) (q':=1) (us:=[Value.string ((nb++⟨#[32]⟩)++cb)]) (hp:=PickA.perm (by repeat (first|exact PickA.last|exact PickA.here _|exact PickA.one _|apply PickA.cons|apply PickA.app))) (hsrc:=Src.own (e:=9) (List.Mem.head _) rfl);(case hi=>rfl);(case hr=>kernel_rfl);(case hT=>infer_instance);(case hL=>infer_instance);(case hzs=>rfl);(case hsz=>omega);(case hs|hx=>rfl);(case hb=>omega);(case hb'=>simp only [maxLen];omega);(case hd=>rfl);(case h1=>first|rfl|assumption);(case hν=>exact aE);intro v3 n3 hg3;obtain ⟨A3,c3,rfl,-,-⟩:=hg3.shape|fail)
     all_goals (first|refine Tv 14 ?_ (hop:=by first|apply PureOp.read;apply p_addS rfl rfl (by first|omega|(rw [ByteArray.size_append];omega))|fail)|refine Dt [14] ?_)
     all_goals (first|refine DJ 15 (hs:=qi) ?_|refine DJ 15 (hs:=qt) ?_|apply d_buildSlice 15;(case hi=>rfl);(case hr=>kernel_rfl);(case hT=>infer_instance);(case hL=>infer_instance);(case hz|hl=>rfl);(case hv=>(simp only [List.map_cons,List.map_nil];repeat (first|with_reducible exact evs_nil|apply evs_cons;(case h1=>rfl))));(case hp=>(first|with_reducible exact pk_nil|apply pk_cons;(case hc|hs=>rfl);(case h=>(first|with_reducible exact pk_nil|apply pk_cons;(case hc|hs=>rfl);(case h=>(first|with_reducible exact pk_nil|apply pk_cons;(case hc|hs=>rfl);(case h=>(first|with_reducible exact pk_nil|apply pk_cons;(case hc|hs=>rfl);(case h=>(first|with_reducible exact pk_nil|apply pk_cons;(case hc|hs=>rfl);(case h=>(first|with_reducible exact pk_nil|apply pk_cons;(case hc|hs=>rfl);(case h=>(first|with_reducible exact pk_nil|apply pk_cons;(case hc|hs=>rfl);(case h=>(first|with_reducible exact pk_nil|apply pk_cons;(case hc|hs=>rfl);(case h=>(with_reducible exact pk_nil));(case he=>(first|((repeat (first|with_reducible exact ap_nil|apply ap_cons));done)|rfl))|rfl));(case he=>(first|((repeat (first|with_reducible exact ap_nil|apply ap_cons));done)|rfl))|rfl));(case he=>(first|((repeat (first|with_reducible exact ap_nil|apply ap_cons));done)|rfl))|rfl));(case he=>(first|((repeat (first|with_reducible exact ap_nil|apply ap_cons));done)|rfl))|rfl));(case he=>(first|((repeat (first|with_reducible exact ap_nil|apply ap_cons));done)|rfl))|rfl));(case he=>(first|((repeat (first|with_reducible exact ap_nil|apply ap_cons));done)|rfl))|rfl));(case he=>(first|((repeat (first|with_reducible exact ap_nil|apply ap_cons));done)|rfl))|rfl));(case he=>(first|((repeat (first|with_reducible exact ap_nil|apply ap_cons));done)|rfl))|rfl));(case hb|hd=>rfl);(case hν=>exact aE);intro b49|apply d_append 15 (hg:=hg) (q':=1) (us:=[Value.string ((nb++⟨#[32]⟩)++cb)]) (hp:=PickA.perm (by repeat (first|exact PickA.last|exact PickA.here _|exact PickA.one _|apply PickA.cons|apply PickA.app))) (hsrc:=Src.own (e:=9) (List.Mem.head _) rfl);(case hi=>rfl);(case hr=>kernel_rfl);(case hT=>infer_instance);(case hL=>infer_instance);(case hzs=>rfl);(case hsz=>omega);(case hs|hx=>rfl);(case hb=>omega);(case hb'=>simp only [maxLen];omega);(case hd=>rfl);(case h1=>first|rfl|assumption);(case hν=>exact aE);intro v3 n3 hg3;obtain ⟨A3,c3,rfl,-,-⟩:=hg3.shape|fail)
     all_goals (first|refine DJ 16 (hs:=qi) ?_|refine DJ 16 (hs:=qt) ?_|apply d_buildSlice 16;(case hi=>rfl);(case hr=>kernel_rfl);(case hT=>infer_instance);(case hL=>infer_instance);(case hz|hl=>rfl);(case hv=>(simp only [List.map_cons,List.map_nil];repeat (first|with_reducible exact evs_nil|apply evs_cons;(case h1=>rfl))));(case hp=>(first|with_reducible exact pk_nil|apply pk_cons;(case hc|hs=>rfl);(case h=>(first|with_reducible exact pk_nil|apply pk_cons;(case hc|hs=>rfl);(case h=>(first|with_reducible exact pk_nil|apply pk_cons;(case hc|hs=>rfl);(case h=>(first|with_reducible exact pk_nil|apply pk_cons;(case hc|hs=>rfl);(case h=>(first|with_reducible exact pk_nil|apply pk_cons;(case hc|hs=>rfl);(case h=>(first|with_reducible exact pk_nil|apply pk_cons;(case hc|hs=>rfl);(case h=>(first|with_reducible exact pk_nil|apply pk_cons;(case hc|hs=>rfl);(case h=>(first|with_reducible exact pk_nil|apply pk_cons;(case hc|hs=>rfl);(case h=>(with_reducible exact pk_nil));(case he=>(first|((repeat (first|with_reducible exact ap_nil|apply ap_cons));done)|rfl))|rfl));(case he=>(first|((repeat (first|with_reducible exact ap_nil|apply ap_cons));done)|rfl))|rfl));(case he=>(first|((repeat (first|with_reducible exact ap_nil|apply ap_cons));done)|rfl))|rfl));(case he=>(first|((repeat (first|with_reducible exact ap_nil|apply ap_cons));done)|rfl))|rfl));(case he=>(first|((repeat (first|with_reducible exact ap_nil|apply ap_cons));done)|rfl))|rfl));(case he=>(first|((repeat (first|with_reducible exact ap_nil|apply ap_cons));done)|rfl))|rfl));(case he=>(first|((repeat (first|with_reducible exact ap_nil|apply ap_cons));done)|rfl))|rfl));(case he=>(first|((repeat (first|with_reducible exact ap_nil|apply ap_cons));done)|rfl))|rfl));(case hb|hd=>rfl);(case hν=>exact aE);intro b49|apply d_append 16 (hg:=hg) (q':=1) (us:=[Value.string ((nb++⟨#[32]⟩)++cb)]) (hp:=PickA.perm (by repeat (first|exact PickA.last|exact PickA.here _|exact PickA.one _|apply PickA.cons|apply PickA.app))) (hsrc:=Src.own (e:=9) (List.Mem.head _) rfl);(case hi=>rfl);(case hr=>kernel_rfl);(case hT=>infer_instance);(case hL=>infer_instance);(case hzs=>rfl);(case hsz=>omega);(case hs|hx=>rfl);(case hb=>omega);(case hb'=>simp only [maxLen];omega);(case hd=>rfl);(case h1=>first|rfl|assumption);(case hν=>exact aE);intro v3 n3 hg3;obtain ⟨A3,c3,rfl,-,-⟩:=hg3.shape|fail)
     all_goals refine Dt [17] ?_
     all_goals refine Dd ?_
    repeat' (first|refine Wa ?_|(refine Wc ⟨?_,?_⟩<;>first|intro h|exact ⟨⟩)|refine Wr ?_|(refine Wb ?_;intro b)|fail)
    all_goals
     (refine v_drop (ν:=n3) (List.sublist_append_left _ _) ?_
      refine v_againI (k+1) rfl ⟨rfl,by omega,_,rfl,?_⟩ (by omega)
      rw [ht,List.length_append,List.map_append,← hlv]
      exact hg3)
   ·rw [if_neg (fun h=>hr ⟨h.2.1,h.2.2⟩),List.append_nil] at ht
    repeat' (first|refine Wa ?_|(refine Wc ⟨?_,?_⟩<;>first|intro h|exact ⟨⟩)|apply v_read;(case hop=>first|apply r_load1;rfl;exact Cell.frozen hix|apply r_loadN;rfl;exact CellsAt.frozen hcx;rfl);(case hd=>rfl)|refine cJ qc ?_|refine Wr ?_|(refine Wb ?_;intro b)|fail)
    all_goals
     (refine v_againI (k+1) rfl ⟨rfl,by omega,_,rfl,?_⟩ (by omega)
      rw [ht]
      exact hg)
  ·rw [if_neg (fun h=>h0 h.1),List.append_nil] at ht
   generalize cmdI cm=e0 at *
   repeat' (first|refine Wa ?_|(refine Wc ⟨?_,?_⟩<;>first|intro h|exact ⟨⟩)|apply v_read;(case hop=>first|apply r_load1;rfl;exact Cell.frozen hix|apply r_loadN;rfl;exact CellsAt.frozen hcx;rfl);(case hd=>rfl)|refine cJ qc ?_|refine Wr ?_|(refine Wb ?_;intro b)|fail)
   all_goals
    (refine v_againI (k+1) rfl ⟨rfl,by omega,_,rfl,?_⟩ (by omega)
     rw [ht]
     exact hg)
 ·obtain rfl:k=l.length:=by omega
  rw [List.take_length] at hg
  obtain ⟨A2,c2,rfl,-,-⟩:=hg.shape
  repeat' (first|refine Wa ?_|(refine Wc ⟨?_,?_⟩<;>first|intro h|exact ⟨⟩)|refine Wr ?_|(refine Wb ?_;intro b)|fail)
  refine v_ret μ' (outsA1 rfl rfl) (List.Sublist.refl _) ?_
  exact hg
end Go.Proofs.YtnncjoooaknlmaaGreatDoor
/-
  report (layer 46), the walks: Node, Nodes, Calls and Sum of a cluster at its beginning.
-/
set_option maxHeartbeats 2000000
namespace Go.Proofs.YtnncjoooaknlmaaGreatDoor
open Go.Vx Go.ChangeShapes Go.WideShapes Go.ChangeAt Go.RowKit
theorem either_s (G:GH) (b:Bool) (x y:ByteArray):Con Tryz.prog 30 #[.bool b,.string x,.string y] G [] (Just (.string (if b then x else y)) G):=by
 cases b
 all_goals
  (refine v_enter Tryz.func30 rfl Tryz.ntmps30 rfl ?_;intro B _)
  repeat' (first|refine Wa ?_|(refine Wc ⟨?_,?_⟩<;>first|intro h|exact ⟨⟩)|fail)
  refine Vr ?_
  exact ⟨rfl,rfl,rfl⟩
theorem itoa1_s {G:GH}(hP:PowG G):Con Tryz.prog 27 #[.int .i64 1] G [] (Just (.string ⟨#[49]⟩) G):=by
 have q:=itoaN_s hP (n:=1) (by omega) (by omega)
 have e:numB (1:Int).toNat=⟨#[49]⟩:=by
  unfold numB
  rw [Lib.decDigits_one (by decide)]
  rfl
 rw [e] at q
 exact q
theorem itoa0_s {G:GH}(hP:PowG G):Con Tryz.prog 27 #[.int .i64 0] G [] (Just (.string ⟨#[48]⟩) G):=by
 have q:=itoaN_s hP (n:=0) (by omega) (by omega)
 have e:numB (0:Int).toNat=⟨#[48]⟩:=by
  unfold numB
  rw [Lib.decDigits_one (by decide)]
  rfl
 rw [e] at q
 exact q
abbrev wordsZ:List B8L:=[[49],[100,111,119,110],[48],[110,111,116],[105,110,100,101,120],[48],[97,99,116,105,118,101],[48],[102],[49],[119,104,121],[48]]
def lineZ:ByteArray:=⟨(joinL wordsZ).toArray⟩
theorem lineZ_size:lineZ.size=39:=rfl
theorem nodeZ_s {G:GH}(hP:PowG G) {cb bg lm:Nat}{A:Option Addr}{c:Nat}{ps:List Nat}{nodes:Int}{m:Im}{νn:OH}(hp:PtS G (.slice A ps.length c) ps) (hN:NewNds G nodes m ps νn) (hz:StZ m.st) (hc:CoZ m.confs) (h1:ps.length=1) (hi:m.index=0) (ha:m.active=0) :
 Con Tryz.prog 12 #[.pointer (some ⟨cb,0,none⟩),.int .i64 1] G ((cb,clO (clZ (.slice A ps.length c) bg lm))::νn) (Keeps (.string lineZ) G ((cb,clO (clZ (.slice A ps.length c) bg lm))::νn)):=by
 have q0:=clNodes_s (G:=G) (cb:=cb) (A:=A) (c:=c) (L:=[Value.pointer (some ⟨bg,0,none⟩),.int .i64 0,nilS,nilS,nilS,nilS,nilS,nilS,nilS,nilS,nilS,.map (some lm),.int .i64 0,.int .i64 0,.int .i64 0,.int .i64 0,.int .i64 0,.int .i64 0,.int .i64 0,.int .i64 0,.int .i64 0,.int .i64 0,.int .i64 0,.int .i64 0]) (ps:=ps)
 have qI:=clImage_s (cb:=cb) (L:=[Value.pointer (some ⟨bg,0,none⟩),.int .i64 0,nilS,nilS,nilS,nilS,nilS,nilS,nilS,nilS,nilS,.map (some lm),.int .i64 0,.int .i64 0,.int .i64 0,.int .i64 0,.int .i64 0,.int .i64 0,.int .i64 0,.int .i64 0,.int .i64 0,.int .i64 0,.int .i64 0,.int .i64 0]) hp hN hz hc (i:=0) (by omega) (by omega)
 apply Con.keeps
 (refine v_enter Tryz.func12 rfl Tryz.ntmps12 rfl ?_;intro B _)
 repeat' (first|refine Wa ?_|(refine Wc ⟨?_,?_⟩<;>first|intro h|exact ⟨⟩)|apply v_callK (hs:=q0) (μ2:=νn);(case ha=>rfl);(case hp=>exact List.Perm.refl _);(case hd=>rfl)|refine Wr ?_|(refine Wb ?_;intro b)|fail)
 refine v_call (μ1:=(cb,clO (clZ (.slice A ps.length c) bg lm))::νn) (μ2:=[]) rfl qI aV rfl ?_
 rintro _ G1 _ hle ⟨rfl,hr⟩
 rw [List.append_nil]
 obtain ⟨C1,cc1,A1,c1,A1',c1',rfl,hC1,hp1,hss1⟩:=id hr
 rw [hi,ha]
 have hp1:=hp.mono hle
 have hN1:=hN.imp fun i p ν h=>NewNd.up hle h
 have hP1:=hP.le hle
 have q1:=itoa1_s hP1
 have q2:=itoa0_s hP1
 have qU:=clUp_s (cb:=cb) (L:=[Value.pointer (some ⟨bg,0,none⟩),.int .i64 0,nilS,nilS,nilS,nilS,nilS,nilS,nilS,nilS,nilS,.map (some lm),.int .i64 0,.int .i64 0,.int .i64 0,.int .i64 0,.int .i64 0,.int .i64 0,.int .i64 0,.int .i64 0,.int .i64 0,.int .i64 0,.int .i64 0,.int .i64 0]) hp1 hN1 (i:=0) (by omega) (by omega)
 have qV:=clVersion_s (cb:=cb) (L:=[Value.pointer (some ⟨bg,0,none⟩),.int .i64 0,nilS,nilS,nilS,nilS,nilS,nilS,nilS,nilS,nilS,.map (some lm),.int .i64 0,.int .i64 0,.int .i64 0,.int .i64 0,.int .i64 0,.int .i64 0,.int .i64 0,.int .i64 0,.int .i64 0,.int .i64 0,.int .i64 0,.int .i64 0]) hp1 hN1 (i:=0) (by omega) (by omega)
 have qL:=clLeads_s (cb:=cb) (L:=[Value.pointer (some ⟨bg,0,none⟩),.int .i64 0,nilS,nilS,nilS,nilS,nilS,nilS,nilS,nilS,nilS,.map (some lm),.int .i64 0,.int .i64 0,.int .i64 0,.int .i64 0,.int .i64 0,.int .i64 0,.int .i64 0,.int .i64 0,.int .i64 0,.int .i64 0,.int .i64 0,.int .i64 0]) hp1 hN1 (i:=0) (by omega) (by omega)
 have qF:=clFormat_s (cb:=cb) (L:=[Value.pointer (some ⟨bg,0,none⟩),.int .i64 0,nilS,nilS,nilS,nilS,nilS,nilS,nilS,nilS,nilS,.map (some lm),.int .i64 0,.int .i64 0,.int .i64 0,.int .i64 0,.int .i64 0,.int .i64 0,.int .i64 0,.int .i64 0,.int .i64 0,.int .i64 0,.int .i64 0,.int .i64 0]) hp1 hN1 (i:=0) (by omega) (by omega)
 have qW:=clWhy_s (cb:=cb) (L:=[Value.pointer (some ⟨bg,0,none⟩),.int .i64 0,nilS,nilS,nilS,nilS,nilS,nilS,nilS,nilS,nilS,.map (some lm),.int .i64 0,.int .i64 0,.int .i64 0,.int .i64 0,.int .i64 0,.int .i64 0,.int .i64 0,.int .i64 0,.int .i64 0,.int .i64 0,.int .i64 0,.int .i64 0]) hp1 hN1 (i:=0) (by omega) (by omega)
 have qe:=either_s G1 false
 have ql:=fun (b:Nat)=>rline_s (G:=G1) (ws:=wordsZ) (v:=.slice (some ⟨b,0,none⟩) 12 12) (ν:=[(b,.cells (wordsZ.map strV).toArray 9 (0,0))]) (Grow.lit rfl (by simp only [maxLen];omega)) (by decide) (by decide)
 repeat' (first|(refine Wd 6 ?_;intro b6)|refine Wa ?_|(refine Wc ⟨?_,?_⟩<;>first|intro h|exact ⟨⟩)|refine Wr ?_|(refine Wb ?_;intro b)|fail)
 refine Dz [(b6,_)] ?_
 all_goals refine Dt [0,1,3,4,7,8,9,12,13,16,17] ?_
 all_goals (first|refine Tv 18 ?_ (hop:=by first|apply r_load1;rfl;(apply Cell.own;(case h=>exact aM);rfl)|fail)|refine Dt [18] ?_)
 all_goals refine Dt [20,21] ?_
 all_goals (first|refine Tv 22 ?_ (hop:=by first|apply r_load1;rfl;(apply Cell.own;(case h=>exact aM);rfl)|fail)|refine Dt [22] ?_)
 all_goals refine Dt [24,25,26,29,30,31] ?_
 all_goals (first|apply d_callJ0 2 (hs:=q1);(case hi=>rfl);(case hr=>kernel_rfl);(case ha|hx|hd=>rfl)|apply d_callJ0 2 (hs:=q2);(case hi=>rfl);(case hr=>kernel_rfl);(case ha|hx|hd=>rfl)|((apply d_callK 2 (hs:=qU) (μ2:=[(b6,_)]);(case hi=>rfl);(case hr=>kernel_rfl);(case ha=>rfl);(case hp=>exact List.perm_append_comm (l₁:=[(b6,_)]));(case hd=>rfl)))|((apply d_callK 2 (hs:=qV) (μ2:=[(b6,_)]);(case hi=>rfl);(case hr=>kernel_rfl);(case ha=>rfl);(case hp=>exact List.perm_append_comm (l₁:=[(b6,_)]));(case hd=>rfl)))|((apply d_callK 2 (hs:=qL) (μ2:=[(b6,_)]);(case hi=>rfl);(case hr=>kernel_rfl);(case ha=>rfl);(case hp=>exact List.perm_append_comm (l₁:=[(b6,_)]));(case hd=>rfl)))|((apply d_callK 2 (hs:=qF) (μ2:=[(b6,_)]);(case hi=>rfl);(case hr=>kernel_rfl);(case ha=>rfl);(case hp=>exact List.perm_append_comm (l₁:=[(b6,_)]));(case hd=>rfl)))|((apply d_callK 2 (hs:=qW) (μ2:=[(b6,_)]);(case hi=>rfl);(case hr=>kernel_rfl);(case ha=>rfl);(case hp=>exact List.perm_append_comm (l₁:=[(b6,_)]));(case hd=>rfl)))|refine DJ 2 (hs:=qe _ _) ?_|apply d_buildSlice 2;(case hi=>rfl);(case hr=>kernel_rfl);(case hT=>infer_instance);(case hL=>infer_instance);(case hz|hl=>rfl);(case hv=>(simp only [List.map_cons,List.map_nil];repeat (first|with_reducible exact evs_nil|apply evs_cons;(case h1=>rfl))));(case hp=>(first|with_reducible exact pk_nil|apply pk_cons;(case hc|hs=>rfl);(case h=>(first|with_reducible exact pk_nil|apply pk_cons;(case hc|hs=>rfl);(case h=>(first|with_reducible exact pk_nil|apply pk_cons;(case hc|hs=>rfl);(case h=>(first|with_reducible exact pk_nil|apply pk_cons;(case hc|hs=>rfl);(case h=>(first|with_reducible exact pk_nil|apply pk_cons;(case hc|hs=>rfl);(case h=>(first|with_reducible exact pk_nil|apply pk_cons;(case hc|hs=>rfl);(case h=>(first|with_reducible exact pk_nil|apply pk_cons;(case hc|hs=>rfl);(case h=>(first|with_reducible exact pk_nil|apply pk_cons;(case hc|hs=>rfl);(case h=>(with_reducible exact pk_nil));(case he=>(first|((repeat (first|with_reducible exact ap_nil|apply ap_cons));done)|rfl))|rfl));(case he=>(first|((repeat (first|with_reducible exact ap_nil|apply ap_cons));done)|rfl))|rfl));(case he=>(first|((repeat (first|with_reducible exact ap_nil|apply ap_cons));done)|rfl))|rfl));(case he=>(first|((repeat (first|with_reducible exact ap_nil|apply ap_cons));done)|rfl))|rfl));(case he=>(first|((repeat (first|with_reducible exact ap_nil|apply ap_cons));done)|rfl))|rfl));(case he=>(first|((repeat (first|with_reducible exact ap_nil|apply ap_cons));done)|rfl))|rfl));(case he=>(first|((repeat (first|with_reducible exact ap_nil|apply ap_cons));done)|rfl))|rfl));(case he=>(first|((repeat (first|with_reducible exact ap_nil|apply ap_cons));done)|rfl))|rfl));(case hb|hd=>rfl);(case hν=>exact aE);intro b52|refine DK 2 (hs:=(ql b52)) ?_|fail)
 all_goals (first|apply d_callJ0 5 (hs:=q1);(case hi=>rfl);(case hr=>kernel_rfl);(case ha|hx|hd=>rfl)|apply d_callJ0 5 (hs:=q2);(case hi=>rfl);(case hr=>kernel_rfl);(case ha|hx|hd=>rfl)|((apply d_callK 5 (hs:=qU) (μ2:=[(b6,_)]);(case hi=>rfl);(case hr=>kernel_rfl);(case ha=>rfl);(case hp=>exact List.perm_append_comm (l₁:=[(b6,_)]));(case hd=>rfl)))|((apply d_callK 5 (hs:=qV) (μ2:=[(b6,_)]);(case hi=>rfl);(case hr=>kernel_rfl);(case ha=>rfl);(case hp=>exact List.perm_append_comm (l₁:=[(b6,_)]));(case hd=>rfl)))|((apply d_callK 5 (hs:=qL) (μ2:=[(b6,_)]);(case hi=>rfl);(case hr=>kernel_rfl);(case ha=>rfl);(case hp=>exact List.perm_append_comm (l₁:=[(b6,_)]));(case hd=>rfl)))|((apply d_callK 5 (hs:=qF) (μ2:=[(b6,_)]);(case hi=>rfl);(case hr=>kernel_rfl);(case ha=>rfl);(case hp=>exact List.perm_append_comm (l₁:=[(b6,_)]));(case hd=>rfl)))|((apply d_callK 5 (hs:=qW) (μ2:=[(b6,_)]);(case hi=>rfl);(case hr=>kernel_rfl);(case ha=>rfl);(case hp=>exact List.perm_append_comm (l₁:=[(b6,_)]));(case hd=>rfl)))|refine DJ 5 (hs:=qe _ _) ?_|apply d_buildSlice 5;(case hi=>rfl);(case hr=>kernel_rfl);(case hT=>infer_instance);(case hL=>infer_instance);(case hz|hl=>rfl);(case hv=>(simp only [List.map_cons,List.map_nil];repeat (first|with_reducible exact evs_nil|apply evs_cons;(case h1=>rfl))));(case hp=>(first|with_reducible exact pk_nil|apply pk_cons;(case hc|hs=>rfl);(case h=>(first|with_reducible exact pk_nil|apply pk_cons;(case hc|hs=>rfl);(case h=>(first|with_reducible exact pk_nil|apply pk_cons;(case hc|hs=>rfl);(case h=>(first|with_reducible exact pk_nil|apply pk_cons;(case hc|hs=>rfl);(case h=>(first|with_reducible exact pk_nil|apply pk_cons;(case hc|hs=>rfl);(case h=>(first|with_reducible exact pk_nil|apply pk_cons;(case hc|hs=>rfl);(case h=>(first|with_reducible exact pk_nil|apply pk_cons;(case hc|hs=>rfl);(case h=>(first|with_reducible exact pk_nil|apply pk_cons;(case hc|hs=>rfl);(case h=>(with_reducible exact pk_nil));(case he=>(first|((repeat (first|with_reducible exact ap_nil|apply ap_cons));done)|rfl))|rfl));(case he=>(first|((repeat (first|with_reducible exact ap_nil|apply ap_cons));done)|rfl))|rfl));(case he=>(first|((repeat (first|with_reducible exact ap_nil|apply ap_cons));done)|rfl))|rfl));(case he=>(first|((repeat (first|with_reducible exact ap_nil|apply ap_cons));done)|rfl))|rfl));(case he=>(first|((repeat (first|with_reducible exact ap_nil|apply ap_cons));done)|rfl))|rfl));(case he=>(first|((repeat (first|with_reducible exact ap_nil|apply ap_cons));done)|rfl))|rfl));(case he=>(first|((repeat (first|with_reducible exact ap_nil|apply ap_cons));done)|rfl))|rfl));(case he=>(first|((repeat (first|with_reducible exact ap_nil|apply ap_cons));done)|rfl))|rfl));(case hb|hd=>rfl);(case hν=>exact aE);intro b52|refine DK 5 (hs:=(ql b52)) ?_|fail)
 all_goals (first|apply d_callJ0 6 (hs:=q1);(case hi=>rfl);(case hr=>kernel_rfl);(case ha|hx|hd=>rfl)|apply d_callJ0 6 (hs:=q2);(case hi=>rfl);(case hr=>kernel_rfl);(case ha|hx|hd=>rfl)|((apply d_callK 6 (hs:=qU) (μ2:=[(b6,_)]);(case hi=>rfl);(case hr=>kernel_rfl);(case ha=>rfl);(case hp=>exact List.perm_append_comm (l₁:=[(b6,_)]));(case hd=>rfl)))|((apply d_callK 6 (hs:=qV) (μ2:=[(b6,_)]);(case hi=>rfl);(case hr=>kernel_rfl);(case ha=>rfl);(case hp=>exact List.perm_append_comm (l₁:=[(b6,_)]));(case hd=>rfl)))|((apply d_callK 6 (hs:=qL) (μ2:=[(b6,_)]);(case hi=>rfl);(case hr=>kernel_rfl);(case ha=>rfl);(case hp=>exact List.perm_append_comm (l₁:=[(b6,_)]));(case hd=>rfl)))|((apply d_callK 6 (hs:=qF) (μ2:=[(b6,_)]);(case hi=>rfl);(case hr=>kernel_rfl);(case ha=>rfl);(case hp=>exact List.perm_append_comm (l₁:=[(b6,_)]));(case hd=>rfl)))|((apply d_callK 6 (hs:=qW) (μ2:=[(b6,_)]);(case hi=>rfl);(case hr=>kernel_rfl);(case ha=>rfl);(case hp=>exact List.perm_append_comm (l₁:=[(b6,_)]));(case hd=>rfl)))|refine DJ 6 (hs:=qe _ _) ?_|apply d_buildSlice 6;(case hi=>rfl);(case hr=>kernel_rfl);(case hT=>infer_instance);(case hL=>infer_instance);(case hz|hl=>rfl);(case hv=>(simp only [List.map_cons,List.map_nil];repeat (first|with_reducible exact evs_nil|apply evs_cons;(case h1=>rfl))));(case hp=>(first|with_reducible exact pk_nil|apply pk_cons;(case hc|hs=>rfl);(case h=>(first|with_reducible exact pk_nil|apply pk_cons;(case hc|hs=>rfl);(case h=>(first|with_reducible exact pk_nil|apply pk_cons;(case hc|hs=>rfl);(case h=>(first|with_reducible exact pk_nil|apply pk_cons;(case hc|hs=>rfl);(case h=>(first|with_reducible exact pk_nil|apply pk_cons;(case hc|hs=>rfl);(case h=>(first|with_reducible exact pk_nil|apply pk_cons;(case hc|hs=>rfl);(case h=>(first|with_reducible exact pk_nil|apply pk_cons;(case hc|hs=>rfl);(case h=>(first|with_reducible exact pk_nil|apply pk_cons;(case hc|hs=>rfl);(case h=>(with_reducible exact pk_nil));(case he=>(first|((repeat (first|with_reducible exact ap_nil|apply ap_cons));done)|rfl))|rfl));(case he=>(first|((repeat (first|with_reducible exact ap_nil|apply ap_cons));done)|rfl))|rfl));(case he=>(first|((repeat (first|with_reducible exact ap_nil|apply ap_cons));done)|rfl))|rfl));(case he=>(first|((repeat (first|with_reducible exact ap_nil|apply ap_cons));done)|rfl))|rfl));(case he=>(first|((repeat (first|with_reducible exact ap_nil|apply ap_cons));done)|rfl))|rfl));(case he=>(first|((repeat (first|with_reducible exact ap_nil|apply ap_cons));done)|rfl))|rfl));(case he=>(first|((repeat (first|with_reducible exact ap_nil|apply ap_cons));done)|rfl))|rfl));(case he=>(first|((repeat (first|with_reducible exact ap_nil|apply ap_cons));done)|rfl))|rfl));(case hb|hd=>rfl);(case hν=>exact aE);intro b52|refine DK 6 (hs:=(ql b52)) ?_|fail)
 all_goals (first|apply d_callJ0 10 (hs:=q1);(case hi=>rfl);(case hr=>kernel_rfl);(case ha|hx|hd=>rfl)|apply d_callJ0 10 (hs:=q2);(case hi=>rfl);(case hr=>kernel_rfl);(case ha|hx|hd=>rfl)|((apply d_callK 10 (hs:=qU) (μ2:=[(b6,_)]);(case hi=>rfl);(case hr=>kernel_rfl);(case ha=>rfl);(case hp=>exact List.perm_append_comm (l₁:=[(b6,_)]));(case hd=>rfl)))|((apply d_callK 10 (hs:=qV) (μ2:=[(b6,_)]);(case hi=>rfl);(case hr=>kernel_rfl);(case ha=>rfl);(case hp=>exact List.perm_append_comm (l₁:=[(b6,_)]));(case hd=>rfl)))|((apply d_callK 10 (hs:=qL) (μ2:=[(b6,_)]);(case hi=>rfl);(case hr=>kernel_rfl);(case ha=>rfl);(case hp=>exact List.perm_append_comm (l₁:=[(b6,_)]));(case hd=>rfl)))|((apply d_callK 10 (hs:=qF) (μ2:=[(b6,_)]);(case hi=>rfl);(case hr=>kernel_rfl);(case ha=>rfl);(case hp=>exact List.perm_append_comm (l₁:=[(b6,_)]));(case hd=>rfl)))|((apply d_callK 10 (hs:=qW) (μ2:=[(b6,_)]);(case hi=>rfl);(case hr=>kernel_rfl);(case ha=>rfl);(case hp=>exact List.perm_append_comm (l₁:=[(b6,_)]));(case hd=>rfl)))|refine DJ 10 (hs:=qe _ _) ?_|apply d_buildSlice 10;(case hi=>rfl);(case hr=>kernel_rfl);(case hT=>infer_instance);(case hL=>infer_instance);(case hz|hl=>rfl);(case hv=>(simp only [List.map_cons,List.map_nil];repeat (first|with_reducible exact evs_nil|apply evs_cons;(case h1=>rfl))));(case hp=>(first|with_reducible exact pk_nil|apply pk_cons;(case hc|hs=>rfl);(case h=>(first|with_reducible exact pk_nil|apply pk_cons;(case hc|hs=>rfl);(case h=>(first|with_reducible exact pk_nil|apply pk_cons;(case hc|hs=>rfl);(case h=>(first|with_reducible exact pk_nil|apply pk_cons;(case hc|hs=>rfl);(case h=>(first|with_reducible exact pk_nil|apply pk_cons;(case hc|hs=>rfl);(case h=>(first|with_reducible exact pk_nil|apply pk_cons;(case hc|hs=>rfl);(case h=>(first|with_reducible exact pk_nil|apply pk_cons;(case hc|hs=>rfl);(case h=>(first|with_reducible exact pk_nil|apply pk_cons;(case hc|hs=>rfl);(case h=>(with_reducible exact pk_nil));(case he=>(first|((repeat (first|with_reducible exact ap_nil|apply ap_cons));done)|rfl))|rfl));(case he=>(first|((repeat (first|with_reducible exact ap_nil|apply ap_cons));done)|rfl))|rfl));(case he=>(first|((repeat (first|with_reducible exact ap_nil|apply ap_cons));done)|rfl))|rfl));(case he=>(first|((repeat (first|with_reducible exact ap_nil|apply ap_cons));done)|rfl))|rfl));(case he=>(first|((repeat (first|with_reducible exact ap_nil|apply ap_cons));done)|rfl))|rfl));(case he=>(first|((repeat (first|with_reducible exact ap_nil|apply ap_cons));done)|rfl))|rfl));(case he=>(first|((repeat (first|with_reducible exact ap_nil|apply ap_cons));done)|rfl))|rfl));(case he=>(first|((repeat (first|with_reducible exact ap_nil|apply ap_cons));done)|rfl))|rfl));(case hb|hd=>rfl);(case hν=>exact aE);intro b52|refine DK 10 (hs:=(ql b52)) ?_|fail)
 all_goals (first|apply d_callJ0 11 (hs:=q1);(case hi=>rfl);(case hr=>kernel_rfl);(case ha|hx|hd=>rfl)|apply d_callJ0 11 (hs:=q2);(case hi=>rfl);(case hr=>kernel_rfl);(case ha|hx|hd=>rfl)|((apply d_callK 11 (hs:=qU) (μ2:=[(b6,_)]);(case hi=>rfl);(case hr=>kernel_rfl);(case ha=>rfl);(case hp=>exact List.perm_append_comm (l₁:=[(b6,_)]));(case hd=>rfl)))|((apply d_callK 11 (hs:=qV) (μ2:=[(b6,_)]);(case hi=>rfl);(case hr=>kernel_rfl);(case ha=>rfl);(case hp=>exact List.perm_append_comm (l₁:=[(b6,_)]));(case hd=>rfl)))|((apply d_callK 11 (hs:=qL) (μ2:=[(b6,_)]);(case hi=>rfl);(case hr=>kernel_rfl);(case ha=>rfl);(case hp=>exact List.perm_append_comm (l₁:=[(b6,_)]));(case hd=>rfl)))|((apply d_callK 11 (hs:=qF) (μ2:=[(b6,_)]);(case hi=>rfl);(case hr=>kernel_rfl);(case ha=>rfl);(case hp=>exact List.perm_append_comm (l₁:=[(b6,_)]));(case hd=>rfl)))|((apply d_callK 11 (hs:=qW) (μ2:=[(b6,_)]);(case hi=>rfl);(case hr=>kernel_rfl);(case ha=>rfl);(case hp=>exact List.perm_append_comm (l₁:=[(b6,_)]));(case hd=>rfl)))|refine DJ 11 (hs:=qe _ _) ?_|apply d_buildSlice 11;(case hi=>rfl);(case hr=>kernel_rfl);(case hT=>infer_instance);(case hL=>infer_instance);(case hz|hl=>rfl);(case hv=>(simp only [List.map_cons,List.map_nil];repeat (first|with_reducible exact evs_nil|apply evs_cons;(case h1=>rfl))));(case hp=>(first|with_reducible exact pk_nil|apply pk_cons;(case hc|hs=>rfl);(case h=>(first|with_reducible exact pk_nil|apply pk_cons;(case hc|hs=>rfl);(case h=>(first|with_reducible exact pk_nil|apply pk_cons;(case hc|hs=>rfl);(case h=>(first|with_reducible exact pk_nil|apply pk_cons;(case hc|hs=>rfl);(case h=>(first|with_reducible exact pk_nil|apply pk_cons;(case hc|hs=>rfl);(case h=>(first|with_reducible exact pk_nil|apply pk_cons;(case hc|hs=>rfl);(case h=>(first|with_reducible exact pk_nil|apply pk_cons;(case hc|hs=>rfl);(case h=>(first|with_reducible exact pk_nil|apply pk_cons;(case hc|hs=>rfl);(case h=>(with_reducible exact pk_nil));(case he=>(first|((repeat (first|with_reducible exact ap_nil|apply ap_cons));done)|rfl))|rfl));(case he=>(first|((repeat (first|with_reducible exact ap_nil|apply ap_cons));done)|rfl))|rfl));(case he=>(first|((repeat (first|with_reducible exact ap_nil|apply ap_cons));done)|rfl))|rfl));(case he=>(first|((repeat (first|with_reducible exact ap_nil|apply ap_cons));done)|rfl))|rfl));(case he=>(first|((repeat (first|with_reducible exact ap_nil|apply ap_cons));done)|rfl))|rfl));(case he=>(first|((repeat (first|with_reducible exact ap_nil|apply ap_cons));done)|rfl))|rfl));(case he=>(first|((repeat (first|with_reducible exact ap_nil|apply ap_cons));done)|rfl))|rfl));(case he=>(first|((repeat (first|with_reducible exact ap_nil|apply ap_cons));done)|rfl))|rfl));(case hb|hd=>rfl);(case hν=>exact aE);intro b52|refine DK 11 (hs:=(ql b52)) ?_|fail)
 all_goals (first|apply d_callJ0 14 (hs:=q1);(case hi=>rfl);(case hr=>kernel_rfl);(case ha|hx|hd=>rfl)|apply d_callJ0 14 (hs:=q2);(case hi=>rfl);(case hr=>kernel_rfl);(case ha|hx|hd=>rfl)|((apply d_callK 14 (hs:=qU) (μ2:=[(b6,_)]);(case hi=>rfl);(case hr=>kernel_rfl);(case ha=>rfl);(case hp=>exact List.perm_append_comm (l₁:=[(b6,_)]));(case hd=>rfl)))|((apply d_callK 14 (hs:=qV) (μ2:=[(b6,_)]);(case hi=>rfl);(case hr=>kernel_rfl);(case ha=>rfl);(case hp=>exact List.perm_append_comm (l₁:=[(b6,_)]));(case hd=>rfl)))|((apply d_callK 14 (hs:=qL) (μ2:=[(b6,_)]);(case hi=>rfl);(case hr=>kernel_rfl);(case ha=>rfl);(case hp=>exact List.perm_append_comm (l₁:=[(b6,_)]));(case hd=>rfl)))|((apply d_callK 14 (hs:=qF) (μ2:=[(b6,_)]);(case hi=>rfl);(case hr=>kernel_rfl);(case ha=>rfl);(case hp=>exact List.perm_append_comm (l₁:=[(b6,_)]));(case hd=>rfl)))|((apply d_callK 14 (hs:=qW) (μ2:=[(b6,_)]);(case hi=>rfl);(case hr=>kernel_rfl);(case ha=>rfl);(case hp=>exact List.perm_append_comm (l₁:=[(b6,_)]));(case hd=>rfl)))|refine DJ 14 (hs:=qe _ _) ?_|apply d_buildSlice 14;(case hi=>rfl);(case hr=>kernel_rfl);(case hT=>infer_instance);(case hL=>infer_instance);(case hz|hl=>rfl);(case hv=>(simp only [List.map_cons,List.map_nil];repeat (first|with_reducible exact evs_nil|apply evs_cons;(case h1=>rfl))));(case hp=>(first|with_reducible exact pk_nil|apply pk_cons;(case hc|hs=>rfl);(case h=>(first|with_reducible exact pk_nil|apply pk_cons;(case hc|hs=>rfl);(case h=>(first|with_reducible exact pk_nil|apply pk_cons;(case hc|hs=>rfl);(case h=>(first|with_reducible exact pk_nil|apply pk_cons;(case hc|hs=>rfl);(case h=>(first|with_reducible exact pk_nil|apply pk_cons;(case hc|hs=>rfl);(case h=>(first|with_reducible exact pk_nil|apply pk_cons;(case hc|hs=>rfl);(case h=>(first|with_reducible exact pk_nil|apply pk_cons;(case hc|hs=>rfl);(case h=>(first|with_reducible exact pk_nil|apply pk_cons;(case hc|hs=>rfl);(case h=>(with_reducible exact pk_nil));(case he=>(first|((repeat (first|with_reducible exact ap_nil|apply ap_cons));done)|rfl))|rfl));(case he=>(first|((repeat (first|with_reducible exact ap_nil|apply ap_cons));done)|rfl))|rfl));(case he=>(first|((repeat (first|with_reducible exact ap_nil|apply ap_cons));done)|rfl))|rfl));(case he=>(first|((repeat (first|with_reducible exact ap_nil|apply ap_cons));done)|rfl))|rfl));(case he=>(first|((repeat (first|with_reducible exact ap_nil|apply ap_cons));done)|rfl))|rfl));(case he=>(first|((repeat (first|with_reducible exact ap_nil|apply ap_cons));done)|rfl))|rfl));(case he=>(first|((repeat (first|with_reducible exact ap_nil|apply ap_cons));done)|rfl))|rfl));(case he=>(first|((repeat (first|with_reducible exact ap_nil|apply ap_cons));done)|rfl))|rfl));(case hb|hd=>rfl);(case hν=>exact aE);intro b52|refine DK 14 (hs:=(ql b52)) ?_|fail)
 all_goals (first|apply d_callJ0 15 (hs:=q1);(case hi=>rfl);(case hr=>kernel_rfl);(case ha|hx|hd=>rfl)|apply d_callJ0 15 (hs:=q2);(case hi=>rfl);(case hr=>kernel_rfl);(case ha|hx|hd=>rfl)|((apply d_callK 15 (hs:=qU) (μ2:=[(b6,_)]);(case hi=>rfl);(case hr=>kernel_rfl);(case ha=>rfl);(case hp=>exact List.perm_append_comm (l₁:=[(b6,_)]));(case hd=>rfl)))|((apply d_callK 15 (hs:=qV) (μ2:=[(b6,_)]);(case hi=>rfl);(case hr=>kernel_rfl);(case ha=>rfl);(case hp=>exact List.perm_append_comm (l₁:=[(b6,_)]));(case hd=>rfl)))|((apply d_callK 15 (hs:=qL) (μ2:=[(b6,_)]);(case hi=>rfl);(case hr=>kernel_rfl);(case ha=>rfl);(case hp=>exact List.perm_append_comm (l₁:=[(b6,_)]));(case hd=>rfl)))|((apply d_callK 15 (hs:=qF) (μ2:=[(b6,_)]);(case hi=>rfl);(case hr=>kernel_rfl);(case ha=>rfl);(case hp=>exact List.perm_append_comm (l₁:=[(b6,_)]));(case hd=>rfl)))|((apply d_callK 15 (hs:=qW) (μ2:=[(b6,_)]);(case hi=>rfl);(case hr=>kernel_rfl);(case ha=>rfl);(case hp=>exact List.perm_append_comm (l₁:=[(b6,_)]));(case hd=>rfl)))|refine DJ 15 (hs:=qe _ _) ?_|apply d_buildSlice 15;(case hi=>rfl);(case hr=>kernel_rfl);(case hT=>infer_instance);(case hL=>infer_instance);(case hz|hl=>rfl);(case hv=>(simp only [List.map_cons,List.map_nil];repeat (first|with_reducible exact evs_nil|apply evs_cons;(case h1=>rfl))));(case hp=>(first|with_reducible exact pk_nil|apply pk_cons;(case hc|hs=>rfl);(case h=>(first|with_reducible exact pk_nil|apply pk_cons;(case hc|hs=>rfl);(case h=>(first|with_reducible exact pk_nil|apply pk_cons;(case hc|hs=>rfl);(case h=>(first|with_reducible exact pk_nil|apply pk_cons;(case hc|hs=>rfl);(case h=>(first|with_reducible exact pk_nil|apply pk_cons;(case hc|hs=>rfl);(case h=>(first|with_reducible exact pk_nil|apply pk_cons;(case hc|hs=>rfl);(case h=>(first|with_reducible exact pk_nil|apply pk_cons;(case hc|hs=>rfl);(case h=>(first|with_reducible exact pk_nil|apply pk_cons;(case hc|hs=>rfl);(case h=>(with_reducible exact pk_nil));(case he=>(first|((repeat (first|with_reducible exact ap_nil|apply ap_cons));done)|rfl))|rfl));(case he=>(first|((repeat (first|with_reducible exact ap_nil|apply ap_cons));done)|rfl))|rfl));(case he=>(first|((repeat (first|with_reducible exact ap_nil|apply ap_cons));done)|rfl))|rfl));(case he=>(first|((repeat (first|with_reducible exact ap_nil|apply ap_cons));done)|rfl))|rfl));(case he=>(first|((repeat (first|with_reducible exact ap_nil|apply ap_cons));done)|rfl))|rfl));(case he=>(first|((repeat (first|with_reducible exact ap_nil|apply ap_cons));done)|rfl))|rfl));(case he=>(first|((repeat (first|with_reducible exact ap_nil|apply ap_cons));done)|rfl))|rfl));(case he=>(first|((repeat (first|with_reducible exact ap_nil|apply ap_cons));done)|rfl))|rfl));(case hb|hd=>rfl);(case hν=>exact aE);intro b52|refine DK 15 (hs:=(ql b52)) ?_|fail)
 all_goals (first|apply d_callJ0 19 (hs:=q1);(case hi=>rfl);(case hr=>kernel_rfl);(case ha|hx|hd=>rfl)|apply d_callJ0 19 (hs:=q2);(case hi=>rfl);(case hr=>kernel_rfl);(case ha|hx|hd=>rfl)|((apply d_callK 19 (hs:=qU) (μ2:=[(b6,_)]);(case hi=>rfl);(case hr=>kernel_rfl);(case ha=>rfl);(case hp=>exact List.perm_append_comm (l₁:=[(b6,_)]));(case hd=>rfl)))|((apply d_callK 19 (hs:=qV) (μ2:=[(b6,_)]);(case hi=>rfl);(case hr=>kernel_rfl);(case ha=>rfl);(case hp=>exact List.perm_append_comm (l₁:=[(b6,_)]));(case hd=>rfl)))|((apply d_callK 19 (hs:=qL) (μ2:=[(b6,_)]);(case hi=>rfl);(case hr=>kernel_rfl);(case ha=>rfl);(case hp=>exact List.perm_append_comm (l₁:=[(b6,_)]));(case hd=>rfl)))|((apply d_callK 19 (hs:=qF) (μ2:=[(b6,_)]);(case hi=>rfl);(case hr=>kernel_rfl);(case ha=>rfl);(case hp=>exact List.perm_append_comm (l₁:=[(b6,_)]));(case hd=>rfl)))|((apply d_callK 19 (hs:=qW) (μ2:=[(b6,_)]);(case hi=>rfl);(case hr=>kernel_rfl);(case ha=>rfl);(case hp=>exact List.perm_append_comm (l₁:=[(b6,_)]));(case hd=>rfl)))|refine DJ 19 (hs:=qe _ _) ?_|apply d_buildSlice 19;(case hi=>rfl);(case hr=>kernel_rfl);(case hT=>infer_instance);(case hL=>infer_instance);(case hz|hl=>rfl);(case hv=>(simp only [List.map_cons,List.map_nil];repeat (first|with_reducible exact evs_nil|apply evs_cons;(case h1=>rfl))));(case hp=>(first|with_reducible exact pk_nil|apply pk_cons;(case hc|hs=>rfl);(case h=>(first|with_reducible exact pk_nil|apply pk_cons;(case hc|hs=>rfl);(case h=>(first|with_reducible exact pk_nil|apply pk_cons;(case hc|hs=>rfl);(case h=>(first|with_reducible exact pk_nil|apply pk_cons;(case hc|hs=>rfl);(case h=>(first|with_reducible exact pk_nil|apply pk_cons;(case hc|hs=>rfl);(case h=>(first|with_reducible exact pk_nil|apply pk_cons;(case hc|hs=>rfl);(case h=>(first|with_reducible exact pk_nil|apply pk_cons;(case hc|hs=>rfl);(case h=>(first|with_reducible exact pk_nil|apply pk_cons;(case hc|hs=>rfl);(case h=>(with_reducible exact pk_nil));(case he=>(first|((repeat (first|with_reducible exact ap_nil|apply ap_cons));done)|rfl))|rfl));(case he=>(first|((repeat (first|with_reducible exact ap_nil|apply ap_cons));done)|rfl))|rfl));(case he=>(first|((repeat (first|with_reducible exact ap_nil|apply ap_cons));done)|rfl))|rfl));(case he=>(first|((repeat (first|with_reducible exact ap_nil|apply ap_cons));done)|rfl))|rfl));(case he=>(first|((repeat (first|with_reducible exact ap_nil|apply ap_cons));done)|rfl))|rfl));(case he=>(first|((repeat (first|with_reducible exact ap_nil|apply ap_cons));done)|rfl))|rfl));(case he=>(first|((repeat (first|with_reducible exact ap_nil|apply ap_cons));done)|rfl))|rfl));(case he=>(first|((repeat (first|with_reducible exact ap_nil|apply ap_cons));done)|rfl))|rfl));(case hb|hd=>rfl);(case hν=>exact aE);intro b52|refine DK 19 (hs:=(ql b52)) ?_|fail)
 all_goals (first|apply d_callJ0 23 (hs:=q1);(case hi=>rfl);(case hr=>kernel_rfl);(case ha|hx|hd=>rfl)|apply d_callJ0 23 (hs:=q2);(case hi=>rfl);(case hr=>kernel_rfl);(case ha|hx|hd=>rfl)|((apply d_callK 23 (hs:=qU) (μ2:=[(b6,_)]);(case hi=>rfl);(case hr=>kernel_rfl);(case ha=>rfl);(case hp=>exact List.perm_append_comm (l₁:=[(b6,_)]));(case hd=>rfl)))|((apply d_callK 23 (hs:=qV) (μ2:=[(b6,_)]);(case hi=>rfl);(case hr=>kernel_rfl);(case ha=>rfl);(case hp=>exact List.perm_append_comm (l₁:=[(b6,_)]));(case hd=>rfl)))|((apply d_callK 23 (hs:=qL) (μ2:=[(b6,_)]);(case hi=>rfl);(case hr=>kernel_rfl);(case ha=>rfl);(case hp=>exact List.perm_append_comm (l₁:=[(b6,_)]));(case hd=>rfl)))|((apply d_callK 23 (hs:=qF) (μ2:=[(b6,_)]);(case hi=>rfl);(case hr=>kernel_rfl);(case ha=>rfl);(case hp=>exact List.perm_append_comm (l₁:=[(b6,_)]));(case hd=>rfl)))|((apply d_callK 23 (hs:=qW) (μ2:=[(b6,_)]);(case hi=>rfl);(case hr=>kernel_rfl);(case ha=>rfl);(case hp=>exact List.perm_append_comm (l₁:=[(b6,_)]));(case hd=>rfl)))|refine DJ 23 (hs:=qe _ _) ?_|apply d_buildSlice 23;(case hi=>rfl);(case hr=>kernel_rfl);(case hT=>infer_instance);(case hL=>infer_instance);(case hz|hl=>rfl);(case hv=>(simp only [List.map_cons,List.map_nil];repeat (first|with_reducible exact evs_nil|apply evs_cons;(case h1=>rfl))));(case hp=>(first|with_reducible exact pk_nil|apply pk_cons;(case hc|hs=>rfl);(case h=>(first|with_reducible exact pk_nil|apply pk_cons;(case hc|hs=>rfl);(case h=>(first|with_reducible exact pk_nil|apply pk_cons;(case hc|hs=>rfl);(case h=>(first|with_reducible exact pk_nil|apply pk_cons;(case hc|hs=>rfl);(case h=>(first|with_reducible exact pk_nil|apply pk_cons;(case hc|hs=>rfl);(case h=>(first|with_reducible exact pk_nil|apply pk_cons;(case hc|hs=>rfl);(case h=>(first|with_reducible exact pk_nil|apply pk_cons;(case hc|hs=>rfl);(case h=>(first|with_reducible exact pk_nil|apply pk_cons;(case hc|hs=>rfl);(case h=>(with_reducible exact pk_nil));(case he=>(first|((repeat (first|with_reducible exact ap_nil|apply ap_cons));done)|rfl))|rfl));(case he=>(first|((repeat (first|with_reducible exact ap_nil|apply ap_cons));done)|rfl))|rfl));(case he=>(first|((repeat (first|with_reducible exact ap_nil|apply ap_cons));done)|rfl))|rfl));(case he=>(first|((repeat (first|with_reducible exact ap_nil|apply ap_cons));done)|rfl))|rfl));(case he=>(first|((repeat (first|with_reducible exact ap_nil|apply ap_cons));done)|rfl))|rfl));(case he=>(first|((repeat (first|with_reducible exact ap_nil|apply ap_cons));done)|rfl))|rfl));(case he=>(first|((repeat (first|with_reducible exact ap_nil|apply ap_cons));done)|rfl))|rfl));(case he=>(first|((repeat (first|with_reducible exact ap_nil|apply ap_cons));done)|rfl))|rfl));(case hb|hd=>rfl);(case hν=>exact aE);intro b52|refine DK 23 (hs:=(ql b52)) ?_|fail)
 all_goals (first|apply d_callJ0 27 (hs:=q1);(case hi=>rfl);(case hr=>kernel_rfl);(case ha|hx|hd=>rfl)|apply d_callJ0 27 (hs:=q2);(case hi=>rfl);(case hr=>kernel_rfl);(case ha|hx|hd=>rfl)|((apply d_callK 27 (hs:=qU) (μ2:=[(b6,_)]);(case hi=>rfl);(case hr=>kernel_rfl);(case ha=>rfl);(case hp=>exact List.perm_append_comm (l₁:=[(b6,_)]));(case hd=>rfl)))|((apply d_callK 27 (hs:=qV) (μ2:=[(b6,_)]);(case hi=>rfl);(case hr=>kernel_rfl);(case ha=>rfl);(case hp=>exact List.perm_append_comm (l₁:=[(b6,_)]));(case hd=>rfl)))|((apply d_callK 27 (hs:=qL) (μ2:=[(b6,_)]);(case hi=>rfl);(case hr=>kernel_rfl);(case ha=>rfl);(case hp=>exact List.perm_append_comm (l₁:=[(b6,_)]));(case hd=>rfl)))|((apply d_callK 27 (hs:=qF) (μ2:=[(b6,_)]);(case hi=>rfl);(case hr=>kernel_rfl);(case ha=>rfl);(case hp=>exact List.perm_append_comm (l₁:=[(b6,_)]));(case hd=>rfl)))|((apply d_callK 27 (hs:=qW) (μ2:=[(b6,_)]);(case hi=>rfl);(case hr=>kernel_rfl);(case ha=>rfl);(case hp=>exact List.perm_append_comm (l₁:=[(b6,_)]));(case hd=>rfl)))|refine DJ 27 (hs:=qe _ _) ?_|apply d_buildSlice 27;(case hi=>rfl);(case hr=>kernel_rfl);(case hT=>infer_instance);(case hL=>infer_instance);(case hz|hl=>rfl);(case hv=>(simp only [List.map_cons,List.map_nil];repeat (first|with_reducible exact evs_nil|apply evs_cons;(case h1=>rfl))));(case hp=>(first|with_reducible exact pk_nil|apply pk_cons;(case hc|hs=>rfl);(case h=>(first|with_reducible exact pk_nil|apply pk_cons;(case hc|hs=>rfl);(case h=>(first|with_reducible exact pk_nil|apply pk_cons;(case hc|hs=>rfl);(case h=>(first|with_reducible exact pk_nil|apply pk_cons;(case hc|hs=>rfl);(case h=>(first|with_reducible exact pk_nil|apply pk_cons;(case hc|hs=>rfl);(case h=>(first|with_reducible exact pk_nil|apply pk_cons;(case hc|hs=>rfl);(case h=>(first|with_reducible exact pk_nil|apply pk_cons;(case hc|hs=>rfl);(case h=>(first|with_reducible exact pk_nil|apply pk_cons;(case hc|hs=>rfl);(case h=>(with_reducible exact pk_nil));(case he=>(first|((repeat (first|with_reducible exact ap_nil|apply ap_cons));done)|rfl))|rfl));(case he=>(first|((repeat (first|with_reducible exact ap_nil|apply ap_cons));done)|rfl))|rfl));(case he=>(first|((repeat (first|with_reducible exact ap_nil|apply ap_cons));done)|rfl))|rfl));(case he=>(first|((repeat (first|with_reducible exact ap_nil|apply ap_cons));done)|rfl))|rfl));(case he=>(first|((repeat (first|with_reducible exact ap_nil|apply ap_cons));done)|rfl))|rfl));(case he=>(first|((repeat (first|with_reducible exact ap_nil|apply ap_cons));done)|rfl))|rfl));(case he=>(first|((repeat (first|with_reducible exact ap_nil|apply ap_cons));done)|rfl))|rfl));(case he=>(first|((repeat (first|with_reducible exact ap_nil|apply ap_cons));done)|rfl))|rfl));(case hb|hd=>rfl);(case hν=>exact aE);intro b52|refine DK 27 (hs:=(ql b52)) ?_|fail)
 all_goals (first|apply d_callJ0 28 (hs:=q1);(case hi=>rfl);(case hr=>kernel_rfl);(case ha|hx|hd=>rfl)|apply d_callJ0 28 (hs:=q2);(case hi=>rfl);(case hr=>kernel_rfl);(case ha|hx|hd=>rfl)|((apply d_callK 28 (hs:=qU) (μ2:=[(b6,_)]);(case hi=>rfl);(case hr=>kernel_rfl);(case ha=>rfl);(case hp=>exact List.perm_append_comm (l₁:=[(b6,_)]));(case hd=>rfl)))|((apply d_callK 28 (hs:=qV) (μ2:=[(b6,_)]);(case hi=>rfl);(case hr=>kernel_rfl);(case ha=>rfl);(case hp=>exact List.perm_append_comm (l₁:=[(b6,_)]));(case hd=>rfl)))|((apply d_callK 28 (hs:=qL) (μ2:=[(b6,_)]);(case hi=>rfl);(case hr=>kernel_rfl);(case ha=>rfl);(case hp=>exact List.perm_append_comm (l₁:=[(b6,_)]));(case hd=>rfl)))|((apply d_callK 28 (hs:=qF) (μ2:=[(b6,_)]);(case hi=>rfl);(case hr=>kernel_rfl);(case ha=>rfl);(case hp=>exact List.perm_append_comm (l₁:=[(b6,_)]));(case hd=>rfl)))|((apply d_callK 28 (hs:=qW) (μ2:=[(b6,_)]);(case hi=>rfl);(case hr=>kernel_rfl);(case ha=>rfl);(case hp=>exact List.perm_append_comm (l₁:=[(b6,_)]));(case hd=>rfl)))|refine DJ 28 (hs:=qe _ _) ?_|apply d_buildSlice 28;(case hi=>rfl);(case hr=>kernel_rfl);(case hT=>infer_instance);(case hL=>infer_instance);(case hz|hl=>rfl);(case hv=>(simp only [List.map_cons,List.map_nil];repeat (first|with_reducible exact evs_nil|apply evs_cons;(case h1=>rfl))));(case hp=>(first|with_reducible exact pk_nil|apply pk_cons;(case hc|hs=>rfl);(case h=>(first|with_reducible exact pk_nil|apply pk_cons;(case hc|hs=>rfl);(case h=>(first|with_reducible exact pk_nil|apply pk_cons;(case hc|hs=>rfl);(case h=>(first|with_reducible exact pk_nil|apply pk_cons;(case hc|hs=>rfl);(case h=>(first|with_reducible exact pk_nil|apply pk_cons;(case hc|hs=>rfl);(case h=>(first|with_reducible exact pk_nil|apply pk_cons;(case hc|hs=>rfl);(case h=>(first|with_reducible exact pk_nil|apply pk_cons;(case hc|hs=>rfl);(case h=>(first|with_reducible exact pk_nil|apply pk_cons;(case hc|hs=>rfl);(case h=>(with_reducible exact pk_nil));(case he=>(first|((repeat (first|with_reducible exact ap_nil|apply ap_cons));done)|rfl))|rfl));(case he=>(first|((repeat (first|with_reducible exact ap_nil|apply ap_cons));done)|rfl))|rfl));(case he=>(first|((repeat (first|with_reducible exact ap_nil|apply ap_cons));done)|rfl))|rfl));(case he=>(first|((repeat (first|with_reducible exact ap_nil|apply ap_cons));done)|rfl))|rfl));(case he=>(first|((repeat (first|with_reducible exact ap_nil|apply ap_cons));done)|rfl))|rfl));(case he=>(first|((repeat (first|with_reducible exact ap_nil|apply ap_cons));done)|rfl))|rfl));(case he=>(first|((repeat (first|with_reducible exact ap_nil|apply ap_cons));done)|rfl))|rfl));(case he=>(first|((repeat (first|with_reducible exact ap_nil|apply ap_cons));done)|rfl))|rfl));(case hb|hd=>rfl);(case hν=>exact aE);intro b52|refine DK 28 (hs:=(ql b52)) ?_|fail)
 all_goals (first|apply d_callJ0 32 (hs:=q1);(case hi=>rfl);(case hr=>kernel_rfl);(case ha|hx|hd=>rfl)|apply d_callJ0 32 (hs:=q2);(case hi=>rfl);(case hr=>kernel_rfl);(case ha|hx|hd=>rfl)|((apply d_callK 32 (hs:=qU) (μ2:=[(b6,_)]);(case hi=>rfl);(case hr=>kernel_rfl);(case ha=>rfl);(case hp=>exact List.perm_append_comm (l₁:=[(b6,_)]));(case hd=>rfl)))|((apply d_callK 32 (hs:=qV) (μ2:=[(b6,_)]);(case hi=>rfl);(case hr=>kernel_rfl);(case ha=>rfl);(case hp=>exact List.perm_append_comm (l₁:=[(b6,_)]));(case hd=>rfl)))|((apply d_callK 32 (hs:=qL) (μ2:=[(b6,_)]);(case hi=>rfl);(case hr=>kernel_rfl);(case ha=>rfl);(case hp=>exact List.perm_append_comm (l₁:=[(b6,_)]));(case hd=>rfl)))|((apply d_callK 32 (hs:=qF) (μ2:=[(b6,_)]);(case hi=>rfl);(case hr=>kernel_rfl);(case ha=>rfl);(case hp=>exact List.perm_append_comm (l₁:=[(b6,_)]));(case hd=>rfl)))|((apply d_callK 32 (hs:=qW) (μ2:=[(b6,_)]);(case hi=>rfl);(case hr=>kernel_rfl);(case ha=>rfl);(case hp=>exact List.perm_append_comm (l₁:=[(b6,_)]));(case hd=>rfl)))|refine DJ 32 (hs:=qe _ _) ?_|apply d_buildSlice 32;(case hi=>rfl);(case hr=>kernel_rfl);(case hT=>infer_instance);(case hL=>infer_instance);(case hz|hl=>rfl);(case hv=>(simp only [List.map_cons,List.map_nil];repeat (first|with_reducible exact evs_nil|apply evs_cons;(case h1=>rfl))));(case hp=>(first|with_reducible exact pk_nil|apply pk_cons;(case hc|hs=>rfl);(case h=>(first|with_reducible exact pk_nil|apply pk_cons;(case hc|hs=>rfl);(case h=>(first|with_reducible exact pk_nil|apply pk_cons;(case hc|hs=>rfl);(case h=>(first|with_reducible exact pk_nil|apply pk_cons;(case hc|hs=>rfl);(case h=>(first|with_reducible exact pk_nil|apply pk_cons;(case hc|hs=>rfl);(case h=>(first|with_reducible exact pk_nil|apply pk_cons;(case hc|hs=>rfl);(case h=>(first|with_reducible exact pk_nil|apply pk_cons;(case hc|hs=>rfl);(case h=>(first|with_reducible exact pk_nil|apply pk_cons;(case hc|hs=>rfl);(case h=>(with_reducible exact pk_nil));(case he=>(first|((repeat (first|with_reducible exact ap_nil|apply ap_cons));done)|rfl))|rfl));(case he=>(first|((repeat (first|with_reducible exact ap_nil|apply ap_cons));done)|rfl))|rfl));(case he=>(first|((repeat (first|with_reducible exact ap_nil|apply ap_cons));done)|rfl))|rfl));(case he=>(first|((repeat (first|with_reducible exact ap_nil|apply ap_cons));done)|rfl))|rfl));(case he=>(first|((repeat (first|with_reducible exact ap_nil|apply ap_cons));done)|rfl))|rfl));(case he=>(first|((repeat (first|with_reducible exact ap_nil|apply ap_cons));done)|rfl))|rfl));(case he=>(first|((repeat (first|with_reducible exact ap_nil|apply ap_cons));done)|rfl))|rfl));(case he=>(first|((repeat (first|with_reducible exact ap_nil|apply ap_cons));done)|rfl))|rfl));(case hb|hd=>rfl);(case hν=>exact aE);intro b52|refine DK 32 (hs:=(ql b52)) ?_|fail)
 all_goals (first|apply d_callJ0 33 (hs:=q1);(case hi=>rfl);(case hr=>kernel_rfl);(case ha|hx|hd=>rfl)|apply d_callJ0 33 (hs:=q2);(case hi=>rfl);(case hr=>kernel_rfl);(case ha|hx|hd=>rfl)|((apply d_callK 33 (hs:=qU) (μ2:=[(b6,_)]);(case hi=>rfl);(case hr=>kernel_rfl);(case ha=>rfl);(case hp=>exact List.perm_append_comm (l₁:=[(b6,_)]));(case hd=>rfl)))|((apply d_callK 33 (hs:=qV) (μ2:=[(b6,_)]);(case hi=>rfl);(case hr=>kernel_rfl);(case ha=>rfl);(case hp=>exact List.perm_append_comm (l₁:=[(b6,_)]));(case hd=>rfl)))|((apply d_callK 33 (hs:=qL) (μ2:=[(b6,_)]);(case hi=>rfl);(case hr=>kernel_rfl);(case ha=>rfl);(case hp=>exact List.perm_append_comm (l₁:=[(b6,_)]));(case hd=>rfl)))|((apply d_callK 33 (hs:=qF) (μ2:=[(b6,_)]);(case hi=>rfl);(case hr=>kernel_rfl);(case ha=>rfl);(case hp=>exact List.perm_append_comm (l₁:=[(b6,_)]));(case hd=>rfl)))|((apply d_callK 33 (hs:=qW) (μ2:=[(b6,_)]);(case hi=>rfl);(case hr=>kernel_rfl);(case ha=>rfl);(case hp=>exact List.perm_append_comm (l₁:=[(b6,_)]));(case hd=>rfl)))|refine DJ 33 (hs:=qe _ _) ?_|apply d_buildSlice 33;(case hi=>rfl);(case hr=>kernel_rfl);(case hT=>infer_instance);(case hL=>infer_instance);(case hz|hl=>rfl);(case hv=>(simp only [List.map_cons,List.map_nil];repeat (first|with_reducible exact evs_nil|apply evs_cons;(case h1=>rfl))));(case hp=>(first|with_reducible exact pk_nil|apply pk_cons;(case hc|hs=>rfl);(case h=>(first|with_reducible exact pk_nil|apply pk_cons;(case hc|hs=>rfl);(case h=>(first|with_reducible exact pk_nil|apply pk_cons;(case hc|hs=>rfl);(case h=>(first|with_reducible exact pk_nil|apply pk_cons;(case hc|hs=>rfl);(case h=>(first|with_reducible exact pk_nil|apply pk_cons;(case hc|hs=>rfl);(case h=>(first|with_reducible exact pk_nil|apply pk_cons;(case hc|hs=>rfl);(case h=>(first|with_reducible exact pk_nil|apply pk_cons;(case hc|hs=>rfl);(case h=>(first|with_reducible exact pk_nil|apply pk_cons;(case hc|hs=>rfl);(case h=>(with_reducible exact pk_nil));(case he=>(first|((repeat (first|with_reducible exact ap_nil|apply ap_cons));done)|rfl))|rfl));(case he=>(first|((repeat (first|with_reducible exact ap_nil|apply ap_cons));done)|rfl))|rfl));(case he=>(first|((repeat (first|with_reducible exact ap_nil|apply ap_cons));done)|rfl))|rfl));(case he=>(first|((repeat (first|with_reducible exact ap_nil|apply ap_cons));done)|rfl))|rfl));(case he=>(first|((repeat (first|with_reducible exact ap_nil|apply ap_cons));done)|rfl))|rfl));(case he=>(first|((repeat (first|with_reducible exact ap_nil|apply ap_cons));done)|rfl))|rfl));(case he=>(first|((repeat (first|with_reducible exact ap_nil|apply ap_cons));done)|rfl))|rfl));(case he=>(first|((repeat (first|with_reducible exact ap_nil|apply ap_cons));done)|rfl))|rfl));(case hb|hd=>rfl);(case hν=>exact aE);intro b52|refine DK 33 (hs:=(ql b52)) ?_|fail)
 all_goals (first|apply d_callJ0 34 (hs:=q1);(case hi=>rfl);(case hr=>kernel_rfl);(case ha|hx|hd=>rfl)|apply d_callJ0 34 (hs:=q2);(case hi=>rfl);(case hr=>kernel_rfl);(case ha|hx|hd=>rfl)|((apply d_callK 34 (hs:=qU) (μ2:=[(b6,_)]);(case hi=>rfl);(case hr=>kernel_rfl);(case ha=>rfl);(case hp=>exact List.perm_append_comm (l₁:=[(b6,_)]));(case hd=>rfl)))|((apply d_callK 34 (hs:=qV) (μ2:=[(b6,_)]);(case hi=>rfl);(case hr=>kernel_rfl);(case ha=>rfl);(case hp=>exact List.perm_append_comm (l₁:=[(b6,_)]));(case hd=>rfl)))|((apply d_callK 34 (hs:=qL) (μ2:=[(b6,_)]);(case hi=>rfl);(case hr=>kernel_rfl);(case ha=>rfl);(case hp=>exact List.perm_append_comm (l₁:=[(b6,_)]));(case hd=>rfl)))|((apply d_callK 34 (hs:=qF) (μ2:=[(b6,_)]);(case hi=>rfl);(case hr=>kernel_rfl);(case ha=>rfl);(case hp=>exact List.perm_append_comm (l₁:=[(b6,_)]));(case hd=>rfl)))|((apply d_callK 34 (hs:=qW) (μ2:=[(b6,_)]);(case hi=>rfl);(case hr=>kernel_rfl);(case ha=>rfl);(case hp=>exact List.perm_append_comm (l₁:=[(b6,_)]));(case hd=>rfl)))|refine DJ 34 (hs:=qe _ _) ?_|apply d_buildSlice 34;(case hi=>rfl);(case hr=>kernel_rfl);(case hT=>infer_instance);(case hL=>infer_instance);(case hz|hl=>rfl);(case hv=>(simp only [List.map_cons,List.map_nil];repeat (first|with_reducible exact evs_nil|apply evs_cons;(case h1=>rfl))));(case hp=>(first|with_reducible exact pk_nil|apply pk_cons;(case hc|hs=>rfl);(case h=>(first|with_reducible exact pk_nil|apply pk_cons;(case hc|hs=>rfl);(case h=>(first|with_reducible exact pk_nil|apply pk_cons;(case hc|hs=>rfl);(case h=>(first|with_reducible exact pk_nil|apply pk_cons;(case hc|hs=>rfl);(case h=>(first|with_reducible exact pk_nil|apply pk_cons;(case hc|hs=>rfl);(case h=>(first|with_reducible exact pk_nil|apply pk_cons;(case hc|hs=>rfl);(case h=>(first|with_reducible exact pk_nil|apply pk_cons;(case hc|hs=>rfl);(case h=>(first|with_reducible exact pk_nil|apply pk_cons;(case hc|hs=>rfl);(case h=>(with_reducible exact pk_nil));(case he=>(first|((repeat (first|with_reducible exact ap_nil|apply ap_cons));done)|rfl))|rfl));(case he=>(first|((repeat (first|with_reducible exact ap_nil|apply ap_cons));done)|rfl))|rfl));(case he=>(first|((repeat (first|with_reducible exact ap_nil|apply ap_cons));done)|rfl))|rfl));(case he=>(first|((repeat (first|with_reducible exact ap_nil|apply ap_cons));done)|rfl))|rfl));(case he=>(first|((repeat (first|with_reducible exact ap_nil|apply ap_cons));done)|rfl))|rfl));(case he=>(first|((repeat (first|with_reducible exact ap_nil|apply ap_cons));done)|rfl))|rfl));(case he=>(first|((repeat (first|with_reducible exact ap_nil|apply ap_cons));done)|rfl))|rfl));(case he=>(first|((repeat (first|with_reducible exact ap_nil|apply ap_cons));done)|rfl))|rfl));(case hb|hd=>rfl);(case hν=>exact aE);intro b52|refine DK 34 (hs:=(ql b52)) ?_|fail)
 all_goals (first|apply d_callJ0 35 (hs:=q1);(case hi=>rfl);(case hr=>kernel_rfl);(case ha|hx|hd=>rfl)|apply d_callJ0 35 (hs:=q2);(case hi=>rfl);(case hr=>kernel_rfl);(case ha|hx|hd=>rfl)|((apply d_callK 35 (hs:=qU) (μ2:=[(b6,_)]);(case hi=>rfl);(case hr=>kernel_rfl);(case ha=>rfl);(case hp=>exact List.perm_append_comm (l₁:=[(b6,_)]));(case hd=>rfl)))|((apply d_callK 35 (hs:=qV) (μ2:=[(b6,_)]);(case hi=>rfl);(case hr=>kernel_rfl);(case ha=>rfl);(case hp=>exact List.perm_append_comm (l₁:=[(b6,_)]));(case hd=>rfl)))|((apply d_callK 35 (hs:=qL) (μ2:=[(b6,_)]);(case hi=>rfl);(case hr=>kernel_rfl);(case ha=>rfl);(case hp=>exact List.perm_append_comm (l₁:=[(b6,_)]));(case hd=>rfl)))|((apply d_callK 35 (hs:=qF) (μ2:=[(b6,_)]);(case hi=>rfl);(case hr=>kernel_rfl);(case ha=>rfl);(case hp=>exact List.perm_append_comm (l₁:=[(b6,_)]));(case hd=>rfl)))|((apply d_callK 35 (hs:=qW) (μ2:=[(b6,_)]);(case hi=>rfl);(case hr=>kernel_rfl);(case ha=>rfl);(case hp=>exact List.perm_append_comm (l₁:=[(b6,_)]));(case hd=>rfl)))|refine DJ 35 (hs:=qe _ _) ?_|apply d_buildSlice 35;(case hi=>rfl);(case hr=>kernel_rfl);(case hT=>infer_instance);(case hL=>infer_instance);(case hz|hl=>rfl);(case hv=>(simp only [List.map_cons,List.map_nil];repeat (first|with_reducible exact evs_nil|apply evs_cons;(case h1=>rfl))));(case hp=>(first|with_reducible exact pk_nil|apply pk_cons;(case hc|hs=>rfl);(case h=>(first|with_reducible exact pk_nil|apply pk_cons;(case hc|hs=>rfl);(case h=>(first|with_reducible exact pk_nil|apply pk_cons;(case hc|hs=>rfl);(case h=>(first|with_reducible exact pk_nil|apply pk_cons;(case hc|hs=>rfl);(case h=>(first|with_reducible exact pk_nil|apply pk_cons;(case hc|hs=>rfl);(case h=>(first|with_reducible exact pk_nil|apply pk_cons;(case hc|hs=>rfl);(case h=>(first|with_reducible exact pk_nil|apply pk_cons;(case hc|hs=>rfl);(case h=>(first|with_reducible exact pk_nil|apply pk_cons;(case hc|hs=>rfl);(case h=>(with_reducible exact pk_nil));(case he=>(first|((repeat (first|with_reducible exact ap_nil|apply ap_cons));done)|rfl))|rfl));(case he=>(first|((repeat (first|with_reducible exact ap_nil|apply ap_cons));done)|rfl))|rfl));(case he=>(first|((repeat (first|with_reducible exact ap_nil|apply ap_cons));done)|rfl))|rfl));(case he=>(first|((repeat (first|with_reducible exact ap_nil|apply ap_cons));done)|rfl))|rfl));(case he=>(first|((repeat (first|with_reducible exact ap_nil|apply ap_cons));done)|rfl))|rfl));(case he=>(first|((repeat (first|with_reducible exact ap_nil|apply ap_cons));done)|rfl))|rfl));(case he=>(first|((repeat (first|with_reducible exact ap_nil|apply ap_cons));done)|rfl))|rfl));(case he=>(first|((repeat (first|with_reducible exact ap_nil|apply ap_cons));done)|rfl))|rfl));(case hb|hd=>rfl);(case hν=>exact aE);intro b52|refine DK 35 (hs:=(ql b52)) ?_|fail)
 all_goals refine Dt [36] ?_
 all_goals refine Dd ?_
 all_goals repeat' (first|refine Wa ?_|(refine Wc ⟨?_,?_⟩<;>first|intro h|exact ⟨⟩)|refine Wr ?_|(refine Wb ?_;intro b)|fail)
 all_goals exact v_ret ((cb,clO (clZ (.slice A ps.length c) bg lm))::νn) (outsA1 rfl rfl) (List.Sublist.cons _ (List.Sublist.cons _ (List.Sublist.refl _))) ⟨rfl,rfl⟩
theorem calls0_s (G:GH):Con Tryz.prog 37 #[nilS] G [] (Just nilS G):=by
 apply Con.just
 (refine v_enter Tryz.func37 rfl Tryz.ntmps37 rfl ?_;intro B _)
 repeat' (first|refine Wa ?_|(refine Wc ⟨?_,?_⟩<;>first|intro h|exact ⟨⟩)|refine Wr ?_|(refine Wb ?_;intro b)|fail)
 refine v_loop [9,8,7,3] (fun us G' μ'=>G'=G∧us=[Value.int .i64 0,.int .i64 0,nilS,nilS]∧μ'=[]) (fun us=>0) rfl ⟨rfl,rfl,rfl⟩ ?_
 rintro us G' _ ⟨rfl,rfl,rfl⟩
 repeat' (first|refine Wa ?_|(refine Wc ⟨?_,?_⟩<;>first|intro h|exact ⟨⟩)|refine Wr ?_|(refine Wb ?_;intro b)|fail)
 refine Vr ?_
 exact ⟨rfl,rfl⟩
theorem log0_s (G:GH):Con Tryz.prog 17 #[nilS] G [] (Just nilS G):=by
 apply Con.just
 (refine v_enter Tryz.func17 rfl Tryz.ntmps17 rfl ?_;intro B _)
 repeat' (first|refine Wa ?_|(refine Wc ⟨?_,?_⟩<;>first|intro h|exact ⟨⟩)|refine Wr ?_|(refine Wb ?_;intro b)|fail)
 refine v_loop [9,8,7,3] (fun us G' μ'=>G'=G∧us=[Value.int .i64 0,.int .i64 0,nilS,nilS]∧μ'=[]) (fun us=>0) rfl ⟨rfl,rfl,rfl⟩ ?_
 rintro us G' _ ⟨rfl,rfl,rfl⟩
 repeat' (first|refine Wa ?_|(refine Wc ⟨?_,?_⟩<;>first|intro h|exact ⟨⟩)|refine Wr ?_|(refine Wb ?_;intro b)|fail)
 refine Vr ?_
 exact ⟨rfl,rfl⟩
theorem nodesZ_s {G:GH}(hP:PowG G) {cb bg lm:Nat}{A:Option Addr}{c:Nat}{ps:List Nat}{nodes:Int}{m:Im}{νn:OH}(hp:PtS G (.slice A ps.length c) ps) (hN:NewNds G nodes m ps νn) (hz:StZ m.st) (hc:CoZ m.confs) (h1:ps.length=1) (hi:m.index=0) (ha:m.active=0) :
 Con Tryz.prog 36 #[.pointer (some ⟨cb,0,none⟩)] G ((cb,clO (clZ (.slice A ps.length c) bg lm))::νn) (fun r G' μ'=>G'=G∧∃ ν',Grow 9 1 r 1 [Value.string lineZ] ν'∧μ'=ν'++(cb,clO (clZ (.slice A ps.length c) bg lm))::νn):=by
 have q:=nodeZ_s hP (cb:=cb) (bg:=bg) (lm:=lm) hp hN hz hc h1 hi ha
 have q0:=clNodes_s (G:=G) (cb:=cb) (A:=A) (c:=c) (L:=[Value.pointer (some ⟨bg,0,none⟩),.int .i64 0,nilS,nilS,nilS,nilS,nilS,nilS,nilS,nilS,nilS,.map (some lm),.int .i64 0,.int .i64 0,.int .i64 0,.int .i64 0,.int .i64 0,.int .i64 0,.int .i64 0,.int .i64 0,.int .i64 0,.int .i64 0,.int .i64 0,.int .i64 0]) (ps:=ps)
 refine Con.thaw (Ψ:=fun r μ'=>∃ ν',Grow 9 1 r 1 [Value.string lineZ] ν'∧μ'=ν'++(cb,clO (clZ (.slice A ps.length c) bg lm))::νn) ?_
 have hl:(ps.length:Int)=1:=by omega
 (refine v_enter Tryz.func36 rfl Tryz.ntmps36 rfl ?_;intro B _)
 repeat' (first|refine Wa ?_|(refine Wc ⟨?_,?_⟩<;>first|intro h|exact ⟨⟩)|apply v_callK (hs:=q0) (μ2:=νn);(case ha=>rfl);(case hp=>exact List.Perm.refl _);(case hd=>rfl)|(refine Wb ?_;intro b)|fail)
 rw [hl]
 refine v_loopI (ι:=Nat) [7,6,0,3] (fun k us G' μ'=>G'=G∧k≤1∧∃ v ν',us=[Value.int .i64 (k:Nat),.int .i64 1,.pointer (some ⟨cb,0,none⟩),v]∧Grow 9 1 v k (List.replicate k (Value.string lineZ)) ν'∧μ'=ν'++(cb,clO (clZ (.slice A ps.length c) bg lm))::νn) (fun k=>1-k) rfl 0 ⟨rfl,by omega,_,[],rfl,Grow.nil _ 1,rfl⟩ ?_
 rintro k us G' _ ⟨rfl,hk,v,ν',rfl,hg,rfl⟩
 obtain ⟨A2,c2,rfl,-,-⟩:=hg.shape
 obtain rfl|rfl:k=0∨k=1:=by omega
 ·repeat' (first|(refine Wd 15 ?_;intro b15)|refine Wa ?_|(refine Wc ⟨?_,?_⟩<;>first|intro h|exact ⟨⟩)|apply v_callK (hs:=q) (μ2:=ν');(case ha=>rfl);(case hp=>exact List.perm_append_comm);(case hd=>rfl)|apply v_append (hg:=hg) (m':=1) (us:=[Value.string lineZ]) (μr:=(b15,.cells [Value.string lineZ].toArray 9 (0,0))::(cb,clO (clZ (.slice A ps.length c) bg lm))::νn) (hp:=aV) (hsrc:=Src.own (e:=9) (b:=b15) (List.Mem.head _) rfl);(case hzs=>rfl);(case hsz=>omega);(case hs|hx=>rfl);(case hb=>omega);(case hb'=>simp only [maxLen];omega);(case hd|h1=>rfl);intro v3 n3 hg3;obtain ⟨A3,c3,rfl,-,-⟩:=hg3.shape|(refine Wb ?_;intro b)|fail)
  refine v_drop (ν:=n3++(cb,clO (clZ (.slice A ps.length c) bg lm))::νn) (List.Sublist.append_left (List.sublist_cons_self _ _) _) ?_
  exact v_againI 1 rfl ⟨rfl,by omega,_,n3,rfl,hg3,rfl⟩ (by omega)
 ·repeat' (first|refine Wa ?_|(refine Wc ⟨?_,?_⟩<;>first|intro h|exact ⟨⟩)|(refine Wb ?_;intro b)|fail)
  exact v_ret _ (outsA1 rfl rfl) (List.Sublist.refl _) ⟨ν',hg,rfl⟩
end Go.Proofs.YtnncjoooaknlmaaGreatDoor
/-
  report (layer 46), the walks: Sum of a cluster at its beginning; awake.
-/
set_option maxHeartbeats 2000000
namespace Go.Proofs.YtnncjoooaknlmaaGreatDoor
open Go.Vx Go.ChangeShapes Go.WideShapes Go.ChangeAt Go.RowKit
section
attribute [local semireducible] MoveOp
theorem m_strBytesB {P:Program}{ty t t' e:TypeId}{σ:Env}{G:GH}{μ:OH}{x:Operand}{u:ByteArray}[hS:Ty P t .string] [hT:Ty P t' (.slice e)] [hE:Ty P e (.int .u8)] (hu:u.size≤16777216) (hx:Env.ev σ x=some (.string u)) :
 MoveOp P (.convert t t' x) ty σ G μ (fun v G' μ'=>∃ b cap fr,v=.slice (some ⟨b,0,none⟩) u.size cap∧u.size≤cap∧cap≤maxLen∧G'=G∧μ'=(b,.cells (bytesRow u cap) e fr)::μ):=by
 intro dst pos af g ρ hρ w hw a K Q hK
 have hr:=run_bytes_of_string (P:=P) w t t' e u hS.h hT.h hE.h
 have hex:(execOp ρ ⟨dst,.convert t t' x,ty,pos,af,g⟩).run P w=.ok (.value (.slice (some ⟨w.heap.size,0,none⟩) u.size (grownCap w u.size 0 e)))
  (w.drew.alloc (.cells (bytesRow u (grownCap w u.size 0 e)) e ((bytesRow u (grownCap w u.size 0 e)).size,(bytesRow u (grownCap w u.size 0 e)).size+1))):=by
  simp [execOp,hρ _ _ hx,hr]
 rw [hex]
 have hst:=(Step.drew hw 1).trans (Step.alloc (Step.drew hw 1).mem (.cells (bytesRow u (grownCap w u.size 0 e)) e ((bytesRow u (grownCap w u.size 0 e)).size,(bytesRow u (grownCap w u.size 0 e)).size+1)))
 exact hK _ _ G _ hst ⟨_,_,_,rfl,grownCap_ge w u.size 0 e,grownCap_le_maxLen w u.size 0 e (by simp only [maxLen];omega),rfl,rfl⟩
end
theorem bytes_sl {G:GH}{b cap:Nat}{u:ByteArray}{e:TypeId}{fr:Nat×Nat}(hG:G b=some (.cells (bytesRow u cap) e fr)) (h1:u.size≤cap) (h2:cap≤maxLen):Sl G 1 (IntR .u8) (.slice (some ⟨b,0,none⟩) u.size cap) (u.data.toList.map fun c=>(c.toNat:Int)):=by
 have hl:(u.data.toList.map fun c=>(c.toNat:Int)).length=u.size:=by
  rw [List.length_map]
  exact Array.length_toList ..
 refine ⟨some ⟨b,0,none⟩,cap,by rw [hl],by rw [hl];exact h1,h2,fun _=>⟨_,rfl,fun i x hx=>⟨[.int .u8 x],rfl,⟨rfl,?_⟩,?_⟩⟩⟩
 ·rw [List.getElem?_map] at hx
  obtain ⟨c,-,rfl⟩:=Option.map_eq_some_iff.1 hx
  have:=c.toNat_lt
  simp [Lit.wf,IntKind.min,IntKind.max,IntKind.signed,IntKind.bits]
  omega
 ·have hi:i<u.size:=by
   have:=(List.getElem?_eq_some_iff.1 hx).1
   omega
  have hb:=bytesRow_at (cap:=cap) hi
  rw [List.getElem?_map,byt_toList u i hi] at hx
  intro j v hv
  cases j with
  | zero =>
   have hv2:v=.int .u8 x:=by simpa using hv.symm
   subst hv2
   have hx2:x=(byt u i:Nat):=by
    have:=Option.some.inj hx
    rw [← this]
    unfold byt
    rfl
   rw [Nat.mul_one,add_mk,add_mk,Nat.zero_add,Nat.add_zero,hx2]
   simp [GH.cell?,hG,hb]
  | succ j=>simp at hv
theorem sumZ_s {G:GH}(hP:PowG G) (hC:CrcG G) (hB:BruG G) {cb bg lm:Nat}{A:Option Addr}{c:Nat}{ps:List Nat}{nodes:Int}{m:Im}{νn:OH}(hp:PtS G (.slice A ps.length c) ps) (hN:NewNds G nodes m ps νn) (hz:StZ m.st) (hc:CoZ m.confs) (h1:ps.length=1) (hi:m.index=0) (ha:m.active=0) :
 Con Tryz.prog 13 #[.pointer (some ⟨cb,0,none⟩)] G ((cb,clO (clZ (.slice A ps.length c) bg lm))::(lm,.map #[] 0)::νn) (fun r G' μ'=>(∃ s:ByteArray,s.size=8∧r=.string s)∧μ'=[]):=by
 have q1:=nodesZ_s hP (cb:=cb) (bg:=bg) (lm:=lm) hp hN hz hc h1 hi ha
 have q2:=clCalls0_s (G:=G) (cb:=cb) (bg:=bg) (lm:=lm) (A:=A) (c:=c) (ps:=ps)
 have q3:=calls0_s G
 have q4:=clLog0_s (G:=G) (cb:=cb) (bg:=bg) (lm:=lm) (A:=A) (c:=c) (ps:=ps)
 have q5:=log0_s G
 have hz10:(ByteArray.mk #[10]).size=1:=rfl
 have hlz:=lineZ_size
 (refine v_enter Tryz.func13 rfl Tryz.ntmps13 rfl ?_;intro B _)
 repeat' (first|(refine Wd 3 ?_;intro wb)|refine Wa ?_|(refine Wc ⟨?_,?_⟩<;>first|intro h|exact ⟨⟩)|refine Wr ?_|(refine Wb ?_;intro b)|fail)
 refine v_call (μ1:=(cb,clO (clZ (.slice A ps.length c) bg lm))::νn) (μ2:=[(wb,_),(lm,.map #[] 0)]) rfl q1 aV rfl ?_
 rintro r1 G1 _ - ⟨hG1,ν9,hg9,rfl⟩
 subst G1
 obtain ⟨-,⟨-,h,-⟩|⟨b9,cap9,sp9,rfl,rfl,-,-,-⟩⟩:=hg9
 ·exact absurd h (by simp)
 refine v_perm (ν:=(b9,.cells ([Value.string lineZ]++sp9).toArray 9 (0,0))::(wb,bldO (.pointer none) (.slice none 0 0))::(cb,clO (clZ (.slice A ps.length c) bg lm))::(lm,.map #[] 0)::νn) aV ?_
 repeat' (first|apply v_pure;(case hop=>(apply p_buildArr (zs:=[nilS,nilS,nilS]) (cs:=[.slice (some ⟨b9,0,none⟩) 1 cap9,nilS,nilS]);(case hz=>rfl);(case hv=>(simp only [List.map_cons,List.map_nil];repeat (first|with_reducible exact evs_nil|apply evs_cons;(case h1=>rfl))));(case hb=>rfl)));(case hd=>rfl)|refine Wa ?_|(refine Wc ⟨?_,?_⟩<;>first|intro h|exact ⟨⟩)|apply v_callK (hs:=q2) (μ2:=(b9,_)::(wb,_)::(lm,.map #[] 0)::νn);(case ha=>rfl);(case hp=>exact aV);(case hd=>rfl)|refine cJ q3 ?_|apply v_callK (hs:=q4) (μ2:=(b9,_)::(wb,_)::νn);(case ha=>rfl);(case hp=>exact aV);(case hd=>rfl)|refine cJ q5 ?_|refine Wr ?_|(refine Wb ?_;intro b)|fail)
 refine v_drop (ν:=[(b9,.cells ([Value.string lineZ]++sp9).toArray 9 (0,0)),(wb,bldO (.pointer none) (.slice none 0 0))]) (List.Sublist.cons_cons _ (List.Sublist.cons_cons _ (List.nil_sublist _))) ?_
 have hLZ:(lineZ++⟨#[10]⟩).size=40:=by rw [ByteArray.size_append];omega
 have hu0:ByteArray.empty.size=0:=rfl
 refine v_loopI (ι:=Nat) [17,16,3] (fun k us G' μ'=>G'=G∧k≤3∧∃ u p v νb,us=[Value.int .i64 (k:Nat),.agg [Value.slice (some ⟨b9,0,none⟩) 1 cap9,nilS,nilS].toArray,.pointer (some ⟨wb,0,none⟩)]∧Bld wb u p v νb∧u.size=(if k=0 then 0 else 40)∧μ'=(b9,.cells ([Value.string lineZ]++sp9).toArray 9 (0,0))::(wb,bldO p v)::νb) (fun k=>3-k) rfl 0 ⟨rfl,by omega,.empty,_,_,[],rfl,bld_nil wb,rfl,rfl⟩ ?_
 rintro k us G' _ ⟨rfl,hk,u,p,v,νb,rfl,hb,hu,rfl⟩
 obtain rfl|rfl|rfl|rfl:k=0∨k=1∨k=2∨k=3:=by omega
 ·have hu:u.size=0:=hu
  repeat' (first|apply v_pure;(case hop=>exact p_indexM1 0 rfl rfl (by omega) rfl);(case hd=>rfl)|refine Wa ?_|(refine Wc ⟨?_,?_⟩<;>first|intro h|exact ⟨⟩)|refine Wr ?_|(refine Wb ?_;intro b)|fail)
  refine v_loopI (ι:=Nat) [22,21,20,3,17,16] (fun j us G2 μ'=>G2=G'∧j≤1∧∃ u p v νb,us=[Value.int .i64 (j:Nat),.int .i64 1,.slice (some ⟨b9,0,none⟩) 1 cap9,.pointer (some ⟨wb,0,none⟩),.int .i64 0,.agg [Value.slice (some ⟨b9,0,none⟩) 1 cap9,nilS,nilS].toArray]∧Bld wb u p v νb∧u.size=(if j=0 then 0 else 40)∧μ'=(b9,.cells ([Value.string lineZ]++sp9).toArray 9 (0,0))::(wb,bldO p v)::νb) (fun j=>1-j) rfl 0 ⟨rfl,by omega,u,p,v,νb,rfl,hb,hu,rfl⟩ ?_
  clear hb hu
  rintro j us G2 _ ⟨rfl,hj,u2,p2,v2,νb2,rfl,hb2,hu2,rfl⟩
  obtain rfl|rfl:j=0∨j=1:=by omega
  ·have hu2:u2.size=0:=hu2
   have qw:=writeS_s (G:=G2) (s:=lineZ++⟨#[10]⟩) hb2 (by omega)
   repeat' (first|refine Rp ?_|apply v_pure;(case hop=>apply p_addS (a:=lineZ) rfl rfl (by omega));(case hd=>rfl)|refine Wa ?_|(refine Wc ⟨?_,?_⟩<;>first|intro h|exact ⟨⟩)|apply v_call (hs:=qw) (μ2:=[(b9,_)]);(case ha=>rfl);(case hp=>exact List.perm_append_comm (l₁:=[(b9,_)]));(case hd=>rfl);rintro _ G3 _ hle3 ⟨hG3,p3,v3,ν3,hb3,rfl⟩;subst hG3|refine Wr ?_|(refine Wb ?_;intro b)|fail)
   refine v_perm (List.perm_append_comm (l₂:=[(b9,_)])) ?_
   exact v_againI 1 rfl ⟨rfl,by omega,_,p3,v3,ν3,rfl,hb3,by rw [ByteArray.size_append,if_neg (by omega)];omega,rfl⟩ (by omega)
  ·have hu2:u2.size=40:=hu2
   repeat' (first|refine Wa ?_|(refine Wc ⟨?_,?_⟩<;>first|intro h|exact ⟨⟩)|refine Wr ?_|(refine Wb ?_;intro b)|fail)
   exact v_againI 1 rfl ⟨rfl,by omega,u2,p2,v2,νb2,rfl,hb2,hu2,rfl⟩ (by omega)
 ·have hu:u.size=40:=hu
  repeat' (first|apply v_pure;(case hop=>exact p_indexM1 1 rfl rfl (by omega) rfl);(case hd=>rfl)|refine Wa ?_|(refine Wc ⟨?_,?_⟩<;>first|intro h|exact ⟨⟩)|refine Wr ?_|(refine Wb ?_;intro b)|fail)
  refine v_loop [22,21,20,3,17,16] (fun us G2 μ'=>G2=G'∧us=[Value.int .i64 0,.int .i64 0,nilS,.pointer (some ⟨wb,0,none⟩),.int .i64 1,.agg [Value.slice (some ⟨b9,0,none⟩) 1 cap9,nilS,nilS].toArray]∧μ'=(b9,.cells ([Value.string lineZ]++sp9).toArray 9 (0,0))::(wb,bldO p v)::νb) (fun us=>0) rfl ⟨rfl,rfl,rfl⟩ ?_
  rintro us G2 _ ⟨rfl,rfl,rfl⟩
  repeat' (first|refine Wa ?_|(refine Wc ⟨?_,?_⟩<;>first|intro h|exact ⟨⟩)|refine Wr ?_|(refine Wb ?_;intro b)|fail)
  exact v_againI 2 rfl ⟨rfl,by omega,u,p,v,νb,rfl,hb,hu,rfl⟩ (by omega)
 ·have hu:u.size=40:=hu
  repeat' (first|apply v_pure;(case hop=>exact p_indexM1 2 rfl rfl (by omega) rfl);(case hd=>rfl)|refine Wa ?_|(refine Wc ⟨?_,?_⟩<;>first|intro h|exact ⟨⟩)|refine Wr ?_|(refine Wb ?_;intro b)|fail)
  refine v_loop [22,21,20,3,17,16] (fun us G2 μ'=>G2=G'∧us=[Value.int .i64 0,.int .i64 0,nilS,.pointer (some ⟨wb,0,none⟩),.int .i64 2,.agg [Value.slice (some ⟨b9,0,none⟩) 1 cap9,nilS,nilS].toArray]∧μ'=(b9,.cells ([Value.string lineZ]++sp9).toArray 9 (0,0))::(wb,bldO p v)::νb) (fun us=>0) rfl ⟨rfl,rfl,rfl⟩ ?_
  rintro us G2 _ ⟨rfl,rfl,rfl⟩
  repeat' (first|refine Wa ?_|(refine Wc ⟨?_,?_⟩<;>first|intro h|exact ⟨⟩)|refine Wr ?_|(refine Wb ?_;intro b)|fail)
  exact v_againI 3 rfl ⟨rfl,by omega,u,p,v,νb,rfl,hb,hu,rfl⟩ (by omega)
 ·have hu:u.size=40:=hu
  have qs:=string_s (G:=G') hb (by omega) (by omega)
  repeat' (first|refine Wa ?_|(refine Wc ⟨?_,?_⟩<;>first|intro h|exact ⟨⟩)|apply v_call (hs:=qs) (μ2:=[(b9,_)]);(case ha=>rfl);(case hp=>exact List.perm_append_comm (l₁:=[(b9,_)]));(case hd=>rfl);rintro _ G3 _ hle3 ⟨rfl,hG3,rfl⟩;subst hG3|refine Wr ?_|(refine Wb ?_;intro b)|fail)
  refine v_move (m_strBytesB (e:=5) (by omega) rfl) rfl ?_
  rintro _ G4 _ ⟨bb,cap,fr,rfl,hc1,hc2,hG4,rfl⟩
  subst hG4
  refine v_frz [(bb,_)] (by repeat (first|exact PickA.last|exact PickA.here _|exact PickA.one _|apply PickA.cons|apply PickA.app)) ?_
  intro G5 hle5 hG5
  have hsl:=bytes_sl (hG5 bb _ (List.Mem.head _)) hc1 hc2
  have qc:=csum_s (hC.le hle5) hsl
  have qt:=crcText_s (hB.le hle5) (crcN_lt (u.data.toList.map fun c=>(c.toNat:Int)))
  repeat' (first|refine Wa ?_|(refine Wc ⟨?_,?_⟩<;>first|intro h|exact ⟨⟩)|refine cJ qc ?_|apply v_call (hs:=qt) (μ1:=[]);(case ha=>rfl);(case hp=>exact List.Perm.refl _);(case hd=>rfl);rintro _ _ _ hle ⟨s8,hs8,rfl,rfl,rfl⟩|refine Wr ?_|(refine Wb ?_;intro b)|fail)
  refine Vr ?_
  exact ⟨⟨s8,hs8,rfl⟩,rfl⟩
theorem oneZ_ok:ConfOK [(1,[1])] :=
 ConfOK.of ⟨by decide,rfl⟩ (by simp) (fun c hc=>by simp at hc;subst hc;exact ⟨memOK_of (by decide) (by decide) (by decide),by decide⟩)
theorem newE1:newE 1 1 [1]=0:=by
 unfold newE
 rw [if_neg (by decide),if_neg (by simpa using oneZ_ok),if_neg (by decide)]
theorem firstZ:firstI [1]=⟨0,0,[(1,[1])],emp⟩:=if_pos oneZ_ok
theorem ptrsZ_row (ps:List Nat):ptrs ps=rowC (fun p => [Value.pointer (some ⟨p,0,none⟩)]) ps:=by
 unfold ptrs rowC
 induction ps with
 | nil=>rfl
 | cons p ps ih=>simp only [List.map_cons,List.flatten_cons,ih];rfl
theorem ptSZ_of_grow {ps:List Nat}{A:Option Addr}{c n:Nat}{ν:OH}{G:GH}(hg:Grow 69 1 (.slice A n c) ps.length (ptrs ps) ν) (hG:∀ b o,(b,o)∈ν→G b=some o):n=ps.length∧PtS G (.slice A n c) ps:=by
 rw [ptrsZ_row] at hg
 have h:=row_of_grow (f:=fun p:Nat => [Value.pointer (some ⟨p,0,none⟩)]) (fun _=>rfl) hg hG
 obtain ⟨A',c',e2,-,-⟩:=id h
 cases e2
 exact ⟨rfl,Sl.le h (GH.le_refl _) fun _ _ hx=>hx⟩
theorem awake46_s {G:GH}(hP:PowG G) (hC:CrcG G) (hB:BruG G):Con Tryz.prog 5 #[] G [] (Just (.bool true) G):=by
 have hz:=emp_ok.small
 have hco:=oneZ_ok.coZ (by decide)
 apply Con.just
 (refine v_enter Tryz.func5 rfl Tryz.ntmps5 rfl ?_;intro B _)
 repeat' (first|apply v_pure;(case hop=>(apply p_build (cs:=[Value.int .i64 1,.slice (some ⟨b4,0,none⟩) 1 1]);(case hz=>rfl);(case hv=>(simp only [List.map_cons,List.map_nil];repeat (first|with_reducible exact evs_nil|apply evs_cons;(case h1=>rfl))));(case hb=>rfl)));(case hd=>rfl)|(refine Wd 4 ?_;intro b4)|refine Wa ?_|(refine Wc ⟨?_,?_⟩<;>first|intro h|exact ⟨⟩)|(refine Wb ?_;intro b)|fail)
 refine v_frzP [(b4,.cells [Value.int .i64 1].toArray 3 (0,0))] (r:=[]) aV ?_
 intro G3 hle3 hG3
 have hm3:Sl G3 1 (IntR .i64) (.slice (some ⟨b4,0,none⟩) 1 1) [1]:=Sl.ofInts (l:=[1]) rfl (hG3 b4 _ (List.Mem.head _)) (by decide) (by decide)
 have q2:=clusterNew_s hm3 (by decide) 1 (by decide)
 rw [newE1,firstZ] at q2
 repeat' (first|refine Wa ?_|(refine Wc ⟨?_,?_⟩<;>first|intro h|exact ⟨⟩)|(refine Wb ?_;intro b)|fail)
 refine cQ rfl q2 ?_
 rintro _ G4 _ hle4 (⟨h,-⟩|⟨-,cb,bg,lm,ps,sl,νs,νn,rfl,hps,hg,hN,rfl⟩)
 ·exact absurd rfl h
 obtain ⟨A4,c4,rfl,-,-⟩:=hg.shape
 refine v_frzP νs (r:=(cb,clO (clZ (.slice A4 ps.length c4) bg lm))::(bg,bagO nilS)::(lm,.map #[] 0)::νn) aV ?_
 intro G5 hle5 hG5
 obtain ⟨-,hp⟩:=ptSZ_of_grow hg hG5
 have hN5:=hN.imp fun i p ν h=>NewNd.up hle5 h
 have hleA:GH.le G G5:=GH.le_trans hle3 (GH.le_trans hle4 hle5)
 have q3:=nodeZ_s (hP.le hleA) (cb:=cb) (bg:=bg) (lm:=lm) hp hN5 hz hco (by omega) rfl rfl
 have q4:=sumZ_s (hP.le hleA) (hC.le hleA) (hB.le hleA) (cb:=cb) (bg:=bg) (lm:=lm) hp hN5 hz hco (by omega) rfl rfl
 have hll:lineZ=⟨#[49,32,100,111,119,110,32,48,32,110,111,116,32,105,110,100,101,120,32,48,32,97,99,116,105,118,101,32,48,32,102,32,49,32,119,104,121,32,48]⟩:=rfl
 rw [hll] at q3
 repeat' (first|(exact absurd trivial (by assumption:¬ True))|refine Wa ?_|(refine Wc ⟨?_,?_⟩<;>first|intro h|exact ⟨⟩)|apply v_callK (hs:=q3) (μ2:=[(bg,bagO nilS),(lm,.map #[] 0)]);(case ha=>rfl);(case hp=>exact aV);(case hd=>rfl)|(refine Wb ?_;intro b)|fail)
 refine v_call (μ1:=(cb,clO (clZ (.slice A4 ps.length c4) bg lm))::(lm,.map #[] 0)::νn) (μ2:=[(bg,bagO nilS)]) rfl q4 aV rfl ?_
 rintro _ G6 _ - ⟨⟨s8,hs8,rfl⟩,rfl⟩
 repeat' (first|refine Wa ?_|(refine Wc ⟨?_,?_⟩<;>first|intro h|exact ⟨⟩)|(refine Wb ?_;intro b)|fail)
 refine Vr ?_
 exact ⟨by rw [dec_pos (by omega)],rfl⟩
end Go.Proofs.YtnncjoooaknlmaaGreatDoor
