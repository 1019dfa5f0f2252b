/-
  Texts (layer 5), the first part: runes, in plain Lean: the model's decoder, and the reference's.
-/
import Derived.Test.YtlkakbjcolgjbaaGreatDoorM1
import Derived.Shelf.Unicode.DecodeAny
import Derived.Shelf.Small.Strs
import Derived.Lib.AppendZerosOnto
import Derived.Lib.Overlaps
import Derived.Laws.MakeOwn
set_option linter.unusedSimpArgs false
set_option linter.unusedVariables false
set_option linter.unusedSectionVars false
namespace Go.Proofs.YtlkakbjcolgjbaaGreatDoor
open Go.Vx Go.ChangeShapes Go.WideShapes Go.ChangeAt Go.RowKit
def acc (s:ByteArray) (i v:Nat):Nat→Nat
 | 0=>v
 | k+1=>64*acc s i v k+byt s (i+(k+1))-128
def contB (s:ByteArray) (i:Nat):Nat→Bool
 | 0=>true
 | k+1=>contB s i k && (decide (128≤byt s (i+(k+1))) && decide (byt s (i+(k+1))≤191))
def szFin (s:ByteArray) (i m low v:Nat):Nat×Nat :=
 if s.size<i+(m+1) then (0,0) else if contB s i m=false then (0,0)
 else if acc s i v m<low∨1114111<acc s i v m∨(55296≤acc s i v m∧acc s i v m≤57343) then (0,0) else (m+1,acc s i v m)
theorem szFin_short {s:ByteArray}{i m low v:Nat}(h:s.size<i+(m+1)):szFin s i m low v=(0,0):=by unfold szFin;rw [if_pos h]
theorem szFin_cont {s:ByteArray}{i m low v:Nat}(h:contB s i m=false):szFin s i m low v=(0,0):=by
 unfold szFin
 rw [if_pos h]
 split<;>rfl
theorem szFin_low {s:ByteArray}{i m low v:Nat}(h:acc s i v m<low∨1114111<acc s i v m∨(55296≤acc s i v m∧acc s i v m≤57343)):szFin s i m low v=(0,0):=by
 unfold szFin
 rw [if_pos h]
 split
 ·rfl
 ·split<;>rfl
theorem szFin_ok {s:ByteArray}{i m low v:Nat}(h0:¬ s.size<i+(m+1)) (h1:contB s i m=true) (h:¬ (acc s i v m<low∨1114111<acc s i v m∨(55296≤acc s i v m∧acc s i v m≤57343))):szFin s i m low v=(m+1,acc s i v m):=by
 unfold szFin
 rw [if_neg h0,if_neg (by rw [h1];simp),if_neg h]
theorem acc1 (s:ByteArray) (i v:Nat):acc s i v 1=64*v+byt s (i+1)-128:=rfl
theorem acc2 (s:ByteArray) (i v:Nat):acc s i v 2=64*(64*v+byt s (i+1)-128)+byt s (i+2)-128:=rfl
theorem acc3 (s:ByteArray) (i v:Nat):acc s i v 3=64*(64*(64*v+byt s (i+1)-128)+byt s (i+2)-128)+byt s (i+3)-128:=rfl
theorem cont1 {s:ByteArray}{i:Nat}:contB s i 1=true↔(128≤byt s (i+1)∧byt s (i+1)≤191):=by
 show (contB s i 0 && (decide (128≤byt s (i+1)) && decide (byt s (i+1)≤191)))=true↔_
 simp [contB]
theorem cont2 {s:ByteArray}{i:Nat}:contB s i 2=true↔(128≤byt s (i+1)∧byt s (i+1)≤191)∧(128≤byt s (i+2)∧byt s (i+2)≤191):=by
 show (contB s i 1 && (decide (128≤byt s (i+2)) && decide (byt s (i+2)≤191)))=true↔_
 rw [Bool.and_eq_true,cont1];simp
theorem cont3 {s:ByteArray}{i:Nat}:contB s i 3=true↔((128≤byt s (i+1)∧byt s (i+1)≤191)∧(128≤byt s (i+2)∧byt s (i+2)≤191))∧(128≤byt s (i+3)∧byt s (i+3)≤191):=by
 show (contB s i 2 && (decide (128≤byt s (i+3)) && decide (byt s (i+3)≤191)))=true↔_
 rw [Bool.and_eq_true,cont2];simp
def szR (s:ByteArray) (i:Nat):Nat×Nat :=
 if byt s i<128 then (1,byt s i)
 else if 194≤byt s i∧byt s i≤223 then szFin s i 1 128 (byt s i-192)
 else if 224≤byt s i∧byt s i≤239 then szFin s i 2 2048 (byt s i-224)
 else if 240≤byt s i∧byt s i≤244 then szFin s i 3 65536 (byt s i-240)
 else (0,0)
theorem decode_byt (s:ByteArray) (i:Nat):Utf8.decode s i =
 (if byt s i<0x80 then (byt s i,1)
 else if byt s i / 32=6∧(i+1<s.size∧byt s (i+1) / 64=2) then
  (if (byt s i % 32)*64+byt s (i+1) % 64≥0x80 then ((byt s i % 32)*64+byt s (i+1) % 64,2) else (65533,1))
 else if byt s i / 16=14∧(i+1<s.size∧byt s (i+1) / 64=2)∧(i+2<s.size∧byt s (i+2) / 64=2) then
  (if (byt s i % 16)*4096+(byt s (i+1) % 64)*64+byt s (i+2) % 64≥0x800∧Utf8.valid ((byt s i % 16)*4096+(byt s (i+1) % 64)*64+byt s (i+2) % 64:Nat)=true then ((byt s i % 16)*4096+(byt s (i+1) % 64)*64+byt s (i+2) % 64,3) else (65533,1))
 else if byt s i / 8=30∧(i+1<s.size∧byt s (i+1) / 64=2)∧(i+2<s.size∧byt s (i+2) / 64=2)∧(i+3<s.size∧byt s (i+3) / 64=2) then
  (if (byt s i % 8)*262144+(byt s (i+1) % 64)*4096+(byt s (i+2) % 64)*64+byt s (i+3) % 64≥0x10000∧Utf8.valid ((byt s i % 8)*262144+(byt s (i+1) % 64)*4096+(byt s (i+2) % 64)*64+byt s (i+3) % 64:Nat)=true then ((byt s i % 8)*262144+(byt s (i+1) % 64)*4096+(byt s (i+2) % 64)*64+byt s (i+3) % 64,4) else (65533,1))
 else (65533,1)):=by
 unfold Utf8.decode byt
 simp only [Nat.add_zero,Bool.and_eq_true,decide_eq_true_eq,beq_iff_eq,Utf8.runeError,and_assoc]
theorem valid_iff (c:Nat):Utf8.valid (c:Nat)=true↔c<55296∨(57344≤c∧c≤1114111):=by
 unfold Utf8.valid
 simp only [Bool.or_eq_true,Bool.and_eq_true,decide_eq_true_eq]
 omega
theorem decode_of_sz (s:ByteArray) (i:Nat) (h:i<s.size):Utf8.decode s i=(if (szR s i).1=0 then (65533,1) else ((szR s i).2,(szR s i).1)):=by
 have h0:=byt_lt s i
 have h1:=byt_lt s (i+1)
 have h2:=byt_lt s (i+2)
 have h3:=byt_lt s (i+3)
 rw [decode_byt]
 unfold szR
 by_cases c0:byt s i<128
 ·rw [if_pos c0,if_pos c0];rfl
 rw [if_neg c0,if_neg c0]
 by_cases c1:194≤byt s i∧byt s i≤223
 ·rw [if_pos c1]
  by_cases z:s.size<i+(1+1)
  ·rw [szFin_short z,if_neg (show ¬ (byt s i / 32=6∧(i+1<s.size∧byt s (i+1) / 64=2)) by omega),if_neg (show ¬ (byt s i / 16=14∧(i+1<s.size∧byt s (i+1) / 64=2)∧(i+2<s.size∧byt s (i+2) / 64=2)) by omega),if_neg (show ¬ (byt s i / 8=30∧(i+1<s.size∧byt s (i+1) / 64=2)∧(i+2<s.size∧byt s (i+2) / 64=2)∧(i+3<s.size∧byt s (i+3) / 64=2)) by omega)];rfl
  by_cases d1:contB s i 1=true
  ·have d2:=cont1.1 d1
   have ea:acc s i (byt s i-192) 1=(byt s i % 32)*64+byt s (i+1) % 64:=by rw [acc1];omega
   rw [if_pos (show byt s i / 32=6∧(i+1<s.size∧byt s (i+1) / 64=2) by omega)]
   rw [if_pos (show (byt s i % 32)*64+byt s (i+1) % 64≥0x80 by omega),szFin_ok z d1 (by omega),ea];rfl
  ·have d2:=mt cont1.2 d1
   rw [szFin_cont (by simpa using d1),if_neg (show ¬ (byt s i / 32=6∧(i+1<s.size∧byt s (i+1) / 64=2)) by omega),if_neg (show ¬ (byt s i / 16=14∧(i+1<s.size∧byt s (i+1) / 64=2)∧(i+2<s.size∧byt s (i+2) / 64=2)) by omega),if_neg (show ¬ (byt s i / 8=30∧(i+1<s.size∧byt s (i+1) / 64=2)∧(i+2<s.size∧byt s (i+2) / 64=2)∧(i+3<s.size∧byt s (i+3) / 64=2)) by omega)];rfl
 rw [if_neg c1]
 by_cases c2:224≤byt s i∧byt s i≤239
 ·rw [if_pos c2,if_neg (show ¬ (byt s i / 32=6∧(i+1<s.size∧byt s (i+1) / 64=2)) by omega)]
  by_cases z:s.size<i+(2+1)
  ·rw [szFin_short z,if_neg (show ¬ (byt s i / 16=14∧(i+1<s.size∧byt s (i+1) / 64=2)∧(i+2<s.size∧byt s (i+2) / 64=2)) by omega),if_neg (show ¬ (byt s i / 8=30∧(i+1<s.size∧byt s (i+1) / 64=2)∧(i+2<s.size∧byt s (i+2) / 64=2)∧(i+3<s.size∧byt s (i+3) / 64=2)) by omega)];rfl
  by_cases d1:contB s i 2=true
  ·have d2:=cont2.1 d1
   have ea:acc s i (byt s i-224) 2=(byt s i % 16)*4096+(byt s (i+1) % 64)*64+byt s (i+2) % 64:=by rw [acc2];omega
   rw [if_pos (show byt s i / 16=14∧(i+1<s.size∧byt s (i+1) / 64=2)∧(i+2<s.size∧byt s (i+2) / 64=2) by omega)]
   have hvv:=valid_iff ((byt s i % 16)*4096+(byt s (i+1) % 64)*64+byt s (i+2) % 64)
   by_cases hv:acc s i (byt s i-224) 2<2048∨1114111<acc s i (byt s i-224) 2∨(55296≤acc s i (byt s i-224) 2∧acc s i (byt s i-224) 2≤57343)
   ·rw [szFin_low hv,if_neg (fun h=>by have:=hvv.1 h.2;omega)];rfl
   ·rw [szFin_ok z d1 hv,if_pos ⟨by omega,hvv.2 (by omega)⟩,ea];rfl
  ·have d2:=mt cont2.2 d1
   rw [szFin_cont (by simpa using d1),if_neg (show ¬ (byt s i / 16=14∧(i+1<s.size∧byt s (i+1) / 64=2)∧(i+2<s.size∧byt s (i+2) / 64=2)) by omega),if_neg (show ¬ (byt s i / 8=30∧(i+1<s.size∧byt s (i+1) / 64=2)∧(i+2<s.size∧byt s (i+2) / 64=2)∧(i+3<s.size∧byt s (i+3) / 64=2)) by omega)];rfl
 rw [if_neg c2]
 by_cases c3:240≤byt s i∧byt s i≤244
 ·rw [if_pos c3,if_neg (show ¬ (byt s i / 32=6∧(i+1<s.size∧byt s (i+1) / 64=2)) by omega),if_neg (show ¬ (byt s i / 16=14∧(i+1<s.size∧byt s (i+1) / 64=2)∧(i+2<s.size∧byt s (i+2) / 64=2)) by omega)]
  by_cases z:s.size<i+(3+1)
  ·rw [szFin_short z,if_neg (show ¬ (byt s i / 8=30∧(i+1<s.size∧byt s (i+1) / 64=2)∧(i+2<s.size∧byt s (i+2) / 64=2)∧(i+3<s.size∧byt s (i+3) / 64=2)) by omega)];rfl
  by_cases d1:contB s i 3=true
  ·have d2:=cont3.1 d1
   have ea:acc s i (byt s i-240) 3=(byt s i % 8)*262144+(byt s (i+1) % 64)*4096+(byt s (i+2) % 64)*64+byt s (i+3) % 64:=by rw [acc3];omega
   rw [if_pos (show byt s i / 8=30∧(i+1<s.size∧byt s (i+1) / 64=2)∧(i+2<s.size∧byt s (i+2) / 64=2)∧(i+3<s.size∧byt s (i+3) / 64=2) by omega)]
   have hvv:=valid_iff ((byt s i % 8)*262144+(byt s (i+1) % 64)*4096+(byt s (i+2) % 64)*64+byt s (i+3) % 64)
   by_cases hv:acc s i (byt s i-240) 3<65536∨1114111<acc s i (byt s i-240) 3∨(55296≤acc s i (byt s i-240) 3∧acc s i (byt s i-240) 3≤57343)
   ·rw [szFin_low hv,if_neg (fun h=>by have:=hvv.1 h.2;omega)];rfl
   ·rw [szFin_ok z d1 hv,if_pos ⟨by omega,hvv.2 (by omega)⟩,ea];rfl
  ·have d2:=mt cont3.2 d1
   rw [szFin_cont (by simpa using d1),if_neg (show ¬ (byt s i / 8=30∧(i+1<s.size∧byt s (i+1) / 64=2)∧(i+2<s.size∧byt s (i+2) / 64=2)∧(i+3<s.size∧byt s (i+3) / 64=2)) by omega)];rfl
 rw [if_neg c3]
 by_cases y1:byt s i / 32=6∧(i+1<s.size∧byt s (i+1) / 64=2)
 ·rw [if_pos y1,if_neg (show ¬ ((byt s i % 32)*64+byt s (i+1) % 64≥0x80) by omega)];rfl
 rw [if_neg y1,if_neg (show ¬ (byt s i / 16=14∧(i+1<s.size∧byt s (i+1) / 64=2)∧(i+2<s.size∧byt s (i+2) / 64=2)) by omega)]
 by_cases y3:byt s i / 8=30∧(i+1<s.size∧byt s (i+1) / 64=2)∧(i+2<s.size∧byt s (i+2) / 64=2)∧(i+3<s.size∧byt s (i+3) / 64=2)
 ·have hvv:=valid_iff ((byt s i % 8)*262144+(byt s (i+1) % 64)*4096+(byt s (i+2) % 64)*64+byt s (i+3) % 64)
  rw [if_pos y3,if_neg (fun h=>by have:=hvv.1 h.2;omega)];rfl
 ·rw [if_neg y3];rfl
def szV (s:ByteArray) (i:Nat):Value:=.tuple [.int .i64 ((szR s i).1:Int),.int .i64 ((szR s i).2:Int)].toArray
theorem szV_of {s:ByteArray}{i a b:Nat}(h:szR s i=(a,b)) {x y:Int}(hx:x=a) (hy:y=b):Value.tuple #[.int .i64 x,.int .i64 y]=szV s i:=by
 unfold szV;rw [h,hx,hy]
theorem acc_lt (s:ByteArray) (i v:Nat) (hv:v<256):∀ k,k≤3→acc s i v k<256*128 ^ k
 | 0,_=>by
  show v<256*128 ^ 0
  omega
 | k+1,hk=>by
  have ih:=acc_lt s i v hv k (by omega)
  have h1:=byt_lt s (i+(k+1))
  have h2:(128:Nat) ^ (k+1)=128*128 ^ k:=by rw [Nat.pow_succ,Nat.mul_comm]
  have h3:0<(128:Nat) ^ k:=Nat.pos_of_ne_zero (by simp)
  have h4:acc s i v (k+1)=64*acc s i v k+byt s (i+(k+1))-128:=rfl
  omega
theorem acc_lt3 (s:ByteArray) (i v:Nat) (hv:v<256) (k:Nat) (hk:k≤3):acc s i v k<536870912:=by
 have:=acc_lt s i v hv k hk
 have h2:(128:Nat) ^ k≤128 ^ 3:=Nat.pow_le_pow_right (by omega) hk
 have h3:(128:Nat) ^ 3=2097152:=by decide
 omega
theorem contB_mono {s:ByteArray}{i m:Nat}(h:contB s i m=true):∀ {k},k≤m→contB s i k=true:=by
 induction m with
 | zero =>
  intro k hk
  have e:k=0:=by omega
  rw [e];exact h
 | succ m ih =>
  intro k hk
  by_cases e:k=m+1
  ·subst e;exact h
  ·refine ih ?_ (by omega)
   have h2:(contB s i m && (decide (128≤byt s (i+(m+1))) && decide (byt s (i+(m+1))≤191)))=true:=h
   rw [Bool.and_eq_true] at h2
   exact h2.1
theorem size_s {G:GH}{s:ByteArray}{i:Nat}(hi:i<s.size) (hs:s.size≤1000000):Con Tryz.prog 50 #[.string s,.int .i64 (i:Int)] G [] (Just (szV s i) G):=by
 have b0:=byt_lt s i
 have ei:((i:Nat):Int).toNat=i:=Int.toNat_natCast i
 (refine v_enter Tryz.func50 rfl Tryz.ntmps50 rfl ?_;intro B _)
 repeat' (first|apply v_seq|apply v_region|apply v_nil|apply v_skip|apply v_block|apply v_blk|apply v_take;(case hg=>rfl)|apply v_pass;(case hg|hn|hd=>rfl)|apply v_pure;(case hop=>first|apply p_move<;>rfl|apply p_lt<;>rfl|apply p_gt<;>rfl|apply p_le<;>rfl|apply p_ge<;>rfl|apply p_assign<;>rfl|apply p_pickT<;>rfl|apply p_pickF<;>rfl|apply p_add;(case hx|hy=>rfl);(case h=>omega)|apply p_sub;(case hx|hy=>rfl);(case h=>omega)|apply p_lenString<;>rfl|apply p_convB<;>rfl|apply p_indexSn;(case hx|hi=>rfl);all_goals omega|fail);(case hd=>rfl)|apply v_condF;(case hc=>rfl)|apply v_cond;(case hc=>rfl);all_goals (intro h;(try simp only [reduceCtorEq,zzz] at h))|apply v_guardB;(case h1|h2=>rfl);all_goals (intro h;(try simp only [reduceCtorEq,zzz] at h);try (exfalso;omega))|fail)
 all_goals try
  (refine v_ret [] (outsA2 rfl rfl rfl) (by repeat (exact List.Sublist.refl _)) ?_
   refine ⟨szV_of (a:=1) (b:=byt s i) ?_ rfl rfl,rfl,rfl⟩
   unfold szR
   rw [if_pos (by omega)])
 all_goals try
  (refine v_ret [] (outsA2 rfl rfl rfl) (by repeat (exact List.Sublist.refl _)) ?_
   refine ⟨szV_of (a:=0) (b:=0) ?_ rfl rfl,rfl,rfl⟩
   unfold szR
   first
    | rw [if_neg (show ¬ byt s i<128 by omega),if_pos (show 194≤byt s i∧byt s i≤223 by omega),szFin_short (by omega)]
    | rw [if_neg (show ¬ byt s i<128 by omega),if_neg (show ¬ (194≤byt s i∧byt s i≤223) by omega),if_pos (show 224≤byt s i∧byt s i≤239 by omega),szFin_short (by omega)]
    | rw [if_neg (show ¬ byt s i<128 by omega),if_neg (show ¬ (194≤byt s i∧byt s i≤223) by omega),if_neg (show ¬ (224≤byt s i∧byt s i≤239) by omega),if_pos (show 240≤byt s i∧byt s i≤244 by omega),szFin_short (by omega)]
    | rw [if_neg (show ¬ byt s i<128 by omega),if_neg (show ¬ (194≤byt s i∧byt s i≤223) by omega),if_neg (show ¬ (224≤byt s i∧byt s i≤239) by omega),if_neg (show ¬ (240≤byt s i∧byt s i≤244) by omega)])
 all_goals
  (refine v_loop [10,9,7,8,0,1] (fun us G' μ'=>G'=G∧μ'=[]∧∃ (k m low v:Nat) (x N L:Int),us=[Value.int .i64 ((k:Int)+1),.int .i64 x,.int .i64 N,.int .i64 L,.string s,.int .i64 (i:Int)]∧N=(m:Int)+1∧L=low∧x=(acc s i v k:Nat)∧k≤m∧m≤3∧v<256∧i+(m+1)≤s.size∧contB s i k=true∧szR s i=szFin s i m low v) (fun us=>5-(headI us).toNat) rfl ?_ ?_
   ·refine ⟨rfl,rfl,?_⟩
    first
     | exact ⟨0,1,128,byt s i-192,_,_,_,rfl,rfl,rfl,by show _=((byt s i-192:Nat):Int);omega,by omega,by omega,by omega,by omega,rfl,by unfold szR;rw [if_neg (show ¬ byt s i<128 by omega),if_pos (show 194≤byt s i∧byt s i≤223 by omega)]⟩
     | exact ⟨0,2,2048,byt s i-224,_,_,_,rfl,rfl,rfl,by show _=((byt s i-224:Nat):Int);omega,by omega,by omega,by omega,by omega,rfl,by unfold szR;rw [if_neg (show ¬ byt s i<128 by omega),if_neg (show ¬ (194≤byt s i∧byt s i≤223) by omega),if_pos (show 224≤byt s i∧byt s i≤239 by omega)]⟩
     | exact ⟨0,3,65536,byt s i-240,_,_,_,rfl,rfl,rfl,by show _=((byt s i-240:Nat):Int);omega,by omega,by omega,by omega,by omega,rfl,by unfold szR;rw [if_neg (show ¬ byt s i<128 by omega),if_neg (show ¬ (194≤byt s i∧byt s i≤223) by omega),if_neg (show ¬ (224≤byt s i∧byt s i≤239) by omega),if_pos (show 240≤byt s i∧byt s i≤244 by omega)]⟩
   rintro us G' μ' ⟨rfl,rfl,k,m,low,v,x,N,L,rfl,rfl,rfl,rfl,hk,hm,hv,him,hcb,hsz⟩
   have ha:=acc_lt3 s i v hv k (by omega)
   have bk:=byt_lt s (i+(k+1))
   have ek:((i:Int)+((k:Int)+1)).toNat=i+(k+1):=by omega
   have hacc:acc s i v (k+1)=64*acc s i v k+byt s (i+(k+1))-128:=rfl
   have hcon:contB s i (k+1)=(contB s i k && (decide (128≤byt s (i+(k+1))) && decide (byt s (i+(k+1))≤191))):=rfl
   repeat' (first|apply v_pure;(case hop=>(apply p_indexSb;(case hx|hi=>rfl);all_goals omega));(case hd=>rfl);rw [ek]|apply v_seq|apply v_region|apply v_nil|apply v_skip|apply v_block|apply v_blk|apply v_exit;(case hp=>rfl)|apply v_take;(case hg=>rfl)|apply v_pass;(case hg|hn|hd=>rfl)|apply v_passN;(case hg|hn|hd=>rfl)|apply v_pure;(case hop=>first|apply p_move<;>rfl|apply p_lt<;>rfl|apply p_gt<;>rfl|apply p_le<;>rfl|apply p_ge<;>rfl|apply p_assign<;>rfl|apply p_pickT<;>rfl|apply p_pickF<;>rfl|apply p_add;(case hx|hy=>rfl);(case h=>omega)|apply p_sub;(case hx|hy=>rfl);(case h=>omega)|apply p_convB<;>rfl|apply p_mul;(case hx|hy=>rfl);(case h=>omega));(case hd=>rfl)|apply v_condT;(case hc=>rfl)|apply v_condF;(case hc=>rfl)|apply v_cond;(case hc=>rfl);all_goals (intro h;(try simp only [reduceCtorEq,zzz] at h))|apply v_guardB;(case h1|h2=>rfl);all_goals (intro h;(try simp only [reduceCtorEq,zzz] at h))|fail)
   all_goals try
    (refine v_ret [] (outsA2 rfl rfl rfl) (by repeat (exact List.Sublist.refl _)) ?_
     refine ⟨szV_of (a:=0) (b:=0) ?_ rfl rfl,rfl,rfl⟩
     rw [hsz]
     first
      |(have:k+1≤m:=by omega
        refine szFin_cont ?_
        cases hc:contB s i m with
        | false=>rfl
        | true =>
         have h2:=contB_mono hc this
         rw [hcon] at h2
         simp only [Bool.and_eq_true,decide_eq_true_eq] at h2
         omega)
      |(obtain rfl:k=m:=by omega
        refine szFin_low ?_
        omega))
   all_goals try
    (refine v_ret [] (outsA2 rfl rfl rfl) (by repeat (exact List.Sublist.refl _)) ?_
     obtain rfl:k=m:=by omega
     refine ⟨szV_of (a:=k+1) (b:=acc s i v k) ?_ (by omega) rfl,rfl,rfl⟩
     rw [hsz]
     exact szFin_ok (by omega) hcb (by omega))
   refine v_again rfl ⟨rfl,rfl,k+1,m,low,v,_,_,_,rfl,rfl,rfl,by rw [hacc];omega,by omega,hm,hv,him,?_,hsz⟩ (by simp [headI];omega)
   rw [hcon,hcb]
   simp only [Bool.true_and,Bool.and_eq_true,decide_eq_true_eq]
   omega)
def plainP (r:Int):Prop:=(97≤r∧r≤122)∨(65≤r∧r≤90)∨(48≤r∧r≤57)∨r=45∨r=95∨r=46∨r=58∨(161≤r∧r≠65533)
instance (r:Int):Decidable (plainP r):=by unfold plainP;infer_instance
theorem byt_list (l:List UInt8) (j:Nat):byt ⟨l.toArray⟩ j=(l.getD j 0).toNat:=by
 unfold byt
 congr 1
 by_cases h:j<l.length
 ·simp [ByteArray.get!,h]
 ·simp [ByteArray.get!,h]
  rfl
def plainL:List UInt8:=[97,98,99,100,101,102,103,104,105,106,107,108,109,110,111,112,113,114,115,116,117,118,119,120,121,122,65,66,67,68,69,70,71]++[72,73,74,75,76,77,78,79,80,81,82,83,84,85,86,87,88,89,90,48,49,50,51,52,53,54,55,56,57,45,95,46,58]
theorem plainL_all:(List.range 66).all (fun j=>decide (plainP ((plainL.getD j 0).toNat:Int)))=true:=by decide +kernel
theorem plainL_has:(List.range 128).all (fun c => !decide (plainP (c:Int)) || ((List.range 66).any fun j=>decide ((plainL.getD j 0).toNat=c)))=true:=by decide +kernel
theorem plain_s (G:GH) (r:Int):Con Tryz.prog 51 #[.int .i64 r] G [] (Just (.bool (decide (plainP r))) G):=by
 (refine v_enter Tryz.func51 rfl Tryz.ntmps51 rfl ?_;intro B _)
 repeat' (first|apply v_seq|apply v_region|apply v_nil|apply v_block|apply v_pure;(case hop=>(apply p_assign<;>rfl));(case hd=>rfl)|fail)
 refine v_loop [4,3,0] (fun us G' μ'=>G'=G∧μ'=[]∧∃ (k:Nat) (sL:ByteArray),us=[Value.int .i64 (k:Int),.string sL,.int .i64 r]∧k≤66∧sL.size=66∧(∀ j,byt sL j=(plainL.getD j 0).toNat)∧∀ j,j<k→((plainL.getD j 0).toNat:Int)≠r) (fun us=>67-(headI us).toNat) rfl ⟨rfl,rfl,0,_,rfl,by omega,rfl,fun j=>byt_list plainL j,by omega⟩ ?_
 rintro us G' μ' ⟨rfl,rfl,k,sL,rfl,hk,hsz,hb,hno⟩
 repeat' (first|apply v_seq|apply v_region|apply v_nil|apply v_skip|apply v_block|apply v_blk|apply v_exit;(case hp=>rfl)|apply v_take;(case hg=>rfl)|apply v_pass;(case hg|hn|hd=>rfl)|apply v_pure;(case hop=>first|apply p_move<;>rfl|apply p_eq<;>rfl|apply p_lt<;>rfl|apply p_ne<;>rfl|apply p_ge<;>rfl|apply p_assign<;>rfl|apply p_pickT<;>rfl|apply p_pickF<;>rfl|apply p_add;(case hx|hy=>rfl);(case h=>omega)|apply p_lenString<;>rfl|apply p_convB<;>rfl|apply p_indexSn;(case hx|hi=>rfl);all_goals omega|fail);(case hd=>rfl)|apply v_cond;(case hc=>rfl);all_goals (intro h;(try simp only [reduceCtorEq,zzz] at h))|apply v_guardB;(case h1|h2=>rfl);all_goals (intro h;(try simp only [reduceCtorEq,zzz] at h))|fail)
 ·refine v_ret [] (outsA1 rfl rfl) (by repeat (exact List.Sublist.refl _)) ?_
  refine ⟨?_,rfl,rfl⟩
  have h1:=List.all_eq_true.1 plainL_all k (by simp;omega)
  rename_i h
  rw [hb] at h
  rw [decide_eq_true_eq,h] at h1
  rw [decide_eq_true h1]
 ·refine v_again rfl ⟨rfl,rfl,k+1,sL,rfl,by omega,hsz,hb,fun j hj=>?_⟩ (by simp [headI];omega)
  by_cases e:j=k
  ·subst e
   rename_i h
   rw [hb] at h
   exact h
  ·exact hno j (by omega)
 all_goals
  (have hn:¬ (0≤r∧r<128∧plainP r):=by
    rintro ⟨h0,h1,h2⟩
    have h3:=List.all_eq_true.1 plainL_has r.toNat (by simp;omega)
    have e:((r.toNat:Nat):Int)=r:=by omega
    simp only [Bool.or_eq_true,Bool.not_eq_true',decide_eq_false_iff_not,e,List.any_eq_true,List.mem_range,decide_eq_true_eq] at h3
    rcases h3 with h3|⟨j,hj,h3⟩
    ·exact h3 h2
    ·exact hno j (by omega) (by omega)
   refine v_ret [] (outsA1 rfl rfl) (by repeat (exact List.Sublist.refl _)) ?_
   refine ⟨?_,rfl,rfl⟩
   first
    |(have h161:161≤r:=by assumption
      by_cases hr:r=65533
      ·rw [dec_pos hr,decide_eq_false (by unfold plainP;omega)];rfl
      ·rw [dec_neg hr,decide_eq_true (by unfold plainP;omega)];rfl)
    |(rw [decide_eq_false]
      intro h
      refine hn ⟨?_,?_,h⟩<;>(unfold plainP at h;omega)))
def badR (s:ByteArray):Nat→Nat→Int
 | 0,_ => -1
 | n+1,p=>if p<s.size then (if (szR s p).1=0 then (p:Int) else badR s n (p+(szR s p).1)) else -1
def keyR (s:ByteArray):Nat→Nat→Bool
 | 0,_=>true
 | n+1,p=>if p<s.size then (if (szR s p).1=0 then false else if plainP ((szR s p).2:Int) then keyR s n (p+(szR s p).1) else false) else true
def keyB (s:ByteArray):Bool:=(decide (1≤s.size) && decide (s.size≤24)) && keyR s s.size 0
def okBytes (s:ByteArray):Prop := ∀ i,i<s.size→32≤byt s i∧byt s i≠127
noncomputable instance (s:ByteArray):Decidable (okBytes s):=Classical.propDecidable _
noncomputable def valB (s:ByteArray):Bool:=(decide (s.size≤48) && decide (badR s s.size 0<0)) && decide (okBytes s)
theorem badR_end {s:ByteArray}{n p:Nat}(h:¬ p<s.size):badR s n p = -1:=by
 cases n with
 | zero=>rfl
 | succ n=>unfold badR;rw [if_neg h]
theorem keyR_end {s:ByteArray}{n p:Nat}(h:¬ p<s.size):keyR s n p=true:=by
 cases n with
 | zero=>rfl
 | succ n=>unfold keyR;rw [if_neg h]
theorem fuel {s:ByteArray}{n p:Nat}(h:p<s.size) (hn:s.size≤p+n):∃ m,n=m+1:=⟨n-1,by omega⟩
theorem szR_le (s:ByteArray) (p:Nat):(szR s p).1≤4:=by
 unfold szR szFin
 repeat' split
 all_goals simp
theorem refBad_s {G:GH}{s:ByteArray}(hs:s.size≤1000000):Con Tryz.prog 52 #[.string s] G [] (Just (.int .i64 (badR s s.size 0)) G):=by
 (refine v_enter Tryz.func52 rfl Tryz.ntmps52 rfl ?_;intro B _)
 repeat' (first|apply v_seq|apply v_region|apply v_nil|apply v_block|apply v_pure;(case hop=>(apply p_assign<;>rfl));(case hd=>rfl)|fail)
 refine v_loop [3,0] (fun us G' μ'=>G'=G∧μ'=[]∧∃ (p n:Nat),us=[Value.int .i64 (p:Int),.string s]∧s.size≤p+n∧p≤s.size+4∧badR s s.size 0=badR s n p) (fun us=>s.size-(headI us).toNat) rfl ⟨rfl,rfl,0,s.size,rfl,by omega,by omega,rfl⟩ ?_
 rintro us G' μ' ⟨rfl,rfl,p,n,rfl,hn,hp,he⟩
 have h4:=szR_le s p
 repeat' (first|apply v_seq|apply v_region|apply v_nil|apply v_skip|apply v_block|apply v_blk|apply v_exit;(case hp=>rfl)|apply v_pure;(case hop=>first|apply p_move<;>rfl|apply p_eq<;>rfl|apply p_lt<;>rfl|apply p_assign<;>rfl|apply p_extract0<;>rfl|apply p_extract1<;>rfl|apply p_add;(case hx|hy=>rfl);(case h=>omega)|apply p_lenString<;>rfl|fail);(case hd=>rfl)|apply v_cond;(case hc=>rfl);all_goals (intro h;(try simp only [reduceCtorEq,zzz] at h))|apply v_callJ (hs:=size_s ?o1 ?o2);(case ha=>rfl);(case o1|o2=>omega);(case hd=>rfl)|fail)
 ·obtain ⟨m,rfl⟩:=fuel (by omega) hn
  refine v_ret [] (outsA1 rfl rfl) (by repeat (exact List.Sublist.refl _)) ?_
  refine ⟨?_,rfl,rfl⟩
  rw [he,badR,if_pos (by omega),if_pos (by omega)]
 ·obtain ⟨m,rfl⟩:=fuel (by omega) hn
  refine v_again rfl ⟨rfl,rfl,p+(szR s p).1,m,rfl,by omega,by omega,?_⟩ (by simp [headI];omega)
  rw [he,badR,if_pos (by omega),if_neg (by omega)]
 ·refine v_ret [] (outsA1 rfl rfl) (by repeat (exact List.Sublist.refl _)) ?_
  refine ⟨?_,rfl,rfl⟩
  rw [he,badR_end (by omega)]
theorem refKey_s {G:GH}{s:ByteArray}(hs:s.size≤9223372036854775807):Con Tryz.prog 38 #[.string s] G [] (Just (.bool (keyB s)) G):=by
 (refine v_enter Tryz.func38 rfl Tryz.ntmps38 rfl ?_;intro B _)
 repeat' (first|apply v_seq|apply v_region|apply v_nil|apply v_skip|apply v_block|apply v_take;(case hg=>rfl)|apply v_pass;(case hg|hn|hd=>rfl)|apply v_pure;(case hop=>first|apply p_move<;>rfl|apply p_lt<;>rfl|apply p_gt<;>rfl|apply p_assign<;>rfl|apply p_pickT<;>rfl|apply p_pickF<;>rfl|apply p_lenString<;>rfl|fail);(case hd=>rfl)|apply v_condT;(case hc=>rfl)|apply v_cond;(case hc=>rfl);all_goals (intro h;(try simp only [reduceCtorEq,zzz] at h))|apply v_guardB;(case h1|h2=>rfl);all_goals (intro h;(try simp only [reduceCtorEq,zzz] at h))|fail)
 all_goals try
  (refine v_ret [] (outsA1 rfl rfl) (by repeat (exact List.Sublist.refl _)) ?_
   refine ⟨?_,rfl,rfl⟩
   have:(decide (1≤s.size) && decide (s.size≤24))=false:=by
    rw [Bool.and_eq_false_iff,decide_eq_false_iff_not,decide_eq_false_iff_not];omega
   rw [keyB,this];rfl)
 have hk:keyB s=keyR s s.size 0:=by
  rw [keyB,decide_eq_true (by omega),decide_eq_true (by omega)];rfl
 refine v_loop [3,0] (fun us G' μ'=>G'=G∧μ'=[]∧∃ (p n:Nat),us=[Value.int .i64 (p:Int),.string s]∧s.size≤p+n∧p≤s.size+4∧keyB s=keyR s n p) (fun us=>s.size-(headI us).toNat) rfl ⟨rfl,rfl,0,s.size,rfl,by omega,by omega,hk⟩ ?_
 rintro us G' μ' ⟨rfl,rfl,p,n,rfl,hn,hp,he⟩
 have h4:=szR_le s p
 repeat' (first|apply v_seq|apply v_region|apply v_nil|apply v_skip|apply v_block|apply v_blk|apply v_exit;(case hp=>rfl)|apply v_take;(case hg=>rfl)|apply v_pass;(case hg|hn|hd=>rfl)|apply v_pure;(case hop=>first|apply p_move<;>rfl|apply p_eq<;>rfl|apply p_lt<;>rfl|apply p_assign<;>rfl|apply p_pickT<;>rfl|apply p_pickF<;>rfl|apply p_not<;>rfl|apply p_extract0<;>rfl|apply p_extract1<;>rfl|apply p_add;(case hx|hy=>rfl);(case h=>omega)|apply p_lenString<;>rfl|fail);(case hd=>rfl)|apply v_condT;(case hc=>rfl)|apply v_cond;(case hc=>rfl);all_goals (intro h;(try simp only [reduceCtorEq,zzz] at h))|apply v_guardB;(case h1|h2=>rfl);all_goals (intro h;(try simp only [reduceCtorEq,zzz] at h))|apply v_callJ (hs:=size_s ?o1 ?o2);(case ha=>rfl);(case o1|o2=>omega);(case hd=>rfl)|apply v_callJ (hs:=plain_s _ _);(case ha|hd=>rfl)|fail)
 ·obtain ⟨m,rfl⟩:=fuel (by omega) hn
  refine v_ret [] (outsA1 rfl rfl) (by repeat (exact List.Sublist.refl _)) ?_
  refine ⟨?_,rfl,rfl⟩
  rw [he,keyR,if_pos (by omega),if_pos (by omega)]
 ·obtain ⟨m,rfl⟩:=fuel (by omega) hn
  refine v_ret [] (outsA1 rfl rfl) (by repeat (exact List.Sublist.refl _)) ?_
  refine ⟨?_,rfl,rfl⟩
  rw [he,keyR,if_pos (by omega),if_neg (by omega),if_neg (by assumption)]
 ·obtain ⟨m,rfl⟩:=fuel (by omega) hn
  refine v_again rfl ⟨rfl,rfl,p+(szR s p).1,m,rfl,by omega,by omega,?_⟩ (by simp [headI];omega)
  rw [he,keyR,if_pos (by omega),if_neg (by omega),if_pos (by assumption)]
 ·refine v_ret [] (outsA1 rfl rfl) (by repeat (exact List.Sublist.refl _)) ?_
  refine ⟨?_,rfl,rfl⟩
  rw [he,keyR_end (by omega)]
theorem refVal_s {G:GH}{s:ByteArray}(hs:s.size≤9223372036854775807):Con Tryz.prog 39 #[.string s] G [] (Just (.bool (valB s)) G):=by
 (refine v_enter Tryz.func39 rfl Tryz.ntmps39 rfl ?_;intro B _)
 repeat' (first|apply v_seq|apply v_region|apply v_nil|apply v_skip|apply v_block|apply v_take;(case hg=>rfl)|apply v_pass;(case hg|hn|hd=>rfl)|apply v_pure;(case hop=>first|apply p_move<;>rfl|apply p_gt<;>rfl|apply p_ge<;>rfl|apply p_assign<;>rfl|apply p_pickT<;>rfl|apply p_pickF<;>rfl|apply p_lenString<;>rfl|fail);(case hd=>rfl)|apply v_condT;(case hc=>rfl)|apply v_cond;(case hc=>rfl);all_goals (intro h;(try simp only [reduceCtorEq,zzz] at h))|apply v_guardB;(case h1|h2=>rfl);all_goals (intro h;(try simp only [reduceCtorEq,zzz] at h))|apply v_callJ (hs:=refBad_s ?o1);(case ha=>rfl);(case o1=>omega);(case hd=>rfl)|fail)
 all_goals try
  (refine v_ret [] (outsA1 rfl rfl) (by repeat (exact List.Sublist.refl _)) ?_
   refine ⟨?_,rfl,rfl⟩
   have:(decide (s.size≤48) && decide (badR s s.size 0<0))=false:=by
    rw [Bool.and_eq_false_iff,decide_eq_false_iff_not,decide_eq_false_iff_not];omega
   rw [valB,this];rfl)
 have hv:valB s=decide (okBytes s):=by
  rw [valB,decide_eq_true (by omega),decide_eq_true (by omega)];rfl
 refine v_loop [3,0] (fun us G' μ'=>G'=G∧μ'=[]∧∃ (p:Nat),us=[Value.int .i64 (p:Int),.string s]∧p≤s.size∧∀ j,j<p→32≤byt s j∧byt s j≠127) (fun us=>s.size-(headI us).toNat) rfl ⟨rfl,rfl,0,rfl,by omega,by omega⟩ ?_
 rintro us G' μ' ⟨rfl,rfl,p,rfl,hp,hno⟩
 repeat' (first|apply v_seq|apply v_region|apply v_nil|apply v_skip|apply v_block|apply v_blk|apply v_exit;(case hp=>rfl)|apply v_take;(case hg=>rfl)|apply v_pass;(case hg|hn|hd=>rfl)|apply v_pure;(case hop=>first|apply p_move<;>rfl|apply p_eq<;>rfl|apply p_lt<;>rfl|apply p_assign<;>rfl|apply p_pickT<;>rfl|apply p_pickF<;>rfl|apply p_add;(case hx|hy=>rfl);(case h=>omega)|apply p_lenString<;>rfl|apply p_indexSn;(case hx|hi=>rfl);all_goals omega|fail);(case hd=>rfl)|apply v_condT;(case hc=>rfl)|apply v_cond;(case hc=>rfl);all_goals (intro h;(try simp only [reduceCtorEq,zzz] at h))|apply v_guardB;(case h1|h2=>rfl);all_goals (intro h;(try simp only [reduceCtorEq,zzz] at h))|fail)
 all_goals try
  (refine v_ret [] (outsA1 rfl rfl) (by repeat (exact List.Sublist.refl _)) ?_
   refine ⟨?_,rfl,rfl⟩
   rw [hv,decide_eq_false]
   intro hm
   have:=hm p (by omega)
   omega)
 all_goals try
  (refine v_again rfl ⟨rfl,rfl,p+1,rfl,by omega,fun j hj=>?_⟩ (by simp [headI];omega)
   by_cases e:j=p
   ·subst e;omega
   ·exact hno j (by omega))
 refine v_ret [] (outsA1 rfl rfl) (by repeat (exact List.Sublist.refl _)) ?_
 refine ⟨?_,rfl,rfl⟩
 rw [hv,decide_eq_true]
 exact fun j hj=>hno j (by omega)
def allF (f:Nat→Bool) (s:ByteArray):Nat→Nat→Bool
 | 0,_=>true
 | n+1,p=>if p<s.size then (if f (Utf8.decode s p).1=true then allF f s n (p+(Utf8.decode s p).2) else false) else true
theorem allF_end {f:Nat→Bool}{s:ByteArray}{n p:Nat}(h:¬ p<s.size):allF f s n p=true:=by
 cases n with
 | zero=>rfl
 | succ n=>unfold allF;rw [if_neg h]
theorem decode_w (s:ByteArray) (p:Nat) (h:p<s.size):1≤(Utf8.decode s p).2∧(Utf8.decode s p).2≤4∧(Utf8.decode s p).1<1114112:=by
 rw [decode_of_sz s p h]
 have h4:=szR_le s p
 have h5:(szR s p).2≤1114111:=by
  have:=byt_lt s p
  unfold szR szFin
  repeat' split
  all_goals (try simp only);omega
 split
 ·simp
 ·simp only;omega
theorem allF_plain (s:ByteArray):∀ n p,s.size≤p+n→(decide (badR s n p<0) && allF (fun r=>decide (plainP (r:Int))) s n p)=keyR s n p
 | 0,p,h=>by simp [badR,allF,keyR]
 | n+1,p,h=>by
  unfold badR allF keyR
  by_cases hp:p<s.size
  ·simp only [if_pos hp]
   rw [decode_of_sz s p hp]
   by_cases hz:(szR s p).1=0
   ·simp only [if_pos hz]
    simp;omega
   ·simp only [if_neg hz]
    by_cases hf:plainP ((szR s p).2:Int)
    ·simp only [decide_eq_true hf,if_true,if_pos hf]
     exact allF_plain s n _ (by omega)
    ·simp [hf]
  ·simp [hp]
theorem szFin_spec {s:ByteArray}{i m low v:Nat}(h:(szFin s i m low v).1≠0):¬ s.size<i+(m+1)∧contB s i m=true∧szFin s i m low v=(m+1,acc s i v m)∧low≤acc s i v m:=by
 by_cases h1:s.size<i+(m+1)
 ·rw [szFin_short h1] at h;exact absurd rfl h
 cases h2:contB s i m with
 | false=>rw [szFin_cont h2] at h;exact absurd rfl h
 | true =>
  by_cases h3:acc s i v m<low∨1114111<acc s i v m∨(55296≤acc s i v m∧acc s i v m≤57343)
  ·rw [szFin_low h3] at h;exact absurd rfl h
  ·exact ⟨h1,rfl,szFin_ok h1 h2 h3,by omega⟩
theorem cont_bytes {s:ByteArray}{i m:Nat}(h:contB s i m=true):∀ k,k<m→128≤byt s (i+(k+1)):=by
 intro k hk
 have h1:(contB s i k && (decide (128≤byt s (i+(k+1))) && decide (byt s (i+(k+1))≤191)))=true:=contB_mono h (k:=k+1) (by omega)
 simp only [Bool.and_eq_true,decide_eq_true_eq] at h1
 exact h1.2.1
theorem szFin_bytes {s:ByteArray}{i m low v:Nat}(hb:128≤byt s i) (hl:128≤low) (h:(szFin s i m low v).1≠0):((decide (32≤(szFin s i m low v).2) && decide ((szFin s i m low v).2≠127))=true↔∀ j,i≤j→j<i+(szFin s i m low v).1→32≤byt s j∧byt s j≠127)∧i+(szFin s i m low v).1≤s.size:=by
 obtain ⟨h1,h2,h3,h4⟩:=szFin_spec h
 rw [h3]
 simp only [Bool.and_eq_true,decide_eq_true_eq]
 refine ⟨⟨fun _ j hj hj2=>?_,fun _=>by omega⟩,by omega⟩
 by_cases e:j=i
 ·subst e;omega
 ·have:=cont_bytes h2 (j-i-1) (by omega)
  rw [show i+(j-i-1+1)=j by omega] at this
  omega
theorem sz_both (s:ByteArray) (p:Nat) (hz:¬ (szR s p).1=0):((decide (32≤(szR s p).2) && decide ((szR s p).2≠127))=true↔∀ i,p≤i→i<p+(szR s p).1→32≤byt s i∧byt s i≠127)∧(p<s.size→p+(szR s p).1≤s.size):=by
 unfold szR at hz ⊢
 by_cases c0:byt s p<128
 ·simp only [if_pos c0] at hz ⊢
  simp only [Bool.and_eq_true,decide_eq_true_eq]
  refine ⟨⟨fun h i h1 h2=>?_,fun h=>h p (by omega) (by omega)⟩,by omega⟩
  obtain rfl:i=p:=by omega
  exact h
 ·simp only [if_neg c0] at hz ⊢
  by_cases c1:194≤byt s p∧byt s p≤223
  ·simp only [if_pos c1] at hz ⊢
   have:=szFin_bytes (by omega) (by omega) hz
   exact ⟨this.1,fun _=>this.2⟩
  ·simp only [if_neg c1] at hz ⊢
   by_cases c2:224≤byt s p∧byt s p≤239
   ·simp only [if_pos c2] at hz ⊢
    have:=szFin_bytes (by omega) (by omega) hz
    exact ⟨this.1,fun _=>this.2⟩
   ·simp only [if_neg c2] at hz ⊢
    by_cases c3:240≤byt s p∧byt s p≤244
    ·simp only [if_pos c3] at hz ⊢
     have:=szFin_bytes (by omega) (by omega) hz
     exact ⟨this.1,fun _=>this.2⟩
    ·simp only [if_neg c3] at hz
     exact absurd trivial hz
theorem sz_bytes (s:ByteArray) (p:Nat) (hz:¬ (szR s p).1=0):((decide (32≤(szR s p).2) && decide ((szR s p).2≠127))=true↔∀ i,p≤i→i<p+(szR s p).1→32≤byt s i∧byt s i≠127):=(sz_both s p hz).1
theorem sz_end (s:ByteArray) (p:Nat) (hz:¬ (szR s p).1=0) (h:p<s.size):p+(szR s p).1≤s.size:=(sz_both s p hz).2 h
theorem allF_val (s:ByteArray):∀ n p,s.size≤p+n→badR s n p<0→(allF (fun r=>decide (32≤r) && decide (r≠127)) s n p=true↔∀ i,p≤i→i<s.size→32≤byt s i∧byt s i≠127)
 | 0,p,h,_=>by
  simp only [allF,true_iff]
  intro i h1 h2;omega
 | n+1,p,h,hb=>by
  unfold badR at hb
  unfold allF
  by_cases hp:p<s.size
  ·rw [if_pos hp] at hb ⊢
   rw [decode_of_sz s p hp]
   by_cases hz:(szR s p).1=0
   ·rw [if_pos hz] at hb;omega
   ·rw [if_neg hz] at hb
    simp only [if_neg hz]
    have ih:=allF_val s n (p+(szR s p).1) (by omega) hb
    have key:((decide (32≤(szR s p).2) && decide ((szR s p).2≠127))=true)↔∀ i,p≤i→i<p+(szR s p).1→32≤byt s i∧byt s i≠127:=sz_bytes s p hz
    by_cases hf:(decide (32≤(szR s p).2) && decide ((szR s p).2≠127))=true
    ·rw [if_pos hf,ih]
     have hk:=key.1 hf
     constructor
     ·intro hh i h1 h2
      by_cases hi:i<p+(szR s p).1
      ·exact hk i h1 hi
      ·exact hh i (by omega) h2
     ·intro hh i h1 h2
      exact hh i (by omega) h2
    ·rw [if_neg hf]
     constructor
     ·intro hh;cases hh
     ·intro hh
      have:=key.2 fun i h1 h2=>hh i h1 (by have:=sz_end s p hz hp;omega)
      rw [this] at hf;exact absurd rfl hf
  ·rw [if_neg hp]
   simp only [true_iff]
   intro i h1 h2;omega
def laysDecode_ren:Go.Shelf.Ren:=⟨fun|197=>107|260=>108|n=>n,fun|0=>0|3=>3|4=>4|5=>5|9=>9|21=>21|46=>113|105=>151|119=>153|138=>155|139=>156|n=>n,fun|3=>0|4=>1|n=>n⟩
theorem laysDecode:Lays.n197 Tryz.prog laysDecode_ren where
 mixed:=by kernel_rfl
 f197:=Tryz.func107.trans (congrArg some (by kernel_rfl))
 f260:=Tryz.func108.trans (congrArg some (by kernel_rfl))
 t0:=Tryz.underlying0
 a0:=Tryz.isAgg0
 z0:=Tryz.sizeOf0
 v0:=Tryz.zeroValue0
 t3:=Tryz.underlying3
 a3:=Tryz.isAgg3
 z3:=Tryz.sizeOf3
 v3:=Tryz.zeroValue3
 t4:=Tryz.underlying4
 a4:=Tryz.isAgg4
 z4:=Tryz.sizeOf4
 v4:=Tryz.zeroValue4
 t5:=Tryz.underlying5
 a5:=Tryz.isAgg5
 z5:=Tryz.sizeOf5
 v5:=Tryz.zeroValue5
 t9:=Tryz.underlying9
 a9:=Tryz.isAgg9
 z9:=Tryz.sizeOf9
 v9:=Tryz.zeroValue9
 t21:=Tryz.underlying21
 a21:=Tryz.isAgg21
 z21:=Tryz.sizeOf21
 v21:=Tryz.zeroValue21
 t46:=Tryz.underlying113
 a46:=Tryz.isAgg113
 z46:=Tryz.sizeOf113
 v46:=Tryz.zeroValue113
 t105:=Tryz.underlying151
 a105:=Tryz.isAgg151
 z105:=Tryz.sizeOf151
 v105:=Tryz.zeroValue151
 t119:=Tryz.underlying153
 a119:=Tryz.isAgg153
 z119:=Tryz.sizeOf153
 t138:=Tryz.underlying155
 a138:=Tryz.isAgg155
 z138:=Tryz.sizeOf155
 v138:=Tryz.zeroValue155
 t139:=Tryz.underlying156
 a139:=Tryz.isAgg156
 z139:=Tryz.sizeOf156
 v139:=Tryz.zeroValue156
 g3:=by kernel_rfl
 g4:=by kernel_rfl
def TabsG (G:GH):Prop := ∀ w:World,(∀ b o,G b=some o→w.heap[b]? = some o)→Lib.Utf8Tabs (laysDecode_ren.g 3) (laysDecode_ren.g 4) w
theorem TabsG.le {G G':GH}(h:TabsG G) (hle:GH.le G G'):TabsG G':=fun w hw=>h w fun b o hb=>hw b o (hle b o hb)
attribute [local semireducible] Con in
theorem Con.ofCalls {P:Program}{f:FuncId}{args:Array Value}{G:GH}{μ:OH}{Φ:Value→GH→OH→Prop}(h:∀ w,Mem G μ w→Calls P f args w fun e w'=>∃ v,e=.returned v∧∃ G' μ',Step G μ w G' μ' w'∧Φ v G' μ'):Con P f args G μ Φ:=by
 intro w hw
 exact (h w hw).mono fun e w' hq=>by
  obtain ⟨v,rfl,hv⟩:=hq
  exact ⟨v,rfl,hv⟩
theorem Step.ofBelow {G:GH}{w w':World}(hw:Mem G [] w) (hb:Below w.heap.size w w'):Step G [] w G [] w' :=
 ⟨⟨fun b o h=>by rw [hb.block b (lt_of_heap (hw.g b o h))];exact hw.g b o h,fun _ _ h=>(by cases h),List.nodup_nil,fun _ _ h=>(by cases h)⟩,GH.le_refl _,hb.os,hb.tape,hb.output,hb.size,fun b h _=>hb.block b h,fun _ _ h=>(by cases h),fun b o h=>.inl ⟨o,h⟩⟩
theorem decode_s {G:GH}(hT:TabsG G) (s:ByteArray):Con Tryz.prog 107 #[.string s] G [] (Just (.tuple [.int .i32 ((Lib.decodeGo s).1:Int),.int .i64 ((Lib.decodeGo s).2:Int)].toArray) G):=by
 refine Con.ofCalls fun w hw=>?_
 refine (Any.utf8_DecodeRuneInString laysDecode s w (hT w hw.g)).mono ?_
 rintro e w' ⟨rfl,hb⟩
 exact ⟨_,rfl,G,[],Step.ofBelow hw hb,rfl,rfl,rfl⟩
end Go.Proofs.YtlkakbjcolgjbaaGreatDoor
/-
  Texts as keys: their rank, which keeps the order; comparisons of texts.
-/
namespace Go.Proofs.YtlkakbjcolgjbaaGreatDoor
open Go.Vx Go.ChangeShapes Go.WideShapes Go.ChangeAt Go.RowKit
def knL:Nat→List UInt8→Nat
 | 0,_=>0
 | _+1,[]=>0
 | n+1,b::l=>(b.toNat+1)*257 ^ n+knL n l
theorem knL_lt:∀ (n:Nat) (l:List UInt8),knL n l<257 ^ n
 | 0,_=>by simp [knL]
 | n+1,[]=>by simp only [knL];exact Nat.pow_pos (by omega)
 | n+1,b::l=>by
  have ih:=knL_lt n l
  have hb:=b.toNat_lt
  have h1:(b.toNat+1)*257 ^ n≤256*257 ^ n:=Nat.mul_le_mul_right _ (by omega)
  have h2:257 ^ (n+1)=256*257 ^ n+257 ^ n:=by rw [Nat.pow_succ];omega
  simp only [knL]
  omega
theorem knL_cmp:∀ (n:Nat) (a b:List UInt8),a.length≤n→b.length≤n→(Op.bytesLess a b=decide (knL n a<knL n b))∧(knL n a=knL n b↔a=b)∧Lib.compareBytes a b=if knL n a<knL n b then -1 else if knL n b<knL n a then 1 else 0
 | n,[],[],_,_=>by simp [Op.bytesLess,Lib.compareBytes]
 | n+1,[],b::y,_,hb=>by
  have:0<knL (n+1) (b::y):=by
   simp only [knL]
   have:=Nat.mul_pos (show 0<b.toNat+1 by omega) (Nat.pow_pos (n:=n) (show 0<257 by omega))
   omega
  have h0:knL (n+1) []=0:=rfl
  rw [h0]
  refine ⟨by simp [Op.bytesLess,this],⟨fun h=>by omega,fun h=>by cases h⟩,by simp [Lib.compareBytes,this]⟩
 | n+1,a::x,[],ha,_=>by
  have:0<knL (n+1) (a::x):=by
   simp only [knL]
   have:=Nat.mul_pos (show 0<a.toNat+1 by omega) (Nat.pow_pos (n:=n) (show 0<257 by omega))
   omega
  have h0:knL (n+1) []=0:=rfl
  rw [h0]
  refine ⟨by simp [Op.bytesLess],⟨fun h=>by omega,fun h=>by cases h⟩,by simp [Lib.compareBytes,this]⟩
 | n+1,a::x,b::y,ha,hb=>by
  obtain ⟨i1,i2,i3⟩:=knL_cmp n x y (by simpa using ha) (by simpa using hb)
  have l1:=knL_lt n x
  have l2:=knL_lt n y
  have e1:knL (n+1) (a::x)=(a.toNat+1)*257 ^ n+knL n x:=rfl
  have e2:knL (n+1) (b::y)=(b.toNat+1)*257 ^ n+knL n y:=rfl
  rcases Nat.lt_trichotomy a.toNat b.toNat with h|h|h
  ·have h3:(a.toNat+1)*257 ^ n+257 ^ n≤(b.toNat+1)*257 ^ n:=by
    have:=Nat.mul_le_mul_right (257 ^ n) (show a.toNat+1+1≤b.toNat+1 by omega)
    rw [Nat.add_mul (a.toNat+1) 1,Nat.one_mul] at this
    exact this
   have hlt:knL (n+1) (a::x)<knL (n+1) (b::y):=by omega
   have hab:a<b:=UInt8.lt_iff_toNat_lt.2 h
   refine ⟨by simp [Op.bytesLess,hab,hlt],⟨fun h=>by omega,fun h=>by injection h with h1;subst h1;omega⟩,by simp [Lib.compareBytes,hab,hlt]⟩
  ·have hab:a=b:=UInt8.toNat_inj.1 h
   subst hab
   have hlt:(knL (n+1) (a::x)<knL (n+1) (a::y))↔knL n x<knL n y:=by omega
   have hlt2:(knL (n+1) (a::y)<knL (n+1) (a::x))↔knL n y<knL n x:=by omega
   have hirr:¬ a<a:=by simp
   refine ⟨by simp [Op.bytesLess,hlt,i1],⟨fun h=>by rw [i2.1 (by omega)],fun h=>by rw [h]⟩,?_⟩
   simp only [Lib.compareBytes,hirr,if_false,i3,hlt,hlt2]
  ·have h3:(b.toNat+1)*257 ^ n+257 ^ n≤(a.toNat+1)*257 ^ n:=by
    have:=Nat.mul_le_mul_right (257 ^ n) (show b.toNat+1+1≤a.toNat+1 by omega)
    rw [Nat.add_mul (b.toNat+1) 1,Nat.one_mul] at this
    exact this
   have hlt:knL (n+1) (b::y)<knL (n+1) (a::x):=by omega
   have hba:b<a:=UInt8.lt_iff_toNat_lt.2 h
   have hab:¬ a<b:=by rw [UInt8.lt_iff_toNat_lt];omega
   have hne:(a == b)=false:=by
    rw [beq_eq_false_iff_ne]
    rintro rfl
    omega
   have hnl:¬ knL (n+1) (a::x)<knL (n+1) (b::y):=by omega
   refine ⟨by simp [Op.bytesLess,hab,hne,hnl],⟨fun h=>by omega,fun h=>by injection h with h1;subst h1;omega⟩,by simp [Lib.compareBytes,hab,hba,hlt,hnl]⟩
def kn (s:ByteArray):Int:=(knL 200 s.data.toList:Nat)
theorem kn_len {s:ByteArray}(h:s.size≤200):s.data.toList.length≤200:=by rw [Array.length_toList];exact h
theorem kn_inj {a b:ByteArray}(ha:a.size≤200) (hb:b.size≤200):kn a=kn b↔a=b:=by
 unfold kn
 rw [Int.natCast_inj,(knL_cmp 200 _ _ (kn_len ha) (kn_len hb)).2.1]
 constructor
 ·intro h
  obtain ⟨⟨a⟩⟩:=a
  obtain ⟨⟨b⟩⟩:=b
  simp only at h
  rw [h]
 ·rintro rfl;rfl
theorem ba_toList (s:ByteArray):s.toList=s.data.toList:=ByteArray.toList_eq s
theorem kn_ops {a b:ByteArray}(ha:a.size≤200) (hb:b.size≤200):Op.bytesLess a.data.toList b.data.toList=decide (kn a<kn b)∧(a.data.toList == b.data.toList)=decide (kn a=kn b):=by
 have h:=knL_cmp 200 _ _ (kn_len ha) (kn_len hb)
 unfold kn
 simp only [Int.ofNat_lt,Int.natCast_inj]
 refine ⟨h.1,?_⟩
 rw [Bool.eq_iff_iff,beq_iff_eq,decide_eq_true_iff,h.2.1]
section
variable {P:Program}{ty:TypeId}{σ:Env}{t t':TypeId}{x y:Operand}{a b:ByteArray}
attribute [local semireducible] PureOp
theorem kn_ge {p q:Int}:(!decide (p<q))=decide (q≤p):=by
 rw [Bool.eq_iff_iff,Bool.not_eq_true',decide_eq_true_iff,decide_eq_false_iff_not]
 omega
theorem p_geK (hx:Env.ev σ x=some (.string a)) (hy:Env.ev σ y=some (.string b)) (ha:a.size≤200) (hb:b.size≤200):PureOp P (.binOp .geq t x y t') ty σ (.bool (dec (kn b≤kn a))):=by
 intro dst pos af g ρ hρ w
 obtain ⟨h1,h2⟩:=kn_ops ha hb
 have e:binOp .geq t (.string a) (.string b)=(pure (.bool (dec (kn b≤kn a))):Sem Value):=by
  simp only [binOp,Op.stringOp,ba_toList,h1,h2,dec_eq,kn_ge]
 simp [execOp,hρ _ _ hx,hρ _ _ hy,eqGuard,e]
end
theorem p_neK {P:Program}{ty:TypeId}{σ:Env}{t t':TypeId}{x y:Operand}{a b:ByteArray}(hx:Env.ev σ x=some (.string a)) (hy:Env.ev σ y=some (.string b)) (ha:a.size≤200) (hb:b.size≤200):PureOp P (.binOp .neq t x y t') ty σ (.bool (!dec (kn a=kn b))):=by
 have h:=p_neS (P:=P) (ty:=ty) (t:=t) (t':=t') hx hy
 have e:dec (a=b)=dec (kn a=kn b):=by rw [Bool.eq_iff_iff,dec_true,dec_true,kn_inj ha hb]
 rwa [e] at h
def cmpK (a b:Int):Int:=if a<b then -1 else if b<a then 1 else 0
end Go.Proofs.YtlkakbjcolgjbaaGreatDoor
/-
  Texts (layer 5), the fourth part: the program's walks.
-/
namespace Go.Proofs.YtlkakbjcolgjbaaGreatDoor
open Go.Vx Go.ChangeShapes Go.WideShapes Go.ChangeAt Go.RowKit
theorem byt_extract {s:ByteArray}{i k:Nat}(h:i+k<s.size):byt (s.extract i s.size) k=byt s (i+k):=by
 have hs:(s.extract i s.size).size=s.size-i:=by simp
 rw [byt_eq (by omega),byt_eq h]
 congr 1
 simp [ByteArray.getElem_extract]
theorem decode_extract {s:ByteArray}{i:Nat}(h:i<s.size):Utf8.decode (s.extract i s.size) 0=Utf8.decode s i:=by
 have hs:(s.extract i s.size).size=s.size-i:=by simp
 rw [decode_byt,decode_byt,hs]
 have e0:=byt_extract (s:=s) (i:=i) (k:=0) h
 rw [Nat.add_zero] at e0
 simp only [Nat.zero_add,e0]
 by_cases h1:i+1<s.size
 ·have e1:=byt_extract (s:=s) (i:=i) (k:=1) h1
  rw [e1]
  have c1:(1<s.size-i)↔(i+1<s.size):=by omega
  simp only [c1]
  by_cases h2:i+2<s.size
  ·have e2:=byt_extract (s:=s) (i:=i) (k:=2) h2
   rw [e2]
   have c2:(2<s.size-i)↔(i+2<s.size):=by omega
   simp only [c2]
   by_cases h3:i+3<s.size
   ·have e3:=byt_extract (s:=s) (i:=i) (k:=3) h3
    rw [e3]
    have c3:(3<s.size-i)↔(i+3<s.size):=by omega
    simp only [c3]
   ·have c3:¬ (3<s.size-i):=by omega
    simp only [h3,c3,false_and,and_false,if_false]
  ·have c2:¬ (2<s.size-i):=by omega
   simp only [h2,c2,false_and,and_false,if_false]
 ·have c1:¬ (1<s.size-i):=by omega
  simp only [h1,c1,false_and,and_false,if_false]
theorem decodeGo_extract {s:ByteArray}{i:Nat}(h:i<s.size):Lib.decodeGo (s.extract i s.size)=Utf8.decode s i:=by
 have hs:(s.extract i s.size).size=s.size-i:=by simp
 rw [Lib.decodeGo,if_neg (by omega),decode_extract h]
theorem sz_one {s:ByteArray}{p:Nat}(h:(szR s p).1=1):(szR s p).2<128:=by
 unfold szR at h ⊢
 by_cases c0:byt s p<128
 ·rw [if_pos c0];exact c0
 ·rw [if_neg c0] at h
  exfalso
  have key:∀ m low v,0<m→(szFin s p m low v).1≠1:=by
   intro m low v hm e
   obtain ⟨_,_,h3,_⟩:=szFin_spec (s:=s) (i:=p) (m:=m) (low:=low) (v:=v) (by omega)
   rw [h3] at e
   simp only at e
   omega
  split at h
  ·exact key _ _ _ (by omega) h
  ·split at h
   ·exact key _ _ _ (by omega) h
   ·split at h
    ·exact key _ _ _ (by omega) h
    ·cases h
theorem bad_s {G:GH}(hT:TabsG G) {s:ByteArray}(hs:s.size≤9223372036854775807):Con Tryz.prog 106 #[.string s] G [] (Just (.int .i64 (badR s s.size 0)) G):=by
 apply Con.just
 (refine v_enter Tryz.func106 rfl Tryz.ntmps106 rfl ?_;intro B _)
 repeat' (first|apply v_seq|apply v_region|apply v_nil|apply v_block|apply v_pure;(case hop=>first|apply p_move<;>rfl|apply p_assign<;>rfl|fail);(case hd=>rfl)|apply v_rangeS;(case hx|hd=>rfl);intro b|fail)
 refine v_loopI (ι:=Nat×Nat) [8,0] (fun x us G' μ'=>G'=G∧∃ b,us=[Value.pointer (some ⟨b,0,none⟩),.string s]∧μ'=[(b,.stringIter s x.1)]∧s.size≤x.1+x.2∧badR s s.size 0=badR s x.2 x.1) (fun x=>s.size-x.1) rfl (0,s.size) ⟨rfl,_,rfl,rfl,by simp,rfl⟩ ?_
 rintro ⟨p,n⟩ us G' μ' ⟨rfl,b,rfl,rfl,hn,he⟩
 simp only at hn he
 by_cases hp:p<s.size
 ·obtain ⟨m,rfl⟩:=fuel hp hn
  have hw:=decode_w s p hp
  have hd:=decode_of_sz s p hp
  have hd2:=decodeGo_extract hp
  have ep:((p:Nat):Int).toNat=p:=Int.toNat_natCast p
  have hcall:=decode_s hT (s.extract p s.size)
  rw [hd2] at hcall
  repeat' (first|apply v_seq|apply v_region|apply v_nil|apply v_skip|apply v_block|apply v_blk|apply v_exit;(case hp=>rfl)|apply v_pure;(case hop=>first|apply p_move<;>rfl|apply p_eq<;>rfl|apply p_ne<;>rfl|apply p_assign<;>rfl|apply p_extract0<;>rfl|apply p_extract1<;>rfl|apply p_extract2<;>rfl|apply p_sliceStrL;(case hx|hl=>rfl);all_goals omega|fail);(case hd=>rfl)|apply v_condT;(case hc=>rfl)|apply v_cond;(case hc=>rfl);all_goals (intro h;(try simp only [reduceCtorEq,zzz] at h))|apply v_nextS;(case hx=>rfl);(case hb=>repeat exact mhd _);(case hp=>assumption);(case hu=>exact Upd.here _ _);(case hd=>rfl)|apply v_callJ (hs:=hcall);(case ha|hd=>rfl)|fail)
  ·by_cases hz:(szR s p).1=0
   ·rw [if_pos hz] at hd
    simp only [hd] at h
    omega
   ·rw [if_neg hz] at hd
    refine v_againI (p+(szR s p).1,m) rfl ⟨rfl,b,rfl,by rw [hd],by simp only;rw [hd] at hw;simp only at hw;omega,?_⟩ (by simp only;rw [hd] at hw;simp only at hw;omega)
    rw [he,badR,if_pos hp,if_neg hz]
  ·refine v_ret [] (outsA1 rfl rfl) (by repeat (exact List.nil_sublist _)) ?_
   refine ⟨?_,rfl⟩
   have hz:(szR s p).1=0:=by
    apply Classical.byContradiction
    intro hz
    rw [if_neg hz] at hd
    rename_i h1
    rw [hd] at h h1
    simp only at h h1
    have:=sz_one (s:=s) (p:=p) (by omega)
    omega
   rw [he,badR,if_pos hp,if_pos hz]
  ·by_cases hz:(szR s p).1=0
   ·rw [if_pos hz] at hd
    rw [hd] at h
    simp at h
   ·rw [if_neg hz] at hd
    refine v_againI (p+(szR s p).1,m) rfl ⟨rfl,b,rfl,by rw [hd],by simp only;rw [hd] at hw;simp only at hw;omega,?_⟩ (by simp only;rw [hd] at hw;simp only at hw;omega)
    rw [he,badR,if_pos hp,if_neg hz]
 ·repeat' (first|apply v_seq|apply v_region|apply v_nil|apply v_exit;(case hp=>rfl)|apply v_pure;(case hop=>first|apply p_assign<;>rfl|apply p_extract0<;>rfl|fail);(case hd=>rfl)|apply v_condF;(case hc=>rfl)|apply v_read;(case hop=>(apply r_nextEnd;(case hx=>rfl);(case hb=>repeat exact mhd _);(case hp=>assumption)));(case hd=>rfl)|fail)
  refine v_ret [] (outsA1 rfl rfl) (by repeat (exact List.nil_sublist _)) ?_
  refine ⟨?_,rfl⟩
  rw [he,badR_end hp]
theorem whole_s {G:GH}(hT:TabsG G) {s:ByteArray}(hs:s.size≤9223372036854775807):Con Tryz.prog 100 #[.string s] G [] (Just (.bool (decide (badR s s.size 0<0))) G):=by
 (refine v_enter Tryz.func100 rfl Tryz.ntmps100 rfl ?_;intro B _)
 repeat' (first|apply v_seq|apply v_region|apply v_nil|apply v_pure;(case hop=>first|apply p_move<;>rfl|apply p_lt<;>rfl|apply p_assign<;>rfl);(case hd=>rfl)|apply v_callJ (hs:=bad_s ?o1 ?o2);(case ha=>rfl);(case o1=>exact hT);(case o2=>exact hs);(case hd=>rfl)|fail)
 refine v_ret [] (outsA1 rfl rfl) (by repeat (exact List.Sublist.refl _)) ?_
 exact ⟨by rw [dec_eq],rfl,rfl⟩
theorem plainR_s (G:GH) (r:Int):Con Tryz.prog 102 #[.int .i32 r] G [] (Just (.bool (decide (plainP r))) G):=by
 (refine v_enter Tryz.func102 rfl Tryz.ntmps102 rfl ?_;intro B _)
 repeat' (first|apply v_seq|apply v_region|apply v_nil|apply v_skip|apply v_block|apply v_blk|apply v_take;(case hg=>rfl)|apply v_pass;(case hg|hn|hd=>rfl)|apply v_pure;(case hop=>first|apply p_move<;>rfl|apply p_eq<;>rfl|apply p_ne<;>rfl|apply p_le<;>rfl|apply p_ge<;>rfl|apply p_assign<;>rfl|apply p_pickT<;>rfl|apply p_pickF<;>rfl|fail);(case hd=>rfl)|apply v_condF;(case hc=>rfl)|apply v_cond;(case hc=>rfl);all_goals (intro h;(try simp only [reduceCtorEq,zzz] at h);try (exfalso;omega))|apply v_guardB;(case h1|h2=>rfl);all_goals (intro h;(try simp only [reduceCtorEq,zzz] at h);try (exfalso;omega))|fail)
 all_goals
  (refine v_ret [] (outsA1 rfl rfl) (by repeat (exact List.Sublist.refl _)) ?_
   refine ⟨?_,rfl,rfl⟩
   first
    | rw [decide_eq_true (by unfold plainP;omega)]
    | rw [decide_eq_false (by unfold plainP;omega)]
    |(by_cases hr:r=65533
      ·rw [dec_pos hr,decide_eq_false (by unfold plainP;omega)];rfl
      ·rw [dec_neg hr,decide_eq_true (by unfold plainP;omega)];rfl))
theorem valR_s (G:GH) (r:Nat):Con Tryz.prog 103 #[.int .i32 (r:Int)] G [] (Just (.bool (decide (32≤r) && decide (r≠127))) G):=by
 (refine v_enter Tryz.func103 rfl Tryz.ntmps103 rfl ?_;intro B _)
 repeat' (first|apply v_seq|apply v_region|apply v_nil|apply v_take;(case hg=>rfl)|apply v_pass;(case hg|hn|hd=>rfl)|apply v_pure;(case hop=>first|apply p_move<;>rfl|apply p_ne<;>rfl|apply p_ge<;>rfl|apply p_assign<;>rfl|apply p_pickT<;>rfl|apply p_pickF<;>rfl|fail);(case hd=>rfl)|apply v_guardB;(case h1|h2=>rfl);all_goals (intro h;(try simp only [reduceCtorEq,zzz] at h))|fail)
 all_goals
  (refine v_ret [] (outsA1 rfl rfl) (by repeat (exact List.Sublist.refl _)) ?_
   refine ⟨?_,rfl,rfl⟩
   by_cases h2:r=127
   ·first
     | rw [dec_pos (show (r:Int)=127 by omega),decide_eq_false (p:=r≠127) (by omega),Bool.and_false];rfl
     | rw [decide_eq_false (p:=r≠127) (by omega),Bool.and_false]
   ·first
     | rw [dec_neg (show ¬ (r:Int)=127 by omega),decide_eq_true (p:=r≠127) (by omega),decide_eq_true (p:=32≤r) (by omega)];rfl
     | rw [decide_eq_false (p:=32≤r) (by omega),Bool.false_and])
theorem all_s {G:GH}{s:ByteArray}(hs:s.size≤9223372036854775807) (fid:FuncId) [Callable Tryz.prog fid] (f:Nat→Bool) (hf:∀ (r:Nat),Con Tryz.prog fid #[.int .i32 (r:Int)] G [] (Just (.bool (f r)) G)) :
 Con Tryz.prog 101 #[.string s,.func (.func fid) #[] #[]] G [] (Just (.bool (allF f s s.size 0)) G):=by
 apply Con.just
 (refine v_enter Tryz.func101 rfl Tryz.ntmps101 rfl ?_;intro B _)
 repeat' (first|apply v_seq|apply v_region|apply v_nil|apply v_block|apply v_pure;(case hop=>first|apply p_move<;>rfl|apply p_assign<;>rfl|fail);(case hd=>rfl)|apply v_rangeS;(case hx|hd=>rfl);intro b|fail)
 refine v_loopI (ι:=Nat×Nat) [8,1] (fun x us G' μ'=>G'=G∧∃ b,us=[Value.pointer (some ⟨b,0,none⟩),.func (.func fid) #[] #[]]∧μ'=[(b,.stringIter s x.1)]∧s.size≤x.1+x.2∧allF f s s.size 0=allF f s x.2 x.1) (fun x=>s.size-x.1) rfl (0,s.size) ⟨rfl,_,rfl,rfl,by simp,rfl⟩ ?_
 rintro ⟨p,n⟩ us G' μ' ⟨rfl,b,rfl,rfl,hn,he⟩
 simp only at hn he
 by_cases hp:p<s.size
 ·obtain ⟨m,rfl⟩:=fuel hp hn
  have hw:=decode_w s p hp
  repeat' (first|apply v_seq|apply v_region|apply v_nil|apply v_skip|apply v_block|apply v_blk|apply v_pure;(case hop=>first|apply p_move<;>rfl|apply p_assign<;>rfl|apply p_not<;>rfl|apply p_extract0<;>rfl|apply p_extract2<;>rfl|fail);(case hd=>rfl)|apply v_condT;(case hc=>rfl)|apply v_cond;(case hc=>rfl);all_goals (intro h;(try simp only [reduceCtorEq,zzz] at h))|apply v_nextS;(case hx=>rfl);(case hb=>repeat exact mhd _);(case hp=>assumption);(case hu=>exact Upd.here _ _);(case hd=>rfl)|apply v_callFJ0 (hs:=hf (Utf8.decode s p).1);(case hx|ha|hd=>rfl)|fail)
  ·refine v_ret [] (outsA1 rfl rfl) (by repeat (exact List.nil_sublist _)) ?_
   refine ⟨?_,rfl⟩
   rw [he,allF,if_pos hp,if_neg (by rw [h];simp)]
  ·refine v_againI (p+(Utf8.decode s p).2,m) rfl ⟨rfl,b,rfl,rfl,by simp only;omega,?_⟩ (by simp only;omega)
   rw [he,allF,if_pos hp,if_pos (by assumption)]
 ·repeat' (first|apply v_seq|apply v_region|apply v_nil|apply v_exit;(case hp=>rfl)|apply v_pure;(case hop=>first|apply p_assign<;>rfl|apply p_extract0<;>rfl|fail);(case hd=>rfl)|apply v_condF;(case hc=>rfl)|apply v_read;(case hop=>(apply r_nextEnd;(case hx=>rfl);(case hb=>repeat exact mhd _);(case hp=>assumption)));(case hd=>rfl)|fail)
  refine v_ret [] (outsA1 rfl rfl) (by repeat (exact List.nil_sublist _)) ?_
  refine ⟨?_,rfl⟩
  rw [he,allF_end hp]
theorem key_s {G:GH}(hT:TabsG G) {s:ByteArray}(hs:s.size≤9223372036854775807):Con Tryz.prog 85 #[.string s] G [] (Just (.bool (keyB s)) G):=by
 have hall:=all_s (G:=G) hs 102 (fun r=>decide (plainP (r:Int))) (fun r=>plainR_s G r)
 have hk:=allF_plain s s.size 0 (by omega)
 (refine v_enter Tryz.func85 rfl Tryz.ntmps85 rfl ?_;intro B _)
 repeat' (first|apply v_seq|apply v_region|apply v_nil|apply v_take;(case hg=>rfl)|apply v_pass;(case hg|hn|hd=>rfl)|apply v_pure;(case hop=>first|apply p_move<;>rfl|apply p_le<;>rfl|apply p_assign<;>rfl|apply p_pickT<;>rfl|apply p_pickF<;>rfl|apply p_lenString<;>rfl|apply p_neS<;>rfl|fail);(case hd=>rfl)|apply v_guardB;(case h1|h2=>rfl);all_goals (intro h;(try simp only [reduceCtorEq,zzz] at h))|apply v_callJ (hs:=whole_s hT hs);(case ha|hd=>rfl)|apply v_callJ (hs:=hall);(case ha|hd=>rfl)|fail)
 ·refine v_ret [] (outsA1 rfl rfl) (by repeat (exact List.Sublist.refl _)) ?_
  refine ⟨?_,rfl,rfl⟩
  have h0:1≤s.size:=by
   apply Classical.byContradiction
   intro h0
   have:s=ByteArray.empty:=by
    apply ByteArray.ext
    apply Array.eq_empty_of_size_eq_zero
    show s.size=0
    omega
   exact absurd this (by assumption)
  rw [keyB,← hk,decide_eq_true h0,decide_eq_true (by omega),decide_eq_true (by assumption)];rfl
 ·refine v_ret [] (outsA1 rfl rfl) (by repeat (exact List.Sublist.refl _)) ?_
  refine ⟨?_,rfl,rfl⟩
  rw [keyB,← hk,decide_eq_false (p:=badR s s.size 0<0) (by assumption),Bool.false_and,Bool.and_false]
 ·refine v_ret [] (outsA1 rfl rfl) (by repeat (exact List.Sublist.refl _)) ?_
  refine ⟨?_,rfl,rfl⟩
  rw [keyB,decide_eq_false (p:=s.size≤24) (by omega),Bool.and_false,Bool.false_and]
 ·refine v_ret [] (outsA1 rfl rfl) (by repeat (exact List.Sublist.refl _)) ?_
  refine ⟨?_,rfl,rfl⟩
  have h0:s.size=0:=by rw [h];rfl
  rw [keyB,decide_eq_false (p:=1≤s.size) (by omega),Bool.false_and,Bool.false_and]
theorem val_s {G:GH}(hT:TabsG G) {s:ByteArray}(hs:s.size≤9223372036854775807):Con Tryz.prog 87 #[.string s] G [] (Just (.bool (valB s)) G):=by
 have hall:=all_s (G:=G) hs 103 (fun r=>decide (32≤r) && decide (r≠127)) (fun r=>valR_s G r)
 have hv:=allF_val s s.size 0 (by omega)
 (refine v_enter Tryz.func87 rfl Tryz.ntmps87 rfl ?_;intro B _)
 repeat' (first|apply v_seq|apply v_region|apply v_nil|apply v_take;(case hg=>rfl)|apply v_pass;(case hg|hn|hd=>rfl)|apply v_pure;(case hop=>first|apply p_move<;>rfl|apply p_le<;>rfl|apply p_assign<;>rfl|apply p_pickT<;>rfl|apply p_pickF<;>rfl|apply p_lenString<;>rfl|fail);(case hd=>rfl)|apply v_guardB;(case h1|h2=>rfl);all_goals (intro h;(try simp only [reduceCtorEq,zzz] at h))|apply v_callJ (hs:=whole_s hT hs);(case ha|hd=>rfl)|apply v_callJ (hs:=hall);(case ha|hd=>rfl)|fail)
 ·refine v_ret [] (outsA1 rfl rfl) (by repeat (exact List.Sublist.refl _)) ?_
  refine ⟨?_,rfl,rfl⟩
  have hv':=hv (by assumption)
  have e:allF (fun r=>decide (32≤r) && decide (r≠127)) s s.size 0=decide (okBytes s):=by
   rw [Bool.eq_iff_iff,hv',decide_eq_true_iff]
   exact ⟨fun h i hi=>h i (by omega) hi,fun h i _ hi=>h i hi⟩
  rw [valB,e,decide_eq_true (p:=s.size≤48) (by omega),decide_eq_true (p:=badR s s.size 0<0) (by assumption)];rfl
 ·refine v_ret [] (outsA1 rfl rfl) (by repeat (exact List.Sublist.refl _)) ?_
  refine ⟨?_,rfl,rfl⟩
  rw [valB,decide_eq_false (p:=badR s s.size 0<0) (by assumption),Bool.and_false,Bool.false_and]
 ·refine v_ret [] (outsA1 rfl rfl) (by repeat (exact List.Sublist.refl _)) ?_
  refine ⟨?_,rfl,rfl⟩
  rw [valB,decide_eq_false (p:=s.size≤48) (by omega),Bool.false_and,Bool.false_and]
structure Cm where
 kind:Int
 client:Int
 seq:Int
 key:ByteArray
 val:ByteArray
 old:ByteArray
 node:Int
def Cm.cells (c:Cm):List Value:=[.int .i64 c.kind,.int .i64 c.client,.int .i64 c.seq,.string c.key,.string c.val,.string c.old,.int .i64 c.node]
def Cm.ok (c:Cm):Prop:=(Lit.int .i64 c.kind).wf=true∧(Lit.int .i64 c.client).wf=true∧(Lit.int .i64 c.seq).wf=true∧c.key.size≤maxLen∧c.val.size≤maxLen∧c.old.size≤maxLen∧(Lit.int .i64 c.node).wf=true
def cmdFields (kind:Int):Int×Bool :=
 if kind=1∨kind=6 then (0,true) else if kind=2 then (11,true) else if kind=3∨kind=4 then (3,true) else if kind=5 then (15,true) else if kind=7∨kind=8 then (16,true) else (0,false)
theorem fields_s (G:GH) (kind:Int):Con Tryz.prog 49 #[.int .i64 kind] G [] (Just (.tuple [.int .i64 (cmdFields kind).1,.bool (cmdFields kind).2].toArray) G):=by
 (refine v_enter Tryz.func49 rfl Tryz.ntmps49 rfl ?_;intro B _)
 repeat' (first|apply v_seq|apply v_region|apply v_nil|apply v_skip|apply v_block|apply v_blk|apply v_pure;(case hop=>first|apply p_move<;>rfl|apply p_eq<;>rfl|apply p_assign<;>rfl|fail);(case hd=>rfl)|apply v_cond;(case hc=>rfl);all_goals (intro h;(try simp only [reduceCtorEq,zzz] at h);try (exfalso;omega))|fail)
 all_goals
  (refine v_ret [] (outsA2 rfl rfl rfl) (by repeat (exact List.Sublist.refl _)) ?_
   refine ⟨?_,rfl,rfl⟩
   unfold cmdFields
   (repeat' split)<;>first|rfl|(exfalso;omega))
def partFn (f:FuncId):Value:=.func (.func f) #[] #[]
def partL:Nat→List Value
 | 0 => [.int .i64 1,.int .i64 8,.nilFunc,partFn 83]
 | 1 => [.int .i64 1,.int .i64 4294967296,.nilFunc,partFn 84]
 | 2 => [.int .i64 2,.int .i64 0,partFn 85,partFn 86]
 | 3 => [.int .i64 4,.int .i64 0,partFn 87,partFn 88]
 | 4 => [.int .i64 8,.int .i64 0,partFn 87,partFn 89]
 | _ => [.int .i64 16,.int .i64 9,.nilFunc,partFn 90]
def partsL:List Value:=partL 0++(partL 1++(partL 2++(partL 3++(partL 4++partL 5))))
theorem parts_s (G:GH):Con Tryz.prog 67 #[] G [] (fun r G' μ'=>G'=G∧∃ b,r=.slice (some ⟨b,0,none⟩) 6 6∧μ'=[(b,.cells partsL.toArray 118 (0,0))]):=by
 (refine v_enter Tryz.func67 rfl Tryz.ntmps67 rfl ?_;intro B _)
 repeat' (first|apply v_seq|apply v_region|apply v_nil|apply v_pure;(case hop=>first|apply p_assign<;>rfl|apply p_build;(case hz=>rfl);(case hv=>(simp only [List.map_cons,List.map_nil];repeat (first|with_reducible exact evs_nil|apply evs_cons;(case h1=>rfl))));(case hb=>(apply bldL;repeat (first|exact bld_nil|apply bld_cons;(case hpf|hc|hs|hl=>rfl);(case ho=>((repeat (first|with_reducible exact ov_nil|apply ov_cons));done))))));(case hd=>rfl)|apply v_buildSlice;(case hz|hi=>rfl);(case hv=>(simp only [List.map_cons,List.map_nil];repeat (first|with_reducible exact evs_nil|apply evs_cons;(case h1=>rfl))));(case hp=>(apply pk_cons;(case hc|hs=>rfl);(case h=>(apply pk_cons;(case hc|hs=>rfl);(case h=>(apply pk_cons;(case hc|hs=>rfl);(case h=>(apply pk_cons;(case hc|hs=>rfl);(case h=>(apply pk_cons;(case hc|hs=>rfl);(case h=>(apply pk_cons;(case hc|hs=>rfl);(case h=>(with_reducible exact pk_nil));(case he=>((repeat (first|with_reducible exact ap_nil|apply ap_cons));done))));(case he=>((repeat (first|with_reducible exact ap_nil|apply ap_cons));done))));(case he=>((repeat (first|with_reducible exact ap_nil|apply ap_cons));done))));(case he=>((repeat (first|with_reducible exact ap_nil|apply ap_cons));done))));(case he=>(first|((repeat (first|with_reducible exact ap_nil|apply ap_cons));done)|fail))));(case he=>(first|((repeat (first|with_reducible exact ap_nil|apply ap_cons));done)|fail))));(case hb|hd=>rfl);intro b|fail)
 refine v_ret [(b,_)] (outsA1 rfl rfl) (by repeat (exact List.Sublist.refl _)) ?_
 exact ⟨rfl,_,rfl,rfl⟩
theorem at1_s (G:GH) (b:Nat):Con Tryz.prog 83 #[.pointer (some ⟨b,0,none⟩)] G [] (Just (.iface 135 (.pointer (some ⟨b,0+1,none⟩))) G):=by
 (refine v_enter Tryz.func83 rfl Tryz.ntmps83 rfl ?_;intro B _)
 repeat' (first|apply v_seq|apply v_region|apply v_nil|apply v_pure;(case hop=>first|apply p_move<;>rfl|apply p_assign<;>rfl|apply p_fieldAddrB<;>rfl|apply p_nilCheck<;>rfl|apply p_iface<;>rfl);(case hd=>rfl)|fail)
 refine v_ret [] (outsA1 rfl rfl) (by repeat (exact List.Sublist.refl _)) ?_
 exact ⟨rfl,rfl,rfl⟩
theorem at2_s (G:GH) (b:Nat):Con Tryz.prog 84 #[.pointer (some ⟨b,0,none⟩)] G [] (Just (.iface 135 (.pointer (some ⟨b,0+2,none⟩))) G):=by
 (refine v_enter Tryz.func84 rfl Tryz.ntmps84 rfl ?_;intro B _)
 repeat' (first|apply v_seq|apply v_region|apply v_nil|apply v_pure;(case hop=>first|apply p_move<;>rfl|apply p_assign<;>rfl|apply p_fieldAddrB<;>rfl|apply p_nilCheck<;>rfl|apply p_iface<;>rfl);(case hd=>rfl)|fail)
 refine v_ret [] (outsA1 rfl rfl) (by repeat (exact List.Sublist.refl _)) ?_
 exact ⟨rfl,rfl,rfl⟩
theorem at3_s (G:GH) (b:Nat):Con Tryz.prog 86 #[.pointer (some ⟨b,0,none⟩)] G [] (Just (.iface 136 (.pointer (some ⟨b,0+3,none⟩))) G):=by
 (refine v_enter Tryz.func86 rfl Tryz.ntmps86 rfl ?_;intro B _)
 repeat' (first|apply v_seq|apply v_region|apply v_nil|apply v_pure;(case hop=>first|apply p_move<;>rfl|apply p_assign<;>rfl|apply p_fieldAddrB<;>rfl|apply p_nilCheck<;>rfl|apply p_iface<;>rfl);(case hd=>rfl)|fail)
 refine v_ret [] (outsA1 rfl rfl) (by repeat (exact List.Sublist.refl _)) ?_
 exact ⟨rfl,rfl,rfl⟩
theorem at4_s (G:GH) (b:Nat):Con Tryz.prog 88 #[.pointer (some ⟨b,0,none⟩)] G [] (Just (.iface 136 (.pointer (some ⟨b,0+5,none⟩))) G):=by
 (refine v_enter Tryz.func88 rfl Tryz.ntmps88 rfl ?_;intro B _)
 repeat' (first|apply v_seq|apply v_region|apply v_nil|apply v_pure;(case hop=>first|apply p_move<;>rfl|apply p_assign<;>rfl|apply p_fieldAddrB<;>rfl|apply p_nilCheck<;>rfl|apply p_iface<;>rfl);(case hd=>rfl)|fail)
 refine v_ret [] (outsA1 rfl rfl) (by repeat (exact List.Sublist.refl _)) ?_
 exact ⟨rfl,rfl,rfl⟩
theorem at5_s (G:GH) (b:Nat):Con Tryz.prog 89 #[.pointer (some ⟨b,0,none⟩)] G [] (Just (.iface 136 (.pointer (some ⟨b,0+4,none⟩))) G):=by
 (refine v_enter Tryz.func89 rfl Tryz.ntmps89 rfl ?_;intro B _)
 repeat' (first|apply v_seq|apply v_region|apply v_nil|apply v_pure;(case hop=>first|apply p_move<;>rfl|apply p_assign<;>rfl|apply p_fieldAddrB<;>rfl|apply p_nilCheck<;>rfl|apply p_iface<;>rfl);(case hd=>rfl)|fail)
 refine v_ret [] (outsA1 rfl rfl) (by repeat (exact List.Sublist.refl _)) ?_
 exact ⟨rfl,rfl,rfl⟩
theorem at6_s (G:GH) (b:Nat):Con Tryz.prog 90 #[.pointer (some ⟨b,0,none⟩)] G [] (Just (.iface 135 (.pointer (some ⟨b,0+6,none⟩))) G):=by
 (refine v_enter Tryz.func90 rfl Tryz.ntmps90 rfl ?_;intro B _)
 repeat' (first|apply v_seq|apply v_region|apply v_nil|apply v_pure;(case hop=>first|apply p_move<;>rfl|apply p_assign<;>rfl|apply p_fieldAddrB<;>rfl|apply p_nilCheck<;>rfl|apply p_iface<;>rfl);(case hd=>rfl)|fail)
 refine v_ret [] (outsA1 rfl rfl) (by repeat (exact List.Sublist.refl _)) ?_
 exact ⟨rfl,rfl,rfl⟩
def hasOf:Nat→Int
 | 0=>1
 | 1=>1
 | 2=>2
 | 3=>4
 | 4=>8
 | _=>16
def mostOf:Nat→Int
 | 0=>8
 | 1=>4294967296
 | _=>9
def Cm.num (c:Cm):Nat→Int
 | 0=>c.client
 | 1=>c.seq
 | _=>c.node
def Cm.txt (c:Cm):Nat→ByteArray
 | 2=>c.key
 | 3=>c.old
 | _=>c.val
noncomputable def isTxt:Nat→ByteArray→Bool
 | 2=>keyB
 | _=>valB
def isNum (j:Nat):Bool:=j == 0 || j == 1 || j == 5
def numR (c:Cm) (f:Int) (j:Nat):Bool:=if isNum j then (if band f (hasOf j)=0 then true else decide (1≤c.num j∧c.num j≤mostOf j)) else true
def numF (c:Cm) (f:Int) (j:Nat):Bool:=if isNum j then (if band f (hasOf j)=0 then decide (c.num j=0) else true) else true
noncomputable def txtT (c:Cm) (f:Int) (j:Nat):Bool:=if isNum j then true else (if band f (hasOf j)=0 then true else isTxt j (c.txt j))
def txtF (c:Cm) (f:Int) (j:Nat):Bool:=if isNum j then true else (if band f (hasOf j)=0 then decide ((c.txt j).size=0) else true)
theorem dec_nil {s:ByteArray}:dec (s={ data:=#[] })=decide (s.size=0):=by
 rw [dec_eq]
 rw [decide_eq_decide]
 constructor
 ·intro h;rw [h];rfl
 ·intro h
  apply ByteArray.ext
  exact Array.eq_empty_of_size_eq_zero h
theorem number_s (G:GH) (c:Cm) (f:Int) (cb j:Nat) (hj:j<6):Con Tryz.prog 68 #[.agg (partL j).toArray,.pointer (some ⟨cb,0,none⟩),.int .i64 f] G [(cb,.cells c.cells.toArray 25 (0,0))]
 (Keeps (.tuple [.bool (numR c f j),.bool (numF c f j)].toArray) G [(cb,.cells c.cells.toArray 25 (0,0))]):=by
 apply Con.keeps
 unfold Cm.cells
 (refine v_enter Tryz.func68 rfl Tryz.ntmps68 rfl ?_;intro B _)
 obtain rfl|rfl|rfl|rfl|rfl|rfl:j=0∨j=1∨j=2∨j=3∨j=4∨j=5:=by omega
 all_goals
  repeat' (first|apply v_seq|apply v_region|apply v_nil|apply v_skip|apply v_pure;(case hop=>first|apply p_move<;>rfl|apply p_eq<;>rfl|apply p_assign<;>rfl|apply p_not<;>rfl|apply p_fieldAddrB<;>rfl|apply p_extract0<;>rfl|apply p_extract1<;>rfl|apply p_assertOk<;>rfl|apply p_assertNo<;>rfl|apply p_and64<;>rfl|fail);(case hd=>rfl)|apply v_condT;(case hc=>rfl)|apply v_condF;(case hc=>rfl)|apply v_cond;(case hc=>rfl);all_goals (intro h;(try simp only [reduceCtorEq,zzz] at h))|apply v_callFJ0 (hs:=at1_s _ cb);(case hx|ha|hd=>rfl)|apply v_callFJ0 (hs:=at2_s _ cb);(case hx|ha|hd=>rfl)|apply v_callFJ0 (hs:=at3_s _ cb);(case hx|ha|hd=>rfl)|apply v_callFJ0 (hs:=at4_s _ cb);(case hx|ha|hd=>rfl)|apply v_callFJ0 (hs:=at5_s _ cb);(case hx|ha|hd=>rfl)|apply v_callFJ0 (hs:=at6_s _ cb);(case hx|ha|hd=>rfl)|apply v_read;(case hop=>(apply r_load1;rfl;(apply Cell.own;(case h=>repeat exact mhd _);rfl)));(case hd=>rfl)|apply v_box;(case hx|hz|hd=>rfl);intro b|fail)
 all_goals try
  (refine v_ret [(cb,_)] (outsA2 rfl rfl rfl) (by repeat (first|exact List.Sublist.refl _|apply List.Sublist.cons)) ?_
   exact ⟨rfl,rfl⟩)
 all_goals try
  (refine d_start _ (by kernel_rfl) (by kernel_rfl) (by kernel_rfl) (fun _ he=>he) ?_
   all_goals (apply dtm 0;(case hi|hx=>rfl);(case hq=>kernel_rfl);apply dtn 1;(case hi|hx=>rfl);(case hq=>kernel_rfl))
   all_goals (apply dtk 2;(case hi=>rfl);(case hop=>first|apply r_loadNo;(case hx=>rfl);(case h=>repeat fail);(case hd=>repeat fail);(case hn=>rfl)|apply r_load1;rfl;(apply Cell.own;(case h=>repeat first|exact mhd _|apply mtl);rfl)|apply r_loadN;rfl;(apply CellsAt.own;(case h=>repeat fail));rfl);(case hq=>kernel_rfl);apply dtk 3;(case hi=>rfl);(case hop=>(apply prd;apply p_eq<;>rfl));(case hq=>kernel_rfl))
   all_goals (apply dta 4;(case hi|hx=>rfl);(case hq=>kernel_rfl);apply dta 5;(case hi|hx=>rfl);(case hq=>kernel_rfl))
   all_goals (apply d_done;(case hr=>kernel_rfl))
   refine v_ret [(cb,_)] (outsA2 rfl rfl rfl) (by repeat (first|exact List.Sublist.refl _|apply List.Sublist.cons)) ?_
   refine ⟨?_,rfl⟩
   simp [numR,numF,isNum,hasOf,Cm.num,dec_eq, *])
 all_goals
  (refine d_start _ (by kernel_rfl) (by kernel_rfl) (by kernel_rfl) (fun _ he=>he) ?_
   all_goals (apply dtm 0;(case hi|hx=>rfl);(case hq=>kernel_rfl);apply dtn 1;(case hi|hx=>rfl);(case hq=>kernel_rfl))
   all_goals (apply dtk 2;(case hi=>rfl);(case hop=>first|apply r_loadNo;(case hx=>rfl);(case h=>repeat fail);(case hd=>repeat fail);(case hn=>rfl)|apply r_load1;rfl;(apply Cell.own;(case h=>repeat first|exact mhd _|apply mtl);rfl)|apply r_loadN;rfl;(apply CellsAt.own;(case h=>repeat fail));rfl);(case hq=>kernel_rfl);apply dtk 3;(case hi=>rfl);(case hop=>(apply prd;apply p_ge<;>rfl));(case hq=>kernel_rfl))
   all_goals (apply dtm 4;(case hi|hx=>rfl);(case hq=>kernel_rfl))
   all_goals (try (apply d_guardB 5;(case hi|hgd|h1|h2=>rfl);all_goals (intro h;(try simp only [reduceCtorEq,zzz] at h))))
   all_goals (first|apply dpa 5;(case hi|hg|hn=>rfl);(case hq=>kernel_rfl)|apply dtg 5;(case hi|hg=>rfl);(case hop=>(apply prd;apply p_move<;>rfl));(case hq=>kernel_rfl)|fail)
   all_goals (try (apply d_guardB 6;(case hi|hgd|h1|h2=>rfl);all_goals (intro h;(try simp only [reduceCtorEq,zzz] at h))))
   all_goals (first|apply dpa 6;(case hi|hg|hn=>rfl);(case hq=>kernel_rfl)|apply dtg 6;(case hi|hg=>rfl);(case hop=>(apply prd;apply p_nilCheck<;>rfl));(case hq=>kernel_rfl)|fail)
   all_goals (try (apply d_guardB 7;(case hi|hgd|h1|h2=>rfl);all_goals (intro h;(try simp only [reduceCtorEq,zzz] at h))))
   all_goals (first|apply dpa 7;(case hi|hg|hn=>rfl);(case hq=>kernel_rfl)|apply dtg 7;(case hi|hg=>rfl);(case hop=>first|apply r_loadNo;(case hx=>rfl);(case h=>repeat fail);(case hd=>repeat fail);(case hn=>rfl)|apply r_load1;rfl;(apply Cell.own;(case h=>repeat first|exact mhd _|apply mtl);rfl)|apply r_loadN;rfl;(apply CellsAt.own;(case h=>repeat fail));rfl);(case hq=>kernel_rfl)|fail)
   all_goals (try (apply d_guardB 8;(case hi|hgd|h1|h2=>rfl);all_goals (intro h;(try simp only [reduceCtorEq,zzz] at h))))
   all_goals (first|apply dpa 8;(case hi|hg|hn=>rfl);(case hq=>kernel_rfl)|apply dtg 8;(case hi|hg=>rfl);(case hop=>(apply prd;apply p_fieldAddrB<;>rfl));(case hq=>kernel_rfl)|fail)
   all_goals (try (apply d_guardB 9;(case hi|hgd|h1|h2=>rfl);all_goals (intro h;(try simp only [reduceCtorEq,zzz] at h))))
   all_goals (first|apply dpa 9;(case hi|hg|hn=>rfl);(case hq=>kernel_rfl)|apply dtg 9;(case hi|hg=>rfl);(case hop=>first|apply r_loadNo;(case hx=>rfl);(case h=>repeat fail);(case hd=>repeat fail);(case hn=>rfl)|apply r_load1;rfl;(apply Cell.own;(case h=>repeat exact mhd _);rfl)|apply r_loadN;rfl;(apply CellsAt.own;(case h=>repeat fail));rfl);(case hq=>kernel_rfl)|fail)
   all_goals (try (apply d_guardB 10;(case hi|hgd|h1|h2=>rfl);all_goals (intro h;(try simp only [reduceCtorEq,zzz] at h))))
   all_goals (first|apply dpa 10;(case hi|hg|hn=>rfl);(case hq=>kernel_rfl)|apply dtg 10;(case hi|hg=>rfl);(case hop=>(apply prd;apply p_le<;>rfl));(case hq=>kernel_rfl)|fail)
   all_goals (apply dtk 11;(case hi=>rfl);(case hop=>first|apply prd;apply p_pickT<;>rfl|apply prd;apply p_pickF<;>rfl|fail);(case hq=>kernel_rfl);apply dta 12;(case hi|hx=>rfl);(case hq=>kernel_rfl))
   all_goals (apply dta 13;(case hi|hx=>rfl);(case hq=>kernel_rfl))
   all_goals (apply d_done;(case hr=>kernel_rfl))
   all_goals
    (refine v_ret [(cb,_)] (outsA2 rfl rfl rfl) (by repeat (first|exact List.Sublist.refl _|apply List.Sublist.cons)) ?_
     refine ⟨?_,rfl⟩
     simp [numR,numF,isNum,hasOf,mostOf,Cm.num,dec_eq, *]))
theorem text_s {G:GH}(hT:TabsG G) (c:Cm) (hk:c.key.size≤maxLen) (hv:c.val.size≤maxLen) (ho:c.old.size≤maxLen) (f:Int) (cb j:Nat) (hj:j<6):Con Tryz.prog 69 #[.agg (partL j).toArray,.pointer (some ⟨cb,0,none⟩),.int .i64 f] G [(cb,.cells c.cells.toArray 25 (0,0))]
 (Keeps (.tuple [.bool (txtT c f j),.bool (txtF c f j)].toArray) G [(cb,.cells c.cells.toArray 25 (0,0))]):=by
 apply Con.keeps
 unfold Cm.cells
 simp only [maxLen] at hk hv ho
 (refine v_enter Tryz.func69 rfl Tryz.ntmps69 rfl ?_;intro B _)
 obtain rfl|rfl|rfl|rfl|rfl|rfl:j=0∨j=1∨j=2∨j=3∨j=4∨j=5:=by omega
 all_goals
  repeat' (first|apply v_seq|apply v_region|apply v_nil|apply v_skip|apply v_pure;(case hop=>first|apply p_move<;>rfl|apply p_eq<;>rfl|apply p_assign<;>rfl|apply p_not<;>rfl|apply p_fieldAddrB<;>rfl|apply p_extract0<;>rfl|apply p_extract1<;>rfl|apply p_assertOk<;>rfl|apply p_assertNo<;>rfl|apply p_and64<;>rfl|fail);(case hd=>rfl)|apply v_condT;(case hc=>rfl)|apply v_condF;(case hc=>rfl)|apply v_cond;(case hc=>rfl);all_goals (intro h;(try simp only [reduceCtorEq,zzz] at h))|apply v_callFJ0 (hs:=at1_s _ cb);(case hx|ha|hd=>rfl)|apply v_callFJ0 (hs:=at2_s _ cb);(case hx|ha|hd=>rfl)|apply v_callFJ0 (hs:=at3_s _ cb);(case hx|ha|hd=>rfl)|apply v_callFJ0 (hs:=at4_s _ cb);(case hx|ha|hd=>rfl)|apply v_callFJ0 (hs:=at5_s _ cb);(case hx|ha|hd=>rfl)|apply v_callFJ0 (hs:=at6_s _ cb);(case hx|ha|hd=>rfl)|apply v_read;(case hop=>(apply r_load1;rfl;(apply Cell.own;(case h=>repeat exact mhd _);rfl)));(case hd=>rfl)|apply v_box;(case hx|hz|hd=>rfl);intro b|fail)
 all_goals try
  (refine v_ret [(cb,_)] (outsA2 rfl rfl rfl) (by repeat (first|exact List.Sublist.refl _|apply List.Sublist.cons)) ?_
   exact ⟨rfl,rfl⟩)
 all_goals try
  (refine d_start _ (by kernel_rfl) (by kernel_rfl) (by kernel_rfl) (fun _ he=>he) ?_
   all_goals (apply dtm 0;(case hi|hx=>rfl);(case hq=>kernel_rfl);apply dtn 1;(case hi|hx=>rfl);(case hq=>kernel_rfl))
   all_goals (apply dtk 2;(case hi=>rfl);(case hop=>first|apply r_loadNo;(case hx=>rfl);(case h=>repeat fail);(case hd=>repeat fail);(case hn=>rfl)|apply r_load1;rfl;(apply Cell.own;(case h=>repeat first|exact mhd _|apply mtl);rfl)|apply r_loadN;rfl;(apply CellsAt.own;(case h=>repeat fail));rfl);(case hq=>kernel_rfl);apply dtk 3;(case hi=>rfl);(case hop=>(apply prd;apply p_eqS<;>rfl));(case hq=>kernel_rfl))
   all_goals (apply dta 4;(case hi|hx=>rfl);(case hq=>kernel_rfl);apply dta 5;(case hi|hx=>rfl);(case hq=>kernel_rfl))
   all_goals (apply d_done;(case hr=>kernel_rfl))
   refine v_ret [(cb,_)] (outsA2 rfl rfl rfl) (by repeat (first|exact List.Sublist.refl _|apply List.Sublist.cons)) ?_
   refine ⟨?_,rfl⟩
   simp [txtT,txtF,isNum,hasOf,Cm.txt,dec_nil, *])
 all_goals
  (refine d_start _ (by kernel_rfl) (by kernel_rfl) (by kernel_rfl) (fun _ he=>he) ?_
   all_goals (apply dtk 0;(case hi=>rfl);(case hop=>(apply prd;apply p_fieldAddrB<;>rfl));(case hq=>kernel_rfl);apply dtk 1;(case hi=>rfl);(case hop=>first|apply r_loadNo;(case hx=>rfl);(case h=>repeat fail);(case hd=>repeat fail);(case hn=>rfl)|apply r_load1;rfl;(apply Cell.own;(case h=>repeat exact mhd _);rfl)|apply r_loadN;rfl;(apply CellsAt.own;(case h=>repeat fail));rfl);(case hq=>kernel_rfl))
   all_goals (apply dtm 2;(case hi|hx=>rfl);(case hq=>kernel_rfl);apply dtn 3;(case hi|hx=>rfl);(case hq=>kernel_rfl))
   all_goals (apply dtk 4;(case hi=>rfl);(case hop=>first|apply r_loadNo;(case hx=>rfl);(case h=>repeat fail);(case hd=>repeat fail);(case hn=>rfl)|apply r_load1;rfl;(apply Cell.own;(case h=>repeat first|exact mhd _|apply mtl);rfl)|apply r_loadN;rfl;(apply CellsAt.own;(case h=>repeat fail));rfl);(case hq=>kernel_rfl))
   all_goals (first|apply d_callJ0 5 (hs:=(key_s (s:=c.key) hT (by omega)));(case hi=>rfl);(case hr=>kernel_rfl);(case hx|ha|hd=>rfl)|apply d_callJ0 5 (hs:=(val_s (s:=c.old) hT (by omega)));(case hi=>rfl);(case hr=>kernel_rfl);(case hx|ha|hd=>rfl)|apply d_callJ0 5 (hs:=(val_s (s:=c.val) hT (by omega)));(case hi=>rfl);(case hr=>kernel_rfl);(case hx|ha|hd=>rfl)|fail)
   all_goals (apply dta 6;(case hi|hx=>rfl);(case hq=>kernel_rfl);apply dta 7;(case hi|hx=>rfl);(case hq=>kernel_rfl))
   all_goals (apply d_done;(case hr=>kernel_rfl))
   all_goals
    (refine v_ret [(cb,_)] (outsA2 rfl rfl rfl) (by repeat (first|exact List.Sublist.refl _|apply List.Sublist.cons)) ?_
     refine ⟨?_,rfl⟩
     simp [txtT,txtF,isNum,hasOf,isTxt,Cm.txt,dec_nil, *]))
def allB (g:Nat→Bool):Nat→Bool
 | 0=>true
 | k+1=>allB g k && g k
def allB2 (g h:Nat→Bool):Nat→Bool
 | 0=>true
 | k+1=>(allB2 g h k && g k) && h k
noncomputable def cmdI (c:Cm):Int :=
 if (cmdFields c.kind).2=false then 5
 else if allB (numR c (cmdFields c.kind).1) 6=false then 6
 else if allB (txtT c (cmdFields c.kind).1) 6=false then 7
 else if allB2 (numF c (cmdFields c.kind).1) (txtF c (cmdFields c.kind).1) 6=false then 3 else 0
theorem partsL_at {k:Nat}(hk:k<6):(partsL.drop (k*4)).take 4=partL k:=by
 obtain rfl|rfl|rfl|rfl|rfl|rfl:k=0∨k=1∨k=2∨k=3∨k=4∨k=5:=by omega
 all_goals rfl
theorem partsG {G:GH}{b:Nat}{e:TypeId}(h:G b=some (.cells partsL.toArray e (0,0))) {k:Nat}(hk:k<6):CellsG G ((⟨b,0,none⟩:Addr).add (k*4)) (partL k):=by
 intro j v hv
 rw [add_mk,add_mk,Nat.zero_add]
 rw [← partsL_at hk,List.getElem?_take] at hv
 split at hv
 ·rw [List.getElem?_drop] at hv
  simp [GH.cell?,h,hv]
 ·cases hv
theorem cmdCheck_s {G:GH}(hT:TabsG G) (c:Cm) (hc:c.ok):Con Tryz.prog 59 #[.agg c.cells.toArray] G [] (fun r _ μ'=>r=.int .i64 (cmdI c)∧μ'=[]):=by
 obtain ⟨hk1,hc1,hs1,hk,hv,ho,hn1⟩:=id hc
 (refine v_enter Tryz.func59 rfl Tryz.ntmps59 rfl ?_;intro B _)
 obtain ⟨f,is,hf⟩:∃ f is,cmdFields c.kind=(f,is):=⟨_,_,rfl⟩
 have hfs:=fields_s G c.kind
 rw [hf] at hfs
 repeat' (first|apply v_seq|apply v_region|apply v_nil|apply v_skip|apply v_pure;(case hop=>first|apply p_move<;>rfl|apply p_assign<;>rfl|apply p_not<;>rfl|apply p_fieldAddrB<;>rfl|apply p_extract0<;>rfl|apply p_extract1<;>rfl|fail);(case hd=>rfl)|apply v_cond;(case hc=>rfl);all_goals (intro h;(try simp only [reduceCtorEq,zzz] at h))|apply v_box (zs:=c.cells);(case hx|hz|hd=>rfl);intro cb|apply v_callJ (hs:=hfs);(case ha|hd=>rfl)|apply v_read;(case hop=>(apply r_load1;rfl;(apply Cell.own;(case h=>repeat exact mhd _);rfl)));(case hd=>rfl)|fail)
 ·refine v_ret [] (outsA1 rfl rfl) (by repeat (exact List.nil_sublist _)) ?_
  refine ⟨?_,rfl⟩
  rw [cmdI,hf,if_pos (by assumption)]
 refine v_call (μ1:=[]) (μ2:=_) rfl (parts_s G) (List.Perm.refl _) rfl ?_
 rintro r G' μ1 - ⟨rfl,pb,rfl,rfl⟩
 refine v_frz [(pb,_)] (by repeat (exact PickA.here _)) ?_
 intro G1 hle1 hG1
 have hpb:=hG1 pb _ (List.Mem.head _)
 have hT1:=hT.le hle1
 repeat' (first|apply v_nil|apply v_block|apply v_pure;(case hop=>first|apply p_move<;>rfl|apply p_lenSlice<;>rfl|fail);(case hd=>rfl)|fail)
 refine v_loop [24,23,22,5,6,7,1,3] (fun us G' μ'=>G'=G1∧μ'=[(cb,.cells c.cells.toArray 25 (0,0))]∧∃ (k:Nat) (R T F:Bool),us=[Value.int .i64 (k:Int),.int .i64 6,.slice (some ⟨pb,0,none⟩) 6 6,.bool R,.bool T,.bool F,.pointer (some ⟨cb,0,none⟩),.int .i64 f]∧k≤6∧R=allB (numR c f) k∧T=allB (txtT c f) k∧F=allB2 (numF c f) (txtF c f) k) (fun us=>7-(headI us).toNat) rfl ⟨rfl,rfl,0,true,true,true,rfl,by omega,rfl,rfl,rfl⟩ ?_
 rintro us G' μ' ⟨rfl,rfl,k,R,T,F,rfl,hk6,hR,hTt,hF⟩
 by_cases hlt:k<6
 ·have hnum:=number_s G' c f cb k hlt
  have htxt:=text_s hT1 c hk hv ho f cb k hlt
  have hpk:=partsG hpb hlt
  have e1:allB (numR c f) (k+1)=(R && numR c f k):=by rw [hR];rfl
  have e2:allB (txtT c f) (k+1)=(T && txtT c f k):=by rw [hTt];rfl
  have e3:allB2 (numF c f) (txtF c f) (k+1)=((F && numF c f k) && txtF c f k):=by rw [hF];rfl
  generalize numR c f k=a1 at *
  generalize numF c f k=a2 at *
  generalize txtT c f k=a3 at *
  generalize txtF c f k=a4 at *
  clear hR hTt hF
  obtain rfl|rfl|rfl|rfl|rfl|rfl:k=0∨k=1∨k=2∨k=3∨k=4∨k=5:=by omega
  all_goals
   (repeat' (first|apply v_guardM;(case h1|h2=>rfl);(case hop=>(apply p_move;rfl));(case hd=>rfl)|apply v_seq|apply v_region|apply v_nil|apply v_skip|apply v_block|apply v_blk|apply v_pure;(case hop=>first|apply p_move<;>rfl|apply p_lt<;>rfl|apply p_assign<;>rfl|apply p_extract0<;>rfl|apply p_extract1<;>rfl|apply p_add;(case hx|hy=>rfl);(case h=>omega)|apply p_indexAddr;(case hx|hi=>rfl);(case h0|h=>omega)|apply p_pickAnd<;>rfl|fail);(case hd=>rfl)|apply v_cond;(case hc=>rfl);all_goals (intro h;(try simp only [reduceCtorEq,zzz] at h);try (exfalso;omega))|apply v_read;(case hop=>(apply r_loadN;rfl;exact CellsAt.frozen hpk;rfl));(case hd=>rfl)|apply v_callK (hs:=hnum);(case ha=>rfl);(case hp=>first|exact (Pick.perm (by repeat (first|exact Pick.here _|apply Pick.there)))|fail);(case hd=>rfl)|apply v_callK (hs:=htxt);(case ha=>rfl);(case hp=>first|exact (Pick.perm (by repeat (first|exact Pick.here _|apply Pick.there)))|fail);(case hd=>rfl)|apply v_read;(case hop=>(apply r_loadNo;(case hx=>rfl);(case h=>repeat exact mhd _);(case hd=>repeat first|with_reducible exact dt_nil|apply dt_here);(case hn=>rfl)));(case hd=>rfl)|apply v_alloc;(case hz|hd=>rfl);intro b|apply v_store;(case hp|hx|hc|hsz|h1=>rfl);(case hb=>repeat exact mhd _);(case hfit=>exact nle rfl);(case hov=>((repeat (first|with_reducible exact ov_nil|apply ov_cons));done));(case hu=>repeat (exact Upd.here _ _))|fail))
  all_goals
   (refine v_only [(cb,_)] (by repeat (first|exact PickA.last|apply PickA.cons)) ?_
    refine v_again rfl ⟨rfl,rfl,_,_,_,_,?_,?_,e1.symm,e2.symm,e3.symm⟩ ?_
    ·rfl
    ·omega
    ·simp [headI])
 ·obtain rfl:k=6:=by omega
  have his:is=true:=by assumption
  subst his
  repeat' (first|apply v_seq|apply v_region|apply v_nil|apply v_skip|apply v_block|apply v_blk|apply v_exit;(case hp=>rfl)|apply v_pure;(case hop=>first|apply p_move<;>rfl|apply p_lt<;>rfl|apply p_assign<;>rfl|apply p_not<;>rfl|fail);(case hd=>rfl)|apply v_cond;(case hc=>rfl);all_goals (intro h;(try simp only [reduceCtorEq,zzz] at h);try (exfalso;omega))|fail)
  all_goals
   (refine v_ret [] (outsA1 rfl rfl) (by repeat (exact List.nil_sublist _)) ?_
    refine ⟨?_,rfl⟩
    rw [cmdI,hf,if_neg (by simp)]
    simp only [← hR,← hTt,← hF]
    clear hR hTt hF
    simp [*])
theorem band_0_1:band 0 1=0:=by decide
theorem band_0_2:band 0 2=0:=by decide
theorem band_0_4:band 0 4=0:=by decide
theorem band_0_8:band 0 8=0:=by decide
theorem band_0_16:band 0 16=0:=by decide
theorem band_3_1:band 3 1=1:=by decide
theorem band_3_2:band 3 2=2:=by decide
theorem band_3_4:band 3 4=0:=by decide
theorem band_3_8:band 3 8=0:=by decide
theorem band_3_16:band 3 16=0:=by decide
theorem band_11_1:band 11 1=1:=by decide
theorem band_11_2:band 11 2=2:=by decide
theorem band_11_4:band 11 4=0:=by decide
theorem band_11_8:band 11 8=8:=by decide
theorem band_11_16:band 11 16=0:=by decide
theorem band_15_1:band 15 1=1:=by decide
theorem band_15_2:band 15 2=2:=by decide
theorem band_15_4:band 15 4=4:=by decide
theorem band_15_8:band 15 8=8:=by decide
theorem band_15_16:band 15 16=0:=by decide
theorem band_16_1:band 16 1=0:=by decide
theorem band_16_2:band 16 2=0:=by decide
theorem band_16_4:band 16 4=0:=by decide
theorem band_16_8:band 16 8=0:=by decide
theorem band_16_16:band 16 16=16:=by decide
theorem owned_s (G:GH) (k:Int):Con Tryz.prog 11 #[.int .i64 k] G [] (Just (.bool (decide (2≤k∧k≤5))) G):=by
 (refine v_enter Tryz.func11 rfl Tryz.ntmps11 rfl ?_;intro B _)
 repeat' (first|apply v_seq|apply v_region|apply v_nil|apply v_take;(case hg=>rfl)|apply v_pass;(case hg|hn|hd=>rfl)|apply v_pure;(case hop=>first|apply p_move<;>rfl|apply p_le<;>rfl|apply p_ge<;>rfl|apply p_assign<;>rfl|apply p_pickT<;>rfl|apply p_pickF<;>rfl|fail);(case hd=>rfl)|apply v_guardB;(case h1|h2=>rfl);all_goals (intro h;(try simp only [reduceCtorEq,zzz] at h))|fail)
 all_goals
  (refine v_ret [] (outsA1 rfl rfl) (by repeat (exact List.Sublist.refl _)) ?_
   refine ⟨?_,rfl,rfl⟩
   first
    |(rw [decide_eq_false (by omega)])
    |(by_cases h5:k≤5
      ·rw [dec_pos h5,decide_eq_true (by omega)]
      ·rw [dec_neg h5,decide_eq_false (by omega)]))
theorem member_s (G:GH) (k:Int):Con Tryz.prog 37 #[.int .i64 k] G [] (Just (.bool (decide (k=7∨k=8))) G):=by
 (refine v_enter Tryz.func37 rfl Tryz.ntmps37 rfl ?_;intro B _)
 repeat' (first|apply v_seq|apply v_region|apply v_nil|apply v_take;(case hg=>rfl)|apply v_pass;(case hg|hn|hd=>rfl)|apply v_pure;(case hop=>first|apply p_move<;>rfl|apply p_eq<;>rfl|apply p_assign<;>rfl|apply p_pickT<;>rfl|apply p_pickF<;>rfl|fail);(case hd=>rfl)|apply v_guardB;(case h1|h2=>rfl);all_goals (intro h;(try simp only [reduceCtorEq,zzz] at h))|fail)
 all_goals
  (refine v_ret [] (outsA1 rfl rfl) (by repeat (exact List.Sublist.refl _)) ?_
   refine ⟨?_,rfl,rfl⟩
   first
    |(rw [decide_eq_true (by omega)])
    |(by_cases h5:k=8
      ·rw [dec_pos h5,decide_eq_true (by omega)]
      ·rw [dec_neg h5,decide_eq_false (by omega)]))
noncomputable def cmdE (c:Cm):Int :=
 if c.kind<1∨8<c.kind then 5
 else if ((2≤c.kind∧c.kind≤5)∧¬ (1≤c.client∧c.client≤8∧1≤c.seq∧c.seq≤4294967296))∨((c.kind=7∨c.kind=8)∧¬ (1≤c.node∧c.node≤9)) then 6
 else if ((2≤c.kind∧c.kind≤5)∧keyB c.key=false)∨((c.kind=2∨c.kind=5)∧valB c.val=false)∨(c.kind=5∧valB c.old=false) then 7
 else if (¬ (2≤c.kind∧c.kind≤5)∧(c.client≠0∨c.seq≠0∨c.key.size≠0))∨(¬ (c.kind=2∨c.kind=5)∧c.val.size≠0)∨(c.kind≠5∧c.old.size≠0)∨(¬ (c.kind=7∨c.kind=8)∧c.node≠0) then 3 else 0
theorem nil_iff {s:ByteArray}:s={ data:=#[] }↔s.size=0:=by
 constructor
 ·intro h;rw [h];rfl
 ·intro h
  apply ByteArray.ext
  exact Array.eq_empty_of_size_eq_zero h
theorem ite6 {p:Bool}{a b:Int}{q:Prop} [Decidable q] (h:p=false↔q):(if p=false then a else b)=(if q then a else b):=by
 by_cases hq:q
 ·rw [if_pos hq,if_pos (h.2 hq)]
 ·rw [if_neg hq,if_neg (fun e=>hq (h.1 e))]
theorem cmdI_case {c:Cm}(f:Int) {q1 q2 q3:Prop} [Decidable q1] [Decidable q2] [Decidable q3] (hf:cmdFields c.kind=(f,true)) (h1:allB (numR c f) 6=false↔q1) (h2:allB (txtT c f) 6=false↔q2) (h3:allB2 (numF c f) (txtF c f) 6=false↔q3) :
 (if (cmdFields c.kind).2=false then (5:Int) else if allB (numR c (cmdFields c.kind).1) 6=false then 6 else if allB (txtT c (cmdFields c.kind).1) 6=false then 7 else if allB2 (numF c (cmdFields c.kind).1) (txtF c (cmdFields c.kind).1) 6=false then 3 else 0)=(if q1 then 6 else if q2 then 7 else if q3 then 3 else 0):=by
 rw [hf,if_neg (by simp),ite6 h1,ite6 h2,ite6 h3]
theorem cmdI_eq (c:Cm):cmdI c=cmdE c:=by
 obtain ⟨kind,client,seq,key,val,old,node⟩:=c
 by_cases hr:kind<1∨8<kind
 ·have:cmdFields kind=(0,false):=by unfold cmdFields;rw [if_neg (by omega),if_neg (by omega),if_neg (by omega),if_neg (by omega),if_neg (by omega)]
  simp only [cmdI,cmdE,this,if_true]
  rw [if_pos hr]
 ·unfold cmdI cmdE
  simp only
  rw [if_neg hr]
  obtain rfl|rfl|rfl|rfl|rfl|rfl|rfl|rfl:kind=1∨kind=2∨kind=3∨kind=4∨kind=5∨kind=6∨kind=7∨kind=8:=by omega
  ·refine cmdI_case (c:=⟨1,client,seq,key,val,old,node⟩) 0 rfl ?_ ?_ ?_
   ·(simp [allB,allB2,numR,numF,txtT,txtF,isNum,hasOf,mostOf,isTxt,Cm.num,Cm.txt,band_0_1,band_0_2,band_0_4,band_0_8,band_0_16,band_3_1,band_3_2,band_3_4,band_3_8,band_3_16,band_11_1,band_11_2,band_11_4,band_11_8,band_11_16,band_15_1,band_15_2,band_15_4,band_15_8,band_15_16,band_16_1,band_16_2,band_16_4,band_16_8,band_16_16];done)
   ·cases hk:keyB key<;>cases hv:valB val<;>cases ho:valB old<;>simp [hk,hv,ho,allB,allB2,numR,numF,txtT,txtF,isNum,hasOf,mostOf,isTxt,Cm.num,Cm.txt,band_0_1,band_0_2,band_0_4,band_0_8,band_0_16,band_3_1,band_3_2,band_3_4,band_3_8,band_3_16,band_11_1,band_11_2,band_11_4,band_11_8,band_11_16,band_15_1,band_15_2,band_15_4,band_15_8,band_15_16,band_16_1,band_16_2,band_16_4,band_16_8,band_16_16]
   ·(simp [allB,allB2,numR,numF,txtT,txtF,isNum,hasOf,mostOf,isTxt,Cm.num,Cm.txt,band_0_1,band_0_2,band_0_4,band_0_8,band_0_16,band_3_1,band_3_2,band_3_4,band_3_8,band_3_16,band_11_1,band_11_2,band_11_4,band_11_8,band_11_16,band_15_1,band_15_2,band_15_4,band_15_8,band_15_16,band_16_1,band_16_2,band_16_4,band_16_8,band_16_16];grind)
  ·refine cmdI_case (c:=⟨2,client,seq,key,val,old,node⟩) 11 rfl ?_ ?_ ?_
   ·(simp [allB,allB2,numR,numF,txtT,txtF,isNum,hasOf,mostOf,isTxt,Cm.num,Cm.txt,band_0_1,band_0_2,band_0_4,band_0_8,band_0_16,band_3_1,band_3_2,band_3_4,band_3_8,band_3_16,band_11_1,band_11_2,band_11_4,band_11_8,band_11_16,band_15_1,band_15_2,band_15_4,band_15_8,band_15_16,band_16_1,band_16_2,band_16_4,band_16_8,band_16_16];done)
   ·cases hk:keyB key<;>cases hv:valB val<;>cases ho:valB old<;>simp [hk,hv,ho,allB,allB2,numR,numF,txtT,txtF,isNum,hasOf,mostOf,isTxt,Cm.num,Cm.txt,band_0_1,band_0_2,band_0_4,band_0_8,band_0_16,band_3_1,band_3_2,band_3_4,band_3_8,band_3_16,band_11_1,band_11_2,band_11_4,band_11_8,band_11_16,band_15_1,band_15_2,band_15_4,band_15_8,band_15_16,band_16_1,band_16_2,band_16_4,band_16_8,band_16_16]
   ·(simp [allB,allB2,numR,numF,txtT,txtF,isNum,hasOf,mostOf,isTxt,Cm.num,Cm.txt,band_0_1,band_0_2,band_0_4,band_0_8,band_0_16,band_3_1,band_3_2,band_3_4,band_3_8,band_3_16,band_11_1,band_11_2,band_11_4,band_11_8,band_11_16,band_15_1,band_15_2,band_15_4,band_15_8,band_15_16,band_16_1,band_16_2,band_16_4,band_16_8,band_16_16];grind)
  ·refine cmdI_case (c:=⟨3,client,seq,key,val,old,node⟩) 3 rfl ?_ ?_ ?_
   ·(simp [allB,allB2,numR,numF,txtT,txtF,isNum,hasOf,mostOf,isTxt,Cm.num,Cm.txt,band_0_1,band_0_2,band_0_4,band_0_8,band_0_16,band_3_1,band_3_2,band_3_4,band_3_8,band_3_16,band_11_1,band_11_2,band_11_4,band_11_8,band_11_16,band_15_1,band_15_2,band_15_4,band_15_8,band_15_16,band_16_1,band_16_2,band_16_4,band_16_8,band_16_16];done)
   ·cases hk:keyB key<;>cases hv:valB val<;>cases ho:valB old<;>simp [hk,hv,ho,allB,allB2,numR,numF,txtT,txtF,isNum,hasOf,mostOf,isTxt,Cm.num,Cm.txt,band_0_1,band_0_2,band_0_4,band_0_8,band_0_16,band_3_1,band_3_2,band_3_4,band_3_8,band_3_16,band_11_1,band_11_2,band_11_4,band_11_8,band_11_16,band_15_1,band_15_2,band_15_4,band_15_8,band_15_16,band_16_1,band_16_2,band_16_4,band_16_8,band_16_16]
   ·(simp [allB,allB2,numR,numF,txtT,txtF,isNum,hasOf,mostOf,isTxt,Cm.num,Cm.txt,band_0_1,band_0_2,band_0_4,band_0_8,band_0_16,band_3_1,band_3_2,band_3_4,band_3_8,band_3_16,band_11_1,band_11_2,band_11_4,band_11_8,band_11_16,band_15_1,band_15_2,band_15_4,band_15_8,band_15_16,band_16_1,band_16_2,band_16_4,band_16_8,band_16_16];grind)
  ·refine cmdI_case (c:=⟨4,client,seq,key,val,old,node⟩) 3 rfl ?_ ?_ ?_
   ·(simp [allB,allB2,numR,numF,txtT,txtF,isNum,hasOf,mostOf,isTxt,Cm.num,Cm.txt,band_0_1,band_0_2,band_0_4,band_0_8,band_0_16,band_3_1,band_3_2,band_3_4,band_3_8,band_3_16,band_11_1,band_11_2,band_11_4,band_11_8,band_11_16,band_15_1,band_15_2,band_15_4,band_15_8,band_15_16,band_16_1,band_16_2,band_16_4,band_16_8,band_16_16];done)
   ·cases hk:keyB key<;>cases hv:valB val<;>cases ho:valB old<;>simp [hk,hv,ho,allB,allB2,numR,numF,txtT,txtF,isNum,hasOf,mostOf,isTxt,Cm.num,Cm.txt,band_0_1,band_0_2,band_0_4,band_0_8,band_0_16,band_3_1,band_3_2,band_3_4,band_3_8,band_3_16,band_11_1,band_11_2,band_11_4,band_11_8,band_11_16,band_15_1,band_15_2,band_15_4,band_15_8,band_15_16,band_16_1,band_16_2,band_16_4,band_16_8,band_16_16]
   ·(simp [allB,allB2,numR,numF,txtT,txtF,isNum,hasOf,mostOf,isTxt,Cm.num,Cm.txt,band_0_1,band_0_2,band_0_4,band_0_8,band_0_16,band_3_1,band_3_2,band_3_4,band_3_8,band_3_16,band_11_1,band_11_2,band_11_4,band_11_8,band_11_16,band_15_1,band_15_2,band_15_4,band_15_8,band_15_16,band_16_1,band_16_2,band_16_4,band_16_8,band_16_16];grind)
  ·refine cmdI_case (c:=⟨5,client,seq,key,val,old,node⟩) 15 rfl ?_ ?_ ?_
   ·(simp [allB,allB2,numR,numF,txtT,txtF,isNum,hasOf,mostOf,isTxt,Cm.num,Cm.txt,band_0_1,band_0_2,band_0_4,band_0_8,band_0_16,band_3_1,band_3_2,band_3_4,band_3_8,band_3_16,band_11_1,band_11_2,band_11_4,band_11_8,band_11_16,band_15_1,band_15_2,band_15_4,band_15_8,band_15_16,band_16_1,band_16_2,band_16_4,band_16_8,band_16_16];done)
   ·cases hk:keyB key<;>cases hv:valB val<;>cases ho:valB old<;>simp [hk,hv,ho,allB,allB2,numR,numF,txtT,txtF,isNum,hasOf,mostOf,isTxt,Cm.num,Cm.txt,band_0_1,band_0_2,band_0_4,band_0_8,band_0_16,band_3_1,band_3_2,band_3_4,band_3_8,band_3_16,band_11_1,band_11_2,band_11_4,band_11_8,band_11_16,band_15_1,band_15_2,band_15_4,band_15_8,band_15_16,band_16_1,band_16_2,band_16_4,band_16_8,band_16_16]
   ·(simp [allB,allB2,numR,numF,txtT,txtF,isNum,hasOf,mostOf,isTxt,Cm.num,Cm.txt,band_0_1,band_0_2,band_0_4,band_0_8,band_0_16,band_3_1,band_3_2,band_3_4,band_3_8,band_3_16,band_11_1,band_11_2,band_11_4,band_11_8,band_11_16,band_15_1,band_15_2,band_15_4,band_15_8,band_15_16,band_16_1,band_16_2,band_16_4,band_16_8,band_16_16];done)
  ·refine cmdI_case (c:=⟨6,client,seq,key,val,old,node⟩) 0 rfl ?_ ?_ ?_
   ·(simp [allB,allB2,numR,numF,txtT,txtF,isNum,hasOf,mostOf,isTxt,Cm.num,Cm.txt,band_0_1,band_0_2,band_0_4,band_0_8,band_0_16,band_3_1,band_3_2,band_3_4,band_3_8,band_3_16,band_11_1,band_11_2,band_11_4,band_11_8,band_11_16,band_15_1,band_15_2,band_15_4,band_15_8,band_15_16,band_16_1,band_16_2,band_16_4,band_16_8,band_16_16];done)
   ·cases hk:keyB key<;>cases hv:valB val<;>cases ho:valB old<;>simp [hk,hv,ho,allB,allB2,numR,numF,txtT,txtF,isNum,hasOf,mostOf,isTxt,Cm.num,Cm.txt,band_0_1,band_0_2,band_0_4,band_0_8,band_0_16,band_3_1,band_3_2,band_3_4,band_3_8,band_3_16,band_11_1,band_11_2,band_11_4,band_11_8,band_11_16,band_15_1,band_15_2,band_15_4,band_15_8,band_15_16,band_16_1,band_16_2,band_16_4,band_16_8,band_16_16]
   ·(simp [allB,allB2,numR,numF,txtT,txtF,isNum,hasOf,mostOf,isTxt,Cm.num,Cm.txt,band_0_1,band_0_2,band_0_4,band_0_8,band_0_16,band_3_1,band_3_2,band_3_4,band_3_8,band_3_16,band_11_1,band_11_2,band_11_4,band_11_8,band_11_16,band_15_1,band_15_2,band_15_4,band_15_8,band_15_16,band_16_1,band_16_2,band_16_4,band_16_8,band_16_16];grind)
  ·refine cmdI_case (c:=⟨7,client,seq,key,val,old,node⟩) 16 rfl ?_ ?_ ?_
   ·(simp [allB,allB2,numR,numF,txtT,txtF,isNum,hasOf,mostOf,isTxt,Cm.num,Cm.txt,band_0_1,band_0_2,band_0_4,band_0_8,band_0_16,band_3_1,band_3_2,band_3_4,band_3_8,band_3_16,band_11_1,band_11_2,band_11_4,band_11_8,band_11_16,band_15_1,band_15_2,band_15_4,band_15_8,band_15_16,band_16_1,band_16_2,band_16_4,band_16_8,band_16_16];done)
   ·cases hk:keyB key<;>cases hv:valB val<;>cases ho:valB old<;>simp [hk,hv,ho,allB,allB2,numR,numF,txtT,txtF,isNum,hasOf,mostOf,isTxt,Cm.num,Cm.txt,band_0_1,band_0_2,band_0_4,band_0_8,band_0_16,band_3_1,band_3_2,band_3_4,band_3_8,band_3_16,band_11_1,band_11_2,band_11_4,band_11_8,band_11_16,band_15_1,band_15_2,band_15_4,band_15_8,band_15_16,band_16_1,band_16_2,band_16_4,band_16_8,band_16_16]
   ·(simp [allB,allB2,numR,numF,txtT,txtF,isNum,hasOf,mostOf,isTxt,Cm.num,Cm.txt,band_0_1,band_0_2,band_0_4,band_0_8,band_0_16,band_3_1,band_3_2,band_3_4,band_3_8,band_3_16,band_11_1,band_11_2,band_11_4,band_11_8,band_11_16,band_15_1,band_15_2,band_15_4,band_15_8,band_15_16,band_16_1,band_16_2,band_16_4,band_16_8,band_16_16];grind)
  ·refine cmdI_case (c:=⟨8,client,seq,key,val,old,node⟩) 16 rfl ?_ ?_ ?_
   ·(simp [allB,allB2,numR,numF,txtT,txtF,isNum,hasOf,mostOf,isTxt,Cm.num,Cm.txt,band_0_1,band_0_2,band_0_4,band_0_8,band_0_16,band_3_1,band_3_2,band_3_4,band_3_8,band_3_16,band_11_1,band_11_2,band_11_4,band_11_8,band_11_16,band_15_1,band_15_2,band_15_4,band_15_8,band_15_16,band_16_1,band_16_2,band_16_4,band_16_8,band_16_16];done)
   ·cases hk:keyB key<;>cases hv:valB val<;>cases ho:valB old<;>simp [hk,hv,ho,allB,allB2,numR,numF,txtT,txtF,isNum,hasOf,mostOf,isTxt,Cm.num,Cm.txt,band_0_1,band_0_2,band_0_4,band_0_8,band_0_16,band_3_1,band_3_2,band_3_4,band_3_8,band_3_16,band_11_1,band_11_2,band_11_4,band_11_8,band_11_16,band_15_1,band_15_2,band_15_4,band_15_8,band_15_16,band_16_1,band_16_2,band_16_4,band_16_8,band_16_16]
   ·(simp [allB,allB2,numR,numF,txtT,txtF,isNum,hasOf,mostOf,isTxt,Cm.num,Cm.txt,band_0_1,band_0_2,band_0_4,band_0_8,band_0_16,band_3_1,band_3_2,band_3_4,band_3_8,band_3_16,band_11_1,band_11_2,band_11_4,band_11_8,band_11_16,band_15_1,band_15_2,band_15_4,band_15_8,band_15_16,band_16_1,band_16_2,band_16_4,band_16_8,band_16_16];grind)
set_option maxHeartbeats 4000000 in
theorem refCmdCheck_s {G:GH}(c:Cm) (hc:c.ok):Con Tryz.prog 18 #[.agg c.cells.toArray] G [] (fun r _ μ'=>r=.int .i64 (cmdI c)∧μ'=[]):=by
 obtain ⟨hk1,hc1,hs1,hk,hv,ho,hn1⟩:=id hc
 simp only [maxLen] at hk hv ho
 have qk:=refKey_s (G:=G) (s:=c.key) (by omega)
 have qv:=refVal_s (G:=G) (s:=c.val) (by omega)
 have qo:=refVal_s (G:=G) (s:=c.old) (by omega)
 obtain ⟨kind,client,seq,key,val,old,node⟩:=c
 simp only at qk qv qo
 (refine v_enter Tryz.func18 rfl Tryz.ntmps18 rfl ?_;intro B _)
 by_cases hr:kind<1∨8<kind
 ·repeat' (first|apply v_seq|apply v_region|apply v_nil|apply v_take;(case hg=>rfl)|apply v_pass;(case hg|hn|hd=>rfl)|apply v_pure;(case hop=>first|apply p_move<;>rfl|apply p_lt<;>rfl|apply p_gt<;>rfl|apply p_assign<;>rfl|apply p_pickT<;>rfl|apply p_pickF<;>rfl|apply p_fieldAddrB<;>rfl|fail);(case hd=>rfl)|apply v_condT;(case hc=>rfl)|apply v_cond;(case hc=>rfl);all_goals (intro h;(try simp only [reduceCtorEq,zzz] at h);try (exfalso;omega))|apply v_guardB;(case h1|h2=>rfl);all_goals (intro h;(try simp only [reduceCtorEq,zzz] at h))|apply v_box (zs:=Cm.cells ⟨kind,client,seq,key,val,old,node⟩);(case hx|hz|hd=>rfl);intro cb|apply v_read;(case hop=>(apply r_load1;rfl;(apply Cell.own;(case h=>repeat exact mhd _);rfl)));(case hd=>rfl)|fail)
  all_goals
   (refine v_ret [] (outsA1 rfl rfl) (by repeat (exact List.nil_sublist _)) ?_
    refine ⟨?_,rfl⟩
    have:cmdFields kind=(0,false):=by unfold cmdFields;rw [if_neg (by omega),if_neg (by omega),if_neg (by omega),if_neg (by omega),if_neg (by omega)]
    simp [cmdI,this])
 have qw:=owned_s G kind
 have qm:=member_s G kind
 obtain rfl|rfl|rfl|rfl|rfl|rfl|rfl|rfl:kind=1∨kind=2∨kind=3∨kind=4∨kind=5∨kind=6∨kind=7∨kind=8:=by omega
 all_goals
  (first|rw [decide_eq_true (by omega)] at qw|rw [decide_eq_false (by omega)] at qw)
  (first|rw [decide_eq_true (by omega)] at qm|rw [decide_eq_false (by omega)] at qm)
  repeat' (first|apply v_seq|apply v_region|apply v_nil|apply v_skip|apply v_take;(case hg=>rfl)|apply v_pass;(case hg|hn|hd=>rfl)|apply v_passN;(case hg|hn|hd=>rfl)|apply v_pure;(case hop=>first|apply p_move<;>rfl|apply p_eqs<;>rfl|apply p_nes<;>rfl|apply p_eq<;>rfl|apply p_lt<;>rfl|apply p_gt<;>rfl|apply p_ne<;>rfl|apply p_assign<;>rfl|apply p_pickT<;>rfl|apply p_pickF<;>rfl|apply p_not<;>rfl|apply p_fieldAddrB<;>rfl|apply p_neS<;>rfl|fail);(case hd=>rfl)|apply v_condT;(case hc=>rfl)|apply v_condF;(case hc=>rfl)|apply v_cond;(case hc=>rfl);all_goals (intro h;(try simp only [reduceCtorEq,zzz] at h);try (exfalso;omega))|apply v_guardB;(case h1|h2=>rfl);all_goals (intro h;(try simp only [reduceCtorEq,zzz] at h);try (exfalso;omega))|apply v_box (zs:=Cm.cells ⟨_,client,seq,key,val,old,node⟩);(case hx|hz|hd=>rfl);intro cb|apply v_callJ (hs:=qw);(case ha|hd=>rfl)|apply v_callJ (hs:=qm);(case ha|hd=>rfl)|apply v_callJ (hs:=qk);(case ha|hd=>rfl)|apply v_callJ (hs:=qv);(case ha|hd=>rfl)|apply v_callJ (hs:=qo);(case ha|hd=>rfl)|apply v_read;(case hop=>(apply r_load1;rfl;(apply Cell.own;(case h=>repeat exact mhd _);rfl)));(case hd=>rfl)|fail)
 all_goals
  (refine v_ret [] (outsA1 rfl rfl) (by repeat (exact List.nil_sublist _)) ?_
   refine ⟨?_,rfl⟩
   rw [cmdI_eq]
   congr 1
   unfold cmdE
   try simp only [nil_iff] at *
   try simp only
   (repeat' split)<;>first|rfl|(exfalso;omega)|(exfalso;simp_all;done)|(exfalso;simp_all;omega))
end Go.Proofs.YtlkakbjcolgjbaaGreatDoor
/-
  VX: copy, append of zeros, slices.overlaps.
-/
namespace Go.Vx
attribute [local semireducible] Vc MoveOp PureOp ReadOp DVc Con
open Go Go.Lib
section
variable {P:Program}{fn:Func}{n:Nat}{B:Base}{Φ:Value→GH→OH→Prop}{k:List It}{rest:List Oper}{all:Array Oper}{σ:Env}{G:GH}{μ:OH}{d:Nat}{t ty:TypeId}{pos:String}{af:Array Edge}{bytes:Nat}{zero:Value}
class Overl (P:Program) (f:FuncId) (e:outParam TypeId) (tR:outParam TypeId):Prop where
 h:∃ ts,P.underlying ts=some (.slice e)∧∀ args w,(callFunc f args).run P w=((Extern.SlicesOverlaps.overlaps #[ts,ts] #[tR] args).run P w).andThen fun v w'=>.ok (.value v) w'
end
end Go.Vx
/-
  Rows of structs in lists, whatever the struct; pairs, answers, sessions.
-/
namespace Go.Proofs.YtlkakbjcolgjbaaGreatDoor
open Go.Vx Go.ChangeShapes Go.WideShapes Go.ChangeAt Go.RowKit
def RowR {α:Type}(f:α→List Value) (x:α) (cs:List Value):Prop:=cs=f x
def rowC {α:Type}(f:α→List Value) (l:List α):List Value:=(l.map f).flatten
section
variable {α:Type}{f:α→List Value}{sz:Nat}
theorem rowC_cons (x:α) (l:List α):rowC f (x::l)=f x++rowC f l:=by simp [rowC]
theorem rowC_nil:rowC f []=[]:=rfl
theorem rowC_append (a b:List α):rowC f (a++b)=rowC f a++rowC f b:=by simp [rowC]
theorem rowC_length (hf:∀ x,(f x).length=sz) (l:List α):(rowC f l).length=l.length*sz:=by
 induction l with
 | nil=>simp [rowC]
 | cons x l ih=>rw [rowC_cons,List.length_append,ih,hf,List.length_cons,Nat.add_mul,Nat.one_mul];omega
theorem rowC_drop (hf:∀ x,(f x).length=sz) (l:List α) (i:Nat):(rowC f l).drop (i*sz)=rowC f (l.drop i):=by
 by_cases h:i≤l.length
 ·have hle:(rowC f (l.take i)).length=i*sz:=by rw [rowC_length hf,List.length_take,Nat.min_eq_left h]
  conv=>lhs;rw [← List.take_append_drop i l,rowC_append]
  rw [← hle,List.drop_left]
 ·rw [List.drop_of_length_le (by rw [rowC_length hf];exact Nat.mul_le_mul_right _ (by omega)),List.drop_of_length_le (by omega)];rfl
theorem rowC_at (hf:∀ x,(f x).length=sz) (l:List α) (i:Nat) (hi:i<l.length):((rowC f l).drop (i*sz)).take sz=f l[i]:=by
 rw [rowC_drop hf,List.drop_eq_getElem_cons hi,rowC_cons,← hf l[i],List.take_left]
theorem rowC_get (hf:∀ x,(f x).length=sz) (l:List α) (i j:Nat) (hi:i<l.length) (hj:j<sz):(rowC f l)[i*sz+j]? = (f l[i])[j]? := by
 rw [← rowC_at hf l i hi,List.getElem?_take_of_lt hj,List.getElem?_drop]
theorem rowC_one (h1:∀ x,(f x).all Value.oneCell'=true) (l:List α):(rowC f l).all Value.oneCell'=true:=by
 induction l with
 | nil=>rfl
 | cons x l ih=>rw [rowC_cons,List.all_append,ih,Bool.and_true,h1]
theorem rowOpen {G:GH}{v:Value}{l:List α}(h:Sl G sz (RowR f) v l):∃ A c,v=.slice A l.length c∧l.length≤c∧c≤maxLen∧(0<l.length→A.isSome=true)∧(∀ i (h:i<l.length),CellsG G ((adr A).add (i*sz)) (f l[i])):=by
 obtain ⟨A,c,rfl,h1,h2,h3,h4⟩:=h.open
 refine ⟨A,c,rfl,h1,h2,h3,fun i hi=>?_⟩
 obtain ⟨cs,_,rfl,h5⟩:=h4 i _ (List.getElem?_eq_getElem hi)
 exact h5
theorem rowSrc (hf:∀ x,(f x).length=sz) (hsz:0<sz) {G:GH}{μ:OH}{A:Option Addr}{c:Nat}{l:List α}(hsome:0<l.length→A.isSome=true) (hcp:∀ i (h:i<l.length),CellsG G ((adr A).add (i*sz)) (f l[i])):Go.Vx.Src G μ (.slice A l.length c) l.length sz (rowC f l):=by
 refine ⟨rowC_length hf l,A,c,rfl,fun h=>?_⟩
 obtain ⟨a,rfl⟩:=Option.isSome_iff_exists.1 (hsome h)
 refine ⟨a,rfl,CellsAt.frozen fun p v hv=>?_⟩
 have hp:p<l.length*sz:=by rw [← rowC_length hf];exact (List.getElem?_eq_some_iff.1 hv).1
 have e:p=p / sz*sz+p % sz:=by rw [Nat.mul_comm,Nat.div_add_mod]
 have hm:=Nat.mod_lt p hsz
 have hd:p / sz<l.length:=Nat.div_lt_of_lt_mul (by rw [Nat.mul_comm];exact hp)
 rw [e,← add_add]
 rw [e,rowC_get hf l (p / sz) (p % sz) hd hm] at hv
 exact hcp (p / sz) hd _ _ hv
theorem row_of_grow (hf:∀ x,(f x).length=sz) {e:TypeId}{v:Value}{l:List α}{ν:OH}(h:Grow e sz v l.length (rowC f l) ν) {G':GH}(hG:∀ b o,(b,o)∈ν→G' b=some o):Sl G' sz (RowR f) v l:=by
 refine h.sl hG (by simp) fun i x cs hx hc=>?_
 rw [List.getElem?_map,hx] at hc
 simp only [Option.map_some,Option.some.injEq] at hc
 subst hc
 exact ⟨hf x,rfl⟩
end
structure Pr where
 key:ByteArray
 val:ByteArray
 rev:Int
def Pr.cells (x:Pr):List Value:=[.string x.key,.string x.val,.int .i64 x.rev]
structure An where
 client:Int
 seq:Int
 err:Int
 found:Bool
 val:ByteArray
 rev:Int
def An.cells (x:An):List Value:=[.int .i64 x.client,.int .i64 x.seq,.int .i64 x.err,.bool x.found,.string x.val,.int .i64 x.rev]
structure Ss where
 client:Int
 seq:Int
 last:An
def Ss.cells (x:Ss):List Value:=.int .i64 x.client::.int .i64 x.seq::x.last.cells
theorem Pr.len (x:Pr):x.cells.length=3:=rfl
theorem Ss.len (x:Ss):x.cells.length=8:=rfl
abbrev Prs (G:GH) (v:Value) (l:List Pr):Prop:=Sl G 3 (RowR Pr.cells) v l
abbrev Sss (G:GH) (v:Value) (l:List Ss):Prop:=Sl G 8 (RowR Ss.cells) v l
abbrev zP:Value:=.agg #[.string ByteArray.empty,.string ByteArray.empty,.int .i64 0]
abbrev zS:Value:=.agg #[.int .i64 0,.int .i64 0,.int .i64 0,.int .i64 0,.int .i64 0,.bool false,.string ByteArray.empty,.int .i64 0]
abbrev GrP (v:Value) (l:List Pr) (ν:OH):Prop:=Grow 94 3 v l.length (rowC Pr.cells l) ν
abbrev GrS (v:Value) (l:List Ss) (ν:OH):Prop:=Grow 66 8 v l.length (rowC Ss.cells l) ν
end Go.Proofs.YtlkakbjcolgjbaaGreatDoor
/-
  The library: slices.Clone and slices.Insert of pairs and of sessions. (Printed by genL.py.)
-/
namespace Go.Proofs.YtlkakbjcolgjbaaGreatDoor
open Go.Vx Go.ChangeShapes Go.WideShapes Go.ChangeAt Go.RowKit
theorem p_sliceB {σ:Env}{ty t e:TypeId}{agg:Bool}{sz bytes:Nat}{zero:Value}{x lo:Operand}{b o n c:Nat}{k:IntKind}{z:Int} [Ty Tryz.prog t (.slice e)] [Lay Tryz.prog e agg sz bytes zero] (m:Nat) (hx:Env.ev σ x=some (.slice (some ⟨b,o,none⟩) n c)) (hl:Env.ev σ lo=some (.int k z)) (hz:z=(m:Nat)) (h1:m≤n) (h2:n≤c) (h3:m<c) :
 PureOp Tryz.prog (.slice t x (some lo) none none) ty σ (.slice (some ⟨b,o+m*sz,none⟩) (n-m) (c-m)):=by
 subst hz
 have h:=p_sliceL (P:=Tryz.prog) (ty:=ty) (t:=t) (e:=e) (agg:=agg) (sz:=sz) (bytes:=bytes) (zero:=zero) hx hl (by omega) (by omega) h2
 simp only [Int.toNat_natCast] at h
 rw [if_neg (by omega),Option.map_some,add_mk] at h
 exact h
theorem p_sliceHB {σ:Env}{ty t e:TypeId}{agg:Bool}{sz bytes:Nat}{zero:Value}{x hi:Operand}{A:Option Addr}{n c:Nat}{k:IntKind}{z:Int} [Ty Tryz.prog t (.slice e)] [Lay Tryz.prog e agg sz bytes zero] (m:Nat) (hx:Env.ev σ x=some (.slice A n c)) (hl:Env.ev σ hi=some (.int k z)) (hz:z=(m:Nat)) (h1:m≤c) :
 PureOp Tryz.prog (.slice t x none (some hi) none) ty σ (.slice A m c):=by
 subst hz
 exact p_sliceH (P:=Tryz.prog) (ty:=ty) (t:=t) (e:=e) (agg:=agg) (sz:=sz) (bytes:=bytes) (zero:=zero) hx hl (by omega) (by omega)
theorem p_convE64 {σ:Env}{ty:TypeId}{x:Operand}{k k'':IntKind}{a:Int}{t u:TypeId} [Ty Tryz.prog t (.int k'')] [Ty Tryz.prog u (.int .u64)] (hx:Env.ev σ x=some (.int k a)) (h:0≤a∧a≤9223372036854775807):PureOp Tryz.prog (.convert t u x) ty σ (.int .u64 a):=by
 have e:IntKind.u64.wrap a=a:=by rw [IntKind.wrap_u64];omega
 have:=p_conv (P:=Tryz.prog) (ty:=ty) (t:=t) (u:=u) hx
 rwa [e] at this
attribute [local semireducible] PureOp in
theorem p_shr1 {σ:Env}{ty:TypeId}{x y:Operand}{k':IntKind}{a:Int}{t t':TypeId}(hx:Env.ev σ x=some (.int .u64 a)) (hy:Env.ev σ y=some (.int k' 1)):PureOp Tryz.prog (.binOp .shr t x y t') ty σ (.int .u64 (a / 2)):=by
 intro dst pos af g ρ hρ w
 have:=shift_shr .u64 k' a 1 (by decide) (by decide)
 simp [execOp,hρ _ _ hx,hρ _ _ hy,eqGuard,binOp_shr,this]
theorem isNaN_s (G:GH) (a:Int):Con Tryz.prog 48 #[.int .i64 a] G [] (Just (.bool false) G):=by
 apply Con.just
 (refine v_enter Tryz.func48 rfl Tryz.ntmps48 rfl ?_;intro B _)
 repeat' (first|apply v_seq|apply v_region|apply v_nil|apply v_pure;(case hop=>first|apply p_move<;>rfl|apply p_nes<;>rfl|apply p_assign<;>rfl|fail);(case hd=>rfl)|fail)
 refine v_ret [] (outsA1 rfl rfl) (by repeat (exact List.Sublist.refl _)) ?_
 refine ⟨?_,rfl⟩
 simp [dec_eq]
theorem cmp_s (G:GH) (a b:Int):Con Tryz.prog 34 #[.int .i64 a,.int .i64 b] G [] (Just (.int .i64 (cmpK a b)) G):=by
 have qa:=isNaN_s G a
 have qb:=isNaN_s G b
 apply Con.just
 (refine v_enter Tryz.func34 rfl Tryz.ntmps34 rfl ?_;intro B _)
 repeat' (first|apply v_seq|apply v_region|apply v_nil|apply v_skip|apply v_pure;(case hop=>first|apply p_move<;>rfl|apply p_lt<;>rfl|apply p_gt<;>rfl|apply p_assign<;>rfl);(case hd=>rfl)|apply v_condF;(case hc=>rfl)|apply v_cond;(case hc=>rfl);all_goals (intro h;(try simp only [reduceCtorEq,zzz] at h))|apply v_callJ (hs:=qa);(case ha|hd=>rfl)|apply v_callJ (hs:=qb);(case ha|hd=>rfl)|fail)
 all_goals
  (refine v_ret [] (outsA1 rfl rfl) (by repeat (exact List.Sublist.refl _)) ?_
   refine ⟨?_,rfl⟩
   simp [cmpK, *])
section
variable {α:Type}{key:α→Int}
def RiseG (key:α→Int) (l:List α):Prop := ∀ i j (hj:j<l.length) (h:i<j),key (l[i]'(by omega))<key l[j]
def placeG (key:α→Int) (l:List α) (n:Int):Nat:=l.countP fun x=>decide (key x<n)
theorem placeG_eq {l:List α}{n:Int}{i:Nat}(hi:i≤l.length) (h1:∀ m (h:m<l.length),m<i→key l[m]<n) (h2:∀ m (h:m<l.length),i≤m→¬ key l[m]<n):placeG key l n=i:=by
 have e:l=l.take i++l.drop i:=(List.take_append_drop i l).symm
 rw [placeG,e,List.countP_append,List.countP_eq_length.2,List.countP_eq_zero.2,List.length_take,Nat.add_zero]
 ·omega
 ·intro x hx
  obtain ⟨m,hm,rfl⟩:=List.getElem_of_mem hx
  rw [List.length_drop] at hm
  rw [List.getElem_drop]
  simpa using h2 (i+m) (by omega) (by omega)
 ·intro x hx
  obtain ⟨m,hm,rfl⟩:=List.getElem_of_mem hx
  rw [List.length_take] at hm
  rw [List.getElem_take]
  simpa using h1 m (by omega) (by omega)
def hitG (key:α→Int) (l:List α) (n:Int):Bool:=if h:placeG key l n<l.length then decide (key (l[placeG key l n])=n) else false
end
abbrev ksS (x:Ss):Int:=x.client
abbrev ksP (x:Pr):Int:=kn x.key
end Go.Proofs.YtlkakbjcolgjbaaGreatDoor
/-
  VX: make of a slice; copy of nothing; clear of a row's end; results that lie in memory, of several shapes.
-/
namespace Go.Vx
open Go
section
attribute [local semireducible] MoveOp ReadOp PureOp
variable {P:Program}{fn:Func}{n:Nat}{B:Base}{Φ:Value→GH→OH→Prop}{k:List It}{rest:List Oper}{all:Array Oper}{σ:Env}{G:GH}{μ:OH}{d:Nat}{t ty:TypeId}{pos:String}{af:Array Edge}{bytes:Nat}{zero:Value}
theorem m_clear {e:TypeId}{agg:Bool}{sz:Nat}{x:Operand}{b o m c:Nat}{vs vs':List Value}{μ':OH} [Ty P t (.slice e)] [Lay P e agg sz bytes zero] (hx:Env.ev σ x=some (.slice (some ⟨b,o,none⟩) m c)) (hm:0<m) (hb:Has μ b vs e) (hz:zero.cells.size=sz) (h1:∀ q,(Builtin.zeroCells zero.cells q).toList.all Value.oneCell'=true) (hfit:o+m*sz≤vs.length) (hov:over vs o (Builtin.zeroCells zero.cells m).toList=vs') (hu:Upd b (.cells vs'.toArray e (0,0)) μ μ') :
 MoveOp P (.call { callee:=.builtin .clear,args:=#[x],argTypes:=#[t] }) ty σ G μ (fun v' G' μ''=>v'=.tuple #[]∧G'=G∧μ''=μ'):=by
 intro dst pos af g ρ hρ w hw a K Q hK
 have ht:P.underlying t=some (.slice e):=Ty.h
 have hlen:(Builtin.zeroCells zero.cells m).toList.length=m*sz:=by simp [Builtin.zeroCells,hz]
 have hst:=run_storeCells_at P b o e (Builtin.zeroCells zero.cells m).toList 0 vs.toArray w (hw.own b _ hb) (by simp only [Nat.add_zero,List.size_toArray,hlen];exact hfit) (fun v hv=>List.all_eq_true.1 (h1 m) v hv)
 simp only [Nat.add_zero] at hst
 have hov':(vs.toArray.toList.take o++(Builtin.zeroCells zero.cells m).toList++vs.toArray.toList.drop (o+(Builtin.zeroCells zero.cells m).toList.length))=vs':=by rw [← hov];rfl
 rw [hov'] at hst
 obtain ⟨q,rfl⟩:∃ q,m=q+1:=⟨m-1,by omega⟩
 have hr:(Builtin.clear_ #[t] ty #[.slice (some ⟨b,o,none⟩) (q+1) c]).run P w=.ok (.tuple #[]) (w.setRow b vs'.toArray):=by
  simp [Builtin.clear_,run_underlying ht,run_zeroOf (P:=P) (t:=e) (agg:=agg) (size:=sz) (bytes:=bytes) (zero:=zero),hst]
 have hex:(execOp ρ ⟨dst,.call { callee:=.builtin .clear,args:=#[x],argTypes:=#[t] },ty,pos,af,g⟩).run P w=.ok (.value (.tuple #[])) (w.setRow b vs'.toArray):=by
  simp only [execOp,resolve,invoke,builtin,Sem.run_bind,Sem.run_pure,Result.andThen_ok,List.map_toArray,List.map_cons,List.map_nil,hρ _ _ hx,hr]
 rw [hex]
 exact hK _ _ G _ (Step.row hw hb hu) ⟨rfl,rfl,rfl⟩
end
section
variable {P:Program}{fn:Func}{n:Nat}{σ:Env}{G:GH}{μ:OH}
theorem outsM_tc {u0:Nat}{x0:Value}{a1 b1 sz1 bytes1:Nat}{zero1:Value}{vs1:List Value}{t1 e1:TypeId} [Lay P t1 true sz1 bytes1 zero1] (hr:fn.results = #[.tmp u0,.cell a1 t1]) (hu0:Env.get σ u0=some x0) (ha1:Env.get σ a1=some (.pointer (some ⟨b1,0,none⟩))) (hb1:Has μ b1 vs1 e1) (hl1:vs1.length=sz1):OutsM P fn n σ G μ (.tuple [x0,.agg vs1.toArray].toArray):=by
 intro w hw ds a' ha'
 have h0:=ha'.get _ _ hu0
 subst hl1
 have h1:=ha'.get _ _ ha1
 have g1:(loadCells ⟨b1,0,none⟩ vs1.length).run P w=.ok vs1.toArray w:=run_loadCells_list w _ vs1 (fun j v hv=>CellsAt.own hb1 j v hv w hw)
 simp only [Array.getD_eq_getD_getElem?] at h0 h1
 simp [results,hr,asAddr,loadVar,h0,h1,run_isAgg' (P:=P) (t:=t1) (agg:=true) (size:=vs1.length) (bytes:=bytes1) (zero:=zero1),run_sizeOf (P:=P) (t:=t1) (agg:=true) (size:=vs1.length) (bytes:=bytes1) (zero:=zero1),g1]
theorem outsM_cc {a0 b0 sz0 bytes0:Nat}{zero0:Value}{vs0:List Value}{t0 e0:TypeId} [Lay P t0 true sz0 bytes0 zero0] {a1 b1 sz1 bytes1:Nat}{zero1:Value}{vs1:List Value}{t1 e1:TypeId} [Lay P t1 true sz1 bytes1 zero1] (hr:fn.results = #[.cell a0 t0,.cell a1 t1]) (ha0:Env.get σ a0=some (.pointer (some ⟨b0,0,none⟩))) (hb0:Has μ b0 vs0 e0) (hl0:vs0.length=sz0) (ha1:Env.get σ a1=some (.pointer (some ⟨b1,0,none⟩))) (hb1:Has μ b1 vs1 e1) (hl1:vs1.length=sz1):OutsM P fn n σ G μ (.tuple [.agg vs0.toArray,.agg vs1.toArray].toArray):=by
 intro w hw ds a' ha'
 subst hl0
 have h0:=ha'.get _ _ ha0
 have g0:(loadCells ⟨b0,0,none⟩ vs0.length).run P w=.ok vs0.toArray w:=run_loadCells_list w _ vs0 (fun j v hv=>CellsAt.own hb0 j v hv w hw)
 subst hl1
 have h1:=ha'.get _ _ ha1
 have g1:(loadCells ⟨b1,0,none⟩ vs1.length).run P w=.ok vs1.toArray w:=run_loadCells_list w _ vs1 (fun j v hv=>CellsAt.own hb1 j v hv w hw)
 simp only [Array.getD_eq_getD_getElem?] at h0 h1
 simp [results,hr,asAddr,loadVar,h0,run_isAgg' (P:=P) (t:=t0) (agg:=true) (size:=vs0.length) (bytes:=bytes0) (zero:=zero0),run_sizeOf (P:=P) (t:=t0) (agg:=true) (size:=vs0.length) (bytes:=bytes0) (zero:=zero0),g0,h1,run_isAgg' (P:=P) (t:=t1) (agg:=true) (size:=vs1.length) (bytes:=bytes1) (zero:=zero1),run_sizeOf (P:=P) (t:=t1) (agg:=true) (size:=vs1.length) (bytes:=bytes1) (zero:=zero1),g1]
end
end Go.Vx
/-
  The library: slices.Delete of pairs; slices.ContainsFunc.
-/
namespace Go.Proofs.YtlkakbjcolgjbaaGreatDoor
open Go.Vx Go.ChangeShapes Go.WideShapes Go.ChangeAt Go.RowKit
theorem over_end (p z q:List Value) (h:z.length≤q.length):over (p++q) p.length z=p++(z++q.drop z.length):=by
 unfold over
 rw [List.take_left,← List.drop_drop,List.drop_left,List.append_assoc]
end Go.Proofs.YtlkakbjcolgjbaaGreatDoor
/-
  kvone, kvtwo (layers 23, 24): whether pairs may be.
-/
namespace Go.Proofs.YtlkakbjcolgjbaaGreatDoor
open Go.Vx Go.ChangeShapes Go.WideShapes Go.ChangeAt Go.RowKit
def revS (x:Ss):Bool:=decide (x.last.rev≠0)
def PrOk (x:Pr):Prop:=keyB x.key=true∧valB x.val=true
def Sized (l:List Pr):Prop := ∀ x∈l,x.key.size≤200∧x.val.size≤200
def AdjP (l:List Pr):Prop := ∀ i (h:i<l.length) (h0:0<i),ksP (l[i-1]'(by omega))<ksP l[i]
def OneP (l:List Pr):Prop:=l.length≤64∧AdjP l∧∀ x∈l,PrOk x∧x.rev=0
def TwoP (l:List Pr):Prop:=l.length≤64∧AdjP l∧∀ x∈l,PrOk x∧1≤x.rev∧x.rev≤4294967296
theorem adj_rise {l:List Pr}(h:AdjP l):RiseG ksP l:=by
 intro i j hj hij
 induction j with
 | zero=>omega
 | succ j ih =>
  have h1:=h (j+1) hj (by omega)
  simp only [Nat.add_sub_cancel] at h1
  by_cases e:i=j
  ·subst e;exact h1
  ·have:=ih (by omega) (by omega)
   omega
theorem rise_adj {l:List Pr}(h:RiseG ksP l):AdjP l:=fun i hi h0=>h (i-1) i hi (by omega)
section
variable {P:Program}{σ:Env}{G:GH}{μ:OH}{t ty:TypeId}{bytes:Nat}{zero:Value}
end
theorem placeG_le {α:Type}(key:α→Int) (l:List α) (n:Int):placeG key l n≤l.length:=List.countP_le_length
theorem hitG_lt {α:Type}{key:α→Int}{l:List α}{n:Int}(h:hitG key l n=true):placeG key l n<l.length:=by
 unfold hitG at h
 split at h
 ·assumption
 ·cases h
def zeroPr:Pr:=⟨ByteArray.empty,ByteArray.empty,0⟩
def findP (l:List Pr) (n:Int):Pr:=if h:hitG ksP l n=true then l[placeG ksP l n]'(hitG_lt h) else zeroPr
theorem over_at (p x y t sp:List Value) (h:y.length=x.length):over (p++(x++t)++sp) p.length y=p++(y++t)++sp:=by
 unfold over
 rw [List.append_assoc p,List.take_left,← List.drop_drop,List.drop_left,h,List.append_assoc x,List.drop_left]
 simp
theorem rowC_set {α:Type}{f:α→List Value}{sz:Nat}(hf:∀ x,(f x).length=sz) (l:List α) (i:Nat) (hi:i<l.length) (y:α) (sp:List Value):over (rowC f l++sp) (i*sz) (f y)=rowC f (l.set i y)++sp:=by
 have h1:(rowC f (l.take i)).length=i*sz:=by rw [rowC_length hf,List.length_take,Nat.min_eq_left (by omega)]
 have e:rowC f l=rowC f (l.take i)++(f l[i]++rowC f (l.drop (i+1))):=by rw [← rowC_cons,← List.drop_eq_getElem_cons hi,← rowC_append,List.take_append_drop]
 have e2:l.set i y=l.take i++y::l.drop (i+1):=by
  rw [List.set_eq_take_append_cons_drop,if_pos hi]
 rw [e2,e,rowC_append,rowC_cons,← h1]
 exact over_at _ _ _ _ _ (by rw [hf,hf])
section
variable {α:Type}{key:α→Int}
abbrev RiseW (key:α→Int) (l:List α):Prop:=l.Pairwise fun a b=>key a<key b
theorem riseG_pw {l:List α}:RiseG key l↔RiseW key l:=by
 unfold RiseG RiseW
 rw [List.pairwise_iff_getElem]
 constructor
 ·intro h i j hi hj hij;exact h i j hj hij
 ·intro h i j hj hij;exact h i j (by omega) hj hij
theorem place_parts {l:List α}(h:RiseW key l) (n:Int):l.take (placeG key l n)=l.filter (fun x=>decide (key x<n))∧l.drop (placeG key l n)=l.filter (fun x=>decide (n≤key x)):=by
 induction l with
 | nil=>simp [placeG]
 | cons a l ih =>
  have h:=List.pairwise_cons.1 h
  obtain ⟨i1,i2⟩:=ih h.2
  unfold placeG at i1 i2 ⊢
  by_cases ha:key a<n
  ·have hn:¬ n≤key a:=by omega
   rw [List.countP_cons_of_pos (by simpa using ha),List.take_succ_cons,List.drop_succ_cons,i1,i2,List.filter_cons_of_pos (by simpa using ha),List.filter_cons_of_neg (by simpa using hn)]
   exact ⟨rfl,rfl⟩
  ·have h0:∀ x∈a::l,¬ key x<n:=fun x hx=>by
    rcases List.mem_cons.1 hx with rfl|hx
    ·exact ha
    ·have:=h.1 x hx;omega
   have e0:(a::l).countP (fun x=>decide (key x<n))=0:=List.countP_eq_zero.2 fun x hx=>by simpa using h0 x hx
   rw [e0,List.take_zero,List.drop_zero]
   refine ⟨(List.filter_eq_nil_iff.2 fun x hx=>by simpa using h0 x hx).symm,(List.filter_eq_self.2 fun x hx=>?_).symm⟩
   have:=h0 x hx
   simp only [decide_eq_true_eq]
   omega
def withG (key:α→Int) (l:List α) (p:α):List α:=l.filter (fun x=>decide (key x<key p))++p::l.filter (fun x=>decide (key p<key x))
theorem hit_parts {l:List α}(h:RiseW key l) (n:Int):(∃ hlt:placeG key l n<l.length,hitG key l n=true∧key (l[placeG key l n])=n∧l.drop (placeG key l n+1)=l.filter (fun x=>decide (n<key x)))∨(hitG key l n=false∧(∀ x∈l,key x≠n)∧l.drop (placeG key l n)=l.filter (fun x=>decide (n<key x))):=by
 obtain ⟨h1,h2⟩:=place_parts h n
 have hle:=placeG_le key l n
 have hall:(∀ x∈l,key x≠n)→l.filter (fun x=>decide (n≤key x))=l.filter (fun x=>decide (n<key x)):=fun hx=>List.filter_congr fun x hm=>by
  have:=hx x hm
  rw [Bool.eq_iff_iff,decide_eq_true_iff,decide_eq_true_iff]
  omega
 have hge:∀ x∈l.drop (placeG key l n),n≤key x:=fun x hx=>by
  rw [h2,List.mem_filter] at hx
  simpa using hx.2
 have hlt':∀ x∈l.take (placeG key l n),key x<n:=fun x hx=>by
  rw [h1,List.mem_filter] at hx
  simpa using hx.2
 by_cases hlt:placeG key l n<l.length
 ·have hd:=List.drop_eq_getElem_cons hlt
  have hpw:RiseW key (l.drop (placeG key l n)):=List.Pairwise.sublist (List.drop_sublist _ _) h
  rw [hd] at hpw
  have hpw:=List.pairwise_cons.1 hpw
  by_cases hk:key (l[placeG key l n])=n
  ·refine .inl ⟨hlt,?_,hk,?_⟩
   ·unfold hitG;rw [dif_pos hlt];exact decide_eq_true hk
   ·have e:l.filter (fun x=>decide (n<key x))=(l.filter (fun x=>decide (n≤key x))).filter (fun x=>decide (n<key x)):=by
     rw [List.filter_filter]
     exact List.filter_congr fun x _=>by rw [Bool.eq_iff_iff];simp;omega
    rw [e,← h2,hd,List.filter_cons_of_neg (by simp;omega)]
    exact (List.filter_eq_self.2 fun x hx=>by have:=hpw.1 x hx;simp;omega).symm
  ·have hno:∀ x∈l,key x≠n:=fun x hx=>by
    rw [← List.take_append_drop (placeG key l n) l,List.mem_append] at hx
    rcases hx with hx|hx
    ·have:=hlt' x hx;omega
    ·have a:=hge _ (by rw [hd];exact List.mem_cons_self:l[placeG key l n]∈l.drop (placeG key l n))
     rw [hd] at hx
     rcases List.mem_cons.1 hx with rfl|hx
     ·exact hk
     ·have:=hpw.1 x hx;omega
   refine .inr ⟨?_,hno,by rw [h2,hall hno]⟩
   unfold hitG;rw [dif_pos hlt];exact decide_eq_false hk
 ·have hno:∀ x∈l,key x≠n:=fun x hx=>by
   have:placeG key l n=l.length:=by omega
   rw [this,List.take_length] at hlt'
   have:=hlt' x hx
   omega
  refine .inr ⟨?_,hno,by rw [h2,hall hno]⟩
  unfold hitG;rw [dif_neg hlt]
theorem hit_iff {l:List α}(h:RiseW key l) {n:Int}:hitG key l n=true↔∃ x∈l,key x=n:=by
 rcases hit_parts h n with ⟨hlt,h1,h2,-⟩|⟨h1,h2,-⟩
 ·exact ⟨fun _=>⟨_,List.getElem_mem hlt,h2⟩,fun _=>h1⟩
 ·rw [h1]
  exact ⟨fun h=>(by cases h),fun ⟨x,hx,e⟩=>absurd e (h2 x hx)⟩
theorem ins_with {l:List α}(h:RiseW key l) (p:α):(if hitG key l (key p)=true then l.set (placeG key l (key p)) p else l.take (placeG key l (key p))++p::l.drop (placeG key l (key p)))=withG key l p:=by
 obtain ⟨h1,h2⟩:=place_parts h (key p)
 rcases hit_parts h (key p) with ⟨hlt,e1,e2,e3⟩|⟨e1,e2,e3⟩
 ·rw [if_pos e1,List.set_eq_take_append_cons_drop,if_pos hlt,h1,e3]
  rfl
 ·rw [if_neg (by rw [e1];simp),h1,e3]
  rfl
theorem withG_rise {l:List α}(h:RiseW key l) (p:α):RiseW key (withG key l p):=by
 unfold withG RiseW
 rw [List.pairwise_append,List.pairwise_cons]
 refine ⟨h.sublist List.filter_sublist,⟨fun x hx=>?_,h.sublist List.filter_sublist⟩,fun x hx y hy=>?_⟩
 ·simpa using (List.mem_filter.1 hx).2
 ·have hx2:=(List.mem_filter.1 hx).2
  simp at hx2
  rcases List.mem_cons.1 hy with rfl|hy
  ·exact hx2
  ·have hy2:=(List.mem_filter.1 hy).2
   simp at hy2
   omega
theorem withG_mem {l:List α}{p x:α}(h:x∈withG key l p):x=p∨x∈l:=by
 unfold withG at h
 rcases List.mem_append.1 h with h|h
 ·exact .inr (List.mem_filter.1 h).1
 ·rcases List.mem_cons.1 h with h|h
  ·exact .inl h
  ·exact .inr (List.mem_filter.1 h).1
theorem withG_len {l:List α}(h:RiseW key l) (p:α):(withG key l p).length=if hitG key l (key p)=true then l.length else l.length+1:=by
 rw [← ins_with h p]
 split
 ·rw [List.length_set]
 ·rw [List.length_append,List.length_cons,List.length_take,List.length_drop]
  have:=placeG_le key l (key p)
  omega
theorem withG_twice {l:List α}{p q:α}(hk:key p=key q):withG key (withG key l p) q=withG key l q:=by
 unfold withG
 have e1:¬ key p<key q:=by omega
 have e2:¬ key q<key p:=by omega
 rw [List.filter_append,List.filter_cons_of_neg (by simpa using e1),List.filter_append,List.filter_cons_of_neg (by simpa using e2)]
 simp only [List.filter_filter,hk]
 have a1:(l.filter fun a=>decide (key a<key q) && decide (key q<key a))=[]:=List.filter_eq_nil_iff.2 fun x _=>by simp;omega
 have a2:(l.filter fun a=>decide (key q<key a) && decide (key a<key q))=[]:=List.filter_eq_nil_iff.2 fun x _=>by simp;omega
 simp only [a1,a2,Bool.and_self,List.append_nil,List.nil_append]
end
def ans0 (c:Cm):An:=⟨c.client,c.seq,0,false,ByteArray.empty,0⟩
def roomB (l:List Pr) (n:Int):Bool:=hitG ksP l n || decide (l.length<64)
def doOne (l:List Pr) (c:Cm):List Pr×An :=
 if c.kind=2 then (if roomB l (kn c.key)=true then (withG ksP l ⟨c.key,c.val,0⟩,{ ans0 c with found:=hitG ksP l (kn c.key),val:=(findP l (kn c.key)).val }) else (l,{ ans0 c with err:=11 }))
 else if c.kind=3 then (l,{ ans0 c with found:=hitG ksP l (kn c.key),val:=(findP l (kn c.key)).val })
 else if c.kind=4 then (l.filter (fun x=>decide (ksP x≠kn c.key)),{ ans0 c with found:=hitG ksP l (kn c.key),val:=(findP l (kn c.key)).val })
 else (l,{ ans0 c with err:=8 })
def nextR (r:Int):Int:=min r 4294967295+1
noncomputable def casP (l:List Pr) (c:Cm):List Pr×An :=
 if hitG ksP l (kn c.key)=false then (l,{ ans0 c with err:=10 })
 else if (findP l (kn c.key)).val=c.old then (withG ksP l ⟨c.key,c.val,nextR (findP l (kn c.key)).rev⟩,{ ans0 c with found:=true,val:=(findP l (kn c.key)).val,rev:=nextR (findP l (kn c.key)).rev })
 else (l,{ ans0 c with err:=15,found:=true,val:=(findP l (kn c.key)).val,rev:=(findP l (kn c.key)).rev })
noncomputable def doTwo (l:List Pr) (c:Cm):List Pr×An :=
 if c.kind=5 then casP l c
 else if c.kind=2∧(doOne l c).2.err=0 then (withG ksP (doOne l c).1 ⟨c.key,c.val,nextR (findP l (kn c.key)).rev⟩,(doOne l c).2)
 else doOne l c
def AnNum (a:An):Prop:=(1≤a.client∧a.client≤8)∧(1≤a.seq∧a.seq≤4294967296)∧(0≤a.err∧a.err≤17)∧(0≤a.rev∧a.rev≤4294967296)
noncomputable def ansI (a:An):Int:=if (1≤a.client∧a.client≤8)∧(1≤a.seq∧a.seq≤4294967296)∧(0≤a.err∧a.err≤17)∧(0≤a.rev∧a.rev≤4294967296) then (if valB a.val=true then 0 else 7) else 6
theorem ansI_zero {a:An}:ansI a=0↔AnNum a∧valB a.val=true:=by
 unfold ansI AnNum
 by_cases h:(1≤a.client∧a.client≤8)∧(1≤a.seq∧a.seq≤4294967296)∧(0≤a.err∧a.err≤17)∧(0≤a.rev∧a.rev≤4294967296)
 ·rw [if_pos h]
  by_cases hv:valB a.val=true
  ·rw [if_pos hv];exact ⟨fun _=>⟨h,hv⟩,fun _=>rfl⟩
  ·rw [if_neg hv];exact ⟨fun e=>(by omega),fun e=>absurd e.2 hv⟩
 ·rw [if_neg h]
  exact ⟨fun e=>(by omega),fun e=>absurd e.1 h⟩
def SsOk (x:Ss):Prop:=x.last.client=x.client∧x.last.seq=x.seq∧ansI x.last=0
def AdjS (l:List Ss):Prop := ∀ i (h:i<l.length) (h0:0<i),ksS (l[i-1]'(by omega))<ksS l[i]
def SesP (l:List Ss):Prop:=AdjS l∧∀ x∈l,SsOk x
theorem adjS_rise {l:List Ss}(h:AdjS l):RiseG ksS l:=by
 intro i j hj hij
 induction j with
 | zero=>omega
 | succ j ih =>
  have h1:=h (j+1) hj (by omega)
  simp only [Nat.add_sub_cancel] at h1
  by_cases e:i=j
  ·subst e;exact h1
  ·have:=ih (by omega) (by omega)
   omega
theorem rise_adjS {l:List Ss}(h:RiseG ksS l):AdjS l:=fun i hi h0=>h (i-1) i hi (by omega)
def zA:An:=⟨0,0,0,false,ByteArray.empty,0⟩
def zSs:Ss:=⟨0,0,zA⟩
def sesAt (l:List Ss) (n:Int):Ss:=if h:hitG ksS l n=true then l[placeG ksS l n]'(hitG_lt h) else zSs
def whichS (l:List Ss) (n seq:Int):Int×An:=if hitG ksS l n=false then (0,zA) else if (sesAt l n).seq<seq then (0,zA) else if seq=(sesAt l n).seq then (1,(sesAt l n).last) else (2,zA)
def sesOf (a:An):Ss:=⟨a.client,a.seq,a⟩
abbrev HasP (v k:Int):Prop:=(v=1∨v=2)∧1≤k∧k≤8∧(k=5→v=2)
theorem refHas7_s (v k:Int) (G:GH):Con Tryz.prog 21 #[.int .i64 v,.int .i64 k] G [] (Just (.bool (decide (HasP v k))) G):=by
 (refine v_enter Tryz.func21 rfl Tryz.ntmps21 rfl ?_;intro B _)
 repeat' (first|apply v_seq|apply v_region|apply v_nil|apply v_skip|apply v_block|apply v_blk|apply v_exit;(case hp=>rfl)|apply v_take;(case hg=>rfl)|apply v_pass;(case hg|hn|hd=>rfl)|apply v_passN;(case hg|hn|hd=>rfl)|apply v_pure;(case hop=>first|apply p_move<;>rfl|apply p_eqs<;>rfl|apply p_nes<;>rfl|apply p_eqBs<;>rfl|apply p_neBs<;>rfl|apply p_eq<;>rfl|apply p_lt<;>rfl|apply p_gt<;>rfl|apply p_ne<;>rfl|apply p_assign<;>rfl|apply p_pickT<;>rfl|apply p_pickF<;>rfl|apply p_eqB<;>rfl|apply p_neB<;>rfl|apply p_eqNil<;>rfl|apply p_neNil<;>rfl|apply p_pickAnd<;>rfl|apply p_pickOr<;>rfl|apply p_eqS<;>rfl|apply p_neS<;>rfl|apply p_eqNilSlice<;>rfl|apply p_neNilSlice<;>rfl);(case hd=>rfl)|apply v_condT;(case hc=>rfl)|apply v_condF;(case hc=>rfl)|apply v_cond;(case hc=>rfl);all_goals (intro h;(try simp only [reduceCtorEq,zzz] at h);first|done|(exfalso;omega)|(exfalso;exact h (by with_reducible assumption))|(exfalso;revert h;rw [imp_false];with_reducible assumption)|skip)|apply v_guardB;(case h1|h2=>rfl);all_goals (intro h;(try simp only [reduceCtorEq,zzz] at h);first|done|(exfalso;omega)|(exfalso;exact h (by with_reducible assumption))|(exfalso;revert h;rw [imp_false];with_reducible assumption)|skip)|fail)
 all_goals (refine v_ret [] (outsA1 rfl rfl) (List.nil_sublist _) ?_;refine ⟨?_,rfl,rfl⟩)
 all_goals (congr 1;(try simp only [dec_eq]);first|rfl|(rw [Bool.eq_iff_iff];simp only [decide_eq_true_eq,Bool.not_eq_true',decide_eq_false_iff_not,Bool.and_eq_true,Bool.or_eq_true,reduceCtorEq,true_iff,false_iff];omega)|(simp;done)|(simp;omega))
structure St where
 schema:Int
 pairs:List Pr
 sess:List Ss
def StV (G:GH) (s:St) (v:Value):Prop := ∃ A c A' c',v=.agg [.int .i64 s.schema,.slice A s.pairs.length c,.slice A' s.sess.length c'].toArray∧Prs G (.slice A s.pairs.length c) s.pairs∧Sss G (.slice A' s.sess.length c') s.sess
theorem StV.up {G G':GH}(hle:GH.le G G') {s:St}{v:Value}(h:StV G s v):StV G' s v:=by
 obtain ⟨A,c,A',c',h1,h2,h3⟩:=h
 exact ⟨A,c,A',c',h1,h2.mono hle,h3.mono hle⟩
def verS (z:Int):Int:=if z=1 then 1 else 2
noncomputable def doS (z:Int) (l:List Pr) (c:Cm):List Pr×An:=if z=1 then doOne l c else doTwo l c
noncomputable def clientS (s:St) (c:Cm):St×An :=
 if (whichS s.sess c.client c.seq).1=1 then (s,(whichS s.sess c.client c.seq).2)
 else if (whichS s.sess c.client c.seq).1=2 then (s,{ ans0 c with err:=15 })
 else if HasP (verS s.schema) c.kind then (⟨s.schema,(doS s.schema s.pairs c).1,withG ksS s.sess (sesOf (doS s.schema s.pairs c).2)⟩,(doS s.schema s.pairs c).2)
 else (s,{ ans0 c with err:=14 })
def CmW (c:Cm):Prop:=c.key.size≤200∧c.val.size≤200
def StP (s:St):Prop:=SesP s.sess∧((s.schema=1∧s.sess.any revS=false∧OneP s.pairs)∨(s.schema=2∧TwoP s.pairs))
def revOf (r:Int) (x:Pr):Pr:={ x with rev:=r }
def upS (s:St):St:=⟨2,s.pairs.map (revOf 1),s.sess⟩
theorem ownB (k:Int):decide (¬ band (cmdFields k).1 1=0)=decide (2≤k∧k≤5):=by
 rw [decide_eq_decide]
 unfold cmdFields
 by_cases h1:k=1∨k=6
 ·rw [if_pos h1];exact ⟨fun h=>absurd band_0_1 h,fun h=>absurd h (by omega)⟩
 rw [if_neg h1]
 by_cases h2:k=2
 ·rw [if_pos h2];exact ⟨fun _=>by omega,fun _ h=>absurd (band_11_1.symm.trans h) (by decide)⟩
 rw [if_neg h2]
 by_cases h3:k=3∨k=4
 ·rw [if_pos h3];exact ⟨fun _=>by omega,fun _ h=>absurd (band_3_1.symm.trans h) (by decide)⟩
 rw [if_neg h3]
 by_cases h4:k=5
 ·rw [if_pos h4];exact ⟨fun _=>by omega,fun _ h=>absurd (band_15_1.symm.trans h) (by decide)⟩
 rw [if_neg h4]
 by_cases h5:k=7∨k=8
 ·rw [if_pos h5];exact ⟨fun h=>absurd band_16_1 h,fun h=>absurd h (by omega)⟩
 rw [if_neg h5];exact ⟨fun h=>absurd band_0_1 h,fun h=>absurd h (by omega)⟩
theorem cmdOwned_s (G:GH) (c:Cm):Con Tryz.prog 35 #[.agg c.cells.toArray] G [] (Just (.bool (decide (2≤c.kind∧c.kind≤5))) G):=by
 have q:=fields_s G c.kind
 have hb:=ownB c.kind
 apply Con.just
 obtain ⟨kind,client,seq,key,val,old,node⟩:=c
 simp only at *
 generalize cmdFields kind=f at *
 rw [← hb]
 (refine v_enter Tryz.func35 rfl Tryz.ntmps35 rfl ?_;intro B _)
 repeat' (first|apply v_box (zs:=Cm.cells ⟨kind,client,seq,key,val,old,node⟩);(case hx|hz|hd=>rfl);intro b|apply v_seq|apply v_region|apply v_nil|apply v_skip|apply v_block|apply v_blk|apply v_exit;(case hp=>rfl)|apply v_take;(case hg=>rfl)|apply v_pass;(case hg|hn|hd=>rfl)|apply v_passN;(case hg|hn|hd=>rfl)|apply v_pure;(case hop=>first|apply p_move<;>rfl|apply p_nes<;>rfl|apply p_neBs<;>rfl|apply p_ne<;>rfl|apply p_assign<;>rfl|apply p_fieldAddrB<;>rfl|apply p_fieldAddr<;>rfl|apply p_extract0<;>rfl|apply p_extract1<;>rfl|apply p_extract2<;>rfl|apply p_extract<;>rfl|apply p_neB<;>rfl|apply p_neNil<;>rfl|apply p_and64<;>rfl|apply p_neS<;>rfl|apply p_neNilSlice<;>rfl);(case hd=>rfl)|apply v_condT;(case hc=>rfl)|apply v_condF;(case hc=>rfl)|apply v_cond;(case hc=>rfl);all_goals (intro h;(try simp only [reduceCtorEq,zzz] at h);first|done|(exfalso;omega)|(exfalso;exact h (by with_reducible assumption))|(exfalso;revert h;rw [imp_false];with_reducible assumption)|skip)|apply v_guardB;(case h1|h2=>rfl);all_goals (intro h;(try simp only [reduceCtorEq,zzz] at h);first|done|(exfalso;omega)|(exfalso;exact h (by with_reducible assumption))|(exfalso;revert h;rw [imp_false];with_reducible assumption)|skip)|apply v_callJ (hs:=q);(case ha|hd=>rfl)|apply v_read;(case hop=>first|apply r_loadNo;(case hx=>rfl);(case h=>repeat first|exact mhd _|apply mtl|apply List.mem_append_right);(case hd=>repeat first|with_reducible exact dt_nil|apply dt_here|apply dt_drop);(case hn=>rfl)|apply r_load1;rfl;(apply Cell.own;(case h=>repeat first|exact mhd _|apply mtl|apply List.mem_append_right);rfl)|apply r_loadN;rfl;(apply CellsAt.own;(case h=>repeat first|exact mhd _|apply mtl|apply List.mem_append_right));rfl);(case hd=>rfl)|apply v_box;(case hx|hz|hd=>rfl);intro b|fail)
 all_goals
  (refine v_ret [] (outsA1 rfl rfl) (by repeat (first|exact List.Sublist.refl _|exact List.nil_sublist _|apply List.Sublist.cons_cons|apply List.Sublist.cons|exact List.sublist_append_left _ _|apply List.sublist_append_of_sublist_right)) ?_
   refine ⟨?_,rfl⟩
   (try simp only [dec_eq])
   first
    | rfl
    |(simp;done)
    |(simp_all;done))
def zeroSt:St:=⟨0,[],[]⟩
noncomputable def applyS (s:St) (c:Cm):St×An×Int :=
 if cmdI c≠0 then (zeroSt,zA,cmdI c)
 else if 2≤c.kind∧c.kind≤5 then ((clientS s c).1,(clientS s c).2,0)
 else if c.kind=6∧s.schema=1 then (upS s,zA,0)
 else (s,zA,0)
theorem TabsG.up {G G':GH}(hle:GH.le G G') (h:TabsG G):TabsG G':=fun w hw=>h w fun b o hb=>hw b o (hle b o hb)
def RevOk (z:Int) (x:Pr):Prop:=(z=1∧x.rev=0)∨(z=2∧1≤x.rev∧x.rev≤4294967296)
def PsOk (z:Int) (l:List Pr):Prop:=l.length≤64∧RiseW ksP l∧∀ x∈l,PrOk x∧RevOk z x
theorem stP_iff {s:St}:StP s↔SesP s.sess∧(s.schema=1∨s.schema=2)∧PsOk s.schema s.pairs∧(s.schema=1→s.sess.any revS=false):=by
 obtain ⟨z,lp,ls⟩:=s
 unfold StP PsOk OneP TwoP
 simp only
 constructor
 ·rintro ⟨h1,⟨rfl,h2,h3,h4,h5⟩|⟨rfl,h3,h4,h5⟩⟩
  ·exact ⟨h1,.inl rfl,⟨h3,riseG_pw.1 (adj_rise h4),fun x hx=>⟨(h5 x hx).1,.inl ⟨rfl,(h5 x hx).2⟩⟩⟩,fun _=>h2⟩
  ·exact ⟨h1,.inr rfl,⟨h3,riseG_pw.1 (adj_rise h4),fun x hx=>⟨(h5 x hx).1,.inr ⟨rfl,(h5 x hx).2⟩⟩⟩,fun h=>absurd h (by omega)⟩
 ·rintro ⟨h1,rfl|rfl,⟨h3,h4,h5⟩,h2⟩
  ·refine ⟨h1,.inl ⟨rfl,h2 rfl,h3,rise_adj (riseG_pw.2 h4),fun x hx=>⟨(h5 x hx).1,?_⟩⟩⟩
   rcases (h5 x hx).2 with h|h
   ·exact h.2
   ·exact absurd h.1 (by omega)
  ·refine ⟨h1,.inr ⟨rfl,h3,rise_adj (riseG_pw.2 h4),fun x hx=>⟨(h5 x hx).1,?_⟩⟩⟩
   rcases (h5 x hx).2 with h|h
   ·exact absurd h.1 (by omega)
   ·exact h.2
theorem keyB_size {s:ByteArray}(h:keyB s=true):s.size≤24:=by
 unfold keyB at h
 simp only [Bool.and_eq_true,decide_eq_true_eq] at h
 exact h.1.2
theorem valB_size {s:ByteArray}(h:valB s=true):s.size≤48:=by
 unfold valB at h
 simp only [Bool.and_eq_true,decide_eq_true_eq] at h
 exact h.1.1
theorem valB_empty:valB ByteArray.empty=true:=by
 unfold valB
 have h0:ByteArray.empty.size=0:=rfl
 simp only [Bool.and_eq_true,decide_eq_true_eq,h0]
 refine ⟨⟨by omega,by unfold badR;omega⟩,fun i hi=>by omega⟩
theorem ses_few:∀ (l:List Ss) (a:Int),RiseW ksS l→(∀ x∈l,a≤x.client∧x.client≤8)→a≤9→(l.length:Int)≤9-a
 | [],a,_,_,ha=>by simp;omega
 | x::l,a,h,hx,ha=>by
  have h1:=List.pairwise_cons.1 h
  have h2:=hx x List.mem_cons_self
  have:=ses_few l (x.client+1) h1.2 (fun y hy=>⟨by have:=h1.1 y hy;simp only [ksS] at this;omega,(hx y (List.mem_cons_of_mem _ hy)).2⟩) (by omega)
  simp only [List.length_cons]
  omega
theorem sesP_few {l:List Ss}(h:SesP l):l.length≤8:=by
 have:=ses_few l 1 (riseG_pw.1 (adjS_rise h.1)) (fun x hx=>by
  obtain ⟨h1,h2,h3⟩:=h.2 x hx
  have h4:=(ansI_zero.1 h3).1.1
  omega) (by omega)
 omega
theorem withG_ok {z:Int}{l:List Pr}{p:Pr}(h:PsOk z l) (hp:PrOk p) (hr:RevOk z p) (hroom:roomB l (kn p.key)=true):PsOk z (withG ksP l p):=by
 obtain ⟨h1,h2,h3⟩:=h
 refine ⟨?_,withG_rise h2 p,fun x hx=>?_⟩
 ·rw [withG_len h2]
  unfold roomB at hroom
  rw [Bool.or_eq_true,decide_eq_true_eq] at hroom
  split
  ·exact h1
  ·rename_i hn
   rcases hroom with h|h
   ·exact absurd h hn
   ·omega
 ·rcases withG_mem hx with rfl|hx
  ·exact ⟨hp,hr⟩
  ·exact h3 x hx
theorem filter_ok {z:Int}{l:List Pr}(f:Pr→Bool) (h:PsOk z l):PsOk z (l.filter f) :=
 ⟨Nat.le_trans (List.length_filter_le _ _) h.1,h.2.1.sublist List.filter_sublist,fun x hx=>h.2.2 x (List.mem_filter.1 hx).1⟩
theorem findP_val {z:Int}{l:List Pr}(h:PsOk z l) (n:Int):valB (findP l n).val=true∧0≤(findP l n).rev∧(findP l n).rev≤4294967296:=by
 unfold findP
 split
 ·have:=h.2.2 _ (List.getElem_mem (hitG_lt (by assumption)))
  refine ⟨this.1.2,?_⟩
  rcases this.2 with h|h<;>omega
 ·exact ⟨valB_empty,by decide,by decide⟩
def AnOk (z:Int) (c:Cm) (a:An):Prop:=a.client=c.client∧a.seq=c.seq∧(0≤a.err∧a.err≤17)∧(0≤a.rev∧a.rev≤4294967296)∧valB a.val=true∧(z=1→a.rev=0)
theorem nextR_le {r:Int}(h:0≤r):1≤nextR r∧nextR r≤4294967296:=by unfold nextR;omega
theorem doOne_an {z:Int}{l:List Pr}(c:Cm) (h:PsOk z l):AnOk z c (doOne l c).2∧(doOne l c).2.rev=0:=by
 have hf:=(findP_val h (kn c.key)).1
 unfold doOne AnOk ans0
 (repeat' split)<;>(refine ⟨⟨rfl,rfl,by simp,by simp,?_,fun _=>rfl⟩,rfl⟩;first|exact hf|exact valB_empty)
theorem doOne_ok {l:List Pr}(c:Cm) (h:PsOk 1 l) (hk:keyB c.key=true) (hv:c.kind=2→valB c.val=true):PsOk 1 (doOne l c).1:=by
 unfold doOne
 split
 ·split
  ·exact withG_ok h ⟨hk,hv (by assumption)⟩ (.inl ⟨rfl,rfl⟩) (by assumption)
  ·exact h
 ·split
  ·exact h
  ·split
   ·exact filter_ok _ h
   ·exact h
theorem room_of_hit {l:List Pr}{n:Int}(h:hitG ksP l n=true):roomB l n=true:=by unfold roomB;rw [h];rfl
theorem doTwo_ok {l:List Pr}(c:Cm) (h:PsOk 2 l) (hk:keyB c.key=true) (hv:c.kind=2∨c.kind=5→valB c.val=true):PsOk 2 (doTwo l c).1:=by
 have hf:=findP_val h (kn c.key)
 have hn:=nextR_le hf.2.1
 unfold doTwo
 split
 ·unfold casP
  split
  ·exact h
  ·rename_i h5 hh
   split
   ·exact withG_ok h ⟨hk,hv (by omega)⟩ (.inr ⟨rfl,hn⟩) (room_of_hit (by simpa using hh))
   ·exact h
 ·split
  ·rename_i h5 hc
   unfold doOne at hc ⊢
   rw [if_pos hc.1] at hc ⊢
   split
   ·simp only
    rw [withG_twice (by rfl)]
    exact withG_ok h ⟨hk,hv (by omega)⟩ (.inr ⟨rfl,hn⟩) (by assumption)
   ·rename_i hr
    rw [if_neg hr] at hc
    exact absurd hc.2 (by simp)
  ·rename_i h5 hc
   unfold doOne at hc ⊢
   split
   ·rename_i h2
    rw [if_pos h2] at hc
    split
    ·rename_i hr
     rw [if_pos hr] at hc
     exact absurd ⟨h2,rfl⟩ hc
    ·exact h
   ·split
    ·exact h
    ·split
     ·exact filter_ok _ h
     ·exact h
theorem doTwo_an {l:List Pr}(c:Cm) (h:PsOk 2 l):AnOk 2 c (doTwo l c).2:=by
 have hf:=findP_val h (kn c.key)
 have hn:=nextR_le hf.2.1
 have ho:=(doOne_an c h).1
 unfold doTwo
 split
 ·unfold casP AnOk ans0
  (repeat' split)<;>(refine ⟨rfl,rfl,by simp,?_,?_,fun h=>absurd h (by omega)⟩<;>first|exact hf.1|exact valB_empty|(simp;done)|(simp;omega)|fail)
 ·split
  ·exact ho
  ·exact ho
theorem doS_ok {z:Int}{l:List Pr}(c:Cm) (hz:z=1∨z=2) (h:PsOk z l) (hk:keyB c.key=true) (hv:c.kind=2∨c.kind=5→valB c.val=true):PsOk z (doS z l c).1∧AnOk z c (doS z l c).2:=by
 unfold doS
 rcases hz with rfl|rfl
 ·rw [if_pos rfl]
  exact ⟨doOne_ok c h hk (fun h=>hv (.inl h)),(doOne_an c h).1⟩
 ·rw [if_neg (by omega)]
  exact ⟨doTwo_ok c h hk hv,doTwo_an c h⟩
theorem sesAt_mem {l:List Ss}{n:Int}(hr:RiseW ksS l) (h:hitG ksS l n=true):sesAt l n∈l∧(sesAt l n).client=n:=by
 rcases hit_parts hr n with ⟨hlt,h1,h2,-⟩|⟨h1,-,-⟩
 ·unfold sesAt
  rw [dif_pos h]
  exact ⟨List.getElem_mem _,h2⟩
 ·rw [h1] at h;cases h
theorem withS_ok {l:List Ss}{a:An}(h:SesP l) (ha:ansI a=0):SesP (withG ksS l (sesOf a)):=by
 refine ⟨rise_adjS (riseG_pw.2 (withG_rise (riseG_pw.1 (adjS_rise h.1)) _)),fun x hx=>?_⟩
 rcases withG_mem hx with rfl|hx
 ·exact ⟨rfl,rfl,ha⟩
 ·exact h.2 x hx
theorem anOk_ans {z:Int}{c:Cm}{a:An}(h:AnOk z c a) (h1:1≤c.client∧c.client≤8) (h2:1≤c.seq∧c.seq≤4294967296):ansI a=0:=by
 obtain ⟨e1,e2,e3,e4,e5,e6⟩:=h
 exact ansI_zero.2 ⟨⟨by rw [e1];exact h1,by rw [e2];exact h2,e3,e4⟩,e5⟩
theorem cmd_ok {c:Cm}(h:cmdI c=0):(1≤c.kind∧c.kind≤8)∧((2≤c.kind∧c.kind≤5)→(1≤c.client∧c.client≤8)∧(1≤c.seq∧c.seq≤4294967296)∧keyB c.key=true)∧(c.kind=2∨c.kind=5→valB c.val=true):=by
 rw [cmdI_eq] at h
 unfold cmdE at h
 split at h
 ·exact absurd h (by omega)
 split at h
 ·exact absurd h (by omega)
 split at h
 ·exact absurd h (by omega)
 rename_i h1 h2 h3
 refine ⟨by omega,fun ho=>⟨by omega,by omega,?_⟩,fun hk=>?_⟩
 ·cases hb:keyB c.key with
  | true=>rfl
  | false=>exact absurd (.inl ⟨ho,hb⟩) h3
 ·cases hb:valB c.val with
  | true=>rfl
  | false=>exact absurd (.inr (.inl ⟨hk,hb⟩)) h3
theorem which_ok {l:List Ss}(h:SesP l) {n q:Int}(hw:(whichS l n q).1=1):∃ x∈l,x.client=n∧x.seq=q∧(whichS l n q).2=x.last∧SsOk x:=by
 unfold whichS at hw ⊢
 split at hw
 ·exact absurd hw (by simp)
 split at hw
 ·exact absurd hw (by simp)
 split at hw
 ·rename_i h1 h2 h3
  have hm:=sesAt_mem (riseG_pw.1 (adjS_rise h.1)) (by simpa using h1)
  rw [if_neg h1,if_neg h2,if_pos h3]
  exact ⟨_,hm.1,hm.2,h3.symm,rfl,h.2 _ hm.1⟩
 ·exact absurd hw (by simp)
theorem clientS_ok {s:St}{c:Cm}(h:StP s) (hc:cmdI c=0) (ho:2≤c.kind∧c.kind≤5):StP (clientS s c).1∧ansI (clientS s c).2=0∧(clientS s c).2.client=c.client∧(clientS s c).2.seq=c.seq:=by
 obtain ⟨h1,h2,h3,h4⟩:=stP_iff.1 h
 obtain ⟨c1,c2,c3⟩:=cmd_ok hc
 obtain ⟨c4,c5,c6⟩:=c2 ho
 unfold clientS
 split
 ·rename_i hw
  obtain ⟨x,hx,e1,e2,e3,e4,e5,e6⟩:=which_ok h1 hw
  rw [e3]
  exact ⟨h,e6,e4.trans e1,e5.trans e2⟩
 split
 ·exact ⟨h,anOk_ans (z:=2) (c:=c) ⟨rfl,rfl,by simp,by simp [ans0],valB_empty,fun h=>absurd h (by omega)⟩ c4 c5,rfl,rfl⟩
 split
 ·have hd:=doS_ok c h2 h3 c6 c3
  have ha:=anOk_ans hd.2 c4 c5
  refine ⟨stP_iff.2 ⟨withS_ok h1 ha,h2,hd.1,fun hz=>?_⟩,ha,hd.2.1,hd.2.2.1⟩
  rw [List.any_eq_false]
  intro x hx
  rcases withG_mem hx with rfl|hx
  ·have:=hd.2.2.2.2.2.2 hz
   unfold revS
   rw [decide_eq_false (by simpa [sesOf] using this)]
   simp
  ·exact List.any_eq_false.1 (h4 hz) x hx
 ·exact ⟨h,anOk_ans (z:=2) (c:=c) ⟨rfl,rfl,by simp,by simp [ans0],valB_empty,fun h=>absurd h (by omega)⟩ c4 c5,rfl,rfl⟩
theorem upS_ok {s:St}(h:StP s) (h1:s.schema=1):StP (upS s):=by
 obtain ⟨h1,h2,⟨h3,h4,h5⟩,h6⟩:=stP_iff.1 h
 refine stP_iff.2 ⟨h1,.inr rfl,⟨?_,?_,?_⟩,fun hz=>absurd (show (2:Int)=1 from hz) (by omega)⟩
 ·show (s.pairs.map (revOf 1)).length≤64
  rw [List.length_map];exact h3
 ·show RiseW ksP (s.pairs.map (revOf 1))
  exact List.pairwise_map.2 h4
 ·intro x hx
  obtain ⟨y,hy,rfl⟩:=List.mem_map.1 hx
  exact ⟨(h5 y hy).1,.inr ⟨rfl,by simp [revOf],by simp [revOf]⟩⟩
theorem applyS_ok {s:St}{c:Cm}(h:StP s) (he:(applyS s c).2.2=0):StP (applyS s c).1∧cmdI c=0:=by
 unfold applyS at he ⊢
 by_cases hc:cmdI c=0
 ·refine ⟨?_,hc⟩
  rw [if_neg (by simp [hc])]
  split
  ·exact (clientS_ok h hc (by assumption)).1
  ·split
   ·rename_i h1
    exact upS_ok h h1.2
   ·exact h
 ·rw [if_pos hc] at he
  exact absurd he hc
abbrev Cms (G:GH) (v:Value) (l:List Cm):Prop:=Sl G 7 (RowR Cm.cells) v l
theorem Cm.len (x:Cm):x.cells.length=7:=rfl
theorem An.len (x:An):x.cells.length=6:=rfl
abbrev zAn:Value:=.agg #[.int .i64 0,.int .i64 0,.int .i64 0,.bool false,.string ByteArray.empty,.int .i64 0]
abbrev GrA (v:Value) (l:List An) (ν:OH):Prop:=Grow 28 6 v l.length (rowC An.cells l) ν
theorem GrA.snoc {v:Value}{l:List An}{a:An}{ν:OH}(h:Grow 28 6 v (l.length+1) (rowC An.cells l++a.cells) ν):GrA v (l++[a]) ν:=by
 unfold GrA
 rw [List.length_append,List.length_singleton,rowC_append,rowC_cons,rowC_nil,List.append_nil]
 exact h
def CmsW (l:List Cm):Prop:=l.length≤100∧∀ c∈l,c.ok∧CmW c
theorem rowOpen' {α:Type}{f:α→List Value}{sz:Nat}{G:GH}{A:Option Addr}{n c:Nat}{l:List α}(h:Sl G sz (RowR f) (.slice A n c) l):True∧True∧True∧True∧True∧True∧(∀ i (h:i<l.length),CellsG G ((adr A).add (i*sz)) (f l[i])):=by
 obtain ⟨A',c',e,-,-,-,h5⟩:=rowOpen h
 cases e
 exact ⟨trivial,trivial,trivial,trivial,trivial,trivial,h5⟩
def Lg (p:Prop) (G:GH):Value→GH→OH→Prop:=fun r G' μ'=>G'=G∧μ'=[]∧∃ b,r=.bool b∧(b=false→p)
theorem lastAt {G:GH}{a:Addr}{x:Ss}(h:CellsG G a x.cells):CellsG G (a.add 2) x.last.cells:=fun j v hv=>by
 rw [add_add]
 refine h (2+j) v ?_
 rw [Nat.add_comm]
 exact hv
def CmsS (l:List Cm):Prop:=l.length≤60∧∀ c∈l,c.key.size≤200∧c.val.size≤200∧c.old.size≤200
theorem lg28_s {G:GH}{l:List Cm}{sv:Value}(hs:Cms G sv l):Con Tryz.prog 4 #[sv] G [] (Lg (CmsS l) G):=by
 obtain ⟨A,c,rfl,hlc,hcm,hsome,hcp⟩:=rowOpen hs
 simp only [maxLen] at hcm
 (refine v_enter Tryz.func4 rfl Tryz.ntmps4 rfl ?_;intro B _)
 repeat' (first|apply v_seq|apply v_region|apply v_nil|apply v_block|apply v_pure;(case hop=>(apply p_assign<;>rfl));(case hd=>rfl)|fail)
 refine v_loop [3,0] (fun us G' μ'=>G'=G∧μ'=[]∧∃ k:Nat,k≤l.length∧us=[Value.int .i64 (k:Nat),.slice A l.length c]∧∀ i (h:i<l.length),i<k→l[i].key.size≤200∧l[i].val.size≤200∧l[i].old.size≤200) (fun us=>l.length-(headI us).toNat) rfl ⟨rfl,rfl,0,by omega,rfl,by omega⟩ ?_
 rintro us G' _ ⟨rfl,rfl,k,hk,rfl,hno⟩
 have hend:60≤k∨l.length≤k→l.length≤60→CmsS l:=fun h1 h2=>⟨h2,fun x hx=>by
  obtain ⟨i,hi,rfl⟩:=List.getElem_of_mem hx
  exact hno i hi (by omega)⟩
 by_cases hlt:k<l.length
 ·have e1:((k:Nat):Int).toNat=k:=by omega
  have hA:=hsome (by omega)
  have hc0:=(hcp k hlt).cell (j:=3) rfl
  have hc1:=(hcp k hlt).cell (j:=4) rfl
  have hc2:=(hcp k hlt).cell (j:=5) rfl
  have hnx:(l[k]).key.size≤200∧(l[k]).val.size≤200∧(l[k]).old.size≤200→∀ i (h:i<l.length),i<k+1→l[i].key.size≤200∧l[i].val.size≤200∧l[i].old.size≤200:=fun a2 i hi hik=>by
   by_cases e:i=k
   ·subst e;exact a2
   ·exact hno i hi (by omega)
  generalize (l[k]).key=x at *
  generalize (l[k]).val=y at *
  generalize (l[k]).old=z at *
  repeat' (first|apply v_seq|apply v_region|apply v_nil|apply v_skip|apply v_block|apply v_blk|apply v_exit;(case hp=>rfl)|apply v_take;(case hg=>rfl)|apply v_pass;(case hg|hn|hd=>rfl)|apply v_pure;(case hop=>first|apply p_move<;>rfl|apply p_lt<;>rfl|apply p_gt<;>rfl|apply p_assign<;>rfl|apply p_pickT<;>rfl|apply p_pickF<;>rfl|apply p_lenSlice<;>rfl|apply p_fieldAddr<;>rfl|apply p_add;(case hx|hy=>rfl);(case h=>omega)|apply p_indexAddrS;(case hx|hi=>rfl);(case h0|h=>omega);(case hA=>assumption)|apply p_lenString<;>rfl|fail);(case hd=>rfl)|apply v_condT;(case hc=>rfl)|apply v_cond;(case hc=>rfl);all_goals (intro h;(try simp only [reduceCtorEq,zzz] at h))|apply v_guardB;(case h1|h2=>rfl);all_goals (intro h;(try simp only [reduceCtorEq,zzz] at h);try (exfalso;omega))|apply v_read;(case hop=>(apply r_load1;rfl;exact Cell.frozen hc0));(case hd=>rfl)|apply v_read;(case hop=>(apply r_load1;rfl;exact Cell.frozen hc1));(case hd=>rfl)|apply v_read;(case hop=>(apply r_load1;rfl;exact Cell.frozen hc2));(case hd=>rfl)|fail)
  all_goals first
   |(refine v_again rfl ⟨rfl,rfl,k+1,by omega,rfl,hnx (by omega)⟩ (by simp [headI];omega))
   |(refine v_ret [] (outsA1 rfl rfl) (by repeat (exact List.Sublist.refl _)) ?_
     exact ⟨rfl,rfl,_,rfl,fun h=>by first|cases h|exact hend (by omega) (by (rw [dec_eq,decide_eq_false_iff_not] at h;omega))⟩)
 ·repeat' (first|apply v_seq|apply v_region|apply v_nil|apply v_exit;(case hp=>rfl)|apply v_pass;(case hg|hn|hd=>rfl)|apply v_pure;(case hop=>first|apply p_move<;>rfl|apply p_lt<;>rfl|apply p_gt<;>rfl|apply p_assign<;>rfl|apply p_pickF<;>rfl|apply p_lenSlice<;>rfl|fail);(case hd=>rfl)|apply v_condF;(case hc=>rfl)|apply v_guardB;(case h1|h2=>rfl);all_goals (intro h;(try simp only [reduceCtorEq,zzz] at h);try (exfalso;omega))|fail)
  all_goals
   (refine v_ret [] (outsA1 rfl rfl) (by repeat (exact List.Sublist.refl _)) ?_
    exact ⟨rfl,rfl,_,rfl,fun h=>by first|exact hend (by omega) (by (rw [dec_eq,decide_eq_false_iff_not] at h;omega))⟩)
theorem refPlace_s {G:GH}{l:List Pr}{sv:Value}(key:ByteArray) (hs:Prs G sv l) (hr:RiseW ksP l) (hz:Sized l) (hkz:key.size≤200):Con Tryz.prog 53 #[sv,.string key] G [] (Just (.int .i64 (if hitG ksP l (kn key)=true then (placeG ksP l (kn key):Nat) else -1)) G):=by
 obtain ⟨A,c,rfl,hlc,hcm,hsome,hcp⟩:=rowOpen hs
 simp only [maxLen] at hcm
 have hrg:=riseG_pw.2 hr
 apply Con.just
 (refine v_enter Tryz.func53 rfl Tryz.ntmps53 rfl ?_;intro B _)
 repeat' (first|apply v_seq|apply v_region|apply v_nil|apply v_block|apply v_pure;(case hop=>(apply p_assign<;>rfl));(case hd=>rfl)|fail)
 refine v_loop [5,0,1] (fun us G' μ'=>G'=G∧μ'=[]∧∃ k:Nat,k≤l.length∧us=[Value.int .i64 (k:Nat),.slice A l.length c,.string key]∧∀ i (h:i<l.length),i<k→l[i].key≠key) (fun us=>l.length-(headI us).toNat) rfl ⟨rfl,rfl,0,by omega,rfl,by omega⟩ ?_
 rintro us G' _ ⟨rfl,rfl,k,hk,rfl,hno⟩
 by_cases hlt:k<l.length
 ·have e1:((k:Nat):Int).toNat=k:=by omega
  have hA:=hsome (by omega)
  have hc:=(hcp k hlt).cell (j:=0) rfl
  have hyes:(l[k]).key=key→hitG ksP l (kn key)=true∧placeG ksP l (kn key)=k:=fun h=>by
   have hp:placeG ksP l (kn key)=k:=placeG_eq hk (fun m hm hmk=>by have:=hrg m k hlt hmk;rw [← h];exact this) (fun m hm hkm=>by
    by_cases e:m=k
    ·subst e;rw [← h];show ¬ kn _<kn _;omega
    ·have:=hrg k m hm (by omega);rw [← h];simp only [ksP] at this ⊢;omega)
   refine ⟨?_,hp⟩
   unfold hitG
   rw [dif_pos (by rw [hp];exact hlt)]
   refine decide_eq_true ?_
   have:l[placeG ksP l (kn key)]'(by rw [hp];exact hlt)=l[k]:=by congr 1
   rw [this,← h]
  have hnx:(l[k]).key≠key→∀ i (h:i<l.length),i<k+1→l[i].key≠key:=fun a2 i hi hik=>by
   by_cases e:i=k
   ·subst e;exact a2
   ·exact hno i hi (by omega)
  generalize (l[k]).key=x at *
  by_cases hx:x=key
  ·obtain ⟨h1,h2⟩:=hyes hx
   rw [h1,h2]
   repeat' (first|apply v_seq|apply v_region|apply v_nil|apply v_skip|apply v_block|apply v_pure;(case hop=>first|apply p_move<;>rfl|apply p_lt<;>rfl|apply p_assign<;>rfl|apply p_lenSlice<;>rfl|apply p_fieldAddr<;>rfl|apply p_indexAddrS;(case hx|hi=>rfl);(case h0|h=>omega);(case hA=>assumption)|apply p_eqS<;>rfl|fail);(case hd=>rfl)|apply v_cond;(case hc=>rfl);all_goals (intro h;(try simp only [reduceCtorEq,zzz] at h);first|(exfalso;omega)|(exfalso;exact h (by with_reducible assumption))|skip)|apply v_read;(case hop=>(apply r_load1;rfl;exact Cell.frozen hc));(case hd=>rfl)|fail)
   all_goals first
    |(exfalso;exact absurd hx (by assumption))
    |(refine v_ret [] (outsA1 rfl rfl) (by repeat (exact List.Sublist.refl _)) ?_
      exact ⟨rfl,rfl⟩)
  ·repeat' (first|apply v_seq|apply v_region|apply v_nil|apply v_skip|apply v_block|apply v_blk|apply v_pure;(case hop=>first|apply p_move<;>rfl|apply p_lt<;>rfl|apply p_assign<;>rfl|apply p_lenSlice<;>rfl|apply p_fieldAddr<;>rfl|apply p_add;(case hx|hy=>rfl);(case h=>omega)|apply p_indexAddrS;(case hx|hi=>rfl);(case h0|h=>omega);(case hA=>assumption)|apply p_eqS<;>rfl|fail);(case hd=>rfl)|apply v_cond;(case hc=>rfl);all_goals (intro h;(try simp only [reduceCtorEq,zzz] at h);first|(exfalso;omega)|(exfalso;revert h;rw [imp_false];with_reducible assumption)|skip)|apply v_read;(case hop=>(apply r_load1;rfl;exact Cell.frozen hc));(case hd=>rfl)|fail)
   all_goals first
    |(exfalso;exact absurd (by assumption) hx)
    |(refine v_again rfl ⟨rfl,rfl,k+1,by omega,rfl,hnx hx⟩ (by simp [headI];omega))
 ·have hh:hitG ksP l (kn key)=false:=by
   cases hh:hitG ksP l (kn key) with
   | false=>rfl
   | true =>
    obtain ⟨x,hx,e⟩:=(hit_iff hr).1 hh
    obtain ⟨i,hi,rfl⟩:=List.getElem_of_mem hx
    exact absurd ((kn_inj (hz _ hx).1 hkz).1 e) (hno i hi (by omega))
  rw [hh]
  repeat' (first|apply v_seq|apply v_region|apply v_nil|apply v_exit;(case hp=>rfl)|apply v_pure;(case hop=>first|apply p_move<;>rfl|apply p_lt<;>rfl|apply p_assign<;>rfl|apply p_lenSlice<;>rfl|fail);(case hd=>rfl)|apply v_cond;(case hc=>rfl);all_goals (intro h;(try simp only [reduceCtorEq,zzz] at h);try (exfalso;omega))|fail)
  refine v_ret [] (outsA1 rfl rfl) (by repeat (exact List.Sublist.refl _)) ?_
  exact ⟨rfl,rfl⟩
section
variable {α:Type}{key:α→Int}
def wK (key:α→Int) (l:List α) (p:α) (k:Nat) (d:Bool):List α:=(l.take k).filter (fun x=>decide (key x<key p))++(if d=true then p::(l.take k).filter (fun x=>decide (key p<key x)) else [])
theorem wK_zero (l:List α) (p:α):wK key l p 0 false=[]:=by unfold wK;simp
theorem wK_less {l:List α}{p:α}{k:Nat}(hk:k<l.length) (h:key l[k]<key p):wK key l p k false++[l[k]]=wK key l p (k+1) false:=by
 unfold wK
 rw [List.take_succ_eq_append_getElem hk,List.filter_append,List.filter_cons_of_pos (by simpa using h)]
 simp
theorem wK_more {l:List α}{p:α}{k:Nat}(hk:k<l.length) (h:key p<key l[k]):wK key l p k true++[l[k]]=wK key l p (k+1) true:=by
 unfold wK
 rw [List.take_succ_eq_append_getElem hk,List.filter_append,List.filter_append,List.filter_cons_of_neg (by simp;omega),List.filter_cons_of_pos (by simpa using h)]
 simp
theorem wK_same {l:List α}{p:α}{k:Nat}(hk:k<l.length) (h:key l[k]=key p):wK key l p k true=wK key l p (k+1) true:=by
 unfold wK
 rw [List.take_succ_eq_append_getElem hk,List.filter_append,List.filter_append,List.filter_cons_of_neg (by simp;omega),List.filter_cons_of_neg (by simp;omega)]
 simp
theorem wK_put {l:List α}{p:α}{k:Nat}(h:∀ i (hi:i<l.length),i<k→key l[i]<key p):wK key l p k false++[p]=wK key l p k true:=by
 unfold wK
 have e:(l.take k).filter (fun x=>decide (key p<key x))=[]:=List.filter_eq_nil_iff.2 fun x hx=>by
  obtain ⟨i,hi,rfl⟩:=List.getElem_of_mem hx
  rw [List.length_take] at hi
  rw [List.getElem_take]
  have:=h i (by omega) (by omega)
  simp;omega
 rw [e];simp
theorem wK_end (l:List α) (p:α):wK key l p l.length true=withG key l p:=by unfold wK withG;rw [List.take_length,if_pos rfl]
theorem wK_len (l:List α) (p:α) (k:Nat) (d:Bool):(wK key l p k d).length≤2*k+1:=by
 unfold wK
 have h1:=List.length_filter_le (fun x=>decide (key x<key p)) (l.take k)
 have h2:=List.length_filter_le (fun x=>decide (key p<key x)) (l.take k)
 have h3:(l.take k).length≤k:=by rw [List.length_take];omega
 rw [List.length_append]
 split
 ·rw [List.length_cons];omega
 ·rw [List.length_nil];omega
end
theorem GrP.snoc {v:Value}{l:List Pr}{a:Pr}{ν:OH}(h:Grow 94 3 v (l.length+1) (rowC Pr.cells l++a.cells) ν):GrP v (l++[a]) ν:=by
 unfold GrP
 rw [List.length_append,List.length_singleton,rowC_append,rowC_cons,rowC_nil,List.append_nil]
 exact h
theorem GrS.snoc {v:Value}{l:List Ss}{a:Ss}{ν:OH}(h:Grow 66 8 v (l.length+1) (rowC Ss.cells l++a.cells) ν):GrS v (l++[a]) ν:=by
 unfold GrS
 rw [List.length_append,List.length_singleton,rowC_append,rowC_cons,rowC_nil,List.append_nil]
 exact h
theorem refSWith_s {G:GH}{l:List Ss}{sv:Value}(a:An) (hs:Sss G sv l) (hr:RiseW ksS l) (hn:l.length≤200):Con Tryz.prog 42 #[sv,.agg a.cells.toArray] G [] (fun r G' μ'=>GH.le G G'∧μ'=[]∧Sss G' r (withG ksS l (sesOf a))):=by
 obtain ⟨A,c,rfl,hlc,hcm,hsome,hcp⟩:=rowOpen hs
 simp only [maxLen] at hcm
 have hrg:=riseG_pw.2 hr
 have hkp:ksS (sesOf a)=a.client:=rfl
 generalize hpp:sesOf a=p at *
 obtain ⟨ac,aq,ae,af,av5,ar⟩:=a
 subst hpp
 (refine v_enter Tryz.func42 rfl Tryz.ntmps42 rfl ?_;intro B _)
 repeat' (first|apply v_box (zs:=An.cells ⟨ac,aq,ae,af,av5,ar⟩);(case hx|hz|hd=>rfl);intro b3|apply v_seq|apply v_region|apply v_nil|apply v_block|apply v_pure;(case hop=>(apply p_assign<;>rfl));(case hd=>rfl)|fail)
 refine v_loop [7,0,5,6,3] (fun us G' μ'=>G'=G∧∃ (k:Nat) (d:Bool) (av:Value) (ν:OH),k≤l.length∧us=[Value.int .i64 (k:Nat),.slice A l.length c,av,.bool d,.pointer (some ⟨b3,0,none⟩)]∧μ'=[(b3,.cells [.int .i64 ac,.int .i64 aq,.int .i64 ae,.bool af,.string av5,.int .i64 ar].toArray 28 (0,0))]++ν∧GrS av (wK ksS l (sesOf ⟨ac,aq,ae,af,av5,ar⟩) k d) ν∧(d=false→∀ i (hi:i<l.length),i<k→ksS l[i]<ksS (sesOf ⟨ac,aq,ae,af,av5,ar⟩))∧(d=true→∀ i (hi:i<l.length),k≤i→ksS (sesOf ⟨ac,aq,ae,af,av5,ar⟩)<ksS l[i])) (fun us=>l.length-(headI us).toNat) rfl ⟨rfl,0,false,.slice none 0 0,[],by omega,rfl,rfl,by rw [wK_zero];exact Grow.nil _ _,fun _ i hi h=>by omega,fun h=>by cases h⟩ ?_
 rintro us G' _ ⟨hG',k,d,av,ν,hk,rfl,rfl,hga,hd0,hd1⟩
 subst hG'
 have hwl:=wK_len (key:=ksS) l (sesOf ⟨ac,aq,ae,af,av5,ar⟩) k d
 by_cases hlt:k<l.length
 ·have e1:((k:Nat):Int).toNat=k:=by omega
  have hA:=hsome (by omega)
  have hck:=hcp k hlt
  have hup:∀ i (hi:i<l.length),k+1≤i→ksS l[k]<ksS l[i]:=fun i hi h=>hrg k i hi (by omega)
  rcases Int.lt_trichotomy (ksS l[k]) (ksS (sesOf ⟨ac,aq,ae,af,av5,ar⟩)) with hlt1|heq|hgt
  ·have ew:=wK_less (key:=ksS) (l:=l) (p:=(sesOf ⟨ac,aq,ae,af,av5,ar⟩)) hlt hlt1
   have hd0':∀ i (hi:i<l.length),i<k+1→ksS l[i]<ksS (sesOf ⟨ac,aq,ae,af,av5,ar⟩):=fun i hi h=>by
    by_cases e:i=k
    ·subst e;exact hlt1
    ·cases d with
     | false=>exact hd0 rfl i hi (by omega)
     | true=>have:=hd1 rfl k hlt (Nat.le_refl _);omega
   cases d with
   | true=>have:=hd1 rfl k hlt (Nat.le_refl _);omega
   | false =>
    clear hup hd0 hd1
    generalize l[k]=x at *
    obtain ⟨xc,xs,⟨lc,ls,le,lf,lv,lr⟩⟩:=x
    have hc0:=hck.cell (j:=0) rfl
    simp only [ksS,hkp] at hlt1
    repeat' (first|apply v_seq|apply v_region|apply v_nil|apply v_skip|apply v_block|apply v_pure;(case hop=>first|apply p_move<;>rfl|apply p_lt<;>rfl|apply p_lenSlice<;>rfl|fail);(case hd=>rfl)|apply v_cond;(case hc=>rfl);all_goals (intro h;(try simp only [reduceCtorEq,zzz] at h);try (exfalso;omega))|fail)
    refine d_start [(b3,.cells [.int .i64 ac,.int .i64 aq,.int .i64 ae,.bool af,.string av5,.int .i64 ar].toArray 28 (0,0))] (by kernel_rfl) (by kernel_rfl) (by kernel_rfl) (by intro e he;(simp at he;simp [he];done)) ?_
    all_goals (apply dtm 0;(case hi|hx=>rfl);(case hq=>kernel_rfl);apply dtk 1;(case hi=>rfl);(case hop=>(apply prd;apply p_not<;>rfl));(case hq=>kernel_rfl))
    all_goals (apply dtm 2;(case hi|hx=>rfl);(case hq=>kernel_rfl))
    all_goals (try (apply d_guardB 3;(case hi|hgd|h1|h2=>rfl);all_goals (intro h;(try simp only [reduceCtorEq,zzz] at h))))
    all_goals (apply dtg 3;(case hi|hg=>rfl);(case hop=>(apply prd;apply p_move<;>rfl));(case hq=>kernel_rfl))
    all_goals (try (apply d_guardB 4;(case hi|hgd|h1|h2=>rfl);all_goals (intro h;(try simp only [reduceCtorEq,zzz] at h))))
    all_goals (apply dtg 4;(case hi|hg=>rfl);(case hop=>(apply prd;apply p_move<;>rfl));(case hq=>kernel_rfl))
    all_goals (try (apply d_guardB 5;(case hi|hgd|h1|h2=>rfl);all_goals (intro h;(try simp only [reduceCtorEq,zzz] at h))))
    all_goals (apply dtg 5;(case hi|hg=>rfl);(case hop=>(apply prd;apply p_indexAddrS;(case hx|hi=>rfl);(case h0|h=>omega);(case hA=>assumption)));(case hq=>kernel_rfl))
    all_goals (try (apply d_guardB 6;(case hi|hgd|h1|h2=>rfl);all_goals (intro h;(try simp only [reduceCtorEq,zzz] at h))))
    all_goals (apply dtg 6;(case hi|hg=>rfl);(case hop=>(apply prd;apply p_fieldAddr<;>rfl));(case hq=>kernel_rfl))
    all_goals (try (apply d_guardB 7;(case hi|hgd|h1|h2=>rfl);all_goals (intro h;(try simp only [reduceCtorEq,zzz] at h))))
    all_goals (apply dtg 7;(case hi|hg=>rfl);(case hop=>((apply r_load1;rfl;exact Cell.frozen hc0)));(case hq=>kernel_rfl))
    all_goals (try (apply d_guardB 8;(case hi|hgd|h1|h2=>rfl);all_goals (intro h;(try simp only [reduceCtorEq,zzz] at h))))
    all_goals (apply dtg 8;(case hi|hg=>rfl);(case hop=>(apply prd;apply p_fieldAddrB<;>rfl));(case hq=>kernel_rfl))
    all_goals (try (apply d_guardB 9;(case hi|hgd|h1|h2=>rfl);all_goals (intro h;(try simp only [reduceCtorEq,zzz] at h))))
    all_goals (apply dtg 9;(case hi|hg=>rfl);(case hop=>(apply r_load1;rfl;(apply Cell.own;(case h=>repeat exact mhd _);rfl)));(case hq=>kernel_rfl))
    all_goals (try (apply d_guardB 10;(case hi|hgd|h1|h2=>rfl);all_goals (intro h;(try simp only [reduceCtorEq,zzz] at h))))
    all_goals (apply dtg 10;(case hi|hg=>rfl);(case hop=>(apply prd;apply p_ge<;>rfl));(case hq=>kernel_rfl);apply dtk 11;(case hi=>rfl);(case hop=>(apply prd;apply p_pickT<;>rfl));(case hq=>kernel_rfl))
    all_goals (apply d_done;(case hr=>kernel_rfl))
    repeat' (first|apply v_seq|apply v_skip|apply v_cond;(case hc=>rfl);all_goals (intro h;(try simp only [reduceCtorEq,zzz] at h);try (exfalso;omega))|fail)
    refine d_start [(b3,.cells [.int .i64 ac,.int .i64 aq,.int .i64 ae,.bool af,.string av5,.int .i64 ar].toArray 28 (0,0))] (by kernel_rfl) (by kernel_rfl) (by kernel_rfl) (by intro e he;(simp at he;simp [he];done)) ?_
    all_goals (apply dtm 0;(case hi|hx=>rfl);(case hq=>kernel_rfl);apply dtm 1;(case hi|hx=>rfl);(case hq=>kernel_rfl))
    all_goals (apply dtk 2;(case hi=>rfl);(case hop=>(apply prd;apply p_indexAddrS;(case hx|hi=>rfl);(case h0|h=>omega);(case hA=>assumption)));(case hq=>kernel_rfl);apply dtk 3;(case hi=>rfl);(case hop=>(apply prd;apply p_fieldAddr<;>rfl));(case hq=>kernel_rfl))
    all_goals (apply dtk 4;(case hi=>rfl);(case hop=>((apply r_load1;rfl;exact Cell.frozen hc0)));(case hq=>kernel_rfl);apply dtk 5;(case hi=>rfl);(case hop=>(apply prd;apply p_fieldAddrB<;>rfl));(case hq=>kernel_rfl))
    all_goals (apply dtk 6;(case hi=>rfl);(case hop=>(apply r_load1;rfl;(apply Cell.own;(case h=>repeat exact mhd _);rfl)));(case hq=>kernel_rfl);apply dtk 7;(case hi=>rfl);(case hop=>(apply prd;apply p_ne<;>rfl));(case hq=>kernel_rfl))
    all_goals (apply d_done;(case hr=>kernel_rfl))
    repeat' (first|apply v_region|apply v_pure;(case hop=>first|apply p_move<;>rfl|apply p_indexAddrS;(case hx|hi=>rfl);(case h0|h=>omega);(case hA=>assumption)|fail);(case hd=>rfl)|apply v_cond;(case hc=>rfl);all_goals (intro h;(try simp only [reduceCtorEq,zzz] at h);try (exfalso;omega))|apply v_read;(case hop=>(apply r_loadN;rfl;exact CellsAt.frozen hck;rfl));(case hd=>rfl)|apply v_buildSlice;(case hz|hi=>rfl);(case hv=>(simp only [List.map_cons,List.map_nil];repeat (first|with_reducible exact evs_nil|apply evs_cons;(case h1=>rfl))));(case hp=>(apply pk_cons;(case hc|hs=>rfl);(case h=>(with_reducible exact pk_nil));(case he=>((repeat (first|with_reducible exact ap_nil|apply ap_cons));done))));(case hb|hd=>rfl);intro b|fail)
    have hpm:=List.perm_append_comm (l₁:=([(b,.cells (Ss.cells ⟨xc,xs,⟨lc,ls,le,lf,lv,lr⟩⟩).toArray 66 (0,0)),(b3,.cells [.int .i64 ac,.int .i64 aq,.int .i64 ae,.bool af,.string av5,.int .i64 ar].toArray 28 (0,0))]:OH)) (l₂:=ν)
    refine v_append (e:=66) (agg:=true) (sz:=8) (bytes:=72) (zero:=zS) rfl (by omega) rfl rfl hga hpm (m':=1) (us:=(Ss.cells ⟨xc,xs,⟨lc,ls,le,lf,lv,lr⟩⟩)) (Src.own (e:=66) (List.Mem.head _) rfl) rfl (by omega) (by simp only [maxLen];omega) rfl fun v' ν' hg'=>?_
    have hga':=GrS.snoc hg'
    refine v_perm (List.perm_append_comm (l₁:=ν')) ?_
    refine v_drop (ν:=[(b3,.cells [.int .i64 ac,.int .i64 aq,.int .i64 ae,.bool af,.string av5,.int .i64 ar].toArray 28 (0,0))]++ν') (List.Sublist.cons _ (List.Sublist.refl _)) ?_
    repeat' (first|apply v_region|apply v_nil|apply v_blk|apply v_pure;(case hop=>first|apply p_move<;>rfl|apply p_assign<;>rfl|apply p_add;(case hx|hy=>rfl);(case h=>omega)|fail);(case hd=>rfl)|fail)
    exact v_again rfl ⟨rfl,k+1,false,_,_,by omega,rfl,rfl,by rw [← ew];exact hga',fun _=>hd0',(fun h=>by cases h)⟩ (by simp [headI];omega)
  ·have ew:=wK_same (key:=ksS) (l:=l) (p:=(sesOf ⟨ac,aq,ae,af,av5,ar⟩)) hlt heq
   have hd1':∀ i (hi:i<l.length),k+1≤i→ksS (sesOf ⟨ac,aq,ae,af,av5,ar⟩)<ksS l[i]:=fun i hi h=>by have:=hup i hi h;omega
   cases d with
   | true=>have:=hd1 rfl k hlt (Nat.le_refl _);omega
   | false =>
    have ep:=wK_put (hd0 rfl)
    clear hup hd0 hd1
    generalize l[k]=x at *
    obtain ⟨xc,xs,⟨lc,ls,le,lf,lv,lr⟩⟩:=x
    have hc0:=hck.cell (j:=0) rfl
    simp only [ksS,hkp] at heq
    repeat' (first|apply v_seq|apply v_region|apply v_nil|apply v_skip|apply v_block|apply v_pure;(case hop=>first|apply p_move<;>rfl|apply p_lt<;>rfl|apply p_lenSlice<;>rfl|fail);(case hd=>rfl)|apply v_cond;(case hc=>rfl);all_goals (intro h;(try simp only [reduceCtorEq,zzz] at h);try (exfalso;omega))|fail)
    refine d_start [(b3,.cells [.int .i64 ac,.int .i64 aq,.int .i64 ae,.bool af,.string av5,.int .i64 ar].toArray 28 (0,0))] (by kernel_rfl) (by kernel_rfl) (by kernel_rfl) (by intro e he;(simp at he;simp [he];done)) ?_
    all_goals (apply dtm 0;(case hi|hx=>rfl);(case hq=>kernel_rfl);apply dtk 1;(case hi=>rfl);(case hop=>(apply prd;apply p_not<;>rfl));(case hq=>kernel_rfl))
    all_goals (apply dtm 2;(case hi|hx=>rfl);(case hq=>kernel_rfl))
    all_goals (try (apply d_guardB 3;(case hi|hgd|h1|h2=>rfl);all_goals (intro h;(try simp only [reduceCtorEq,zzz] at h))))
    all_goals (apply dtg 3;(case hi|hg=>rfl);(case hop=>(apply prd;apply p_move<;>rfl));(case hq=>kernel_rfl))
    all_goals (try (apply d_guardB 4;(case hi|hgd|h1|h2=>rfl);all_goals (intro h;(try simp only [reduceCtorEq,zzz] at h))))
    all_goals (apply dtg 4;(case hi|hg=>rfl);(case hop=>(apply prd;apply p_move<;>rfl));(case hq=>kernel_rfl))
    all_goals (try (apply d_guardB 5;(case hi|hgd|h1|h2=>rfl);all_goals (intro h;(try simp only [reduceCtorEq,zzz] at h))))
    all_goals (apply dtg 5;(case hi|hg=>rfl);(case hop=>(apply prd;apply p_indexAddrS;(case hx|hi=>rfl);(case h0|h=>omega);(case hA=>assumption)));(case hq=>kernel_rfl))
    all_goals (try (apply d_guardB 6;(case hi|hgd|h1|h2=>rfl);all_goals (intro h;(try simp only [reduceCtorEq,zzz] at h))))
    all_goals (apply dtg 6;(case hi|hg=>rfl);(case hop=>(apply prd;apply p_fieldAddr<;>rfl));(case hq=>kernel_rfl))
    all_goals (try (apply d_guardB 7;(case hi|hgd|h1|h2=>rfl);all_goals (intro h;(try simp only [reduceCtorEq,zzz] at h))))
    all_goals (apply dtg 7;(case hi|hg=>rfl);(case hop=>((apply r_load1;rfl;exact Cell.frozen hc0)));(case hq=>kernel_rfl))
    all_goals (try (apply d_guardB 8;(case hi|hgd|h1|h2=>rfl);all_goals (intro h;(try simp only [reduceCtorEq,zzz] at h))))
    all_goals (apply dtg 8;(case hi|hg=>rfl);(case hop=>(apply prd;apply p_fieldAddrB<;>rfl));(case hq=>kernel_rfl))
    all_goals (try (apply d_guardB 9;(case hi|hgd|h1|h2=>rfl);all_goals (intro h;(try simp only [reduceCtorEq,zzz] at h))))
    all_goals (apply dtg 9;(case hi|hg=>rfl);(case hop=>(apply r_load1;rfl;(apply Cell.own;(case h=>repeat exact mhd _);rfl)));(case hq=>kernel_rfl))
    all_goals (try (apply d_guardB 10;(case hi|hgd|h1|h2=>rfl);all_goals (intro h;(try simp only [reduceCtorEq,zzz] at h))))
    all_goals (apply dtg 10;(case hi|hg=>rfl);(case hop=>(apply prd;apply p_ge<;>rfl));(case hq=>kernel_rfl);apply dtk 11;(case hi=>rfl);(case hop=>(apply prd;apply p_pickT<;>rfl));(case hq=>kernel_rfl))
    all_goals (apply d_done;(case hr=>kernel_rfl))
    repeat' (first|apply v_read;(case hop=>(apply r_loadNo;(case hx=>rfl);(case h=>repeat (exact mhd _));(case hd|hn=>rfl)));(case hd=>rfl)|apply v_seq|apply v_region|apply v_pure;(case hop=>first|apply p_move<;>rfl|apply p_fieldAddrB<;>rfl|apply p_build;(case hz=>rfl);(case hv=>(simp only [List.map_cons,List.map_nil];repeat (first|with_reducible exact evs_nil|apply evs_cons;(case h1=>rfl))));(case hb=>(apply bldL;repeat (first|exact bld_nil|apply bld_cons;(case hpf|hc|hs|hl=>rfl);(case ho=>(first|((repeat (first|with_reducible exact ov_nil|apply ov_cons));done)|rfl)))))|fail);(case hd=>rfl)|apply v_cond;(case hc=>rfl);all_goals (intro h;(try simp only [reduceCtorEq,zzz] at h);try (exfalso;omega))|apply v_read;(case hop=>(apply r_load1;rfl;(apply Cell.own;(case h=>repeat exact mhd _);rfl)));(case hd=>rfl)|apply v_buildSlice;(case hz|hi=>rfl);(case hv=>(simp only [List.map_cons,List.map_nil];repeat (first|with_reducible exact evs_nil|apply evs_cons;(case h1=>rfl))));(case hp=>(apply pk_cons;(case hc|hs=>rfl);(case h=>(with_reducible exact pk_nil));(case he=>(rfl))));(case hb|hd=>rfl);intro b|fail)
    have hpm:=List.perm_append_comm (l₁:=([(b,.cells (sesOf ⟨ac,aq,ae,af,av5,ar⟩).cells.toArray 66 (0,0)),(b3,.cells [.int .i64 ac,.int .i64 aq,.int .i64 ae,.bool af,.string av5,.int .i64 ar].toArray 28 (0,0))]:OH)) (l₂:=ν)
    refine v_append (e:=66) (agg:=true) (sz:=8) (bytes:=72) (zero:=zS) rfl (by omega) rfl rfl hga hpm (m':=1) (us:=(sesOf ⟨ac,aq,ae,af,av5,ar⟩).cells) (Src.own (e:=66) (List.Mem.head _) rfl) rfl (by omega) (by simp only [maxLen];omega) rfl fun v' ν' hg'=>?_
    have hga':=GrS.snoc hg'
    refine v_perm (List.perm_append_comm (l₁:=ν')) ?_
    refine v_drop (ν:=[(b3,.cells [.int .i64 ac,.int .i64 aq,.int .i64 ae,.bool af,.string av5,.int .i64 ar].toArray 28 (0,0))]++ν') (List.Sublist.cons _ (List.Sublist.refl _)) ?_
    repeat' (first|apply v_seq|apply v_region|apply v_nil|apply v_pure;(case hop=>(apply p_assign<;>rfl));(case hd=>rfl)|fail)
    refine d_start [(b3,.cells [.int .i64 ac,.int .i64 aq,.int .i64 ae,.bool af,.string av5,.int .i64 ar].toArray 28 (0,0))] (by kernel_rfl) (by kernel_rfl) (by kernel_rfl) (by intro e he;(simp at he;simp [he];done)) ?_
    all_goals (apply dtm 0;(case hi|hx=>rfl);(case hq=>kernel_rfl);apply dtm 1;(case hi|hx=>rfl);(case hq=>kernel_rfl))
    all_goals (apply dtk 2;(case hi=>rfl);(case hop=>(apply prd;apply p_indexAddrS;(case hx|hi=>rfl);(case h0|h=>omega);(case hA=>assumption)));(case hq=>kernel_rfl);apply dtk 3;(case hi=>rfl);(case hop=>(apply prd;apply p_fieldAddr<;>rfl));(case hq=>kernel_rfl))
    all_goals (apply dtk 4;(case hi=>rfl);(case hop=>((apply r_load1;rfl;exact Cell.frozen hc0)));(case hq=>kernel_rfl);apply dtk 5;(case hi=>rfl);(case hop=>(apply prd;apply p_fieldAddrB<;>rfl));(case hq=>kernel_rfl))
    all_goals (apply dtk 6;(case hi=>rfl);(case hop=>(apply r_load1;rfl;(apply Cell.own;(case h=>repeat exact mhd _);rfl)));(case hq=>kernel_rfl);apply dtk 7;(case hi=>rfl);(case hop=>(apply prd;apply p_ne<;>rfl));(case hq=>kernel_rfl))
    all_goals (apply d_done;(case hr=>kernel_rfl))
    repeat' (first|apply v_region|apply v_nil|apply v_skip|apply v_blk|apply v_pure;(case hop=>first|apply p_move<;>rfl|apply p_assign<;>rfl|apply p_add;(case hx|hy=>rfl);(case h=>omega)|fail);(case hd=>rfl)|apply v_cond;(case hc=>rfl);all_goals (intro h;(try simp only [reduceCtorEq,zzz] at h);try (exfalso;omega))|fail)
    exact v_again rfl ⟨rfl,k+1,true,_,_,by omega,rfl,rfl,by rw [← ew,← ep];exact hga',(fun h=>by cases h),fun _=>hd1'⟩ (by simp [headI];omega)
  ·have ew:=wK_more (key:=ksS) (l:=l) (p:=(sesOf ⟨ac,aq,ae,af,av5,ar⟩)) hlt hgt
   have hd1':∀ i (hi:i<l.length),k+1≤i→ksS (sesOf ⟨ac,aq,ae,af,av5,ar⟩)<ksS l[i]:=fun i hi h=>by have:=hup i hi h;omega
   cases d with
   | true =>
    clear hup hd0 hd1
    generalize l[k]=x at *
    obtain ⟨xc,xs,⟨lc,ls,le,lf,lv,lr⟩⟩:=x
    have hc0:=hck.cell (j:=0) rfl
    simp only [ksS,hkp] at hgt
    repeat' (first|apply v_seq|apply v_region|apply v_nil|apply v_skip|apply v_block|apply v_pure;(case hop=>first|apply p_move<;>rfl|apply p_lt<;>rfl|apply p_lenSlice<;>rfl|fail);(case hd=>rfl)|apply v_cond;(case hc=>rfl);all_goals (intro h;(try simp only [reduceCtorEq,zzz] at h);try (exfalso;omega))|fail)
    refine d_start [(b3,.cells [.int .i64 ac,.int .i64 aq,.int .i64 ae,.bool af,.string av5,.int .i64 ar].toArray 28 (0,0))] (by kernel_rfl) (by kernel_rfl) (by kernel_rfl) (by intro e he;(simp at he;simp [he];done)) ?_
    all_goals (apply dtm 0;(case hi|hx=>rfl);(case hq=>kernel_rfl);apply dtk 1;(case hi=>rfl);(case hop=>(apply prd;apply p_not<;>rfl));(case hq=>kernel_rfl))
    all_goals (apply dtm 2;(case hi|hx=>rfl);(case hq=>kernel_rfl))
    all_goals (try (apply d_guardB 3;(case hi|hgd|h1|h2=>rfl);all_goals (intro h;(try simp only [reduceCtorEq,zzz] at h))))
    all_goals (apply dpa 3;(case hi|hg|hn=>rfl);(case hq=>kernel_rfl))
    all_goals (try (apply d_guardB 4;(case hi|hgd|h1|h2=>rfl);all_goals (intro h;(try simp only [reduceCtorEq,zzz] at h))))
    all_goals (apply dpa 4;(case hi|hg|hn=>rfl);(case hq=>kernel_rfl))
    all_goals (try (apply d_guardB 5;(case hi|hgd|h1|h2=>rfl);all_goals (intro h;(try simp only [reduceCtorEq,zzz] at h))))
    all_goals (apply dpa 5;(case hi|hg|hn=>rfl);(case hq=>kernel_rfl))
    all_goals (try (apply d_guardB 6;(case hi|hgd|h1|h2=>rfl);all_goals (intro h;(try simp only [reduceCtorEq,zzz] at h))))
    all_goals (apply dpa 6;(case hi|hg|hn=>rfl);(case hq=>kernel_rfl))
    all_goals (try (apply d_guardB 7;(case hi|hgd|h1|h2=>rfl);all_goals (intro h;(try simp only [reduceCtorEq,zzz] at h))))
    all_goals (apply dpa 7;(case hi|hg|hn=>rfl);(case hq=>kernel_rfl))
    all_goals (try (apply d_guardB 8;(case hi|hgd|h1|h2=>rfl);all_goals (intro h;(try simp only [reduceCtorEq,zzz] at h))))
    all_goals (apply dpa 8;(case hi|hg|hn=>rfl);(case hq=>kernel_rfl))
    all_goals (try (apply d_guardB 9;(case hi|hgd|h1|h2=>rfl);all_goals (intro h;(try simp only [reduceCtorEq,zzz] at h))))
    all_goals (apply dpa 9;(case hi|hg|hn=>rfl);(case hq=>kernel_rfl))
    all_goals (try (apply d_guardB 10;(case hi|hgd|h1|h2=>rfl);all_goals (intro h;(try simp only [reduceCtorEq,zzz] at h))))
    all_goals (apply dpa 10;(case hi|hg|hn=>rfl);(case hq=>kernel_rfl))
    all_goals (apply dtk 11;(case hi=>rfl);(case hop=>(apply prd;apply p_pickF<;>rfl));(case hq=>kernel_rfl))
    all_goals (apply d_done;(case hr=>kernel_rfl))
    repeat' (first|apply v_seq|apply v_skip|apply v_condF;(case hc=>rfl)|fail)
    refine d_start [(b3,.cells [.int .i64 ac,.int .i64 aq,.int .i64 ae,.bool af,.string av5,.int .i64 ar].toArray 28 (0,0))] (by kernel_rfl) (by kernel_rfl) (by kernel_rfl) (by intro e he;(simp at he;simp [he];done)) ?_
    all_goals (apply dtm 0;(case hi|hx=>rfl);(case hq=>kernel_rfl);apply dtm 1;(case hi|hx=>rfl);(case hq=>kernel_rfl))
    all_goals (apply dtk 2;(case hi=>rfl);(case hop=>(apply prd;apply p_indexAddrS;(case hx|hi=>rfl);(case h0|h=>omega);(case hA=>assumption)));(case hq=>kernel_rfl);apply dtk 3;(case hi=>rfl);(case hop=>(apply prd;apply p_fieldAddr<;>rfl));(case hq=>kernel_rfl))
    all_goals (apply dtk 4;(case hi=>rfl);(case hop=>((apply r_load1;rfl;exact Cell.frozen hc0)));(case hq=>kernel_rfl);apply dtk 5;(case hi=>rfl);(case hop=>(apply prd;apply p_fieldAddrB<;>rfl));(case hq=>kernel_rfl))
    all_goals (apply dtk 6;(case hi=>rfl);(case hop=>(apply r_load1;rfl;(apply Cell.own;(case h=>repeat exact mhd _);rfl)));(case hq=>kernel_rfl);apply dtk 7;(case hi=>rfl);(case hop=>(apply prd;apply p_ne<;>rfl));(case hq=>kernel_rfl))
    all_goals (apply d_done;(case hr=>kernel_rfl))
    repeat' (first|apply v_region|apply v_pure;(case hop=>first|apply p_move<;>rfl|apply p_indexAddrS;(case hx|hi=>rfl);(case h0|h=>omega);(case hA=>assumption)|fail);(case hd=>rfl)|apply v_cond;(case hc=>rfl);all_goals (intro h;(try simp only [reduceCtorEq,zzz] at h);try (exfalso;omega))|apply v_read;(case hop=>(apply r_loadN;rfl;exact CellsAt.frozen hck;rfl));(case hd=>rfl)|apply v_buildSlice;(case hz|hi=>rfl);(case hv=>(simp only [List.map_cons,List.map_nil];repeat (first|with_reducible exact evs_nil|apply evs_cons;(case h1=>rfl))));(case hp=>(apply pk_cons;(case hc|hs=>rfl);(case h=>(with_reducible exact pk_nil));(case he=>((repeat (first|with_reducible exact ap_nil|apply ap_cons));done))));(case hb|hd=>rfl);intro b|fail)
    have hpm:=List.perm_append_comm (l₁:=([(b,.cells (Ss.cells ⟨xc,xs,⟨lc,ls,le,lf,lv,lr⟩⟩).toArray 66 (0,0)),(b3,.cells [.int .i64 ac,.int .i64 aq,.int .i64 ae,.bool af,.string av5,.int .i64 ar].toArray 28 (0,0))]:OH)) (l₂:=ν)
    refine v_append (e:=66) (agg:=true) (sz:=8) (bytes:=72) (zero:=zS) rfl (by omega) rfl rfl hga hpm (m':=1) (us:=(Ss.cells ⟨xc,xs,⟨lc,ls,le,lf,lv,lr⟩⟩)) (Src.own (e:=66) (List.Mem.head _) rfl) rfl (by omega) (by simp only [maxLen];omega) rfl fun v' ν' hg'=>?_
    have hga':=GrS.snoc hg'
    refine v_perm (List.perm_append_comm (l₁:=ν')) ?_
    refine v_drop (ν:=[(b3,.cells [.int .i64 ac,.int .i64 aq,.int .i64 ae,.bool af,.string av5,.int .i64 ar].toArray 28 (0,0))]++ν') (List.Sublist.cons _ (List.Sublist.refl _)) ?_
    repeat' (first|apply v_region|apply v_nil|apply v_blk|apply v_pure;(case hop=>first|apply p_move<;>rfl|apply p_assign<;>rfl|apply p_add;(case hx|hy=>rfl);(case h=>omega)|fail);(case hd=>rfl)|fail)
    exact v_again rfl ⟨rfl,k+1,true,_,_,by omega,rfl,rfl,by rw [← ew];exact hga',(fun h=>by cases h),fun _=>hd1'⟩ (by simp [headI];omega)
   | false =>
    have ep:=wK_put (hd0 rfl)
    clear hup hd0 hd1
    generalize l[k]=x at *
    obtain ⟨xc,xs,⟨lc,ls,le,lf,lv,lr⟩⟩:=x
    have hc0:=hck.cell (j:=0) rfl
    simp only [ksS,hkp] at hgt
    repeat' (first|apply v_seq|apply v_region|apply v_nil|apply v_skip|apply v_block|apply v_pure;(case hop=>first|apply p_move<;>rfl|apply p_lt<;>rfl|apply p_lenSlice<;>rfl|fail);(case hd=>rfl)|apply v_cond;(case hc=>rfl);all_goals (intro h;(try simp only [reduceCtorEq,zzz] at h);try (exfalso;omega))|fail)
    refine d_start [(b3,.cells [.int .i64 ac,.int .i64 aq,.int .i64 ae,.bool af,.string av5,.int .i64 ar].toArray 28 (0,0))] (by kernel_rfl) (by kernel_rfl) (by kernel_rfl) (by intro e he;(simp at he;simp [he];done)) ?_
    all_goals (apply dtm 0;(case hi|hx=>rfl);(case hq=>kernel_rfl);apply dtk 1;(case hi=>rfl);(case hop=>(apply prd;apply p_not<;>rfl));(case hq=>kernel_rfl))
    all_goals (apply dtm 2;(case hi|hx=>rfl);(case hq=>kernel_rfl))
    all_goals (try (apply d_guardB 3;(case hi|hgd|h1|h2=>rfl);all_goals (intro h;(try simp only [reduceCtorEq,zzz] at h))))
    all_goals (apply dtg 3;(case hi|hg=>rfl);(case hop=>(apply prd;apply p_move<;>rfl));(case hq=>kernel_rfl))
    all_goals (try (apply d_guardB 4;(case hi|hgd|h1|h2=>rfl);all_goals (intro h;(try simp only [reduceCtorEq,zzz] at h))))
    all_goals (apply dtg 4;(case hi|hg=>rfl);(case hop=>(apply prd;apply p_move<;>rfl));(case hq=>kernel_rfl))
    all_goals (try (apply d_guardB 5;(case hi|hgd|h1|h2=>rfl);all_goals (intro h;(try simp only [reduceCtorEq,zzz] at h))))
    all_goals (apply dtg 5;(case hi|hg=>rfl);(case hop=>(apply prd;apply p_indexAddrS;(case hx|hi=>rfl);(case h0|h=>omega);(case hA=>assumption)));(case hq=>kernel_rfl))
    all_goals (try (apply d_guardB 6;(case hi|hgd|h1|h2=>rfl);all_goals (intro h;(try simp only [reduceCtorEq,zzz] at h))))
    all_goals (apply dtg 6;(case hi|hg=>rfl);(case hop=>(apply prd;apply p_fieldAddr<;>rfl));(case hq=>kernel_rfl))
    all_goals (try (apply d_guardB 7;(case hi|hgd|h1|h2=>rfl);all_goals (intro h;(try simp only [reduceCtorEq,zzz] at h))))
    all_goals (apply dtg 7;(case hi|hg=>rfl);(case hop=>((apply r_load1;rfl;exact Cell.frozen hc0)));(case hq=>kernel_rfl))
    all_goals (try (apply d_guardB 8;(case hi|hgd|h1|h2=>rfl);all_goals (intro h;(try simp only [reduceCtorEq,zzz] at h))))
    all_goals (apply dtg 8;(case hi|hg=>rfl);(case hop=>(apply prd;apply p_fieldAddrB<;>rfl));(case hq=>kernel_rfl))
    all_goals (try (apply d_guardB 9;(case hi|hgd|h1|h2=>rfl);all_goals (intro h;(try simp only [reduceCtorEq,zzz] at h))))
    all_goals (apply dtg 9;(case hi|hg=>rfl);(case hop=>(apply r_load1;rfl;(apply Cell.own;(case h=>repeat exact mhd _);rfl)));(case hq=>kernel_rfl))
    all_goals (try (apply d_guardB 10;(case hi|hgd|h1|h2=>rfl);all_goals (intro h;(try simp only [reduceCtorEq,zzz] at h))))
    all_goals (apply dtg 10;(case hi|hg=>rfl);(case hop=>(apply prd;apply p_ge<;>rfl));(case hq=>kernel_rfl);apply dtk 11;(case hi=>rfl);(case hop=>(apply prd;apply p_pickT<;>rfl));(case hq=>kernel_rfl))
    all_goals (apply d_done;(case hr=>kernel_rfl))
    repeat' (first|apply v_read;(case hop=>(apply r_loadNo;(case hx=>rfl);(case h=>repeat (exact mhd _));(case hd|hn=>rfl)));(case hd=>rfl)|apply v_seq|apply v_region|apply v_pure;(case hop=>first|apply p_move<;>rfl|apply p_fieldAddrB<;>rfl|apply p_build;(case hz=>rfl);(case hv=>(simp only [List.map_cons,List.map_nil];repeat (first|with_reducible exact evs_nil|apply evs_cons;(case h1=>rfl))));(case hb=>(apply bldL;repeat (first|exact bld_nil|apply bld_cons;(case hpf|hc|hs|hl=>rfl);(case ho=>(first|((repeat (first|with_reducible exact ov_nil|apply ov_cons));done)|rfl)))))|fail);(case hd=>rfl)|apply v_cond;(case hc=>rfl);all_goals (intro h;(try simp only [reduceCtorEq,zzz] at h);try (exfalso;omega))|apply v_read;(case hop=>(apply r_load1;rfl;(apply Cell.own;(case h=>repeat exact mhd _);rfl)));(case hd=>rfl)|apply v_buildSlice;(case hz|hi=>rfl);(case hv=>(simp only [List.map_cons,List.map_nil];repeat (first|with_reducible exact evs_nil|apply evs_cons;(case h1=>rfl))));(case hp=>(apply pk_cons;(case hc|hs=>rfl);(case h=>(with_reducible exact pk_nil));(case he=>(rfl))));(case hb|hd=>rfl);intro b|fail)
    have hpm:=List.perm_append_comm (l₁:=([(b,.cells (sesOf ⟨ac,aq,ae,af,av5,ar⟩).cells.toArray 66 (0,0)),(b3,.cells [.int .i64 ac,.int .i64 aq,.int .i64 ae,.bool af,.string av5,.int .i64 ar].toArray 28 (0,0))]:OH)) (l₂:=ν)
    refine v_append (e:=66) (agg:=true) (sz:=8) (bytes:=72) (zero:=zS) rfl (by omega) rfl rfl hga hpm (m':=1) (us:=(sesOf ⟨ac,aq,ae,af,av5,ar⟩).cells) (Src.own (e:=66) (List.Mem.head _) rfl) rfl (by omega) (by simp only [maxLen];omega) rfl fun v' ν' hg'=>?_
    have hga':=GrS.snoc hg'
    refine v_perm (List.perm_append_comm (l₁:=ν')) ?_
    refine v_drop (ν:=[(b3,.cells [.int .i64 ac,.int .i64 aq,.int .i64 ae,.bool af,.string av5,.int .i64 ar].toArray 28 (0,0))]++ν') (List.Sublist.cons _ (List.Sublist.refl _)) ?_
    repeat' (first|apply v_seq|apply v_region|apply v_nil|apply v_pure;(case hop=>(apply p_assign<;>rfl));(case hd=>rfl)|fail)
    refine d_start [(b3,.cells [.int .i64 ac,.int .i64 aq,.int .i64 ae,.bool af,.string av5,.int .i64 ar].toArray 28 (0,0))] (by kernel_rfl) (by kernel_rfl) (by kernel_rfl) (by intro e he;(simp at he;simp [he];done)) ?_
    all_goals (apply dtm 0;(case hi|hx=>rfl);(case hq=>kernel_rfl);apply dtm 1;(case hi|hx=>rfl);(case hq=>kernel_rfl))
    all_goals (apply dtk 2;(case hi=>rfl);(case hop=>(apply prd;apply p_indexAddrS;(case hx|hi=>rfl);(case h0|h=>omega);(case hA=>assumption)));(case hq=>kernel_rfl);apply dtk 3;(case hi=>rfl);(case hop=>(apply prd;apply p_fieldAddr<;>rfl));(case hq=>kernel_rfl))
    all_goals (apply dtk 4;(case hi=>rfl);(case hop=>((apply r_load1;rfl;exact Cell.frozen hc0)));(case hq=>kernel_rfl);apply dtk 5;(case hi=>rfl);(case hop=>(apply prd;apply p_fieldAddrB<;>rfl));(case hq=>kernel_rfl))
    all_goals (apply dtk 6;(case hi=>rfl);(case hop=>(apply r_load1;rfl;(apply Cell.own;(case h=>repeat exact mhd _);rfl)));(case hq=>kernel_rfl);apply dtk 7;(case hi=>rfl);(case hop=>(apply prd;apply p_ne<;>rfl));(case hq=>kernel_rfl))
    all_goals (apply d_done;(case hr=>kernel_rfl))
    repeat' (first|apply v_region|apply v_pure;(case hop=>first|apply p_move<;>rfl|apply p_indexAddrS;(case hx|hi=>rfl);(case h0|h=>omega);(case hA=>assumption)|fail);(case hd=>rfl)|apply v_cond;(case hc=>rfl);all_goals (intro h;(try simp only [reduceCtorEq,zzz] at h);try (exfalso;omega))|apply v_read;(case hop=>(apply r_loadN;rfl;exact CellsAt.frozen hck;rfl));(case hd=>rfl)|apply v_buildSlice;(case hz|hi=>rfl);(case hv=>(simp only [List.map_cons,List.map_nil];repeat (first|with_reducible exact evs_nil|apply evs_cons;(case h1=>rfl))));(case hp=>(apply pk_cons;(case hc|hs=>rfl);(case h=>(with_reducible exact pk_nil));(case he=>((repeat (first|with_reducible exact ap_nil|apply ap_cons));done))));(case hb|hd=>rfl);intro b|fail)
    rw [ep] at hga'
    have hwl':=wK_len (key:=ksS) l (sesOf ⟨ac,aq,ae,af,av5,ar⟩) k true
    have hpm:=List.perm_append_comm (l₁:=([(b,.cells (Ss.cells ⟨xc,xs,⟨lc,ls,le,lf,lv,lr⟩⟩).toArray 66 (0,0)),(b3,.cells [.int .i64 ac,.int .i64 aq,.int .i64 ae,.bool af,.string av5,.int .i64 ar].toArray 28 (0,0))]:OH)) (l₂:=ν')
    refine v_append (e:=66) (agg:=true) (sz:=8) (bytes:=72) (zero:=zS) rfl (by omega) rfl rfl hga' hpm (m':=1) (us:=(Ss.cells ⟨xc,xs,⟨lc,ls,le,lf,lv,lr⟩⟩)) (Src.own (e:=66) (List.Mem.head _) rfl) rfl (by omega) (by simp only [maxLen];omega) rfl fun v' ν' hg'=>?_
    have hga2:=GrS.snoc hg'
    refine v_perm (List.perm_append_comm (l₁:=ν')) ?_
    refine v_drop (ν:=[(b3,.cells [.int .i64 ac,.int .i64 aq,.int .i64 ae,.bool af,.string av5,.int .i64 ar].toArray 28 (0,0))]++ν') (List.Sublist.cons _ (List.Sublist.refl _)) ?_
    repeat' (first|apply v_region|apply v_nil|apply v_blk|apply v_pure;(case hop=>first|apply p_move<;>rfl|apply p_assign<;>rfl|apply p_add;(case hx|hy=>rfl);(case h=>omega)|fail);(case hd=>rfl)|fail)
    exact v_again rfl ⟨rfl,k+1,true,_,_,by omega,rfl,rfl,by rw [← ew];exact hga2,(fun h=>by cases h),fun _=>hd1'⟩ (by simp [headI];omega)
 ·obtain rfl:k=l.length:=by omega
  cases d with
  | true =>
   rw [wK_end] at hga
   repeat' (first|apply v_seq|apply v_region|apply v_nil|apply v_skip|apply v_exit;(case hp=>rfl)|apply v_pure;(case hop=>first|apply p_move<;>rfl|apply p_lt<;>rfl|apply p_assign<;>rfl|apply p_not<;>rfl|apply p_lenSlice<;>rfl|fail);(case hd=>rfl)|apply v_condF;(case hc=>rfl)|apply v_cond;(case hc=>rfl);all_goals (intro h;(try simp only [reduceCtorEq,zzz] at h);try (exfalso;omega))|fail)
   have hpm:=List.perm_append_comm (l₁:=([(b3,.cells [.int .i64 ac,.int .i64 aq,.int .i64 ae,.bool af,.string av5,.int .i64 ar].toArray 28 (0,0))]:OH)) (l₂:=ν)
   refine v_perm hpm ?_
   refine v_frz ν (PickA.here _) ?_
   intro G2 hle2 hG2
   refine v_ret [] (outsA1 rfl rfl) (List.nil_sublist _) ⟨hle2,rfl,row_of_grow Ss.len hga hG2⟩
  | false =>
   have ep:=wK_put (hd0 rfl)
   rw [wK_end] at ep
   repeat' (first|apply v_read;(case hop=>(apply r_loadNo;(case hx=>rfl);(case h=>repeat (exact mhd _));(case hd|hn=>rfl)));(case hd=>rfl)|apply v_seq|apply v_region|apply v_nil|apply v_exit;(case hp=>rfl)|apply v_pure;(case hop=>first|apply p_move<;>rfl|apply p_lt<;>rfl|apply p_not<;>rfl|apply p_lenSlice<;>rfl|apply p_fieldAddrB<;>rfl|apply p_build;(case hz=>rfl);(case hv=>(simp only [List.map_cons,List.map_nil];repeat (first|with_reducible exact evs_nil|apply evs_cons;(case h1=>rfl))));(case hb=>(apply bldL;repeat (first|exact bld_nil|apply bld_cons;(case hpf|hc|hs|hl=>rfl);(case ho=>(first|((repeat (first|with_reducible exact ov_nil|apply ov_cons));done)|rfl)))))|fail);(case hd=>rfl)|apply v_condT;(case hc=>rfl)|apply v_cond;(case hc=>rfl);all_goals (intro h;(try simp only [reduceCtorEq,zzz] at h);try (exfalso;omega))|apply v_read;(case hop=>(apply r_load1;rfl;(apply Cell.own;(case h=>repeat exact mhd _);rfl)));(case hd=>rfl)|apply v_buildSlice;(case hz|hi=>rfl);(case hv=>(simp only [List.map_cons,List.map_nil];repeat (first|with_reducible exact evs_nil|apply evs_cons;(case h1=>rfl))));(case hp=>(apply pk_cons;(case hc|hs=>rfl);(case h=>(with_reducible exact pk_nil));(case he=>(rfl))));(case hb|hd=>rfl);intro b|fail)
   have hpm:=List.perm_append_comm (l₁:=([(b,.cells (sesOf ⟨ac,aq,ae,af,av5,ar⟩).cells.toArray 66 (0,0)),(b3,.cells [.int .i64 ac,.int .i64 aq,.int .i64 ae,.bool af,.string av5,.int .i64 ar].toArray 28 (0,0))]:OH)) (l₂:=ν)
   refine v_append (e:=66) (agg:=true) (sz:=8) (bytes:=72) (zero:=zS) rfl (by omega) rfl rfl hga hpm (m':=1) (us:=(sesOf ⟨ac,aq,ae,af,av5,ar⟩).cells) (Src.own (e:=66) (List.Mem.head _) rfl) rfl (by omega) (by simp only [maxLen];omega) rfl fun v' ν' hg'=>?_
   have hga':=GrS.snoc hg'
   refine v_perm (List.perm_append_comm (l₁:=ν')) ?_
   refine v_drop (ν:=[(b3,.cells [.int .i64 ac,.int .i64 aq,.int .i64 ae,.bool af,.string av5,.int .i64 ar].toArray 28 (0,0))]++ν') (List.Sublist.cons _ (List.Sublist.refl _)) ?_
   rw [ep] at hga'
   repeat' (first|apply v_seq|apply v_region|apply v_nil|apply v_pure;(case hop=>first|apply p_move<;>rfl|apply p_assign<;>rfl|fail);(case hd=>rfl)|fail)
   have hpm:=List.perm_append_comm (l₁:=([(b3,.cells [.int .i64 ac,.int .i64 aq,.int .i64 ae,.bool af,.string av5,.int .i64 ar].toArray 28 (0,0))]:OH)) (l₂:=ν')
   refine v_perm hpm ?_
   refine v_frz ν' (PickA.here _) ?_
   intro G2 hle2 hG2
   refine v_ret [] (outsA1 rfl rfl) (List.nil_sublist _) ⟨hle2,rfl,row_of_grow Ss.len hga' hG2⟩
theorem refPWith_s {G:GH}{l:List Pr}{sv:Value}(p:Pr) (hs:Prs G sv l) (hr:RiseW ksP l) (hn:l.length≤200) (hz:Sized l) (hpz:p.key.size≤200):Con Tryz.prog 54 #[sv,.agg p.cells.toArray] G [] (fun r G' μ'=>GH.le G G'∧μ'=[]∧Prs G' r (withG ksP l p)):=by
 obtain ⟨A,c,rfl,hlc,hcm,hsome,hcp⟩:=rowOpen hs
 simp only [maxLen] at hcm
 have hrg:=riseG_pw.2 hr
 obtain ⟨pk,pv,pr⟩:=p
 simp only at hpz
 (refine v_enter Tryz.func54 rfl Tryz.ntmps54 rfl ?_;intro B _)
 repeat' (first|apply v_box (zs:=Pr.cells ⟨pk,pv,pr⟩);(case hx|hz|hd=>rfl);intro b3|apply v_seq|apply v_region|apply v_nil|apply v_block|apply v_pure;(case hop=>(apply p_assign<;>rfl));(case hd=>rfl)|fail)
 refine v_loop [7,0,5,6,3] (fun us G' μ'=>G'=G∧∃ (k:Nat) (d:Bool) (av:Value) (ν:OH),k≤l.length∧us=[Value.int .i64 (k:Nat),.slice A l.length c,av,.bool d,.pointer (some ⟨b3,0,none⟩)]∧μ'=[(b3,.cells [.string pk,.string pv,.int .i64 pr].toArray 94 (0,0))]++ν∧GrP av (wK ksP l (⟨pk,pv,pr⟩:Pr) k d) ν∧(d=false→∀ i (hi:i<l.length),i<k→ksP l[i]<ksP (⟨pk,pv,pr⟩:Pr))∧(d=true→∀ i (hi:i<l.length),k≤i→ksP (⟨pk,pv,pr⟩:Pr)<ksP l[i])) (fun us=>l.length-(headI us).toNat) rfl ⟨rfl,0,false,.slice none 0 0,[],by omega,rfl,rfl,by rw [wK_zero];exact Grow.nil _ _,fun _ i hi h=>by omega,fun h=>by cases h⟩ ?_
 rintro us G' _ ⟨hG',k,d,av,ν,hk,rfl,rfl,hga,hd0,hd1⟩
 subst hG'
 have hwl:=wK_len (key:=ksP) l (⟨pk,pv,pr⟩:Pr) k d
 by_cases hlt:k<l.length
 ·have e1:((k:Nat):Int).toNat=k:=by omega
  have hA:=hsome (by omega)
  have hck:=hcp k hlt
  have hxz:=(hz _ (List.getElem_mem hlt)).1
  have hup:∀ i (hi:i<l.length),k+1≤i→ksP l[k]<ksP l[i]:=fun i hi h=>hrg k i hi (by omega)
  rcases Int.lt_trichotomy (ksP l[k]) (ksP (⟨pk,pv,pr⟩:Pr)) with hlt1|heq|hgt
  ·have ew:=wK_less (key:=ksP) (l:=l) (p:=(⟨pk,pv,pr⟩:Pr)) hlt hlt1
   have hd0':∀ i (hi:i<l.length),i<k+1→ksP l[i]<ksP (⟨pk,pv,pr⟩:Pr):=fun i hi h=>by
    by_cases e:i=k
    ·subst e;exact hlt1
    ·cases d with
     | false=>exact hd0 rfl i hi (by omega)
     | true=>have:=hd1 rfl k hlt (Nat.le_refl _);omega
   cases d with
   | true=>have:=hd1 rfl k hlt (Nat.le_refl _);omega
   | false =>
    clear hup hd0 hd1
    generalize l[k]=x at *
    obtain ⟨xk,xv,xr⟩:=x
    simp only at hxz
    have hc0:=hck.cell (j:=0) rfl
    simp only [ksP] at hlt1
    repeat' (first|apply v_seq|apply v_region|apply v_nil|apply v_skip|apply v_block|apply v_pure;(case hop=>first|apply p_move<;>rfl|apply p_lt<;>rfl|apply p_lenSlice<;>rfl|fail);(case hd=>rfl)|apply v_cond;(case hc=>rfl);all_goals (intro h;(try simp only [reduceCtorEq,zzz] at h);try (exfalso;omega))|fail)
    refine d_start [(b3,.cells [.string pk,.string pv,.int .i64 pr].toArray 94 (0,0))] (by kernel_rfl) (by kernel_rfl) (by kernel_rfl) (by intro e he;(simp at he;simp [he];done)) ?_
    all_goals (apply dtm 0;(case hi|hx=>rfl);(case hq=>kernel_rfl);apply dtk 1;(case hi=>rfl);(case hop=>(apply prd;apply p_not<;>rfl));(case hq=>kernel_rfl))
    all_goals (apply dtm 2;(case hi|hx=>rfl);(case hq=>kernel_rfl))
    all_goals (try (apply d_guardB 3;(case hi|hgd|h1|h2=>rfl);all_goals (intro h;(try simp only [reduceCtorEq,zzz] at h))))
    all_goals (apply dtg 3;(case hi|hg=>rfl);(case hop=>(apply prd;apply p_move<;>rfl));(case hq=>kernel_rfl))
    all_goals (try (apply d_guardB 4;(case hi|hgd|h1|h2=>rfl);all_goals (intro h;(try simp only [reduceCtorEq,zzz] at h))))
    all_goals (apply dtg 4;(case hi|hg=>rfl);(case hop=>(apply prd;apply p_move<;>rfl));(case hq=>kernel_rfl))
    all_goals (try (apply d_guardB 5;(case hi|hgd|h1|h2=>rfl);all_goals (intro h;(try simp only [reduceCtorEq,zzz] at h))))
    all_goals (apply dtg 5;(case hi|hg=>rfl);(case hop=>(apply prd;apply p_indexAddrS;(case hx|hi=>rfl);(case h0|h=>omega);(case hA=>assumption)));(case hq=>kernel_rfl))
    all_goals (try (apply d_guardB 6;(case hi|hgd|h1|h2=>rfl);all_goals (intro h;(try simp only [reduceCtorEq,zzz] at h))))
    all_goals (apply dtg 6;(case hi|hg=>rfl);(case hop=>(apply prd;apply p_fieldAddr<;>rfl));(case hq=>kernel_rfl))
    all_goals (try (apply d_guardB 7;(case hi|hgd|h1|h2=>rfl);all_goals (intro h;(try simp only [reduceCtorEq,zzz] at h))))
    all_goals (apply dtg 7;(case hi|hg=>rfl);(case hop=>((apply r_load1;rfl;exact Cell.frozen hc0)));(case hq=>kernel_rfl))
    all_goals (try (apply d_guardB 8;(case hi|hgd|h1|h2=>rfl);all_goals (intro h;(try simp only [reduceCtorEq,zzz] at h))))
    all_goals (apply dtg 8;(case hi|hg=>rfl);(case hop=>(apply prd;apply p_fieldAddrB<;>rfl));(case hq=>kernel_rfl))
    all_goals (try (apply d_guardB 9;(case hi|hgd|h1|h2=>rfl);all_goals (intro h;(try simp only [reduceCtorEq,zzz] at h))))
    all_goals (apply dtg 9;(case hi|hg=>rfl);(case hop=>(apply r_load1;rfl;(apply Cell.own;(case h=>repeat exact mhd _);rfl)));(case hq=>kernel_rfl))
    all_goals (try (apply d_guardB 10;(case hi|hgd|h1|h2=>rfl);all_goals (intro h;(try simp only [reduceCtorEq,zzz] at h))))
    all_goals (apply dtg 10;(case hi|hg=>rfl);(case hop=>((apply prd;apply p_geK;(case hx|hy=>rfl);(case ha=>assumption);(case hb=>assumption))));(case hq=>kernel_rfl);apply dtk 11;(case hi=>rfl);(case hop=>(apply prd;apply p_pickT<;>rfl));(case hq=>kernel_rfl))
    all_goals (apply d_done;(case hr=>kernel_rfl))
    repeat' (first|apply v_seq|apply v_skip|apply v_cond;(case hc=>rfl);all_goals (intro h;(try simp only [reduceCtorEq,zzz] at h);try (exfalso;omega))|fail)
    refine d_start [(b3,.cells [.string pk,.string pv,.int .i64 pr].toArray 94 (0,0))] (by kernel_rfl) (by kernel_rfl) (by kernel_rfl) (by intro e he;(simp at he;simp [he];done)) ?_
    all_goals (apply dtm 0;(case hi|hx=>rfl);(case hq=>kernel_rfl);apply dtm 1;(case hi|hx=>rfl);(case hq=>kernel_rfl))
    all_goals (apply dtk 2;(case hi=>rfl);(case hop=>(apply prd;apply p_indexAddrS;(case hx|hi=>rfl);(case h0|h=>omega);(case hA=>assumption)));(case hq=>kernel_rfl);apply dtk 3;(case hi=>rfl);(case hop=>(apply prd;apply p_fieldAddr<;>rfl));(case hq=>kernel_rfl))
    all_goals (apply dtk 4;(case hi=>rfl);(case hop=>((apply r_load1;rfl;exact Cell.frozen hc0)));(case hq=>kernel_rfl);apply dtk 5;(case hi=>rfl);(case hop=>(apply prd;apply p_fieldAddrB<;>rfl));(case hq=>kernel_rfl))
    all_goals (apply dtk 6;(case hi=>rfl);(case hop=>(apply r_load1;rfl;(apply Cell.own;(case h=>repeat exact mhd _);rfl)));(case hq=>kernel_rfl);apply dtk 7;(case hi=>rfl);(case hop=>((apply prd;apply p_neK;(case hx|hy=>rfl);(case ha=>assumption);(case hb=>assumption))));(case hq=>kernel_rfl))
    all_goals (apply d_done;(case hr=>kernel_rfl))
    repeat' (first|apply v_region|apply v_pure;(case hop=>first|apply p_move<;>rfl|apply p_indexAddrS;(case hx|hi=>rfl);(case h0|h=>omega);(case hA=>assumption)|fail);(case hd=>rfl)|apply v_cond;(case hc=>rfl);all_goals (intro h;(try simp only [reduceCtorEq,zzz] at h);try (exfalso;omega))|apply v_read;(case hop=>(apply r_loadN;rfl;exact CellsAt.frozen hck;rfl));(case hd=>rfl)|apply v_buildSlice;(case hz|hi=>rfl);(case hv=>(simp only [List.map_cons,List.map_nil];repeat (first|with_reducible exact evs_nil|apply evs_cons;(case h1=>rfl))));(case hp=>(apply pk_cons;(case hc|hs=>rfl);(case h=>(with_reducible exact pk_nil));(case he=>((repeat (first|with_reducible exact ap_nil|apply ap_cons));done))));(case hb|hd=>rfl);intro b|fail)
    have hpm:=List.perm_append_comm (l₁:=([(b,.cells (Pr.cells ⟨xk,xv,xr⟩).toArray 94 (0,0)),(b3,.cells [.string pk,.string pv,.int .i64 pr].toArray 94 (0,0))]:OH)) (l₂:=ν)
    refine v_append (e:=94) (agg:=true) (sz:=3) (bytes:=40) (zero:=zP) rfl (by omega) rfl rfl hga hpm (m':=1) (us:=(Pr.cells ⟨xk,xv,xr⟩)) (Src.own (e:=94) (List.Mem.head _) rfl) rfl (by omega) (by simp only [maxLen];omega) rfl fun v' ν' hg'=>?_
    have hga':=GrP.snoc hg'
    refine v_perm (List.perm_append_comm (l₁:=ν')) ?_
    refine v_drop (ν:=[(b3,.cells [.string pk,.string pv,.int .i64 pr].toArray 94 (0,0))]++ν') (List.Sublist.cons _ (List.Sublist.refl _)) ?_
    repeat' (first|apply v_region|apply v_nil|apply v_blk|apply v_pure;(case hop=>first|apply p_move<;>rfl|apply p_assign<;>rfl|apply p_add;(case hx|hy=>rfl);(case h=>omega)|fail);(case hd=>rfl)|fail)
    exact v_again rfl ⟨rfl,k+1,false,_,_,by omega,rfl,rfl,by rw [← ew];exact hga',fun _=>hd0',(fun h=>by cases h)⟩ (by simp [headI];omega)
  ·have ew:=wK_same (key:=ksP) (l:=l) (p:=(⟨pk,pv,pr⟩:Pr)) hlt heq
   have hd1':∀ i (hi:i<l.length),k+1≤i→ksP (⟨pk,pv,pr⟩:Pr)<ksP l[i]:=fun i hi h=>by have:=hup i hi h;omega
   cases d with
   | true=>have:=hd1 rfl k hlt (Nat.le_refl _);omega
   | false =>
    have ep:=wK_put (hd0 rfl)
    clear hup hd0 hd1
    generalize l[k]=x at *
    obtain ⟨xk,xv,xr⟩:=x
    simp only at hxz
    have hc0:=hck.cell (j:=0) rfl
    simp only [ksP] at heq
    repeat' (first|apply v_seq|apply v_region|apply v_nil|apply v_skip|apply v_block|apply v_pure;(case hop=>first|apply p_move<;>rfl|apply p_lt<;>rfl|apply p_lenSlice<;>rfl|fail);(case hd=>rfl)|apply v_cond;(case hc=>rfl);all_goals (intro h;(try simp only [reduceCtorEq,zzz] at h);try (exfalso;omega))|fail)
    refine d_start [(b3,.cells [.string pk,.string pv,.int .i64 pr].toArray 94 (0,0))] (by kernel_rfl) (by kernel_rfl) (by kernel_rfl) (by intro e he;(simp at he;simp [he];done)) ?_
    all_goals (apply dtm 0;(case hi|hx=>rfl);(case hq=>kernel_rfl);apply dtk 1;(case hi=>rfl);(case hop=>(apply prd;apply p_not<;>rfl));(case hq=>kernel_rfl))
    all_goals (apply dtm 2;(case hi|hx=>rfl);(case hq=>kernel_rfl))
    all_goals (try (apply d_guardB 3;(case hi|hgd|h1|h2=>rfl);all_goals (intro h;(try simp only [reduceCtorEq,zzz] at h))))
    all_goals (apply dtg 3;(case hi|hg=>rfl);(case hop=>(apply prd;apply p_move<;>rfl));(case hq=>kernel_rfl))
    all_goals (try (apply d_guardB 4;(case hi|hgd|h1|h2=>rfl);all_goals (intro h;(try simp only [reduceCtorEq,zzz] at h))))
    all_goals (apply dtg 4;(case hi|hg=>rfl);(case hop=>(apply prd;apply p_move<;>rfl));(case hq=>kernel_rfl))
    all_goals (try (apply d_guardB 5;(case hi|hgd|h1|h2=>rfl);all_goals (intro h;(try simp only [reduceCtorEq,zzz] at h))))
    all_goals (apply dtg 5;(case hi|hg=>rfl);(case hop=>(apply prd;apply p_indexAddrS;(case hx|hi=>rfl);(case h0|h=>omega);(case hA=>assumption)));(case hq=>kernel_rfl))
    all_goals (try (apply d_guardB 6;(case hi|hgd|h1|h2=>rfl);all_goals (intro h;(try simp only [reduceCtorEq,zzz] at h))))
    all_goals (apply dtg 6;(case hi|hg=>rfl);(case hop=>(apply prd;apply p_fieldAddr<;>rfl));(case hq=>kernel_rfl))
    all_goals (try (apply d_guardB 7;(case hi|hgd|h1|h2=>rfl);all_goals (intro h;(try simp only [reduceCtorEq,zzz] at h))))
    all_goals (apply dtg 7;(case hi|hg=>rfl);(case hop=>((apply r_load1;rfl;exact Cell.frozen hc0)));(case hq=>kernel_rfl))
    all_goals (try (apply d_guardB 8;(case hi|hgd|h1|h2=>rfl);all_goals (intro h;(try simp only [reduceCtorEq,zzz] at h))))
    all_goals (apply dtg 8;(case hi|hg=>rfl);(case hop=>(apply prd;apply p_fieldAddrB<;>rfl));(case hq=>kernel_rfl))
    all_goals (try (apply d_guardB 9;(case hi|hgd|h1|h2=>rfl);all_goals (intro h;(try simp only [reduceCtorEq,zzz] at h))))
    all_goals (apply dtg 9;(case hi|hg=>rfl);(case hop=>(apply r_load1;rfl;(apply Cell.own;(case h=>repeat exact mhd _);rfl)));(case hq=>kernel_rfl))
    all_goals (try (apply d_guardB 10;(case hi|hgd|h1|h2=>rfl);all_goals (intro h;(try simp only [reduceCtorEq,zzz] at h))))
    all_goals (apply dtg 10;(case hi|hg=>rfl);(case hop=>((apply prd;apply p_geK;(case hx|hy=>rfl);(case ha=>assumption);(case hb=>assumption))));(case hq=>kernel_rfl);apply dtk 11;(case hi=>rfl);(case hop=>(apply prd;apply p_pickT<;>rfl));(case hq=>kernel_rfl))
    all_goals (apply d_done;(case hr=>kernel_rfl))
    repeat' (first|apply v_read;(case hop=>(apply r_loadNo;(case hx=>rfl);(case h=>repeat (exact mhd _));(case hd|hn=>rfl)));(case hd=>rfl)|apply v_seq|apply v_region|apply v_pure;(case hop=>(apply p_move<;>rfl));(case hd=>rfl)|apply v_cond;(case hc=>rfl);all_goals (intro h;(try simp only [reduceCtorEq,zzz] at h);try (exfalso;omega))|apply v_buildSlice;(case hz|hi=>rfl);(case hv=>(simp only [List.map_cons,List.map_nil];repeat (first|with_reducible exact evs_nil|apply evs_cons;(case h1=>rfl))));(case hp=>(apply pk_cons;(case hc|hs=>rfl);(case h=>(with_reducible exact pk_nil));(case he=>(rfl))));(case hb|hd=>rfl);intro b|fail)
    have hpm:=List.perm_append_comm (l₁:=([(b,.cells (Pr.cells ⟨pk,pv,pr⟩).toArray 94 (0,0)),(b3,.cells [.string pk,.string pv,.int .i64 pr].toArray 94 (0,0))]:OH)) (l₂:=ν)
    refine v_append (e:=94) (agg:=true) (sz:=3) (bytes:=40) (zero:=zP) rfl (by omega) rfl rfl hga hpm (m':=1) (us:=(Pr.cells ⟨pk,pv,pr⟩)) (Src.own (e:=94) (List.Mem.head _) rfl) rfl (by omega) (by simp only [maxLen];omega) rfl fun v' ν' hg'=>?_
    have hga':=GrP.snoc hg'
    refine v_perm (List.perm_append_comm (l₁:=ν')) ?_
    refine v_drop (ν:=[(b3,.cells [.string pk,.string pv,.int .i64 pr].toArray 94 (0,0))]++ν') (List.Sublist.cons _ (List.Sublist.refl _)) ?_
    repeat' (first|apply v_seq|apply v_region|apply v_nil|apply v_pure;(case hop=>(apply p_assign<;>rfl));(case hd=>rfl)|fail)
    refine d_start [(b3,.cells [.string pk,.string pv,.int .i64 pr].toArray 94 (0,0))] (by kernel_rfl) (by kernel_rfl) (by kernel_rfl) (by intro e he;(simp at he;simp [he];done)) ?_
    all_goals (apply dtm 0;(case hi|hx=>rfl);(case hq=>kernel_rfl);apply dtm 1;(case hi|hx=>rfl);(case hq=>kernel_rfl))
    all_goals (apply dtk 2;(case hi=>rfl);(case hop=>(apply prd;apply p_indexAddrS;(case hx|hi=>rfl);(case h0|h=>omega);(case hA=>assumption)));(case hq=>kernel_rfl);apply dtk 3;(case hi=>rfl);(case hop=>(apply prd;apply p_fieldAddr<;>rfl));(case hq=>kernel_rfl))
    all_goals (apply dtk 4;(case hi=>rfl);(case hop=>((apply r_load1;rfl;exact Cell.frozen hc0)));(case hq=>kernel_rfl);apply dtk 5;(case hi=>rfl);(case hop=>(apply prd;apply p_fieldAddrB<;>rfl));(case hq=>kernel_rfl))
    all_goals (apply dtk 6;(case hi=>rfl);(case hop=>(apply r_load1;rfl;(apply Cell.own;(case h=>repeat exact mhd _);rfl)));(case hq=>kernel_rfl);apply dtk 7;(case hi=>rfl);(case hop=>((apply prd;apply p_neK;(case hx|hy=>rfl);(case ha=>assumption);(case hb=>assumption))));(case hq=>kernel_rfl))
    all_goals (apply d_done;(case hr=>kernel_rfl))
    repeat' (first|apply v_region|apply v_nil|apply v_skip|apply v_blk|apply v_pure;(case hop=>first|apply p_move<;>rfl|apply p_assign<;>rfl|apply p_add;(case hx|hy=>rfl);(case h=>omega)|fail);(case hd=>rfl)|apply v_cond;(case hc=>rfl);all_goals (intro h;(try simp only [reduceCtorEq,zzz] at h);try (exfalso;omega))|fail)
    exact v_again rfl ⟨rfl,k+1,true,_,_,by omega,rfl,rfl,by rw [← ew,← ep];exact hga',(fun h=>by cases h),fun _=>hd1'⟩ (by simp [headI];omega)
  ·have ew:=wK_more (key:=ksP) (l:=l) (p:=(⟨pk,pv,pr⟩:Pr)) hlt hgt
   have hd1':∀ i (hi:i<l.length),k+1≤i→ksP (⟨pk,pv,pr⟩:Pr)<ksP l[i]:=fun i hi h=>by have:=hup i hi h;omega
   cases d with
   | true =>
    clear hup hd0 hd1
    generalize l[k]=x at *
    obtain ⟨xk,xv,xr⟩:=x
    simp only at hxz
    have hc0:=hck.cell (j:=0) rfl
    simp only [ksP] at hgt
    repeat' (first|apply v_seq|apply v_region|apply v_nil|apply v_skip|apply v_block|apply v_pure;(case hop=>first|apply p_move<;>rfl|apply p_lt<;>rfl|apply p_lenSlice<;>rfl|fail);(case hd=>rfl)|apply v_cond;(case hc=>rfl);all_goals (intro h;(try simp only [reduceCtorEq,zzz] at h);try (exfalso;omega))|fail)
    refine d_start [(b3,.cells [.string pk,.string pv,.int .i64 pr].toArray 94 (0,0))] (by kernel_rfl) (by kernel_rfl) (by kernel_rfl) (by intro e he;(simp at he;simp [he];done)) ?_
    all_goals (apply dtm 0;(case hi|hx=>rfl);(case hq=>kernel_rfl);apply dtk 1;(case hi=>rfl);(case hop=>(apply prd;apply p_not<;>rfl));(case hq=>kernel_rfl))
    all_goals (apply dtm 2;(case hi|hx=>rfl);(case hq=>kernel_rfl))
    all_goals (try (apply d_guardB 3;(case hi|hgd|h1|h2=>rfl);all_goals (intro h;(try simp only [reduceCtorEq,zzz] at h))))
    all_goals (apply dpa 3;(case hi|hg|hn=>rfl);(case hq=>kernel_rfl))
    all_goals (try (apply d_guardB 4;(case hi|hgd|h1|h2=>rfl);all_goals (intro h;(try simp only [reduceCtorEq,zzz] at h))))
    all_goals (apply dpa 4;(case hi|hg|hn=>rfl);(case hq=>kernel_rfl))
    all_goals (try (apply d_guardB 5;(case hi|hgd|h1|h2=>rfl);all_goals (intro h;(try simp only [reduceCtorEq,zzz] at h))))
    all_goals (apply dpa 5;(case hi|hg|hn=>rfl);(case hq=>kernel_rfl))
    all_goals (try (apply d_guardB 6;(case hi|hgd|h1|h2=>rfl);all_goals (intro h;(try simp only [reduceCtorEq,zzz] at h))))
    all_goals (apply dpa 6;(case hi|hg|hn=>rfl);(case hq=>kernel_rfl))
    all_goals (try (apply d_guardB 7;(case hi|hgd|h1|h2=>rfl);all_goals (intro h;(try simp only [reduceCtorEq,zzz] at h))))
    all_goals (apply dpa 7;(case hi|hg|hn=>rfl);(case hq=>kernel_rfl))
    all_goals (try (apply d_guardB 8;(case hi|hgd|h1|h2=>rfl);all_goals (intro h;(try simp only [reduceCtorEq,zzz] at h))))
    all_goals (apply dpa 8;(case hi|hg|hn=>rfl);(case hq=>kernel_rfl))
    all_goals (try (apply d_guardB 9;(case hi|hgd|h1|h2=>rfl);all_goals (intro h;(try simp only [reduceCtorEq,zzz] at h))))
    all_goals (apply dpa 9;(case hi|hg|hn=>rfl);(case hq=>kernel_rfl))
    all_goals (try (apply d_guardB 10;(case hi|hgd|h1|h2=>rfl);all_goals (intro h;(try simp only [reduceCtorEq,zzz] at h))))
    all_goals (apply dpa 10;(case hi|hg|hn=>rfl);(case hq=>kernel_rfl))
    all_goals (apply dtk 11;(case hi=>rfl);(case hop=>(apply prd;apply p_pickF<;>rfl));(case hq=>kernel_rfl))
    all_goals (apply d_done;(case hr=>kernel_rfl))
    repeat' (first|apply v_seq|apply v_skip|apply v_condF;(case hc=>rfl)|fail)
    refine d_start [(b3,.cells [.string pk,.string pv,.int .i64 pr].toArray 94 (0,0))] (by kernel_rfl) (by kernel_rfl) (by kernel_rfl) (by intro e he;(simp at he;simp [he];done)) ?_
    all_goals (apply dtm 0;(case hi|hx=>rfl);(case hq=>kernel_rfl);apply dtm 1;(case hi|hx=>rfl);(case hq=>kernel_rfl))
    all_goals (apply dtk 2;(case hi=>rfl);(case hop=>(apply prd;apply p_indexAddrS;(case hx|hi=>rfl);(case h0|h=>omega);(case hA=>assumption)));(case hq=>kernel_rfl);apply dtk 3;(case hi=>rfl);(case hop=>(apply prd;apply p_fieldAddr<;>rfl));(case hq=>kernel_rfl))
    all_goals (apply dtk 4;(case hi=>rfl);(case hop=>((apply r_load1;rfl;exact Cell.frozen hc0)));(case hq=>kernel_rfl);apply dtk 5;(case hi=>rfl);(case hop=>(apply prd;apply p_fieldAddrB<;>rfl));(case hq=>kernel_rfl))
    all_goals (apply dtk 6;(case hi=>rfl);(case hop=>(apply r_load1;rfl;(apply Cell.own;(case h=>repeat exact mhd _);rfl)));(case hq=>kernel_rfl);apply dtk 7;(case hi=>rfl);(case hop=>((apply prd;apply p_neK;(case hx|hy=>rfl);(case ha=>assumption);(case hb=>assumption))));(case hq=>kernel_rfl))
    all_goals (apply d_done;(case hr=>kernel_rfl))
    repeat' (first|apply v_region|apply v_pure;(case hop=>first|apply p_move<;>rfl|apply p_indexAddrS;(case hx|hi=>rfl);(case h0|h=>omega);(case hA=>assumption)|fail);(case hd=>rfl)|apply v_cond;(case hc=>rfl);all_goals (intro h;(try simp only [reduceCtorEq,zzz] at h);try (exfalso;omega))|apply v_read;(case hop=>(apply r_loadN;rfl;exact CellsAt.frozen hck;rfl));(case hd=>rfl)|apply v_buildSlice;(case hz|hi=>rfl);(case hv=>(simp only [List.map_cons,List.map_nil];repeat (first|with_reducible exact evs_nil|apply evs_cons;(case h1=>rfl))));(case hp=>(apply pk_cons;(case hc|hs=>rfl);(case h=>(with_reducible exact pk_nil));(case he=>((repeat (first|with_reducible exact ap_nil|apply ap_cons));done))));(case hb|hd=>rfl);intro b|fail)
    have hpm:=List.perm_append_comm (l₁:=([(b,.cells (Pr.cells ⟨xk,xv,xr⟩).toArray 94 (0,0)),(b3,.cells [.string pk,.string pv,.int .i64 pr].toArray 94 (0,0))]:OH)) (l₂:=ν)
    refine v_append (e:=94) (agg:=true) (sz:=3) (bytes:=40) (zero:=zP) rfl (by omega) rfl rfl hga hpm (m':=1) (us:=(Pr.cells ⟨xk,xv,xr⟩)) (Src.own (e:=94) (List.Mem.head _) rfl) rfl (by omega) (by simp only [maxLen];omega) rfl fun v' ν' hg'=>?_
    have hga':=GrP.snoc hg'
    refine v_perm (List.perm_append_comm (l₁:=ν')) ?_
    refine v_drop (ν:=[(b3,.cells [.string pk,.string pv,.int .i64 pr].toArray 94 (0,0))]++ν') (List.Sublist.cons _ (List.Sublist.refl _)) ?_
    repeat' (first|apply v_region|apply v_nil|apply v_blk|apply v_pure;(case hop=>first|apply p_move<;>rfl|apply p_assign<;>rfl|apply p_add;(case hx|hy=>rfl);(case h=>omega)|fail);(case hd=>rfl)|fail)
    exact v_again rfl ⟨rfl,k+1,true,_,_,by omega,rfl,rfl,by rw [← ew];exact hga',(fun h=>by cases h),fun _=>hd1'⟩ (by simp [headI];omega)
   | false =>
    have ep:=wK_put (hd0 rfl)
    clear hup hd0 hd1
    generalize l[k]=x at *
    obtain ⟨xk,xv,xr⟩:=x
    simp only at hxz
    have hc0:=hck.cell (j:=0) rfl
    simp only [ksP] at hgt
    repeat' (first|apply v_seq|apply v_region|apply v_nil|apply v_skip|apply v_block|apply v_pure;(case hop=>first|apply p_move<;>rfl|apply p_lt<;>rfl|apply p_lenSlice<;>rfl|fail);(case hd=>rfl)|apply v_cond;(case hc=>rfl);all_goals (intro h;(try simp only [reduceCtorEq,zzz] at h);try (exfalso;omega))|fail)
    refine d_start [(b3,.cells [.string pk,.string pv,.int .i64 pr].toArray 94 (0,0))] (by kernel_rfl) (by kernel_rfl) (by kernel_rfl) (by intro e he;(simp at he;simp [he];done)) ?_
    all_goals (apply dtm 0;(case hi|hx=>rfl);(case hq=>kernel_rfl);apply dtk 1;(case hi=>rfl);(case hop=>(apply prd;apply p_not<;>rfl));(case hq=>kernel_rfl))
    all_goals (apply dtm 2;(case hi|hx=>rfl);(case hq=>kernel_rfl))
    all_goals (try (apply d_guardB 3;(case hi|hgd|h1|h2=>rfl);all_goals (intro h;(try simp only [reduceCtorEq,zzz] at h))))
    all_goals (apply dtg 3;(case hi|hg=>rfl);(case hop=>(apply prd;apply p_move<;>rfl));(case hq=>kernel_rfl))
    all_goals (try (apply d_guardB 4;(case hi|hgd|h1|h2=>rfl);all_goals (intro h;(try simp only [reduceCtorEq,zzz] at h))))
    all_goals (apply dtg 4;(case hi|hg=>rfl);(case hop=>(apply prd;apply p_move<;>rfl));(case hq=>kernel_rfl))
    all_goals (try (apply d_guardB 5;(case hi|hgd|h1|h2=>rfl);all_goals (intro h;(try simp only [reduceCtorEq,zzz] at h))))
    all_goals (apply dtg 5;(case hi|hg=>rfl);(case hop=>(apply prd;apply p_indexAddrS;(case hx|hi=>rfl);(case h0|h=>omega);(case hA=>assumption)));(case hq=>kernel_rfl))
    all_goals (try (apply d_guardB 6;(case hi|hgd|h1|h2=>rfl);all_goals (intro h;(try simp only [reduceCtorEq,zzz] at h))))
    all_goals (apply dtg 6;(case hi|hg=>rfl);(case hop=>(apply prd;apply p_fieldAddr<;>rfl));(case hq=>kernel_rfl))
    all_goals (try (apply d_guardB 7;(case hi|hgd|h1|h2=>rfl);all_goals (intro h;(try simp only [reduceCtorEq,zzz] at h))))
    all_goals (apply dtg 7;(case hi|hg=>rfl);(case hop=>((apply r_load1;rfl;exact Cell.frozen hc0)));(case hq=>kernel_rfl))
    all_goals (try (apply d_guardB 8;(case hi|hgd|h1|h2=>rfl);all_goals (intro h;(try simp only [reduceCtorEq,zzz] at h))))
    all_goals (apply dtg 8;(case hi|hg=>rfl);(case hop=>(apply prd;apply p_fieldAddrB<;>rfl));(case hq=>kernel_rfl))
    all_goals (try (apply d_guardB 9;(case hi|hgd|h1|h2=>rfl);all_goals (intro h;(try simp only [reduceCtorEq,zzz] at h))))
    all_goals (apply dtg 9;(case hi|hg=>rfl);(case hop=>(apply r_load1;rfl;(apply Cell.own;(case h=>repeat exact mhd _);rfl)));(case hq=>kernel_rfl))
    all_goals (try (apply d_guardB 10;(case hi|hgd|h1|h2=>rfl);all_goals (intro h;(try simp only [reduceCtorEq,zzz] at h))))
    all_goals (apply dtg 10;(case hi|hg=>rfl);(case hop=>((apply prd;apply p_geK;(case hx|hy=>rfl);(case ha=>assumption);(case hb=>assumption))));(case hq=>kernel_rfl);apply dtk 11;(case hi=>rfl);(case hop=>(apply prd;apply p_pickT<;>rfl));(case hq=>kernel_rfl))
    all_goals (apply d_done;(case hr=>kernel_rfl))
    repeat' (first|apply v_read;(case hop=>(apply r_loadNo;(case hx=>rfl);(case h=>repeat (exact mhd _));(case hd|hn=>rfl)));(case hd=>rfl)|apply v_seq|apply v_region|apply v_pure;(case hop=>(apply p_move<;>rfl));(case hd=>rfl)|apply v_cond;(case hc=>rfl);all_goals (intro h;(try simp only [reduceCtorEq,zzz] at h);try (exfalso;omega))|apply v_buildSlice;(case hz|hi=>rfl);(case hv=>(simp only [List.map_cons,List.map_nil];repeat (first|with_reducible exact evs_nil|apply evs_cons;(case h1=>rfl))));(case hp=>(apply pk_cons;(case hc|hs=>rfl);(case h=>(with_reducible exact pk_nil));(case he=>(rfl))));(case hb|hd=>rfl);intro b|fail)
    have hpm:=List.perm_append_comm (l₁:=([(b,.cells (Pr.cells ⟨pk,pv,pr⟩).toArray 94 (0,0)),(b3,.cells [.string pk,.string pv,.int .i64 pr].toArray 94 (0,0))]:OH)) (l₂:=ν)
    refine v_append (e:=94) (agg:=true) (sz:=3) (bytes:=40) (zero:=zP) rfl (by omega) rfl rfl hga hpm (m':=1) (us:=(Pr.cells ⟨pk,pv,pr⟩)) (Src.own (e:=94) (List.Mem.head _) rfl) rfl (by omega) (by simp only [maxLen];omega) rfl fun v' ν' hg'=>?_
    have hga':=GrP.snoc hg'
    refine v_perm (List.perm_append_comm (l₁:=ν')) ?_
    refine v_drop (ν:=[(b3,.cells [.string pk,.string pv,.int .i64 pr].toArray 94 (0,0))]++ν') (List.Sublist.cons _ (List.Sublist.refl _)) ?_
    repeat' (first|apply v_seq|apply v_region|apply v_nil|apply v_pure;(case hop=>(apply p_assign<;>rfl));(case hd=>rfl)|fail)
    refine d_start [(b3,.cells [.string pk,.string pv,.int .i64 pr].toArray 94 (0,0))] (by kernel_rfl) (by kernel_rfl) (by kernel_rfl) (by intro e he;(simp at he;simp [he];done)) ?_
    all_goals (apply dtm 0;(case hi|hx=>rfl);(case hq=>kernel_rfl);apply dtm 1;(case hi|hx=>rfl);(case hq=>kernel_rfl))
    all_goals (apply dtk 2;(case hi=>rfl);(case hop=>(apply prd;apply p_indexAddrS;(case hx|hi=>rfl);(case h0|h=>omega);(case hA=>assumption)));(case hq=>kernel_rfl);apply dtk 3;(case hi=>rfl);(case hop=>(apply prd;apply p_fieldAddr<;>rfl));(case hq=>kernel_rfl))
    all_goals (apply dtk 4;(case hi=>rfl);(case hop=>((apply r_load1;rfl;exact Cell.frozen hc0)));(case hq=>kernel_rfl);apply dtk 5;(case hi=>rfl);(case hop=>(apply prd;apply p_fieldAddrB<;>rfl));(case hq=>kernel_rfl))
    all_goals (apply dtk 6;(case hi=>rfl);(case hop=>(apply r_load1;rfl;(apply Cell.own;(case h=>repeat exact mhd _);rfl)));(case hq=>kernel_rfl);apply dtk 7;(case hi=>rfl);(case hop=>((apply prd;apply p_neK;(case hx|hy=>rfl);(case ha=>assumption);(case hb=>assumption))));(case hq=>kernel_rfl))
    all_goals (apply d_done;(case hr=>kernel_rfl))
    repeat' (first|apply v_region|apply v_pure;(case hop=>first|apply p_move<;>rfl|apply p_indexAddrS;(case hx|hi=>rfl);(case h0|h=>omega);(case hA=>assumption)|fail);(case hd=>rfl)|apply v_cond;(case hc=>rfl);all_goals (intro h;(try simp only [reduceCtorEq,zzz] at h);try (exfalso;omega))|apply v_read;(case hop=>(apply r_loadN;rfl;exact CellsAt.frozen hck;rfl));(case hd=>rfl)|apply v_buildSlice;(case hz|hi=>rfl);(case hv=>(simp only [List.map_cons,List.map_nil];repeat (first|with_reducible exact evs_nil|apply evs_cons;(case h1=>rfl))));(case hp=>(apply pk_cons;(case hc|hs=>rfl);(case h=>(with_reducible exact pk_nil));(case he=>((repeat (first|with_reducible exact ap_nil|apply ap_cons));done))));(case hb|hd=>rfl);intro b|fail)
    rw [ep] at hga'
    have hwl':=wK_len (key:=ksP) l (⟨pk,pv,pr⟩:Pr) k true
    have hpm:=List.perm_append_comm (l₁:=([(b,.cells (Pr.cells ⟨xk,xv,xr⟩).toArray 94 (0,0)),(b3,.cells [.string pk,.string pv,.int .i64 pr].toArray 94 (0,0))]:OH)) (l₂:=ν')
    refine v_append (e:=94) (agg:=true) (sz:=3) (bytes:=40) (zero:=zP) rfl (by omega) rfl rfl hga' hpm (m':=1) (us:=(Pr.cells ⟨xk,xv,xr⟩)) (Src.own (e:=94) (List.Mem.head _) rfl) rfl (by omega) (by simp only [maxLen];omega) rfl fun v' ν' hg'=>?_
    have hga2:=GrP.snoc hg'
    refine v_perm (List.perm_append_comm (l₁:=ν')) ?_
    refine v_drop (ν:=[(b3,.cells [.string pk,.string pv,.int .i64 pr].toArray 94 (0,0))]++ν') (List.Sublist.cons _ (List.Sublist.refl _)) ?_
    repeat' (first|apply v_region|apply v_nil|apply v_blk|apply v_pure;(case hop=>first|apply p_move<;>rfl|apply p_assign<;>rfl|apply p_add;(case hx|hy=>rfl);(case h=>omega)|fail);(case hd=>rfl)|fail)
    exact v_again rfl ⟨rfl,k+1,true,_,_,by omega,rfl,rfl,by rw [← ew];exact hga2,(fun h=>by cases h),fun _=>hd1'⟩ (by simp [headI];omega)
 ·obtain rfl:k=l.length:=by omega
  cases d with
  | true =>
   rw [wK_end] at hga
   repeat' (first|apply v_seq|apply v_region|apply v_nil|apply v_skip|apply v_exit;(case hp=>rfl)|apply v_pure;(case hop=>first|apply p_move<;>rfl|apply p_lt<;>rfl|apply p_assign<;>rfl|apply p_not<;>rfl|apply p_lenSlice<;>rfl|fail);(case hd=>rfl)|apply v_condF;(case hc=>rfl)|apply v_cond;(case hc=>rfl);all_goals (intro h;(try simp only [reduceCtorEq,zzz] at h);try (exfalso;omega))|fail)
   have hpm:=List.perm_append_comm (l₁:=([(b3,.cells [.string pk,.string pv,.int .i64 pr].toArray 94 (0,0))]:OH)) (l₂:=ν)
   refine v_perm hpm ?_
   refine v_frz ν (PickA.here _) ?_
   intro G2 hle2 hG2
   refine v_ret [] (outsA1 rfl rfl) (List.nil_sublist _) ⟨hle2,rfl,row_of_grow Pr.len hga hG2⟩
  | false =>
   have ep:=wK_put (hd0 rfl)
   rw [wK_end] at ep
   repeat' (first|apply v_read;(case hop=>(apply r_loadNo;(case hx=>rfl);(case h=>repeat (exact mhd _));(case hd|hn=>rfl)));(case hd=>rfl)|apply v_seq|apply v_region|apply v_nil|apply v_exit;(case hp=>rfl)|apply v_pure;(case hop=>first|apply p_move<;>rfl|apply p_lt<;>rfl|apply p_not<;>rfl|apply p_lenSlice<;>rfl|fail);(case hd=>rfl)|apply v_condT;(case hc=>rfl)|apply v_cond;(case hc=>rfl);all_goals (intro h;(try simp only [reduceCtorEq,zzz] at h);try (exfalso;omega))|apply v_buildSlice;(case hz|hi=>rfl);(case hv=>(simp only [List.map_cons,List.map_nil];repeat (first|with_reducible exact evs_nil|apply evs_cons;(case h1=>rfl))));(case hp=>(apply pk_cons;(case hc|hs=>rfl);(case h=>(with_reducible exact pk_nil));(case he=>(rfl))));(case hb|hd=>rfl);intro b|fail)
   have hpm:=List.perm_append_comm (l₁:=([(b,.cells (Pr.cells ⟨pk,pv,pr⟩).toArray 94 (0,0)),(b3,.cells [.string pk,.string pv,.int .i64 pr].toArray 94 (0,0))]:OH)) (l₂:=ν)
   refine v_append (e:=94) (agg:=true) (sz:=3) (bytes:=40) (zero:=zP) rfl (by omega) rfl rfl hga hpm (m':=1) (us:=(Pr.cells ⟨pk,pv,pr⟩)) (Src.own (e:=94) (List.Mem.head _) rfl) rfl (by omega) (by simp only [maxLen];omega) rfl fun v' ν' hg'=>?_
   have hga':=GrP.snoc hg'
   refine v_perm (List.perm_append_comm (l₁:=ν')) ?_
   refine v_drop (ν:=[(b3,.cells [.string pk,.string pv,.int .i64 pr].toArray 94 (0,0))]++ν') (List.Sublist.cons _ (List.Sublist.refl _)) ?_
   rw [ep] at hga'
   repeat' (first|apply v_seq|apply v_region|apply v_nil|apply v_pure;(case hop=>first|apply p_move<;>rfl|apply p_assign<;>rfl|fail);(case hd=>rfl)|fail)
   have hpm:=List.perm_append_comm (l₁:=([(b3,.cells [.string pk,.string pv,.int .i64 pr].toArray 94 (0,0))]:OH)) (l₂:=ν')
   refine v_perm hpm ?_
   refine v_frz ν' (PickA.here _) ?_
   intro G2 hle2 hG2
   refine v_ret [] (outsA1 rfl rfl) (List.nil_sublist _) ⟨hle2,rfl,row_of_grow Pr.len hga' hG2⟩
end Go.Proofs.YtlkakbjcolgjbaaGreatDoor
