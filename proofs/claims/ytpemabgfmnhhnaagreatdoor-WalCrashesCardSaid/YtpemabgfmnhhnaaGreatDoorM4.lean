/-
  rectwo (layer 17), the fourth part, in plain Lean: what is written in F2 leads back, and what is read was written; no bytes are of both formats.
-/
import Derived.Test.YtpemabgfmnhhnaaGreatDoorM3
import Derived.Test.YtpemabgfmnhhnaaGreatDoorM2
import Derived.Lib.LaidU8T
import Derived.MakeChecks
import Derived.Test.YtpemabgfmnhhnaaGreatDoorRows
import Derived.Test.YtpemabgfmnhhnaaGreatDoorM1
set_option linter.unusedSimpArgs false
set_option linter.unusedVariables false
namespace Go.Proofs.YtpemabgfmnhhnaaGreatDoor
open Go.Vx Go.ChangeShapes Go.WideShapes Go.ChangeAt Go.RowKit
theorem nz {v:Int}{r:List Int}(h0:0≤v) (h1:v≤9223372036854775807):nV (some (vbytes v++r))=v∧nS (some (vbytes v++r))=some r:=num_v r h0 h1
theorem decT_enc {x:Rc}(h:chkI x=0):decTOk (some (encT x))∧(decT (some (encT x))).1=x:=by
 have h0:recI x.kind x.round x.node x.index x.cmd x.image.length=0:=h
 obtain ⟨hk,hr,hi,hc,ho⟩:=rec0 h0
 obtain ⟨hfit,hsm,him,hsz⟩:=fits0 h0
 have hchk:=h
 obtain ⟨k,r,n,i,c,im⟩:=x
 simp only at hk hr hi hc ho him hsz
 unfold ranP mayP at hr
 have hcz:¬ (k=2∨k=3)→c=zeroC:=fun hh=>Decidable.not_not.1 fun hn=>ho (.inr (.inr (.inl ⟨hh,hn⟩)))
 have hr0:0≤r∧r≤4294967296:=by unfold othP at ho;omega
 have hn0:0≤n∧n≤9:=by unfold othP at ho;omega
 have hi0:0≤i∧i≤4294967296:=by unfold othP at ho;omega
 have hz:¬ (k=1∨k=2)→r=0∧n=0:=fun hh=>Decidable.not_not.1 fun hn=>ho (.inl ⟨hh,hn⟩)
 have hiz:k=1→i=0:=fun hh=>Decidable.not_not.1 fun hn=>ho (.inr (.inl ⟨hh,hn⟩))
 have himz:k≠4→im=[]:=fun hh=>by
  have:im.length=0:=by unfold othP at ho;omega
  exact List.eq_nil_of_length_eq_zero this
 have q0:=fun t=>nz (v:=k+16) (r:=t) (by omega) (by omega)
 have q1:=fun t=>nz (v:=r) (r:=t) (by omega) (by omega)
 have q2:=fun t=>nz (v:=n) (r:=t) (by omega) (by omega)
 have q3:=fun t=>nz (v:=i) (r:=t) (by omega) (by omega)
 have key:decT (some (encT ⟨k,r,n,i,c,im⟩))=(⟨k,r,n,i,c,im⟩,some []):=by
  unfold decT encT
  rw [(q0 _).1,(q0 _).2,show k+16-16=k by omega]
  obtain rfl|rfl|rfl|rfl:k=1∨k=2∨k=3∨k=4:=by omega
  ·rw [himz (by decide),hcz (by decide),hiz rfl]
   have e:tailT ⟨1,r,n,0,zeroC,[]⟩=vbytes r++(vbytes n++[]):=by simp [tailT]
   rw [e]
   simp only [rdX,q1,q2,if_true]
  ·rw [himz (by decide)]
   have qc:=getV_put (v:=2) (c:=c) (hc (.inl rfl)) (.inr rfl) (by omega) []
   have e:tailT ⟨2,r,n,i,c,[]⟩=vbytes r++(vbytes n++(vbytes i++(vbytes c.kind++putW (wantB 2 c.kind) c 6++[]))):=by simp [tailT]
   rw [e]
   simp only [rdX,q1,q2,q3,qc,if_true,Int.reduceEq,if_false]
  ·obtain ⟨rfl,rfl⟩:=hz (by decide)
   rw [himz (by decide)]
   have qc:=getV_put (v:=2) (c:=c) (hc (.inr rfl)) (.inr rfl) (by omega) []
   have e:tailT ⟨3,0,0,i,c,[]⟩=vbytes i++(vbytes c.kind++putW (wantB 2 c.kind) c 6++[]):=by simp [tailT]
   rw [e]
   simp only [rdX,q3,qc,if_true,Int.reduceEq,if_false]
  ·obtain ⟨rfl,rfl⟩:=hz (by decide)
   rw [hcz (by decide)]
   have qc:=raw_v (most:=32768) im [] (by omega) (by omega)
   have e:tailT ⟨4,0,0,i,zeroC,im⟩=vbytes i++(vbytes im.length++im++[]):=by simp [tailT]
   rw [e]
   simp only [rdX,q3,qc,if_true,Int.reduceEq,if_false]
 rw [key]
 refine ⟨⟨?_,?_,by rw [key],by rw [key];exact hchk⟩,rfl⟩
 ·unfold encT;rw [(q0 _).2];simp
 ·unfold encT;rw [(q0 _).1];omega
theorem getT_inv {s:Option (List Int)}(hb:byteS s) {t:List Int}(h:(getT s).2=some t):s=some (vbytes (getT s).1.kind++putW (wantB 2 (getT s).1.kind) (getT s).1 6++t):=by
 have h1:=getW_all (wantB 2 (nV s)) hb h
 have hk:(getT s).1.kind=nV s:=getW_kind _ _ _
 rw [hk] at h1 ⊢
 exact h1
theorem encT_dec {l:List Int}(hb:byteS (some l)) (h:decTOk (some l)):encT (decT (some l)).1=l:=by
 obtain ⟨h1,h2,h3,h4⟩:=h
 have b1:byteS (nS (some l)):=numS_b hb 9223372036854775807
 have b2:byteS (nS (nS (some l))):=numS_b b1 9223372036854775807
 have b3:byteS (nS (nS (nS (some l)))):=numS_b b2 9223372036854775807
 have b4:byteS (nS (nS (nS (nS (some l))))):=numS_b b3 9223372036854775807
 unfold decT at h3 ⊢
 obtain ⟨t,ht⟩:∃ t,nS (some l)=some t:=by
  cases hh:nS (some l) with
  | none=>exact absurd hh h1
  | some t=>exact ⟨t,rfl⟩
 have q0:=Option.some.inj (num_inv hb ht)
 have key:encT (rdX (nV (some l)-16) (nS (some l))).1=vbytes (nV (some l))++tailT (rdX (nV (some l)-16) (nS (some l))).1:=by
  have ek:(rdX (nV (some l)-16) (nS (some l))).1.kind=nV (some l)-16:=by unfold rdX;(repeat' split)<;>rfl
  rw [encT,ek,show nV (some l)-16+16=nV (some l) by omega]
 rw [key]
 have fin:tailT (rdX (nV (some l)-16) (nS (some l))).1=t:=by
  have ht':=ht
  generalize nS (some l)=s1 at *
  obtain hk|hk|hk|hk:nV (some l)-16=1∨nV (some l)-16=2∨nV (some l)-16=3∨nV (some l)-16=4:=by omega
  all_goals
   rw [hk] at h3 ⊢
   simp only [rdX,if_true,Int.reduceEq,if_false] at h3 ⊢
  ·have q2:=num_inv b2 h3
   have q1:=num_inv b1 q2
   rw [ht'] at q1
   have q1:=Option.some.inj q1
   rw [q1]
   subst ht'
   simp [tailT]
  ·have q4:=getT_inv b4 h3
   have q3:=num_inv b3 q4
   have q2:=num_inv b2 q3
   have q1:=num_inv b1 q2
   rw [ht'] at q1
   have q1:=Option.some.inj q1
   rw [q1]
   subst ht'
   simp [tailT]
  ·have q4:=getT_inv b2 h3
   have q1:=num_inv b1 q4
   rw [ht'] at q1
   have q1:=Option.some.inj q1
   rw [q1]
   subst ht'
   simp [tailT]
  ·have q4:=raw_inv b2 h3
   have q1:=num_inv b1 q4
   rw [ht'] at q1
   have q1:=Option.some.inj q1
   rw [q1]
   subst ht'
   simp [tailT]
 rw [fin,← q0]
theorem pbytes_wf {c:Cm}(hc:c.ok) (hk:c.key.size≤1000) (hv:c.val.size≤1000) (ho:c.old.size≤1000) (j:Nat):∀ y∈pbytes c j,(Lit.int .u8 y).wf=true:=by
 obtain ⟨hk1,hc1,hs1,-,-,-,hn1⟩:=hc
 simp [Lit.wf,IntKind.min,IntKind.max,IntKind.signed,IntKind.bits] at hk1 hc1 hs1 hn1
 unfold pbytes
 split
 ·exact fun y hy=>vbytes_wf (by unfold Cm.num;split<;>omega) y hy
 ·exact tbytes_wf _ (by unfold Cm.txt;split<;>omega)
theorem putW_wf {w:Nat→Bool}{c:Cm}(hc:c.ok) (hk:c.key.size≤1000) (hv:c.val.size≤1000) (ho:c.old.size≤1000):∀ k,∀ y∈putW w c k,(Lit.int .u8 y).wf=true
 | 0,y,hy=>by simp [putW] at hy
 | k+1,y,hy=>by
  rw [putW] at hy
  rcases List.mem_append.1 hy with hy|hy
  ·exact putW_wf hc hk hv ho k y hy
  ·split at hy
   ·exact pbytes_wf hc hk hv ho k y hy
   ·cases hy
noncomputable def hasI (v:Int) (x:Rc):Int:=if recI x.kind x.round x.node x.index x.cmd x.image.length≠0 then recI x.kind x.round x.node x.index x.cmd x.image.length else if (x.kind=2∨x.kind=3)∧¬ HasV v x.cmd.kind then 8 else 0
theorem hasI_one (x:Rc):hasI 1 x=olderI x:=rfl
theorem hasI_two (x:Rc):hasI 2 x=chkI x:=by
 unfold hasI chkI
 by_cases h0:recI x.kind x.round x.node x.index x.cmd x.image.length=0
 ·rw [if_neg (by rw [h0];decide),h0,if_neg]
  rintro ⟨hk,hn⟩
  have:=(cmd0 ((rec0 h0).2.2.2.1 hk)).1
  exact hn (.inr ⟨rfl,by omega⟩)
 ·rw [if_pos h0]
theorem refHasV_s {G:GH}(v:Int) {x:Rc}{xv:Value}(hx:RcV G x xv) (hc:x.cmd.ok):Con Tryz.prog 51 #[.int .i64 v,xv] G [] (Just (.int .i64 (hasI v x)) G):=by
 obtain ⟨k,r,n,i,c,im⟩:=x
 obtain ⟨iv,rfl,hi⟩:=hx
 obtain ⟨A,cp,rfl,hlc,hcm,_⟩:=hi.openInt
 simp only [maxLen] at hcm
 simp only at hc hlc hi
 have q:=refRecCheck_s (G:=G) k r n i c hc A im.length cp (by omega)
 have qf:=hasCmd_s G k
 have qv:=refVHas_s G v c.kind
 have ho:hasI v ⟨k,r,n,i,c,im⟩=if recI k r n i c im.length≠0 then recI k r n i c im.length else if (k=2∨k=3)∧¬ HasV v c.kind then 8 else 0:=rfl
 rw [ho]
 generalize recI k r n i c im.length=I at *
 apply Con.just
 (refine v_enter Tryz.func51 rfl Tryz.ntmps51 rfl ?_;intro B _)
 repeat' (first|apply v_seq|apply v_region|apply v_nil|apply v_skip|apply v_take;(case hg=>rfl)|apply v_pass;(case hg|hn|hd=>rfl)|apply v_pure;(case hop=>first|apply p_move<;>rfl|apply p_ne<;>rfl|apply p_assign<;>rfl|apply p_pickT<;>rfl|apply p_pickF<;>rfl|apply p_not<;>rfl|apply p_fieldAddrB<;>rfl|fail);(case hd=>rfl)|apply v_condF;(case hc=>rfl)|apply v_cond;(case hc=>rfl);all_goals (intro h;(try simp only [reduceCtorEq,zzz] at h))|apply v_guardB;(case h1|h2=>rfl);all_goals (intro h;(try simp only [reduceCtorEq,zzz] at h))|apply v_box (zs:=recL k r n i c (.slice A im.length cp));(case hx|hz|hd=>rfl);intro b1|apply v_callJ (hs:=q);(case ha|hd=>rfl)|apply v_callJ (hs:=qf);(case ha|hd=>rfl)|apply v_callJ (hs:=qv);(case ha|hd=>rfl)|apply v_read;(case hop=>first|apply r_loadNo;(case hx=>rfl);(case h=>repeat exact mhd _);(case hd=>repeat first|with_reducible exact dt_nil|apply dt_here);(case hn=>rfl)|apply r_load1;rfl;(apply Cell.own;(case h=>repeat exact mhd _);rfl)|fail);(case hd=>rfl)|fail)
 all_goals
  (refine v_ret [] (outsA1 rfl rfl) (by repeat (exact List.nil_sublist _)) ?_
   refine ⟨?_,rfl⟩
   clear q qf qv
   simp [*])
theorem put1_s {G:GH}(hT:TabsG G) {x:Rc}{xv:Value}(hx:RcV G x xv) (hc:x.cmd.ok) (hl:¬ x.large) (hw:x.small):Con Tryz.prog 59 #[.int .i64 1,xv] G [] (EncR x):=by
 have q:=encode_s hT hx hc hl hw
 have qm:=vmay_s G 1
 rw [decide_eq_true (by omega)] at qm
 unfold EncR at *
 generalize (if olderI x=0 then encL x else [])=L at *
 obtain ⟨iv,rfl,hi⟩:=hx
 (refine v_enter Tryz.func59 rfl Tryz.ntmps59 rfl ?_;intro B _)
 repeat' (first|apply v_seq|apply v_region|apply v_nil|apply v_block|apply v_pure;(case hop=>first|apply p_move<;>rfl|apply p_eqs<;>rfl|apply p_assign<;>rfl|apply p_not<;>rfl|fail);(case hd=>rfl)|apply v_condT;(case hc=>rfl)|apply v_condF;(case hc=>rfl)|apply v_box (zs:=recL x.kind x.round x.node x.index x.cmd iv);(case hx|hz|hd=>rfl);intro xb|apply v_callJ (hs:=qm);(case ha|hd=>rfl)|apply v_read;(case hop=>(apply r_loadNo;(case hx=>rfl);(case h=>repeat exact mhd _);(case hd=>repeat first|with_reducible exact dt_nil|apply dt_here);(case hn=>rfl)));(case hd=>rfl)|fail)
 refine v_call (μ1:=[]) (μ2:=_) rfl q (List.Perm.refl _) rfl ?_
 rintro r G1 ν1 - ⟨rfl,v,rfl,hg⟩
 repeat' (first|apply v_nil|apply v_pure;(case hop=>first|apply p_assign<;>rfl|apply p_extract0<;>rfl|apply p_extract1<;>rfl|fail);(case hd=>rfl)|fail)
 refine v_ret [] (outsA2 rfl rfl rfl) (by repeat (exact List.nil_sublist _)) ?_
 exact ⟨rfl,_,rfl,hg⟩
theorem put2_s {G:GH}(hT:TabsG G) {x:Rc}{xv:Value}(hx:RcV G x xv) (hc:x.cmd.ok):Con Tryz.prog 59 #[.int .i64 2,xv] G [] (EncT x):=by
 have q:=encodeT_s hT hx hc
 have qm:=vmay_s G 2
 rw [decide_eq_true (by omega)] at qm
 unfold EncT at *
 generalize (if chkI x=0 then encT x else [])=L at *
 obtain ⟨iv,rfl,hi⟩:=hx
 (refine v_enter Tryz.func59 rfl Tryz.ntmps59 rfl ?_;intro B _)
 repeat' (first|apply v_seq|apply v_region|apply v_nil|apply v_skip|apply v_block|apply v_blk|apply v_pure;(case hop=>first|apply p_move<;>rfl|apply p_eq<;>rfl|apply p_assign<;>rfl|apply p_not<;>rfl|fail);(case hd=>rfl)|apply v_condF;(case hc=>rfl)|apply v_cond;(case hc=>rfl);all_goals (intro h;(try simp only [reduceCtorEq,zzz] at h);try (exfalso;omega))|apply v_box (zs:=recL x.kind x.round x.node x.index x.cmd iv);(case hx|hz|hd=>rfl);intro xb|apply v_callJ (hs:=qm);(case ha|hd=>rfl)|apply v_read;(case hop=>(apply r_loadNo;(case hx=>rfl);(case h=>repeat exact mhd _);(case hd=>repeat first|with_reducible exact dt_nil|apply dt_here);(case hn=>rfl)));(case hd=>rfl)|fail)
 refine v_call (μ1:=[]) (μ2:=_) rfl q (List.Perm.refl _) rfl ?_
 rintro r G1 ν1 - ⟨rfl,v,rfl,hg⟩
 repeat' (first|apply v_nil|apply v_pure;(case hop=>first|apply p_assign<;>rfl|apply p_extract0<;>rfl|apply p_extract1<;>rfl|fail);(case hd=>rfl)|fail)
 refine v_ret [] (outsA2 rfl rfl rfl) (by repeat (exact List.nil_sublist _)) ?_
 exact ⟨rfl,_,rfl,hg⟩
theorem putN_s {G:GH}{f:Int}(hf:¬ (f=1∨f=2)) {x:Rc}{xv:Value}(hx:RcV G x xv):Con Tryz.prog 59 #[.int .i64 f,xv] G [] (Just (.tuple [.slice none 0 0,.int .i64 8].toArray) G):=by
 have qm:=vmay_s G f
 rw [decide_eq_false hf] at qm
 obtain ⟨iv,rfl,hi⟩:=hx
 apply Con.just
 (refine v_enter Tryz.func59 rfl Tryz.ntmps59 rfl ?_;intro B _)
 repeat' (first|apply v_seq|apply v_region|apply v_nil|apply v_block|apply v_pure;(case hop=>first|apply p_move<;>rfl|apply p_assign<;>rfl|apply p_not<;>rfl|fail);(case hd=>rfl)|apply v_condT;(case hc=>rfl)|apply v_box (zs:=recL x.kind x.round x.node x.index x.cmd iv);(case hx|hz|hd=>rfl);intro xb|apply v_callJ (hs:=qm);(case ha|hd=>rfl)|fail)
 refine v_ret [] (outsA2 rfl rfl rfl) (by repeat (exact List.nil_sublist _)) ?_
 exact ⟨rfl,rfl⟩
theorem get1_s {G:GH}(hT:TabsG G) {l:List Int}{bv:Value}(hs:Sl G 1 (IntR .u8) bv l) (hl:l.length≤1048000):Con Tryz.prog 107 #[.int .i64 1,bv] G [] (DecR (some l)):=by
 have q:=rdecode_s hT hs hl
 have qm:=vmay_s G 1
 rw [decide_eq_true (by omega)] at qm
 unfold DecR at *
 generalize decOk (some l)=OK at *
 generalize decX (some l)=X at *
 obtain ⟨A0,c0,rfl,-⟩:=id hs.openInt
 (refine v_enter Tryz.func107 rfl Tryz.ntmps107 rfl ?_;intro B _)
 repeat' (first|apply v_seq|apply v_region|apply v_nil|apply v_block|apply v_pure;(case hop=>first|apply p_move<;>rfl|apply p_eqs<;>rfl|apply p_assign<;>rfl|apply p_not<;>rfl|fail);(case hd=>rfl)|apply v_condT;(case hc=>rfl)|apply v_condF;(case hc=>rfl)|apply v_callJ (hs:=qm);(case ha|hd=>rfl)|apply v_alloc;(case hz|hd=>rfl);intro b|fail)
 refine v_call (μ1:=[]) (μ2:=_) rfl q (List.Perm.refl _) rfl ?_
 rintro r G1 ν1 - ⟨rfl,x,v,e,rfl,hx,hcase⟩
 obtain ⟨iv,rfl,hi⟩:=id hx
 obtain ⟨A1,c1,rfl,-⟩:=hi.openInt
 unfold recL
 repeat' (first|apply v_nil|apply v_pure;(case hop=>first|apply p_assign<;>rfl|apply p_extract0<;>rfl|apply p_extract1<;>rfl|fail);(case hd=>rfl)|apply v_store;(case hp|hx|hc|hsz|h1=>rfl);(case hb=>repeat exact mhd _);(case hfit=>exact nle rfl);(case hov=>((repeat (first|with_reducible exact ov_nil|apply ov_cons));done));(case hu=>repeat (exact Upd.here _ _))|fail)
 refine v_retM [] (outsM_cell_tmp (vs:=recL x.kind x.round x.node x.index x.cmd (.slice A1 x.image.length c1)) (e:=42) rfl rfl rfl (by repeat (exact mhd _)) rfl) (by repeat (exact List.nil_sublist _)) ?_
 exact ⟨rfl,x,_,e,rfl,hx,hcase⟩
theorem get2_s {G:GH}(hT:TabsG G) {l:List Int}{bv:Value}(hs:Sl G 1 (IntR .u8) bv l) (hl:l.length≤1048000):Con Tryz.prog 107 #[.int .i64 2,bv] G [] (DecT (some l)):=by
 have q:=tdecode_s hT hs hl
 have qm:=vmay_s G 2
 rw [decide_eq_true (by omega)] at qm
 unfold DecT at *
 generalize decTOk (some l)=OK at *
 generalize decT (some l)=X at *
 obtain ⟨A0,c0,rfl,-⟩:=id hs.openInt
 (refine v_enter Tryz.func107 rfl Tryz.ntmps107 rfl ?_;intro B _)
 repeat' (first|apply v_seq|apply v_region|apply v_nil|apply v_skip|apply v_block|apply v_blk|apply v_pure;(case hop=>first|apply p_move<;>rfl|apply p_eq<;>rfl|apply p_assign<;>rfl|apply p_not<;>rfl|fail);(case hd=>rfl)|apply v_condF;(case hc=>rfl)|apply v_cond;(case hc=>rfl);all_goals (intro h;(try simp only [reduceCtorEq,zzz] at h);try (exfalso;omega))|apply v_callJ (hs:=qm);(case ha|hd=>rfl)|apply v_alloc;(case hz|hd=>rfl);intro b|fail)
 refine v_call (μ1:=[]) (μ2:=_) rfl q (List.Perm.refl _) rfl ?_
 rintro r G1 ν1 - ⟨rfl,x,v,e,rfl,hx,hcase⟩
 obtain ⟨iv,rfl,hi⟩:=id hx
 obtain ⟨A1,c1,rfl,-⟩:=hi.openInt
 unfold recL
 repeat' (first|apply v_nil|apply v_pure;(case hop=>first|apply p_assign<;>rfl|apply p_extract0<;>rfl|apply p_extract1<;>rfl|fail);(case hd=>rfl)|apply v_store;(case hp|hx|hc|hsz|h1=>rfl);(case hb=>repeat exact mhd _);(case hfit=>exact nle rfl);(case hov=>((repeat (first|with_reducible exact ov_nil|apply ov_cons));done));(case hu=>repeat (exact Upd.here _ _))|fail)
 refine v_retM [] (outsM_cell_tmp (vs:=recL x.kind x.round x.node x.index x.cmd (.slice A1 x.image.length c1)) (e:=42) rfl rfl rfl (by repeat (exact mhd _)) rfl) (by repeat (exact List.nil_sublist _)) ?_
 exact ⟨rfl,x,_,e,rfl,hx,hcase⟩
theorem getN_s {G:GH}{f:Int}(hf:¬ (f=1∨f=2)) (bv:Value):Con Tryz.prog 107 #[.int .i64 f,bv] G [] (Just (.tuple [.agg zeroRL.toArray,.int .i64 8].toArray) G):=by
 have qm:=vmay_s G f
 rw [decide_eq_false hf] at qm
 apply Con.just
 (refine v_enter Tryz.func107 rfl Tryz.ntmps107 rfl ?_;intro B _)
 repeat' (first|apply v_seq|apply v_region|apply v_nil|apply v_block|apply v_pure;(case hop=>first|apply p_move<;>rfl|apply p_assign<;>rfl|apply p_not<;>rfl|apply p_build;(case hz=>rfl);(case hv=>(simp only [List.map_cons,List.map_nil];repeat (with_reducible exact evs_nil)));(case hb=>(apply bldL;repeat (exact bld_nil)))|fail);(case hd=>rfl)|apply v_condT;(case hc=>rfl)|apply v_callJ (hs:=qm);(case ha|hd=>rfl)|apply v_alloc;(case hz|hd=>rfl);intro b|apply v_store;(case hp|hx|hc|hsz|h1=>rfl);(case hb=>repeat exact mhd _);(case hfit=>exact nle rfl);(case hov=>((repeat (first|with_reducible exact ov_nil|apply ov_cons));done));(case hu=>repeat (exact Upd.here _ _))|fail)
 refine v_retM [] (outsM_cell_tmp (vs:=zeroRL) (e:=42) rfl rfl rfl (by repeat (exact mhd _)) rfl) (by repeat (exact List.nil_sublist _)) ?_
 exact ⟨rfl,rfl⟩
def CmR (c:Cm) (cs:List Value):Prop:=cs=c.cells∧c.ok
theorem el_cm {H:Type}{enc:TypeId×Value→H}{W:World}:Elem enc Tryz.prog W 40 CmR:=by
 intro fuel cs x hf
 have h1:=el_flen (n:=7) Tryz.underlying40 (by kernel_rfl) hf
 obtain ⟨a0,h0,w0⟩:=el_fld (i:=0) (sz:=1) (by kernel_rfl) (el_int Tryz.underlying3) hf
 obtain ⟨a1,e1,w1⟩:=el_fld (i:=1) (sz:=1) (by kernel_rfl) (el_int Tryz.underlying3) hf
 obtain ⟨a2,e2,w2⟩:=el_fld (i:=2) (sz:=1) (by kernel_rfl) (el_int Tryz.underlying3) hf
 obtain ⟨a3,e3,w3⟩:=el_fld (i:=3) (sz:=1) (by kernel_rfl) (el_string Tryz.underlying9) hf
 obtain ⟨a4,e4,w4⟩:=el_fld (i:=4) (sz:=1) (by kernel_rfl) (el_string Tryz.underlying9) hf
 obtain ⟨a5,e5,w5⟩:=el_fld (i:=5) (sz:=1) (by kernel_rfl) (el_string Tryz.underlying9) hf
 obtain ⟨a6,e6,w6⟩:=el_fld (i:=6) (sz:=1) (by kernel_rfl) (el_int Tryz.underlying3) hf
 match cs,h1 with
 | [c0,c1,c2,c3,c4,c5,c6],_ =>
  simp only [List.drop_succ_cons,List.drop_zero,List.take_succ_cons,List.take_zero,List.cons.injEq,and_true] at h0 e1 e2 e3 e4 e5 e6
  exact ⟨⟨a0,a1,a2,a3,a4,a5,a6⟩,by rw [h0,e1,e2,e3,e4,e5,e6];rfl,w0,w1,w2,w3,w4,w5,w6⟩
theorem el_rcb {H:Type}{enc:TypeId×Value→H}{W:World}{fuel:Nat}{cs:List Value}{x:DataW H×List MemPlace}(hf:DataW.trod enc Tryz.prog W 0 (fun _=>true) true fuel 42 cs=some x):∃ y:Rc,RcV (ghost W) y (.agg cs.toArray)∧y.cmd.ok∧y.small:=by
 have h1:=el_flen (n:=12) Tryz.underlying42 (by kernel_rfl) hf
 have top:∀ {n:Int},(Lit.int .i64 n).wf=true→n≤9223372036854775807:=fun {n} h=>by
  simp [Lit.wf,IntKind.min,IntKind.max,IntKind.signed,IntKind.bits] at h
  omega
 obtain ⟨k,hk,wk⟩:=el_fld (i:=0) (sz:=1) (by kernel_rfl) (el_int Tryz.underlying3) hf
 have hb:Elem enc Tryz.prog W 23 (fun (p:Int×Int) cs=>cs=[.int .i64 p.1,.int .i64 p.2]∧(Lit.int .i64 p.1).wf=true∧(Lit.int .i64 p.2).wf=true):=by
  intro fuel cs x hf
  have h1:=el_flen (n:=2) Tryz.underlying23 (by kernel_rfl) hf
  obtain ⟨a,ha,wa⟩:=el_fld (i:=0) (sz:=1) (by kernel_rfl) (el_int Tryz.underlying3) hf
  obtain ⟨b,hb,wb⟩:=el_fld (i:=1) (sz:=1) (by kernel_rfl) (el_int Tryz.underlying3) hf
  match cs,h1 with
  | [c0,c1],_ =>
   simp only [List.drop_succ_cons,List.drop_zero,List.take_succ_cons,List.take_zero,List.cons.injEq,and_true] at ha hb
   exact ⟨(a,b),by rw [ha,hb],wa,wb⟩
 obtain ⟨⟨r,n⟩,hr,wr,wn⟩:=el_fld (i:=1) (sz:=2) (by kernel_rfl) hb hf
 obtain ⟨i,hi,wi⟩:=el_fld (i:=2) (sz:=1) (by kernel_rfl) (el_int Tryz.underlying3) hf
 obtain ⟨c,hc,ho⟩:=el_fld (i:=3) (sz:=7) (by kernel_rfl) el_cm hf
 obtain ⟨im,v,hv,hl⟩:=el_fld (i:=4) (sz:=1) (by kernel_rfl) (el_slice (sz:=1) Tryz.underlying24 (by kernel_rfl) (el_int Tryz.underlying5)) hf
 match cs,h1 with
 | [c0,c1,c2,c3,c4,c5,c6,c7,c8,c9,c10,c11],_ =>
  simp only [Cm.cells,List.drop_succ_cons,List.drop_zero,List.take_succ_cons,List.take_zero,List.cons.injEq,and_true] at hk hr hi hc hv
  obtain ⟨rfl,rfl⟩:=hr
  obtain ⟨rfl,rfl,rfl,rfl,rfl,rfl,rfl⟩:=hc
  subst hk;subst hi;subst hv
  exact ⟨⟨k,r,n,i,c,im⟩,⟨_,rfl,hl⟩,ho,top wk,top wr,top wn,top wi⟩
theorem firstEq:(Rows.laid_unicode_utf8_first:DataW Unit)=Lib.firstData:=by kernel_rfl
theorem acceptEq:(Rows.laid_unicode_utf8_acceptRanges:DataW Unit)=Lib.acceptData:=by kernel_rfl
theorem vb_wf2 {n:Int}(h:n≤9223372036854775807):∀ x∈vbytes n,(Lit.int .u8 x).wf=true:=vbytes_wf h
theorem encL_ok {x:Rc}(h0:olderI x=0) (hc:x.cmd.ok) (hi:∀ y∈x.image,(Lit.int .u8 y).wf=true):(encL x).length≤50000∧∀ y∈encL x,(Lit.int .u8 y).wf=true:=by
 obtain ⟨hf,hsm,him,hsz⟩:=fits0 (older0 h0).1
 unfold Rc.small at hsm
 have hh:=headL_len x
 have hwh:∀ y∈headL x,(Lit.int .u8 y).wf=true:=by
  unfold headL
  rw [List.nil_append]
  exact memwf (memwf (memwf (vb_wf2 hsm.1) (vb_wf2 hsm.2.1)) (vb_wf2 hsm.2.2.1)) (vb_wf2 hsm.2.2.2)
 have hk:x.cmd.kind≤9223372036854775807:=by
  have:=hc.1
  simp [Lit.wf,IntKind.min,IntKind.max,IntKind.signed,IntKind.bits] at this
  omega
 have h4:=(vbytes_len x.cmd.kind).1
 have h5:=putL_len x.cmd (by omega) (by omega) (by omega) 6
 have h6:=(vbytes_len (x.image.length:Nat)).1
 unfold encL
 split
 ·exact ⟨by rw [List.length_append,List.length_append];omega,memwf (memwf hwh (vb_wf2 hk)) (putW_wf hc (by omega) (by omega) (by omega) 6)⟩
 ·split
  ·exact ⟨by rw [List.length_append,List.length_append];omega,memwf (memwf hwh (vb_wf2 (by omega))) hi⟩
  ·exact ⟨by omega,hwh⟩
theorem encT_ok {x:Rc}(h0:chkI x=0) (hc:x.cmd.ok) (hi:∀ y∈x.image,(Lit.int .u8 y).wf=true):(encT x).length≤50000∧∀ y∈encT x,(Lit.int .u8 y).wf=true:=by
 obtain ⟨hf,hsm,him,hsz⟩:=fits0 (show recI x.kind x.round x.node x.index x.cmd x.image.length=0 from h0)
 have hkk:=(rec0 (show recI x.kind x.round x.node x.index x.cmd x.image.length=0 from h0)).1
 have ht:=tailT_len hf
 have h1:=(vbytes_len (x.kind+16)).1
 unfold Rc.small at hsm
 have hk:x.cmd.kind≤9223372036854775807:=by
  have:=hc.1
  simp [Lit.wf,IntKind.min,IntKind.max,IntKind.signed,IntKind.bits] at this
  omega
 have hn:∀ y∈([]:List Int),(Lit.int .u8 y).wf=true:=fun y hy=>by cases hy
 refine ⟨by unfold encT;rw [List.length_append];omega,?_⟩
 unfold encT tailT
 refine memwf (vb_wf2 (by omega)) (memwf (memwf (memwf ?_ ?_) ?_) ?_)
 ·split
  ·exact memwf (vb_wf2 hsm.2.1) (vb_wf2 hsm.2.2.1)
  ·exact hn
 ·split
  ·exact hn
  ·exact vb_wf2 hsm.2.2.2
 ·split
  ·exact memwf (vb_wf2 hk) (putW_wf hc (by omega) (by omega) (by omega) 6)
  ·exact hn
 ·split
  ·exact memwf (vb_wf2 (by omega)) hi
  ·exact hn
theorem first_s {G:GH}(hC:CrcG G) (f n:Int) (hf:f≤9223372036854775807) (hn:n≤9223372036854775807):Con Tryz.prog 50 #[.int .i64 f,.int .i64 n] G [] (fun r G' μ'=>Grow 5 1 r (frB (vbytes f++vbytes n)).length ((frB (vbytes f++vbytes n)).map (.int .u8 ·)) μ'):=by
 have h1:=vbytes_len f
 have h2:=vbytes_len n
 (refine v_enter Tryz.func50 rfl Tryz.ntmps50 rfl ?_;intro B _)
 repeat' (first|apply v_seq|apply v_region|apply v_nil|apply v_pure;(case hop=>first|apply p_move<;>rfl|apply p_assign<;>rfl|apply p_build;(case hz=>rfl);(case hv=>(simp only [List.map_cons,List.map_nil];repeat (with_reducible exact evs_nil)));(case hb=>(apply bldL;repeat (exact bld_nil))));(case hd=>rfl)|apply v_box;(case hx|hz|hd=>rfl);intro b|fail)
 refine v_call (μ1:=[(b,_)]) rfl (wnumber_s b f (l:=[]) (sv:=.slice none 0 0) Sl.nil (by simp) hf) (List.Perm.refl _) rfl ?_
 rintro _ G1 _ hle1 ⟨v1,rfl,s1⟩
 repeat' (first|apply v_seq|apply v_region|apply v_nil|apply v_pure;(case hop=>(apply p_move<;>rfl));(case hd=>rfl)|fail)
 refine v_call (μ1:=[(b,_)]) rfl (wnumber_s b n s1 (by simp;omega) hn) (List.Perm.refl _) rfl ?_
 rintro _ G2 _ hle2 ⟨v2,rfl,s2⟩
 repeat' (first|apply v_seq|apply v_region|apply v_nil|apply v_pure;(case hop=>(apply p_move<;>rfl));(case hd=>rfl)|fail)
 refine v_call (μ1:=[(b,_)]) rfl (wbytes_s b s2 (by simp;omega)) (List.Perm.refl _) rfl ?_
 rintro r3 G3 _ hle3 ⟨rfl,s3⟩
 have hl:(([]:List Int)++vbytes f++vbytes n).length≤22:=by simp;omega
 have hl1:1≤(([]:List Int)++vbytes f++vbytes n).length:=by simp;omega
 obtain ⟨A3,c3,rfl,-⟩:=s3.openInt
 have h0:addNo (([]:List Int)++vbytes f++vbytes n).length=0:=addNo0.2 (by omega)
 repeat' (fail)
 refine v_call (μ1:=[]) rfl (faddO_s (hC.le (GH.le_trans hle1 (GH.le_trans hle2 hle3))) s3 (by omega) h0) (List.Perm.refl _) rfl ?_
 rintro _ G4 ν4 hle4 ⟨v4,rfl,g4⟩
 rw [List.nil_append] at g4
 obtain ⟨A4,c4,rfl,-,-⟩:=g4.shape
 repeat' (first|apply v_seq|apply v_region|apply v_nil|apply v_pure;(case hop=>first|apply p_move<;>rfl|apply p_assign<;>rfl|apply p_extract0<;>rfl|apply p_extract1<;>rfl|fail);(case hd=>rfl)|fail)
 refine v_drop (ν:=ν4) (List.sublist_append_left _ _) ?_
 refine v_ret ν4 (outsA1 rfl rfl) (List.Sublist.refl _) g4
def encF (f:Int) (x:Rc):List Int:=if f=1 then encL x else encT x
noncomputable def errF (f:Int) (x:Rc):Int:=if f=1∨f=2 then hasI f x else 8
theorem errF1 (x:Rc):errF 1 x=olderI x:=by unfold errF;rw [if_pos (.inl rfl)];exact hasI_one x
theorem errF2 (x:Rc):errF 2 x=chkI x:=by unfold errF;rw [if_pos (.inr rfl)];exact hasI_two x
theorem errFN {f:Int}(h:¬ (f=1∨f=2)) (x:Rc):errF f x=8:=by unfold errF;rw [if_neg h]
theorem encF_one {f:Int}{x:Rc}:1≤(encF f x).length:=by
 unfold encF
 split
 ·have h1:=(vbytes_len x.kind).2
  have h2:1≤(headL x).length:=by
   unfold headL
   simp only [List.length_append]
   omega
  unfold encL
  split
  ·simp only [List.length_append];omega
  ·split
   ·simp only [List.length_append];omega
   ·exact h2
 ·have:=(vbytes_len (x.kind+16)).2
  unfold encT
  simp
  omega
theorem encF_ok {f:Int}{x:Rc}(h0:errF f x=0) (hc:x.cmd.ok) (hi:wfL x.image):(encF f x).length≤50000∧wfL (encF f x):=by
 by_cases h1:f=1
 ·subst h1
  rw [errF1] at h0
  unfold encF
  rw [if_pos rfl]
  exact encL_ok h0 hc hi
 ·by_cases h2:f=2
  ·subst h2
   rw [errF2] at h0
   unfold encF
   rw [if_neg (by decide)]
   exact encT_ok h0 hc hi
  ·rw [errFN (by omega)] at h0
   cases h0
theorem putF_s {G:GH}(hT:TabsG G) (f:Int) {x:Rc}{xv:Value}(hx:RcV G x xv) (hc:x.cmd.ok) (hl:¬ x.large) (hw:x.small):Con Tryz.prog 59 #[.int .i64 f,xv] G [] (fun r G' μ'=>μ'=[]∧∃ v,r=.tuple [v,.int .i64 (errF f x)].toArray∧Sl G' 1 (IntR .u8) v (if errF f x=0 then encF f x else [])):=by
 by_cases h1:f=1
 ·subst h1
  rw [errF1]
  exact put1_s hT hx hc hl hw
 ·by_cases h2:f=2
  ·subst h2
   rw [errF2]
   exact put2_s hT hx hc
  ·rw [errFN (by omega)]
   refine (putN_s (by omega) hx).mono ?_
   rintro r G' μ' ⟨rfl,rfl,rfl⟩
   exact ⟨rfl,_,rfl,by rw [if_neg (by decide)];exact Sl.nil⟩
def AddS (f:Int) (x:Rc) (r:Value) (G':GH) (μ':OH):Prop:=μ'=[]∧∃ v,r=.tuple [v,.int .i64 (errF f x)].toArray∧Sl G' 1 (IntR .u8) v (if errF f x=0 then frB (encF f x) else [])
theorem sadd_s {G:GH}(hT:TabsG G) (hC:CrcG G) (f:Int) {x:Rc}{xv:Value}(hx:RcV G x xv) (hc:x.cmd.ok) (hl:¬ x.large) (hw:x.small):Con Tryz.prog 19 #[.int .i64 f,xv] G [] (AddS f x):=by
 have q1:=putF_s hT f hx hc hl hw
 have hx0:=id hx
 obtain ⟨iv,rfl,hi⟩:=hx
 obtain ⟨A,c,rfl,-,-,-,-,hwf⟩:=id hi.openInt
 have hok:=fun h=>encF_ok (f:=f) (x:=x) h hc hwf
 have h1:=encF_one (f:=f) (x:=x)
 unfold AddS
 generalize errF f x=e at *
 generalize encF f x=el at *
 (refine v_enter Tryz.func19 rfl Tryz.ntmps19 rfl ?_;intro B _)
 repeat' (first|apply v_seq|apply v_region|apply v_nil|apply v_pure;(case hop=>first|apply p_move<;>rfl|apply p_assign<;>rfl|fail);(case hd=>rfl)|apply v_read;(case hop=>(apply r_loadNo;(case hx=>rfl);(case h=>repeat exact mhd _);(case hd=>repeat first|with_reducible exact dt_nil|apply dt_here);(case hn=>rfl)));(case hd=>rfl)|apply v_box;(case hx|hz|hd=>rfl);intro b|fail)
 refine v_call (μ1:=[]) rfl q1 (List.Perm.refl _) rfl ?_
 rintro _ G1 _ hle1 ⟨rfl,v1,rfl,s1⟩
 by_cases he:e=0
 ·subst he
  rw [if_pos rfl] at s1
  obtain ⟨ho1,ho2⟩:=hok rfl
  have h0:addNo el.length=0:=addNo0.2 (by omega)
  obtain ⟨A1,c1,rfl,-⟩:=s1.openInt
  repeat' (first|apply v_seq|apply v_region|apply v_nil|apply v_skip|apply v_pure;(case hop=>first|apply p_move<;>rfl|apply p_nes<;>rfl|apply p_assign<;>rfl|apply p_extract0<;>rfl|apply p_extract1<;>rfl|fail);(case hd=>rfl)|apply v_condF;(case hc=>rfl)|fail)
  refine v_call (μ1:=[]) rfl (fadd_s (hC.le hle1) s1 (by omega)) (List.Perm.refl _) rfl ?_
  rintro _ G2 _ hle2 ⟨rfl,v2,rfl,s2⟩
  rw [if_pos h0] at s2
  rw [h0]
  obtain ⟨A2,c2,rfl,-⟩:=s2.openInt
  repeat' (first|apply v_nil|apply v_pure;(case hop=>first|apply p_assign<;>rfl|apply p_extract0<;>rfl|apply p_extract1<;>rfl|fail);(case hd=>rfl)|fail)
  refine v_ret [] (outsA2 rfl rfl rfl) (by repeat (exact List.nil_sublist _)) ?_
  exact ⟨rfl,_,rfl,by rw [if_pos rfl];exact s2⟩
 ·rw [if_neg he] at s1
  obtain ⟨A1,c1,rfl,-⟩:=s1.openInt
  repeat' (first|apply v_seq|apply v_region|apply v_nil|apply v_pure;(case hop=>first|apply p_move<;>rfl|apply p_ne<;>rfl|apply p_assign<;>rfl|apply p_extract0<;>rfl|apply p_extract1<;>rfl|fail);(case hd=>rfl)|apply v_cond;(case hc=>rfl);all_goals (intro h;(try simp only [reduceCtorEq,zzz] at h);try (exfalso;omega))|fail)
  refine v_ret [] (outsA2 rfl rfl rfl) (by repeat (exact List.nil_sublist _)) ?_
  exact ⟨rfl,_,rfl,by rw [if_neg he];exact Sl.nil⟩
structure Ent where
 index:Int
 round:Int
 node:Int
 cmd:Cm
noncomputable instance:DecidableEq Ent:=fun a b=>Classical.propDecidable (a=b)
def Ent.cells (x:Ent):List Value:=[.int .i64 x.index,.int .i64 x.round,.int .i64 x.node,.int .i64 x.cmd.kind,.int .i64 x.cmd.client,.int .i64 x.cmd.seq,.string x.cmd.key,.string x.cmd.val,.string x.cmd.old,.int .i64 x.cmd.node]
def Ent.ok (x:Ent):Prop:=(Lit.int .i64 x.index).wf=true∧(Lit.int .i64 x.round).wf=true∧(Lit.int .i64 x.node).wf=true∧x.cmd.ok
def EntR (x:Ent) (cs:List Value):Prop:=cs=x.cells∧x.ok
abbrev Es (G:GH) (v:Value) (l:List Ent):Prop:=Sl G 10 EntR v l
theorem adr_add (X:Addr) (a b:Nat):(X.add a).add b=X.add (a+b):=by
 by_cases ha:a=0<;>by_cases hb:b=0<;>simp [Addr.add,ha,hb,Nat.add_assoc]
theorem cellsG_drop {G:GH}{X:Addr}{cs:List Value}(n:Nat) (h:CellsG G X cs):CellsG G (X.add n) (cs.drop n):=by
 intro j u hu
 rw [adr_add]
 exact h _ _ (by simpa using hu)
theorem cellsG_take {G:GH}{X:Addr}{cs:List Value}(n:Nat) (h:CellsG G X cs):CellsG G X (cs.take n):=by
 intro j u hu
 exact h _ _ (by rw [List.getElem?_take] at hu;split at hu;exact hu;cases hu)
theorem esOpen {G:GH}{v:Value}{l:List Ent}(h:Es G v l):∃ A c,v=.slice A l.length c∧l.length≤c∧c≤maxLen∧(0<l.length→A.isSome=true) ∧
 (∀ i (h:i<l.length),CellsG G ((adr A).add (i*10)) l[i].cells)∧(∀ i (h:i<l.length),CellsG G (((adr A).add (i*10)).add 1) [.int .i64 l[i].round,.int .i64 l[i].node]) ∧
 (∀ i (h:i<l.length),CellsG G (((adr A).add (i*10)).add 3) l[i].cmd.cells)∧(∀ i (h:i<l.length),l[i].ok):=by
 obtain ⟨A,c,rfl,h1,h2,h3,h4⟩:=h.open
 have key:∀ i (h:i<l.length),CellsG G ((adr A).add (i*10)) l[i].cells∧l[i].ok:=fun i hi=>by
  obtain ⟨cs,_,⟨rfl,h6⟩,h5⟩:=h4 i _ (List.getElem?_eq_getElem hi)
  exact ⟨h5,h6⟩
 refine ⟨A,c,rfl,h1,h2,h3,fun i hi=>(key i hi).1,fun i hi=>?_,fun i hi=>?_,fun i hi=>(key i hi).2⟩
 ·exact cellsG_take 2 (cellsG_drop 1 (key i hi).1)
 ·exact cellsG_drop 3 (key i hi).1
noncomputable def oneI (x:Ent):Int:=if x.index<1∨4294967296<x.index∨¬ mayP x.round x.node then 6 else cmdI x.cmd
theorem one_s {G:GH}(hT:TabsG G) (x:Ent) (hx:x.ok):Con Tryz.prog 125 #[.agg x.cells.toArray] G [] (Just (.int .i64 (oneI x)) G):=by
 have qm:=may_s G x.round x.node
 have qc:=Con.just (cmdCheck_s hT x.cmd hx.2.2.2)
 apply Con.just
 (refine v_enter Tryz.func125 rfl Tryz.ntmps125 rfl ?_;intro B _)
 repeat' (first|apply v_seq|apply v_region|apply v_nil|apply v_skip|apply v_take;(case hg=>rfl)|apply v_pass;(case hg|hn|hd=>rfl)|apply v_pure;(case hop=>first|apply p_move<;>rfl|apply p_lt<;>rfl|apply p_gt<;>rfl|apply p_assign<;>rfl|apply p_pickT<;>rfl|apply p_pickF<;>rfl|apply p_not<;>rfl|apply p_fieldAddrB<;>rfl|fail);(case hd=>rfl)|apply v_condT;(case hc=>rfl)|apply v_cond;(case hc=>rfl);all_goals (intro h;(try simp only [reduceCtorEq,zzz] at h))|apply v_guardB;(case h1|h2=>rfl);all_goals (intro h;(try simp only [reduceCtorEq,zzz] at h))|apply v_box (zs:=x.cells);(case hx|hz|hd=>rfl);intro b|apply v_callJ (hs:=qm);(case ha|hd=>rfl)|apply v_callJ (hs:=qc);(case ha|hd=>rfl)|apply v_read;(case hop=>first|apply r_loadNo;(case hx=>rfl);(case h=>repeat exact mhd _);(case hd=>repeat first|with_reducible exact dt_nil|apply dt_here);(case hn=>rfl)|apply r_load1;rfl;(apply Cell.own;(case h=>repeat exact mhd _);rfl)|fail);(case hd=>rfl)|fail)
 all_goals
  (refine v_ret [] (outsA1 rfl rfl) (by repeat (exact List.nil_sublist _)) ?_
   refine ⟨?_,rfl⟩
   (simp [oneI, *];done))
theorem esCell {G:GH}{A:Option Addr}{l:List Ent}(hcp:∀ i (h:i<l.length),CellsG G ((adr A).add (i*10)) l[i].cells) (i:Nat) (h:i<l.length):GH.cell? G (((adr A).add (i*10)).add 0)=some (.int .i64 l[i].index):=(hcp i h).cell (j:=0) rfl
noncomputable def chkK (l:List Ent) (k:Nat):Int :=
 if h:k<l.length then if oneI l[k]≠0 then oneI l[k] else if h0:0<k then if l[k].index≤(l[k-1]'(by omega)).index then 12 else chkK l (k+1) else chkK l (k+1) else 0
termination_by l.length-k
theorem entCheck_s {G:GH}(hT:TabsG G) {l:List Ent}{sv:Value}(hs:Es G sv l):Con Tryz.prog 81 #[sv] G [] (Just (.int .i64 (chkK l 0)) G):=by
 obtain ⟨A,c,rfl,hlc,hcm,hsome,hcp,hcb,hcc,hok⟩:=esOpen hs
 simp only [maxLen] at hcm
 apply Con.just
 (refine v_enter Tryz.func81 rfl Tryz.ntmps81 rfl ?_;intro B _)
 repeat' (first|apply v_seq|apply v_region|apply v_nil|apply v_block|apply v_pure;(case hop=>first|apply p_move<;>rfl|apply p_assign<;>rfl|apply p_lenSlice<;>rfl|fail);(case hd=>rfl)|fail)
 refine v_loop [8,7,6,0] (fun us G' μ'=>G'=G∧μ'=[]∧∃ k,k≤l.length∧us=[Value.int .i64 (k:Nat),.int .i64 l.length,.slice A l.length c,.slice A l.length c]∧chkK l 0=chkK l k) (fun us=>l.length-(headI us).toNat) rfl ⟨rfl,rfl,0,by omega,rfl,rfl⟩ ?_
 rintro us G' μ' ⟨rfl,rfl,k,hk,rfl,hno⟩
 have e1:((k:Nat):Int).toNat=k:=by omega
 have e2:(((k:Nat):Int)-1).toNat=k-1:=by omega
 have q1:=fun (h:k<l.length)=>one_s hT l[k] (hok k h)
 repeat' (first|apply v_seq|apply v_region|apply v_nil|apply v_skip|apply v_block|apply v_exit;(case hp=>rfl)|apply v_pure;(case hop=>first|apply p_move<;>rfl|apply p_lt<;>rfl|apply p_ne<;>rfl|apply p_assign<;>rfl|apply p_indexAddrS;(case hx|hi=>rfl);(case h0|h=>omega);(case hA=>(apply_assumption;omega))|fail);(case hd=>rfl)|apply v_cond;(case hc=>rfl);all_goals (intro h;(try simp only [reduceCtorEq,zzz] at h))|apply v_read;(case hop=>(apply r_loadN;rfl;exact CellsAt.frozen (hcp _ (by omega));rfl));(case hd=>rfl)|apply v_callJ (hs:=q1 (by omega));(case ha|hd=>rfl)|apply v_read;(case hop=>(apply r_loadNo;(case hx=>rfl);(case h=>repeat exact mhd _);(case hd=>repeat first|with_reducible exact dt_nil|apply dt_here);(case hn=>rfl)));(case hd=>rfl)|apply v_alloc;(case hz|hd=>rfl);intro b|apply v_store;(case hp|hx|hc|hsz|h1=>rfl);(case hb=>repeat exact mhd _);(case hfit=>exact nle rfl);(case hov=>((repeat (first|with_reducible exact ov_nil|apply ov_cons));done));(case hu=>repeat (exact Upd.here _ _))|fail)
 ·refine v_ret [] (outsA1 rfl rfl) (by repeat (exact List.nil_sublist _)) ?_
  refine ⟨?_,rfl⟩
  rw [hno,chkK,dif_pos (by omega),if_pos (by assumption)]
 ·have hlt:k<l.length:=by omega
  refine d_start _ (by kernel_rfl) (by kernel_rfl) (by kernel_rfl) (fun _ he=>he) ?_
  all_goals (apply dtm 0;(case hi|hx=>rfl);(case hq=>kernel_rfl);apply dtk 1;(case hi=>rfl);(case hop=>(apply prd;apply p_gt<;>rfl));(case hq=>kernel_rfl))
  all_goals (apply dtm 2;(case hi|hx=>rfl);(case hq=>kernel_rfl))
  all_goals (try (apply d_guardB 3;(case hi|hgd|h1|h2=>rfl);all_goals (intro h;(try simp only [reduceCtorEq,zzz] at h))))
  all_goals (first|apply dpa 3;(case hi|hg|hn=>rfl);(case hq=>kernel_rfl)|apply dtg 3;(case hi|hg=>rfl);(case hop=>(apply prd;apply p_fieldAddrB<;>rfl));(case hq=>kernel_rfl)|fail)
  all_goals (try (apply d_guardB 4;(case hi|hgd|h1|h2=>rfl);all_goals (intro h;(try simp only [reduceCtorEq,zzz] at h))))
  all_goals (first|apply dpa 4;(case hi|hg|hn=>rfl);(case hq=>kernel_rfl)|apply dtg 4;(case hi|hg=>rfl);(case hop=>(apply r_load1;rfl;(apply Cell.own;(case h=>repeat exact mhd _);rfl)));(case hq=>kernel_rfl)|fail)
  all_goals (try (apply d_guardB 5;(case hi|hgd|h1|h2=>rfl);all_goals (intro h;(try simp only [reduceCtorEq,zzz] at h))))
  all_goals (first|apply dpa 5;(case hi|hg|hn=>rfl);(case hq=>kernel_rfl)|apply dtg 5;(case hi|hg=>rfl);(case hop=>(apply prd;apply p_move<;>rfl));(case hq=>kernel_rfl)|fail)
  all_goals (try (apply d_guardB 6;(case hi|hgd|h1|h2=>rfl);all_goals (intro h;(try simp only [reduceCtorEq,zzz] at h))))
  all_goals (first|apply dpa 6;(case hi|hg|hn=>rfl);(case hq=>kernel_rfl)|apply dtg 6;(case hi|hg=>rfl);(case hop=>(apply prd;apply p_move<;>rfl));(case hq=>kernel_rfl)|fail)
  all_goals (try (apply d_guardB 7;(case hi|hgd|h1|h2=>rfl);all_goals (intro h;(try simp only [reduceCtorEq,zzz] at h))))
  all_goals (first|apply dpa 7;(case hi|hg|hn=>rfl);(case hq=>kernel_rfl)|apply dtg 7;(case hi|hg=>rfl);(case hop=>(apply prd;apply p_sub;(case hx|hy=>rfl);(case h=>omega)));(case hq=>kernel_rfl)|fail)
  all_goals (try (apply d_guardB 8;(case hi|hgd|h1|h2=>rfl);all_goals (intro h;(try simp only [reduceCtorEq,zzz] at h))))
  all_goals (first|apply dpa 8;(case hi|hg|hn=>rfl);(case hq=>kernel_rfl)|apply dtg 8;(case hi|hg=>rfl);(case hop=>(apply prd;apply p_indexAddrS;(case hx|hi=>rfl);(case h0|h=>omega);(case hA=>(apply_assumption;omega))));(case hq=>kernel_rfl)|fail)
  all_goals (try (apply d_guardB 9;(case hi|hgd|h1|h2=>rfl);all_goals (intro h;(try simp only [reduceCtorEq,zzz] at h))))
  all_goals (first|apply dpa 9;(case hi|hg|hn=>rfl);(case hq=>kernel_rfl)|apply dtg 9;(case hi|hg=>rfl);(case hop=>(apply prd;apply p_fieldAddr<;>rfl));(case hq=>kernel_rfl)|fail)
  all_goals (try (apply d_guardB 10;(case hi|hgd|h1|h2=>rfl);all_goals (intro h;(try simp only [reduceCtorEq,zzz] at h))))
  all_goals (first|apply dpa 10;(case hi|hg|hn=>rfl);(case hq=>kernel_rfl)|apply dtg 10;(case hi|hg=>rfl);(case hop=>((apply r_load1;rfl;exact Cell.frozen (esCell hcp _ (by omega)))));(case hq=>kernel_rfl)|fail)
  all_goals (try (apply d_guardB 11;(case hi|hgd|h1|h2=>rfl);all_goals (intro h;(try simp only [reduceCtorEq,zzz] at h))))
  all_goals (first|apply dpa 11;(case hi|hg|hn=>rfl);(case hq=>kernel_rfl)|apply dtg 11;(case hi|hg=>rfl);(case hop=>(apply prd;apply p_le<;>rfl));(case hq=>kernel_rfl)|fail)
  all_goals (apply dtk 12;(case hi=>rfl);(case hop=>first|apply prd;apply p_pickT<;>rfl|apply prd;apply p_pickF<;>rfl|fail);(case hq=>kernel_rfl))
  all_goals (apply d_done;(case hr=>kernel_rfl))
  repeat' (first|apply v_seq|apply v_region|apply v_nil|apply v_skip|apply v_blk|apply v_pure;(case hop=>first|apply p_move<;>rfl|apply p_assign<;>rfl|apply p_add;(case hx|hy=>rfl);(case h=>omega)|fail);(case hd=>rfl)|apply v_condF;(case hc=>rfl)|apply v_cond;(case hc=>rfl);all_goals (intro h;(try simp only [reduceCtorEq,zzz] at h))|fail)
  all_goals try
   (refine v_ret [] (outsA1 rfl rfl) (by repeat (first|exact List.Sublist.refl _|exact List.nil_sublist _|fail)) ?_
    refine ⟨?_,rfl⟩
    rw [hno,chkK,dif_pos hlt,if_neg (by simpa using ‹oneI l[k]=0›),dif_pos (by omega),if_pos (by simp only [e1,e2] at *;omega)])
  all_goals
   (refine v_drop (ν:=[]) (by repeat (exact List.nil_sublist _)) ?_
    refine v_again rfl ⟨rfl,rfl,k+1,by omega,rfl,?_⟩ (by simp [headI];omega)
    rw [hno,chkK,dif_pos hlt,if_neg (by simpa using ‹oneI l[k]=0›)]
    by_cases h0:0<k
    ·rw [dif_pos h0,if_neg (by simp only [e1,e2] at *;omega)]
    ·rw [dif_neg h0])
 ·refine v_ret [] (outsA1 rfl rfl) (by repeat (exact List.Sublist.refl _)) ?_
  refine ⟨?_,rfl⟩
  rw [hno,chkK,dif_neg (by omega)]
theorem p_convUW {σ:Env}{ty:TypeId}{x:Operand}{k'':IntKind}{a:Int}{t u:TypeId} [Ty Tryz.prog t (.int k'')] [Ty Tryz.prog u (.int .u64)] (hx:Env.ev σ x=some (.int .i64 (IntKind.i64.wrap a))) (h:0≤a∧a≤18446744073709551615):PureOp Tryz.prog (.convert t u x) ty σ (.int .u64 a):=by
 have e:IntKind.u64.wrap (IntKind.i64.wrap a)=a:=by rw [IntKind.wrap_u64,IntKind.wrap_i64];omega
 have:=p_conv (P:=Tryz.prog) (ty:=ty) (t:=t) (u:=u) hx
 rwa [e] at this
attribute [local semireducible] PureOp in
theorem p_shr1 {σ:Env}{ty:TypeId}{x y:Operand}{k':IntKind}{a:Int}{t t':TypeId}(hx:Env.ev σ x=some (.int .u64 a)) (hy:Env.ev σ y=some (.int k' 1)):PureOp Tryz.prog (.binOp .shr t x y t') ty σ (.int .u64 (a / 2)):=by
 intro dst pos af g ρ hρ w
 have:=shift_shr .u64 k' a 1 (by decide) (by decide)
 simp [execOp,hρ _ _ hx,hρ _ _ hy,eqGuard,binOp_shr,this]
theorem isNaN_s (G:GH) (a:Int):Con Tryz.prog 166 #[.int .i64 a] G [] (Just (.bool false) G):=by
 apply Con.just
 (refine v_enter Tryz.func166 rfl Tryz.ntmps166 rfl ?_;intro B _)
 repeat' (first|apply v_seq|apply v_region|apply v_nil|apply v_pure;(case hop=>first|apply p_move<;>rfl|apply p_nes<;>rfl|apply p_assign<;>rfl|fail);(case hd=>rfl)|fail)
 refine v_ret [] (outsA1 rfl rfl) (by repeat (exact List.Sublist.refl _)) ?_
 refine ⟨?_,rfl⟩
 simp [dec_eq]
def cmpI (a b:Int):Int:=if a<b then -1 else if b<a then 1 else 0
theorem cmp_s (G:GH) (a b:Int):Con Tryz.prog 127 #[.int .i64 a,.int .i64 b] G [] (Just (.int .i64 (cmpI a b)) G):=by
 have qa:=isNaN_s G a
 have qb:=isNaN_s G b
 apply Con.just
 (refine v_enter Tryz.func127 rfl Tryz.ntmps127 rfl ?_;intro B _)
 repeat' (first|apply v_seq|apply v_region|apply v_nil|apply v_skip|apply v_pure;(case hop=>first|apply p_move<;>rfl|apply p_lt<;>rfl|apply p_gt<;>rfl|apply p_assign<;>rfl);(case hd=>rfl)|apply v_condF;(case hc=>rfl)|apply v_cond;(case hc=>rfl);all_goals (intro h;(try simp only [reduceCtorEq,zzz] at h))|apply v_callJ (hs:=qa);(case ha|hd=>rfl)|apply v_callJ (hs:=qb);(case ha|hd=>rfl)|fail)
 all_goals
  (refine v_ret [] (outsA1 rfl rfl) (by repeat (exact List.Sublist.refl _)) ?_
   refine ⟨?_,rfl⟩
   simp [cmpI, *])
theorem cmpI_lt {a b:Int}:cmpI a b<0↔a<b:=by unfold cmpI;split<;>(try split)<;>simp<;>omega
theorem cmpI_eq {a b:Int}:cmpI a b=0↔a=b:=by unfold cmpI;split<;>(try split)<;>simp<;>omega
theorem place1_s (G:GH) (x:Ent) (n:Int):Con Tryz.prog 224 #[.agg x.cells.toArray,.int .i64 n] G [] (Just (.int .i64 (cmpI x.index n)) G):=by
 have qc:=cmp_s G x.index n
 apply Con.just
 (refine v_enter Tryz.func224 rfl Tryz.ntmps224 rfl ?_;intro B _)
 repeat' (first|apply v_seq|apply v_region|apply v_nil|apply v_pure;(case hop=>first|apply p_move<;>rfl|apply p_assign<;>rfl|apply p_fieldAddrB<;>rfl|fail);(case hd=>rfl)|apply v_box (zs:=x.cells);(case hx|hz|hd=>rfl);intro b|apply v_callJ (hs:=qc);(case ha|hd=>rfl)|apply v_read;(case hop=>(apply r_load1;rfl;(apply Cell.own;(case h=>repeat exact mhd _);rfl)));(case hd=>rfl)|fail)
 refine v_ret [] (outsA1 rfl rfl) (by repeat (exact List.nil_sublist _)) ?_
 exact ⟨rfl,rfl⟩
def RiseL (l:List Ent):Prop := ∀ i j (hj:j<l.length) (h:i<j),(l[i]'(by omega)).index<l[j].index
def placeN (l:List Ent) (n:Int):Nat:=l.countP fun x=>decide (x.index<n)
theorem placeN_eq {l:List Ent}{n:Int}{i:Nat}(hi:i≤l.length) (h1:∀ m (h:m<l.length),m<i→l[m].index<n) (h2:∀ m (h:m<l.length),i≤m→¬ l[m].index<n):placeN l n=i:=by
 have e:l=l.take i++l.drop i:=(List.take_append_drop i l).symm
 rw [placeN,e,List.countP_append,List.countP_eq_length.2,List.countP_eq_zero.2,List.length_take,Nat.add_zero]
 ·omega
 ·intro x hx
  obtain ⟨m,hm,rfl⟩:=List.getElem_of_mem hx
  rw [List.length_drop] at hm
  rw [List.getElem_drop]
  simpa using h2 (i+m) (by omega) (by omega)
 ·intro x hx
  obtain ⟨m,hm,rfl⟩:=List.getElem_of_mem hx
  rw [List.length_take] at hm
  rw [List.getElem_take]
  simpa using h1 m (by omega) (by omega)
noncomputable def hitB (l:List Ent) (n:Int):Bool:=if h:placeN l n<l.length then decide ((l[placeN l n]).index=n) else false
theorem entSearch_s {G:GH}{l:List Ent}{sv:Value}(n:Int) (hs:Es G sv l) (hr:RiseL l):Con Tryz.prog 223 #[sv,.int .i64 n,.func (.func 224) #[] #[]] G [] (Just (.tuple [.int .i64 (placeN l n:Nat),.bool (hitB l n)].toArray) G):=by
 obtain ⟨A,c,rfl,hlc,hcm,hsome,hcp,hcb,hcc,hok⟩:=esOpen hs
 simp only [maxLen] at hcm
 apply Con.just
 (refine v_enter Tryz.func223 rfl Tryz.ntmps223 rfl ?_;intro B _)
 repeat' (first|apply v_seq|apply v_region|apply v_nil|apply v_block|apply v_pure;(case hop=>first|apply p_move<;>rfl|apply p_assign<;>rfl|apply p_lenSlice<;>rfl|fail);(case hd=>rfl)|fail)
 refine v_loop [9,10,8,0,1,2] (fun us G' μ'=>G'=G∧μ'=[]∧∃ i j:Nat,i≤j∧j≤l.length∧us=[Value.int .i64 (i:Nat),.int .i64 (j:Nat),.int .i64 l.length,.slice A l.length c,.int .i64 n,.func (.func 224) #[] #[]]∧(∀ m (h:m<l.length),m<i→l[m].index<n)∧(∀ m (h:m<l.length),j≤m→¬ l[m].index<n)) (fun us=>match us with | .int _ i::.int _ j::_=>(j-i).toNat|_=>0) rfl ⟨rfl,rfl,0,l.length,by omega,by omega,rfl,by omega,by omega⟩ ?_
 rintro us G' μ' ⟨rfl,rfl,i,j,hij,hj,rfl,h1,h2⟩
 have qp:=fun (m:Nat) (h:m<l.length)=>place1_s G' l[m] n
 have em:((((i:Nat):Int)+((j:Nat):Int)) / 2).toNat=(i+j) / 2:=by omega
 repeat' (first|apply v_seq|apply v_region|apply v_nil|apply v_skip|apply v_block|apply v_blk|apply v_exit;(case hp=>rfl)|apply v_take;(case hg=>rfl)|apply v_pass;(case hg|hn|hd=>rfl)|apply v_pure;(case hop=>first|apply p_move<;>rfl|apply p_eq<;>rfl|apply p_lt<;>rfl|apply p_assign<;>rfl|apply p_pickT<;>rfl|apply p_pickF<;>rfl|apply p_add;(case hx|hy=>rfl);(case h=>omega)|apply p_indexAddrS;(case hx|hi=>rfl);(case h0|h=>omega);(case hA=>(apply_assumption;omega))|apply p_conv64;(case hx=>rfl);(case h=>omega)|fail);(case hd=>rfl)|apply v_cond;(case hc=>rfl);all_goals (intro h;(try simp only [reduceCtorEq,zzz] at h))|apply v_guardB;(case h1|h2=>rfl);all_goals (intro h;(try simp only [reduceCtorEq,zzz] at h))|apply v_pure;(case hop=>(apply p_convUW;(case hx=>rfl);(case h=>omega)));(case hd=>rfl)|apply v_pure;(case hop=>(apply p_addw;(case hx|hy=>rfl)));(case hd=>rfl)|apply v_pure;(case hop=>(apply p_shr1;(case hx|hy=>rfl)));(case hd=>rfl)|apply v_read;(case hop=>(apply r_loadN;rfl;exact CellsAt.frozen (hcp _ (by omega));rfl));(case hd=>rfl)|apply v_callFJ0 (hs:=qp ((((i:Nat):Int)+((j:Nat):Int)) / 2).toNat (by omega));(case hx|ha|hd=>rfl)|apply v_callFJ0 (hs:=qp i (by omega));(case hx|ha|hd=>rfl)|fail)
 ·have hc:(l[(i+j) / 2]'(by omega)).index<n:=by
   have h0:=cmpI_lt.1 ‹cmpI _ _<0›
   simpa only [em] using h0
  refine v_again rfl ⟨rfl,rfl,(i+j) / 2+1,j,by omega,hj,rfl,fun m hm hlt=>?_,h2⟩ ?_
  ·by_cases he:m=(i+j) / 2
   ·subst he;exact hc
   ·have:=hr m ((i+j) / 2) (by omega) (by omega)
    omega
  ·simp only;omega
 ·have hc:¬ (l[(i+j) / 2]'(by omega)).index<n:=by
   have h0:=mt cmpI_lt.2 ‹¬ cmpI _ _<0›
   simpa only [em] using h0
  refine v_again rfl ⟨rfl,rfl,i,(i+j) / 2,by omega,by omega,rfl,h1,fun m hm hlt=>?_⟩ ?_
  ·by_cases he:m=(i+j) / 2
   ·subst he;exact hc
   ·have:=hr ((i+j) / 2) m hm (by omega)
    omega
  ·simp only;omega
 ·have hp:placeN l n=i:=placeN_eq (by omega) h1 (fun m h hm=>h2 m h (by omega))
  refine v_ret [] (outsA2 rfl rfl rfl) (by repeat (exact List.Sublist.refl _)) ?_
  refine ⟨?_,rfl⟩
  unfold hitB
  simp only [hp]
  rw [dif_pos (by omega)]
  congr 5
  rw [Bool.eq_iff_iff,dec_true,decide_eq_true_iff,cmpI_eq]
 ·have hp:placeN l n=i:=placeN_eq (by omega) h1 (fun m h hm=>h2 m h (by omega))
  refine v_ret [] (outsA2 rfl rfl rfl) (by repeat (exact List.Sublist.refl _)) ?_
  refine ⟨?_,rfl⟩
  unfold hitB
  simp only [hp]
  rw [dif_neg (by omega)]
theorem place_s {G:GH}{l:List Ent}{sv:Value}(n:Int) (hs:Es G sv l) (hr:RiseL l):Con Tryz.prog 204 #[sv,.int .i64 n] G [] (Just (.tuple [.int .i64 (placeN l n:Nat),.bool (hitB l n)].toArray) G):=by
 have qs:=entSearch_s n hs hr
 apply Con.just
 (refine v_enter Tryz.func204 rfl Tryz.ntmps204 rfl ?_;intro B _)
 repeat' (first|apply v_seq|apply v_region|apply v_nil|apply v_pure;(case hop=>first|apply p_move<;>rfl|apply p_assign<;>rfl|apply p_extract0<;>rfl|apply p_extract1<;>rfl|fail);(case hd=>rfl)|apply v_callJ (hs:=qs);(case ha|hd=>rfl)|fail)
 refine v_ret [] (outsA2 rfl rfl rfl) (by repeat (exact List.Sublist.refl _)) ?_
 exact ⟨rfl,rfl⟩
end Go.Proofs.YtpemabgfmnhhnaaGreatDoor
/-
  entry (layer 12), the fifth part: clones of entries, and slices.Insert.
-/
namespace Go.Proofs.YtpemabgfmnhhnaaGreatDoor
open Go.Vx Go.ChangeShapes Go.WideShapes Go.ChangeAt Go.RowKit
def esC (l:List Ent):List Value:=(l.map Ent.cells).flatten
theorem cells_length (x:Ent):x.cells.length=10:=rfl
theorem esC_cons (x:Ent) (l:List Ent):esC (x::l)=x.cells++esC l:=by simp [esC]
theorem esC_append (a b:List Ent):esC (a++b)=esC a++esC b:=by simp [esC]
theorem esC_length (l:List Ent):(esC l).length=l.length*10:=by
 induction l with
 | nil=>rfl
 | cons x l ih=>rw [esC_cons,List.length_append,ih,cells_length,List.length_cons];omega
theorem esC_take (l:List Ent) (i:Nat):(esC l).take (i*10)=esC (l.take i):=by
 by_cases h:i≤l.length
 ·conv=>lhs;rw [← List.take_append_drop i l,esC_append]
  rw [List.take_append_of_le_length (by rw [esC_length,List.length_take];omega),List.take_of_length_le (by rw [esC_length,List.length_take];omega)]
 ·rw [List.take_of_length_le (by rw [esC_length];omega),List.take_of_length_le (by omega)]
theorem esC_drop (l:List Ent) (i:Nat):(esC l).drop (i*10)=esC (l.drop i):=by
 by_cases h:i≤l.length
 ·conv=>lhs;rw [← List.take_append_drop i l,esC_append]
  rw [List.drop_append,List.drop_of_length_le (by rw [esC_length,List.length_take];omega),esC_length,List.length_take,show i*10-min i l.length*10=0 by omega]
  simp
 ·rw [List.drop_of_length_le (by rw [esC_length];omega),List.drop_of_length_le (by omega)];rfl
theorem esC_get (l:List Ent) (i j:Nat) (hi:i<l.length) (hj:j<10):(esC l)[i*10+j]? = l[i].cells[j]? := by
 have h:=congrArg (·[j]?) (esC_drop l i)
 simp only [List.getElem?_drop] at h
 rw [h,List.drop_eq_getElem_cons hi,esC_cons,List.getElem?_append_left (by rw [cells_length];omega)]
theorem esC_one (l:List Ent):(esC l).all Value.oneCell'=true:=by
 induction l with
 | nil=>rfl
 | cons x l ih=>rw [esC_cons,List.all_append,ih,Bool.and_true];rfl
theorem esC_src {G:GH}{μ:OH}{A:Option Addr}{c:Nat}{l:List Ent}(hsome:0<l.length→A.isSome=true) (hcp:∀ i (h:i<l.length),CellsG G ((adr A).add (i*10)) l[i].cells):Go.Vx.Src G μ (.slice A l.length c) l.length 10 (esC l):=by
 refine ⟨esC_length l,A,c,rfl,fun h=>?_⟩
 obtain ⟨a,rfl⟩:=Option.isSome_iff_exists.1 (hsome h)
 refine ⟨a,rfl,CellsAt.frozen fun p v hv=>?_⟩
 have hp:p<l.length*10:=by rw [← esC_length];exact (List.getElem?_eq_some_iff.1 hv).1
 have e:p=p / 10*10+p % 10:=by omega
 rw [e,← adr_add]
 rw [e,esC_get l (p / 10) (p % 10) (by omega) (by omega)] at hv
 exact hcp (p / 10) (by omega) _ _ hv
theorem es_of_grow {v:Value}{l:List Ent}{ν:OH}(h:Grow 97 10 v l.length (esC l) ν) {G':GH}(hG:∀ b o,(b,o)∈ν→G' b=some o) (hok:∀ x∈l,x.ok):Es G' v l:=by
 refine h.sl hG (by simp) fun i x cs hx hc=>?_
 rw [List.getElem?_map,hx] at hc
 simp only [Option.map_some,Option.some.injEq] at hc
 subst hc
 exact ⟨rfl,rfl,hok x (List.mem_of_getElem? hx)⟩
abbrev zE:Value:=.agg #[.int .i64 0,.int .i64 0,.int .i64 0,.int .i64 0,.int .i64 0,.int .i64 0,.string ByteArray.empty,.string ByteArray.empty,.string ByteArray.empty,.int .i64 0]
theorem entClone_s {G:GH}{l:List Ent}{sv:Value}(hs:Es G sv l) (hn:l.length≤200):Con Tryz.prog 114 #[sv] G [] (fun r G' μ'=>G'=G∧Grow 97 10 r l.length (esC l) μ'):=by
 obtain ⟨A,c,rfl,hlc,hcm,hsome,hcp,hcb,hcc,hok⟩:=esOpen hs
 simp only [maxLen] at hcm
 (refine v_enter Tryz.func114 rfl Tryz.ntmps114 rfl ?_;intro B _)
 cases A with
 | none =>
  have h0:l.length=0:=by
   by_cases h:0<l.length
   ·cases hsome h
   ·omega
  have h1:l=[]:=List.eq_nil_of_length_eq_zero h0
  subst h1
  repeat' (first|apply v_seq|apply v_region|apply v_nil|apply v_pure;(case hop=>first|apply p_move<;>rfl|apply p_assign<;>rfl|apply p_eqNilSlice<;>rfl);(case hd=>rfl)|apply v_condT;(case hc=>rfl)|fail)
  refine v_ret [] (outsA1 rfl rfl) (by repeat (exact List.Sublist.refl _)) ?_
  exact ⟨rfl,Grow.nil _ _⟩
 | some a =>
  have hsrc:=fun μ=>esC_src (μ:=μ) (c:=c) hsome hcp
  repeat' (first|apply v_seq|apply v_region|apply v_nil|apply v_skip|apply v_pure;(case hop=>first|apply p_move<;>rfl|apply p_assign<;>rfl|apply p_eqNilSlice<;>rfl);(case hd=>rfl)|apply v_condF;(case hc=>rfl)|apply v_buildSlice;(case hz|hi=>rfl);(case hv=>(simp only [List.map_cons,List.map_nil];repeat (with_reducible exact evs_nil)));(case hp=>(with_reducible exact pk_nil));(case hb|hd=>rfl);intro b|fail)
  refine v_append (e:=97) (agg:=true) (sz:=10) (bytes:=104) (zero:=zE) rfl (by omega) rfl rfl Grow.empty (List.Perm.refl _) (hsrc _) (esC_one l) (by omega) (by simp only [maxLen];omega) rfl fun v' ν' hg=>?_
  repeat' (first|apply v_nil|apply v_pure;(case hop=>(apply p_assign<;>rfl));(case hd=>rfl)|fail)
  refine v_ret _ (outsA1 rfl rfl) (by repeat (exact List.Sublist.refl _)) ?_
  refine ⟨rfl,?_⟩
  simpa using hg
theorem p_sliceB {σ:Env}{ty t e:TypeId}{agg:Bool}{sz bytes:Nat}{zero:Value}{x lo:Operand}{b o n c:Nat}{k:IntKind}{z:Int} [Ty Tryz.prog t (.slice e)] [Lay Tryz.prog e agg sz bytes zero] (m:Nat) (hx:Env.ev σ x=some (.slice (some ⟨b,o,none⟩) n c)) (hl:Env.ev σ lo=some (.int k z)) (hz:z=(m:Nat)) (h1:m≤n) (h2:n≤c) (h3:m<c) :
 PureOp Tryz.prog (.slice t x (some lo) none none) ty σ (.slice (some ⟨b,o+m*sz,none⟩) (n-m) (c-m)):=by
 subst hz
 have h:=p_sliceL (P:=Tryz.prog) (ty:=ty) (t:=t) (e:=e) (agg:=agg) (sz:=sz) (bytes:=bytes) (zero:=zero) hx hl (by omega) (by omega) h2
 simp only [Int.toNat_natCast] at h
 rw [if_neg (by omega),Option.map_some,add_mk] at h
 exact h
theorem p_sliceHB {σ:Env}{ty t e:TypeId}{agg:Bool}{sz bytes:Nat}{zero:Value}{x hi:Operand}{A:Option Addr}{n c:Nat}{k:IntKind}{z:Int} [Ty Tryz.prog t (.slice e)] [Lay Tryz.prog e agg sz bytes zero] (m:Nat) (hx:Env.ev σ x=some (.slice A n c)) (hl:Env.ev σ hi=some (.int k z)) (hz:z=(m:Nat)) (h1:m≤c) :
 PureOp Tryz.prog (.slice t x none (some hi) none) ty σ (.slice A m c):=by
 subst hz
 exact p_sliceH (P:=Tryz.prog) (ty:=ty) (t:=t) (e:=e) (agg:=agg) (sz:=sz) (bytes:=bytes) (zero:=zero) hx hl (by omega) (by omega)
instance:Overl Tryz.prog 225 97 4:=⟨_,Tryz.underlying25,fun args w=>run_callFunc_extern Tryz.func225 (by kernel_rfl) (by kernel_rfl) (by kernel_rfl) (e:=Extern.SlicesOverlaps.overlaps #[25,25] #[4]) (by kernel_rfl) args w⟩
theorem zeros_length (q:Nat):(Builtin.zeroCells zE.cells q).toList.length=q*10:=by rw [Array.length_toList,size_zeroCells];rfl
theorem ins_row (p z sp a t:List Value) (hz:z.length=a.length+t.length) (h:t.length=z.length-a.length):over (over (p++z++sp) p.length a) (p.length+a.length) t=p++a++t++sp:=by
 have e1:over (p++z++sp) p.length a=p++a++z.drop a.length++sp:=by
  unfold over
  rw [List.append_assoc p z sp,List.take_left,← List.drop_drop,List.drop_left,List.drop_append_of_le_length (by omega)]
  simp
 rw [e1]
 unfold over
 rw [show p.length+a.length=(p++a).length by simp,List.append_assoc (p++a),List.take_left,← List.drop_drop,List.drop_left,List.drop_append_of_le_length (by rw [List.length_drop];omega),List.drop_of_length_le (l:=List.drop a.length z) (by rw [List.length_drop];omega)]
 simp
theorem ins_shift (p t sp a:List Value) (h:a.length≤sp.length):over (over (p++t++sp) (p.length+a.length) t) p.length a=p++a++t++sp.drop a.length:=by
 have e1:over (p++t++sp) (p.length+a.length) t=(p++(t++sp).take a.length)++(t++sp.drop a.length):=by
  unfold over
  rw [List.append_assoc p t sp,List.take_append,List.take_of_length_le (by omega),show p.length+a.length-p.length=a.length by omega,show p.length+a.length+t.length=p.length+(t.length+a.length) by omega,← List.drop_drop,List.drop_left,← List.drop_drop,List.drop_left]
  simp
 have e2:((t++sp).take a.length).length=a.length:=by rw [List.length_take,List.length_append];omega
 rw [e1]
 unfold over
 rw [List.append_assoc p,List.take_left,show p.length+a.length=(p++(t++sp).take a.length).length by rw [List.length_append,e2],← List.append_assoc p,List.drop_left]
 simp
theorem entInsert_s {G:GH}{l:List Ent}{v:Value}{ν:OH}(x:Ent) (b2 i:Nat) (hg:Grow 97 10 v l.length (esC l) ν) (hi:i≤l.length) (hn:l.length≤200) :
 Con Tryz.prog 205 #[v,.int .i64 i,.slice (some ⟨b2,0,none⟩) 1 1] G (ν++[(b2,.cells x.cells.toArray 97 (0,0))]) (fun r G' μ'=>G'=G∧Grow 97 10 r (l.length+1) (esC (l.take i++x::l.drop i)) μ'):=by
 by_cases hin:i=l.length
 ·subst hin
  obtain ⟨A,c,rfl,hc1,hc2⟩:=hg.shape
  simp only [maxLen] at hc2
  (refine v_enter Tryz.func205 rfl Tryz.ntmps205 rfl ?_;intro B _)
  repeat' (first|apply v_seq|apply v_region|apply v_nil|apply v_skip|apply v_pure;(case hop=>first|apply p_move<;>rfl|apply p_eqs<;>rfl|apply p_eq<;>rfl|apply p_assign<;>rfl|apply p_lenSlice<;>rfl|apply p_sliceL;(case hx|hl=>rfl);all_goals omega|fail);(case hd=>rfl)|apply v_condT;(case hc=>rfl)|apply v_cond;(case hc=>rfl);all_goals (intro h;(try simp only [reduceCtorEq,zzz] at h);try (exfalso;omega))|fail)
  refine v_append (e:=97) (agg:=true) (sz:=10) (bytes:=104) (zero:=zE) rfl (by omega) rfl rfl hg (List.Perm.refl _) (m':=1) (us:=x.cells) (Src.own (e:=97) (by simp [Has]) rfl) rfl (by omega) (by simp only [maxLen];omega) rfl fun v' ν' hg'=>?_
  repeat' (first|apply v_nil|apply v_pure;(case hop=>(apply p_assign<;>rfl));(case hd=>rfl)|fail)
  refine v_ret ν' (outsA1 rfl rfl) (by repeat (exact List.sublist_append_left _ _)) ?_
  refine ⟨rfl,?_⟩
  rw [List.take_length,List.drop_length,esC_append,esC_cons]
  simpa [esC] using hg'
 ·have hlt:i<l.length:=by omega
  obtain ⟨hxl,⟨rfl,h0,rfl⟩|⟨b,cap,spare,rfl,rfl,hc1,hc2,hc3⟩⟩:=hg
  ·omega
  simp only [maxLen] at hc2
  simp only [List.singleton_append]
  rw [List.length_append,esC_length] at hc3
  by_cases hroom:cap<l.length+1
  ·(refine v_enter Tryz.func205 rfl Tryz.ntmps205 rfl ?_;intro B _)
   repeat' (first|apply v_pure;(case hop=>(apply p_sliceB i;(case hx|hl=>rfl);(case hz|h1|h2|h3=>omega)));(case hd=>rfl)|apply v_pure;(case hop=>(apply p_sliceHB i;(case hx|hl=>rfl);(case hz|h1=>omega)));(case hd=>rfl)|apply v_seq|apply v_region|apply v_nil|apply v_skip|apply v_pure;(case hop=>first|apply p_move<;>rfl|apply p_eq<;>rfl|apply p_gt<;>rfl|apply p_assign<;>rfl|apply p_lenSlice<;>rfl|apply p_add;(case hx|hy=>rfl);(case h=>omega)|apply p_sub;(case hx|hy=>rfl);(case h=>omega)|apply p_capSlice<;>rfl|fail);(case hd=>rfl)|apply v_cond;(case hc=>rfl);all_goals (intro h;(try simp only [reduceCtorEq,zzz] at h);try (exfalso;omega))|fail)
   refine v_appendZ (e:=97) (agg:=true) (sz:=10) (bytes:=104) (zero:=zE) (q:=l.length+1-i) (xs:=esC (l.take i)) rfl (by omega) rfl rfl (by omega) ?_ (by omega) (by omega) (by omega) (by simp only [maxLen];omega) rfl fun b3 c3 sp3 hd1 hd2 hd3=>?_
   ·refine Src.ownAt (vs:=esC l++spare) (e:=97) (by simp [Has]) ?_ (by rw [esC_length,List.length_take];omega)
    rw [List.drop_zero,List.take_append_of_le_length (by omega),esC_take]
   simp only [maxLen] at hd2
   have zl:=zeros_length (l.length+1-i)
   have tl:(esC (l.take i)).length=i*10:=by rw [esC_length,List.length_take];omega
   repeat' (first|apply v_pure;(case hop=>(apply p_sliceB i;(case hx|hl=>rfl);(case hz|h1|h2|h3=>omega)));(case hd=>rfl)|apply v_seq|apply v_region|apply v_nil|apply v_pure;(case hop=>first|apply p_move<;>rfl|apply p_assign<;>rfl|fail);(case hd=>rfl)|fail)
   refine v_copy (e:=97) (agg:=true) (sz:=10) (bytes:=104) (zero:=zE) (q:=1) rfl rfl (show min 1 _=1 by omega) (by omega) (us:=x.cells) (Src.own (e:=97) (by simp [Has]) rfl) (by (repeat exact mhd _)) rfl (by simp only [List.length_append,zl,tl];omega) rfl (by (repeat (exact Upd.here _ _))) rfl ?_
   repeat' (first|apply v_seq|apply v_nil)
   have hus:((esC l++spare).drop (0+i*10)).take ((l.length-i)*10)=esC (l.drop i):=by
    rw [Nat.zero_add,List.drop_append_of_le_length (by omega),esC_drop,List.take_append_of_le_length (by rw [esC_length,List.length_drop];omega),List.take_of_length_le (by rw [esC_length,List.length_drop];omega)]
   have dl:(esC (l.drop i)).length=(l.length-i)*10:=by rw [esC_length,List.length_drop]
   refine d_start [] (by kernel_rfl) (by kernel_rfl) (by kernel_rfl) (by intro e he;(simp at he ⊢;try omega)) ?_
   all_goals (apply dtm 0;(case hi|hx=>rfl);(case hq=>kernel_rfl);apply dtm 1;(case hi|hx=>rfl);(case hq=>kernel_rfl))
   all_goals (apply dtm 2;(case hi|hx=>rfl);(case hq=>kernel_rfl);apply dtk 3;(case hi=>rfl);(case hop=>(apply prd;apply p_add;(case hx|hy=>rfl);(case h=>omega)));(case hq=>kernel_rfl))
   all_goals (apply dtk 4;(case hi=>rfl);(case hop=>((apply prd;apply p_sliceB (i+1);(case hx|hl=>rfl);(case hz|h1|h2|h3=>omega))));(case hq=>kernel_rfl);apply dtm 5;(case hi|hx=>rfl);(case hq=>kernel_rfl))
   all_goals (apply dtm 6;(case hi|hx=>rfl);(case hq=>kernel_rfl);apply dtk 7;(case hi=>rfl);(case hop=>((apply prd;apply p_sliceB i;(case hx|hl=>rfl);(case hz|h1|h2|h3=>omega))));(case hq=>kernel_rfl))
   all_goals ((apply d_copy 8 (e:=97) (agg:=true) (sz:=10) (bytes:=104) (zero:=zE) (m':=l.length-i) (q:=l.length-i) (us:=esC (l.drop i));(case hi=>rfl);(case hr=>kernel_rfl);(case hT=>infer_instance);(case hL=>infer_instance);(case hy|hx=>rfl);(case hq=>(show min _ _=_);omega);(case hm=>omega);(case hsrc=>exact Src.ownAt (vs:=esC l++spare) (e:=97) (by (repeat (first|exact mhd _|apply mtl))) hus dl);(case hb=>repeat exact mhd _);(case h1=>rw [List.take_of_length_le (by omega)];exact esC_one _);(case hfit=>simp only [over,List.length_append,List.length_take,List.length_drop,zl,tl,cells_length];omega);(case hov=>rfl);(case hu=>repeat exact Upd.here _ _);(case hd=>rfl);(case hν'=>intro e he;cases he)))
   all_goals (apply d_done;(case hr=>kernel_rfl))
   repeat' (first|apply v_seq|apply v_region|apply v_nil|apply v_pure;(case hop=>first|apply p_move<;>rfl|apply p_assign<;>rfl|fail);(case hd=>rfl)|fail)
   refine v_ret [(b3,_)] (outsA1 rfl rfl) (by repeat (first|exact List.nil_sublist _|apply List.Sublist.cons_cons)) ?_
   refine ⟨rfl,?_⟩
   have el:(esC (l.take i++x::l.drop i))=esC (l.take i)++x.cells++esC (l.drop i):=by rw [esC_append,esC_cons,List.append_assoc]
   have e:=ins_row (esC (l.take i)) (Builtin.zeroCells zE.cells (l.length+1-i)).toList sp3 x.cells (esC (l.drop i)) (by rw [zl,dl,cells_length];omega) (by rw [zl,dl,cells_length];omega)
   rw [tl,cells_length] at e
   rw [show 0+(i+1)*10=i*10+10 by omega,show 0+i*10=i*10 by omega,List.take_of_length_le (l:=esC (l.drop i)) (by omega),show x.cells.take (1*10)=x.cells from rfl,e,show i+(l.length+1-i)=l.length+1 by omega]
   refine ⟨by rw [el,List.length_append,List.length_append,tl,dl,cells_length];omega,.inr ⟨b3,c3,sp3,rfl,by rw [el],by omega,by simp only [maxLen];omega,?_⟩⟩
   simp only [List.length_append,zl,tl] at hd3
   rw [el]
   simp only [List.length_append,tl,dl,cells_length]
   omega
  ·(refine v_enter Tryz.func205 rfl Tryz.ntmps205 rfl ?_;intro B _)
   repeat' (first|apply v_pure;(case hop=>(apply p_sliceB i;(case hx|hl=>rfl);(case hz|h1|h2|h3=>omega)));(case hd=>rfl)|apply v_pure;(case hop=>(apply p_sliceB (i+1);(case hx|hl=>rfl);(case hz|h1|h2|h3=>omega)));(case hd=>rfl)|apply v_pure;(case hop=>(apply p_sliceHB (l.length+1);(case hx|hl=>rfl);(case hz|h1=>omega)));(case hd=>rfl)|apply v_seq|apply v_region|apply v_nil|apply v_skip|apply v_pure;(case hop=>first|apply p_move<;>rfl|apply p_eq<;>rfl|apply p_gt<;>rfl|apply p_assign<;>rfl|apply p_lenSlice<;>rfl|apply p_add;(case hx|hy=>rfl);(case h=>omega)|apply p_capSlice<;>rfl|fail);(case hd=>rfl)|apply v_cond;(case hc=>rfl);all_goals (intro h;(try simp only [reduceCtorEq,zzz] at h);try (exfalso;omega))|fail)
   refine v_ne (b':=b2) (by simp) fun hne=>?_
   refine v_apart (e:=97) (agg:=true) (sz:=10) (bytes:=104) (zero:=zE) rfl rfl (by (repeat (first|exact mhd _|apply mtl))) (by (repeat exact mhd _)) hne (fun h=>by have:=congrArg List.length h;rw [List.length_append,esC_length,List.length_nil] at this;omega) rfl ?_
   repeat' (first|apply v_seq|apply v_nil|apply v_pure;(case hop=>(apply p_not<;>rfl));(case hd=>rfl)|apply v_condT;(case hc=>rfl)|fail)
   have tl:(esC (l.take i)).length=i*10:=by rw [esC_length,List.length_take];omega
   have dl:(esC (l.drop i)).length=(l.length-i)*10:=by rw [esC_length,List.length_drop]
   have hus:(((esC l++spare).drop (0+i*10)).take ((l.length+1-i)*10)).take ((l.length-i)*10)=esC (l.drop i):=by
    rw [List.take_take,Nat.zero_add,Nat.min_eq_left (by omega),List.drop_append_of_le_length (by omega),esC_drop,List.take_append_of_le_length (by omega),List.take_of_length_le (by omega)]
   refine d_start [] (by kernel_rfl) (by kernel_rfl) (by kernel_rfl) (by intro e he;(simp at he ⊢;try omega)) ?_
   all_goals (apply dtm 0;(case hi|hx=>rfl);(case hq=>kernel_rfl);apply dtm 1;(case hi|hx=>rfl);(case hq=>kernel_rfl))
   all_goals (apply dtm 2;(case hi|hx=>rfl);(case hq=>kernel_rfl);apply dtk 3;(case hi=>rfl);(case hop=>(apply prd;apply p_add;(case hx|hy=>rfl);(case h=>omega)));(case hq=>kernel_rfl))
   all_goals (apply dtk 4;(case hi=>rfl);(case hop=>((apply prd;apply p_sliceB (i+1);(case hx|hl=>rfl);(case hz|h1|h2|h3=>omega))));(case hq=>kernel_rfl);apply dtm 5;(case hi|hx=>rfl);(case hq=>kernel_rfl))
   all_goals (apply dtm 6;(case hi|hx=>rfl);(case hq=>kernel_rfl);apply dtk 7;(case hi=>rfl);(case hop=>((apply prd;apply p_sliceB i;(case hx|hl=>rfl);(case hz|h1|h2|h3=>omega))));(case hq=>kernel_rfl))
   all_goals ((apply d_copy 8 (e:=97) (agg:=true) (sz:=10) (bytes:=104) (zero:=zE) (m':=l.length+1-i) (q:=l.length-i) (us:=((esC l++spare).drop (0+i*10)).take ((l.length+1-i)*10));(case hi=>rfl);(case hr=>kernel_rfl);(case hT=>infer_instance);(case hL=>infer_instance);(case hy|hx=>rfl);(case hq=>(show min _ _=_);omega);(case hm=>omega);(case hsrc=>exact Src.ownAt (vs:=esC l++spare) (e:=97) (by (repeat exact mhd _)) rfl (by simp only [List.length_take,List.length_drop,List.length_append,esC_length];omega));(case hb=>repeat exact mhd _);(case h1=>rw [hus];exact esC_one _);(case hfit=>rw [List.length_append,esC_length];omega);(case hov=>rw [hus]);(case hu=>repeat exact Upd.here _ _);(case hd=>rfl);(case hν'=>intro e he;cases he)))
   all_goals (apply d_done;(case hr=>kernel_rfl))
   repeat' (first|apply v_pure;(case hop=>(apply p_sliceB i;(case hx|hl=>rfl);(case hz|h1|h2|h3=>omega)));(case hd=>rfl)|apply v_seq|apply v_region|apply v_pure;(case hop=>(apply p_move<;>rfl));(case hd=>rfl)|fail)
   refine v_copy (e:=97) (agg:=true) (sz:=10) (bytes:=104) (zero:=zE) (q:=1) rfl rfl (show min 1 _=1 by omega) (by omega) (us:=x.cells) (Src.own (e:=97) (by simp [Has]) rfl) (by (repeat exact mhd _)) rfl (by rw [over_length (by rw [List.length_append,hxl,dl];omega),List.length_append,hxl];omega) rfl (by (repeat (exact Upd.here _ _))) rfl ?_
   repeat' (first|apply v_seq|apply v_region|apply v_nil|apply v_pure;(case hop=>first|apply p_move<;>rfl|apply p_assign<;>rfl|fail);(case hd=>rfl)|fail)
   refine v_ret [(b,_)] (outsA1 rfl rfl) (by repeat (first|exact List.nil_sublist _|apply List.Sublist.cons_cons)) ?_
   refine ⟨rfl,?_⟩
   have el:(esC (l.take i++x::l.drop i))=esC (l.take i)++x.cells++esC (l.drop i):=by rw [esC_append,esC_cons,List.append_assoc]
   have e:=ins_shift (esC (l.take i)) (esC (l.drop i)) spare x.cells (by rw [cells_length];omega)
   rw [tl,cells_length,← esC_append,List.take_append_drop] at e
   rw [show 0+(i+1)*10=i*10+10 by omega,show 0+i*10=i*10 by omega,show x.cells.take (1*10)=x.cells from rfl,e]
   refine ⟨by rw [el,List.length_append,List.length_append,tl,dl,cells_length];omega,.inr ⟨b,cap,spare.drop 10,rfl,by rw [el],by omega,by simp only [maxLen];omega,?_⟩⟩
   rw [el]
   simp only [List.length_append,List.length_drop,tl,dl,cells_length]
   omega
noncomputable def withL (l:List Ent) (x:Ent):List Ent:=if hitB l x.index=true then l.set (placeN l x.index) x else l.take (placeN l x.index)++x::l.drop (placeN l x.index)
theorem hitB_lt {l:List Ent}{n:Int}(h:hitB l n=true):placeN l n<l.length:=by
 unfold hitB at h
 by_cases h':placeN l n<l.length
 ·exact h'
 ·rw [dif_neg h'] at h;cases h
theorem placeN_le (l:List Ent) (n:Int):placeN l n≤l.length:=List.countP_le_length
theorem withL_len (l:List Ent) (x:Ent):(withL l x).length=if hitB l x.index=true then l.length else l.length+1:=by
 unfold withL
 have:=placeN_le l x.index
 split
 ·simp
 ·simp;omega
theorem esC_set (l:List Ent) (x:Ent) (sp:List Value) (p:Nat) (hp:p<l.length):over (esC l++sp) (p*10) x.cells=esC (l.set p x)++sp:=by
 have e:l.set p x=l.take p++x::l.drop (p+1):=List.set_eq_take_append_cons_drop.trans (if_pos hp)
 have e1:(esC l++sp).take (p*10)=esC (l.take p):=by rw [List.take_append_of_le_length (by rw [esC_length];omega),esC_take]
 have e2:(esC l++sp).drop (p*10+x.cells.length)=esC (l.drop (p+1))++sp:=by
  rw [cells_length,show p*10+10=(p+1)*10 by omega,List.drop_append_of_le_length (by rw [esC_length];omega),esC_drop]
 rw [over,e1,e2,e,esC_append,esC_cons]
 simp
theorem with_s {G:GH}{l:List Ent}{sv:Value}(x:Ent) (hs:Es G sv l) (hr:RiseL l) (hn:l.length≤200):Con Tryz.prog 180 #[sv,.agg x.cells.toArray] G [] (fun r G' μ'=>G'=G∧Grow 97 10 r (withL l x).length (esC (withL l x)) μ'):=by
 have qp:=place_s x.index hs hr
 have qc:=entClone_s hs hn
 have hlp:=placeN_le l x.index
 (refine v_enter Tryz.func180 rfl Tryz.ntmps180 rfl ?_;intro B _)
 repeat' (first|apply v_seq|apply v_region|apply v_nil|apply v_pure;(case hop=>first|apply p_move<;>rfl|apply p_assign<;>rfl|apply p_fieldAddrB<;>rfl|apply p_extract0<;>rfl|apply p_extract1<;>rfl|fail);(case hd=>rfl)|apply v_box (zs:=x.cells);(case hx|hz|hd=>rfl);intro bx|apply v_callJ (hs:=qp);(case ha|hd=>rfl)|apply v_read;(case hop=>(apply r_load1;rfl;(apply Cell.own;(case h=>repeat exact mhd _);rfl)));(case hd=>rfl)|fail)
 refine v_call (μ1:=[]) (μ2:=_) rfl qc (List.Perm.refl _) rfl ?_
 rintro r G' μ1 _ ⟨rfl,hg⟩
 clear qp qc
 cases hh:hitB l x.index
 ·have el:withL l x=l.take (placeN l x.index)++x::l.drop (placeN l x.index):=by rw [withL,if_neg (by rw [hh];decide)]
  have ell:(withL l x).length=l.length+1:=by rw [withL_len,if_neg (by rw [hh];decide)]
  rw [ell,el]
  generalize placeN l x.index=p at *
  obtain ⟨A,c,rfl,hc1,hc2⟩:=hg.shape
  repeat' (first|apply v_seq|apply v_region|apply v_nil|apply v_skip|apply v_pure;(case hop=>first|apply p_move<;>rfl|apply p_assign<;>rfl|fail);(case hd=>rfl)|apply v_condF;(case hc=>rfl)|apply v_read;(case hop=>(apply r_loadNo;(case hx=>rfl);(case h=>repeat first|exact mhd _|apply List.mem_append_right);(case hd=>repeat first|with_reducible exact dt_nil|apply dt_here);(case hn=>rfl)));(case hd=>rfl)|apply v_buildSlice;(case hz|hi=>rfl);(case hv=>(simp only [List.map_cons,List.map_nil];repeat (first|with_reducible exact evs_nil|apply evs_cons;(case h1=>rfl))));(case hp=>(apply pk_cons;(case hc|hs=>rfl);(case h=>(with_reducible exact pk_nil));(case he=>((repeat (first|with_reducible exact ap_nil|apply ap_cons));done))));(case hb|hd=>rfl);intro b|fail)
  refine v_call (μ1:=μ1++[(b,.cells x.cells.toArray 97 (0,0))]) (μ2:=[(bx,.cells x.cells.toArray 97 (0,0))]) rfl (entInsert_s x b p hg hlp hn) (show List.Perm ((b,Obj.cells x.cells.toArray 97 (0,0))::(μ1++[(bx,Obj.cells x.cells.toArray 97 (0,0))])) _ from (by apply perm_of_count;intro p;simp only [List.append_eq,List.countP_append,List.countP_cons,List.countP_nil,Nat.zero_add,Nat.add_zero];try ac_rfl)) rfl ?_
  rintro r' G1 μ2 _ ⟨rfl,hg'⟩
  repeat' (first|apply v_nil|apply v_pure;(case hop=>(apply p_assign<;>rfl));(case hd=>rfl)|fail)
  refine v_ret μ2 (outsA1 rfl rfl) (by repeat (exact List.sublist_append_left _ _)) ?_
  exact ⟨rfl,hg'⟩
 ·have el:withL l x=l.set (placeN l x.index) x:=by rw [withL,if_pos hh]
  have hlt:=hitB_lt hh
  rw [el,List.length_set]
  generalize placeN l x.index=p at *
  obtain ⟨hxl,⟨rfl,h0,rfl⟩|⟨b1,cap,spare,rfl,rfl,hc1,hc2,hc3⟩⟩:=hg
  ·omega
  simp only [maxLen] at hc2
  simp only [List.singleton_append]
  rw [List.length_append,esC_length] at hc3
  repeat' (first|apply v_seq|apply v_region|apply v_nil|apply v_pure;(case hop=>first|apply p_move<;>rfl|apply p_assign<;>rfl|apply p_indexAddr;(case hx|hi=>rfl);(case h0|h=>omega)|fail);(case hd=>rfl)|apply v_condT;(case hc=>rfl)|apply v_read;(case hop=>(apply r_loadNo;(case hx=>rfl);(case h=>repeat first|exact mhd _|apply mtl);(case hd=>repeat first|with_reducible exact dt_nil|apply dt_here);(case hn=>rfl)));(case hd=>rfl)|fail)
  refine v_store (agg:=true) (sz:=10) (bytes:=104) (zero:=zE) (b:=b1) (i:=p*10) (us:=x.cells) (vs':=esC (l.set p x)++spare) (show some (Value.pointer (some ((⟨b1,0,none⟩:Addr).add (p*10))))=_ by rw [add_mk,Nat.zero_add]) rfl rfl rfl rfl (by (repeat exact mhd _)) (by rw [cells_length,List.length_append,hxl];omega) (esC_set l x spare p hlt) (by (repeat (exact Upd.here _ _))) ?_
  repeat' (first|apply v_seq|apply v_region|apply v_nil|apply v_pure;(case hop=>first|apply p_move<;>rfl|apply p_assign<;>rfl|fail);(case hd=>rfl)|fail)
  refine v_ret [(b1,_)] (outsA1 rfl rfl) (by repeat (first|exact List.nil_sublist _|apply List.Sublist.cons_cons)) ?_
  exact ⟨rfl,by rw [esC_length,List.length_set],.inr ⟨b1,cap,spare,rfl,rfl,hc1,by simp only [maxLen];omega,by rw [List.length_append,esC_length,List.length_set];omega⟩⟩
theorem cm_feqD (d:Nat) (c c':Cm):FEq Tryz.prog (d+1) c.cells c'.cells [⟨"Kind",3,0,false, "", "",0⟩,⟨"Client",3,1,false, "", "",8⟩,⟨"Seq",3,2,false, "", "",16⟩,⟨"Key",9,3,false, "", "",24⟩,⟨"Val",9,4,false, "", "",40⟩,⟨"Old",9,5,false, "", "",56⟩,⟨"Node",3,6,false, "", "",72⟩] (dec (c.kind=c'.kind) && (dec (c.client=c'.client) && (dec (c.seq=c'.seq) && (dec (c.key=c'.key) && (dec (c.val=c'.val) && (dec (c.old=c'.old) && (dec (c.node=c'.node) && true))))))) :=
 feq_int (k:=.i64) (bytes:=8) (zero:=.int .i64 0) (sz:=1) (nm := "Kind") (ft:=3) (off:=0) (em:=false) (tg := "") (pk := "") (bo:=0) rfl rfl rfl
  (feq_int (k:=.i64) (bytes:=8) (zero:=.int .i64 0) (sz:=1) (nm := "Client") (ft:=3) (off:=1) (em:=false) (tg := "") (pk := "") (bo:=8) rfl rfl rfl
  (feq_int (k:=.i64) (bytes:=8) (zero:=.int .i64 0) (sz:=1) (nm := "Seq") (ft:=3) (off:=2) (em:=false) (tg := "") (pk := "") (bo:=16) rfl rfl rfl
  (feq_str (bytes:=16) (zero:=.string ByteArray.empty) (sz:=1) (nm := "Key") (ft:=9) (off:=3) (em:=false) (tg := "") (pk := "") (bo:=24) rfl rfl rfl
  (feq_str (bytes:=16) (zero:=.string ByteArray.empty) (sz:=1) (nm := "Val") (ft:=9) (off:=4) (em:=false) (tg := "") (pk := "") (bo:=40) rfl rfl rfl
  (feq_str (bytes:=16) (zero:=.string ByteArray.empty) (sz:=1) (nm := "Old") (ft:=9) (off:=5) (em:=false) (tg := "") (pk := "") (bo:=56) rfl rfl rfl
  (feq_int (k:=.i64) (bytes:=8) (zero:=.int .i64 0) (sz:=1) (nm := "Node") (ft:=3) (off:=6) (em:=false) (tg := "") (pk := "") (bo:=72) rfl rfl rfl feq_nil))))))
theorem ent_feq (x y:Ent):∃ b,FEq Tryz.prog 9999 x.cells y.cells [⟨"Index",3,0,false, "", "",0⟩,⟨"Ballot",23,1,false, "", "",8⟩,⟨"Cmd",40,3,false, "", "",24⟩] b∧b=dec (x=y):=by
 refine ⟨_,feq_int (k:=.i64) (bytes:=8) (zero:=.int .i64 0) (sz:=1) rfl (a:=x.index) (b:=y.index) rfl rfl (feq_agg (bytes:=16) (zero:=.agg #[.int .i64 0,.int .i64 0]) (sz:=2) (us:=[.int .i64 x.round,.int .i64 x.node]) (vs:=[.int .i64 y.round,.int .i64 y.node]) rfl rfl rfl
  (feq_int (k:=.i64) (bytes:=8) (zero:=.int .i64 0) (sz:=1) (a:=x.round) (b:=y.round) rfl rfl rfl (feq_int (k:=.i64) (bytes:=8) (zero:=.int .i64 0) (sz:=1) (a:=x.node) (b:=y.node) rfl rfl rfl feq_nil))
  (feq_agg (bytes:=80) (zero:=.agg #[.int .i64 0,.int .i64 0,.int .i64 0,.string ByteArray.empty,.string ByteArray.empty,.string ByteArray.empty,.int .i64 0]) (sz:=7) (us:=x.cmd.cells) (vs:=y.cmd.cells) rfl rfl rfl (cm_feqD 9997 x.cmd y.cmd) feq_nil)),?_⟩
 rw [cm_dec]
 obtain ⟨a1,a2,a3,a4⟩:=x
 obtain ⟨b1,b2,b3,b4⟩:=y
 rw [Bool.eq_iff_iff]
 simp [dec_true,and_assoc]
theorem neEnt {σ:Env}{ty t':TypeId}{a b:Operand}{x y:Ent}(hx:Env.ev σ a=some (.agg x.cells.toArray)) (hy:Env.ev σ b=some (.agg y.cells.toArray)):PureOp Tryz.prog (.binOp .neq 97 a b t') ty σ (.bool (!dec (x=y))):=by
 obtain ⟨q,hq,rfl⟩:=ent_feq x y
 exact p_neStruct (P:=Tryz.prog) (ty:=ty) (t:=97) (t':=t') hx hy hq
theorem entSame_s {G:GH}{a b:List Ent}{av bv:Value}(ha:Es G av a) (hb:Es G bv b):Con Tryz.prog 65 #[av,bv] G [] (Just (.bool (decide (a=b))) G):=by
 obtain ⟨A,c,rfl,hlc,hcm,hsome,hcp,hcb,hcc,hok⟩:=esOpen ha
 obtain ⟨A',c',rfl,hlc',hcm',hsome',hcp',hcb',hcc',hok'⟩:=esOpen hb
 clear hcb hcc hok hcb' hcc' hok'
 simp only [maxLen] at hcm hcm'
 apply Con.just
 (refine v_enter Tryz.func65 rfl Tryz.ntmps65 rfl ?_;intro B _)
 repeat' (first|apply v_seq|apply v_region|apply v_nil|apply v_skip|apply v_block|apply v_pure;(case hop=>first|apply p_move<;>rfl|apply p_ne<;>rfl|apply p_assign<;>rfl|apply p_lenSlice<;>rfl|fail);(case hd=>rfl)|apply v_cond;(case hc=>rfl);all_goals (intro h;(try simp only [reduceCtorEq,zzz] at h))|fail)
 ·refine v_ret [] (outsA1 rfl rfl) (by repeat (exact List.Sublist.refl _)) ?_
  refine ⟨?_,rfl⟩
  rw [decide_eq_false]
  intro e
  subst e
  omega
 have hab:a.length=b.length:=by omega
 refine v_loop [5,0,1] (fun us G' μ'=>G'=G∧μ'=[]∧∃ k,k≤a.length∧us=[Value.int .i64 (k:Nat),.slice A a.length c,.slice A' b.length c']∧∀ i (h:i<a.length) (h':i<b.length),i<k→a[i]=b[i]) (fun us=>a.length-(headI us).toNat) rfl ⟨rfl,rfl,0,by omega,rfl,by omega⟩ ?_
 rintro us G' μ' ⟨rfl,rfl,k,hk,rfl,hno⟩
 repeat' (first|apply v_seq|apply v_region|apply v_nil|apply v_skip|apply v_block|apply v_exit;(case hp=>rfl)|apply v_pure;(case hop=>first|apply p_move<;>rfl|apply p_lt<;>rfl|apply p_assign<;>rfl|apply p_lenSlice<;>rfl|fail);(case hd=>rfl)|apply v_cond;(case hc=>rfl);all_goals (intro h;(try simp only [reduceCtorEq,zzz] at h))|fail)
 ·have hlt:k<a.length:=by omega
  refine d_start [] (by kernel_rfl) (by kernel_rfl) (by kernel_rfl) (by intro e he;exact he) ?_
  all_goals (apply dtm 0;(case hi|hx=>rfl);(case hq=>kernel_rfl);apply dtm 1;(case hi|hx=>rfl);(case hq=>kernel_rfl))
  all_goals (apply dtk 2;(case hi=>rfl);(case hop=>(apply prd;apply p_indexAddrS;(case hx|hi=>rfl);(case h0|h=>omega);(case hA=>(apply_assumption;omega))));(case hq=>kernel_rfl))
  all_goals (apply dtk 3;(case hi=>rfl);(case hop=>((apply r_loadN;rfl;exact CellsAt.frozen (hcp _ (by omega));rfl)));(case hq=>kernel_rfl))
  all_goals (apply dtm 4;(case hi|hx=>rfl);(case hq=>kernel_rfl);apply dtm 5;(case hi|hx=>rfl);(case hq=>kernel_rfl))
  all_goals (apply dtk 6;(case hi=>rfl);(case hop=>(apply prd;apply p_indexAddrS;(case hx|hi=>rfl);(case h0|h=>omega);(case hA=>(apply_assumption;omega))));(case hq=>kernel_rfl))
  all_goals (apply dtk 7;(case hi=>rfl);(case hop=>((apply r_loadN;rfl;exact CellsAt.frozen (hcp' _ (by omega));rfl)));(case hq=>kernel_rfl))
  all_goals (apply dtk 8;(case hi=>rfl);(case hop=>((apply prd;apply neEnt (x:=a[k]'(by omega)) (y:=b[k]'(by omega));(case hx|hy=>rfl))));(case hq=>kernel_rfl))
  all_goals (apply d_done;(case hr=>kernel_rfl))
  repeat' (first|apply v_seq|apply v_region|apply v_nil|apply v_skip|apply v_blk|apply v_pure;(case hop=>first|apply p_move<;>rfl|apply p_assign<;>rfl|apply p_add;(case hx|hy=>rfl);(case h=>omega)|fail);(case hd=>rfl)|apply v_cond;(case hc=>rfl);all_goals (intro h;(try simp only [reduceCtorEq,zzz] at h))|fail)
  ·refine v_ret [] (outsA1 rfl rfl) (by repeat (exact List.Sublist.refl _)) ?_
   refine ⟨?_,rfl⟩
   rw [decide_eq_false]
   intro e
   subst e
   contradiction
  ·refine v_again rfl ⟨rfl,rfl,k+1,by omega,rfl,fun i h h' hi=>?_⟩ (by simp [headI];omega)
   by_cases hik:i=k
   ·subst hik;assumption
   ·exact hno i h h' (by omega)
 ·refine v_ret [] (outsA1 rfl rfl) (by repeat (exact List.Sublist.refl _)) ?_
  refine ⟨?_,rfl⟩
  rw [decide_eq_true]
  exact List.ext_getElem hab fun i h h'=>hno i h h' (by omega)
theorem placeN_at {l:List Ent}(hr:RiseL l) {i:Nat}(hi:i<l.length):placeN l l[i].index=i:=by
 refine placeN_eq (by omega) (fun m h hm=>hr m i hi hm) (fun m h hm=>?_)
 by_cases he:m=i
 ·subst he;omega
 ·have:=hr i m h (by omega)
  omega
theorem hitB_at {l:List Ent}(hr:RiseL l) {i:Nat}(hi:i<l.length):hitB l l[i].index=true:=by
 unfold hitB
 simp only [placeN_at hr hi]
 rw [dif_pos hi]
 simp
theorem hitB_index {l:List Ent}{n:Int}(h:hitB l n=true):(l[placeN l n]'(hitB_lt h)).index=n:=by
 have hl:=hitB_lt h
 unfold hitB at h
 rw [dif_pos hl] at h
 exact of_decide_eq_true h
theorem refEntFind_s {G:GH}{l:List Ent}{sv:Value}(n:Int) (hs:Es G sv l) (hr:RiseL l):Con Tryz.prog 110 #[sv,.int .i64 n] G [] (Just (.int .i64 (if hitB l n=true then (placeN l n:Nat) else -1)) G):=by
 obtain ⟨A,c,rfl,hlc,hcm,hsome,hcp,hcb,hcc,hok⟩:=esOpen hs
 simp only [maxLen] at hcm
 apply Con.just
 (refine v_enter Tryz.func110 rfl Tryz.ntmps110 rfl ?_;intro B _)
 repeat' (first|apply v_seq|apply v_region|apply v_nil|apply v_block|apply v_pure;(case hop=>(apply p_assign<;>rfl));(case hd=>rfl)|fail)
 refine v_loop [5,0,1] (fun us G' μ'=>G'=G∧μ'=[]∧∃ k,k≤l.length∧us=[Value.int .i64 (k:Nat),.slice A l.length c,.int .i64 n]∧∀ i (h:i<l.length),i<k→l[i].index≠n) (fun us=>l.length-(headI us).toNat) rfl ⟨rfl,rfl,0,by omega,rfl,by omega⟩ ?_
 rintro us G' μ' ⟨rfl,rfl,k,hk,rfl,hno⟩
 have e1:((k:Nat):Int).toNat=k:=by omega
 repeat' (first|apply v_seq|apply v_region|apply v_nil|apply v_skip|apply v_block|apply v_blk|apply v_exit;(case hp=>rfl)|apply v_pure;(case hop=>first|apply p_move<;>rfl|apply p_eq<;>rfl|apply p_lt<;>rfl|apply p_assign<;>rfl|apply p_lenSlice<;>rfl|apply p_fieldAddr<;>rfl|apply p_add;(case hx|hy=>rfl);(case h=>omega)|apply p_indexAddrS;(case hx|hi=>rfl);(case h0|h=>omega);(case hA=>(apply_assumption;omega))|fail);(case hd=>rfl)|apply v_cond;(case hc=>rfl);all_goals (intro h;(try simp only [reduceCtorEq,zzz] at h))|apply v_read;(case hop=>(apply r_load1;rfl;exact Cell.frozen (esCell hcp _ (by omega))));(case hd=>rfl)|fail)
 ·refine v_ret [] (outsA1 rfl rfl) (by repeat (exact List.Sublist.refl _)) ?_
  refine ⟨?_,rfl⟩
  have hlt:k<l.length:=by omega
  have he:l[k].index=n:=by assumption
  have h1:=hitB_at hr hlt
  have h2:=placeN_at hr hlt
  rw [he] at h1 h2
  rw [if_pos h1,h2]
 ·refine v_again rfl ⟨rfl,rfl,k+1,by omega,rfl,fun i h hi=>?_⟩ (by simp [headI];omega)
  by_cases hik:i=k
  ·subst hik;assumption
  ·exact hno i h (by omega)
 ·refine v_ret [] (outsA1 rfl rfl) (by repeat (exact List.Sublist.refl _)) ?_
  refine ⟨?_,rfl⟩
  rw [if_neg]
  intro h
  exact hno _ (hitB_lt h) (by have:=hitB_lt h;omega) (hitB_index h)
def zeroE:Ent:=⟨0,0,0,zeroCm⟩
noncomputable def findE (l:List Ent) (n:Int):Ent:=if h:hitB l n=true then l[placeN l n]'(hitB_lt h) else zeroE
theorem find_s {G:GH}{l:List Ent}{sv:Value}(n:Int) (hs:Es G sv l) (hr:RiseL l):Con Tryz.prog 181 #[sv,.int .i64 n] G [] (Just (.tuple [.agg (findE l n).cells.toArray,.bool (hitB l n)].toArray) G):=by
 have qp:=place_s n hs hr
 obtain ⟨A,c,rfl,hlc,hcm,hsome,hcp,hcb,hcc,hok⟩:=esOpen hs
 simp only [maxLen] at hcm
 apply Con.just
 (refine v_enter Tryz.func181 rfl Tryz.ntmps181 rfl ?_;intro B _)
 cases hh:hitB l n
 ·rw [hh] at qp
  repeat' (first|apply v_seq|apply v_region|apply v_nil|apply v_pure;(case hop=>first|apply p_move<;>rfl|apply p_assign<;>rfl|apply p_not<;>rfl|apply p_extract0<;>rfl|apply p_extract1<;>rfl|apply p_build;(case hz=>rfl);(case hv=>(simp only [List.map_cons,List.map_nil];repeat (with_reducible exact evs_nil)));(case hb=>(apply bldL;repeat (exact bld_nil))));(case hd=>rfl)|apply v_condT;(case hc=>rfl)|apply v_callJ (hs:=qp);(case ha|hd=>rfl)|apply v_alloc;(case hz|hd=>rfl);intro b|apply v_store;(case hp|hx|hc|hsz|h1=>rfl);(case hb=>repeat exact mhd _);(case hfit=>exact nle rfl);(case hov=>((repeat (first|with_reducible exact ov_nil|apply ov_cons));done));(case hu=>repeat (exact Upd.here _ _))|fail)
  refine v_retM [] (outsM_cell_tmp (vs:=zeroE.cells) (e:=97) rfl rfl rfl ?_ ?_) (by repeat (exact List.nil_sublist _)) ?_
  ·exact mhd _
  ·rfl
  ·exact ⟨by rw [findE,dif_neg (by rw [hh];decide)],rfl⟩
 ·rw [hh] at qp
  have hlt:=hitB_lt hh
  repeat' (first|apply v_seq|apply v_region|apply v_nil|apply v_skip|apply v_pure;(case hop=>first|apply p_move<;>rfl|apply p_assign<;>rfl|apply p_not<;>rfl|apply p_extract0<;>rfl|apply p_extract1<;>rfl|apply p_indexAddrS;(case hx|hi=>rfl);(case h0|h=>omega);(case hA=>(apply_assumption;omega))|fail);(case hd=>rfl)|apply v_condF;(case hc=>rfl)|apply v_callJ (hs:=qp);(case ha|hd=>rfl)|apply v_read;(case hop=>(apply r_loadN;rfl;exact CellsAt.frozen (hcp _ (by omega));rfl));(case hd=>rfl)|apply v_alloc;(case hz|hd=>rfl);intro b|apply v_store;(case hp|hx|hc|hsz|h1=>rfl);(case hb=>repeat exact mhd _);(case hfit=>exact nle rfl);(case hov=>((repeat (first|with_reducible exact ov_nil|apply ov_cons));done));(case hu=>repeat (exact Upd.here _ _))|fail)
  refine v_retM [] (outsM_cell_tmp (vs:=(l[placeN l n]'hlt).cells) (e:=97) rfl rfl rfl ?_ ?_) (by repeat (exact List.nil_sublist _)) ?_
  ·exact mhd _
  ·rfl
  ·exact ⟨by rw [findE,dif_pos hh],rfl⟩
theorem rise_of_step {l:List Ent}(h:∀ i (hi:i<l.length),0<i→(l[i-1]'(by omega)).index<l[i].index):RiseL l:=by
 intro i j hj hij
 induction j with
 | zero=>omega
 | succ j ih =>
  have h1:=h (j+1) hj (by omega)
  simp only [Nat.add_sub_cancel] at h1
  by_cases he:i=j
  ·subst he;exact h1
  ·have:=ih (by omega) (by omega)
   omega
theorem es_drop {G:GH}{A:Option Addr}{c p:Nat}{l:List Ent}(hs:Es G (.slice A l.length c) l) (hp:p≤l.length):Es G (.slice (if c=p then A else A.map (·.add (p*10))) (l.length-p) (c-p)) (l.drop p):=by
 obtain ⟨A',c',he,h1,h2,h3⟩:=hs
 cases he
 refine ⟨_,_,by rw [List.length_drop],by rw [List.length_drop];omega,by omega,fun h0=>?_⟩
 rw [List.length_drop] at h0
 obtain ⟨a,rfl,h4⟩:=h3 (by omega)
 refine ⟨a.add (p*10),by rw [if_neg (by omega)];rfl,fun i x hx=>?_⟩
 rw [List.getElem?_drop] at hx
 obtain ⟨cs,q1,q2,q3⟩:=h4 (p+i) x hx
 refine ⟨cs,q1,q2,?_⟩
 rw [adr_add,← Nat.add_mul]
 exact q3
def Mine (l:List Ent) (G:GH) (r:Value) (G':GH) (μ':OH):Prop:=G'=G∧Grow 97 10 r l.length (esC l) μ'
theorem from_s {G:GH}{l:List Ent}{sv:Value}(n:Int) (hs:Es G sv l) (hr:RiseL l) (hn:l.length≤200):Con Tryz.prog 182 #[sv,.int .i64 n] G [] (Mine (l.drop (placeN l n)) G):=by
 have qp:=place_s n hs hr
 have hp:=placeN_le l n
 obtain ⟨A,c,rfl,hlc,hcm,-⟩:=esOpen hs
 simp only [maxLen] at hcm
 have qc:=entClone_s (es_drop hs hp) (by rw [List.length_drop];omega)
 (refine v_enter Tryz.func182 rfl Tryz.ntmps182 rfl ?_;intro B _)
 repeat' (first|apply v_seq|apply v_region|apply v_nil|apply v_pure;(case hop=>first|apply p_move<;>rfl|apply p_assign<;>rfl|apply p_extract0<;>rfl|apply p_extract1<;>rfl|apply p_sliceL;(case hx|hl=>rfl);all_goals omega|fail);(case hd=>rfl)|apply v_callJ (hs:=qp);(case ha|hd=>rfl)|fail)
 refine v_call (μ1:=[]) (μ2:=_) rfl qc (List.Perm.refl _) rfl ?_
 rintro r G' μ1 _ ⟨rfl,hg⟩
 repeat' (first|apply v_nil|apply v_pure;(case hop=>(apply p_assign<;>rfl));(case hd=>rfl)|fail)
 refine v_ret _ (outsA1 rfl rfl) (by repeat (exact List.Sublist.refl _)) ?_
 exact ⟨rfl,by simpa using hg⟩
theorem placeN_lt {l:List Ent}(hr:RiseL l) {n:Int}{m:Nat}(hm:m<l.length):m<placeN l n↔l[m].index<n:=by
 constructor
 ·intro h
  by_cases hc:l[m].index<n
  ·exact hc
  ·exfalso
   have:=placeN_le l n
   have hle:placeN l n≤m:=by
    have e:l=l.take m++l.drop m:=(List.take_append_drop m l).symm
    have z:(l.drop m).countP (fun x=>decide (x.index<n))=0:=by
     rw [List.countP_eq_zero]
     intro x hx
     obtain ⟨q,hq,rfl⟩:=List.getElem_of_mem hx
     rw [List.length_drop] at hq
     rw [List.getElem_drop]
     simp only [decide_eq_true_eq]
     by_cases h0:q=0
     ·subst h0;exact hc
     ·have:=hr m (m+q) (by omega) (by omega)
      omega
    have z2:placeN l n=(l.take m).countP (fun x=>decide (x.index<n)):=by
     rw [placeN]
     conv=>lhs;rw [e]
     rw [List.countP_append,z,Nat.add_zero]
    have z3:(l.take m).countP (fun x=>decide (x.index<n))≤(l.take m).length:=List.countP_le_length
    rw [List.length_take] at z3
    omega
   omega
 ·intro h
  have e:l=l.take (m+1)++l.drop (m+1):=(List.take_append_drop (m+1) l).symm
  have h1:(l.take (m+1)).countP (fun x=>decide (x.index<n))=m+1:=by
   rw [List.countP_eq_length.2,List.length_take]
   ·omega
   ·intro x hx
    obtain ⟨q,hq,rfl⟩:=List.getElem_of_mem hx
    rw [List.length_take] at hq
    rw [List.getElem_take]
    simp only [decide_eq_true_eq]
    by_cases h0:q=m
    ·subst h0;exact h
    ·have:=hr q m hm (by omega)
     omega
  have h2:placeN l n=m+1+(l.drop (m+1)).countP (fun x=>decide (x.index<n)):=by
   rw [placeN]
   conv=>lhs;rw [e]
   rw [List.countP_append,h1]
  omega
theorem withL_hit {l:List Ent}{x:Ent}(h:hitB l x.index=true):withL l x=l.set (placeN l x.index) x:=by rw [withL,if_pos h]
theorem withL_no {l:List Ent}{x:Ent}(h:¬ hitB l x.index=true):withL l x=l.take (placeN l x.index)++x::l.drop (placeN l x.index):=by rw [withL,if_neg h]
theorem withL_lo {l:List Ent}{x:Ent}{k:Nat}(hk:k≤placeN l x.index):(withL l x).take k=l.take k:=by
 have hp:=placeN_le l x.index
 by_cases h:hitB l x.index=true
 ·rw [withL_hit h,List.take_set,List.set_eq_of_length_le (by rw [List.length_take];omega)]
 ·rw [withL_no h,List.take_append_of_le_length (by rw [List.length_take];omega),List.take_take,Nat.min_eq_left hk]
theorem withL_at (l:List Ent) (x:Ent):(withL l x)[placeN l x.index]? = some x:=by
 have hp:=placeN_le l x.index
 by_cases h:hitB l x.index=true
 ·rw [withL_hit h,List.getElem?_set_self (hitB_lt h)]
 ·rw [withL_no h,List.getElem?_append_right (by rw [List.length_take];omega),List.length_take,Nat.min_eq_left hp,Nat.sub_self]
  rfl
theorem withL_hi {l:List Ent}{x:Ent}{k:Nat}(hk:placeN l x.index<k) (h:hitB l x.index=true):(withL l x)[k]? = l[k]? := by
 rw [withL_hit h,List.getElem?_set_ne (by omega)]
theorem withL_hi' {l:List Ent}{x:Ent}{k:Nat}(hk:placeN l x.index≤k) (h:¬ hitB l x.index=true):(withL l x)[k+1]? = l[k]? := by
 have hp:=placeN_le l x.index
 rw [withL_no h,List.getElem?_append_right (by rw [List.length_take];omega),List.length_take,Nat.min_eq_left hp,show k+1-placeN l x.index=(k-placeN l x.index)+1 by omega,List.getElem?_cons_succ,List.getElem?_drop,show placeN l x.index+(k-placeN l x.index)=k by omega]
theorem wl_a {l:List Ent}{k:Nat}(h:k<l.length):l.take (k+1)=l.take k++[l[k]]:=by rw [List.take_add_one,List.getElem?_eq_getElem h];rfl
theorem wl_b {l:List Ent}{x:Ent}{q:Nat}(hq:placeN l x.index=q) (h:hitB l x.index=true):(withL l x).take (q+1)=l.take q++[x]:=by
 subst hq
 rw [List.take_add_one,withL_lo (Nat.le_refl _),withL_at];rfl
theorem wl_c {l:List Ent}{x:Ent}{q:Nat}(hq:placeN l x.index=q) (h:¬ hitB l x.index=true) (hlt:q<l.length):(withL l x).take (q+1+1)=l.take q++[x]++[l[q]]:=by
 subst hq
 rw [List.take_add_one,List.take_add_one,withL_lo (Nat.le_refl _),withL_at,withL_hi' (Nat.le_refl _) h,List.getElem?_eq_getElem hlt];rfl
theorem wl_d {l:List Ent}{x:Ent}{k q:Nat}(hq:placeN l x.index=q) (hk:q<k) (hlt:k<l.length):(withL l x).take (if hitB l x.index=true then k+1 else k+1+1)=(withL l x).take (if hitB l x.index=true then k else k+1)++[l[k]]:=by
 subst hq
 by_cases h:hitB l x.index=true
 ·rw [if_pos h,if_pos h,List.take_add_one,withL_hi hk h,List.getElem?_eq_getElem hlt];rfl
 ·rw [if_neg h,if_neg h,List.take_add_one,withL_hi' (by omega) h,List.getElem?_eq_getElem hlt];rfl
theorem wl_e {l:List Ent}{x:Ent}(h:placeN l x.index=l.length):withL l x=l++[x]:=by
 rw [withL_no (fun hh=>by have:=hitB_lt hh;omega),h,List.take_length,List.drop_length]
theorem grow_add {l:List Ent}{y:Ent}{v:Value}{ν:OH}(h:Grow 97 10 v (l.length+1) (esC l++y.cells) ν):Grow 97 10 v (l++[y]).length (esC (l++[y])) ν:=by
 rw [esC_append,List.length_append]
 simpa [esC] using h
theorem refWith_s {G:GH}{l:List Ent}{sv:Value}(x:Ent) (hs:Es G sv l) (hr:RiseL l) (hn:l.length≤200):Con Tryz.prog 109 #[sv,.agg x.cells.toArray] G [] (Mine (withL l x) G):=by
 have hp:=placeN_le l x.index
 have hpl:=fun m (h:m<l.length)=>placeN_lt (n:=x.index) hr h
 have hwl:=withL_len l x
 obtain ⟨A,c,rfl,hlc,hcm,hsome,hcp,hcb,hcc,hok⟩:=esOpen hs
 simp only [maxLen] at hcm
 obtain ⟨p,hpp⟩:∃ p,placeN l x.index=p:=⟨_,rfl⟩
 rw [hpp] at hp
 simp only [hpp] at hpl
 (refine v_enter Tryz.func109 rfl Tryz.ntmps109 rfl ?_;intro B _)
 repeat' (first|apply v_seq|apply v_region|apply v_nil|apply v_block|apply v_pure;(case hop=>(apply p_assign<;>rfl));(case hd=>rfl)|apply v_box (zs:=x.cells);(case hx|hz|hd=>rfl);intro bx|fail)
 refine v_loop [7,0,5,6,3] (fun us G' μ'=>G'=G∧∃ (k:Nat) (out:Value) (dn:Bool) (ν:OH) (m:List Ent),k≤l.length∧us=[Value.int .i64 (k:Nat),.slice A l.length c,out,.bool dn,.pointer (some ⟨bx,0,none⟩)]∧μ'=(bx,.cells x.cells.toArray 97 (0,0))::ν∧Grow 97 10 out m.length (esC m) ν∧((dn=false∧k≤p∧m=l.take k)∨(dn=true∧p<k∧m=(withL l x).take (if hitB l x.index=true then k else k+1)))) (fun us=>l.length-(headI us).toNat) rfl ⟨rfl,0,_,false,[],[],by omega,rfl,rfl,Grow.nil _ _,.inl ⟨rfl,by omega,rfl⟩⟩ ?_
 rintro us G' μ' ⟨rfl,k,out,dn,ν,m,hk,rfl,rfl,hg,hm⟩
 have e1:((k:Nat):Int).toNat=k:=by omega
 have hml:m.length≤k+1:=by
  rcases hm with ⟨_,_,rfl⟩|⟨_,_,rfl⟩
  ·rw [List.length_take];omega
  ·rw [List.length_take];split<;>omega
 rcases hm with ⟨rfl,hkp,hme⟩|⟨rfl,hkp,hme⟩
 ·repeat' (first|apply v_seq|apply v_region|apply v_nil|apply v_skip|apply v_block|apply v_exit;(case hp=>rfl)|apply v_pure;(case hop=>first|apply p_move<;>rfl|apply p_lt<;>rfl|apply p_not<;>rfl|apply p_lenSlice<;>rfl|fail);(case hd=>rfl)|apply v_condT;(case hc=>rfl)|apply v_cond;(case hc=>rfl);all_goals (intro h;(try simp only [reduceCtorEq,zzz] at h))|apply v_read;(case hop=>(apply r_loadNo;(case hx=>rfl);(case h=>repeat exact mhd _);(case hd=>repeat first|with_reducible exact dt_nil|apply dt_here);(case hn=>rfl)));(case hd=>rfl)|apply v_buildSlice;(case hz|hi=>rfl);(case hv=>(simp only [List.map_cons,List.map_nil];repeat (first|with_reducible exact evs_nil|apply evs_cons;(case h1=>rfl))));(case hp=>(apply pk_cons;(case hc|hs=>rfl);(case h=>(with_reducible exact pk_nil));(case he=>((repeat (first|with_reducible exact ap_nil|apply ap_cons));done))));(case hb|hd=>rfl);intro b|fail)
  ·have hlt:k<l.length:=by omega
   refine d_start _ (by kernel_rfl) (by kernel_rfl) (by kernel_rfl) (fun _ he=>he) ?_
   all_goals (apply dtm 0;(case hi|hx=>rfl);(case hq=>kernel_rfl);apply dtk 1;(case hi=>rfl);(case hop=>(apply prd;apply p_not<;>rfl));(case hq=>kernel_rfl))
   all_goals (apply dtm 2;(case hi|hx=>rfl);(case hq=>kernel_rfl))
   all_goals (try (apply d_guardB 3;(case hi|hgd|h1|h2=>rfl);all_goals (intro h;(try simp only [reduceCtorEq,zzz] at h))))
   all_goals (apply dtg 3;(case hi|hg=>rfl);(case hop=>(apply prd;apply p_move<;>rfl));(case hq=>kernel_rfl))
   all_goals (try (apply d_guardB 4;(case hi|hgd|h1|h2=>rfl);all_goals (intro h;(try simp only [reduceCtorEq,zzz] at h))))
   all_goals (apply dtg 4;(case hi|hg=>rfl);(case hop=>(apply prd;apply p_move<;>rfl));(case hq=>kernel_rfl))
   all_goals (try (apply d_guardB 5;(case hi|hgd|h1|h2=>rfl);all_goals (intro h;(try simp only [reduceCtorEq,zzz] at h))))
   all_goals (apply dtg 5;(case hi|hg=>rfl);(case hop=>(apply prd;apply p_indexAddrS;(case hx|hi=>rfl);(case h0|h=>omega);(case hA=>(apply_assumption;omega))));(case hq=>kernel_rfl))
   all_goals (try (apply d_guardB 6;(case hi|hgd|h1|h2=>rfl);all_goals (intro h;(try simp only [reduceCtorEq,zzz] at h))))
   all_goals (apply dtg 6;(case hi|hg=>rfl);(case hop=>(apply prd;apply p_fieldAddr<;>rfl));(case hq=>kernel_rfl))
   all_goals (try (apply d_guardB 7;(case hi|hgd|h1|h2=>rfl);all_goals (intro h;(try simp only [reduceCtorEq,zzz] at h))))
   all_goals (apply dtg 7;(case hi|hg=>rfl);(case hop=>((apply r_load1;rfl;exact Cell.frozen (esCell hcp _ (by omega)))));(case hq=>kernel_rfl))
   all_goals (try (apply d_guardB 8;(case hi|hgd|h1|h2=>rfl);all_goals (intro h;(try simp only [reduceCtorEq,zzz] at h))))
   all_goals (apply dtg 8;(case hi|hg=>rfl);(case hop=>(apply prd;apply p_fieldAddrB<;>rfl));(case hq=>kernel_rfl))
   all_goals (try (apply d_guardB 9;(case hi|hgd|h1|h2=>rfl);all_goals (intro h;(try simp only [reduceCtorEq,zzz] at h))))
   all_goals (apply dtg 9;(case hi|hg=>rfl);(case hop=>(apply r_load1;rfl;(apply Cell.own;(case h=>repeat exact mhd _);rfl)));(case hq=>kernel_rfl))
   all_goals (try (apply d_guardB 10;(case hi|hgd|h1|h2=>rfl);all_goals (intro h;(try simp only [reduceCtorEq,zzz] at h))))
   all_goals (apply dtg 10;(case hi|hg=>rfl);(case hop=>(apply prd;apply p_ge<;>rfl));(case hq=>kernel_rfl);apply dtk 11;(case hi=>rfl);(case hop=>(apply prd;apply p_pickT<;>rfl));(case hq=>kernel_rfl))
   all_goals (apply d_done;(case hr=>kernel_rfl))
   repeat' (first|apply v_seq|apply v_region|apply v_skip|apply v_pure;(case hop=>(apply p_move<;>rfl));(case hd=>rfl)|apply v_cond;(case hc=>rfl);all_goals (intro h;(try simp only [reduceCtorEq,zzz] at h))|apply v_read;(case hop=>(apply r_loadNo;(case hx=>rfl);(case h=>repeat exact mhd _);(case hd=>repeat first|with_reducible exact dt_nil|apply dt_here);(case hn=>rfl)));(case hd=>rfl)|apply v_buildSlice;(case hz|hi=>rfl);(case hv=>(simp only [List.map_cons,List.map_nil];repeat (first|with_reducible exact evs_nil|apply evs_cons;(case h1=>rfl))));(case hp=>(apply pk_cons;(case hc|hs=>rfl);(case h=>(with_reducible exact pk_nil));(case he=>((repeat (first|with_reducible exact ap_nil|apply ap_cons));done))));(case hb|hd=>rfl);intro b|fail)
   ·have hge:¬ l[k].index<x.index:=by simp only [e1] at *;omega
    have hkp':p=k:=by
     have:=mt (hpl k hlt).1 hge
     omega
    refine v_append (e:=97) (agg:=true) (sz:=10) (bytes:=104) (zero:=zE) rfl (by omega) rfl rfl hg (show List.Perm ((b,Obj.cells (x).cells.toArray 97 (0,0))::(bx,Obj.cells (x).cells.toArray 97 (0,0))::ν) _ from (List.perm_append_comm (l₁:=[(b,Obj.cells (x).cells.toArray 97 (0,0)),(bx,Obj.cells (x).cells.toArray 97 (0,0))]))) (m':=1) (us:=(x).cells) (Src.own (e:=97) (List.Mem.head _) rfl) rfl (by omega) (by simp only [maxLen];omega) rfl fun v1 ν1 hg1=>?_
    refine v_perm (show List.Perm (ν1++[(b,Obj.cells (x).cells.toArray 97 (0,0)),(bx,Obj.cells (x).cells.toArray 97 (0,0))]) (((bx,Obj.cells (x).cells.toArray 97 (0,0))::ν1)++[(b,Obj.cells (x).cells.toArray 97 (0,0))]) from (by apply perm_of_count;intro p;simp only [List.append_eq,List.countP_append,List.countP_cons,List.countP_nil,Nat.zero_add,Nat.add_zero];try ac_rfl)) ?_
    refine v_drop (ν:=(bx,Obj.cells (x).cells.toArray 97 (0,0))::ν1) (List.sublist_append_left _ _) ?_
    subst hme
    have hg2:=grow_add hg1
    have hl2:(l.take k++[x]).length≤k+1:=by rw [List.length_append,List.length_take,List.length_singleton];omega
    clear hg hg1
    generalize hm2:l.take k++[x]=m2 at *
    repeat' (first|apply v_seq|apply v_region|apply v_nil|apply v_pure;(case hop=>(apply p_assign<;>rfl));(case hd=>rfl)|fail)
    refine d_start _ (by kernel_rfl) (by kernel_rfl) (by kernel_rfl) (fun _ he=>he) ?_
    all_goals (apply dtm 0;(case hi|hx=>rfl);(case hq=>kernel_rfl);apply dtm 1;(case hi|hx=>rfl);(case hq=>kernel_rfl))
    all_goals (apply dtk 2;(case hi=>rfl);(case hop=>(apply prd;apply p_indexAddrS;(case hx|hi=>rfl);(case h0|h=>omega);(case hA=>(apply_assumption;omega))));(case hq=>kernel_rfl);apply dtk 3;(case hi=>rfl);(case hop=>(apply prd;apply p_fieldAddr<;>rfl));(case hq=>kernel_rfl))
    all_goals (apply dtk 4;(case hi=>rfl);(case hop=>((apply r_load1;rfl;exact Cell.frozen (esCell hcp _ (by omega)))));(case hq=>kernel_rfl))
    all_goals (apply dtk 5;(case hi=>rfl);(case hop=>(apply prd;apply p_fieldAddrB<;>rfl));(case hq=>kernel_rfl);apply dtk 6;(case hi=>rfl);(case hop=>(apply r_load1;rfl;(apply Cell.own;(case h=>repeat exact mhd _);rfl)));(case hq=>kernel_rfl))
    all_goals (apply dtk 7;(case hi=>rfl);(case hop=>(apply prd;apply p_ne<;>rfl));(case hq=>kernel_rfl))
    all_goals (apply d_done;(case hr=>kernel_rfl))
    repeat' (first|apply v_region|apply v_nil|apply v_skip|apply v_blk|apply v_pure;(case hop=>first|apply p_move<;>rfl|apply p_assign<;>rfl|apply p_add;(case hx|hy=>rfl);(case h=>omega)|apply p_indexAddrS;(case hx|hi=>rfl);(case h0|h=>omega);(case hA=>(apply_assumption;omega))|fail);(case hd=>rfl)|apply v_cond;(case hc=>rfl);all_goals (intro h;(try simp only [reduceCtorEq,zzz] at h))|apply v_read;(case hop=>(apply r_loadN;rfl;exact CellsAt.frozen (hcp _ (by omega));rfl));(case hd=>rfl)|apply v_buildSlice;(case hz|hi=>rfl);(case hv=>(simp only [List.map_cons,List.map_nil];repeat (first|with_reducible exact evs_nil|apply evs_cons;(case h1=>rfl))));(case hp=>(apply pk_cons;(case hc|hs=>rfl);(case h=>(with_reducible exact pk_nil));(case he=>((repeat (first|with_reducible exact ap_nil|apply ap_cons));done))));(case hb|hd=>rfl);intro b|fail)
    ·have hne:¬ l[k].index=x.index:=by simp only [e1] at *;assumption
     have hnh:¬ hitB l x.index=true:=fun hh=>by
      have h1:=hitB_index hh
      simp only [hpp,hkp'] at h1
      exact hne h1
     refine v_append (e:=97) (agg:=true) (sz:=10) (bytes:=104) (zero:=zE) rfl (by omega) rfl rfl hg2 (show List.Perm ((b,Obj.cells (l[k]'hlt).cells.toArray 97 (0,0))::(bx,Obj.cells (x).cells.toArray 97 (0,0))::ν1) _ from (List.perm_append_comm (l₁:=[(b,Obj.cells (l[k]'hlt).cells.toArray 97 (0,0)),(bx,Obj.cells (x).cells.toArray 97 (0,0))]))) (m':=1) (us:=(l[k]'hlt).cells) (Src.own (e:=97) (List.Mem.head _) rfl) rfl (by omega) (by simp only [maxLen];omega) rfl fun v2 ν2 hg3=>?_
     refine v_perm (show List.Perm (ν2++[(b,Obj.cells (l[k]'hlt).cells.toArray 97 (0,0)),(bx,Obj.cells (x).cells.toArray 97 (0,0))]) (((bx,Obj.cells (x).cells.toArray 97 (0,0))::ν2)++[(b,Obj.cells (l[k]'hlt).cells.toArray 97 (0,0))]) from (by apply perm_of_count;intro p;simp only [List.append_eq,List.countP_append,List.countP_cons,List.countP_nil,Nat.zero_add,Nat.add_zero];try ac_rfl)) ?_
     refine v_drop (ν:=(bx,Obj.cells (x).cells.toArray 97 (0,0))::ν2) (List.sublist_append_left _ _) ?_
     repeat' (first|apply v_region|apply v_nil|apply v_blk|apply v_pure;(case hop=>first|apply p_move<;>rfl|apply p_assign<;>rfl|apply p_add;(case hx|hy=>rfl);(case h=>omega)|fail);(case hd=>rfl)|fail)
     refine v_again rfl ⟨rfl,k+1,v2,true,ν2,m2++[l[k]],by omega,rfl,rfl,grow_add hg3,.inr ⟨rfl,by omega,?_⟩⟩ (by simp [headI];omega)
     rw [if_neg hnh,wl_c (hpp.trans hkp') hnh hlt,hm2]
    ·have he:l[k].index=x.index:=by simp only [e1] at *;assumption
     have hh:hitB l x.index=true:=by rw [← he];exact hitB_at hr hlt
     refine v_again rfl ⟨rfl,k+1,v1,true,ν1,m2,by omega,rfl,rfl,hg2,.inr ⟨rfl,by omega,?_⟩⟩ (by simp [headI];omega)
     rw [if_pos hh,wl_b (hpp.trans hkp') hh,hm2]
   ·have hlt':l[k].index<x.index:=by simp only [e1] at *;omega
    have hkp':k<p:=(hpl k hlt).2 hlt'
    refine d_start _ (by kernel_rfl) (by kernel_rfl) (by kernel_rfl) (fun _ he=>he) ?_
    all_goals (apply dtm 0;(case hi|hx=>rfl);(case hq=>kernel_rfl);apply dtm 1;(case hi|hx=>rfl);(case hq=>kernel_rfl))
    all_goals (apply dtk 2;(case hi=>rfl);(case hop=>(apply prd;apply p_indexAddrS;(case hx|hi=>rfl);(case h0|h=>omega);(case hA=>(apply_assumption;omega))));(case hq=>kernel_rfl);apply dtk 3;(case hi=>rfl);(case hop=>(apply prd;apply p_fieldAddr<;>rfl));(case hq=>kernel_rfl))
    all_goals (apply dtk 4;(case hi=>rfl);(case hop=>((apply r_load1;rfl;exact Cell.frozen (esCell hcp _ (by omega)))));(case hq=>kernel_rfl))
    all_goals (apply dtk 5;(case hi=>rfl);(case hop=>(apply prd;apply p_fieldAddrB<;>rfl));(case hq=>kernel_rfl);apply dtk 6;(case hi=>rfl);(case hop=>(apply r_load1;rfl;(apply Cell.own;(case h=>repeat exact mhd _);rfl)));(case hq=>kernel_rfl))
    all_goals (apply dtk 7;(case hi=>rfl);(case hop=>(apply prd;apply p_ne<;>rfl));(case hq=>kernel_rfl))
    all_goals (apply d_done;(case hr=>kernel_rfl))
    repeat' (first|apply v_region|apply v_pure;(case hop=>first|apply p_move<;>rfl|apply p_indexAddrS;(case hx|hi=>rfl);(case h0|h=>omega);(case hA=>(apply_assumption;omega))|fail);(case hd=>rfl)|apply v_cond;(case hc=>rfl);all_goals (intro h;(try simp only [reduceCtorEq,zzz] at h);try (exfalso;omega))|apply v_read;(case hop=>(apply r_loadN;rfl;exact CellsAt.frozen (hcp _ (by omega));rfl));(case hd=>rfl)|apply v_buildSlice;(case hz|hi=>rfl);(case hv=>(simp only [List.map_cons,List.map_nil];repeat (first|with_reducible exact evs_nil|apply evs_cons;(case h1=>rfl))));(case hp=>(apply pk_cons;(case hc|hs=>rfl);(case h=>(with_reducible exact pk_nil));(case he=>((repeat (first|with_reducible exact ap_nil|apply ap_cons));done))));(case hb|hd=>rfl);intro b|fail)
    ·skip
     refine v_append (e:=97) (agg:=true) (sz:=10) (bytes:=104) (zero:=zE) rfl (by omega) rfl rfl hg (show List.Perm ((b,Obj.cells (l[k]'hlt).cells.toArray 97 (0,0))::(bx,Obj.cells (x).cells.toArray 97 (0,0))::ν) _ from (List.perm_append_comm (l₁:=[(b,Obj.cells (l[k]'hlt).cells.toArray 97 (0,0)),(bx,Obj.cells (x).cells.toArray 97 (0,0))]))) (m':=1) (us:=(l[k]'hlt).cells) (Src.own (e:=97) (List.Mem.head _) rfl) rfl (by omega) (by simp only [maxLen];omega) rfl fun v1 ν1 hg1=>?_
     refine v_perm (show List.Perm (ν1++[(b,Obj.cells (l[k]'hlt).cells.toArray 97 (0,0)),(bx,Obj.cells (x).cells.toArray 97 (0,0))]) (((bx,Obj.cells (x).cells.toArray 97 (0,0))::ν1)++[(b,Obj.cells (l[k]'hlt).cells.toArray 97 (0,0))]) from (by apply perm_of_count;intro p;simp only [List.append_eq,List.countP_append,List.countP_cons,List.countP_nil,Nat.zero_add,Nat.add_zero];try ac_rfl)) ?_
     refine v_drop (ν:=(bx,Obj.cells (x).cells.toArray 97 (0,0))::ν1) (List.sublist_append_left _ _) ?_
     repeat' (first|apply v_region|apply v_nil|apply v_blk|apply v_pure;(case hop=>first|apply p_move<;>rfl|apply p_assign<;>rfl|apply p_add;(case hx|hy=>rfl);(case h=>omega)|fail);(case hd=>rfl)|fail)
     subst hme
     refine v_again rfl ⟨rfl,k+1,v1,false,ν1,l.take k++[l[k]],by omega,rfl,rfl,grow_add hg1,.inl ⟨rfl,by omega,(wl_a hlt).symm⟩⟩ (by simp [headI];omega)
  ·subst hme
   refine v_append (e:=97) (agg:=true) (sz:=10) (bytes:=104) (zero:=zE) rfl (by omega) rfl rfl hg (show List.Perm ((b,Obj.cells (x).cells.toArray 97 (0,0))::(bx,Obj.cells (x).cells.toArray 97 (0,0))::ν) _ from (List.perm_append_comm (l₁:=[(b,Obj.cells (x).cells.toArray 97 (0,0)),(bx,Obj.cells (x).cells.toArray 97 (0,0))]))) (m':=1) (us:=(x).cells) (Src.own (e:=97) (List.Mem.head _) rfl) rfl (by omega) (by simp only [maxLen];omega) rfl fun v1 ν1 hg1=>?_
   refine v_perm (show List.Perm (ν1++[(b,Obj.cells (x).cells.toArray 97 (0,0)),(bx,Obj.cells (x).cells.toArray 97 (0,0))]) (((bx,Obj.cells (x).cells.toArray 97 (0,0))::ν1)++[(b,Obj.cells (x).cells.toArray 97 (0,0))]) from (by apply perm_of_count;intro p;simp only [List.append_eq,List.countP_append,List.countP_cons,List.countP_nil,Nat.zero_add,Nat.add_zero];try ac_rfl)) ?_
   refine v_drop (ν:=(bx,Obj.cells (x).cells.toArray 97 (0,0))::ν1) (List.sublist_append_left _ _) ?_
   repeat' (first|apply v_seq|apply v_region|apply v_nil|apply v_pure;(case hop=>first|apply p_move<;>rfl|apply p_assign<;>rfl|fail);(case hd=>rfl)|fail)
   refine v_ret ν1 (outsA1 rfl rfl) (by repeat (first|exact List.Sublist.refl _|apply List.Sublist.cons)) ?_
   have hk':k=l.length:=by omega
   have hg2:=grow_add hg1
   rw [hk',List.take_length] at hg2
   refine ⟨rfl,?_⟩
   rw [wl_e (by omega)]
   exact hg2
 ·repeat' (first|apply v_seq|apply v_region|apply v_nil|apply v_skip|apply v_block|apply v_exit;(case hp=>rfl)|apply v_pure;(case hop=>first|apply p_move<;>rfl|apply p_lt<;>rfl|apply p_assign<;>rfl|apply p_not<;>rfl|apply p_lenSlice<;>rfl|fail);(case hd=>rfl)|apply v_condF;(case hc=>rfl)|apply v_cond;(case hc=>rfl);all_goals (intro h;(try simp only [reduceCtorEq,zzz] at h))|fail)
  ·have hlt:k<l.length:=by omega
   refine d_start _ (by kernel_rfl) (by kernel_rfl) (by kernel_rfl) (fun _ he=>he) ?_
   all_goals (apply dtm 0;(case hi|hx=>rfl);(case hq=>kernel_rfl);apply dtk 1;(case hi=>rfl);(case hop=>(apply prd;apply p_not<;>rfl));(case hq=>kernel_rfl))
   all_goals (apply dtm 2;(case hi|hx=>rfl);(case hq=>kernel_rfl))
   all_goals (try (apply d_guardB 3;(case hi|hgd|h1|h2=>rfl);all_goals (intro h;(try simp only [reduceCtorEq,zzz] at h))))
   all_goals (apply dpa 3;(case hi|hg|hn=>rfl);(case hq=>kernel_rfl))
   all_goals (try (apply d_guardB 4;(case hi|hgd|h1|h2=>rfl);all_goals (intro h;(try simp only [reduceCtorEq,zzz] at h))))
   all_goals (apply dpa 4;(case hi|hg|hn=>rfl);(case hq=>kernel_rfl))
   all_goals (try (apply d_guardB 5;(case hi|hgd|h1|h2=>rfl);all_goals (intro h;(try simp only [reduceCtorEq,zzz] at h))))
   all_goals (apply dpa 5;(case hi|hg|hn=>rfl);(case hq=>kernel_rfl))
   all_goals (try (apply d_guardB 6;(case hi|hgd|h1|h2=>rfl);all_goals (intro h;(try simp only [reduceCtorEq,zzz] at h))))
   all_goals (apply dpa 6;(case hi|hg|hn=>rfl);(case hq=>kernel_rfl))
   all_goals (try (apply d_guardB 7;(case hi|hgd|h1|h2=>rfl);all_goals (intro h;(try simp only [reduceCtorEq,zzz] at h))))
   all_goals (apply dpa 7;(case hi|hg|hn=>rfl);(case hq=>kernel_rfl))
   all_goals (try (apply d_guardB 8;(case hi|hgd|h1|h2=>rfl);all_goals (intro h;(try simp only [reduceCtorEq,zzz] at h))))
   all_goals (apply dpa 8;(case hi|hg|hn=>rfl);(case hq=>kernel_rfl))
   all_goals (try (apply d_guardB 9;(case hi|hgd|h1|h2=>rfl);all_goals (intro h;(try simp only [reduceCtorEq,zzz] at h))))
   all_goals (apply dpa 9;(case hi|hg|hn=>rfl);(case hq=>kernel_rfl))
   all_goals (try (apply d_guardB 10;(case hi|hgd|h1|h2=>rfl);all_goals (intro h;(try simp only [reduceCtorEq,zzz] at h))))
   all_goals (apply dpa 10;(case hi|hg|hn=>rfl);(case hq=>kernel_rfl))
   all_goals (apply dtk 11;(case hi=>rfl);(case hop=>(apply prd;apply p_pickF<;>rfl));(case hq=>kernel_rfl))
   all_goals (apply d_done;(case hr=>kernel_rfl))
   repeat' (first|apply v_seq|apply v_skip|apply v_condF;(case hc=>rfl)|fail)
   refine d_start _ (by kernel_rfl) (by kernel_rfl) (by kernel_rfl) (fun _ he=>he) ?_
   all_goals (apply dtm 0;(case hi|hx=>rfl);(case hq=>kernel_rfl);apply dtm 1;(case hi|hx=>rfl);(case hq=>kernel_rfl))
   all_goals (apply dtk 2;(case hi=>rfl);(case hop=>(apply prd;apply p_indexAddrS;(case hx|hi=>rfl);(case h0|h=>omega);(case hA=>(apply_assumption;omega))));(case hq=>kernel_rfl);apply dtk 3;(case hi=>rfl);(case hop=>(apply prd;apply p_fieldAddr<;>rfl));(case hq=>kernel_rfl))
   all_goals (apply dtk 4;(case hi=>rfl);(case hop=>((apply r_load1;rfl;exact Cell.frozen (esCell hcp _ (by omega)))));(case hq=>kernel_rfl))
   all_goals (apply dtk 5;(case hi=>rfl);(case hop=>(apply prd;apply p_fieldAddrB<;>rfl));(case hq=>kernel_rfl);apply dtk 6;(case hi=>rfl);(case hop=>(apply r_load1;rfl;(apply Cell.own;(case h=>repeat exact mhd _);rfl)));(case hq=>kernel_rfl))
   all_goals (apply dtk 7;(case hi=>rfl);(case hop=>(apply prd;apply p_ne<;>rfl));(case hq=>kernel_rfl))
   all_goals (apply d_done;(case hr=>kernel_rfl))
   repeat' (first|apply v_region|apply v_nil|apply v_skip|apply v_blk|apply v_pure;(case hop=>first|apply p_move<;>rfl|apply p_assign<;>rfl|apply p_add;(case hx|hy=>rfl);(case h=>omega)|apply p_indexAddrS;(case hx|hi=>rfl);(case h0|h=>omega);(case hA=>(apply_assumption;omega))|fail);(case hd=>rfl)|apply v_cond;(case hc=>rfl);all_goals (intro h;(try simp only [reduceCtorEq,zzz] at h))|apply v_read;(case hop=>(apply r_loadN;rfl;exact CellsAt.frozen (hcp _ (by omega));rfl));(case hd=>rfl)|apply v_buildSlice;(case hz|hi=>rfl);(case hv=>(simp only [List.map_cons,List.map_nil];repeat (first|with_reducible exact evs_nil|apply evs_cons;(case h1=>rfl))));(case hp=>(apply pk_cons;(case hc|hs=>rfl);(case h=>(with_reducible exact pk_nil));(case he=>((repeat (first|with_reducible exact ap_nil|apply ap_cons));done))));(case hb|hd=>rfl);intro b|fail)
   ·subst hme
    refine v_append (e:=97) (agg:=true) (sz:=10) (bytes:=104) (zero:=zE) rfl (by omega) rfl rfl hg (show List.Perm ((b,Obj.cells (l[k]'hlt).cells.toArray 97 (0,0))::(bx,Obj.cells (x).cells.toArray 97 (0,0))::ν) _ from (List.perm_append_comm (l₁:=[(b,Obj.cells (l[k]'hlt).cells.toArray 97 (0,0)),(bx,Obj.cells (x).cells.toArray 97 (0,0))]))) (m':=1) (us:=(l[k]'hlt).cells) (Src.own (e:=97) (List.Mem.head _) rfl) rfl (by omega) (by simp only [maxLen];omega) rfl fun v1 ν1 hg1=>?_
    refine v_perm (show List.Perm (ν1++[(b,Obj.cells (l[k]'hlt).cells.toArray 97 (0,0)),(bx,Obj.cells (x).cells.toArray 97 (0,0))]) (((bx,Obj.cells (x).cells.toArray 97 (0,0))::ν1)++[(b,Obj.cells (l[k]'hlt).cells.toArray 97 (0,0))]) from (by apply perm_of_count;intro p;simp only [List.append_eq,List.countP_append,List.countP_cons,List.countP_nil,Nat.zero_add,Nat.add_zero];try ac_rfl)) ?_
    refine v_drop (ν:=(bx,Obj.cells (x).cells.toArray 97 (0,0))::ν1) (List.sublist_append_left _ _) ?_
    repeat' (first|apply v_region|apply v_nil|apply v_blk|apply v_pure;(case hop=>first|apply p_move<;>rfl|apply p_assign<;>rfl|apply p_add;(case hx|hy=>rfl);(case h=>omega)|fail);(case hd=>rfl)|fail)
    refine v_again rfl ⟨rfl,k+1,v1,true,ν1,_,by omega,rfl,rfl,grow_add hg1,.inr ⟨rfl,by omega,?_⟩⟩ (by simp [headI];omega)
    rw [wl_d hpp hkp hlt]
   ·exfalso
    have h1:=hr p k hlt hkp
    have h2:=mt (hpl p (by omega)).2 (by omega)
    simp only [e1] at *
    omega
  ·refine v_ret ν (outsA1 rfl rfl) (by repeat (first|exact List.Sublist.refl _|apply List.Sublist.cons)) ?_
   refine ⟨rfl,?_⟩
   subst hme
   rw [List.take_of_length_le (by rw [hwl];split<;>omega)] at hg
   exact hg
theorem get_of {W l:List Ent}{a b:Nat}(h:W[a]? = l[b]?) (ha:a<W.length):∃ hb:b<l.length,W[a]=l[b]:=by
 rw [List.getElem?_eq_getElem ha] at h
 obtain ⟨hb,e⟩:=List.getElem?_eq_some_iff.1 h.symm
 exact ⟨hb,e.symm⟩
theorem withL_lo' {l:List Ent}{x:Ent}{k:Nat}(hk:k<placeN l x.index):(withL l x)[k]? = l[k]? := by
 have h:=congrArg (·[k]?) (withL_lo (l:=l) (x:=x) (k:=k+1) hk)
 simpa [List.getElem?_take] using h
theorem withL_x {l:List Ent}{x:Ent}{k:Nat}(hk:k=placeN l x.index) (h:k<(withL l x).length):(withL l x)[k]=x:=by
 have h1:=withL_at l x
 rw [← hk,List.getElem?_eq_getElem h] at h1
 exact Option.some.inj h1
theorem withL_rise {l:List Ent}{x:Ent}(hr:RiseL l):RiseL (withL l x):=by
 refine rise_of_step fun i hi h0=>?_
 by_cases h1:i<placeN l x.index
 ·obtain ⟨ha,ea⟩:=get_of (withL_lo' h1) hi
  obtain ⟨hb,eb⟩:=get_of (withL_lo' (k:=i-1) (by omega)) (show i-1<(withL l x).length by omega)
  rw [ea,eb]
  exact hr _ _ ha (by omega)
 by_cases h2:i=placeN l x.index
 ·obtain ⟨hb,eb⟩:=get_of (withL_lo' (k:=i-1) (by omega)) (show i-1<(withL l x).length by omega)
  rw [withL_x h2 hi,eb]
  exact (placeN_lt hr hb).1 (by omega)
 by_cases hh:hitB l x.index=true
 ·obtain ⟨ha,ea⟩:=get_of (withL_hi (by omega) hh) hi
  by_cases h3:i-1=placeN l x.index
  ·have h4:=hitB_index hh
   rw [withL_x h3 (by omega),ea,← h4]
   exact hr _ _ ha (by omega)
  ·obtain ⟨hb,eb⟩:=get_of (withL_hi (k:=i-1) (by omega) hh) (show i-1<(withL l x).length by omega)
   rw [ea,eb]
   exact hr _ _ ha (by omega)
 ·have e0:i=(i-1)+1:=by omega
  obtain ⟨ha,ea⟩:=get_of (a:=i) (b:=i-1) (by have:=withL_hi' (l:=l) (x:=x) (k:=i-1) (by omega) hh;rwa [← e0] at this) hi
  by_cases h3:i-1=placeN l x.index
  ·rw [withL_x h3 (by omega),ea]
   have h4:=mt (placeN_lt hr ha).2 (show ¬ i-1<placeN l x.index by omega)
   have h5:l[i-1].index≠x.index:=fun e=>hh (by rw [← e];exact hitB_at hr ha)
   omega
  ·obtain ⟨hb,eb⟩:=get_of (a:=i-1) (b:=i-2) (by have:=withL_hi' (l:=l) (x:=x) (k:=i-2) (by omega) hh;rwa [show i-2+1=i-1 by omega] at this) (show i-1<(withL l x).length by omega)
   rw [ea,eb]
   exact hr _ _ ha (by omega)
theorem withL_ok {l:List Ent}{x:Ent}(hl:∀ y∈l,y.ok) (hx:x.ok):∀ y∈withL l x,y.ok:=by
 intro y hy
 by_cases h:hitB l x.index=true
 ·rw [withL_hit h] at hy
  rcases List.mem_or_eq_of_mem_set hy with h1|h1
  ·exact hl y h1
  ·rw [h1];exact hx
 ·rw [withL_no h] at hy
  rcases List.mem_append.1 hy with h1|h1
  ·exact hl y (List.mem_of_mem_take h1)
  ·rcases List.mem_cons.1 h1 with h2|h2
   ·rw [h2];exact hx
   ·exact hl y (List.mem_of_mem_drop h2)
theorem chk_all {l:List Ent}:∀ (n k:Nat),l.length-k=n→chkK l k=0→∀ i (h:i<l.length),k≤i→oneI l[i]=0
 | 0,k,hn,_,i,h,hk=>by omega
 | n+1,k,hn,hc,i,h,hk=>by
  have hlt:k<l.length:=by omega
  rw [chkK,dif_pos hlt] at hc
  by_cases h1:oneI l[k]≠0
  ·rw [if_pos h1] at hc;exact absurd hc h1
  ·rw [if_neg h1] at hc
   by_cases hik:i=k
   ·subst hik;exact Decidable.not_not.1 h1
   ·have hnext:chkK l (k+1)=0:=by
     by_cases h0:0<k
     ·rw [dif_pos h0] at hc
      split at hc
      ·cases hc
      ·exact hc
     ·rw [dif_neg h0] at hc;exact hc
    exact chk_all n (k+1) (by omega) hnext i h (by omega)
def ins (x:Ent):List Ent→List Ent
 | [] => [x]
 | y::l=>if y.index<x.index then y::ins x l else if y.index=x.index then x::l else x::y::l
theorem ins_cons (x y:Ent) (l:List Ent):ins x (y::l)=if y.index<x.index then y::ins x l else if y.index=x.index then x::l else x::y::l:=rfl
theorem rise_pw {l:List Ent}:RiseL l↔l.Pairwise (fun a b=>a.index<b.index):=by
 rw [List.pairwise_iff_getElem]
 exact ⟨fun h i j hi hj hij=>h i j hj hij,fun h i j hj hij=>h i j (by omega) hj hij⟩
theorem placeN_cons (y:Ent) (l:List Ent) (n:Int):placeN (y::l) n=placeN l n+(if y.index<n then 1 else 0):=by
 unfold placeN
 rw [List.countP_cons]
 simp
theorem placeN_zero {l:List Ent}{n:Int}(h:∀ x∈l,n≤x.index):placeN l n=0:=by
 unfold placeN
 rw [List.countP_eq_zero]
 intro x hx
 have:=h x hx
 simp;omega
theorem hitB_iff {l:List Ent}(hr:RiseL l) (n:Int):hitB l n=true↔∃ x∈l,x.index=n:=by
 induction l with
 | nil=>simp [hitB]
 | cons y l ih =>
  have hp:=rise_pw.1 hr
  rw [List.pairwise_cons] at hp
  have hr':=rise_pw.2 hp.2
  have ih':=ih hr'
  by_cases hy:y.index<n
  ·have e:hitB (y::l) n=hitB l n:=by
    unfold hitB
    simp only [placeN_cons,if_pos hy,List.length_cons]
    by_cases hh:placeN l n<l.length
    ·rw [dif_pos (by omega),dif_pos hh]
     congr 1
    ·rw [dif_neg (by omega),dif_neg hh]
   rw [e,ih']
   simp only [List.mem_cons,exists_eq_or_imp]
   constructor
   ·exact .inr
   ·rintro (h|h)
    ·omega
    ·exact h
  ·have e:placeN (y::l) n=0:=by
    refine placeN_zero fun x hx=>?_
    rw [List.mem_cons] at hx
    obtain rfl|hx:=hx
    ·omega
    ·have:=hp.1 x hx;omega
   unfold hitB
   simp only [e,List.length_cons]
   rw [dif_pos (by omega)]
   simp only [List.getElem_cons_zero,decide_eq_true_eq,List.mem_cons,exists_eq_or_imp]
   constructor
   ·exact .inl
   ·rintro (h|⟨x,hx,h⟩)
    ·exact h
    ·have:=hp.1 x hx;omega
theorem withL_ins {l:List Ent}(hr:RiseL l) (x:Ent):withL l x=ins x l:=by
 induction l with
 | nil=>simp [withL,hitB,placeN,ins]
 | cons y l ih =>
  have hp:=rise_pw.1 hr
  rw [List.pairwise_cons] at hp
  have hr':=rise_pw.2 hp.2
  have ih':=ih hr'
  have hh:=hitB_iff hr x.index
  have hh':=hitB_iff hr' x.index
  unfold ins
  by_cases hy:y.index<x.index
  ·rw [if_pos hy,← ih']
   have e:placeN (y::l) x.index=placeN l x.index+1:=by rw [placeN_cons,if_pos hy]
   have eh:hitB (y::l) x.index=hitB l x.index:=by
    rw [Bool.eq_iff_iff,hh,hh']
    simp only [List.mem_cons,exists_eq_or_imp]
    constructor
    ·rintro (h|h)
     ·omega
     ·exact h
    ·exact .inr
   unfold withL
   rw [e,eh]
   split<;>simp
  ·rw [if_neg hy]
   have e:placeN (y::l) x.index=0:=by
    refine placeN_zero fun z hz=>?_
    rw [List.mem_cons] at hz
    obtain rfl|hz:=hz
    ·omega
    ·have:=hp.1 z hz;omega
   unfold withL
   rw [e]
   by_cases he:y.index=x.index
   ·rw [if_pos he,if_pos (hh.2 ⟨y,by simp,he⟩)]
    rfl
   ·rw [if_neg he,if_neg]
    ·rfl
    ·rw [hh]
     rintro ⟨z,hz,h⟩
     rw [List.mem_cons] at hz
     obtain rfl|hz:=hz
     ·exact he h
     ·have:=hp.1 z hz;omega
theorem mem_ins {x z:Ent}:∀ {l:List Ent},z∈ins x l→z=x∨z∈l
 | [],h=>by simp [ins] at h;exact .inl h
 | y::l,h=>by
  unfold ins at h
  split at h
  ·rw [List.mem_cons] at h ⊢
   obtain h|h:=h
   ·exact .inr (.inl h)
   ·obtain h|h:=mem_ins h
    ·exact .inl h
    ·exact .inr (.inr h)
  ·split at h
   ·rw [List.mem_cons] at h ⊢
    obtain h|h:=h
    ·exact .inl h
    ·exact .inr (.inr h)
   ·rw [List.mem_cons] at h
    exact h
theorem ins_filter (b:Int) (x:Ent):∀ l:List Ent,(ins x l).filter (fun e=>decide (b<e.index))=if b<x.index then ins x (l.filter (fun e=>decide (b<e.index))) else l.filter (fun e=>decide (b<e.index))
 | []=>by
  unfold ins
  by_cases hb:b<x.index<;>simp [hb,ins]
 | y::l=>by
  have ih:=ins_filter b x l
  rw [ins_cons]
  by_cases h1:y.index<x.index
  ·rw [if_pos h1,List.filter_cons,List.filter_cons,ih]
   by_cases hy:b<y.index
   ·have hx:b<x.index:=by omega
    simp only [hy,hx,decide_true,if_true,ins_cons,h1]
   ·simp only [hy,decide_false,if_false,Bool.false_eq_true]
  ·rw [if_neg h1]
   by_cases h2:y.index=x.index
   ·rw [if_pos h2,List.filter_cons,List.filter_cons]
    by_cases hb:b<x.index
    ·have hy:b<y.index:=by omega
     simp only [hb,hy,decide_true,if_true,ins_cons,h1,h2,if_false,Int.lt_irrefl]
    ·have hy:¬ b<y.index:=by omega
     simp only [hb,hy,decide_false,if_false,Bool.false_eq_true]
   ·rw [if_neg h2,List.filter_cons]
    by_cases hb:b<x.index
    ·have hy:b<y.index:=by omega
     rw [List.filter_cons]
     simp only [hb,hy,decide_true,if_true,ins_cons,h1,h2,if_false,Int.lt_irrefl]
    ·simp only [hb,decide_false,if_false,Bool.false_eq_true]
def insN (x:Ent) (l:List Ent):List Ent:=if ∃ y∈l,y.index=x.index then l else ins x l
theorem insN_filter (b:Int) (x:Ent) (l:List Ent):(insN x l).filter (fun e=>decide (b<e.index))=if b<x.index then insN x (l.filter (fun e=>decide (b<e.index))) else l.filter (fun e=>decide (b<e.index)):=by
 unfold insN
 by_cases hb:b<x.index
 ·rw [if_pos hb]
  have e:(∃ y∈l.filter (fun e=>decide (b<e.index)),y.index=x.index)↔∃ y∈l,y.index=x.index:=by
   constructor
   ·rintro ⟨y,hy,h⟩;exact ⟨y,(List.mem_filter.1 hy).1,h⟩
   ·rintro ⟨y,hy,h⟩;exact ⟨y,List.mem_filter.2 ⟨hy,by simp;omega⟩,h⟩
  by_cases hc:∃ y∈l,y.index=x.index
  ·rw [if_pos hc,if_pos (e.2 hc)]
  ·rw [if_neg hc,if_neg fun h=>hc (e.1 h),ins_filter,if_pos hb]
 ·rw [if_neg hb]
  split
  ·rfl
  ·rw [ins_filter,if_neg hb]
theorem rise_ins {l:List Ent}(hr:RiseL l) (x:Ent):RiseL (ins x l):=by
 rw [← withL_ins hr]
 exact withL_rise hr
theorem rise_insN {l:List Ent}(hr:RiseL l) (x:Ent):RiseL (insN x l):=by
 unfold insN
 split
 ·exact hr
 ·exact rise_ins hr x
theorem rise_filter {l:List Ent}(hr:RiseL l) (p:Ent→Bool):RiseL (l.filter p):=rise_pw.2 ((rise_pw.1 hr).filter p)
theorem drop_filter {l:List Ent}(hr:RiseL l) (n:Int):l.drop (placeN l (n+1))=l.filter (fun e=>decide (n<e.index)):=by
 induction l with
 | nil=>simp [placeN]
 | cons y l ih =>
  have hp:=rise_pw.1 hr
  rw [List.pairwise_cons] at hp
  have ih':=ih (rise_pw.2 hp.2)
  rw [placeN_cons,List.filter_cons]
  by_cases hy:y.index<n+1
  ·rw [if_pos hy,List.drop_succ_cons,ih']
   have:¬ n<y.index:=by omega
   simp [this]
  ·have hy':n<y.index:=by omega
   have e:placeN l (n+1)=0:=placeN_zero fun z hz=>by have:=hp.1 z hz;omega
   rw [if_neg hy,e]
   simp only [hy',decide_true,if_true,List.drop_zero,Nat.add_zero]
   congr 1
   symm
   rw [List.filter_eq_self]
   intro z hz
   have:=hp.1 z hz
   simp;omega
def lessP (r n r' n':Int):Prop:=r<r'∨(r=r'∧n<n')
instance (r n r' n':Int):Decidable (lessP r n r' n'):=by unfold lessP;infer_instance
abbrev twoI (a b:Int):Obj:=.cells [.int .i64 a,.int .i64 b].toArray 3 (0,0)
theorem cmpOr_s (G:GH) (sb:Nat) (a b:Int):Con Tryz.prog 126 #[.slice (some ⟨sb,0,none⟩) 2 2] G [(sb,twoI a b)] (Keeps (.int .i64 (if a≠0 then a else b)) G [(sb,twoI a b)]):=by
 apply Con.keeps
 (refine v_enter Tryz.func126 rfl Tryz.ntmps126 rfl ?_;intro B _)
 repeat' (first|apply v_seq|apply v_region|apply v_nil|apply v_block|apply v_pure;(case hop=>first|apply p_move<;>rfl|apply p_assign<;>rfl|apply p_lenSlice<;>rfl|fail);(case hd=>rfl)|fail)
 refine v_loop [8,7,6,3,2] (fun us G' μ'=>G'=G∧μ'=[(sb,twoI a b)]∧∃ k:Nat,k≤2∧us=[Value.int .i64 (k:Nat),.int .i64 2,.slice (some ⟨sb,0,none⟩) 2 2,.int .i64 0,.int .i64 0]∧(1≤k→a=0)∧(2≤k→b=0)) (fun us=>3-(headI us).toNat) rfl ⟨rfl,rfl,0,by omega,rfl,by omega,by omega⟩ ?_
 rintro us G' μ' ⟨rfl,rfl,k,hk,rfl,h1,h2⟩
 obtain rfl|rfl|rfl:k=0∨k=1∨k=2:=by omega
 ·repeat' (first|apply v_seq|apply v_region|apply v_nil|apply v_skip|apply v_block|apply v_blk|apply v_pure;(case hop=>first|apply p_move<;>rfl|apply p_lt<;>rfl|apply p_ne<;>rfl|apply p_assign<;>rfl|apply p_add;(case hx|hy=>rfl);(case h=>omega)|apply p_indexAddr;(case hx|hi=>rfl);(case h0|h=>omega)|fail);(case hd=>rfl)|apply v_cond;(case hc=>rfl);all_goals (intro h;(try simp only [reduceCtorEq,zzz] at h);try (exfalso;omega))|apply v_read;(case hop=>(apply r_load1;rfl;(apply Cell.own;(case h=>repeat exact mhd _);rfl)));(case hd=>rfl)|fail)
  ·refine v_ret [(sb,_)] (outsA1 rfl rfl) (by repeat (exact List.Sublist.refl _)) ?_
   exact ⟨by rw [if_pos (by assumption)],rfl⟩
  ·refine v_again rfl ⟨rfl,rfl,1,by omega,rfl,fun _=>by omega,by omega⟩ (by simp [headI])
 ·have h1:=h1 (by omega)
  repeat' (first|apply v_seq|apply v_region|apply v_nil|apply v_skip|apply v_block|apply v_blk|apply v_pure;(case hop=>first|apply p_move<;>rfl|apply p_lt<;>rfl|apply p_ne<;>rfl|apply p_assign<;>rfl|apply p_add;(case hx|hy=>rfl);(case h=>omega)|apply p_indexAddr;(case hx|hi=>rfl);(case h0|h=>omega)|fail);(case hd=>rfl)|apply v_cond;(case hc=>rfl);all_goals (intro h;(try simp only [reduceCtorEq,zzz] at h);try (exfalso;omega))|apply v_read;(case hop=>(apply r_load1;rfl;(apply Cell.own;(case h=>repeat exact mhd _);rfl)));(case hd=>rfl)|fail)
  ·refine v_ret [(sb,_)] (outsA1 rfl rfl) (by repeat (exact List.Sublist.refl _)) ?_
   exact ⟨by rw [if_neg (by omega)],rfl⟩
  ·refine v_again rfl ⟨rfl,rfl,2,by omega,rfl,fun _=>by omega,fun _=>by omega⟩ (by simp [headI])
 ·have h1:=h1 (by omega)
  have h2:=h2 (by omega)
  repeat' (first|apply v_seq|apply v_region|apply v_nil|apply v_exit;(case hp=>rfl)|apply v_pure;(case hop=>first|apply p_move<;>rfl|apply p_lt<;>rfl|apply p_assign<;>rfl|fail);(case hd=>rfl)|apply v_cond;(case hc=>rfl);all_goals (intro h;(try simp only [reduceCtorEq,zzz] at h);try (exfalso;omega))|fail)
  refine v_ret [(sb,_)] (outsA1 rfl rfl) (by repeat (exact List.Sublist.refl _)) ?_
  exact ⟨by rw [if_neg (by omega),h2],rfl⟩
theorem less_s (G:GH) (r n r' n':Int):Con Tryz.prog 83 #[.agg #[.int .i64 r,.int .i64 n],.agg #[.int .i64 r',.int .i64 n']] G [] (Just (.bool (decide (lessP r n r' n'))) G):=by
 have q1:=cmp_s G r r'
 have q2:=cmp_s G n n'
 have qo:=fun sb=>cmpOr_s G sb (cmpI r r') (cmpI n n')
 have key:dec ((if cmpI r r'≠0 then cmpI r r' else cmpI n n')<0)=decide (lessP r n r' n'):=by
  rw [dec_eq]
  congr 1
  rw [eq_iff_iff]
  have a1 := @cmpI_lt r r'
  have a2 := @cmpI_eq r r'
  have a3 := @cmpI_lt n n'
  unfold lessP
  by_cases h:cmpI r r'=0
  ·rw [if_neg (by omega)];omega
  ·rw [if_pos h];omega
 apply Con.just
 (refine v_enter Tryz.func83 rfl Tryz.ntmps83 rfl ?_;intro B _)
 repeat' (first|apply v_seq|apply v_region|apply v_nil|apply v_pure;(case hop=>(apply p_assign<;>rfl));(case hd=>rfl)|apply v_box;(case hx|hz|hd=>rfl);intro b|fail)
 refine d_start _ (by kernel_rfl) (by kernel_rfl) (by kernel_rfl) (fun _ he=>he) ?_
 all_goals (apply dtk 0;(case hi=>rfl);(case hop=>(apply prd;apply p_fieldAddrB<;>rfl));(case hq=>kernel_rfl);apply dtk 1;(case hi=>rfl);(case hop=>first|apply r_loadNo;(case hx=>rfl);(case h=>repeat fail);(case hd=>repeat fail);(case hn=>rfl)|apply r_load1;rfl;(apply Cell.own;(case h=>repeat first|exact mhd _|apply mtl);rfl)|apply r_loadN;rfl;(apply CellsAt.own;(case h=>repeat fail));rfl);(case hq=>kernel_rfl))
 all_goals (apply dtk 2;(case hi=>rfl);(case hop=>(apply prd;apply p_fieldAddrB<;>rfl));(case hq=>kernel_rfl);apply dtk 3;(case hi=>rfl);(case hop=>first|apply r_loadNo;(case hx=>rfl);(case h=>repeat fail);(case hd=>repeat fail);(case hn=>rfl)|apply r_load1;rfl;(apply Cell.own;(case h=>repeat exact mhd _);rfl)|apply r_loadN;rfl;(apply CellsAt.own;(case h=>repeat fail));rfl);(case hq=>kernel_rfl))
 all_goals (apply dtk 5;(case hi=>rfl);(case hop=>(apply prd;apply p_fieldAddrB<;>rfl));(case hq=>kernel_rfl);apply dtk 6;(case hi=>rfl);(case hop=>first|apply r_loadNo;(case hx=>rfl);(case h=>repeat fail);(case hd=>repeat fail);(case hn=>rfl)|apply r_load1;rfl;(apply Cell.own;(case h=>repeat first|exact mhd _|apply mtl);rfl)|apply r_loadN;rfl;(apply CellsAt.own;(case h=>repeat fail));rfl);(case hq=>kernel_rfl))
 all_goals (apply dtk 7;(case hi=>rfl);(case hop=>(apply prd;apply p_fieldAddrB<;>rfl));(case hq=>kernel_rfl);apply dtk 8;(case hi=>rfl);(case hop=>first|apply r_loadNo;(case hx=>rfl);(case h=>repeat fail);(case hd=>repeat fail);(case hn=>rfl)|apply r_load1;rfl;(apply Cell.own;(case h=>repeat exact mhd _);rfl)|apply r_loadN;rfl;(apply CellsAt.own;(case h=>repeat fail));rfl);(case hq=>kernel_rfl))
 all_goals (apply d_callJ 4 (hs:=q1);(case hi=>rfl);(case hr=>kernel_rfl);(case ha|hd=>rfl))
 all_goals (apply d_callJ 9 (hs:=q2);(case hi=>rfl);(case hr=>kernel_rfl);(case ha|hd=>rfl))
 all_goals (apply d_buildSlice 10;(case hi=>rfl);(case hr=>kernel_rfl);(case hT=>infer_instance);(case hL=>infer_instance);(case hz|hl=>rfl);(case hv=>(simp only [List.map_cons,List.map_nil];repeat (first|with_reducible exact evs_nil|apply evs_cons;(case h1=>rfl))));(case hp=>(apply pk_cons;(case hc|hs=>rfl);(case h=>(apply pk_cons;(case hc|hs=>rfl);(case h=>(with_reducible exact pk_nil));(case he=>((repeat (first|with_reducible exact ap_nil|apply ap_cons));done))));(case he=>((repeat (first|with_reducible exact ap_nil|apply ap_cons));done))));(case hb|hd=>rfl);(case hν=>intro e he;exact he);intro sb)
 all_goals (apply d_callK 11 (hs:=qo _);(case hi=>rfl);(case hr=>kernel_rfl);(case ha=>rfl);(case hp=>exact (Pick.perm (by repeat (exact Pick.here _))));(case hd=>rfl))
 all_goals (apply dtk 12;(case hi=>rfl);(case hop=>(apply prd;apply p_lt<;>rfl));(case hq=>kernel_rfl);apply dta 13;(case hi|hx=>rfl);(case hq=>kernel_rfl))
 all_goals (apply d_done;(case hr=>kernel_rfl))
 repeat' (fail)
 refine v_ret [] (outsA1 rfl rfl) (by repeat (exact List.nil_sublist _)) ?_
 exact ⟨by rw [key],rfl⟩
theorem refLess_s (G:GH) (r n r' n':Int):Con Tryz.prog 54 #[.agg #[.int .i64 r,.int .i64 n],.agg #[.int .i64 r',.int .i64 n']] G [] (Just (.bool (decide (lessP r n r' n'))) G):=by
 apply Con.just
 (refine v_enter Tryz.func54 rfl Tryz.ntmps54 rfl ?_;intro B _)
 repeat' (first|apply v_seq|apply v_region|apply v_nil|apply v_skip|apply v_pure;(case hop=>first|apply p_eq<;>rfl|apply p_lt<;>rfl|apply p_assign<;>rfl|apply p_fieldAddrB<;>rfl|fail);(case hd=>rfl)|apply v_cond;(case hc=>rfl);all_goals (intro h;(try simp only [reduceCtorEq,zzz] at h))|apply v_read;(case hop=>(apply r_load1;rfl;(apply Cell.own;(case h=>repeat first|exact mhd _|apply mtl);rfl)));(case hd=>rfl)|apply v_box;(case hx|hz|hd=>rfl);intro b|fail)
 all_goals
  (refine v_ret [] (outsA1 rfl rfl) (by repeat (exact List.nil_sublist _)) ?_
   refine ⟨?_,rfl⟩
   rw [dec_eq]
   congr 1
   rw [decide_eq_decide]
   unfold lessP
   omega)
structure Hd where
 pr:Int
 pn:Int
 base:Int
 image:List Int
 acc:List Ent
 cho:List Ent
def Hd.zero:Hd:=⟨0,0,0,[],[],[]⟩
def entOf (x:Rc):Ent:=⟨x.index,x.round,x.node,x.cmd⟩
def Hd.prom (h:Hd) (x:Rc):Hd:=if lessP h.pr h.pn x.round x.node then { h with pr:=x.round,pn:=x.node } else h
noncomputable def chg (h:Hd) (x:Rc):Hd :=
 if x.kind=1 then h.prom x
 else if x.kind=2 then (if (h.prom x).base<x.index then { h.prom x with acc:=withL (h.prom x).acc (entOf x) } else h.prom x)
 else if x.kind=3 then (if hitB h.cho x.index=false∧h.base<x.index then { h with cho:=withL h.cho ⟨x.index,0,0,x.cmd⟩ } else h)
 else if x.index≤h.base then h
 else { h with base:=x.index,image:=x.image,acc:=h.acc.drop (placeN h.acc (x.index+1)),cho:=h.cho.drop (placeN h.cho (x.index+1)) }
noncomputable def stepH (h:Hd) (x:Rc):Hd:=if chkI x=0 then chg h x else h
noncomputable def hardOf (l:List Rc):Hd:=l.foldl stepH Hd.zero
noncomputable def r1 (h:Hd) (x:Rc):Hd :=
 if chkI x=0 then (if x.kind=1∨x.kind=2 then h.prom x else if x.kind=4∧h.base<x.index then { h with base:=x.index,image:=x.image } else h) else h
noncomputable def accS (b:Int) (L:List Ent) (x:Rc):List Ent:=if chkI x=0∧x.kind=2∧b<x.index then ins (entOf x) L else L
noncomputable def choS (b:Int) (L:List Ent) (x:Rc):List Ent:=if chkI x=0∧x.kind=3∧b<x.index then insN (entOf x) L else L
theorem accS_filter {b b':Int}(hb:b≤b') (x:Rc) (L:List Ent):(accS b L x).filter (fun e=>decide (b'<e.index))=accS b' (L.filter (fun e=>decide (b'<e.index))) x:=by
 unfold accS
 by_cases h:chkI x=0∧x.kind=2∧b<x.index
 ·rw [if_pos h,ins_filter]
  have e:(entOf x).index=x.index:=rfl
  rw [e]
  by_cases h':b'<x.index
  ·rw [if_pos h',if_pos ⟨h.1,h.2.1,h'⟩]
  ·rw [if_neg h',if_neg fun hh=>h' hh.2.2]
 ·rw [if_neg h,if_neg fun hh=>h ⟨hh.1,hh.2.1,by omega⟩]
theorem choS_filter {b b':Int}(hb:b≤b') (x:Rc) (L:List Ent):(choS b L x).filter (fun e=>decide (b'<e.index))=choS b' (L.filter (fun e=>decide (b'<e.index))) x:=by
 unfold choS
 by_cases h:chkI x=0∧x.kind=3∧b<x.index
 ·rw [if_pos h,insN_filter]
  have e:(entOf x).index=x.index:=rfl
  rw [e]
  by_cases h':b'<x.index
  ·rw [if_pos h',if_pos ⟨h.1,h.2.1,h'⟩]
  ·rw [if_neg h',if_neg fun hh=>h' hh.2.2]
 ·rw [if_neg h,if_neg fun hh=>h ⟨hh.1,hh.2.1,by omega⟩]
theorem accF_filter {b b':Int}(hb:b≤b'):∀ (l:List Rc) (L:List Ent),(l.foldl (accS b) L).filter (fun e=>decide (b'<e.index))=l.foldl (accS b') (L.filter (fun e=>decide (b'<e.index)))
 | [],L=>rfl
 | x::l,L=>by rw [List.foldl_cons,List.foldl_cons,accF_filter hb l,accS_filter hb]
theorem choF_filter {b b':Int}(hb:b≤b'):∀ (l:List Rc) (L:List Ent),(l.foldl (choS b) L).filter (fun e=>decide (b'<e.index))=l.foldl (choS b') (L.filter (fun e=>decide (b'<e.index)))
 | [],L=>rfl
 | x::l,L=>by rw [List.foldl_cons,List.foldl_cons,choF_filter hb l,choS_filter hb]
structure Good (n:Nat) (h:Hd):Prop where
 may:mayP h.pr h.pn
 base:0≤h.base∧h.base≤4294967296
 img:h.image.length≤32768∧(0<h.base↔0<h.image.length)
 racc:RiseL h.acc
 rcho:RiseL h.cho
 nacc:h.acc.length≤n
 ncho:h.cho.length≤n
 acc:∀ e∈h.acc,oneI e=0∧e.ok∧h.base<e.index∧e.round≠0∧¬ lessP h.pr h.pn e.round e.node
 cho:∀ e∈h.cho,oneI e=0∧e.ok∧h.base<e.index∧e.round=0∧e.node=0
theorem good_zero:Good 0 Hd.zero:=by
 refine ⟨.inl ⟨rfl,rfl⟩,by decide,by decide,?_,?_,by decide,by decide,?_,?_⟩
 ·intro i j hj;simp [Hd.zero] at hj
 ·intro i j hj;simp [Hd.zero] at hj
 ·intro e he;simp [Hd.zero] at he
 ·intro e he;simp [Hd.zero] at he
theorem ins_len (x:Ent):∀ l:List Ent,(ins x l).length≤l.length+1
 | []=>by simp [ins]
 | y::l=>by
  have:=ins_len x l
  rw [ins_cons]
  split
  ·simp;omega
  ·split<;>simp
theorem Good.more {n m:Nat}{h:Hd}(g:Good n h) (hm:n≤m):Good m h:=⟨g.may,g.base,g.img,g.racc,g.rcho,Nat.le_trans g.nacc hm,Nat.le_trans g.ncho hm,g.acc,g.cho⟩
theorem prom_base (h:Hd) (x:Rc):(h.prom x).base=h.base∧(h.prom x).image=h.image∧(h.prom x).acc=h.acc∧(h.prom x).cho=h.cho:=by
 unfold Hd.prom
 split<;>exact ⟨rfl,rfl,rfl,rfl⟩
theorem good_prom {n:Nat}{h:Hd}(g:Good n h) {x:Rc}(hm:mayP x.round x.node):Good n (h.prom x)∧¬ lessP (h.prom x).pr (h.prom x).pn x.round x.node:=by
 unfold Hd.prom
 by_cases hl:lessP h.pr h.pn x.round x.node
 ·rw [if_pos hl]
  refine ⟨⟨hm,g.base,g.img,g.racc,g.rcho,g.nacc,g.ncho,fun e he=>?_,g.cho⟩,by unfold lessP;simp only;omega⟩
  obtain ⟨h1,h2,h3,h4,h5⟩:=g.acc e he
  refine ⟨h1,h2,h3,h4,?_⟩
  unfold lessP at hl h5 ⊢
  simp only
  omega
 ·rw [if_neg hl]
  exact ⟨g,hl⟩
theorem good_chg {n:Nat}{h:Hd}(g:Good n h) {x:Rc}(hx:chkI x=0) (hc:x.cmd.ok):Good (n+1) (chg h x):=by
 have h0:recI x.kind x.round x.node x.index x.cmd x.image.length=0:=hx
 obtain ⟨hk,hr,hi,hcc,ho⟩:=rec0 h0
 obtain ⟨hfit,hsm,him,hsz⟩:=fits0 h0
 unfold ranP at hr
 unfold chg
 by_cases k1:x.kind=1
 ·rw [if_pos k1]
  exact (good_prom g (hr.1 (.inl k1)).1).1.more (by omega)
 rw [if_neg k1]
 by_cases k2:x.kind=2
 ·rw [if_pos k2]
  obtain ⟨g1,hnl⟩:=good_prom g (x:=x) (hr.1 (.inr k2)).1
  have hm:=(hr.1 (.inr k2))
  split
  ·rename_i hlt
   have hcmd:=hcc (.inl k2)
   have hidx:=hr.2 (.inl k2)
   have hone:oneI (entOf x)=0:=by
    unfold oneI entOf
    rw [if_neg]
    ·exact hcmd
    ·rintro (hh|hh|hh)
     ·simp only at hh;omega
     ·simp only at hh;omega
     ·exact hh hm.1
   have hok:(entOf x).ok:=by
    have hw:=hm.1
    unfold mayP at hw
    exact ⟨wf64 (n:=x.index) (by omega),wf64 (n:=x.round) (by omega),wf64 (n:=x.node) (by omega),hc⟩
   rw [withL_ins g1.racc]
   refine ⟨g1.may,g1.base,g1.img,rise_ins g1.racc _,g1.rcho,Nat.le_trans (ins_len _ _) (by have:=g1.nacc;omega),Nat.le_trans g1.ncho (by omega),fun e he=>?_,g1.cho⟩
   obtain rfl|he:=mem_ins he
   ·refine ⟨hone,hok,hlt,?_,hnl⟩
    have hm1:=hm.1
    unfold mayP at hm1
    intro hz
    have:x.round=0:=hz
    have hm2:=hm.2
    omega
   ·exact g1.acc e he
  ·exact g1.more (by omega)
 rw [if_neg k2]
 by_cases k3:x.kind=3
 ·rw [if_pos k3]
  split
  ·rename_i hcond
   have hcmd:=hcc (.inr k3)
   have hidx:=hr.2 (.inr (.inl k3))
   have hone:oneI ⟨x.index,0,0,x.cmd⟩=0:=by
    unfold oneI
    rw [if_neg]
    ·exact hcmd
    ·rintro (hh|hh|hh)
     ·simp only at hh;omega
     ·simp only at hh;omega
     ·exact hh (.inl ⟨rfl,rfl⟩)
   have hok:(⟨x.index,0,0,x.cmd⟩:Ent).ok:=⟨wf64 (n:=x.index) (by omega),wf64 (n:=0) (by omega),wf64 (n:=0) (by omega),hc⟩
   rw [withL_ins g.rcho]
   refine ⟨g.may,g.base,g.img,g.racc,rise_ins g.rcho _,Nat.le_trans g.nacc (by omega),Nat.le_trans (ins_len _ _) (by have:=g.ncho;omega),g.acc,fun e he=>?_⟩
   obtain rfl|he:=mem_ins he
   ·exact ⟨hone,hok,hcond.2,rfl,rfl⟩
   ·exact g.cho e he
  ·exact g.more (by omega)
 rw [if_neg k3]
 have k4:x.kind=4:=by omega
 have hidx:=hr.2 (.inr (.inr k4))
 split
 ·exact g.more (by omega)
 ·rename_i hlt
  have hpos:0<x.image.length:=by unfold othP at ho;omega
  rw [drop_filter g.racc,drop_filter g.rcho]
  refine ⟨g.may,by simp only;omega,by simp only;omega,rise_filter g.racc _,rise_filter g.rcho _,Nat.le_trans (List.length_filter_le _ _) (by have:=g.nacc;omega),Nat.le_trans (List.length_filter_le _ _) (by have:=g.ncho;omega),fun e he=>?_,fun e he=>?_⟩
  ·obtain ⟨h1,h2⟩:=List.mem_filter.1 he
   obtain ⟨a1,a2,a3,a4,a5⟩:=g.acc e h1
   exact ⟨a1,a2,of_decide_eq_true h2,a4,a5⟩
  ·obtain ⟨h1,h2⟩:=List.mem_filter.1 he
   obtain ⟨a1,a2,a3,a4,a5⟩:=g.cho e h1
   exact ⟨a1,a2,of_decide_eq_true h2,a4,a5⟩
structure Inv (pre:List Rc) (h h1:Hd):Prop where
 pr:h1.pr=h.pr
 pn:h1.pn=h.pn
 base:h1.base=h.base
 image:h1.image=h.image
 acc:h.acc=pre.foldl (accS h.base) []
 cho:h.cho=pre.foldl (choS h.base) []
 good:Good pre.length h
theorem inv_zero:Inv [] Hd.zero Hd.zero:=⟨rfl,rfl,rfl,rfl,rfl,rfl,good_zero⟩
theorem prom_eq {h h1:Hd}(e1:h1.pr=h.pr) (e2:h1.pn=h.pn) (x:Rc):(h1.prom x).pr=(h.prom x).pr∧(h1.prom x).pn=(h.prom x).pn:=by
 unfold Hd.prom
 rw [e1,e2]
 by_cases hl:lessP h.pr h.pn x.round x.node
 ·rw [if_pos hl,if_pos hl];exact ⟨rfl,rfl⟩
 ·rw [if_neg hl,if_neg hl];exact ⟨e1,e2⟩
theorem inv_step {pre:List Rc}{h h1:Hd}(i:Inv pre h h1) {x:Rc}(hc:x.cmd.ok):Inv (pre++[x]) (stepH h x) (r1 h1 x):=by
 have hlen:(pre++[x]).length=pre.length+1:=by simp
 by_cases hx:chkI x=0
 rotate_left
 ·have e1:stepH h x=h:=by unfold stepH;rw [if_neg hx]
  have e2:r1 h1 x=h1:=by unfold r1;rw [if_neg hx]
  rw [e1,e2]
  refine ⟨i.pr,i.pn,i.base,i.image,?_,?_,by rw [hlen];exact i.good.more (by omega)⟩
  ·rw [List.foldl_append,← i.acc,List.foldl_cons,List.foldl_nil,accS,if_neg fun hh=>hx hh.1]
  ·rw [List.foldl_append,← i.cho,List.foldl_cons,List.foldl_nil,choS,if_neg fun hh=>hx hh.1]
 have hg:=good_chg i.good hx hc
 rw [← hlen] at hg
 have e1:stepH h x=chg h x:=by unfold stepH;rw [if_pos hx]
 rw [e1]
 have h0:recI x.kind x.round x.node x.index x.cmd x.image.length=0:=hx
 obtain ⟨hk,hr,hi,hcc,ho⟩:=rec0 h0
 have r1e:r1 h1 x=(if x.kind=1∨x.kind=2 then h1.prom x else if x.kind=4∧h1.base<x.index then { h1 with base:=x.index,image:=x.image } else h1):=by unfold r1;rw [if_pos hx]
 rw [r1e]
 unfold chg at hg ⊢
 obtain ⟨q1,q2⟩:=prom_eq i.pr i.pn x
 obtain ⟨b1,b2,b3,b4⟩:=prom_base h x
 obtain ⟨c1,c2,c3,c4⟩:=prom_base h1 x
 have aS:∀ b L,x.kind≠2→accS b L x=L:=fun b L hh=>by rw [accS,if_neg fun h=>hh h.2.1]
 have cS:∀ b L,x.kind≠3→choS b L x=L:=fun b L hh=>by rw [choS,if_neg fun h=>hh h.2.1]
 by_cases k1:x.kind=1
 ·rw [if_pos k1] at hg ⊢
  rw [if_pos (show x.kind=1∨x.kind=2 from .inl k1)]
  refine ⟨q1,q2,by rw [b1,c1];exact i.base,by rw [b2,c2];exact i.image,?_,?_,hg⟩
  ·rw [b3,b1,List.foldl_append,← i.acc,List.foldl_cons,List.foldl_nil,aS _ _ (by omega)]
  ·rw [b4,b1,List.foldl_append,← i.cho,List.foldl_cons,List.foldl_nil,cS _ _ (by omega)]
 rw [if_neg k1] at hg ⊢
 by_cases k2:x.kind=2
 ·rw [if_pos k2] at hg ⊢
  rw [if_pos (show x.kind=1∨x.kind=2 from .inr k2)]
  by_cases hlt:(h.prom x).base<x.index
  ·rw [if_pos hlt] at hg ⊢
   have hlt':h.base<x.index:=by rw [b1] at hlt;exact hlt
   refine ⟨q1,q2,by rw [c1];simp only [b1];exact i.base,by rw [c2];simp only [b2];exact i.image,?_,?_,hg⟩
   ·simp only [b3,b1]
    rw [List.foldl_append,← i.acc,List.foldl_cons,List.foldl_nil,accS,if_pos ⟨hx,k2,hlt'⟩,withL_ins i.good.racc]
   ·simp only [b4,b1]
    rw [List.foldl_append,← i.cho,List.foldl_cons,List.foldl_nil,cS _ _ (by omega)]
  ·rw [if_neg hlt] at hg ⊢
   have hlt':¬ h.base<x.index:=by rw [b1] at hlt;exact hlt
   refine ⟨q1,q2,by rw [c1,b1];exact i.base,by rw [c2,b2];exact i.image,?_,?_,hg⟩
   ·rw [b3,b1,List.foldl_append,← i.acc,List.foldl_cons,List.foldl_nil,accS,if_neg fun hh=>hlt' hh.2.2]
   ·rw [b4,b1,List.foldl_append,← i.cho,List.foldl_cons,List.foldl_nil,cS _ _ (by omega)]
 rw [if_neg k2] at hg ⊢
 rw [if_neg (show ¬ (x.kind=1∨x.kind=2) by omega)]
 by_cases k3:x.kind=3
 ·rw [if_pos k3] at hg ⊢
  rw [if_neg (show ¬ (x.kind=4∧h1.base<x.index) by omega)]
  have hz:x.round=0∧x.node=0:=Decidable.not_not.1 fun hn=>ho (.inl ⟨by omega,hn⟩)
  have ee:entOf x=⟨x.index,0,0,x.cmd⟩:=by unfold entOf;rw [hz.1,hz.2]
  have hh:=hitB_iff i.good.rcho x.index
  by_cases hcond:hitB h.cho x.index=false∧h.base<x.index
  ·rw [if_pos hcond] at hg ⊢
   refine ⟨i.pr,i.pn,i.base,i.image,?_,?_,hg⟩
   ·rw [List.foldl_append,← i.acc,List.foldl_cons,List.foldl_nil,aS _ _ (by omega)]
   ·simp only
    rw [List.foldl_append,← i.cho,List.foldl_cons,List.foldl_nil,choS,if_pos ⟨hx,k3,hcond.2⟩,withL_ins i.good.rcho,insN,ee,if_neg]
    intro hex
    rw [hh.2 hex] at hcond
    exact absurd hcond.1 (by decide)
  ·rw [if_neg hcond] at hg ⊢
   refine ⟨i.pr,i.pn,i.base,i.image,?_,?_,hg⟩
   ·rw [List.foldl_append,← i.acc,List.foldl_cons,List.foldl_nil,aS _ _ (by omega)]
   ·rw [List.foldl_append,← i.cho,List.foldl_cons,List.foldl_nil,choS]
    by_cases hlt:h.base<x.index
    ·rw [if_pos ⟨hx,k3,hlt⟩,insN,if_pos]
     have:hitB h.cho x.index=true:=by
      cases hb:hitB h.cho x.index
      ·exact absurd ⟨hb,hlt⟩ hcond
      ·rfl
     exact hh.1 this
    ·rw [if_neg fun hh=>hlt hh.2.2]
 rw [if_neg k3] at hg ⊢
 have k4:x.kind=4:=by omega
 by_cases hle:x.index≤h.base
 ·rw [if_pos hle] at hg ⊢
  rw [if_neg (show ¬ (x.kind=4∧h1.base<x.index) by rw [i.base];omega)]
  refine ⟨i.pr,i.pn,i.base,i.image,?_,?_,hg⟩
  ·rw [List.foldl_append,← i.acc,List.foldl_cons,List.foldl_nil,aS _ _ (by omega)]
  ·rw [List.foldl_append,← i.cho,List.foldl_cons,List.foldl_nil,cS _ _ (by omega)]
 ·rw [if_neg hle] at hg ⊢
  rw [if_pos (show x.kind=4∧h1.base<x.index by rw [i.base];omega)]
  refine ⟨i.pr,i.pn,rfl,rfl,?_,?_,hg⟩
  ·simp only
   rw [drop_filter i.good.racc,i.acc,accF_filter (by omega),List.foldl_append,List.foldl_cons,List.foldl_nil,aS _ _ (by omega),List.filter_nil]
  ·simp only
   rw [drop_filter i.good.rcho,i.cho,choF_filter (by omega),List.foldl_append,List.foldl_cons,List.foldl_nil,cS _ _ (by omega),List.filter_nil]
theorem inv_fold:∀ (l pre:List Rc) (h h1:Hd),Inv pre h h1→(∀ x∈l,x.cmd.ok)→Inv (pre++l) (l.foldl stepH h) (l.foldl r1 h1)
 | [],pre,h,h1,i,_=>by simpa using i
 | x::l,pre,h,h1,i,hc=>by
  have:=inv_fold l (pre++[x]) (stepH h x) (r1 h1 x) (inv_step i (hc x (by simp))) (fun y hy=>hc y (by simp [hy]))
  simpa using this
theorem hard_inv {l:List Rc}(hc:∀ x∈l,x.cmd.ok):Inv l (hardOf l) (l.foldl r1 Hd.zero):=by
 have:=inv_fold l [] _ _ inv_zero hc
 unfold hardOf
 simpa using this
theorem chk_of {l:List Ent}(h:∀ x∈l,oneI x=0) (hr:RiseL l):∀ (n k:Nat),l.length-k=n→chkK l k=0
 | 0,k,hn=>by rw [chkK,dif_neg (by omega)]
 | n+1,k,hn=>by
  have hlt:k<l.length:=by omega
  rw [chkK,dif_pos hlt,if_neg (by rw [h _ (List.getElem_mem hlt)];simp)]
  have hnext:=chk_of h hr n (k+1) (by omega)
  by_cases h0:0<k
  ·rw [dif_pos h0,if_neg,hnext]
   have:=hr (k-1) k hlt (by omega)
   omega
  ·rw [dif_neg h0,hnext]
abbrev balO (r n:Int):Obj:=.cells [.int .i64 r,.int .i64 n].toArray 23 (0,0)
abbrev twoB (r n r' n':Int):Obj:=.cells [.int .i64 r,.int .i64 n,.int .i64 r',.int .i64 n'].toArray 23 (0,0)
def maxR (r n r' n':Int):Int×Int:=if lessP r n r' n' then (r',n') else (r,n)
theorem max_s (G:GH) (sb:Nat) (r n r' n':Int):Con Tryz.prog 179 #[.slice (some ⟨sb,0,none⟩) 2 2] G [(sb,twoB r n r' n')] (Keeps (.agg #[.int .i64 (maxR r n r' n').1,.int .i64 (maxR r n r' n').2]) G [(sb,twoB r n r' n')]):=by
 have ql:=less_s G r n r' n'
 apply Con.keeps
 (refine v_enter Tryz.func179 rfl Tryz.ntmps179 rfl ?_;intro B _)
 repeat' (first|apply v_seq|apply v_region|apply v_nil|apply v_block|apply v_pure;(case hop=>first|apply p_move<;>rfl|apply p_lenSlice<;>rfl|fail);(case hd=>rfl)|apply v_alloc;(case hz|hd=>rfl);intro b|fail)
 rename_i ob
 rename Nat=>tb
 refine v_loop [8,7,6,3,2] (fun us G' μ'=>G'=G∧∃ (k:Nat) (o1 o2:Int),μ'=[(tb,balO o1 o2),(ob,balO 0 0),(sb,twoB r n r' n')]∧k≤2∧us=[Value.int .i64 (k:Nat),.int .i64 2,.slice (some ⟨sb,0,none⟩) 2 2,.pointer (some ⟨tb,0,none⟩),.pointer (some ⟨ob,0,none⟩)]∧(k=1→o1=r∧o2=n)∧(k=2→o1=(maxR r n r' n').1∧o2=(maxR r n r' n').2)) (fun us=>3-(headI us).toNat) rfl ⟨rfl,0,0,0,rfl,by omega,rfl,by omega,by omega⟩ ?_
 rintro us G' μ' ⟨rfl,k,o1,o2,rfl,hk,rfl,h1,h2⟩
 obtain rfl|rfl|rfl:k=0∨k=1∨k=2:=by omega
 ·repeat' (first|apply v_seq|apply v_region|apply v_nil|apply v_skip|apply v_block|apply v_blk|apply v_pass;(case hg|hn|hd=>rfl)|apply v_pure;(case hop=>first|apply p_move<;>rfl|apply p_eqs<;>rfl|apply p_lt<;>rfl|apply p_assign<;>rfl|apply p_pickT<;>rfl|apply p_add;(case hx|hy=>rfl);(case h=>omega)|apply p_indexAddr;(case hx|hi=>rfl);(case h0|h=>omega)|fail);(case hd=>rfl)|apply v_condT;(case hc=>rfl)|apply v_cond;(case hc=>rfl);all_goals (intro h;(try simp only [reduceCtorEq,zzz] at h);try (exfalso;omega))|apply v_read;(case hop=>(apply r_loadNo;(case hx=>rfl);(case h=>repeat first|exact mhd _|apply mtl);(case hd=>repeat first|with_reducible exact dt_nil|apply dt_here);(case hn=>rfl)));(case hd=>rfl)|apply v_alloc;(case hz|hd=>rfl);intro b|apply v_store;(case hp|hx|hc|hsz|h1=>rfl);(case hb=>repeat first|exact mhd _|apply mtl);(case hfit=>exact nle rfl);(case hov=>((repeat (first|with_reducible exact ov_nil|apply ov_cons));done));(case hu=>repeat first|exact Upd.here _ _|apply Upd.there)|fail)
  refine v_drop (ν:=[(tb,_),(ob,_),(sb,_)]) (by repeat (first|exact List.Sublist.refl _|apply List.Sublist.cons)) ?_
  refine v_again rfl ⟨rfl,1,r,n,rfl,by omega,rfl,fun _=>⟨rfl,rfl⟩,by omega⟩ (by simp [headI])
 ·obtain ⟨rfl,rfl⟩:=h1 rfl
  unfold maxR at *
  by_cases hl:lessP o1 o2 r' n'
  ·rw [decide_eq_true hl] at ql
   rw [if_pos hl] at *
   repeat' (first|apply v_seq|apply v_region|apply v_nil|apply v_skip|apply v_block|apply v_blk|apply v_take;(case hg=>rfl)|apply v_pure;(case hop=>first|apply p_move<;>rfl|apply p_eq<;>rfl|apply p_lt<;>rfl|apply p_assign<;>rfl|apply p_pickF<;>rfl|apply p_add;(case hx|hy=>rfl);(case h=>omega)|apply p_indexAddr;(case hx|hi=>rfl);(case h0|h=>omega)|fail);(case hd=>rfl)|apply v_condT;(case hc=>rfl)|apply v_cond;(case hc=>rfl);all_goals (intro h;(try simp only [reduceCtorEq,zzz] at h);try (exfalso;omega))|apply v_guardB;(case h1|h2=>rfl);all_goals (intro h;(try simp only [reduceCtorEq,zzz] at h);try (exfalso;omega))|apply v_callJ (hs:=ql);(case ha|hd=>rfl)|apply v_read;(case hop=>(apply r_loadNo;(case hx=>rfl);(case h=>repeat first|exact mhd _|apply mtl);(case hd=>repeat first|with_reducible exact dt_nil|apply dt_here);(case hn=>rfl)));(case hd=>rfl)|apply v_alloc;(case hz|hd=>rfl);intro b|apply v_store;(case hp|hx|hc|hsz|h1=>rfl);(case hb=>repeat first|exact mhd _|apply mtl);(case hfit=>exact nle rfl);(case hov=>((repeat (first|with_reducible exact ov_nil|apply ov_cons));done));(case hu=>repeat first|exact Upd.here _ _|apply Upd.there)|fail)
   refine v_drop (ν:=[(tb,_),(ob,_),(sb,_)]) (by repeat (first|exact List.Sublist.refl _|apply List.Sublist.cons)) ?_
   refine v_again rfl ⟨rfl,2,r',n',rfl,by omega,rfl,by omega,fun _=>⟨rfl,rfl⟩⟩ (by simp [headI])
  ·rw [decide_eq_false hl] at ql
   rw [if_neg hl] at *
   repeat' (first|apply v_seq|apply v_region|apply v_nil|apply v_skip|apply v_block|apply v_blk|apply v_take;(case hg=>rfl)|apply v_pure;(case hop=>first|apply p_move<;>rfl|apply p_eq<;>rfl|apply p_lt<;>rfl|apply p_assign<;>rfl|apply p_pickF<;>rfl|apply p_add;(case hx|hy=>rfl);(case h=>omega)|apply p_indexAddr;(case hx|hi=>rfl);(case h0|h=>omega)|fail);(case hd=>rfl)|apply v_condF;(case hc=>rfl)|apply v_cond;(case hc=>rfl);all_goals (intro h;(try simp only [reduceCtorEq,zzz] at h);try (exfalso;omega))|apply v_guardB;(case h1|h2=>rfl);all_goals (intro h;(try simp only [reduceCtorEq,zzz] at h);try (exfalso;omega))|apply v_callJ (hs:=ql);(case ha|hd=>rfl)|apply v_read;(case hop=>(apply r_loadNo;(case hx=>rfl);(case h=>repeat first|exact mhd _|apply mtl);(case hd=>repeat first|with_reducible exact dt_nil|apply dt_here);(case hn=>rfl)));(case hd=>rfl)|apply v_alloc;(case hz|hd=>rfl);intro b|apply v_store;(case hp|hx|hc|hsz|h1=>rfl);(case hb=>repeat exact mhd _);(case hfit=>exact nle rfl);(case hov=>((repeat (first|with_reducible exact ov_nil|apply ov_cons));done));(case hu=>repeat (exact Upd.here _ _))|fail)
   refine v_drop (ν:=[(tb,_),(ob,_),(sb,_)]) (by repeat (first|exact List.Sublist.refl _|apply List.Sublist.cons)) ?_
   refine v_again rfl ⟨rfl,2,o1,o2,rfl,by omega,rfl,by omega,fun _=>⟨rfl,rfl⟩⟩ (by simp [headI])
 ·obtain ⟨rfl,rfl⟩:=h2 rfl
  repeat' (first|apply v_seq|apply v_region|apply v_nil|apply v_exit;(case hp=>rfl)|apply v_pure;(case hop=>(apply p_lt<;>rfl));(case hd=>rfl)|apply v_cond;(case hc=>rfl);all_goals (intro h;(try simp only [reduceCtorEq,zzz] at h);try (exfalso;omega))|apply v_read;(case hop=>(apply r_loadNo;(case hx=>rfl);(case h=>repeat exact mhd _);(case hd=>repeat first|with_reducible exact dt_nil|apply dt_here);(case hn=>rfl)));(case hd=>rfl)|apply v_store;(case hp|hx|hc|hsz|h1=>rfl);(case hb=>repeat first|exact mhd _|apply mtl);(case hfit=>exact nle rfl);(case hov=>((repeat (first|with_reducible exact ov_nil|apply ov_cons));done));(case hu=>repeat first|exact Upd.here _ _|apply Upd.there)|fail)
  refine v_retM [(sb,_)] (outsM_cell (vs:=[.int .i64 (maxR r n r' n').1,.int .i64 (maxR r n r' n').2]) (e:=23) rfl rfl (by repeat (first|exact mhd _|apply mtl)) rfl) (by repeat (first|exact List.Sublist.refl _|apply List.Sublist.cons)) ?_
  exact ⟨rfl,rfl⟩
def hdL (pr pn base:Int) (iv av cv:Value):List Value:=[.int .i64 pr,.int .i64 pn,.int .i64 base,iv,av,cv]
theorem prom_max (h:Hd) (x:Rc):h.prom x={ h with pr:=(maxR h.pr h.pn x.round x.node).1,pn:=(maxR h.pr h.pn x.round x.node).2 }:=by
 unfold Hd.prom maxR
 split<;>rfl
theorem promise_s (G:GH) (hb:Nat) (pr pn base r n:Int) (iv av cv:Value):Con Tryz.prog 153 #[.pointer (some ⟨hb,0,none⟩),.agg #[.int .i64 r,.int .i64 n]] G [(hb,.cells (hdL pr pn base iv av cv).toArray 153 (0,0))]
 (fun _ G' μ'=>G'=G∧μ'=[(hb,.cells (hdL (maxR pr pn r n).1 (maxR pr pn r n).2 base iv av cv).toArray 153 (0,0))]):=by
 have qm:=fun sb=>max_s G sb pr pn r n
 (refine v_enter Tryz.func153 rfl Tryz.ntmps153 rfl ?_;intro B _)
 repeat' (first|apply v_seq|apply v_region|apply v_nil|apply v_box;(case hx|hz|hd=>rfl);intro b|fail)
 refine d_start [(b,balO r n)] (by kernel_rfl) (by kernel_rfl) (by kernel_rfl) (by intro e he;(simp at he;simp [he];done)) ?_
 all_goals (apply dtm 0;(case hi|hx=>rfl);(case hq=>kernel_rfl);apply dtm 1;(case hi|hx=>rfl);(case hq=>kernel_rfl))
 all_goals (apply dtn 2;(case hi|hx=>rfl);(case hq=>kernel_rfl);apply dtk 3;(case hi=>rfl);(case hop=>(apply prd;apply p_fieldAddrB<;>rfl));(case hq=>kernel_rfl))
 all_goals (apply dtk 4;(case hi=>rfl);(case hop=>(apply prd;apply p_fieldAddrB<;>rfl));(case hq=>kernel_rfl);apply dtk 6;(case hi=>rfl);(case hop=>first|apply r_loadNo;(case hx=>rfl);(case h=>repeat exact mhd _);(case hd=>repeat first|with_reducible exact dt_nil|apply dt_here);(case hn=>rfl)|apply r_load1;rfl;(apply Cell.own;(case h=>repeat fail);rfl)|apply r_loadN;rfl;(apply CellsAt.own;(case h=>repeat fail));rfl);(case hq=>kernel_rfl))
 all_goals (apply d_keep 5 (hop:=ReadOp.move ?hop);(case hi=>rfl);(case hr=>kernel_rfl);(case hop=>(apply r_loadNo;(case hx=>rfl);(case h=>repeat first|exact mhd _|apply mtl);(case hd=>repeat first|with_reducible exact dt_nil|apply dt_here);(case hn=>rfl)));(case hd=>rfl))
 all_goals (apply d_buildSlice 7;(case hi=>rfl);(case hr=>kernel_rfl);(case hT=>infer_instance);(case hL=>infer_instance);(case hz|hl=>rfl);(case hv=>(simp only [List.map_cons,List.map_nil];repeat (first|with_reducible exact evs_nil|apply evs_cons;(case h1=>rfl))));(case hp=>(apply pk_cons;(case hc|hs=>rfl);(case h=>(apply pk_cons;(case hc|hs=>rfl);(case h=>(with_reducible exact pk_nil));(case he=>((repeat (first|with_reducible exact ap_nil|apply ap_cons));done))));(case he=>((repeat (first|with_reducible exact ap_nil|apply ap_cons));done))));(case hb|hd=>rfl);(case hν=>intro e he;(simp at he;simp [he];done));intro sb)
 all_goals (apply d_callK 8 (hs:=qm _);(case hi=>rfl);(case hr=>kernel_rfl);(case ha=>rfl);(case hp=>exact (Pick.perm (by repeat (exact Pick.here _))));(case hd=>rfl))
 all_goals (apply dtn 9;(case hi|hx=>rfl);(case hq=>kernel_rfl);apply dtk 10;(case hi=>rfl);(case hop=>(apply prd;apply p_fieldAddrB<;>rfl));(case hq=>kernel_rfl))
 all_goals (apply dtk 11;(case hi=>rfl);(case hop=>(apply prd;apply p_fieldAddrB<;>rfl));(case hq=>kernel_rfl))
 all_goals (apply d_store 12;(case hi=>rfl);(case hr=>kernel_rfl);(case hL=>infer_instance);(case hp|hx|hc|hsz|h1=>rfl);(case hb=>repeat first|exact mhd _|apply mtl);(case hfit=>exact nle rfl);(case hov=>((repeat (first|with_reducible exact ov_nil|apply ov_cons));done));(case hu=>repeat first|exact Upd.here _ _|apply Upd.there);(case hν'=>intro e he;simp at he;simp [he]))
 all_goals (apply d_done;(case hr=>kernel_rfl))
 repeat' (fail)
 refine v_end [(hb,_)] (outsA0 rfl) (by repeat (first|exact List.Sublist.refl _|apply List.Sublist.cons)) ?_
 exact ⟨rfl,rfl⟩
def HdV (G:GH) (h:Hd) (L:List Value):Prop := ∃ iv av cv,L=hdL h.pr h.pn h.base iv av cv∧Sl G 1 (IntR .u8) iv h.image∧Es G av h.acc∧Es G cv h.cho
theorem esle {G G':GH}{v:Value}{l:List Ent}(h:Es G v l) (hle:GH.le G G'):Es G' v l:=Sl.le h hle fun _ _ h=>h
theorem HdV.le {G G':GH}{h:Hd}{L:List Value}(hh:HdV G h L) (hle:GH.le G G'):HdV G' h L:=let ⟨iv,av,cv,h1,h2,h3,h4⟩:=hh;⟨iv,av,cv,h1,h2.mono hle,esle h3 hle,esle h4 hle⟩
abbrev hdO (L:List Value):Obj:=.cells L.toArray 153 (0,0)
noncomputable def accH (h:Hd) (x:Rc):Hd:=if (h.prom x).base<x.index then { h.prom x with acc:=withL (h.prom x).acc (entOf x) } else h.prom x
theorem accept_s {G:GH}{H:Hd}{L:List Value}{x:Rc}{xv:Value}{n:Nat}(hb:Nat) (hh:HdV G H L) (g:Good n H) (hn:n≤200) (hx:RcV G x xv) (hok:∀ e∈withL H.acc (entOf x),e.ok) :
 Con Tryz.prog 154 #[.pointer (some ⟨hb,0,none⟩),xv] G [(hb,hdO L)] (fun _ G' μ'=>∃ L',μ'=[(hb,hdO L')]∧HdV G' (accH H x) L'):=by
 obtain ⟨im,av,cv,rfl,hi,ha,hc⟩:=hh
 obtain ⟨A1,c1,rfl,-⟩:=id ha.open
 obtain ⟨iv,rfl,hxi⟩:=hx
 have qp:=promise_s G hb H.pr H.pn H.base x.round x.node im (.slice A1 H.acc.length c1) cv
 have qw:=with_s (entOf x) ha g.racc (by have:=g.nacc;omega)
 have ep:=prom_max H x
 unfold accH
 rw [ep]
 generalize hm:maxR H.pr H.pn x.round x.node=m at *
 (refine v_enter Tryz.func154 rfl Tryz.ntmps154 rfl ?_;intro B _)
 repeat' (first|apply v_seq|apply v_region|apply v_nil|apply v_pure;(case hop=>first|apply p_move<;>rfl|apply p_fieldAddrB<;>rfl|fail);(case hd=>rfl)|apply v_box (zs:=recL x.kind x.round x.node x.index x.cmd iv);(case hx|hz|hd=>rfl);intro xb|apply v_read;(case hop=>(apply r_loadNo;(case hx=>rfl);(case h=>repeat exact mhd _);(case hd=>repeat first|with_reducible exact dt_nil|apply dt_here);(case hn=>rfl)));(case hd=>rfl)|fail)
 refine v_call (μ1:=[(hb,_)]) (μ2:=_) rfl qp (PickA.perm (by repeat (first|exact PickA.last|apply PickA.cons))) rfl ?_
 rintro _ _ _ - ⟨rfl,rfl⟩
 repeat' (first|apply v_seq|apply v_nil)
 refine d_start _ (by kernel_rfl) (by kernel_rfl) (by kernel_rfl) (fun _ he=>he) ?_
 all_goals (apply dtk 0;(case hi=>rfl);(case hop=>(apply prd;apply p_fieldAddrB<;>rfl));(case hq=>kernel_rfl);apply dtk 1;(case hi=>rfl);(case hop=>first|apply r_loadNo;(case hx=>rfl);(case h=>repeat fail);(case hd=>repeat fail);(case hn=>rfl)|apply r_load1;rfl;(apply Cell.own;(case h=>repeat first|exact mhd _|apply mtl);rfl)|apply r_loadN;rfl;(apply CellsAt.own;(case h=>repeat fail));rfl);(case hq=>kernel_rfl))
 all_goals (apply dtm 2;(case hi|hx=>rfl);(case hq=>kernel_rfl);apply dtn 3;(case hi|hx=>rfl);(case hq=>kernel_rfl))
 all_goals (apply dtk 4;(case hi=>rfl);(case hop=>(apply prd;apply p_fieldAddrB<;>rfl));(case hq=>kernel_rfl);apply dtk 5;(case hi=>rfl);(case hop=>(apply prd;apply p_fieldAddrB<;>rfl));(case hq=>kernel_rfl))
 all_goals (apply dtk 6;(case hi=>rfl);(case hop=>first|apply r_loadNo;(case hx=>rfl);(case h=>repeat fail);(case hd=>repeat fail);(case hn=>rfl)|apply r_load1;rfl;(apply Cell.own;(case h=>repeat exact mhd _);rfl)|apply r_loadN;rfl;(apply CellsAt.own;(case h=>repeat fail));rfl);(case hq=>kernel_rfl);apply dtk 7;(case hi=>rfl);(case hop=>(apply prd;apply p_gt<;>rfl));(case hq=>kernel_rfl))
 all_goals (apply d_done;(case hr=>kernel_rfl))
 repeat' (first|apply v_skip|apply v_cond;(case hc=>rfl);all_goals (intro h;(try simp only [reduceCtorEq,zzz] at h))|fail)
 ·have hlt:=h
  refine d_start [(xb,.cells (recL x.kind x.round x.node x.index x.cmd iv).toArray 42 (0,0))] (by kernel_rfl) (by kernel_rfl) (by kernel_rfl) (by intro e he;(simp at he;simp [he];done)) ?_
  all_goals (apply dtm 0;(case hi|hx=>rfl);(case hq=>kernel_rfl);apply dtm 1;(case hi|hx=>rfl);(case hq=>kernel_rfl))
  all_goals (apply dtn 2;(case hi|hx=>rfl);(case hq=>kernel_rfl);apply dtk 3;(case hi=>rfl);(case hop=>(apply prd;apply p_fieldAddrB<;>rfl));(case hq=>kernel_rfl))
  all_goals (apply dtk 4;(case hi=>rfl);(case hop=>(apply prd;apply p_fieldAddrB<;>rfl));(case hq=>kernel_rfl);apply dtk 6;(case hi=>rfl);(case hop=>(apply prd;apply p_fieldAddrB<;>rfl));(case hq=>kernel_rfl))
  all_goals (apply dtk 7;(case hi=>rfl);(case hop=>first|apply r_loadNo;(case hx=>rfl);(case h=>repeat fail);(case hd=>repeat fail);(case hn=>rfl)|apply r_load1;rfl;(apply Cell.own;(case h=>repeat exact mhd _);rfl)|apply r_loadN;rfl;(apply CellsAt.own;(case h=>repeat fail));rfl);(case hq=>kernel_rfl);apply dtk 8;(case hi=>rfl);(case hop=>(apply prd;apply p_fieldAddrB<;>rfl));(case hq=>kernel_rfl))
  all_goals (apply dtk 9;(case hi=>rfl);(case hop=>first|apply r_loadNo;(case hx=>rfl);(case h=>repeat exact mhd _);(case hd=>repeat first|with_reducible exact dt_nil|apply dt_here);(case hn=>rfl)|apply r_load1;rfl;(apply Cell.own;(case h=>repeat fail);rfl)|apply r_loadN;rfl;(apply CellsAt.own;(case h=>repeat fail));rfl);(case hq=>kernel_rfl);apply dtk 10;(case hi=>rfl);(case hop=>(apply prd;apply p_fieldAddrB<;>rfl));(case hq=>kernel_rfl))
  all_goals (apply dtk 11;(case hi=>rfl);(case hop=>first|apply r_loadNo;(case hx=>rfl);(case h=>repeat exact mhd _);(case hd=>repeat first|with_reducible exact dt_nil|apply dt_here);(case hn=>rfl)|apply r_load1;rfl;(apply Cell.own;(case h=>repeat fail);rfl)|apply r_loadN;rfl;(apply CellsAt.own;(case h=>repeat fail));rfl);(case hq=>kernel_rfl))
  all_goals (apply dtk 12;(case hi=>rfl);(case hop=>(apply prd;apply p_build;(case hz=>rfl);(case hv=>(simp only [List.map_cons,List.map_nil];repeat (first|with_reducible exact evs_nil|apply evs_cons;(case h1=>rfl))));(case hb=>(apply bldL;repeat (first|exact bld_nil|apply bld_cons;(case hpf|hc|hs|hl=>rfl);(case ho=>((repeat (first|with_reducible exact ov_nil|apply ov_cons));done)))))));(case hq=>kernel_rfl))
  all_goals (apply d_keep 5 (hop:=ReadOp.move ?hop);(case hi=>rfl);(case hr=>kernel_rfl);(case hop=>(apply r_load1;rfl;(apply Cell.own;(case h=>repeat (exact mhd _));rfl)));(case hd=>rfl))
  all_goals ((apply d_call 13 (hs:=qw);(case hi=>rfl);(case hr=>kernel_rfl);(case ha=>rfl);(case hp=>exact List.Perm.refl _);(case hd=>rfl);(case hν'=>intro e he;simp at he;simp [he]);rintro r1 G1 ν1 - ⟨rfl,hg1⟩;obtain ⟨A2,c2,rfl,-,-⟩:=hg1.shape))
  all_goals (apply dtn 14;(case hi|hx=>rfl);(case hq=>kernel_rfl);apply dtk 15;(case hi=>rfl);(case hop=>(apply prd;apply p_fieldAddrB<;>rfl));(case hq=>kernel_rfl))
  all_goals (apply dtk 16;(case hi=>rfl);(case hop=>(apply prd;apply p_fieldAddrB<;>rfl));(case hq=>kernel_rfl))
  all_goals (apply d_store 17;(case hi=>rfl);(case hr=>kernel_rfl);(case hL=>infer_instance);(case hp|hx|hc|hsz|h1=>rfl);(case hb=>repeat first|exact mhd _|apply List.mem_append_right);(case hfit=>exact nle rfl);(case hov=>((repeat (first|with_reducible exact ov_nil|apply ov_cons));done));(case hu=>repeat first|exact Upd.here _ _|apply Upd.app);(case hν'=>intro e he;simp at he;simp [he]))
  all_goals (apply d_done;(case hr=>kernel_rfl))
  repeat' (fail)
  refine v_frz ν1 (by repeat (exact PickA.here _)) ?_
  intro G2 hle2 hG2
  refine v_end [(hb,_)] (outsA0 rfl) (by repeat (first|exact List.nil_sublist _|apply List.Sublist.cons_cons)) ?_
  rw [if_pos hlt]
  exact ⟨_,rfl,_,_,_,rfl,hi.mono hle2,es_of_grow hg1 hG2 hok,esle hc hle2⟩
 ·have hlt:=h
  refine v_end [(hb,_)] (outsA0 rfl) (by repeat (first|exact List.nil_sublist _|apply List.Sublist.cons_cons)) ?_
  rw [if_neg hlt]
  exact ⟨_,rfl,_,_,_,rfl,hi,ha,hc⟩
noncomputable def choH (h:Hd) (x:Rc):Hd:=if hitB h.cho x.index=false∧h.base<x.index then { h with cho:=withL h.cho ⟨x.index,0,0,x.cmd⟩ } else h
theorem choose_s {G:GH}{H:Hd}{L:List Value}{x:Rc}{xv:Value}{n:Nat}(hb:Nat) (hh:HdV G H L) (g:Good n H) (hn:n≤200) (hx:RcV G x xv) (hok:∀ e∈withL H.cho ⟨x.index,0,0,x.cmd⟩,e.ok) :
 Con Tryz.prog 155 #[.pointer (some ⟨hb,0,none⟩),xv] G [(hb,hdO L)] (fun _ G' μ'=>∃ L',μ'=[(hb,hdO L')]∧HdV G' (choH H x) L'):=by
 obtain ⟨im,av,cv,rfl,hi,ha,hc⟩:=hh
 obtain ⟨A1,c1,rfl,-⟩:=id hc.open
 obtain ⟨iv,rfl,hxi⟩:=hx
 have qf:=find_s x.index hc g.rcho
 have qw:=with_s ⟨x.index,0,0,x.cmd⟩ hc g.rcho (by have:=g.ncho;omega)
 generalize findE H.cho x.index=fe at *
 unfold choH
 cases hbit:hitB H.cho x.index
 all_goals
  rw [hbit] at qf
 ·(refine v_enter Tryz.func155 rfl Tryz.ntmps155 rfl ?_;intro B _)
  repeat' (first|apply v_seq|apply v_region|apply v_nil|apply v_box (zs:=recL x.kind x.round x.node x.index x.cmd iv);(case hx|hz|hd=>rfl);intro xb|fail)
  refine d_start _ (by kernel_rfl) (by kernel_rfl) (by kernel_rfl) (fun _ he=>he) ?_
  all_goals (apply dtm 0;(case hi|hx=>rfl);(case hq=>kernel_rfl);apply dtn 1;(case hi|hx=>rfl);(case hq=>kernel_rfl))
  all_goals (apply dtk 2;(case hi=>rfl);(case hop=>(apply prd;apply p_fieldAddrB<;>rfl));(case hq=>kernel_rfl);apply dtk 3;(case hi=>rfl);(case hop=>(apply prd;apply p_fieldAddrB<;>rfl));(case hq=>kernel_rfl))
  all_goals (apply dtk 4;(case hi=>rfl);(case hop=>first|apply r_loadNo;(case hx=>rfl);(case h=>repeat fail);(case hd=>repeat fail);(case hn=>rfl)|apply r_load1;rfl;(apply Cell.own;(case h=>repeat first|exact mhd _|apply mtl);rfl)|apply r_loadN;rfl;(apply CellsAt.own;(case h=>repeat fail));rfl);(case hq=>kernel_rfl);apply dtk 5;(case hi=>rfl);(case hop=>(apply prd;apply p_fieldAddrB<;>rfl));(case hq=>kernel_rfl))
  all_goals (apply dtk 6;(case hi=>rfl);(case hop=>first|apply r_loadNo;(case hx=>rfl);(case h=>repeat fail);(case hd=>repeat fail);(case hn=>rfl)|apply r_load1;rfl;(apply Cell.own;(case h=>repeat exact mhd _);rfl)|apply r_loadN;rfl;(apply CellsAt.own;(case h=>repeat fail));rfl);(case hq=>kernel_rfl))
  focus
   refine d_fork 7 11 (by kernel_rfl) ?_ ?_
   rotate_right
   focus
    (apply x_exec 11;(case hi=>rfl);(case hop=>exact m_alloc rfl);(case hd=>rfl);rintro _ _ _ ⟨eb,rfl,rfl,rfl⟩;refine ⟨(by intro e he;(simp at he;simp [he];done)),?_⟩)
    all_goals (apply d_callJ 7 (hs:=qf);(case hi=>rfl);(case hr=>kernel_rfl);(case ha|hd=>rfl))
    all_goals (apply dtm 8;(case hi|hx=>rfl);(case hq=>kernel_rfl);apply dtk 9;(case hi=>rfl);(case hop=>(apply prd;apply p_extract0<;>rfl));(case hq=>kernel_rfl))
    all_goals (apply dtk 10;(case hi=>rfl);(case hop=>(apply prd;apply p_extract1<;>rfl));(case hq=>kernel_rfl))
    all_goals (apply d_store 12;(case hi=>rfl);(case hr=>kernel_rfl);(case hL=>infer_instance);(case hp|hx|hc|hsz|h1=>rfl);(case hb=>repeat exact mhd _);(case hfit=>exact nle rfl);(case hov=>((repeat (first|with_reducible exact ov_nil|apply ov_cons));done));(case hu=>repeat (exact Upd.here _ _));(case hν'=>intro e he;simp at he;simp [he]))
    all_goals (apply dta 13;(case hi|hx=>rfl);(case hq=>kernel_rfl))
    all_goals (apply d_done;(case hr=>kernel_rfl))
   rotate_right
   focus
    (apply x_exec 7;(case hi=>rfl);(case hop=>apply m_callFJ (hs:=qf)<;>rfl);(case hd=>rfl);rintro _ _ _ ⟨rfl,rfl,rfl⟩;refine ⟨(by intro e he;exact he),?_⟩)
    all_goals (apply dtm 8;(case hi|hx=>rfl);(case hq=>kernel_rfl);apply dtk 9;(case hi=>rfl);(case hop=>(apply prd;apply p_extract0<;>rfl));(case hq=>kernel_rfl))
    all_goals (apply dtk 10;(case hi=>rfl);(case hop=>(apply prd;apply p_extract1<;>rfl));(case hq=>kernel_rfl))
    all_goals (apply d_exec 11;(case hi=>rfl);(case hr=>kernel_rfl);(case hop=>exact m_alloc rfl);(case hd=>rfl);rintro _ _ _ ⟨eb,rfl,rfl,rfl⟩;refine ⟨(by intro e he;(simp at he;simp [he];done)),?_⟩)
    all_goals (apply d_store 12;(case hi=>rfl);(case hr=>kernel_rfl);(case hL=>infer_instance);(case hp|hx|hc|hsz|h1=>rfl);(case hb=>repeat exact mhd _);(case hfit=>exact nle rfl);(case hov=>((repeat (first|with_reducible exact ov_nil|apply ov_cons));done));(case hu=>repeat (exact Upd.here _ _));(case hν'=>intro e he;simp at he;simp [he]))
    all_goals (apply dta 13;(case hi|hx=>rfl);(case hq=>kernel_rfl))
    all_goals (apply d_done;(case hr=>kernel_rfl))
  all_goals
   repeat' (first|apply v_seq)
  all_goals
   refine d_start _ (by kernel_rfl) (by kernel_rfl) (by kernel_rfl) (fun _ he=>he) ?_
   all_goals (apply dtm 0;(case hi|hx=>rfl);(case hq=>kernel_rfl);apply dtk 1;(case hi=>rfl);(case hop=>(apply prd;apply p_not<;>rfl));(case hq=>kernel_rfl))
   all_goals (apply dtm 2;(case hi|hx=>rfl);(case hq=>kernel_rfl))
   all_goals (try (apply d_guardB 3;(case hi|hgd|h1|h2=>rfl);all_goals (intro h;(try simp only [reduceCtorEq,zzz] at h))))
   all_goals (apply dtg 3;(case hi|hg=>rfl);(case hop=>(apply prd;apply p_fieldAddrB<;>rfl));(case hq=>kernel_rfl))
   all_goals (try (apply d_guardB 4;(case hi|hgd|h1|h2=>rfl);all_goals (intro h;(try simp only [reduceCtorEq,zzz] at h))))
   all_goals (apply dtg 4;(case hi|hg=>rfl);(case hop=>first|apply r_loadNo;(case hx=>rfl);(case h=>repeat fail);(case hd=>repeat fail);(case hn=>rfl)|apply r_load1;rfl;(apply Cell.own;(case h=>repeat first|exact mhd _|apply mtl);rfl)|apply r_loadN;rfl;(apply CellsAt.own;(case h=>repeat fail));rfl);(case hq=>kernel_rfl))
   all_goals (try (apply d_guardB 5;(case hi|hgd|h1|h2=>rfl);all_goals (intro h;(try simp only [reduceCtorEq,zzz] at h))))
   all_goals (apply dtg 5;(case hi|hg=>rfl);(case hop=>(apply prd;apply p_move<;>rfl));(case hq=>kernel_rfl))
   all_goals (try (apply d_guardB 6;(case hi|hgd|h1|h2=>rfl);all_goals (intro h;(try simp only [reduceCtorEq,zzz] at h))))
   all_goals (apply dtg 6;(case hi|hg=>rfl);(case hop=>(apply prd;apply p_nilCheck<;>rfl));(case hq=>kernel_rfl))
   all_goals (try (apply d_guardB 7;(case hi|hgd|h1|h2=>rfl);all_goals (intro h;(try simp only [reduceCtorEq,zzz] at h))))
   all_goals (apply dtg 7;(case hi|hg=>rfl);(case hop=>(apply prd;apply p_fieldAddrB<;>rfl));(case hq=>kernel_rfl))
   all_goals (try (apply d_guardB 8;(case hi|hgd|h1|h2=>rfl);all_goals (intro h;(try simp only [reduceCtorEq,zzz] at h))))
   all_goals (apply dtg 8;(case hi|hg=>rfl);(case hop=>(apply prd;apply p_fieldAddrB<;>rfl));(case hq=>kernel_rfl))
   all_goals (try (apply d_guardB 9;(case hi|hgd|h1|h2=>rfl);all_goals (intro h;(try simp only [reduceCtorEq,zzz] at h))))
   all_goals (apply dtg 9;(case hi|hg=>rfl);(case hop=>first|apply r_loadNo;(case hx=>rfl);(case h=>repeat fail);(case hd=>repeat fail);(case hn=>rfl)|apply r_load1;rfl;(apply Cell.own;(case h=>repeat first|exact mhd _|apply mtl);rfl)|apply r_loadN;rfl;(apply CellsAt.own;(case h=>repeat fail));rfl);(case hq=>kernel_rfl))
   all_goals (try (apply d_guardB 10;(case hi|hgd|h1|h2=>rfl);all_goals (intro h;(try simp only [reduceCtorEq,zzz] at h))))
   all_goals (apply dtg 10;(case hi|hg=>rfl);(case hop=>(apply prd;apply p_gt<;>rfl));(case hq=>kernel_rfl);apply dtk 11;(case hi=>rfl);(case hop=>(apply prd;apply p_pickT<;>rfl));(case hq=>kernel_rfl))
   all_goals (apply d_done;(case hr=>kernel_rfl))
  all_goals
   repeat' (first|apply v_skip|apply v_cond;(case hc=>rfl);all_goals (intro h;(try simp only [reduceCtorEq,zzz] at h))|fail)
  ·have hlt:=h
   refine d_start [(xb,.cells (recL x.kind x.round x.node x.index x.cmd iv).toArray 42 (0,0))] (by kernel_rfl) (by kernel_rfl) (by kernel_rfl) (by intro e he;(simp at he;simp [he];done)) ?_
   all_goals (apply dtm 0;(case hi|hx=>rfl);(case hq=>kernel_rfl);apply dtm 1;(case hi|hx=>rfl);(case hq=>kernel_rfl))
   all_goals (apply dtn 2;(case hi|hx=>rfl);(case hq=>kernel_rfl);apply dtk 3;(case hi=>rfl);(case hop=>(apply prd;apply p_fieldAddrB<;>rfl));(case hq=>kernel_rfl))
   all_goals (apply dtk 4;(case hi=>rfl);(case hop=>(apply prd;apply p_fieldAddrB<;>rfl));(case hq=>kernel_rfl);apply dtk 6;(case hi=>rfl);(case hop=>(apply prd;apply p_fieldAddrB<;>rfl));(case hq=>kernel_rfl))
   all_goals (apply dtk 7;(case hi=>rfl);(case hop=>first|apply r_loadNo;(case hx=>rfl);(case h=>repeat fail);(case hd=>repeat fail);(case hn=>rfl)|apply r_load1;rfl;(apply Cell.own;(case h=>repeat exact mhd _);rfl)|apply r_loadN;rfl;(apply CellsAt.own;(case h=>repeat fail));rfl);(case hq=>kernel_rfl);apply dtk 8;(case hi=>rfl);(case hop=>(apply prd;apply p_fieldAddrB<;>rfl));(case hq=>kernel_rfl))
   all_goals (apply dtk 9;(case hi=>rfl);(case hop=>first|apply r_loadNo;(case hx=>rfl);(case h=>repeat exact mhd _);(case hd=>repeat first|with_reducible exact dt_nil|apply dt_here);(case hn=>rfl)|apply r_load1;rfl;(apply Cell.own;(case h=>repeat fail);rfl)|apply r_loadN;rfl;(apply CellsAt.own;(case h=>repeat fail));rfl);(case hq=>kernel_rfl))
   all_goals (apply dtk 10;(case hi=>rfl);(case hop=>(apply prd;apply p_build;(case hz=>rfl);(case hv=>(simp only [List.map_cons,List.map_nil];repeat (first|with_reducible exact evs_nil|apply evs_cons;(case h1=>rfl))));(case hb=>(apply bldL;repeat (first|exact bld_nil|apply bld_cons;(case hpf|hc|hs|hl=>rfl);(case ho=>((repeat (first|with_reducible exact ov_nil|apply ov_cons));done)))))));(case hq=>kernel_rfl))
   all_goals (apply d_keep 5 (hop:=ReadOp.move ?hop);(case hi=>rfl);(case hr=>kernel_rfl);(case hop=>(apply r_load1;rfl;(apply Cell.own;(case h=>repeat first|exact mhd _|apply mtl);rfl)));(case hd=>rfl))
   all_goals ((apply d_call 11 (hs:=qw);(case hi=>rfl);(case hr=>kernel_rfl);(case ha=>rfl);(case hp=>exact List.Perm.refl _);(case hd=>rfl);(case hν'=>intro e he;simp at he;simp [he]);rintro r1 G1 ν1 - ⟨rfl,hg1⟩;obtain ⟨A2,c2,rfl,-,-⟩:=hg1.shape))
   all_goals (apply dtn 12;(case hi|hx=>rfl);(case hq=>kernel_rfl);apply dtk 13;(case hi=>rfl);(case hop=>(apply prd;apply p_fieldAddrB<;>rfl));(case hq=>kernel_rfl))
   all_goals (apply dtk 14;(case hi=>rfl);(case hop=>(apply prd;apply p_fieldAddrB<;>rfl));(case hq=>kernel_rfl))
   all_goals (apply d_store 15;(case hi=>rfl);(case hr=>kernel_rfl);(case hL=>infer_instance);(case hp|hx|hc|hsz|h1=>rfl);(case hb=>repeat first|exact mhd _|apply mtl|apply List.mem_append_right);(case hfit=>exact nle rfl);(case hov=>((repeat (first|with_reducible exact ov_nil|apply ov_cons));done));(case hu=>repeat first|exact Upd.here _ _|apply Upd.there|apply Upd.app);(case hν'=>intro e he;simp at he;simp [he]))
   all_goals (apply d_done;(case hr=>kernel_rfl))
   repeat' (fail)
   refine v_frz ν1 (by repeat (exact PickA.here _)) ?_
   intro G2 hle2 hG2
   refine v_end [(hb,_)] (outsA0 rfl) (by repeat (first|exact List.Sublist.refl _|apply List.Sublist.cons)) ?_
   rw [if_pos ⟨rfl,hlt⟩]
   exact ⟨_,rfl,_,_,_,rfl,hi.mono hle2,esle ha hle2,es_of_grow hg1 hG2 hok⟩
  ·have hlt:=h
   refine v_end [(hb,_)] (outsA0 rfl) (by repeat (first|exact List.Sublist.refl _|apply List.Sublist.cons)) ?_
   rw [if_neg fun hh=>hlt hh.2]
   exact ⟨_,rfl,_,_,_,rfl,hi,ha,hc⟩
  ·have hlt:=h
   refine d_start [(xb,.cells (recL x.kind x.round x.node x.index x.cmd iv).toArray 42 (0,0))] (by kernel_rfl) (by kernel_rfl) (by kernel_rfl) (by intro e he;(simp at he;simp [he];done)) ?_
   all_goals (apply dtm 0;(case hi|hx=>rfl);(case hq=>kernel_rfl);apply dtm 1;(case hi|hx=>rfl);(case hq=>kernel_rfl))
   all_goals (apply dtn 2;(case hi|hx=>rfl);(case hq=>kernel_rfl);apply dtk 3;(case hi=>rfl);(case hop=>(apply prd;apply p_fieldAddrB<;>rfl));(case hq=>kernel_rfl))
   all_goals (apply dtk 4;(case hi=>rfl);(case hop=>(apply prd;apply p_fieldAddrB<;>rfl));(case hq=>kernel_rfl);apply dtk 6;(case hi=>rfl);(case hop=>(apply prd;apply p_fieldAddrB<;>rfl));(case hq=>kernel_rfl))
   all_goals (apply dtk 7;(case hi=>rfl);(case hop=>first|apply r_loadNo;(case hx=>rfl);(case h=>repeat fail);(case hd=>repeat fail);(case hn=>rfl)|apply r_load1;rfl;(apply Cell.own;(case h=>repeat exact mhd _);rfl)|apply r_loadN;rfl;(apply CellsAt.own;(case h=>repeat fail));rfl);(case hq=>kernel_rfl);apply dtk 8;(case hi=>rfl);(case hop=>(apply prd;apply p_fieldAddrB<;>rfl));(case hq=>kernel_rfl))
   all_goals (apply dtk 9;(case hi=>rfl);(case hop=>first|apply r_loadNo;(case hx=>rfl);(case h=>repeat exact mhd _);(case hd=>repeat first|with_reducible exact dt_nil|apply dt_here);(case hn=>rfl)|apply r_load1;rfl;(apply Cell.own;(case h=>repeat fail);rfl)|apply r_loadN;rfl;(apply CellsAt.own;(case h=>repeat fail));rfl);(case hq=>kernel_rfl))
   all_goals (apply dtk 10;(case hi=>rfl);(case hop=>(apply prd;apply p_build;(case hz=>rfl);(case hv=>(simp only [List.map_cons,List.map_nil];repeat (first|with_reducible exact evs_nil|apply evs_cons;(case h1=>rfl))));(case hb=>(apply bldL;repeat (first|exact bld_nil|apply bld_cons;(case hpf|hc|hs|hl=>rfl);(case ho=>((repeat (first|with_reducible exact ov_nil|apply ov_cons));done)))))));(case hq=>kernel_rfl))
   all_goals (apply d_keep 5 (hop:=ReadOp.move ?hop);(case hi=>rfl);(case hr=>kernel_rfl);(case hop=>(apply r_load1;rfl;(apply Cell.own;(case h=>repeat first|exact mhd _|apply mtl);rfl)));(case hd=>rfl))
   all_goals ((apply d_call 11 (hs:=qw);(case hi=>rfl);(case hr=>kernel_rfl);(case ha=>rfl);(case hp=>exact List.Perm.refl _);(case hd=>rfl);(case hν'=>intro e he;simp at he;simp [he]);rintro r1 G1 ν1 - ⟨rfl,hg1⟩;obtain ⟨A2,c2,rfl,-,-⟩:=hg1.shape))
   all_goals (apply dtn 12;(case hi|hx=>rfl);(case hq=>kernel_rfl);apply dtk 13;(case hi=>rfl);(case hop=>(apply prd;apply p_fieldAddrB<;>rfl));(case hq=>kernel_rfl))
   all_goals (apply dtk 14;(case hi=>rfl);(case hop=>(apply prd;apply p_fieldAddrB<;>rfl));(case hq=>kernel_rfl))
   all_goals (apply d_store 15;(case hi=>rfl);(case hr=>kernel_rfl);(case hL=>infer_instance);(case hp|hx|hc|hsz|h1=>rfl);(case hb=>repeat first|exact mhd _|apply mtl|apply List.mem_append_right);(case hfit=>exact nle rfl);(case hov=>((repeat (first|with_reducible exact ov_nil|apply ov_cons));done));(case hu=>repeat first|exact Upd.here _ _|apply Upd.there|apply Upd.app);(case hν'=>intro e he;simp at he;simp [he]))
   all_goals (apply d_done;(case hr=>kernel_rfl))
   repeat' (fail)
   refine v_frz ν1 (by repeat (exact PickA.here _)) ?_
   intro G2 hle2 hG2
   refine v_end [(hb,_)] (outsA0 rfl) (by repeat (first|exact List.Sublist.refl _|apply List.Sublist.cons)) ?_
   rw [if_pos ⟨rfl,hlt⟩]
   exact ⟨_,rfl,_,_,_,rfl,hi.mono hle2,esle ha hle2,es_of_grow hg1 hG2 hok⟩
  ·have hlt:=h
   refine v_end [(hb,_)] (outsA0 rfl) (by repeat (first|exact List.Sublist.refl _|apply List.Sublist.cons)) ?_
   rw [if_neg fun hh=>hlt hh.2]
   exact ⟨_,rfl,_,_,_,rfl,hi,ha,hc⟩
 ·(refine v_enter Tryz.func155 rfl Tryz.ntmps155 rfl ?_;intro B _)
  repeat' (first|apply v_seq|apply v_region|apply v_nil|apply v_box (zs:=recL x.kind x.round x.node x.index x.cmd iv);(case hx|hz|hd=>rfl);intro xb|fail)
  refine d_start _ (by kernel_rfl) (by kernel_rfl) (by kernel_rfl) (fun _ he=>he) ?_
  all_goals (apply dtm 0;(case hi|hx=>rfl);(case hq=>kernel_rfl);apply dtn 1;(case hi|hx=>rfl);(case hq=>kernel_rfl))
  all_goals (apply dtk 2;(case hi=>rfl);(case hop=>(apply prd;apply p_fieldAddrB<;>rfl));(case hq=>kernel_rfl);apply dtk 3;(case hi=>rfl);(case hop=>(apply prd;apply p_fieldAddrB<;>rfl));(case hq=>kernel_rfl))
  all_goals (apply dtk 4;(case hi=>rfl);(case hop=>first|apply r_loadNo;(case hx=>rfl);(case h=>repeat fail);(case hd=>repeat fail);(case hn=>rfl)|apply r_load1;rfl;(apply Cell.own;(case h=>repeat first|exact mhd _|apply mtl);rfl)|apply r_loadN;rfl;(apply CellsAt.own;(case h=>repeat fail));rfl);(case hq=>kernel_rfl);apply dtk 5;(case hi=>rfl);(case hop=>(apply prd;apply p_fieldAddrB<;>rfl));(case hq=>kernel_rfl))
  all_goals (apply dtk 6;(case hi=>rfl);(case hop=>first|apply r_loadNo;(case hx=>rfl);(case h=>repeat fail);(case hd=>repeat fail);(case hn=>rfl)|apply r_load1;rfl;(apply Cell.own;(case h=>repeat exact mhd _);rfl)|apply r_loadN;rfl;(apply CellsAt.own;(case h=>repeat fail));rfl);(case hq=>kernel_rfl))
  focus
   refine d_fork 7 11 (by kernel_rfl) ?_ ?_
   rotate_right
   focus
    (apply x_exec 11;(case hi=>rfl);(case hop=>exact m_alloc rfl);(case hd=>rfl);rintro _ _ _ ⟨eb,rfl,rfl,rfl⟩;refine ⟨(by intro e he;(simp at he;simp [he];done)),?_⟩)
    all_goals (apply d_callJ 7 (hs:=qf);(case hi=>rfl);(case hr=>kernel_rfl);(case ha|hd=>rfl))
    all_goals (apply dtm 8;(case hi|hx=>rfl);(case hq=>kernel_rfl);apply dtk 9;(case hi=>rfl);(case hop=>(apply prd;apply p_extract0<;>rfl));(case hq=>kernel_rfl))
    all_goals (apply dtk 10;(case hi=>rfl);(case hop=>(apply prd;apply p_extract1<;>rfl));(case hq=>kernel_rfl))
    all_goals (apply d_store 12;(case hi=>rfl);(case hr=>kernel_rfl);(case hL=>infer_instance);(case hp|hx|hc|hsz|h1=>rfl);(case hb=>repeat exact mhd _);(case hfit=>exact nle rfl);(case hov=>((repeat (first|with_reducible exact ov_nil|apply ov_cons));done));(case hu=>repeat (exact Upd.here _ _));(case hν'=>intro e he;simp at he;simp [he]))
    all_goals (apply dta 13;(case hi|hx=>rfl);(case hq=>kernel_rfl))
    all_goals (apply d_done;(case hr=>kernel_rfl))
   rotate_right
   focus
    (apply x_exec 7;(case hi=>rfl);(case hop=>apply m_callFJ (hs:=qf)<;>rfl);(case hd=>rfl);rintro _ _ _ ⟨rfl,rfl,rfl⟩;refine ⟨(by intro e he;exact he),?_⟩)
    all_goals (apply dtm 8;(case hi|hx=>rfl);(case hq=>kernel_rfl);apply dtk 9;(case hi=>rfl);(case hop=>(apply prd;apply p_extract0<;>rfl));(case hq=>kernel_rfl))
    all_goals (apply dtk 10;(case hi=>rfl);(case hop=>(apply prd;apply p_extract1<;>rfl));(case hq=>kernel_rfl))
    all_goals (apply d_exec 11;(case hi=>rfl);(case hr=>kernel_rfl);(case hop=>exact m_alloc rfl);(case hd=>rfl);rintro _ _ _ ⟨eb,rfl,rfl,rfl⟩;refine ⟨(by intro e he;(simp at he;simp [he];done)),?_⟩)
    all_goals (apply d_store 12;(case hi=>rfl);(case hr=>kernel_rfl);(case hL=>infer_instance);(case hp|hx|hc|hsz|h1=>rfl);(case hb=>repeat exact mhd _);(case hfit=>exact nle rfl);(case hov=>((repeat (first|with_reducible exact ov_nil|apply ov_cons));done));(case hu=>repeat (exact Upd.here _ _));(case hν'=>intro e he;simp at he;simp [he]))
    all_goals (apply dta 13;(case hi|hx=>rfl);(case hq=>kernel_rfl))
    all_goals (apply d_done;(case hr=>kernel_rfl))
  all_goals
   repeat' (first|apply v_seq)
  all_goals
   refine d_start _ (by kernel_rfl) (by kernel_rfl) (by kernel_rfl) (fun _ he=>he) ?_
   all_goals (apply dtm 0;(case hi|hx=>rfl);(case hq=>kernel_rfl);apply dtk 1;(case hi=>rfl);(case hop=>(apply prd;apply p_not<;>rfl));(case hq=>kernel_rfl))
   all_goals (apply dtm 2;(case hi|hx=>rfl);(case hq=>kernel_rfl))
   all_goals (try (apply d_guardB 3;(case hi|hgd|h1|h2=>rfl);all_goals (intro h;(try simp only [reduceCtorEq,zzz] at h))))
   all_goals (apply dpa 3;(case hi|hg|hn=>rfl);(case hq=>kernel_rfl))
   all_goals (try (apply d_guardB 4;(case hi|hgd|h1|h2=>rfl);all_goals (intro h;(try simp only [reduceCtorEq,zzz] at h))))
   all_goals (apply dpa 4;(case hi|hg|hn=>rfl);(case hq=>kernel_rfl))
   all_goals (try (apply d_guardB 5;(case hi|hgd|h1|h2=>rfl);all_goals (intro h;(try simp only [reduceCtorEq,zzz] at h))))
   all_goals (apply dpa 5;(case hi|hg|hn=>rfl);(case hq=>kernel_rfl))
   all_goals (try (apply d_guardB 6;(case hi|hgd|h1|h2=>rfl);all_goals (intro h;(try simp only [reduceCtorEq,zzz] at h))))
   all_goals (apply dpa 6;(case hi|hg|hn=>rfl);(case hq=>kernel_rfl))
   all_goals (try (apply d_guardB 7;(case hi|hgd|h1|h2=>rfl);all_goals (intro h;(try simp only [reduceCtorEq,zzz] at h))))
   all_goals (apply dpa 7;(case hi|hg|hn=>rfl);(case hq=>kernel_rfl))
   all_goals (try (apply d_guardB 8;(case hi|hgd|h1|h2=>rfl);all_goals (intro h;(try simp only [reduceCtorEq,zzz] at h))))
   all_goals (apply dpa 8;(case hi|hg|hn=>rfl);(case hq=>kernel_rfl))
   all_goals (try (apply d_guardB 9;(case hi|hgd|h1|h2=>rfl);all_goals (intro h;(try simp only [reduceCtorEq,zzz] at h))))
   all_goals (apply dpa 9;(case hi|hg|hn=>rfl);(case hq=>kernel_rfl))
   all_goals (try (apply d_guardB 10;(case hi|hgd|h1|h2=>rfl);all_goals (intro h;(try simp only [reduceCtorEq,zzz] at h))))
   all_goals (apply dpa 10;(case hi|hg|hn=>rfl);(case hq=>kernel_rfl))
   all_goals (apply dtk 11;(case hi=>rfl);(case hop=>(apply prd;apply p_pickF<;>rfl));(case hq=>kernel_rfl))
   all_goals (apply d_done;(case hr=>kernel_rfl))
  all_goals
   repeat' (first|apply v_skip|apply v_condF;(case hc=>rfl)|fail)
  all_goals
   (refine v_end [(hb,_)] (outsA0 rfl) (by repeat (first|exact List.Sublist.refl _|apply List.Sublist.cons)) ?_
    rw [if_neg (by simp)]
    exact ⟨_,rfl,_,_,_,rfl,hi,ha,hc⟩)
noncomputable def takeH (h:Hd) (x:Rc):Hd:=if x.index≤h.base then h else { h with base:=x.index,image:=x.image,acc:=h.acc.drop (placeN h.acc (x.index+1)),cho:=h.cho.drop (placeN h.cho (x.index+1)) }
theorem take_s {G:GH}{H:Hd}{L:List Value}{x:Rc}{xv:Value}{n:Nat}(hb:Nat) (hh:HdV G H L) (g:Good n H) (hn:n≤200) (hx:RcV G x xv) (him:x.image.length≤40000) (hxi:0≤x.index∧x.index≤4294967296) :
 Con Tryz.prog 156 #[.pointer (some ⟨hb,0,none⟩),xv] G [(hb,hdO L)] (fun _ G' μ'=>∃ L',μ'=[(hb,hdO L')]∧HdV G' (takeH H x) L'):=by
 obtain ⟨im,av,cv,rfl,hi,ha,hc⟩:=hh
 obtain ⟨A0,c0,rfl,-⟩:=id hi.openInt
 obtain ⟨A1,c1,rfl,-⟩:=id ha.open
 obtain ⟨A2,c2,rfl,-⟩:=id hc.open
 obtain ⟨iv,rfl,hxv⟩:=hx
 obtain ⟨A3,c3,rfl,-⟩:=id hxv.openInt
 have qc:=bclone_s hxv (by omega)
 have hwf:=hxv.openInt
 obtain ⟨_,_,-,-,-,-,-,hwx⟩:=hwf
 have hna:=g.nacc
 have hnc:=g.ncho
 unfold takeH
 generalize hivl:Value.slice A3 x.image.length c3=iv at *
 (refine v_enter Tryz.func156 rfl Tryz.ntmps156 rfl ?_;intro B _)
 repeat' (first|apply v_seq|apply v_region|apply v_nil|apply v_box (zs:=recL x.kind x.round x.node x.index x.cmd iv);(case hx|hz|hd=>rfl);intro xb|fail)
 refine d_start _ (by kernel_rfl) (by kernel_rfl) (by kernel_rfl) (fun _ he=>he) ?_
 all_goals (apply dtk 0;(case hi=>rfl);(case hop=>(apply prd;apply p_fieldAddrB<;>rfl));(case hq=>kernel_rfl);apply dtk 1;(case hi=>rfl);(case hop=>first|apply r_loadNo;(case hx=>rfl);(case h=>repeat fail);(case hd=>repeat fail);(case hn=>rfl)|apply r_load1;rfl;(apply Cell.own;(case h=>repeat exact mhd _);rfl)|apply r_loadN;rfl;(apply CellsAt.own;(case h=>repeat fail));rfl);(case hq=>kernel_rfl))
 all_goals (apply dtm 2;(case hi|hx=>rfl);(case hq=>kernel_rfl);apply dtn 3;(case hi|hx=>rfl);(case hq=>kernel_rfl))
 all_goals (apply dtk 4;(case hi=>rfl);(case hop=>(apply prd;apply p_fieldAddrB<;>rfl));(case hq=>kernel_rfl);apply dtk 5;(case hi=>rfl);(case hop=>(apply prd;apply p_fieldAddrB<;>rfl));(case hq=>kernel_rfl))
 all_goals (apply dtk 6;(case hi=>rfl);(case hop=>first|apply r_loadNo;(case hx=>rfl);(case h=>repeat fail);(case hd=>repeat fail);(case hn=>rfl)|apply r_load1;rfl;(apply Cell.own;(case h=>repeat first|exact mhd _|apply mtl);rfl)|apply r_loadN;rfl;(apply CellsAt.own;(case h=>repeat fail));rfl);(case hq=>kernel_rfl);apply dtk 7;(case hi=>rfl);(case hop=>(apply prd;apply p_le<;>rfl));(case hq=>kernel_rfl))
 all_goals (apply d_done;(case hr=>kernel_rfl))
 repeat' (first|apply v_seq|apply v_skip|apply v_cond;(case hc=>rfl);all_goals (intro h;(try simp only [reduceCtorEq,zzz] at h))|fail)
 ·have hle:=h
  refine v_ret [(hb,_)] (outsA0 rfl) (by repeat (first|exact List.Sublist.refl _|apply List.Sublist.cons)) ?_
  rw [if_pos hle]
  exact ⟨_,rfl,_,_,_,rfl,hi,ha,hc⟩
 ·have hgt:=h
  rw [if_neg hgt]
  subst hivl
  refine d_start [(xb,.cells (recL x.kind x.round x.node x.index x.cmd (.slice A3 x.image.length c3)).toArray 42 (0,0))] (by kernel_rfl) (by kernel_rfl) (by kernel_rfl) (by intro e he;(simp at he;simp [he];done)) ?_
  all_goals (apply dtm 0;(case hi|hx=>rfl);(case hq=>kernel_rfl);apply dtm 1;(case hi|hx=>rfl);(case hq=>kernel_rfl))
  all_goals (apply dtk 2;(case hi=>rfl);(case hop=>(apply prd;apply p_fieldAddrB<;>rfl));(case hq=>kernel_rfl);apply dtk 3;(case hi=>rfl);(case hop=>first|apply r_loadNo;(case hx=>rfl);(case h=>repeat fail);(case hd=>repeat fail);(case hn=>rfl)|apply r_load1;rfl;(apply Cell.own;(case h=>repeat exact mhd _);rfl)|apply r_loadN;rfl;(apply CellsAt.own;(case h=>repeat fail));rfl);(case hq=>kernel_rfl))
  all_goals (apply dtk 4;(case hi=>rfl);(case hop=>(apply prd;apply p_fieldAddrB<;>rfl));(case hq=>kernel_rfl);apply dtk 5;(case hi=>rfl);(case hop=>first|apply r_loadNo;(case hx=>rfl);(case h=>repeat fail);(case hd=>repeat fail);(case hn=>rfl)|apply r_load1;rfl;(apply Cell.own;(case h=>repeat exact mhd _);rfl)|apply r_loadN;rfl;(apply CellsAt.own;(case h=>repeat fail));rfl);(case hq=>kernel_rfl))
  all_goals ((apply d_call 6 (hs:=qc);(case hi=>rfl);(case hr=>kernel_rfl);(case ha=>rfl);(case hp=>exact List.Perm.refl _);(case hd=>rfl);(case hν'=>intro e he;simp at he;simp [he]);rintro r1 G1 ν1 - ⟨rfl,hg1⟩;obtain ⟨A4,c4,rfl,-,-⟩:=hg1.shape))
  all_goals (apply dtn 7;(case hi|hx=>rfl);(case hq=>kernel_rfl);apply dtk 8;(case hi=>rfl);(case hop=>(apply prd;apply p_fieldAddrB<;>rfl));(case hq=>kernel_rfl))
  all_goals (apply dtk 9;(case hi=>rfl);(case hop=>(apply prd;apply p_fieldAddrB<;>rfl));(case hq=>kernel_rfl))
  all_goals (apply d_store 10;(case hi=>rfl);(case hr=>kernel_rfl);(case hL=>infer_instance);(case hp|hx|hc|hsz|h1=>rfl);(case hb=>repeat first|exact mhd _|apply mtl|apply List.mem_append_right);(case hfit=>exact nle rfl);(case hov=>((repeat (first|with_reducible exact ov_nil|apply ov_cons));done));(case hu=>repeat first|exact Upd.here _ _|apply Upd.there|apply Upd.app);(case hν'=>intro e he;simp at he;simp [he]))
  all_goals (apply dtn 11;(case hi|hx=>rfl);(case hq=>kernel_rfl);apply dtk 12;(case hi=>rfl);(case hop=>(apply prd;apply p_fieldAddrB<;>rfl));(case hq=>kernel_rfl))
  all_goals (apply dtk 13;(case hi=>rfl);(case hop=>(apply prd;apply p_fieldAddrB<;>rfl));(case hq=>kernel_rfl))
  all_goals (apply d_store 14;(case hi=>rfl);(case hr=>kernel_rfl);(case hL=>infer_instance);(case hp|hx|hc|hsz|h1=>rfl);(case hb=>repeat first|exact mhd _|apply mtl|apply List.mem_append_right);(case hfit=>exact nle rfl);(case hov=>((repeat (first|with_reducible exact ov_nil|apply ov_cons));done));(case hu=>repeat first|exact Upd.here _ _|apply Upd.there|apply Upd.app);(case hν'=>intro e he;simp at he;simp [he]))
  all_goals (apply d_done;(case hr=>kernel_rfl))
  repeat' (first|apply v_seq)
  refine v_frz ν1 (by repeat (exact PickA.here _)) ?_
  intro G2 hle2 hG2
  have hi2:=hg1.ints hG2 hwx
  have ha2:=esle ha hle2
  have qa:=from_s (x.index+1) ha2 g.racc (by omega)
  refine d_start [(xb,.cells (recL x.kind x.round x.node x.index x.cmd (.slice A3 x.image.length c3)).toArray 42 (0,0))] (by kernel_rfl) (by kernel_rfl) (by kernel_rfl) (by intro e he;(simp at he;simp [he];done)) ?_
  all_goals (apply dtm 0;(case hi|hx=>rfl);(case hq=>kernel_rfl);apply dtm 1;(case hi|hx=>rfl);(case hq=>kernel_rfl))
  all_goals (apply dtn 2;(case hi|hx=>rfl);(case hq=>kernel_rfl);apply dtk 3;(case hi=>rfl);(case hop=>(apply prd;apply p_fieldAddrB<;>rfl));(case hq=>kernel_rfl))
  all_goals (apply dtk 4;(case hi=>rfl);(case hop=>(apply prd;apply p_fieldAddrB<;>rfl));(case hq=>kernel_rfl);apply dtk 6;(case hi=>rfl);(case hop=>(apply prd;apply p_fieldAddrB<;>rfl));(case hq=>kernel_rfl))
  all_goals (apply dtk 7;(case hi=>rfl);(case hop=>first|apply r_loadNo;(case hx=>rfl);(case h=>repeat fail);(case hd=>repeat fail);(case hn=>rfl)|apply r_load1;rfl;(apply Cell.own;(case h=>repeat exact mhd _);rfl)|apply r_loadN;rfl;(apply CellsAt.own;(case h=>repeat fail));rfl);(case hq=>kernel_rfl);apply dtk 8;(case hi=>rfl);(case hop=>(apply prd;apply p_add;(case hx|hy=>rfl);(case h=>omega)));(case hq=>kernel_rfl))
  all_goals (apply d_keep 5 (hop:=ReadOp.move ?hop);(case hi=>rfl);(case hr=>kernel_rfl);(case hop=>(apply r_load1;rfl;(apply Cell.own;(case h=>repeat first|exact mhd _|apply mtl);rfl)));(case hd=>rfl))
  all_goals ((apply d_call 9 (hs:=qa);(case hi=>rfl);(case hr=>kernel_rfl);(case ha=>rfl);(case hp=>exact List.Perm.refl _);(case hd=>rfl);(case hν'=>intro e he;simp at he;simp [he]);rintro r1 G1 ν5 - ⟨rfl,hg5⟩;obtain ⟨A5,c5,rfl,-,-⟩:=hg5.shape))
  all_goals (apply dtn 10;(case hi|hx=>rfl);(case hq=>kernel_rfl);apply dtk 11;(case hi=>rfl);(case hop=>(apply prd;apply p_fieldAddrB<;>rfl));(case hq=>kernel_rfl))
  all_goals (apply dtk 12;(case hi=>rfl);(case hop=>(apply prd;apply p_fieldAddrB<;>rfl));(case hq=>kernel_rfl))
  all_goals (apply d_store 13;(case hi=>rfl);(case hr=>kernel_rfl);(case hL=>infer_instance);(case hp|hx|hc|hsz|h1=>rfl);(case hb=>repeat first|exact mhd _|apply mtl|apply List.mem_append_right);(case hfit=>exact nle rfl);(case hov=>((repeat (first|with_reducible exact ov_nil|apply ov_cons));done));(case hu=>repeat first|exact Upd.here _ _|apply Upd.there|apply Upd.app);(case hν'=>intro e he;simp at he;simp [he]))
  all_goals (apply d_done;(case hr=>kernel_rfl))
  repeat' (fail)
  refine v_frz ν5 (by repeat (exact PickA.here _)) ?_
  intro G4 hle4 hG4
  have hc4:=esle (esle hc hle2) hle4
  have hi4:=hi2.mono hle4
  have ha4:=es_of_grow hg5 hG4 (fun y hy=>by
   have:=(g.acc y (List.mem_of_mem_drop hy))
   exact this.2.1)
  have qc:=from_s (x.index+1) hc4 g.rcho (by omega)
  refine d_start [(xb,.cells (recL x.kind x.round x.node x.index x.cmd (.slice A3 x.image.length c3)).toArray 42 (0,0))] (by kernel_rfl) (by kernel_rfl) (by kernel_rfl) (by intro e he;(simp at he;simp [he];done)) ?_
  all_goals (apply dtm 0;(case hi|hx=>rfl);(case hq=>kernel_rfl);apply dtm 1;(case hi|hx=>rfl);(case hq=>kernel_rfl))
  all_goals (apply dtn 2;(case hi|hx=>rfl);(case hq=>kernel_rfl);apply dtk 3;(case hi=>rfl);(case hop=>(apply prd;apply p_fieldAddrB<;>rfl));(case hq=>kernel_rfl))
  all_goals (apply dtk 4;(case hi=>rfl);(case hop=>(apply prd;apply p_fieldAddrB<;>rfl));(case hq=>kernel_rfl);apply dtk 6;(case hi=>rfl);(case hop=>(apply prd;apply p_fieldAddrB<;>rfl));(case hq=>kernel_rfl))
  all_goals (apply dtk 7;(case hi=>rfl);(case hop=>first|apply r_loadNo;(case hx=>rfl);(case h=>repeat fail);(case hd=>repeat fail);(case hn=>rfl)|apply r_load1;rfl;(apply Cell.own;(case h=>repeat exact mhd _);rfl)|apply r_loadN;rfl;(apply CellsAt.own;(case h=>repeat fail));rfl);(case hq=>kernel_rfl);apply dtk 8;(case hi=>rfl);(case hop=>(apply prd;apply p_add;(case hx|hy=>rfl);(case h=>omega)));(case hq=>kernel_rfl))
  all_goals (apply d_keep 5 (hop:=ReadOp.move ?hop);(case hi=>rfl);(case hr=>kernel_rfl);(case hop=>(apply r_load1;rfl;(apply Cell.own;(case h=>repeat first|exact mhd _|apply mtl);rfl)));(case hd=>rfl))
  all_goals ((apply d_call 9 (hs:=qc);(case hi=>rfl);(case hr=>kernel_rfl);(case ha=>rfl);(case hp=>exact List.Perm.refl _);(case hd=>rfl);(case hν'=>intro e he;simp at he;simp [he]);rintro r1 G1 ν6 - ⟨rfl,hg6⟩;obtain ⟨A6,c6,rfl,-,-⟩:=hg6.shape))
  all_goals (apply dtn 10;(case hi|hx=>rfl);(case hq=>kernel_rfl);apply dtk 11;(case hi=>rfl);(case hop=>(apply prd;apply p_fieldAddrB<;>rfl));(case hq=>kernel_rfl))
  all_goals (apply dtk 12;(case hi=>rfl);(case hop=>(apply prd;apply p_fieldAddrB<;>rfl));(case hq=>kernel_rfl))
  all_goals (apply d_store 13;(case hi=>rfl);(case hr=>kernel_rfl);(case hL=>infer_instance);(case hp|hx|hc|hsz|h1=>rfl);(case hb=>repeat first|exact mhd _|apply mtl|apply List.mem_append_right);(case hfit=>exact nle rfl);(case hov=>((repeat (first|with_reducible exact ov_nil|apply ov_cons));done));(case hu=>repeat first|exact Upd.here _ _|apply Upd.there|apply Upd.app);(case hν'=>intro e he;simp at he;simp [he]))
  all_goals (apply d_done;(case hr=>kernel_rfl))
  repeat' (fail)
  refine v_frz ν6 (by repeat (exact PickA.here _)) ?_
  intro G6 hle6 hG6
  have hc6:=es_of_grow hg6 hG6 (fun y hy=>by
   have:=(g.cho y (List.mem_of_mem_drop hy))
   exact this.2.1)
  refine v_end [(hb,_)] (outsA0 rfl) (by repeat (first|exact List.Sublist.refl _|apply List.Sublist.cons)) ?_
  exact ⟨_,rfl,_,_,_,rfl,hi4.mono hle6,esle ha4 hle6,hc6⟩
theorem chg_eq (h:Hd) (x:Rc):chg h x=if x.kind=1 then h.prom x else if x.kind=2 then accH h x else if x.kind=3 then choH h x else takeH h x:=rfl
theorem entOf_ok {x:Rc}(hx:chkI x=0) (hc:x.cmd.ok):(entOf x).ok∧(⟨x.index,0,0,x.cmd⟩:Ent).ok∧0≤x.index∧x.index≤4294967296∧x.image.length≤32768:=by
 have h0:recI x.kind x.round x.node x.index x.cmd x.image.length=0:=hx
 obtain ⟨hk,hr,hi,hcc,ho⟩:=rec0 h0
 obtain ⟨hfit,hsm,him,hsz⟩:=fits0 h0
 unfold ranP mayP at hr
 have hr0:0≤x.round∧x.round≤4294967296:=by unfold othP at ho;omega
 have hn0:0≤x.node∧x.node≤9:=by unfold othP at ho;omega
 have hi0:0≤x.index∧x.index≤4294967296:=by unfold othP at ho;omega
 exact ⟨⟨wf64 (n:=x.index) (by omega),wf64 (n:=x.round) (by omega),wf64 (n:=x.node) (by omega),hc⟩,⟨wf64 (n:=x.index) (by omega),wf64 (n:=0) (by omega),wf64 (n:=0) (by omega),hc⟩,hi0.1,hi0.2,him⟩
theorem change_s {G:GH}{H:Hd}{L:List Value}{x:Rc}{xv:Value}{n:Nat}(hb:Nat) (hh:HdV G H L) (g:Good n H) (hn:n≤200) (hx:RcV G x xv) (hv:chkI x=0) (hc:x.cmd.ok) :
 Con Tryz.prog 108 #[.pointer (some ⟨hb,0,none⟩),xv] G [(hb,hdO L)] (fun _ G' μ'=>∃ L',μ'=[(hb,hdO L')]∧HdV G' (chg H x) L'):=by
 obtain ⟨e1,e2,e3,e4,e5⟩:=entOf_ok hv hc
 have hk:=(rec0 (show recI x.kind x.round x.node x.index x.cmd x.image.length=0 from hv)).1
 have q2:=accept_s hb hh g hn hx (withL_ok (fun e he=>(g.acc e he).2.1) e1)
 have q3:=choose_s hb hh g hn hx (withL_ok (fun e he=>(g.cho e he).2.1) e2)
 have q4:=take_s hb hh g hn hx (by omega) ⟨e3,e4⟩
 have hh':=hh
 obtain ⟨im,av,cv,rfl,hi,ha,hcv⟩:=hh
 have q1:=promise_s G hb H.pr H.pn H.base x.round x.node im av cv
 obtain ⟨iv,rfl,hxv⟩:=hx
 rw [chg_eq]
 (refine v_enter Tryz.func108 rfl Tryz.ntmps108 rfl ?_;intro B _)
 obtain k|k|k|k:x.kind=1∨x.kind=2∨x.kind=3∨x.kind=4:=by omega
 ·rw [if_pos k,prom_max]
  repeat' (first|apply v_seq|apply v_region|apply v_nil|apply v_block|apply v_pure;(case hop=>first|apply p_move<;>rfl|apply p_eq<;>rfl|apply p_assign<;>rfl|apply p_fieldAddrB<;>rfl|fail);(case hd=>rfl)|apply v_cond;(case hc=>rfl);all_goals (intro h;(try simp only [reduceCtorEq,zzz] at h);try (exfalso;omega))|apply v_box (zs:=recL x.kind x.round x.node x.index x.cmd iv);(case hx|hz|hd=>rfl);intro xb|apply v_read;(case hop=>first|apply r_loadNo;(case hx=>rfl);(case h=>repeat exact mhd _);(case hd=>repeat first|with_reducible exact dt_nil|apply dt_here);(case hn=>rfl)|apply r_load1;rfl;(apply Cell.own;(case h=>repeat exact mhd _);rfl)|fail);(case hd=>rfl)|fail)
  refine v_call (μ1:=[(hb,_)]) (μ2:=_) rfl q1 (PickA.perm (by repeat (first|exact PickA.last|apply PickA.cons))) rfl ?_
  rintro _ _ _ - ⟨rfl,rfl⟩
  repeat' (first|apply v_nil|apply v_blk)
  refine v_end [(hb,_)] (outsA0 rfl) (by repeat (first|exact List.nil_sublist _|apply List.Sublist.cons_cons)) ?_
  exact ⟨_,rfl,_,_,_,rfl,hi,ha,hcv⟩
 ·rw [if_neg (by omega),if_pos k]
  repeat' (first|apply v_seq|apply v_region|apply v_nil|apply v_block|apply v_pure;(case hop=>first|apply p_move<;>rfl|apply p_eq<;>rfl|apply p_assign<;>rfl|apply p_fieldAddrB<;>rfl|fail);(case hd=>rfl)|apply v_cond;(case hc=>rfl);all_goals (intro h;(try simp only [reduceCtorEq,zzz] at h);try (exfalso;omega))|apply v_box (zs:=recL x.kind x.round x.node x.index x.cmd iv);(case hx|hz|hd=>rfl);intro xb|apply v_read;(case hop=>first|apply r_loadNo;(case hx=>rfl);(case h=>repeat exact mhd _);(case hd=>repeat first|with_reducible exact dt_nil|apply dt_here);(case hn=>rfl)|apply r_load1;rfl;(apply Cell.own;(case h=>repeat exact mhd _);rfl)|fail);(case hd=>rfl)|fail)
  refine v_call (μ1:=[(hb,_)]) (μ2:=_) rfl q2 (PickA.perm (by repeat (first|exact PickA.last|apply PickA.cons))) rfl ?_
  rintro _ G1 _ - ⟨L',rfl,h'⟩
  repeat' (first|apply v_nil|apply v_blk)
  refine v_end [(hb,_)] (outsA0 rfl) (by repeat (first|exact List.nil_sublist _|apply List.Sublist.cons_cons)) ?_
  exact ⟨_,rfl,h'⟩
 ·rw [if_neg (by omega),if_neg (by omega),if_pos k]
  repeat' (first|apply v_seq|apply v_region|apply v_nil|apply v_block|apply v_pure;(case hop=>first|apply p_move<;>rfl|apply p_eq<;>rfl|apply p_assign<;>rfl|apply p_fieldAddrB<;>rfl|fail);(case hd=>rfl)|apply v_cond;(case hc=>rfl);all_goals (intro h;(try simp only [reduceCtorEq,zzz] at h);try (exfalso;omega))|apply v_box (zs:=recL x.kind x.round x.node x.index x.cmd iv);(case hx|hz|hd=>rfl);intro xb|apply v_read;(case hop=>first|apply r_loadNo;(case hx=>rfl);(case h=>repeat exact mhd _);(case hd=>repeat first|with_reducible exact dt_nil|apply dt_here);(case hn=>rfl)|apply r_load1;rfl;(apply Cell.own;(case h=>repeat exact mhd _);rfl)|fail);(case hd=>rfl)|fail)
  refine v_call (μ1:=[(hb,_)]) (μ2:=_) rfl q3 (PickA.perm (by repeat (first|exact PickA.last|apply PickA.cons))) rfl ?_
  rintro _ G1 _ - ⟨L',rfl,h'⟩
  repeat' (first|apply v_nil|apply v_blk)
  refine v_end [(hb,_)] (outsA0 rfl) (by repeat (first|exact List.nil_sublist _|apply List.Sublist.cons_cons)) ?_
  exact ⟨_,rfl,h'⟩
 ·rw [if_neg (by omega),if_neg (by omega),if_neg (by omega)]
  repeat' (first|apply v_seq|apply v_region|apply v_nil|apply v_block|apply v_pure;(case hop=>first|apply p_move<;>rfl|apply p_eq<;>rfl|apply p_assign<;>rfl|apply p_fieldAddrB<;>rfl|fail);(case hd=>rfl)|apply v_cond;(case hc=>rfl);all_goals (intro h;(try simp only [reduceCtorEq,zzz] at h);try (exfalso;omega))|apply v_box (zs:=recL x.kind x.round x.node x.index x.cmd iv);(case hx|hz|hd=>rfl);intro xb|apply v_read;(case hop=>first|apply r_loadNo;(case hx=>rfl);(case h=>repeat exact mhd _);(case hd=>repeat first|with_reducible exact dt_nil|apply dt_here);(case hn=>rfl)|apply r_load1;rfl;(apply Cell.own;(case h=>repeat exact mhd _);rfl)|fail);(case hd=>rfl)|fail)
  refine v_call (μ1:=[(hb,_)]) (μ2:=_) rfl q4 (PickA.perm (by repeat (first|exact PickA.last|apply PickA.cons))) rfl ?_
  rintro _ G1 _ - ⟨L',rfl,h'⟩
  repeat' (first|apply v_nil|apply v_blk)
  refine v_end [(hb,_)] (outsA0 rfl) (by repeat (first|exact List.nil_sublist _|apply List.Sublist.cons_cons)) ?_
  exact ⟨_,rfl,h'⟩
def RcR (G:GH) (x:Rc) (cs:List Value):Prop := ∃ iv,cs=recL x.kind x.round x.node x.index x.cmd iv∧x.cmd.ok∧x.small∧Sl G 1 (IntR .u8) iv x.image
theorem RcR.le {G G':GH}(h:GH.le G G') {x:Rc}{cs:List Value}(hc:RcR G x cs):RcR G' x cs:=let ⟨iv,h1,h2,h3,h4⟩:=hc;⟨iv,h1,h2,h3,h4.mono h⟩
abbrev Rs (G:GH) (v:Value) (l:List Rc):Prop:=Sl G 12 (RcR G) v l
theorem Rs.le' {G G':GH}(h:GH.le G G') {v:Value}{l:List Rc}(hs:Rs G v l):Rs G' v l:=Sl.le hs h fun _ _=>RcR.le h
theorem rsOpen {G:GH}{v:Value}{l:List Rc}(h:Rs G v l):∃ A c,∃ (iv:Nat→Value),v=.slice A l.length c∧l.length≤c∧c≤maxLen∧(0<l.length→A.isSome=true) ∧
 (∀ i (h:i<l.length),CellsG G ((adr A).add (i*12)) (recL l[i].kind l[i].round l[i].node l[i].index l[i].cmd (iv i)))∧(∀ i (h:i<l.length),Sl G 1 (IntR .u8) (iv i) l[i].image)∧(∀ x∈l,x.cmd.ok∧x.small):=by
 obtain ⟨A,c,rfl,h1,h2,h3,h4⟩:=h.open
 have key:∀ i,∃ m:Value,∀ (h:i<l.length),CellsG G ((adr A).add (i*12)) (recL l[i].kind l[i].round l[i].node l[i].index l[i].cmd m)∧Sl G 1 (IntR .u8) m l[i].image∧(l[i].cmd.ok∧l[i].small):=fun i=>by
  by_cases hi:i<l.length
  ·obtain ⟨cs,_,⟨iv,rfl,h6,h7,h8⟩,h5⟩:=h4 i _ (List.getElem?_eq_getElem hi)
   exact ⟨iv,fun _=>⟨h5,h8,h6,h7⟩⟩
  ·exact ⟨.slice none 0 0,fun h=>absurd h hi⟩
 have hk:=fun i=>Classical.choose_spec (key i)
 refine ⟨A,c,fun i=>Classical.choose (key i),rfl,h1,h2,h3,fun i hi=>(hk i hi).1,fun i hi=>(hk i hi).2.1,fun x hx=>?_⟩
 obtain ⟨i,hi,rfl⟩:=List.getElem_of_mem hx
 exact (hk i hi).2.2
theorem good_step {n:Nat}{h:Hd}(g:Good n h) {x:Rc}(hc:x.cmd.ok):Good (n+1) (stepH h x):=by
 unfold stepH
 by_cases hx:chkI x=0
 ·rw [if_pos hx];exact good_chg g hx hc
 ·rw [if_neg hx];exact g.more (by omega)
theorem foldl_take {l:List Rc}{k:Nat}(h:k<l.length):(l.take (k+1)).foldl stepH Hd.zero=stepH ((l.take k).foldl stepH Hd.zero) l[k]:=by
 rw [List.take_add_one,List.getElem?_eq_getElem h,List.foldl_append]
 rfl
theorem hd_zero (G:GH):HdV G Hd.zero (hdL 0 0 0 (.slice none 0 0) (.slice none 0 0) (.slice none 0 0)):=⟨_,_,_,rfl,Sl.nil,Sl.nil,Sl.nil⟩
theorem of_s {G:GH}(hT:TabsG G) {l:List Rc}{lv:Value}(hs:Rs G lv l) (hn:l.length≤200):Con Tryz.prog 64 #[lv] G [] (fun r G' μ'=>μ'=[]∧∃ L,r=.agg L.toArray∧HdV G' (hardOf l) L):=by
 obtain ⟨A,c,ivf,rfl,hlc,hcm,hsome,hcp,him,hok⟩:=rsOpen hs
 simp only [maxLen] at hcm
 (refine v_enter Tryz.func64 rfl Tryz.ntmps64 rfl ?_;intro B _)
 repeat' (first|apply v_seq|apply v_region|apply v_nil|apply v_block|apply v_pure;(case hop=>first|apply p_move<;>rfl|apply p_assign<;>rfl|apply p_lenSlice<;>rfl|apply p_build;(case hz=>rfl);(case hv=>(simp only [List.map_cons,List.map_nil];repeat (with_reducible exact evs_nil)));(case hb=>(apply bldL;repeat (exact bld_nil)))|fail);(case hd=>rfl)|apply v_alloc;(case hz|hd=>rfl);intro b|apply v_box;(case hx|hz|hd=>rfl);intro b|fail)
 rename_i ob
 rename Nat=>hb
 refine v_loop [10,9,8,3,2] (fun us G' μ'=>GH.le G G'∧∃ (k:Nat) (L:List Value),k≤l.length∧us=[Value.int .i64 (k:Nat),.int .i64 (l.length:Nat),.slice A l.length c,.pointer (some ⟨hb,0,none⟩),.pointer (some ⟨ob,0,none⟩)]∧μ'=[(hb,hdO L),(ob,.cells (hdL 0 0 0 (.slice none 0 0) (.slice none 0 0) (.slice none 0 0)).toArray 27 (0,0))]∧HdV G' ((l.take k).foldl stepH Hd.zero) L∧Good k ((l.take k).foldl stepH Hd.zero)) (fun us=>l.length-(headI us).toNat) rfl ⟨GH.le_refl _,0,_,by omega,rfl,rfl,hd_zero G,good_zero⟩ ?_
 rintro us G2 μ' ⟨hle,k,L,hk,rfl,rfl,hh,hg⟩
 by_cases hlt:k<l.length
 ·have e1:((k:Nat):Int).toNat=k:=by omega
  have hcx:=(hcp k hlt).le hle
  have hix:=(him k hlt).mono hle
  have hcok:=hok _ (List.getElem_mem hlt)
  have hft:=foldl_take hlt
  have hgs:=good_step hg hcok.1
  rw [← hft] at hgs
  generalize hxe:l[k]=x at *
  generalize ivf k=iv at *
  obtain ⟨Ai,ci,rfl,hic,him2,-⟩:=id hix.openInt
  simp only [maxLen] at him2
  have hx:RcV G2 x (.agg (recL x.kind x.round x.node x.index x.cmd (.slice Ai x.image.length ci)).toArray):=⟨_,rfl,hix⟩
  have qc:=recCheck_s (hT.le hle) x.kind x.round x.node x.index x.cmd hcok.1 Ai x.image.length ci (by omega)
  by_cases hv:chkI x=0
  ·have q:=change_s hb hh hg (by omega) hx hv hcok.1
   have es:stepH ((l.take k).foldl stepH Hd.zero) x=chg ((l.take k).foldl stepH Hd.zero) x:=by unfold stepH;rw [if_pos hv]
   rw [es] at hft
   rw [show recI x.kind x.round x.node x.index x.cmd x.image.length=0 from hv] at qc
   repeat' (first|apply v_seq|apply v_region|apply v_nil|apply v_skip|apply v_block|apply v_pure;(case hop=>first|apply p_move<;>rfl|apply p_eqs<;>rfl|apply p_lt<;>rfl|apply p_indexAddrS;(case hx|hi=>rfl);(case h0|h=>omega);(case hA=>(apply_assumption;omega))|fail);(case hd=>rfl)|apply v_condT;(case hc=>rfl)|apply v_cond;(case hc=>rfl);all_goals (intro h;(try simp only [reduceCtorEq,zzz] at h);try (exfalso;omega))|apply v_read;(case hop=>(apply r_loadN;rfl;exact CellsAt.frozen hcx;rfl));(case hd=>rfl)|apply v_callJ (hs:=qc);(case ha|hd=>rfl)|apply v_read;(case hop=>(apply r_loadNo;(case hx=>rfl);(case h=>repeat exact mhd _);(case hd=>repeat first|with_reducible exact dt_nil|apply dt_here);(case hn=>rfl)));(case hd=>rfl)|apply v_alloc;(case hz|hd=>rfl);intro b|apply v_store;(case hp|hx|hc|hsz|h1=>rfl);(case hb=>repeat exact mhd _);(case hfit=>exact nle rfl);(case hov=>((repeat (first|with_reducible exact ov_nil|apply ov_cons));done));(case hu=>repeat (exact Upd.here _ _))|fail)
   refine v_call (μ1:=[(hb,_)]) (μ2:=_) rfl q (PickA.perm (by repeat (first|exact PickA.here _|apply PickA.cons))) rfl ?_
   rintro _ G3 _ hle3 ⟨L',rfl,h'⟩
   rw [← hft] at h'
   repeat' (first|apply v_region|apply v_nil|apply v_blk|apply v_pure;(case hop=>first|apply p_move<;>rfl|apply p_add;(case hx|hy=>rfl);(case h=>omega)|fail);(case hd=>rfl)|fail)
   refine v_drop (ν:=[(hb,_),(ob,_)]) (by repeat (first|exact List.Sublist.refl _|apply List.Sublist.cons_cons|apply List.Sublist.cons)) ?_
   refine v_again rfl ⟨GH.le_trans hle hle3,k+1,L',by omega,rfl,rfl,h',hgs⟩ (by simp [headI];omega)
  ·have es:stepH ((l.take k).foldl stepH Hd.zero) x=(l.take k).foldl stepH Hd.zero:=by unfold stepH;rw [if_neg hv]
   rw [es] at hft
   have hv':¬ recI x.kind x.round x.node x.index x.cmd x.image.length=0:=hv
   generalize recI x.kind x.round x.node x.index x.cmd x.image.length=I at *
   repeat' (first|apply v_seq|apply v_region|apply v_nil|apply v_skip|apply v_block|apply v_blk|apply v_pure;(case hop=>first|apply p_move<;>rfl|apply p_eq<;>rfl|apply p_lt<;>rfl|apply p_add;(case hx|hy=>rfl);(case h=>omega)|apply p_indexAddrS;(case hx|hi=>rfl);(case h0|h=>omega);(case hA=>(apply_assumption;omega))|fail);(case hd=>rfl)|apply v_cond;(case hc=>rfl);all_goals (intro h;(try simp only [reduceCtorEq,zzz] at h);try (exfalso;omega))|apply v_read;(case hop=>(apply r_loadN;rfl;exact CellsAt.frozen hcx;rfl));(case hd=>rfl)|apply v_callJ (hs:=qc);(case ha|hd=>rfl)|apply v_read;(case hop=>(apply r_loadNo;(case hx=>rfl);(case h=>repeat exact mhd _);(case hd=>repeat first|with_reducible exact dt_nil|apply dt_here);(case hn=>rfl)));(case hd=>rfl)|apply v_alloc;(case hz|hd=>rfl);intro b|apply v_store;(case hp|hx|hc|hsz|h1=>rfl);(case hb=>repeat exact mhd _);(case hfit=>exact nle rfl);(case hov=>((repeat (first|with_reducible exact ov_nil|apply ov_cons));done));(case hu=>repeat (exact Upd.here _ _))|fail)
   refine v_drop (ν:=[(hb,_),(ob,_)]) (by repeat (first|exact List.Sublist.refl _|apply List.Sublist.cons)) ?_
   refine v_again rfl ⟨hle,k+1,L,by omega,rfl,rfl,by rw [hft];exact hh,hgs⟩ (by simp [headI];omega)
 ·obtain rfl:k=l.length:=by omega
  rw [List.take_length] at hh
  obtain ⟨im,av,cv,rfl,hi,ha,hc⟩:=hh
  obtain ⟨A0,c0,rfl,-⟩:=id hi.openInt
  obtain ⟨A1,c1,rfl,-⟩:=id ha.open
  obtain ⟨A2,c2,rfl,-⟩:=id hc.open
  repeat' (first|apply v_seq|apply v_region|apply v_nil|apply v_exit;(case hp=>rfl)|apply v_pure;(case hop=>first|apply p_move<;>rfl|apply p_lt<;>rfl|apply p_fieldAddrB<;>rfl|apply p_nilCheck<;>rfl|fail);(case hd=>rfl)|apply v_cond;(case hc=>rfl);all_goals (intro h;(try simp only [reduceCtorEq,zzz] at h);try (exfalso;omega))|apply v_read;(case hop=>(apply r_loadNo;(case hx=>rfl);(case h=>repeat exact mhd _);(case hd=>repeat first|with_reducible exact dt_nil|apply dt_here);(case hn=>rfl)));(case hd=>rfl)|apply v_store;(case hp|hx|hc|hsz|h1=>rfl);(case hb=>repeat first|exact mhd _|apply mtl);(case hfit=>exact nle rfl);(case hov=>((repeat (first|with_reducible exact ov_nil|apply ov_cons));done));(case hu=>repeat first|exact Upd.here _ _|apply Upd.there)|fail)
  refine v_retM [] (outsM_cell (vs:=hdL (l.foldl stepH Hd.zero).pr (l.foldl stepH Hd.zero).pn (l.foldl stepH Hd.zero).base (.slice A0 (l.foldl stepH Hd.zero).image.length c0) (.slice A1 (l.foldl stepH Hd.zero).acc.length c1) (.slice A2 (l.foldl stepH Hd.zero).cho.length c2)) (e:=27) rfl rfl (by repeat (first|exact mhd _|apply mtl)) rfl) (by repeat (exact List.nil_sublist _)) ?_
  exact ⟨rfl,_,rfl,_,_,_,rfl,hi,ha,hc⟩
end Go.Proofs.YtpemabgfmnhhnaaGreatDoor
