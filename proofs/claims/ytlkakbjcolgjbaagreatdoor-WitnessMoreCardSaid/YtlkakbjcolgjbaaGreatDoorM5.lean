/-
  witness (layer 43): orders, invoked.
-/
import Derived.Test.YtlkakbjcolgjbaaGreatDoorM4
import Derived.Test.YtlkakbjcolgjbaaGreatDoorM2
import Derived.Test.YtlkakbjcolgjbaaGreatDoorM3
import Derived.Test.YtlkakbjcolgjbaaGreatDoorM1
import Derived.Test.YtlkakbjcolgjbaaGreatDoorRows
import Derived.Test.YtlkakbjcolgjbaaGreatDoorChecked
import Derived.JoinedOf
import Derived.SevenTiedAt
import Derived.LaidMore
import Derived.Lay
import Derived.Test.YtlkakbjcolgjbaaGreatDoorTie
import Derived.Test.YtlkakbjcolgjbaaGreatDoorCards
import Derived.Stop.Joined
set_option linter.unusedSimpArgs false
set_option linter.unusedVariables false
namespace Go.Proofs.YtlkakbjcolgjbaaGreatDoor
open Go.Vx Go.ChangeShapes Go.WideShapes Go.ChangeAt Go.RowKit
abbrev lateP (log:List Cm) (a b:Cl):Prop:=a.e<b.b∧plc log b≤plc log a
def ordL (log:List Cm) (l:List Cl):Prop:=l.Pairwise fun a b=>¬ lateP log a b∧¬ lateP log b a
noncomputable instance (log:List Cm) (l:List Cl):Decidable (ordL log l):=Classical.propDecidable _
theorem ordL_iff {log:List Cm}{l:List Cl}:ordL log l↔∀ i j (hi:i<l.length) (hj:j<l.length),i≠j→¬ lateP log l[i] l[j]:=by
 unfold ordL
 rw [List.pairwise_iff_getElem]
 constructor
 ·intro h i j hi hj hne
  rcases Nat.lt_or_gt_of_ne hne with hlt|hgt
  ·exact (h i j hi hj hlt).1
  ·exact (h j i hj hi hgt).2
 ·intro h i j hi hj hlt
  exact ⟨h i j hi hj (by omega),h j i hj hi (by omega)⟩
theorem ordL_perm {log:List Cm}{l l':List Cl}(h:l.Perm l'):ordL log l↔ordL log l':=h.pairwise_iff fun hab=>⟨hab.2,hab.1⟩
theorem ordL_at {log:List Cm}{l:List Cl}{k:Nat}(hk:k<l.length):(∃ y∈l.drop (k+1),lateP log l[k] y)∨(∃ y∈l.take k,lateP log l[k] y)↔∃ j,∃ hj:j<l.length,k≠j∧lateP log l[k] l[j]:=by
 constructor
 ·rintro (⟨y,hy,h⟩|⟨y,hy,h⟩)
  ·obtain ⟨m,hm,rfl⟩:=List.getElem_of_mem hy
   rw [List.length_drop] at hm
   rw [List.getElem_drop] at h
   exact ⟨k+1+m,by omega,by omega,h⟩
  ·obtain ⟨m,hm,rfl⟩:=List.getElem_of_mem hy
   rw [List.length_take] at hm
   rw [List.getElem_take] at h
   exact ⟨m,by omega,by omega,h⟩
 ·rintro ⟨j,hj,hne,h⟩
  rcases Nat.lt_or_gt_of_ne hne with hlt|hgt
  ·refine .inl ⟨l[j],?_,h⟩
   rw [List.mem_drop_iff_getElem]
   exact ⟨j-(k+1),by omega,by congr 1;omega⟩
  ·refine .inr ⟨l[j],?_,h⟩
   rw [List.mem_take_iff_getElem]
   exact ⟨j,by omega,rfl⟩
theorem p_sliceLN {P:Program}{σ:Env}{ty t e:TypeId}{agg:Bool}{sz bytes:Nat}{zero:Value}{x lo:Operand}{A:Option Addr}{n c:Nat}{k:IntKind}{z:Int} [Ty P t (.slice e)] [Lay P e agg sz bytes zero] (m:Nat) (hx:Env.ev σ x=some (.slice A n c)) (hl:Env.ev σ lo=some (.int k z)) (hz:z=(m:Nat)) (h1:m≤n) (h2:n≤c) :
 PureOp P (.slice t x (some lo) none none) ty σ (.slice (if c=m then A else A.map (·.add (m*sz))) (n-m) (c-m)):=by
 subst hz
 have h:=p_sliceL (P:=P) (ty:=ty) (t:=t) (e:=e) (agg:=agg) (sz:=sz) (bytes:=bytes) (zero:=zero) hx hl (by omega) (by omega) h2
 simpa only [Int.toNat_natCast] using h
set_option maxHeartbeats 2000000 in
theorem orders_s {G:GH}{xb pb:Nat}{av sv:Value}{oP:Obj}{log:List Cm}{R:List Cl}(hP:PlM log log.length oP) (hs:Clr G sv R):Con Tryz.prog 15 #[.pointer (some ⟨xb,0,none⟩),sv] G [(xb,ctO pb av),(pb,oP)] (Keeps (.bool (dec (ordL log R))) G [(xb,ctO pb av),(pb,oP)]):=by
 obtain ⟨A,c,rfl,hlc,hcm,hsome,hcp⟩:=rowOpen hs
 simp only [maxLen] at hcm
 (refine v_enter Tryz.func15 rfl Tryz.ntmps15 rfl ?_;intro B _)
 repeat' (first|apply v_box (d:=2) (zs:=[Value.pointer (some ⟨xb,0,none⟩)]);(case hx|hz|hd=>rfl);intro xx|apply v_seq|apply v_region|apply v_nil|apply v_block|apply v_pure;(case hop=>first|apply p_move<;>rfl|apply p_assign<;>rfl|apply p_lenSlice<;>rfl|fail);(case hd=>rfl)|fail)
 refine v_loop [10,9,8,2,1] (fun us G' μ'=>G'=G∧μ'=(xx,.cells [Value.pointer (some ⟨xb,0,none⟩)].toArray 45 (0,0))::[(xb,ctO pb av),(pb,oP)]∧∃ k:Nat,k≤R.length∧us=[Value.int .i64 (k:Nat),.int .i64 (R.length:Nat),.slice A R.length c,.pointer (some ⟨xx,0,none⟩),.slice A R.length c]∧∀ i j (hi:i<R.length) (hj:j<R.length),i<k→i≠j→¬ lateP log R[i] R[j]) (fun us=>R.length-(headI us).toNat) rfl ⟨rfl,rfl,0,by omega,rfl,by omega⟩ ?_
 rintro us G' _ ⟨hG',rfl,k,hk,rfl,hno⟩
 subst G'
 have e1:((k:Nat):Int).toNat=k:=by omega
 by_cases hlt:k<R.length
 ·have hA:=hsome (by omega)
  have hck:=hcp k hlt
  have hat:=ordL_at (log:=log) hlt
  have hd1:=hs.drop (k:=k+1) (by omega)
  have hd2:=hs.take (k:=k) (by omega)
  have hyes:(∃ j,∃ hj:j<R.length,k≠j∧lateP log R[k] R[j])→dec (ordL log R)=false:=fun ⟨j,hj,hne,h⟩=>dec_neg fun ho=>ordL_iff.1 ho k j hlt hj hne h
  have hnx:¬ (∃ j,∃ hj:j<R.length,k≠j∧lateP log R[k] R[j])→∀ i j (hi:i<R.length) (hj:j<R.length),i<k+1→i≠j→¬ lateP log R[i] R[j]:=fun h i j hi hj hik hne hl=>by
   by_cases hik2:i<k
   ·exact hno i j hi hj hik2 hne hl
   ·obtain rfl:i=k:=by omega
    exact h ⟨j,hj,hne,hl⟩
  have q:=fun (ab:Nat) (y:Cl)=>orders1_s (G:=G) (ab:=ab) (xx:=xx) (xb:=xb) (pb:=pb) (av:=av) hP R[k] y
  generalize R[k]=x at *
  have p1:=fun ab=>containsF_s (cf:=27) (capt:=[.pointer (some ⟨ab,0,none⟩),.pointer (some ⟨xx,0,none⟩)]) (μc:=[(ab,.cells x.cells.toArray 30 (0,0)),(xx,.cells [Value.pointer (some ⟨xb,0,none⟩)].toArray 45 (0,0)),(xb,ctO pb av),(pb,oP)]) (p:=fun y=>lateP log x y) hd1 (fun y _=>q ab y)
  have p2:=fun ab=>containsF_s (cf:=27) (capt:=[.pointer (some ⟨ab,0,none⟩),.pointer (some ⟨xx,0,none⟩)]) (μc:=[(ab,.cells x.cells.toArray 30 (0,0)),(xx,.cells [Value.pointer (some ⟨xb,0,none⟩)].toArray 45 (0,0)),(xb,ctO pb av),(pb,oP)]) (p:=fun y=>lateP log x y) hd2 (fun y _=>q ab y)
  by_cases h1:∃ y∈R.drop (k+1),lateP log x y
  ·have hv:=hyes (hat.1 (.inl h1))
   have q1:=fun ab=>dec_pos h1 ▸ p1 ab
   have q2:=q1
   clear p1 p2 q hno
   repeat' (first|apply v_alloc (d:=6);(case hz|hd=>rfl);intro ab|apply v_pure;(case hop=>(apply p_sliceLN (k+1);(case hx|hl=>rfl);(case hz|h1|h2=>omega)));(case hd=>rfl)|apply v_seq|apply v_region|apply v_nil|apply v_skip|apply v_block|apply v_pass;(case hg|hn|hd=>rfl)|apply v_pure;(case hop=>first|apply p_move<;>rfl|apply p_lt<;>rfl|apply p_assign<;>rfl|apply p_pickT<;>rfl|apply p_add;(case hx|hy=>rfl);(case h=>omega)|apply p_indexAddrS;(case hx|hi=>rfl);(case h0|h=>omega);(case hA=>assumption)|apply p_makeFunc<;>rfl|fail);(case hd=>rfl)|apply v_condT;(case hc=>rfl)|apply v_cond;(case hc=>rfl);all_goals (intro h;(try simp only [reduceCtorEq,zzz] at h);try (exfalso;omega))|apply v_read;(case hop=>(apply r_loadN;rfl;exact CellsAt.frozen hck;rfl));(case hd=>rfl)|apply v_callK (hs:=q1 ab) (μ2:=[]);(case ha=>rfl);(case hp=>exact List.Perm.of_eq (List.append_nil _).symm);(case hd=>rfl)|apply v_store;(case hp|hx|hc|hsz|h1=>rfl);(case hb=>repeat exact mhd _);(case hfit=>exact nle rfl);(case hov=>((repeat (first|with_reducible exact ov_nil|apply ov_cons));done));(case hu=>repeat (exact Upd.here _ _))|fail)
   refine v_ret [(xb,ctO pb av),(pb,oP)] (outsA1 rfl rfl) (by repeat (first|exact List.Sublist.refl _|apply List.Sublist.cons)) ⟨?_,rfl,rfl⟩
   exact congrArg Value.bool hv.symm
  ·have q1:=fun ab=>dec_neg h1 ▸ p1 ab
   by_cases h2:∃ y∈R.take k,lateP log x y
   ·have hv:=hyes (hat.1 (.inr h2))
    have q2:=fun ab=>dec_pos h2 ▸ p2 ab
    clear p1 p2 q hno
    repeat' (first|apply v_alloc (d:=6);(case hz|hd=>rfl);intro ab|apply v_pure;(case hop=>(apply p_sliceLN (k+1);(case hx|hl=>rfl);(case hz|h1|h2=>omega)));(case hd=>rfl)|apply v_pure;(case hop=>(apply p_sliceHB k;(case hx|hl=>rfl);(case hz|h1=>omega)));(case hd=>rfl)|apply v_seq|apply v_region|apply v_nil|apply v_skip|apply v_block|apply v_take;(case hg=>rfl)|apply v_pure;(case hop=>first|apply p_move<;>rfl|apply p_lt<;>rfl|apply p_assign<;>rfl|apply p_pickF<;>rfl|apply p_add;(case hx|hy=>rfl);(case h=>omega)|apply p_indexAddrS;(case hx|hi=>rfl);(case h0|h=>omega);(case hA=>assumption)|apply p_makeFunc<;>rfl|fail);(case hd=>rfl)|apply v_condT;(case hc=>rfl)|apply v_cond;(case hc=>rfl);all_goals (intro h;(try simp only [reduceCtorEq,zzz] at h);try (exfalso;omega))|apply v_read;(case hop=>(apply r_loadN;rfl;exact CellsAt.frozen hck;rfl));(case hd=>rfl)|apply v_callK (hs:=q1 ab) (μ2:=[]);(case ha=>rfl);(case hp=>exact List.Perm.of_eq (List.append_nil _).symm);(case hd=>rfl)|apply v_callK (hs:=q2 ab) (μ2:=[]);(case ha=>rfl);(case hp=>exact List.Perm.of_eq (List.append_nil _).symm);(case hd=>rfl)|apply v_store;(case hp|hx|hc|hsz|h1=>rfl);(case hb=>repeat exact mhd _);(case hfit=>exact nle rfl);(case hov=>((repeat (first|with_reducible exact ov_nil|apply ov_cons));done));(case hu=>repeat (exact Upd.here _ _))|fail)
    refine v_ret [(xb,ctO pb av),(pb,oP)] (outsA1 rfl rfl) (by repeat (first|exact List.Sublist.refl _|apply List.Sublist.cons)) ⟨?_,rfl,rfl⟩
    exact congrArg Value.bool hv.symm
   ·have hv:=hnx fun h=>(hat.2 h).elim h1 h2
    have q2:=fun ab=>dec_neg h2 ▸ p2 ab
    clear p1 p2 q hno
    repeat' (first|apply v_alloc (d:=6);(case hz|hd=>rfl);intro ab|apply v_pure;(case hop=>(apply p_sliceLN (k+1);(case hx|hl=>rfl);(case hz|h1|h2=>omega)));(case hd=>rfl)|apply v_pure;(case hop=>(apply p_sliceHB k;(case hx|hl=>rfl);(case hz|h1=>omega)));(case hd=>rfl)|apply v_seq|apply v_region|apply v_nil|apply v_skip|apply v_block|apply v_blk|apply v_take;(case hg=>rfl)|apply v_pure;(case hop=>first|apply p_move<;>rfl|apply p_lt<;>rfl|apply p_assign<;>rfl|apply p_pickF<;>rfl|apply p_add;(case hx|hy=>rfl);(case h=>omega)|apply p_indexAddrS;(case hx|hi=>rfl);(case h0|h=>omega);(case hA=>assumption)|apply p_makeFunc<;>rfl|fail);(case hd=>rfl)|apply v_condF;(case hc=>rfl)|apply v_cond;(case hc=>rfl);all_goals (intro h;(try simp only [reduceCtorEq,zzz] at h);try (exfalso;omega))|apply v_read;(case hop=>(apply r_loadN;rfl;exact CellsAt.frozen hck;rfl));(case hd=>rfl)|apply v_callK (hs:=q1 ab) (μ2:=[]);(case ha=>rfl);(case hp=>exact List.Perm.of_eq (List.append_nil _).symm);(case hd=>rfl)|apply v_callK (hs:=q2 ab) (μ2:=[]);(case ha=>rfl);(case hp=>exact List.Perm.of_eq (List.append_nil _).symm);(case hd=>rfl)|apply v_store;(case hp|hx|hc|hsz|h1=>rfl);(case hb=>repeat exact mhd _);(case hfit=>exact nle rfl);(case hov=>((repeat (first|with_reducible exact ov_nil|apply ov_cons));done));(case hu=>repeat (exact Upd.here _ _))|fail)
    refine v_perm (ν:=((xx,.cells [Value.pointer (some ⟨xb,0,none⟩)].toArray 45 (0,0))::[(xb,ctO pb av),(pb,oP)])++[(ab,_)]) (by apply perm_of_count;intro p;simp only [List.append_eq,List.countP_append,List.countP_cons,List.countP_nil,Nat.zero_add,Nat.add_zero];try ac_rfl) ?_
    refine v_drop (List.sublist_append_left _ _) ?_
    exact v_again rfl ⟨rfl,rfl,k+1,by omega,rfl,hv⟩ (by simp [headI];omega)
 ·obtain rfl:k=R.length:=by omega
  repeat' (first|apply v_seq|apply v_region|apply v_nil|apply v_exit;(case hp=>rfl)|apply v_pure;(case hop=>first|apply p_lt<;>rfl|apply p_assign<;>rfl|fail);(case hd=>rfl)|apply v_cond;(case hc=>rfl);all_goals (intro h;(try simp only [reduceCtorEq,zzz] at h);try (exfalso;omega))|fail)
  refine v_ret [(xb,ctO pb av),(pb,oP)] (outsA1 rfl rfl) (by repeat (first|exact List.Sublist.refl _|apply List.Sublist.cons)) ⟨?_,rfl,rfl⟩
  exact congrArg Value.bool (by rw [dec_pos (ordL_iff.2 fun i j hi hj hne=>hno i j hi hj hi hne)])
def invP (log:List Cm) (calls:List Cl):Prop := ∀ i (h:cnt log i),∃ c∈calls,c.cmd=log[i]'h.1
noncomputable instance (log:List Cm) (l:List Cl):Decidable (invP log l):=Classical.propDecidable _
set_option maxHeartbeats 2000000 in
theorem invoked_s {G:GH}{xb pb:Nat}{av lv sv:Value}{oP:Obj}{log:List Cm}{calls:List Cl}(hl:Cms G lv log) (hP:PlM log log.length oP) (hs:Clr G sv calls):Con Tryz.prog 17 #[.pointer (some ⟨xb,0,none⟩),lv,sv] G [(xb,ctO pb av),(pb,oP)] (Keeps (.bool (dec (invP log calls))) G [(xb,ctO pb av),(pb,oP)]):=by
 obtain ⟨LA,lc,rfl,hlc,hcm,hsome,hcp⟩:=rowOpen hl
 simp only [maxLen] at hcm
 obtain ⟨L,hM,hg⟩:=hP
 have hnd:=hM.nodup
 (refine v_enter Tryz.func17 rfl Tryz.ntmps17 rfl ?_;intro B _)
 repeat' (first|apply v_seq|apply v_region|apply v_nil|apply v_block|apply v_pure;(case hop=>first|apply p_move<;>rfl|apply p_assign<;>rfl|apply p_fieldAddrB<;>rfl|apply p_nilCheck<;>rfl|fail);(case hd=>rfl)|apply v_rangeM (hb:=(by repeat (first|exact mhd _|apply mtl))) (hM:=hM);(case hx|hd=>rfl);intro it oI hI|apply v_read;(case hop=>(apply r_load1;rfl;(apply Cell.own;(case h=>repeat exact mhd _);rfl)));(case hd=>rfl)|fail)
 refine v_loopI (ι:=List (Int×Int)) [14,2,1] (fun left vs G' μ'=>G'=G∧∃ oI,IterB keyP pb L left oP oI∧vs=[.pointer (some ⟨it,0,none⟩),sv,.slice LA log.length lc]∧μ'=[(it,oI),(xb,ctO pb av),(pb,oP)]∧∀ i (h:cnt log i),((log[i]'h.1).client,(log[i]'h.1).seq)∉left→∃ c∈calls,c.cmd=log[i]'h.1) (fun left=>left.length) rfl (L.map (·.1)) ⟨rfl,oI,hI,rfl,rfl,?_⟩ ?_
 ·intro i h hno
  have h1:=hg ((log[i]'h.1).client,(log[i]'h.1).seq)
  rw [show plK log ((log[i]'h.1).client,(log[i]'h.1).seq) log.length=i+1 from pl_at h,if_neg (by omega)] at h1
  exact absurd (List.mem_map.2 ⟨_,(mget_mem hnd).1 h1,rfl⟩) hno
 rintro left vs G' _ ⟨hG',oI1,hI1,rfl,rfl,hdone⟩
 subst G'
 repeat' (first|apply v_seq|apply v_region|apply v_nextM (k:=67) (hb:=(by repeat (first|exact mhd _|apply mtl))) (hI:=hI1);(case hx=>rfl);(case hp=>exact List.Perm.refl _);(case hd=>rfl)|fail)
 ·intro h0
  subst h0
  repeat' (first|apply v_seq|apply v_region|apply v_nil|apply v_exit;(case hp=>rfl)|apply v_pure;(case hop=>first|apply p_assign<;>rfl|apply p_extract0<;>rfl|fail);(case hd=>rfl)|apply v_condF;(case hc=>rfl)|fail)
  refine v_ret [(xb,ctO pb av),(pb,oP)] (outsA1 rfl rfl) (by repeat (first|exact List.Sublist.refl _|apply List.Sublist.cons)) ⟨?_,rfl,rfl⟩
  have hh:invP log calls:=fun i h=>hdone i h (by simp)
  exact congrArg Value.bool (by rw [dec_pos hh])
 ·intro a u oI2 ha hau hI2 hE
  obtain ⟨i,hc,rfl,rfl⟩:∃ i,∃ hc:cnt log i,a=((log[i]'hc.1).client,(log[i]'hc.1).seq)∧u=.int .i64 ((i+1:Nat):Int):=by
   have h1:=(mget_mem hnd).2 hau
   rw [hg] at h1
   by_cases h0:plK log a log.length=0
   ·rw [if_pos h0] at h1
    cases h1
   ·rw [if_neg h0] at h1
    obtain ⟨i,hi⟩:∃ i,plK log a log.length=i+1:=⟨plK log a log.length-1,by omega⟩
    obtain ⟨hc,e1,e2⟩:=pl_some hi
    rw [hi] at h1
    injection h1 with h1
    exact ⟨i,hc,Prod.ext e1.symm e2.symm,h1.symm⟩
  have hil:=hc.1
  have e1:(((i+1:Nat):Int)-1).toNat=i:=by omega
  have hA:=hsome (by omega)
  have hck:=hcp i hil
  have hown:2≤(log[i]).kind∧(log[i]).kind≤5:=by
   obtain ⟨_,h⟩:=hc
   exact h.2.1
  have q0:=cmdOwned_s G log[i]
  rw [decide_eq_true hown] at q0
  have hnx:(∃ c∈calls,c.cmd=log[i])→∀ j (h:cnt log j),((log[j]'h.1).client,(log[j]'h.1).seq)∉left.filter (fun z=>decide (z≠((log[i]).client,(log[i]).seq)))→∃ c∈calls,c.cmd=log[j]'h.1:=fun he j h hno=>by
   by_cases hk:((log[j]'h.1).client,(log[j]'h.1).seq)∈left
   ·have:((log[j]'h.1).client,(log[j]'h.1).seq)=((log[i]).client,(log[i]).seq):=Classical.byContradiction fun hne=>hno (List.mem_filter.2 ⟨hk,decide_eq_true hne⟩)
    injection this with t1 t2
    obtain rfl:j=i:=cnt_once h hc t1 t2
    exact he
   ·exact hdone j h hk
  have hbad:(¬ ∃ c∈calls,c.cmd=log[i])→dec (invP log calls)=false:=fun h=>dec_neg fun hi=>h (hi i hc)
  have p1:=fun cb=>containsF_s (cf:=36) (capt:=[.pointer (some ⟨cb,0,none⟩)]) (μc:=[(cb,.cells (log[i]).cells.toArray 25 (0,0))]) (p:=fun y=>y.cmd=log[i]) hs (fun y _=>invoked1_s (G:=G) (cb:=cb) (c:=log[i]) y)
  have hlen:(left.filter fun z=>decide (z≠((log[i]).client,(log[i]).seq))).length<left.length:=List.length_filter_lt_length_iff_exists.2 ⟨_,ha,by simp⟩
  clear hown hdone
  generalize log[i]=x at *
  by_cases h1:∃ c∈calls,c.cmd=x
  ·have q1:=fun ab=>dec_pos h1 ▸ p1 ab
   repeat' (first|apply v_alloc (d:=9);(case hz|hd=>rfl);intro cb|apply v_read;(case hop=>(apply r_loadNo;(case hx=>rfl);(case h=>repeat (exact mhd _));(case hd|hn=>rfl)));(case hd=>rfl)|apply v_seq|apply v_region|apply v_nil|apply v_skip|apply v_block|apply v_blk|apply v_take;(case hg=>rfl)|apply v_pure;(case hop=>first|apply p_move<;>rfl|apply p_assign<;>rfl|apply p_pickT<;>rfl|apply p_not<;>rfl|apply p_extract0<;>rfl|apply p_extract1<;>rfl|apply p_sub;(case hx|hy=>rfl);(case h=>omega)|apply p_indexAddrS;(case hx|hi=>rfl);(case h0|h=>omega);(case hA=>assumption)|apply p_makeFunc<;>rfl|fail);(case hd=>rfl)|apply v_condT;(case hc=>rfl)|apply v_condF;(case hc=>rfl)|apply v_read;(case hop=>apply r_entry (hE:=hE);(case hx=>rfl);(case hi=>repeat exact mhd _);(case hb=>repeat first|exact mhd _|apply mtl));(case hd=>rfl)|apply v_read;(case hop=>(apply r_loadN;rfl;exact CellsAt.frozen (by rw [e1];exact hck);rfl));(case hd=>rfl)|apply v_callJ (hs:=q0);(case ha|hd=>rfl)|apply v_callK (hs:=q1 cb) (μ2:=[(it,oI2),(xb,ctO pb av),(pb,oP)]);(case ha=>rfl);(case hp=>exact List.Perm.refl _);(case hd=>rfl)|apply v_store;(case hp|hx|hc|hsz|h1=>rfl);(case hb=>repeat exact mhd _);(case hfit=>exact nle rfl);(case hov=>((repeat (first|with_reducible exact ov_nil|apply ov_cons));done));(case hu=>repeat (exact Upd.here _ _))|fail)
   refine v_perm (ν:=[(it,oI2),(xb,ctO pb av),(pb,oP)]++[(cb,_)]) (by apply perm_of_count;intro p;simp only [List.append_eq,List.countP_append,List.countP_cons,List.countP_nil,Nat.zero_add,Nat.add_zero];try ac_rfl) ?_
   refine v_drop (List.sublist_append_left _ _) ?_
   exact v_againI (left.filter fun z=>decide (z≠(x.client,x.seq))) rfl ⟨rfl,oI2,hI2,rfl,rfl,hnx h1⟩ hlen
  ·have q1:=fun ab=>dec_neg h1 ▸ p1 ab
   have hv:=hbad h1
   repeat' (first|apply v_alloc (d:=9);(case hz|hd=>rfl);intro cb|apply v_read;(case hop=>(apply r_loadNo;(case hx=>rfl);(case h=>repeat (exact mhd _));(case hd|hn=>rfl)));(case hd=>rfl)|apply v_seq|apply v_region|apply v_nil|apply v_skip|apply v_block|apply v_take;(case hg=>rfl)|apply v_pure;(case hop=>first|apply p_move<;>rfl|apply p_assign<;>rfl|apply p_pickT<;>rfl|apply p_not<;>rfl|apply p_extract0<;>rfl|apply p_extract1<;>rfl|apply p_sub;(case hx|hy=>rfl);(case h=>omega)|apply p_indexAddrS;(case hx|hi=>rfl);(case h0|h=>omega);(case hA=>assumption)|apply p_makeFunc<;>rfl|fail);(case hd=>rfl)|apply v_condT;(case hc=>rfl)|apply v_read;(case hop=>apply r_entry (hE:=hE);(case hx=>rfl);(case hi=>repeat exact mhd _);(case hb=>repeat first|exact mhd _|apply mtl));(case hd=>rfl)|apply v_read;(case hop=>(apply r_loadN;rfl;exact CellsAt.frozen (by rw [e1];exact hck);rfl));(case hd=>rfl)|apply v_callJ (hs:=q0);(case ha|hd=>rfl)|apply v_callK (hs:=q1 cb) (μ2:=[(it,oI2),(xb,ctO pb av),(pb,oP)]);(case ha=>rfl);(case hp=>exact List.Perm.refl _);(case hd=>rfl)|apply v_store;(case hp|hx|hc|hsz|h1=>rfl);(case hb=>repeat exact mhd _);(case hfit=>exact nle rfl);(case hov=>((repeat (first|with_reducible exact ov_nil|apply ov_cons));done));(case hu=>repeat (exact Upd.here _ _))|fail)
   refine v_ret [(xb,ctO pb av),(pb,oP)] (outsA1 rfl rfl) (by repeat (first|exact List.Sublist.refl _|apply List.Sublist.cons)) ⟨?_,rfl,rfl⟩
   exact congrArg Value.bool hv.symm
noncomputable def chkW (log:List Cm) (calls:List Cl):Int:=if ordL log (ansF calls) then (if invP log calls then 0 else 5) else 12
set_option maxHeartbeats 2000000 in
theorem check_s {G:GH}(hT:TabsG G) {lv sv:Value}{log:List Cm}{calls:List Cl}(hl:Cms G lv log) (hlw:CmsW log) (hs:Clr G sv calls) (hn:calls.length≤1000) (hg:∀ c∈calls,0<c.e→goodC log c) :
 Con Tryz.prog 8 #[lv,sv] G [] (fun r _ μ'=>r=.int .i64 (chkW log calls)∧μ'=[]):=by
 have q0:=count_s hT hl hlw
 (refine v_enter Tryz.func8 rfl Tryz.ntmps8 rfl ?_;intro B _)
 repeat' (first|apply v_seq|apply v_region|apply v_nil|apply v_pure;(case hop=>first|apply p_move<;>rfl|apply p_assign<;>rfl|fail);(case hd=>rfl)|fail)
 refine v_call (μ1:=[]) rfl q0 (List.Perm.refl _) rfl ?_
 rintro _ G1 _ hle1 ⟨xb,pb,av,oP,ν,rfl,hga,hP,rfl⟩
 refine v_frzP ν (r:=[(xb,ctO pb av),(pb,oP)]) (by apply perm_of_count;intro p;simp only [List.append_eq,List.countP_append,List.countP_cons,List.countP_nil,Nat.zero_add,Nat.add_zero];try ac_rfl) ?_
 intro G2 hle2 hG2
 have ha:=row_of_grow An.len hga hG2
 clear hga hG2
 have hle:=GH.le_trans hle1 hle2
 have hl2:=hl.mono hle
 have hs2:=hs.mono hle
 obtain ⟨A,c,rfl,hlc,hcm,hsome,hcp⟩:=rowOpen hs2
 simp only [maxLen] at hcm
 repeat' (first|apply v_seq|apply v_region|apply v_nil|apply v_block|apply v_pure;(case hop=>first|apply p_move<;>rfl|apply p_assign<;>rfl|apply p_lenSlice<;>rfl|fail);(case hd=>rfl)|fail)
 refine v_loop [13,12,11,5,1,0] (fun us G' μ'=>G'=G2∧μ'=[(xb,ctO pb av),(pb,oP)]∧∃ k:Nat,k≤calls.length∧us=[Value.int .i64 (k:Nat),.int .i64 (calls.length:Nat),.slice A calls.length c,.pointer (some ⟨xb,0,none⟩),.slice A calls.length c,lv]) (fun us=>calls.length-(headI us).toNat) rfl ⟨rfl,rfl,0,by omega,rfl⟩ ?_
 rintro us G' _ ⟨hG',rfl,k,hk,rfl⟩
 subst G'
 have e1:((k:Nat):Int).toNat=k:=by omega
 by_cases hlt:k<calls.length
 ·have hA:=hsome (by omega)
  have hck:=hcp k hlt
  have hgk:=hg _ (List.getElem_mem hlt)
  generalize calls[k]=x at *
  have qa:=answered_s G2 x
  by_cases hx:0<x.e
  ·have q1:=one_s (G:=G2) (xb:=xb) (pb:=pb) hl2 ha hP x (hgk hx)
   rw [dec_pos hx] at qa
   repeat' (first|apply v_alloc (d:=7);(case hz|hd=>rfl);intro b7|apply v_read;(case hop=>(apply r_loadNo;(case hx=>rfl);(case h=>repeat (exact mhd _));(case hd|hn=>rfl)));(case hd=>rfl)|apply v_seq|apply v_region|apply v_nil|apply v_skip|apply v_block|apply v_blk|apply v_pure;(case hop=>first|apply p_move<;>rfl|apply p_nes<;>rfl|apply p_lt<;>rfl|apply p_assign<;>rfl|apply p_not<;>rfl|apply p_add;(case hx|hy=>rfl);(case h=>omega)|apply p_indexAddrS;(case hx|hi=>rfl);(case h0|h=>omega);(case hA=>assumption)|fail);(case hd=>rfl)|apply v_condF;(case hc=>rfl)|apply v_cond;(case hc=>rfl);all_goals (intro h;(try simp only [reduceCtorEq,zzz] at h);try (exfalso;omega))|apply v_read;(case hop=>(apply r_loadN;rfl;exact CellsAt.frozen hck;rfl));(case hd=>rfl)|apply v_callJ (hs:=qa);(case ha|hd=>rfl)|apply v_callK (hs:=q1) (μ2:=[(b7,.cells x.cells.toArray 30 (0,0))]);(case ha=>rfl);(case hp=>exact (List.perm_append_comm (l₁:=[(b7,_)]) (l₂:=[(xb,ctO pb av),(pb,oP)])));(case hd=>rfl)|apply v_store;(case hp|hx|hc|hsz|h1=>rfl);(case hb=>repeat exact mhd _);(case hfit=>exact nle rfl);(case hov=>((repeat (first|with_reducible exact ov_nil|apply ov_cons));done));(case hu=>repeat (exact Upd.here _ _))|fail)
   refine v_perm (ν:=[(xb,ctO pb av),(pb,oP)]++[(b7,_)]) (by apply perm_of_count;intro p;simp only [List.append_eq,List.countP_append,List.countP_cons,List.countP_nil,Nat.zero_add,Nat.add_zero];try ac_rfl) ?_
   refine v_drop (List.sublist_append_left _ _) ?_
   exact v_again rfl ⟨rfl,rfl,k+1,by omega,rfl⟩ (by simp [headI];omega)
  ·rw [dec_neg hx] at qa
   repeat' (first|apply v_alloc (d:=7);(case hz|hd=>rfl);intro b7|apply v_read;(case hop=>(apply r_loadNo;(case hx=>rfl);(case h=>repeat (exact mhd _));(case hd|hn=>rfl)));(case hd=>rfl)|apply v_seq|apply v_region|apply v_nil|apply v_skip|apply v_block|apply v_exit;(case hp=>rfl)|apply v_pure;(case hop=>first|apply p_move<;>rfl|apply p_lt<;>rfl|apply p_not<;>rfl|apply p_add;(case hx|hy=>rfl);(case h=>omega)|apply p_indexAddrS;(case hx|hi=>rfl);(case h0|h=>omega);(case hA=>assumption)|fail);(case hd=>rfl)|apply v_condT;(case hc=>rfl)|apply v_cond;(case hc=>rfl);all_goals (intro h;(try simp only [reduceCtorEq,zzz] at h);try (exfalso;omega))|apply v_read;(case hop=>(apply r_loadN;rfl;exact CellsAt.frozen hck;rfl));(case hd=>rfl)|apply v_callJ (hs:=qa);(case ha|hd=>rfl)|apply v_store;(case hp|hx|hc|hsz|h1=>rfl);(case hb=>repeat exact mhd _);(case hfit=>exact nle rfl);(case hov=>((repeat (first|with_reducible exact ov_nil|apply ov_cons));done));(case hu=>repeat (exact Upd.here _ _))|fail)
   refine v_perm (ν:=[(xb,ctO pb av),(pb,oP)]++[(b7,_)]) (by apply perm_of_count;intro p;simp only [List.append_eq,List.countP_append,List.countP_cons,List.countP_nil,Nat.zero_add,Nat.add_zero];try ac_rfl) ?_
   refine v_drop (List.sublist_append_left _ _) ?_
   exact v_again rfl ⟨rfl,rfl,k+1,by omega,rfl⟩ (by simp [headI];omega)
 ·obtain rfl:k=calls.length:=by omega
  repeat' (first|apply v_seq|apply v_region|apply v_nil|apply v_block|apply v_exit;(case hp=>rfl)|apply v_pure;(case hop=>first|apply p_move<;>rfl|apply p_lt<;>rfl|fail);(case hd=>rfl)|apply v_cond;(case hc=>rfl);all_goals (intro h;(try simp only [reduceCtorEq,zzz] at h);try (exfalso;omega))|fail)
  refine v_call (μ1:=[]) rfl (ends_s hs2 hn) (List.Perm.refl _) rfl ?_
  rintro rv G3 ν2 - ⟨hG3,R,hp,hgr⟩
  subst G3
  refine v_frzP ν2 (r:=[(xb,ctO pb av),(pb,oP)]) (List.Perm.refl _) ?_
  intro G3 hle3 hG3
  have hR:=row_of_grow Cl.len hgr hG3
  clear hgr hG3
  have q1:=orders_s (G:=G3) (xb:=xb) (pb:=pb) (av:=av) hP hR
  have q2:=invoked_s (G:=G3) (xb:=xb) (pb:=pb) (av:=av) (hl2.mono hle3) hP (hs2.mono hle3)
  have e0:=ordL_perm (log:=log) hp
  have h3:chkW log calls=if ordL log (ansF calls) then (if invP log calls then 0 else 5) else 12:=rfl
  by_cases ho:ordL log (ansF calls)
  ·rw [dec_pos (e0.2 ho)] at q1
   rw [if_pos ho] at h3
   by_cases hi:invP log calls
   ·rw [dec_pos hi] at q2
    rw [if_pos hi] at h3
    repeat' (first|apply v_seq|apply v_region|apply v_nil|apply v_skip|apply v_blk|apply v_pure;(case hop=>first|apply p_move<;>rfl|apply p_assign<;>rfl|apply p_not<;>rfl|fail);(case hd=>rfl)|apply v_condF;(case hc=>rfl)|apply v_callK (hs:=q1) (μ2:=[]);(case ha=>rfl);(case hp=>exact List.Perm.refl _);(case hd=>rfl)|apply v_callK (hs:=q2) (μ2:=[]);(case ha=>rfl);(case hp=>exact List.Perm.refl _);(case hd=>rfl)|fail)
    exact v_ret [] (outsA1 rfl rfl) (by repeat (exact List.nil_sublist _)) ⟨by rw [h3],rfl⟩
   ·rw [dec_neg hi] at q2
    rw [if_neg hi] at h3
    repeat' (first|apply v_seq|apply v_region|apply v_nil|apply v_pure;(case hop=>first|apply p_move<;>rfl|apply p_assign<;>rfl|apply p_not<;>rfl|fail);(case hd=>rfl)|apply v_condT;(case hc=>rfl)|apply v_condF;(case hc=>rfl)|apply v_callK (hs:=q1) (μ2:=[]);(case ha=>rfl);(case hp=>exact List.Perm.refl _);(case hd=>rfl)|apply v_callK (hs:=q2) (μ2:=[]);(case ha=>rfl);(case hp=>exact List.Perm.refl _);(case hd=>rfl)|fail)
    exact v_ret [] (outsA1 rfl rfl) (by repeat (exact List.nil_sublist _)) ⟨by rw [h3],rfl⟩
  ·rw [dec_neg fun h=>ho (e0.1 h)] at q1
   rw [if_neg ho] at h3
   repeat' (first|apply v_seq|apply v_region|apply v_nil|apply v_pure;(case hop=>first|apply p_assign<;>rfl|apply p_not<;>rfl|fail);(case hd=>rfl)|apply v_condT;(case hc=>rfl)|apply v_callK (hs:=q1) (μ2:=[]);(case ha=>rfl);(case hp=>exact List.Perm.refl _);(case hd=>rfl)|fail)
   exact v_ret [] (outsA1 rfl rfl) (by repeat (exact List.nil_sublist _)) ⟨by rw [h3],rfl⟩
theorem cmsW_take {l:List Cm}(h:CmsW l) (i:Nat):CmsW (l.take i):=⟨by rw [List.length_take];have:=h.1;omega,fun c hc=>h.2 c (List.mem_of_mem_take hc)⟩
set_option maxHeartbeats 2000000 in
theorem refPlace29_s {G:GH}{lv:Value}{l:List Cm}(p:Int×Int) (hl:Cms G lv l) (hlw:CmsW l) :
 Con Tryz.prog 10 #[lv,.int .i64 p.1,.int .i64 p.2] G [] (fun r _ μ'=>r=.int .i64 (pl l p:Nat)∧μ'=[]):=by
 obtain ⟨LA,lc,rfl,hlc,hcm,hsome,hcp⟩:=rowOpen hl
 simp only [maxLen] at hcm
 obtain ⟨cl,sq⟩:=p
 (refine v_enter Tryz.func10 rfl Tryz.ntmps10 rfl ?_;intro B _)
 repeat' (first|apply v_seq|apply v_region|apply v_nil|apply v_block|apply v_pure;(case hop=>(apply p_assign<;>rfl));(case hd=>rfl)|fail)
 refine v_loop [7,2,1,0] (fun us G' μ'=>GH.le G G'∧μ'=[]∧∃ i:Nat,i≤l.length∧us=[Value.int .i64 (i:Nat),.int .i64 sq,.int .i64 cl,.slice LA l.length lc]∧∀ j (h:cnt l j),j<i→¬ ((l[j]'h.1).client=cl∧(l[j]'h.1).seq=sq)) (fun us=>l.length-(headI us).toNat) rfl ⟨GH.le_refl _,rfl,0,by omega,rfl,by omega⟩ ?_
 rintro us G' _ ⟨hle,rfl,i,hi,rfl,hno⟩
 by_cases hlt:i<l.length
 ·have e1:((i:Nat):Int).toNat=i:=by omega
  have hA:=hsome (by omega)
  have hck:=fun G2 (h2:GH.le G' G2)=>(rowOpen' (hl.mono (GH.le_trans hle h2))).2.2.2.2.2.2 i hlt
  have hck0:=hck G' (GH.le_refl _)
  obtain ⟨hxo,hxw⟩:=hlw.2 _ (List.getElem_mem hlt)
  have hcc:=refCmdCheck_s (G:=G') (l[i]) hxo
  have hrn:=fun G2 (h2:GH.le G' G2)=>refRun29_s (G:=G2) ((hl.mono (GH.le_trans hle h2)).take (k:=i) (by omega)) (cmsW_take hlw i)
  have hok:=ses_rise (stA_ok l i)
  have hcn:cnt l i↔cntP (stA l i) l[i]:=⟨fun ⟨_,h⟩=>h,fun h=>⟨hlt,h⟩⟩
  have hnx:¬ (cnt l i∧(l[i]).client=cl∧(l[i]).seq=sq)→∀ j (h:cnt l j),j<i+1→¬ ((l[j]'h.1).client=cl∧(l[j]'h.1).seq=sq):=fun hn j h hj=>by
   by_cases hji:j<i
   ·exact hno j h hji
   ·obtain rfl:j=i:=by omega
    exact fun hh=>hn ⟨h,hh⟩
  have hyes:cnt l i→(l[i]).client=cl→(l[i]).seq=sq→pl l (cl,sq)=i+1:=fun hc h1 h2=>by
   have:=pl_at hc
   rwa [h1,h2] at this
  unfold cntP lq at hcn
  generalize hst:stA l i=s1 at *
  unfold stA at hst
  rw [hst] at hrn
  generalize l[i]=x at *
  obtain ⟨kind,c2,s2,key,val,old,node⟩:=x
  simp only at hcn hnx hyes hcc
  by_cases h1:c2=cl
  ·by_cases h2:s2=sq
   ·subst h1;subst h2
    repeat' (first|apply v_seq|apply v_region|apply v_nil|apply v_skip|apply v_block|apply v_take;(case hg=>rfl)|apply v_pure;(case hop=>first|apply p_move<;>rfl|apply p_nes<;>rfl|apply p_lt<;>rfl|apply p_pickF<;>rfl|apply p_lenSlice<;>rfl|apply p_fieldAddr<;>rfl|apply p_indexAddrS;(case hx|hi=>rfl);(case h0|h=>omega);(case hA=>assumption)|fail);(case hd=>rfl)|apply v_cond;(case hc=>rfl);all_goals (intro h;(try simp only [reduceCtorEq,zzz] at h);try (exfalso;omega))|apply v_read;(case hop=>(apply r_load1;rfl;exact Cell.frozen (hck0 1 _ rfl)));(case hd=>rfl)|apply v_read;(case hop=>(apply r_load1;rfl;exact Cell.frozen (hck0 2 _ rfl)));(case hd=>rfl)|apply v_read;(case hop=>(apply r_loadN;rfl;exact CellsAt.frozen hck0;rfl));(case hd=>rfl)|fail)
    refine v_call (μ1:=[]) rfl hcc (List.Perm.refl _) rfl ?_
    rintro _ G5 _ hle5 ⟨rfl,rfl⟩
    have hck5:=hck G5 hle5
    generalize cmdI ⟨kind,c2,s2,key,val,old,node⟩=z at *
    by_cases hz:z=0
    ·have q:=owned_s G5 kind
     by_cases ho:2≤kind∧kind≤5
     ·rw [decide_eq_true ho] at q
      repeat' (first|apply v_pure;(case hop=>(apply p_sliceHB i;(case hx|hl=>rfl);(case hz|h1=>omega)));(case hd=>rfl)|apply v_seq|apply v_region|apply v_nil|apply v_skip|apply v_take;(case hg=>rfl)|apply v_pure;(case hop=>first|apply p_move<;>rfl|apply p_ne<;>rfl|apply p_pickF<;>rfl|apply p_not<;>rfl|apply p_fieldAddr<;>rfl|apply p_indexAddrS;(case hx|hi=>rfl);(case h0|h=>omega);(case hA=>assumption)|fail);(case hd=>rfl)|apply v_condF;(case hc=>rfl)|apply v_guardB;(case h1|h2=>rfl);all_goals (intro h;(try simp only [reduceCtorEq,zzz] at h);try (exfalso;omega))|apply v_read;(case hop=>(apply r_load1;rfl;exact Cell.frozen (hck5 0 _ rfl)));(case hd=>rfl)|apply v_callJ (hs:=q);(case ha|hd=>rfl)|fail)
      refine v_call (μ1:=[]) rfl (hrn G5 hle5) (List.Perm.refl _) rfl ?_
      rintro _ G6 ν hle6 ⟨_,av,rfl,⟨A1,c1,A1',c1',rfl,hp6,hs6⟩,hga⟩
      have ql:=refLast_s c2 hs6 hok
      have hle56:=GH.le_trans hle5 hle6
      have hck6:=hck G6 hle56
      have hleG:=GH.le_trans hle hle56
      have qh:=refHas7_s s1.schema kind G6
      have hlv:=(hga.shape)
      obtain ⟨A9,c9,rfl,-,-⟩:=hlv
      generalize (lastS s1.sess c2).2=la at *
      generalize (lastS s1.sess c2).1=lq at *
      by_cases hs:lq<s2
      ·by_cases hh:HasP s1.schema kind
       ·have hc:cnt l i:=hcn.2 ⟨hz,ho,hs,hh⟩
        have hv:=hyes hc rfl rfl
        rw [decide_eq_true hh] at qh
        repeat' (first|apply v_alloc (d:=8);(case hz|hd=>rfl);intro b8|apply v_alloc (d:=11);(case hz|hd=>rfl);intro b11|apply v_seq|apply v_region|apply v_nil|apply v_pure;(case hop=>first|apply p_move<;>rfl|apply p_assign<;>rfl|apply p_fieldAddrB<;>rfl|apply p_extract0<;>rfl|apply p_extract1<;>rfl|fail);(case hd=>rfl)|apply v_callJ (hs:=ql);(case ha|hd=>rfl)|apply v_read;(case hop=>(apply r_load1;rfl;(apply Cell.own;(case h=>repeat exact mhd _);rfl)));(case hd=>rfl)|apply v_store;(case hp|hx|hc|hsz|h1=>rfl);(case hb=>repeat exact mhd _);(case hfit=>exact nle rfl);(case hov=>((repeat (first|with_reducible exact ov_nil|apply ov_cons));done));(case hu=>repeat (exact Upd.here _ _))|fail)
        refine v_perm (ν:=[(b8,.cells [.int .i64 s1.schema,.slice A1 s1.pairs.length c1,.slice A1' s1.sess.length c1'].toArray 39 (0,0))]++((b11,_)::ν)) (by apply perm_of_count;intro p;simp only [List.append_eq,List.countP_append,List.countP_cons,List.countP_nil,Nat.zero_add,Nat.add_zero];try ac_rfl) ?_
        refine v_drop (List.sublist_append_left _ _) ?_
        refine d_start [(b8,.cells [.int .i64 s1.schema,.slice A1 s1.pairs.length c1,.slice A1' s1.sess.length c1'].toArray 39 (0,0))] (by kernel_rfl) (by kernel_rfl) (by kernel_rfl) (by intro e he;exact he) ?_
        all_goals (apply dtm 0;(case hi|hx=>rfl);(case hq=>kernel_rfl);apply dtm 1;(case hi|hx=>rfl);(case hq=>kernel_rfl))
        all_goals (apply dtk 2;(case hi=>rfl);(case hop=>(apply prd;apply p_gt<;>rfl));(case hq=>kernel_rfl);apply dtm 3;(case hi|hx=>rfl);(case hq=>kernel_rfl))
        all_goals (try (apply d_guardB 4;(case hi|hgd|h1|h2=>rfl);all_goals (intro h;(try simp only [reduceCtorEq,zzz] at h);try (exfalso;omega))))
        all_goals (apply dtg 4;(case hi|hg=>rfl);(case hop=>(apply prd;apply p_fieldAddrB<;>rfl));(case hq=>kernel_rfl))
        all_goals (try (apply d_guardB 5;(case hi|hgd|h1|h2=>rfl);all_goals (intro h;(try simp only [reduceCtorEq,zzz] at h))))
        all_goals (apply dtg 5;(case hi|hg=>rfl);(case hop=>((apply r_load1;rfl;(apply Cell.own;(case h=>repeat (exact mhd _));rfl))));(case hq=>kernel_rfl))
        all_goals (try (apply d_guardB 6;(case hi|hgd|h1|h2=>rfl);all_goals (intro h;(try simp only [reduceCtorEq,zzz] at h))))
        all_goals (apply dtg 6;(case hi|hg=>rfl);(case hop=>(apply prd;apply p_move<;>rfl));(case hq=>kernel_rfl))
        all_goals (try (apply d_guardB 7;(case hi|hgd|h1|h2=>rfl);all_goals (intro h;(try simp only [reduceCtorEq,zzz] at h))))
        all_goals (apply dtg 7;(case hi|hg=>rfl);(case hop=>(apply prd;apply p_move<;>rfl));(case hq=>kernel_rfl))
        all_goals (try (apply d_guardB 8;(case hi|hgd|h1|h2=>rfl);all_goals (intro h;(try simp only [reduceCtorEq,zzz] at h))))
        all_goals (apply dtg 8;(case hi|hg=>rfl);(case hop=>(apply prd;apply p_indexAddrS;(case hx|hi=>rfl);(case h0|h=>omega);(case hA=>assumption)));(case hq=>kernel_rfl))
        all_goals (try (apply d_guardB 9;(case hi|hgd|h1|h2=>rfl);all_goals (intro h;(try simp only [reduceCtorEq,zzz] at h))))
        all_goals (apply dtg 9;(case hi|hg=>rfl);(case hop=>(apply prd;apply p_fieldAddr<;>rfl));(case hq=>kernel_rfl))
        all_goals (try (apply d_guardB 10;(case hi|hgd|h1|h2=>rfl);all_goals (intro h;(try simp only [reduceCtorEq,zzz] at h))))
        all_goals (apply dtg 10;(case hi|hg=>rfl);(case hop=>((apply r_load1;rfl;exact Cell.frozen (hck6 0 _ rfl))));(case hq=>kernel_rfl))
        all_goals (try (apply d_guardB 11;(case hi|hgd|h1|h2=>rfl);all_goals (intro h;(try simp only [reduceCtorEq,zzz] at h))))
        all_goals (apply d_callJG 11 (hs:=qh);(case hi|hg=>rfl);(case hr=>kernel_rfl);(case ha|hd=>rfl))
        all_goals (apply dtk 12;(case hi=>rfl);(case hop=>(apply prd;apply p_pickT<;>rfl));(case hq=>kernel_rfl))
        all_goals (apply d_done;(case hr=>kernel_rfl))
        all_goals repeat' (first|apply v_seq|apply v_region|apply v_nil|apply v_pure;(case hop=>first|apply p_move<;>rfl|apply p_assign<;>rfl|apply p_add;(case hx|hy=>rfl);(case h=>omega)|fail);(case hd=>rfl)|apply v_condT;(case hc=>rfl)|fail)
        all_goals refine v_drop (List.nil_sublist _) ?_
        all_goals exact v_ret [] (outsA1 rfl rfl) (by repeat (exact List.Sublist.refl _)) ⟨by rw [hv];rfl,rfl⟩
       ·have hc:¬ cnt l i:=fun h=>hh (hcn.1 h).2.2.2
        rw [decide_eq_false hh] at qh
        repeat' (first|apply v_alloc (d:=8);(case hz|hd=>rfl);intro b8|apply v_alloc (d:=11);(case hz|hd=>rfl);intro b11|apply v_seq|apply v_region|apply v_nil|apply v_pure;(case hop=>first|apply p_move<;>rfl|apply p_assign<;>rfl|apply p_fieldAddrB<;>rfl|apply p_extract0<;>rfl|apply p_extract1<;>rfl|fail);(case hd=>rfl)|apply v_callJ (hs:=ql);(case ha|hd=>rfl)|apply v_read;(case hop=>(apply r_load1;rfl;(apply Cell.own;(case h=>repeat exact mhd _);rfl)));(case hd=>rfl)|apply v_store;(case hp|hx|hc|hsz|h1=>rfl);(case hb=>repeat exact mhd _);(case hfit=>exact nle rfl);(case hov=>((repeat (first|with_reducible exact ov_nil|apply ov_cons));done));(case hu=>repeat (exact Upd.here _ _))|fail)
        refine v_perm (ν:=[(b8,.cells [.int .i64 s1.schema,.slice A1 s1.pairs.length c1,.slice A1' s1.sess.length c1'].toArray 39 (0,0))]++((b11,_)::ν)) (by apply perm_of_count;intro p;simp only [List.append_eq,List.countP_append,List.countP_cons,List.countP_nil,Nat.zero_add,Nat.add_zero];try ac_rfl) ?_
        refine v_drop (List.sublist_append_left _ _) ?_
        refine d_start [(b8,.cells [.int .i64 s1.schema,.slice A1 s1.pairs.length c1,.slice A1' s1.sess.length c1'].toArray 39 (0,0))] (by kernel_rfl) (by kernel_rfl) (by kernel_rfl) (by intro e he;exact he) ?_
        all_goals (apply dtm 0;(case hi|hx=>rfl);(case hq=>kernel_rfl);apply dtm 1;(case hi|hx=>rfl);(case hq=>kernel_rfl))
        all_goals (apply dtk 2;(case hi=>rfl);(case hop=>(apply prd;apply p_gt<;>rfl));(case hq=>kernel_rfl);apply dtm 3;(case hi|hx=>rfl);(case hq=>kernel_rfl))
        all_goals (try (apply d_guardB 4;(case hi|hgd|h1|h2=>rfl);all_goals (intro h;(try simp only [reduceCtorEq,zzz] at h);try (exfalso;omega))))
        all_goals (apply dtg 4;(case hi|hg=>rfl);(case hop=>(apply prd;apply p_fieldAddrB<;>rfl));(case hq=>kernel_rfl))
        all_goals (try (apply d_guardB 5;(case hi|hgd|h1|h2=>rfl);all_goals (intro h;(try simp only [reduceCtorEq,zzz] at h))))
        all_goals (apply dtg 5;(case hi|hg=>rfl);(case hop=>((apply r_load1;rfl;(apply Cell.own;(case h=>repeat (exact mhd _));rfl))));(case hq=>kernel_rfl))
        all_goals (try (apply d_guardB 6;(case hi|hgd|h1|h2=>rfl);all_goals (intro h;(try simp only [reduceCtorEq,zzz] at h))))
        all_goals (apply dtg 6;(case hi|hg=>rfl);(case hop=>(apply prd;apply p_move<;>rfl));(case hq=>kernel_rfl))
        all_goals (try (apply d_guardB 7;(case hi|hgd|h1|h2=>rfl);all_goals (intro h;(try simp only [reduceCtorEq,zzz] at h))))
        all_goals (apply dtg 7;(case hi|hg=>rfl);(case hop=>(apply prd;apply p_move<;>rfl));(case hq=>kernel_rfl))
        all_goals (try (apply d_guardB 8;(case hi|hgd|h1|h2=>rfl);all_goals (intro h;(try simp only [reduceCtorEq,zzz] at h))))
        all_goals (apply dtg 8;(case hi|hg=>rfl);(case hop=>(apply prd;apply p_indexAddrS;(case hx|hi=>rfl);(case h0|h=>omega);(case hA=>assumption)));(case hq=>kernel_rfl))
        all_goals (try (apply d_guardB 9;(case hi|hgd|h1|h2=>rfl);all_goals (intro h;(try simp only [reduceCtorEq,zzz] at h))))
        all_goals (apply dtg 9;(case hi|hg=>rfl);(case hop=>(apply prd;apply p_fieldAddr<;>rfl));(case hq=>kernel_rfl))
        all_goals (try (apply d_guardB 10;(case hi|hgd|h1|h2=>rfl);all_goals (intro h;(try simp only [reduceCtorEq,zzz] at h))))
        all_goals (apply dtg 10;(case hi|hg=>rfl);(case hop=>((apply r_load1;rfl;exact Cell.frozen (hck6 0 _ rfl))));(case hq=>kernel_rfl))
        all_goals (try (apply d_guardB 11;(case hi|hgd|h1|h2=>rfl);all_goals (intro h;(try simp only [reduceCtorEq,zzz] at h))))
        all_goals (apply d_callJG 11 (hs:=qh);(case hi|hg=>rfl);(case hr=>kernel_rfl);(case ha|hd=>rfl))
        all_goals (apply dtk 12;(case hi=>rfl);(case hop=>(apply prd;apply p_pickT<;>rfl));(case hq=>kernel_rfl))
        all_goals (apply d_done;(case hr=>kernel_rfl))
        all_goals repeat' (first|apply v_region|apply v_nil|apply v_skip|apply v_blk|apply v_pure;(case hop=>first|apply p_move<;>rfl|apply p_assign<;>rfl|apply p_add;(case hx|hy=>rfl);(case h=>omega)|fail);(case hd=>rfl)|apply v_condF;(case hc=>rfl)|fail)
        all_goals refine v_drop (List.nil_sublist _) ?_
        all_goals exact v_again rfl ⟨hleG,rfl,i+1,by omega,rfl,hnx fun h=>hc h.1⟩ (by simp [headI];omega)
      ·have hc:¬ cnt l i:=fun h=>hs (hcn.1 h).2.2.1
       repeat' (first|apply v_alloc (d:=8);(case hz|hd=>rfl);intro b8|apply v_alloc (d:=11);(case hz|hd=>rfl);intro b11|apply v_seq|apply v_region|apply v_nil|apply v_pure;(case hop=>first|apply p_move<;>rfl|apply p_assign<;>rfl|apply p_fieldAddrB<;>rfl|apply p_extract0<;>rfl|apply p_extract1<;>rfl|fail);(case hd=>rfl)|apply v_callJ (hs:=ql);(case ha|hd=>rfl)|apply v_read;(case hop=>(apply r_load1;rfl;(apply Cell.own;(case h=>repeat exact mhd _);rfl)));(case hd=>rfl)|apply v_store;(case hp|hx|hc|hsz|h1=>rfl);(case hb=>repeat exact mhd _);(case hfit=>exact nle rfl);(case hov=>((repeat (first|with_reducible exact ov_nil|apply ov_cons));done));(case hu=>repeat (exact Upd.here _ _))|fail)
       refine v_perm (ν:=[(b8,.cells [.int .i64 s1.schema,.slice A1 s1.pairs.length c1,.slice A1' s1.sess.length c1'].toArray 39 (0,0))]++((b11,_)::ν)) (by apply perm_of_count;intro p;simp only [List.append_eq,List.countP_append,List.countP_cons,List.countP_nil,Nat.zero_add,Nat.add_zero];try ac_rfl) ?_
       refine v_drop (List.sublist_append_left _ _) ?_
       refine d_start [(b8,.cells [.int .i64 s1.schema,.slice A1 s1.pairs.length c1,.slice A1' s1.sess.length c1'].toArray 39 (0,0))] (by kernel_rfl) (by kernel_rfl) (by kernel_rfl) (by intro e he;exact he) ?_
       all_goals (apply dtm 0;(case hi|hx=>rfl);(case hq=>kernel_rfl);apply dtm 1;(case hi|hx=>rfl);(case hq=>kernel_rfl))
       all_goals (apply dtk 2;(case hi=>rfl);(case hop=>(apply prd;apply p_gt<;>rfl));(case hq=>kernel_rfl);apply dtm 3;(case hi|hx=>rfl);(case hq=>kernel_rfl))
       all_goals (try (apply d_guardB 4;(case hi|hgd|h1|h2=>rfl);all_goals (intro h;(try simp only [reduceCtorEq,zzz] at h);try (exfalso;omega))))
       all_goals (apply dpa 4;(case hi|hg|hn=>rfl);(case hq=>kernel_rfl))
       all_goals (try (apply d_guardB 5;(case hi|hgd|h1|h2=>rfl);all_goals (intro h;(try simp only [reduceCtorEq,zzz] at h))))
       all_goals (apply dpa 5;(case hi|hg|hn=>rfl);(case hq=>kernel_rfl))
       all_goals (try (apply d_guardB 6;(case hi|hgd|h1|h2=>rfl);all_goals (intro h;(try simp only [reduceCtorEq,zzz] at h))))
       all_goals (apply dpa 6;(case hi|hg|hn=>rfl);(case hq=>kernel_rfl))
       all_goals (try (apply d_guardB 7;(case hi|hgd|h1|h2=>rfl);all_goals (intro h;(try simp only [reduceCtorEq,zzz] at h))))
       all_goals (apply dpa 7;(case hi|hg|hn=>rfl);(case hq=>kernel_rfl))
       all_goals (try (apply d_guardB 8;(case hi|hgd|h1|h2=>rfl);all_goals (intro h;(try simp only [reduceCtorEq,zzz] at h))))
       all_goals (apply dpa 8;(case hi|hg|hn=>rfl);(case hq=>kernel_rfl))
       all_goals (try (apply d_guardB 9;(case hi|hgd|h1|h2=>rfl);all_goals (intro h;(try simp only [reduceCtorEq,zzz] at h))))
       all_goals (apply dpa 9;(case hi|hg|hn=>rfl);(case hq=>kernel_rfl))
       all_goals (try (apply d_guardB 10;(case hi|hgd|h1|h2=>rfl);all_goals (intro h;(try simp only [reduceCtorEq,zzz] at h))))
       all_goals (apply dpa 10;(case hi|hg|hn=>rfl);(case hq=>kernel_rfl))
       all_goals (try (apply d_guardB 11;(case hi|hgd|h1|h2=>rfl);all_goals (intro h;(try simp only [reduceCtorEq,zzz] at h))))
       all_goals (apply dpa 11;(case hi|hg|hn=>rfl);(case hq=>kernel_rfl))
       all_goals (apply dtk 12;(case hi=>rfl);(case hop=>(apply prd;apply p_pickF<;>rfl));(case hq=>kernel_rfl))
       all_goals (apply d_done;(case hr=>kernel_rfl))
       all_goals repeat' (first|apply v_region|apply v_nil|apply v_skip|apply v_blk|apply v_pure;(case hop=>first|apply p_move<;>rfl|apply p_assign<;>rfl|apply p_add;(case hx|hy=>rfl);(case h=>omega)|fail);(case hd=>rfl)|apply v_condF;(case hc=>rfl)|fail)
       all_goals refine v_drop (List.nil_sublist _) ?_
       all_goals exact v_again rfl ⟨hleG,rfl,i+1,by omega,rfl,hnx fun h=>hc h.1⟩ (by simp [headI];omega)
     ·rw [decide_eq_false ho] at q
      repeat' (first|apply v_region|apply v_nil|apply v_exit;(case hp=>rfl)|apply v_take;(case hg=>rfl)|apply v_pure;(case hop=>first|apply p_move<;>rfl|apply p_ne<;>rfl|apply p_assign<;>rfl|apply p_pickF<;>rfl|apply p_not<;>rfl|apply p_fieldAddr<;>rfl|apply p_add;(case hx|hy=>rfl);(case h=>omega)|apply p_indexAddrS;(case hx|hi=>rfl);(case h0|h=>omega);(case hA=>assumption)|fail);(case hd=>rfl)|apply v_condT;(case hc=>rfl)|apply v_guardB;(case h1|h2=>rfl);all_goals (intro h;(try simp only [reduceCtorEq,zzz] at h);try (exfalso;omega))|apply v_read;(case hop=>(apply r_load1;rfl;exact Cell.frozen (hck5 0 _ rfl)));(case hd=>rfl)|apply v_callJ (hs:=q);(case ha|hd=>rfl)|fail)
      exact v_again rfl ⟨GH.le_trans hle hle5,rfl,i+1,by omega,rfl,hnx fun h=>ho (hcn.1 h.1).2.1⟩ (by simp [headI];omega)
    ·repeat' (first|apply v_region|apply v_nil|apply v_exit;(case hp=>rfl)|apply v_take;(case hg=>rfl)|apply v_pass;(case hg|hn|hd=>rfl)|apply v_pure;(case hop=>first|apply p_move<;>rfl|apply p_ne<;>rfl|apply p_assign<;>rfl|apply p_pickT<;>rfl|apply p_pickF<;>rfl|apply p_add;(case hx|hy=>rfl);(case h=>omega)|fail);(case hd=>rfl)|apply v_condT;(case hc=>rfl)|apply v_guardB;(case h1|h2=>rfl);all_goals (intro h;(try simp only [reduceCtorEq,zzz] at h);try (exfalso;omega))|fail)
     exact v_again rfl ⟨GH.le_trans hle hle5,rfl,i+1,by omega,rfl,hnx fun h=>hz (hcn.1 h.1).1⟩ (by simp [headI];omega)
   ·repeat' (first|apply v_seq|apply v_region|apply v_nil|apply v_skip|apply v_block|apply v_exit;(case hp=>rfl)|apply v_take;(case hg=>rfl)|apply v_pass;(case hg|hn|hd=>rfl)|apply v_pure;(case hop=>first|apply p_move<;>rfl|apply p_lt<;>rfl|apply p_ne<;>rfl|apply p_assign<;>rfl|apply p_pickT<;>rfl|apply p_pickF<;>rfl|apply p_lenSlice<;>rfl|apply p_fieldAddr<;>rfl|apply p_add;(case hx|hy=>rfl);(case h=>omega)|apply p_indexAddrS;(case hx|hi=>rfl);(case h0|h=>omega);(case hA=>assumption)|fail);(case hd=>rfl)|apply v_condT;(case hc=>rfl)|apply v_cond;(case hc=>rfl);all_goals (intro h;(try simp only [reduceCtorEq,zzz] at h);try (exfalso;omega))|apply v_guardB;(case h1|h2=>rfl);all_goals (intro h;(try simp only [reduceCtorEq,zzz] at h);try (exfalso;omega))|apply v_read;(case hop=>(apply r_load1;rfl;exact Cell.frozen (hck0 1 _ rfl)));(case hd=>rfl)|apply v_read;(case hop=>(apply r_load1;rfl;exact Cell.frozen (hck0 2 _ rfl)));(case hd=>rfl)|fail)
    exact v_again rfl ⟨hle,rfl,i+1,by omega,rfl,hnx fun h=>h2 h.2.2⟩ (by simp [headI];omega)
  ·repeat' (first|apply v_seq|apply v_region|apply v_nil|apply v_skip|apply v_block|apply v_exit;(case hp=>rfl)|apply v_pass;(case hg|hn|hd=>rfl)|apply v_pure;(case hop=>first|apply p_move<;>rfl|apply p_lt<;>rfl|apply p_ne<;>rfl|apply p_assign<;>rfl|apply p_pickT<;>rfl|apply p_lenSlice<;>rfl|apply p_fieldAddr<;>rfl|apply p_add;(case hx|hy=>rfl);(case h=>omega)|apply p_indexAddrS;(case hx|hi=>rfl);(case h0|h=>omega);(case hA=>assumption)|fail);(case hd=>rfl)|apply v_condT;(case hc=>rfl)|apply v_cond;(case hc=>rfl);all_goals (intro h;(try simp only [reduceCtorEq,zzz] at h);try (exfalso;omega))|apply v_guardB;(case h1|h2=>rfl);all_goals (intro h;(try simp only [reduceCtorEq,zzz] at h);try (exfalso;omega))|apply v_read;(case hop=>(apply r_load1;rfl;exact Cell.frozen (hck0 1 _ rfl)));(case hd=>rfl)|fail)
   exact v_again rfl ⟨hle,rfl,i+1,by omega,rfl,hnx fun h=>h1 h.2.1⟩ (by simp [headI];omega)
 ·obtain rfl:i=l.length:=by omega
  repeat' (first|apply v_seq|apply v_region|apply v_nil|apply v_exit;(case hp=>rfl)|apply v_pure;(case hop=>first|apply p_move<;>rfl|apply p_lt<;>rfl|apply p_assign<;>rfl|apply p_lenSlice<;>rfl|fail);(case hd=>rfl)|apply v_cond;(case hc=>rfl);all_goals (intro h;(try simp only [reduceCtorEq,zzz] at h);try (exfalso;omega))|fail)
  refine v_ret [] (outsA1 rfl rfl) (by repeat (exact List.Sublist.refl _)) ⟨?_,rfl⟩
  rw [show pl l (cl,sq)=0 from plK_no (fun j hc=>hno j hc hc.1) _]
  rfl
theorem clCmdAt {G:GH}{a:Addr}{x:Cl}(h:CellsG G a x.cells):CellsG G (a.add 0) x.cmd.cells:=fun j v hv=>by
 rw [add_add]
 refine h _ v ?_
 rw [Nat.zero_add]
 unfold Cl.cells
 rw [List.getElem?_append_left (List.getElem?_eq_some_iff.1 hv).1]
 exact hv
theorem clAnsAt {G:GH}{a:Addr}{x:Cl}(h:CellsG G a x.cells):CellsG G (a.add 9) x.ans.cells:=fun j v hv=>by
 rw [add_add]
 refine h (9+j) v ?_
 unfold Cl.cells
 rw [List.getElem?_append_right (by show 7≤9+j;omega),show 9+j-x.cmd.cells.length=j+2 by show 9+j-7=j+2;omega]
 exact hv
theorem lg43_s {G:GH}{l:List Cl}{sv:Value}(hs:Clr G sv l):Con Tryz.prog 5 #[sv] G [] (Lg (l.length≤40) G):=by
 obtain ⟨A,c,rfl,hlc,hcm,hsome,hcp⟩:=rowOpen hs
 simp only [maxLen] at hcm
 (refine v_enter Tryz.func5 rfl Tryz.ntmps5 rfl ?_;intro B _)
 repeat' (first|apply v_seq|apply v_region|apply v_nil|apply v_block|apply v_pure;(case hop=>(apply p_assign<;>rfl));(case hd=>rfl)|fail)
 refine v_loop [3,0] (fun us G' μ'=>G'=G∧μ'=[]∧∃ k:Nat,k≤l.length∧us=[Value.int .i64 (k:Nat),.slice A l.length c]) (fun us=>l.length-(headI us).toNat) rfl ⟨rfl,rfl,0,by omega,rfl⟩ ?_
 rintro us G' _ ⟨hG',rfl,k,hk,rfl⟩
 subst G'
 by_cases hlt:k<l.length
 ·have e1:((k:Nat):Int).toNat=k:=by omega
  have hA:=hsome (by omega)
  have hc0:=clCmdAt (hcp k hlt)
  have hc1:=(clAnsAt (hcp k hlt)).cell (j:=4) rfl
  generalize l[k]=x at *
  obtain ⟨⟨kind,c2,s2,key,val,old,node⟩,cb,ce,⟨ac,aq,ae,af,av5,ar⟩⟩:=x
  repeat' (first|apply v_alloc (d:=4);(case hz|hd=>rfl);intro b4|apply v_seq|apply v_region|apply v_nil|apply v_skip|apply v_block|apply v_blk|apply v_exit;(case hp=>rfl)|apply v_take;(case hg=>rfl)|apply v_pass;(case hg|hn|hd=>rfl)|apply v_pure;(case hop=>first|apply p_move<;>rfl|apply p_lt<;>rfl|apply p_gt<;>rfl|apply p_assign<;>rfl|apply p_pickT<;>rfl|apply p_pickF<;>rfl|apply p_lenSlice<;>rfl|apply p_fieldAddrB<;>rfl|apply p_fieldAddr<;>rfl|apply p_add;(case hx|hy=>rfl);(case h=>omega)|apply p_indexAddrS;(case hx|hi=>rfl);(case h0|h=>omega);(case hA=>assumption)|apply p_lenString<;>rfl|fail);(case hd=>rfl)|apply v_condT;(case hc=>rfl)|apply v_cond;(case hc=>rfl);all_goals (intro h;(try simp only [reduceCtorEq,zzz] at h))|apply v_guardB;(case h1|h2=>rfl);all_goals (intro h;(try simp only [reduceCtorEq,zzz] at h);try (exfalso;omega))|apply v_read;(case hop=>(apply r_loadN;rfl;exact CellsAt.frozen hc0;rfl));(case hd=>rfl)|apply v_read;(case hop=>(apply r_load1;rfl;exact Cell.frozen hc1));(case hd=>rfl)|apply v_read;(case hop=>(apply r_load1;rfl;(apply Cell.own;(case h=>repeat exact mhd _);rfl)));(case hd=>rfl)|apply v_store;(case hp|hx|hc|hsz|h1=>rfl);(case hb=>repeat exact mhd _);(case hfit=>exact nle rfl);(case hov=>((repeat (first|with_reducible exact ov_nil|apply ov_cons));done));(case hu=>repeat (exact Upd.here _ _))|fail)
  all_goals (refine v_drop (List.nil_sublist _) ?_)
  all_goals first
   |(refine v_again rfl ⟨rfl,rfl,k+1,by omega,rfl⟩ (by simp [headI];omega))
   |(refine v_ret [] (outsA1 rfl rfl) (by repeat (exact List.Sublist.refl _)) ?_
     exact ⟨rfl,rfl,_,rfl,fun h=>by first|cases h|(rw [dec_eq,decide_eq_false_iff_not] at h;omega)⟩)
 ·repeat' (first|apply v_seq|apply v_region|apply v_nil|apply v_exit;(case hp=>rfl)|apply v_pass;(case hg|hn|hd=>rfl)|apply v_pure;(case hop=>first|apply p_move<;>rfl|apply p_lt<;>rfl|apply p_gt<;>rfl|apply p_assign<;>rfl|apply p_pickF<;>rfl|apply p_lenSlice<;>rfl|fail);(case hd=>rfl)|apply v_condF;(case hc=>rfl)|apply v_guardB;(case h1|h2=>rfl);all_goals (intro h;(try simp only [reduceCtorEq,zzz] at h);try (exfalso;omega))|fail)
  all_goals
   (refine v_ret [] (outsA1 rfl rfl) (by repeat (exact List.Sublist.refl _)) ?_
    exact ⟨rfl,rfl,_,rfl,fun h=>by (rw [dec_eq,decide_eq_false_iff_not] at h;omega)⟩)
def Wit (log:List Cm) (calls:List Cl):Prop:=(∀ c∈calls,0<c.e→goodC log c)∧ordL log (ansF calls)∧invP log calls
def WitR (log:List Cm) (calls:List Cl):Value→GH→OH→Prop:=fun r _ μ'=>μ'=[]∧∃ e:Int,r=.int .i64 e∧(e=0→Wit log calls)
theorem goodC_at {log:List Cm}{x:Cl}{i:Nat}(hi:plc log x=i+1):∃ h:i<log.length,∃ h2:i<(anA log log.length).length,(log[i]=x.cmd→(anA log log.length)[i]=x.ans→goodC log x):=by
 obtain ⟨hc,-,-⟩:=pl_some hi
 have h2:i<(anA log log.length).length:=by rw [anA_len (Nat.le_refl _)];exact hc.1
 exact ⟨hc.1,h2,fun h3 h4=>⟨i,hi,by rw [List.getElem?_eq_getElem hc.1,h3],by rw [List.getElem?_eq_getElem h2,h4]⟩⟩
abbrev okP (log:List Cm) (x y:Cl) (a b:Nat):Prop:=a≠b→0<x.e→0<y.e→x.e<y.b→¬ lateP log x y
theorem ord_of {log:List Cm}{calls:List Cl}(h:∀ a (ha:a<calls.length) b (hb:b<calls.length),okP log calls[a] calls[b] a b):ordL log (ansF calls):=by
 unfold ordL ansF
 rw [List.pairwise_filter,List.pairwise_iff_getElem]
 intro a b ha hb hab h1 h2
 simp only [decide_eq_true_eq] at h1 h2
 exact ⟨fun h3=>h a ha b hb (by omega) h1 h2 h3.1 h3,fun h3=>h b hb a ha (by omega) h2 h1 h3.1 h3⟩
set_option maxHeartbeats 4000000 in
theorem refCheck43_s {G:GH}{lv sv:Value}{log:List Cm}{calls:List Cl}(hl:Cms G lv log) (hlw:CmsW log) (hs:Clr G sv calls) (hn:calls.length≤40) :
 Con Tryz.prog 6 #[lv,sv] G [] (WitR log calls):=by
 have q0:=refRun29_s hl hlw
 obtain ⟨LA,lc,rfl,hlc,hcm,hsome,-⟩:=rowOpen hl
 obtain ⟨CA,cc,rfl,hlcc,hccm,hsomec,-⟩:=rowOpen hs
 simp only [maxLen] at hcm hccm
 have hlen:=hlw.1
 (refine v_enter Tryz.func6 rfl Tryz.ntmps6 rfl ?_;intro B _)
 repeat' (first|apply v_seq|apply v_region|apply v_nil|apply v_pure;(case hop=>first|apply p_move<;>rfl|apply p_assign<;>rfl|fail);(case hd=>rfl)|fail)
 refine v_call (μ1:=[]) rfl q0 (List.Perm.refl _) rfl ?_
 rintro _ G1 ν hle1 ⟨v',av,rfl,⟨A1,c1,A1',c1',rfl,-,-⟩,hga⟩
 refine v_frzP ν (r:=[]) (by apply perm_of_count;intro p;simp only [List.append_eq,List.countP_append,List.countP_cons,List.countP_nil,Nat.zero_add,Nat.add_zero];try ac_rfl) ?_
 intro G2 hle2 hG2
 have hleA:=GH.le_trans hle1 hle2
 rw [show (specA emp [] log).2=anA log log.length by unfold anA;rw [List.take_length]] at hga
 have ha:=row_of_grow An.len hga hG2
 clear hga hG2 hle1 hle2
 obtain ⟨NA,nc,rfl,hlnc,hncm,hsomen,-⟩:=rowOpen ha
 simp only [maxLen] at hncm
 have hal:(anA log log.length).length=log.length:=anA_len (Nat.le_refl _)
 repeat' (first|apply v_alloc (d:=5);(case hz|hd=>rfl);intro b5|apply v_seq|apply v_region|apply v_nil|apply v_block|apply v_pure;(case hop=>first|apply p_move<;>rfl|apply p_assign<;>rfl|apply p_extract0<;>rfl|apply p_extract1<;>rfl|fail);(case hd=>rfl)|apply v_store;(case hp|hx|hc|hsz|h1=>rfl);(case hb=>repeat exact mhd _);(case hfit=>exact nle rfl);(case hov=>((repeat (first|with_reducible exact ov_nil|apply ov_cons));done));(case hu=>repeat (exact Upd.here _ _))|fail)
 refine v_drop (List.nil_sublist _) ?_
 refine v_loop [7,6,1,0] (fun us G' μ'=>GH.le G2 G'∧μ'=[]∧∃ k:Nat,k≤calls.length∧us=[Value.int .i64 (k:Nat),.slice NA (anA log log.length).length nc,.slice CA calls.length cc,.slice LA log.length lc]∧∀ i (h:i<calls.length),i<k→0<calls[i].e→goodC log calls[i]) (fun us=>calls.length-(headI us).toNat) rfl ⟨GH.le_refl _,rfl,0,by omega,rfl,by omega⟩ ?_
 rintro us G' _ ⟨hleB,rfl,k,hk,rfl,hgood⟩
 have hleG:=GH.le_trans hleA hleB
 have hl':=hl.mono hleG
 by_cases hlt:k<calls.length
 ·have e1:((k:Nat):Int).toNat=k:=by omega
  have hA:=hsomec (by omega)
  have hck:=(rowOpen' (hs.mono hleG)).2.2.2.2.2.2 k hlt
  have hcc:=clCmdAt hck
  have hca:=clAnsAt hck
  have hnx:(0<(calls[k]).e→goodC log calls[k])→∀ i (h:i<calls.length),i<k+1→0<calls[i].e→goodC log calls[i]:=fun h1 i hi hik he=>by
   by_cases hik2:i<k
   ·exact hgood i hi hik2 he
   ·obtain rfl:i=k:=by omega
    exact h1 he
  generalize calls[k]=x at *
  by_cases hx:0<x.e
  ·have qp:=refPlace29_s (x.cmd.client,x.cmd.seq) hl' hlw
   by_cases h0:plc log x=0
   ·repeat' (first|apply v_seq|apply v_region|apply v_nil|apply v_skip|apply v_block|apply v_pure;(case hop=>first|apply p_move<;>rfl|apply p_lt<;>rfl|apply p_le<;>rfl|apply p_lenSlice<;>rfl|apply p_fieldAddr<;>rfl|apply p_indexAddrS;(case hx|hi=>rfl);(case h0|h=>omega);(case hA=>assumption)|fail);(case hd=>rfl)|apply v_cond;(case hc=>rfl);all_goals (intro h;(try simp only [reduceCtorEq,zzz] at h);try (exfalso;omega))|apply v_read;(case hop=>(apply r_load1;rfl;exact Cell.frozen (hck 8 _ rfl)));(case hd=>rfl)|fail)
    refine d_start [] (by kernel_rfl) (by kernel_rfl) (by kernel_rfl) (by intro e he;exact he) ?_
    all_goals (apply dtm 0;(case hi|hx=>rfl);(case hq=>kernel_rfl);apply dtm 1;(case hi|hx=>rfl);(case hq=>kernel_rfl))
    all_goals (apply dtm 2;(case hi|hx=>rfl);(case hq=>kernel_rfl);apply dtk 3;(case hi=>rfl);(case hop=>(apply prd;apply p_indexAddrS;(case hx|hi=>rfl);(case h0|h=>omega);(case hA=>assumption)));(case hq=>kernel_rfl))
    all_goals (apply dtk 4;(case hi=>rfl);(case hop=>(apply prd;apply p_fieldAddr<;>rfl));(case hq=>kernel_rfl);apply dtk 5;(case hi=>rfl);(case hop=>(apply prd;apply p_fieldAddr<;>rfl));(case hq=>kernel_rfl))
    all_goals (apply dtk 6;(case hi=>rfl);(case hop=>((apply r_load1;rfl;exact Cell.frozen (hcc 1 _ rfl))));(case hq=>kernel_rfl);apply dtm 7;(case hi|hx=>rfl);(case hq=>kernel_rfl))
    all_goals (apply dtm 8;(case hi|hx=>rfl);(case hq=>kernel_rfl);apply dtk 9;(case hi=>rfl);(case hop=>(apply prd;apply p_indexAddrS;(case hx|hi=>rfl);(case h0|h=>omega);(case hA=>assumption)));(case hq=>kernel_rfl))
    all_goals (apply dtk 10;(case hi=>rfl);(case hop=>(apply prd;apply p_fieldAddr<;>rfl));(case hq=>kernel_rfl);apply dtk 11;(case hi=>rfl);(case hop=>(apply prd;apply p_fieldAddr<;>rfl));(case hq=>kernel_rfl))
    all_goals (apply dtk 12;(case hi=>rfl);(case hop=>((apply r_load1;rfl;exact Cell.frozen (hcc 2 _ rfl))));(case hq=>kernel_rfl))
    all_goals ((apply d_call 13 (hs:=qp) (μ1:=[]) (μ2:=[]);(case hi=>rfl);(case hr=>kernel_rfl);(case ha=>rfl);(case hp=>exact List.Perm.refl _);(case hd=>rfl);(case hν'=>intro e he;cases he);rintro _ G5 _ hle5 ⟨rfl,rfl⟩))
    all_goals (apply dta 14;(case hi|hx=>rfl);(case hq=>kernel_rfl))
    all_goals (apply d_done;(case hr=>kernel_rfl))
    have hp0:pl log (x.cmd.client,x.cmd.seq)=0:=h0
    rw [hp0]
    repeat' (first|apply v_seq|apply v_region|apply v_nil|apply v_pure;(case hop=>first|apply p_move<;>rfl|apply p_eqs<;>rfl|apply p_assign<;>rfl|fail);(case hd=>rfl)|apply v_condT;(case hc=>rfl)|fail)
    exact v_ret [] (outsA1 rfl rfl) (by repeat (exact List.Sublist.refl _)) ⟨rfl,_,rfl,by omega⟩
   ·obtain ⟨i,hi⟩:∃ i,plc log x=i+1:=⟨plc log x-1,by omega⟩
    obtain ⟨hil,hia,hgd⟩:=goodC_at hi
    repeat' (first|apply v_seq|apply v_region|apply v_nil|apply v_skip|apply v_block|apply v_pure;(case hop=>first|apply p_move<;>rfl|apply p_lt<;>rfl|apply p_le<;>rfl|apply p_lenSlice<;>rfl|apply p_fieldAddr<;>rfl|apply p_indexAddrS;(case hx|hi=>rfl);(case h0|h=>omega);(case hA=>assumption)|fail);(case hd=>rfl)|apply v_cond;(case hc=>rfl);all_goals (intro h;(try simp only [reduceCtorEq,zzz] at h);try (exfalso;omega))|apply v_read;(case hop=>(apply r_load1;rfl;exact Cell.frozen (hck 8 _ rfl)));(case hd=>rfl)|fail)
    refine d_start [] (by kernel_rfl) (by kernel_rfl) (by kernel_rfl) (by intro e he;exact he) ?_
    all_goals (apply dtm 0;(case hi|hx=>rfl);(case hq=>kernel_rfl);apply dtm 1;(case hi|hx=>rfl);(case hq=>kernel_rfl))
    all_goals (apply dtm 2;(case hi|hx=>rfl);(case hq=>kernel_rfl);apply dtk 3;(case hi=>rfl);(case hop=>(apply prd;apply p_indexAddrS;(case hx|hi=>rfl);(case h0|h=>omega);(case hA=>assumption)));(case hq=>kernel_rfl))
    all_goals (apply dtk 4;(case hi=>rfl);(case hop=>(apply prd;apply p_fieldAddr<;>rfl));(case hq=>kernel_rfl);apply dtk 5;(case hi=>rfl);(case hop=>(apply prd;apply p_fieldAddr<;>rfl));(case hq=>kernel_rfl))
    all_goals (apply dtk 6;(case hi=>rfl);(case hop=>((apply r_load1;rfl;exact Cell.frozen (hcc 1 _ rfl))));(case hq=>kernel_rfl);apply dtm 7;(case hi|hx=>rfl);(case hq=>kernel_rfl))
    all_goals (apply dtm 8;(case hi|hx=>rfl);(case hq=>kernel_rfl);apply dtk 9;(case hi=>rfl);(case hop=>(apply prd;apply p_indexAddrS;(case hx|hi=>rfl);(case h0|h=>omega);(case hA=>assumption)));(case hq=>kernel_rfl))
    all_goals (apply dtk 10;(case hi=>rfl);(case hop=>(apply prd;apply p_fieldAddr<;>rfl));(case hq=>kernel_rfl);apply dtk 11;(case hi=>rfl);(case hop=>(apply prd;apply p_fieldAddr<;>rfl));(case hq=>kernel_rfl))
    all_goals (apply dtk 12;(case hi=>rfl);(case hop=>((apply r_load1;rfl;exact Cell.frozen (hcc 2 _ rfl))));(case hq=>kernel_rfl))
    all_goals ((apply d_call 13 (hs:=qp) (μ1:=[]) (μ2:=[]);(case hi=>rfl);(case hr=>kernel_rfl);(case ha=>rfl);(case hp=>exact List.Perm.refl _);(case hd=>rfl);(case hν'=>intro e he;cases he);rintro _ G5 _ hle5 ⟨rfl,rfl⟩))
    all_goals (apply dta 14;(case hi|hx=>rfl);(case hq=>kernel_rfl))
    all_goals (apply d_done;(case hr=>kernel_rfl))
    have hp0:pl log (x.cmd.client,x.cmd.seq)=i+1:=hi
    rw [hp0]
    have e2:(((i+1:Nat):Int)-1).toNat=i:=by omega
    have hLA:=hsome (by omega)
    have hNA:=hsomen (by omega)
    have hlk:=(rowOpen' (hl'.mono hle5)).2.2.2.2.2.2 i hil
    have hak:=(rowOpen' (ha.mono (GH.le_trans hleB hle5))).2.2.2.2.2.2 i hia
    have hcc5:=fun j v (h:x.cmd.cells[j]? = some v)=>GH.cell_le hle5 (hcc j v h)
    have hca5:=fun j v (h:x.ans.cells[j]? = some v)=>GH.cell_le hle5 (hca j v h)
    generalize log[i]=lx at *
    generalize (anA log log.length)[i]=ax at *
    repeat' (first|apply v_seq|apply v_region|apply v_nil|apply v_skip|apply v_pure;(case hop=>first|apply p_move<;>rfl|apply p_eq<;>rfl|fail);(case hd=>rfl)|apply v_cond;(case hc=>rfl);all_goals (intro h;(try simp only [reduceCtorEq,zzz] at h);try (exfalso;omega))|fail)
    refine v_cut (fun σ1 G' μ'=>G'=G5∧μ'=[]∧∃ bq,(bq=false→lx=x.cmd∧ax=x.ans)∧EnvHas σ1 [(70,.bool bq),(7,.int .i64 (k:Nat)),(6,.slice NA (anA log log.length).length nc),(1,.slice CA calls.length cc),(0,.slice LA log.length lc)]) ?_ ?_
    ·intro hk5
     refine d_start [] (by kernel_rfl) (by kernel_rfl) (by kernel_rfl) (by intro e he;exact he) ?_
     all_goals (apply dtm 0;(case hi|hx=>rfl);(case hq=>kernel_rfl);apply dtm 1;(case hi|hx=>rfl);(case hq=>kernel_rfl))
     all_goals (apply dtk 2;(case hi=>rfl);(case hop=>(apply prd;apply p_sub;(case hx|hy=>rfl);(case h=>omega)));(case hq=>kernel_rfl);apply dtk 3;(case hi=>rfl);(case hop=>(apply prd;apply p_indexAddrS;(case hx|hi=>rfl);(case h0|h=>omega);(case hA=>assumption)));(case hq=>kernel_rfl))
     all_goals (apply dtk 4;(case hi=>rfl);(case hop=>((apply r_loadN;rfl;exact CellsAt.frozen (by rw [e2];exact hlk);rfl)));(case hq=>kernel_rfl);apply dtm 5;(case hi|hx=>rfl);(case hq=>kernel_rfl))
     all_goals (apply dtm 6;(case hi|hx=>rfl);(case hq=>kernel_rfl);apply dtk 7;(case hi=>rfl);(case hop=>(apply prd;apply p_indexAddrS;(case hx|hi=>rfl);(case h0|h=>omega);(case hA=>assumption)));(case hq=>kernel_rfl))
     all_goals (apply dtk 8;(case hi=>rfl);(case hop=>(apply prd;apply p_fieldAddr<;>rfl));(case hq=>kernel_rfl);apply dtk 9;(case hi=>rfl);(case hop=>((apply r_loadN;rfl;exact CellsAt.frozen hcc5;rfl)));(case hq=>kernel_rfl))
     all_goals (apply dtk 10;(case hi=>rfl);(case hop=>((apply prd;apply neCm (c:=lx) (c':=x.cmd);(case hx|hy=>rfl))));(case hq=>kernel_rfl);apply dtm 11;(case hi|hx=>rfl);(case hq=>kernel_rfl))
     all_goals (try (apply d_guardB 12;(case hi|hgd|h1|h2=>rfl);all_goals (intro h;(try simp only [reduceCtorEq,zzz] at h))))
     all_goals (first|apply dpa 12;(case hi|hg|hn=>rfl);(case hq=>kernel_rfl)|apply dtg 12;(case hi|hg=>rfl);(case hop=>(apply prd;apply p_move<;>rfl));(case hq=>kernel_rfl)|fail)
     all_goals (try (apply d_guardB 13;(case hi|hgd|h1|h2=>rfl);all_goals (intro h;(try simp only [reduceCtorEq,zzz] at h))))
     all_goals (first|apply dpa 13;(case hi|hg|hn=>rfl);(case hq=>kernel_rfl)|apply dtg 13;(case hi|hg=>rfl);(case hop=>(apply prd;apply p_move<;>rfl));(case hq=>kernel_rfl)|fail)
     all_goals (try (apply d_guardB 14;(case hi|hgd|h1|h2=>rfl);all_goals (intro h;(try simp only [reduceCtorEq,zzz] at h))))
     all_goals (first|apply dpa 14;(case hi|hg|hn=>rfl);(case hq=>kernel_rfl)|apply dtg 14;(case hi|hg=>rfl);(case hop=>(apply prd;apply p_sub;(case hx|hy=>rfl);(case h=>omega)));(case hq=>kernel_rfl)|fail)
     all_goals (try (apply d_guardB 15;(case hi|hgd|h1|h2=>rfl);all_goals (intro h;(try simp only [reduceCtorEq,zzz] at h))))
     all_goals (first|apply dpa 15;(case hi|hg|hn=>rfl);(case hq=>kernel_rfl)|apply dtg 15;(case hi|hg=>rfl);(case hop=>(apply prd;apply p_indexAddrS;(case hx|hi=>rfl);(case h0|h=>omega);(case hA=>assumption)));(case hq=>kernel_rfl)|fail)
     all_goals (try (apply d_guardB 16;(case hi|hgd|h1|h2=>rfl);all_goals (intro h;(try simp only [reduceCtorEq,zzz] at h))))
     all_goals (first|apply dpa 16;(case hi|hg|hn=>rfl);(case hq=>kernel_rfl)|apply dtg 16;(case hi|hg=>rfl);(case hop=>((apply r_loadN;rfl;exact CellsAt.frozen (by rw [e2];exact hak);rfl)));(case hq=>kernel_rfl)|fail)
     all_goals (try (apply d_guardB 17;(case hi|hgd|h1|h2=>rfl);all_goals (intro h;(try simp only [reduceCtorEq,zzz] at h))))
     all_goals (first|apply dpa 17;(case hi|hg|hn=>rfl);(case hq=>kernel_rfl)|apply dtg 17;(case hi|hg=>rfl);(case hop=>(apply prd;apply p_move<;>rfl));(case hq=>kernel_rfl)|fail)
     all_goals (try (apply d_guardB 18;(case hi|hgd|h1|h2=>rfl);all_goals (intro h;(try simp only [reduceCtorEq,zzz] at h))))
     all_goals (first|apply dpa 18;(case hi|hg|hn=>rfl);(case hq=>kernel_rfl)|apply dtg 18;(case hi|hg=>rfl);(case hop=>(apply prd;apply p_move<;>rfl));(case hq=>kernel_rfl)|fail)
     all_goals (try (apply d_guardB 19;(case hi|hgd|h1|h2=>rfl);all_goals (intro h;(try simp only [reduceCtorEq,zzz] at h))))
     all_goals (first|apply dpa 19;(case hi|hg|hn=>rfl);(case hq=>kernel_rfl)|apply dtg 19;(case hi|hg=>rfl);(case hop=>(apply prd;apply p_indexAddrS;(case hx|hi=>rfl);(case h0|h=>omega);(case hA=>assumption)));(case hq=>kernel_rfl)|fail)
     all_goals (try (apply d_guardB 20;(case hi|hgd|h1|h2=>rfl);all_goals (intro h;(try simp only [reduceCtorEq,zzz] at h))))
     all_goals (first|apply dpa 20;(case hi|hg|hn=>rfl);(case hq=>kernel_rfl)|apply dtg 20;(case hi|hg=>rfl);(case hop=>(apply prd;apply p_fieldAddr<;>rfl));(case hq=>kernel_rfl)|fail)
     all_goals (try (apply d_guardB 21;(case hi|hgd|h1|h2=>rfl);all_goals (intro h;(try simp only [reduceCtorEq,zzz] at h))))
     all_goals (first|apply dpa 21;(case hi|hg|hn=>rfl);(case hq=>kernel_rfl)|apply dtg 21;(case hi|hg=>rfl);(case hop=>((apply r_loadN;rfl;exact CellsAt.frozen hca5;rfl)));(case hq=>kernel_rfl)|fail)
     all_goals (try (apply d_guardB 22;(case hi|hgd|h1|h2=>rfl);all_goals (intro h;(try simp only [reduceCtorEq,zzz] at h))))
     all_goals (first|apply dpa 22;(case hi|hg|hn=>rfl);(case hq=>kernel_rfl)|apply dtg 22;(case hi|hg=>rfl);(case hop=>((apply prd;apply neAnI (x:=ax) (y:=x.ans);(case hx|hy=>rfl))));(case hq=>kernel_rfl)|fail)
     all_goals (apply dtk 23;(case hi=>rfl);(case hop=>first|apply prd;apply p_pickT<;>rfl|apply prd;apply p_pickF<;>rfl|fail);(case hq=>kernel_rfl))
     all_goals (apply d_done;(case hr=>kernel_rfl))
     all_goals first
      | exact hk5 _ _ _ ⟨rfl,rfl,_,fun h5=>(by cases h5),rfl,rfl,rfl,rfl,rfl,trivial⟩
      | exact hk5 _ _ _ ⟨rfl,rfl,_,fun h5=>⟨by assumption,by simpa [dec_eq] using h5⟩,rfl,rfl,rfl,rfl,rfl,trivial⟩
    rintro σ1 G7 _ ⟨hG7,rfl,bq,hbq,hσ⟩
    subst G7
    refine v_has hσ ?_
    clear hσ
    cases bq with
    | true =>
     repeat' (first|apply v_seq|apply v_region|apply v_nil|apply v_pure;(case hop=>(apply p_assign<;>rfl));(case hd=>rfl)|apply v_condT;(case hc=>rfl)|fail)
     exact v_ret [] (outsA1 rfl rfl) (by repeat (exact List.Sublist.refl _)) ⟨rfl,_,rfl,by omega⟩
    | false =>
     obtain ⟨h7,h8⟩:=hbq rfl
     repeat' (first|apply v_region|apply v_nil|apply v_skip|apply v_blk|apply v_pure;(case hop=>first|apply p_move<;>rfl|apply p_assign<;>rfl|apply p_add;(case hx|hy=>rfl);(case h=>omega)|fail);(case hd=>rfl)|apply v_condF;(case hc=>rfl)|fail)
     exact v_again rfl ⟨GH.le_trans hleB hle5,rfl,k+1,by omega,rfl,hnx fun _=>hgd h7 h8⟩ (by simp [headI];omega)
  ·repeat' (first|apply v_seq|apply v_region|apply v_nil|apply v_skip|apply v_block|apply v_exit;(case hp=>rfl)|apply v_pure;(case hop=>first|apply p_move<;>rfl|apply p_lt<;>rfl|apply p_le<;>rfl|apply p_assign<;>rfl|apply p_lenSlice<;>rfl|apply p_fieldAddr<;>rfl|apply p_add;(case hx|hy=>rfl);(case h=>omega)|apply p_indexAddrS;(case hx|hi=>rfl);(case h0|h=>omega);(case hA=>assumption)|fail);(case hd=>rfl)|apply v_cond;(case hc=>rfl);all_goals (intro h;(try simp only [reduceCtorEq,zzz] at h);try (exfalso;omega))|apply v_read;(case hop=>(apply r_load1;rfl;exact Cell.frozen (hck 8 _ rfl)));(case hd=>rfl)|fail)
   exact v_again rfl ⟨hleB,rfl,k+1,by omega,rfl,hnx fun h=>absurd h hx⟩ (by simp [headI];omega)
 ·obtain rfl:k=calls.length:=by omega
  have hgoodA:∀ c∈calls,0<c.e→goodC log c:=fun c hc=>by
   obtain ⟨i,hi,rfl⟩:=List.getElem_of_mem hc
   exact hgood i hi hi
  clear hgood hal ha hsomen
  repeat' (first|apply v_seq|apply v_region|apply v_nil|apply v_block|apply v_exit;(case hp=>rfl)|apply v_pure;(case hop=>first|apply p_move<;>rfl|apply p_lt<;>rfl|apply p_assign<;>rfl|apply p_lenSlice<;>rfl|fail);(case hd=>rfl)|apply v_cond;(case hc=>rfl);all_goals (intro h;(try simp only [reduceCtorEq,zzz] at h);try (exfalso;omega))|fail)
  refine v_loop [9,1,0] (fun us G' μ'=>GH.le G2 G'∧μ'=[]∧∃ i:Nat,i≤calls.length∧us=[Value.int .i64 (i:Nat),.slice CA calls.length cc,.slice LA log.length lc]∧∀ a (ha:a<calls.length) b (hb:b<calls.length),a<i→okP log calls[a] calls[b] a b) (fun us=>calls.length-(headI us).toNat) rfl ⟨hleB,rfl,0,by omega,rfl,by omega⟩ ?_
  rintro us G3 _ ⟨hle3,rfl,i,hi,rfl,hord⟩
  by_cases hlt:i<calls.length
  ·have e1:((i:Nat):Int).toNat=i:=by omega
   have hA:=hsomec (by omega)
   repeat' (first|apply v_seq|apply v_region|apply v_nil|apply v_skip|apply v_block|apply v_pure;(case hop=>first|apply p_move<;>rfl|apply p_lt<;>rfl|apply p_assign<;>rfl|apply p_lenSlice<;>rfl|fail);(case hd=>rfl)|apply v_cond;(case hc=>rfl);all_goals (intro h;(try simp only [reduceCtorEq,zzz] at h);try (exfalso;omega))|fail)
   refine v_loop [10,9,1,0] (fun us G' μ'=>GH.le G2 G'∧μ'=[]∧∃ j:Nat,j≤calls.length∧us=[Value.int .i64 (j:Nat),.int .i64 (i:Nat),.slice CA calls.length cc,.slice LA log.length lc]∧∀ b (hb:b<calls.length),b<j→okP log calls[i] calls[b] i b) (fun us=>calls.length-(headI us).toNat) rfl ⟨hle3,rfl,0,by omega,rfl,by omega⟩ ?_
   rintro us G4 _ ⟨hle4,rfl,j,hj,rfl,hordj⟩
   by_cases hlj:j<calls.length
   ·have e2:((j:Nat):Int).toNat=j:=by omega
    have hleG:=GH.le_trans hleA hle4
    have hci:=(rowOpen' (hs.mono hleG)).2.2.2.2.2.2 i hlt
    have hcj:=(rowOpen' (hs.mono hleG)).2.2.2.2.2.2 j hlj
    have hmi:=clCmdAt hci
    have hmj:=clCmdAt hcj
    have hnx:okP log calls[i] calls[j] i j→∀ b (hb:b<calls.length),b<j+1→okP log calls[i] calls[b] i b:=fun h1 b hb hbj=>by
     by_cases hb2:b<j
     ·exact hordj b hb hb2
     ·obtain rfl:b=j:=by omega
      exact h1
    have qi:=refPlace29_s ((calls[i]).cmd.client,(calls[i]).cmd.seq) (hl.mono hleG) hlw
    have qj:=fun G (h:GH.le G4 G)=>refPlace29_s (G:=G) ((calls[j]).cmd.client,(calls[j]).cmd.seq) (hl.mono (GH.le_trans hleG h)) hlw
    generalize hx:calls[i]=x at *
    generalize hy:calls[j]=y at *
    repeat' (first|apply v_seq|apply v_region|apply v_nil|apply v_skip|apply v_block|apply v_pure;(case hop=>first|apply p_move<;>rfl|apply p_lt<;>rfl|apply p_lenSlice<;>rfl|fail);(case hd=>rfl)|apply v_cond;(case hc=>rfl);all_goals (intro h;(try simp only [reduceCtorEq,zzz] at h);try (exfalso;omega))|fail)
    refine v_cut (fun σ1 G' μ'=>G'=G4∧μ'=[]∧∃ bq,(bq=true→¬ (i≠j∧0<x.e∧0<y.e∧x.e<y.b))∧EnvHas σ1 [(114,.bool bq),(10,.int .i64 (j:Nat)),(9,.int .i64 (i:Nat)),(1,.slice CA calls.length cc),(0,.slice LA log.length lc)]) ?_ ?_
    ·intro hk5
     refine d_start [] (by kernel_rfl) (by kernel_rfl) (by kernel_rfl) (by intro e he;exact he) ?_
     all_goals (apply dtm 0;(case hi|hx=>rfl);(case hq=>kernel_rfl);apply dtm 1;(case hi|hx=>rfl);(case hq=>kernel_rfl))
     all_goals (apply dtk 2;(case hi=>rfl);(case hop=>(apply prd;apply p_eq<;>rfl));(case hq=>kernel_rfl);apply dtm 3;(case hi|hx=>rfl);(case hq=>kernel_rfl))
     all_goals (try (apply d_guardB 4;(case hi|hgd|h1|h2=>rfl);all_goals (intro h;(try simp only [reduceCtorEq,zzz] at h))))
     all_goals (first|apply dpa 4;(case hi|hg|hn=>rfl);(case hq=>kernel_rfl)|apply dtg 4;(case hi|hg=>rfl);(case hop=>(apply prd;apply p_move<;>rfl));(case hq=>kernel_rfl)|fail)
     all_goals (try (apply d_guardB 5;(case hi|hgd|h1|h2=>rfl);all_goals (intro h;(try simp only [reduceCtorEq,zzz] at h))))
     all_goals (first|apply dpa 5;(case hi|hg|hn=>rfl);(case hq=>kernel_rfl)|apply dtg 5;(case hi|hg=>rfl);(case hop=>(apply prd;apply p_move<;>rfl));(case hq=>kernel_rfl)|fail)
     all_goals (try (apply d_guardB 6;(case hi|hgd|h1|h2=>rfl);all_goals (intro h;(try simp only [reduceCtorEq,zzz] at h))))
     all_goals (first|apply dpa 6;(case hi|hg|hn=>rfl);(case hq=>kernel_rfl)|apply dtg 6;(case hi|hg=>rfl);(case hop=>(apply prd;apply p_indexAddrS;(case hx|hi=>rfl);(case h0|h=>omega);(case hA=>assumption)));(case hq=>kernel_rfl)|fail)
     all_goals (try (apply d_guardB 7;(case hi|hgd|h1|h2=>rfl);all_goals (intro h;(try simp only [reduceCtorEq,zzz] at h))))
     all_goals (first|apply dpa 7;(case hi|hg|hn=>rfl);(case hq=>kernel_rfl)|apply dtg 7;(case hi|hg=>rfl);(case hop=>(apply prd;apply p_fieldAddr<;>rfl));(case hq=>kernel_rfl)|fail)
     all_goals (try (apply d_guardB 8;(case hi|hgd|h1|h2=>rfl);all_goals (intro h;(try simp only [reduceCtorEq,zzz] at h))))
     all_goals (first|apply dpa 8;(case hi|hg|hn=>rfl);(case hq=>kernel_rfl)|apply dtg 8;(case hi|hg=>rfl);(case hop=>((apply r_load1;rfl;exact Cell.frozen (hci 8 _ rfl))));(case hq=>kernel_rfl)|fail)
     all_goals (try (apply d_guardB 9;(case hi|hgd|h1|h2=>rfl);all_goals (intro h;(try simp only [reduceCtorEq,zzz] at h))))
     all_goals (first|apply dpa 9;(case hi|hg|hn=>rfl);(case hq=>kernel_rfl)|apply dtg 9;(case hi|hg=>rfl);(case hop=>(apply prd;apply p_le<;>rfl));(case hq=>kernel_rfl)|fail)
     all_goals (apply dtk 10;(case hi=>rfl);(case hop=>first|apply prd;apply p_pickT<;>rfl|apply prd;apply p_pickF<;>rfl|fail);(case hq=>kernel_rfl);apply dtm 11;(case hi|hx=>rfl);(case hq=>kernel_rfl))
     all_goals (try (apply d_guardB 12;(case hi|hgd|h1|h2=>rfl);all_goals (intro h;(try simp only [reduceCtorEq,zzz] at h))))
     all_goals (first|apply dpa 12;(case hi|hg|hn=>rfl);(case hq=>kernel_rfl)|apply dtg 12;(case hi|hg=>rfl);(case hop=>(apply prd;apply p_move<;>rfl));(case hq=>kernel_rfl)|fail)
     all_goals (try (apply d_guardB 13;(case hi|hgd|h1|h2=>rfl);all_goals (intro h;(try simp only [reduceCtorEq,zzz] at h))))
     all_goals (first|apply dpa 13;(case hi|hg|hn=>rfl);(case hq=>kernel_rfl)|apply dtg 13;(case hi|hg=>rfl);(case hop=>(apply prd;apply p_move<;>rfl));(case hq=>kernel_rfl)|fail)
     all_goals (try (apply d_guardB 14;(case hi|hgd|h1|h2=>rfl);all_goals (intro h;(try simp only [reduceCtorEq,zzz] at h))))
     all_goals (first|apply dpa 14;(case hi|hg|hn=>rfl);(case hq=>kernel_rfl)|apply dtg 14;(case hi|hg=>rfl);(case hop=>(apply prd;apply p_indexAddrS;(case hx|hi=>rfl);(case h0|h=>omega);(case hA=>assumption)));(case hq=>kernel_rfl)|fail)
     all_goals (try (apply d_guardB 15;(case hi|hgd|h1|h2=>rfl);all_goals (intro h;(try simp only [reduceCtorEq,zzz] at h))))
     all_goals (first|apply dpa 15;(case hi|hg|hn=>rfl);(case hq=>kernel_rfl)|apply dtg 15;(case hi|hg=>rfl);(case hop=>(apply prd;apply p_fieldAddr<;>rfl));(case hq=>kernel_rfl)|fail)
     all_goals (try (apply d_guardB 16;(case hi|hgd|h1|h2=>rfl);all_goals (intro h;(try simp only [reduceCtorEq,zzz] at h))))
     all_goals (first|apply dpa 16;(case hi|hg|hn=>rfl);(case hq=>kernel_rfl)|apply dtg 16;(case hi|hg=>rfl);(case hop=>((apply r_load1;rfl;exact Cell.frozen (hcj 8 _ rfl))));(case hq=>kernel_rfl)|fail)
     all_goals (try (apply d_guardB 17;(case hi|hgd|h1|h2=>rfl);all_goals (intro h;(try simp only [reduceCtorEq,zzz] at h))))
     all_goals (first|apply dpa 17;(case hi|hg|hn=>rfl);(case hq=>kernel_rfl)|apply dtg 17;(case hi|hg=>rfl);(case hop=>(apply prd;apply p_le<;>rfl));(case hq=>kernel_rfl)|fail)
     all_goals (apply dtk 18;(case hi=>rfl);(case hop=>first|apply prd;apply p_pickT<;>rfl|apply prd;apply p_pickF<;>rfl|fail);(case hq=>kernel_rfl);apply dtm 19;(case hi|hx=>rfl);(case hq=>kernel_rfl))
     all_goals (try (apply d_guardB 20;(case hi|hgd|h1|h2=>rfl);all_goals (intro h;(try simp only [reduceCtorEq,zzz] at h))))
     all_goals (first|apply dpa 20;(case hi|hg|hn=>rfl);(case hq=>kernel_rfl)|apply dtg 20;(case hi|hg=>rfl);(case hop=>(apply prd;apply p_move<;>rfl));(case hq=>kernel_rfl)|fail)
     all_goals (try (apply d_guardB 21;(case hi|hgd|h1|h2=>rfl);all_goals (intro h;(try simp only [reduceCtorEq,zzz] at h))))
     all_goals (first|apply dpa 21;(case hi|hg|hn=>rfl);(case hq=>kernel_rfl)|apply dtg 21;(case hi|hg=>rfl);(case hop=>(apply prd;apply p_move<;>rfl));(case hq=>kernel_rfl)|fail)
     all_goals (try (apply d_guardB 22;(case hi|hgd|h1|h2=>rfl);all_goals (intro h;(try simp only [reduceCtorEq,zzz] at h))))
     all_goals (first|apply dpa 22;(case hi|hg|hn=>rfl);(case hq=>kernel_rfl)|apply dtg 22;(case hi|hg=>rfl);(case hop=>(apply prd;apply p_indexAddrS;(case hx|hi=>rfl);(case h0|h=>omega);(case hA=>assumption)));(case hq=>kernel_rfl)|fail)
     all_goals (try (apply d_guardB 23;(case hi|hgd|h1|h2=>rfl);all_goals (intro h;(try simp only [reduceCtorEq,zzz] at h))))
     all_goals (first|apply dpa 23;(case hi|hg|hn=>rfl);(case hq=>kernel_rfl)|apply dtg 23;(case hi|hg=>rfl);(case hop=>(apply prd;apply p_fieldAddr<;>rfl));(case hq=>kernel_rfl)|fail)
     all_goals (try (apply d_guardB 24;(case hi|hgd|h1|h2=>rfl);all_goals (intro h;(try simp only [reduceCtorEq,zzz] at h))))
     all_goals (first|apply dpa 24;(case hi|hg|hn=>rfl);(case hq=>kernel_rfl)|apply dtg 24;(case hi|hg=>rfl);(case hop=>((apply r_load1;rfl;exact Cell.frozen (hci 8 _ rfl))));(case hq=>kernel_rfl)|fail)
     all_goals (try (apply d_guardB 25;(case hi|hgd|h1|h2=>rfl);all_goals (intro h;(try simp only [reduceCtorEq,zzz] at h))))
     all_goals (first|apply dpa 25;(case hi|hg|hn=>rfl);(case hq=>kernel_rfl)|apply dtg 25;(case hi|hg=>rfl);(case hop=>(apply prd;apply p_move<;>rfl));(case hq=>kernel_rfl)|fail)
     all_goals (try (apply d_guardB 26;(case hi|hgd|h1|h2=>rfl);all_goals (intro h;(try simp only [reduceCtorEq,zzz] at h))))
     all_goals (first|apply dpa 26;(case hi|hg|hn=>rfl);(case hq=>kernel_rfl)|apply dtg 26;(case hi|hg=>rfl);(case hop=>(apply prd;apply p_move<;>rfl));(case hq=>kernel_rfl)|fail)
     all_goals (try (apply d_guardB 27;(case hi|hgd|h1|h2=>rfl);all_goals (intro h;(try simp only [reduceCtorEq,zzz] at h))))
     all_goals (first|apply dpa 27;(case hi|hg|hn=>rfl);(case hq=>kernel_rfl)|apply dtg 27;(case hi|hg=>rfl);(case hop=>(apply prd;apply p_indexAddrS;(case hx|hi=>rfl);(case h0|h=>omega);(case hA=>assumption)));(case hq=>kernel_rfl)|fail)
     all_goals (try (apply d_guardB 28;(case hi|hgd|h1|h2=>rfl);all_goals (intro h;(try simp only [reduceCtorEq,zzz] at h))))
     all_goals (first|apply dpa 28;(case hi|hg|hn=>rfl);(case hq=>kernel_rfl)|apply dtg 28;(case hi|hg=>rfl);(case hop=>(apply prd;apply p_fieldAddr<;>rfl));(case hq=>kernel_rfl)|fail)
     all_goals (try (apply d_guardB 29;(case hi|hgd|h1|h2=>rfl);all_goals (intro h;(try simp only [reduceCtorEq,zzz] at h))))
     all_goals (first|apply dpa 29;(case hi|hg|hn=>rfl);(case hq=>kernel_rfl)|apply dtg 29;(case hi|hg=>rfl);(case hop=>((apply r_load1;rfl;exact Cell.frozen (hcj 7 _ rfl))));(case hq=>kernel_rfl)|fail)
     all_goals (try (apply d_guardB 30;(case hi|hgd|h1|h2=>rfl);all_goals (intro h;(try simp only [reduceCtorEq,zzz] at h))))
     all_goals (first|apply dpa 30;(case hi|hg|hn=>rfl);(case hq=>kernel_rfl)|apply dtg 30;(case hi|hg=>rfl);(case hop=>(apply prd;apply p_ge<;>rfl));(case hq=>kernel_rfl)|fail)
     all_goals (apply dtk 31;(case hi=>rfl);(case hop=>first|apply prd;apply p_pickT<;>rfl|apply prd;apply p_pickF<;>rfl|fail);(case hq=>kernel_rfl))
     all_goals (apply d_done;(case hr=>kernel_rfl))
     all_goals first
      | exact hk5 _ _ _ ⟨rfl,rfl,_,fun h5=>(by first|omega|(simp only [dec_eq,decide_eq_true_eq] at h5;omega)),rfl,rfl,rfl,rfl,rfl,trivial⟩
    rintro σ1 G7 _ ⟨hG7,rfl,bq,hbq,hσ⟩
    subst G7
    refine v_has hσ ?_
    clear hσ
    cases bq with
    | true =>
     repeat' (first|apply v_region|apply v_nil|apply v_exit;(case hp=>rfl)|apply v_pure;(case hop=>first|apply p_move<;>rfl|apply p_assign<;>rfl|apply p_add;(case hx|hy=>rfl);(case h=>omega)|fail);(case hd=>rfl)|apply v_condT;(case hc=>rfl)|fail)
     exact v_again rfl ⟨hle4,rfl,j+1,by omega,rfl,hnx fun h1 h2 h3 h4=>absurd ⟨h1,h2,h3,h4⟩ (hbq rfl)⟩ (by simp [headI];omega)
    | false =>
     repeat' (first|apply v_seq|apply v_skip|apply v_condF;(case hc=>rfl)|fail)
     refine v_cut (fun σ1 G' μ'=>GH.le G4 G'∧μ'=[]∧EnvHas σ1 [(143,.bool (dec ((pl log (y.cmd.client,y.cmd.seq):Int)≤(pl log (x.cmd.client,x.cmd.seq):Int)))),(10,.int .i64 (j:Nat)),(9,.int .i64 (i:Nat)),(1,.slice CA calls.length cc),(0,.slice LA log.length lc)]) ?_ ?_
     ·intro hk5
      refine d_start [] (by kernel_rfl) (by kernel_rfl) (by kernel_rfl) (by intro e he;exact he) ?_
      all_goals (apply dtm 0;(case hi|hx=>rfl);(case hq=>kernel_rfl);apply dtm 1;(case hi|hx=>rfl);(case hq=>kernel_rfl))
      all_goals (apply dtm 2;(case hi|hx=>rfl);(case hq=>kernel_rfl);apply dtk 3;(case hi=>rfl);(case hop=>(apply prd;apply p_indexAddrS;(case hx|hi=>rfl);(case h0|h=>omega);(case hA=>assumption)));(case hq=>kernel_rfl))
      all_goals (apply dtk 4;(case hi=>rfl);(case hop=>(apply prd;apply p_fieldAddr<;>rfl));(case hq=>kernel_rfl);apply dtk 5;(case hi=>rfl);(case hop=>(apply prd;apply p_fieldAddr<;>rfl));(case hq=>kernel_rfl))
      all_goals (apply dtk 6;(case hi=>rfl);(case hop=>((apply r_load1;rfl;exact Cell.frozen (hmi 1 _ rfl))));(case hq=>kernel_rfl);apply dtm 7;(case hi|hx=>rfl);(case hq=>kernel_rfl))
      all_goals (apply dtm 8;(case hi|hx=>rfl);(case hq=>kernel_rfl);apply dtk 9;(case hi=>rfl);(case hop=>(apply prd;apply p_indexAddrS;(case hx|hi=>rfl);(case h0|h=>omega);(case hA=>assumption)));(case hq=>kernel_rfl))
      all_goals (apply dtk 10;(case hi=>rfl);(case hop=>(apply prd;apply p_fieldAddr<;>rfl));(case hq=>kernel_rfl);apply dtk 11;(case hi=>rfl);(case hop=>(apply prd;apply p_fieldAddr<;>rfl));(case hq=>kernel_rfl))
      all_goals (apply dtk 12;(case hi=>rfl);(case hop=>((apply r_load1;rfl;exact Cell.frozen (hmi 2 _ rfl))));(case hq=>kernel_rfl);apply dtm 14;(case hi|hx=>rfl);(case hq=>kernel_rfl))
      all_goals (apply dtm 15;(case hi|hx=>rfl);(case hq=>kernel_rfl);apply dtm 16;(case hi|hx=>rfl);(case hq=>kernel_rfl))
      all_goals (apply dtk 17;(case hi=>rfl);(case hop=>(apply prd;apply p_indexAddrS;(case hx|hi=>rfl);(case h0|h=>omega);(case hA=>assumption)));(case hq=>kernel_rfl);apply dtk 18;(case hi=>rfl);(case hop=>(apply prd;apply p_fieldAddr<;>rfl));(case hq=>kernel_rfl))
      all_goals (apply dtk 19;(case hi=>rfl);(case hop=>(apply prd;apply p_fieldAddr<;>rfl));(case hq=>kernel_rfl);apply dtk 20;(case hi=>rfl);(case hop=>((apply r_load1;rfl;exact Cell.frozen (hmj 1 _ rfl))));(case hq=>kernel_rfl))
      all_goals (apply dtm 21;(case hi|hx=>rfl);(case hq=>kernel_rfl);apply dtm 22;(case hi|hx=>rfl);(case hq=>kernel_rfl))
      all_goals (apply dtk 23;(case hi=>rfl);(case hop=>(apply prd;apply p_indexAddrS;(case hx|hi=>rfl);(case h0|h=>omega);(case hA=>assumption)));(case hq=>kernel_rfl);apply dtk 24;(case hi=>rfl);(case hop=>(apply prd;apply p_fieldAddr<;>rfl));(case hq=>kernel_rfl))
      all_goals (apply dtk 25;(case hi=>rfl);(case hop=>(apply prd;apply p_fieldAddr<;>rfl));(case hq=>kernel_rfl);apply dtk 26;(case hi=>rfl);(case hop=>((apply r_load1;rfl;exact Cell.frozen (hmj 2 _ rfl))));(case hq=>kernel_rfl))
      all_goals ((apply d_call 13 (hs:=qi) (μ1:=[]) (μ2:=[]);(case hi=>rfl);(case hr=>kernel_rfl);(case ha=>rfl);(case hp=>exact List.Perm.refl _);(case hd=>rfl);(case hν'=>intro e he;cases he);rintro _ G5 _ hle5 ⟨rfl,rfl⟩))
      all_goals ((apply d_call 27 (hs:=qj G5 hle5) (μ1:=[]) (μ2:=[]);(case hi=>rfl);(case hr=>kernel_rfl);(case ha=>rfl);(case hp=>exact List.Perm.refl _);(case hd=>rfl);(case hν'=>intro e he;cases he);rintro _ G6 _ hle6 ⟨rfl,rfl⟩))
      all_goals (apply dtk 28;(case hi=>rfl);(case hop=>(apply prd;apply p_ge<;>rfl));(case hq=>kernel_rfl))
      all_goals (apply d_done;(case hr=>kernel_rfl))
      all_goals first
       | exact hk5 _ _ _ ⟨GH.le_trans hle5 hle6,rfl,rfl,rfl,rfl,rfl,rfl,trivial⟩
     rintro σ1 G7 _ ⟨hle7,rfl,hσ⟩
     refine v_has hσ ?_
     clear hσ
     by_cases hp:(pl log (y.cmd.client,y.cmd.seq):Int)≤(pl log (x.cmd.client,x.cmd.seq):Int)
     ·rw [dec_pos hp]
      repeat' (first|apply v_seq|apply v_region|apply v_nil|apply v_pure;(case hop=>(apply p_assign<;>rfl));(case hd=>rfl)|apply v_condT;(case hc=>rfl)|fail)
      exact v_ret [] (outsA1 rfl rfl) (by repeat (exact List.Sublist.refl _)) ⟨rfl,_,rfl,by omega⟩
     ·rw [dec_neg hp]
      repeat' (first|apply v_region|apply v_nil|apply v_skip|apply v_blk|apply v_pure;(case hop=>first|apply p_move<;>rfl|apply p_assign<;>rfl|apply p_add;(case hx|hy=>rfl);(case h=>omega)|fail);(case hd=>rfl)|apply v_condF;(case hc=>rfl)|fail)
      exact v_again rfl ⟨GH.le_trans hle4 hle7,rfl,j+1,by omega,rfl,hnx fun _ _ _ h4 h5=>hp (by unfold lateP plc at h5;omega)⟩ (by simp [headI];omega)
   ·obtain rfl:j=calls.length:=by omega
    repeat' (first|apply v_seq|apply v_region|apply v_nil|apply v_blk|apply v_exit;(case hp=>rfl)|apply v_pure;(case hop=>first|apply p_move<;>rfl|apply p_lt<;>rfl|apply p_assign<;>rfl|apply p_lenSlice<;>rfl|apply p_add;(case hx|hy=>rfl);(case h=>omega)|fail);(case hd=>rfl)|apply v_cond;(case hc=>rfl);all_goals (intro h;(try simp only [reduceCtorEq,zzz] at h);try (exfalso;omega))|fail)
    refine v_again rfl ⟨hle4,rfl,i+1,by omega,rfl,fun a ha b hb hai=>?_⟩ (by simp [headI];omega)
    by_cases ha2:a<i
    ·exact hord a ha b hb ha2
    ·obtain rfl:a=i:=by omega
     exact hordj b hb hb
  ·obtain rfl:i=calls.length:=by omega
   have hordA:ordL log (ansF calls):=ord_of fun a ha b hb=>hord a ha b hb ha
   clear hord
   repeat' (first|apply v_seq|apply v_region|apply v_nil|apply v_block|apply v_exit;(case hp=>rfl)|apply v_pure;(case hop=>first|apply p_move<;>rfl|apply p_lt<;>rfl|apply p_assign<;>rfl|apply p_lenSlice<;>rfl|fail);(case hd=>rfl)|apply v_cond;(case hc=>rfl);all_goals (intro h;(try simp only [reduceCtorEq,zzz] at h);try (exfalso;omega))|fail)
   refine v_loop [11,1,0] (fun us G' μ'=>GH.le G2 G'∧μ'=[]∧∃ i:Nat,i≤log.length∧us=[Value.int .i64 (i:Nat),.slice CA calls.length cc,.slice LA log.length lc]∧∀ a (h:cnt log a),a<i→∃ c∈calls,c.cmd=log[a]'h.1) (fun us=>log.length-(headI us).toNat) rfl ⟨hle3,rfl,0,by omega,rfl,by omega⟩ ?_
   rintro us G4 _ ⟨hle4,rfl,i,hi,rfl,hinv⟩
   by_cases hlt:i<log.length
   ·have e1:((i:Nat):Int).toNat=i:=by omega
    have hA:=hsome (by omega)
    have hleG:=GH.le_trans hleA hle4
    have hmi:=(rowOpen' (hl.mono hleG)).2.2.2.2.2.2 i hlt
    have hnx:(cnt log i→∃ c∈calls,c.cmd=log[i])→∀ a (h:cnt log a),a<i+1→∃ c∈calls,c.cmd=log[a]'h.1:=fun h1 a ha hai=>by
     by_cases ha2:a<i
     ·exact hinv a ha ha2
     ·obtain rfl:a=i:=by omega
      exact h1 ha
    have qi:=refPlace29_s ((log[i]).client,(log[i]).seq) (hl.mono hleG) hlw
    have qo:=owned_s G4 (log[i]).kind
    have hcnt:cnt log i→(2≤(log[i]).kind∧(log[i]).kind≤5)∧pl log ((log[i]).client,(log[i]).seq)=i+1:=fun h=>⟨h.2.2.1,pl_at h⟩
    generalize hx:log[i]=x at *
    repeat' (first|apply v_seq|apply v_region|apply v_nil|apply v_skip|apply v_block|apply v_pure;(case hop=>first|apply p_move<;>rfl|apply p_lt<;>rfl|apply p_lenSlice<;>rfl|fail);(case hd=>rfl)|apply v_cond;(case hc=>rfl);all_goals (intro h;(try simp only [reduceCtorEq,zzz] at h);try (exfalso;omega))|fail)
    refine v_cut (fun σ1 G' μ'=>GH.le G4 G'∧μ'=[]∧∃ bq,(bq=true→¬ cnt log i)∧EnvHas σ1 [(173,.bool bq),(11,.int .i64 (i:Nat)),(1,.slice CA calls.length cc),(0,.slice LA log.length lc)]) ?_ ?_
    ·intro hk5
     by_cases ho:2≤x.kind∧x.kind≤5
     ·rw [decide_eq_true ho] at qo
      refine d_start [] (by kernel_rfl) (by kernel_rfl) (by kernel_rfl) (by intro e he;exact he) ?_
      all_goals (apply dtm 0;(case hi|hx=>rfl);(case hq=>kernel_rfl);apply dtm 1;(case hi|hx=>rfl);(case hq=>kernel_rfl))
      all_goals (apply dtk 2;(case hi=>rfl);(case hop=>(apply prd;apply p_indexAddrS;(case hx|hi=>rfl);(case h0|h=>omega);(case hA=>assumption)));(case hq=>kernel_rfl);apply dtk 3;(case hi=>rfl);(case hop=>(apply prd;apply p_fieldAddr<;>rfl));(case hq=>kernel_rfl))
      all_goals (apply dtk 4;(case hi=>rfl);(case hop=>((apply r_load1;rfl;exact Cell.frozen (hmi 0 _ rfl))));(case hq=>kernel_rfl))
      all_goals (apply d_callJ 5 (hs:=qo);(case hi=>rfl);(case hr=>kernel_rfl);(case ha|hd=>rfl))
      all_goals (apply dtk 6;(case hi=>rfl);(case hop=>(apply prd;apply p_not<;>rfl));(case hq=>kernel_rfl);apply dtm 7;(case hi|hx=>rfl);(case hq=>kernel_rfl))
      all_goals (try (apply d_guardB 8;(case hi|hgd|h1|h2=>rfl);all_goals (intro h;(try simp only [reduceCtorEq,zzz] at h))))
      all_goals (apply dtg 8;(case hi|hg=>rfl);(case hop=>(apply prd;apply p_move<;>rfl));(case hq=>kernel_rfl))
      all_goals (try (apply d_guardB 9;(case hi|hgd|h1|h2=>rfl);all_goals (intro h;(try simp only [reduceCtorEq,zzz] at h))))
      all_goals (apply dtg 9;(case hi|hg=>rfl);(case hop=>(apply prd;apply p_move<;>rfl));(case hq=>kernel_rfl))
      all_goals (try (apply d_guardB 10;(case hi|hgd|h1|h2=>rfl);all_goals (intro h;(try simp only [reduceCtorEq,zzz] at h))))
      all_goals (apply dtg 10;(case hi|hg=>rfl);(case hop=>(apply prd;apply p_move<;>rfl));(case hq=>kernel_rfl))
      all_goals (try (apply d_guardB 11;(case hi|hgd|h1|h2=>rfl);all_goals (intro h;(try simp only [reduceCtorEq,zzz] at h))))
      all_goals (apply dtg 11;(case hi|hg=>rfl);(case hop=>(apply prd;apply p_indexAddrS;(case hx|hi=>rfl);(case h0|h=>omega);(case hA=>assumption)));(case hq=>kernel_rfl))
      all_goals (try (apply d_guardB 12;(case hi|hgd|h1|h2=>rfl);all_goals (intro h;(try simp only [reduceCtorEq,zzz] at h))))
      all_goals (apply dtg 12;(case hi|hg=>rfl);(case hop=>(apply prd;apply p_fieldAddr<;>rfl));(case hq=>kernel_rfl))
      all_goals (try (apply d_guardB 13;(case hi|hgd|h1|h2=>rfl);all_goals (intro h;(try simp only [reduceCtorEq,zzz] at h))))
      all_goals (apply dtg 13;(case hi|hg=>rfl);(case hop=>((apply r_load1;rfl;exact Cell.frozen (hmi 1 _ rfl))));(case hq=>kernel_rfl))
      all_goals (try (apply d_guardB 14;(case hi|hgd|h1|h2=>rfl);all_goals (intro h;(try simp only [reduceCtorEq,zzz] at h))))
      all_goals (apply dtg 14;(case hi|hg=>rfl);(case hop=>(apply prd;apply p_move<;>rfl));(case hq=>kernel_rfl))
      all_goals (try (apply d_guardB 15;(case hi|hgd|h1|h2=>rfl);all_goals (intro h;(try simp only [reduceCtorEq,zzz] at h))))
      all_goals (apply dtg 15;(case hi|hg=>rfl);(case hop=>(apply prd;apply p_move<;>rfl));(case hq=>kernel_rfl))
      all_goals (try (apply d_guardB 16;(case hi|hgd|h1|h2=>rfl);all_goals (intro h;(try simp only [reduceCtorEq,zzz] at h))))
      all_goals (apply dtg 16;(case hi|hg=>rfl);(case hop=>(apply prd;apply p_indexAddrS;(case hx|hi=>rfl);(case h0|h=>omega);(case hA=>assumption)));(case hq=>kernel_rfl))
      all_goals (try (apply d_guardB 17;(case hi|hgd|h1|h2=>rfl);all_goals (intro h;(try simp only [reduceCtorEq,zzz] at h))))
      all_goals (apply dtg 17;(case hi|hg=>rfl);(case hop=>(apply prd;apply p_fieldAddr<;>rfl));(case hq=>kernel_rfl))
      all_goals (try (apply d_guardB 18;(case hi|hgd|h1|h2=>rfl);all_goals (intro h;(try simp only [reduceCtorEq,zzz] at h))))
      all_goals (apply dtg 18;(case hi|hg=>rfl);(case hop=>((apply r_load1;rfl;exact Cell.frozen (hmi 2 _ rfl))));(case hq=>kernel_rfl))
      all_goals (try (apply d_guardB 20;(case hi|hgd|h1|h2=>rfl);all_goals (intro h;(try simp only [reduceCtorEq,zzz] at h))))
      all_goals (apply dtg 20;(case hi|hg=>rfl);(case hop=>(apply prd;apply p_move<;>rfl));(case hq=>kernel_rfl))
      all_goals (try (apply d_guardB 21;(case hi|hgd|h1|h2=>rfl);all_goals (intro h;(try simp only [reduceCtorEq,zzz] at h))))
      all_goals (apply dtg 21;(case hi|hg=>rfl);(case hop=>(apply prd;apply p_add;(case hx|hy=>rfl);(case h=>omega)));(case hq=>kernel_rfl))
      all_goals (try (apply d_guardB 19;(case hi|hgd|h1|h2=>rfl);all_goals (intro h;(try simp only [reduceCtorEq,zzz] at h))))
      all_goals ((apply d_callG 19 (hs:=qi) (μ1:=[]) (μ2:=[]);(case hi|hg=>rfl);(case hr=>kernel_rfl);(case ha=>rfl);(case hp=>exact List.Perm.refl _);(case hd=>rfl);(case hν'=>intro e he;cases he);rintro _ G5 _ hle5 ⟨rfl,rfl⟩))
      all_goals (try (apply d_guardB 22;(case hi|hgd|h1|h2=>rfl);all_goals (intro h;(try simp only [reduceCtorEq,zzz] at h))))
      all_goals (apply dtg 22;(case hi|hg=>rfl);(case hop=>(apply prd;apply p_ne<;>rfl));(case hq=>kernel_rfl);apply dtk 23;(case hi=>rfl);(case hop=>(apply prd;apply p_pickF<;>rfl));(case hq=>kernel_rfl))
      all_goals (apply d_done;(case hr=>kernel_rfl))
      all_goals first
       | exact hk5 _ _ _ ⟨hle5,rfl,_,fun h5 h6=>(by simp [dec_eq,(hcnt h6).2] at h5),rfl,rfl,rfl,rfl,trivial⟩
     ·rw [decide_eq_false ho] at qo
      refine d_start [] (by kernel_rfl) (by kernel_rfl) (by kernel_rfl) (by intro e he;exact he) ?_
      all_goals (apply dtm 0;(case hi|hx=>rfl);(case hq=>kernel_rfl);apply dtm 1;(case hi|hx=>rfl);(case hq=>kernel_rfl))
      all_goals (apply dtk 2;(case hi=>rfl);(case hop=>(apply prd;apply p_indexAddrS;(case hx|hi=>rfl);(case h0|h=>omega);(case hA=>assumption)));(case hq=>kernel_rfl);apply dtk 3;(case hi=>rfl);(case hop=>(apply prd;apply p_fieldAddr<;>rfl));(case hq=>kernel_rfl))
      all_goals (apply dtk 4;(case hi=>rfl);(case hop=>((apply r_load1;rfl;exact Cell.frozen (hmi 0 _ rfl))));(case hq=>kernel_rfl))
      all_goals (apply d_callJ 5 (hs:=qo);(case hi=>rfl);(case hr=>kernel_rfl);(case ha|hd=>rfl))
      all_goals (apply dtk 6;(case hi=>rfl);(case hop=>(apply prd;apply p_not<;>rfl));(case hq=>kernel_rfl);apply dtm 7;(case hi|hx=>rfl);(case hq=>kernel_rfl))
      all_goals (try (apply d_guardB 8;(case hi|hgd|h1|h2=>rfl);all_goals (intro h;(try simp only [reduceCtorEq,zzz] at h))))
      all_goals (apply dpa 8;(case hi|hg|hn=>rfl);(case hq=>kernel_rfl))
      all_goals (try (apply d_guardB 9;(case hi|hgd|h1|h2=>rfl);all_goals (intro h;(try simp only [reduceCtorEq,zzz] at h))))
      all_goals (apply dpa 9;(case hi|hg|hn=>rfl);(case hq=>kernel_rfl))
      all_goals (try (apply d_guardB 10;(case hi|hgd|h1|h2=>rfl);all_goals (intro h;(try simp only [reduceCtorEq,zzz] at h))))
      all_goals (apply dpa 10;(case hi|hg|hn=>rfl);(case hq=>kernel_rfl))
      all_goals (try (apply d_guardB 11;(case hi|hgd|h1|h2=>rfl);all_goals (intro h;(try simp only [reduceCtorEq,zzz] at h))))
      all_goals (apply dpa 11;(case hi|hg|hn=>rfl);(case hq=>kernel_rfl))
      all_goals (try (apply d_guardB 12;(case hi|hgd|h1|h2=>rfl);all_goals (intro h;(try simp only [reduceCtorEq,zzz] at h))))
      all_goals (apply dpa 12;(case hi|hg|hn=>rfl);(case hq=>kernel_rfl))
      all_goals (try (apply d_guardB 13;(case hi|hgd|h1|h2=>rfl);all_goals (intro h;(try simp only [reduceCtorEq,zzz] at h))))
      all_goals (apply dpa 13;(case hi|hg|hn=>rfl);(case hq=>kernel_rfl))
      all_goals (try (apply d_guardB 14;(case hi|hgd|h1|h2=>rfl);all_goals (intro h;(try simp only [reduceCtorEq,zzz] at h))))
      all_goals (apply dpa 14;(case hi|hg|hn=>rfl);(case hq=>kernel_rfl))
      all_goals (try (apply d_guardB 15;(case hi|hgd|h1|h2=>rfl);all_goals (intro h;(try simp only [reduceCtorEq,zzz] at h))))
      all_goals (apply dpa 15;(case hi|hg|hn=>rfl);(case hq=>kernel_rfl))
      all_goals (try (apply d_guardB 16;(case hi|hgd|h1|h2=>rfl);all_goals (intro h;(try simp only [reduceCtorEq,zzz] at h))))
      all_goals (apply dpa 16;(case hi|hg|hn=>rfl);(case hq=>kernel_rfl))
      all_goals (try (apply d_guardB 17;(case hi|hgd|h1|h2=>rfl);all_goals (intro h;(try simp only [reduceCtorEq,zzz] at h))))
      all_goals (apply dpa 17;(case hi|hg|hn=>rfl);(case hq=>kernel_rfl))
      all_goals (try (apply d_guardB 18;(case hi|hgd|h1|h2=>rfl);all_goals (intro h;(try simp only [reduceCtorEq,zzz] at h))))
      all_goals (apply dpa 18;(case hi|hg|hn=>rfl);(case hq=>kernel_rfl))
      all_goals (try (apply d_guardB 20;(case hi|hgd|h1|h2=>rfl);all_goals (intro h;(try simp only [reduceCtorEq,zzz] at h))))
      all_goals (apply dpa 20;(case hi|hg|hn=>rfl);(case hq=>kernel_rfl))
      all_goals (try (apply d_guardB 21;(case hi|hgd|h1|h2=>rfl);all_goals (intro h;(try simp only [reduceCtorEq,zzz] at h))))
      all_goals (apply dpa 21;(case hi|hg|hn=>rfl);(case hq=>kernel_rfl))
      all_goals (try (apply d_guardB 19;(case hi|hgd|h1|h2=>rfl);all_goals (intro h;(try simp only [reduceCtorEq,zzz] at h))))
      all_goals (apply dpa 19;(case hi|hg|hn=>rfl);(case hq=>kernel_rfl))
      all_goals (try (apply d_guardB 22;(case hi|hgd|h1|h2=>rfl);all_goals (intro h;(try simp only [reduceCtorEq,zzz] at h))))
      all_goals (apply dpa 22;(case hi|hg|hn=>rfl);(case hq=>kernel_rfl))
      all_goals (apply dtk 23;(case hi=>rfl);(case hop=>(apply prd;apply p_pickT<;>rfl));(case hq=>kernel_rfl))
      all_goals (apply d_done;(case hr=>kernel_rfl))
      all_goals first
       | exact hk5 _ _ _ ⟨GH.le_refl _,rfl,_,fun _ h6=>ho (hcnt h6).1,rfl,rfl,rfl,rfl,trivial⟩
    rintro σ1 G7 _ ⟨hle7,rfl,bq,hbq,hσ⟩
    refine v_has hσ ?_
    clear hσ
    have hleH:=GH.le_trans hle4 hle7
    cases bq with
    | true =>
     repeat' (first|apply v_region|apply v_nil|apply v_exit;(case hp=>rfl)|apply v_pure;(case hop=>first|apply p_move<;>rfl|apply p_assign<;>rfl|apply p_add;(case hx|hy=>rfl);(case h=>omega)|fail);(case hd=>rfl)|apply v_condT;(case hc=>rfl)|fail)
     exact v_again rfl ⟨hleH,rfl,i+1,by omega,rfl,hnx fun h=>absurd h (hbq rfl)⟩ (by simp [headI];omega)
    | false =>
     repeat' (first|apply v_seq|apply v_region|apply v_nil|apply v_skip|apply v_block|apply v_pure;(case hop=>(apply p_assign<;>rfl));(case hd=>rfl)|apply v_condF;(case hc=>rfl)|fail)
     refine v_loop [13,12,11,1,0] (fun us G' μ'=>G'=G7∧μ'=[]∧∃ (j:Nat) (bs:Bool),j≤calls.length∧us=[Value.int .i64 (j:Nat),.bool bs,.int .i64 (i:Nat),.slice CA calls.length cc,.slice LA log.length lc]∧(bs=true→∃ c∈calls,c.cmd=x)) (fun us=>calls.length-(headI us).toNat) rfl ⟨rfl,rfl,0,_,by omega,rfl,fun h=>by cases h⟩ ?_
     rintro us G8 _ ⟨hG8,rfl,j,bs,hj,rfl,hbs⟩
     subst G8
     by_cases hlj:j<calls.length
     ·have e2:((j:Nat):Int).toNat=j:=by omega
      have hA2:=hsomec (by omega)
      have hcj:=(rowOpen' (hs.mono (GH.le_trans hleA hleH))).2.2.2.2.2.2 j hlj
      have hmj:=clCmdAt hcj
      have hmi7:=fun j v (h:x.cells[j]? = some v)=>GH.cell_le hle7 (hmi j v h)
      have hyes:(calls[j]).cmd=x→∃ c∈calls,c.cmd=x:=fun h=>⟨_,List.getElem_mem hlj,h⟩
      generalize calls[j]=y at *
      cases bs with
      | true =>
       repeat' (first|apply v_seq|apply v_region|apply v_nil|apply v_skip|apply v_block|apply v_pure;(case hop=>first|apply p_move<;>rfl|apply p_lt<;>rfl|apply p_lenSlice<;>rfl|fail);(case hd=>rfl)|apply v_cond;(case hc=>rfl);all_goals (intro h;(try simp only [reduceCtorEq,zzz] at h);try (exfalso;omega))|fail)
       refine d_start [] (by kernel_rfl) (by kernel_rfl) (by kernel_rfl) (by intro e he;exact he) ?_
       all_goals (apply dtm 0;(case hi|hx=>rfl);(case hq=>kernel_rfl);apply dtm 1;(case hi|hx=>rfl);(case hq=>kernel_rfl))
       all_goals (try (apply d_guardB 2;(case hi|hgd|h1|h2=>rfl);all_goals (intro h;(try simp only [reduceCtorEq,zzz] at h))))
       all_goals (apply dpa 2;(case hi|hg|hn=>rfl);(case hq=>kernel_rfl))
       all_goals (try (apply d_guardB 3;(case hi|hgd|h1|h2=>rfl);all_goals (intro h;(try simp only [reduceCtorEq,zzz] at h))))
       all_goals (apply dpa 3;(case hi|hg|hn=>rfl);(case hq=>kernel_rfl))
       all_goals (try (apply d_guardB 4;(case hi|hgd|h1|h2=>rfl);all_goals (intro h;(try simp only [reduceCtorEq,zzz] at h))))
       all_goals (apply dpa 4;(case hi|hg|hn=>rfl);(case hq=>kernel_rfl))
       all_goals (try (apply d_guardB 5;(case hi|hgd|h1|h2=>rfl);all_goals (intro h;(try simp only [reduceCtorEq,zzz] at h))))
       all_goals (apply dpa 5;(case hi|hg|hn=>rfl);(case hq=>kernel_rfl))
       all_goals (try (apply d_guardB 6;(case hi|hgd|h1|h2=>rfl);all_goals (intro h;(try simp only [reduceCtorEq,zzz] at h))))
       all_goals (apply dpa 6;(case hi|hg|hn=>rfl);(case hq=>kernel_rfl))
       all_goals (try (apply d_guardB 7;(case hi|hgd|h1|h2=>rfl);all_goals (intro h;(try simp only [reduceCtorEq,zzz] at h))))
       all_goals (apply dpa 7;(case hi|hg|hn=>rfl);(case hq=>kernel_rfl))
       all_goals (try (apply d_guardB 8;(case hi|hgd|h1|h2=>rfl);all_goals (intro h;(try simp only [reduceCtorEq,zzz] at h))))
       all_goals (apply dpa 8;(case hi|hg|hn=>rfl);(case hq=>kernel_rfl))
       all_goals (try (apply d_guardB 9;(case hi|hgd|h1|h2=>rfl);all_goals (intro h;(try simp only [reduceCtorEq,zzz] at h))))
       all_goals (apply dpa 9;(case hi|hg|hn=>rfl);(case hq=>kernel_rfl))
       all_goals (try (apply d_guardB 10;(case hi|hgd|h1|h2=>rfl);all_goals (intro h;(try simp only [reduceCtorEq,zzz] at h))))
       all_goals (apply dpa 10;(case hi|hg|hn=>rfl);(case hq=>kernel_rfl))
       all_goals (try (apply d_guardB 11;(case hi|hgd|h1|h2=>rfl);all_goals (intro h;(try simp only [reduceCtorEq,zzz] at h))))
       all_goals (apply dpa 11;(case hi|hg|hn=>rfl);(case hq=>kernel_rfl))
       all_goals (apply dtk 12;(case hi=>rfl);(case hop=>(apply prd;apply p_pickT<;>rfl));(case hq=>kernel_rfl);apply dta 13;(case hi|hx=>rfl);(case hq=>kernel_rfl))
       all_goals (apply d_done;(case hr=>kernel_rfl))
       all_goals repeat' (first|apply v_region|apply v_nil|apply v_blk|apply v_pure;(case hop=>first|apply p_move<;>rfl|apply p_assign<;>rfl|apply p_add;(case hx|hy=>rfl);(case h=>omega)|fail);(case hd=>rfl)|fail)
       all_goals exact v_again rfl ⟨rfl,rfl,j+1,_,by omega,rfl,hbs⟩ (by simp [headI];omega)
      | false =>
       repeat' (first|apply v_seq|apply v_region|apply v_nil|apply v_skip|apply v_block|apply v_pure;(case hop=>first|apply p_move<;>rfl|apply p_lt<;>rfl|apply p_lenSlice<;>rfl|fail);(case hd=>rfl)|apply v_cond;(case hc=>rfl);all_goals (intro h;(try simp only [reduceCtorEq,zzz] at h);try (exfalso;omega))|fail)
       refine d_start [] (by kernel_rfl) (by kernel_rfl) (by kernel_rfl) (by intro e he;exact he) ?_
       all_goals (apply dtm 0;(case hi|hx=>rfl);(case hq=>kernel_rfl);apply dtm 1;(case hi|hx=>rfl);(case hq=>kernel_rfl))
       all_goals (try (apply d_guardB 2;(case hi|hgd|h1|h2=>rfl);all_goals (intro h;(try simp only [reduceCtorEq,zzz] at h))))
       all_goals (apply dtg 2;(case hi|hg=>rfl);(case hop=>(apply prd;apply p_move<;>rfl));(case hq=>kernel_rfl))
       all_goals (try (apply d_guardB 3;(case hi|hgd|h1|h2=>rfl);all_goals (intro h;(try simp only [reduceCtorEq,zzz] at h))))
       all_goals (apply dtg 3;(case hi|hg=>rfl);(case hop=>(apply prd;apply p_move<;>rfl));(case hq=>kernel_rfl))
       all_goals (try (apply d_guardB 4;(case hi|hgd|h1|h2=>rfl);all_goals (intro h;(try simp only [reduceCtorEq,zzz] at h))))
       all_goals (apply dtg 4;(case hi|hg=>rfl);(case hop=>(apply prd;apply p_indexAddrS;(case hx|hi=>rfl);(case h0|h=>omega);(case hA=>assumption)));(case hq=>kernel_rfl))
       all_goals (try (apply d_guardB 5;(case hi|hgd|h1|h2=>rfl);all_goals (intro h;(try simp only [reduceCtorEq,zzz] at h))))
       all_goals (apply dtg 5;(case hi|hg=>rfl);(case hop=>(apply prd;apply p_fieldAddr<;>rfl));(case hq=>kernel_rfl))
       all_goals (try (apply d_guardB 6;(case hi|hgd|h1|h2=>rfl);all_goals (intro h;(try simp only [reduceCtorEq,zzz] at h))))
       all_goals (apply dtg 6;(case hi|hg=>rfl);(case hop=>((apply r_loadN;rfl;exact CellsAt.frozen hmj;rfl)));(case hq=>kernel_rfl))
       all_goals (try (apply d_guardB 7;(case hi|hgd|h1|h2=>rfl);all_goals (intro h;(try simp only [reduceCtorEq,zzz] at h))))
       all_goals (apply dtg 7;(case hi|hg=>rfl);(case hop=>(apply prd;apply p_move<;>rfl));(case hq=>kernel_rfl))
       all_goals (try (apply d_guardB 8;(case hi|hgd|h1|h2=>rfl);all_goals (intro h;(try simp only [reduceCtorEq,zzz] at h))))
       all_goals (apply dtg 8;(case hi|hg=>rfl);(case hop=>(apply prd;apply p_move<;>rfl));(case hq=>kernel_rfl))
       all_goals (try (apply d_guardB 9;(case hi|hgd|h1|h2=>rfl);all_goals (intro h;(try simp only [reduceCtorEq,zzz] at h))))
       all_goals (apply dtg 9;(case hi|hg=>rfl);(case hop=>(apply prd;apply p_indexAddrS;(case hx|hi=>rfl);(case h0|h=>omega);(case hA=>assumption)));(case hq=>kernel_rfl))
       all_goals (try (apply d_guardB 10;(case hi|hgd|h1|h2=>rfl);all_goals (intro h;(try simp only [reduceCtorEq,zzz] at h))))
       all_goals (apply dtg 10;(case hi|hg=>rfl);(case hop=>((apply r_loadN;rfl;exact CellsAt.frozen hmi7;rfl)));(case hq=>kernel_rfl))
       all_goals (try (apply d_guardB 11;(case hi|hgd|h1|h2=>rfl);all_goals (intro h;(try simp only [reduceCtorEq,zzz] at h))))
       all_goals (apply dtg 11;(case hi|hg=>rfl);(case hop=>((apply prd;apply eqCm (c:=y.cmd) (c':=x);(case hx|hy=>rfl))));(case hq=>kernel_rfl);apply dtk 12;(case hi=>rfl);(case hop=>(apply prd;apply p_pickF<;>rfl));(case hq=>kernel_rfl))
       all_goals (apply dta 13;(case hi|hx=>rfl);(case hq=>kernel_rfl))
       all_goals (apply d_done;(case hr=>kernel_rfl))
       all_goals repeat' (first|apply v_region|apply v_nil|apply v_blk|apply v_pure;(case hop=>first|apply p_move<;>rfl|apply p_assign<;>rfl|apply p_add;(case hx|hy=>rfl);(case h=>omega)|fail);(case hd=>rfl)|fail)
       all_goals exact v_again rfl ⟨rfl,rfl,j+1,_,by omega,rfl,fun h=>hyes (by simpa [dec_eq] using h)⟩ (by simp [headI];omega)
     ·obtain rfl:j=calls.length:=by omega
      cases bs with
      | true =>
       repeat' (first|apply v_seq|apply v_region|apply v_nil|apply v_skip|apply v_blk|apply v_exit;(case hp=>rfl)|apply v_pure;(case hop=>first|apply p_move<;>rfl|apply p_lt<;>rfl|apply p_assign<;>rfl|apply p_not<;>rfl|apply p_lenSlice<;>rfl|apply p_add;(case hx|hy=>rfl);(case h=>omega)|fail);(case hd=>rfl)|apply v_condF;(case hc=>rfl)|apply v_cond;(case hc=>rfl);all_goals (intro h;(try simp only [reduceCtorEq,zzz] at h);try (exfalso;omega))|fail)
       exact v_again rfl ⟨hleH,rfl,i+1,by omega,rfl,hnx fun _=>hbs rfl⟩ (by simp [headI];omega)
      | false =>
       repeat' (first|apply v_seq|apply v_region|apply v_nil|apply v_exit;(case hp=>rfl)|apply v_pure;(case hop=>first|apply p_move<;>rfl|apply p_lt<;>rfl|apply p_assign<;>rfl|apply p_not<;>rfl|apply p_lenSlice<;>rfl|fail);(case hd=>rfl)|apply v_condT;(case hc=>rfl)|apply v_cond;(case hc=>rfl);all_goals (intro h;(try simp only [reduceCtorEq,zzz] at h);try (exfalso;omega))|fail)
       exact v_ret [] (outsA1 rfl rfl) (by repeat (exact List.Sublist.refl _)) ⟨rfl,_,rfl,by omega⟩
   ·obtain rfl:i=log.length:=by omega
    repeat' (first|apply v_seq|apply v_region|apply v_nil|apply v_exit;(case hp=>rfl)|apply v_pure;(case hop=>first|apply p_move<;>rfl|apply p_lt<;>rfl|apply p_assign<;>rfl|apply p_lenSlice<;>rfl|fail);(case hd=>rfl)|apply v_cond;(case hc=>rfl);all_goals (intro h;(try simp only [reduceCtorEq,zzz] at h);try (exfalso;omega))|fail)
    exact v_ret [] (outsA1 rfl rfl) (by repeat (exact List.Sublist.refl _)) ⟨rfl,_,rfl,fun _=>⟨hgoodA,hordA,fun a h=>hinv a h h.1⟩⟩
theorem chkW_ok {log:List Cm}{calls:List Cl}(h:Wit log calls):chkW log calls=0:=by
 unfold chkW
 rw [if_pos h.2.1,if_pos h.2.2]
theorem ansF_app (l:List Cl) {x:Cl}(h:¬ 0<x.e):ansF (l++[x])=ansF l:=by
 unfold ansF
 rw [List.filter_append]
 have:=ansF_no h
 unfold ansF at this
 rw [this,List.append_nil]
theorem wit_more {log:List Cm}{calls:List Cl}(h:Wit log calls) {x:Cl}(hx:¬ 0<x.e):Wit log (calls++[x]):=by
 obtain ⟨h1,h2,h3⟩:=h
 refine ⟨fun c hc he=>?_,?_,fun i hi=>?_⟩
 ·rcases List.mem_append.1 hc with hc|hc
  ·exact h1 c hc he
  ·rw [List.mem_singleton] at hc;subst hc;exact absurd he hx
 ·rw [ansF_app _ hx];exact h2
 ·obtain ⟨c,hc,e⟩:=h3 i hi
  exact ⟨c,List.mem_append_left _ hc,e⟩
theorem stA_app (log:List Cm) (c:Cm) {i:Nat}(h:i≤log.length):stA (log++[c]) i=stA log i:=by
 unfold stA
 rw [List.take_append_of_le_length h]
abbrev nobody (c:Cm):Prop := ¬ (2≤c.kind∧c.kind≤5)
theorem cnt_app {log:List Cm}{c:Cm}(hc:nobody c) {i:Nat}:cnt (log++[c]) i↔cnt log i:=by
 constructor
 ·rintro ⟨h,hh⟩
  by_cases hi:i<log.length
  ·rw [stA_app _ _ (Nat.le_of_lt hi),List.getElem_append_left hi] at hh
   exact ⟨hi,hh⟩
  ·have hl:i=log.length:=by rw [List.length_append,List.length_singleton] at h;omega
   subst hl
   have e:(log++[c])[log.length]'h=c:=by simp
   rw [e] at hh
   exact absurd hh.2.1 hc
 ·rintro ⟨h,hh⟩
  refine ⟨by rw [List.length_append];omega,?_⟩
  rw [stA_app _ _ (Nat.le_of_lt h),List.getElem_append_left h]
  exact hh
theorem pl_app {log:List Cm}{c:Cm}(hc:nobody c) (p:Int×Int):pl (log++[c]) p=pl log p:=by
 cases e:pl log p with
 | zero =>
  refine plK_no (fun i hi hh=>?_) _
  have h2:=(cnt_app hc).1 hi
  rw [List.getElem_append_left h2.1] at hh
  have:=pl_at h2
  rw [hh.1,hh.2,e] at this
  omega
 | succ i =>
  obtain ⟨hi,h1,h2⟩:=pl_some e
  have h3:=pl_at ((cnt_app hc).2 hi)
  rw [List.getElem_append_left hi.1,h1,h2] at h3
  exact h3
theorem anA_app (log:List Cm) (c:Cm):∃ a,anA (log++[c]) (log++[c]).length=anA log log.length++[a]:=by
 unfold anA
 rw [List.take_length,List.take_length,specA_snoc]
 exact ⟨_,rfl⟩
theorem wit_behind {log:List Cm}{calls:List Cl}(h:Wit log calls) {c:Cm}(hc:nobody c):Wit (log++[c]) calls:=by
 obtain ⟨h1,h2,h3⟩:=h
 have hp:∀ x,plc (log++[c]) x=plc log x:=fun x=>pl_app hc _
 refine ⟨fun x hx he=>?_,?_,fun i hi=>?_⟩
 ·obtain ⟨i,e1,e2,e3⟩:=h1 x hx he
  obtain ⟨a,ha⟩:=anA_app log c
  refine ⟨i,by rw [hp];exact e1,?_,?_⟩
  ·rw [List.getElem?_append_left (List.getElem?_eq_some_iff.1 e2).1];exact e2
  ·rw [ha,List.getElem?_append_left (List.getElem?_eq_some_iff.1 e3).1];exact e3
 ·unfold ordL at h2 ⊢
  refine h2.imp fun {a b} hab=>?_
  unfold lateP at hab ⊢
  rw [hp,hp]
  exact hab
 ·have h4:=(cnt_app hc).1 hi
  obtain ⟨x,hx,e⟩:=h3 i h4
  exact ⟨x,hx,by rw [e,List.getElem_append_left h4.1]⟩
abbrev cNop:Cm:=⟨1,0,0,ByteArray.empty,ByteArray.empty,ByteArray.empty,0⟩
abbrev cAct:Cm:=⟨6,0,0,ByteArray.empty,ByteArray.empty,ByteArray.empty,0⟩
theorem cmsW_app {l:List Cm}{c:Cm}(h:∀ x∈l,x.ok∧CmW x) (hl:l.length≤50) (hc:c.ok∧CmW c):CmsW (l++[c]):=⟨by rw [List.length_append,List.length_singleton];omega,fun x hx=>by
 rcases List.mem_append.1 hx with hx|hx
 ·exact h x hx
 ·rw [List.mem_singleton] at hx;subst hx;exact hc⟩
theorem cNop_ok:cNop.ok∧CmW cNop:=⟨⟨by decide,by decide,by decide,by decide,by decide,by decide,by decide⟩,by decide,by decide⟩
theorem cAct_ok:cAct.ok∧CmW cAct:=⟨⟨by decide,by decide,by decide,by decide,by decide,by decide,by decide⟩,by decide,by decide⟩
abbrev yp:Cl:=⟨xc1,1,2,⟨1,1,0,false,ByteArray.empty,0⟩⟩
abbrev yg:Cl:=⟨xc2,3,4,⟨2,1,0,false,ByteArray.empty,0⟩⟩
abbrev xs2:St:=⟨1,[],[⟨2,1,⟨2,1,0,false,ByteArray.empty,0⟩⟩]⟩
theorem hasP12:HasP 1 2:=⟨.inl rfl,by decide,by decide,fun h=>absurd h (by decide)⟩
theorem hasP13:HasP 1 3:=⟨.inl rfl,by decide,by decide,fun h=>absurd h (by decide)⟩
theorem yrun1:specS emp xc2=(xs2,⟨2,1,0,false,ByteArray.empty,0⟩):=by
 unfold specS applyS clientS
 rw [xc2_ok]
 simp only [which_nil]
 simp [verS,doS,doOne,hitG,placeG,withG,sesOf,ans0,findP,zeroPr]
 exact ⟨by rw [if_pos hasP13],by rw [if_pos hasP13]⟩
theorem yrun2:(specS xs2 xc1).2=⟨1,1,0,false,ByteArray.empty,0⟩:=by
 have hw:whichS xs2.sess 1 1=(0,zA):=by
  unfold whichS
  rw [if_pos (by decide)]
 have hd:(doS 1 xs2.pairs xc1).2=⟨1,1,0,false,ByteArray.empty,0⟩:=by
  unfold doS doOne
  simp [hitG,placeG,roomB,ans0,findP,zeroPr]
 have hc:(clientS xs2 xc1).2=⟨1,1,0,false,ByteArray.empty,0⟩:=by
  unfold clientS
  rw [show whichS xs2.sess xc1.client xc1.seq=(0,zA) from hw,if_neg (by decide),if_neg (by decide),if_pos (show HasP (verS xs2.schema) xc1.kind from hasP12)]
  exact hd
 unfold specS applyS
 rw [xc1_ok,if_neg (by simp),if_neg (by simp),if_pos (by decide)]
 exact hc
theorem lq0 (n:Int):lq [] n=0:=lq_none List.Pairwise.nil fun x hx=>by cases hx
theorem ycnt1 (c:Cm) (l:List Cm) (h1:cmdI c=0) (h2:2≤c.kind∧c.kind≤5) (h3:0<c.seq) (h4:HasP 1 c.kind):cnt (c::l) 0:=⟨by simp,h1,h2,by show lq [] _<_;rw [lq0];exact h3,h4⟩
theorem ycnt2:cnt [xc2,xc1] 1:=by
 have e:stA [xc2,xc1] 1=xs2:=by
  show (specS emp xc2).1=_
  rw [yrun1]
 refine ⟨by decide,?_⟩
 rw [e]
 refine ⟨xc1_ok,by decide,?_,hasP12⟩
 show lq xs2.sess 1<1
 rw [lq_none (List.pairwise_singleton _ _) (fun x hx=>by rw [List.mem_singleton] at hx;subst hx;decide)]
 decide
theorem ywit:Wit [xc1] [yp]:=by
 have h0:=ycnt1 xc1 [] xc1_ok (by decide) (by decide) hasP12
 refine ⟨fun c hc _=>?_,List.pairwise_singleton _ _,fun i hi=>?_⟩
 ·rw [List.mem_singleton] at hc;subst hc
  refine ⟨0,pl_at h0,rfl,?_⟩
  show [(specS emp xc1).2][0]? = _
  rw [xrun1];rfl
 ·have:i=0:=by have:=hi.1;simp at this;omega
  subst this
  exact ⟨yp,List.mem_singleton.2 rfl,rfl⟩
theorem yan:anA [xc2,xc1] 2=[⟨2,1,0,false,ByteArray.empty,0⟩,⟨1,1,0,false,ByteArray.empty,0⟩]:=by
 show [(specS emp xc2).2,(specS (specS emp xc2).1 xc1).2]=_
 rw [yrun1,yrun2]
theorem ypl1:plc [xc2,xc1] yg=1:=pl_at (ycnt1 xc2 [xc1] xc2_ok (by decide) (by decide) hasP13)
theorem ypl2:plc [xc2,xc1] yp=2:=pl_at ycnt2
theorem ygood:∀ c∈[yp,yg],0<c.e→goodC [xc2,xc1] c:=fun c hc _=>by
 simp only [List.mem_cons,List.not_mem_nil,or_false] at hc
 rcases hc with rfl|rfl
 ·exact ⟨1,ypl2,rfl,by rw [show [xc2,xc1].length=2 from rfl,yan];rfl⟩
 ·exact ⟨0,ypl1,rfl,by rw [show [xc2,xc1].length=2 from rfl,yan];rfl⟩
theorem ychk:chkW [xc2,xc1] [yp,yg]=12:=by
 unfold chkW
 rw [if_neg]
 intro h
 have h2:ordL [xc2,xc1] [yp,yg]:=h
 unfold ordL at h2
 rw [List.pairwise_cons] at h2
 refine (h2.1 yg (List.mem_singleton.2 rfl)).1 ⟨by decide,?_⟩
 rw [ypl1,ypl2]
 decide
theorem madeCl {G:GH}{l:List Cl}{b:Nat}(h:l.length≤200) (hb:G b=some (.cells (rowC Cl.cells l).toArray 30 (0,0))):Clr G (.slice (some ⟨b,0,none⟩) l.length l.length) l:=by
 have hg:Grow 30 15 (.slice (some ⟨b,0,none⟩) l.length l.length) l.length (rowC Cl.cells l) [(b,.cells (rowC Cl.cells l).toArray 30 (0,0))] :=
  ⟨rowC_length Cl.len l,.inr ⟨b,l.length,[],rfl,by rw [List.append_nil],Nat.le_refl _,by simp only [maxLen];omega,by rw [List.append_nil];exact rowC_length Cl.len l⟩⟩
 exact row_of_grow Cl.len hg (fun b' o h=>by simp only [List.mem_singleton] at h;cases h;exact hb)
theorem cmsW1:CmsW [xc1]:=⟨by decide,fun c hc=>by
 rw [List.mem_singleton] at hc;subst hc
 exact ⟨⟨by decide,by decide,by decide,by decide,by decide,by decide,by decide⟩,by decide,by decide⟩⟩
theorem cmsW2:CmsW [xc2,xc1]:=⟨by decide,fun c hc=>by
 simp only [List.mem_cons,List.not_mem_nil,or_false] at hc
 rcases hc with rfl|rfl
 ·exact ⟨⟨by decide,by decide,by decide,by decide,by decide,by decide,by decide⟩,by decide,by decide⟩
 ·exact ⟨⟨by decide,by decide,by decide,by decide,by decide,by decide,by decide⟩,by decide,by decide⟩⟩
theorem awake43_s {G:GH}(hT:TabsG G):Con Tryz.prog 7 #[] G [] (fun r G' μ'=>r=.bool true∧μ'=[]):=by
 have q1:=fun G' (h:GH.le G G') b b' (hb:G' b=some (.cells (rowC Cm.cells [xc1]).toArray 25 (0,0))) (hb':G' b'=some (.cells (rowC Cl.cells [yp]).toArray 30 (0,0)))=>check_s (lv:=.slice (some ⟨b,0,none⟩) 1 1) (sv:=.slice (some ⟨b',0,none⟩) 1 1) (log:=[xc1]) (calls:=[yp]) (hT.up h) (madeC (l:=[xc1]) (by decide) hb) cmsW1 (madeCl (l:=[yp]) (by decide) hb') (by decide) ywit.1
 rw [chkW_ok ywit] at q1
 have q2:=fun G' (h:GH.le G G') b b' (hb:G' b=some (.cells (rowC Cm.cells [xc2,xc1]).toArray 25 (0,0))) (hb':G' b'=some (.cells (rowC Cl.cells [yp,yg]).toArray 30 (0,0)))=>check_s (lv:=.slice (some ⟨b,0,none⟩) 2 2) (sv:=.slice (some ⟨b',0,none⟩) 2 2) (log:=[xc2,xc1]) (calls:=[yp,yg]) (hT.up h) (madeC (l:=[xc2,xc1]) (by decide) hb) cmsW2 (madeCl (l:=[yp,yg]) (by decide) hb') (by decide) ygood
 rw [ychk] at q2
 (refine v_enter Tryz.func7 rfl Tryz.ntmps7 rfl ?_;intro B _)
 repeat' (first|apply v_alloc (d:=1);(case hz|hd=>rfl);intro b1|apply v_alloc (d:=2);(case hz|hd=>rfl);intro b2|apply v_alloc (d:=3);(case hz|hd=>rfl);intro b3|apply v_alloc (d:=4);(case hz|hd=>rfl);intro b4|apply v_buildSlice (d:=14);(case hz|hi=>rfl);(case hv=>(simp only [List.map_cons,List.map_nil];repeat (first|with_reducible exact evs_nil|apply evs_cons;(case h1=>rfl))));(case hp=>(apply pk_cons;(case hc|hs=>rfl);(case h=>(with_reducible exact pk_nil));(case he=>((repeat (first|with_reducible exact ap_nil|apply ap_cons));done))));(case hb|hd=>rfl);intro b14|apply v_buildSlice (d:=16);(case hz|hi=>rfl);(case hv=>(simp only [List.map_cons,List.map_nil];repeat (first|with_reducible exact evs_nil|apply evs_cons;(case h1=>rfl))));(case hp=>(apply pk_cons;(case hc|hs=>rfl);(case h=>(with_reducible exact pk_nil));(case he=>((repeat (first|with_reducible exact ap_nil|apply ap_cons));done))));(case hb|hd=>rfl);intro b16|apply v_seq|apply v_region|apply v_nil|apply v_pure;(case hop=>first|apply p_assign<;>rfl|apply p_build;(case hz=>rfl);(case hv=>(simp only [List.map_cons,List.map_nil];repeat (first|with_reducible exact evs_nil|apply evs_cons;(case h1=>rfl))));(case hb=>(apply bldL;repeat (first|exact bld_nil|apply bld_cons;(case hpf|hc|hs|hl=>rfl);(case ho=>((repeat (first|with_reducible exact ov_nil|apply ov_cons));done)))))|fail);(case hd=>rfl)|apply v_read;(case hop=>(apply r_loadNo;(case hx=>rfl);(case h=>repeat first|exact mhd _|apply mtl);(case hd=>repeat first|with_reducible exact dt_nil|apply dt_here);(case hn=>rfl)));(case hd=>rfl)|apply v_store;(case hp|hx|hc|hsz|h1=>rfl);(case hb=>repeat exact mhd _);(case hfit=>exact nle rfl);(case hov=>((repeat (first|with_reducible exact ov_nil|apply ov_cons));done));(case hu=>repeat (exact Upd.here _ _))|fail)
 refine v_frzP [(b14,.cells (rowC Cm.cells [xc1]).toArray 25 (0,0)),(b16,.cells (rowC Cl.cells [yp]).toArray 30 (0,0))] (r:=[(b1,.cells xc1.cells.toArray 25 (0,0)),(b2,.cells xc2.cells.toArray 25 (0,0)),(b3,.cells yp.cells.toArray 30 (0,0)),(b4,.cells yg.cells.toArray 30 (0,0))]) (by apply perm_of_count;intro p;simp only [List.append_eq,List.countP_append,List.countP_cons,List.countP_nil,Nat.zero_add,Nat.add_zero];try ac_rfl) ?_
 intro G1 hle1 hG1
 refine v_call (μ1:=[]) rfl (q1 G1 hle1 b14 b16 (hG1 _ _ (List.Mem.head _)) (hG1 _ _ (.tail _ (List.Mem.head _)))) (List.Perm.refl _) rfl ?_
 rintro _ G2 _ hle2 ⟨rfl,rfl⟩
 repeat' (first|apply v_buildSlice (d:=22);(case hz|hi=>rfl);(case hv=>(simp only [List.map_cons,List.map_nil];repeat (first|with_reducible exact evs_nil|apply evs_cons;(case h1=>rfl))));(case hp=>(apply pk_cons;(case hc|hs=>rfl);(case h=>(apply pk_cons;(case hc|hs=>rfl);(case h=>(with_reducible exact pk_nil));(case he=>((repeat (first|with_reducible exact ap_nil|apply ap_cons));done))));(case he=>((repeat (first|with_reducible exact ap_nil|apply ap_cons));done))));(case hb|hd=>rfl);intro b22|apply v_buildSlice (d:=25);(case hz|hi=>rfl);(case hv=>(simp only [List.map_cons,List.map_nil];repeat (first|with_reducible exact evs_nil|apply evs_cons;(case h1=>rfl))));(case hp=>(apply pk_cons;(case hc|hs=>rfl);(case h=>(apply pk_cons;(case hc|hs=>rfl);(case h=>(with_reducible exact pk_nil));(case he=>((repeat (first|with_reducible exact ap_nil|apply ap_cons));done))));(case he=>((repeat (first|with_reducible exact ap_nil|apply ap_cons));done))));(case hb|hd=>rfl);intro b25|apply v_take;(case hg=>rfl)|apply v_pure;(case hop=>first|apply p_move<;>rfl|apply p_eqs<;>rfl|fail);(case hd=>rfl)|apply v_read;(case hop=>(apply r_loadNo;(case hx=>rfl);(case h=>repeat first|exact mhd _|apply mtl);(case hd=>repeat first|with_reducible exact dt_nil|apply dt_here);(case hn=>rfl)));(case hd=>rfl)|fail)
 refine v_frzP [(b22,.cells (rowC Cm.cells [xc2,xc1]).toArray 25 (0,0)),(b25,.cells (rowC Cl.cells [yp,yg]).toArray 30 (0,0))] (r:=[(b1,.cells xc1.cells.toArray 25 (0,0)),(b2,.cells xc2.cells.toArray 25 (0,0)),(b3,.cells yp.cells.toArray 30 (0,0)),(b4,.cells yg.cells.toArray 30 (0,0))]) (by apply perm_of_count;intro p;simp only [List.append_eq,List.countP_append,List.countP_cons,List.countP_nil,Nat.zero_add,Nat.add_zero];try ac_rfl) ?_
 intro G3 hle3 hG3
 refine v_call (μ1:=[]) rfl (q2 G3 (GH.le_trans hle1 (GH.le_trans hle2 hle3)) b22 b25 (hG3 _ _ (List.Mem.head _)) (hG3 _ _ (.tail _ (List.Mem.head _)))) (List.Perm.refl _) rfl ?_
 rintro _ G4 _ hle4 ⟨rfl,rfl⟩
 repeat' (first|apply v_nil|apply v_take;(case hg=>rfl)|apply v_pure;(case hop=>first|apply p_eqs<;>rfl|apply p_assign<;>rfl|apply p_pickT<;>rfl|fail);(case hd=>rfl)|fail)
 refine v_ret [] (outsA1 rfl rfl) (by repeat (exact List.nil_sublist _)) ?_
 exact ⟨rfl,rfl⟩
abbrev GrM (v:Value) (l:List Cm) (ν:OH):Prop:=Grow 25 7 v l.length (rowC Cm.cells l) ν
theorem GrM.snoc {v:Value}{l:List Cm}{a:Cm}{ν:OH}(h:Grow 25 7 v (0+l.length+1) ([]++rowC Cm.cells l++a.cells) ν):GrM v (l++[a]) ν:=by
 unfold GrM
 rw [rowC_append,List.length_append,List.length_singleton]
 rw [Nat.zero_add,List.nil_append] at h
 have e:rowC Cm.cells [a]=a.cells:=by simp [rowC]
 rw [e]
 exact h
theorem GrC.snoc {v:Value}{l:List Cl}{a:Cl}{ν:OH}(h:Grow 30 15 v (0+l.length+1) ([]++rowC Cl.cells l++a.cells) ν):GrC v (l++[a]) ν:=by
 unfold GrC
 rw [rowC_append,List.length_append,List.length_singleton]
 rw [Nat.zero_add,List.nil_append] at h
 have e:rowC Cl.cells [a]=a.cells:=by simp [rowC]
 rw [e]
 exact h
theorem Cm.oneC (x:Cm):x.cells.all Value.oneCell'=true:=rfl
set_option maxHeartbeats 4000000 in
theorem witnessMore_law {W:World}{v0 v1 v2:Value}(hT:TabsG (ghost W)) (g0:∃ l:List Cm,Sl (ghost W) 7 CmR v0 l) (g1:∃ l:List Cl,Cls (ghost W) v1 l) (g2:∃ x:Cl,v2=.agg x.cells.toArray∧x.cmd.ok):LawCon Tryz.prog 3 #[v0,v1,v2] W:=by
 obtain ⟨log,hl0⟩:=g0
 obtain ⟨calls,hs0⟩:=g1
 obtain ⟨x,rfl,-⟩:=g2
 obtain ⟨hl,hok⟩:=cms_of hl0
 have hs:Clr (ghost W) v1 calls:=(Cls.row hs0).1
 clear hl0 hs0
 unfold LawCon
 generalize ghost W=G at *
 have ql:=lg28_s hl
 have qs:=lg43_s hs
 have qa:=fun G' (h:GH.le G G')=>awake43_s (hT.up h)
 have qc:=fun (G':GH) (b:Nat) (hb:G' b=some (.cells (rowC Cl.cells [x]).toArray 30 (0,0)))=>lg43_s (sv:=.slice (some ⟨b,0,none⟩) 1 1) (madeCl (l:=[x]) (Nat.le_of_ble_eq_true rfl) hb)
 obtain ⟨LA,lc,rfl,hlc,hcm,hsome,hcp⟩:=rowOpen hl
 obtain ⟨CA,cc,rfl,hlcc,hccm,hsomec,hcpc⟩:=rowOpen hs
 simp only [maxLen] at hcm hccm
 (refine v_enter Tryz.func3 rfl Tryz.ntmps3 rfl ?_;intro B _)
 repeat' (first|apply v_box (d:=5) (zs:=x.cells);(case hx|hz|hd=>rfl);intro b5|apply v_seq|apply v_region|apply v_nil|apply v_pure;(case hop=>first|apply p_move<;>rfl|apply p_assign<;>rfl|fail);(case hd=>rfl)|fail)
 refine v_cut (fun σ1 G' μ'=>GH.le G G'∧μ'=[(b5,.cells x.cells.toArray 30 (0,0))]∧∃ bq,(bq=false→CmsS log∧log.length≤30∧calls.length≤40∧Wit log calls)∧EnvHas σ1 [(31,.bool bq),(5,.pointer (some ⟨b5,0,none⟩)),(1,.slice CA calls.length cc),(0,.slice LA log.length lc)]) ?_ ?_
 ·intro hk
  refine v_call (μ1:=[]) rfl ql (List.Perm.refl _) rfl ?_
  rintro _ G1 _ - ⟨hG1,rfl,b1,rfl,h1⟩
  subst G1
  cases b1 with
  | true =>
   repeat' (first|exact hk _ _ _ ⟨GH.le_refl _,rfl,true,fun h=>(by cases h),rfl,rfl,rfl,rfl,trivial⟩|apply v_nil|apply v_pass;(case hg|hn|hd=>rfl)|apply v_pure;(case hop=>first|apply p_move<;>rfl|apply p_pickT<;>rfl|fail);(case hd=>rfl)|fail)
  | false =>
   have h1:=h1 rfl
   by_cases hlen:log.length≤30
   ·have hlw:CmsW log:=⟨by omega,fun c hc=>⟨hok c hc,(h1.2 c hc).1,(h1.2 c hc).2.1⟩⟩
    repeat' (first|apply v_take;(case hg=>rfl)|apply v_pure;(case hop=>first|apply p_move<;>rfl|apply p_gt<;>rfl|apply p_pickF<;>rfl|apply p_lenSlice<;>rfl|fail);(case hd=>rfl)|apply v_guardB;(case h1|h2=>rfl);all_goals (intro h;(try simp only [reduceCtorEq,zzz] at h);try (exfalso;omega))|fail)
    refine v_call (μ1:=[]) rfl qs (List.Perm.refl _) rfl ?_
    rintro _ G1 _ - ⟨hG1,rfl,b2,rfl,h2⟩
    subst G1
    cases b2 with
    | true =>
     repeat' (first|exact hk _ _ _ ⟨GH.le_refl _,rfl,true,fun h=>(by cases h),rfl,rfl,rfl,rfl,trivial⟩|apply v_nil|apply v_pass;(case hg|hn|hd=>rfl)|apply v_pure;(case hop=>first|apply p_move<;>rfl|apply p_pickT<;>rfl|apply p_pickF<;>rfl|fail);(case hd=>rfl)|fail)
    | false =>
     have h2:=h2 rfl
     repeat' (first|apply v_read;(case hop=>(apply r_loadNo;(case hx=>rfl);(case h=>repeat (exact mhd _));(case hd|hn=>rfl)));(case hd=>rfl)|apply v_buildSlice (d:=23);(case hz|hi=>rfl);(case hv=>(simp only [List.map_cons,List.map_nil];repeat (first|with_reducible exact evs_nil|apply evs_cons;(case h1=>rfl))));(case hp=>(apply pk_cons;(case hc|hs=>rfl);(case h=>(with_reducible exact pk_nil));(case he=>(rfl))));(case hb|hd=>rfl);intro b23|apply v_take;(case hg=>rfl)|apply v_pure;(case hop=>first|apply p_move<;>rfl|apply p_pickF<;>rfl|fail);(case hd=>rfl)|fail)
     refine v_frzP [(b23,.cells (rowC Cl.cells [x]).toArray 30 (0,0))] (r:=[(b5,.cells x.cells.toArray 30 (0,0))]) (by apply perm_of_count;intro p;simp only [List.append_eq,List.countP_append,List.countP_cons,List.countP_nil,Nat.zero_add,Nat.add_zero];try ac_rfl) ?_
     intro G1 hle1 hG1
     refine v_call (μ1:=[]) rfl (qc G1 b23 (hG1 _ _ (List.Mem.head _))) (List.Perm.refl _) rfl ?_
     rintro _ G2 _ - ⟨hG2,rfl,b3,rfl,-⟩
     subst G2
     cases b3 with
     | true =>
      repeat' (first|exact hk _ _ _ ⟨hle1,rfl,true,fun h=>(by cases h),rfl,rfl,rfl,rfl,trivial⟩|apply v_nil|apply v_pass;(case hg|hn|hd=>rfl)|apply v_pure;(case hop=>first|apply p_move<;>rfl|apply p_pickT<;>rfl|apply p_pickF<;>rfl|fail);(case hd=>rfl)|fail)
     | false =>
      repeat' (first|apply v_take;(case hg=>rfl)|apply v_pure;(case hop=>first|apply p_move<;>rfl|apply p_pickF<;>rfl|fail);(case hd=>rfl)|fail)
      refine v_call (μ1:=[]) rfl (refCheck43_s (hl.mono hle1) hlw (hs.mono hle1) h2) (List.Perm.refl _) rfl ?_
      rintro _ G2 _ hle2 ⟨rfl,e,rfl,he⟩
      by_cases h0:e=0
      ·subst h0
       repeat' (first|exact hk _ _ _ ⟨GH.le_trans hle1 hle2,rfl,false,fun _=>⟨h1,hlen,h2,he rfl⟩,rfl,rfl,rfl,rfl,trivial⟩|apply v_nil|apply v_take;(case hg=>rfl)|apply v_pure;(case hop=>first|apply p_nes<;>rfl|apply p_pickF<;>rfl|fail);(case hd=>rfl)|fail)
      ·repeat' (first|exact hk _ _ _ ⟨GH.le_trans hle1 hle2,rfl,_,fun h=>(by simp [dec_eq,h0] at h),rfl,rfl,rfl,rfl,trivial⟩|apply v_nil|apply v_take;(case hg=>rfl)|apply v_pure;(case hop=>first|apply p_ne<;>rfl|apply p_pickF<;>rfl|fail);(case hd=>rfl)|fail)
   ·repeat' (first|exact hk _ _ _ ⟨GH.le_refl _,rfl,true,fun h=>(by cases h),rfl,rfl,rfl,rfl,trivial⟩|apply v_nil|apply v_take;(case hg=>rfl)|apply v_pass;(case hg|hn|hd=>rfl)|apply v_pure;(case hop=>first|apply p_move<;>rfl|apply p_gt<;>rfl|apply p_pickT<;>rfl|apply p_pickF<;>rfl|apply p_lenSlice<;>rfl|fail);(case hd=>rfl)|apply v_guardB;(case h1|h2=>rfl);all_goals (intro h;(try simp only [reduceCtorEq,zzz] at h);try (exfalso;omega))|fail)
 rintro σ1 G1 _ ⟨hle1,rfl,bq,hbq,hσ⟩
 refine v_has hσ ?_
 clear hσ ql qs qc
 cases bq with
 | true =>
  repeat' (first|apply v_seq|apply v_region|apply v_condT;(case hc=>rfl)|fail)
  refine v_call (μ1:=[]) rfl (qa _ hle1) (List.Perm.refl _) rfl ?_
  rintro _ G9 _ - ⟨rfl,rfl⟩
  repeat' (first|apply v_nil|apply v_pure;(case hop=>(apply p_assign<;>rfl));(case hd=>rfl)|fail)
  refine v_ret [] (outsA1 rfl rfl) (by repeat (exact List.nil_sublist _)) ?_
  rfl
 | false =>
  obtain ⟨h1,hlen,h2,hw⟩:=hbq rfl
  have hlok:∀ c∈log,c.ok∧CmW c:=fun c hc=>⟨hok c hc,(h1.2 c hc).1,(h1.2 c hc).2.1⟩
  have hlw:CmsW log:=⟨by omega,hlok⟩
  have hl1:=hl.mono hle1
  have hs1:=hs.mono hle1
  have hT1:=hT.up hle1
  have hsl:=fun μ=>rowSrc (μ:=μ) (c:=lc) Cm.len (by omega) hsome (rowOpen' hl1).2.2.2.2.2.2
  have hone1:(rowC Cl.cells calls).all Value.oneCell'=true:=rowC_one Cl.one calls
  have hone2:(rowC Cm.cells log).all Value.oneCell'=true:=rowC_one Cm.oneC log
  have hsc:=fun μ=>rowSrc (μ:=μ) (c:=cc) Cl.len (by omega) hsomec (rowOpen' hs1).2.2.2.2.2.2
  repeat' (first|apply v_seq|apply v_region|apply v_nil|apply v_skip|apply v_pure;(case hop=>(apply p_fieldAddrB<;>rfl));(case hd=>rfl)|apply v_condF;(case hc=>rfl)|apply v_store;(case hp|hx|hc|hsz|h1=>rfl);(case hb=>repeat exact mhd _);(case hfit=>exact nle rfl);(case hov=>((repeat (first|with_reducible exact ov_nil|apply ov_cons));done));(case hu=>repeat (exact Upd.here _ _))|fail)
  refine v_cut (fun σ1 G' μ'=>G'=G1∧∃ v ν,GrC v (calls++[{ x with e:=0 }]) ν∧List.Sublist ν μ'∧EnvHas σ1 [(7,v),(1,.slice CA calls.length cc),(0,.slice LA log.length lc)]) ?_ ?_
  ·intro hk
   refine d_start _ (by kernel_rfl) (by kernel_rfl) (by kernel_rfl) (fun _ he=>he) ?_
   all_goals (apply dtm 1;(case hi|hx=>rfl);(case hq=>kernel_rfl);apply dtk 3;(case hi=>rfl);(case hop=>first|apply r_loadNo;(case hx=>rfl);(case h=>repeat exact mhd _);(case hd=>repeat first|with_reducible exact dt_nil|apply dt_here);(case hn=>rfl)|apply r_load1;rfl;(apply Cell.own;(case h=>repeat fail);rfl)|apply r_loadN;rfl;(apply CellsAt.own;(case h=>repeat fail));rfl);(case hq=>kernel_rfl))
   focus
    refine d_fork 0 4 (by kernel_rfl) ?_ ?_
    rotate_right
    focus
     (apply x_buildSlice 4;(case hi=>rfl);(case hT=>infer_instance);(case hL=>infer_instance);(case hz|hl=>rfl);(case hv=>(simp only [List.map_cons,List.map_nil];repeat (first|with_reducible exact evs_nil|apply evs_cons;(case h1=>rfl))));(case hp=>(apply pk_cons;(case hc|hs=>rfl);(case h=>(with_reducible exact pk_nil));(case he=>((repeat (first|with_reducible exact ap_nil|apply ap_cons));done))));(case hb|hd=>rfl);(case hν=>intro e he;exact he);intro b5)
     all_goals (apply d_buildSlice 0;(case hi=>rfl);(case hr=>kernel_rfl);(case hT=>infer_instance);(case hL=>infer_instance);(case hz|hl=>rfl);(case hv=>(simp only [List.map_cons,List.map_nil];repeat (with_reducible exact evs_nil)));(case hp=>(with_reducible exact pk_nil));(case hb|hd=>rfl);(case hν=>intro e he;(simp at he;simp [he];done));intro b5)
     all_goals (apply d_append 2 (hg:=Grow.empty) (q':=calls.length) (us:=rowC Cl.cells calls) (hp:=PickA.perm (by repeat (exact PickA.here _))) (hsrc:=hsc _);(case hi=>rfl);(case hr=>kernel_rfl);(case hT=>infer_instance);(case hL=>infer_instance);(case hzs=>rfl);(case hsz=>omega);(case hs|hx=>rfl);(case hb=>omega);(case hb'=>simp only [maxLen];omega);(case hd=>rfl);(case h1=>assumption);(case hν=>intro e he;(simp at he;simp [he];done));intro v3 n3 hg3)
     all_goals (apply d_append 5 (hg:=hg3) (q':=1) (us:=Cl.cells { x with e:=0 }) (hp:=PickA.perm (by repeat (exact PickA.here _))) (hsrc:=Src.own (e:=30) (by repeat (first|exact mhd _|apply List.mem_append_right)) rfl);(case hi=>rfl);(case hr=>kernel_rfl);(case hT=>infer_instance);(case hL=>infer_instance);(case hzs=>rfl);(case hsz=>omega);(case hs|hx=>rfl);(case hb=>omega);(case hb'=>simp only [maxLen];omega);(case hd|h1=>rfl);(case hν=>intro e he;(simp at he;simp [he];done));intro v6 n6 hg6)
     all_goals (apply dta 6;(case hi|hx=>rfl);(case hq=>kernel_rfl))
     all_goals (apply d_done;(case hr=>kernel_rfl))
    rotate_right
    focus
     (apply x_buildSlice 0;(case hi=>rfl);(case hT=>infer_instance);(case hL=>infer_instance);(case hz|hl=>rfl);(case hv=>(simp only [List.map_cons,List.map_nil];repeat (with_reducible exact evs_nil)));(case hp=>(with_reducible exact pk_nil));(case hb|hd=>rfl);(case hν=>intro e he;exact he);intro b5)
     focus
      refine d_fork 2 4 (by kernel_rfl) ?_ ?_
      rotate_right
      focus
       (apply x_buildSlice 4;(case hi=>rfl);(case hT=>infer_instance);(case hL=>infer_instance);(case hz|hl=>rfl);(case hv=>(simp only [List.map_cons,List.map_nil];repeat (first|with_reducible exact evs_nil|apply evs_cons;(case h1=>rfl))));(case hp=>(apply pk_cons;(case hc|hs=>rfl);(case h=>(with_reducible exact pk_nil));(case he=>((repeat (first|with_reducible exact ap_nil|apply ap_cons));done))));(case hb|hd=>rfl);(case hν=>intro e he;(simp at he;simp [he];done));intro b5)
       all_goals (apply d_append 2 (hg:=Grow.empty) (q':=calls.length) (us:=rowC Cl.cells calls) (hp:=PickA.perm (by repeat (first|exact PickA.here _|apply PickA.cons))) (hsrc:=hsc _);(case hi=>rfl);(case hr=>kernel_rfl);(case hT=>infer_instance);(case hL=>infer_instance);(case hzs=>rfl);(case hsz=>omega);(case hs|hx=>rfl);(case hb=>omega);(case hb'=>simp only [maxLen];omega);(case hd=>rfl);(case h1=>assumption);(case hν=>intro e he;(simp at he;simp [he];done));intro v3 n3 hg3)
       all_goals (apply d_append 5 (hg:=hg3) (q':=1) (us:=Cl.cells { x with e:=0 }) (hp:=PickA.perm (by repeat (exact PickA.here _))) (hsrc:=Src.own (e:=30) (by repeat (first|exact mhd _|apply List.mem_append_right)) rfl);(case hi=>rfl);(case hr=>kernel_rfl);(case hT=>infer_instance);(case hL=>infer_instance);(case hzs=>rfl);(case hsz=>omega);(case hs|hx=>rfl);(case hb=>omega);(case hb'=>simp only [maxLen];omega);(case hd|h1=>rfl);(case hν=>intro e he;(simp at he;simp [he];done));intro v6 n6 hg6)
       all_goals (apply dta 6;(case hi|hx=>rfl);(case hq=>kernel_rfl))
       all_goals (apply d_done;(case hr=>kernel_rfl))
      rotate_right
      focus
       (apply x_append 2 (hg:=Grow.empty) (q':=calls.length) (us:=rowC Cl.cells calls) (hp:=PickA.perm (by repeat (exact PickA.here _))) (hsrc:=hsc _);(case hi=>rfl);(case hT=>infer_instance);(case hL=>infer_instance);(case hzs=>rfl);(case hsz=>omega);(case hs|hx=>rfl);(case hb=>omega);(case hb'=>simp only [maxLen];omega);(case hd=>rfl);(case h1=>assumption);(case hν=>intro e he;exact he);intro v3 n3 hg3)
       all_goals (apply d_buildSlice 4;(case hi=>rfl);(case hr=>kernel_rfl);(case hT=>infer_instance);(case hL=>infer_instance);(case hz|hl=>rfl);(case hv=>(simp only [List.map_cons,List.map_nil];repeat (first|with_reducible exact evs_nil|apply evs_cons;(case h1=>rfl))));(case hp=>(apply pk_cons;(case hc|hs=>rfl);(case h=>(with_reducible exact pk_nil));(case he=>((repeat (first|with_reducible exact ap_nil|apply ap_cons));done))));(case hb|hd=>rfl);(case hν=>intro e he;(simp at he;simp [he];done));intro b5)
       all_goals (apply d_append 5 (hg:=hg3) (q':=1) (us:=Cl.cells { x with e:=0 }) (hp:=PickA.perm (by repeat (first|exact PickA.here _|apply PickA.cons))) (hsrc:=Src.own (e:=30) (by repeat (exact mhd _)) rfl);(case hi=>rfl);(case hr=>kernel_rfl);(case hT=>infer_instance);(case hL=>infer_instance);(case hzs=>rfl);(case hsz=>omega);(case hs|hx=>rfl);(case hb=>omega);(case hb'=>simp only [maxLen];omega);(case hd|h1=>rfl);(case hν=>intro e he;(simp at he;simp [he];done));intro v6 n6 hg6)
       all_goals (apply dta 6;(case hi|hx=>rfl);(case hq=>kernel_rfl))
       all_goals (apply d_done;(case hr=>kernel_rfl))
   all_goals first
    | exact hk _ _ _ ⟨rfl,_,_,GrC.snoc hg6,(by repeat (exact List.sublist_append_left _ _)),rfl,rfl,rfl,trivial⟩
  rintro σ1 G' μ7 ⟨hG',v7,ν7,hg7,hμ7,hσ⟩
  subst G'
  refine v_drop hμ7 (v_has hσ ?_)
  clear hσ hμ7
  refine v_frzP ν7 (r:=[]) (by apply perm_of_count;intro p;simp only [List.append_eq,List.countP_append,List.countP_cons,List.countP_nil,Nat.zero_add,Nat.add_zero];try ac_rfl) ?_
  intro G2 hle2 hG2
  have hs2:=row_of_grow Cl.len hg7 hG2
  clear hg7 hG2
  have hsl2:=fun μ=>rowSrc (μ:=μ) (c:=lc) Cm.len (by omega) hsome (rowOpen' (hl1.mono hle2)).2.2.2.2.2.2
  repeat' (first|apply v_buildSlice (d:=40);(case hz|hi=>rfl);(case hv=>(simp only [List.map_cons,List.map_nil];repeat (with_reducible exact evs_nil)));(case hp=>(with_reducible exact pk_nil));(case hb|hd=>rfl);intro b40|apply v_append (d:=42) (hg:=Grow.empty) (m':=log.length) (us:=rowC Cm.cells log) (hp:=PickA.perm (by repeat (exact PickA.last))) (hsrc:=hsl2 _);(case hzs=>rfl);(case hsz=>omega);(case hs|hx=>rfl);(case hb=>omega);(case hb'=>simp only [maxLen];omega);(case hd=>rfl);(case h1=>assumption);intro v42 n42 hg42|apply v_buildSlice (d:=44);(case hz|hi=>rfl);(case hv=>(simp only [List.map_cons,List.map_nil];repeat (first|with_reducible exact evs_nil|apply evs_cons;(case h1=>rfl))));(case hp=>(apply pk_cons;(case hc|hs=>rfl);(case h=>(with_reducible exact pk_nil));(case he=>((repeat (first|with_reducible exact ap_nil|apply ap_cons));done))));(case hb|hd=>rfl);intro b44|apply v_append (d:=45) (hg:=hg42) (m':=1) (us:=cNop.cells) (hp:=PickA.perm (by repeat (first|exact PickA.here _|apply PickA.cons))) (hsrc:=Src.own (e:=25) (by repeat (exact mhd _)) rfl);(case hzs=>rfl);(case hsz=>omega);(case hs|hx=>rfl);(case hb=>omega);(case hb'=>simp only [maxLen];omega);(case hd|h1=>rfl);intro v45 n45 hg45|apply v_buildSlice (d:=46);(case hz|hi=>rfl);(case hv=>(simp only [List.map_cons,List.map_nil];repeat (with_reducible exact evs_nil)));(case hp=>(with_reducible exact pk_nil));(case hb|hd=>rfl);intro b46|apply v_seq|apply v_region|apply v_nil|apply v_pure;(case hop=>first|apply p_move<;>rfl|apply p_assign<;>rfl|apply p_build;(case hz=>rfl);(case hv=>(simp only [List.map_cons,List.map_nil];repeat (first|with_reducible exact evs_nil|apply evs_cons;(case h1=>rfl))));(case hb=>(apply bldL;repeat (first|exact bld_nil|apply bld_cons;(case hpf|hc|hs|hl=>rfl);(case ho=>((repeat (first|with_reducible exact ov_nil|apply ov_cons));done)))))|fail);(case hd=>rfl)|fail)
  have g8:=GrM.snoc hg45
  refine v_frzP n45 (r:=[(b46,_),(b44,_)]) (by apply perm_of_count;intro p;simp only [List.append_eq,List.countP_append,List.countP_cons,List.countP_nil,Nat.zero_add,Nat.add_zero];try ac_rfl) ?_
  intro G3 hle3 hG3
  have hl8:=row_of_grow Cm.len g8 hG3
  clear g8 hg45 hG3 hg42
  obtain ⟨A8,c8,rfl,hlc8,hcm8,hsome8,hcp8⟩:=rowOpen hl8
  have hsl8:=fun μ=>rowSrc (μ:=μ) (c:=c8) Cm.len (by omega) hsome8 hcp8
  have hone8:(rowC Cm.cells (log++[cNop])).all Value.oneCell'=true:=rowC_one Cm.oneC _
  have hlen8:(log++[cNop]).length≤31:=by rw [List.length_append,List.length_singleton];omega
  have hw8:∀ c∈log++[cNop],c.ok∧CmW c:=(cmsW_app hlok (by omega) cNop_ok).2
  have hwit8:=wit_behind hw (c:=cNop) (by decide)
  generalize hL8:log++[cNop]=L8 at *
  repeat' (first|apply v_append (d:=48) (hg:=Grow.empty) (m':=L8.length) (us:=rowC Cm.cells L8) (hp:=PickA.perm (by repeat (exact PickA.here _))) (hsrc:=hsl8 _);(case hzs=>rfl);(case hsz=>omega);(case hs|hx=>rfl);(case hb=>omega);(case hb'=>simp only [maxLen];omega);(case hd=>rfl);(case h1=>assumption);intro v48 n48 hg48|apply v_buildSlice (d:=50);(case hz|hi=>rfl);(case hv=>(simp only [List.map_cons,List.map_nil];repeat (first|with_reducible exact evs_nil|apply evs_cons;(case h1=>rfl))));(case hp=>(apply pk_cons;(case hc|hs=>rfl);(case h=>(with_reducible exact pk_nil));(case he=>((repeat (first|with_reducible exact ap_nil|apply ap_cons));done))));(case hb|hd=>rfl);intro b50|apply v_append (d:=51) (hg:=hg48) (m':=1) (us:=cAct.cells) (hp:=PickA.perm (by repeat (first|exact PickA.here _|apply PickA.cons))) (hsrc:=Src.own (e:=25) (by repeat (exact mhd _)) rfl);(case hzs=>rfl);(case hsz=>omega);(case hs|hx=>rfl);(case hb=>omega);(case hb'=>simp only [maxLen];omega);(case hd|h1=>rfl);intro v51 n51 hg51|apply v_seq|apply v_region|apply v_nil|apply v_pure;(case hop=>first|apply p_move<;>rfl|apply p_assign<;>rfl|apply p_build;(case hz=>rfl);(case hv=>(simp only [List.map_cons,List.map_nil];repeat (first|with_reducible exact evs_nil|apply evs_cons;(case h1=>rfl))));(case hb=>(apply bldL;repeat (first|exact bld_nil|apply bld_cons;(case hpf|hc|hs|hl=>rfl);(case ho=>((repeat (first|with_reducible exact ov_nil|apply ov_cons));done)))))|fail);(case hd=>rfl)|fail)
  have g9:=GrM.snoc hg51
  refine v_frzP n51 (r:=[(b50,_),(b44,_)]) (by apply perm_of_count;intro p;simp only [List.append_eq,List.countP_append,List.countP_cons,List.countP_nil,Nat.zero_add,Nat.add_zero];try ac_rfl) ?_
  intro G4 hle4 hG4
  have hl9:=row_of_grow Cm.len g9 hG4
  clear g9 hg51 hG4 hg48
  have hle24:=GH.le_trans hle3 hle4
  have hle14:=GH.le_trans hle2 hle24
  have hl4:=hl1.mono hle14
  have hs4:=hs1.mono hle14
  have hs24:=hs2.mono hle24
  have hl84:=hl8.mono hle4
  have hT4:=hT1.up hle14
  have hwm:=wit_more hw (x:={ x with e:=0 }) (by simp)
  have hwit9:=wit_behind hwit8 (c:=cAct) (by decide)
  have hwm9:=wit_more hwit9 (x:={ x with e:=0 }) (by simp)
  have hnm:(calls++[{ x with e:=0 }]).length≤1000:=by rw [List.length_append,List.length_singleton];omega
  have q1:=check_s hT4 hl4 hlw hs24 hnm hwm.1
  have q2:=fun G5 (h:GH.le G4 G5)=>check_s (hT4.up h) (hl84.mono h) ⟨by omega,hw8⟩ (hs4.mono h) (by omega) hwit8.1
  have q3:=fun G5 (h:GH.le G4 G5)=>check_s (hT4.up h) (hl9.mono h) (cmsW_app hw8 (by omega) cAct_ok) (hs24.mono h) hnm hwm9.1
  rw [chkW_ok hwm] at q1
  rw [chkW_ok hwit8] at q2
  rw [chkW_ok hwm9] at q3
  have q4:=fun G5 (h:GH.le G4 G5)=>qa G5 (GH.le_trans hle1 (GH.le_trans hle14 h))
  refine v_drop (List.nil_sublist _) ?_
  refine v_call (μ1:=[]) rfl q1 (List.Perm.refl _) rfl ?_
  rintro _ G5 _ hle5 ⟨rfl,rfl⟩
  repeat' (first|apply v_take;(case hg=>rfl)|apply v_pure;(case hop=>first|apply p_move<;>rfl|apply p_eqs<;>rfl|fail);(case hd=>rfl)|fail)
  refine v_call (μ1:=[]) rfl (q2 _ hle5) (List.Perm.refl _) rfl ?_
  rintro _ G6 _ hle6 ⟨rfl,rfl⟩
  repeat' (first|apply v_take;(case hg=>rfl)|apply v_pure;(case hop=>first|apply p_move<;>rfl|apply p_eqs<;>rfl|apply p_pickT<;>rfl|fail);(case hd=>rfl)|fail)
  refine v_call (μ1:=[]) rfl (q3 _ (GH.le_trans hle5 hle6)) (List.Perm.refl _) rfl ?_
  rintro _ G7 _ hle7 ⟨rfl,rfl⟩
  repeat' (first|apply v_take;(case hg=>rfl)|apply v_pure;(case hop=>first|apply p_move<;>rfl|apply p_eqs<;>rfl|apply p_pickT<;>rfl|fail);(case hd=>rfl)|fail)
  refine v_call (μ1:=[]) rfl (q4 _ (GH.le_trans hle5 (GH.le_trans hle6 hle7))) (List.Perm.refl _) rfl ?_
  rintro _ G8 _ hle8 ⟨rfl,rfl⟩
  repeat' (first|apply v_nil|apply v_pure;(case hop=>first|apply p_assign<;>rfl|apply p_pickT<;>rfl|fail);(case hd=>rfl)|fail)
  refine v_ret [] (outsA1 rfl rfl) (by repeat (exact List.Sublist.refl _)) ?_
  rfl
theorem clos_laid:laidOutB Tryz.prog=true:=by kernel_rfl
theorem clos_rowed:mapsRowed Tryz.prog=true:=by kernel_rfl
theorem clos_heard:Tryz.prog.stopsHeard=true:=by kernel_rfl
theorem clos_may:Tryz.prog.mayEnter=true:=by kernel_rfl
theorem clos_lifts:(Rows.witnessMoreRow.lifted == Tryz.prog.liftsFinal)=true:=by kernel_rfl
theorem clos_make:(Tryz.prog.make == some Rows.witnessMoreRow.make)=true:=by kernel_rfl
theorem clos_plain:(Rows.witnessMoreRow.plainKeys == Tryz.prog.plainKeys)=true:=by kernel_rfl
theorem clos_main:Tryz.prog.mainIs=some (true, "81df6a9a11614189dd1c037bff4f71181fabbdec560e79111ed5da0421f3601b".toList):=by kernel_rfl
theorem clos_looks:true=Tryz.prog.looks []:=by kernel_rfl
theorem witnessMore_own : ownKnob Tryz.prog.godebug = none := by kernel_rfl
theorem witnessMore_laidOut : laidOutB Tryz.prog = true := clos_laid
theorem witnessMore_spec : LawSpec Rows.witnessMoreSpec 3 := ⟨rfl, fun H ds h => by match ds, h with | [d0, d1, d2], _ => rfl⟩
set_option maxRecDepth 100000 in
theorem witnessMore_lifted (os : Os) (started : os.Started) (H : Type) (enc : TypeId × Value → H) :
    ReturnsInHanded {} Tryz.checked os 3 .any (fun w args => (Rows.witnessMoreSpec.pre enc Tryz.prog Tryz.f3 Rows.witnessMoreRow.domain false w args ∧ laidMetH Tryz.prog tabsLaid w) ∧ sizedMet enc Tryz.prog Tryz.f3 (OpenSpec.ofChange Rows.witnessMoreSpec) false w args)
      (Rows.witnessMoreSpec.post enc Tryz.prog Tryz.f3 false true false false) := by
  refine returnsInHanded_of_change_and (C := Tryz.checked) (X := fun w _ => laidMetH Tryz.prog tabsLaid w) (fun _ _ _ hh h => h.of_heap hh) witnessMore_own started (by kernel_rfl) Tryz.func3
    (ChangeSpec.witness_shaped (enc := enc) (C := Tryz.checked) (os := os) (X := fun w _ => laidMetH Tryz.prog tabsLaid w) false (World.laidAll Tryz.prog os tabsLaid) #[.slice none 0 0, .slice none 0 0, .agg #[.int .i64 0, .int .i64 0, .int .i64 0, .string ByteArray.empty, .string ByteArray.empty, .string ByteArray.empty, .int .i64 0, .int .i64 0, .int .i64 0, .int .i64 0, .int .i64 0, .int .i64 0, .bool false, .string ByteArray.empty, .int .i64 0]] 8 (World.laidAll_os _ _ _)
      (World.shaped_of_ZipB (by kernel_rfl) (by kernel_rfl)) (by kernel_rfl) (by kernel_rfl) (by kernel_rfl)
      (by rw [MakeChecks.laidMetH_plain _ _ _ tabs_plain]; exact laidMet_laidAll _ (by kernel_rfl) (by kernel_rfl))) ?_
  intro W base args ds gs before hval0 hW hcnd _ hL _
  have hval : ∀ (j : Nat) t v, Tryz.f3.params[j]? = some t → args[j]? = some v → Value.okWide Tryz.prog W .any base t v := hval0
  refine law_post witnessMore_laidOut Tryz.underlying4 rfl witnessMore_spec rfl (by kernel_rfl) hW ?_
  obtain ⟨p, q, hA0, hV, rfl, hfz, hnd⟩ := hW
  have hA : DataW.TrodAll enc Tryz.prog W 0 (fun _ => true) true Tryz.f3.params.toList args.toList ds p := hA0
  rw [Tryz.params3] at hA hval
  obtain ⟨v0, vs0, d0, ds0, p0, q0, hargs, rfl, rfl, h0, r0⟩ := trodAll_cons hA
  obtain ⟨v1, vs1, d1, ds1, p1, q1, rfl, rfl, rfl, h1, r1⟩ := trodAll_cons r0
  obtain ⟨v2, vs2, d2, ds2, p2, q2, rfl, rfl, rfl, h2, r2⟩ := trodAll_cons r1
  obtain ⟨rfl, rfl, rfl⟩ := trodAll_nil r2
  obtain rfl : args = #[v0, v1, v2] := by cases args; simp_all
  have g0 := arg_t22 (hval 0 22 v0 rfl rfl) h0
  have g1 := arg_t23 (hval 1 23 v1 rfl rfl) h1
  have g2 := arg_t30 (hval 2 30 v2 rfl rfl) h2
  exact witnessMore_law (tabs_of_laid hL) g0 g1 g2
theorem witnessMore_c_inPlace : (Rows.witnessMoreRow.inPlace == Tryz.prog.inPlace 3) = true := by kernel_rfl
theorem witnessMore_c_unfollowed : (Rows.witnessMoreRow.unfollowed == Tryz.prog.unfollowed 3) = true := by kernel_rfl
theorem witnessMore_c_recurses : (Rows.witnessMoreRow.recurses == Tryz.prog.recurses 3) = true := by kernel_rfl
theorem witnessMore_c_named : (Rows.witnessMoreRow.named == Tryz.prog.varsNamed 3) = true := by kernel_rfl
theorem witnessMore_c_lifted : (Rows.witnessMoreRow.lifted == Tryz.prog.liftsFinal) = true := clos_lifts
theorem witnessMore_c_make : (Tryz.prog.make == some Rows.witnessMoreRow.make) = true := clos_make
theorem witnessMore_c_plainKeys : (Rows.witnessMoreRow.plainKeys == Tryz.prog.plainKeys) = true := clos_plain
theorem witnessMore_closed : joinedFacts Tryz.prog 3 Tryz.f3 Rows.witnessMoreSpec Rows.witnessMoreRow = true := by
  unfold joinedFacts
  rw [clos_laid, clos_rowed, clos_heard, clos_may, witnessMore_c_inPlace, witnessMore_c_unfollowed, witnessMore_c_recurses, witnessMore_c_named, witnessMore_c_lifted, witnessMore_c_make, witnessMore_c_plainKeys]
  kernel_rfl
theorem witnessMore_over : Rows.witnessMoreRow.holds Tryz.pinned (OpenSpec.ofChange Rows.witnessMoreSpec) :=
  OpenClaim.holds_of_wide 3 Tryz.f3 rfl rfl rfl rfl rfl rfl rfl ⟨rfl, rfl, rfl, rfl, rfl⟩ rfl rfl rfl rfl rfl (by kernel_rfl) Tryz.func3 witnessMore_closed
    (of_decide_eq_true (by kernel_rfl)) (by unfold Func.isWrapper; (rw [if_neg (by decide +kernel)]; exact ⟨rfl, rfl⟩))
    (fun os started H enc _ => witnessMore_lifted os started H enc)
theorem witnessMore_holds : Rows.WitnessMoreSaid := witnessMore_over
theorem witnessMore_c_wft : Rows.witnessMoreRow.wfByText (OpenSpec.ofChange Rows.witnessMoreSpec) = true := by kernel_rfl
theorem witnessMore_c_func : Tryz.prog.funcNamed Rows.witnessMoreRow.func = some 3 := by kernel_rfl
theorem witnessMore_c_stand : ([22, 23, 30].all fun u => !Tryz.prog.wantsStandIn u) = true := by kernel_rfl
theorem witnessMore_c_goes : false = Rows.witnessMoreRow.goesBy Tryz.prog := by kernel_rfl
theorem witnessMoreCard_holds : Rows.WitnessMoreCardSaid :=
  Claim7.holds_tied_plain_at .later [] [.data, .pinned] true (true, "81df6a9a11614189dd1c037bff4f71181fabbdec560e79111ed5da0421f3601b") true witnessMore_holds (fun _ h => by cases h) witnessMore_c_wft (fun _ h => by cases h) witnessMore_row_tie rfl ⟨rfl, rfl⟩ clos_main rfl
    (fun f fn hf hfn => by
      obtain rfl : f = 3 := Option.some.inj (witnessMore_c_func.symm.trans hf) |>.symm
      obtain rfl : fn = Tryz.f3 := (Option.some.inj (Tryz.func3.symm.trans hfn)).symm
      exact ⟨clos_looks, fun j t ht => by
        rw [Tryz.params3] at ht
        have hm : t ∈ [22, 23, 30] := by simpa using Array.mem_of_getElem? ht
        exact (show Tryz.prog.wantsStandIn t = false by simpa using List.all_eq_true.1 witnessMore_c_stand t hm)⟩)
    witnessMore_c_goes
end Go.Proofs.YtlkakbjcolgjbaaGreatDoor
