/-
  VX, SHORT STEPS (printed by genauto.py): a step whose tactics stand once, as what is tried for a premise that is not given.
-/
import Derived.Test.YtnncjoooaknlmaaGreatDoorM1
import Derived.Test.YtnncjoooaknlmaaGreatDoorRows
import Derived.Shelf.Unicode.DecodeAny
import Derived.Shelf.Small.Strs
import Derived.Shelf.Slices.SearchI
import Derived.Shelf.Slices.Delete
import Derived.Shelf.Spec.SlicesInsert
import Derived.Shelf.Spec.SlicesInsertGrow
set_option linter.unusedVariables false
set_option linter.unusedSimpArgs false
namespace Go.Vx
open Go
structure Kp (A:Prop):Prop where
 o:A
theorem sS {a b:OH}(h:List.Sublist a b:=by repeat (first|exact List.Sublist.refl _|exact List.nil_sublist _|apply List.Sublist.cons_cons|apply List.Sublist.cons|exact List.sublist_append_left _ _|apply List.sublist_append_of_sublist_right)):List.Sublist a b:=h
theorem aV {a b:OH}(h:a.Perm b:=by apply perm_of_count;intro p;simp only [List.append_eq,List.countP_append,List.countP_cons,List.countP_nil,Nat.zero_add,Nat.add_zero];try ac_rfl):a.Perm b:=h
theorem aP {a b:OH}(h:a.Perm b:=by first|exact List.Perm.refl _|exact Pick.perm (by repeat (first|exact Pick.here _|apply Pick.there|apply Pick.app))|exact PickA.perm (by repeat (first|exact PickA.last|exact PickA.here _|exact PickA.one _|apply PickA.cons|apply PickA.app))|apply perm_of_count;intro p;simp only [List.append_eq,List.countP_append,List.countP_cons,List.countP_nil,Nat.zero_add,Nat.add_zero];try ac_rfl):a.Perm b:=h
theorem aM {α:Type}{a:α}{b:List α}(h:a∈b:=by (repeat (first|exact List.Mem.head _|apply List.Mem.tail|apply List.mem_append_right))):a∈b:=h
theorem aE {a b:OH}(h:∀ e∈a,e∈b:=by first|(intro e he;first|exact he|(cases he;done)|(simp at he;simp [he];done)|(simp only [List.mem_cons,List.not_mem_nil,or_false] at he;rcases he with rfl|rfl<;>simp;done)|(simp only [List.mem_cons,List.not_mem_nil,or_false] at he;rcases he with rfl|rfl|rfl<;>simp;done)|(refine List.forall_mem_cons.2 ?_;done)|(simp at he ⊢;try omega);done)|((repeat (first|exact List.forall_mem_nil _|(refine List.forall_mem_cons.2 (And.intro (by repeat (first|exact List.Mem.head _|apply List.Mem.tail|apply List.mem_append_right)) ?_))));done)):∀ e∈a,e∈b:=h
theorem Wa {g g':Prop}(k:g') (h:Kp g'→g:=by
 intro k
 first|apply v_seq|apply v_region|apply v_nil|apply v_skip|apply v_block|apply v_blk|apply v_exit;(case hp=>rfl)|apply v_take;(case hg=>rfl)|apply v_pass;(case hg|hn|hd=>rfl)|apply v_passN;(case hg|hn|hd=>rfl)|apply v_pure;(case hop=>first|apply p_move<;>rfl|apply p_eqs<;>rfl|apply p_nes<;>rfl|apply p_eqBs<;>rfl|apply p_neBs<;>rfl|apply p_eq<;>rfl|apply p_lt<;>rfl|apply p_gt<;>rfl|apply p_ne<;>rfl|apply p_le<;>rfl|apply p_ge<;>rfl|apply p_assign<;>rfl|apply p_pickT<;>rfl|apply p_pickF<;>rfl|apply p_not<;>rfl|apply p_lenSlice<;>rfl|apply p_fieldAddrB<;>rfl|apply p_fieldAddr<;>rfl|apply p_nilCheck<;>rfl|apply p_extract0<;>rfl|apply p_extract1<;>rfl|apply p_extract2<;>rfl|apply p_extract<;>rfl|apply p_add;(case hx|hy=>rfl);(case h=>omega)|apply p_sub;(case hx|hy=>rfl);(case h=>omega)|apply p_max<;>rfl|apply p_min<;>rfl|apply p_indexAddrB;(case hx|hi=>rfl);(case h0|h=>omega)|apply p_indexAddr;(case hx|hi=>rfl);(case h0|h=>omega)|apply p_indexAddrA;(case hx|hi=>rfl);(case h0|h=>omega)|apply p_indexAddrS;(case hx|hi=>rfl);(case h0|h=>omega);(case hA=>first|rfl|assumption|apply_assumption;omega)|apply p_lenString<;>rfl|apply p_capSlice<;>rfl|apply p_field1<;>rfl|apply p_fieldNs;(case hx=>rfl);(case hu=>repeat first|with_reducible exact dt_nil|apply dt_here|apply dt_drop)|apply p_makeFunc<;>rfl|apply p_eqB<;>rfl|apply p_neB<;>rfl|apply p_eqNil<;>rfl|apply p_neNil<;>rfl|apply p_iface<;>rfl|apply p_convS<;>rfl|apply p_build;(case hz=>rfl);(case hv=>(simp only [List.map_cons,List.map_nil];repeat (first|with_reducible exact evs_nil|apply evs_cons;(case h1=>rfl))));(case hb=>(apply bldL;repeat (first|exact bld_nil|apply bld_cons;(case hpf|hc|hs|hl=>rfl);(case ho=>(first|((repeat (first|with_reducible exact ov_nil|apply ov_cons|apply ov_there));done)|rfl)))))|apply p_sliceL;(case hx|hl=>rfl);all_goals omega|apply p_sliceH;(case hx|hh=>rfl);all_goals omega|apply p_sliceLH;(case hx|hl|hh=>rfl);all_goals omega|apply p_slice3;(case hx|hh|hq=>rfl);all_goals omega|apply p_convB<;>rfl|apply p_conv64;(case hx=>rfl);(case h=>omega)|apply p_sliceStrL;(case hx|hl=>rfl);all_goals omega|apply p_sliceStrH;(case hx|hh=>rfl);all_goals omega|apply p_pickAnd<;>rfl|apply p_pickOr<;>rfl|apply p_assertOk<;>rfl|apply p_assertNo<;>rfl|apply p_indexSn;(case hx|hi=>rfl);all_goals omega|apply p_indexSb;(case hx|hi=>rfl);all_goals omega|apply p_and64<;>rfl|apply p_quo;(case hx|hy=>rfl);all_goals omega|apply p_rem0;(case hx|hy=>rfl);all_goals omega|apply p_mul;(case hx|hy=>rfl);(case h=>omega)|apply p_eqS<;>rfl|apply p_neS<;>rfl|apply p_eqNilSlice<;>rfl|apply p_neNilSlice<;>rfl);(case hd=>rfl)|apply v_condT;(case hc=>rfl)|apply v_condF;(case hc=>rfl)|fail
 exact k.o):g:=h ⟨k⟩
theorem Wr {g g':Prop}(k:g') (h:Kp g'→g:=by
 intro k
 first|apply v_read;(case hop=>first|apply r_loadNo;(case hx=>rfl);(case h=>repeat first|exact List.Mem.head _|apply List.Mem.tail|apply List.mem_append_right);(case hd=>repeat first|with_reducible exact dt_nil|apply dt_here|apply dt_drop);(case hn=>rfl)|apply r_load1;rfl;(apply Cell.own;(case h=>repeat first|exact List.Mem.head _|apply List.Mem.tail|apply List.mem_append_right);rfl)|apply r_loadN;rfl;(apply CellsAt.own;(case h=>repeat first|exact List.Mem.head _|apply List.Mem.tail|apply List.mem_append_right));rfl|fail);(case hd=>rfl)|apply v_store;(case hp|hx|hc|hsz|h1=>rfl);(case hb=>repeat first|exact List.Mem.head _|apply List.Mem.tail|apply List.mem_append_right);(case hfit=>first|exact Nat.le_of_ble_eq_true rfl|(simp;omega));(case hov=>(first|((repeat (first|with_reducible exact ov_nil|apply ov_cons|apply ov_there));done)|rfl));(case hu=>repeat first|exact Upd.here _ _|apply Upd.there|apply Upd.app)|fail
 exact k.o):g:=h ⟨k⟩
theorem Wb {g:Prop}{p:Nat→Prop}(k:∀ b,p b) (h:Kp (∀ b,p b)→g:=by
 intro k
 first|apply v_buildSlice;(case hz|hi=>rfl);(case hv=>(simp only [List.map_cons,List.map_nil];repeat (first|with_reducible exact evs_nil|apply evs_cons;(case h1=>rfl))));(case hp=>(first|with_reducible exact pk_nil|apply pk_cons;(case hc|hs=>rfl);(case h=>(first|with_reducible exact pk_nil|apply pk_cons;(case hc|hs=>rfl);(case h=>(first|with_reducible exact pk_nil|apply pk_cons;(case hc|hs=>rfl);(case h=>(first|with_reducible exact pk_nil|apply pk_cons;(case hc|hs=>rfl);(case h=>(first|with_reducible exact pk_nil|apply pk_cons;(case hc|hs=>rfl);(case h=>(first|with_reducible exact pk_nil|apply pk_cons;(case hc|hs=>rfl);(case h=>(first|with_reducible exact pk_nil|apply pk_cons;(case hc|hs=>rfl);(case h=>(first|with_reducible exact pk_nil|apply pk_cons;(case hc|hs=>rfl);(case h=>(with_reducible exact pk_nil));(case he=>(first|((repeat (first|with_reducible exact ap_nil|apply ap_cons));done)|rfl))|rfl));(case he=>(first|((repeat (first|with_reducible exact ap_nil|apply ap_cons));done)|rfl))|rfl));(case he=>(first|((repeat (first|with_reducible exact ap_nil|apply ap_cons));done)|rfl))|rfl));(case he=>(first|((repeat (first|with_reducible exact ap_nil|apply ap_cons));done)|rfl))|rfl));(case he=>(first|((repeat (first|with_reducible exact ap_nil|apply ap_cons));done)|rfl))|rfl));(case he=>(first|((repeat (first|with_reducible exact ap_nil|apply ap_cons));done)|rfl))|rfl));(case he=>(first|((repeat (first|with_reducible exact ap_nil|apply ap_cons));done)|rfl))|rfl));(case he=>(first|((repeat (first|with_reducible exact ap_nil|apply ap_cons));done)|rfl))|rfl));(case hb|hd=>rfl)|apply v_alloc;(case hz|hd=>rfl)|apply v_box;(case hx|hz|hd=>rfl)|apply v_rangeS;(case hx|hd=>rfl)|fail
 exact k.o):g:=h ⟨k⟩
theorem Wc {g A B:Prop}(k:A∧B) (h:Kp A→Kp B→g:=by
 intro kA kB
 first|apply v_cond;(case hc=>rfl)|apply v_guardB;(case h1|h2=>rfl)|fail
 focus
  first
  |(have kz:Kp True:=kA;intro h;(try simp only [reduceCtorEq,dec_true,dec_false,decide_eq_true_eq,decide_eq_false_iff_not,Bool.not_eq_true',Bool.not_eq_false',Option.isNone_iff_eq_none,beq_true,beq_false,beq_iff_eq,beq_eq_false_iff_ne,ne_eq,decide_eq_decide,Bool.not_eq_true,Bool.not_eq_false,Decidable.not_not] at h);first|done|(exfalso;omega)|(exfalso;exact h (by with_reducible assumption))|(exfalso;revert h;rw [imp_false];with_reducible assumption))
  |(intro h;(try simp only [reduceCtorEq,dec_true,dec_false,decide_eq_true_eq,decide_eq_false_iff_not,Bool.not_eq_true',Bool.not_eq_false',Option.isNone_iff_eq_none,beq_true,beq_false,beq_iff_eq,beq_eq_false_iff_ne,ne_eq,decide_eq_decide,Bool.not_eq_true,Bool.not_eq_false,Decidable.not_not] at h);revert h;exact kA.o)
  | fail
 focus
  first
  |(have kz:Kp True:=kB;intro h;(try simp only [reduceCtorEq,dec_true,dec_false,decide_eq_true_eq,decide_eq_false_iff_not,Bool.not_eq_true',Bool.not_eq_false',Option.isNone_iff_eq_none,beq_true,beq_false,beq_iff_eq,beq_eq_false_iff_ne,ne_eq,decide_eq_decide,Bool.not_eq_true,Bool.not_eq_false,Decidable.not_not] at h);first|done|(exfalso;omega)|(exfalso;exact h (by with_reducible assumption))|(exfalso;revert h;rw [imp_false];with_reducible assumption))
  |(intro h;(try simp only [reduceCtorEq,dec_true,dec_false,decide_eq_true_eq,decide_eq_false_iff_not,Bool.not_eq_true',Bool.not_eq_false',Option.isNone_iff_eq_none,beq_true,beq_false,beq_iff_eq,beq_eq_false_iff_ne,ne_eq,decide_eq_decide,Bool.not_eq_true,Bool.not_eq_false,Decidable.not_not] at h);revert h;exact kB.o)
  | fail):g:=h ⟨k.1⟩ ⟨k.2⟩
attribute [local semireducible] Vc DVc Con PureOp ReadOp MoveOp
structure Tk (i:Nat) (g' g:Prop):Prop where
 h:Kp g'→g
structure Tl (l:List Nat) (g' g:Prop):Prop where
 h:Kp g'→g
theorem tl_nil {g:Prop}:Tl [] g g:=⟨fun k=>k.o⟩
theorem tl_cons {i:Nat}{l:List Nat}{g1 g' g:Prop}(h1:Tk i g1 g) (h2:Tl l g' g1):Tl (i::l) g' g:=⟨fun k=>h1.h ⟨h2.h k⟩⟩
section
variable {P:Program}{fn:Func}{n:Nat}{B:Base}{Φ:Value→GH→OH→Prop}{k:List It}{σ:Env}{G G0:GH}{μ:OH}{all:Array Oper}{rest:List Oper}{m:Nat}{listed:Array Bool}{d:Nat}{op:Op}{ty:TypeId}{pos:String}{af:Array Edge}{v:Value}{ν:OH}{t:TypeId}{bytes:Nat}{zero:Value}
theorem tk_take {i:Nat}(hi:all[i]? = some ⟨some d,op,ty,pos,af,none⟩) (hop:ReadOp P op ty σ G0 ν v) (hf:Region.free .any all listed i=true) (hr:(Region.ready .any all listed).contains i=true) (hd:Nat.blt d n=true):Tk i (DVc P fn n B Φ all G0 ν m (listed.setIfInBounds i true) k ((d,v)::σ) G μ) (DVc P fn n B Φ all G0 ν (m+1) listed k σ G μ) :=
 ⟨fun h=>d_take i hi hf hr hop hd h.o⟩
theorem tk_takeG {i:Nat}{j:Nat}{b:Bool}(hi:all[i]? = some ⟨some d,op,ty,pos,af,some (j,b)⟩) (hg:guardVal all σ j=some b) (hop:ReadOp P op ty σ G0 ν v) (hf:Region.free .any all listed i=true) (hr:(Region.ready .any all listed).contains i=true) (hd:Nat.blt d n=true):Tk i (DVc P fn n B Φ all G0 ν m (listed.setIfInBounds i true) k ((d,v)::σ) G μ) (DVc P fn n B Φ all G0 ν (m+1) listed k σ G μ) :=
 ⟨fun h=>d_takeG i hi hg hf hr hop hd h.o⟩
theorem tk_pass {i:Nat}{j:Nat}{b c:Bool}(hi:all[i]? = some ⟨some d,op,ty,pos,af,some (j,c)⟩) (hg:guardVal all σ j=some b) (hn:(b == c)=false) (hf:Region.free .any all listed i=true) (hr:(Region.ready .any all listed).contains i=true) (hd:Nat.blt d n=true):Tk i (DVc P fn n B Φ all G0 ν m (listed.setIfInBounds i true) k ((d,undef)::σ) G μ) (DVc P fn n B Φ all G0 ν (m+1) listed k σ G μ) :=
 ⟨fun h=>d_pass i hi hg hn hf hr hd h.o⟩
theorem tk_passN {i:Nat}{j:Nat}{c:Bool}(hi:all[i]? = some ⟨some d,op,ty,pos,af,some (j,c)⟩) (hg:guardRaw all σ j=some v) (hn:notBool v=true) (hf:Region.free .any all listed i=true) (hr:(Region.ready .any all listed).contains i=true) (hd:Nat.blt d n=true):Tk i (DVc P fn n B Φ all G0 ν m (listed.setIfInBounds i true) k ((d,undef)::σ) G μ) (DVc P fn n B Φ all G0 ν (m+1) listed k σ G μ) :=
 ⟨fun h=>d_passN i hi hg hn hf hr hd h.o⟩
end
theorem Dt (l:List Nat) {g g':Prop}(k:g') (h:Tl l g' g:=by
 repeat (apply tl_cons;(case h1=>first|apply tk_take;(case hi=>rfl);(case hop=>first|apply PureOp.read;apply p_move<;>rfl|apply PureOp.read;apply p_eqs<;>rfl|apply PureOp.read;apply p_nes<;>rfl|apply PureOp.read;apply p_eqBs<;>rfl|apply PureOp.read;apply p_neBs<;>rfl|apply PureOp.read;apply p_eq<;>rfl|apply PureOp.read;apply p_lt<;>rfl|apply PureOp.read;apply p_gt<;>rfl|apply PureOp.read;apply p_ne<;>rfl|apply PureOp.read;apply p_le<;>rfl|apply PureOp.read;apply p_ge<;>rfl|apply PureOp.read;apply p_assign<;>rfl|apply PureOp.read;apply p_pickT<;>rfl|apply PureOp.read;apply p_pickF<;>rfl|apply PureOp.read;apply p_not<;>rfl|apply PureOp.read;apply p_lenSlice<;>rfl|apply PureOp.read;apply p_fieldAddrB<;>rfl|apply PureOp.read;apply p_fieldAddr<;>rfl|apply PureOp.read;apply p_nilCheck<;>rfl|apply PureOp.read;apply p_extract0<;>rfl|apply PureOp.read;apply p_extract1<;>rfl|apply PureOp.read;apply p_extract2<;>rfl|apply PureOp.read;apply p_extract<;>rfl|apply PureOp.read;apply p_add;(case hx|hy=>rfl);(case h=>omega)|apply PureOp.read;apply p_sub;(case hx|hy=>rfl);(case h=>omega)|apply PureOp.read;apply p_max<;>rfl|apply PureOp.read;apply p_min<;>rfl|apply PureOp.read;apply p_indexAddrB;(case hx|hi=>rfl);(case h0|h=>omega)|apply PureOp.read;apply p_indexAddr;(case hx|hi=>rfl);(case h0|h=>omega)|apply PureOp.read;apply p_indexAddrA;(case hx|hi=>rfl);(case h0|h=>omega)|apply PureOp.read;apply p_indexAddrS;(case hx|hi=>rfl);(case h0|h=>omega);(case hA=>first|rfl|assumption|apply_assumption;omega)|apply PureOp.read;apply p_lenString<;>rfl|apply PureOp.read;apply p_capSlice<;>rfl|apply PureOp.read;apply p_field1<;>rfl|apply PureOp.read;apply p_fieldNs;(case hx=>rfl);(case hu=>repeat first|with_reducible exact dt_nil|apply dt_here|apply dt_drop)|apply PureOp.read;apply p_makeFunc<;>rfl|apply PureOp.read;apply p_eqB<;>rfl|apply PureOp.read;apply p_neB<;>rfl|apply PureOp.read;apply p_eqNil<;>rfl|apply PureOp.read;apply p_neNil<;>rfl|apply PureOp.read;apply p_iface<;>rfl|apply PureOp.read;apply p_convS<;>rfl|apply PureOp.read;apply p_build;(case hz=>rfl);(case hv=>(simp only [List.map_cons,List.map_nil];repeat (first|with_reducible exact evs_nil|apply evs_cons;(case h1=>rfl))));(case hb=>(apply bldL;repeat (first|exact bld_nil|apply bld_cons;(case hpf|hc|hs|hl=>rfl);(case ho=>(first|((repeat (first|with_reducible exact ov_nil|apply ov_cons|apply ov_there));done)|rfl)))))|apply PureOp.read;apply p_sliceL;(case hx|hl=>rfl);all_goals omega|apply PureOp.read;apply p_sliceH;(case hx|hh=>rfl);all_goals omega|apply PureOp.read;apply p_sliceLH;(case hx|hl|hh=>rfl);all_goals omega|apply PureOp.read;apply p_slice3;(case hx|hh|hq=>rfl);all_goals omega|apply PureOp.read;apply p_convB<;>rfl|apply PureOp.read;apply p_conv64;(case hx=>rfl);(case h=>omega)|apply PureOp.read;apply p_sliceStrL;(case hx|hl=>rfl);all_goals omega|apply PureOp.read;apply p_sliceStrH;(case hx|hh=>rfl);all_goals omega|apply PureOp.read;apply p_pickAnd<;>rfl|apply PureOp.read;apply p_pickOr<;>rfl|apply PureOp.read;apply p_assertOk<;>rfl|apply PureOp.read;apply p_assertNo<;>rfl|apply PureOp.read;apply p_indexSn;(case hx|hi=>rfl);all_goals omega|apply PureOp.read;apply p_indexSb;(case hx|hi=>rfl);all_goals omega|apply PureOp.read;apply p_and64<;>rfl|apply PureOp.read;apply p_quo;(case hx|hy=>rfl);all_goals omega|apply PureOp.read;apply p_rem0;(case hx|hy=>rfl);all_goals omega|apply PureOp.read;apply p_mul;(case hx|hy=>rfl);(case h=>omega)|apply PureOp.read;apply p_eqS<;>rfl|apply PureOp.read;apply p_neS<;>rfl|apply PureOp.read;apply p_eqNilSlice<;>rfl|apply PureOp.read;apply p_neNilSlice<;>rfl|apply r_loadNo;(case hx=>rfl);(case h=>repeat first|exact List.Mem.head _|apply List.Mem.tail|apply List.mem_append_right);(case hd=>repeat first|with_reducible exact dt_nil|apply dt_here|apply dt_drop);(case hn=>rfl)|apply r_load1;rfl;(apply Cell.own;(case h=>repeat first|exact List.Mem.head _|apply List.Mem.tail|apply List.mem_append_right);rfl)|apply r_loadN;rfl;(apply CellsAt.own;(case h=>repeat first|exact List.Mem.head _|apply List.Mem.tail|apply List.mem_append_right));rfl);(case hf=>kernel_rfl);(case hr=>kernel_rfl);(case hd=>rfl)|apply tk_pass;(case hi|hg|hn=>rfl);(case hf=>kernel_rfl);(case hr=>kernel_rfl);(case hd=>rfl)|apply tk_passN;(case hi|hg|hn=>rfl);(case hf=>kernel_rfl);(case hr=>kernel_rfl);(case hd=>rfl)|apply tk_takeG;(case hi|hg=>rfl);(case hop=>first|apply PureOp.read;apply p_move<;>rfl|apply PureOp.read;apply p_eqs<;>rfl|apply PureOp.read;apply p_nes<;>rfl|apply PureOp.read;apply p_eqBs<;>rfl|apply PureOp.read;apply p_neBs<;>rfl|apply PureOp.read;apply p_eq<;>rfl|apply PureOp.read;apply p_lt<;>rfl|apply PureOp.read;apply p_gt<;>rfl|apply PureOp.read;apply p_ne<;>rfl|apply PureOp.read;apply p_le<;>rfl|apply PureOp.read;apply p_ge<;>rfl|apply PureOp.read;apply p_assign<;>rfl|apply PureOp.read;apply p_pickT<;>rfl|apply PureOp.read;apply p_pickF<;>rfl|apply PureOp.read;apply p_not<;>rfl|apply PureOp.read;apply p_lenSlice<;>rfl|apply PureOp.read;apply p_fieldAddrB<;>rfl|apply PureOp.read;apply p_fieldAddr<;>rfl|apply PureOp.read;apply p_nilCheck<;>rfl|apply PureOp.read;apply p_extract0<;>rfl|apply PureOp.read;apply p_extract1<;>rfl|apply PureOp.read;apply p_extract2<;>rfl|apply PureOp.read;apply p_extract<;>rfl|apply PureOp.read;apply p_add;(case hx|hy=>rfl);(case h=>omega)|apply PureOp.read;apply p_sub;(case hx|hy=>rfl);(case h=>omega)|apply PureOp.read;apply p_max<;>rfl|apply PureOp.read;apply p_min<;>rfl|apply PureOp.read;apply p_indexAddrB;(case hx|hi=>rfl);(case h0|h=>omega)|apply PureOp.read;apply p_indexAddr;(case hx|hi=>rfl);(case h0|h=>omega)|apply PureOp.read;apply p_indexAddrA;(case hx|hi=>rfl);(case h0|h=>omega)|apply PureOp.read;apply p_indexAddrS;(case hx|hi=>rfl);(case h0|h=>omega);(case hA=>first|rfl|assumption|apply_assumption;omega)|apply PureOp.read;apply p_lenString<;>rfl|apply PureOp.read;apply p_capSlice<;>rfl|apply PureOp.read;apply p_field1<;>rfl|apply PureOp.read;apply p_fieldNs;(case hx=>rfl);(case hu=>repeat first|with_reducible exact dt_nil|apply dt_here|apply dt_drop)|apply PureOp.read;apply p_makeFunc<;>rfl|apply PureOp.read;apply p_eqB<;>rfl|apply PureOp.read;apply p_neB<;>rfl|apply PureOp.read;apply p_eqNil<;>rfl|apply PureOp.read;apply p_neNil<;>rfl|apply PureOp.read;apply p_iface<;>rfl|apply PureOp.read;apply p_convS<;>rfl|apply PureOp.read;apply p_build;(case hz=>rfl);(case hv=>(simp only [List.map_cons,List.map_nil];repeat (first|with_reducible exact evs_nil|apply evs_cons;(case h1=>rfl))));(case hb=>(apply bldL;repeat (first|exact bld_nil|apply bld_cons;(case hpf|hc|hs|hl=>rfl);(case ho=>(first|((repeat (first|with_reducible exact ov_nil|apply ov_cons|apply ov_there));done)|rfl)))))|apply PureOp.read;apply p_sliceL;(case hx|hl=>rfl);all_goals omega|apply PureOp.read;apply p_sliceH;(case hx|hh=>rfl);all_goals omega|apply PureOp.read;apply p_sliceLH;(case hx|hl|hh=>rfl);all_goals omega|apply PureOp.read;apply p_slice3;(case hx|hh|hq=>rfl);all_goals omega|apply PureOp.read;apply p_convB<;>rfl|apply PureOp.read;apply p_conv64;(case hx=>rfl);(case h=>omega)|apply PureOp.read;apply p_sliceStrL;(case hx|hl=>rfl);all_goals omega|apply PureOp.read;apply p_sliceStrH;(case hx|hh=>rfl);all_goals omega|apply PureOp.read;apply p_pickAnd<;>rfl|apply PureOp.read;apply p_pickOr<;>rfl|apply PureOp.read;apply p_assertOk<;>rfl|apply PureOp.read;apply p_assertNo<;>rfl|apply PureOp.read;apply p_indexSn;(case hx|hi=>rfl);all_goals omega|apply PureOp.read;apply p_indexSb;(case hx|hi=>rfl);all_goals omega|apply PureOp.read;apply p_and64<;>rfl|apply PureOp.read;apply p_quo;(case hx|hy=>rfl);all_goals omega|apply PureOp.read;apply p_rem0;(case hx|hy=>rfl);all_goals omega|apply PureOp.read;apply p_mul;(case hx|hy=>rfl);(case h=>omega)|apply PureOp.read;apply p_eqS<;>rfl|apply PureOp.read;apply p_neS<;>rfl|apply PureOp.read;apply p_eqNilSlice<;>rfl|apply PureOp.read;apply p_neNilSlice<;>rfl|apply r_loadNo;(case hx=>rfl);(case h=>repeat first|exact List.Mem.head _|apply List.Mem.tail|apply List.mem_append_right);(case hd=>repeat first|with_reducible exact dt_nil|apply dt_here|apply dt_drop);(case hn=>rfl)|apply r_load1;rfl;(apply Cell.own;(case h=>repeat first|exact List.Mem.head _|apply List.Mem.tail|apply List.mem_append_right);rfl)|apply r_loadN;rfl;(apply CellsAt.own;(case h=>repeat first|exact List.Mem.head _|apply List.Mem.tail|apply List.mem_append_right));rfl);(case hf=>kernel_rfl);(case hr=>kernel_rfl);(case hd=>rfl)|fail))
 exact tl_nil):g:=h.h ⟨k⟩
section
variable {P:Program}{fn:Func}{n:Nat}{B:Base}{Φ:Value→GH→OH→Prop}{k:List It}{σ:Env}{G G0:GH}{μ:OH}{all:Array Oper}{rest:List Oper}{m:Nat}{listed:Array Bool}{d:Nat}{op:Op}{ty:TypeId}{pos:String}{af:Array Edge}{v:Value}{ν:OH}{t:TypeId}{bytes:Nat}{zero:Value}
structure Gd (i:Nat) (g:Prop):Prop where
 h:g
theorem gd_mk {i:Nat}{o:Oper}{j t:Nat}{c b:Bool}(hi:all[i]? = some o) (hgd:o.guard=some (j,c)) (h1:(all[j]?).bind (·.dst)=some t) (h2:Env.get σ t=some (.bool b)) (ht:b=true→DVc P fn n B Φ all G0 ν m listed k ((t,.bool true)::σ) G μ) (hf:b=false→DVc P fn n B Φ all G0 ν m listed k ((t,.bool false)::σ) G μ):Gd i (DVc P fn n B Φ all G0 ν m listed k σ G μ):=⟨d_guardB i hi hgd h1 h2 ht hf⟩
end
theorem Dg (i:Nat) {g A B:Prop}(k:A∧B) (h:Kp A→Kp B→Gd i g:=by
 intro kA kB
 first|apply gd_mk;(case hi|hgd|h1=>rfl);(case h2=>first|(with_reducible rfl;fail)|rfl)|fail
 focus
  first
  |(have kz:Kp True:=kA;intro h;(try simp only [reduceCtorEq,dec_true,dec_false,decide_eq_true_eq,decide_eq_false_iff_not,Bool.not_eq_true',Bool.not_eq_false',Option.isNone_iff_eq_none,beq_true,beq_false,beq_iff_eq,beq_eq_false_iff_ne,ne_eq,decide_eq_decide,Bool.not_eq_true,Bool.not_eq_false,Decidable.not_not] at h);first|done|(exfalso;omega)|(exfalso;exact h (by with_reducible assumption))|(exfalso;revert h;rw [imp_false];with_reducible assumption))
  |(intro h;(try simp only [reduceCtorEq,dec_true,dec_false,decide_eq_true_eq,decide_eq_false_iff_not,Bool.not_eq_true',Bool.not_eq_false',Option.isNone_iff_eq_none,beq_true,beq_false,beq_iff_eq,beq_eq_false_iff_ne,ne_eq,decide_eq_decide,Bool.not_eq_true,Bool.not_eq_false,Decidable.not_not] at h);revert h;exact kA.o)
  | fail
 focus
  first
  |(have kz:Kp True:=kB;intro h;(try simp only [reduceCtorEq,dec_true,dec_false,decide_eq_true_eq,decide_eq_false_iff_not,Bool.not_eq_true',Bool.not_eq_false',Option.isNone_iff_eq_none,beq_true,beq_false,beq_iff_eq,beq_eq_false_iff_ne,ne_eq,decide_eq_decide,Bool.not_eq_true,Bool.not_eq_false,Decidable.not_not] at h);first|done|(exfalso;omega)|(exfalso;exact h (by with_reducible assumption))|(exfalso;revert h;rw [imp_false];with_reducible assumption))
  |(intro h;(try simp only [reduceCtorEq,dec_true,dec_false,decide_eq_true_eq,decide_eq_false_iff_not,Bool.not_eq_true',Bool.not_eq_false',Option.isNone_iff_eq_none,beq_true,beq_false,beq_iff_eq,beq_eq_false_iff_ne,ne_eq,decide_eq_decide,Bool.not_eq_true,Bool.not_eq_false,Decidable.not_not] at h);revert h;exact kB.o)
  | fail):g:=(h ⟨k.1⟩ ⟨k.2⟩).h
section
variable {P:Program}{fn:Func}{n:Nat}{B:Base}{Φ:Value→GH→OH→Prop}{k:List It}{σ:Env}{G G0:GH}{μ:OH}{all:Array Oper}{rest:List Oper}{m:Nat}{listed:Array Bool}{d:Nat}{op:Op}{ty:TypeId}{pos:String}{af:Array Edge}{v:Value}{ν:OH}{t:TypeId}{bytes:Nat}{zero:Value}
theorem Rf {a:Addr}(hc:GH.cell? G a=some v) (k':Vc P fn n B Φ (.ops all rest::k) ((d,v)::σ) G μ) {x:Operand}{sz:Nat} [Lay P t false sz bytes zero] (hx:Env.ev σ x=some (.pointer (some a)):=by rfl) (hd:Nat.blt d n=true:=by rfl):Vc P fn n B Φ (.ops all (⟨some d,.load t x,ty,pos,af,none⟩::rest)::k) σ G μ:=v_read (r_load1 hx (Cell.frozen hc)) hd k'
theorem RN {a:Addr}{vs:List Value}(hc:CellsG G a vs) (k':Vc P fn n B Φ (.ops all rest::k) ((d,.agg vs.toArray)::σ) G μ) {x:Operand}{sz:Nat} [Lay P t true sz bytes zero] (hx:Env.ev σ x=some (.pointer (some a)):=by rfl) (hn:vs.length=sz:=by rfl) (hd:Nat.blt d n=true:=by rfl):Vc P fn n B Φ (.ops all (⟨some d,.load t x,ty,pos,af,none⟩::rest)::k) σ G μ:=v_read (r_loadN hx (CellsAt.frozen hc) hn) hd k'
theorem T1 (i:Nat) {a:Addr}(hc:GH.cell? G0 a=some v) (k':DVc P fn n B Φ all G0 ν m (listed.setIfInBounds i true) k ((d,v)::σ) G μ) {x:Operand}{sz:Nat} [Lay P t false sz bytes zero] (hi:all[i]? = some ⟨some d,.load t x,ty,pos,af,none⟩:=by rfl) (hx:Env.ev σ x=some (.pointer (some a)):=by rfl) (hf:Region.free .any all listed i=true:=by kernel_rfl) (hr:(Region.ready .any all listed).contains i=true:=by kernel_rfl) (hd:Nat.blt d n=true:=by rfl):DVc P fn n B Φ all G0 ν (m+1) listed k σ G μ:=d_take i hi hf hr (r_load1 hx (Cell.frozen hc)) hd k'
theorem TN (i:Nat) {a:Addr}{vs:List Value}(hc:CellsG G0 a vs) (k':DVc P fn n B Φ all G0 ν m (listed.setIfInBounds i true) k ((d,.agg vs.toArray)::σ) G μ) {x:Operand}{sz:Nat} [Lay P t true sz bytes zero] (hi:all[i]? = some ⟨some d,.load t x,ty,pos,af,none⟩:=by rfl) (hx:Env.ev σ x=some (.pointer (some a)):=by rfl) (hn:vs.length=sz:=by rfl) (hf:Region.free .any all listed i=true:=by kernel_rfl) (hr:(Region.ready .any all listed).contains i=true:=by kernel_rfl) (hd:Nat.blt d n=true:=by rfl):DVc P fn n B Φ all G0 ν (m+1) listed k σ G μ:=d_take i hi hf hr (r_loadN hx (CellsAt.frozen hc) hn) hd k'
theorem Tv (i:Nat) (k':DVc P fn n B Φ all G0 ν m (listed.setIfInBounds i true) k ((d,v)::σ) G μ) (hi:all[i]? = some ⟨some d,op,ty,pos,af,none⟩:=by rfl) (hop:ReadOp P op ty σ G0 ν v) (hf:Region.free .any all listed i=true:=by kernel_rfl) (hr:(Region.ready .any all listed).contains i=true:=by kernel_rfl) (hd:Nat.blt d n=true:=by rfl):DVc P fn n B Φ all G0 ν (m+1) listed k σ G μ:=d_take i hi hf hr hop hd k'
theorem TvG (i:Nat) {j:Nat}{b:Bool}(k':DVc P fn n B Φ all G0 ν m (listed.setIfInBounds i true) k ((d,v)::σ) G μ) (hi:all[i]? = some ⟨some d,op,ty,pos,af,some (j,b)⟩:=by rfl) (hg:guardVal all σ j=some b:=by rfl) (hop:ReadOp P op ty σ G0 ν v) (hf:Region.free .any all listed i=true:=by kernel_rfl) (hr:(Region.ready .any all listed).contains i=true:=by kernel_rfl) (hd:Nat.blt d n=true:=by rfl):DVc P fn n B Φ all G0 ν (m+1) listed k σ G μ:=d_takeG i hi hg hf hr hop hd k'
theorem cJ {f:FuncId} [Callable P f] {args:List Operand}{ts:Array TypeId}{vs:List Value}(hs:Con P f vs.toArray G [] (Just v G)) (k':Vc P fn n B Φ (.ops all rest::k) ((d,v)::σ) G μ) (ha:Env.evs σ args=some vs:=by rfl) (hd:Nat.blt d n=true:=by rfl):Vc P fn n B Φ (.ops all (⟨some d,.call { callee:=.value (.func f),args:=args.toArray,argTypes:=ts },ty,pos,af,none⟩::rest)::k) σ G μ:=v_callJ ha hs hd k'
theorem cK {f:FuncId} [Callable P f] {args:List Operand}{ts:Array TypeId}{vs:List Value}{μ1 μ2:OH}(hs:Con P f vs.toArray G μ1 (Keeps v G μ1)) (k':Vc P fn n B Φ (.ops all rest::k) ((d,v)::σ) G μ) (ha:Env.evs σ args=some vs:=by rfl) (hp:μ.Perm (μ1++μ2):=by first|exact List.Perm.refl _|exact Pick.perm (by repeat (first|exact Pick.here _|apply Pick.there|apply Pick.app))|exact PickA.perm (by repeat (first|exact PickA.last|exact PickA.here _|exact PickA.one _|apply PickA.cons|apply PickA.app))|apply perm_of_count;intro p;simp only [List.append_eq,List.countP_append,List.countP_cons,List.countP_nil,Nat.zero_add,Nat.add_zero];try ac_rfl) (hd:Nat.blt d n=true:=by rfl):Vc P fn n B Φ (.ops all (⟨some d,.call { callee:=.value (.func f),args:=args.toArray,argTypes:=ts },ty,pos,af,none⟩::rest)::k) σ G μ:=v_callK ha hs hp hd k'
theorem cQ {f:FuncId} [Callable P f] {args:List Operand}{ts:Array TypeId}{vs:List Value}{Ψ:Value→GH→OH→Prop}(ha:Env.evs σ args=some vs) (hs:Con P f vs.toArray G [] Ψ) (h:∀ v G' μ1',GH.le G G'→Ψ v G' μ1'→Vc P fn n B Φ (.ops all rest::k) ((d,v)::σ) G' (μ1'++μ)) (hd:Nat.blt d n=true:=by rfl):Vc P fn n B Φ (.ops all (⟨some d,.call { callee:=.value (.func f),args:=args.toArray,argTypes:=ts },ty,pos,af,none⟩::rest)::k) σ G μ:=v_call ha hs (List.Perm.refl _) hd h
theorem DJ (i:Nat) {f:FuncId} [Callable P f] {args:List Operand}{ts:Array TypeId}{vs:List Value}(hs:Con P f vs.toArray G [] (Just v G)) (k':DVc P fn n B Φ all G0 ν m (listed.setIfInBounds i true) k ((d,v)::σ) G μ) (hi:all[i]? = some ⟨some d,.call { callee:=.value (.func f),args:=args.toArray,argTypes:=ts },ty,pos,af,none⟩:=by rfl) (hr:Region.ready .any all listed=[i]:=by kernel_rfl) (ha:Env.evs σ args=some vs:=by rfl) (hd:Nat.blt d n=true:=by rfl):DVc P fn n B Φ all G0 ν (m+1) listed k σ G μ:=d_callJ i hi hr ha hs hd k'
theorem DK (i:Nat) {f:FuncId} [Callable P f] {args:List Operand}{ts:Array TypeId}{vs:List Value}{μ1 μ2:OH}(hs:Con P f vs.toArray G μ1 (Keeps v G μ1)) (k':DVc P fn n B Φ all G0 ν m (listed.setIfInBounds i true) k ((d,v)::σ) G μ) (hi:all[i]? = some ⟨some d,.call { callee:=.value (.func f),args:=args.toArray,argTypes:=ts },ty,pos,af,none⟩:=by rfl) (hr:Region.ready .any all listed=[i]:=by kernel_rfl) (ha:Env.evs σ args=some vs:=by rfl) (hp:μ.Perm (μ1++μ2):=by first|exact List.Perm.refl _|exact Pick.perm (by repeat (first|exact Pick.here _|apply Pick.there|apply Pick.app))|exact PickA.perm (by repeat (first|exact PickA.last|exact PickA.here _|exact PickA.one _|apply PickA.cons|apply PickA.app))|apply perm_of_count;intro p;simp only [List.append_eq,List.countP_append,List.countP_cons,List.countP_nil,Nat.zero_add,Nat.add_zero];try ac_rfl) (hd:Nat.blt d n=true:=by rfl):DVc P fn n B Φ all G0 ν (m+1) listed k σ G μ:=d_callK i hi hr ha hs hp hd k'
theorem DC (i:Nat) {f:FuncId} [Callable P f] {args:List Operand}{ts:Array TypeId}{vs:List Value}{μ1 μ2:OH}{Ψ:Value→GH→OH→Prop}(hs:Con P f vs.toArray G μ1 Ψ) (h:∀ v G' μ1',GH.le G G'→Ψ v G' μ1'→DVc P fn n B Φ all G0 ν m (listed.setIfInBounds i true) k ((d,v)::σ) G' (μ1'++μ2)) (hi:all[i]? = some ⟨some d,.call { callee:=.value (.func f),args:=args.toArray,argTypes:=ts },ty,pos,af,none⟩:=by rfl) (hr:Region.ready .any all listed=[i]:=by kernel_rfl) (ha:Env.evs σ args=some vs:=by rfl) (hp:μ.Perm (μ1++μ2):=by first|exact List.Perm.refl _|exact Pick.perm (by repeat (first|exact Pick.here _|apply Pick.there|apply Pick.app))|exact PickA.perm (by repeat (first|exact PickA.last|exact PickA.here _|exact PickA.one _|apply PickA.cons|apply PickA.app))|apply perm_of_count;intro p;simp only [List.append_eq,List.countP_append,List.countP_cons,List.countP_nil,Nat.zero_add,Nat.add_zero];try ac_rfl) (hd:Nat.blt d n=true:=by rfl) (hν':∀ e∈ν,e∈μ2:=by first|(intro e he;first|exact he|(cases he;done)|(simp at he;simp [he];done)|(simp only [List.mem_cons,List.not_mem_nil,or_false] at he;rcases he with rfl|rfl<;>simp;done)|(simp only [List.mem_cons,List.not_mem_nil,or_false] at he;rcases he with rfl|rfl|rfl<;>simp;done)|(refine List.forall_mem_cons.2 ?_;done)|(simp at he ⊢;try omega);done)|((repeat (first|exact List.forall_mem_nil _|(refine List.forall_mem_cons.2 (And.intro (by repeat (first|exact List.Mem.head _|apply List.Mem.tail|apply List.mem_append_right)) ?_))));done)):DVc P fn n B Φ all G0 ν (m+1) listed k σ G μ:=d_call i hi hr ha hs hp hd hν' h
theorem Dd (k':Vc P fn n B Φ k σ G μ) (hr:Region.ready .any all listed=[]:=by kernel_rfl):DVc P fn n B Φ all G0 ν m listed k σ G μ:=d_done hr k'
theorem Dz (ν:OH) {id:Nat}{l:List Oper}(h:DVc P fn n B Φ l.toArray G ν l.length (Array.replicate l.length false) k σ G μ) (hm:P.follows .mixedOrders=true:=by kernel_rfl) (hsel:Region.noSelect l.toArray=true:=by kernel_rfl) (hnd:l.all (fun o=>noDef o.op)=true:=by kernel_rfl) (hν:∀ e∈ν,e∈μ:=by first|(intro e he;first|exact he|(cases he;done)|(simp at he;simp [he];done)|(simp only [List.mem_cons,List.not_mem_nil,or_false] at he;rcases he with rfl|rfl<;>simp;done)|(simp only [List.mem_cons,List.not_mem_nil,or_false] at he;rcases he with rfl|rfl|rfl<;>simp;done)|(refine List.forall_mem_cons.2 ?_;done)|(simp at he ⊢;try omega);done)|((repeat (first|exact List.forall_mem_nil _|(refine List.forall_mem_cons.2 (And.intro (by repeat (first|exact List.Mem.head _|apply List.Mem.tail|apply List.mem_append_right)) ?_))));done)):Vc P fn n B Φ (.code (.region id l.toArray true)::k) σ G μ:=d_start ν hm hsel hnd hν h
theorem Va {S:List Nat}{J:List Value→GH→OH→Prop}{m:List Value→Nat}{N:Nat}{vs:List Value}(hg:Env.gets σ S=some vs) (hJ:J vs G μ) (hm:m vs<N:=by (simp [headI]<;>omega)):Vc P fn n B Φ (.again S (fun vs' w'=>(∃ G' μ',J vs' G' μ'∧Step B.G B.μ B.w G' μ' w')∧m vs'<N)::k) σ G μ:=v_again hg hJ hm
theorem Vr [hB:FnB P fn B []] {t:Nat}(h:Φ v G []) (hr:fn.results = #[.tmp t]:=by rfl) (hv:Env.get σ t=some v:=by rfl):Vc P fn n B Φ (.code .ret::k) σ G μ:=v_ret [] (outsA1 hr hv) (List.nil_sublist _) h
end
section
variable {P:Program}{fn:Func}{n:Nat}{B:Base}{Φ:Value→GH→OH→Prop}{k:List It}{σ:Env}{G G0:GH}{μ:OH}{all:Array Oper}{rest:List Oper}{m:Nat}{listed:Array Bool}{d:Nat}{op:Op}{ty:TypeId}{pos:String}{af:Array Edge}{v:Value}{ν:OH}{t:TypeId}{bytes:Nat}{zero:Value}
structure Bd (d:Nat) (p g:Prop):Prop where
 h:p→g
theorem bd_alloc {e:TypeId}{agg:Bool}{sz:Nat}{zs:List Value} [Lay P e agg sz bytes zero] (hz:zero.cells=zs.toArray) (hd:Nat.blt d n=true):Bd d (∀ b,Vc P fn n B Φ (.ops all rest::k) ((d,.pointer (some ⟨b,0,none⟩))::σ) G ((b,.cells zs.toArray e (0,0))::μ)) (Vc P fn n B Φ (.ops all (⟨some d,.alloc e,ty,pos,af,none⟩::rest)::k) σ G μ):=⟨fun h=>v_alloc hz hd h⟩
theorem bd_build {e:TypeId}{agg:Bool}{sz len:Nat}{ps:List (Nat×Operand)}{vs zs cs:List Value} [Ty P t (.slice e)] [Lay P e agg sz bytes zero] (hz:zero.cells=zs.toArray) (hi:ps.map (·.1)=List.range len) (hv:Env.evs σ (ps.map (·.2))=some vs) (hp:packL sz vs=some cs) (hb:Nat.ble (len*sz) 16777216=true) (hd:Nat.blt d n=true):Bd d (∀ b,Vc P fn n B Φ (.ops all rest::k) ((d,.slice (some ⟨b,0,none⟩) len len)::σ) G ((b,.cells cs.toArray e (0,0))::μ)) (Vc P fn n B Φ (.ops all (⟨some d,.buildSlice t len ps.toArray,ty,pos,af,none⟩::rest)::k) σ G μ):=⟨fun h=>v_buildSlice hz hi hv hp hb hd h⟩
theorem Wx (d':Nat) {e:TypeId}{x:Operand}{u:Value}{zs:List Value}(h:∀ b,Vc P fn n B Φ (.ops all rest::k) ((d',.pointer (some ⟨b,0,none⟩))::σ) G ((b,.cells zs.toArray e (0,0))::μ)) (hx:Env.ev σ x=some u:=by rfl) (hz:u.cells=zs.toArray:=by rfl) (hd:Nat.blt d' n=true:=by rfl):Vc P fn n B Φ (.ops all (⟨some d',.box e x,ty,pos,af,none⟩::rest)::k) σ G μ:=v_box hx hz hd h
end
theorem Wd (d:Nat) {g:Prop}{p:Nat→Prop}(k:∀ b,p b) (h:Bd d (∀ b,p b) g:=by
 first|apply bd_alloc;(case hz|hd=>rfl)|apply bd_build;(case hz|hi=>rfl);(case hv=>(simp only [List.map_cons,List.map_nil];repeat (first|with_reducible exact evs_nil|apply evs_cons;(case h1=>rfl))));(case hp=>(first|with_reducible exact pk_nil|apply pk_cons;(case hc|hs=>rfl);(case h=>(first|with_reducible exact pk_nil|apply pk_cons;(case hc|hs=>rfl);(case h=>(first|with_reducible exact pk_nil|apply pk_cons;(case hc|hs=>rfl);(case h=>(first|with_reducible exact pk_nil|apply pk_cons;(case hc|hs=>rfl);(case h=>(first|with_reducible exact pk_nil|apply pk_cons;(case hc|hs=>rfl);(case h=>(first|with_reducible exact pk_nil|apply pk_cons;(case hc|hs=>rfl);(case h=>(first|with_reducible exact pk_nil|apply pk_cons;(case hc|hs=>rfl);(case h=>(first|with_reducible exact pk_nil|apply pk_cons;(case hc|hs=>rfl);(case h=>(with_reducible exact pk_nil));(case he=>(first|((repeat (first|with_reducible exact ap_nil|apply ap_cons));done)|rfl))|rfl));(case he=>(first|((repeat (first|with_reducible exact ap_nil|apply ap_cons));done)|rfl))|rfl));(case he=>(first|((repeat (first|with_reducible exact ap_nil|apply ap_cons));done)|rfl))|rfl));(case he=>(first|((repeat (first|with_reducible exact ap_nil|apply ap_cons));done)|rfl))|rfl));(case he=>(first|((repeat (first|with_reducible exact ap_nil|apply ap_cons));done)|rfl))|rfl));(case he=>(first|((repeat (first|with_reducible exact ap_nil|apply ap_cons));done)|rfl))|rfl));(case he=>(first|((repeat (first|with_reducible exact ap_nil|apply ap_cons));done)|rfl))|rfl));(case he=>(first|((repeat (first|with_reducible exact ap_nil|apply ap_cons));done)|rfl))|rfl));(case hb|hd=>rfl)|fail):g:=h.h k
theorem Ro {g g':Prop}(k:g') (h:Kp g'→g:=by
 intro k
 first|apply v_read;(case hop=>(apply r_loadNo;(case hx=>rfl);(case h=>repeat first|exact List.Mem.head _|apply List.Mem.tail|apply List.mem_append_right);(case hd|hn=>rfl)));(case hd=>rfl)|fail
 exact k.o):g:=h ⟨k⟩
theorem Rp {g g':Prop}(k:g') (h:Kp g'→g:=by
 intro k
 first|apply v_read;(case hop=>(apply r_load1;rfl;(apply Cell.own;(case h=>repeat first|exact List.Mem.head _|apply List.Mem.tail|apply List.mem_append_right);rfl)));(case hd=>rfl)|fail
 exact k.o):g:=h ⟨k⟩
section
variable {P:Program}{fn:Func}{n:Nat}{B:Base}{Φ:Value→GH→OH→Prop}{k:List It}{σ:Env}{G G0:GH}{μ:OH}{all:Array Oper}{rest:List Oper}{m:Nat}{listed:Array Bool}{d:Nat}{op:Op}{ty:TypeId}{pos:String}{af:Array Edge}{v:Value}{ν:OH}{t:TypeId}{bytes:Nat}{zero:Value}
theorem DS (i:Nat) {agg:Bool}{sz o':Nat}{u:Value}{p x:Operand}{b:Nat}{e:TypeId}{us vs vs':List Value}{μ':OH}[hL:Lay P t agg sz bytes zero] (k':DVc P fn n B Φ all G0 ν m (listed.setIfInBounds i true) k σ G μ') (hi:all[i]? = some ⟨none,.store t p x,ty,pos,af,none⟩:=by rfl) (hr:Region.ready .any all listed=[i]:=by kernel_rfl) (hp:Env.ev σ p=some (.pointer (some ⟨b,o',none⟩)):=by rfl) (hx:Env.ev σ x=some u:=by rfl) (hc:u.cells=us.toArray:=by rfl) (hsz:us.length=sz:=by rfl) (h1:us.all Value.oneCell'=true:=by rfl) (hb:Has μ b vs e:=by (repeat (first|exact List.Mem.head _|apply List.Mem.tail|apply List.mem_append_right))) (hfit:o'+us.length≤vs.length:=by first|exact Nat.le_of_ble_eq_true rfl|rfl|(simp;omega)) (hov:over vs o' us=vs':=by (first|((repeat (first|with_reducible exact ov_nil|apply ov_cons|apply ov_there));done)|rfl)) (hu:Upd b (.cells vs'.toArray e (0,0)) μ μ':=by repeat (first|exact Upd.here _ _|apply Upd.there|apply Upd.app)) (hν':∀ e∈ν,e∈μ':=by first|(intro e he;first|exact he|(cases he;done)|(simp at he;simp [he];done)|(simp only [List.mem_cons,List.not_mem_nil,or_false] at he;rcases he with rfl|rfl<;>simp;done)|(simp only [List.mem_cons,List.not_mem_nil,or_false] at he;rcases he with rfl|rfl|rfl<;>simp;done)|(refine List.forall_mem_cons.2 ?_;done)|(simp at he ⊢;try omega);done)|((repeat (first|exact List.forall_mem_nil _|(refine List.forall_mem_cons.2 (And.intro (by repeat (first|exact List.Mem.head _|apply List.Mem.tail|apply List.mem_append_right)) ?_))));done)):DVc P fn n B Φ all G0 ν (m+1) listed k σ G μ:=d_store i hi hL hr hp hx hc hsz h1 hb hfit hov hu hν' k'
end
end Go.Vx
/-
  VX, THE CLOSED FACTS on this seat's types and functions, by program (vxgen.py).
-/
namespace Go.Proofs.YtnncjoooaknlmaaGreatDoor
open Go Go.Vx
instance:Ty Tryz.prog 3 (.int .i64):=⟨by kernel_rfl⟩
instance:Lay Tryz.prog 3 false 1 8 (.int .i64 0):=⟨by kernel_rfl,by kernel_rfl⟩
instance:Ty Tryz.prog 5 (.int .u8):=⟨by kernel_rfl⟩
instance:Lay Tryz.prog 5 false 1 1 (.int .u8 0):=⟨by kernel_rfl,by kernel_rfl⟩
instance:Ty Tryz.prog 9 (.string):=⟨by kernel_rfl⟩
instance:Lay Tryz.prog 9 false 1 16 (.string ByteArray.empty):=⟨by kernel_rfl,by kernel_rfl⟩
instance:Ty Tryz.prog 22 (.slice 37):=⟨by kernel_rfl⟩
instance:Ty Tryz.prog 23 (.slice 9):=⟨by kernel_rfl⟩
instance:Lay Tryz.prog 23 false 1 24 (.slice none 0 0):=⟨by kernel_rfl,by kernel_rfl⟩
instance:Lay Tryz.prog 26 false 1 8 (.int .i64 0):=⟨by kernel_rfl,by kernel_rfl⟩
instance:Lay Tryz.prog 33 true 2 16 (.agg #[.int .i64 0,.int .i64 0]):=⟨by kernel_rfl,by kernel_rfl⟩
instance:Fld Tryz.prog 33 0 0 3:=⟨by kernel_rfl⟩
instance:Fld Tryz.prog 33 1 1 3:=⟨by kernel_rfl⟩
instance:EqS Tryz.prog 33 [⟨"Round",3,0,false, "", "",0⟩,⟨"Node",3,1,false, "", "",8⟩]:=⟨by kernel_rfl,by kernel_rfl,by kernel_rfl,by kernel_rfl⟩
instance:Lay Tryz.prog 35 true 7 80 (.agg #[.int .i64 0,.int .i64 0,.int .i64 0,.string ByteArray.empty,.string ByteArray.empty,.string ByteArray.empty,.int .i64 0]):=⟨by kernel_rfl,by kernel_rfl⟩
instance:Fld Tryz.prog 35 0 0 3:=⟨by kernel_rfl⟩
instance:Fld Tryz.prog 35 1 1 3:=⟨by kernel_rfl⟩
instance:Fld Tryz.prog 35 2 2 3:=⟨by kernel_rfl⟩
instance:Fld Tryz.prog 35 3 3 9:=⟨by kernel_rfl⟩
instance:Fld Tryz.prog 35 4 4 9:=⟨by kernel_rfl⟩
instance:Fld Tryz.prog 35 5 5 9:=⟨by kernel_rfl⟩
instance:Fld Tryz.prog 35 6 6 3:=⟨by kernel_rfl⟩
instance:EqS Tryz.prog 35 [⟨"Kind",3,0,false, "", "",0⟩,⟨"Client",3,1,false, "", "",8⟩,⟨"Seq",3,2,false, "", "",16⟩,⟨"Key",9,3,false, "", "",24⟩,⟨"Val",9,4,false, "", "",40⟩,⟨"Old",9,5,false, "", "",56⟩,⟨"Node",3,6,false, "", "",72⟩]:=⟨by kernel_rfl,by kernel_rfl,by kernel_rfl,by kernel_rfl⟩
instance:Places Tryz.prog 35 [(0,1),(1,1),(2,1),(3,1),(4,1),(5,1),(6,1)]:=⟨by kernel_rfl⟩
instance:Lay Tryz.prog 37 true 10 104 (.agg #[.int .i64 0,.int .i64 0,.int .i64 0,.int .i64 0,.int .i64 0,.int .i64 0,.string ByteArray.empty,.string ByteArray.empty,.string ByteArray.empty,.int .i64 0]):=⟨by kernel_rfl,by kernel_rfl⟩
instance:Fld Tryz.prog 37 0 0 3:=⟨by kernel_rfl⟩
instance:Fld Tryz.prog 37 1 1 33:=⟨by kernel_rfl⟩
instance:Fld Tryz.prog 37 2 3 35:=⟨by kernel_rfl⟩
instance:EqS Tryz.prog 37 [⟨"Index",3,0,false, "", "",0⟩,⟨"Ballot",33,1,false, "", "",8⟩,⟨"Cmd",35,3,false, "", "",24⟩]:=⟨by kernel_rfl,by kernel_rfl,by kernel_rfl,by kernel_rfl⟩
instance:Places Tryz.prog 37 [(0,1),(1,2),(3,7)]:=⟨by kernel_rfl⟩
instance:Ty Tryz.prog 40 (.pointer 68):=⟨by kernel_rfl⟩
instance:Ty Tryz.prog 43 (.slice 3):=⟨by kernel_rfl⟩
instance:Lay Tryz.prog 43 false 1 24 (.slice none 0 0):=⟨by kernel_rfl,by kernel_rfl⟩
instance:Lay Tryz.prog 45 true 2 32 (.agg #[.int .i64 0,.slice none 0 0]):=⟨by kernel_rfl,by kernel_rfl⟩
instance:Fld Tryz.prog 45 0 0 3:=⟨by kernel_rfl⟩
instance:Fld Tryz.prog 45 1 1 43:=⟨by kernel_rfl⟩
instance:Places Tryz.prog 45 [(0,1),(1,1)]:=⟨by kernel_rfl⟩
instance:Lay Tryz.prog 59 false 1 8 (.nilFunc):=⟨by kernel_rfl,by kernel_rfl⟩
instance:Ty Tryz.prog 62 (.map 3 35):=⟨by kernel_rfl⟩
instance:Lay Tryz.prog 62 false 1 8 (.map none):=⟨by kernel_rfl,by kernel_rfl⟩
instance:Ty Tryz.prog 63 (.slice 69):=⟨by kernel_rfl⟩
instance:Lay Tryz.prog 63 false 1 24 (.slice none 0 0):=⟨by kernel_rfl,by kernel_rfl⟩
instance:Ty Tryz.prog 64 (.slice 141):=⟨by kernel_rfl⟩
instance:Lay Tryz.prog 64 false 1 24 (.slice none 0 0):=⟨by kernel_rfl,by kernel_rfl⟩
instance:Ty Tryz.prog 65 (.array 9 64):=⟨by kernel_rfl⟩
instance:Lay Tryz.prog 65 true 9 216 (.agg #[.slice none 0 0,.slice none 0 0,.slice none 0 0,.slice none 0 0,.slice none 0 0,.slice none 0 0,.slice none 0 0,.slice none 0 0,.slice none 0 0]):=⟨by kernel_rfl,by kernel_rfl⟩
instance:Lay Tryz.prog 68 true 25 360 (.agg #[.slice none 0 0,.pointer none,.int .i64 0,.slice none 0 0,.slice none 0 0,.slice none 0 0,.slice none 0 0,.slice none 0 0,.slice none 0 0,.slice none 0 0,.slice none 0 0,.slice none 0 0,.map none,.int .i64 0,.int .i64 0,.int .i64 0,.int .i64 0,.int .i64 0,.int .i64 0,.int .i64 0,.int .i64 0,.int .i64 0,.int .i64 0,.int .i64 0,.int .i64 0]):=⟨by kernel_rfl,by kernel_rfl⟩
instance:Fld Tryz.prog 68 0 0 63:=⟨by kernel_rfl⟩
instance:Fld Tryz.prog 68 3 3 65:=⟨by kernel_rfl⟩
instance:Fld Tryz.prog 68 4 12 62:=⟨by kernel_rfl⟩
instance:Places Tryz.prog 68 [(0,1),(1,1),(2,1),(3,9),(12,1),(13,1),(14,10),(24,1)]:=⟨by kernel_rfl⟩
instance:Ty Tryz.prog 69 (.pointer 133):=⟨by kernel_rfl⟩
instance:Lay Tryz.prog 69 false 1 8 (.pointer none):=⟨by kernel_rfl,by kernel_rfl⟩
instance:Ty Tryz.prog 73 (.slice 172):=⟨by kernel_rfl⟩
instance:Lay Tryz.prog 73 false 1 24 (.slice none 0 0):=⟨by kernel_rfl,by kernel_rfl⟩
instance:Ty Tryz.prog 74 (.slice 344):=⟨by kernel_rfl⟩
instance:Lay Tryz.prog 74 false 1 24 (.slice none 0 0):=⟨by kernel_rfl,by kernel_rfl⟩
instance:Ty Tryz.prog 75 (.slice 322):=⟨by kernel_rfl⟩
instance:Lay Tryz.prog 75 false 1 24 (.slice none 0 0):=⟨by kernel_rfl,by kernel_rfl⟩
instance:Lay Tryz.prog 77 true 3 56 (.agg #[.int .i64 0,.slice none 0 0,.slice none 0 0]):=⟨by kernel_rfl,by kernel_rfl⟩
instance:Fld Tryz.prog 77 0 0 3:=⟨by kernel_rfl⟩
instance:Fld Tryz.prog 77 1 1 74:=⟨by kernel_rfl⟩
instance:Fld Tryz.prog 77 2 2 75:=⟨by kernel_rfl⟩
instance:Places Tryz.prog 77 [(0,1),(1,1),(2,1)]:=⟨by kernel_rfl⟩
instance:Lay Tryz.prog 79 true 6 96 (.agg #[.int .i64 0,.int .i64 0,.slice none 0 0,.int .i64 0,.slice none 0 0,.slice none 0 0]):=⟨by kernel_rfl,by kernel_rfl⟩
instance:Fld Tryz.prog 79 0 0 3:=⟨by kernel_rfl⟩
instance:Fld Tryz.prog 79 1 1 3:=⟨by kernel_rfl⟩
instance:Fld Tryz.prog 79 2 2 73:=⟨by kernel_rfl⟩
instance:Fld Tryz.prog 79 3 3 77:=⟨by kernel_rfl⟩
instance:Places Tryz.prog 79 [(0,1),(1,1),(2,1),(3,3)]:=⟨by kernel_rfl⟩
instance:Ty Tryz.prog 85 (.pointer 88):=⟨by kernel_rfl⟩
instance:Lay Tryz.prog 85 false 1 8 (.pointer none):=⟨by kernel_rfl,by kernel_rfl⟩
instance:Ty Tryz.prog 86 (.slice 5):=⟨by kernel_rfl⟩
instance:Lay Tryz.prog 86 false 1 24 (.slice none 0 0):=⟨by kernel_rfl,by kernel_rfl⟩
instance:Lay Tryz.prog 88 true 2 32 (.agg #[.pointer none,.slice none 0 0]):=⟨by kernel_rfl,by kernel_rfl⟩
instance:Fld Tryz.prog 88 0 0 85:=⟨by kernel_rfl⟩
instance:Fld Tryz.prog 88 1 1 86:=⟨by kernel_rfl⟩
instance:Ty Tryz.prog 93 (.array 3 23):=⟨by kernel_rfl⟩
instance:Lay Tryz.prog 93 true 3 72 (.agg #[.slice none 0 0,.slice none 0 0,.slice none 0 0]):=⟨by kernel_rfl,by kernel_rfl⟩
instance:Ty Tryz.prog 95 (.int .u32):=⟨by kernel_rfl⟩
instance:Lay Tryz.prog 95 false 1 4 (.int .u32 0):=⟨by kernel_rfl,by kernel_rfl⟩
instance:Ty Tryz.prog 101 (.slice 105):=⟨by kernel_rfl⟩
instance:Lay Tryz.prog 103 false 1 8 (.nilFunc):=⟨by kernel_rfl,by kernel_rfl⟩
instance:Lay Tryz.prog 105 true 4 32 (.agg #[.int .i64 0,.int .i64 0,.nilFunc,.nilFunc]):=⟨by kernel_rfl,by kernel_rfl⟩
instance:Fld Tryz.prog 105 0 0 3:=⟨by kernel_rfl⟩
instance:Fld Tryz.prog 105 1 1 3:=⟨by kernel_rfl⟩
instance:Fld Tryz.prog 105 2 2 59:=⟨by kernel_rfl⟩
instance:Fld Tryz.prog 105 3 3 103:=⟨by kernel_rfl⟩
instance:Places Tryz.prog 105 [(0,1),(1,1),(2,1),(3,1)]:=⟨by kernel_rfl⟩
instance:Lay Tryz.prog 115 true 1 24 (.agg #[.slice none 0 0]):=⟨by kernel_rfl,by kernel_rfl⟩
instance:Places Tryz.prog 115 [(0,1)]:=⟨by kernel_rfl⟩
instance:Ty Tryz.prog 118 (.pointer 178):=⟨by kernel_rfl⟩
instance:Lay Tryz.prog 118 false 1 8 (.pointer none):=⟨by kernel_rfl,by kernel_rfl⟩
instance:Ty Tryz.prog 121 (.pointer 228):=⟨by kernel_rfl⟩
instance:Lay Tryz.prog 121 false 1 8 (.pointer none):=⟨by kernel_rfl,by kernel_rfl⟩
instance:Fld Tryz.prog 131 1 1 121:=⟨by kernel_rfl⟩
instance:Lay Tryz.prog 133 true 29 392 (.agg #[.int .i64 0,.pointer none,.pointer none,.pointer none,.pointer none,.pointer none,.int .i64 0,.int .i64 0,.slice none 0 0,.map none,.slice none 0 0,.slice none 0 0,.slice none 0 0,.int .i64 0,.int .i64 0,.int .i64 0,.int .i64 0,.slice none 0 0,.int .i64 0,.slice none 0 0,.slice none 0 0,.pointer none,.int .i64 0,.int .i64 0,.slice none 0 0,.int .i64 0,.slice none 0 0,.slice none 0 0,.int .i64 0]):=⟨by kernel_rfl,by kernel_rfl⟩
instance:Fld Tryz.prog 133 0 0 131:=⟨by kernel_rfl⟩
instance:Fld Tryz.prog 133 4 21 118:=⟨by kernel_rfl⟩
instance:Fld Tryz.prog 133 5 22 79:=⟨by kernel_rfl⟩
instance:Fld Tryz.prog 133 6 28 26:=⟨by kernel_rfl⟩
instance:Places Tryz.prog 133 [(0,13),(13,1),(14,1),(15,6),(21,1),(22,6),(28,1)]:=⟨by kernel_rfl⟩
instance:Lay Tryz.prog 141 true 15 152 (.agg #[.int .i64 0,.int .i64 0,.int .i64 0,.string ByteArray.empty,.string ByteArray.empty,.string ByteArray.empty,.int .i64 0,.int .i64 0,.int .i64 0,.int .i64 0,.int .i64 0,.int .i64 0,.bool false,.string ByteArray.empty,.int .i64 0]):=⟨by kernel_rfl,by kernel_rfl⟩
instance:Ty Tryz.prog 151 (.int .u64):=⟨by kernel_rfl⟩
instance:Ty Tryz.prog 163 (.array 9 9):=⟨by kernel_rfl⟩
instance:Lay Tryz.prog 163 true 9 144 (.agg #[.string ByteArray.empty,.string ByteArray.empty,.string ByteArray.empty,.string ByteArray.empty,.string ByteArray.empty,.string ByteArray.empty,.string ByteArray.empty,.string ByteArray.empty,.string ByteArray.empty]):=⟨by kernel_rfl,by kernel_rfl⟩
instance:Ty Tryz.prog 164 (.pointer 3):=⟨by kernel_rfl⟩
instance:Lay Tryz.prog 164 false 1 8 (.pointer none):=⟨by kernel_rfl,by kernel_rfl⟩
instance:Ty Tryz.prog 165 (.pointer 9):=⟨by kernel_rfl⟩
instance:Lay Tryz.prog 165 false 1 8 (.pointer none):=⟨by kernel_rfl,by kernel_rfl⟩
instance:Lay Tryz.prog 172 true 2 32 (.agg #[.int .i64 0,.slice none 0 0]):=⟨by kernel_rfl,by kernel_rfl⟩
instance:Fld Tryz.prog 172 0 0 3:=⟨by kernel_rfl⟩
instance:Fld Tryz.prog 172 1 1 43:=⟨by kernel_rfl⟩
instance:Places Tryz.prog 172 [(0,1),(1,1)]:=⟨by kernel_rfl⟩
instance:Ty Tryz.prog 175 (.map 3 86):=⟨by kernel_rfl⟩
instance:Lay Tryz.prog 175 false 1 8 (.map none):=⟨by kernel_rfl,by kernel_rfl⟩
instance:Ty Tryz.prog 176 (.slice 294):=⟨by kernel_rfl⟩
instance:Lay Tryz.prog 176 false 1 24 (.slice none 0 0):=⟨by kernel_rfl,by kernel_rfl⟩
instance:Lay Tryz.prog 178 true 2 32 (.agg #[.map none,.slice none 0 0]):=⟨by kernel_rfl,by kernel_rfl⟩
instance:Fld Tryz.prog 178 0 0 175:=⟨by kernel_rfl⟩
instance:Fld Tryz.prog 178 1 1 176:=⟨by kernel_rfl⟩
instance:Places Tryz.prog 178 [(0,1),(1,1)]:=⟨by kernel_rfl⟩
instance:Lay Tryz.prog 190 true 6 96 (.agg #[.int .i64 0,.int .i64 0,.int .i64 0,.slice none 0 0,.slice none 0 0,.slice none 0 0]):=⟨by kernel_rfl,by kernel_rfl⟩
instance:Places Tryz.prog 190 [(0,2),(2,1),(3,1),(4,1),(5,1)]:=⟨by kernel_rfl⟩
instance:Ty Tryz.prog 205 (.int .u64):=⟨by kernel_rfl⟩
instance:Ty Tryz.prog 229 (.slice 232):=⟨by kernel_rfl⟩
instance:Lay Tryz.prog 229 false 1 24 (.slice none 0 0):=⟨by kernel_rfl,by kernel_rfl⟩
instance:Ty Tryz.prog 244 (.array 16 95):=⟨by kernel_rfl⟩
instance:Ty Tryz.prog 256 (.array 65 5):=⟨by kernel_rfl⟩
instance:Lay Tryz.prog 256 true 65 65 (.agg #[.int .u8 0,.int .u8 0,.int .u8 0,.int .u8 0,.int .u8 0,.int .u8 0,.int .u8 0,.int .u8 0,.int .u8 0,.int .u8 0,.int .u8 0,.int .u8 0,.int .u8 0,.int .u8 0,.int .u8 0,.int .u8 0,.int .u8 0,.int .u8 0,.int .u8 0,.int .u8 0,.int .u8 0,.int .u8 0,.int .u8 0,.int .u8 0,.int .u8 0,.int .u8 0,.int .u8 0,.int .u8 0,.int .u8 0,.int .u8 0,.int .u8 0,.int .u8 0,.int .u8 0,.int .u8 0,.int .u8 0,.int .u8 0,.int .u8 0,.int .u8 0,.int .u8 0,.int .u8 0,.int .u8 0,.int .u8 0,.int .u8 0,.int .u8 0,.int .u8 0,.int .u8 0,.int .u8 0,.int .u8 0,.int .u8 0,.int .u8 0,.int .u8 0,.int .u8 0,.int .u8 0,.int .u8 0,.int .u8 0,.int .u8 0,.int .u8 0,.int .u8 0,.int .u8 0,.int .u8 0,.int .u8 0,.int .u8 0,.int .u8 0,.int .u8 0,.int .u8 0]):=⟨by kernel_rfl,by kernel_rfl⟩
instance:Ty Tryz.prog 318 (.array 64 5):=⟨by kernel_rfl⟩
instance:Lay Tryz.prog 322 true 8 72 (.agg #[.int .i64 0,.int .i64 0,.int .i64 0,.int .i64 0,.int .i64 0,.bool false,.string ByteArray.empty,.int .i64 0]):=⟨by kernel_rfl,by kernel_rfl⟩
instance:Lay Tryz.prog 344 true 3 40 (.agg #[.string ByteArray.empty,.string ByteArray.empty,.int .i64 0]):=⟨by kernel_rfl,by kernel_rfl⟩
instance:Callable Tryz.prog 4:=callable_of Tryz.func4 (by kernel_rfl) rfl
instance:Callable Tryz.prog 5:=callable_of Tryz.func5 (by kernel_rfl) rfl
instance:Callable Tryz.prog 6:=callable_of Tryz.func6 (by kernel_rfl) rfl
instance:Callable Tryz.prog 7:=callable_of Tryz.func7 (by kernel_rfl) rfl
instance:Callable Tryz.prog 8:=callable_of Tryz.func8 (by kernel_rfl) rfl
instance:Callable Tryz.prog 9:=callable_of Tryz.func9 (by kernel_rfl) rfl
instance:Callable Tryz.prog 10:=callable_of Tryz.func10 (by kernel_rfl) rfl
instance:Callable Tryz.prog 11:=callable_of Tryz.func11 (by kernel_rfl) rfl
instance:Callable Tryz.prog 12:=callable_of Tryz.func12 (by kernel_rfl) rfl
instance:Callable Tryz.prog 13:=callable_of Tryz.func13 (by kernel_rfl) rfl
instance:Callable Tryz.prog 14:=callable_of Tryz.func14 (by kernel_rfl) rfl
instance:Callable Tryz.prog 15:=callable_of Tryz.func15 (by kernel_rfl) rfl
instance:Callable Tryz.prog 16:=callable_of Tryz.func16 (by kernel_rfl) rfl
instance:Callable Tryz.prog 17:=callable_of Tryz.func17 (by kernel_rfl) rfl
instance:Callable Tryz.prog 18:=callable_of Tryz.func18 (by kernel_rfl) rfl
instance:Callable Tryz.prog 19:=callable_of Tryz.func19 (by kernel_rfl) rfl
instance:Callable Tryz.prog 20:=callable_of Tryz.func20 (by kernel_rfl) rfl
instance:Callable Tryz.prog 21:=callable_of Tryz.func21 (by kernel_rfl) rfl
instance:Callable Tryz.prog 22:=callable_of Tryz.func22 (by kernel_rfl) rfl
instance:Callable Tryz.prog 23:=callable_of Tryz.func23 (by kernel_rfl) rfl
instance:Callable Tryz.prog 24:=callable_of Tryz.func24 (by kernel_rfl) rfl
instance:Callable Tryz.prog 25:=callable_of Tryz.func25 (by kernel_rfl) rfl
instance:Callable Tryz.prog 26:=callable_of Tryz.func26 (by kernel_rfl) rfl
instance:Callable Tryz.prog 27:=callable_of Tryz.func27 (by kernel_rfl) rfl
instance:Callable Tryz.prog 28:=callable_of Tryz.func28 (by kernel_rfl) rfl
instance:Callable Tryz.prog 29:=callable_of Tryz.func29 (by kernel_rfl) rfl
instance:Callable Tryz.prog 30:=callable_of Tryz.func30 (by kernel_rfl) rfl
instance:Callable Tryz.prog 31:=callable_of Tryz.func31 (by kernel_rfl) rfl
instance:Callable Tryz.prog 32:=callable_of Tryz.func32 (by kernel_rfl) rfl
instance:Callable Tryz.prog 33:=callable_of Tryz.func33 (by kernel_rfl) rfl
instance:Callable Tryz.prog 34:=callable_of Tryz.func34 (by kernel_rfl) rfl
instance:Callable Tryz.prog 35:=callable_of Tryz.func35 (by kernel_rfl) rfl
instance:Callable Tryz.prog 36:=callable_of Tryz.func36 (by kernel_rfl) rfl
instance:Callable Tryz.prog 37:=callable_of Tryz.func37 (by kernel_rfl) rfl
instance:Callable Tryz.prog 38:=callable_of Tryz.func38 (by kernel_rfl) rfl
instance:Callable Tryz.prog 39:=callable_of Tryz.func39 (by kernel_rfl) rfl
instance:Callable Tryz.prog 40:=callable_of Tryz.func40 (by kernel_rfl) rfl
instance:Callable Tryz.prog 41:=callable_of Tryz.func41 (by kernel_rfl) rfl
instance:Callable Tryz.prog 42:=callable_of Tryz.func42 (by kernel_rfl) rfl
instance:Callable Tryz.prog 43:=callable_of Tryz.func43 (by kernel_rfl) rfl
instance:Callable Tryz.prog 47:=callable_of Tryz.func47 (by kernel_rfl) rfl
instance:Callable Tryz.prog 48:=callable_of Tryz.func48 (by kernel_rfl) rfl
instance:Callable Tryz.prog 49:=callable_of Tryz.func49 (by kernel_rfl) rfl
instance:Callable Tryz.prog 50:=callable_of Tryz.func50 (by kernel_rfl) rfl
instance:Callable Tryz.prog 51:=callable_of Tryz.func51 (by kernel_rfl) rfl
instance:Callable Tryz.prog 52:=callable_of Tryz.func52 (by kernel_rfl) rfl
instance:Callable Tryz.prog 53:=callable_of Tryz.func53 (by kernel_rfl) rfl
instance:Callable Tryz.prog 54:=callable_of Tryz.func54 (by kernel_rfl) rfl
instance:Callable Tryz.prog 55:=callable_of Tryz.func55 (by kernel_rfl) rfl
instance:Callable Tryz.prog 56:=callable_of Tryz.func56 (by kernel_rfl) rfl
instance:Callable Tryz.prog 57:=callable_of Tryz.func57 (by kernel_rfl) rfl
instance:Callable Tryz.prog 58:=callable_of Tryz.func58 (by kernel_rfl) rfl
instance:Callable Tryz.prog 59:=callable_of Tryz.func59 (by kernel_rfl) rfl
instance:Callable Tryz.prog 60:=callable_of Tryz.func60 (by kernel_rfl) rfl
instance:Callable Tryz.prog 62:=callable_of Tryz.func62 (by kernel_rfl) rfl
instance:Callable Tryz.prog 63:=callable_of Tryz.func63 (by kernel_rfl) rfl
instance:Callable Tryz.prog 64:=callable_of Tryz.func64 (by kernel_rfl) rfl
instance:Callable Tryz.prog 65:=callable_of Tryz.func65 (by kernel_rfl) rfl
instance:Callable Tryz.prog 66:=callable_of Tryz.func66 (by kernel_rfl) rfl
instance:Callable Tryz.prog 67:=callable_of Tryz.func67 (by kernel_rfl) rfl
instance:Callable Tryz.prog 68:=callable_of Tryz.func68 (by kernel_rfl) rfl
instance:Callable Tryz.prog 69:=callable_of Tryz.func69 (by kernel_rfl) rfl
instance:Callable Tryz.prog 70:=callable_of Tryz.func70 (by kernel_rfl) rfl
instance:Callable Tryz.prog 72:=callable_of Tryz.func72 (by kernel_rfl) rfl
instance:Callable Tryz.prog 75:=callable_of Tryz.func75 (by kernel_rfl) rfl
instance:Callable Tryz.prog 76:=callable_of Tryz.func76 (by kernel_rfl) rfl
instance:Callable Tryz.prog 77:=callable_of Tryz.func77 (by kernel_rfl) rfl
instance:Callable Tryz.prog 78:=callable_of Tryz.func78 (by kernel_rfl) rfl
instance:Callable Tryz.prog 79:=callable_of Tryz.func79 (by kernel_rfl) rfl
instance:Callable Tryz.prog 86:=callable_of Tryz.func86 (by kernel_rfl) rfl
instance:Callable Tryz.prog 87:=callable_of Tryz.func87 (by kernel_rfl) rfl
instance:Callable Tryz.prog 88:=callable_of Tryz.func88 (by kernel_rfl) rfl
instance:Callable Tryz.prog 89:=callable_of Tryz.func89 (by kernel_rfl) rfl
instance:Callable Tryz.prog 90:=callable_of Tryz.func90 (by kernel_rfl) rfl
instance:Callable Tryz.prog 91:=callable_of Tryz.func91 (by kernel_rfl) rfl
instance:Callable Tryz.prog 92:=callable_of Tryz.func92 (by kernel_rfl) rfl
instance:Callable Tryz.prog 93:=callable_of Tryz.func93 (by kernel_rfl) rfl
instance:Callable Tryz.prog 94:=callable_of Tryz.func94 (by kernel_rfl) rfl
instance:Callable Tryz.prog 95:=callable_of Tryz.func95 (by kernel_rfl) rfl
instance:Callable Tryz.prog 96:=callable_of Tryz.func96 (by kernel_rfl) rfl
instance:Callable Tryz.prog 97:=callable_of Tryz.func97 (by kernel_rfl) rfl
instance:Callable Tryz.prog 98:=callable_of Tryz.func98 (by kernel_rfl) rfl
instance:Callable Tryz.prog 99:=callable_of Tryz.func99 (by kernel_rfl) rfl
instance:Callable Tryz.prog 100:=callable_of Tryz.func100 (by kernel_rfl) rfl
instance:Callable Tryz.prog 101:=callable_of Tryz.func101 (by kernel_rfl) rfl
instance:Callable Tryz.prog 103:=callable_of Tryz.func103 (by kernel_rfl) rfl
instance:Callable Tryz.prog 108:=callable_of Tryz.func108 (by kernel_rfl) rfl
instance:Callable Tryz.prog 109:=callable_of Tryz.func109 (by kernel_rfl) rfl
instance:Callable Tryz.prog 110:=callable_of Tryz.func110 (by kernel_rfl) rfl
instance:Callable Tryz.prog 111:=callable_of Tryz.func111 (by kernel_rfl) rfl
instance:Callable Tryz.prog 114:=callable_of Tryz.func114 (by kernel_rfl) rfl
instance:Callable Tryz.prog 116:=callable_of Tryz.func116 (by kernel_rfl) rfl
instance:Callable Tryz.prog 117:=callable_of Tryz.func117 (by kernel_rfl) rfl
instance:Callable Tryz.prog 118:=callable_of Tryz.func118 (by kernel_rfl) rfl
instance:Callable Tryz.prog 121:=callable_of Tryz.func121 (by kernel_rfl) rfl
instance:Callable Tryz.prog 129:=callable_of Tryz.func129 (by kernel_rfl) rfl
instance:Callable Tryz.prog 130:=callable_of Tryz.func130 (by kernel_rfl) rfl
instance:Callable Tryz.prog 131:=callable_of Tryz.func131 (by kernel_rfl) rfl
instance:Callable Tryz.prog 132:=callable_of Tryz.func132 (by kernel_rfl) rfl
instance:Callable Tryz.prog 133:=callable_of Tryz.func133 (by kernel_rfl) rfl
instance:Callable Tryz.prog 134:=callable_of Tryz.func134 (by kernel_rfl) rfl
instance:Callable Tryz.prog 135:=callable_of Tryz.func135 (by kernel_rfl) rfl
instance:Callable Tryz.prog 136:=callable_of Tryz.func136 (by kernel_rfl) rfl
instance:Callable Tryz.prog 137:=callable_of Tryz.func137 (by kernel_rfl) rfl
instance:Callable Tryz.prog 148:=callable_of Tryz.func148 (by kernel_rfl) rfl
instance:Callable Tryz.prog 151:=callable_of Tryz.func151 (by kernel_rfl) rfl
instance:Callable Tryz.prog 153:=callable_of Tryz.func153 (by kernel_rfl) rfl
instance:Callable Tryz.prog 155:=callable_of Tryz.func155 (by kernel_rfl) rfl
instance:Callable Tryz.prog 162:=callable_of Tryz.func162 (by kernel_rfl) rfl
instance:Callable Tryz.prog 163:=callable_of Tryz.func163 (by kernel_rfl) rfl
instance:Callable Tryz.prog 168:=callable_of Tryz.func168 (by kernel_rfl) rfl
instance:Callable Tryz.prog 173:=callable_of Tryz.func173 (by kernel_rfl) rfl
instance:Callable Tryz.prog 176:=callable_of Tryz.func176 (by kernel_rfl) rfl
instance:Callable Tryz.prog 177:=callable_of Tryz.func177 (by kernel_rfl) rfl
instance:Callable Tryz.prog 178:=callable_of Tryz.func178 (by kernel_rfl) rfl
instance:Callable Tryz.prog 194:=callable_of Tryz.func194 (by kernel_rfl) rfl
instance:Callable Tryz.prog 196:=callable_of Tryz.func196 (by kernel_rfl) rfl
instance:Callable Tryz.prog 201:=callable_of Tryz.func201 (by kernel_rfl) rfl
instance:Callable Tryz.prog 206:=callable_of Tryz.func206 (by kernel_rfl) rfl
instance:Callable Tryz.prog 228:=callable_of Tryz.func228 (by kernel_rfl) rfl
end Go.Proofs.YtnncjoooaknlmaaGreatDoor
/-
  Texts (layer 5), the first part: runes, in plain Lean: the model's decoder, and the reference's.
-/
namespace Go.Proofs.YtnncjoooaknlmaaGreatDoor
open Go.Vx Go.ChangeShapes Go.WideShapes Go.ChangeAt Go.RowKit
def acc (s:ByteArray) (i v:Nat):Nat→Nat
 | 0=>v
 | k+1=>64*acc s i v k+byt s (i+(k+1))-128
def contB (s:ByteArray) (i:Nat):Nat→Bool
 | 0=>true
 | k+1=>contB s i k && (decide (128≤byt s (i+(k+1))) && decide (byt s (i+(k+1))≤191))
def szFin (s:ByteArray) (i m low v:Nat):Nat×Nat :=
 if s.size<i+(m+1) then (0,0) else if contB s i m=false then (0,0)
 else if acc s i v m<low∨1114111<acc s i v m∨(55296≤acc s i v m∧acc s i v m≤57343) then (0,0) else (m+1,acc s i v m)
theorem szFin_short {s:ByteArray}{i m low v:Nat}(h:s.size<i+(m+1)):szFin s i m low v=(0,0):=by unfold szFin;rw [if_pos h]
theorem szFin_cont {s:ByteArray}{i m low v:Nat}(h:contB s i m=false):szFin s i m low v=(0,0):=by
 unfold szFin
 rw [if_pos h]
 split<;>rfl
theorem szFin_low {s:ByteArray}{i m low v:Nat}(h:acc s i v m<low∨1114111<acc s i v m∨(55296≤acc s i v m∧acc s i v m≤57343)):szFin s i m low v=(0,0):=by
 unfold szFin
 rw [if_pos h]
 split
 ·rfl
 ·split<;>rfl
theorem szFin_ok {s:ByteArray}{i m low v:Nat}(h0:¬ s.size<i+(m+1)) (h1:contB s i m=true) (h:¬ (acc s i v m<low∨1114111<acc s i v m∨(55296≤acc s i v m∧acc s i v m≤57343))):szFin s i m low v=(m+1,acc s i v m):=by
 unfold szFin
 rw [if_neg h0,if_neg (by rw [h1];simp),if_neg h]
theorem acc1 (s:ByteArray) (i v:Nat):acc s i v 1=64*v+byt s (i+1)-128:=rfl
theorem acc2 (s:ByteArray) (i v:Nat):acc s i v 2=64*(64*v+byt s (i+1)-128)+byt s (i+2)-128:=rfl
theorem acc3 (s:ByteArray) (i v:Nat):acc s i v 3=64*(64*(64*v+byt s (i+1)-128)+byt s (i+2)-128)+byt s (i+3)-128:=rfl
theorem cont1 {s:ByteArray}{i:Nat}:contB s i 1=true↔(128≤byt s (i+1)∧byt s (i+1)≤191):=by
 show (contB s i 0 && (decide (128≤byt s (i+1)) && decide (byt s (i+1)≤191)))=true↔_
 simp [contB]
theorem cont2 {s:ByteArray}{i:Nat}:contB s i 2=true↔(128≤byt s (i+1)∧byt s (i+1)≤191)∧(128≤byt s (i+2)∧byt s (i+2)≤191):=by
 show (contB s i 1 && (decide (128≤byt s (i+2)) && decide (byt s (i+2)≤191)))=true↔_
 rw [Bool.and_eq_true,cont1];simp
theorem cont3 {s:ByteArray}{i:Nat}:contB s i 3=true↔((128≤byt s (i+1)∧byt s (i+1)≤191)∧(128≤byt s (i+2)∧byt s (i+2)≤191))∧(128≤byt s (i+3)∧byt s (i+3)≤191):=by
 show (contB s i 2 && (decide (128≤byt s (i+3)) && decide (byt s (i+3)≤191)))=true↔_
 rw [Bool.and_eq_true,cont2];simp
def szR (s:ByteArray) (i:Nat):Nat×Nat :=
 if byt s i<128 then (1,byt s i)
 else if 194≤byt s i∧byt s i≤223 then szFin s i 1 128 (byt s i-192)
 else if 224≤byt s i∧byt s i≤239 then szFin s i 2 2048 (byt s i-224)
 else if 240≤byt s i∧byt s i≤244 then szFin s i 3 65536 (byt s i-240)
 else (0,0)
theorem decode_byt (s:ByteArray) (i:Nat):Utf8.decode s i =
 (if byt s i<0x80 then (byt s i,1)
 else if byt s i / 32=6∧(i+1<s.size∧byt s (i+1) / 64=2) then
  (if (byt s i % 32)*64+byt s (i+1) % 64≥0x80 then ((byt s i % 32)*64+byt s (i+1) % 64,2) else (65533,1))
 else if byt s i / 16=14∧(i+1<s.size∧byt s (i+1) / 64=2)∧(i+2<s.size∧byt s (i+2) / 64=2) then
  (if (byt s i % 16)*4096+(byt s (i+1) % 64)*64+byt s (i+2) % 64≥0x800∧Utf8.valid ((byt s i % 16)*4096+(byt s (i+1) % 64)*64+byt s (i+2) % 64:Nat)=true then ((byt s i % 16)*4096+(byt s (i+1) % 64)*64+byt s (i+2) % 64,3) else (65533,1))
 else if byt s i / 8=30∧(i+1<s.size∧byt s (i+1) / 64=2)∧(i+2<s.size∧byt s (i+2) / 64=2)∧(i+3<s.size∧byt s (i+3) / 64=2) then
  (if (byt s i % 8)*262144+(byt s (i+1) % 64)*4096+(byt s (i+2) % 64)*64+byt s (i+3) % 64≥0x10000∧Utf8.valid ((byt s i % 8)*262144+(byt s (i+1) % 64)*4096+(byt s (i+2) % 64)*64+byt s (i+3) % 64:Nat)=true then ((byt s i % 8)*262144+(byt s (i+1) % 64)*4096+(byt s (i+2) % 64)*64+byt s (i+3) % 64,4) else (65533,1))
 else (65533,1)):=by
 unfold Utf8.decode byt
 simp only [Nat.add_zero,Bool.and_eq_true,decide_eq_true_eq,beq_iff_eq,Utf8.runeError,and_assoc]
theorem valid_iff (c:Nat):Utf8.valid (c:Nat)=true↔c<55296∨(57344≤c∧c≤1114111):=by
 unfold Utf8.valid
 simp only [Bool.or_eq_true,Bool.and_eq_true,decide_eq_true_eq]
 omega
theorem decode_of_sz (s:ByteArray) (i:Nat) (h:i<s.size):Utf8.decode s i=(if (szR s i).1=0 then (65533,1) else ((szR s i).2,(szR s i).1)):=by
 have h0:=byt_lt s i
 have h1:=byt_lt s (i+1)
 have h2:=byt_lt s (i+2)
 have h3:=byt_lt s (i+3)
 rw [decode_byt]
 unfold szR
 by_cases c0:byt s i<128
 ·rw [if_pos c0,if_pos c0];rfl
 rw [if_neg c0,if_neg c0]
 by_cases c1:194≤byt s i∧byt s i≤223
 ·rw [if_pos c1]
  by_cases z:s.size<i+(1+1)
  ·rw [szFin_short z,if_neg (show ¬ (byt s i / 32=6∧(i+1<s.size∧byt s (i+1) / 64=2)) by omega),if_neg (show ¬ (byt s i / 16=14∧(i+1<s.size∧byt s (i+1) / 64=2)∧(i+2<s.size∧byt s (i+2) / 64=2)) by omega),if_neg (show ¬ (byt s i / 8=30∧(i+1<s.size∧byt s (i+1) / 64=2)∧(i+2<s.size∧byt s (i+2) / 64=2)∧(i+3<s.size∧byt s (i+3) / 64=2)) by omega)];rfl
  by_cases d1:contB s i 1=true
  ·have d2:=cont1.1 d1
   have ea:acc s i (byt s i-192) 1=(byt s i % 32)*64+byt s (i+1) % 64:=by rw [acc1];omega
   rw [if_pos (show byt s i / 32=6∧(i+1<s.size∧byt s (i+1) / 64=2) by omega)]
   rw [if_pos (show (byt s i % 32)*64+byt s (i+1) % 64≥0x80 by omega),szFin_ok z d1 (by omega),ea];rfl
  ·have d2:=mt cont1.2 d1
   rw [szFin_cont (by simpa using d1),if_neg (show ¬ (byt s i / 32=6∧(i+1<s.size∧byt s (i+1) / 64=2)) by omega),if_neg (show ¬ (byt s i / 16=14∧(i+1<s.size∧byt s (i+1) / 64=2)∧(i+2<s.size∧byt s (i+2) / 64=2)) by omega),if_neg (show ¬ (byt s i / 8=30∧(i+1<s.size∧byt s (i+1) / 64=2)∧(i+2<s.size∧byt s (i+2) / 64=2)∧(i+3<s.size∧byt s (i+3) / 64=2)) by omega)];rfl
 rw [if_neg c1]
 by_cases c2:224≤byt s i∧byt s i≤239
 ·rw [if_pos c2,if_neg (show ¬ (byt s i / 32=6∧(i+1<s.size∧byt s (i+1) / 64=2)) by omega)]
  by_cases z:s.size<i+(2+1)
  ·rw [szFin_short z,if_neg (show ¬ (byt s i / 16=14∧(i+1<s.size∧byt s (i+1) / 64=2)∧(i+2<s.size∧byt s (i+2) / 64=2)) by omega),if_neg (show ¬ (byt s i / 8=30∧(i+1<s.size∧byt s (i+1) / 64=2)∧(i+2<s.size∧byt s (i+2) / 64=2)∧(i+3<s.size∧byt s (i+3) / 64=2)) by omega)];rfl
  by_cases d1:contB s i 2=true
  ·have d2:=cont2.1 d1
   have ea:acc s i (byt s i-224) 2=(byt s i % 16)*4096+(byt s (i+1) % 64)*64+byt s (i+2) % 64:=by rw [acc2];omega
   rw [if_pos (show byt s i / 16=14∧(i+1<s.size∧byt s (i+1) / 64=2)∧(i+2<s.size∧byt s (i+2) / 64=2) by omega)]
   have hvv:=valid_iff ((byt s i % 16)*4096+(byt s (i+1) % 64)*64+byt s (i+2) % 64)
   by_cases hv:acc s i (byt s i-224) 2<2048∨1114111<acc s i (byt s i-224) 2∨(55296≤acc s i (byt s i-224) 2∧acc s i (byt s i-224) 2≤57343)
   ·rw [szFin_low hv,if_neg (fun h=>by have:=hvv.1 h.2;omega)];rfl
   ·rw [szFin_ok z d1 hv,if_pos ⟨by omega,hvv.2 (by omega)⟩,ea];rfl
  ·have d2:=mt cont2.2 d1
   rw [szFin_cont (by simpa using d1),if_neg (show ¬ (byt s i / 16=14∧(i+1<s.size∧byt s (i+1) / 64=2)∧(i+2<s.size∧byt s (i+2) / 64=2)) by omega),if_neg (show ¬ (byt s i / 8=30∧(i+1<s.size∧byt s (i+1) / 64=2)∧(i+2<s.size∧byt s (i+2) / 64=2)∧(i+3<s.size∧byt s (i+3) / 64=2)) by omega)];rfl
 rw [if_neg c2]
 by_cases c3:240≤byt s i∧byt s i≤244
 ·rw [if_pos c3,if_neg (show ¬ (byt s i / 32=6∧(i+1<s.size∧byt s (i+1) / 64=2)) by omega),if_neg (show ¬ (byt s i / 16=14∧(i+1<s.size∧byt s (i+1) / 64=2)∧(i+2<s.size∧byt s (i+2) / 64=2)) by omega)]
  by_cases z:s.size<i+(3+1)
  ·rw [szFin_short z,if_neg (show ¬ (byt s i / 8=30∧(i+1<s.size∧byt s (i+1) / 64=2)∧(i+2<s.size∧byt s (i+2) / 64=2)∧(i+3<s.size∧byt s (i+3) / 64=2)) by omega)];rfl
  by_cases d1:contB s i 3=true
  ·have d2:=cont3.1 d1
   have ea:acc s i (byt s i-240) 3=(byt s i % 8)*262144+(byt s (i+1) % 64)*4096+(byt s (i+2) % 64)*64+byt s (i+3) % 64:=by rw [acc3];omega
   rw [if_pos (show byt s i / 8=30∧(i+1<s.size∧byt s (i+1) / 64=2)∧(i+2<s.size∧byt s (i+2) / 64=2)∧(i+3<s.size∧byt s (i+3) / 64=2) by omega)]
   have hvv:=valid_iff ((byt s i % 8)*262144+(byt s (i+1) % 64)*4096+(byt s (i+2) % 64)*64+byt s (i+3) % 64)
   by_cases hv:acc s i (byt s i-240) 3<65536∨1114111<acc s i (byt s i-240) 3∨(55296≤acc s i (byt s i-240) 3∧acc s i (byt s i-240) 3≤57343)
   ·rw [szFin_low hv,if_neg (fun h=>by have:=hvv.1 h.2;omega)];rfl
   ·rw [szFin_ok z d1 hv,if_pos ⟨by omega,hvv.2 (by omega)⟩,ea];rfl
  ·have d2:=mt cont3.2 d1
   rw [szFin_cont (by simpa using d1),if_neg (show ¬ (byt s i / 8=30∧(i+1<s.size∧byt s (i+1) / 64=2)∧(i+2<s.size∧byt s (i+2) / 64=2)∧(i+3<s.size∧byt s (i+3) / 64=2)) by omega)];rfl
 rw [if_neg c3]
 by_cases y1:byt s i / 32=6∧(i+1<s.size∧byt s (i+1) / 64=2)
 ·rw [if_pos y1,if_neg (show ¬ ((byt s i % 32)*64+byt s (i+1) % 64≥0x80) by omega)];rfl
 rw [if_neg y1,if_neg (show ¬ (byt s i / 16=14∧(i+1<s.size∧byt s (i+1) / 64=2)∧(i+2<s.size∧byt s (i+2) / 64=2)) by omega)]
 by_cases y3:byt s i / 8=30∧(i+1<s.size∧byt s (i+1) / 64=2)∧(i+2<s.size∧byt s (i+2) / 64=2)∧(i+3<s.size∧byt s (i+3) / 64=2)
 ·have hvv:=valid_iff ((byt s i % 8)*262144+(byt s (i+1) % 64)*4096+(byt s (i+2) % 64)*64+byt s (i+3) % 64)
  rw [if_pos y3,if_neg (fun h=>by have:=hvv.1 h.2;omega)];rfl
 ·rw [if_neg y3];rfl
def szV (s:ByteArray) (i:Nat):Value:=.tuple [.int .i64 ((szR s i).1:Int),.int .i64 ((szR s i).2:Int)].toArray
theorem szV_of {s:ByteArray}{i a b:Nat}(h:szR s i=(a,b)) {x y:Int}(hx:x=a) (hy:y=b):Value.tuple #[.int .i64 x,.int .i64 y]=szV s i:=by
 unfold szV;rw [h,hx,hy]
theorem acc_lt (s:ByteArray) (i v:Nat) (hv:v<256):∀ k,k≤3→acc s i v k<256*128 ^ k
 | 0,_=>by
  show v<256*128 ^ 0
  omega
 | k+1,hk=>by
  have ih:=acc_lt s i v hv k (by omega)
  have h1:=byt_lt s (i+(k+1))
  have h2:(128:Nat) ^ (k+1)=128*128 ^ k:=by rw [Nat.pow_succ,Nat.mul_comm]
  have h3:0<(128:Nat) ^ k:=Nat.pos_of_ne_zero (by simp)
  have h4:acc s i v (k+1)=64*acc s i v k+byt s (i+(k+1))-128:=rfl
  omega
theorem acc_lt3 (s:ByteArray) (i v:Nat) (hv:v<256) (k:Nat) (hk:k≤3):acc s i v k<536870912:=by
 have:=acc_lt s i v hv k hk
 have h2:(128:Nat) ^ k≤128 ^ 3:=Nat.pow_le_pow_right (by omega) hk
 have h3:(128:Nat) ^ 3=2097152:=by decide
 omega
theorem contB_mono {s:ByteArray}{i m:Nat}(h:contB s i m=true):∀ {k},k≤m→contB s i k=true:=by
 induction m with
 | zero =>
  intro k hk
  have e:k=0:=by omega
  rw [e];exact h
 | succ m ih =>
  intro k hk
  by_cases e:k=m+1
  ·subst e;exact h
  ·refine ih ?_ (by omega)
   have h2:(contB s i m && (decide (128≤byt s (i+(m+1))) && decide (byt s (i+(m+1))≤191)))=true:=h
   rw [Bool.and_eq_true] at h2
   exact h2.1
theorem size_s {G:GH}{s:ByteArray}{i:Nat}(hi:i<s.size) (hs:s.size≤1000000):Con Tryz.prog 55 #[.string s,.int .i64 (i:Int)] G [] (Just (szV s i) G):=by
 have b0:=byt_lt s i
 have ei:((i:Nat):Int).toNat=i:=Int.toNat_natCast i
 (refine v_enter Tryz.func55 rfl Tryz.ntmps55 rfl ?_;intro B _)
 repeat' (first|refine Wa ?_|(refine Wc ⟨?_,?_⟩<;>first|intro h|exact ⟨⟩)|fail)
 all_goals try
  (refine v_ret [] (outsA2 rfl rfl rfl) sS ?_
   refine ⟨szV_of (a:=1) (b:=byt s i) ?_ rfl rfl,rfl,rfl⟩
   unfold szR
   rw [if_pos (by omega)])
 all_goals try
  (refine v_ret [] (outsA2 rfl rfl rfl) sS ?_
   refine ⟨szV_of (a:=0) (b:=0) ?_ rfl rfl,rfl,rfl⟩
   unfold szR
   first
    | rw [if_neg (show ¬ byt s i<128 by omega),if_pos (show 194≤byt s i∧byt s i≤223 by omega),szFin_short (by omega)]
    | rw [if_neg (show ¬ byt s i<128 by omega),if_neg (show ¬ (194≤byt s i∧byt s i≤223) by omega),if_pos (show 224≤byt s i∧byt s i≤239 by omega),szFin_short (by omega)]
    | rw [if_neg (show ¬ byt s i<128 by omega),if_neg (show ¬ (194≤byt s i∧byt s i≤223) by omega),if_neg (show ¬ (224≤byt s i∧byt s i≤239) by omega),if_pos (show 240≤byt s i∧byt s i≤244 by omega),szFin_short (by omega)]
    | rw [if_neg (show ¬ byt s i<128 by omega),if_neg (show ¬ (194≤byt s i∧byt s i≤223) by omega),if_neg (show ¬ (224≤byt s i∧byt s i≤239) by omega),if_neg (show ¬ (240≤byt s i∧byt s i≤244) by omega)])
 all_goals
  (refine v_loop [10,9,7,8,0,1] (fun us G' μ'=>G'=G∧μ'=[]∧∃ (k m low v:Nat) (x N L:Int),us=[Value.int .i64 ((k:Int)+1),.int .i64 x,.int .i64 N,.int .i64 L,.string s,.int .i64 (i:Int)]∧N=(m:Int)+1∧L=low∧x=(acc s i v k:Nat)∧k≤m∧m≤3∧v<256∧i+(m+1)≤s.size∧contB s i k=true∧szR s i=szFin s i m low v) (fun us=>5-(headI us).toNat) rfl ?_ ?_
   ·refine ⟨rfl,rfl,?_⟩
    first
     | exact ⟨0,1,128,byt s i-192,_,_,_,rfl,rfl,rfl,by show _=((byt s i-192:Nat):Int);omega,by omega,by omega,by omega,by omega,rfl,by unfold szR;rw [if_neg (show ¬ byt s i<128 by omega),if_pos (show 194≤byt s i∧byt s i≤223 by omega)]⟩
     | exact ⟨0,2,2048,byt s i-224,_,_,_,rfl,rfl,rfl,by show _=((byt s i-224:Nat):Int);omega,by omega,by omega,by omega,by omega,rfl,by unfold szR;rw [if_neg (show ¬ byt s i<128 by omega),if_neg (show ¬ (194≤byt s i∧byt s i≤223) by omega),if_pos (show 224≤byt s i∧byt s i≤239 by omega)]⟩
     | exact ⟨0,3,65536,byt s i-240,_,_,_,rfl,rfl,rfl,by show _=((byt s i-240:Nat):Int);omega,by omega,by omega,by omega,by omega,rfl,by unfold szR;rw [if_neg (show ¬ byt s i<128 by omega),if_neg (show ¬ (194≤byt s i∧byt s i≤223) by omega),if_neg (show ¬ (224≤byt s i∧byt s i≤239) by omega),if_pos (show 240≤byt s i∧byt s i≤244 by omega)]⟩
   rintro us G' μ' ⟨rfl,rfl,k,m,low,v,x,N,L,rfl,rfl,rfl,rfl,hk,hm,hv,him,hcb,hsz⟩
   have ha:=acc_lt3 s i v hv k (by omega)
   have bk:=byt_lt s (i+(k+1))
   have ek:((i:Int)+((k:Int)+1)).toNat=i+(k+1):=by omega
   have hacc:acc s i v (k+1)=64*acc s i v k+byt s (i+(k+1))-128:=rfl
   have hcon:contB s i (k+1)=(contB s i k && (decide (128≤byt s (i+(k+1))) && decide (byt s (i+(k+1))≤191))):=rfl
   repeat' (first|apply v_pure;(case hop=>(apply p_indexSb;(case hx|hi=>rfl);all_goals omega));(case hd=>rfl);rw [ek]|refine Wa ?_|(refine Wc ⟨?_,?_⟩<;>first|intro h|exact ⟨⟩)|fail)
   all_goals try
    (refine v_ret [] (outsA2 rfl rfl rfl) sS ?_
     refine ⟨szV_of (a:=0) (b:=0) ?_ rfl rfl,rfl,rfl⟩
     rw [hsz]
     first
      |(have:k+1≤m:=by omega
        refine szFin_cont ?_
        cases hc:contB s i m with
        | false=>rfl
        | true =>
         have h2:=contB_mono hc this
         rw [hcon] at h2
         simp only [Bool.and_eq_true,decide_eq_true_eq] at h2
         omega)
      |(obtain rfl:k=m:=by omega
        refine szFin_low ?_
        omega))
   all_goals try
    (refine v_ret [] (outsA2 rfl rfl rfl) sS ?_
     obtain rfl:k=m:=by omega
     refine ⟨szV_of (a:=k+1) (b:=acc s i v k) ?_ (by omega) rfl,rfl,rfl⟩
     rw [hsz]
     exact szFin_ok (by omega) hcb (by omega))
   refine Va rfl ⟨rfl,rfl,k+1,m,low,v,_,_,_,rfl,rfl,rfl,by rw [hacc];omega,by omega,hm,hv,him,?_,hsz⟩
   rw [hcon,hcb]
   simp only [Bool.true_and,Bool.and_eq_true,decide_eq_true_eq]
   omega)
def plainP (r:Int):Prop:=(97≤r∧r≤122)∨(65≤r∧r≤90)∨(48≤r∧r≤57)∨r=45∨r=95∨r=46∨r=58∨(161≤r∧r≠65533)
instance (r:Int):Decidable (plainP r):=by unfold plainP;infer_instance
theorem byt_list (l:List UInt8) (j:Nat):byt ⟨l.toArray⟩ j=(l.getD j 0).toNat:=by
 unfold byt
 congr 1
 by_cases h:j<l.length
 ·simp [ByteArray.get!,h]
 ·simp [ByteArray.get!,h]
  rfl
def plainL:List UInt8:=[97,98,99,100,101,102,103,104,105,106,107,108,109,110,111,112,113,114,115,116,117,118,119,120,121,122,65,66,67,68,69,70,71]++[72,73,74,75,76,77,78,79,80,81,82,83,84,85,86,87,88,89,90,48,49,50,51,52,53,54,55,56,57,45,95,46,58]
theorem plainL_all:(List.range 66).all (fun j=>decide (plainP ((plainL.getD j 0).toNat:Int)))=true:=by decide +kernel
theorem plainL_has:(List.range 128).all (fun c => !decide (plainP (c:Int)) || ((List.range 66).any fun j=>decide ((plainL.getD j 0).toNat=c)))=true:=by decide +kernel
theorem plain_s (G:GH) (r:Int):Con Tryz.prog 56 #[.int .i64 r] G [] (Just (.bool (decide (plainP r))) G):=by
 (refine v_enter Tryz.func56 rfl Tryz.ntmps56 rfl ?_;intro B _)
 repeat' (first|refine Wa ?_|(refine Wc ⟨?_,?_⟩<;>first|intro h|exact ⟨⟩)|fail)
 refine v_loop [4,3,0] (fun us G' μ'=>G'=G∧μ'=[]∧∃ (k:Nat) (sL:ByteArray),us=[Value.int .i64 (k:Int),.string sL,.int .i64 r]∧k≤66∧sL.size=66∧(∀ j,byt sL j=(plainL.getD j 0).toNat)∧∀ j,j<k→((plainL.getD j 0).toNat:Int)≠r) (fun us=>67-(headI us).toNat) rfl ⟨rfl,rfl,0,_,rfl,by omega,rfl,fun j=>byt_list plainL j,by omega⟩ ?_
 rintro us G' μ' ⟨rfl,rfl,k,sL,rfl,hk,hsz,hb,hno⟩
 repeat' (first|refine Wa ?_|(refine Wc ⟨?_,?_⟩<;>first|intro h|exact ⟨⟩)|fail)
 ·refine Vr ?_
  refine ⟨?_,rfl,rfl⟩
  have h1:=List.all_eq_true.1 plainL_all k (by simp;omega)
  rename_i h
  rw [hb] at h
  rw [decide_eq_true_eq,h] at h1
  rw [decide_eq_true h1]
 ·refine Va rfl ⟨rfl,rfl,k+1,sL,rfl,by omega,hsz,hb,fun j hj=>?_⟩
  by_cases e:j=k
  ·subst e
   rename_i h
   rw [hb] at h
   exact h
  ·exact hno j (by omega)
 all_goals
  (have hn:¬ (0≤r∧r<128∧plainP r):=by
    rintro ⟨h0,h1,h2⟩
    have h3:=List.all_eq_true.1 plainL_has r.toNat (by simp;omega)
    have e:((r.toNat:Nat):Int)=r:=by omega
    simp only [Bool.or_eq_true,Bool.not_eq_true',decide_eq_false_iff_not,e,List.any_eq_true,List.mem_range,decide_eq_true_eq] at h3
    rcases h3 with h3|⟨j,hj,h3⟩
    ·exact h3 h2
    ·exact hno j (by omega) (by omega)
   refine Vr ?_
   refine ⟨?_,rfl,rfl⟩
   first
    |(have h161:161≤r:=by assumption
      by_cases hr:r=65533
      ·rw [dec_pos hr,decide_eq_false (by unfold plainP;omega)];rfl
      ·rw [dec_neg hr,decide_eq_true (by unfold plainP;omega)];rfl)
    |(rw [decide_eq_false]
      intro h
      refine hn ⟨?_,?_,h⟩<;>(unfold plainP at h;omega)))
def badR (s:ByteArray):Nat→Nat→Int
 | 0,_ => -1
 | n+1,p=>if p<s.size then (if (szR s p).1=0 then (p:Int) else badR s n (p+(szR s p).1)) else -1
def keyR (s:ByteArray):Nat→Nat→Bool
 | 0,_=>true
 | n+1,p=>if p<s.size then (if (szR s p).1=0 then false else if plainP ((szR s p).2:Int) then keyR s n (p+(szR s p).1) else false) else true
def keyB (s:ByteArray):Bool:=(decide (1≤s.size) && decide (s.size≤24)) && keyR s s.size 0
def okBytes (s:ByteArray):Prop := ∀ i,i<s.size→32≤byt s i∧byt s i≠127
noncomputable instance (s:ByteArray):Decidable (okBytes s):=Classical.propDecidable _
noncomputable def valB (s:ByteArray):Bool:=(decide (s.size≤48) && decide (badR s s.size 0<0)) && decide (okBytes s)
theorem badR_end {s:ByteArray}{n p:Nat}(h:¬ p<s.size):badR s n p = -1:=by
 cases n with
 | zero=>rfl
 | succ n=>unfold badR;rw [if_neg h]
theorem keyR_end {s:ByteArray}{n p:Nat}(h:¬ p<s.size):keyR s n p=true:=by
 cases n with
 | zero=>rfl
 | succ n=>unfold keyR;rw [if_neg h]
theorem fuel {s:ByteArray}{n p:Nat}(h:p<s.size) (hn:s.size≤p+n):∃ m,n=m+1:=⟨n-1,by omega⟩
theorem szR_le (s:ByteArray) (p:Nat):(szR s p).1≤4:=by
 unfold szR szFin
 repeat' split
 all_goals simp
theorem refBad_s {G:GH}{s:ByteArray}(hs:s.size≤1000000):Con Tryz.prog 57 #[.string s] G [] (Just (.int .i64 (badR s s.size 0)) G):=by
 (refine v_enter Tryz.func57 rfl Tryz.ntmps57 rfl ?_;intro B _)
 repeat' (first|refine Wa ?_|(refine Wc ⟨?_,?_⟩<;>first|intro h|exact ⟨⟩)|fail)
 refine v_loop [3,0] (fun us G' μ'=>G'=G∧μ'=[]∧∃ (p n:Nat),us=[Value.int .i64 (p:Int),.string s]∧s.size≤p+n∧p≤s.size+4∧badR s s.size 0=badR s n p) (fun us=>s.size-(headI us).toNat) rfl ⟨rfl,rfl,0,s.size,rfl,by omega,by omega,rfl⟩ ?_
 rintro us G' μ' ⟨rfl,rfl,p,n,rfl,hn,hp,he⟩
 have h4:=szR_le s p
 repeat' (first|refine Wa ?_|(refine Wc ⟨?_,?_⟩<;>first|intro h|exact ⟨⟩)|apply v_callJ (hs:=size_s ?o1 ?o2);(case ha=>rfl);(case o1|o2=>omega);(case hd=>rfl)|fail)
 ·obtain ⟨m,rfl⟩:=fuel (by omega) hn
  refine Vr ?_
  refine ⟨?_,rfl,rfl⟩
  rw [he,badR,if_pos (by omega),if_pos (by omega)]
 ·obtain ⟨m,rfl⟩:=fuel (by omega) hn
  refine Va rfl ⟨rfl,rfl,p+(szR s p).1,m,rfl,by omega,by omega,?_⟩
  rw [he,badR,if_pos (by omega),if_neg (by omega)]
 ·refine Vr ?_
  refine ⟨?_,rfl,rfl⟩
  rw [he,badR_end (by omega)]
theorem refKey_s {G:GH}{s:ByteArray}(hs:s.size≤9223372036854775807):Con Tryz.prog 22 #[.string s] G [] (Just (.bool (keyB s)) G):=by
 (refine v_enter Tryz.func22 rfl Tryz.ntmps22 rfl ?_;intro B _)
 repeat' (first|refine Wa ?_|(refine Wc ⟨?_,?_⟩<;>first|intro h|exact ⟨⟩)|fail)
 all_goals try
  (refine Vr ?_
   refine ⟨?_,rfl,rfl⟩
   have:(decide (1≤s.size) && decide (s.size≤24))=false:=by
    rw [Bool.and_eq_false_iff,decide_eq_false_iff_not,decide_eq_false_iff_not];omega
   rw [keyB,this];rfl)
 have hk:keyB s=keyR s s.size 0:=by
  rw [keyB,decide_eq_true (by omega),decide_eq_true (by omega)];rfl
 refine v_loop [3,0] (fun us G' μ'=>G'=G∧μ'=[]∧∃ (p n:Nat),us=[Value.int .i64 (p:Int),.string s]∧s.size≤p+n∧p≤s.size+4∧keyB s=keyR s n p) (fun us=>s.size-(headI us).toNat) rfl ⟨rfl,rfl,0,s.size,rfl,by omega,by omega,hk⟩ ?_
 rintro us G' μ' ⟨rfl,rfl,p,n,rfl,hn,hp,he⟩
 have h4:=szR_le s p
 repeat' (first|refine Wa ?_|(refine Wc ⟨?_,?_⟩<;>first|intro h|exact ⟨⟩)|apply v_callJ (hs:=size_s ?o1 ?o2);(case ha=>rfl);(case o1|o2=>omega);(case hd=>rfl)|refine cJ (plain_s _ _) ?_|fail)
 ·obtain ⟨m,rfl⟩:=fuel (by omega) hn
  refine Vr ?_
  refine ⟨?_,rfl,rfl⟩
  rw [he,keyR,if_pos (by omega),if_pos (by omega)]
 ·obtain ⟨m,rfl⟩:=fuel (by omega) hn
  refine Vr ?_
  refine ⟨?_,rfl,rfl⟩
  rw [he,keyR,if_pos (by omega),if_neg (by omega),if_neg (by assumption)]
 ·obtain ⟨m,rfl⟩:=fuel (by omega) hn
  refine Va rfl ⟨rfl,rfl,p+(szR s p).1,m,rfl,by omega,by omega,?_⟩
  rw [he,keyR,if_pos (by omega),if_neg (by omega),if_pos (by assumption)]
 ·refine Vr ?_
  refine ⟨?_,rfl,rfl⟩
  rw [he,keyR_end (by omega)]
theorem refVal_s {G:GH}{s:ByteArray}(hs:s.size≤9223372036854775807):Con Tryz.prog 23 #[.string s] G [] (Just (.bool (valB s)) G):=by
 (refine v_enter Tryz.func23 rfl Tryz.ntmps23 rfl ?_;intro B _)
 repeat' (first|refine Wa ?_|(refine Wc ⟨?_,?_⟩<;>first|intro h|exact ⟨⟩)|apply v_callJ (hs:=refBad_s ?o1);(case ha=>rfl);(case o1=>omega);(case hd=>rfl)|fail)
 all_goals try
  (refine Vr ?_
   refine ⟨?_,rfl,rfl⟩
   have:(decide (s.size≤48) && decide (badR s s.size 0<0))=false:=by
    rw [Bool.and_eq_false_iff,decide_eq_false_iff_not,decide_eq_false_iff_not];omega
   rw [valB,this];rfl)
 have hv:valB s=decide (okBytes s):=by
  rw [valB,decide_eq_true (by omega),decide_eq_true (by omega)];rfl
 refine v_loop [3,0] (fun us G' μ'=>G'=G∧μ'=[]∧∃ (p:Nat),us=[Value.int .i64 (p:Int),.string s]∧p≤s.size∧∀ j,j<p→32≤byt s j∧byt s j≠127) (fun us=>s.size-(headI us).toNat) rfl ⟨rfl,rfl,0,rfl,by omega,by omega⟩ ?_
 rintro us G' μ' ⟨rfl,rfl,p,rfl,hp,hno⟩
 repeat' (first|refine Wa ?_|(refine Wc ⟨?_,?_⟩<;>first|intro h|exact ⟨⟩)|fail)
 all_goals try
  (refine Vr ?_
   refine ⟨?_,rfl,rfl⟩
   rw [hv,decide_eq_false]
   intro hm
   have:=hm p (by omega)
   omega)
 all_goals try
  (refine Va rfl ⟨rfl,rfl,p+1,rfl,by omega,fun j hj=>?_⟩
   by_cases e:j=p
   ·subst e;omega
   ·exact hno j (by omega))
 refine Vr ?_
 refine ⟨?_,rfl,rfl⟩
 rw [hv,decide_eq_true]
 exact fun j hj=>hno j (by omega)
def allF (f:Nat→Bool) (s:ByteArray):Nat→Nat→Bool
 | 0,_=>true
 | n+1,p=>if p<s.size then (if f (Utf8.decode s p).1=true then allF f s n (p+(Utf8.decode s p).2) else false) else true
theorem allF_end {f:Nat→Bool}{s:ByteArray}{n p:Nat}(h:¬ p<s.size):allF f s n p=true:=by
 cases n with
 | zero=>rfl
 | succ n=>unfold allF;rw [if_neg h]
theorem decode_w (s:ByteArray) (p:Nat) (h:p<s.size):1≤(Utf8.decode s p).2∧(Utf8.decode s p).2≤4∧(Utf8.decode s p).1<1114112:=by
 rw [decode_of_sz s p h]
 have h4:=szR_le s p
 have h5:(szR s p).2≤1114111:=by
  have:=byt_lt s p
  unfold szR szFin
  repeat' split
  all_goals (try simp only);omega
 split
 ·simp
 ·simp only;omega
theorem allF_plain (s:ByteArray):∀ n p,s.size≤p+n→(decide (badR s n p<0) && allF (fun r=>decide (plainP (r:Int))) s n p)=keyR s n p
 | 0,p,h=>by simp [badR,allF,keyR]
 | n+1,p,h=>by
  unfold badR allF keyR
  by_cases hp:p<s.size
  ·simp only [if_pos hp]
   rw [decode_of_sz s p hp]
   by_cases hz:(szR s p).1=0
   ·simp only [if_pos hz]
    simp;omega
   ·simp only [if_neg hz]
    by_cases hf:plainP ((szR s p).2:Int)
    ·simp only [decide_eq_true hf,if_true,if_pos hf]
     exact allF_plain s n _ (by omega)
    ·simp [hf]
  ·simp [hp]
theorem szFin_spec {s:ByteArray}{i m low v:Nat}(h:(szFin s i m low v).1≠0):¬ s.size<i+(m+1)∧contB s i m=true∧szFin s i m low v=(m+1,acc s i v m)∧low≤acc s i v m:=by
 by_cases h1:s.size<i+(m+1)
 ·rw [szFin_short h1] at h;exact absurd rfl h
 cases h2:contB s i m with
 | false=>rw [szFin_cont h2] at h;exact absurd rfl h
 | true =>
  by_cases h3:acc s i v m<low∨1114111<acc s i v m∨(55296≤acc s i v m∧acc s i v m≤57343)
  ·rw [szFin_low h3] at h;exact absurd rfl h
  ·exact ⟨h1,rfl,szFin_ok h1 h2 h3,by omega⟩
theorem cont_bytes {s:ByteArray}{i m:Nat}(h:contB s i m=true):∀ k,k<m→128≤byt s (i+(k+1)):=by
 intro k hk
 have h1:(contB s i k && (decide (128≤byt s (i+(k+1))) && decide (byt s (i+(k+1))≤191)))=true:=contB_mono h (k:=k+1) (by omega)
 simp only [Bool.and_eq_true,decide_eq_true_eq] at h1
 exact h1.2.1
theorem szFin_bytes {s:ByteArray}{i m low v:Nat}(hb:128≤byt s i) (hl:128≤low) (h:(szFin s i m low v).1≠0):((decide (32≤(szFin s i m low v).2) && decide ((szFin s i m low v).2≠127))=true↔∀ j,i≤j→j<i+(szFin s i m low v).1→32≤byt s j∧byt s j≠127)∧i+(szFin s i m low v).1≤s.size:=by
 obtain ⟨h1,h2,h3,h4⟩:=szFin_spec h
 rw [h3]
 simp only [Bool.and_eq_true,decide_eq_true_eq]
 refine ⟨⟨fun _ j hj hj2=>?_,fun _=>by omega⟩,by omega⟩
 by_cases e:j=i
 ·subst e;omega
 ·have:=cont_bytes h2 (j-i-1) (by omega)
  rw [show i+(j-i-1+1)=j by omega] at this
  omega
theorem sz_both (s:ByteArray) (p:Nat) (hz:¬ (szR s p).1=0):((decide (32≤(szR s p).2) && decide ((szR s p).2≠127))=true↔∀ i,p≤i→i<p+(szR s p).1→32≤byt s i∧byt s i≠127)∧(p<s.size→p+(szR s p).1≤s.size):=by
 unfold szR at hz ⊢
 by_cases c0:byt s p<128
 ·simp only [if_pos c0] at hz ⊢
  simp only [Bool.and_eq_true,decide_eq_true_eq]
  refine ⟨⟨fun h i h1 h2=>?_,fun h=>h p (by omega) (by omega)⟩,by omega⟩
  obtain rfl:i=p:=by omega
  exact h
 ·simp only [if_neg c0] at hz ⊢
  by_cases c1:194≤byt s p∧byt s p≤223
  ·simp only [if_pos c1] at hz ⊢
   have:=szFin_bytes (by omega) (by omega) hz
   exact ⟨this.1,fun _=>this.2⟩
  ·simp only [if_neg c1] at hz ⊢
   by_cases c2:224≤byt s p∧byt s p≤239
   ·simp only [if_pos c2] at hz ⊢
    have:=szFin_bytes (by omega) (by omega) hz
    exact ⟨this.1,fun _=>this.2⟩
   ·simp only [if_neg c2] at hz ⊢
    by_cases c3:240≤byt s p∧byt s p≤244
    ·simp only [if_pos c3] at hz ⊢
     have:=szFin_bytes (by omega) (by omega) hz
     exact ⟨this.1,fun _=>this.2⟩
    ·simp only [if_neg c3] at hz
     exact absurd trivial hz
theorem sz_bytes (s:ByteArray) (p:Nat) (hz:¬ (szR s p).1=0):((decide (32≤(szR s p).2) && decide ((szR s p).2≠127))=true↔∀ i,p≤i→i<p+(szR s p).1→32≤byt s i∧byt s i≠127):=(sz_both s p hz).1
theorem sz_end (s:ByteArray) (p:Nat) (hz:¬ (szR s p).1=0) (h:p<s.size):p+(szR s p).1≤s.size:=(sz_both s p hz).2 h
theorem allF_val (s:ByteArray):∀ n p,s.size≤p+n→badR s n p<0→(allF (fun r=>decide (32≤r) && decide (r≠127)) s n p=true↔∀ i,p≤i→i<s.size→32≤byt s i∧byt s i≠127)
 | 0,p,h,_=>by
  simp only [allF,true_iff]
  intro i h1 h2;omega
 | n+1,p,h,hb=>by
  unfold badR at hb
  unfold allF
  by_cases hp:p<s.size
  ·rw [if_pos hp] at hb ⊢
   rw [decode_of_sz s p hp]
   by_cases hz:(szR s p).1=0
   ·rw [if_pos hz] at hb;omega
   ·rw [if_neg hz] at hb
    simp only [if_neg hz]
    have ih:=allF_val s n (p+(szR s p).1) (by omega) hb
    have key:((decide (32≤(szR s p).2) && decide ((szR s p).2≠127))=true)↔∀ i,p≤i→i<p+(szR s p).1→32≤byt s i∧byt s i≠127:=sz_bytes s p hz
    by_cases hf:(decide (32≤(szR s p).2) && decide ((szR s p).2≠127))=true
    ·rw [if_pos hf,ih]
     have hk:=key.1 hf
     constructor
     ·intro hh i h1 h2
      by_cases hi:i<p+(szR s p).1
      ·exact hk i h1 hi
      ·exact hh i (by omega) h2
     ·intro hh i h1 h2
      exact hh i (by omega) h2
    ·rw [if_neg hf]
     constructor
     ·intro hh;cases hh
     ·intro hh
      have:=key.2 fun i h1 h2=>hh i h1 (by have:=sz_end s p hz hp;omega)
      rw [this] at hf;exact absurd rfl hf
  ·rw [if_neg hp]
   simp only [true_iff]
   intro i h1 h2;omega
def laysDecode_ren:Go.Shelf.Ren:=⟨fun|197=>110|260=>150|n=>n,fun|0=>0|3=>3|4=>4|5=>5|9=>9|21=>21|46=>205|105=>194|119=>276|138=>278|139=>279|n=>n,fun|3=>5|4=>6|n=>n⟩
theorem laysDecode:Lays.n197 Tryz.prog laysDecode_ren where
 mixed:=by kernel_rfl
 f197:=Tryz.func110.trans (congrArg some (by kernel_rfl))
 f260:=Tryz.func150.trans (congrArg some (by kernel_rfl))
 t0:=Tryz.underlying0
 a0:=Tryz.isAgg0
 z0:=Tryz.sizeOf0
 v0:=Tryz.zeroValue0
 t3:=Tryz.underlying3
 a3:=Tryz.isAgg3
 z3:=Tryz.sizeOf3
 v3:=Tryz.zeroValue3
 t4:=Tryz.underlying4
 a4:=Tryz.isAgg4
 z4:=Tryz.sizeOf4
 v4:=Tryz.zeroValue4
 t5:=Tryz.underlying5
 a5:=Tryz.isAgg5
 z5:=Tryz.sizeOf5
 v5:=Tryz.zeroValue5
 t9:=Tryz.underlying9
 a9:=Tryz.isAgg9
 z9:=Tryz.sizeOf9
 v9:=Tryz.zeroValue9
 t21:=Tryz.underlying21
 a21:=Tryz.isAgg21
 z21:=Tryz.sizeOf21
 v21:=Tryz.zeroValue21
 t46:=Tryz.underlying205
 a46:=Tryz.isAgg205
 z46:=Tryz.sizeOf205
 v46:=Tryz.zeroValue205
 t105:=Tryz.underlying194
 a105:=Tryz.isAgg194
 z105:=Tryz.sizeOf194
 v105:=Tryz.zeroValue194
 t119:=Tryz.underlying276
 a119:=Tryz.isAgg276
 z119:=Tryz.sizeOf276
 t138:=Tryz.underlying278
 a138:=Tryz.isAgg278
 z138:=Tryz.sizeOf278
 v138:=Tryz.zeroValue278
 t139:=Tryz.underlying279
 a139:=Tryz.isAgg279
 z139:=Tryz.sizeOf279
 v139:=Tryz.zeroValue279
 g3:=by kernel_rfl
 g4:=by kernel_rfl
def TabsG (G:GH):Prop := ∀ w:World,(∀ b o,G b=some o→w.heap[b]? = some o)→Lib.Utf8Tabs (laysDecode_ren.g 3) (laysDecode_ren.g 4) w
theorem TabsG.le {G G':GH}(h:TabsG G) (hle:GH.le G G'):TabsG G':=fun w hw=>h w fun b o hb=>hw b o (hle b o hb)
attribute [local semireducible] Con in
theorem Con.ofCalls {P:Program}{f:FuncId}{args:Array Value}{G:GH}{μ:OH}{Φ:Value→GH→OH→Prop}(h:∀ w,Mem G μ w→Calls P f args w fun e w'=>∃ v,e=.returned v∧∃ G' μ',Step G μ w G' μ' w'∧Φ v G' μ'):Con P f args G μ Φ:=by
 intro w hw
 exact (h w hw).mono fun e w' hq=>by
  obtain ⟨v,rfl,hv⟩:=hq
  exact ⟨v,rfl,hv⟩
theorem Step.ofBelow {G:GH}{w w':World}(hw:Mem G [] w) (hb:Below w.heap.size w w'):Step G [] w G [] w' :=
 ⟨⟨fun b o h=>by rw [hb.block b (lt_of_heap (hw.g b o h))];exact hw.g b o h,fun _ _ h=>(by cases h),List.nodup_nil,fun _ _ h=>(by cases h)⟩,GH.le_refl _,hb.os,hb.tape,hb.output,hb.size,fun b h _=>hb.block b h,fun _ _ h=>(by cases h),fun b o h=>.inl ⟨o,h⟩⟩
theorem decode_s {G:GH}(hT:TabsG G) (s:ByteArray):Con Tryz.prog 110 #[.string s] G [] (Just (.tuple [.int .i32 ((Lib.decodeGo s).1:Int),.int .i64 ((Lib.decodeGo s).2:Int)].toArray) G):=by
 refine Con.ofCalls fun w hw=>?_
 refine (Any.utf8_DecodeRuneInString laysDecode s w (hT w hw.g)).mono ?_
 rintro e w' ⟨rfl,hb⟩
 exact ⟨_,rfl,G,[],Step.ofBelow hw hb,rfl,rfl,rfl⟩
end Go.Proofs.YtnncjoooaknlmaaGreatDoor
/-
  Texts as keys: their rank, which keeps the order; comparisons of texts.
-/
namespace Go.Proofs.YtnncjoooaknlmaaGreatDoor
open Go.Vx Go.ChangeShapes Go.WideShapes Go.ChangeAt Go.RowKit
def knL:Nat→List UInt8→Nat
 | 0,_=>0
 | _+1,[]=>0
 | n+1,b::l=>(b.toNat+1)*257 ^ n+knL n l
def kn (s:ByteArray):Int:=(knL 200 s.data.toList:Nat)
section
variable {P:Program}{ty:TypeId}{σ:Env}{t t':TypeId}{x y:Operand}{a b:ByteArray}
attribute [local semireducible] PureOp
end
end Go.Proofs.YtnncjoooaknlmaaGreatDoor
/-
  Texts (layer 5), the fourth part: the program's walks.
-/
namespace Go.Proofs.YtnncjoooaknlmaaGreatDoor
open Go.Vx Go.ChangeShapes Go.WideShapes Go.ChangeAt Go.RowKit
theorem byt_extract {s:ByteArray}{i k:Nat}(h:i+k<s.size):byt (s.extract i s.size) k=byt s (i+k):=by
 have hs:(s.extract i s.size).size=s.size-i:=by simp
 rw [byt_eq (by omega),byt_eq h]
 congr 1
 simp [ByteArray.getElem_extract]
theorem decode_extract {s:ByteArray}{i:Nat}(h:i<s.size):Utf8.decode (s.extract i s.size) 0=Utf8.decode s i:=by
 have hs:(s.extract i s.size).size=s.size-i:=by simp
 rw [decode_byt,decode_byt,hs]
 have e0:=byt_extract (s:=s) (i:=i) (k:=0) h
 rw [Nat.add_zero] at e0
 simp only [Nat.zero_add,e0]
 by_cases h1:i+1<s.size
 ·have e1:=byt_extract (s:=s) (i:=i) (k:=1) h1
  rw [e1]
  have c1:(1<s.size-i)↔(i+1<s.size):=by omega
  simp only [c1]
  by_cases h2:i+2<s.size
  ·have e2:=byt_extract (s:=s) (i:=i) (k:=2) h2
   rw [e2]
   have c2:(2<s.size-i)↔(i+2<s.size):=by omega
   simp only [c2]
   by_cases h3:i+3<s.size
   ·have e3:=byt_extract (s:=s) (i:=i) (k:=3) h3
    rw [e3]
    have c3:(3<s.size-i)↔(i+3<s.size):=by omega
    simp only [c3]
   ·have c3:¬ (3<s.size-i):=by omega
    simp only [h3,c3,false_and,and_false,if_false]
  ·have c2:¬ (2<s.size-i):=by omega
   simp only [h2,c2,false_and,and_false,if_false]
 ·have c1:¬ (1<s.size-i):=by omega
  simp only [h1,c1,false_and,and_false,if_false]
theorem decodeGo_extract {s:ByteArray}{i:Nat}(h:i<s.size):Lib.decodeGo (s.extract i s.size)=Utf8.decode s i:=by
 have hs:(s.extract i s.size).size=s.size-i:=by simp
 rw [Lib.decodeGo,if_neg (by omega),decode_extract h]
theorem sz_one {s:ByteArray}{p:Nat}(h:(szR s p).1=1):(szR s p).2<128:=by
 unfold szR at h ⊢
 by_cases c0:byt s p<128
 ·rw [if_pos c0];exact c0
 ·rw [if_neg c0] at h
  exfalso
  have key:∀ m low v,0<m→(szFin s p m low v).1≠1:=by
   intro m low v hm e
   obtain ⟨_,_,h3,_⟩:=szFin_spec (s:=s) (i:=p) (m:=m) (low:=low) (v:=v) (by omega)
   rw [h3] at e
   simp only at e
   omega
  split at h
  ·exact key _ _ _ (by omega) h
  ·split at h
   ·exact key _ _ _ (by omega) h
   ·split at h
    ·exact key _ _ _ (by omega) h
    ·cases h
theorem bad_s {G:GH}(hT:TabsG G) {s:ByteArray}(hs:s.size≤9223372036854775807):Con Tryz.prog 162 #[.string s] G [] (Just (.int .i64 (badR s s.size 0)) G):=by
 apply Con.just
 (refine v_enter Tryz.func162 rfl Tryz.ntmps162 rfl ?_;intro B _)
 repeat' (first|refine Wa ?_|(refine Wc ⟨?_,?_⟩<;>first|intro h|exact ⟨⟩)|(refine Wb ?_;intro b)|fail)
 refine v_loopI (ι:=Nat×Nat) [8,0] (fun x us G' μ'=>G'=G∧∃ b,us=[Value.pointer (some ⟨b,0,none⟩),.string s]∧μ'=[(b,.stringIter s x.1)]∧s.size≤x.1+x.2∧badR s s.size 0=badR s x.2 x.1) (fun x=>s.size-x.1) rfl (0,s.size) ⟨rfl,_,rfl,rfl,by simp,rfl⟩ ?_
 rintro ⟨p,n⟩ us G' μ' ⟨rfl,b,rfl,rfl,hn,he⟩
 simp only at hn he
 by_cases hp:p<s.size
 ·obtain ⟨m,rfl⟩:=fuel hp hn
  have hw:=decode_w s p hp
  have hd:=decode_of_sz s p hp
  have hd2:=decodeGo_extract hp
  have ep:((p:Nat):Int).toNat=p:=Int.toNat_natCast p
  have hcall:=decode_s hT (s.extract p s.size)
  rw [hd2] at hcall
  repeat' (first|refine Wa ?_|(refine Wc ⟨?_,?_⟩<;>first|intro h|exact ⟨⟩)|apply v_nextS;(case hx=>rfl);(case hb=>exact aM);(case hp=>assumption);(case hu=>exact Upd.here _ _);(case hd=>rfl)|apply v_read;(case hop=>(apply r_nextEnd;(case hx=>rfl);(case hb=>exact aM);(case hp=>assumption)));(case hd=>rfl)|refine cJ hcall ?_|(refine Wb ?_;intro b)|fail)
  ·by_cases hz:(szR s p).1=0
   ·rw [if_pos hz] at hd
    simp only [hd] at h
    omega
   ·rw [if_neg hz] at hd
    refine v_againI (p+(szR s p).1,m) rfl ⟨rfl,b,rfl,by rw [hd],by simp only;rw [hd] at hw;simp only at hw;omega,?_⟩ (by simp only;rw [hd] at hw;simp only at hw;omega)
    rw [he,badR,if_pos hp,if_neg hz]
  ·refine Vr ?_
   refine ⟨?_,rfl⟩
   have hz:(szR s p).1=0:=by
    apply Classical.byContradiction
    intro hz
    rw [if_neg hz] at hd
    rename_i h1
    rw [hd] at h h1
    simp only at h h1
    have:=sz_one (s:=s) (p:=p) (by omega)
    omega
   rw [he,badR,if_pos hp,if_pos hz]
  ·by_cases hz:(szR s p).1=0
   ·rw [if_pos hz] at hd
    rw [hd] at h
    simp at h
   ·rw [if_neg hz] at hd
    refine v_againI (p+(szR s p).1,m) rfl ⟨rfl,b,rfl,by rw [hd],by simp only;rw [hd] at hw;simp only at hw;omega,?_⟩ (by simp only;rw [hd] at hw;simp only at hw;omega)
    rw [he,badR,if_pos hp,if_neg hz]
 ·repeat' (first|refine Wa ?_|(refine Wc ⟨?_,?_⟩<;>first|intro h|exact ⟨⟩)|apply v_nextS;(case hx=>rfl);(case hb=>exact aM);(case hp=>assumption);(case hu=>exact Upd.here _ _);(case hd=>rfl)|apply v_read;(case hop=>(apply r_nextEnd;(case hx=>rfl);(case hb=>exact aM);(case hp=>assumption)));(case hd=>rfl)|(refine Wb ?_;intro b)|fail)
  refine Vr ?_
  refine ⟨?_,rfl⟩
  rw [he,badR_end hp]
theorem whole_s {G:GH}(hT:TabsG G) {s:ByteArray}(hs:s.size≤9223372036854775807):Con Tryz.prog 130 #[.string s] G [] (Just (.bool (decide (badR s s.size 0<0))) G):=by
 (refine v_enter Tryz.func130 rfl Tryz.ntmps130 rfl ?_;intro B _)
 repeat' (first|refine Wa ?_|(refine Wc ⟨?_,?_⟩<;>first|intro h|exact ⟨⟩)|apply v_callJ (hs:=bad_s ?o1 ?o2);(case ha=>rfl);(case o1=>exact hT);(case o2=>exact hs);(case hd=>rfl)|fail)
 refine Vr ?_
 exact ⟨by rw [dec_eq],rfl,rfl⟩
theorem plainR_s (G:GH) (r:Int):Con Tryz.prog 132 #[.int .i32 r] G [] (Just (.bool (decide (plainP r))) G):=by
 (refine v_enter Tryz.func132 rfl Tryz.ntmps132 rfl ?_;intro B _)
 repeat' (first|refine Wa ?_|(refine Wc ⟨?_,?_⟩<;>first|intro h|exact ⟨⟩)|fail)
 all_goals
  (refine Vr ?_
   refine ⟨?_,rfl,rfl⟩
   first
    | rw [decide_eq_true (by unfold plainP;omega)]
    | rw [decide_eq_false (by unfold plainP;omega)]
    |(by_cases hr:r=65533
      ·rw [dec_pos hr,decide_eq_false (by unfold plainP;omega)];rfl
      ·rw [dec_neg hr,decide_eq_true (by unfold plainP;omega)];rfl))
theorem valR_s (G:GH) (r:Nat):Con Tryz.prog 133 #[.int .i32 (r:Int)] G [] (Just (.bool (decide (32≤r) && decide (r≠127))) G):=by
 (refine v_enter Tryz.func133 rfl Tryz.ntmps133 rfl ?_;intro B _)
 repeat' (first|refine Wa ?_|(refine Wc ⟨?_,?_⟩<;>first|intro h|exact ⟨⟩)|fail)
 all_goals
  (refine Vr ?_
   refine ⟨?_,rfl,rfl⟩
   by_cases h2:r=127
   ·first
     | rw [dec_pos (show (r:Int)=127 by omega),decide_eq_false (p:=r≠127) (by omega),Bool.and_false];rfl
     | rw [decide_eq_false (p:=r≠127) (by omega),Bool.and_false]
   ·first
     | rw [dec_neg (show ¬ (r:Int)=127 by omega),decide_eq_true (p:=r≠127) (by omega),decide_eq_true (p:=32≤r) (by omega)];rfl
     | rw [decide_eq_false (p:=32≤r) (by omega),Bool.false_and])
theorem all_s {G:GH}{s:ByteArray}(hs:s.size≤9223372036854775807) (fid:FuncId) [Callable Tryz.prog fid] (f:Nat→Bool) (hf:∀ (r:Nat),Con Tryz.prog fid #[.int .i32 (r:Int)] G [] (Just (.bool (f r)) G)) :
 Con Tryz.prog 131 #[.string s,.func (.func fid) #[] #[]] G [] (Just (.bool (allF f s s.size 0)) G):=by
 apply Con.just
 (refine v_enter Tryz.func131 rfl Tryz.ntmps131 rfl ?_;intro B _)
 repeat' (first|refine Wa ?_|(refine Wc ⟨?_,?_⟩<;>first|intro h|exact ⟨⟩)|(refine Wb ?_;intro b)|fail)
 refine v_loopI (ι:=Nat×Nat) [8,1] (fun x us G' μ'=>G'=G∧∃ b,us=[Value.pointer (some ⟨b,0,none⟩),.func (.func fid) #[] #[]]∧μ'=[(b,.stringIter s x.1)]∧s.size≤x.1+x.2∧allF f s s.size 0=allF f s x.2 x.1) (fun x=>s.size-x.1) rfl (0,s.size) ⟨rfl,_,rfl,rfl,by simp,rfl⟩ ?_
 rintro ⟨p,n⟩ us G' μ' ⟨rfl,b,rfl,rfl,hn,he⟩
 simp only at hn he
 by_cases hp:p<s.size
 ·obtain ⟨m,rfl⟩:=fuel hp hn
  have hw:=decode_w s p hp
  repeat' (first|refine Wa ?_|(refine Wc ⟨?_,?_⟩<;>first|intro h|exact ⟨⟩)|apply v_nextS;(case hx=>rfl);(case hb=>exact aM);(case hp=>assumption);(case hu=>exact Upd.here _ _);(case hd=>rfl)|apply v_read;(case hop=>(apply r_nextEnd;(case hx=>rfl);(case hb=>exact aM);(case hp=>assumption)));(case hd=>rfl)|apply v_callFJ0 (hs:=hf (Utf8.decode s p).1);(case hx|ha|hd=>rfl)|(refine Wb ?_;intro b)|fail)
  ·refine Vr ?_
   refine ⟨?_,rfl⟩
   rw [he,allF,if_pos hp,if_neg (by rw [h];simp)]
  ·refine v_againI (p+(Utf8.decode s p).2,m) rfl ⟨rfl,b,rfl,rfl,by simp only;omega,?_⟩ (by simp only;omega)
   rw [he,allF,if_pos hp,if_pos (by assumption)]
 ·repeat' (first|refine Wa ?_|(refine Wc ⟨?_,?_⟩<;>first|intro h|exact ⟨⟩)|apply v_nextS;(case hx=>rfl);(case hb=>exact aM);(case hp=>assumption);(case hu=>exact Upd.here _ _);(case hd=>rfl)|apply v_read;(case hop=>(apply r_nextEnd;(case hx=>rfl);(case hb=>exact aM);(case hp=>assumption)));(case hd=>rfl)|(refine Wb ?_;intro b)|fail)
  refine Vr ?_
  refine ⟨?_,rfl⟩
  rw [he,allF_end hp]
theorem key_s {G:GH}(hT:TabsG G) {s:ByteArray}(hs:s.size≤9223372036854775807):Con Tryz.prog 89 #[.string s] G [] (Just (.bool (keyB s)) G):=by
 have hall:=all_s (G:=G) hs 132 (fun r=>decide (plainP (r:Int))) (fun r=>plainR_s G r)
 have hk:=allF_plain s s.size 0 (by omega)
 (refine v_enter Tryz.func89 rfl Tryz.ntmps89 rfl ?_;intro B _)
 repeat' (first|refine Wa ?_|(refine Wc ⟨?_,?_⟩<;>first|intro h|exact ⟨⟩)|refine cJ (whole_s hT hs) ?_|refine cJ hall ?_|fail)
 ·refine Vr ?_
  refine ⟨?_,rfl,rfl⟩
  have h0:1≤s.size:=by
   apply Classical.byContradiction
   intro h0
   have:s=ByteArray.empty:=by
    apply ByteArray.ext
    apply Array.eq_empty_of_size_eq_zero
    show s.size=0
    omega
   exact absurd this (by assumption)
  rw [keyB,← hk,decide_eq_true h0,decide_eq_true (by omega),decide_eq_true (by assumption)];rfl
 ·refine Vr ?_
  refine ⟨?_,rfl,rfl⟩
  rw [keyB,← hk,decide_eq_false (p:=badR s s.size 0<0) (by assumption),Bool.false_and,Bool.and_false]
 ·refine Vr ?_
  refine ⟨?_,rfl,rfl⟩
  rw [keyB,decide_eq_false (p:=s.size≤24) (by omega),Bool.and_false,Bool.false_and]
 ·refine Vr ?_
  refine ⟨?_,rfl,rfl⟩
  have h0:s.size=0:=by rw [h];rfl
  rw [keyB,decide_eq_false (p:=1≤s.size) (by omega),Bool.false_and,Bool.false_and]
theorem val_s {G:GH}(hT:TabsG G) {s:ByteArray}(hs:s.size≤9223372036854775807):Con Tryz.prog 91 #[.string s] G [] (Just (.bool (valB s)) G):=by
 have hall:=all_s (G:=G) hs 133 (fun r=>decide (32≤r) && decide (r≠127)) (fun r=>valR_s G r)
 have hv:=allF_val s s.size 0 (by omega)
 (refine v_enter Tryz.func91 rfl Tryz.ntmps91 rfl ?_;intro B _)
 repeat' (first|refine Wa ?_|(refine Wc ⟨?_,?_⟩<;>first|intro h|exact ⟨⟩)|refine cJ (whole_s hT hs) ?_|refine cJ hall ?_|fail)
 ·refine Vr ?_
  refine ⟨?_,rfl,rfl⟩
  have hv':=hv (by assumption)
  have e:allF (fun r=>decide (32≤r) && decide (r≠127)) s s.size 0=decide (okBytes s):=by
   rw [Bool.eq_iff_iff,hv',decide_eq_true_iff]
   exact ⟨fun h i hi=>h i (by omega) hi,fun h i _ hi=>h i hi⟩
  rw [valB,e,decide_eq_true (p:=s.size≤48) (by omega),decide_eq_true (p:=badR s s.size 0<0) (by assumption)];rfl
 ·refine Vr ?_
  refine ⟨?_,rfl,rfl⟩
  rw [valB,decide_eq_false (p:=badR s s.size 0<0) (by assumption),Bool.and_false,Bool.false_and]
 ·refine Vr ?_
  refine ⟨?_,rfl,rfl⟩
  rw [valB,decide_eq_false (p:=s.size≤48) (by omega),Bool.false_and,Bool.false_and]
structure Cm where
 kind:Int
 client:Int
 seq:Int
 key:ByteArray
 val:ByteArray
 old:ByteArray
 node:Int
def Cm.cells (c:Cm):List Value:=[.int .i64 c.kind,.int .i64 c.client,.int .i64 c.seq,.string c.key,.string c.val,.string c.old,.int .i64 c.node]
def Cm.ok (c:Cm):Prop:=(Lit.int .i64 c.kind).wf=true∧(Lit.int .i64 c.client).wf=true∧(Lit.int .i64 c.seq).wf=true∧c.key.size≤maxLen∧c.val.size≤maxLen∧c.old.size≤maxLen∧(Lit.int .i64 c.node).wf=true
def cmdFields (kind:Int):Int×Bool :=
 if kind=1∨kind=6 then (0,true) else if kind=2 then (11,true) else if kind=3∨kind=4 then (3,true) else if kind=5 then (15,true) else if kind=7∨kind=8 then (16,true) else (0,false)
theorem fields_s (G:GH) (kind:Int):Con Tryz.prog 95 #[.int .i64 kind] G [] (Just (.tuple [.int .i64 (cmdFields kind).1,.bool (cmdFields kind).2].toArray) G):=by
 (refine v_enter Tryz.func95 rfl Tryz.ntmps95 rfl ?_;intro B _)
 repeat' (first|refine Wa ?_|(refine Wc ⟨?_,?_⟩<;>first|intro h|exact ⟨⟩)|fail)
 all_goals
  (refine v_ret [] (outsA2 rfl rfl rfl) sS ?_
   refine ⟨?_,rfl,rfl⟩
   unfold cmdFields
   (repeat' split)<;>first|rfl|(exfalso;omega))
def partFn (f:FuncId):Value:=.func (.func f) #[] #[]
def partL:Nat→List Value
 | 0 => [.int .i64 1,.int .i64 8,.nilFunc,partFn 87]
 | 1 => [.int .i64 1,.int .i64 4294967296,.nilFunc,partFn 88]
 | 2 => [.int .i64 2,.int .i64 0,partFn 89,partFn 90]
 | 3 => [.int .i64 4,.int .i64 0,partFn 91,partFn 92]
 | 4 => [.int .i64 8,.int .i64 0,partFn 91,partFn 93]
 | _ => [.int .i64 16,.int .i64 9,.nilFunc,partFn 94]
def partsL:List Value:=partL 0++(partL 1++(partL 2++(partL 3++(partL 4++partL 5))))
theorem parts_s (G:GH):Con Tryz.prog 49 #[] G [] (fun r G' μ'=>G'=G∧∃ b,r=.slice (some ⟨b,0,none⟩) 6 6∧μ'=[(b,.cells partsL.toArray 105 (0,0))]):=by
 (refine v_enter Tryz.func49 rfl Tryz.ntmps49 rfl ?_;intro B _)
 repeat' (first|refine Wa ?_|(refine Wc ⟨?_,?_⟩<;>first|intro h|exact ⟨⟩)|(refine Wb ?_;intro b)|fail)
 refine v_ret [(b,_)] (outsA1 rfl rfl) sS ?_
 exact ⟨rfl,_,rfl,rfl⟩
theorem at1_s (G:GH) (b:Nat):Con Tryz.prog 87 #[.pointer (some ⟨b,0,none⟩)] G [] (Just (.iface 164 (.pointer (some ⟨b,0+1,none⟩))) G):=by
 (refine v_enter Tryz.func87 rfl Tryz.ntmps87 rfl ?_;intro B _)
 repeat' (first|refine Wa ?_|(refine Wc ⟨?_,?_⟩<;>first|intro h|exact ⟨⟩)|fail)
 refine Vr ?_
 exact ⟨rfl,rfl,rfl⟩
theorem at2_s (G:GH) (b:Nat):Con Tryz.prog 88 #[.pointer (some ⟨b,0,none⟩)] G [] (Just (.iface 164 (.pointer (some ⟨b,0+2,none⟩))) G):=by
 (refine v_enter Tryz.func88 rfl Tryz.ntmps88 rfl ?_;intro B _)
 repeat' (first|refine Wa ?_|(refine Wc ⟨?_,?_⟩<;>first|intro h|exact ⟨⟩)|fail)
 refine Vr ?_
 exact ⟨rfl,rfl,rfl⟩
theorem at3_s (G:GH) (b:Nat):Con Tryz.prog 90 #[.pointer (some ⟨b,0,none⟩)] G [] (Just (.iface 165 (.pointer (some ⟨b,0+3,none⟩))) G):=by
 (refine v_enter Tryz.func90 rfl Tryz.ntmps90 rfl ?_;intro B _)
 repeat' (first|refine Wa ?_|(refine Wc ⟨?_,?_⟩<;>first|intro h|exact ⟨⟩)|fail)
 refine Vr ?_
 exact ⟨rfl,rfl,rfl⟩
theorem at4_s (G:GH) (b:Nat):Con Tryz.prog 92 #[.pointer (some ⟨b,0,none⟩)] G [] (Just (.iface 165 (.pointer (some ⟨b,0+5,none⟩))) G):=by
 (refine v_enter Tryz.func92 rfl Tryz.ntmps92 rfl ?_;intro B _)
 repeat' (first|refine Wa ?_|(refine Wc ⟨?_,?_⟩<;>first|intro h|exact ⟨⟩)|fail)
 refine Vr ?_
 exact ⟨rfl,rfl,rfl⟩
theorem at5_s (G:GH) (b:Nat):Con Tryz.prog 93 #[.pointer (some ⟨b,0,none⟩)] G [] (Just (.iface 165 (.pointer (some ⟨b,0+4,none⟩))) G):=by
 (refine v_enter Tryz.func93 rfl Tryz.ntmps93 rfl ?_;intro B _)
 repeat' (first|refine Wa ?_|(refine Wc ⟨?_,?_⟩<;>first|intro h|exact ⟨⟩)|fail)
 refine Vr ?_
 exact ⟨rfl,rfl,rfl⟩
theorem at6_s (G:GH) (b:Nat):Con Tryz.prog 94 #[.pointer (some ⟨b,0,none⟩)] G [] (Just (.iface 164 (.pointer (some ⟨b,0+6,none⟩))) G):=by
 (refine v_enter Tryz.func94 rfl Tryz.ntmps94 rfl ?_;intro B _)
 repeat' (first|refine Wa ?_|(refine Wc ⟨?_,?_⟩<;>first|intro h|exact ⟨⟩)|fail)
 refine Vr ?_
 exact ⟨rfl,rfl,rfl⟩
def hasOf:Nat→Int
 | 0=>1
 | 1=>1
 | 2=>2
 | 3=>4
 | 4=>8
 | _=>16
def mostOf:Nat→Int
 | 0=>8
 | 1=>4294967296
 | _=>9
def Cm.num (c:Cm):Nat→Int
 | 0=>c.client
 | 1=>c.seq
 | _=>c.node
def Cm.txt (c:Cm):Nat→ByteArray
 | 2=>c.key
 | 3=>c.old
 | _=>c.val
noncomputable def isTxt:Nat→ByteArray→Bool
 | 2=>keyB
 | _=>valB
def isNum (j:Nat):Bool:=j == 0 || j == 1 || j == 5
def numR (c:Cm) (f:Int) (j:Nat):Bool:=if isNum j then (if band f (hasOf j)=0 then true else decide (1≤c.num j∧c.num j≤mostOf j)) else true
def numF (c:Cm) (f:Int) (j:Nat):Bool:=if isNum j then (if band f (hasOf j)=0 then decide (c.num j=0) else true) else true
noncomputable def txtT (c:Cm) (f:Int) (j:Nat):Bool:=if isNum j then true else (if band f (hasOf j)=0 then true else isTxt j (c.txt j))
def txtF (c:Cm) (f:Int) (j:Nat):Bool:=if isNum j then true else (if band f (hasOf j)=0 then decide ((c.txt j).size=0) else true)
theorem dec_nil {s:ByteArray}:dec (s={ data:=#[] })=decide (s.size=0):=by
 rw [dec_eq]
 rw [decide_eq_decide]
 constructor
 ·intro h;rw [h];rfl
 ·intro h
  apply ByteArray.ext
  exact Array.eq_empty_of_size_eq_zero h
theorem number_s (G:GH) (c:Cm) (f:Int) (cb j:Nat) (hj:j<6):Con Tryz.prog 135 #[.agg (partL j).toArray,.pointer (some ⟨cb,0,none⟩),.int .i64 f] G [(cb,.cells c.cells.toArray 35 (0,0))]
 (Keeps (.tuple [.bool (numR c f j),.bool (numF c f j)].toArray) G [(cb,.cells c.cells.toArray 35 (0,0))]):=by
 apply Con.keeps
 unfold Cm.cells
 (refine v_enter Tryz.func135 rfl Tryz.ntmps135 rfl ?_;intro B _)
 obtain rfl|rfl|rfl|rfl|rfl|rfl:j=0∨j=1∨j=2∨j=3∨j=4∨j=5:=by omega
 all_goals
  repeat' (first|refine Wa ?_|(refine Wc ⟨?_,?_⟩<;>first|intro h|exact ⟨⟩)|apply v_callFJ0 (hs:=at1_s _ cb);(case hx|ha|hd=>rfl)|apply v_callFJ0 (hs:=at2_s _ cb);(case hx|ha|hd=>rfl)|apply v_callFJ0 (hs:=at3_s _ cb);(case hx|ha|hd=>rfl)|apply v_callFJ0 (hs:=at4_s _ cb);(case hx|ha|hd=>rfl)|apply v_callFJ0 (hs:=at5_s _ cb);(case hx|ha|hd=>rfl)|apply v_callFJ0 (hs:=at6_s _ cb);(case hx|ha|hd=>rfl)|refine Wr ?_|(refine Wb ?_;intro b)|fail)
 all_goals try
  (refine v_ret [(cb,_)] (outsA2 rfl rfl rfl) sS ?_
   exact ⟨rfl,rfl⟩)
 all_goals try
  (refine Dz _ ?_
   all_goals refine Dt [0,1,2,3,4,5] ?_
   all_goals refine Dd ?_
   refine v_ret [(cb,_)] (outsA2 rfl rfl rfl) sS ?_
   refine ⟨?_,rfl⟩
   simp [numR,numF,isNum,hasOf,Cm.num,dec_eq, *])
 all_goals
  (refine Dz _ ?_
   all_goals refine Dt [0,1,2,3,4] ?_
   all_goals (try (refine Dg 5 ⟨?_,?_⟩<;>first|intro h|exact ⟨⟩))
   all_goals refine Dt [5,6,7,8,9,10,11,12,13] ?_
   all_goals refine Dd ?_
   all_goals
    (refine v_ret [(cb,_)] (outsA2 rfl rfl rfl) sS ?_
     refine ⟨?_,rfl⟩
     simp [numR,numF,isNum,hasOf,mostOf,Cm.num,dec_eq, *]))
theorem text_s {G:GH}(hT:TabsG G) (c:Cm) (hk:c.key.size≤maxLen) (hv:c.val.size≤maxLen) (ho:c.old.size≤maxLen) (f:Int) (cb j:Nat) (hj:j<6):Con Tryz.prog 136 #[.agg (partL j).toArray,.pointer (some ⟨cb,0,none⟩),.int .i64 f] G [(cb,.cells c.cells.toArray 35 (0,0))]
 (Keeps (.tuple [.bool (txtT c f j),.bool (txtF c f j)].toArray) G [(cb,.cells c.cells.toArray 35 (0,0))]):=by
 apply Con.keeps
 unfold Cm.cells
 simp only [maxLen] at hk hv ho
 (refine v_enter Tryz.func136 rfl Tryz.ntmps136 rfl ?_;intro B _)
 obtain rfl|rfl|rfl|rfl|rfl|rfl:j=0∨j=1∨j=2∨j=3∨j=4∨j=5:=by omega
 all_goals
  repeat' (first|refine Wa ?_|(refine Wc ⟨?_,?_⟩<;>first|intro h|exact ⟨⟩)|apply v_callFJ0 (hs:=at1_s _ cb);(case hx|ha|hd=>rfl)|apply v_callFJ0 (hs:=at2_s _ cb);(case hx|ha|hd=>rfl)|apply v_callFJ0 (hs:=at3_s _ cb);(case hx|ha|hd=>rfl)|apply v_callFJ0 (hs:=at4_s _ cb);(case hx|ha|hd=>rfl)|apply v_callFJ0 (hs:=at5_s _ cb);(case hx|ha|hd=>rfl)|apply v_callFJ0 (hs:=at6_s _ cb);(case hx|ha|hd=>rfl)|refine Wr ?_|(refine Wb ?_;intro b)|fail)
 all_goals try
  (refine v_ret [(cb,_)] (outsA2 rfl rfl rfl) sS ?_
   exact ⟨rfl,rfl⟩)
 all_goals try
  (refine Dz _ ?_
   all_goals refine Dt [0,1,2,3,4,5] ?_
   all_goals refine Dd ?_
   refine v_ret [(cb,_)] (outsA2 rfl rfl rfl) sS ?_
   refine ⟨?_,rfl⟩
   simp [txtT,txtF,isNum,hasOf,Cm.txt,dec_nil, *])
 all_goals
  (refine Dz _ ?_
   all_goals refine Dt [0,1,2,3,4] ?_
   all_goals (first|apply d_callJ0 5 (hs:=(key_s (s:=c.key) hT (by omega)));(case hi=>rfl);(case hr=>kernel_rfl);(case ha|hx|hd=>rfl)|apply d_callJ0 5 (hs:=(val_s (s:=c.old) hT (by omega)));(case hi=>rfl);(case hr=>kernel_rfl);(case ha|hx|hd=>rfl)|apply d_callJ0 5 (hs:=(val_s (s:=c.val) hT (by omega)));(case hi=>rfl);(case hr=>kernel_rfl);(case ha|hx|hd=>rfl)|fail)
   all_goals refine Dt [6,7] ?_
   all_goals refine Dd ?_
   all_goals
    (refine v_ret [(cb,_)] (outsA2 rfl rfl rfl) sS ?_
     refine ⟨?_,rfl⟩
     simp [txtT,txtF,isNum,hasOf,isTxt,Cm.txt,dec_nil, *]))
def allB (g:Nat→Bool):Nat→Bool
 | 0=>true
 | k+1=>allB g k && g k
def allB2 (g h:Nat→Bool):Nat→Bool
 | 0=>true
 | k+1=>(allB2 g h k && g k) && h k
noncomputable def cmdI (c:Cm):Int :=
 if (cmdFields c.kind).2=false then 5
 else if allB (numR c (cmdFields c.kind).1) 6=false then 6
 else if allB (txtT c (cmdFields c.kind).1) 6=false then 7
 else if allB2 (numF c (cmdFields c.kind).1) (txtF c (cmdFields c.kind).1) 6=false then 3 else 0
theorem partsL_at {k:Nat}(hk:k<6):(partsL.drop (k*4)).take 4=partL k:=by
 obtain rfl|rfl|rfl|rfl|rfl|rfl:k=0∨k=1∨k=2∨k=3∨k=4∨k=5:=by omega
 all_goals rfl
theorem partsG {G:GH}{b:Nat}{e:TypeId}(h:G b=some (.cells partsL.toArray e (0,0))) {k:Nat}(hk:k<6):CellsG G ((⟨b,0,none⟩:Addr).add (k*4)) (partL k):=by
 intro j v hv
 rw [add_mk,add_mk,Nat.zero_add]
 rw [← partsL_at hk,List.getElem?_take] at hv
 split at hv
 ·rw [List.getElem?_drop] at hv
  simp [GH.cell?,h,hv]
 ·cases hv
theorem cmdCheck_s {G:GH}(hT:TabsG G) (c:Cm) (hc:c.ok):Con Tryz.prog 97 #[.agg c.cells.toArray] G [] (fun r _ μ'=>r=.int .i64 (cmdI c)∧μ'=[]):=by
 obtain ⟨hk1,hc1,hs1,hk,hv,ho,hn1⟩:=id hc
 (refine v_enter Tryz.func97 rfl Tryz.ntmps97 rfl ?_;intro B _)
 obtain ⟨f,is,hf⟩:∃ f is,cmdFields c.kind=(f,is):=⟨_,_,rfl⟩
 have hfs:=fields_s G c.kind
 rw [hf] at hfs
 repeat' (first|refine Wa ?_|(refine Wc ⟨?_,?_⟩<;>first|intro h|exact ⟨⟩)|apply v_box (zs:=c.cells);(case hx|hz|hd=>rfl);intro cb|refine cJ hfs ?_|refine Wr ?_|(refine Wb ?_;intro b)|fail)
 ·refine Vr ?_
  refine ⟨?_,rfl⟩
  rw [cmdI,hf,if_pos (by assumption)]
 refine v_call (μ1:=[]) (μ2:=_) rfl (parts_s G) (List.Perm.refl _) rfl ?_
 rintro r G' μ1 - ⟨rfl,pb,rfl,rfl⟩
 refine v_frz [(pb,_)] (by repeat (first|exact PickA.last|exact PickA.here _|exact PickA.one _|apply PickA.cons|apply PickA.app)) ?_
 intro G1 hle1 hG1
 have hpb:=hG1 pb _ (List.Mem.head _)
 have hT1:=hT.le hle1
 repeat' (first|refine Wa ?_|(refine Wc ⟨?_,?_⟩<;>first|intro h|exact ⟨⟩)|refine Wr ?_|(refine Wb ?_;intro b)|fail)
 refine v_loop [24,23,22,5,6,7,1,3] (fun us G' μ'=>G'=G1∧μ'=[(cb,.cells c.cells.toArray 35 (0,0))]∧∃ (k:Nat) (R T F:Bool),us=[Value.int .i64 (k:Int),.int .i64 6,.slice (some ⟨pb,0,none⟩) 6 6,.bool R,.bool T,.bool F,.pointer (some ⟨cb,0,none⟩),.int .i64 f]∧k≤6∧R=allB (numR c f) k∧T=allB (txtT c f) k∧F=allB2 (numF c f) (txtF c f) k) (fun us=>7-(headI us).toNat) rfl ⟨rfl,rfl,0,true,true,true,rfl,by omega,rfl,rfl,rfl⟩ ?_
 rintro us G' μ' ⟨rfl,rfl,k,R,T,F,rfl,hk6,hR,hTt,hF⟩
 by_cases hlt:k<6
 ·have hnum:=number_s G' c f cb k hlt
  have htxt:=text_s hT1 c hk hv ho f cb k hlt
  have hpk:=partsG hpb hlt
  have e1:allB (numR c f) (k+1)=(R && numR c f k):=by rw [hR];rfl
  have e2:allB (txtT c f) (k+1)=(T && txtT c f k):=by rw [hTt];rfl
  have e3:allB2 (numF c f) (txtF c f) (k+1)=((F && numF c f k) && txtF c f k):=by rw [hF];rfl
  generalize numR c f k=a1 at *
  generalize numF c f k=a2 at *
  generalize txtT c f k=a3 at *
  generalize txtF c f k=a4 at *
  clear hR hTt hF
  obtain rfl|rfl|rfl|rfl|rfl|rfl:k=0∨k=1∨k=2∨k=3∨k=4∨k=5:=by omega
  all_goals
   (repeat' (first|apply v_guardM;(case h1|h2=>rfl);(case hop=>(apply p_move;rfl));(case hd=>rfl)|refine Wa ?_|(refine Wc ⟨?_,?_⟩<;>first|intro h|exact ⟨⟩)|refine RN hpk ?_|refine cK hnum ?_|refine cK htxt ?_|refine Wr ?_|(refine Wb ?_;intro b)|fail))
  all_goals
   (refine v_only [(cb,_)] (by repeat (first|exact PickA.last|exact PickA.here _|exact PickA.one _|apply PickA.cons|apply PickA.app)) ?_
    refine v_again rfl ⟨rfl,rfl,_,_,_,_,?_,?_,e1.symm,e2.symm,e3.symm⟩ ?_
    ·rfl
    ·omega
    ·simp [headI])
 ·obtain rfl:k=6:=by omega
  have his:is=true:=by assumption
  subst his
  repeat' (first|refine Wa ?_|(refine Wc ⟨?_,?_⟩<;>first|intro h|exact ⟨⟩)|refine Wr ?_|(refine Wb ?_;intro b)|fail)
  all_goals
   (refine Vr ?_
    refine ⟨?_,rfl⟩
    rw [cmdI,hf,if_neg (by simp)]
    simp only [← hR,← hTt,← hF]
    clear hR hTt hF
    simp [*])
theorem band_0_1:band 0 1=0:=by decide
theorem band_0_2:band 0 2=0:=by decide
theorem band_0_4:band 0 4=0:=by decide
theorem band_0_8:band 0 8=0:=by decide
theorem band_0_16:band 0 16=0:=by decide
theorem band_3_1:band 3 1=1:=by decide
theorem band_3_2:band 3 2=2:=by decide
theorem band_3_4:band 3 4=0:=by decide
theorem band_3_8:band 3 8=0:=by decide
theorem band_3_16:band 3 16=0:=by decide
theorem band_11_1:band 11 1=1:=by decide
theorem band_11_2:band 11 2=2:=by decide
theorem band_11_4:band 11 4=0:=by decide
theorem band_11_8:band 11 8=8:=by decide
theorem band_11_16:band 11 16=0:=by decide
theorem band_15_1:band 15 1=1:=by decide
theorem band_15_2:band 15 2=2:=by decide
theorem band_15_4:band 15 4=4:=by decide
theorem band_15_8:band 15 8=8:=by decide
theorem band_15_16:band 15 16=0:=by decide
theorem band_16_1:band 16 1=0:=by decide
theorem band_16_2:band 16 2=0:=by decide
theorem band_16_4:band 16 4=0:=by decide
theorem band_16_8:band 16 8=0:=by decide
theorem band_16_16:band 16 16=16:=by decide
theorem owned_s (G:GH) (k:Int):Con Tryz.prog 20 #[.int .i64 k] G [] (Just (.bool (decide (2≤k∧k≤5))) G):=by
 (refine v_enter Tryz.func20 rfl Tryz.ntmps20 rfl ?_;intro B _)
 repeat' (first|refine Wa ?_|(refine Wc ⟨?_,?_⟩<;>first|intro h|exact ⟨⟩)|fail)
 all_goals
  (refine Vr ?_
   refine ⟨?_,rfl,rfl⟩
   first
    |(rw [decide_eq_false (by omega)])
    |(by_cases h5:k≤5
      ·rw [dec_pos h5,decide_eq_true (by omega)]
      ·rw [dec_neg h5,decide_eq_false (by omega)]))
theorem member_s (G:GH) (k:Int):Con Tryz.prog 21 #[.int .i64 k] G [] (Just (.bool (decide (k=7∨k=8))) G):=by
 (refine v_enter Tryz.func21 rfl Tryz.ntmps21 rfl ?_;intro B _)
 repeat' (first|refine Wa ?_|(refine Wc ⟨?_,?_⟩<;>first|intro h|exact ⟨⟩)|fail)
 all_goals
  (refine Vr ?_
   refine ⟨?_,rfl,rfl⟩
   first
    |(rw [decide_eq_true (by omega)])
    |(by_cases h5:k=8
      ·rw [dec_pos h5,decide_eq_true (by omega)]
      ·rw [dec_neg h5,decide_eq_false (by omega)]))
noncomputable def cmdE (c:Cm):Int :=
 if c.kind<1∨8<c.kind then 5
 else if ((2≤c.kind∧c.kind≤5)∧¬ (1≤c.client∧c.client≤8∧1≤c.seq∧c.seq≤4294967296))∨((c.kind=7∨c.kind=8)∧¬ (1≤c.node∧c.node≤9)) then 6
 else if ((2≤c.kind∧c.kind≤5)∧keyB c.key=false)∨((c.kind=2∨c.kind=5)∧valB c.val=false)∨(c.kind=5∧valB c.old=false) then 7
 else if (¬ (2≤c.kind∧c.kind≤5)∧(c.client≠0∨c.seq≠0∨c.key.size≠0))∨(¬ (c.kind=2∨c.kind=5)∧c.val.size≠0)∨(c.kind≠5∧c.old.size≠0)∨(¬ (c.kind=7∨c.kind=8)∧c.node≠0) then 3 else 0
theorem nil_iff {s:ByteArray}:s={ data:=#[] }↔s.size=0:=by
 constructor
 ·intro h;rw [h];rfl
 ·intro h
  apply ByteArray.ext
  exact Array.eq_empty_of_size_eq_zero h
theorem ite6 {p:Bool}{a b:Int}{q:Prop} [Decidable q] (h:p=false↔q):(if p=false then a else b)=(if q then a else b):=by
 by_cases hq:q
 ·rw [if_pos hq,if_pos (h.2 hq)]
 ·rw [if_neg hq,if_neg (fun e=>hq (h.1 e))]
theorem cmdI_case {c:Cm}(f:Int) {q1 q2 q3:Prop} [Decidable q1] [Decidable q2] [Decidable q3] (hf:cmdFields c.kind=(f,true)) (h1:allB (numR c f) 6=false↔q1) (h2:allB (txtT c f) 6=false↔q2) (h3:allB2 (numF c f) (txtF c f) 6=false↔q3) :
 (if (cmdFields c.kind).2=false then (5:Int) else if allB (numR c (cmdFields c.kind).1) 6=false then 6 else if allB (txtT c (cmdFields c.kind).1) 6=false then 7 else if allB2 (numF c (cmdFields c.kind).1) (txtF c (cmdFields c.kind).1) 6=false then 3 else 0)=(if q1 then 6 else if q2 then 7 else if q3 then 3 else 0):=by
 rw [hf,if_neg (by simp),ite6 h1,ite6 h2,ite6 h3]
theorem cmdI_eq (c:Cm):cmdI c=cmdE c:=by
 obtain ⟨kind,client,seq,key,val,old,node⟩:=c
 by_cases hr:kind<1∨8<kind
 ·have:cmdFields kind=(0,false):=by unfold cmdFields;rw [if_neg (by omega),if_neg (by omega),if_neg (by omega),if_neg (by omega),if_neg (by omega)]
  simp only [cmdI,cmdE,this,if_true]
  rw [if_pos hr]
 ·unfold cmdI cmdE
  simp only
  rw [if_neg hr]
  obtain rfl|rfl|rfl|rfl|rfl|rfl|rfl|rfl:kind=1∨kind=2∨kind=3∨kind=4∨kind=5∨kind=6∨kind=7∨kind=8:=by omega
  ·refine cmdI_case (c:=⟨1,client,seq,key,val,old,node⟩) 0 rfl ?_ ?_ ?_
   ·first|(simp [allB,allB2,numR,numF,txtT,txtF,isNum,hasOf,mostOf,isTxt,Cm.num,Cm.txt,band_0_1,band_0_2,band_0_4,band_0_8,band_0_16,band_3_1,band_3_2,band_3_4,band_3_8,band_3_16,band_11_1,band_11_2,band_11_4,band_11_8,band_11_16,band_15_1,band_15_2,band_15_4,band_15_8,band_15_16,band_16_1,band_16_2,band_16_4,band_16_8,band_16_16];done)|(simp [allB,allB2,numR,numF,txtT,txtF,isNum,hasOf,mostOf,isTxt,Cm.num,Cm.txt,band_0_1,band_0_2,band_0_4,band_0_8,band_0_16,band_3_1,band_3_2,band_3_4,band_3_8,band_3_16,band_11_1,band_11_2,band_11_4,band_11_8,band_11_16,band_15_1,band_15_2,band_15_4,band_15_8,band_15_16,band_16_1,band_16_2,band_16_4,band_16_8,band_16_16];omega)|(simp [allB,allB2,numR,numF,txtT,txtF,isNum,hasOf,mostOf,isTxt,Cm.num,Cm.txt,band_0_1,band_0_2,band_0_4,band_0_8,band_0_16,band_3_1,band_3_2,band_3_4,band_3_8,band_3_16,band_11_1,band_11_2,band_11_4,band_11_8,band_11_16,band_15_1,band_15_2,band_15_4,band_15_8,band_15_16,band_16_1,band_16_2,band_16_4,band_16_8,band_16_16];grind)
   ·cases hk:keyB key<;>cases hv:valB val<;>cases ho:valB old<;>simp [hk,hv,ho,allB,allB2,numR,numF,txtT,txtF,isNum,hasOf,mostOf,isTxt,Cm.num,Cm.txt,band_0_1,band_0_2,band_0_4,band_0_8,band_0_16,band_3_1,band_3_2,band_3_4,band_3_8,band_3_16,band_11_1,band_11_2,band_11_4,band_11_8,band_11_16,band_15_1,band_15_2,band_15_4,band_15_8,band_15_16,band_16_1,band_16_2,band_16_4,band_16_8,band_16_16]
   ·first|(simp [allB,allB2,numR,numF,txtT,txtF,isNum,hasOf,mostOf,isTxt,Cm.num,Cm.txt,band_0_1,band_0_2,band_0_4,band_0_8,band_0_16,band_3_1,band_3_2,band_3_4,band_3_8,band_3_16,band_11_1,band_11_2,band_11_4,band_11_8,band_11_16,band_15_1,band_15_2,band_15_4,band_15_8,band_15_16,band_16_1,band_16_2,band_16_4,band_16_8,band_16_16];done)|(simp [allB,allB2,numR,numF,txtT,txtF,isNum,hasOf,mostOf,isTxt,Cm.num,Cm.txt,band_0_1,band_0_2,band_0_4,band_0_8,band_0_16,band_3_1,band_3_2,band_3_4,band_3_8,band_3_16,band_11_1,band_11_2,band_11_4,band_11_8,band_11_16,band_15_1,band_15_2,band_15_4,band_15_8,band_15_16,band_16_1,band_16_2,band_16_4,band_16_8,band_16_16];omega)|(simp [allB,allB2,numR,numF,txtT,txtF,isNum,hasOf,mostOf,isTxt,Cm.num,Cm.txt,band_0_1,band_0_2,band_0_4,band_0_8,band_0_16,band_3_1,band_3_2,band_3_4,band_3_8,band_3_16,band_11_1,band_11_2,band_11_4,band_11_8,band_11_16,band_15_1,band_15_2,band_15_4,band_15_8,band_15_16,band_16_1,band_16_2,band_16_4,band_16_8,band_16_16];grind)
  ·refine cmdI_case (c:=⟨2,client,seq,key,val,old,node⟩) 11 rfl ?_ ?_ ?_
   ·first|(simp [allB,allB2,numR,numF,txtT,txtF,isNum,hasOf,mostOf,isTxt,Cm.num,Cm.txt,band_0_1,band_0_2,band_0_4,band_0_8,band_0_16,band_3_1,band_3_2,band_3_4,band_3_8,band_3_16,band_11_1,band_11_2,band_11_4,band_11_8,band_11_16,band_15_1,band_15_2,band_15_4,band_15_8,band_15_16,band_16_1,band_16_2,band_16_4,band_16_8,band_16_16];done)|(simp [allB,allB2,numR,numF,txtT,txtF,isNum,hasOf,mostOf,isTxt,Cm.num,Cm.txt,band_0_1,band_0_2,band_0_4,band_0_8,band_0_16,band_3_1,band_3_2,band_3_4,band_3_8,band_3_16,band_11_1,band_11_2,band_11_4,band_11_8,band_11_16,band_15_1,band_15_2,band_15_4,band_15_8,band_15_16,band_16_1,band_16_2,band_16_4,band_16_8,band_16_16];omega)|(simp [allB,allB2,numR,numF,txtT,txtF,isNum,hasOf,mostOf,isTxt,Cm.num,Cm.txt,band_0_1,band_0_2,band_0_4,band_0_8,band_0_16,band_3_1,band_3_2,band_3_4,band_3_8,band_3_16,band_11_1,band_11_2,band_11_4,band_11_8,band_11_16,band_15_1,band_15_2,band_15_4,band_15_8,band_15_16,band_16_1,band_16_2,band_16_4,band_16_8,band_16_16];grind)
   ·cases hk:keyB key<;>cases hv:valB val<;>cases ho:valB old<;>simp [hk,hv,ho,allB,allB2,numR,numF,txtT,txtF,isNum,hasOf,mostOf,isTxt,Cm.num,Cm.txt,band_0_1,band_0_2,band_0_4,band_0_8,band_0_16,band_3_1,band_3_2,band_3_4,band_3_8,band_3_16,band_11_1,band_11_2,band_11_4,band_11_8,band_11_16,band_15_1,band_15_2,band_15_4,band_15_8,band_15_16,band_16_1,band_16_2,band_16_4,band_16_8,band_16_16]
   ·first|(simp [allB,allB2,numR,numF,txtT,txtF,isNum,hasOf,mostOf,isTxt,Cm.num,Cm.txt,band_0_1,band_0_2,band_0_4,band_0_8,band_0_16,band_3_1,band_3_2,band_3_4,band_3_8,band_3_16,band_11_1,band_11_2,band_11_4,band_11_8,band_11_16,band_15_1,band_15_2,band_15_4,band_15_8,band_15_16,band_16_1,band_16_2,band_16_4,band_16_8,band_16_16];done)|(simp [allB,allB2,numR,numF,txtT,txtF,isNum,hasOf,mostOf,isTxt,Cm.num,Cm.txt,band_0_1,band_0_2,band_0_4,band_0_8,band_0_16,band_3_1,band_3_2,band_3_4,band_3_8,band_3_16,band_11_1,band_11_2,band_11_4,band_11_8,band_11_16,band_15_1,band_15_2,band_15_4,band_15_8,band_15_16,band_16_1,band_16_2,band_16_4,band_16_8,band_16_16];omega)|(simp [allB,allB2,numR,numF,txtT,txtF,isNum,hasOf,mostOf,isTxt,Cm.num,Cm.txt,band_0_1,band_0_2,band_0_4,band_0_8,band_0_16,band_3_1,band_3_2,band_3_4,band_3_8,band_3_16,band_11_1,band_11_2,band_11_4,band_11_8,band_11_16,band_15_1,band_15_2,band_15_4,band_15_8,band_15_16,band_16_1,band_16_2,band_16_4,band_16_8,band_16_16];grind)
  ·refine cmdI_case (c:=⟨3,client,seq,key,val,old,node⟩) 3 rfl ?_ ?_ ?_
   ·first|(simp [allB,allB2,numR,numF,txtT,txtF,isNum,hasOf,mostOf,isTxt,Cm.num,Cm.txt,band_0_1,band_0_2,band_0_4,band_0_8,band_0_16,band_3_1,band_3_2,band_3_4,band_3_8,band_3_16,band_11_1,band_11_2,band_11_4,band_11_8,band_11_16,band_15_1,band_15_2,band_15_4,band_15_8,band_15_16,band_16_1,band_16_2,band_16_4,band_16_8,band_16_16];done)|(simp [allB,allB2,numR,numF,txtT,txtF,isNum,hasOf,mostOf,isTxt,Cm.num,Cm.txt,band_0_1,band_0_2,band_0_4,band_0_8,band_0_16,band_3_1,band_3_2,band_3_4,band_3_8,band_3_16,band_11_1,band_11_2,band_11_4,band_11_8,band_11_16,band_15_1,band_15_2,band_15_4,band_15_8,band_15_16,band_16_1,band_16_2,band_16_4,band_16_8,band_16_16];omega)|(simp [allB,allB2,numR,numF,txtT,txtF,isNum,hasOf,mostOf,isTxt,Cm.num,Cm.txt,band_0_1,band_0_2,band_0_4,band_0_8,band_0_16,band_3_1,band_3_2,band_3_4,band_3_8,band_3_16,band_11_1,band_11_2,band_11_4,band_11_8,band_11_16,band_15_1,band_15_2,band_15_4,band_15_8,band_15_16,band_16_1,band_16_2,band_16_4,band_16_8,band_16_16];grind)
   ·cases hk:keyB key<;>cases hv:valB val<;>cases ho:valB old<;>simp [hk,hv,ho,allB,allB2,numR,numF,txtT,txtF,isNum,hasOf,mostOf,isTxt,Cm.num,Cm.txt,band_0_1,band_0_2,band_0_4,band_0_8,band_0_16,band_3_1,band_3_2,band_3_4,band_3_8,band_3_16,band_11_1,band_11_2,band_11_4,band_11_8,band_11_16,band_15_1,band_15_2,band_15_4,band_15_8,band_15_16,band_16_1,band_16_2,band_16_4,band_16_8,band_16_16]
   ·first|(simp [allB,allB2,numR,numF,txtT,txtF,isNum,hasOf,mostOf,isTxt,Cm.num,Cm.txt,band_0_1,band_0_2,band_0_4,band_0_8,band_0_16,band_3_1,band_3_2,band_3_4,band_3_8,band_3_16,band_11_1,band_11_2,band_11_4,band_11_8,band_11_16,band_15_1,band_15_2,band_15_4,band_15_8,band_15_16,band_16_1,band_16_2,band_16_4,band_16_8,band_16_16];done)|(simp [allB,allB2,numR,numF,txtT,txtF,isNum,hasOf,mostOf,isTxt,Cm.num,Cm.txt,band_0_1,band_0_2,band_0_4,band_0_8,band_0_16,band_3_1,band_3_2,band_3_4,band_3_8,band_3_16,band_11_1,band_11_2,band_11_4,band_11_8,band_11_16,band_15_1,band_15_2,band_15_4,band_15_8,band_15_16,band_16_1,band_16_2,band_16_4,band_16_8,band_16_16];omega)|(simp [allB,allB2,numR,numF,txtT,txtF,isNum,hasOf,mostOf,isTxt,Cm.num,Cm.txt,band_0_1,band_0_2,band_0_4,band_0_8,band_0_16,band_3_1,band_3_2,band_3_4,band_3_8,band_3_16,band_11_1,band_11_2,band_11_4,band_11_8,band_11_16,band_15_1,band_15_2,band_15_4,band_15_8,band_15_16,band_16_1,band_16_2,band_16_4,band_16_8,band_16_16];grind)
  ·refine cmdI_case (c:=⟨4,client,seq,key,val,old,node⟩) 3 rfl ?_ ?_ ?_
   ·first|(simp [allB,allB2,numR,numF,txtT,txtF,isNum,hasOf,mostOf,isTxt,Cm.num,Cm.txt,band_0_1,band_0_2,band_0_4,band_0_8,band_0_16,band_3_1,band_3_2,band_3_4,band_3_8,band_3_16,band_11_1,band_11_2,band_11_4,band_11_8,band_11_16,band_15_1,band_15_2,band_15_4,band_15_8,band_15_16,band_16_1,band_16_2,band_16_4,band_16_8,band_16_16];done)|(simp [allB,allB2,numR,numF,txtT,txtF,isNum,hasOf,mostOf,isTxt,Cm.num,Cm.txt,band_0_1,band_0_2,band_0_4,band_0_8,band_0_16,band_3_1,band_3_2,band_3_4,band_3_8,band_3_16,band_11_1,band_11_2,band_11_4,band_11_8,band_11_16,band_15_1,band_15_2,band_15_4,band_15_8,band_15_16,band_16_1,band_16_2,band_16_4,band_16_8,band_16_16];omega)|(simp [allB,allB2,numR,numF,txtT,txtF,isNum,hasOf,mostOf,isTxt,Cm.num,Cm.txt,band_0_1,band_0_2,band_0_4,band_0_8,band_0_16,band_3_1,band_3_2,band_3_4,band_3_8,band_3_16,band_11_1,band_11_2,band_11_4,band_11_8,band_11_16,band_15_1,band_15_2,band_15_4,band_15_8,band_15_16,band_16_1,band_16_2,band_16_4,band_16_8,band_16_16];grind)
   ·cases hk:keyB key<;>cases hv:valB val<;>cases ho:valB old<;>simp [hk,hv,ho,allB,allB2,numR,numF,txtT,txtF,isNum,hasOf,mostOf,isTxt,Cm.num,Cm.txt,band_0_1,band_0_2,band_0_4,band_0_8,band_0_16,band_3_1,band_3_2,band_3_4,band_3_8,band_3_16,band_11_1,band_11_2,band_11_4,band_11_8,band_11_16,band_15_1,band_15_2,band_15_4,band_15_8,band_15_16,band_16_1,band_16_2,band_16_4,band_16_8,band_16_16]
   ·first|(simp [allB,allB2,numR,numF,txtT,txtF,isNum,hasOf,mostOf,isTxt,Cm.num,Cm.txt,band_0_1,band_0_2,band_0_4,band_0_8,band_0_16,band_3_1,band_3_2,band_3_4,band_3_8,band_3_16,band_11_1,band_11_2,band_11_4,band_11_8,band_11_16,band_15_1,band_15_2,band_15_4,band_15_8,band_15_16,band_16_1,band_16_2,band_16_4,band_16_8,band_16_16];done)|(simp [allB,allB2,numR,numF,txtT,txtF,isNum,hasOf,mostOf,isTxt,Cm.num,Cm.txt,band_0_1,band_0_2,band_0_4,band_0_8,band_0_16,band_3_1,band_3_2,band_3_4,band_3_8,band_3_16,band_11_1,band_11_2,band_11_4,band_11_8,band_11_16,band_15_1,band_15_2,band_15_4,band_15_8,band_15_16,band_16_1,band_16_2,band_16_4,band_16_8,band_16_16];omega)|(simp [allB,allB2,numR,numF,txtT,txtF,isNum,hasOf,mostOf,isTxt,Cm.num,Cm.txt,band_0_1,band_0_2,band_0_4,band_0_8,band_0_16,band_3_1,band_3_2,band_3_4,band_3_8,band_3_16,band_11_1,band_11_2,band_11_4,band_11_8,band_11_16,band_15_1,band_15_2,band_15_4,band_15_8,band_15_16,band_16_1,band_16_2,band_16_4,band_16_8,band_16_16];grind)
  ·refine cmdI_case (c:=⟨5,client,seq,key,val,old,node⟩) 15 rfl ?_ ?_ ?_
   ·first|(simp [allB,allB2,numR,numF,txtT,txtF,isNum,hasOf,mostOf,isTxt,Cm.num,Cm.txt,band_0_1,band_0_2,band_0_4,band_0_8,band_0_16,band_3_1,band_3_2,band_3_4,band_3_8,band_3_16,band_11_1,band_11_2,band_11_4,band_11_8,band_11_16,band_15_1,band_15_2,band_15_4,band_15_8,band_15_16,band_16_1,band_16_2,band_16_4,band_16_8,band_16_16];done)|(simp [allB,allB2,numR,numF,txtT,txtF,isNum,hasOf,mostOf,isTxt,Cm.num,Cm.txt,band_0_1,band_0_2,band_0_4,band_0_8,band_0_16,band_3_1,band_3_2,band_3_4,band_3_8,band_3_16,band_11_1,band_11_2,band_11_4,band_11_8,band_11_16,band_15_1,band_15_2,band_15_4,band_15_8,band_15_16,band_16_1,band_16_2,band_16_4,band_16_8,band_16_16];omega)|(simp [allB,allB2,numR,numF,txtT,txtF,isNum,hasOf,mostOf,isTxt,Cm.num,Cm.txt,band_0_1,band_0_2,band_0_4,band_0_8,band_0_16,band_3_1,band_3_2,band_3_4,band_3_8,band_3_16,band_11_1,band_11_2,band_11_4,band_11_8,band_11_16,band_15_1,band_15_2,band_15_4,band_15_8,band_15_16,band_16_1,band_16_2,band_16_4,band_16_8,band_16_16];grind)
   ·cases hk:keyB key<;>cases hv:valB val<;>cases ho:valB old<;>simp [hk,hv,ho,allB,allB2,numR,numF,txtT,txtF,isNum,hasOf,mostOf,isTxt,Cm.num,Cm.txt,band_0_1,band_0_2,band_0_4,band_0_8,band_0_16,band_3_1,band_3_2,band_3_4,band_3_8,band_3_16,band_11_1,band_11_2,band_11_4,band_11_8,band_11_16,band_15_1,band_15_2,band_15_4,band_15_8,band_15_16,band_16_1,band_16_2,band_16_4,band_16_8,band_16_16]
   ·first|(simp [allB,allB2,numR,numF,txtT,txtF,isNum,hasOf,mostOf,isTxt,Cm.num,Cm.txt,band_0_1,band_0_2,band_0_4,band_0_8,band_0_16,band_3_1,band_3_2,band_3_4,band_3_8,band_3_16,band_11_1,band_11_2,band_11_4,band_11_8,band_11_16,band_15_1,band_15_2,band_15_4,band_15_8,band_15_16,band_16_1,band_16_2,band_16_4,band_16_8,band_16_16];done)|(simp [allB,allB2,numR,numF,txtT,txtF,isNum,hasOf,mostOf,isTxt,Cm.num,Cm.txt,band_0_1,band_0_2,band_0_4,band_0_8,band_0_16,band_3_1,band_3_2,band_3_4,band_3_8,band_3_16,band_11_1,band_11_2,band_11_4,band_11_8,band_11_16,band_15_1,band_15_2,band_15_4,band_15_8,band_15_16,band_16_1,band_16_2,band_16_4,band_16_8,band_16_16];omega)|(simp [allB,allB2,numR,numF,txtT,txtF,isNum,hasOf,mostOf,isTxt,Cm.num,Cm.txt,band_0_1,band_0_2,band_0_4,band_0_8,band_0_16,band_3_1,band_3_2,band_3_4,band_3_8,band_3_16,band_11_1,band_11_2,band_11_4,band_11_8,band_11_16,band_15_1,band_15_2,band_15_4,band_15_8,band_15_16,band_16_1,band_16_2,band_16_4,band_16_8,band_16_16];grind)
  ·refine cmdI_case (c:=⟨6,client,seq,key,val,old,node⟩) 0 rfl ?_ ?_ ?_
   ·first|(simp [allB,allB2,numR,numF,txtT,txtF,isNum,hasOf,mostOf,isTxt,Cm.num,Cm.txt,band_0_1,band_0_2,band_0_4,band_0_8,band_0_16,band_3_1,band_3_2,band_3_4,band_3_8,band_3_16,band_11_1,band_11_2,band_11_4,band_11_8,band_11_16,band_15_1,band_15_2,band_15_4,band_15_8,band_15_16,band_16_1,band_16_2,band_16_4,band_16_8,band_16_16];done)|(simp [allB,allB2,numR,numF,txtT,txtF,isNum,hasOf,mostOf,isTxt,Cm.num,Cm.txt,band_0_1,band_0_2,band_0_4,band_0_8,band_0_16,band_3_1,band_3_2,band_3_4,band_3_8,band_3_16,band_11_1,band_11_2,band_11_4,band_11_8,band_11_16,band_15_1,band_15_2,band_15_4,band_15_8,band_15_16,band_16_1,band_16_2,band_16_4,band_16_8,band_16_16];omega)|(simp [allB,allB2,numR,numF,txtT,txtF,isNum,hasOf,mostOf,isTxt,Cm.num,Cm.txt,band_0_1,band_0_2,band_0_4,band_0_8,band_0_16,band_3_1,band_3_2,band_3_4,band_3_8,band_3_16,band_11_1,band_11_2,band_11_4,band_11_8,band_11_16,band_15_1,band_15_2,band_15_4,band_15_8,band_15_16,band_16_1,band_16_2,band_16_4,band_16_8,band_16_16];grind)
   ·cases hk:keyB key<;>cases hv:valB val<;>cases ho:valB old<;>simp [hk,hv,ho,allB,allB2,numR,numF,txtT,txtF,isNum,hasOf,mostOf,isTxt,Cm.num,Cm.txt,band_0_1,band_0_2,band_0_4,band_0_8,band_0_16,band_3_1,band_3_2,band_3_4,band_3_8,band_3_16,band_11_1,band_11_2,band_11_4,band_11_8,band_11_16,band_15_1,band_15_2,band_15_4,band_15_8,band_15_16,band_16_1,band_16_2,band_16_4,band_16_8,band_16_16]
   ·first|(simp [allB,allB2,numR,numF,txtT,txtF,isNum,hasOf,mostOf,isTxt,Cm.num,Cm.txt,band_0_1,band_0_2,band_0_4,band_0_8,band_0_16,band_3_1,band_3_2,band_3_4,band_3_8,band_3_16,band_11_1,band_11_2,band_11_4,band_11_8,band_11_16,band_15_1,band_15_2,band_15_4,band_15_8,band_15_16,band_16_1,band_16_2,band_16_4,band_16_8,band_16_16];done)|(simp [allB,allB2,numR,numF,txtT,txtF,isNum,hasOf,mostOf,isTxt,Cm.num,Cm.txt,band_0_1,band_0_2,band_0_4,band_0_8,band_0_16,band_3_1,band_3_2,band_3_4,band_3_8,band_3_16,band_11_1,band_11_2,band_11_4,band_11_8,band_11_16,band_15_1,band_15_2,band_15_4,band_15_8,band_15_16,band_16_1,band_16_2,band_16_4,band_16_8,band_16_16];omega)|(simp [allB,allB2,numR,numF,txtT,txtF,isNum,hasOf,mostOf,isTxt,Cm.num,Cm.txt,band_0_1,band_0_2,band_0_4,band_0_8,band_0_16,band_3_1,band_3_2,band_3_4,band_3_8,band_3_16,band_11_1,band_11_2,band_11_4,band_11_8,band_11_16,band_15_1,band_15_2,band_15_4,band_15_8,band_15_16,band_16_1,band_16_2,band_16_4,band_16_8,band_16_16];grind)
  ·refine cmdI_case (c:=⟨7,client,seq,key,val,old,node⟩) 16 rfl ?_ ?_ ?_
   ·first|(simp [allB,allB2,numR,numF,txtT,txtF,isNum,hasOf,mostOf,isTxt,Cm.num,Cm.txt,band_0_1,band_0_2,band_0_4,band_0_8,band_0_16,band_3_1,band_3_2,band_3_4,band_3_8,band_3_16,band_11_1,band_11_2,band_11_4,band_11_8,band_11_16,band_15_1,band_15_2,band_15_4,band_15_8,band_15_16,band_16_1,band_16_2,band_16_4,band_16_8,band_16_16];done)|(simp [allB,allB2,numR,numF,txtT,txtF,isNum,hasOf,mostOf,isTxt,Cm.num,Cm.txt,band_0_1,band_0_2,band_0_4,band_0_8,band_0_16,band_3_1,band_3_2,band_3_4,band_3_8,band_3_16,band_11_1,band_11_2,band_11_4,band_11_8,band_11_16,band_15_1,band_15_2,band_15_4,band_15_8,band_15_16,band_16_1,band_16_2,band_16_4,band_16_8,band_16_16];omega)|(simp [allB,allB2,numR,numF,txtT,txtF,isNum,hasOf,mostOf,isTxt,Cm.num,Cm.txt,band_0_1,band_0_2,band_0_4,band_0_8,band_0_16,band_3_1,band_3_2,band_3_4,band_3_8,band_3_16,band_11_1,band_11_2,band_11_4,band_11_8,band_11_16,band_15_1,band_15_2,band_15_4,band_15_8,band_15_16,band_16_1,band_16_2,band_16_4,band_16_8,band_16_16];grind)
   ·cases hk:keyB key<;>cases hv:valB val<;>cases ho:valB old<;>simp [hk,hv,ho,allB,allB2,numR,numF,txtT,txtF,isNum,hasOf,mostOf,isTxt,Cm.num,Cm.txt,band_0_1,band_0_2,band_0_4,band_0_8,band_0_16,band_3_1,band_3_2,band_3_4,band_3_8,band_3_16,band_11_1,band_11_2,band_11_4,band_11_8,band_11_16,band_15_1,band_15_2,band_15_4,band_15_8,band_15_16,band_16_1,band_16_2,band_16_4,band_16_8,band_16_16]
   ·first|(simp [allB,allB2,numR,numF,txtT,txtF,isNum,hasOf,mostOf,isTxt,Cm.num,Cm.txt,band_0_1,band_0_2,band_0_4,band_0_8,band_0_16,band_3_1,band_3_2,band_3_4,band_3_8,band_3_16,band_11_1,band_11_2,band_11_4,band_11_8,band_11_16,band_15_1,band_15_2,band_15_4,band_15_8,band_15_16,band_16_1,band_16_2,band_16_4,band_16_8,band_16_16];done)|(simp [allB,allB2,numR,numF,txtT,txtF,isNum,hasOf,mostOf,isTxt,Cm.num,Cm.txt,band_0_1,band_0_2,band_0_4,band_0_8,band_0_16,band_3_1,band_3_2,band_3_4,band_3_8,band_3_16,band_11_1,band_11_2,band_11_4,band_11_8,band_11_16,band_15_1,band_15_2,band_15_4,band_15_8,band_15_16,band_16_1,band_16_2,band_16_4,band_16_8,band_16_16];omega)|(simp [allB,allB2,numR,numF,txtT,txtF,isNum,hasOf,mostOf,isTxt,Cm.num,Cm.txt,band_0_1,band_0_2,band_0_4,band_0_8,band_0_16,band_3_1,band_3_2,band_3_4,band_3_8,band_3_16,band_11_1,band_11_2,band_11_4,band_11_8,band_11_16,band_15_1,band_15_2,band_15_4,band_15_8,band_15_16,band_16_1,band_16_2,band_16_4,band_16_8,band_16_16];grind)
  ·refine cmdI_case (c:=⟨8,client,seq,key,val,old,node⟩) 16 rfl ?_ ?_ ?_
   ·first|(simp [allB,allB2,numR,numF,txtT,txtF,isNum,hasOf,mostOf,isTxt,Cm.num,Cm.txt,band_0_1,band_0_2,band_0_4,band_0_8,band_0_16,band_3_1,band_3_2,band_3_4,band_3_8,band_3_16,band_11_1,band_11_2,band_11_4,band_11_8,band_11_16,band_15_1,band_15_2,band_15_4,band_15_8,band_15_16,band_16_1,band_16_2,band_16_4,band_16_8,band_16_16];done)|(simp [allB,allB2,numR,numF,txtT,txtF,isNum,hasOf,mostOf,isTxt,Cm.num,Cm.txt,band_0_1,band_0_2,band_0_4,band_0_8,band_0_16,band_3_1,band_3_2,band_3_4,band_3_8,band_3_16,band_11_1,band_11_2,band_11_4,band_11_8,band_11_16,band_15_1,band_15_2,band_15_4,band_15_8,band_15_16,band_16_1,band_16_2,band_16_4,band_16_8,band_16_16];omega)|(simp [allB,allB2,numR,numF,txtT,txtF,isNum,hasOf,mostOf,isTxt,Cm.num,Cm.txt,band_0_1,band_0_2,band_0_4,band_0_8,band_0_16,band_3_1,band_3_2,band_3_4,band_3_8,band_3_16,band_11_1,band_11_2,band_11_4,band_11_8,band_11_16,band_15_1,band_15_2,band_15_4,band_15_8,band_15_16,band_16_1,band_16_2,band_16_4,band_16_8,band_16_16];grind)
   ·cases hk:keyB key<;>cases hv:valB val<;>cases ho:valB old<;>simp [hk,hv,ho,allB,allB2,numR,numF,txtT,txtF,isNum,hasOf,mostOf,isTxt,Cm.num,Cm.txt,band_0_1,band_0_2,band_0_4,band_0_8,band_0_16,band_3_1,band_3_2,band_3_4,band_3_8,band_3_16,band_11_1,band_11_2,band_11_4,band_11_8,band_11_16,band_15_1,band_15_2,band_15_4,band_15_8,band_15_16,band_16_1,band_16_2,band_16_4,band_16_8,band_16_16]
   ·first|(simp [allB,allB2,numR,numF,txtT,txtF,isNum,hasOf,mostOf,isTxt,Cm.num,Cm.txt,band_0_1,band_0_2,band_0_4,band_0_8,band_0_16,band_3_1,band_3_2,band_3_4,band_3_8,band_3_16,band_11_1,band_11_2,band_11_4,band_11_8,band_11_16,band_15_1,band_15_2,band_15_4,band_15_8,band_15_16,band_16_1,band_16_2,band_16_4,band_16_8,band_16_16];done)|(simp [allB,allB2,numR,numF,txtT,txtF,isNum,hasOf,mostOf,isTxt,Cm.num,Cm.txt,band_0_1,band_0_2,band_0_4,band_0_8,band_0_16,band_3_1,band_3_2,band_3_4,band_3_8,band_3_16,band_11_1,band_11_2,band_11_4,band_11_8,band_11_16,band_15_1,band_15_2,band_15_4,band_15_8,band_15_16,band_16_1,band_16_2,band_16_4,band_16_8,band_16_16];omega)|(simp [allB,allB2,numR,numF,txtT,txtF,isNum,hasOf,mostOf,isTxt,Cm.num,Cm.txt,band_0_1,band_0_2,band_0_4,band_0_8,band_0_16,band_3_1,band_3_2,band_3_4,band_3_8,band_3_16,band_11_1,band_11_2,band_11_4,band_11_8,band_11_16,band_15_1,band_15_2,band_15_4,band_15_8,band_15_16,band_16_1,band_16_2,band_16_4,band_16_8,band_16_16];grind)
set_option maxHeartbeats 4000000 in
theorem refCmdCheck_s {G:GH}(c:Cm) (hc:c.ok):Con Tryz.prog 9 #[.agg c.cells.toArray] G [] (fun r _ μ'=>r=.int .i64 (cmdI c)∧μ'=[]):=by
 obtain ⟨hk1,hc1,hs1,hk,hv,ho,hn1⟩:=id hc
 simp only [maxLen] at hk hv ho
 have qk:=refKey_s (G:=G) (s:=c.key) (by omega)
 have qv:=refVal_s (G:=G) (s:=c.val) (by omega)
 have qo:=refVal_s (G:=G) (s:=c.old) (by omega)
 obtain ⟨kind,client,seq,key,val,old,node⟩:=c
 simp only at qk qv qo
 (refine v_enter Tryz.func9 rfl Tryz.ntmps9 rfl ?_;intro B _)
 by_cases hr:kind<1∨8<kind
 ·repeat' (first|refine Wa ?_|(refine Wc ⟨?_,?_⟩<;>first|intro h|exact ⟨⟩)|apply v_box (zs:=Cm.cells ⟨kind,client,seq,key,val,old,node⟩);(case hx|hz|hd=>rfl);intro cb|refine Wr ?_|(refine Wb ?_;intro b)|fail)
  all_goals
   (refine Vr ?_
    refine ⟨?_,rfl⟩
    have:cmdFields kind=(0,false):=by unfold cmdFields;rw [if_neg (by omega),if_neg (by omega),if_neg (by omega),if_neg (by omega),if_neg (by omega)]
    simp [cmdI,this])
 have qw:=owned_s G kind
 have qm:=member_s G kind
 obtain rfl|rfl|rfl|rfl|rfl|rfl|rfl|rfl:kind=1∨kind=2∨kind=3∨kind=4∨kind=5∨kind=6∨kind=7∨kind=8:=by omega
 all_goals
  (first|rw [decide_eq_true (by omega)] at qw|rw [decide_eq_false (by omega)] at qw)
  (first|rw [decide_eq_true (by omega)] at qm|rw [decide_eq_false (by omega)] at qm)
  repeat' (first|refine Wa ?_|(refine Wc ⟨?_,?_⟩<;>first|intro h|exact ⟨⟩)|apply v_box (zs:=Cm.cells ⟨_,client,seq,key,val,old,node⟩);(case hx|hz|hd=>rfl);intro cb|refine cJ qw ?_|refine cJ qm ?_|refine cJ qk ?_|refine cJ qv ?_|refine cJ qo ?_|refine Wr ?_|(refine Wb ?_;intro b)|fail)
 all_goals
  (refine Vr ?_
   refine ⟨?_,rfl⟩
   rw [cmdI_eq]
   congr 1
   unfold cmdE
   try simp only [nil_iff] at *
   try simp only
   (repeat' split)<;>first|rfl|(exfalso;omega)|(exfalso;simp_all;done)|(exfalso;simp_all;omega))
def RowR {α:Type}(f:α→List Value) (x:α) (cs:List Value):Prop:=cs=f x
def rowC {α:Type}(f:α→List Value) (l:List α):List Value:=(l.map f).flatten
section
variable {α:Type}{f:α→List Value}{sz:Nat}
theorem rowC_cons (x:α) (l:List α):rowC f (x::l)=f x++rowC f l:=by simp [rowC]
theorem rowC_append (a b:List α):rowC f (a++b)=rowC f a++rowC f b:=by simp [rowC]
theorem rowC_length (hf:∀ x,(f x).length=sz) (l:List α):(rowC f l).length=l.length*sz:=by
 induction l with
 | nil=>simp [rowC]
 | cons x l ih=>rw [rowC_cons,List.length_append,ih,hf,List.length_cons,Nat.add_mul,Nat.one_mul];omega
theorem rowC_drop (hf:∀ x,(f x).length=sz) (l:List α) (i:Nat):(rowC f l).drop (i*sz)=rowC f (l.drop i):=by
 by_cases h:i≤l.length
 ·have hle:(rowC f (l.take i)).length=i*sz:=by rw [rowC_length hf,List.length_take,Nat.min_eq_left h]
  conv=>lhs;rw [← List.take_append_drop i l,rowC_append]
  rw [← hle,List.drop_left]
 ·rw [List.drop_of_length_le (by rw [rowC_length hf];exact Nat.mul_le_mul_right _ (by omega)),List.drop_of_length_le (by omega)];rfl
theorem rowC_at (hf:∀ x,(f x).length=sz) (l:List α) (i:Nat) (hi:i<l.length):((rowC f l).drop (i*sz)).take sz=f l[i]:=by
 rw [rowC_drop hf,List.drop_eq_getElem_cons hi,rowC_cons,← hf l[i],List.take_left]
theorem rowC_get (hf:∀ x,(f x).length=sz) (l:List α) (i j:Nat) (hi:i<l.length) (hj:j<sz):(rowC f l)[i*sz+j]? = (f l[i])[j]? := by
 rw [← rowC_at hf l i hi,List.getElem?_take_of_lt hj,List.getElem?_drop]
theorem rowC_one (h1:∀ x,(f x).all Value.oneCell'=true) (l:List α):(rowC f l).all Value.oneCell'=true:=by
 induction l with
 | nil=>rfl
 | cons x l ih=>rw [rowC_cons,List.all_append,ih,Bool.and_true,h1]
theorem rowOpen {G:GH}{v:Value}{l:List α}(h:Sl G sz (RowR f) v l):∃ A c,v=.slice A l.length c∧l.length≤c∧c≤maxLen∧(0<l.length→A.isSome=true)∧(∀ i (h:i<l.length),CellsG G ((adr A).add (i*sz)) (f l[i])):=by
 obtain ⟨A,c,rfl,h1,h2,h3,h4⟩:=h.open
 refine ⟨A,c,rfl,h1,h2,h3,fun i hi=>?_⟩
 obtain ⟨cs,_,rfl,h5⟩:=h4 i _ (List.getElem?_eq_getElem hi)
 exact h5
theorem rowSrc (hf:∀ x,(f x).length=sz) (hsz:0<sz) {G:GH}{μ:OH}{A:Option Addr}{c:Nat}{l:List α}(hsome:0<l.length→A.isSome=true) (hcp:∀ i (h:i<l.length),CellsG G ((adr A).add (i*sz)) (f l[i])):Go.Vx.Src G μ (.slice A l.length c) l.length sz (rowC f l):=by
 refine ⟨rowC_length hf l,A,c,rfl,fun h=>?_⟩
 obtain ⟨a,rfl⟩:=Option.isSome_iff_exists.1 (hsome h)
 refine ⟨a,rfl,CellsAt.frozen fun p v hv=>?_⟩
 have hp:p<l.length*sz:=by rw [← rowC_length hf];exact (List.getElem?_eq_some_iff.1 hv).1
 have e:p=p / sz*sz+p % sz:=by rw [Nat.mul_comm,Nat.div_add_mod]
 have hm:=Nat.mod_lt p hsz
 have hd:p / sz<l.length:=Nat.div_lt_of_lt_mul (by rw [Nat.mul_comm];exact hp)
 rw [e,← add_add]
 rw [e,rowC_get hf l (p / sz) (p % sz) hd hm] at hv
 exact hcp (p / sz) hd _ _ hv
theorem row_of_grow (hf:∀ x,(f x).length=sz) {e:TypeId}{v:Value}{l:List α}{ν:OH}(h:Grow e sz v l.length (rowC f l) ν) {G':GH}(hG:∀ b o,(b,o)∈ν→G' b=some o):Sl G' sz (RowR f) v l:=by
 refine h.sl hG (by simp) fun i x cs hx hc=>?_
 rw [List.getElem?_map,hx] at hc
 simp only [Option.map_some,Option.some.injEq] at hc
 subst hc
 exact ⟨hf x,rfl⟩
end
structure Pr where
 key:ByteArray
 val:ByteArray
 rev:Int
def Pr.cells (x:Pr):List Value:=[.string x.key,.string x.val,.int .i64 x.rev]
structure An where
 client:Int
 seq:Int
 err:Int
 found:Bool
 val:ByteArray
 rev:Int
def An.cells (x:An):List Value:=[.int .i64 x.client,.int .i64 x.seq,.int .i64 x.err,.bool x.found,.string x.val,.int .i64 x.rev]
structure Ss where
 client:Int
 seq:Int
 last:An
def Ss.cells (x:Ss):List Value:=.int .i64 x.client::.int .i64 x.seq::x.last.cells
theorem Pr.len (x:Pr):x.cells.length=3:=rfl
theorem Ss.len (x:Ss):x.cells.length=8:=rfl
theorem Pr.one (x:Pr):x.cells.all Value.oneCell'=true:=rfl
theorem Ss.one (x:Ss):x.cells.all Value.oneCell'=true:=rfl
abbrev Prs (G:GH) (v:Value) (l:List Pr):Prop:=Sl G 3 (RowR Pr.cells) v l
abbrev Sss (G:GH) (v:Value) (l:List Ss):Prop:=Sl G 8 (RowR Ss.cells) v l
abbrev GrP (v:Value) (l:List Pr) (ν:OH):Prop:=Grow 344 3 v l.length (rowC Pr.cells l) ν
abbrev GrS (v:Value) (l:List Ss) (ν:OH):Prop:=Grow 322 8 v l.length (rowC Ss.cells l) ν
section
variable {α:Type}{key:α→Int}
def RiseG (key:α→Int) (l:List α):Prop := ∀ i j (hj:j<l.length) (h:i<j),key (l[i]'(by omega))<key l[j]
end
abbrev ksS (x:Ss):Int:=x.client
abbrev ksP (x:Pr):Int:=kn x.key
def revS (x:Ss):Bool:=decide (x.last.rev≠0)
def PrOk (x:Pr):Prop:=keyB x.key=true∧valB x.val=true
def Sized (l:List Pr):Prop := ∀ x∈l,x.key.size≤200∧x.val.size≤200
def AdjP (l:List Pr):Prop := ∀ i (h:i<l.length) (h0:0<i),ksP (l[i-1]'(by omega))<ksP l[i]
def OneP (l:List Pr):Prop:=l.length≤64∧AdjP l∧∀ x∈l,PrOk x∧x.rev=0
def TwoP (l:List Pr):Prop:=l.length≤64∧AdjP l∧∀ x∈l,PrOk x∧1≤x.rev∧x.rev≤4294967296
theorem adj_rise {l:List Pr}(h:AdjP l):RiseG ksP l:=by
 intro i j hj hij
 induction j with
 | zero=>omega
 | succ j ih =>
  have h1:=h (j+1) hj (by omega)
  simp only [Nat.add_sub_cancel] at h1
  by_cases e:i=j
  ·subst e;exact h1
  ·have:=ih (by omega) (by omega)
   omega
theorem rise_adj {l:List Pr}(h:RiseG ksP l):AdjP l:=fun i hi h0=>h (i-1) i hi (by omega)
section
variable {P:Program}{σ:Env}{G:GH}{μ:OH}{t ty:TypeId}{bytes:Nat}{zero:Value}
end
section
variable {α:Type}{key:α→Int}
abbrev RiseW (key:α→Int) (l:List α):Prop:=l.Pairwise fun a b=>key a<key b
theorem riseG_pw {l:List α}:RiseG key l↔RiseW key l:=by
 unfold RiseG RiseW
 rw [List.pairwise_iff_getElem]
 constructor
 ·intro h i j hi hj hij;exact h i j hj hij
 ·intro h i j hj hij;exact h i j (by omega) hj hij
end
def AnNum (a:An):Prop:=(1≤a.client∧a.client≤8)∧(1≤a.seq∧a.seq≤4294967296)∧(0≤a.err∧a.err≤17)∧(0≤a.rev∧a.rev≤4294967296)
noncomputable def ansI (a:An):Int:=if (1≤a.client∧a.client≤8)∧(1≤a.seq∧a.seq≤4294967296)∧(0≤a.err∧a.err≤17)∧(0≤a.rev∧a.rev≤4294967296) then (if valB a.val=true then 0 else 7) else 6
theorem ansI_zero {a:An}:ansI a=0↔AnNum a∧valB a.val=true:=by
 unfold ansI AnNum
 by_cases h:(1≤a.client∧a.client≤8)∧(1≤a.seq∧a.seq≤4294967296)∧(0≤a.err∧a.err≤17)∧(0≤a.rev∧a.rev≤4294967296)
 ·rw [if_pos h]
  by_cases hv:valB a.val=true
  ·rw [if_pos hv];exact ⟨fun _=>⟨h,hv⟩,fun _=>rfl⟩
  ·rw [if_neg hv];exact ⟨fun e=>(by omega),fun e=>absurd e.2 hv⟩
 ·rw [if_neg h]
  exact ⟨fun e=>(by omega),fun e=>absurd e.1 h⟩
def SsOk (x:Ss):Prop:=x.last.client=x.client∧x.last.seq=x.seq∧ansI x.last=0
def AdjS (l:List Ss):Prop := ∀ i (h:i<l.length) (h0:0<i),ksS (l[i-1]'(by omega))<ksS l[i]
def SesP (l:List Ss):Prop:=AdjS l∧∀ x∈l,SsOk x
def SizedS (l:List Ss):Prop := ∀ x∈l,x.last.val.size≤200
theorem adjS_rise {l:List Ss}(h:AdjS l):RiseG ksS l:=by
 intro i j hj hij
 induction j with
 | zero=>omega
 | succ j ih =>
  have h1:=h (j+1) hj (by omega)
  simp only [Nat.add_sub_cancel] at h1
  by_cases e:i=j
  ·subst e;exact h1
  ·have:=ih (by omega) (by omega)
   omega
structure St where
 schema:Int
 pairs:List Pr
 sess:List Ss
def StV (G:GH) (s:St) (v:Value):Prop := ∃ A c A' c',v=.agg [.int .i64 s.schema,.slice A s.pairs.length c,.slice A' s.sess.length c'].toArray∧Prs G (.slice A s.pairs.length c) s.pairs∧Sss G (.slice A' s.sess.length c') s.sess
theorem StV.up {G G':GH}(hle:GH.le G G') {s:St}{v:Value}(h:StV G s v):StV G' s v:=by
 obtain ⟨A,c,A',c',h1,h2,h3⟩:=h
 exact ⟨A,c,A',c',h1,h2.mono hle,h3.mono hle⟩
def StP (s:St):Prop:=SesP s.sess∧((s.schema=1∧s.sess.any revS=false∧OneP s.pairs)∨(s.schema=2∧TwoP s.pairs))
def StZ (s:St):Prop:=Sized s.pairs∧SizedS s.sess∧s.pairs.length≤150∧s.sess.length≤150
theorem v_copyRow {P:Program}{fn:Func}{n:Nat}{B:Base}{Φ:Value→GH→OH→Prop}{k:List It}{rest:List Oper}{all:Array Oper}{σ:Env}{G:GH}{μ μ':OH}{d:Nat}{t ty e:TypeId}{pos:String}{af:Array Edge}{agg:Bool}{sz bytes:Nat}{zero:Value}{y x:Operand}{b:Nat}{α:Type}{f:α→List Value}{l:List α}{sv:Value}{vs:List Value} [Ty P t (.slice e)] [Lay P e agg sz bytes zero]
 (hf:∀ x,(f x).length=sz) (hone:∀ x,(f x).all Value.oneCell'=true) (hsz:0<sz) (hs:Sl G sz (RowR f) sv l) (hvs:vs.length=l.length*sz)
 (hy:Env.ev σ y=some (.slice (some ⟨b,0,none⟩) l.length l.length)) (hx:Env.ev σ x=some sv) (hb:Has μ b vs e) (hu:Upd b (.cells (rowC f l).toArray e (0,0)) μ μ') (hsame:vs=rowC f l→μ'=μ) (hd:Nat.blt d n=true)
 (h:Vc P fn n B Φ (.ops all rest::k) ((d,.int .i64 l.length)::σ) G μ'):Vc P fn n B Φ (.ops all (⟨some d,.call { callee:=.builtin .copy,args:=#[y,x],argTypes:=#[t,t] },ty,pos,af,none⟩::rest)::k) σ G μ:=by
 obtain ⟨A,c,rfl,hlc,hcm,hsome,hcp⟩:=rowOpen hs
 have hl:=rowC_length hf l
 by_cases h0:l.length=0
 ·have e1:l=[]:=List.eq_nil_of_length_eq_zero h0
  subst e1
  have e2:vs=[]:=List.eq_nil_of_length_eq_zero (by rw [hvs];simp)
  rw [hsame e2] at h
  exact v_read (m_copy0 (e:=e) (agg:=agg) (sz:=sz) (bytes:=bytes) (zero:=zero) hy hx) hd h
 ·refine v_copy (e:=e) (agg:=agg) (sz:=sz) (bytes:=bytes) (zero:=zero) (q:=l.length) (us:=rowC f l) hy hx (Nat.min_self _) (by omega) (rowSrc hf hsz hsome hcp) hb ?_ ?_ ?_ hu hd h
  ·rw [List.take_of_length_le (by omega)];exact rowC_one hone l
  ·omega
  ·unfold over
   rw [List.take_of_length_le (l:=rowC f l) (by omega),List.take_zero,List.drop_of_length_le (by omega)]
   simp
theorem migClone_s {G:GH}{s:St}{v:Value}(hs:StV G s v) (h1:s.pairs.length≤200) (h2:s.sess.length≤200):Con Tryz.prog 101 #[v] G [] (fun r G' μ'=>G'=G∧∃ bp bs,r=.agg [.int .i64 s.schema,.slice (some ⟨bp,0,none⟩) s.pairs.length s.pairs.length,.slice (some ⟨bs,0,none⟩) s.sess.length s.sess.length].toArray∧μ'=[(bs,.cells (rowC Ss.cells s.sess).toArray 322 (0,0)),(bp,.cells (rowC Pr.cells s.pairs).toArray 344 (0,0))]):=by
 obtain ⟨A,c,A',c',rfl,hp,hss⟩:=id hs
 obtain ⟨schema,lp,ls⟩:=s
 simp only at *
 have z1:=rowC_length Pr.len lp
 have z2:=rowC_length Ss.len ls
 have q1:=Pr.one
 have q2:=Ss.one
 (refine v_enter Tryz.func101 rfl Tryz.ntmps101 rfl ?_;intro B _)
 repeat' (first|apply v_box (zs:=[.int .i64 schema,.slice A lp.length c,.slice A' ls.length c']);(case hx|hz|hd=>rfl);intro b|(refine Wd 2 ?_;intro b2)|refine Wa ?_|(refine Wc ⟨?_,?_⟩<;>first|intro h|exact ⟨⟩)|apply v_makeSlice (m:=lp.length);(case hx|hy=>rfl);(case hb=>omega);(case hm=>simp only [maxLen];omega);(case hd=>rfl);intro bp vp hvp|apply v_makeSlice (m:=ls.length);(case hx|hy=>rfl);(case hb=>omega);(case hm=>simp only [maxLen];omega);(case hd=>rfl);intro bs vs hvs|apply v_copyRow (hf:=Pr.len) (hone:=Pr.one) (l:=lp);(case hsz=>omega);(case hs=>exact hp);(case hvs=>exact hvp);(case hy|hx=>rfl);(case hb=>exact aM);(case hu=>repeat first|exact Upd.here _ _|apply Upd.there);(case hsame=>intro h;rw [h]);(case hd=>rfl)|apply v_copyRow (hf:=Ss.len) (hone:=Ss.one) (l:=ls);(case hsz=>omega);(case hs=>exact hss);(case hvs=>exact hvs);(case hy|hx=>rfl);(case hb=>exact aM);(case hu=>repeat first|exact Upd.here _ _|apply Upd.there);(case hsame=>intro h;rw [h]);(case hd=>rfl)|refine Wr ?_|(refine Wb ?_;intro b)|fail)
 refine v_retM [(bs,.cells (rowC Ss.cells ls).toArray 322 (0,0)),(bp,.cells (rowC Pr.cells lp).toArray 344 (0,0))] (outsM_cell (sz:=3) (vs:=[.int .i64 schema,.slice (some ⟨bp,0,none⟩) lp.length lp.length,.slice (some ⟨bs,0,none⟩) ls.length ls.length]) (e:=77) rfl rfl aM rfl) sS ⟨rfl,bp,bs,rfl,rfl⟩
theorem madeP {l:List Pr}(b:Nat) (h:l.length≤200):GrP (.slice (some ⟨b,0,none⟩) l.length l.length) l [(b,.cells (rowC Pr.cells l).toArray 344 (0,0))] :=
 ⟨rowC_length Pr.len l,.inr ⟨b,l.length,[],rfl,by rw [List.append_nil],Nat.le_refl _,by simp only [maxLen];omega,by rw [List.append_nil];exact rowC_length Pr.len l⟩⟩
theorem madeS {l:List Ss}(b:Nat) (h:l.length≤200):GrS (.slice (some ⟨b,0,none⟩) l.length l.length) l [(b,.cells (rowC Ss.cells l).toArray 322 (0,0))] :=
 ⟨rowC_length Ss.len l,.inr ⟨b,l.length,[],rfl,by rw [List.append_nil],Nat.le_refl _,by simp only [maxLen];omega,by rw [List.append_nil];exact rowC_length Ss.len l⟩⟩
theorem StV.made {G':GH}{s:St}{bp bs:Nat}(h1:s.pairs.length≤200) (h2:s.sess.length≤200) (hp:G' bp=some (.cells (rowC Pr.cells s.pairs).toArray 344 (0,0))) (hs:G' bs=some (.cells (rowC Ss.cells s.sess).toArray 322 (0,0))) :
 StV G' s (.agg [.int .i64 s.schema,.slice (some ⟨bp,0,none⟩) s.pairs.length s.pairs.length,.slice (some ⟨bs,0,none⟩) s.sess.length s.sess.length].toArray) :=
 ⟨_,_,_,_,rfl,row_of_grow Pr.len (madeP bp h1) (fun b o h=>by simp only [List.mem_singleton] at h;cases h;exact hp),row_of_grow Ss.len (madeS bs h2) (fun b o h=>by simp only [List.mem_singleton] at h;cases h;exact hs)⟩
abbrev stZ:Value:=.agg #[.int .i64 0,.slice none 0 0,.slice none 0 0]
def zeroSt:St:=⟨0,[],[]⟩
theorem StV.zero (G:GH):StV G zeroSt stZ:=by
 refine ⟨none,0,none,0,rfl,?_,?_⟩
 ·exact row_of_grow Pr.len (Grow.nil 344 3) (fun b o h=>by cases h)
 ·exact row_of_grow Ss.len (Grow.nil 322 8) (fun b o h=>by cases h)
def RevOk (z:Int) (x:Pr):Prop:=(z=1∧x.rev=0)∨(z=2∧1≤x.rev∧x.rev≤4294967296)
def PsOk (z:Int) (l:List Pr):Prop:=l.length≤64∧RiseW ksP l∧∀ x∈l,PrOk x∧RevOk z x
theorem stP_iff {s:St}:StP s↔SesP s.sess∧(s.schema=1∨s.schema=2)∧PsOk s.schema s.pairs∧(s.schema=1→s.sess.any revS=false):=by
 obtain ⟨z,lp,ls⟩:=s
 unfold StP PsOk OneP TwoP
 simp only
 constructor
 ·rintro ⟨h1,⟨rfl,h2,h3,h4,h5⟩|⟨rfl,h3,h4,h5⟩⟩
  ·exact ⟨h1,.inl rfl,⟨h3,riseG_pw.1 (adj_rise h4),fun x hx=>⟨(h5 x hx).1,.inl ⟨rfl,(h5 x hx).2⟩⟩⟩,fun _=>h2⟩
  ·exact ⟨h1,.inr rfl,⟨h3,riseG_pw.1 (adj_rise h4),fun x hx=>⟨(h5 x hx).1,.inr ⟨rfl,(h5 x hx).2⟩⟩⟩,fun h=>absurd h (by omega)⟩
 ·rintro ⟨h1,rfl|rfl,⟨h3,h4,h5⟩,h2⟩
  ·refine ⟨h1,.inl ⟨rfl,h2 rfl,h3,rise_adj (riseG_pw.2 h4),fun x hx=>⟨(h5 x hx).1,?_⟩⟩⟩
   rcases (h5 x hx).2 with h|h
   ·exact h.2
   ·exact absurd h.1 (by omega)
  ·refine ⟨h1,.inr ⟨rfl,h3,rise_adj (riseG_pw.2 h4),fun x hx=>⟨(h5 x hx).1,?_⟩⟩⟩
   rcases (h5 x hx).2 with h|h
   ·exact absurd h.1 (by omega)
   ·exact h.2
theorem keyB_size {s:ByteArray}(h:keyB s=true):s.size≤24:=by
 unfold keyB at h
 simp only [Bool.and_eq_true,decide_eq_true_eq] at h
 exact h.1.2
theorem valB_size {s:ByteArray}(h:valB s=true):s.size≤48:=by
 unfold valB at h
 simp only [Bool.and_eq_true,decide_eq_true_eq] at h
 exact h.1.1
theorem ses_few:∀ (l:List Ss) (a:Int),RiseW ksS l→(∀ x∈l,a≤x.client∧x.client≤8)→a≤9→(l.length:Int)≤9-a
 | [],a,_,_,ha=>by simp;omega
 | x::l,a,h,hx,ha=>by
  have h1:=List.pairwise_cons.1 h
  have h2:=hx x List.mem_cons_self
  have:=ses_few l (x.client+1) h1.2 (fun y hy=>⟨by have:=h1.1 y hy;simp only [ksS] at this;omega,(hx y (List.mem_cons_of_mem _ hy)).2⟩) (by omega)
  simp only [List.length_cons]
  omega
theorem sesP_few {l:List Ss}(h:SesP l):l.length≤8:=by
 have:=ses_few l 1 (riseG_pw.1 (adjS_rise h.1)) (fun x hx=>by
  obtain ⟨h1,h2,h3⟩:=h.2 x hx
  have h4:=(ansI_zero.1 h3).1.1
  omega) (by omega)
 omega
theorem StP.small {s:St}(h:StP s):StZ s:=by
 obtain ⟨h1,h2,⟨h3,h4,h5⟩,h6⟩:=stP_iff.1 h
 refine ⟨fun x hx=>?_,fun x hx=>?_,by omega,by have:=sesP_few h1;omega⟩
 ·have:=(h5 x hx).1
  have a:=keyB_size this.1
  have b:=valB_size this.2
  omega
 ·have:=valB_size (ansI_zero.1 (h1.2 x hx).2.2).2
  omega
section
variable {α:Type}{key:α→Int}
end
abbrev kA:ByteArray:=⟨#[97]⟩
abbrev emp:St:=⟨1,[],[]⟩
abbrev mA:Cm:=⟨6,0,0,ByteArray.empty,ByteArray.empty,ByteArray.empty,0⟩
theorem sesP_nil:SesP []:=⟨fun i hi=>by simp at hi,fun x hx=>by simp at hx⟩
theorem emp_ok:StP emp:=stP_iff.2 ⟨sesP_nil,.inl rfl,⟨by simp,List.Pairwise.nil,fun x hx=>by simp at hx⟩,fun _=>rfl⟩
theorem empty_s (G:GH):Con Tryz.prog 100 #[] G [] (Just (.agg [.int .i64 1,.slice none 0 0,.slice none 0 0].toArray) G):=by
 apply Con.just
 (refine v_enter Tryz.func100 rfl Tryz.ntmps100 rfl ?_;intro B _)
 repeat' (first|(refine Wd 0 ?_;intro b0)|refine Wa ?_|(refine Wc ⟨?_,?_⟩<;>first|intro h|exact ⟨⟩)|refine Wr ?_|(refine Wb ?_;intro b)|fail)
 refine v_retM [] (outsM_cell (sz:=3) (vs:=[.int .i64 1,.slice none 0 0,.slice none 0 0]) (e:=77) rfl rfl aM rfl) (List.nil_sublist _) ⟨rfl,rfl⟩
theorem emp_v (G:GH):StV G emp (.agg [.int .i64 1,.slice none 0 0,.slice none 0 0].toArray):=by
 refine ⟨none,0,none,0,rfl,?_,?_⟩
 ·exact row_of_grow Pr.len (Grow.nil 344 3) (fun b o h=>by cases h)
 ·exact row_of_grow Ss.len (Grow.nil 322 8) (fun b o h=>by cases h)
section
attribute [local semireducible] Vc DVc Con PureOp ReadOp MoveOp
end
end Go.Proofs.YtnncjoooaknlmaaGreatDoor
/-
  conf (layer 11), the first part: what its readers, and the reference's, answer.
-/
namespace Go.Proofs.YtnncjoooaknlmaaGreatDoor
open Go.Vx Go.ChangeShapes Go.WideShapes Go.ChangeAt Go.RowKit
abbrev Co:=Int×List Int
def CoR (G:GH) (x:Co) (cs:List Value):Prop := ∃ mv,cs=[.int .i64 x.1,mv]∧(Lit.int .i64 x.1).wf=true∧Sl G 1 (IntR .i64) mv x.2
theorem CoR.le {G G':GH}(h:GH.le G G') {x:Co}{cs:List Value}(hc:CoR G x cs):CoR G' x cs:=let ⟨mv,h1,h2,h3⟩:=hc;⟨mv,h1,h2,h3.mono h⟩
abbrev Cos (G:GH) (v:Value) (l:List Co):Prop:=Sl G 2 (CoR G) v l
theorem Cos.le {G G':GH}(h:GH.le G G') {v:Value}{l:List Co}(hc:Cos G v l):Cos G' v l:=Sl.le hc h fun _ _=>CoR.le h
theorem coOpen {G:GH}{v:Value}{l:List Co}(h:Cos G v l):∃ A c,∃ (mA:Nat→Option Addr) (mc:Nat→Nat),v=.slice A l.length c∧l.length≤c∧c≤maxLen∧(0<l.length→A.isSome=true) ∧
 (∀ i (h:i<l.length),CellsG G ((adr A).add (i*2)) [.int .i64 l[i].1,.slice (mA i) l[i].2.length (mc i)])∧(∀ i (h:i<l.length),GH.cell? G (((adr A).add (i*2)).add 0)=some (.int .i64 l[i].1))∧(∀ i (h:i<l.length),GH.cell? G (((adr A).add (i*2)).add 1)=some (.slice (mA i) l[i].2.length (mc i))) ∧
 (∀ i (h:i<l.length),Sl G 1 (IntR .i64) (.slice (mA i) l[i].2.length (mc i)) l[i].2)∧(∀ i (h:i<l.length),(Lit.int .i64 l[i].1).wf=true):=by
 obtain ⟨A,c,rfl,h1,h2,h3,h4⟩:=h.open
 have key:∀ i,∃ m:Option Addr×Nat,∀ (h:i<l.length),CellsG G ((adr A).add (i*2)) [.int .i64 l[i].1,.slice m.1 l[i].2.length m.2]∧Sl G 1 (IntR .i64) (.slice m.1 l[i].2.length m.2) l[i].2∧(Lit.int .i64 l[i].1).wf=true:=fun i=>by
  by_cases hi:i<l.length
  ·obtain ⟨cs,_,⟨mv,rfl,h6,h7⟩,h5⟩:=h4 i _ (List.getElem?_eq_getElem hi)
   obtain ⟨A',c',rfl,_⟩:=h7.openInt
   exact ⟨(A',c'),fun _=>⟨h5,h7,h6⟩⟩
  ·exact ⟨(none,0),fun h=>absurd h hi⟩
 have hk:=fun i=>Classical.choose_spec (key i)
 exact ⟨A,c,fun i=>(Classical.choose (key i)).1,fun i=>(Classical.choose (key i)).2,rfl,h1,h2,h3,fun i hi=>(hk i hi).1,fun i hi=>(hk i hi).1.cell (j:=0) rfl,fun i hi=>(hk i hi).1.cell (j:=1) rfl,fun i hi=>(hk i hi).2.1,fun i hi=>(hk i hi).2.2⟩
def MemOK (m:List Int):Prop:=0<m.length∧∀ k (h:k<m.length),1≤m[k]∧m[k]≤9∧(0<k→m[k-1]<m[k])
def ConfOK (l:List Co):Prop:=(∃ h:0<l.length,l[0].1=1)∧∀ i (h:i<l.length),MemOK l[i].2∧l[i].1≤4294967296∧(0<i→l[i-1].1<l[i].1)
noncomputable instance (m:List Int):Decidable (MemOK m):=Classical.propDecidable _
noncomputable instance (l:List Co):Decidable (ConfOK l):=Classical.propDecidable _
theorem members_s {G:GH}{l:List Int}{sv:Value}(hs:Sl G 1 (IntR .i64) sv l):Con Tryz.prog 137 #[sv] G [] (Just (.bool (decide (MemOK l))) G):=by
 obtain ⟨A,c,rfl,hlc,hcm,hsome,hel,_⟩:=hs.openInt
 simp only [maxLen] at hcm
 (refine v_enter Tryz.func137 rfl Tryz.ntmps137 rfl ?_;intro B _)
 repeat' (first|refine Wa ?_|(refine Wc ⟨?_,?_⟩<;>first|intro h|exact ⟨⟩)|refine Wr ?_|fail)
 refine v_loop [7,6,5,0] (fun us G' μ'=>G'=G∧μ'=[]∧∃ k,k≤l.length∧us=[Value.int .i64 (k:Nat),.int .i64 l.length,.slice A l.length c,.slice A l.length c]∧∀ i (h:i<l.length),i<k→1≤l[i]∧l[i]≤9∧(0<i→l[i-1]<l[i])) (fun us=>l.length-(headI us).toNat) rfl ⟨rfl,rfl,0,by omega,rfl,by omega⟩ ?_
 rintro us G' μ' ⟨rfl,rfl,k,hk,rfl,hno⟩
 repeat' (first|refine Wa ?_|(refine Wc ⟨?_,?_⟩<;>first|intro h|exact ⟨⟩)|apply v_read;(case hop=>(apply r_load1;rfl;exact Cell.frozen (hel _ (by omega))));(case hd=>rfl)|refine Wr ?_|fail)
 all_goals have e1:((k:Nat):Int).toNat=k:=by omega
 all_goals have e2:(((k:Nat):Int)-1).toNat=k-1:=by omega
 all_goals try
  (refine Vr ?_
   refine ⟨?_,rfl,rfl⟩
   rw [decide_eq_false]
   rintro ⟨_,hm⟩
   have:=hm k (by omega)
   simp only [e1,e2] at *
   omega)
 all_goals try
  (refine Va rfl ⟨rfl,rfl,k+1,by omega,rfl,fun i h hi=>?_⟩
   by_cases hik:i=k
   ·subst hik;simp only [e1,e2] at *;omega
   ·exact hno i h (by omega))
 ·refine Vr ?_
  refine ⟨?_,rfl,rfl⟩
  congr 1
  rw [dec_eq,decide_eq_decide]
  exact ⟨fun h=>⟨by omega,fun i h'=>hno i h' (by omega)⟩,fun h=>by have:=h.1;omega⟩
theorem check_s {G:GH}{l:List Co}{sv:Value}(hs:Cos G sv l):Con Tryz.prog 99 #[sv] G [] (Just (.int .i64 (if ConfOK l then 0 else 3)) G):=by
 obtain ⟨A,c,mA,mc,rfl,hlc,hcm,hsome,hcp,hc0,hc1,hmv,hwf⟩:=coOpen hs
 simp only [maxLen] at hcm
 (refine v_enter Tryz.func99 rfl Tryz.ntmps99 rfl ?_;intro B _)
 repeat' (first|refine Wa ?_|(refine Wc ⟨?_,?_⟩<;>first|intro h|exact ⟨⟩)|apply v_read;(case hop=>first|apply r_load1;rfl;exact Cell.frozen (hc0 _ (by omega))|apply r_load1;rfl;exact Cell.frozen (hc1 _ (by omega))|apply r_loadN;rfl;exact CellsAt.frozen (hcp _ (by omega));rfl);(case hd=>rfl)|refine Wr ?_|(refine Wb ?_;intro b)|fail)
 ·refine Vr ?_
  refine ⟨?_,rfl,rfl⟩
  rw [if_neg]
  rintro ⟨⟨h0,_⟩,_⟩
  omega
 ·refine Vr ?_
  refine ⟨?_,rfl,rfl⟩
  rw [if_neg]
  rintro ⟨⟨_,h0⟩,_⟩
  contradiction
 refine v_loop [17,16,15,0] (fun us G' μ'=>G'=G∧μ'=[]∧∃ k,k≤l.length∧us=[Value.int .i64 (k:Nat),.int .i64 l.length,.slice A l.length c,.slice A l.length c]∧∀ i (h:i<l.length),i<k→MemOK l[i].2∧l[i].1≤4294967296∧(0<i→l[i-1].1<l[i].1)) (fun us=>l.length-(headI us).toNat) rfl ⟨rfl,rfl,0,by omega,rfl,by omega⟩ ?_
 rintro us G' μ' ⟨rfl,rfl,k,hk,rfl,hno⟩
 have e1:((k:Nat):Int).toNat=k:=by omega
 have e2:(((k:Nat):Int)-1).toNat=k-1:=by omega
 repeat' (first|refine Wa ?_|(refine Wc ⟨?_,?_⟩<;>first|intro h|exact ⟨⟩)|apply v_read;(case hop=>first|apply r_load1;rfl;exact Cell.frozen (hc0 _ (by omega))|apply r_load1;rfl;exact Cell.frozen (hc1 _ (by omega))|apply r_loadN;rfl;exact CellsAt.frozen (hcp _ (by omega));rfl);(case hd=>rfl)|refine Wr ?_|(refine Wb ?_;intro b)|fail)
 ·have hlt:k<l.length:=by omega
  refine Dz _ ?_
  all_goals refine Dt [0] ?_
  all_goals (first|refine Tv 1 ?_ (hop:=by first|apply r_load1;rfl;exact Cell.frozen (hc0 _ (by omega))|fail)|refine Dt [1] ?_)
  all_goals (refine DJ 2 (hs:=(members_s (hmv _ hlt))) ?_)
  all_goals refine Dt [3,4] ?_
  all_goals (try (refine Dg 5 ⟨?_,?_⟩<;>first|intro h|exact ⟨⟩))
  all_goals refine Dt [5] ?_
  all_goals (first|refine TvG 6 ?_ (hop:=by first|apply r_load1;rfl;exact Cell.frozen (hc0 _ (by omega))|fail)|refine Dt [6] ?_)
  all_goals refine Dt [7,8,9] ?_
  all_goals (try (refine Dg 10 ⟨?_,?_⟩<;>first|intro h|exact ⟨⟩))
  all_goals refine Dt [10,11,12] ?_
  all_goals (try (refine Dg 13 ⟨?_,?_⟩<;>first|intro h|exact ⟨⟩))
  all_goals refine Dt [13] ?_
  all_goals (first|refine TvG 14 ?_ (hop:=by first|apply r_load1;rfl;exact Cell.frozen (hc0 _ (by omega))|fail)|refine Dt [14] ?_)
  all_goals refine Dt [15,16,17,18,19] ?_
  all_goals (first|refine TvG 20 ?_ (hop:=by first|apply r_load1;rfl;exact Cell.frozen (hc0 _ (by omega))|fail)|refine Dt [20] ?_)
  all_goals refine Dt [21,22,23] ?_
  all_goals refine Dd ?_
  repeat' (first|refine Wa ?_|(refine Wc ⟨?_,?_⟩<;>first|intro h|exact ⟨⟩)|refine Wr ?_|(refine Wb ?_;intro b)|fail)
  all_goals try
   (refine Vr ?_
    refine ⟨?_,rfl,rfl⟩
    rw [if_neg]
    rintro ⟨_,hm⟩
    obtain ⟨q1,q2,q3⟩:=hm k (by omega)
    simp only [e1,e2] at *
    first|contradiction|omega)
  all_goals
   (refine v_drop (ν:=[]) sS ?_
    refine Va rfl ⟨rfl,rfl,k+1,by omega,rfl,fun i h hi=>?_⟩
    by_cases hik:i=k
    ·subst hik
     simp only [e1,e2] at *
     exact ⟨by assumption,by omega,by omega⟩
    ·exact hno i h (by omega))
 ·refine Vr ?_
  refine ⟨?_,rfl,rfl⟩
  rw [if_pos ⟨⟨by omega,by assumption⟩,fun i h=>hno i h (by omega)⟩]
theorem clone_s {G:GH}{l:List Int}{sv:Value}(hs:Sl G 1 (IntR .i64) sv l) (hl:l.length≤1048576):Con Tryz.prog 98 #[sv] G [] (fun r G' μ'=>G'=G∧Grow 3 1 r l.length (l.map (.int .i64 ·)) μ'):=by
 obtain ⟨A,c,rfl,hlc,hcm,hsome,hel,_⟩:=hs.openInt
 simp only [maxLen] at hcm
 (refine v_enter Tryz.func98 rfl Tryz.ntmps98 rfl ?_;intro B _)
 repeat' (first|refine Wa ?_|(refine Wc ⟨?_,?_⟩<;>first|intro h|exact ⟨⟩)|(refine Wb ?_;intro b)|fail)
 ·refine Vr ?_
  have:l=[]:=by
   cases l with
   | nil=>rfl
   | cons a l=>have:=hsome (by simp);simp_all
  subst this
  exact ⟨rfl,Grow.nil _ _⟩
 ·refine v_append (e:=3) (sz:=1) (zero:=.int .i64 0) rfl (by omega) rfl rfl Grow.empty (List.Perm.refl _) (Src.ints hs) (allOne_ints l) (by omega) (by simp only [maxLen];omega) rfl ?_
  intro v' ν' hg
  repeat' (first|refine Wa ?_|(refine Wc ⟨?_,?_⟩<;>first|intro h|exact ⟨⟩)|(refine Wb ?_;intro b)|fail)
  refine v_ret ν' (outsA1 rfl rfl) (by simp) ?_
  rw [Nat.zero_add,List.nil_append] at hg
  exact ⟨rfl,hg⟩
end Go.Proofs.YtnncjoooaknlmaaGreatDoor
/-
  The kit's contracts for three functions of slices, laid at this program (printed by a program of ours off the structures' fields).
-/
namespace Go.Proofs.YtnncjoooaknlmaaGreatDoor
open Go.Shelf Go.Lib Go.Sort Go.RowKit
end Go.Proofs.YtnncjoooaknlmaaGreatDoor
/-
  The three functions of slices, as contracts of ours.
-/
namespace Go.Proofs.YtnncjoooaknlmaaGreatDoor
open Go.Vx Go.ChangeShapes Go.WideShapes Go.ChangeAt Go.RowKit
attribute [local semireducible] Con
section
variable {G:GH}{μ μ':OH}{w:World}{b:Nat}{e:TypeId}
end
end Go.Proofs.YtnncjoooaknlmaaGreatDoor
/-
  conf (layer 11), the fourth part: members with a change.
-/
namespace Go.Proofs.YtnncjoooaknlmaaGreatDoor
open Go.Vx Go.ChangeShapes Go.WideShapes Go.ChangeAt Go.RowKit
theorem MemOK.sorted {l:List Int}(h:MemOK l):l.Pairwise (· < ·):=by
 rw [List.pairwise_iff_getElem]
 obtain ⟨_,h⟩:=h
 have key:∀ (d i:Nat) (hi:i+d+1<l.length),l[i]<l[i+d+1]:=by
  intro d
  induction d with
  | zero =>
   intro i hi
   have:=(h (i+1) (by omega)).2.2 (by omega)
   simpa using this
  | succ d ih =>
   intro i hi
   have h1:=ih i (by omega)
   have h2:=(h (i+(d+1)+1) hi).2.2 (by omega)
   have h3:l[i+(d+1)+1-1]=l[i+d+1]:=by congr 1
   rw [h3] at h2
   omega
 intro i j hi hj hij
 have:=key (j-i-1) i (by omega)
 have h3:l[i+(j-i-1)+1]'(by omega)=l[j]:=by congr 1;omega
 omega
def nine (k:Nat):List Int:=(List.range k).map fun j:Nat=>(j:Int)+1
theorem MemOK.range {l:List Int}(h:MemOK l) {x:Int}(hx:x∈l):1≤x∧x≤9:=by
 obtain ⟨i,hi,rfl⟩:=List.getElem_of_mem hx
 have:=h.2 i hi
 omega
def CoCells (G:GH) (l:List Co) (css:List (List Value)):Prop:=css.length=l.length∧∀ (i:Nat) x cs,l[i]? = some x→css[i]? = some cs→cs.length=2∧CoR G x cs
theorem CoCells.le {G G':GH}{l:List Co}{css:List (List Value)}(h:CoCells G l css) (hle:GH.le G G'):CoCells G' l css :=
 ⟨h.1,fun i x cs h1 h2=>let ⟨a,b⟩:=h.2 i x cs h1 h2;⟨a,b.le hle⟩⟩
theorem CoCells.push {G:GH}{l:List Co}{css:List (List Value)}{x:Co}{cs:List Value}(h:CoCells G l css) (h2:cs.length=2) (hx:CoR G x cs):CoCells G (l++[x]) (css++[cs]):=by
 refine ⟨by simp [h.1],fun i y ds h3 h4=>?_⟩
 by_cases hi:i<l.length
 ·rw [List.getElem?_append_left hi] at h3
  rw [List.getElem?_append_left (by rw [h.1];exact hi)] at h4
  exact h.2 i y ds h3 h4
 ·rw [List.getElem?_append_right (by omega)] at h3
  rw [List.getElem?_append_right (by rw [h.1];omega),h.1] at h4
  have:i-l.length=0:=by
   have:=(List.getElem?_eq_some_iff.1 h3).1
   simp at this;omega
  rw [this] at h3 h4
  simp at h3 h4
  subst h3;subst h4
  exact ⟨h2,hx⟩
theorem CoCells.nil {G:GH}:CoCells G [] []:=⟨rfl,fun i x cs h=>by simp at h⟩
theorem CoCells.grow {G:GH}{l:List Co}{css:List (List Value)}{v:Value}{ν:OH}(h:CoCells G l css) (hg:Grow 172 2 v l.length css.flatten ν) {G':GH}(hle:GH.le G G') (hG:∀ b o,(b,o)∈ν→G' b=some o):Cos G' v l :=
 hg.sl hG h.1 (h.le hle).2
theorem memOK_of {m:List Int}(h0:0<m.length) (hs:m.Pairwise (· < ·)) (hr:∀ x∈m,1≤x∧x≤9):MemOK m:=by
 refine ⟨h0,fun k hk=>?_⟩
 obtain ⟨h1,h2⟩:=hr _ (List.getElem_mem hk)
 refine ⟨h1,h2,fun h=>?_⟩
 rw [List.pairwise_iff_getElem] at hs
 exact hs (k-1) k (by omega) hk (by omega)
theorem ConfOK.of {l:List Co}(h0:∃ h:0<l.length,l[0].1=1) (hr:l.Pairwise (fun a b=>a.1<b.1)) (hm:∀ c∈l,MemOK c.2∧c.1≤4294967296):ConfOK l:=by
 refine ⟨h0,fun i hi=>?_⟩
 obtain ⟨h1,h2⟩:=hm _ (List.getElem_mem hi)
 refine ⟨h1,h2,fun h=>?_⟩
 rw [List.pairwise_iff_getElem] at hr
 exact hr (i-1) i (by omega) hi (by omega)
theorem ConfOK.mems {l:List Co}(h:ConfOK l):∀ c∈l,MemOK c.2∧c.1≤4294967296:=fun c hc=>by
 obtain ⟨i,hi,rfl⟩:=List.getElem_of_mem hc
 have:=h.2 i hi
 exact ⟨this.1,this.2.1⟩
structure Im where
 index:Int
 active:Int
 confs:List Co
 st:St
def ImV (G:GH) (m:Im) (v:Value):Prop := ∃ C cc A c A' c',v=.agg [.int .i64 m.index,.int .i64 m.active,.slice C m.confs.length cc,.int .i64 m.st.schema,.slice A m.st.pairs.length c,.slice A' m.st.sess.length c'].toArray ∧
 Cos G (.slice C m.confs.length cc) m.confs∧Prs G (.slice A m.st.pairs.length c) m.st.pairs∧Sss G (.slice A' m.st.sess.length c') m.st.sess
theorem ImV.up {G G':GH}(hle:GH.le G G') {m:Im}{v:Value}(h:ImV G m v):ImV G' m v:=by
 obtain ⟨C,cc,A,c,A',c',e,h1,h2,h3⟩:=h
 exact ⟨C,cc,A,c,A',c',e,h1.le hle,h2.mono hle,h3.mono hle⟩
theorem ImV.mk' {G:GH}{x a:Int}{l:List Co}{s:St}{C:Option Addr}{cc:Nat}{A A':Option Addr}{c c':Nat}(h1:Cos G (.slice C l.length cc) l) (h2:StV G s (.agg [.int .i64 s.schema,.slice A s.pairs.length c,.slice A' s.sess.length c'].toArray)) :
 ImV G ⟨x,a,l,s⟩ (.agg [.int .i64 x,.int .i64 a,.slice C l.length cc,.int .i64 s.schema,.slice A s.pairs.length c,.slice A' s.sess.length c'].toArray):=by
 obtain ⟨B,d,B',d',e,h3,h4⟩:=h2
 cases e
 exact ⟨C,cc,A,c,A',c',rfl,h1,h3,h4⟩
def ImP (m:Im):Prop:=(0≤m.index∧m.index≤4294967296∧0≤m.active∧m.active≤m.index)∧ConfOK m.confs∧StP m.st∧(m.st.schema=2↔0<m.active)
def CoZ (l:List Co):Prop:=l.length≤900∧∀ c∈l,c.2.length≤1000
def zeroIm:Im:=⟨0,0,[],zeroSt⟩
theorem memOK_len:∀ (l:List Int) (a:Int),l.Pairwise (· < ·)→(∀ x∈l,a≤x∧x≤9)→a≤10→(l.length:Int)≤10-a
 | [],a,_,_,ha=>by simp;omega
 | x::l,a,h,hx,ha=>by
  have h1:=List.pairwise_cons.1 h
  have h2:=hx x List.mem_cons_self
  have:=memOK_len l (x+1) h1.2 (fun y hy=>⟨by have:=h1.1 y hy;omega,(hx y (List.mem_cons_of_mem _ hy)).2⟩) (by omega)
  simp only [List.length_cons]
  omega
theorem ConfOK.few {l:List Co}(h:ConfOK l):∀ c∈l,c.2.length≤9:=fun c hc=>by
 have hm:=(h.mems c hc).1
 have:=memOK_len c.2 1 hm.sorted (fun x hx=>hm.range hx) (by omega)
 omega
theorem ConfOK.coZ {l:List Co}(h:ConfOK l) (hl:l.length≤900):CoZ l:=⟨hl,fun c hc=>by have:=h.few c hc;omega⟩
end Go.Proofs.YtnncjoooaknlmaaGreatDoor
