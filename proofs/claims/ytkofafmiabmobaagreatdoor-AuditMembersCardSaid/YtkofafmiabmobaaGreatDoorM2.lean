/-
  VX, SHORT STEPS (printed by genauto.py): a step whose tactics stand once, as what is tried for a premise that is not given.
-/
import Derived.Test.YtkofafmiabmobaaGreatDoorM1
import Derived.Test.YtkofafmiabmobaaGreatDoorRows
import Derived.Shelf.Unicode.DecodeAny
import Derived.Shelf.Small.Strs
set_option linter.unusedVariables false
set_option linter.unusedSimpArgs false
namespace Go.Vx
open Go
structure Kp (A:Prop):Prop where
 o:A
theorem sS {a b:OH}(h:List.Sublist a b:=by repeat (first|exact List.Sublist.refl _|exact List.nil_sublist _|apply List.Sublist.cons_cons|apply List.Sublist.cons|exact List.sublist_append_left _ _|apply List.sublist_append_of_sublist_right)):List.Sublist a b:=h
theorem aV {a b:OH}(h:a.Perm b:=by apply perm_of_count;intro p;simp only [List.append_eq,List.countP_append,List.countP_cons,List.countP_nil,Nat.zero_add,Nat.add_zero];try ac_rfl):a.Perm b:=h
theorem aM {α:Type}{a:α}{b:List α}(h:a∈b:=by (repeat (first|exact List.Mem.head _|apply List.Mem.tail|apply List.mem_append_right))):a∈b:=h
theorem aE {a b:OH}(h:∀ e∈a,e∈b:=by first|(intro e he;first|exact he|(cases he;done)|(simp at he;simp [he];done)|(simp only [List.mem_cons,List.not_mem_nil,or_false] at he;rcases he with rfl|rfl<;>simp;done)|(simp only [List.mem_cons,List.not_mem_nil,or_false] at he;rcases he with rfl|rfl|rfl<;>simp;done)|(refine List.forall_mem_cons.2 ?_;done)|(simp at he ⊢;try omega);done)|((repeat (first|exact List.forall_mem_nil _|(refine List.forall_mem_cons.2 (And.intro (by repeat (first|exact List.Mem.head _|apply List.Mem.tail|apply List.mem_append_right)) ?_))));done)):∀ e∈a,e∈b:=h
theorem Wa {g g':Prop}(k:g') (h:Kp g'→g:=by
 intro k
 first|apply v_seq|apply v_region|apply v_nil|apply v_skip|apply v_block|apply v_blk|apply v_exit;(case hp=>rfl)|apply v_take;(case hg=>rfl)|apply v_pass;(case hg|hn|hd=>rfl)|apply v_passN;(case hg|hn|hd=>rfl)|apply v_pure;(case hop=>first|apply p_move<;>rfl|apply p_eqs<;>rfl|apply p_nes<;>rfl|apply p_eqBs<;>rfl|apply p_neBs<;>rfl|apply p_eq<;>rfl|apply p_lt<;>rfl|apply p_gt<;>rfl|apply p_ne<;>rfl|apply p_le<;>rfl|apply p_ge<;>rfl|apply p_assign<;>rfl|apply p_pickT<;>rfl|apply p_pickF<;>rfl|apply p_not<;>rfl|apply p_lenSlice<;>rfl|apply p_fieldAddrB<;>rfl|apply p_fieldAddr<;>rfl|apply p_nilCheck<;>rfl|apply p_extract0<;>rfl|apply p_extract1<;>rfl|apply p_extract2<;>rfl|apply p_extract<;>rfl|apply p_add;(case hx|hy=>rfl);(case h=>omega)|apply p_sub;(case hx|hy=>rfl);(case h=>omega)|apply p_max<;>rfl|apply p_min<;>rfl|apply p_indexAddrB;(case hx|hi=>rfl);(case h0|h=>omega)|apply p_indexAddr;(case hx|hi=>rfl);(case h0|h=>omega)|apply p_indexAddrA;(case hx|hi=>rfl);(case h0|h=>omega)|apply p_indexAddrS;(case hx|hi=>rfl);(case h0|h=>omega);(case hA=>first|rfl|assumption|apply_assumption;omega)|apply p_lenString<;>rfl|apply p_capSlice<;>rfl|apply p_field1<;>rfl|apply p_fieldNs;(case hx=>rfl);(case hu=>repeat first|with_reducible exact dt_nil|apply dt_here|apply dt_drop)|apply p_makeFunc<;>rfl|apply p_eqB<;>rfl|apply p_neB<;>rfl|apply p_eqNil<;>rfl|apply p_neNil<;>rfl|apply p_iface<;>rfl|apply p_convS<;>rfl|apply p_build;(case hz=>rfl);(case hv=>(simp only [List.map_cons,List.map_nil];repeat (first|with_reducible exact evs_nil|apply evs_cons;(case h1=>rfl))));(case hb=>(apply bldL;repeat (first|exact bld_nil|apply bld_cons;(case hpf|hc|hs|hl=>rfl);(case ho=>(first|((repeat (first|with_reducible exact ov_nil|apply ov_cons|apply ov_there));done)|rfl)))))|apply p_sliceL;(case hx|hl=>rfl);all_goals omega|apply p_sliceH;(case hx|hh=>rfl);all_goals omega|apply p_sliceLH;(case hx|hl|hh=>rfl);all_goals omega|apply p_slice3;(case hx|hh|hq=>rfl);all_goals omega|apply p_convB<;>rfl|apply p_conv64;(case hx=>rfl);(case h=>omega)|apply p_sliceStrL;(case hx|hl=>rfl);all_goals omega|apply p_sliceStrH;(case hx|hh=>rfl);all_goals omega|apply p_pickAnd<;>rfl|apply p_pickOr<;>rfl|apply p_assertOk<;>rfl|apply p_assertNo<;>rfl|apply p_indexSn;(case hx|hi=>rfl);all_goals omega|apply p_indexSb;(case hx|hi=>rfl);all_goals omega|apply p_and64<;>rfl|apply p_quo;(case hx|hy=>rfl);all_goals omega|apply p_rem0;(case hx|hy=>rfl);all_goals omega|apply p_mul;(case hx|hy=>rfl);(case h=>omega)|apply p_eqS<;>rfl|apply p_neS<;>rfl|apply p_eqNilSlice<;>rfl|apply p_neNilSlice<;>rfl);(case hd=>rfl)|apply v_condT;(case hc=>rfl)|apply v_condF;(case hc=>rfl)|fail
 exact k.o):g:=h ⟨k⟩
theorem Wr {g g':Prop}(k:g') (h:Kp g'→g:=by
 intro k
 first|apply v_read;(case hop=>first|apply r_loadNo;(case hx=>rfl);(case h=>repeat first|exact List.Mem.head _|apply List.Mem.tail|apply List.mem_append_right);(case hd=>repeat first|with_reducible exact dt_nil|apply dt_here|apply dt_drop);(case hn=>rfl)|apply r_load1;rfl;(apply Cell.own;(case h=>repeat first|exact List.Mem.head _|apply List.Mem.tail|apply List.mem_append_right);rfl)|apply r_loadN;rfl;(apply CellsAt.own;(case h=>repeat first|exact List.Mem.head _|apply List.Mem.tail|apply List.mem_append_right));rfl|fail);(case hd=>rfl)|apply v_store;(case hp|hx|hc|hsz|h1=>rfl);(case hb=>repeat first|exact List.Mem.head _|apply List.Mem.tail|apply List.mem_append_right);(case hfit=>first|exact Nat.le_of_ble_eq_true rfl|(simp;omega));(case hov=>(first|((repeat (first|with_reducible exact ov_nil|apply ov_cons|apply ov_there));done)|rfl));(case hu=>repeat first|exact Upd.here _ _|apply Upd.there|apply Upd.app)|fail
 exact k.o):g:=h ⟨k⟩
theorem Wb {g:Prop}{p:Nat→Prop}(k:∀ b,p b) (h:Kp (∀ b,p b)→g:=by
 intro k
 first|apply v_buildSlice;(case hz|hi=>rfl);(case hv=>(simp only [List.map_cons,List.map_nil];repeat (first|with_reducible exact evs_nil|apply evs_cons;(case h1=>rfl))));(case hp=>(first|with_reducible exact pk_nil|apply pk_cons;(case hc|hs=>rfl);(case h=>(first|with_reducible exact pk_nil|apply pk_cons;(case hc|hs=>rfl);(case h=>(first|with_reducible exact pk_nil|apply pk_cons;(case hc|hs=>rfl);(case h=>(first|with_reducible exact pk_nil|apply pk_cons;(case hc|hs=>rfl);(case h=>(first|with_reducible exact pk_nil|apply pk_cons;(case hc|hs=>rfl);(case h=>(first|with_reducible exact pk_nil|apply pk_cons;(case hc|hs=>rfl);(case h=>(first|with_reducible exact pk_nil|apply pk_cons;(case hc|hs=>rfl);(case h=>(first|with_reducible exact pk_nil|apply pk_cons;(case hc|hs=>rfl);(case h=>(with_reducible exact pk_nil));(case he=>(first|((repeat (first|with_reducible exact ap_nil|apply ap_cons));done)|rfl))|rfl));(case he=>(first|((repeat (first|with_reducible exact ap_nil|apply ap_cons));done)|rfl))|rfl));(case he=>(first|((repeat (first|with_reducible exact ap_nil|apply ap_cons));done)|rfl))|rfl));(case he=>(first|((repeat (first|with_reducible exact ap_nil|apply ap_cons));done)|rfl))|rfl));(case he=>(first|((repeat (first|with_reducible exact ap_nil|apply ap_cons));done)|rfl))|rfl));(case he=>(first|((repeat (first|with_reducible exact ap_nil|apply ap_cons));done)|rfl))|rfl));(case he=>(first|((repeat (first|with_reducible exact ap_nil|apply ap_cons));done)|rfl))|rfl));(case he=>(first|((repeat (first|with_reducible exact ap_nil|apply ap_cons));done)|rfl))|rfl));(case hb|hd=>rfl)|apply v_alloc;(case hz|hd=>rfl)|apply v_box;(case hx|hz|hd=>rfl)|apply v_rangeS;(case hx|hd=>rfl)|fail
 exact k.o):g:=h ⟨k⟩
theorem Wc {g A B:Prop}(k:A∧B) (h:Kp A→Kp B→g:=by
 intro kA kB
 first|apply v_cond;(case hc=>rfl)|apply v_guardB;(case h1|h2=>rfl)|fail
 focus
  first
  |(have kz:Kp True:=kA;intro h;(try simp only [reduceCtorEq,dec_true,dec_false,decide_eq_true_eq,decide_eq_false_iff_not,Bool.not_eq_true',Bool.not_eq_false',Option.isNone_iff_eq_none,beq_true,beq_false,beq_iff_eq,beq_eq_false_iff_ne,ne_eq,decide_eq_decide,Bool.not_eq_true,Bool.not_eq_false,Decidable.not_not] at h);first|done|(exfalso;omega)|(exfalso;exact h (by with_reducible assumption))|(exfalso;revert h;rw [imp_false];with_reducible assumption))
  |(intro h;(try simp only [reduceCtorEq,dec_true,dec_false,decide_eq_true_eq,decide_eq_false_iff_not,Bool.not_eq_true',Bool.not_eq_false',Option.isNone_iff_eq_none,beq_true,beq_false,beq_iff_eq,beq_eq_false_iff_ne,ne_eq,decide_eq_decide,Bool.not_eq_true,Bool.not_eq_false,Decidable.not_not] at h);revert h;exact kA.o)
  | fail
 focus
  first
  |(have kz:Kp True:=kB;intro h;(try simp only [reduceCtorEq,dec_true,dec_false,decide_eq_true_eq,decide_eq_false_iff_not,Bool.not_eq_true',Bool.not_eq_false',Option.isNone_iff_eq_none,beq_true,beq_false,beq_iff_eq,beq_eq_false_iff_ne,ne_eq,decide_eq_decide,Bool.not_eq_true,Bool.not_eq_false,Decidable.not_not] at h);first|done|(exfalso;omega)|(exfalso;exact h (by with_reducible assumption))|(exfalso;revert h;rw [imp_false];with_reducible assumption))
  |(intro h;(try simp only [reduceCtorEq,dec_true,dec_false,decide_eq_true_eq,decide_eq_false_iff_not,Bool.not_eq_true',Bool.not_eq_false',Option.isNone_iff_eq_none,beq_true,beq_false,beq_iff_eq,beq_eq_false_iff_ne,ne_eq,decide_eq_decide,Bool.not_eq_true,Bool.not_eq_false,Decidable.not_not] at h);revert h;exact kB.o)
  | fail):g:=h ⟨k.1⟩ ⟨k.2⟩
attribute [local semireducible] Vc DVc Con PureOp ReadOp MoveOp
structure Tk (i:Nat) (g' g:Prop):Prop where
 h:Kp g'→g
structure Tl (l:List Nat) (g' g:Prop):Prop where
 h:Kp g'→g
theorem tl_nil {g:Prop}:Tl [] g g:=⟨fun k=>k.o⟩
theorem tl_cons {i:Nat}{l:List Nat}{g1 g' g:Prop}(h1:Tk i g1 g) (h2:Tl l g' g1):Tl (i::l) g' g:=⟨fun k=>h1.h ⟨h2.h k⟩⟩
section
variable {P:Program}{fn:Func}{n:Nat}{B:Base}{Φ:Value→GH→OH→Prop}{k:List It}{σ:Env}{G G0:GH}{μ:OH}{all:Array Oper}{rest:List Oper}{m:Nat}{listed:Array Bool}{d:Nat}{op:Op}{ty:TypeId}{pos:String}{af:Array Edge}{v:Value}{ν:OH}{t:TypeId}{bytes:Nat}{zero:Value}
theorem tk_take {i:Nat}(hi:all[i]? = some ⟨some d,op,ty,pos,af,none⟩) (hop:ReadOp P op ty σ G0 ν v) (hf:Region.free .any all listed i=true) (hr:(Region.ready .any all listed).contains i=true) (hd:Nat.blt d n=true):Tk i (DVc P fn n B Φ all G0 ν m (listed.setIfInBounds i true) k ((d,v)::σ) G μ) (DVc P fn n B Φ all G0 ν (m+1) listed k σ G μ) :=
 ⟨fun h=>d_take i hi hf hr hop hd h.o⟩
theorem tk_takeG {i:Nat}{j:Nat}{b:Bool}(hi:all[i]? = some ⟨some d,op,ty,pos,af,some (j,b)⟩) (hg:guardVal all σ j=some b) (hop:ReadOp P op ty σ G0 ν v) (hf:Region.free .any all listed i=true) (hr:(Region.ready .any all listed).contains i=true) (hd:Nat.blt d n=true):Tk i (DVc P fn n B Φ all G0 ν m (listed.setIfInBounds i true) k ((d,v)::σ) G μ) (DVc P fn n B Φ all G0 ν (m+1) listed k σ G μ) :=
 ⟨fun h=>d_takeG i hi hg hf hr hop hd h.o⟩
theorem tk_pass {i:Nat}{j:Nat}{b c:Bool}(hi:all[i]? = some ⟨some d,op,ty,pos,af,some (j,c)⟩) (hg:guardVal all σ j=some b) (hn:(b == c)=false) (hf:Region.free .any all listed i=true) (hr:(Region.ready .any all listed).contains i=true) (hd:Nat.blt d n=true):Tk i (DVc P fn n B Φ all G0 ν m (listed.setIfInBounds i true) k ((d,undef)::σ) G μ) (DVc P fn n B Φ all G0 ν (m+1) listed k σ G μ) :=
 ⟨fun h=>d_pass i hi hg hn hf hr hd h.o⟩
theorem tk_passN {i:Nat}{j:Nat}{c:Bool}(hi:all[i]? = some ⟨some d,op,ty,pos,af,some (j,c)⟩) (hg:guardRaw all σ j=some v) (hn:notBool v=true) (hf:Region.free .any all listed i=true) (hr:(Region.ready .any all listed).contains i=true) (hd:Nat.blt d n=true):Tk i (DVc P fn n B Φ all G0 ν m (listed.setIfInBounds i true) k ((d,undef)::σ) G μ) (DVc P fn n B Φ all G0 ν (m+1) listed k σ G μ) :=
 ⟨fun h=>d_passN i hi hg hn hf hr hd h.o⟩
end
theorem Dt (l:List Nat) {g g':Prop}(k:g') (h:Tl l g' g:=by
 repeat (apply tl_cons;(case h1=>first|apply tk_take;(case hi=>rfl);(case hop=>first|apply PureOp.read;apply p_move<;>rfl|apply PureOp.read;apply p_eqs<;>rfl|apply PureOp.read;apply p_nes<;>rfl|apply PureOp.read;apply p_eqBs<;>rfl|apply PureOp.read;apply p_neBs<;>rfl|apply PureOp.read;apply p_eq<;>rfl|apply PureOp.read;apply p_lt<;>rfl|apply PureOp.read;apply p_gt<;>rfl|apply PureOp.read;apply p_ne<;>rfl|apply PureOp.read;apply p_le<;>rfl|apply PureOp.read;apply p_ge<;>rfl|apply PureOp.read;apply p_assign<;>rfl|apply PureOp.read;apply p_pickT<;>rfl|apply PureOp.read;apply p_pickF<;>rfl|apply PureOp.read;apply p_not<;>rfl|apply PureOp.read;apply p_lenSlice<;>rfl|apply PureOp.read;apply p_fieldAddrB<;>rfl|apply PureOp.read;apply p_fieldAddr<;>rfl|apply PureOp.read;apply p_nilCheck<;>rfl|apply PureOp.read;apply p_extract0<;>rfl|apply PureOp.read;apply p_extract1<;>rfl|apply PureOp.read;apply p_extract2<;>rfl|apply PureOp.read;apply p_extract<;>rfl|apply PureOp.read;apply p_add;(case hx|hy=>rfl);(case h=>omega)|apply PureOp.read;apply p_sub;(case hx|hy=>rfl);(case h=>omega)|apply PureOp.read;apply p_max<;>rfl|apply PureOp.read;apply p_min<;>rfl|apply PureOp.read;apply p_indexAddrB;(case hx|hi=>rfl);(case h0|h=>omega)|apply PureOp.read;apply p_indexAddr;(case hx|hi=>rfl);(case h0|h=>omega)|apply PureOp.read;apply p_indexAddrA;(case hx|hi=>rfl);(case h0|h=>omega)|apply PureOp.read;apply p_indexAddrS;(case hx|hi=>rfl);(case h0|h=>omega);(case hA=>first|rfl|assumption|apply_assumption;omega)|apply PureOp.read;apply p_lenString<;>rfl|apply PureOp.read;apply p_capSlice<;>rfl|apply PureOp.read;apply p_field1<;>rfl|apply PureOp.read;apply p_fieldNs;(case hx=>rfl);(case hu=>repeat first|with_reducible exact dt_nil|apply dt_here|apply dt_drop)|apply PureOp.read;apply p_makeFunc<;>rfl|apply PureOp.read;apply p_eqB<;>rfl|apply PureOp.read;apply p_neB<;>rfl|apply PureOp.read;apply p_eqNil<;>rfl|apply PureOp.read;apply p_neNil<;>rfl|apply PureOp.read;apply p_iface<;>rfl|apply PureOp.read;apply p_convS<;>rfl|apply PureOp.read;apply p_build;(case hz=>rfl);(case hv=>(simp only [List.map_cons,List.map_nil];repeat (first|with_reducible exact evs_nil|apply evs_cons;(case h1=>rfl))));(case hb=>(apply bldL;repeat (first|exact bld_nil|apply bld_cons;(case hpf|hc|hs|hl=>rfl);(case ho=>(first|((repeat (first|with_reducible exact ov_nil|apply ov_cons|apply ov_there));done)|rfl)))))|apply PureOp.read;apply p_sliceL;(case hx|hl=>rfl);all_goals omega|apply PureOp.read;apply p_sliceH;(case hx|hh=>rfl);all_goals omega|apply PureOp.read;apply p_sliceLH;(case hx|hl|hh=>rfl);all_goals omega|apply PureOp.read;apply p_slice3;(case hx|hh|hq=>rfl);all_goals omega|apply PureOp.read;apply p_convB<;>rfl|apply PureOp.read;apply p_conv64;(case hx=>rfl);(case h=>omega)|apply PureOp.read;apply p_sliceStrL;(case hx|hl=>rfl);all_goals omega|apply PureOp.read;apply p_sliceStrH;(case hx|hh=>rfl);all_goals omega|apply PureOp.read;apply p_pickAnd<;>rfl|apply PureOp.read;apply p_pickOr<;>rfl|apply PureOp.read;apply p_assertOk<;>rfl|apply PureOp.read;apply p_assertNo<;>rfl|apply PureOp.read;apply p_indexSn;(case hx|hi=>rfl);all_goals omega|apply PureOp.read;apply p_indexSb;(case hx|hi=>rfl);all_goals omega|apply PureOp.read;apply p_and64<;>rfl|apply PureOp.read;apply p_quo;(case hx|hy=>rfl);all_goals omega|apply PureOp.read;apply p_rem0;(case hx|hy=>rfl);all_goals omega|apply PureOp.read;apply p_mul;(case hx|hy=>rfl);(case h=>omega)|apply PureOp.read;apply p_eqS<;>rfl|apply PureOp.read;apply p_neS<;>rfl|apply PureOp.read;apply p_eqNilSlice<;>rfl|apply PureOp.read;apply p_neNilSlice<;>rfl|apply r_loadNo;(case hx=>rfl);(case h=>repeat first|exact List.Mem.head _|apply List.Mem.tail|apply List.mem_append_right);(case hd=>repeat first|with_reducible exact dt_nil|apply dt_here|apply dt_drop);(case hn=>rfl)|apply r_load1;rfl;(apply Cell.own;(case h=>repeat first|exact List.Mem.head _|apply List.Mem.tail|apply List.mem_append_right);rfl)|apply r_loadN;rfl;(apply CellsAt.own;(case h=>repeat first|exact List.Mem.head _|apply List.Mem.tail|apply List.mem_append_right));rfl);(case hf=>kernel_rfl);(case hr=>kernel_rfl);(case hd=>rfl)|apply tk_pass;(case hi|hg|hn=>rfl);(case hf=>kernel_rfl);(case hr=>kernel_rfl);(case hd=>rfl)|apply tk_passN;(case hi|hg|hn=>rfl);(case hf=>kernel_rfl);(case hr=>kernel_rfl);(case hd=>rfl)|apply tk_takeG;(case hi|hg=>rfl);(case hop=>first|apply PureOp.read;apply p_move<;>rfl|apply PureOp.read;apply p_eqs<;>rfl|apply PureOp.read;apply p_nes<;>rfl|apply PureOp.read;apply p_eqBs<;>rfl|apply PureOp.read;apply p_neBs<;>rfl|apply PureOp.read;apply p_eq<;>rfl|apply PureOp.read;apply p_lt<;>rfl|apply PureOp.read;apply p_gt<;>rfl|apply PureOp.read;apply p_ne<;>rfl|apply PureOp.read;apply p_le<;>rfl|apply PureOp.read;apply p_ge<;>rfl|apply PureOp.read;apply p_assign<;>rfl|apply PureOp.read;apply p_pickT<;>rfl|apply PureOp.read;apply p_pickF<;>rfl|apply PureOp.read;apply p_not<;>rfl|apply PureOp.read;apply p_lenSlice<;>rfl|apply PureOp.read;apply p_fieldAddrB<;>rfl|apply PureOp.read;apply p_fieldAddr<;>rfl|apply PureOp.read;apply p_nilCheck<;>rfl|apply PureOp.read;apply p_extract0<;>rfl|apply PureOp.read;apply p_extract1<;>rfl|apply PureOp.read;apply p_extract2<;>rfl|apply PureOp.read;apply p_extract<;>rfl|apply PureOp.read;apply p_add;(case hx|hy=>rfl);(case h=>omega)|apply PureOp.read;apply p_sub;(case hx|hy=>rfl);(case h=>omega)|apply PureOp.read;apply p_max<;>rfl|apply PureOp.read;apply p_min<;>rfl|apply PureOp.read;apply p_indexAddrB;(case hx|hi=>rfl);(case h0|h=>omega)|apply PureOp.read;apply p_indexAddr;(case hx|hi=>rfl);(case h0|h=>omega)|apply PureOp.read;apply p_indexAddrA;(case hx|hi=>rfl);(case h0|h=>omega)|apply PureOp.read;apply p_indexAddrS;(case hx|hi=>rfl);(case h0|h=>omega);(case hA=>first|rfl|assumption|apply_assumption;omega)|apply PureOp.read;apply p_lenString<;>rfl|apply PureOp.read;apply p_capSlice<;>rfl|apply PureOp.read;apply p_field1<;>rfl|apply PureOp.read;apply p_fieldNs;(case hx=>rfl);(case hu=>repeat first|with_reducible exact dt_nil|apply dt_here|apply dt_drop)|apply PureOp.read;apply p_makeFunc<;>rfl|apply PureOp.read;apply p_eqB<;>rfl|apply PureOp.read;apply p_neB<;>rfl|apply PureOp.read;apply p_eqNil<;>rfl|apply PureOp.read;apply p_neNil<;>rfl|apply PureOp.read;apply p_iface<;>rfl|apply PureOp.read;apply p_convS<;>rfl|apply PureOp.read;apply p_build;(case hz=>rfl);(case hv=>(simp only [List.map_cons,List.map_nil];repeat (first|with_reducible exact evs_nil|apply evs_cons;(case h1=>rfl))));(case hb=>(apply bldL;repeat (first|exact bld_nil|apply bld_cons;(case hpf|hc|hs|hl=>rfl);(case ho=>(first|((repeat (first|with_reducible exact ov_nil|apply ov_cons|apply ov_there));done)|rfl)))))|apply PureOp.read;apply p_sliceL;(case hx|hl=>rfl);all_goals omega|apply PureOp.read;apply p_sliceH;(case hx|hh=>rfl);all_goals omega|apply PureOp.read;apply p_sliceLH;(case hx|hl|hh=>rfl);all_goals omega|apply PureOp.read;apply p_slice3;(case hx|hh|hq=>rfl);all_goals omega|apply PureOp.read;apply p_convB<;>rfl|apply PureOp.read;apply p_conv64;(case hx=>rfl);(case h=>omega)|apply PureOp.read;apply p_sliceStrL;(case hx|hl=>rfl);all_goals omega|apply PureOp.read;apply p_sliceStrH;(case hx|hh=>rfl);all_goals omega|apply PureOp.read;apply p_pickAnd<;>rfl|apply PureOp.read;apply p_pickOr<;>rfl|apply PureOp.read;apply p_assertOk<;>rfl|apply PureOp.read;apply p_assertNo<;>rfl|apply PureOp.read;apply p_indexSn;(case hx|hi=>rfl);all_goals omega|apply PureOp.read;apply p_indexSb;(case hx|hi=>rfl);all_goals omega|apply PureOp.read;apply p_and64<;>rfl|apply PureOp.read;apply p_quo;(case hx|hy=>rfl);all_goals omega|apply PureOp.read;apply p_rem0;(case hx|hy=>rfl);all_goals omega|apply PureOp.read;apply p_mul;(case hx|hy=>rfl);(case h=>omega)|apply PureOp.read;apply p_eqS<;>rfl|apply PureOp.read;apply p_neS<;>rfl|apply PureOp.read;apply p_eqNilSlice<;>rfl|apply PureOp.read;apply p_neNilSlice<;>rfl|apply r_loadNo;(case hx=>rfl);(case h=>repeat first|exact List.Mem.head _|apply List.Mem.tail|apply List.mem_append_right);(case hd=>repeat first|with_reducible exact dt_nil|apply dt_here|apply dt_drop);(case hn=>rfl)|apply r_load1;rfl;(apply Cell.own;(case h=>repeat first|exact List.Mem.head _|apply List.Mem.tail|apply List.mem_append_right);rfl)|apply r_loadN;rfl;(apply CellsAt.own;(case h=>repeat first|exact List.Mem.head _|apply List.Mem.tail|apply List.mem_append_right));rfl);(case hf=>kernel_rfl);(case hr=>kernel_rfl);(case hd=>rfl)|fail))
 exact tl_nil):g:=h.h ⟨k⟩
section
variable {P:Program}{fn:Func}{n:Nat}{B:Base}{Φ:Value→GH→OH→Prop}{k:List It}{σ:Env}{G G0:GH}{μ:OH}{all:Array Oper}{rest:List Oper}{m:Nat}{listed:Array Bool}{d:Nat}{op:Op}{ty:TypeId}{pos:String}{af:Array Edge}{v:Value}{ν:OH}{t:TypeId}{bytes:Nat}{zero:Value}
structure Gd (i:Nat) (g:Prop):Prop where
 h:g
theorem gd_mk {i:Nat}{o:Oper}{j t:Nat}{c b:Bool}(hi:all[i]? = some o) (hgd:o.guard=some (j,c)) (h1:(all[j]?).bind (·.dst)=some t) (h2:Env.get σ t=some (.bool b)) (ht:b=true→DVc P fn n B Φ all G0 ν m listed k ((t,.bool true)::σ) G μ) (hf:b=false→DVc P fn n B Φ all G0 ν m listed k ((t,.bool false)::σ) G μ):Gd i (DVc P fn n B Φ all G0 ν m listed k σ G μ):=⟨d_guardB i hi hgd h1 h2 ht hf⟩
end
theorem Dg (i:Nat) {g A B:Prop}(k:A∧B) (h:Kp A→Kp B→Gd i g:=by
 intro kA kB
 first|apply gd_mk;(case hi|hgd|h1=>rfl);(case h2=>first|(with_reducible rfl;fail)|rfl)|fail
 focus
  first
  |(have kz:Kp True:=kA;intro h;(try simp only [reduceCtorEq,dec_true,dec_false,decide_eq_true_eq,decide_eq_false_iff_not,Bool.not_eq_true',Bool.not_eq_false',Option.isNone_iff_eq_none,beq_true,beq_false,beq_iff_eq,beq_eq_false_iff_ne,ne_eq,decide_eq_decide,Bool.not_eq_true,Bool.not_eq_false,Decidable.not_not] at h);first|done|(exfalso;omega)|(exfalso;exact h (by with_reducible assumption))|(exfalso;revert h;rw [imp_false];with_reducible assumption))
  |(intro h;(try simp only [reduceCtorEq,dec_true,dec_false,decide_eq_true_eq,decide_eq_false_iff_not,Bool.not_eq_true',Bool.not_eq_false',Option.isNone_iff_eq_none,beq_true,beq_false,beq_iff_eq,beq_eq_false_iff_ne,ne_eq,decide_eq_decide,Bool.not_eq_true,Bool.not_eq_false,Decidable.not_not] at h);revert h;exact kA.o)
  | fail
 focus
  first
  |(have kz:Kp True:=kB;intro h;(try simp only [reduceCtorEq,dec_true,dec_false,decide_eq_true_eq,decide_eq_false_iff_not,Bool.not_eq_true',Bool.not_eq_false',Option.isNone_iff_eq_none,beq_true,beq_false,beq_iff_eq,beq_eq_false_iff_ne,ne_eq,decide_eq_decide,Bool.not_eq_true,Bool.not_eq_false,Decidable.not_not] at h);first|done|(exfalso;omega)|(exfalso;exact h (by with_reducible assumption))|(exfalso;revert h;rw [imp_false];with_reducible assumption))
  |(intro h;(try simp only [reduceCtorEq,dec_true,dec_false,decide_eq_true_eq,decide_eq_false_iff_not,Bool.not_eq_true',Bool.not_eq_false',Option.isNone_iff_eq_none,beq_true,beq_false,beq_iff_eq,beq_eq_false_iff_ne,ne_eq,decide_eq_decide,Bool.not_eq_true,Bool.not_eq_false,Decidable.not_not] at h);revert h;exact kB.o)
  | fail):g:=(h ⟨k.1⟩ ⟨k.2⟩).h
section
variable {P:Program}{fn:Func}{n:Nat}{B:Base}{Φ:Value→GH→OH→Prop}{k:List It}{σ:Env}{G G0:GH}{μ:OH}{all:Array Oper}{rest:List Oper}{m:Nat}{listed:Array Bool}{d:Nat}{op:Op}{ty:TypeId}{pos:String}{af:Array Edge}{v:Value}{ν:OH}{t:TypeId}{bytes:Nat}{zero:Value}
theorem Rf {a:Addr}(hc:GH.cell? G a=some v) (k':Vc P fn n B Φ (.ops all rest::k) ((d,v)::σ) G μ) {x:Operand}{sz:Nat} [Lay P t false sz bytes zero] (hx:Env.ev σ x=some (.pointer (some a)):=by rfl) (hd:Nat.blt d n=true:=by rfl):Vc P fn n B Φ (.ops all (⟨some d,.load t x,ty,pos,af,none⟩::rest)::k) σ G μ:=v_read (r_load1 hx (Cell.frozen hc)) hd k'
theorem RN {a:Addr}{vs:List Value}(hc:CellsG G a vs) (k':Vc P fn n B Φ (.ops all rest::k) ((d,.agg vs.toArray)::σ) G μ) {x:Operand}{sz:Nat} [Lay P t true sz bytes zero] (hx:Env.ev σ x=some (.pointer (some a)):=by rfl) (hn:vs.length=sz:=by rfl) (hd:Nat.blt d n=true:=by rfl):Vc P fn n B Φ (.ops all (⟨some d,.load t x,ty,pos,af,none⟩::rest)::k) σ G μ:=v_read (r_loadN hx (CellsAt.frozen hc) hn) hd k'
theorem T1 (i:Nat) {a:Addr}(hc:GH.cell? G0 a=some v) (k':DVc P fn n B Φ all G0 ν m (listed.setIfInBounds i true) k ((d,v)::σ) G μ) {x:Operand}{sz:Nat} [Lay P t false sz bytes zero] (hi:all[i]? = some ⟨some d,.load t x,ty,pos,af,none⟩:=by rfl) (hx:Env.ev σ x=some (.pointer (some a)):=by rfl) (hf:Region.free .any all listed i=true:=by kernel_rfl) (hr:(Region.ready .any all listed).contains i=true:=by kernel_rfl) (hd:Nat.blt d n=true:=by rfl):DVc P fn n B Φ all G0 ν (m+1) listed k σ G μ:=d_take i hi hf hr (r_load1 hx (Cell.frozen hc)) hd k'
theorem TN (i:Nat) {a:Addr}{vs:List Value}(hc:CellsG G0 a vs) (k':DVc P fn n B Φ all G0 ν m (listed.setIfInBounds i true) k ((d,.agg vs.toArray)::σ) G μ) {x:Operand}{sz:Nat} [Lay P t true sz bytes zero] (hi:all[i]? = some ⟨some d,.load t x,ty,pos,af,none⟩:=by rfl) (hx:Env.ev σ x=some (.pointer (some a)):=by rfl) (hn:vs.length=sz:=by rfl) (hf:Region.free .any all listed i=true:=by kernel_rfl) (hr:(Region.ready .any all listed).contains i=true:=by kernel_rfl) (hd:Nat.blt d n=true:=by rfl):DVc P fn n B Φ all G0 ν (m+1) listed k σ G μ:=d_take i hi hf hr (r_loadN hx (CellsAt.frozen hc) hn) hd k'
theorem Tv (i:Nat) (k':DVc P fn n B Φ all G0 ν m (listed.setIfInBounds i true) k ((d,v)::σ) G μ) (hi:all[i]? = some ⟨some d,op,ty,pos,af,none⟩:=by rfl) (hop:ReadOp P op ty σ G0 ν v) (hf:Region.free .any all listed i=true:=by kernel_rfl) (hr:(Region.ready .any all listed).contains i=true:=by kernel_rfl) (hd:Nat.blt d n=true:=by rfl):DVc P fn n B Φ all G0 ν (m+1) listed k σ G μ:=d_take i hi hf hr hop hd k'
theorem T1G (i:Nat) {a:Addr}{j:Nat}{b:Bool}(hc:GH.cell? G0 a=some v) (k':DVc P fn n B Φ all G0 ν m (listed.setIfInBounds i true) k ((d,v)::σ) G μ) {x:Operand}{sz:Nat} [Lay P t false sz bytes zero] (hi:all[i]? = some ⟨some d,.load t x,ty,pos,af,some (j,b)⟩:=by rfl) (hg:guardVal all σ j=some b:=by rfl) (hx:Env.ev σ x=some (.pointer (some a)):=by rfl) (hf:Region.free .any all listed i=true:=by kernel_rfl) (hr:(Region.ready .any all listed).contains i=true:=by kernel_rfl) (hd:Nat.blt d n=true:=by rfl):DVc P fn n B Φ all G0 ν (m+1) listed k σ G μ:=d_takeG i hi hg hf hr (r_load1 hx (Cell.frozen hc)) hd k'
theorem TvG (i:Nat) {j:Nat}{b:Bool}(k':DVc P fn n B Φ all G0 ν m (listed.setIfInBounds i true) k ((d,v)::σ) G μ) (hi:all[i]? = some ⟨some d,op,ty,pos,af,some (j,b)⟩:=by rfl) (hg:guardVal all σ j=some b:=by rfl) (hop:ReadOp P op ty σ G0 ν v) (hf:Region.free .any all listed i=true:=by kernel_rfl) (hr:(Region.ready .any all listed).contains i=true:=by kernel_rfl) (hd:Nat.blt d n=true:=by rfl):DVc P fn n B Φ all G0 ν (m+1) listed k σ G μ:=d_takeG i hi hg hf hr hop hd k'
theorem cJ {f:FuncId} [Callable P f] {args:List Operand}{ts:Array TypeId}{vs:List Value}(hs:Con P f vs.toArray G [] (Just v G)) (k':Vc P fn n B Φ (.ops all rest::k) ((d,v)::σ) G μ) (ha:Env.evs σ args=some vs:=by rfl) (hd:Nat.blt d n=true:=by rfl):Vc P fn n B Φ (.ops all (⟨some d,.call { callee:=.value (.func f),args:=args.toArray,argTypes:=ts },ty,pos,af,none⟩::rest)::k) σ G μ:=v_callJ ha hs hd k'
theorem cK {f:FuncId} [Callable P f] {args:List Operand}{ts:Array TypeId}{vs:List Value}{μ1 μ2:OH}(hs:Con P f vs.toArray G μ1 (Keeps v G μ1)) (k':Vc P fn n B Φ (.ops all rest::k) ((d,v)::σ) G μ) (ha:Env.evs σ args=some vs:=by rfl) (hp:μ.Perm (μ1++μ2):=by first|exact List.Perm.refl _|exact Pick.perm (by repeat (first|exact Pick.here _|apply Pick.there|apply Pick.app))|exact PickA.perm (by repeat (first|exact PickA.last|exact PickA.here _|exact PickA.one _|apply PickA.cons|apply PickA.app))|apply perm_of_count;intro p;simp only [List.append_eq,List.countP_append,List.countP_cons,List.countP_nil,Nat.zero_add,Nat.add_zero];try ac_rfl) (hd:Nat.blt d n=true:=by rfl):Vc P fn n B Φ (.ops all (⟨some d,.call { callee:=.value (.func f),args:=args.toArray,argTypes:=ts },ty,pos,af,none⟩::rest)::k) σ G μ:=v_callK ha hs hp hd k'
theorem cQ {f:FuncId} [Callable P f] {args:List Operand}{ts:Array TypeId}{vs:List Value}{Ψ:Value→GH→OH→Prop}(ha:Env.evs σ args=some vs) (hs:Con P f vs.toArray G [] Ψ) (h:∀ v G' μ1',GH.le G G'→Ψ v G' μ1'→Vc P fn n B Φ (.ops all rest::k) ((d,v)::σ) G' (μ1'++μ)) (hd:Nat.blt d n=true:=by rfl):Vc P fn n B Φ (.ops all (⟨some d,.call { callee:=.value (.func f),args:=args.toArray,argTypes:=ts },ty,pos,af,none⟩::rest)::k) σ G μ:=v_call ha hs (List.Perm.refl _) hd h
theorem DJ (i:Nat) {f:FuncId} [Callable P f] {args:List Operand}{ts:Array TypeId}{vs:List Value}(hs:Con P f vs.toArray G [] (Just v G)) (k':DVc P fn n B Φ all G0 ν m (listed.setIfInBounds i true) k ((d,v)::σ) G μ) (hi:all[i]? = some ⟨some d,.call { callee:=.value (.func f),args:=args.toArray,argTypes:=ts },ty,pos,af,none⟩:=by rfl) (hr:Region.ready .any all listed=[i]:=by kernel_rfl) (ha:Env.evs σ args=some vs:=by rfl) (hd:Nat.blt d n=true:=by rfl):DVc P fn n B Φ all G0 ν (m+1) listed k σ G μ:=d_callJ i hi hr ha hs hd k'
theorem DJG (i:Nat) {f:FuncId} [Callable P f] {args:List Operand}{ts:Array TypeId}{vs:List Value}{j:Nat}{b:Bool}(hs:Con P f vs.toArray G [] (Just v G)) (k':DVc P fn n B Φ all G0 ν m (listed.setIfInBounds i true) k ((d,v)::σ) G μ) (hi:all[i]? = some ⟨some d,.call { callee:=.value (.func f),args:=args.toArray,argTypes:=ts },ty,pos,af,some (j,b)⟩:=by rfl) (hg:guardVal all σ j=some b:=by rfl) (hr:Region.ready .any all listed=[i]:=by kernel_rfl) (ha:Env.evs σ args=some vs:=by rfl) (hd:Nat.blt d n=true:=by rfl):DVc P fn n B Φ all G0 ν (m+1) listed k σ G μ:=d_callJG i hi hg hr ha hs hd k'
theorem Dd (k':Vc P fn n B Φ k σ G μ) (hr:Region.ready .any all listed=[]:=by kernel_rfl):DVc P fn n B Φ all G0 ν m listed k σ G μ:=d_done hr k'
theorem Dz (ν:OH) {id:Nat}{l:List Oper}(h:DVc P fn n B Φ l.toArray G ν l.length (Array.replicate l.length false) k σ G μ) (hm:P.follows .mixedOrders=true:=by kernel_rfl) (hsel:Region.noSelect l.toArray=true:=by kernel_rfl) (hnd:l.all (fun o=>noDef o.op)=true:=by kernel_rfl) (hν:∀ e∈ν,e∈μ:=by first|(intro e he;first|exact he|(cases he;done)|(simp at he;simp [he];done)|(simp only [List.mem_cons,List.not_mem_nil,or_false] at he;rcases he with rfl|rfl<;>simp;done)|(simp only [List.mem_cons,List.not_mem_nil,or_false] at he;rcases he with rfl|rfl|rfl<;>simp;done)|(refine List.forall_mem_cons.2 ?_;done)|(simp at he ⊢;try omega);done)|((repeat (first|exact List.forall_mem_nil _|(refine List.forall_mem_cons.2 (And.intro (by repeat (first|exact List.Mem.head _|apply List.Mem.tail|apply List.mem_append_right)) ?_))));done)):Vc P fn n B Φ (.code (.region id l.toArray true)::k) σ G μ:=d_start ν hm hsel hnd hν h
theorem Va {S:List Nat}{J:List Value→GH→OH→Prop}{m:List Value→Nat}{N:Nat}{vs:List Value}(hg:Env.gets σ S=some vs) (hJ:J vs G μ) (hm:m vs<N:=by (simp [headI];omega)):Vc P fn n B Φ (.again S (fun vs' w'=>(∃ G' μ',J vs' G' μ'∧Step B.G B.μ B.w G' μ' w')∧m vs'<N)::k) σ G μ:=v_again hg hJ hm
theorem Vr [hB:FnB P fn B []] {t:Nat}(h:Φ v G []) (hr:fn.results = #[.tmp t]:=by rfl) (hv:Env.get σ t=some v:=by rfl):Vc P fn n B Φ (.code .ret::k) σ G μ:=v_ret [] (outsA1 hr hv) (List.nil_sublist _) h
theorem Vy [hB:FnB P fn B []] {t:Nat}(hr:fn.results = #[.tmp t]) (hv:Env.get σ t=some v) (h:Φ v G []):Vc P fn n B Φ (.code .ret::k) σ G μ:=v_ret [] (outsA1 hr hv) (List.nil_sublist _) h
end
end Go.Vx
/-
  VX, THE CLOSED FACTS on this seat's types and functions, by program (vxgen.py).
-/
namespace Go.Proofs.YtkofafmiabmobaaGreatDoor
open Go Go.Vx
instance:Ty Tryz.prog 3 (.int .i64):=⟨by kernel_rfl⟩
instance:Lay Tryz.prog 3 false 1 8 (.int .i64 0):=⟨by kernel_rfl,by kernel_rfl⟩
instance:Lay Tryz.prog 4 false 1 1 (.bool false):=⟨by kernel_rfl,by kernel_rfl⟩
instance:Ty Tryz.prog 5 (.int .u8):=⟨by kernel_rfl⟩
instance:Ty Tryz.prog 9 (.string):=⟨by kernel_rfl⟩
instance:Lay Tryz.prog 9 false 1 16 (.string ByteArray.empty):=⟨by kernel_rfl,by kernel_rfl⟩
instance:Ty Tryz.prog 22 (.slice 3):=⟨by kernel_rfl⟩
instance:Lay Tryz.prog 22 false 1 24 (.slice none 0 0):=⟨by kernel_rfl,by kernel_rfl⟩
instance:Ty Tryz.prog 23 (.slice 41):=⟨by kernel_rfl⟩
instance:Ty Tryz.prog 29 (.slice 43):=⟨by kernel_rfl⟩
instance:Lay Tryz.prog 32 false 1 8 (.int .i64 0):=⟨by kernel_rfl,by kernel_rfl⟩
instance:Lay Tryz.prog 41 true 7 80 (.agg #[.int .i64 0,.int .i64 0,.int .i64 0,.string ByteArray.empty,.string ByteArray.empty,.string ByteArray.empty,.int .i64 0]):=⟨by kernel_rfl,by kernel_rfl⟩
instance:Fld Tryz.prog 41 0 0 3:=⟨by kernel_rfl⟩
instance:Fld Tryz.prog 41 1 1 3:=⟨by kernel_rfl⟩
instance:Fld Tryz.prog 41 2 2 3:=⟨by kernel_rfl⟩
instance:Fld Tryz.prog 41 3 3 9:=⟨by kernel_rfl⟩
instance:Fld Tryz.prog 41 4 4 9:=⟨by kernel_rfl⟩
instance:Fld Tryz.prog 41 5 5 9:=⟨by kernel_rfl⟩
instance:Fld Tryz.prog 41 6 6 3:=⟨by kernel_rfl⟩
instance:Places Tryz.prog 41 [(0,1),(1,1),(2,1),(3,1),(4,1),(5,1),(6,1)]:=⟨by kernel_rfl⟩
instance:Ty Tryz.prog 46 (.pointer 98):=⟨by kernel_rfl⟩
instance:Lay Tryz.prog 46 false 1 8 (.pointer none):=⟨by kernel_rfl,by kernel_rfl⟩
instance:Lay Tryz.prog 50 true 2 32 (.agg #[.int .i64 0,.slice none 0 0]):=⟨by kernel_rfl,by kernel_rfl⟩
instance:Fld Tryz.prog 50 0 0 3:=⟨by kernel_rfl⟩
instance:Fld Tryz.prog 50 1 1 22:=⟨by kernel_rfl⟩
instance:Places Tryz.prog 50 [(0,1),(1,1)]:=⟨by kernel_rfl⟩
instance:Ty Tryz.prog 53 (.slice 71):=⟨by kernel_rfl⟩
instance:Lay Tryz.prog 53 false 1 24 (.slice none 0 0):=⟨by kernel_rfl,by kernel_rfl⟩
instance:Ty Tryz.prog 54 (.slice 257):=⟨by kernel_rfl⟩
instance:Lay Tryz.prog 54 false 1 24 (.slice none 0 0):=⟨by kernel_rfl,by kernel_rfl⟩
instance:Ty Tryz.prog 55 (.slice 241):=⟨by kernel_rfl⟩
instance:Lay Tryz.prog 55 false 1 24 (.slice none 0 0):=⟨by kernel_rfl,by kernel_rfl⟩
instance:Lay Tryz.prog 57 true 3 56 (.agg #[.int .i64 0,.slice none 0 0,.slice none 0 0]):=⟨by kernel_rfl,by kernel_rfl⟩
instance:Fld Tryz.prog 57 0 0 3:=⟨by kernel_rfl⟩
instance:Fld Tryz.prog 57 1 1 54:=⟨by kernel_rfl⟩
instance:Fld Tryz.prog 57 2 2 55:=⟨by kernel_rfl⟩
instance:Places Tryz.prog 57 [(0,1),(1,1),(2,1)]:=⟨by kernel_rfl⟩
instance:Lay Tryz.prog 59 true 6 96 (.agg #[.int .i64 0,.int .i64 0,.slice none 0 0,.int .i64 0,.slice none 0 0,.slice none 0 0]):=⟨by kernel_rfl,by kernel_rfl⟩
instance:Fld Tryz.prog 59 0 0 3:=⟨by kernel_rfl⟩
instance:Fld Tryz.prog 59 1 1 3:=⟨by kernel_rfl⟩
instance:Fld Tryz.prog 59 2 2 53:=⟨by kernel_rfl⟩
instance:Fld Tryz.prog 59 3 3 57:=⟨by kernel_rfl⟩
instance:Places Tryz.prog 59 [(0,1),(1,1),(2,1),(3,3)]:=⟨by kernel_rfl⟩
instance:Lay Tryz.prog 66 true 6 56 (.agg #[.int .i64 0,.int .i64 0,.int .i64 0,.bool false,.string ByteArray.empty,.int .i64 0]):=⟨by kernel_rfl,by kernel_rfl⟩
instance:Fld Tryz.prog 66 0 0 3:=⟨by kernel_rfl⟩
instance:Fld Tryz.prog 66 1 1 3:=⟨by kernel_rfl⟩
instance:Fld Tryz.prog 66 2 2 32:=⟨by kernel_rfl⟩
instance:Fld Tryz.prog 66 3 3 4:=⟨by kernel_rfl⟩
instance:Fld Tryz.prog 66 4 4 9:=⟨by kernel_rfl⟩
instance:Fld Tryz.prog 66 5 5 3:=⟨by kernel_rfl⟩
instance:Places Tryz.prog 66 [(0,1),(1,1),(2,1),(3,1),(4,1),(5,1)]:=⟨by kernel_rfl⟩
instance:Lay Tryz.prog 71 true 2 32 (.agg #[.int .i64 0,.slice none 0 0]):=⟨by kernel_rfl,by kernel_rfl⟩
instance:Fld Tryz.prog 71 0 0 3:=⟨by kernel_rfl⟩
instance:Fld Tryz.prog 71 1 1 22:=⟨by kernel_rfl⟩
instance:Places Tryz.prog 71 [(0,1),(1,1)]:=⟨by kernel_rfl⟩
instance:Ty Tryz.prog 72 (.slice 66):=⟨by kernel_rfl⟩
instance:Lay Tryz.prog 89 false 1 8 (.nilFunc):=⟨by kernel_rfl,by kernel_rfl⟩
instance:Ty Tryz.prog 92 (.map 3 41):=⟨by kernel_rfl⟩
instance:Lay Tryz.prog 92 false 1 8 (.map none):=⟨by kernel_rfl,by kernel_rfl⟩
instance:Ty Tryz.prog 93 (.slice 99):=⟨by kernel_rfl⟩
instance:Lay Tryz.prog 93 false 1 24 (.slice none 0 0):=⟨by kernel_rfl,by kernel_rfl⟩
instance:Lay Tryz.prog 98 true 25 360 (.agg #[.slice none 0 0,.pointer none,.int .i64 0,.slice none 0 0,.slice none 0 0,.slice none 0 0,.slice none 0 0,.slice none 0 0,.slice none 0 0,.slice none 0 0,.slice none 0 0,.slice none 0 0,.map none,.int .i64 0,.int .i64 0,.int .i64 0,.int .i64 0,.int .i64 0,.int .i64 0,.int .i64 0,.int .i64 0,.int .i64 0,.int .i64 0,.int .i64 0,.int .i64 0]):=⟨by kernel_rfl,by kernel_rfl⟩
instance:Fld Tryz.prog 98 0 0 93:=⟨by kernel_rfl⟩
instance:Fld Tryz.prog 98 4 12 92:=⟨by kernel_rfl⟩
instance:Fld Tryz.prog 98 5 13 3:=⟨by kernel_rfl⟩
instance:Places Tryz.prog 98 [(0,1),(1,1),(2,1),(3,9),(12,1),(13,1),(14,10),(24,1)]:=⟨by kernel_rfl⟩
instance:Ty Tryz.prog 99 (.pointer 176):=⟨by kernel_rfl⟩
instance:Lay Tryz.prog 99 false 1 8 (.pointer none):=⟨by kernel_rfl,by kernel_rfl⟩
instance:Ty Tryz.prog 115 (.slice 119):=⟨by kernel_rfl⟩
instance:Lay Tryz.prog 117 false 1 8 (.nilFunc):=⟨by kernel_rfl,by kernel_rfl⟩
instance:Lay Tryz.prog 119 true 4 32 (.agg #[.int .i64 0,.int .i64 0,.nilFunc,.nilFunc]):=⟨by kernel_rfl,by kernel_rfl⟩
instance:Fld Tryz.prog 119 0 0 3:=⟨by kernel_rfl⟩
instance:Fld Tryz.prog 119 1 1 3:=⟨by kernel_rfl⟩
instance:Fld Tryz.prog 119 2 2 89:=⟨by kernel_rfl⟩
instance:Fld Tryz.prog 119 3 3 117:=⟨by kernel_rfl⟩
instance:Places Tryz.prog 119 [(0,1),(1,1),(2,1),(3,1)]:=⟨by kernel_rfl⟩
instance:Lay Tryz.prog 127 true 6 96 (.agg #[.int .i64 0,.int .i64 0,.slice none 0 0,.int .i64 0,.slice none 0 0,.slice none 0 0]):=⟨by kernel_rfl,by kernel_rfl⟩
instance:Fld Tryz.prog 127 0 0 59:=⟨by kernel_rfl⟩
instance:Places Tryz.prog 127 [(0,6)]:=⟨by kernel_rfl⟩
instance:Lay Tryz.prog 163 true 1 24 (.agg #[.slice none 0 0]):=⟨by kernel_rfl,by kernel_rfl⟩
instance:Places Tryz.prog 163 [(0,1)]:=⟨by kernel_rfl⟩
instance:Ty Tryz.prog 166 (.pointer 314):=⟨by kernel_rfl⟩
instance:Lay Tryz.prog 166 false 1 8 (.pointer none):=⟨by kernel_rfl,by kernel_rfl⟩
instance:Fld Tryz.prog 174 1 1 166:=⟨by kernel_rfl⟩
instance:Lay Tryz.prog 176 true 29 392 (.agg #[.int .i64 0,.pointer none,.pointer none,.pointer none,.pointer none,.pointer none,.int .i64 0,.int .i64 0,.slice none 0 0,.map none,.slice none 0 0,.slice none 0 0,.slice none 0 0,.int .i64 0,.int .i64 0,.int .i64 0,.int .i64 0,.slice none 0 0,.int .i64 0,.slice none 0 0,.slice none 0 0,.pointer none,.int .i64 0,.int .i64 0,.slice none 0 0,.int .i64 0,.slice none 0 0,.slice none 0 0,.int .i64 0]):=⟨by kernel_rfl,by kernel_rfl⟩
instance:Fld Tryz.prog 176 0 0 174:=⟨by kernel_rfl⟩
instance:Fld Tryz.prog 176 5 22 59:=⟨by kernel_rfl⟩
instance:Places Tryz.prog 176 [(0,13),(13,1),(14,1),(15,6),(21,1),(22,6),(28,1)]:=⟨by kernel_rfl⟩
instance:Ty Tryz.prog 192 (.pointer 3):=⟨by kernel_rfl⟩
instance:Lay Tryz.prog 192 false 1 8 (.pointer none):=⟨by kernel_rfl,by kernel_rfl⟩
instance:Ty Tryz.prog 193 (.pointer 9):=⟨by kernel_rfl⟩
instance:Lay Tryz.prog 193 false 1 8 (.pointer none):=⟨by kernel_rfl,by kernel_rfl⟩
instance:Lay Tryz.prog 235 true 2 32 (.agg #[.map none,.slice none 0 0]):=⟨by kernel_rfl,by kernel_rfl⟩
instance:Places Tryz.prog 235 [(0,1),(1,1)]:=⟨by kernel_rfl⟩
instance:Lay Tryz.prog 241 true 8 72 (.agg #[.int .i64 0,.int .i64 0,.int .i64 0,.int .i64 0,.int .i64 0,.bool false,.string ByteArray.empty,.int .i64 0]):=⟨by kernel_rfl,by kernel_rfl⟩
instance:Fld Tryz.prog 241 0 0 3:=⟨by kernel_rfl⟩
instance:Fld Tryz.prog 241 1 1 3:=⟨by kernel_rfl⟩
instance:Fld Tryz.prog 241 2 2 66:=⟨by kernel_rfl⟩
instance:Places Tryz.prog 241 [(0,1),(1,1),(2,6)]:=⟨by kernel_rfl⟩
instance:Lay Tryz.prog 250 false 1 8 (.nilFunc):=⟨by kernel_rfl,by kernel_rfl⟩
instance:Lay Tryz.prog 252 true 2 16 (.agg #[.int .i64 0,.nilFunc]):=⟨by kernel_rfl,by kernel_rfl⟩
instance:Fld Tryz.prog 252 0 0 3:=⟨by kernel_rfl⟩
instance:Fld Tryz.prog 252 1 1 250:=⟨by kernel_rfl⟩
instance:Places Tryz.prog 252 [(0,1),(1,1)]:=⟨by kernel_rfl⟩
instance:Lay Tryz.prog 257 true 3 40 (.agg #[.string ByteArray.empty,.string ByteArray.empty,.int .i64 0]):=⟨by kernel_rfl,by kernel_rfl⟩
instance:Fld Tryz.prog 257 0 0 9:=⟨by kernel_rfl⟩
instance:Fld Tryz.prog 257 1 1 9:=⟨by kernel_rfl⟩
instance:Fld Tryz.prog 257 2 2 3:=⟨by kernel_rfl⟩
instance:Places Tryz.prog 257 [(0,1),(1,1),(2,1)]:=⟨by kernel_rfl⟩
instance:Ty Tryz.prog 286 (.int .u64):=⟨by kernel_rfl⟩
instance:Callable Tryz.prog 5:=callable_of Tryz.func5 (by kernel_rfl) rfl
instance:Callable Tryz.prog 6:=callable_of Tryz.func6 (by kernel_rfl) rfl
instance:Callable Tryz.prog 7:=callable_of Tryz.func7 (by kernel_rfl) rfl
instance:Callable Tryz.prog 8:=callable_of Tryz.func8 (by kernel_rfl) rfl
instance:Callable Tryz.prog 9:=callable_of Tryz.func9 (by kernel_rfl) rfl
instance:Callable Tryz.prog 15:=callable_of Tryz.func15 (by kernel_rfl) rfl
instance:Callable Tryz.prog 17:=callable_of Tryz.func17 (by kernel_rfl) rfl
instance:Callable Tryz.prog 18:=callable_of Tryz.func18 (by kernel_rfl) rfl
instance:Callable Tryz.prog 19:=callable_of Tryz.func19 (by kernel_rfl) rfl
instance:Callable Tryz.prog 20:=callable_of Tryz.func20 (by kernel_rfl) rfl
instance:Callable Tryz.prog 21:=callable_of Tryz.func21 (by kernel_rfl) rfl
instance:Callable Tryz.prog 22:=callable_of Tryz.func22 (by kernel_rfl) rfl
instance:Callable Tryz.prog 23:=callable_of Tryz.func23 (by kernel_rfl) rfl
instance:Callable Tryz.prog 24:=callable_of Tryz.func24 (by kernel_rfl) rfl
instance:Callable Tryz.prog 25:=callable_of Tryz.func25 (by kernel_rfl) rfl
instance:Callable Tryz.prog 26:=callable_of Tryz.func26 (by kernel_rfl) rfl
instance:Callable Tryz.prog 27:=callable_of Tryz.func27 (by kernel_rfl) rfl
instance:Callable Tryz.prog 28:=callable_of Tryz.func28 (by kernel_rfl) rfl
instance:Callable Tryz.prog 37:=callable_of Tryz.func37 (by kernel_rfl) rfl
instance:Callable Tryz.prog 38:=callable_of Tryz.func38 (by kernel_rfl) rfl
instance:Callable Tryz.prog 39:=callable_of Tryz.func39 (by kernel_rfl) rfl
instance:Callable Tryz.prog 40:=callable_of Tryz.func40 (by kernel_rfl) rfl
instance:Callable Tryz.prog 41:=callable_of Tryz.func41 (by kernel_rfl) rfl
instance:Callable Tryz.prog 42:=callable_of Tryz.func42 (by kernel_rfl) rfl
instance:Callable Tryz.prog 43:=callable_of Tryz.func43 (by kernel_rfl) rfl
instance:Callable Tryz.prog 44:=callable_of Tryz.func44 (by kernel_rfl) rfl
instance:Callable Tryz.prog 45:=callable_of Tryz.func45 (by kernel_rfl) rfl
instance:Callable Tryz.prog 46:=callable_of Tryz.func46 (by kernel_rfl) rfl
instance:Callable Tryz.prog 47:=callable_of Tryz.func47 (by kernel_rfl) rfl
instance:Callable Tryz.prog 48:=callable_of Tryz.func48 (by kernel_rfl) rfl
instance:Callable Tryz.prog 49:=callable_of Tryz.func49 (by kernel_rfl) rfl
instance:Callable Tryz.prog 50:=callable_of Tryz.func50 (by kernel_rfl) rfl
instance:Callable Tryz.prog 51:=callable_of Tryz.func51 (by kernel_rfl) rfl
instance:Callable Tryz.prog 52:=callable_of Tryz.func52 (by kernel_rfl) rfl
instance:Callable Tryz.prog 53:=callable_of Tryz.func53 (by kernel_rfl) rfl
instance:Callable Tryz.prog 54:=callable_of Tryz.func54 (by kernel_rfl) rfl
instance:Callable Tryz.prog 55:=callable_of Tryz.func55 (by kernel_rfl) rfl
instance:Callable Tryz.prog 56:=callable_of Tryz.func56 (by kernel_rfl) rfl
instance:Callable Tryz.prog 57:=callable_of Tryz.func57 (by kernel_rfl) rfl
instance:Callable Tryz.prog 58:=callable_of Tryz.func58 (by kernel_rfl) rfl
instance:Callable Tryz.prog 59:=callable_of Tryz.func59 (by kernel_rfl) rfl
instance:Callable Tryz.prog 60:=callable_of Tryz.func60 (by kernel_rfl) rfl
instance:Callable Tryz.prog 61:=callable_of Tryz.func61 (by kernel_rfl) rfl
instance:Callable Tryz.prog 62:=callable_of Tryz.func62 (by kernel_rfl) rfl
instance:Callable Tryz.prog 63:=callable_of Tryz.func63 (by kernel_rfl) rfl
instance:Callable Tryz.prog 64:=callable_of Tryz.func64 (by kernel_rfl) rfl
instance:Callable Tryz.prog 65:=callable_of Tryz.func65 (by kernel_rfl) rfl
instance:Callable Tryz.prog 66:=callable_of Tryz.func66 (by kernel_rfl) rfl
instance:Callable Tryz.prog 67:=callable_of Tryz.func67 (by kernel_rfl) rfl
instance:Callable Tryz.prog 72:=callable_of Tryz.func72 (by kernel_rfl) rfl
instance:Callable Tryz.prog 79:=callable_of Tryz.func79 (by kernel_rfl) rfl
instance:Callable Tryz.prog 94:=callable_of Tryz.func94 (by kernel_rfl) rfl
instance:Callable Tryz.prog 95:=callable_of Tryz.func95 (by kernel_rfl) rfl
instance:Callable Tryz.prog 96:=callable_of Tryz.func96 (by kernel_rfl) rfl
instance:Callable Tryz.prog 97:=callable_of Tryz.func97 (by kernel_rfl) rfl
instance:Callable Tryz.prog 98:=callable_of Tryz.func98 (by kernel_rfl) rfl
instance:Callable Tryz.prog 99:=callable_of Tryz.func99 (by kernel_rfl) rfl
instance:Callable Tryz.prog 100:=callable_of Tryz.func100 (by kernel_rfl) rfl
instance:Callable Tryz.prog 101:=callable_of Tryz.func101 (by kernel_rfl) rfl
instance:Callable Tryz.prog 108:=callable_of Tryz.func108 (by kernel_rfl) rfl
instance:Callable Tryz.prog 110:=callable_of Tryz.func110 (by kernel_rfl) rfl
instance:Callable Tryz.prog 111:=callable_of Tryz.func111 (by kernel_rfl) rfl
instance:Callable Tryz.prog 112:=callable_of Tryz.func112 (by kernel_rfl) rfl
instance:Callable Tryz.prog 113:=callable_of Tryz.func113 (by kernel_rfl) rfl
instance:Callable Tryz.prog 114:=callable_of Tryz.func114 (by kernel_rfl) rfl
instance:Callable Tryz.prog 115:=callable_of Tryz.func115 (by kernel_rfl) rfl
instance:Callable Tryz.prog 116:=callable_of Tryz.func116 (by kernel_rfl) rfl
instance:Callable Tryz.prog 117:=callable_of Tryz.func117 (by kernel_rfl) rfl
instance:Callable Tryz.prog 118:=callable_of Tryz.func118 (by kernel_rfl) rfl
instance:Callable Tryz.prog 119:=callable_of Tryz.func119 (by kernel_rfl) rfl
instance:Callable Tryz.prog 120:=callable_of Tryz.func120 (by kernel_rfl) rfl
instance:Callable Tryz.prog 121:=callable_of Tryz.func121 (by kernel_rfl) rfl
instance:Callable Tryz.prog 122:=callable_of Tryz.func122 (by kernel_rfl) rfl
instance:Callable Tryz.prog 123:=callable_of Tryz.func123 (by kernel_rfl) rfl
instance:Callable Tryz.prog 127:=callable_of Tryz.func127 (by kernel_rfl) rfl
instance:Callable Tryz.prog 128:=callable_of Tryz.func128 (by kernel_rfl) rfl
instance:Callable Tryz.prog 129:=callable_of Tryz.func129 (by kernel_rfl) rfl
instance:Callable Tryz.prog 130:=callable_of Tryz.func130 (by kernel_rfl) rfl
instance:Callable Tryz.prog 131:=callable_of Tryz.func131 (by kernel_rfl) rfl
instance:Callable Tryz.prog 132:=callable_of Tryz.func132 (by kernel_rfl) rfl
instance:Callable Tryz.prog 133:=callable_of Tryz.func133 (by kernel_rfl) rfl
instance:Callable Tryz.prog 136:=callable_of Tryz.func136 (by kernel_rfl) rfl
instance:Callable Tryz.prog 137:=callable_of Tryz.func137 (by kernel_rfl) rfl
instance:Callable Tryz.prog 145:=callable_of Tryz.func145 (by kernel_rfl) rfl
instance:Callable Tryz.prog 146:=callable_of Tryz.func146 (by kernel_rfl) rfl
instance:Callable Tryz.prog 147:=callable_of Tryz.func147 (by kernel_rfl) rfl
instance:Callable Tryz.prog 162:=callable_of Tryz.func162 (by kernel_rfl) rfl
instance:Callable Tryz.prog 163:=callable_of Tryz.func163 (by kernel_rfl) rfl
instance:Callable Tryz.prog 164:=callable_of Tryz.func164 (by kernel_rfl) rfl
instance:Callable Tryz.prog 165:=callable_of Tryz.func165 (by kernel_rfl) rfl
instance:Callable Tryz.prog 166:=callable_of Tryz.func166 (by kernel_rfl) rfl
instance:Callable Tryz.prog 167:=callable_of Tryz.func167 (by kernel_rfl) rfl
instance:Callable Tryz.prog 168:=callable_of Tryz.func168 (by kernel_rfl) rfl
instance:Callable Tryz.prog 169:=callable_of Tryz.func169 (by kernel_rfl) rfl
instance:Callable Tryz.prog 170:=callable_of Tryz.func170 (by kernel_rfl) rfl
instance:Callable Tryz.prog 171:=callable_of Tryz.func171 (by kernel_rfl) rfl
instance:Callable Tryz.prog 172:=callable_of Tryz.func172 (by kernel_rfl) rfl
instance:Callable Tryz.prog 173:=callable_of Tryz.func173 (by kernel_rfl) rfl
instance:Callable Tryz.prog 174:=callable_of Tryz.func174 (by kernel_rfl) rfl
instance:Callable Tryz.prog 175:=callable_of Tryz.func175 (by kernel_rfl) rfl
instance:Callable Tryz.prog 176:=callable_of Tryz.func176 (by kernel_rfl) rfl
instance:Callable Tryz.prog 177:=callable_of Tryz.func177 (by kernel_rfl) rfl
instance:Callable Tryz.prog 178:=callable_of Tryz.func178 (by kernel_rfl) rfl
instance:Callable Tryz.prog 179:=callable_of Tryz.func179 (by kernel_rfl) rfl
instance:Callable Tryz.prog 180:=callable_of Tryz.func180 (by kernel_rfl) rfl
instance:Callable Tryz.prog 181:=callable_of Tryz.func181 (by kernel_rfl) rfl
instance:Callable Tryz.prog 190:=callable_of Tryz.func190 (by kernel_rfl) rfl
instance:Callable Tryz.prog 192:=callable_of Tryz.func192 (by kernel_rfl) rfl
instance:Callable Tryz.prog 195:=callable_of Tryz.func195 (by kernel_rfl) rfl
instance:Callable Tryz.prog 196:=callable_of Tryz.func196 (by kernel_rfl) rfl
instance:Callable Tryz.prog 197:=callable_of Tryz.func197 (by kernel_rfl) rfl
instance:Callable Tryz.prog 198:=callable_of Tryz.func198 (by kernel_rfl) rfl
instance:Callable Tryz.prog 211:=callable_of Tryz.func211 (by kernel_rfl) rfl
instance:Callable Tryz.prog 212:=callable_of Tryz.func212 (by kernel_rfl) rfl
instance:Callable Tryz.prog 213:=callable_of Tryz.func213 (by kernel_rfl) rfl
instance:Callable Tryz.prog 214:=callable_of Tryz.func214 (by kernel_rfl) rfl
instance:Callable Tryz.prog 215:=callable_of Tryz.func215 (by kernel_rfl) rfl
instance:Callable Tryz.prog 216:=callable_of Tryz.func216 (by kernel_rfl) rfl
instance:Callable Tryz.prog 217:=callable_of Tryz.func217 (by kernel_rfl) rfl
instance:Callable Tryz.prog 218:=callable_of Tryz.func218 (by kernel_rfl) rfl
instance:Callable Tryz.prog 219:=callable_of Tryz.func219 (by kernel_rfl) rfl
instance:Callable Tryz.prog 220:=callable_of Tryz.func220 (by kernel_rfl) rfl
instance:Callable Tryz.prog 221:=callable_of Tryz.func221 (by kernel_rfl) rfl
instance:Callable Tryz.prog 222:=callable_of Tryz.func222 (by kernel_rfl) rfl
instance:Callable Tryz.prog 223:=callable_of Tryz.func223 (by kernel_rfl) rfl
instance:Callable Tryz.prog 224:=callable_of Tryz.func224 (by kernel_rfl) rfl
instance:Callable Tryz.prog 225:=callable_of Tryz.func225 (by kernel_rfl) rfl
instance:Callable Tryz.prog 226:=callable_of Tryz.func226 (by kernel_rfl) rfl
instance:Callable Tryz.prog 239:=callable_of Tryz.func239 (by kernel_rfl) rfl
instance:Callable Tryz.prog 242:=callable_of Tryz.func242 (by kernel_rfl) rfl
instance:Callable Tryz.prog 250:=callable_of Tryz.func250 (by kernel_rfl) rfl
instance:Callable Tryz.prog 251:=callable_of Tryz.func251 (by kernel_rfl) rfl
instance:Callable Tryz.prog 252:=callable_of Tryz.func252 (by kernel_rfl) rfl
instance:Callable Tryz.prog 253:=callable_of Tryz.func253 (by kernel_rfl) rfl
instance:Callable Tryz.prog 254:=callable_of Tryz.func254 (by kernel_rfl) rfl
instance:Callable Tryz.prog 255:=callable_of Tryz.func255 (by kernel_rfl) rfl
instance:Callable Tryz.prog 256:=callable_of Tryz.func256 (by kernel_rfl) rfl
instance:Callable Tryz.prog 257:=callable_of Tryz.func257 (by kernel_rfl) rfl
instance:Callable Tryz.prog 258:=callable_of Tryz.func258 (by kernel_rfl) rfl
instance:Callable Tryz.prog 259:=callable_of Tryz.func259 (by kernel_rfl) rfl
instance:Callable Tryz.prog 260:=callable_of Tryz.func260 (by kernel_rfl) rfl
instance:Callable Tryz.prog 261:=callable_of Tryz.func261 (by kernel_rfl) rfl
instance:Callable Tryz.prog 262:=callable_of Tryz.func262 (by kernel_rfl) rfl
instance:Callable Tryz.prog 297:=callable_of Tryz.func297 (by kernel_rfl) rfl
instance:Callable Tryz.prog 298:=callable_of Tryz.func298 (by kernel_rfl) rfl
instance:Callable Tryz.prog 299:=callable_of Tryz.func299 (by kernel_rfl) rfl
instance:Callable Tryz.prog 300:=callable_of Tryz.func300 (by kernel_rfl) rfl
instance:Callable Tryz.prog 301:=callable_of Tryz.func301 (by kernel_rfl) rfl
instance:Callable Tryz.prog 327:=callable_of Tryz.func327 (by kernel_rfl) rfl
instance:Callable Tryz.prog 328:=callable_of Tryz.func328 (by kernel_rfl) rfl
instance:Callable Tryz.prog 329:=callable_of Tryz.func329 (by kernel_rfl) rfl
end Go.Proofs.YtkofafmiabmobaaGreatDoor
/-
  Texts (layer 5), the first part: runes, in plain Lean: the model's decoder, and the reference's.
-/
namespace Go.Proofs.YtkofafmiabmobaaGreatDoor
open Go.Vx Go.ChangeShapes Go.WideShapes Go.ChangeAt Go.RowKit
def acc (s:ByteArray) (i v:Nat):Nat→Nat
 | 0=>v
 | k+1=>64*acc s i v k+byt s (i+(k+1))-128
def contB (s:ByteArray) (i:Nat):Nat→Bool
 | 0=>true
 | k+1=>contB s i k && (decide (128≤byt s (i+(k+1))) && decide (byt s (i+(k+1))≤191))
def szFin (s:ByteArray) (i m low v:Nat):Nat×Nat :=
 if s.size<i+(m+1) then (0,0) else if contB s i m=false then (0,0)
 else if acc s i v m<low∨1114111<acc s i v m∨(55296≤acc s i v m∧acc s i v m≤57343) then (0,0) else (m+1,acc s i v m)
theorem szFin_short {s:ByteArray}{i m low v:Nat}(h:s.size<i+(m+1)):szFin s i m low v=(0,0):=by unfold szFin;rw [if_pos h]
theorem szFin_cont {s:ByteArray}{i m low v:Nat}(h:contB s i m=false):szFin s i m low v=(0,0):=by
 unfold szFin
 rw [if_pos h]
 split<;>rfl
theorem szFin_low {s:ByteArray}{i m low v:Nat}(h:acc s i v m<low∨1114111<acc s i v m∨(55296≤acc s i v m∧acc s i v m≤57343)):szFin s i m low v=(0,0):=by
 unfold szFin
 rw [if_pos h]
 split
 ·rfl
 ·split<;>rfl
theorem szFin_ok {s:ByteArray}{i m low v:Nat}(h0:¬ s.size<i+(m+1)) (h1:contB s i m=true) (h:¬ (acc s i v m<low∨1114111<acc s i v m∨(55296≤acc s i v m∧acc s i v m≤57343))):szFin s i m low v=(m+1,acc s i v m):=by
 unfold szFin
 rw [if_neg h0,if_neg (by rw [h1];simp),if_neg h]
theorem acc1 (s:ByteArray) (i v:Nat):acc s i v 1=64*v+byt s (i+1)-128:=rfl
theorem acc2 (s:ByteArray) (i v:Nat):acc s i v 2=64*(64*v+byt s (i+1)-128)+byt s (i+2)-128:=rfl
theorem acc3 (s:ByteArray) (i v:Nat):acc s i v 3=64*(64*(64*v+byt s (i+1)-128)+byt s (i+2)-128)+byt s (i+3)-128:=rfl
theorem cont1 {s:ByteArray}{i:Nat}:contB s i 1=true↔(128≤byt s (i+1)∧byt s (i+1)≤191):=by
 show (contB s i 0 && (decide (128≤byt s (i+1)) && decide (byt s (i+1)≤191)))=true↔_
 simp [contB]
theorem cont2 {s:ByteArray}{i:Nat}:contB s i 2=true↔(128≤byt s (i+1)∧byt s (i+1)≤191)∧(128≤byt s (i+2)∧byt s (i+2)≤191):=by
 show (contB s i 1 && (decide (128≤byt s (i+2)) && decide (byt s (i+2)≤191)))=true↔_
 rw [Bool.and_eq_true,cont1];simp
theorem cont3 {s:ByteArray}{i:Nat}:contB s i 3=true↔((128≤byt s (i+1)∧byt s (i+1)≤191)∧(128≤byt s (i+2)∧byt s (i+2)≤191))∧(128≤byt s (i+3)∧byt s (i+3)≤191):=by
 show (contB s i 2 && (decide (128≤byt s (i+3)) && decide (byt s (i+3)≤191)))=true↔_
 rw [Bool.and_eq_true,cont2];simp
def szR (s:ByteArray) (i:Nat):Nat×Nat :=
 if byt s i<128 then (1,byt s i)
 else if 194≤byt s i∧byt s i≤223 then szFin s i 1 128 (byt s i-192)
 else if 224≤byt s i∧byt s i≤239 then szFin s i 2 2048 (byt s i-224)
 else if 240≤byt s i∧byt s i≤244 then szFin s i 3 65536 (byt s i-240)
 else (0,0)
theorem decode_byt (s:ByteArray) (i:Nat):Utf8.decode s i =
 (if byt s i<0x80 then (byt s i,1)
 else if byt s i / 32=6∧(i+1<s.size∧byt s (i+1) / 64=2) then
  (if (byt s i % 32)*64+byt s (i+1) % 64≥0x80 then ((byt s i % 32)*64+byt s (i+1) % 64,2) else (65533,1))
 else if byt s i / 16=14∧(i+1<s.size∧byt s (i+1) / 64=2)∧(i+2<s.size∧byt s (i+2) / 64=2) then
  (if (byt s i % 16)*4096+(byt s (i+1) % 64)*64+byt s (i+2) % 64≥0x800∧Utf8.valid ((byt s i % 16)*4096+(byt s (i+1) % 64)*64+byt s (i+2) % 64:Nat)=true then ((byt s i % 16)*4096+(byt s (i+1) % 64)*64+byt s (i+2) % 64,3) else (65533,1))
 else if byt s i / 8=30∧(i+1<s.size∧byt s (i+1) / 64=2)∧(i+2<s.size∧byt s (i+2) / 64=2)∧(i+3<s.size∧byt s (i+3) / 64=2) then
  (if (byt s i % 8)*262144+(byt s (i+1) % 64)*4096+(byt s (i+2) % 64)*64+byt s (i+3) % 64≥0x10000∧Utf8.valid ((byt s i % 8)*262144+(byt s (i+1) % 64)*4096+(byt s (i+2) % 64)*64+byt s (i+3) % 64:Nat)=true then ((byt s i % 8)*262144+(byt s (i+1) % 64)*4096+(byt s (i+2) % 64)*64+byt s (i+3) % 64,4) else (65533,1))
 else (65533,1)):=by
 unfold Utf8.decode byt
 simp only [Nat.add_zero,Bool.and_eq_true,decide_eq_true_eq,beq_iff_eq,Utf8.runeError,and_assoc]
theorem valid_iff (c:Nat):Utf8.valid (c:Nat)=true↔c<55296∨(57344≤c∧c≤1114111):=by
 unfold Utf8.valid
 simp only [Bool.or_eq_true,Bool.and_eq_true,decide_eq_true_eq]
 omega
theorem decode_of_sz (s:ByteArray) (i:Nat) (h:i<s.size):Utf8.decode s i=(if (szR s i).1=0 then (65533,1) else ((szR s i).2,(szR s i).1)):=by
 have h0:=byt_lt s i
 have h1:=byt_lt s (i+1)
 have h2:=byt_lt s (i+2)
 have h3:=byt_lt s (i+3)
 rw [decode_byt]
 unfold szR
 by_cases c0:byt s i<128
 ·rw [if_pos c0,if_pos c0];rfl
 rw [if_neg c0,if_neg c0]
 by_cases c1:194≤byt s i∧byt s i≤223
 ·rw [if_pos c1]
  by_cases z:s.size<i+(1+1)
  ·rw [szFin_short z,if_neg (show ¬ (byt s i / 32=6∧(i+1<s.size∧byt s (i+1) / 64=2)) by omega),if_neg (show ¬ (byt s i / 16=14∧(i+1<s.size∧byt s (i+1) / 64=2)∧(i+2<s.size∧byt s (i+2) / 64=2)) by omega),if_neg (show ¬ (byt s i / 8=30∧(i+1<s.size∧byt s (i+1) / 64=2)∧(i+2<s.size∧byt s (i+2) / 64=2)∧(i+3<s.size∧byt s (i+3) / 64=2)) by omega)];rfl
  by_cases d1:contB s i 1=true
  ·have d2:=cont1.1 d1
   have ea:acc s i (byt s i-192) 1=(byt s i % 32)*64+byt s (i+1) % 64:=by rw [acc1];omega
   rw [if_pos (show byt s i / 32=6∧(i+1<s.size∧byt s (i+1) / 64=2) by omega)]
   rw [if_pos (show (byt s i % 32)*64+byt s (i+1) % 64≥0x80 by omega),szFin_ok z d1 (by omega),ea];rfl
  ·have d2:=mt cont1.2 d1
   rw [szFin_cont (by simpa using d1),if_neg (show ¬ (byt s i / 32=6∧(i+1<s.size∧byt s (i+1) / 64=2)) by omega),if_neg (show ¬ (byt s i / 16=14∧(i+1<s.size∧byt s (i+1) / 64=2)∧(i+2<s.size∧byt s (i+2) / 64=2)) by omega),if_neg (show ¬ (byt s i / 8=30∧(i+1<s.size∧byt s (i+1) / 64=2)∧(i+2<s.size∧byt s (i+2) / 64=2)∧(i+3<s.size∧byt s (i+3) / 64=2)) by omega)];rfl
 rw [if_neg c1]
 by_cases c2:224≤byt s i∧byt s i≤239
 ·rw [if_pos c2,if_neg (show ¬ (byt s i / 32=6∧(i+1<s.size∧byt s (i+1) / 64=2)) by omega)]
  by_cases z:s.size<i+(2+1)
  ·rw [szFin_short z,if_neg (show ¬ (byt s i / 16=14∧(i+1<s.size∧byt s (i+1) / 64=2)∧(i+2<s.size∧byt s (i+2) / 64=2)) by omega),if_neg (show ¬ (byt s i / 8=30∧(i+1<s.size∧byt s (i+1) / 64=2)∧(i+2<s.size∧byt s (i+2) / 64=2)∧(i+3<s.size∧byt s (i+3) / 64=2)) by omega)];rfl
  by_cases d1:contB s i 2=true
  ·have d2:=cont2.1 d1
   have ea:acc s i (byt s i-224) 2=(byt s i % 16)*4096+(byt s (i+1) % 64)*64+byt s (i+2) % 64:=by rw [acc2];omega
   rw [if_pos (show byt s i / 16=14∧(i+1<s.size∧byt s (i+1) / 64=2)∧(i+2<s.size∧byt s (i+2) / 64=2) by omega)]
   have hvv:=valid_iff ((byt s i % 16)*4096+(byt s (i+1) % 64)*64+byt s (i+2) % 64)
   by_cases hv:acc s i (byt s i-224) 2<2048∨1114111<acc s i (byt s i-224) 2∨(55296≤acc s i (byt s i-224) 2∧acc s i (byt s i-224) 2≤57343)
   ·rw [szFin_low hv,if_neg (fun h=>by have:=hvv.1 h.2;omega)];rfl
   ·rw [szFin_ok z d1 hv,if_pos ⟨by omega,hvv.2 (by omega)⟩,ea];rfl
  ·have d2:=mt cont2.2 d1
   rw [szFin_cont (by simpa using d1),if_neg (show ¬ (byt s i / 16=14∧(i+1<s.size∧byt s (i+1) / 64=2)∧(i+2<s.size∧byt s (i+2) / 64=2)) by omega),if_neg (show ¬ (byt s i / 8=30∧(i+1<s.size∧byt s (i+1) / 64=2)∧(i+2<s.size∧byt s (i+2) / 64=2)∧(i+3<s.size∧byt s (i+3) / 64=2)) by omega)];rfl
 rw [if_neg c2]
 by_cases c3:240≤byt s i∧byt s i≤244
 ·rw [if_pos c3,if_neg (show ¬ (byt s i / 32=6∧(i+1<s.size∧byt s (i+1) / 64=2)) by omega),if_neg (show ¬ (byt s i / 16=14∧(i+1<s.size∧byt s (i+1) / 64=2)∧(i+2<s.size∧byt s (i+2) / 64=2)) by omega)]
  by_cases z:s.size<i+(3+1)
  ·rw [szFin_short z,if_neg (show ¬ (byt s i / 8=30∧(i+1<s.size∧byt s (i+1) / 64=2)∧(i+2<s.size∧byt s (i+2) / 64=2)∧(i+3<s.size∧byt s (i+3) / 64=2)) by omega)];rfl
  by_cases d1:contB s i 3=true
  ·have d2:=cont3.1 d1
   have ea:acc s i (byt s i-240) 3=(byt s i % 8)*262144+(byt s (i+1) % 64)*4096+(byt s (i+2) % 64)*64+byt s (i+3) % 64:=by rw [acc3];omega
   rw [if_pos (show byt s i / 8=30∧(i+1<s.size∧byt s (i+1) / 64=2)∧(i+2<s.size∧byt s (i+2) / 64=2)∧(i+3<s.size∧byt s (i+3) / 64=2) by omega)]
   have hvv:=valid_iff ((byt s i % 8)*262144+(byt s (i+1) % 64)*4096+(byt s (i+2) % 64)*64+byt s (i+3) % 64)
   by_cases hv:acc s i (byt s i-240) 3<65536∨1114111<acc s i (byt s i-240) 3∨(55296≤acc s i (byt s i-240) 3∧acc s i (byt s i-240) 3≤57343)
   ·rw [szFin_low hv,if_neg (fun h=>by have:=hvv.1 h.2;omega)];rfl
   ·rw [szFin_ok z d1 hv,if_pos ⟨by omega,hvv.2 (by omega)⟩,ea];rfl
  ·have d2:=mt cont3.2 d1
   rw [szFin_cont (by simpa using d1),if_neg (show ¬ (byt s i / 8=30∧(i+1<s.size∧byt s (i+1) / 64=2)∧(i+2<s.size∧byt s (i+2) / 64=2)∧(i+3<s.size∧byt s (i+3) / 64=2)) by omega)];rfl
 rw [if_neg c3]
 by_cases y1:byt s i / 32=6∧(i+1<s.size∧byt s (i+1) / 64=2)
 ·rw [if_pos y1,if_neg (show ¬ ((byt s i % 32)*64+byt s (i+1) % 64≥0x80) by omega)];rfl
 rw [if_neg y1,if_neg (show ¬ (byt s i / 16=14∧(i+1<s.size∧byt s (i+1) / 64=2)∧(i+2<s.size∧byt s (i+2) / 64=2)) by omega)]
 by_cases y3:byt s i / 8=30∧(i+1<s.size∧byt s (i+1) / 64=2)∧(i+2<s.size∧byt s (i+2) / 64=2)∧(i+3<s.size∧byt s (i+3) / 64=2)
 ·have hvv:=valid_iff ((byt s i % 8)*262144+(byt s (i+1) % 64)*4096+(byt s (i+2) % 64)*64+byt s (i+3) % 64)
  rw [if_pos y3,if_neg (fun h=>by have:=hvv.1 h.2;omega)];rfl
 ·rw [if_neg y3];rfl
def szV (s:ByteArray) (i:Nat):Value:=.tuple [.int .i64 ((szR s i).1:Int),.int .i64 ((szR s i).2:Int)].toArray
theorem szV_of {s:ByteArray}{i a b:Nat}(h:szR s i=(a,b)) {x y:Int}(hx:x=a) (hy:y=b):Value.tuple #[.int .i64 x,.int .i64 y]=szV s i:=by
 unfold szV;rw [h,hx,hy]
theorem acc_lt (s:ByteArray) (i v:Nat) (hv:v<256):∀ k,k≤3→acc s i v k<256*128 ^ k
 | 0,_=>by
  show v<256*128 ^ 0
  omega
 | k+1,hk=>by
  have ih:=acc_lt s i v hv k (by omega)
  have h1:=byt_lt s (i+(k+1))
  have h2:(128:Nat) ^ (k+1)=128*128 ^ k:=by rw [Nat.pow_succ,Nat.mul_comm]
  have h3:0<(128:Nat) ^ k:=Nat.pos_of_ne_zero (by simp)
  have h4:acc s i v (k+1)=64*acc s i v k+byt s (i+(k+1))-128:=rfl
  omega
theorem acc_lt3 (s:ByteArray) (i v:Nat) (hv:v<256) (k:Nat) (hk:k≤3):acc s i v k<536870912:=by
 have:=acc_lt s i v hv k hk
 have h2:(128:Nat) ^ k≤128 ^ 3:=Nat.pow_le_pow_right (by omega) hk
 have h3:(128:Nat) ^ 3=2097152:=by decide
 omega
theorem contB_mono {s:ByteArray}{i m:Nat}(h:contB s i m=true):∀ {k},k≤m→contB s i k=true:=by
 induction m with
 | zero =>
  intro k hk
  have e:k=0:=by omega
  rw [e];exact h
 | succ m ih =>
  intro k hk
  by_cases e:k=m+1
  ·subst e;exact h
  ·refine ih ?_ (by omega)
   have h2:(contB s i m && (decide (128≤byt s (i+(m+1))) && decide (byt s (i+(m+1))≤191)))=true:=h
   rw [Bool.and_eq_true] at h2
   exact h2.1
theorem size_s {G:GH}{s:ByteArray}{i:Nat}(hi:i<s.size) (hs:s.size≤1000000):Con Tryz.prog 94 #[.string s,.int .i64 (i:Int)] G [] (Just (szV s i) G):=by
 have b0:=byt_lt s i
 have ei:((i:Nat):Int).toNat=i:=Int.toNat_natCast i
 (refine v_enter Tryz.func94 rfl Tryz.ntmps94 rfl ?_;intro B _)
 repeat' (first|refine Wa ?_|(refine Wc ⟨?_,?_⟩<;>first|exact True.intro|intro h)|fail)
 all_goals try
  (refine v_ret [] (outsA2 rfl rfl rfl) sS ?_
   refine ⟨szV_of (a:=1) (b:=byt s i) ?_ rfl rfl,rfl,rfl⟩
   unfold szR
   rw [if_pos (by omega)])
 all_goals try
  (refine v_ret [] (outsA2 rfl rfl rfl) sS ?_
   refine ⟨szV_of (a:=0) (b:=0) ?_ rfl rfl,rfl,rfl⟩
   unfold szR
   first
    | rw [if_neg (show ¬ byt s i<128 by omega),if_pos (show 194≤byt s i∧byt s i≤223 by omega),szFin_short (by omega)]
    | rw [if_neg (show ¬ byt s i<128 by omega),if_neg (show ¬ (194≤byt s i∧byt s i≤223) by omega),if_pos (show 224≤byt s i∧byt s i≤239 by omega),szFin_short (by omega)]
    | rw [if_neg (show ¬ byt s i<128 by omega),if_neg (show ¬ (194≤byt s i∧byt s i≤223) by omega),if_neg (show ¬ (224≤byt s i∧byt s i≤239) by omega),if_pos (show 240≤byt s i∧byt s i≤244 by omega),szFin_short (by omega)]
    | rw [if_neg (show ¬ byt s i<128 by omega),if_neg (show ¬ (194≤byt s i∧byt s i≤223) by omega),if_neg (show ¬ (224≤byt s i∧byt s i≤239) by omega),if_neg (show ¬ (240≤byt s i∧byt s i≤244) by omega)])
 all_goals
  (refine v_loop [10,9,7,8,0,1] (fun us G' μ'=>G'=G∧μ'=[]∧∃ (k m low v:Nat) (x N L:Int),us=[Value.int .i64 ((k:Int)+1),.int .i64 x,.int .i64 N,.int .i64 L,.string s,.int .i64 (i:Int)]∧N=(m:Int)+1∧L=low∧x=(acc s i v k:Nat)∧k≤m∧m≤3∧v<256∧i+(m+1)≤s.size∧contB s i k=true∧szR s i=szFin s i m low v) (fun us=>5-(headI us).toNat) rfl ?_ ?_
   ·refine ⟨rfl,rfl,?_⟩
    first
     | exact ⟨0,1,128,byt s i-192,_,_,_,rfl,rfl,rfl,by show _=((byt s i-192:Nat):Int);omega,by omega,by omega,by omega,by omega,rfl,by unfold szR;rw [if_neg (show ¬ byt s i<128 by omega),if_pos (show 194≤byt s i∧byt s i≤223 by omega)]⟩
     | exact ⟨0,2,2048,byt s i-224,_,_,_,rfl,rfl,rfl,by show _=((byt s i-224:Nat):Int);omega,by omega,by omega,by omega,by omega,rfl,by unfold szR;rw [if_neg (show ¬ byt s i<128 by omega),if_neg (show ¬ (194≤byt s i∧byt s i≤223) by omega),if_pos (show 224≤byt s i∧byt s i≤239 by omega)]⟩
     | exact ⟨0,3,65536,byt s i-240,_,_,_,rfl,rfl,rfl,by show _=((byt s i-240:Nat):Int);omega,by omega,by omega,by omega,by omega,rfl,by unfold szR;rw [if_neg (show ¬ byt s i<128 by omega),if_neg (show ¬ (194≤byt s i∧byt s i≤223) by omega),if_neg (show ¬ (224≤byt s i∧byt s i≤239) by omega),if_pos (show 240≤byt s i∧byt s i≤244 by omega)]⟩
   rintro us G' μ' ⟨rfl,rfl,k,m,low,v,x,N,L,rfl,rfl,rfl,rfl,hk,hm,hv,him,hcb,hsz⟩
   have ha:=acc_lt3 s i v hv k (by omega)
   have bk:=byt_lt s (i+(k+1))
   have ek:((i:Int)+((k:Int)+1)).toNat=i+(k+1):=by omega
   have hacc:acc s i v (k+1)=64*acc s i v k+byt s (i+(k+1))-128:=rfl
   have hcon:contB s i (k+1)=(contB s i k && (decide (128≤byt s (i+(k+1))) && decide (byt s (i+(k+1))≤191))):=rfl
   repeat' (first|apply v_pure;(case hop=>(apply p_indexSb;(case hx|hi=>rfl);all_goals omega));(case hd=>rfl);rw [ek]|refine Wa ?_|(refine Wc ⟨?_,?_⟩<;>first|exact True.intro|intro h)|fail)
   all_goals try
    (refine v_ret [] (outsA2 rfl rfl rfl) sS ?_
     refine ⟨szV_of (a:=0) (b:=0) ?_ rfl rfl,rfl,rfl⟩
     rw [hsz]
     first
      |(have:k+1≤m:=by omega
        refine szFin_cont ?_
        cases hc:contB s i m with
        | false=>rfl
        | true =>
         have h2:=contB_mono hc this
         rw [hcon] at h2
         simp only [Bool.and_eq_true,decide_eq_true_eq] at h2
         omega)
      |(obtain rfl:k=m:=by omega
        refine szFin_low ?_
        omega))
   all_goals try
    (refine v_ret [] (outsA2 rfl rfl rfl) sS ?_
     obtain rfl:k=m:=by omega
     refine ⟨szV_of (a:=k+1) (b:=acc s i v k) ?_ (by omega) rfl,rfl,rfl⟩
     rw [hsz]
     exact szFin_ok (by omega) hcb (by omega))
   refine Va rfl ⟨rfl,rfl,k+1,m,low,v,_,_,_,rfl,rfl,rfl,by rw [hacc];omega,by omega,hm,hv,him,?_,hsz⟩
   rw [hcon,hcb]
   simp only [Bool.true_and,Bool.and_eq_true,decide_eq_true_eq]
   omega)
def plainP (r:Int):Prop:=(97≤r∧r≤122)∨(65≤r∧r≤90)∨(48≤r∧r≤57)∨r=45∨r=95∨r=46∨r=58∨(161≤r∧r≠65533)
instance (r:Int):Decidable (plainP r):=by unfold plainP;infer_instance
theorem byt_list (l:List UInt8) (j:Nat):byt ⟨l.toArray⟩ j=(l.getD j 0).toNat:=by
 unfold byt
 congr 1
 by_cases h:j<l.length
 ·simp [ByteArray.get!,h]
 ·simp [ByteArray.get!,h]
  rfl
def plainL:List UInt8:=[97,98,99,100,101,102,103,104,105,106,107,108,109,110,111,112,113,114,115,116,117,118,119,120,121,122,65,66,67,68,69,70,71]++[72,73,74,75,76,77,78,79,80,81,82,83,84,85,86,87,88,89,90,48,49,50,51,52,53,54,55,56,57,45,95,46,58]
theorem plainL_all:(List.range 66).all (fun j=>decide (plainP ((plainL.getD j 0).toNat:Int)))=true:=by decide +kernel
theorem plainL_has:(List.range 128).all (fun c => !decide (plainP (c:Int)) || ((List.range 66).any fun j=>decide ((plainL.getD j 0).toNat=c)))=true:=by decide +kernel
theorem plain_s (G:GH) (r:Int):Con Tryz.prog 95 #[.int .i64 r] G [] (Just (.bool (decide (plainP r))) G):=by
 (refine v_enter Tryz.func95 rfl Tryz.ntmps95 rfl ?_;intro B _)
 repeat' (first|refine Wa ?_|(refine Wc ⟨?_,?_⟩<;>first|exact True.intro|intro h)|fail)
 refine v_loop [4,3,0] (fun us G' μ'=>G'=G∧μ'=[]∧∃ (k:Nat) (sL:ByteArray),us=[Value.int .i64 (k:Int),.string sL,.int .i64 r]∧k≤66∧sL.size=66∧(∀ j,byt sL j=(plainL.getD j 0).toNat)∧∀ j,j<k→((plainL.getD j 0).toNat:Int)≠r) (fun us=>67-(headI us).toNat) rfl ⟨rfl,rfl,0,_,rfl,by omega,rfl,fun j=>byt_list plainL j,by omega⟩ ?_
 rintro us G' μ' ⟨rfl,rfl,k,sL,rfl,hk,hsz,hb,hno⟩
 repeat' (first|refine Wa ?_|(refine Wc ⟨?_,?_⟩<;>first|exact True.intro|intro h)|fail)
 ·refine Vr ?_
  refine ⟨?_,rfl,rfl⟩
  have h1:=List.all_eq_true.1 plainL_all k (by simp;omega)
  rename_i h
  rw [hb] at h
  rw [decide_eq_true_eq,h] at h1
  rw [decide_eq_true h1]
 ·refine Va rfl ⟨rfl,rfl,k+1,sL,rfl,by omega,hsz,hb,fun j hj=>?_⟩
  by_cases e:j=k
  ·subst e
   rename_i h
   rw [hb] at h
   exact h
  ·exact hno j (by omega)
 all_goals
  (have hn:¬ (0≤r∧r<128∧plainP r):=by
    rintro ⟨h0,h1,h2⟩
    have h3:=List.all_eq_true.1 plainL_has r.toNat (by simp;omega)
    have e:((r.toNat:Nat):Int)=r:=by omega
    simp only [Bool.or_eq_true,Bool.not_eq_true',decide_eq_false_iff_not,e,List.any_eq_true,List.mem_range,decide_eq_true_eq] at h3
    rcases h3 with h3|⟨j,hj,h3⟩
    ·exact h3 h2
    ·exact hno j (by omega) (by omega)
   refine Vr ?_
   refine ⟨?_,rfl,rfl⟩
   first
    |(have h161:161≤r:=by assumption
      by_cases hr:r=65533
      ·rw [dec_pos hr,decide_eq_false (by unfold plainP;omega)];rfl
      ·rw [dec_neg hr,decide_eq_true (by unfold plainP;omega)];rfl)
    |(rw [decide_eq_false]
      intro h
      refine hn ⟨?_,?_,h⟩<;>(unfold plainP at h;omega)))
def badR (s:ByteArray):Nat→Nat→Int
 | 0,_ => -1
 | n+1,p=>if p<s.size then (if (szR s p).1=0 then (p:Int) else badR s n (p+(szR s p).1)) else -1
def keyR (s:ByteArray):Nat→Nat→Bool
 | 0,_=>true
 | n+1,p=>if p<s.size then (if (szR s p).1=0 then false else if plainP ((szR s p).2:Int) then keyR s n (p+(szR s p).1) else false) else true
def keyB (s:ByteArray):Bool:=(decide (1≤s.size) && decide (s.size≤24)) && keyR s s.size 0
def okBytes (s:ByteArray):Prop := ∀ i,i<s.size→32≤byt s i∧byt s i≠127
noncomputable instance (s:ByteArray):Decidable (okBytes s):=Classical.propDecidable _
noncomputable def valB (s:ByteArray):Bool:=(decide (s.size≤48) && decide (badR s s.size 0<0)) && decide (okBytes s)
theorem badR_end {s:ByteArray}{n p:Nat}(h:¬ p<s.size):badR s n p = -1:=by
 cases n with
 | zero=>rfl
 | succ n=>unfold badR;rw [if_neg h]
theorem keyR_end {s:ByteArray}{n p:Nat}(h:¬ p<s.size):keyR s n p=true:=by
 cases n with
 | zero=>rfl
 | succ n=>unfold keyR;rw [if_neg h]
theorem fuel {s:ByteArray}{n p:Nat}(h:p<s.size) (hn:s.size≤p+n):∃ m,n=m+1:=⟨n-1,by omega⟩
theorem szR_le (s:ByteArray) (p:Nat):(szR s p).1≤4:=by
 unfold szR szFin
 repeat' split
 all_goals simp
theorem refBad_s {G:GH}{s:ByteArray}(hs:s.size≤1000000):Con Tryz.prog 96 #[.string s] G [] (Just (.int .i64 (badR s s.size 0)) G):=by
 (refine v_enter Tryz.func96 rfl Tryz.ntmps96 rfl ?_;intro B _)
 repeat' (first|refine Wa ?_|(refine Wc ⟨?_,?_⟩<;>first|exact True.intro|intro h)|fail)
 refine v_loop [3,0] (fun us G' μ'=>G'=G∧μ'=[]∧∃ (p n:Nat),us=[Value.int .i64 (p:Int),.string s]∧s.size≤p+n∧p≤s.size+4∧badR s s.size 0=badR s n p) (fun us=>s.size-(headI us).toNat) rfl ⟨rfl,rfl,0,s.size,rfl,by omega,by omega,rfl⟩ ?_
 rintro us G' μ' ⟨rfl,rfl,p,n,rfl,hn,hp,he⟩
 have h4:=szR_le s p
 repeat' (first|refine Wa ?_|(refine Wc ⟨?_,?_⟩<;>first|exact True.intro|intro h)|apply v_callJ (hs:=size_s ?o1 ?o2);(case ha=>rfl);(case o1|o2=>omega);(case hd=>rfl)|fail)
 ·obtain ⟨m,rfl⟩:=fuel (by omega) hn
  refine Vr ?_
  refine ⟨?_,rfl,rfl⟩
  rw [he,badR,if_pos (by omega),if_pos (by omega)]
 ·obtain ⟨m,rfl⟩:=fuel (by omega) hn
  refine Va rfl ⟨rfl,rfl,p+(szR s p).1,m,rfl,by omega,by omega,?_⟩
  rw [he,badR,if_pos (by omega),if_neg (by omega)]
 ·refine Vr ?_
  refine ⟨?_,rfl,rfl⟩
  rw [he,badR_end (by omega)]
theorem refKey_s {G:GH}{s:ByteArray}(hs:s.size≤9223372036854775807):Con Tryz.prog 39 #[.string s] G [] (Just (.bool (keyB s)) G):=by
 (refine v_enter Tryz.func39 rfl Tryz.ntmps39 rfl ?_;intro B _)
 repeat' (first|refine Wa ?_|(refine Wc ⟨?_,?_⟩<;>first|exact True.intro|intro h)|fail)
 all_goals try
  (refine Vr ?_
   refine ⟨?_,rfl,rfl⟩
   have:(decide (1≤s.size) && decide (s.size≤24))=false:=by
    rw [Bool.and_eq_false_iff,decide_eq_false_iff_not,decide_eq_false_iff_not];omega
   rw [keyB,this];rfl)
 have hk:keyB s=keyR s s.size 0:=by
  rw [keyB,decide_eq_true (by omega),decide_eq_true (by omega)];rfl
 refine v_loop [3,0] (fun us G' μ'=>G'=G∧μ'=[]∧∃ (p n:Nat),us=[Value.int .i64 (p:Int),.string s]∧s.size≤p+n∧p≤s.size+4∧keyB s=keyR s n p) (fun us=>s.size-(headI us).toNat) rfl ⟨rfl,rfl,0,s.size,rfl,by omega,by omega,hk⟩ ?_
 rintro us G' μ' ⟨rfl,rfl,p,n,rfl,hn,hp,he⟩
 have h4:=szR_le s p
 repeat' (first|refine Wa ?_|(refine Wc ⟨?_,?_⟩<;>first|exact True.intro|intro h)|apply v_callJ (hs:=size_s ?o1 ?o2);(case ha=>rfl);(case o1|o2=>omega);(case hd=>rfl)|refine cJ (plain_s _ _) ?_|fail)
 ·obtain ⟨m,rfl⟩:=fuel (by omega) hn
  refine Vr ?_
  refine ⟨?_,rfl,rfl⟩
  rw [he,keyR,if_pos (by omega),if_pos (by omega)]
 ·obtain ⟨m,rfl⟩:=fuel (by omega) hn
  refine Vr ?_
  refine ⟨?_,rfl,rfl⟩
  rw [he,keyR,if_pos (by omega),if_neg (by omega),if_neg (by assumption)]
 ·obtain ⟨m,rfl⟩:=fuel (by omega) hn
  refine Va rfl ⟨rfl,rfl,p+(szR s p).1,m,rfl,by omega,by omega,?_⟩
  rw [he,keyR,if_pos (by omega),if_neg (by omega),if_pos (by assumption)]
 ·refine Vr ?_
  refine ⟨?_,rfl,rfl⟩
  rw [he,keyR_end (by omega)]
theorem refVal_s {G:GH}{s:ByteArray}(hs:s.size≤9223372036854775807):Con Tryz.prog 40 #[.string s] G [] (Just (.bool (valB s)) G):=by
 (refine v_enter Tryz.func40 rfl Tryz.ntmps40 rfl ?_;intro B _)
 repeat' (first|refine Wa ?_|(refine Wc ⟨?_,?_⟩<;>first|exact True.intro|intro h)|apply v_callJ (hs:=refBad_s ?o1);(case ha=>rfl);(case o1=>omega);(case hd=>rfl)|fail)
 all_goals try
  (refine Vr ?_
   refine ⟨?_,rfl,rfl⟩
   have:(decide (s.size≤48) && decide (badR s s.size 0<0))=false:=by
    rw [Bool.and_eq_false_iff,decide_eq_false_iff_not,decide_eq_false_iff_not];omega
   rw [valB,this];rfl)
 have hv:valB s=decide (okBytes s):=by
  rw [valB,decide_eq_true (by omega),decide_eq_true (by omega)];rfl
 refine v_loop [3,0] (fun us G' μ'=>G'=G∧μ'=[]∧∃ (p:Nat),us=[Value.int .i64 (p:Int),.string s]∧p≤s.size∧∀ j,j<p→32≤byt s j∧byt s j≠127) (fun us=>s.size-(headI us).toNat) rfl ⟨rfl,rfl,0,rfl,by omega,by omega⟩ ?_
 rintro us G' μ' ⟨rfl,rfl,p,rfl,hp,hno⟩
 repeat' (first|refine Wa ?_|(refine Wc ⟨?_,?_⟩<;>first|exact True.intro|intro h)|fail)
 all_goals try
  (refine Vr ?_
   refine ⟨?_,rfl,rfl⟩
   rw [hv,decide_eq_false]
   intro hm
   have:=hm p (by omega)
   omega)
 all_goals try
  (refine Va rfl ⟨rfl,rfl,p+1,rfl,by omega,fun j hj=>?_⟩
   by_cases e:j=p
   ·subst e;omega
   ·exact hno j (by omega))
 refine Vr ?_
 refine ⟨?_,rfl,rfl⟩
 rw [hv,decide_eq_true]
 exact fun j hj=>hno j (by omega)
def allF (f:Nat→Bool) (s:ByteArray):Nat→Nat→Bool
 | 0,_=>true
 | n+1,p=>if p<s.size then (if f (Utf8.decode s p).1=true then allF f s n (p+(Utf8.decode s p).2) else false) else true
theorem allF_end {f:Nat→Bool}{s:ByteArray}{n p:Nat}(h:¬ p<s.size):allF f s n p=true:=by
 cases n with
 | zero=>rfl
 | succ n=>unfold allF;rw [if_neg h]
theorem decode_w (s:ByteArray) (p:Nat) (h:p<s.size):1≤(Utf8.decode s p).2∧(Utf8.decode s p).2≤4∧(Utf8.decode s p).1<1114112:=by
 rw [decode_of_sz s p h]
 have h4:=szR_le s p
 have h5:(szR s p).2≤1114111:=by
  have:=byt_lt s p
  unfold szR szFin
  repeat' split
  all_goals (try simp only);omega
 split
 ·simp
 ·simp only;omega
theorem allF_plain (s:ByteArray):∀ n p,s.size≤p+n→(decide (badR s n p<0) && allF (fun r=>decide (plainP (r:Int))) s n p)=keyR s n p
 | 0,p,h=>by simp [badR,allF,keyR]
 | n+1,p,h=>by
  unfold badR allF keyR
  by_cases hp:p<s.size
  ·simp only [if_pos hp]
   rw [decode_of_sz s p hp]
   by_cases hz:(szR s p).1=0
   ·simp only [if_pos hz]
    simp;omega
   ·simp only [if_neg hz]
    by_cases hf:plainP ((szR s p).2:Int)
    ·simp only [decide_eq_true hf,if_true,if_pos hf]
     exact allF_plain s n _ (by omega)
    ·simp [hf]
  ·simp [hp]
theorem szFin_spec {s:ByteArray}{i m low v:Nat}(h:(szFin s i m low v).1≠0):¬ s.size<i+(m+1)∧contB s i m=true∧szFin s i m low v=(m+1,acc s i v m)∧low≤acc s i v m:=by
 by_cases h1:s.size<i+(m+1)
 ·rw [szFin_short h1] at h;exact absurd rfl h
 cases h2:contB s i m with
 | false=>rw [szFin_cont h2] at h;exact absurd rfl h
 | true =>
  by_cases h3:acc s i v m<low∨1114111<acc s i v m∨(55296≤acc s i v m∧acc s i v m≤57343)
  ·rw [szFin_low h3] at h;exact absurd rfl h
  ·exact ⟨h1,rfl,szFin_ok h1 h2 h3,by omega⟩
theorem cont_bytes {s:ByteArray}{i m:Nat}(h:contB s i m=true):∀ k,k<m→128≤byt s (i+(k+1)):=by
 intro k hk
 have h1:(contB s i k && (decide (128≤byt s (i+(k+1))) && decide (byt s (i+(k+1))≤191)))=true:=contB_mono h (k:=k+1) (by omega)
 simp only [Bool.and_eq_true,decide_eq_true_eq] at h1
 exact h1.2.1
theorem szFin_bytes {s:ByteArray}{i m low v:Nat}(hb:128≤byt s i) (hl:128≤low) (h:(szFin s i m low v).1≠0):((decide (32≤(szFin s i m low v).2) && decide ((szFin s i m low v).2≠127))=true↔∀ j,i≤j→j<i+(szFin s i m low v).1→32≤byt s j∧byt s j≠127)∧i+(szFin s i m low v).1≤s.size:=by
 obtain ⟨h1,h2,h3,h4⟩:=szFin_spec h
 rw [h3]
 simp only [Bool.and_eq_true,decide_eq_true_eq]
 refine ⟨⟨fun _ j hj hj2=>?_,fun _=>by omega⟩,by omega⟩
 by_cases e:j=i
 ·subst e;omega
 ·have:=cont_bytes h2 (j-i-1) (by omega)
  rw [show i+(j-i-1+1)=j by omega] at this
  omega
theorem sz_both (s:ByteArray) (p:Nat) (hz:¬ (szR s p).1=0):((decide (32≤(szR s p).2) && decide ((szR s p).2≠127))=true↔∀ i,p≤i→i<p+(szR s p).1→32≤byt s i∧byt s i≠127)∧(p<s.size→p+(szR s p).1≤s.size):=by
 unfold szR at hz ⊢
 by_cases c0:byt s p<128
 ·simp only [if_pos c0] at hz ⊢
  simp only [Bool.and_eq_true,decide_eq_true_eq]
  refine ⟨⟨fun h i h1 h2=>?_,fun h=>h p (by omega) (by omega)⟩,by omega⟩
  obtain rfl:i=p:=by omega
  exact h
 ·simp only [if_neg c0] at hz ⊢
  by_cases c1:194≤byt s p∧byt s p≤223
  ·simp only [if_pos c1] at hz ⊢
   have:=szFin_bytes (by omega) (by omega) hz
   exact ⟨this.1,fun _=>this.2⟩
  ·simp only [if_neg c1] at hz ⊢
   by_cases c2:224≤byt s p∧byt s p≤239
   ·simp only [if_pos c2] at hz ⊢
    have:=szFin_bytes (by omega) (by omega) hz
    exact ⟨this.1,fun _=>this.2⟩
   ·simp only [if_neg c2] at hz ⊢
    by_cases c3:240≤byt s p∧byt s p≤244
    ·simp only [if_pos c3] at hz ⊢
     have:=szFin_bytes (by omega) (by omega) hz
     exact ⟨this.1,fun _=>this.2⟩
    ·simp only [if_neg c3] at hz
     exact absurd trivial hz
theorem sz_bytes (s:ByteArray) (p:Nat) (hz:¬ (szR s p).1=0):((decide (32≤(szR s p).2) && decide ((szR s p).2≠127))=true↔∀ i,p≤i→i<p+(szR s p).1→32≤byt s i∧byt s i≠127):=(sz_both s p hz).1
theorem sz_end (s:ByteArray) (p:Nat) (hz:¬ (szR s p).1=0) (h:p<s.size):p+(szR s p).1≤s.size:=(sz_both s p hz).2 h
theorem allF_val (s:ByteArray):∀ n p,s.size≤p+n→badR s n p<0→(allF (fun r=>decide (32≤r) && decide (r≠127)) s n p=true↔∀ i,p≤i→i<s.size→32≤byt s i∧byt s i≠127)
 | 0,p,h,_=>by
  simp only [allF,true_iff]
  intro i h1 h2;omega
 | n+1,p,h,hb=>by
  unfold badR at hb
  unfold allF
  by_cases hp:p<s.size
  ·rw [if_pos hp] at hb ⊢
   rw [decode_of_sz s p hp]
   by_cases hz:(szR s p).1=0
   ·rw [if_pos hz] at hb;omega
   ·rw [if_neg hz] at hb
    simp only [if_neg hz]
    have ih:=allF_val s n (p+(szR s p).1) (by omega) hb
    have key:((decide (32≤(szR s p).2) && decide ((szR s p).2≠127))=true)↔∀ i,p≤i→i<p+(szR s p).1→32≤byt s i∧byt s i≠127:=sz_bytes s p hz
    by_cases hf:(decide (32≤(szR s p).2) && decide ((szR s p).2≠127))=true
    ·rw [if_pos hf,ih]
     have hk:=key.1 hf
     constructor
     ·intro hh i h1 h2
      by_cases hi:i<p+(szR s p).1
      ·exact hk i h1 hi
      ·exact hh i (by omega) h2
     ·intro hh i h1 h2
      exact hh i (by omega) h2
    ·rw [if_neg hf]
     constructor
     ·intro hh;cases hh
     ·intro hh
      have:=key.2 fun i h1 h2=>hh i h1 (by have:=sz_end s p hz hp;omega)
      rw [this] at hf;exact absurd rfl hf
  ·rw [if_neg hp]
   simp only [true_iff]
   intro i h1 h2;omega
def laysDecode_ren:Go.Shelf.Ren:=⟨fun|197=>190|260=>237|n=>n,fun|0=>0|3=>3|4=>4|5=>5|9=>9|21=>21|46=>286|105=>275|119=>368|138=>370|139=>371|n=>n,fun|3=>5|4=>6|n=>n⟩
theorem laysDecode:Lays.n197 Tryz.prog laysDecode_ren where
 mixed:=by kernel_rfl
 f197:=Tryz.func190.trans (congrArg some (by kernel_rfl))
 f260:=Tryz.func237.trans (congrArg some (by kernel_rfl))
 t0:=Tryz.underlying0
 a0:=Tryz.isAgg0
 z0:=Tryz.sizeOf0
 v0:=Tryz.zeroValue0
 t3:=Tryz.underlying3
 a3:=Tryz.isAgg3
 z3:=Tryz.sizeOf3
 v3:=Tryz.zeroValue3
 t4:=Tryz.underlying4
 a4:=Tryz.isAgg4
 z4:=Tryz.sizeOf4
 v4:=Tryz.zeroValue4
 t5:=Tryz.underlying5
 a5:=Tryz.isAgg5
 z5:=Tryz.sizeOf5
 v5:=Tryz.zeroValue5
 t9:=Tryz.underlying9
 a9:=Tryz.isAgg9
 z9:=Tryz.sizeOf9
 v9:=Tryz.zeroValue9
 t21:=Tryz.underlying21
 a21:=Tryz.isAgg21
 z21:=Tryz.sizeOf21
 v21:=Tryz.zeroValue21
 t46:=Tryz.underlying286
 a46:=Tryz.isAgg286
 z46:=Tryz.sizeOf286
 v46:=Tryz.zeroValue286
 t105:=Tryz.underlying275
 a105:=Tryz.isAgg275
 z105:=Tryz.sizeOf275
 v105:=Tryz.zeroValue275
 t119:=Tryz.underlying368
 a119:=Tryz.isAgg368
 z119:=Tryz.sizeOf368
 t138:=Tryz.underlying370
 a138:=Tryz.isAgg370
 z138:=Tryz.sizeOf370
 v138:=Tryz.zeroValue370
 t139:=Tryz.underlying371
 a139:=Tryz.isAgg371
 z139:=Tryz.sizeOf371
 v139:=Tryz.zeroValue371
 g3:=by kernel_rfl
 g4:=by kernel_rfl
def TabsG (G:GH):Prop := ∀ w:World,(∀ b o,G b=some o→w.heap[b]? = some o)→Lib.Utf8Tabs (laysDecode_ren.g 3) (laysDecode_ren.g 4) w
theorem TabsG.le {G G':GH}(h:TabsG G) (hle:GH.le G G'):TabsG G':=fun w hw=>h w fun b o hb=>hw b o (hle b o hb)
attribute [local semireducible] Con in
theorem Con.ofCalls {P:Program}{f:FuncId}{args:Array Value}{G:GH}{μ:OH}{Φ:Value→GH→OH→Prop}(h:∀ w,Mem G μ w→Calls P f args w fun e w'=>∃ v,e=.returned v∧∃ G' μ',Step G μ w G' μ' w'∧Φ v G' μ'):Con P f args G μ Φ:=by
 intro w hw
 exact (h w hw).mono fun e w' hq=>by
  obtain ⟨v,rfl,hv⟩:=hq
  exact ⟨v,rfl,hv⟩
theorem Step.ofBelow {G:GH}{w w':World}(hw:Mem G [] w) (hb:Below w.heap.size w w'):Step G [] w G [] w' :=
 ⟨⟨fun b o h=>by rw [hb.block b (lt_of_heap (hw.g b o h))];exact hw.g b o h,fun _ _ h=>(by cases h),List.nodup_nil,fun _ _ h=>(by cases h)⟩,GH.le_refl _,hb.os,hb.tape,hb.output,hb.size,fun b h _=>hb.block b h,fun _ _ h=>(by cases h),fun b o h=>.inl ⟨o,h⟩⟩
theorem decode_s {G:GH}(hT:TabsG G) (s:ByteArray):Con Tryz.prog 190 #[.string s] G [] (Just (.tuple [.int .i32 ((Lib.decodeGo s).1:Int),.int .i64 ((Lib.decodeGo s).2:Int)].toArray) G):=by
 refine Con.ofCalls fun w hw=>?_
 refine (Any.utf8_DecodeRuneInString laysDecode s w (hT w hw.g)).mono ?_
 rintro e w' ⟨rfl,hb⟩
 exact ⟨_,rfl,G,[],Step.ofBelow hw hb,rfl,rfl,rfl⟩
end Go.Proofs.YtkofafmiabmobaaGreatDoor
/-
  Texts as keys: their rank, which keeps the order; comparisons of texts.
-/
namespace Go.Proofs.YtkofafmiabmobaaGreatDoor
open Go.Vx Go.ChangeShapes Go.WideShapes Go.ChangeAt Go.RowKit
def knL:Nat→List UInt8→Nat
 | 0,_=>0
 | _+1,[]=>0
 | n+1,b::l=>(b.toNat+1)*257 ^ n+knL n l
theorem knL_lt:∀ (n:Nat) (l:List UInt8),knL n l<257 ^ n
 | 0,_=>by simp [knL]
 | n+1,[]=>by simp only [knL];exact Nat.pow_pos (by omega)
 | n+1,b::l=>by
  have ih:=knL_lt n l
  have hb:=b.toNat_lt
  have h1:(b.toNat+1)*257 ^ n≤256*257 ^ n:=Nat.mul_le_mul_right _ (by omega)
  have h2:257 ^ (n+1)=256*257 ^ n+257 ^ n:=by rw [Nat.pow_succ];omega
  simp only [knL]
  omega
theorem knL_cmp:∀ (n:Nat) (a b:List UInt8),a.length≤n→b.length≤n→(Op.bytesLess a b=decide (knL n a<knL n b))∧(knL n a=knL n b↔a=b)∧Lib.compareBytes a b=if knL n a<knL n b then -1 else if knL n b<knL n a then 1 else 0
 | n,[],[],_,_=>by simp [Op.bytesLess,Lib.compareBytes]
 | n+1,[],b::y,_,hb=>by
  have:0<knL (n+1) (b::y):=by
   simp only [knL]
   have:=Nat.mul_pos (show 0<b.toNat+1 by omega) (Nat.pow_pos (n:=n) (show 0<257 by omega))
   omega
  have h0:knL (n+1) []=0:=rfl
  rw [h0]
  refine ⟨by simp [Op.bytesLess,this],⟨fun h=>by omega,fun h=>by cases h⟩,by simp [Lib.compareBytes,this]⟩
 | n+1,a::x,[],ha,_=>by
  have:0<knL (n+1) (a::x):=by
   simp only [knL]
   have:=Nat.mul_pos (show 0<a.toNat+1 by omega) (Nat.pow_pos (n:=n) (show 0<257 by omega))
   omega
  have h0:knL (n+1) []=0:=rfl
  rw [h0]
  refine ⟨by simp [Op.bytesLess],⟨fun h=>by omega,fun h=>by cases h⟩,by simp [Lib.compareBytes,this]⟩
 | n+1,a::x,b::y,ha,hb=>by
  obtain ⟨i1,i2,i3⟩:=knL_cmp n x y (by simpa using ha) (by simpa using hb)
  have l1:=knL_lt n x
  have l2:=knL_lt n y
  have e1:knL (n+1) (a::x)=(a.toNat+1)*257 ^ n+knL n x:=rfl
  have e2:knL (n+1) (b::y)=(b.toNat+1)*257 ^ n+knL n y:=rfl
  rcases Nat.lt_trichotomy a.toNat b.toNat with h|h|h
  ·have h3:(a.toNat+1)*257 ^ n+257 ^ n≤(b.toNat+1)*257 ^ n:=by
    have:=Nat.mul_le_mul_right (257 ^ n) (show a.toNat+1+1≤b.toNat+1 by omega)
    rw [Nat.add_mul (a.toNat+1) 1,Nat.one_mul] at this
    exact this
   have hlt:knL (n+1) (a::x)<knL (n+1) (b::y):=by omega
   have hab:a<b:=UInt8.lt_iff_toNat_lt.2 h
   refine ⟨by simp [Op.bytesLess,hab,hlt],⟨fun h=>by omega,fun h=>by injection h with h1;subst h1;omega⟩,by simp [Lib.compareBytes,hab,hlt]⟩
  ·have hab:a=b:=UInt8.toNat_inj.1 h
   subst hab
   have hlt:(knL (n+1) (a::x)<knL (n+1) (a::y))↔knL n x<knL n y:=by omega
   have hlt2:(knL (n+1) (a::y)<knL (n+1) (a::x))↔knL n y<knL n x:=by omega
   have hirr:¬ a<a:=by simp
   refine ⟨by simp [Op.bytesLess,hlt,i1],⟨fun h=>by rw [i2.1 (by omega)],fun h=>by rw [h]⟩,?_⟩
   simp only [Lib.compareBytes,hirr,if_false,i3,hlt,hlt2]
  ·have h3:(b.toNat+1)*257 ^ n+257 ^ n≤(a.toNat+1)*257 ^ n:=by
    have:=Nat.mul_le_mul_right (257 ^ n) (show b.toNat+1+1≤a.toNat+1 by omega)
    rw [Nat.add_mul (b.toNat+1) 1,Nat.one_mul] at this
    exact this
   have hlt:knL (n+1) (b::y)<knL (n+1) (a::x):=by omega
   have hba:b<a:=UInt8.lt_iff_toNat_lt.2 h
   have hab:¬ a<b:=by rw [UInt8.lt_iff_toNat_lt];omega
   have hne:(a == b)=false:=by
    rw [beq_eq_false_iff_ne]
    rintro rfl
    omega
   have hnl:¬ knL (n+1) (a::x)<knL (n+1) (b::y):=by omega
   refine ⟨by simp [Op.bytesLess,hab,hne,hnl],⟨fun h=>by omega,fun h=>by injection h with h1;subst h1;omega⟩,by simp [Lib.compareBytes,hab,hba,hlt,hnl]⟩
def kn (s:ByteArray):Int:=(knL 200 s.data.toList:Nat)
theorem kn_len {s:ByteArray}(h:s.size≤200):s.data.toList.length≤200:=by rw [Array.length_toList];exact h
theorem kn_inj {a b:ByteArray}(ha:a.size≤200) (hb:b.size≤200):kn a=kn b↔a=b:=by
 unfold kn
 rw [Int.natCast_inj,(knL_cmp 200 _ _ (kn_len ha) (kn_len hb)).2.1]
 constructor
 ·intro h
  obtain ⟨⟨a⟩⟩:=a
  obtain ⟨⟨b⟩⟩:=b
  simp only at h
  rw [h]
 ·rintro rfl;rfl
theorem kn_cmp {a b:ByteArray}(ha:a.size≤200) (hb:b.size≤200):Lib.compareBytes a.data.toList b.data.toList=if kn a<kn b then -1 else if kn b<kn a then 1 else 0:=by
 unfold kn
 simp only [Int.ofNat_lt]
 exact (knL_cmp 200 _ _ (kn_len ha) (kn_len hb)).2.2
theorem ba_toList (s:ByteArray):s.toList=s.data.toList:=ByteArray.toList_eq s
theorem kn_ops {a b:ByteArray}(ha:a.size≤200) (hb:b.size≤200):Op.bytesLess a.data.toList b.data.toList=decide (kn a<kn b)∧(a.data.toList == b.data.toList)=decide (kn a=kn b):=by
 have h:=knL_cmp 200 _ _ (kn_len ha) (kn_len hb)
 unfold kn
 simp only [Int.ofNat_lt,Int.natCast_inj]
 refine ⟨h.1,?_⟩
 rw [Bool.eq_iff_iff,beq_iff_eq,decide_eq_true_iff,h.2.1]
section
variable {P:Program}{ty:TypeId}{σ:Env}{t t':TypeId}{x y:Operand}{a b:ByteArray}
attribute [local semireducible] PureOp
theorem kn_le {p q:Int}:(decide (p<q) || decide (p=q))=decide (p≤q):=by
 rw [Bool.eq_iff_iff,Bool.or_eq_true,decide_eq_true_iff,decide_eq_true_iff,decide_eq_true_iff]
 omega
theorem kn_gt {p q:Int}:(!(decide (p<q) || decide (p=q)))=decide (q<p):=by
 rw [kn_le,Bool.eq_iff_iff,Bool.not_eq_true',decide_eq_true_iff,decide_eq_false_iff_not]
 omega
theorem kn_ge {p q:Int}:(!decide (p<q))=decide (q≤p):=by
 rw [Bool.eq_iff_iff,Bool.not_eq_true',decide_eq_true_iff,decide_eq_false_iff_not]
 omega
theorem p_ltK (hx:Env.ev σ x=some (.string a)) (hy:Env.ev σ y=some (.string b)) (ha:a.size≤200) (hb:b.size≤200):PureOp P (.binOp .lss t x y t') ty σ (.bool (dec (kn a<kn b))):=by
 intro dst pos af g ρ hρ w
 obtain ⟨h1,h2⟩:=kn_ops ha hb
 have e:binOp .lss t (.string a) (.string b)=(pure (.bool (dec (kn a<kn b))):Sem Value):=by
  simp only [binOp,Op.stringOp,ba_toList,h1,h2,dec_eq]
 simp [execOp,hρ _ _ hx,hρ _ _ hy,eqGuard,e]
theorem p_leK (hx:Env.ev σ x=some (.string a)) (hy:Env.ev σ y=some (.string b)) (ha:a.size≤200) (hb:b.size≤200):PureOp P (.binOp .leq t x y t') ty σ (.bool (dec (kn a≤kn b))):=by
 intro dst pos af g ρ hρ w
 obtain ⟨h1,h2⟩:=kn_ops ha hb
 have e:binOp .leq t (.string a) (.string b)=(pure (.bool (dec (kn a≤kn b))):Sem Value):=by
  simp only [binOp,Op.stringOp,ba_toList,h1,h2,dec_eq,kn_le]
 simp [execOp,hρ _ _ hx,hρ _ _ hy,eqGuard,e]
theorem p_gtK (hx:Env.ev σ x=some (.string a)) (hy:Env.ev σ y=some (.string b)) (ha:a.size≤200) (hb:b.size≤200):PureOp P (.binOp .gtr t x y t') ty σ (.bool (dec (kn b<kn a))):=by
 intro dst pos af g ρ hρ w
 obtain ⟨h1,h2⟩:=kn_ops ha hb
 have e:binOp .gtr t (.string a) (.string b)=(pure (.bool (dec (kn b<kn a))):Sem Value):=by
  simp only [binOp,Op.stringOp,ba_toList,h1,h2,dec_eq,kn_gt]
 simp [execOp,hρ _ _ hx,hρ _ _ hy,eqGuard,e]
theorem p_geK (hx:Env.ev σ x=some (.string a)) (hy:Env.ev σ y=some (.string b)) (ha:a.size≤200) (hb:b.size≤200):PureOp P (.binOp .geq t x y t') ty σ (.bool (dec (kn b≤kn a))):=by
 intro dst pos af g ρ hρ w
 obtain ⟨h1,h2⟩:=kn_ops ha hb
 have e:binOp .geq t (.string a) (.string b)=(pure (.bool (dec (kn b≤kn a))):Sem Value):=by
  simp only [binOp,Op.stringOp,ba_toList,h1,h2,dec_eq,kn_ge]
 simp [execOp,hρ _ _ hx,hρ _ _ hy,eqGuard,e]
end
theorem p_neK {P:Program}{ty:TypeId}{σ:Env}{t t':TypeId}{x y:Operand}{a b:ByteArray}(hx:Env.ev σ x=some (.string a)) (hy:Env.ev σ y=some (.string b)) (ha:a.size≤200) (hb:b.size≤200):PureOp P (.binOp .neq t x y t') ty σ (.bool (!dec (kn a=kn b))):=by
 have h:=p_neS (P:=P) (ty:=ty) (t:=t) (t':=t') hx hy
 have e:dec (a=b)=dec (kn a=kn b):=by rw [Bool.eq_iff_iff,dec_true,dec_true,kn_inj ha hb]
 rwa [e] at h
def laysStrCmp_ren:Go.Shelf.Ren:=⟨fun|106=>329|213=>355|265=>367|n=>n,fun|3=>3|9=>9|n=>n,fun n=>n⟩
theorem laysStrCmp:Lays.n106 Tryz.prog laysStrCmp_ren where
 mixed:=by kernel_rfl
 f106:=Tryz.func329.trans (congrArg some (by kernel_rfl))
 f213:=Tryz.func355.trans (congrArg some (by kernel_rfl))
 f265:=Tryz.func367.trans (congrArg some (by kernel_rfl))
 t3:=Tryz.underlying3
 a3:=Tryz.isAgg3
 z3:=Tryz.sizeOf3
 v3:=Tryz.zeroValue3
 t9:=Tryz.underlying9
 a9:=Tryz.isAgg9
 z9:=Tryz.sizeOf9
 v9:=Tryz.zeroValue9
def cmpK (a b:Int):Int:=if a<b then -1 else if b<a then 1 else 0
theorem cmpK_lt {a b:Int}:cmpK a b<0↔a<b:=by unfold cmpK;split<;>(try split)<;>simp<;>omega
theorem cmpK_eq {a b:Int}:cmpK a b=0↔a=b:=by unfold cmpK;split<;>(try split)<;>simp<;>omega
theorem strCmp_s {G:GH}{a b:ByteArray}(ha:a.size≤200) (hb:b.size≤200):Con Tryz.prog 329 #[.string a,.string b] G [] (Just (.int .i64 (cmpK (kn a) (kn b))) G):=by
 refine Con.ofCalls fun w hw=>?_
 refine (Any.strings_Compare laysStrCmp a b w).mono ?_
 rintro e w' ⟨rfl,rfl⟩
 rw [kn_cmp ha hb]
 exact ⟨_,rfl,G,[],Step.refl hw,rfl,rfl,rfl⟩
end Go.Proofs.YtkofafmiabmobaaGreatDoor
/-
  Texts (layer 5), the fourth part: the program's walks.
-/
namespace Go.Proofs.YtkofafmiabmobaaGreatDoor
open Go.Vx Go.ChangeShapes Go.WideShapes Go.ChangeAt Go.RowKit
theorem byt_extract {s:ByteArray}{i k:Nat}(h:i+k<s.size):byt (s.extract i s.size) k=byt s (i+k):=by
 have hs:(s.extract i s.size).size=s.size-i:=by simp
 rw [byt_eq (by omega),byt_eq h]
 congr 1
 simp [ByteArray.getElem_extract]
theorem decode_extract {s:ByteArray}{i:Nat}(h:i<s.size):Utf8.decode (s.extract i s.size) 0=Utf8.decode s i:=by
 have hs:(s.extract i s.size).size=s.size-i:=by simp
 rw [decode_byt,decode_byt,hs]
 have e0:=byt_extract (s:=s) (i:=i) (k:=0) h
 rw [Nat.add_zero] at e0
 simp only [Nat.zero_add,e0]
 by_cases h1:i+1<s.size
 ·have e1:=byt_extract (s:=s) (i:=i) (k:=1) h1
  rw [e1]
  have c1:(1<s.size-i)↔(i+1<s.size):=by omega
  simp only [c1]
  by_cases h2:i+2<s.size
  ·have e2:=byt_extract (s:=s) (i:=i) (k:=2) h2
   rw [e2]
   have c2:(2<s.size-i)↔(i+2<s.size):=by omega
   simp only [c2]
   by_cases h3:i+3<s.size
   ·have e3:=byt_extract (s:=s) (i:=i) (k:=3) h3
    rw [e3]
    have c3:(3<s.size-i)↔(i+3<s.size):=by omega
    simp only [c3]
   ·have c3:¬ (3<s.size-i):=by omega
    simp only [h3,c3,false_and,and_false,if_false]
  ·have c2:¬ (2<s.size-i):=by omega
   simp only [h2,c2,false_and,and_false,if_false]
 ·have c1:¬ (1<s.size-i):=by omega
  simp only [h1,c1,false_and,and_false,if_false]
theorem decodeGo_extract {s:ByteArray}{i:Nat}(h:i<s.size):Lib.decodeGo (s.extract i s.size)=Utf8.decode s i:=by
 have hs:(s.extract i s.size).size=s.size-i:=by simp
 rw [Lib.decodeGo,if_neg (by omega),decode_extract h]
theorem sz_one {s:ByteArray}{p:Nat}(h:(szR s p).1=1):(szR s p).2<128:=by
 unfold szR at h ⊢
 by_cases c0:byt s p<128
 ·rw [if_pos c0];exact c0
 ·rw [if_neg c0] at h
  exfalso
  have key:∀ m low v,0<m→(szFin s p m low v).1≠1:=by
   intro m low v hm e
   obtain ⟨_,_,h3,_⟩:=szFin_spec (s:=s) (i:=p) (m:=m) (low:=low) (v:=v) (by omega)
   rw [h3] at e
   simp only at e
   omega
  split at h
  ·exact key _ _ _ (by omega) h
  ·split at h
   ·exact key _ _ _ (by omega) h
   ·split at h
    ·exact key _ _ _ (by omega) h
    ·cases h
theorem bad_s {G:GH}(hT:TabsG G) {s:ByteArray}(hs:s.size≤9223372036854775807):Con Tryz.prog 215 #[.string s] G [] (Just (.int .i64 (badR s s.size 0)) G):=by
 apply Con.just
 (refine v_enter Tryz.func215 rfl Tryz.ntmps215 rfl ?_;intro B _)
 repeat' (first|refine Wa ?_|(refine Wc ⟨?_,?_⟩<;>first|exact True.intro|intro h)|(refine Wb ?_;intro b)|fail)
 refine v_loopI (ι:=Nat×Nat) [8,0] (fun x us G' μ'=>G'=G∧∃ b,us=[Value.pointer (some ⟨b,0,none⟩),.string s]∧μ'=[(b,.stringIter s x.1)]∧s.size≤x.1+x.2∧badR s s.size 0=badR s x.2 x.1) (fun x=>s.size-x.1) rfl (0,s.size) ⟨rfl,_,rfl,rfl,by simp,rfl⟩ ?_
 rintro ⟨p,n⟩ us G' μ' ⟨rfl,b,rfl,rfl,hn,he⟩
 simp only at hn he
 by_cases hp:p<s.size
 ·obtain ⟨m,rfl⟩:=fuel hp hn
  have hw:=decode_w s p hp
  have hd:=decode_of_sz s p hp
  have hd2:=decodeGo_extract hp
  have ep:((p:Nat):Int).toNat=p:=Int.toNat_natCast p
  have hcall:=decode_s hT (s.extract p s.size)
  rw [hd2] at hcall
  repeat' (first|refine Wa ?_|(refine Wc ⟨?_,?_⟩<;>first|exact True.intro|intro h)|apply v_nextS;(case hx=>rfl);(case hb=>exact aM);(case hp=>assumption);(case hu=>exact Upd.here _ _);(case hd=>rfl)|apply v_read;(case hop=>(apply r_nextEnd;(case hx=>rfl);(case hb=>exact aM);(case hp=>assumption)));(case hd=>rfl)|refine cJ hcall ?_|(refine Wb ?_;intro b)|fail)
  ·by_cases hz:(szR s p).1=0
   ·rw [if_pos hz] at hd
    simp only [hd] at h
    omega
   ·rw [if_neg hz] at hd
    refine v_againI (p+(szR s p).1,m) rfl ⟨rfl,b,rfl,by rw [hd],by simp only;rw [hd] at hw;simp only at hw;omega,?_⟩ (by simp only;rw [hd] at hw;simp only at hw;omega)
    rw [he,badR,if_pos hp,if_neg hz]
  ·refine Vr ?_
   refine ⟨?_,rfl⟩
   have hz:(szR s p).1=0:=by
    apply Classical.byContradiction
    intro hz
    rw [if_neg hz] at hd
    rename_i h1
    rw [hd] at h h1
    simp only at h h1
    have:=sz_one (s:=s) (p:=p) (by omega)
    omega
   rw [he,badR,if_pos hp,if_pos hz]
  ·by_cases hz:(szR s p).1=0
   ·rw [if_pos hz] at hd
    rw [hd] at h
    simp at h
   ·rw [if_neg hz] at hd
    refine v_againI (p+(szR s p).1,m) rfl ⟨rfl,b,rfl,by rw [hd],by simp only;rw [hd] at hw;simp only at hw;omega,?_⟩ (by simp only;rw [hd] at hw;simp only at hw;omega)
    rw [he,badR,if_pos hp,if_neg hz]
 ·repeat' (first|refine Wa ?_|(refine Wc ⟨?_,?_⟩<;>first|exact True.intro|intro h)|apply v_nextS;(case hx=>rfl);(case hb=>exact aM);(case hp=>assumption);(case hu=>exact Upd.here _ _);(case hd=>rfl)|apply v_read;(case hop=>(apply r_nextEnd;(case hx=>rfl);(case hb=>exact aM);(case hp=>assumption)));(case hd=>rfl)|(refine Wb ?_;intro b)|fail)
  refine Vr ?_
  refine ⟨?_,rfl⟩
  rw [he,badR_end hp]
theorem whole_s {G:GH}(hT:TabsG G) {s:ByteArray}(hs:s.size≤9223372036854775807):Con Tryz.prog 167 #[.string s] G [] (Just (.bool (decide (badR s s.size 0<0))) G):=by
 (refine v_enter Tryz.func167 rfl Tryz.ntmps167 rfl ?_;intro B _)
 repeat' (first|refine Wa ?_|(refine Wc ⟨?_,?_⟩<;>first|exact True.intro|intro h)|apply v_callJ (hs:=bad_s ?o1 ?o2);(case ha=>rfl);(case o1=>exact hT);(case o2=>exact hs);(case hd=>rfl)|fail)
 refine Vr ?_
 exact ⟨by rw [dec_eq],rfl,rfl⟩
theorem plainR_s (G:GH) (r:Int):Con Tryz.prog 169 #[.int .i32 r] G [] (Just (.bool (decide (plainP r))) G):=by
 (refine v_enter Tryz.func169 rfl Tryz.ntmps169 rfl ?_;intro B _)
 repeat' (first|refine Wa ?_|(refine Wc ⟨?_,?_⟩<;>first|exact True.intro|intro h)|fail)
 all_goals
  (refine Vr ?_
   refine ⟨?_,rfl,rfl⟩
   first
    | rw [decide_eq_true (by unfold plainP;omega)]
    | rw [decide_eq_false (by unfold plainP;omega)]
    |(by_cases hr:r=65533
      ·rw [dec_pos hr,decide_eq_false (by unfold plainP;omega)];rfl
      ·rw [dec_neg hr,decide_eq_true (by unfold plainP;omega)];rfl))
theorem valR_s (G:GH) (r:Nat):Con Tryz.prog 170 #[.int .i32 (r:Int)] G [] (Just (.bool (decide (32≤r) && decide (r≠127))) G):=by
 (refine v_enter Tryz.func170 rfl Tryz.ntmps170 rfl ?_;intro B _)
 repeat' (first|refine Wa ?_|(refine Wc ⟨?_,?_⟩<;>first|exact True.intro|intro h)|fail)
 all_goals
  (refine Vr ?_
   refine ⟨?_,rfl,rfl⟩
   by_cases h2:r=127
   ·first
     | rw [dec_pos (show (r:Int)=127 by omega),decide_eq_false (p:=r≠127) (by omega),Bool.and_false];rfl
     | rw [decide_eq_false (p:=r≠127) (by omega),Bool.and_false]
   ·first
     | rw [dec_neg (show ¬ (r:Int)=127 by omega),decide_eq_true (p:=r≠127) (by omega),decide_eq_true (p:=32≤r) (by omega)];rfl
     | rw [decide_eq_false (p:=32≤r) (by omega),Bool.false_and])
theorem all_s {G:GH}{s:ByteArray}(hs:s.size≤9223372036854775807) (fid:FuncId) [Callable Tryz.prog fid] (f:Nat→Bool) (hf:∀ (r:Nat),Con Tryz.prog fid #[.int .i32 (r:Int)] G [] (Just (.bool (f r)) G)) :
 Con Tryz.prog 168 #[.string s,.func (.func fid) #[] #[]] G [] (Just (.bool (allF f s s.size 0)) G):=by
 apply Con.just
 (refine v_enter Tryz.func168 rfl Tryz.ntmps168 rfl ?_;intro B _)
 repeat' (first|refine Wa ?_|(refine Wc ⟨?_,?_⟩<;>first|exact True.intro|intro h)|(refine Wb ?_;intro b)|fail)
 refine v_loopI (ι:=Nat×Nat) [8,1] (fun x us G' μ'=>G'=G∧∃ b,us=[Value.pointer (some ⟨b,0,none⟩),.func (.func fid) #[] #[]]∧μ'=[(b,.stringIter s x.1)]∧s.size≤x.1+x.2∧allF f s s.size 0=allF f s x.2 x.1) (fun x=>s.size-x.1) rfl (0,s.size) ⟨rfl,_,rfl,rfl,by simp,rfl⟩ ?_
 rintro ⟨p,n⟩ us G' μ' ⟨rfl,b,rfl,rfl,hn,he⟩
 simp only at hn he
 by_cases hp:p<s.size
 ·obtain ⟨m,rfl⟩:=fuel hp hn
  have hw:=decode_w s p hp
  repeat' (first|refine Wa ?_|(refine Wc ⟨?_,?_⟩<;>first|exact True.intro|intro h)|apply v_nextS;(case hx=>rfl);(case hb=>exact aM);(case hp=>assumption);(case hu=>exact Upd.here _ _);(case hd=>rfl)|apply v_read;(case hop=>(apply r_nextEnd;(case hx=>rfl);(case hb=>exact aM);(case hp=>assumption)));(case hd=>rfl)|apply v_callFJ0 (hs:=hf (Utf8.decode s p).1);(case hx|ha|hd=>rfl)|(refine Wb ?_;intro b)|fail)
  ·refine Vr ?_
   refine ⟨?_,rfl⟩
   rw [he,allF,if_pos hp,if_neg (by rw [h];simp)]
  ·refine v_againI (p+(Utf8.decode s p).2,m) rfl ⟨rfl,b,rfl,rfl,by simp only;omega,?_⟩ (by simp only;omega)
   rw [he,allF,if_pos hp,if_pos (by assumption)]
 ·repeat' (first|refine Wa ?_|(refine Wc ⟨?_,?_⟩<;>first|exact True.intro|intro h)|apply v_nextS;(case hx=>rfl);(case hb=>exact aM);(case hp=>assumption);(case hu=>exact Upd.here _ _);(case hd=>rfl)|apply v_read;(case hop=>(apply r_nextEnd;(case hx=>rfl);(case hb=>exact aM);(case hp=>assumption)));(case hd=>rfl)|(refine Wb ?_;intro b)|fail)
  refine Vr ?_
  refine ⟨?_,rfl⟩
  rw [he,allF_end hp]
theorem key_s {G:GH}(hT:TabsG G) {s:ByteArray}(hs:s.size≤9223372036854775807):Con Tryz.prog 117 #[.string s] G [] (Just (.bool (keyB s)) G):=by
 have hall:=all_s (G:=G) hs 169 (fun r=>decide (plainP (r:Int))) (fun r=>plainR_s G r)
 have hk:=allF_plain s s.size 0 (by omega)
 (refine v_enter Tryz.func117 rfl Tryz.ntmps117 rfl ?_;intro B _)
 repeat' (first|refine Wa ?_|(refine Wc ⟨?_,?_⟩<;>first|exact True.intro|intro h)|refine cJ (whole_s hT hs) ?_|refine cJ hall ?_|fail)
 ·refine Vr ?_
  refine ⟨?_,rfl,rfl⟩
  have h0:1≤s.size:=by
   apply Classical.byContradiction
   intro h0
   have:s=ByteArray.empty:=by
    apply ByteArray.ext
    apply Array.eq_empty_of_size_eq_zero
    show s.size=0
    omega
   exact absurd this (by assumption)
  rw [keyB,← hk,decide_eq_true h0,decide_eq_true (by omega),decide_eq_true (by assumption)];rfl
 ·refine Vr ?_
  refine ⟨?_,rfl,rfl⟩
  rw [keyB,← hk,decide_eq_false (p:=badR s s.size 0<0) (by assumption),Bool.false_and,Bool.and_false]
 ·refine Vr ?_
  refine ⟨?_,rfl,rfl⟩
  rw [keyB,decide_eq_false (p:=s.size≤24) (by omega),Bool.and_false,Bool.false_and]
 ·refine Vr ?_
  refine ⟨?_,rfl,rfl⟩
  have h0:s.size=0:=by rw [h];rfl
  rw [keyB,decide_eq_false (p:=1≤s.size) (by omega),Bool.false_and,Bool.false_and]
theorem val_s {G:GH}(hT:TabsG G) {s:ByteArray}(hs:s.size≤9223372036854775807):Con Tryz.prog 119 #[.string s] G [] (Just (.bool (valB s)) G):=by
 have hall:=all_s (G:=G) hs 170 (fun r=>decide (32≤r) && decide (r≠127)) (fun r=>valR_s G r)
 have hv:=allF_val s s.size 0 (by omega)
 (refine v_enter Tryz.func119 rfl Tryz.ntmps119 rfl ?_;intro B _)
 repeat' (first|refine Wa ?_|(refine Wc ⟨?_,?_⟩<;>first|exact True.intro|intro h)|refine cJ (whole_s hT hs) ?_|refine cJ hall ?_|fail)
 ·refine Vr ?_
  refine ⟨?_,rfl,rfl⟩
  have hv':=hv (by assumption)
  have e:allF (fun r=>decide (32≤r) && decide (r≠127)) s s.size 0=decide (okBytes s):=by
   rw [Bool.eq_iff_iff,hv',decide_eq_true_iff]
   exact ⟨fun h i hi=>h i (by omega) hi,fun h i _ hi=>h i hi⟩
  rw [valB,e,decide_eq_true (p:=s.size≤48) (by omega),decide_eq_true (p:=badR s s.size 0<0) (by assumption)];rfl
 ·refine Vr ?_
  refine ⟨?_,rfl,rfl⟩
  rw [valB,decide_eq_false (p:=badR s s.size 0<0) (by assumption),Bool.and_false,Bool.false_and]
 ·refine Vr ?_
  refine ⟨?_,rfl,rfl⟩
  rw [valB,decide_eq_false (p:=s.size≤48) (by omega),Bool.false_and,Bool.false_and]
structure Cm where
 kind:Int
 client:Int
 seq:Int
 key:ByteArray
 val:ByteArray
 old:ByteArray
 node:Int
def Cm.cells (c:Cm):List Value:=[.int .i64 c.kind,.int .i64 c.client,.int .i64 c.seq,.string c.key,.string c.val,.string c.old,.int .i64 c.node]
def Cm.ok (c:Cm):Prop:=(Lit.int .i64 c.kind).wf=true∧(Lit.int .i64 c.client).wf=true∧(Lit.int .i64 c.seq).wf=true∧c.key.size≤maxLen∧c.val.size≤maxLen∧c.old.size≤maxLen∧(Lit.int .i64 c.node).wf=true
def cmdFields (kind:Int):Int×Bool :=
 if kind=1∨kind=6 then (0,true) else if kind=2 then (11,true) else if kind=3∨kind=4 then (3,true) else if kind=5 then (15,true) else if kind=7∨kind=8 then (16,true) else (0,false)
theorem fields_s (G:GH) (kind:Int):Con Tryz.prog 57 #[.int .i64 kind] G [] (Just (.tuple [.int .i64 (cmdFields kind).1,.bool (cmdFields kind).2].toArray) G):=by
 (refine v_enter Tryz.func57 rfl Tryz.ntmps57 rfl ?_;intro B _)
 repeat' (first|refine Wa ?_|(refine Wc ⟨?_,?_⟩<;>first|exact True.intro|intro h)|fail)
 all_goals
  (refine v_ret [] (outsA2 rfl rfl rfl) sS ?_
   refine ⟨?_,rfl,rfl⟩
   unfold cmdFields
   (repeat' split)<;>first|rfl|(exfalso;omega))
def partFn (f:FuncId):Value:=.func (.func f) #[] #[]
def partL:Nat→List Value
 | 0 => [.int .i64 1,.int .i64 8,.nilFunc,partFn 115]
 | 1 => [.int .i64 1,.int .i64 4294967296,.nilFunc,partFn 116]
 | 2 => [.int .i64 2,.int .i64 0,partFn 117,partFn 118]
 | 3 => [.int .i64 4,.int .i64 0,partFn 119,partFn 120]
 | 4 => [.int .i64 8,.int .i64 0,partFn 119,partFn 121]
 | _ => [.int .i64 16,.int .i64 9,.nilFunc,partFn 122]
def partsL:List Value:=partL 0++(partL 1++(partL 2++(partL 3++(partL 4++partL 5))))
theorem parts_s (G:GH):Con Tryz.prog 58 #[] G [] (fun r G' μ'=>G'=G∧∃ b,r=.slice (some ⟨b,0,none⟩) 6 6∧μ'=[(b,.cells partsL.toArray 119 (0,0))]):=by
 (refine v_enter Tryz.func58 rfl Tryz.ntmps58 rfl ?_;intro B _)
 repeat' (first|refine Wa ?_|(refine Wc ⟨?_,?_⟩<;>first|exact True.intro|intro h)|(refine Wb ?_;intro b)|fail)
 refine v_ret [(b,_)] (outsA1 rfl rfl) sS ?_
 exact ⟨rfl,_,rfl,rfl⟩
theorem at1_s (G:GH) (b:Nat):Con Tryz.prog 115 #[.pointer (some ⟨b,0,none⟩)] G [] (Just (.iface 192 (.pointer (some ⟨b,0+1,none⟩))) G):=by
 (refine v_enter Tryz.func115 rfl Tryz.ntmps115 rfl ?_;intro B _)
 repeat' (first|refine Wa ?_|(refine Wc ⟨?_,?_⟩<;>first|exact True.intro|intro h)|fail)
 refine Vr ?_
 exact ⟨rfl,rfl,rfl⟩
theorem at2_s (G:GH) (b:Nat):Con Tryz.prog 116 #[.pointer (some ⟨b,0,none⟩)] G [] (Just (.iface 192 (.pointer (some ⟨b,0+2,none⟩))) G):=by
 (refine v_enter Tryz.func116 rfl Tryz.ntmps116 rfl ?_;intro B _)
 repeat' (first|refine Wa ?_|(refine Wc ⟨?_,?_⟩<;>first|exact True.intro|intro h)|fail)
 refine Vr ?_
 exact ⟨rfl,rfl,rfl⟩
theorem at3_s (G:GH) (b:Nat):Con Tryz.prog 118 #[.pointer (some ⟨b,0,none⟩)] G [] (Just (.iface 193 (.pointer (some ⟨b,0+3,none⟩))) G):=by
 (refine v_enter Tryz.func118 rfl Tryz.ntmps118 rfl ?_;intro B _)
 repeat' (first|refine Wa ?_|(refine Wc ⟨?_,?_⟩<;>first|exact True.intro|intro h)|fail)
 refine Vr ?_
 exact ⟨rfl,rfl,rfl⟩
theorem at4_s (G:GH) (b:Nat):Con Tryz.prog 120 #[.pointer (some ⟨b,0,none⟩)] G [] (Just (.iface 193 (.pointer (some ⟨b,0+5,none⟩))) G):=by
 (refine v_enter Tryz.func120 rfl Tryz.ntmps120 rfl ?_;intro B _)
 repeat' (first|refine Wa ?_|(refine Wc ⟨?_,?_⟩<;>first|exact True.intro|intro h)|fail)
 refine Vr ?_
 exact ⟨rfl,rfl,rfl⟩
theorem at5_s (G:GH) (b:Nat):Con Tryz.prog 121 #[.pointer (some ⟨b,0,none⟩)] G [] (Just (.iface 193 (.pointer (some ⟨b,0+4,none⟩))) G):=by
 (refine v_enter Tryz.func121 rfl Tryz.ntmps121 rfl ?_;intro B _)
 repeat' (first|refine Wa ?_|(refine Wc ⟨?_,?_⟩<;>first|exact True.intro|intro h)|fail)
 refine Vr ?_
 exact ⟨rfl,rfl,rfl⟩
theorem at6_s (G:GH) (b:Nat):Con Tryz.prog 122 #[.pointer (some ⟨b,0,none⟩)] G [] (Just (.iface 192 (.pointer (some ⟨b,0+6,none⟩))) G):=by
 (refine v_enter Tryz.func122 rfl Tryz.ntmps122 rfl ?_;intro B _)
 repeat' (first|refine Wa ?_|(refine Wc ⟨?_,?_⟩<;>first|exact True.intro|intro h)|fail)
 refine Vr ?_
 exact ⟨rfl,rfl,rfl⟩
def hasOf:Nat→Int
 | 0=>1
 | 1=>1
 | 2=>2
 | 3=>4
 | 4=>8
 | _=>16
def mostOf:Nat→Int
 | 0=>8
 | 1=>4294967296
 | _=>9
def Cm.num (c:Cm):Nat→Int
 | 0=>c.client
 | 1=>c.seq
 | _=>c.node
def Cm.txt (c:Cm):Nat→ByteArray
 | 2=>c.key
 | 3=>c.old
 | _=>c.val
noncomputable def isTxt:Nat→ByteArray→Bool
 | 2=>keyB
 | _=>valB
def isNum (j:Nat):Bool:=j == 0 || j == 1 || j == 5
def numR (c:Cm) (f:Int) (j:Nat):Bool:=if isNum j then (if band f (hasOf j)=0 then true else decide (1≤c.num j∧c.num j≤mostOf j)) else true
def numF (c:Cm) (f:Int) (j:Nat):Bool:=if isNum j then (if band f (hasOf j)=0 then decide (c.num j=0) else true) else true
noncomputable def txtT (c:Cm) (f:Int) (j:Nat):Bool:=if isNum j then true else (if band f (hasOf j)=0 then true else isTxt j (c.txt j))
def txtF (c:Cm) (f:Int) (j:Nat):Bool:=if isNum j then true else (if band f (hasOf j)=0 then decide ((c.txt j).size=0) else true)
theorem dec_nil {s:ByteArray}:dec (s={ data:=#[] })=decide (s.size=0):=by
 rw [dec_eq]
 rw [decide_eq_decide]
 constructor
 ·intro h;rw [h];rfl
 ·intro h
  apply ByteArray.ext
  exact Array.eq_empty_of_size_eq_zero h
theorem number_s (G:GH) (c:Cm) (f:Int) (cb j:Nat) (hj:j<6):Con Tryz.prog 59 #[.agg (partL j).toArray,.pointer (some ⟨cb,0,none⟩),.int .i64 f] G [(cb,.cells c.cells.toArray 41 (0,0))]
 (Keeps (.tuple [.bool (numR c f j),.bool (numF c f j)].toArray) G [(cb,.cells c.cells.toArray 41 (0,0))]):=by
 apply Con.keeps
 unfold Cm.cells
 (refine v_enter Tryz.func59 rfl Tryz.ntmps59 rfl ?_;intro B _)
 obtain rfl|rfl|rfl|rfl|rfl|rfl:j=0∨j=1∨j=2∨j=3∨j=4∨j=5:=by omega
 all_goals
  repeat' (first|refine Wa ?_|(refine Wc ⟨?_,?_⟩<;>first|exact True.intro|intro h)|apply v_callFJ0 (hs:=at1_s _ cb);(case hx|ha|hd=>rfl)|apply v_callFJ0 (hs:=at2_s _ cb);(case hx|ha|hd=>rfl)|apply v_callFJ0 (hs:=at3_s _ cb);(case hx|ha|hd=>rfl)|apply v_callFJ0 (hs:=at4_s _ cb);(case hx|ha|hd=>rfl)|apply v_callFJ0 (hs:=at5_s _ cb);(case hx|ha|hd=>rfl)|apply v_callFJ0 (hs:=at6_s _ cb);(case hx|ha|hd=>rfl)|refine Wr ?_|(refine Wb ?_;intro b)|fail)
 all_goals try
  (refine v_ret [(cb,_)] (outsA2 rfl rfl rfl) sS ?_
   exact ⟨rfl,rfl⟩)
 all_goals try
  (refine Dz _ ?_
   all_goals refine Dt [0,1,2,3,4,5] ?_
   all_goals refine Dd ?_
   refine v_ret [(cb,_)] (outsA2 rfl rfl rfl) sS ?_
   refine ⟨?_,rfl⟩
   simp [numR,numF,isNum,hasOf,Cm.num,dec_eq, *])
 all_goals
  (refine Dz _ ?_
   all_goals refine Dt [0,1,2,3,4] ?_
   all_goals (try (refine Dg 5 ⟨?_,?_⟩<;>first|exact True.intro|intro h))
   all_goals refine Dt [5,6,7,8,9,10,11,12,13] ?_
   all_goals refine Dd ?_
   all_goals
    (refine v_ret [(cb,_)] (outsA2 rfl rfl rfl) sS ?_
     refine ⟨?_,rfl⟩
     simp [numR,numF,isNum,hasOf,mostOf,Cm.num,dec_eq, *]))
theorem text_s {G:GH}(hT:TabsG G) (c:Cm) (hk:c.key.size≤maxLen) (hv:c.val.size≤maxLen) (ho:c.old.size≤maxLen) (f:Int) (cb j:Nat) (hj:j<6):Con Tryz.prog 60 #[.agg (partL j).toArray,.pointer (some ⟨cb,0,none⟩),.int .i64 f] G [(cb,.cells c.cells.toArray 41 (0,0))]
 (Keeps (.tuple [.bool (txtT c f j),.bool (txtF c f j)].toArray) G [(cb,.cells c.cells.toArray 41 (0,0))]):=by
 apply Con.keeps
 unfold Cm.cells
 simp only [maxLen] at hk hv ho
 (refine v_enter Tryz.func60 rfl Tryz.ntmps60 rfl ?_;intro B _)
 obtain rfl|rfl|rfl|rfl|rfl|rfl:j=0∨j=1∨j=2∨j=3∨j=4∨j=5:=by omega
 all_goals
  repeat' (first|refine Wa ?_|(refine Wc ⟨?_,?_⟩<;>first|exact True.intro|intro h)|apply v_callFJ0 (hs:=at1_s _ cb);(case hx|ha|hd=>rfl)|apply v_callFJ0 (hs:=at2_s _ cb);(case hx|ha|hd=>rfl)|apply v_callFJ0 (hs:=at3_s _ cb);(case hx|ha|hd=>rfl)|apply v_callFJ0 (hs:=at4_s _ cb);(case hx|ha|hd=>rfl)|apply v_callFJ0 (hs:=at5_s _ cb);(case hx|ha|hd=>rfl)|apply v_callFJ0 (hs:=at6_s _ cb);(case hx|ha|hd=>rfl)|refine Wr ?_|(refine Wb ?_;intro b)|fail)
 all_goals try
  (refine v_ret [(cb,_)] (outsA2 rfl rfl rfl) sS ?_
   exact ⟨rfl,rfl⟩)
 all_goals try
  (refine Dz _ ?_
   all_goals refine Dt [0,1,2,3,4,5] ?_
   all_goals refine Dd ?_
   refine v_ret [(cb,_)] (outsA2 rfl rfl rfl) sS ?_
   refine ⟨?_,rfl⟩
   simp [txtT,txtF,isNum,hasOf,Cm.txt,dec_nil, *])
 all_goals
  (refine Dz _ ?_
   all_goals refine Dt [0,1,2,3,4] ?_
   all_goals (first|apply d_callJ0 5 (hs:=(key_s (s:=c.key) hT (by omega)));(case hi=>rfl);(case hr=>kernel_rfl);(case ha|hx|hd=>rfl)|apply d_callJ0 5 (hs:=(val_s (s:=c.old) hT (by omega)));(case hi=>rfl);(case hr=>kernel_rfl);(case ha|hx|hd=>rfl)|apply d_callJ0 5 (hs:=(val_s (s:=c.val) hT (by omega)));(case hi=>rfl);(case hr=>kernel_rfl);(case ha|hx|hd=>rfl)|fail)
   all_goals refine Dt [6,7] ?_
   all_goals refine Dd ?_
   all_goals
    (refine v_ret [(cb,_)] (outsA2 rfl rfl rfl) sS ?_
     refine ⟨?_,rfl⟩
     simp [txtT,txtF,isNum,hasOf,isTxt,Cm.txt,dec_nil, *]))
def allB (g:Nat→Bool):Nat→Bool
 | 0=>true
 | k+1=>allB g k && g k
def allB2 (g h:Nat→Bool):Nat→Bool
 | 0=>true
 | k+1=>(allB2 g h k && g k) && h k
noncomputable def cmdI (c:Cm):Int :=
 if (cmdFields c.kind).2=false then 5
 else if allB (numR c (cmdFields c.kind).1) 6=false then 6
 else if allB (txtT c (cmdFields c.kind).1) 6=false then 7
 else if allB2 (numF c (cmdFields c.kind).1) (txtF c (cmdFields c.kind).1) 6=false then 3 else 0
theorem partsL_at {k:Nat}(hk:k<6):(partsL.drop (k*4)).take 4=partL k:=by
 obtain rfl|rfl|rfl|rfl|rfl|rfl:k=0∨k=1∨k=2∨k=3∨k=4∨k=5:=by omega
 all_goals rfl
theorem partsG {G:GH}{b:Nat}{e:TypeId}(h:G b=some (.cells partsL.toArray e (0,0))) {k:Nat}(hk:k<6):CellsG G ((⟨b,0,none⟩:Addr).add (k*4)) (partL k):=by
 intro j v hv
 rw [add_mk,add_mk,Nat.zero_add]
 rw [← partsL_at hk,List.getElem?_take] at hv
 split at hv
 ·rw [List.getElem?_drop] at hv
  simp [GH.cell?,h,hv]
 ·cases hv
theorem cmdCheck_s {G:GH}(hT:TabsG G) (c:Cm) (hc:c.ok):Con Tryz.prog 24 #[.agg c.cells.toArray] G [] (fun r _ μ'=>r=.int .i64 (cmdI c)∧μ'=[]):=by
 obtain ⟨hk1,hc1,hs1,hk,hv,ho,hn1⟩:=id hc
 (refine v_enter Tryz.func24 rfl Tryz.ntmps24 rfl ?_;intro B _)
 obtain ⟨f,is,hf⟩:∃ f is,cmdFields c.kind=(f,is):=⟨_,_,rfl⟩
 have hfs:=fields_s G c.kind
 rw [hf] at hfs
 repeat' (first|refine Wa ?_|(refine Wc ⟨?_,?_⟩<;>first|exact True.intro|intro h)|apply v_box (zs:=c.cells);(case hx|hz|hd=>rfl);intro cb|refine cJ hfs ?_|refine Wr ?_|(refine Wb ?_;intro b)|fail)
 ·refine Vr ?_
  refine ⟨?_,rfl⟩
  rw [cmdI,hf,if_pos (by assumption)]
 refine v_call (μ1:=[]) (μ2:=_) rfl (parts_s G) (List.Perm.refl _) rfl ?_
 rintro r G' μ1 - ⟨rfl,pb,rfl,rfl⟩
 refine v_frz [(pb,_)] (by repeat (first|exact PickA.last|exact PickA.here _|exact PickA.one _|apply PickA.cons|apply PickA.app)) ?_
 intro G1 hle1 hG1
 have hpb:=hG1 pb _ (List.Mem.head _)
 have hT1:=hT.le hle1
 repeat' (first|refine Wa ?_|(refine Wc ⟨?_,?_⟩<;>first|exact True.intro|intro h)|refine Wr ?_|(refine Wb ?_;intro b)|fail)
 refine v_loop [24,23,22,5,6,7,1,3] (fun us G' μ'=>G'=G1∧μ'=[(cb,.cells c.cells.toArray 41 (0,0))]∧∃ (k:Nat) (R T F:Bool),us=[Value.int .i64 (k:Int),.int .i64 6,.slice (some ⟨pb,0,none⟩) 6 6,.bool R,.bool T,.bool F,.pointer (some ⟨cb,0,none⟩),.int .i64 f]∧k≤6∧R=allB (numR c f) k∧T=allB (txtT c f) k∧F=allB2 (numF c f) (txtF c f) k) (fun us=>7-(headI us).toNat) rfl ⟨rfl,rfl,0,true,true,true,rfl,by omega,rfl,rfl,rfl⟩ ?_
 rintro us G' μ' ⟨rfl,rfl,k,R,T,F,rfl,hk6,hR,hTt,hF⟩
 by_cases hlt:k<6
 ·have hnum:=number_s G' c f cb k hlt
  have htxt:=text_s hT1 c hk hv ho f cb k hlt
  have hpk:=partsG hpb hlt
  have e1:allB (numR c f) (k+1)=(R && numR c f k):=by rw [hR];rfl
  have e2:allB (txtT c f) (k+1)=(T && txtT c f k):=by rw [hTt];rfl
  have e3:allB2 (numF c f) (txtF c f) (k+1)=((F && numF c f k) && txtF c f k):=by rw [hF];rfl
  generalize numR c f k=a1 at *
  generalize numF c f k=a2 at *
  generalize txtT c f k=a3 at *
  generalize txtF c f k=a4 at *
  clear hR hTt hF
  obtain rfl|rfl|rfl|rfl|rfl|rfl:k=0∨k=1∨k=2∨k=3∨k=4∨k=5:=by omega
  all_goals
   (repeat' (first|apply v_guardM;(case h1|h2=>rfl);(case hop=>(apply p_move;rfl));(case hd=>rfl)|refine Wa ?_|(refine Wc ⟨?_,?_⟩<;>first|exact True.intro|intro h)|refine RN hpk ?_|refine cK hnum ?_|refine cK htxt ?_|refine Wr ?_|(refine Wb ?_;intro b)|fail))
  all_goals
   (refine v_only [(cb,_)] (by repeat (first|exact PickA.last|exact PickA.here _|exact PickA.one _|apply PickA.cons|apply PickA.app)) ?_
    refine v_again rfl ⟨rfl,rfl,_,_,_,_,?_,?_,e1.symm,e2.symm,e3.symm⟩ ?_
    ·rfl
    ·omega
    ·simp [headI])
 ·obtain rfl:k=6:=by omega
  have his:is=true:=by assumption
  subst his
  repeat' (first|refine Wa ?_|(refine Wc ⟨?_,?_⟩<;>first|exact True.intro|intro h)|refine Wr ?_|(refine Wb ?_;intro b)|fail)
  all_goals
   (refine Vr ?_
    refine ⟨?_,rfl⟩
    rw [cmdI,hf,if_neg (by simp)]
    simp only [← hR,← hTt,← hF]
    clear hR hTt hF
    simp [*])
theorem band_0_1:band 0 1=0:=by decide
theorem band_0_2:band 0 2=0:=by decide
theorem band_0_4:band 0 4=0:=by decide
theorem band_0_8:band 0 8=0:=by decide
theorem band_0_16:band 0 16=0:=by decide
theorem band_3_1:band 3 1=1:=by decide
theorem band_3_2:band 3 2=2:=by decide
theorem band_3_4:band 3 4=0:=by decide
theorem band_3_8:band 3 8=0:=by decide
theorem band_3_16:band 3 16=0:=by decide
theorem band_11_1:band 11 1=1:=by decide
theorem band_11_2:band 11 2=2:=by decide
theorem band_11_4:band 11 4=0:=by decide
theorem band_11_8:band 11 8=8:=by decide
theorem band_11_16:band 11 16=0:=by decide
theorem band_15_1:band 15 1=1:=by decide
theorem band_15_2:band 15 2=2:=by decide
theorem band_15_4:band 15 4=4:=by decide
theorem band_15_8:band 15 8=8:=by decide
theorem band_15_16:band 15 16=0:=by decide
theorem band_16_1:band 16 1=0:=by decide
theorem band_16_2:band 16 2=0:=by decide
theorem band_16_4:band 16 4=0:=by decide
theorem band_16_8:band 16 8=0:=by decide
theorem band_16_16:band 16 16=16:=by decide
theorem owned_s (G:GH) (k:Int):Con Tryz.prog 37 #[.int .i64 k] G [] (Just (.bool (decide (2≤k∧k≤5))) G):=by
 (refine v_enter Tryz.func37 rfl Tryz.ntmps37 rfl ?_;intro B _)
 repeat' (first|refine Wa ?_|(refine Wc ⟨?_,?_⟩<;>first|exact True.intro|intro h)|fail)
 all_goals
  (refine Vr ?_
   refine ⟨?_,rfl,rfl⟩
   first
    |(rw [decide_eq_false (by omega)])
    |(by_cases h5:k≤5
      ·rw [dec_pos h5,decide_eq_true (by omega)]
      ·rw [dec_neg h5,decide_eq_false (by omega)]))
theorem member_s (G:GH) (k:Int):Con Tryz.prog 38 #[.int .i64 k] G [] (Just (.bool (decide (k=7∨k=8))) G):=by
 (refine v_enter Tryz.func38 rfl Tryz.ntmps38 rfl ?_;intro B _)
 repeat' (first|refine Wa ?_|(refine Wc ⟨?_,?_⟩<;>first|exact True.intro|intro h)|fail)
 all_goals
  (refine Vr ?_
   refine ⟨?_,rfl,rfl⟩
   first
    |(rw [decide_eq_true (by omega)])
    |(by_cases h5:k=8
      ·rw [dec_pos h5,decide_eq_true (by omega)]
      ·rw [dec_neg h5,decide_eq_false (by omega)]))
noncomputable def cmdE (c:Cm):Int :=
 if c.kind<1∨8<c.kind then 5
 else if ((2≤c.kind∧c.kind≤5)∧¬ (1≤c.client∧c.client≤8∧1≤c.seq∧c.seq≤4294967296))∨((c.kind=7∨c.kind=8)∧¬ (1≤c.node∧c.node≤9)) then 6
 else if ((2≤c.kind∧c.kind≤5)∧keyB c.key=false)∨((c.kind=2∨c.kind=5)∧valB c.val=false)∨(c.kind=5∧valB c.old=false) then 7
 else if (¬ (2≤c.kind∧c.kind≤5)∧(c.client≠0∨c.seq≠0∨c.key.size≠0))∨(¬ (c.kind=2∨c.kind=5)∧c.val.size≠0)∨(c.kind≠5∧c.old.size≠0)∨(¬ (c.kind=7∨c.kind=8)∧c.node≠0) then 3 else 0
theorem nil_iff {s:ByteArray}:s={ data:=#[] }↔s.size=0:=by
 constructor
 ·intro h;rw [h];rfl
 ·intro h
  apply ByteArray.ext
  exact Array.eq_empty_of_size_eq_zero h
theorem ite6 {p:Bool}{a b:Int}{q:Prop} [Decidable q] (h:p=false↔q):(if p=false then a else b)=(if q then a else b):=by
 by_cases hq:q
 ·rw [if_pos hq,if_pos (h.2 hq)]
 ·rw [if_neg hq,if_neg (fun e=>hq (h.1 e))]
theorem cmdI_case {c:Cm}(f:Int) {q1 q2 q3:Prop} [Decidable q1] [Decidable q2] [Decidable q3] (hf:cmdFields c.kind=(f,true)) (h1:allB (numR c f) 6=false↔q1) (h2:allB (txtT c f) 6=false↔q2) (h3:allB2 (numF c f) (txtF c f) 6=false↔q3) :
 (if (cmdFields c.kind).2=false then (5:Int) else if allB (numR c (cmdFields c.kind).1) 6=false then 6 else if allB (txtT c (cmdFields c.kind).1) 6=false then 7 else if allB2 (numF c (cmdFields c.kind).1) (txtF c (cmdFields c.kind).1) 6=false then 3 else 0)=(if q1 then 6 else if q2 then 7 else if q3 then 3 else 0):=by
 rw [hf,if_neg (by simp),ite6 h1,ite6 h2,ite6 h3]
theorem cmdI_eq (c:Cm):cmdI c=cmdE c:=by
 obtain ⟨kind,client,seq,key,val,old,node⟩:=c
 by_cases hr:kind<1∨8<kind
 ·have:cmdFields kind=(0,false):=by unfold cmdFields;rw [if_neg (by omega),if_neg (by omega),if_neg (by omega),if_neg (by omega),if_neg (by omega)]
  simp only [cmdI,cmdE,this,if_true]
  rw [if_pos hr]
 ·unfold cmdI cmdE
  simp only
  rw [if_neg hr]
  obtain rfl|rfl|rfl|rfl|rfl|rfl|rfl|rfl:kind=1∨kind=2∨kind=3∨kind=4∨kind=5∨kind=6∨kind=7∨kind=8:=by omega
  ·refine cmdI_case (c:=⟨1,client,seq,key,val,old,node⟩) 0 rfl ?_ ?_ ?_
   ·first|(simp [allB,allB2,numR,numF,txtT,txtF,isNum,hasOf,mostOf,isTxt,Cm.num,Cm.txt,band_0_1,band_0_2,band_0_4,band_0_8,band_0_16,band_3_1,band_3_2,band_3_4,band_3_8,band_3_16,band_11_1,band_11_2,band_11_4,band_11_8,band_11_16,band_15_1,band_15_2,band_15_4,band_15_8,band_15_16,band_16_1,band_16_2,band_16_4,band_16_8,band_16_16];done)|(simp [allB,allB2,numR,numF,txtT,txtF,isNum,hasOf,mostOf,isTxt,Cm.num,Cm.txt,band_0_1,band_0_2,band_0_4,band_0_8,band_0_16,band_3_1,band_3_2,band_3_4,band_3_8,band_3_16,band_11_1,band_11_2,band_11_4,band_11_8,band_11_16,band_15_1,band_15_2,band_15_4,band_15_8,band_15_16,band_16_1,band_16_2,band_16_4,band_16_8,band_16_16];omega)|(simp [allB,allB2,numR,numF,txtT,txtF,isNum,hasOf,mostOf,isTxt,Cm.num,Cm.txt,band_0_1,band_0_2,band_0_4,band_0_8,band_0_16,band_3_1,band_3_2,band_3_4,band_3_8,band_3_16,band_11_1,band_11_2,band_11_4,band_11_8,band_11_16,band_15_1,band_15_2,band_15_4,band_15_8,band_15_16,band_16_1,band_16_2,band_16_4,band_16_8,band_16_16];grind)
   ·cases hk:keyB key<;>cases hv:valB val<;>cases ho:valB old<;>simp [hk,hv,ho,allB,allB2,numR,numF,txtT,txtF,isNum,hasOf,mostOf,isTxt,Cm.num,Cm.txt,band_0_1,band_0_2,band_0_4,band_0_8,band_0_16,band_3_1,band_3_2,band_3_4,band_3_8,band_3_16,band_11_1,band_11_2,band_11_4,band_11_8,band_11_16,band_15_1,band_15_2,band_15_4,band_15_8,band_15_16,band_16_1,band_16_2,band_16_4,band_16_8,band_16_16]
   ·first|(simp [allB,allB2,numR,numF,txtT,txtF,isNum,hasOf,mostOf,isTxt,Cm.num,Cm.txt,band_0_1,band_0_2,band_0_4,band_0_8,band_0_16,band_3_1,band_3_2,band_3_4,band_3_8,band_3_16,band_11_1,band_11_2,band_11_4,band_11_8,band_11_16,band_15_1,band_15_2,band_15_4,band_15_8,band_15_16,band_16_1,band_16_2,band_16_4,band_16_8,band_16_16];done)|(simp [allB,allB2,numR,numF,txtT,txtF,isNum,hasOf,mostOf,isTxt,Cm.num,Cm.txt,band_0_1,band_0_2,band_0_4,band_0_8,band_0_16,band_3_1,band_3_2,band_3_4,band_3_8,band_3_16,band_11_1,band_11_2,band_11_4,band_11_8,band_11_16,band_15_1,band_15_2,band_15_4,band_15_8,band_15_16,band_16_1,band_16_2,band_16_4,band_16_8,band_16_16];omega)|(simp [allB,allB2,numR,numF,txtT,txtF,isNum,hasOf,mostOf,isTxt,Cm.num,Cm.txt,band_0_1,band_0_2,band_0_4,band_0_8,band_0_16,band_3_1,band_3_2,band_3_4,band_3_8,band_3_16,band_11_1,band_11_2,band_11_4,band_11_8,band_11_16,band_15_1,band_15_2,band_15_4,band_15_8,band_15_16,band_16_1,band_16_2,band_16_4,band_16_8,band_16_16];grind)
  ·refine cmdI_case (c:=⟨2,client,seq,key,val,old,node⟩) 11 rfl ?_ ?_ ?_
   ·first|(simp [allB,allB2,numR,numF,txtT,txtF,isNum,hasOf,mostOf,isTxt,Cm.num,Cm.txt,band_0_1,band_0_2,band_0_4,band_0_8,band_0_16,band_3_1,band_3_2,band_3_4,band_3_8,band_3_16,band_11_1,band_11_2,band_11_4,band_11_8,band_11_16,band_15_1,band_15_2,band_15_4,band_15_8,band_15_16,band_16_1,band_16_2,band_16_4,band_16_8,band_16_16];done)|(simp [allB,allB2,numR,numF,txtT,txtF,isNum,hasOf,mostOf,isTxt,Cm.num,Cm.txt,band_0_1,band_0_2,band_0_4,band_0_8,band_0_16,band_3_1,band_3_2,band_3_4,band_3_8,band_3_16,band_11_1,band_11_2,band_11_4,band_11_8,band_11_16,band_15_1,band_15_2,band_15_4,band_15_8,band_15_16,band_16_1,band_16_2,band_16_4,band_16_8,band_16_16];omega)|(simp [allB,allB2,numR,numF,txtT,txtF,isNum,hasOf,mostOf,isTxt,Cm.num,Cm.txt,band_0_1,band_0_2,band_0_4,band_0_8,band_0_16,band_3_1,band_3_2,band_3_4,band_3_8,band_3_16,band_11_1,band_11_2,band_11_4,band_11_8,band_11_16,band_15_1,band_15_2,band_15_4,band_15_8,band_15_16,band_16_1,band_16_2,band_16_4,band_16_8,band_16_16];grind)
   ·cases hk:keyB key<;>cases hv:valB val<;>cases ho:valB old<;>simp [hk,hv,ho,allB,allB2,numR,numF,txtT,txtF,isNum,hasOf,mostOf,isTxt,Cm.num,Cm.txt,band_0_1,band_0_2,band_0_4,band_0_8,band_0_16,band_3_1,band_3_2,band_3_4,band_3_8,band_3_16,band_11_1,band_11_2,band_11_4,band_11_8,band_11_16,band_15_1,band_15_2,band_15_4,band_15_8,band_15_16,band_16_1,band_16_2,band_16_4,band_16_8,band_16_16]
   ·first|(simp [allB,allB2,numR,numF,txtT,txtF,isNum,hasOf,mostOf,isTxt,Cm.num,Cm.txt,band_0_1,band_0_2,band_0_4,band_0_8,band_0_16,band_3_1,band_3_2,band_3_4,band_3_8,band_3_16,band_11_1,band_11_2,band_11_4,band_11_8,band_11_16,band_15_1,band_15_2,band_15_4,band_15_8,band_15_16,band_16_1,band_16_2,band_16_4,band_16_8,band_16_16];done)|(simp [allB,allB2,numR,numF,txtT,txtF,isNum,hasOf,mostOf,isTxt,Cm.num,Cm.txt,band_0_1,band_0_2,band_0_4,band_0_8,band_0_16,band_3_1,band_3_2,band_3_4,band_3_8,band_3_16,band_11_1,band_11_2,band_11_4,band_11_8,band_11_16,band_15_1,band_15_2,band_15_4,band_15_8,band_15_16,band_16_1,band_16_2,band_16_4,band_16_8,band_16_16];omega)|(simp [allB,allB2,numR,numF,txtT,txtF,isNum,hasOf,mostOf,isTxt,Cm.num,Cm.txt,band_0_1,band_0_2,band_0_4,band_0_8,band_0_16,band_3_1,band_3_2,band_3_4,band_3_8,band_3_16,band_11_1,band_11_2,band_11_4,band_11_8,band_11_16,band_15_1,band_15_2,band_15_4,band_15_8,band_15_16,band_16_1,band_16_2,band_16_4,band_16_8,band_16_16];grind)
  ·refine cmdI_case (c:=⟨3,client,seq,key,val,old,node⟩) 3 rfl ?_ ?_ ?_
   ·first|(simp [allB,allB2,numR,numF,txtT,txtF,isNum,hasOf,mostOf,isTxt,Cm.num,Cm.txt,band_0_1,band_0_2,band_0_4,band_0_8,band_0_16,band_3_1,band_3_2,band_3_4,band_3_8,band_3_16,band_11_1,band_11_2,band_11_4,band_11_8,band_11_16,band_15_1,band_15_2,band_15_4,band_15_8,band_15_16,band_16_1,band_16_2,band_16_4,band_16_8,band_16_16];done)|(simp [allB,allB2,numR,numF,txtT,txtF,isNum,hasOf,mostOf,isTxt,Cm.num,Cm.txt,band_0_1,band_0_2,band_0_4,band_0_8,band_0_16,band_3_1,band_3_2,band_3_4,band_3_8,band_3_16,band_11_1,band_11_2,band_11_4,band_11_8,band_11_16,band_15_1,band_15_2,band_15_4,band_15_8,band_15_16,band_16_1,band_16_2,band_16_4,band_16_8,band_16_16];omega)|(simp [allB,allB2,numR,numF,txtT,txtF,isNum,hasOf,mostOf,isTxt,Cm.num,Cm.txt,band_0_1,band_0_2,band_0_4,band_0_8,band_0_16,band_3_1,band_3_2,band_3_4,band_3_8,band_3_16,band_11_1,band_11_2,band_11_4,band_11_8,band_11_16,band_15_1,band_15_2,band_15_4,band_15_8,band_15_16,band_16_1,band_16_2,band_16_4,band_16_8,band_16_16];grind)
   ·cases hk:keyB key<;>cases hv:valB val<;>cases ho:valB old<;>simp [hk,hv,ho,allB,allB2,numR,numF,txtT,txtF,isNum,hasOf,mostOf,isTxt,Cm.num,Cm.txt,band_0_1,band_0_2,band_0_4,band_0_8,band_0_16,band_3_1,band_3_2,band_3_4,band_3_8,band_3_16,band_11_1,band_11_2,band_11_4,band_11_8,band_11_16,band_15_1,band_15_2,band_15_4,band_15_8,band_15_16,band_16_1,band_16_2,band_16_4,band_16_8,band_16_16]
   ·first|(simp [allB,allB2,numR,numF,txtT,txtF,isNum,hasOf,mostOf,isTxt,Cm.num,Cm.txt,band_0_1,band_0_2,band_0_4,band_0_8,band_0_16,band_3_1,band_3_2,band_3_4,band_3_8,band_3_16,band_11_1,band_11_2,band_11_4,band_11_8,band_11_16,band_15_1,band_15_2,band_15_4,band_15_8,band_15_16,band_16_1,band_16_2,band_16_4,band_16_8,band_16_16];done)|(simp [allB,allB2,numR,numF,txtT,txtF,isNum,hasOf,mostOf,isTxt,Cm.num,Cm.txt,band_0_1,band_0_2,band_0_4,band_0_8,band_0_16,band_3_1,band_3_2,band_3_4,band_3_8,band_3_16,band_11_1,band_11_2,band_11_4,band_11_8,band_11_16,band_15_1,band_15_2,band_15_4,band_15_8,band_15_16,band_16_1,band_16_2,band_16_4,band_16_8,band_16_16];omega)|(simp [allB,allB2,numR,numF,txtT,txtF,isNum,hasOf,mostOf,isTxt,Cm.num,Cm.txt,band_0_1,band_0_2,band_0_4,band_0_8,band_0_16,band_3_1,band_3_2,band_3_4,band_3_8,band_3_16,band_11_1,band_11_2,band_11_4,band_11_8,band_11_16,band_15_1,band_15_2,band_15_4,band_15_8,band_15_16,band_16_1,band_16_2,band_16_4,band_16_8,band_16_16];grind)
  ·refine cmdI_case (c:=⟨4,client,seq,key,val,old,node⟩) 3 rfl ?_ ?_ ?_
   ·first|(simp [allB,allB2,numR,numF,txtT,txtF,isNum,hasOf,mostOf,isTxt,Cm.num,Cm.txt,band_0_1,band_0_2,band_0_4,band_0_8,band_0_16,band_3_1,band_3_2,band_3_4,band_3_8,band_3_16,band_11_1,band_11_2,band_11_4,band_11_8,band_11_16,band_15_1,band_15_2,band_15_4,band_15_8,band_15_16,band_16_1,band_16_2,band_16_4,band_16_8,band_16_16];done)|(simp [allB,allB2,numR,numF,txtT,txtF,isNum,hasOf,mostOf,isTxt,Cm.num,Cm.txt,band_0_1,band_0_2,band_0_4,band_0_8,band_0_16,band_3_1,band_3_2,band_3_4,band_3_8,band_3_16,band_11_1,band_11_2,band_11_4,band_11_8,band_11_16,band_15_1,band_15_2,band_15_4,band_15_8,band_15_16,band_16_1,band_16_2,band_16_4,band_16_8,band_16_16];omega)|(simp [allB,allB2,numR,numF,txtT,txtF,isNum,hasOf,mostOf,isTxt,Cm.num,Cm.txt,band_0_1,band_0_2,band_0_4,band_0_8,band_0_16,band_3_1,band_3_2,band_3_4,band_3_8,band_3_16,band_11_1,band_11_2,band_11_4,band_11_8,band_11_16,band_15_1,band_15_2,band_15_4,band_15_8,band_15_16,band_16_1,band_16_2,band_16_4,band_16_8,band_16_16];grind)
   ·cases hk:keyB key<;>cases hv:valB val<;>cases ho:valB old<;>simp [hk,hv,ho,allB,allB2,numR,numF,txtT,txtF,isNum,hasOf,mostOf,isTxt,Cm.num,Cm.txt,band_0_1,band_0_2,band_0_4,band_0_8,band_0_16,band_3_1,band_3_2,band_3_4,band_3_8,band_3_16,band_11_1,band_11_2,band_11_4,band_11_8,band_11_16,band_15_1,band_15_2,band_15_4,band_15_8,band_15_16,band_16_1,band_16_2,band_16_4,band_16_8,band_16_16]
   ·first|(simp [allB,allB2,numR,numF,txtT,txtF,isNum,hasOf,mostOf,isTxt,Cm.num,Cm.txt,band_0_1,band_0_2,band_0_4,band_0_8,band_0_16,band_3_1,band_3_2,band_3_4,band_3_8,band_3_16,band_11_1,band_11_2,band_11_4,band_11_8,band_11_16,band_15_1,band_15_2,band_15_4,band_15_8,band_15_16,band_16_1,band_16_2,band_16_4,band_16_8,band_16_16];done)|(simp [allB,allB2,numR,numF,txtT,txtF,isNum,hasOf,mostOf,isTxt,Cm.num,Cm.txt,band_0_1,band_0_2,band_0_4,band_0_8,band_0_16,band_3_1,band_3_2,band_3_4,band_3_8,band_3_16,band_11_1,band_11_2,band_11_4,band_11_8,band_11_16,band_15_1,band_15_2,band_15_4,band_15_8,band_15_16,band_16_1,band_16_2,band_16_4,band_16_8,band_16_16];omega)|(simp [allB,allB2,numR,numF,txtT,txtF,isNum,hasOf,mostOf,isTxt,Cm.num,Cm.txt,band_0_1,band_0_2,band_0_4,band_0_8,band_0_16,band_3_1,band_3_2,band_3_4,band_3_8,band_3_16,band_11_1,band_11_2,band_11_4,band_11_8,band_11_16,band_15_1,band_15_2,band_15_4,band_15_8,band_15_16,band_16_1,band_16_2,band_16_4,band_16_8,band_16_16];grind)
  ·refine cmdI_case (c:=⟨5,client,seq,key,val,old,node⟩) 15 rfl ?_ ?_ ?_
   ·first|(simp [allB,allB2,numR,numF,txtT,txtF,isNum,hasOf,mostOf,isTxt,Cm.num,Cm.txt,band_0_1,band_0_2,band_0_4,band_0_8,band_0_16,band_3_1,band_3_2,band_3_4,band_3_8,band_3_16,band_11_1,band_11_2,band_11_4,band_11_8,band_11_16,band_15_1,band_15_2,band_15_4,band_15_8,band_15_16,band_16_1,band_16_2,band_16_4,band_16_8,band_16_16];done)|(simp [allB,allB2,numR,numF,txtT,txtF,isNum,hasOf,mostOf,isTxt,Cm.num,Cm.txt,band_0_1,band_0_2,band_0_4,band_0_8,band_0_16,band_3_1,band_3_2,band_3_4,band_3_8,band_3_16,band_11_1,band_11_2,band_11_4,band_11_8,band_11_16,band_15_1,band_15_2,band_15_4,band_15_8,band_15_16,band_16_1,band_16_2,band_16_4,band_16_8,band_16_16];omega)|(simp [allB,allB2,numR,numF,txtT,txtF,isNum,hasOf,mostOf,isTxt,Cm.num,Cm.txt,band_0_1,band_0_2,band_0_4,band_0_8,band_0_16,band_3_1,band_3_2,band_3_4,band_3_8,band_3_16,band_11_1,band_11_2,band_11_4,band_11_8,band_11_16,band_15_1,band_15_2,band_15_4,band_15_8,band_15_16,band_16_1,band_16_2,band_16_4,band_16_8,band_16_16];grind)
   ·cases hk:keyB key<;>cases hv:valB val<;>cases ho:valB old<;>simp [hk,hv,ho,allB,allB2,numR,numF,txtT,txtF,isNum,hasOf,mostOf,isTxt,Cm.num,Cm.txt,band_0_1,band_0_2,band_0_4,band_0_8,band_0_16,band_3_1,band_3_2,band_3_4,band_3_8,band_3_16,band_11_1,band_11_2,band_11_4,band_11_8,band_11_16,band_15_1,band_15_2,band_15_4,band_15_8,band_15_16,band_16_1,band_16_2,band_16_4,band_16_8,band_16_16]
   ·first|(simp [allB,allB2,numR,numF,txtT,txtF,isNum,hasOf,mostOf,isTxt,Cm.num,Cm.txt,band_0_1,band_0_2,band_0_4,band_0_8,band_0_16,band_3_1,band_3_2,band_3_4,band_3_8,band_3_16,band_11_1,band_11_2,band_11_4,band_11_8,band_11_16,band_15_1,band_15_2,band_15_4,band_15_8,band_15_16,band_16_1,band_16_2,band_16_4,band_16_8,band_16_16];done)|(simp [allB,allB2,numR,numF,txtT,txtF,isNum,hasOf,mostOf,isTxt,Cm.num,Cm.txt,band_0_1,band_0_2,band_0_4,band_0_8,band_0_16,band_3_1,band_3_2,band_3_4,band_3_8,band_3_16,band_11_1,band_11_2,band_11_4,band_11_8,band_11_16,band_15_1,band_15_2,band_15_4,band_15_8,band_15_16,band_16_1,band_16_2,band_16_4,band_16_8,band_16_16];omega)|(simp [allB,allB2,numR,numF,txtT,txtF,isNum,hasOf,mostOf,isTxt,Cm.num,Cm.txt,band_0_1,band_0_2,band_0_4,band_0_8,band_0_16,band_3_1,band_3_2,band_3_4,band_3_8,band_3_16,band_11_1,band_11_2,band_11_4,band_11_8,band_11_16,band_15_1,band_15_2,band_15_4,band_15_8,band_15_16,band_16_1,band_16_2,band_16_4,band_16_8,band_16_16];grind)
  ·refine cmdI_case (c:=⟨6,client,seq,key,val,old,node⟩) 0 rfl ?_ ?_ ?_
   ·first|(simp [allB,allB2,numR,numF,txtT,txtF,isNum,hasOf,mostOf,isTxt,Cm.num,Cm.txt,band_0_1,band_0_2,band_0_4,band_0_8,band_0_16,band_3_1,band_3_2,band_3_4,band_3_8,band_3_16,band_11_1,band_11_2,band_11_4,band_11_8,band_11_16,band_15_1,band_15_2,band_15_4,band_15_8,band_15_16,band_16_1,band_16_2,band_16_4,band_16_8,band_16_16];done)|(simp [allB,allB2,numR,numF,txtT,txtF,isNum,hasOf,mostOf,isTxt,Cm.num,Cm.txt,band_0_1,band_0_2,band_0_4,band_0_8,band_0_16,band_3_1,band_3_2,band_3_4,band_3_8,band_3_16,band_11_1,band_11_2,band_11_4,band_11_8,band_11_16,band_15_1,band_15_2,band_15_4,band_15_8,band_15_16,band_16_1,band_16_2,band_16_4,band_16_8,band_16_16];omega)|(simp [allB,allB2,numR,numF,txtT,txtF,isNum,hasOf,mostOf,isTxt,Cm.num,Cm.txt,band_0_1,band_0_2,band_0_4,band_0_8,band_0_16,band_3_1,band_3_2,band_3_4,band_3_8,band_3_16,band_11_1,band_11_2,band_11_4,band_11_8,band_11_16,band_15_1,band_15_2,band_15_4,band_15_8,band_15_16,band_16_1,band_16_2,band_16_4,band_16_8,band_16_16];grind)
   ·cases hk:keyB key<;>cases hv:valB val<;>cases ho:valB old<;>simp [hk,hv,ho,allB,allB2,numR,numF,txtT,txtF,isNum,hasOf,mostOf,isTxt,Cm.num,Cm.txt,band_0_1,band_0_2,band_0_4,band_0_8,band_0_16,band_3_1,band_3_2,band_3_4,band_3_8,band_3_16,band_11_1,band_11_2,band_11_4,band_11_8,band_11_16,band_15_1,band_15_2,band_15_4,band_15_8,band_15_16,band_16_1,band_16_2,band_16_4,band_16_8,band_16_16]
   ·first|(simp [allB,allB2,numR,numF,txtT,txtF,isNum,hasOf,mostOf,isTxt,Cm.num,Cm.txt,band_0_1,band_0_2,band_0_4,band_0_8,band_0_16,band_3_1,band_3_2,band_3_4,band_3_8,band_3_16,band_11_1,band_11_2,band_11_4,band_11_8,band_11_16,band_15_1,band_15_2,band_15_4,band_15_8,band_15_16,band_16_1,band_16_2,band_16_4,band_16_8,band_16_16];done)|(simp [allB,allB2,numR,numF,txtT,txtF,isNum,hasOf,mostOf,isTxt,Cm.num,Cm.txt,band_0_1,band_0_2,band_0_4,band_0_8,band_0_16,band_3_1,band_3_2,band_3_4,band_3_8,band_3_16,band_11_1,band_11_2,band_11_4,band_11_8,band_11_16,band_15_1,band_15_2,band_15_4,band_15_8,band_15_16,band_16_1,band_16_2,band_16_4,band_16_8,band_16_16];omega)|(simp [allB,allB2,numR,numF,txtT,txtF,isNum,hasOf,mostOf,isTxt,Cm.num,Cm.txt,band_0_1,band_0_2,band_0_4,band_0_8,band_0_16,band_3_1,band_3_2,band_3_4,band_3_8,band_3_16,band_11_1,band_11_2,band_11_4,band_11_8,band_11_16,band_15_1,band_15_2,band_15_4,band_15_8,band_15_16,band_16_1,band_16_2,band_16_4,band_16_8,band_16_16];grind)
  ·refine cmdI_case (c:=⟨7,client,seq,key,val,old,node⟩) 16 rfl ?_ ?_ ?_
   ·first|(simp [allB,allB2,numR,numF,txtT,txtF,isNum,hasOf,mostOf,isTxt,Cm.num,Cm.txt,band_0_1,band_0_2,band_0_4,band_0_8,band_0_16,band_3_1,band_3_2,band_3_4,band_3_8,band_3_16,band_11_1,band_11_2,band_11_4,band_11_8,band_11_16,band_15_1,band_15_2,band_15_4,band_15_8,band_15_16,band_16_1,band_16_2,band_16_4,band_16_8,band_16_16];done)|(simp [allB,allB2,numR,numF,txtT,txtF,isNum,hasOf,mostOf,isTxt,Cm.num,Cm.txt,band_0_1,band_0_2,band_0_4,band_0_8,band_0_16,band_3_1,band_3_2,band_3_4,band_3_8,band_3_16,band_11_1,band_11_2,band_11_4,band_11_8,band_11_16,band_15_1,band_15_2,band_15_4,band_15_8,band_15_16,band_16_1,band_16_2,band_16_4,band_16_8,band_16_16];omega)|(simp [allB,allB2,numR,numF,txtT,txtF,isNum,hasOf,mostOf,isTxt,Cm.num,Cm.txt,band_0_1,band_0_2,band_0_4,band_0_8,band_0_16,band_3_1,band_3_2,band_3_4,band_3_8,band_3_16,band_11_1,band_11_2,band_11_4,band_11_8,band_11_16,band_15_1,band_15_2,band_15_4,band_15_8,band_15_16,band_16_1,band_16_2,band_16_4,band_16_8,band_16_16];grind)
   ·cases hk:keyB key<;>cases hv:valB val<;>cases ho:valB old<;>simp [hk,hv,ho,allB,allB2,numR,numF,txtT,txtF,isNum,hasOf,mostOf,isTxt,Cm.num,Cm.txt,band_0_1,band_0_2,band_0_4,band_0_8,band_0_16,band_3_1,band_3_2,band_3_4,band_3_8,band_3_16,band_11_1,band_11_2,band_11_4,band_11_8,band_11_16,band_15_1,band_15_2,band_15_4,band_15_8,band_15_16,band_16_1,band_16_2,band_16_4,band_16_8,band_16_16]
   ·first|(simp [allB,allB2,numR,numF,txtT,txtF,isNum,hasOf,mostOf,isTxt,Cm.num,Cm.txt,band_0_1,band_0_2,band_0_4,band_0_8,band_0_16,band_3_1,band_3_2,band_3_4,band_3_8,band_3_16,band_11_1,band_11_2,band_11_4,band_11_8,band_11_16,band_15_1,band_15_2,band_15_4,band_15_8,band_15_16,band_16_1,band_16_2,band_16_4,band_16_8,band_16_16];done)|(simp [allB,allB2,numR,numF,txtT,txtF,isNum,hasOf,mostOf,isTxt,Cm.num,Cm.txt,band_0_1,band_0_2,band_0_4,band_0_8,band_0_16,band_3_1,band_3_2,band_3_4,band_3_8,band_3_16,band_11_1,band_11_2,band_11_4,band_11_8,band_11_16,band_15_1,band_15_2,band_15_4,band_15_8,band_15_16,band_16_1,band_16_2,band_16_4,band_16_8,band_16_16];omega)|(simp [allB,allB2,numR,numF,txtT,txtF,isNum,hasOf,mostOf,isTxt,Cm.num,Cm.txt,band_0_1,band_0_2,band_0_4,band_0_8,band_0_16,band_3_1,band_3_2,band_3_4,band_3_8,band_3_16,band_11_1,band_11_2,band_11_4,band_11_8,band_11_16,band_15_1,band_15_2,band_15_4,band_15_8,band_15_16,band_16_1,band_16_2,band_16_4,band_16_8,band_16_16];grind)
  ·refine cmdI_case (c:=⟨8,client,seq,key,val,old,node⟩) 16 rfl ?_ ?_ ?_
   ·first|(simp [allB,allB2,numR,numF,txtT,txtF,isNum,hasOf,mostOf,isTxt,Cm.num,Cm.txt,band_0_1,band_0_2,band_0_4,band_0_8,band_0_16,band_3_1,band_3_2,band_3_4,band_3_8,band_3_16,band_11_1,band_11_2,band_11_4,band_11_8,band_11_16,band_15_1,band_15_2,band_15_4,band_15_8,band_15_16,band_16_1,band_16_2,band_16_4,band_16_8,band_16_16];done)|(simp [allB,allB2,numR,numF,txtT,txtF,isNum,hasOf,mostOf,isTxt,Cm.num,Cm.txt,band_0_1,band_0_2,band_0_4,band_0_8,band_0_16,band_3_1,band_3_2,band_3_4,band_3_8,band_3_16,band_11_1,band_11_2,band_11_4,band_11_8,band_11_16,band_15_1,band_15_2,band_15_4,band_15_8,band_15_16,band_16_1,band_16_2,band_16_4,band_16_8,band_16_16];omega)|(simp [allB,allB2,numR,numF,txtT,txtF,isNum,hasOf,mostOf,isTxt,Cm.num,Cm.txt,band_0_1,band_0_2,band_0_4,band_0_8,band_0_16,band_3_1,band_3_2,band_3_4,band_3_8,band_3_16,band_11_1,band_11_2,band_11_4,band_11_8,band_11_16,band_15_1,band_15_2,band_15_4,band_15_8,band_15_16,band_16_1,band_16_2,band_16_4,band_16_8,band_16_16];grind)
   ·cases hk:keyB key<;>cases hv:valB val<;>cases ho:valB old<;>simp [hk,hv,ho,allB,allB2,numR,numF,txtT,txtF,isNum,hasOf,mostOf,isTxt,Cm.num,Cm.txt,band_0_1,band_0_2,band_0_4,band_0_8,band_0_16,band_3_1,band_3_2,band_3_4,band_3_8,band_3_16,band_11_1,band_11_2,band_11_4,band_11_8,band_11_16,band_15_1,band_15_2,band_15_4,band_15_8,band_15_16,band_16_1,band_16_2,band_16_4,band_16_8,band_16_16]
   ·first|(simp [allB,allB2,numR,numF,txtT,txtF,isNum,hasOf,mostOf,isTxt,Cm.num,Cm.txt,band_0_1,band_0_2,band_0_4,band_0_8,band_0_16,band_3_1,band_3_2,band_3_4,band_3_8,band_3_16,band_11_1,band_11_2,band_11_4,band_11_8,band_11_16,band_15_1,band_15_2,band_15_4,band_15_8,band_15_16,band_16_1,band_16_2,band_16_4,band_16_8,band_16_16];done)|(simp [allB,allB2,numR,numF,txtT,txtF,isNum,hasOf,mostOf,isTxt,Cm.num,Cm.txt,band_0_1,band_0_2,band_0_4,band_0_8,band_0_16,band_3_1,band_3_2,band_3_4,band_3_8,band_3_16,band_11_1,band_11_2,band_11_4,band_11_8,band_11_16,band_15_1,band_15_2,band_15_4,band_15_8,band_15_16,band_16_1,band_16_2,band_16_4,band_16_8,band_16_16];omega)|(simp [allB,allB2,numR,numF,txtT,txtF,isNum,hasOf,mostOf,isTxt,Cm.num,Cm.txt,band_0_1,band_0_2,band_0_4,band_0_8,band_0_16,band_3_1,band_3_2,band_3_4,band_3_8,band_3_16,band_11_1,band_11_2,band_11_4,band_11_8,band_11_16,band_15_1,band_15_2,band_15_4,band_15_8,band_15_16,band_16_1,band_16_2,band_16_4,band_16_8,band_16_16];grind)
set_option maxHeartbeats 4000000 in
theorem refCmdCheck_s {G:GH}(c:Cm) (hc:c.ok):Con Tryz.prog 15 #[.agg c.cells.toArray] G [] (fun r _ μ'=>r=.int .i64 (cmdI c)∧μ'=[]):=by
 obtain ⟨hk1,hc1,hs1,hk,hv,ho,hn1⟩:=id hc
 simp only [maxLen] at hk hv ho
 have qk:=refKey_s (G:=G) (s:=c.key) (by omega)
 have qv:=refVal_s (G:=G) (s:=c.val) (by omega)
 have qo:=refVal_s (G:=G) (s:=c.old) (by omega)
 obtain ⟨kind,client,seq,key,val,old,node⟩:=c
 simp only at qk qv qo
 (refine v_enter Tryz.func15 rfl Tryz.ntmps15 rfl ?_;intro B _)
 by_cases hr:kind<1∨8<kind
 ·repeat' (first|refine Wa ?_|(refine Wc ⟨?_,?_⟩<;>first|exact True.intro|intro h)|apply v_box (zs:=Cm.cells ⟨kind,client,seq,key,val,old,node⟩);(case hx|hz|hd=>rfl);intro cb|refine Wr ?_|(refine Wb ?_;intro b)|fail)
  all_goals
   (refine Vr ?_
    refine ⟨?_,rfl⟩
    have:cmdFields kind=(0,false):=by unfold cmdFields;rw [if_neg (by omega),if_neg (by omega),if_neg (by omega),if_neg (by omega),if_neg (by omega)]
    simp [cmdI,this])
 have qw:=owned_s G kind
 have qm:=member_s G kind
 obtain rfl|rfl|rfl|rfl|rfl|rfl|rfl|rfl:kind=1∨kind=2∨kind=3∨kind=4∨kind=5∨kind=6∨kind=7∨kind=8:=by omega
 all_goals
  (first|rw [decide_eq_true (by omega)] at qw|rw [decide_eq_false (by omega)] at qw)
  (first|rw [decide_eq_true (by omega)] at qm|rw [decide_eq_false (by omega)] at qm)
  repeat' (first|refine Wa ?_|(refine Wc ⟨?_,?_⟩<;>first|exact True.intro|intro h)|apply v_box (zs:=Cm.cells ⟨_,client,seq,key,val,old,node⟩);(case hx|hz|hd=>rfl);intro cb|refine cJ qw ?_|refine cJ qm ?_|refine cJ qk ?_|refine cJ qv ?_|refine cJ qo ?_|refine Wr ?_|(refine Wb ?_;intro b)|fail)
 all_goals
  (refine Vr ?_
   refine ⟨?_,rfl⟩
   rw [cmdI_eq]
   congr 1
   unfold cmdE
   try simp only [nil_iff] at *
   try simp only
   (repeat' split)<;>first|rfl|(exfalso;omega)|(exfalso;simp_all;done)|(exfalso;simp_all;omega))
def RowR {α:Type}(f:α→List Value) (x:α) (cs:List Value):Prop:=cs=f x
def rowC {α:Type}(f:α→List Value) (l:List α):List Value:=(l.map f).flatten
section
variable {α:Type}{f:α→List Value}{sz:Nat}
theorem rowC_cons (x:α) (l:List α):rowC f (x::l)=f x++rowC f l:=by simp [rowC]
theorem rowC_nil:rowC f []=[]:=rfl
theorem rowC_append (a b:List α):rowC f (a++b)=rowC f a++rowC f b:=by simp [rowC]
theorem rowC_length (hf:∀ x,(f x).length=sz) (l:List α):(rowC f l).length=l.length*sz:=by
 induction l with
 | nil=>simp [rowC]
 | cons x l ih=>rw [rowC_cons,List.length_append,ih,hf,List.length_cons,Nat.add_mul,Nat.one_mul];omega
theorem rowC_take (hf:∀ x,(f x).length=sz) (l:List α) (i:Nat):(rowC f l).take (i*sz)=rowC f (l.take i):=by
 by_cases h:i≤l.length
 ·have hle:(rowC f (l.take i)).length=i*sz:=by rw [rowC_length hf,List.length_take,Nat.min_eq_left h]
  conv=>lhs;rw [← List.take_append_drop i l,rowC_append]
  rw [← hle,List.take_left]
 ·rw [List.take_of_length_le (by rw [rowC_length hf];exact Nat.mul_le_mul_right _ (by omega)),List.take_of_length_le (by omega)]
theorem rowC_drop (hf:∀ x,(f x).length=sz) (l:List α) (i:Nat):(rowC f l).drop (i*sz)=rowC f (l.drop i):=by
 by_cases h:i≤l.length
 ·have hle:(rowC f (l.take i)).length=i*sz:=by rw [rowC_length hf,List.length_take,Nat.min_eq_left h]
  conv=>lhs;rw [← List.take_append_drop i l,rowC_append]
  rw [← hle,List.drop_left]
 ·rw [List.drop_of_length_le (by rw [rowC_length hf];exact Nat.mul_le_mul_right _ (by omega)),List.drop_of_length_le (by omega)];rfl
theorem rowC_at (hf:∀ x,(f x).length=sz) (l:List α) (i:Nat) (hi:i<l.length):((rowC f l).drop (i*sz)).take sz=f l[i]:=by
 rw [rowC_drop hf,List.drop_eq_getElem_cons hi,rowC_cons,← hf l[i],List.take_left]
theorem rowC_get (hf:∀ x,(f x).length=sz) (l:List α) (i j:Nat) (hi:i<l.length) (hj:j<sz):(rowC f l)[i*sz+j]? = (f l[i])[j]? := by
 rw [← rowC_at hf l i hi,List.getElem?_take_of_lt hj,List.getElem?_drop]
theorem rowC_one (h1:∀ x,(f x).all Value.oneCell'=true) (l:List α):(rowC f l).all Value.oneCell'=true:=by
 induction l with
 | nil=>rfl
 | cons x l ih=>rw [rowC_cons,List.all_append,ih,Bool.and_true,h1]
theorem rowOpen {G:GH}{v:Value}{l:List α}(h:Sl G sz (RowR f) v l):∃ A c,v=.slice A l.length c∧l.length≤c∧c≤maxLen∧(0<l.length→A.isSome=true)∧(∀ i (h:i<l.length),CellsG G ((adr A).add (i*sz)) (f l[i])):=by
 obtain ⟨A,c,rfl,h1,h2,h3,h4⟩:=h.open
 refine ⟨A,c,rfl,h1,h2,h3,fun i hi=>?_⟩
 obtain ⟨cs,_,rfl,h5⟩:=h4 i _ (List.getElem?_eq_getElem hi)
 exact h5
theorem rowSrc (hf:∀ x,(f x).length=sz) (hsz:0<sz) {G:GH}{μ:OH}{A:Option Addr}{c:Nat}{l:List α}(hsome:0<l.length→A.isSome=true) (hcp:∀ i (h:i<l.length),CellsG G ((adr A).add (i*sz)) (f l[i])):Go.Vx.Src G μ (.slice A l.length c) l.length sz (rowC f l):=by
 refine ⟨rowC_length hf l,A,c,rfl,fun h=>?_⟩
 obtain ⟨a,rfl⟩:=Option.isSome_iff_exists.1 (hsome h)
 refine ⟨a,rfl,CellsAt.frozen fun p v hv=>?_⟩
 have hp:p<l.length*sz:=by rw [← rowC_length hf];exact (List.getElem?_eq_some_iff.1 hv).1
 have e:p=p / sz*sz+p % sz:=by rw [Nat.mul_comm,Nat.div_add_mod]
 have hm:=Nat.mod_lt p hsz
 have hd:p / sz<l.length:=Nat.div_lt_of_lt_mul (by rw [Nat.mul_comm];exact hp)
 rw [e,← add_add]
 rw [e,rowC_get hf l (p / sz) (p % sz) hd hm] at hv
 exact hcp (p / sz) hd _ _ hv
theorem row_of_grow (hf:∀ x,(f x).length=sz) {e:TypeId}{v:Value}{l:List α}{ν:OH}(h:Grow e sz v l.length (rowC f l) ν) {G':GH}(hG:∀ b o,(b,o)∈ν→G' b=some o):Sl G' sz (RowR f) v l:=by
 refine h.sl hG (by simp) fun i x cs hx hc=>?_
 rw [List.getElem?_map,hx] at hc
 simp only [Option.map_some,Option.some.injEq] at hc
 subst hc
 exact ⟨hf x,rfl⟩
end
structure Pr where
 key:ByteArray
 val:ByteArray
 rev:Int
def Pr.cells (x:Pr):List Value:=[.string x.key,.string x.val,.int .i64 x.rev]
structure An where
 client:Int
 seq:Int
 err:Int
 found:Bool
 val:ByteArray
 rev:Int
def An.cells (x:An):List Value:=[.int .i64 x.client,.int .i64 x.seq,.int .i64 x.err,.bool x.found,.string x.val,.int .i64 x.rev]
structure Ss where
 client:Int
 seq:Int
 last:An
def Ss.cells (x:Ss):List Value:=.int .i64 x.client::.int .i64 x.seq::x.last.cells
theorem Pr.len (x:Pr):x.cells.length=3:=rfl
theorem Ss.len (x:Ss):x.cells.length=8:=rfl
theorem Pr.one (x:Pr):x.cells.all Value.oneCell'=true:=rfl
theorem Ss.one (x:Ss):x.cells.all Value.oneCell'=true:=rfl
abbrev Prs (G:GH) (v:Value) (l:List Pr):Prop:=Sl G 3 (RowR Pr.cells) v l
abbrev Sss (G:GH) (v:Value) (l:List Ss):Prop:=Sl G 8 (RowR Ss.cells) v l
abbrev zP:Value:=.agg #[.string ByteArray.empty,.string ByteArray.empty,.int .i64 0]
abbrev zS:Value:=.agg #[.int .i64 0,.int .i64 0,.int .i64 0,.int .i64 0,.int .i64 0,.bool false,.string ByteArray.empty,.int .i64 0]
abbrev GrP (v:Value) (l:List Pr) (ν:OH):Prop:=Grow 257 3 v l.length (rowC Pr.cells l) ν
abbrev GrS (v:Value) (l:List Ss) (ν:OH):Prop:=Grow 241 8 v l.length (rowC Ss.cells l) ν
theorem p_sliceB {σ:Env}{ty t e:TypeId}{agg:Bool}{sz bytes:Nat}{zero:Value}{x lo:Operand}{b o n c:Nat}{k:IntKind}{z:Int} [Ty Tryz.prog t (.slice e)] [Lay Tryz.prog e agg sz bytes zero] (m:Nat) (hx:Env.ev σ x=some (.slice (some ⟨b,o,none⟩) n c)) (hl:Env.ev σ lo=some (.int k z)) (hz:z=(m:Nat)) (h1:m≤n) (h2:n≤c) (h3:m<c) :
 PureOp Tryz.prog (.slice t x (some lo) none none) ty σ (.slice (some ⟨b,o+m*sz,none⟩) (n-m) (c-m)):=by
 subst hz
 have h:=p_sliceL (P:=Tryz.prog) (ty:=ty) (t:=t) (e:=e) (agg:=agg) (sz:=sz) (bytes:=bytes) (zero:=zero) hx hl (by omega) (by omega) h2
 simp only [Int.toNat_natCast] at h
 rw [if_neg (by omega),Option.map_some,add_mk] at h
 exact h
theorem p_sliceHB {σ:Env}{ty t e:TypeId}{agg:Bool}{sz bytes:Nat}{zero:Value}{x hi:Operand}{A:Option Addr}{n c:Nat}{k:IntKind}{z:Int} [Ty Tryz.prog t (.slice e)] [Lay Tryz.prog e agg sz bytes zero] (m:Nat) (hx:Env.ev σ x=some (.slice A n c)) (hl:Env.ev σ hi=some (.int k z)) (hz:z=(m:Nat)) (h1:m≤c) :
 PureOp Tryz.prog (.slice t x none (some hi) none) ty σ (.slice A m c):=by
 subst hz
 exact p_sliceH (P:=Tryz.prog) (ty:=ty) (t:=t) (e:=e) (agg:=agg) (sz:=sz) (bytes:=bytes) (zero:=zero) hx hl (by omega) (by omega)
theorem ins_row (p z sp a t:List Value) (hz:z.length=a.length+t.length) (h:t.length=z.length-a.length):over (over (p++z++sp) p.length a) (p.length+a.length) t=p++a++t++sp:=by
 have e1:over (p++z++sp) p.length a=p++a++z.drop a.length++sp:=by
  unfold over
  rw [List.append_assoc p z sp,List.take_left,← List.drop_drop,List.drop_left,List.drop_append_of_le_length (by omega)]
  simp
 rw [e1]
 unfold over
 rw [show p.length+a.length=(p++a).length by simp,List.append_assoc (p++a),List.take_left,← List.drop_drop,List.drop_left,List.drop_append_of_le_length (by rw [List.length_drop];omega),List.drop_of_length_le (l:=List.drop a.length z) (by rw [List.length_drop];omega)]
 simp
theorem ins_shift (p t sp a:List Value) (h:a.length≤sp.length):over (over (p++t++sp) (p.length+a.length) t) p.length a=p++a++t++sp.drop a.length:=by
 have e1:over (p++t++sp) (p.length+a.length) t=(p++(t++sp).take a.length)++(t++sp.drop a.length):=by
  unfold over
  rw [List.append_assoc p t sp,List.take_append,List.take_of_length_le (by omega),show p.length+a.length-p.length=a.length by omega,show p.length+a.length+t.length=p.length+(t.length+a.length) by omega,← List.drop_drop,List.drop_left,← List.drop_drop,List.drop_left]
  simp
 have e2:((t++sp).take a.length).length=a.length:=by rw [List.length_take,List.length_append];omega
 rw [e1]
 unfold over
 rw [List.append_assoc p,List.take_left,show p.length+a.length=(p++(t++sp).take a.length).length by rw [List.length_append,e2],← List.append_assoc p,List.drop_left]
 simp
theorem prClone_s {G:GH}{l:List Pr}{sv:Value}(hs:Prs G sv l) (hn:l.length≤200):Con Tryz.prog 251 #[sv] G [] (fun r G' μ'=>G'=G∧Grow 257 3 r l.length (rowC Pr.cells l) μ'):=by
 obtain ⟨A,c,rfl,hlc,hcm,hsome,hcp⟩:=rowOpen hs
 simp only [maxLen] at hcm
 (refine v_enter Tryz.func251 rfl Tryz.ntmps251 rfl ?_;intro B _)
 cases A with
 | none =>
  have h0:l.length=0:=by
   by_cases h:0<l.length
   ·cases hsome h
   ·omega
  have h1:l=[]:=List.eq_nil_of_length_eq_zero h0
  subst h1
  repeat' (first|refine Wa ?_|(refine Wc ⟨?_,?_⟩<;>first|exact True.intro|intro h)|(refine Wb ?_;intro b)|fail)
  refine Vr ?_
  exact ⟨rfl,Grow.nil _ _⟩
 | some a =>
  have hsrc:=fun μ=>rowSrc (μ:=μ) (c:=c) Pr.len (by omega) hsome hcp
  repeat' (first|refine Wa ?_|(refine Wc ⟨?_,?_⟩<;>first|exact True.intro|intro h)|(refine Wb ?_;intro b)|fail)
  refine v_append (e:=257) (agg:=true) (sz:=3) (bytes:=40) (zero:=zP) rfl (by omega) rfl rfl Grow.empty (List.Perm.refl _) (hsrc _) (rowC_one Pr.one l) (by omega) (by simp only [maxLen];omega) rfl fun v' ν' hg=>?_
  repeat' (first|refine Wa ?_|(refine Wc ⟨?_,?_⟩<;>first|exact True.intro|intro h)|(refine Wb ?_;intro b)|fail)
  refine v_ret _ (outsA1 rfl rfl) sS ?_
  refine ⟨rfl,?_⟩
  simpa using hg
instance:Overl Tryz.prog 330 257 4:=⟨_,Tryz.underlying54,fun args w=>run_callFunc_extern Tryz.func330 (by kernel_rfl) (by kernel_rfl) (by kernel_rfl) (e:=Extern.SlicesOverlaps.overlaps #[54,54] #[4]) (by kernel_rfl) args w⟩
theorem prZeros (q:Nat):(Builtin.zeroCells zP.cells q).toList.length=q*3:=by rw [Array.length_toList,size_zeroCells];rfl
theorem prInsert_s {G:GH}{l:List Pr}{v:Value}{ν:OH}(x:Pr) (b2 i:Nat) (hg:Grow 257 3 v l.length (rowC Pr.cells l) ν) (hi:i≤l.length) (hn:l.length≤200) :
 Con Tryz.prog 298 #[v,.int .i64 i,.slice (some ⟨b2,0,none⟩) 1 1] G (ν++[(b2,.cells x.cells.toArray 257 (0,0))]) (fun r G' μ'=>G'=G∧Grow 257 3 r (l.length+1) (rowC Pr.cells (l.take i++x::l.drop i)) μ'):=by
 by_cases hin:i=l.length
 ·subst hin
  obtain ⟨A,c,rfl,hc1,hc2⟩:=hg.shape
  simp only [maxLen] at hc2
  (refine v_enter Tryz.func298 rfl Tryz.ntmps298 rfl ?_;intro B _)
  repeat' (first|refine Wa ?_|(refine Wc ⟨?_,?_⟩<;>first|exact True.intro|intro h)|fail)
  refine v_append (e:=257) (agg:=true) (sz:=3) (bytes:=40) (zero:=zP) rfl (by omega) rfl rfl hg (List.Perm.refl _) (m':=1) (us:=x.cells) (Src.own (e:=257) (by simp [Has]) rfl) rfl (by omega) (by simp only [maxLen];omega) rfl fun v' ν' hg'=>?_
  repeat' (first|refine Wa ?_|(refine Wc ⟨?_,?_⟩<;>first|exact True.intro|intro h)|fail)
  refine v_ret ν' (outsA1 rfl rfl) sS ?_
  refine ⟨rfl,?_⟩
  rw [List.take_length,List.drop_length,rowC_append,rowC_cons]
  simpa [rowC] using hg'
 ·have hlt:i<l.length:=by omega
  obtain ⟨hxl,⟨rfl,h0,rfl⟩|⟨b,cap,spare,rfl,rfl,hc1,hc2,hc3⟩⟩:=hg
  ·omega
  simp only [maxLen] at hc2
  simp only [List.singleton_append]
  rw [List.length_append,rowC_length Pr.len] at hc3
  by_cases hroom:cap<l.length+1
  ·(refine v_enter Tryz.func298 rfl Tryz.ntmps298 rfl ?_;intro B _)
   repeat' (first|apply v_pure;(case hop=>(apply p_sliceB i;(case hx|hl=>rfl);(case hz|h1|h2|h3=>omega)));(case hd=>rfl)|apply v_pure;(case hop=>(apply p_sliceB (i+1);(case hx|hl=>rfl);(case hz|h1|h2|h3=>omega)));(case hd=>rfl)|apply v_pure;(case hop=>(apply p_sliceHB i;(case hx|hl=>rfl);(case hz|h1=>omega)));(case hd=>rfl)|apply v_pure;(case hop=>(apply p_sliceHB (l.length+1);(case hx|hl=>rfl);(case hz|h1=>omega)));(case hd=>rfl)|refine Wa ?_|(refine Wc ⟨?_,?_⟩<;>first|exact True.intro|intro h)|fail)
   refine v_appendZ (e:=257) (agg:=true) (sz:=3) (bytes:=40) (zero:=zP) (q:=l.length+1-i) (xs:=rowC Pr.cells (l.take i)) rfl (by omega) rfl rfl (by omega) ?_ (by omega) (by omega) (by omega) (by simp only [maxLen];omega) rfl fun b3 c3 sp3 hd1 hd2 hd3=>?_
   ·refine Src.ownAt (vs:=rowC Pr.cells l++spare) (e:=257) (by simp [Has]) ?_ (by rw [rowC_length Pr.len,List.length_take];omega)
    rw [List.drop_zero,List.take_append_of_le_length (by omega),rowC_take Pr.len]
   simp only [maxLen] at hd2
   have zl:=prZeros (l.length+1-i)
   have tl:(rowC Pr.cells (l.take i)).length=i*3:=by rw [rowC_length Pr.len,List.length_take];omega
   repeat' (first|apply v_pure;(case hop=>(apply p_sliceB i;(case hx|hl=>rfl);(case hz|h1|h2|h3=>omega)));(case hd=>rfl)|apply v_pure;(case hop=>(apply p_sliceB (i+1);(case hx|hl=>rfl);(case hz|h1|h2|h3=>omega)));(case hd=>rfl)|apply v_pure;(case hop=>(apply p_sliceHB i;(case hx|hl=>rfl);(case hz|h1=>omega)));(case hd=>rfl)|apply v_pure;(case hop=>(apply p_sliceHB (l.length+1);(case hx|hl=>rfl);(case hz|h1=>omega)));(case hd=>rfl)|refine Wa ?_|(refine Wc ⟨?_,?_⟩<;>first|exact True.intro|intro h)|fail)
   refine v_copy (e:=257) (agg:=true) (sz:=3) (bytes:=40) (zero:=zP) (q:=1) rfl rfl (show min 1 _=1 by omega) (by omega) (us:=x.cells) (Src.own (e:=257) (by simp [Has]) rfl) aM rfl (by simp only [List.length_append,zl,tl];omega) rfl (by (repeat (first|exact Upd.here _ _|apply Upd.there))) rfl ?_
   repeat' (first|refine Wa ?_|(refine Wc ⟨?_,?_⟩<;>first|exact True.intro|intro h)|fail)
   have hus:((rowC Pr.cells l++spare).drop (0+i*3)).take ((l.length-i)*3)=rowC Pr.cells (l.drop i):=by
    rw [Nat.zero_add,List.drop_append_of_le_length (by omega),rowC_drop Pr.len,List.take_append_of_le_length (by rw [rowC_length Pr.len,List.length_drop];omega),List.take_of_length_le (by rw [rowC_length Pr.len,List.length_drop];omega)]
   have dl:(rowC Pr.cells (l.drop i)).length=(l.length-i)*3:=by rw [rowC_length Pr.len,List.length_drop]
   refine Dz [] ?_
   all_goals refine Dt [0,1,2] ?_
   all_goals (first|refine Tv 3 ?_ (hop:=by first|apply PureOp.read;apply p_sliceB i;(case hx|hl=>rfl);(case hz|h1|h2|h3=>omega)|fail)|refine Tv 3 ?_ (hop:=by first|apply PureOp.read;apply p_sliceB (i+1);(case hx|hl=>rfl);(case hz|h1|h2|h3=>omega)|fail)|refine Dt [3] ?_)
   all_goals (first|refine Tv 4 ?_ (hop:=by first|apply PureOp.read;apply p_sliceB i;(case hx|hl=>rfl);(case hz|h1|h2|h3=>omega)|fail)|refine Tv 4 ?_ (hop:=by first|apply PureOp.read;apply p_sliceB (i+1);(case hx|hl=>rfl);(case hz|h1|h2|h3=>omega)|fail)|refine Dt [4] ?_)
   all_goals refine Dt [5,6] ?_
   all_goals (first|refine Tv 7 ?_ (hop:=by first|apply PureOp.read;apply p_sliceB i;(case hx|hl=>rfl);(case hz|h1|h2|h3=>omega)|fail)|refine Tv 7 ?_ (hop:=by first|apply PureOp.read;apply p_sliceB (i+1);(case hx|hl=>rfl);(case hz|h1|h2|h3=>omega)|fail)|refine Dt [7] ?_)
   all_goals (((apply d_copy 8 (e:=257) (agg:=true) (sz:=3) (bytes:=40) (zero:=zP) (m':=l.length-i) (q:=l.length-i) (us:=rowC Pr.cells (l.drop i));(case hi=>rfl);(case hr=>kernel_rfl);(case hT=>infer_instance);(case hL=>infer_instance);(case hy|hx=>rfl);(case hq=>(show min _ _=_);omega);(case hm=>omega);(case hsrc=>exact Src.ownAt (vs:=rowC Pr.cells l++spare) (e:=257) aM hus dl);(case hb=>exact aM);(case h1=>rw [List.take_of_length_le (by omega)];exact rowC_one Pr.one _);(case hfit=>simp only [over,List.length_append,List.length_take,List.length_drop,zl,tl,Pr.len];omega);(case hov=>rfl);(case hu=>repeat first|exact Upd.here _ _|apply Upd.there);(case hd=>rfl);(case hν'=>intro e he;cases he))))
   all_goals refine Dd ?_
   repeat' (first|refine Wa ?_|(refine Wc ⟨?_,?_⟩<;>first|exact True.intro|intro h)|fail)
   refine v_ret [(b3,_)] (outsA1 rfl rfl) sS ?_
   refine ⟨rfl,?_⟩
   have el:(rowC Pr.cells (l.take i++x::l.drop i))=rowC Pr.cells (l.take i)++x.cells++rowC Pr.cells (l.drop i):=by rw [rowC_append,rowC_cons,List.append_assoc]
   have e:=ins_row (rowC Pr.cells (l.take i)) (Builtin.zeroCells zP.cells (l.length+1-i)).toList sp3 x.cells (rowC Pr.cells (l.drop i)) (by rw [zl,dl,Pr.len];omega) (by rw [zl,dl,Pr.len];omega)
   rw [tl,Pr.len] at e
   rw [show 0+(i+1)*3=i*3+3 by omega,show 0+i*3=i*3 by omega,List.take_of_length_le (l:=rowC Pr.cells (l.drop i)) (by omega),show x.cells.take (1*3)=x.cells from rfl,e,show i+(l.length+1-i)=l.length+1 by omega]
   refine ⟨by rw [el,List.length_append,List.length_append,tl,dl,Pr.len];omega,.inr ⟨b3,c3,sp3,rfl,by rw [el],by omega,by simp only [maxLen];omega,?_⟩⟩
   simp only [List.length_append,zl,tl] at hd3
   rw [el]
   simp only [List.length_append,tl,dl,Pr.len]
   omega
  ·(refine v_enter Tryz.func298 rfl Tryz.ntmps298 rfl ?_;intro B _)
   repeat' (first|apply v_pure;(case hop=>(apply p_sliceB i;(case hx|hl=>rfl);(case hz|h1|h2|h3=>omega)));(case hd=>rfl)|apply v_pure;(case hop=>(apply p_sliceB (i+1);(case hx|hl=>rfl);(case hz|h1|h2|h3=>omega)));(case hd=>rfl)|apply v_pure;(case hop=>(apply p_sliceHB i;(case hx|hl=>rfl);(case hz|h1=>omega)));(case hd=>rfl)|apply v_pure;(case hop=>(apply p_sliceHB (l.length+1);(case hx|hl=>rfl);(case hz|h1=>omega)));(case hd=>rfl)|refine Wa ?_|(refine Wc ⟨?_,?_⟩<;>first|exact True.intro|intro h)|fail)
   refine v_ne (b':=b2) (by simp) fun hne=>?_
   refine v_apart (e:=257) (agg:=true) (sz:=3) (bytes:=40) (zero:=zP) rfl rfl aM aM hne (fun h=>by have:=congrArg List.length h;rw [List.length_append,rowC_length Pr.len,List.length_nil] at this;omega) rfl ?_
   repeat' (first|refine Wa ?_|(refine Wc ⟨?_,?_⟩<;>first|exact True.intro|intro h)|fail)
   have tl:(rowC Pr.cells (l.take i)).length=i*3:=by rw [rowC_length Pr.len,List.length_take];omega
   have dl:(rowC Pr.cells (l.drop i)).length=(l.length-i)*3:=by rw [rowC_length Pr.len,List.length_drop]
   have hus:(((rowC Pr.cells l++spare).drop (0+i*3)).take ((l.length+1-i)*3)).take ((l.length-i)*3)=rowC Pr.cells (l.drop i):=by
    rw [List.take_take,Nat.zero_add,Nat.min_eq_left (by omega),List.drop_append_of_le_length (by omega),rowC_drop Pr.len,List.take_append_of_le_length (by omega),List.take_of_length_le (by omega)]
   refine Dz [] ?_
   all_goals refine Dt [0,1,2] ?_
   all_goals (first|refine Tv 3 ?_ (hop:=by first|apply PureOp.read;apply p_sliceB i;(case hx|hl=>rfl);(case hz|h1|h2|h3=>omega)|fail)|refine Tv 3 ?_ (hop:=by first|apply PureOp.read;apply p_sliceB (i+1);(case hx|hl=>rfl);(case hz|h1|h2|h3=>omega)|fail)|refine Dt [3] ?_)
   all_goals (first|refine Tv 4 ?_ (hop:=by first|apply PureOp.read;apply p_sliceB i;(case hx|hl=>rfl);(case hz|h1|h2|h3=>omega)|fail)|refine Tv 4 ?_ (hop:=by first|apply PureOp.read;apply p_sliceB (i+1);(case hx|hl=>rfl);(case hz|h1|h2|h3=>omega)|fail)|refine Dt [4] ?_)
   all_goals refine Dt [5,6] ?_
   all_goals (first|refine Tv 7 ?_ (hop:=by first|apply PureOp.read;apply p_sliceB i;(case hx|hl=>rfl);(case hz|h1|h2|h3=>omega)|fail)|refine Tv 7 ?_ (hop:=by first|apply PureOp.read;apply p_sliceB (i+1);(case hx|hl=>rfl);(case hz|h1|h2|h3=>omega)|fail)|refine Dt [7] ?_)
   all_goals (((apply d_copy 8 (e:=257) (agg:=true) (sz:=3) (bytes:=40) (zero:=zP) (m':=l.length+1-i) (q:=l.length-i) (us:=((rowC Pr.cells l++spare).drop (0+i*3)).take ((l.length+1-i)*3));(case hi=>rfl);(case hr=>kernel_rfl);(case hT=>infer_instance);(case hL=>infer_instance);(case hy|hx=>rfl);(case hq=>(show min _ _=_);omega);(case hm=>omega);(case hsrc=>exact Src.ownAt (vs:=rowC Pr.cells l++spare) (e:=257) aM rfl (by simp only [List.length_take,List.length_drop,List.length_append,rowC_length Pr.len];omega));(case hb=>exact aM);(case h1=>rw [hus];exact rowC_one Pr.one _);(case hfit=>rw [List.length_append,rowC_length Pr.len];omega);(case hov=>rw [hus]);(case hu=>repeat first|exact Upd.here _ _|apply Upd.there);(case hd=>rfl);(case hν'=>intro e he;cases he))))
   all_goals refine Dd ?_
   repeat' (first|apply v_pure;(case hop=>(apply p_sliceB i;(case hx|hl=>rfl);(case hz|h1|h2|h3=>omega)));(case hd=>rfl)|apply v_pure;(case hop=>(apply p_sliceB (i+1);(case hx|hl=>rfl);(case hz|h1|h2|h3=>omega)));(case hd=>rfl)|apply v_pure;(case hop=>(apply p_sliceHB i;(case hx|hl=>rfl);(case hz|h1=>omega)));(case hd=>rfl)|apply v_pure;(case hop=>(apply p_sliceHB (l.length+1);(case hx|hl=>rfl);(case hz|h1=>omega)));(case hd=>rfl)|refine Wa ?_|(refine Wc ⟨?_,?_⟩<;>first|exact True.intro|intro h)|fail)
   refine v_copy (e:=257) (agg:=true) (sz:=3) (bytes:=40) (zero:=zP) (q:=1) rfl rfl (show min 1 _=1 by omega) (by omega) (us:=x.cells) (Src.own (e:=257) (by simp [Has]) rfl) aM rfl (by rw [over_length (by rw [List.length_append,hxl,dl];omega),List.length_append,hxl];omega) rfl (by (repeat (first|exact Upd.here _ _|apply Upd.there))) rfl ?_
   repeat' (first|refine Wa ?_|(refine Wc ⟨?_,?_⟩<;>first|exact True.intro|intro h)|fail)
   refine v_ret [(b,_)] (outsA1 rfl rfl) sS ?_
   refine ⟨rfl,?_⟩
   have el:(rowC Pr.cells (l.take i++x::l.drop i))=rowC Pr.cells (l.take i)++x.cells++rowC Pr.cells (l.drop i):=by rw [rowC_append,rowC_cons,List.append_assoc]
   have e:=ins_shift (rowC Pr.cells (l.take i)) (rowC Pr.cells (l.drop i)) spare x.cells (by rw [Pr.len];omega)
   rw [tl,Pr.len,← rowC_append,List.take_append_drop] at e
   rw [show 0+(i+1)*3=i*3+3 by omega,show 0+i*3=i*3 by omega,show x.cells.take (1*3)=x.cells from rfl,e]
   refine ⟨by rw [el,List.length_append,List.length_append,tl,dl,Pr.len];omega,.inr ⟨b,cap,spare.drop 3,rfl,by rw [el],by omega,by simp only [maxLen];omega,?_⟩⟩
   rw [el]
   simp only [List.length_append,List.length_drop,tl,dl,Pr.len]
   omega
theorem ssClone_s {G:GH}{l:List Ss}{sv:Value}(hs:Sss G sv l) (hn:l.length≤200):Con Tryz.prog 221 #[sv] G [] (fun r G' μ'=>G'=G∧Grow 241 8 r l.length (rowC Ss.cells l) μ'):=by
 obtain ⟨A,c,rfl,hlc,hcm,hsome,hcp⟩:=rowOpen hs
 simp only [maxLen] at hcm
 (refine v_enter Tryz.func221 rfl Tryz.ntmps221 rfl ?_;intro B _)
 cases A with
 | none =>
  have h0:l.length=0:=by
   by_cases h:0<l.length
   ·cases hsome h
   ·omega
  have h1:l=[]:=List.eq_nil_of_length_eq_zero h0
  subst h1
  repeat' (first|refine Wa ?_|(refine Wc ⟨?_,?_⟩<;>first|exact True.intro|intro h)|(refine Wb ?_;intro b)|fail)
  refine Vr ?_
  exact ⟨rfl,Grow.nil _ _⟩
 | some a =>
  have hsrc:=fun μ=>rowSrc (μ:=μ) (c:=c) Ss.len (by omega) hsome hcp
  repeat' (first|refine Wa ?_|(refine Wc ⟨?_,?_⟩<;>first|exact True.intro|intro h)|(refine Wb ?_;intro b)|fail)
  refine v_append (e:=241) (agg:=true) (sz:=8) (bytes:=72) (zero:=zS) rfl (by omega) rfl rfl Grow.empty (List.Perm.refl _) (hsrc _) (rowC_one Ss.one l) (by omega) (by simp only [maxLen];omega) rfl fun v' ν' hg=>?_
  repeat' (first|refine Wa ?_|(refine Wc ⟨?_,?_⟩<;>first|exact True.intro|intro h)|(refine Wb ?_;intro b)|fail)
  refine v_ret _ (outsA1 rfl rfl) sS ?_
  refine ⟨rfl,?_⟩
  simpa using hg
instance:Overl Tryz.prog 263 241 4:=⟨_,Tryz.underlying55,fun args w=>run_callFunc_extern Tryz.func263 (by kernel_rfl) (by kernel_rfl) (by kernel_rfl) (e:=Extern.SlicesOverlaps.overlaps #[55,55] #[4]) (by kernel_rfl) args w⟩
theorem ssZeros (q:Nat):(Builtin.zeroCells zS.cells q).toList.length=q*8:=by rw [Array.length_toList,size_zeroCells];rfl
theorem ssInsert_s {G:GH}{l:List Ss}{v:Value}{ν:OH}(x:Ss) (b2 i:Nat) (hg:Grow 241 8 v l.length (rowC Ss.cells l) ν) (hi:i≤l.length) (hn:l.length≤200) :
 Con Tryz.prog 222 #[v,.int .i64 i,.slice (some ⟨b2,0,none⟩) 1 1] G (ν++[(b2,.cells x.cells.toArray 241 (0,0))]) (fun r G' μ'=>G'=G∧Grow 241 8 r (l.length+1) (rowC Ss.cells (l.take i++x::l.drop i)) μ'):=by
 by_cases hin:i=l.length
 ·subst hin
  obtain ⟨A,c,rfl,hc1,hc2⟩:=hg.shape
  simp only [maxLen] at hc2
  (refine v_enter Tryz.func222 rfl Tryz.ntmps222 rfl ?_;intro B _)
  repeat' (first|refine Wa ?_|(refine Wc ⟨?_,?_⟩<;>first|exact True.intro|intro h)|fail)
  refine v_append (e:=241) (agg:=true) (sz:=8) (bytes:=72) (zero:=zS) rfl (by omega) rfl rfl hg (List.Perm.refl _) (m':=1) (us:=x.cells) (Src.own (e:=241) (by simp [Has]) rfl) rfl (by omega) (by simp only [maxLen];omega) rfl fun v' ν' hg'=>?_
  repeat' (first|refine Wa ?_|(refine Wc ⟨?_,?_⟩<;>first|exact True.intro|intro h)|fail)
  refine v_ret ν' (outsA1 rfl rfl) sS ?_
  refine ⟨rfl,?_⟩
  rw [List.take_length,List.drop_length,rowC_append,rowC_cons]
  simpa [rowC] using hg'
 ·have hlt:i<l.length:=by omega
  obtain ⟨hxl,⟨rfl,h0,rfl⟩|⟨b,cap,spare,rfl,rfl,hc1,hc2,hc3⟩⟩:=hg
  ·omega
  simp only [maxLen] at hc2
  simp only [List.singleton_append]
  rw [List.length_append,rowC_length Ss.len] at hc3
  by_cases hroom:cap<l.length+1
  ·(refine v_enter Tryz.func222 rfl Tryz.ntmps222 rfl ?_;intro B _)
   repeat' (first|apply v_pure;(case hop=>(apply p_sliceB i;(case hx|hl=>rfl);(case hz|h1|h2|h3=>omega)));(case hd=>rfl)|apply v_pure;(case hop=>(apply p_sliceB (i+1);(case hx|hl=>rfl);(case hz|h1|h2|h3=>omega)));(case hd=>rfl)|apply v_pure;(case hop=>(apply p_sliceHB i;(case hx|hl=>rfl);(case hz|h1=>omega)));(case hd=>rfl)|apply v_pure;(case hop=>(apply p_sliceHB (l.length+1);(case hx|hl=>rfl);(case hz|h1=>omega)));(case hd=>rfl)|refine Wa ?_|(refine Wc ⟨?_,?_⟩<;>first|exact True.intro|intro h)|fail)
   refine v_appendZ (e:=241) (agg:=true) (sz:=8) (bytes:=72) (zero:=zS) (q:=l.length+1-i) (xs:=rowC Ss.cells (l.take i)) rfl (by omega) rfl rfl (by omega) ?_ (by omega) (by omega) (by omega) (by simp only [maxLen];omega) rfl fun b3 c3 sp3 hd1 hd2 hd3=>?_
   ·refine Src.ownAt (vs:=rowC Ss.cells l++spare) (e:=241) (by simp [Has]) ?_ (by rw [rowC_length Ss.len,List.length_take];omega)
    rw [List.drop_zero,List.take_append_of_le_length (by omega),rowC_take Ss.len]
   simp only [maxLen] at hd2
   have zl:=ssZeros (l.length+1-i)
   have tl:(rowC Ss.cells (l.take i)).length=i*8:=by rw [rowC_length Ss.len,List.length_take];omega
   repeat' (first|apply v_pure;(case hop=>(apply p_sliceB i;(case hx|hl=>rfl);(case hz|h1|h2|h3=>omega)));(case hd=>rfl)|apply v_pure;(case hop=>(apply p_sliceB (i+1);(case hx|hl=>rfl);(case hz|h1|h2|h3=>omega)));(case hd=>rfl)|apply v_pure;(case hop=>(apply p_sliceHB i;(case hx|hl=>rfl);(case hz|h1=>omega)));(case hd=>rfl)|apply v_pure;(case hop=>(apply p_sliceHB (l.length+1);(case hx|hl=>rfl);(case hz|h1=>omega)));(case hd=>rfl)|refine Wa ?_|(refine Wc ⟨?_,?_⟩<;>first|exact True.intro|intro h)|fail)
   refine v_copy (e:=241) (agg:=true) (sz:=8) (bytes:=72) (zero:=zS) (q:=1) rfl rfl (show min 1 _=1 by omega) (by omega) (us:=x.cells) (Src.own (e:=241) (by simp [Has]) rfl) aM rfl (by simp only [List.length_append,zl,tl];omega) rfl (by (repeat (first|exact Upd.here _ _|apply Upd.there))) rfl ?_
   repeat' (first|refine Wa ?_|(refine Wc ⟨?_,?_⟩<;>first|exact True.intro|intro h)|fail)
   have hus:((rowC Ss.cells l++spare).drop (0+i*8)).take ((l.length-i)*8)=rowC Ss.cells (l.drop i):=by
    rw [Nat.zero_add,List.drop_append_of_le_length (by omega),rowC_drop Ss.len,List.take_append_of_le_length (by rw [rowC_length Ss.len,List.length_drop];omega),List.take_of_length_le (by rw [rowC_length Ss.len,List.length_drop];omega)]
   have dl:(rowC Ss.cells (l.drop i)).length=(l.length-i)*8:=by rw [rowC_length Ss.len,List.length_drop]
   refine Dz [] ?_
   all_goals refine Dt [0,1,2] ?_
   all_goals (first|refine Tv 3 ?_ (hop:=by first|apply PureOp.read;apply p_sliceB i;(case hx|hl=>rfl);(case hz|h1|h2|h3=>omega)|fail)|refine Tv 3 ?_ (hop:=by first|apply PureOp.read;apply p_sliceB (i+1);(case hx|hl=>rfl);(case hz|h1|h2|h3=>omega)|fail)|refine Dt [3] ?_)
   all_goals (first|refine Tv 4 ?_ (hop:=by first|apply PureOp.read;apply p_sliceB i;(case hx|hl=>rfl);(case hz|h1|h2|h3=>omega)|fail)|refine Tv 4 ?_ (hop:=by first|apply PureOp.read;apply p_sliceB (i+1);(case hx|hl=>rfl);(case hz|h1|h2|h3=>omega)|fail)|refine Dt [4] ?_)
   all_goals refine Dt [5,6] ?_
   all_goals (first|refine Tv 7 ?_ (hop:=by first|apply PureOp.read;apply p_sliceB i;(case hx|hl=>rfl);(case hz|h1|h2|h3=>omega)|fail)|refine Tv 7 ?_ (hop:=by first|apply PureOp.read;apply p_sliceB (i+1);(case hx|hl=>rfl);(case hz|h1|h2|h3=>omega)|fail)|refine Dt [7] ?_)
   all_goals (((apply d_copy 8 (e:=241) (agg:=true) (sz:=8) (bytes:=72) (zero:=zS) (m':=l.length-i) (q:=l.length-i) (us:=rowC Ss.cells (l.drop i));(case hi=>rfl);(case hr=>kernel_rfl);(case hT=>infer_instance);(case hL=>infer_instance);(case hy|hx=>rfl);(case hq=>(show min _ _=_);omega);(case hm=>omega);(case hsrc=>exact Src.ownAt (vs:=rowC Ss.cells l++spare) (e:=241) aM hus dl);(case hb=>exact aM);(case h1=>rw [List.take_of_length_le (by omega)];exact rowC_one Ss.one _);(case hfit=>simp only [over,List.length_append,List.length_take,List.length_drop,zl,tl,Ss.len];omega);(case hov=>rfl);(case hu=>repeat first|exact Upd.here _ _|apply Upd.there);(case hd=>rfl);(case hν'=>intro e he;cases he))))
   all_goals refine Dd ?_
   repeat' (first|refine Wa ?_|(refine Wc ⟨?_,?_⟩<;>first|exact True.intro|intro h)|fail)
   refine v_ret [(b3,_)] (outsA1 rfl rfl) sS ?_
   refine ⟨rfl,?_⟩
   have el:(rowC Ss.cells (l.take i++x::l.drop i))=rowC Ss.cells (l.take i)++x.cells++rowC Ss.cells (l.drop i):=by rw [rowC_append,rowC_cons,List.append_assoc]
   have e:=ins_row (rowC Ss.cells (l.take i)) (Builtin.zeroCells zS.cells (l.length+1-i)).toList sp3 x.cells (rowC Ss.cells (l.drop i)) (by rw [zl,dl,Ss.len];omega) (by rw [zl,dl,Ss.len];omega)
   rw [tl,Ss.len] at e
   rw [show 0+(i+1)*8=i*8+8 by omega,show 0+i*8=i*8 by omega,List.take_of_length_le (l:=rowC Ss.cells (l.drop i)) (by omega),show x.cells.take (1*8)=x.cells from rfl,e,show i+(l.length+1-i)=l.length+1 by omega]
   refine ⟨by rw [el,List.length_append,List.length_append,tl,dl,Ss.len];omega,.inr ⟨b3,c3,sp3,rfl,by rw [el],by omega,by simp only [maxLen];omega,?_⟩⟩
   simp only [List.length_append,zl,tl] at hd3
   rw [el]
   simp only [List.length_append,tl,dl,Ss.len]
   omega
  ·(refine v_enter Tryz.func222 rfl Tryz.ntmps222 rfl ?_;intro B _)
   repeat' (first|apply v_pure;(case hop=>(apply p_sliceB i;(case hx|hl=>rfl);(case hz|h1|h2|h3=>omega)));(case hd=>rfl)|apply v_pure;(case hop=>(apply p_sliceB (i+1);(case hx|hl=>rfl);(case hz|h1|h2|h3=>omega)));(case hd=>rfl)|apply v_pure;(case hop=>(apply p_sliceHB i;(case hx|hl=>rfl);(case hz|h1=>omega)));(case hd=>rfl)|apply v_pure;(case hop=>(apply p_sliceHB (l.length+1);(case hx|hl=>rfl);(case hz|h1=>omega)));(case hd=>rfl)|refine Wa ?_|(refine Wc ⟨?_,?_⟩<;>first|exact True.intro|intro h)|fail)
   refine v_ne (b':=b2) (by simp) fun hne=>?_
   refine v_apart (e:=241) (agg:=true) (sz:=8) (bytes:=72) (zero:=zS) rfl rfl aM aM hne (fun h=>by have:=congrArg List.length h;rw [List.length_append,rowC_length Ss.len,List.length_nil] at this;omega) rfl ?_
   repeat' (first|refine Wa ?_|(refine Wc ⟨?_,?_⟩<;>first|exact True.intro|intro h)|fail)
   have tl:(rowC Ss.cells (l.take i)).length=i*8:=by rw [rowC_length Ss.len,List.length_take];omega
   have dl:(rowC Ss.cells (l.drop i)).length=(l.length-i)*8:=by rw [rowC_length Ss.len,List.length_drop]
   have hus:(((rowC Ss.cells l++spare).drop (0+i*8)).take ((l.length+1-i)*8)).take ((l.length-i)*8)=rowC Ss.cells (l.drop i):=by
    rw [List.take_take,Nat.zero_add,Nat.min_eq_left (by omega),List.drop_append_of_le_length (by omega),rowC_drop Ss.len,List.take_append_of_le_length (by omega),List.take_of_length_le (by omega)]
   refine Dz [] ?_
   all_goals refine Dt [0,1,2] ?_
   all_goals (first|refine Tv 3 ?_ (hop:=by first|apply PureOp.read;apply p_sliceB i;(case hx|hl=>rfl);(case hz|h1|h2|h3=>omega)|fail)|refine Tv 3 ?_ (hop:=by first|apply PureOp.read;apply p_sliceB (i+1);(case hx|hl=>rfl);(case hz|h1|h2|h3=>omega)|fail)|refine Dt [3] ?_)
   all_goals (first|refine Tv 4 ?_ (hop:=by first|apply PureOp.read;apply p_sliceB i;(case hx|hl=>rfl);(case hz|h1|h2|h3=>omega)|fail)|refine Tv 4 ?_ (hop:=by first|apply PureOp.read;apply p_sliceB (i+1);(case hx|hl=>rfl);(case hz|h1|h2|h3=>omega)|fail)|refine Dt [4] ?_)
   all_goals refine Dt [5,6] ?_
   all_goals (first|refine Tv 7 ?_ (hop:=by first|apply PureOp.read;apply p_sliceB i;(case hx|hl=>rfl);(case hz|h1|h2|h3=>omega)|fail)|refine Tv 7 ?_ (hop:=by first|apply PureOp.read;apply p_sliceB (i+1);(case hx|hl=>rfl);(case hz|h1|h2|h3=>omega)|fail)|refine Dt [7] ?_)
   all_goals (((apply d_copy 8 (e:=241) (agg:=true) (sz:=8) (bytes:=72) (zero:=zS) (m':=l.length+1-i) (q:=l.length-i) (us:=((rowC Ss.cells l++spare).drop (0+i*8)).take ((l.length+1-i)*8));(case hi=>rfl);(case hr=>kernel_rfl);(case hT=>infer_instance);(case hL=>infer_instance);(case hy|hx=>rfl);(case hq=>(show min _ _=_);omega);(case hm=>omega);(case hsrc=>exact Src.ownAt (vs:=rowC Ss.cells l++spare) (e:=241) aM rfl (by simp only [List.length_take,List.length_drop,List.length_append,rowC_length Ss.len];omega));(case hb=>exact aM);(case h1=>rw [hus];exact rowC_one Ss.one _);(case hfit=>rw [List.length_append,rowC_length Ss.len];omega);(case hov=>rw [hus]);(case hu=>repeat first|exact Upd.here _ _|apply Upd.there);(case hd=>rfl);(case hν'=>intro e he;cases he))))
   all_goals refine Dd ?_
   repeat' (first|apply v_pure;(case hop=>(apply p_sliceB i;(case hx|hl=>rfl);(case hz|h1|h2|h3=>omega)));(case hd=>rfl)|apply v_pure;(case hop=>(apply p_sliceB (i+1);(case hx|hl=>rfl);(case hz|h1|h2|h3=>omega)));(case hd=>rfl)|apply v_pure;(case hop=>(apply p_sliceHB i;(case hx|hl=>rfl);(case hz|h1=>omega)));(case hd=>rfl)|apply v_pure;(case hop=>(apply p_sliceHB (l.length+1);(case hx|hl=>rfl);(case hz|h1=>omega)));(case hd=>rfl)|refine Wa ?_|(refine Wc ⟨?_,?_⟩<;>first|exact True.intro|intro h)|fail)
   refine v_copy (e:=241) (agg:=true) (sz:=8) (bytes:=72) (zero:=zS) (q:=1) rfl rfl (show min 1 _=1 by omega) (by omega) (us:=x.cells) (Src.own (e:=241) (by simp [Has]) rfl) aM rfl (by rw [over_length (by rw [List.length_append,hxl,dl];omega),List.length_append,hxl];omega) rfl (by (repeat (first|exact Upd.here _ _|apply Upd.there))) rfl ?_
   repeat' (first|refine Wa ?_|(refine Wc ⟨?_,?_⟩<;>first|exact True.intro|intro h)|fail)
   refine v_ret [(b,_)] (outsA1 rfl rfl) sS ?_
   refine ⟨rfl,?_⟩
   have el:(rowC Ss.cells (l.take i++x::l.drop i))=rowC Ss.cells (l.take i)++x.cells++rowC Ss.cells (l.drop i):=by rw [rowC_append,rowC_cons,List.append_assoc]
   have e:=ins_shift (rowC Ss.cells (l.take i)) (rowC Ss.cells (l.drop i)) spare x.cells (by rw [Ss.len];omega)
   rw [tl,Ss.len,← rowC_append,List.take_append_drop] at e
   rw [show 0+(i+1)*8=i*8+8 by omega,show 0+i*8=i*8 by omega,show x.cells.take (1*8)=x.cells from rfl,e]
   refine ⟨by rw [el,List.length_append,List.length_append,tl,dl,Ss.len];omega,.inr ⟨b,cap,spare.drop 8,rfl,by rw [el],by omega,by simp only [maxLen];omega,?_⟩⟩
   rw [el]
   simp only [List.length_append,List.length_drop,tl,dl,Ss.len]
   omega
theorem p_convE64 {σ:Env}{ty:TypeId}{x:Operand}{k k'':IntKind}{a:Int}{t u:TypeId} [Ty Tryz.prog t (.int k'')] [Ty Tryz.prog u (.int .u64)] (hx:Env.ev σ x=some (.int k a)) (h:0≤a∧a≤9223372036854775807):PureOp Tryz.prog (.convert t u x) ty σ (.int .u64 a):=by
 have e:IntKind.u64.wrap a=a:=by rw [IntKind.wrap_u64];omega
 have:=p_conv (P:=Tryz.prog) (ty:=ty) (t:=t) (u:=u) hx
 rwa [e] at this
theorem p_convUW {σ:Env}{ty:TypeId}{x:Operand}{k'':IntKind}{a:Int}{t u:TypeId} [Ty Tryz.prog t (.int k'')] [Ty Tryz.prog u (.int .u64)] (hx:Env.ev σ x=some (.int .i64 (IntKind.i64.wrap a))) (h:0≤a∧a≤18446744073709551615):PureOp Tryz.prog (.convert t u x) ty σ (.int .u64 a):=by
 have e:IntKind.u64.wrap (IntKind.i64.wrap a)=a:=by rw [IntKind.wrap_u64,IntKind.wrap_i64];omega
 have:=p_conv (P:=Tryz.prog) (ty:=ty) (t:=t) (u:=u) hx
 rwa [e] at this
attribute [local semireducible] PureOp in
theorem p_shr1 {σ:Env}{ty:TypeId}{x y:Operand}{k':IntKind}{a:Int}{t t':TypeId}(hx:Env.ev σ x=some (.int .u64 a)) (hy:Env.ev σ y=some (.int k' 1)):PureOp Tryz.prog (.binOp .shr t x y t') ty σ (.int .u64 (a / 2)):=by
 intro dst pos af g ρ hρ w
 have:=shift_shr .u64 k' a 1 (by decide) (by decide)
 simp [execOp,hρ _ _ hx,hρ _ _ hy,eqGuard,binOp_shr,this]
theorem isNaN_s (G:GH) (a:Int):Con Tryz.prog 195 #[.int .i64 a] G [] (Just (.bool false) G):=by
 apply Con.just
 (refine v_enter Tryz.func195 rfl Tryz.ntmps195 rfl ?_;intro B _)
 repeat' (first|refine Wa ?_|(refine Wc ⟨?_,?_⟩<;>first|exact True.intro|intro h)|fail)
 refine Vr ?_
 refine ⟨?_,rfl⟩
 simp [dec_eq]
theorem cmp_s (G:GH) (a b:Int):Con Tryz.prog 145 #[.int .i64 a,.int .i64 b] G [] (Just (.int .i64 (cmpK a b)) G):=by
 have qa:=isNaN_s G a
 have qb:=isNaN_s G b
 apply Con.just
 (refine v_enter Tryz.func145 rfl Tryz.ntmps145 rfl ?_;intro B _)
 repeat' (first|refine Wa ?_|(refine Wc ⟨?_,?_⟩<;>first|exact True.intro|intro h)|refine cJ qa ?_|refine cJ qb ?_|fail)
 all_goals
  (refine Vr ?_
   refine ⟨?_,rfl⟩
   simp [cmpK, *])
section
variable {α:Type}{key:α→Int}
def RiseG (key:α→Int) (l:List α):Prop := ∀ i j (hj:j<l.length) (h:i<j),key (l[i]'(by omega))<key l[j]
def placeG (key:α→Int) (l:List α) (n:Int):Nat:=l.countP fun x=>decide (key x<n)
theorem placeG_eq {l:List α}{n:Int}{i:Nat}(hi:i≤l.length) (h1:∀ m (h:m<l.length),m<i→key l[m]<n) (h2:∀ m (h:m<l.length),i≤m→¬ key l[m]<n):placeG key l n=i:=by
 have e:l=l.take i++l.drop i:=(List.take_append_drop i l).symm
 rw [placeG,e,List.countP_append,List.countP_eq_length.2,List.countP_eq_zero.2,List.length_take,Nat.add_zero]
 ·omega
 ·intro x hx
  obtain ⟨m,hm,rfl⟩:=List.getElem_of_mem hx
  rw [List.length_drop] at hm
  rw [List.getElem_drop]
  simpa using h2 (i+m) (by omega) (by omega)
 ·intro x hx
  obtain ⟨m,hm,rfl⟩:=List.getElem_of_mem hx
  rw [List.length_take] at hm
  rw [List.getElem_take]
  simpa using h1 m (by omega) (by omega)
def hitG (key:α→Int) (l:List α) (n:Int):Bool:=if h:placeG key l n<l.length then decide (key (l[placeG key l n])=n) else false
end
abbrev ksS (x:Ss):Int:=x.client
theorem splace1_s (G:GH) (x:Ss) (n:Int):Con Tryz.prog 256 #[.agg x.cells.toArray,.int .i64 n] G [] (Just (.int .i64 (cmpK (ksS x) n)) G):=by
 have qc:=cmp_s G x.client n
 apply Con.just
 (refine v_enter Tryz.func256 rfl Tryz.ntmps256 rfl ?_;intro B _)
 repeat' (first|refine Wa ?_|(refine Wc ⟨?_,?_⟩<;>first|exact True.intro|intro h)|apply v_box (zs:=x.cells);(case hx|hz|hd=>rfl);intro b|refine cJ qc ?_|refine Wr ?_|(refine Wb ?_;intro b)|fail)
 refine Vr ?_
 exact ⟨rfl,rfl⟩
theorem ssSearch_s {G:GH}{l:List Ss}{sv:Value}(n:Int) (hs:Sss G sv l) (hr:RiseG ksS l):Con Tryz.prog 255 #[sv,.int .i64 n,.func (.func 256) #[] #[]] G [] (Just (.tuple [.int .i64 (placeG ksS l n:Nat),.bool (hitG ksS l n)].toArray) G):=by
 obtain ⟨A,c,rfl,hlc,hcm,hsome,hcp⟩:=rowOpen hs
 simp only [maxLen] at hcm
 apply Con.just
 (refine v_enter Tryz.func255 rfl Tryz.ntmps255 rfl ?_;intro B _)
 repeat' (first|refine Wa ?_|(refine Wc ⟨?_,?_⟩<;>first|exact True.intro|intro h)|refine Wr ?_|fail)
 refine v_loop [9,10,8,0,1,2] (fun us G' μ'=>G'=G∧μ'=[]∧∃ i j:Nat,i≤j∧j≤l.length∧us=[Value.int .i64 (i:Nat),.int .i64 (j:Nat),.int .i64 l.length,.slice A l.length c,.int .i64 n,.func (.func 256) #[] #[]]∧(∀ m (h:m<l.length),m<i→ksS l[m]<n)∧(∀ m (h:m<l.length),j≤m→¬ ksS l[m]<n)) (fun us=>match us with | .int _ i::.int _ j::_=>(j-i).toNat|_=>0) rfl ⟨rfl,rfl,0,l.length,by omega,by omega,rfl,by omega,by omega⟩ ?_
 rintro us G' μ' ⟨rfl,rfl,i,j,hij,hj,rfl,h1,h2⟩
 have qp:=fun (m:Nat) (h:m<l.length)=>splace1_s G' l[m] n
 have em:((((i:Nat):Int)+((j:Nat):Int)) / 2).toNat=(i+j) / 2:=by omega
 repeat' (first|refine Wa ?_|(refine Wc ⟨?_,?_⟩<;>first|exact True.intro|intro h)|apply v_pure;(case hop=>(apply p_convUW;(case hx=>rfl);(case h=>omega)));(case hd=>rfl)|apply v_pure;(case hop=>(apply p_addw;(case hx|hy=>rfl)));(case hd=>rfl)|apply v_pure;(case hop=>(apply p_convE64;(case hx=>rfl);(case h=>omega)));(case hd=>rfl)|apply v_pure;(case hop=>(apply p_shr1;(case hx|hy=>rfl)));(case hd=>rfl)|apply v_pure;(case hop=>(apply p_conv64;(case hx=>rfl);(case h=>omega)));(case hd=>rfl)|apply v_read;(case hop=>(apply r_loadN;rfl;exact CellsAt.frozen (hcp _ (by omega));rfl));(case hd=>rfl)|apply v_callFJ0 (hs:=qp ((((i:Nat):Int)+((j:Nat):Int)) / 2).toNat (by omega));(case hx|ha|hd=>rfl)|apply v_callFJ0 (hs:=qp i (by omega));(case hx|ha|hd=>rfl)|refine Wr ?_|fail)
 ·have hc:ksS (l[(i+j) / 2]'(by omega))<n:=by
   have h0:=cmpK_lt.1 ‹cmpK _ _<0›
   simpa only [em] using h0
  refine v_again rfl ⟨rfl,rfl,(i+j) / 2+1,j,by omega,hj,rfl,fun m hm hlt=>?_,h2⟩ ?_
  ·by_cases he:m=(i+j) / 2
   ·subst he;exact hc
   ·have:=hr m ((i+j) / 2) (by omega) (by omega)
    omega
  ·simp only;omega
 ·have hc:¬ ksS (l[(i+j) / 2]'(by omega))<n:=by
   have h0:=mt cmpK_lt.2 ‹¬ cmpK _ _<0›
   simpa only [em] using h0
  refine v_again rfl ⟨rfl,rfl,i,(i+j) / 2,by omega,by omega,rfl,h1,fun m hm hlt=>?_⟩ ?_
  ·by_cases he:m=(i+j) / 2
   ·subst he;exact hc
   ·have:=hr ((i+j) / 2) m hm (by omega)
    omega
  ·simp only;omega
 ·have hp:placeG ksS l n=i:=placeG_eq (by omega) h1 (fun m h hm=>h2 m h (by omega))
  refine v_ret [] (outsA2 rfl rfl rfl) sS ?_
  refine ⟨?_,rfl⟩
  unfold hitG
  simp only [hp]
  rw [dif_pos (by omega)]
  congr 5
  rw [Bool.eq_iff_iff,dec_true,decide_eq_true_iff,cmpK_eq]
 ·have hp:placeG ksS l n=i:=placeG_eq (by omega) h1 (fun m h hm=>h2 m h (by omega))
  refine v_ret [] (outsA2 rfl rfl rfl) sS ?_
  refine ⟨?_,rfl⟩
  unfold hitG
  simp only [hp]
  rw [dif_neg (by omega)]
abbrev ksP (x:Pr):Int:=kn x.key
theorem pplace1_s (G:GH) (x:Pr) (k:ByteArray) (hx:x.key.size≤200) (hk:k.size≤200):Con Tryz.prog 328 #[.agg x.cells.toArray,.string k] G [] (Just (.int .i64 (cmpK (ksP x) (kn k))) G):=by
 have qc:=strCmp_s (G:=G) hx hk
 apply Con.just
 (refine v_enter Tryz.func328 rfl Tryz.ntmps328 rfl ?_;intro B _)
 repeat' (first|refine Wa ?_|(refine Wc ⟨?_,?_⟩<;>first|exact True.intro|intro h)|apply v_box (zs:=x.cells);(case hx|hz|hd=>rfl);intro b|refine cJ qc ?_|refine Wr ?_|(refine Wb ?_;intro b)|fail)
 refine Vr ?_
 exact ⟨rfl,rfl⟩
theorem prSearch_s {G:GH}{l:List Pr}{sv:Value}(k:ByteArray) (hs:Prs G sv l) (hr:RiseG ksP l) (hz:∀ x∈l,x.key.size≤200) (hk:k.size≤200):Con Tryz.prog 327 #[sv,.string k,.func (.func 328) #[] #[]] G [] (Just (.tuple [.int .i64 (placeG ksP l (kn k):Nat),.bool (hitG ksP l (kn k))].toArray) G):=by
 obtain ⟨A,c,rfl,hlc,hcm,hsome,hcp⟩:=rowOpen hs
 simp only [maxLen] at hcm
 apply Con.just
 (refine v_enter Tryz.func327 rfl Tryz.ntmps327 rfl ?_;intro B _)
 repeat' (first|refine Wa ?_|(refine Wc ⟨?_,?_⟩<;>first|exact True.intro|intro h)|refine Wr ?_|fail)
 refine v_loop [9,10,8,0,1,2] (fun us G' μ'=>G'=G∧μ'=[]∧∃ i j:Nat,i≤j∧j≤l.length∧us=[Value.int .i64 (i:Nat),.int .i64 (j:Nat),.int .i64 l.length,.slice A l.length c,.string k,.func (.func 328) #[] #[]]∧(∀ m (h:m<l.length),m<i→ksP l[m]<(kn k))∧(∀ m (h:m<l.length),j≤m→¬ ksP l[m]<(kn k))) (fun us=>match us with | .int _ i::.int _ j::_=>(j-i).toNat|_=>0) rfl ⟨rfl,rfl,0,l.length,by omega,by omega,rfl,by omega,by omega⟩ ?_
 rintro us G' μ' ⟨rfl,rfl,i,j,hij,hj,rfl,h1,h2⟩
 have qp:=fun (m:Nat) (h:m<l.length)=>pplace1_s G' l[m] k (hz _ (List.getElem_mem h)) hk
 have em:((((i:Nat):Int)+((j:Nat):Int)) / 2).toNat=(i+j) / 2:=by omega
 repeat' (first|refine Wa ?_|(refine Wc ⟨?_,?_⟩<;>first|exact True.intro|intro h)|apply v_pure;(case hop=>(apply p_convUW;(case hx=>rfl);(case h=>omega)));(case hd=>rfl)|apply v_pure;(case hop=>(apply p_addw;(case hx|hy=>rfl)));(case hd=>rfl)|apply v_pure;(case hop=>(apply p_convE64;(case hx=>rfl);(case h=>omega)));(case hd=>rfl)|apply v_pure;(case hop=>(apply p_shr1;(case hx|hy=>rfl)));(case hd=>rfl)|apply v_pure;(case hop=>(apply p_conv64;(case hx=>rfl);(case h=>omega)));(case hd=>rfl)|apply v_read;(case hop=>(apply r_loadN;rfl;exact CellsAt.frozen (hcp _ (by omega));rfl));(case hd=>rfl)|apply v_callFJ0 (hs:=qp ((((i:Nat):Int)+((j:Nat):Int)) / 2).toNat (by omega));(case hx|ha|hd=>rfl)|apply v_callFJ0 (hs:=qp i (by omega));(case hx|ha|hd=>rfl)|refine Wr ?_|fail)
 ·have hc:ksP (l[(i+j) / 2]'(by omega))<(kn k):=by
   have h0:=cmpK_lt.1 ‹cmpK _ _<0›
   simpa only [em] using h0
  refine v_again rfl ⟨rfl,rfl,(i+j) / 2+1,j,by omega,hj,rfl,fun m hm hlt=>?_,h2⟩ ?_
  ·by_cases he:m=(i+j) / 2
   ·subst he;exact hc
   ·have:=hr m ((i+j) / 2) (by omega) (by omega)
    omega
  ·simp only;omega
 ·have hc:¬ ksP (l[(i+j) / 2]'(by omega))<(kn k):=by
   have h0:=mt cmpK_lt.2 ‹¬ cmpK _ _<0›
   simpa only [em] using h0
  refine v_again rfl ⟨rfl,rfl,i,(i+j) / 2,by omega,by omega,rfl,h1,fun m hm hlt=>?_⟩ ?_
  ·by_cases he:m=(i+j) / 2
   ·subst he;exact hc
   ·have:=hr ((i+j) / 2) m hm (by omega)
    omega
  ·simp only;omega
 ·have hp:placeG ksP l (kn k)=i:=placeG_eq (by omega) h1 (fun m h hm=>h2 m h (by omega))
  refine v_ret [] (outsA2 rfl rfl rfl) sS ?_
  refine ⟨?_,rfl⟩
  unfold hitG
  simp only [hp]
  rw [dif_pos (by omega)]
  congr 5
  rw [Bool.eq_iff_iff,dec_true,decide_eq_true_iff,cmpK_eq]
 ·have hp:placeG ksP l (kn k)=i:=placeG_eq (by omega) h1 (fun m h hm=>h2 m h (by omega))
  refine v_ret [] (outsA2 rfl rfl rfl) sS ?_
  refine ⟨?_,rfl⟩
  unfold hitG
  simp only [hp]
  rw [dif_neg (by omega)]
theorem pset1_s (G:GH) (x y:Pr) (hx:x.key.size≤200) (hy:y.key.size≤200):Con Tryz.prog 301 #[.agg x.cells.toArray,.agg y.cells.toArray] G [] (Just (.int .i64 (cmpK (ksP x) (kn y.key))) G):=by
 apply Con.just
 (refine v_enter Tryz.func301 rfl Tryz.ntmps301 rfl ?_;intro B _)
 repeat' (first|apply v_pure;(case hop=>(apply p_ltK;(case hx|hy=>rfl);(case ha=>assumption);(case hb=>assumption)));(case hd=>rfl)|apply v_pure;(case hop=>(apply p_gtK;(case hx|hy=>rfl);(case ha=>assumption);(case hb=>assumption)));(case hd=>rfl)|apply v_box (zs:=x.cells);(case hx|hz|hd=>rfl);intro b|apply v_box (zs:=y.cells);(case hx|hz|hd=>rfl);intro b2|refine Wa ?_|(refine Wc ⟨?_,?_⟩<;>first|exact True.intro|intro h)|refine Wr ?_|(refine Wb ?_;intro b)|fail)
 all_goals
  (refine Vr ?_
   refine ⟨?_,rfl⟩
   unfold cmpK
   first
    |(rw [if_pos (by assumption)];done)
    |(rw [if_neg (by assumption),if_pos (by assumption)];done)
    |(rw [if_neg (by assumption),if_neg (by assumption)];done))
theorem prSearch2_s {G:GH}{l:List Pr}{sv:Value}(y:Pr) (hs:Prs G sv l) (hr:RiseG ksP l) (hz:∀ x∈l,x.key.size≤200) (hk:y.key.size≤200):Con Tryz.prog 300 #[sv,.agg y.cells.toArray,.func (.func 301) #[] #[]] G [] (Just (.tuple [.int .i64 (placeG ksP l (kn y.key):Nat),.bool (hitG ksP l (kn y.key))].toArray) G):=by
 obtain ⟨A,c,rfl,hlc,hcm,hsome,hcp⟩:=rowOpen hs
 simp only [maxLen] at hcm
 apply Con.just
 (refine v_enter Tryz.func300 rfl Tryz.ntmps300 rfl ?_;intro B _)
 repeat' (first|apply v_box (zs:=y.cells);(case hx|hz|hd=>rfl);intro bt|refine Wa ?_|(refine Wc ⟨?_,?_⟩<;>first|exact True.intro|intro h)|refine Wr ?_|(refine Wb ?_;intro b)|fail)
 refine v_loop [9,10,8,0,4,2] (fun us G' μ'=>G'=G∧μ'=[(bt,.cells y.cells.toArray 257 (0,0))]∧∃ i j:Nat,i≤j∧j≤l.length∧us=[Value.int .i64 (i:Nat),.int .i64 (j:Nat),.int .i64 l.length,.slice A l.length c,.pointer (some ⟨bt,0,none⟩),.func (.func 301) #[] #[]]∧(∀ m (h:m<l.length),m<i→ksP l[m]<(kn y.key))∧(∀ m (h:m<l.length),j≤m→¬ ksP l[m]<(kn y.key))) (fun us=>match us with | .int _ i::.int _ j::_=>(j-i).toNat|_=>0) rfl ⟨rfl,rfl,0,l.length,by omega,by omega,rfl,by omega,by omega⟩ ?_
 rintro us G' _ ⟨rfl,rfl,i,j,hij,hj,rfl,h1,h2⟩
 have qp:=fun (m:Nat) (h:m<l.length)=>pset1_s G' l[m] y (hz _ (List.getElem_mem h)) hk
 have em:((((i:Nat):Int)+((j:Nat):Int)) / 2).toNat=(i+j) / 2:=by omega
 repeat' (first|refine Wa ?_|(refine Wc ⟨?_,?_⟩<;>first|exact True.intro|intro h)|apply v_pure;(case hop=>(apply p_convUW;(case hx=>rfl);(case h=>omega)));(case hd=>rfl)|apply v_pure;(case hop=>(apply p_addw;(case hx|hy=>rfl)));(case hd=>rfl)|apply v_pure;(case hop=>(apply p_convE64;(case hx=>rfl);(case h=>omega)));(case hd=>rfl)|apply v_pure;(case hop=>(apply p_shr1;(case hx|hy=>rfl)));(case hd=>rfl)|apply v_pure;(case hop=>(apply p_conv64;(case hx=>rfl);(case h=>omega)));(case hd=>rfl)|refine Wr ?_|(refine Wb ?_;intro b)|fail)
 ·refine Dz [(bt,.cells y.cells.toArray 257 (0,0))] ?_
  all_goals refine Dt [0,1,2,3] ?_
  all_goals (first|refine Tv 4 ?_ (hop:=by first|apply r_loadN;rfl;exact CellsAt.frozen (hcp _ (by omega));rfl|fail)|refine Dt [4] ?_)
  all_goals (first|refine Tv 5 ?_ (hop:=by first|apply r_loadN;rfl;exact CellsAt.frozen (hcp _ (by omega));rfl|fail)|refine Dt [5] ?_)
  all_goals ((apply d_callJ0 6 (hs:=(qp ((((i:Nat):Int)+((j:Nat):Int)) / 2).toNat (by omega)));(case hi=>rfl);(case hr=>kernel_rfl);(case ha|hx|hd=>rfl)))
  all_goals refine Dt [7] ?_
  all_goals refine Dd ?_
  repeat' (first|refine Wa ?_|(refine Wc ⟨?_,?_⟩<;>first|exact True.intro|intro h)|refine Wr ?_|(refine Wb ?_;intro b)|fail)
  ·have hc:ksP (l[(i+j) / 2]'(by omega))<(kn y.key):=by
    have h0:=cmpK_lt.1 ‹cmpK _ _<0›
    simpa only [em] using h0
   refine v_again rfl ⟨rfl,rfl,(i+j) / 2+1,j,by omega,hj,rfl,fun m hm hlt=>?_,h2⟩ ?_
   ·by_cases he:m=(i+j) / 2
    ·subst he;exact hc
    ·have:=hr m ((i+j) / 2) (by omega) (by omega)
     omega
   ·simp only;omega
  ·have hc:¬ ksP (l[(i+j) / 2]'(by omega))<(kn y.key):=by
    have h0:=mt cmpK_lt.2 ‹¬ cmpK _ _<0›
    simpa only [em] using h0
   refine v_again rfl ⟨rfl,rfl,i,(i+j) / 2,by omega,by omega,rfl,h1,fun m hm hlt=>?_⟩ ?_
   ·by_cases he:m=(i+j) / 2
    ·subst he;exact hc
    ·have:=hr ((i+j) / 2) m hm (by omega)
     omega
   ·simp only;omega
 ·refine Dz [(bt,.cells y.cells.toArray 257 (0,0))] ?_
  all_goals refine Dt [0,1,2,3,4] ?_
  all_goals (try (refine Dg 5 ⟨?_,?_⟩<;>first|exact True.intro|intro h))
  all_goals refine Dt [5,6,7,8] ?_
  all_goals (first|refine TvG 9 ?_ (hop:=by first|apply r_loadN;rfl;exact CellsAt.frozen (hcp _ (by omega));rfl|fail)|refine Dt [9] ?_)
  all_goals (first|refine TvG 10 ?_ (hop:=by first|apply r_loadN;rfl;exact CellsAt.frozen (hcp _ (by omega));rfl|fail)|refine Dt [10] ?_)
  all_goals (first|refine Dt [11] ?_|apply d_callJ0G 11 (hs:=(qp i (by omega)));(case hi|hg=>rfl);(case hr=>kernel_rfl);(case ha|hx|hd=>rfl)|fail)
  all_goals refine Dt [12,13,14,15] ?_
  all_goals refine Dd ?_
  repeat' (first|refine Wa ?_|(refine Wc ⟨?_,?_⟩<;>first|exact True.intro|intro h)|refine Wr ?_|(refine Wb ?_;intro b)|fail)
  ·have hp:placeG ksP l (kn y.key)=i:=placeG_eq (by omega) h1 (fun m h hm=>h2 m h (by omega))
   refine v_ret [] (outsA2 rfl rfl rfl) sS ?_
   refine ⟨?_,rfl⟩
   unfold hitG
   simp only [hp]
   rw [dif_pos (by omega)]
   congr 5
   rw [Bool.eq_iff_iff,dec_true,decide_eq_true_iff,cmpK_eq]
  ·have hp:placeG ksP l (kn y.key)=i:=placeG_eq (by omega) h1 (fun m h hm=>h2 m h (by omega))
   refine v_ret [] (outsA2 rfl rfl rfl) sS ?_
   refine ⟨?_,rfl⟩
   unfold hitG
   simp only [hp]
   rw [dif_neg (by omega)]
end Go.Proofs.YtkofafmiabmobaaGreatDoor
/-
  The library: slices.Delete of pairs; slices.ContainsFunc.
-/
namespace Go.Proofs.YtkofafmiabmobaaGreatDoor
open Go.Vx Go.ChangeShapes Go.WideShapes Go.ChangeAt Go.RowKit
theorem p_sliceLHB {σ:Env}{ty t e:TypeId}{agg:Bool}{sz bytes:Nat}{zero:Value}{x lo hi:Operand}{b o n c:Nat}{k k':IntKind}{z z':Int} [Ty Tryz.prog t (.slice e)] [Lay Tryz.prog e agg sz bytes zero] (m h:Nat) (hx:Env.ev σ x=some (.slice (some ⟨b,o,none⟩) n c)) (hl:Env.ev σ lo=some (.int k z)) (hh:Env.ev σ hi=some (.int k' z')) (hz:z=(m:Nat)) (hz':z'=(h:Nat)) (h1:m≤h) (h2:h≤c) (h3:m<c) :
 PureOp Tryz.prog (.slice t x (some lo) (some hi) none) ty σ (.slice (some ⟨b,o+m*sz,none⟩) (h-m) (c-m)):=by
 subst hz hz'
 have q:=p_sliceLH (P:=Tryz.prog) (ty:=ty) (t:=t) (e:=e) (agg:=agg) (sz:=sz) (bytes:=bytes) (zero:=zero) hx hl hh (by omega) (by omega) (by omega)
 simp only [Int.toNat_natCast] at q
 rw [if_neg (by omega),Option.map_some,add_mk] at q
 exact q
theorem p_fromE {σ:Env}{ty t e:TypeId}{agg:Bool}{sz bytes:Nat}{zero:Value}{x lo:Operand}{A:Option Addr}{n c:Nat}{k:IntKind}{z:Int} [Ty Tryz.prog t (.slice e)] [Lay Tryz.prog e agg sz bytes zero] (m:Nat) (hx:Env.ev σ x=some (.slice A n c)) (hl:Env.ev σ lo=some (.int k z)) (hz:z=(m:Nat)) (h1:m≤n) (h2:n≤c) :
 PureOp Tryz.prog (.slice t x (some lo) none none) ty σ (.slice (if c=m then A else A.map (·.add (m*sz))) (n-m) (c-m)):=by
 subst hz
 have h:=p_sliceL (P:=Tryz.prog) (ty:=ty) (t:=t) (e:=e) (agg:=agg) (sz:=sz) (bytes:=bytes) (zero:=zero) hx hl (by omega) (by omega) h2
 simpa only [Int.toNat_natCast] using h
theorem over_mid (p x t r:List Value):over (p++(x++t)++r) p.length t=p++t++((x++t).drop t.length++r):=by
 unfold over
 rw [List.append_assoc p,List.take_left,← List.drop_drop,List.drop_left,List.drop_append_of_le_length (by rw [List.length_append];omega)]
theorem over_end (p z q:List Value) (h:z.length≤q.length):over (p++q) p.length z=p++(z++q.drop z.length):=by
 unfold over
 rw [List.take_left,← List.drop_drop,List.drop_left,List.append_assoc]
theorem zP_one (q:Nat):(Builtin.zeroCells (Value.cells zP) q).toList.all Value.oneCell'=true:=by
 rw [List.all_eq_true]
 intro v hv
 simp only [Builtin.zeroCells,Array.toList_map,List.mem_map,Array.mem_toList_iff] at hv
 obtain ⟨k,-,rfl⟩:=hv
 have hs:(Value.cells zP).size=3:=rfl
 rw [hs]
 obtain h|h|h:k % 3=0∨k % 3=1∨k % 3=2:=by omega
 ·rw [h];rfl
 ·rw [h];rfl
 ·rw [h];rfl
theorem prDelete_s {G:GH}{l:List Pr}{v:Value}{ν:OH}(i:Nat) (hg:GrP v l ν) (hi:i<l.length) (hn:l.length≤200) :
 Con Tryz.prog 299 #[v,.int .i64 i,.int .i64 ((i:Nat)+1)] G ν (fun r G' μ'=>G'=G∧GrP r (l.take i++l.drop (i+1)) μ'):=by
 obtain ⟨hxl,⟨rfl,h0,rfl⟩|⟨b,cap,spare,rfl,rfl,hc1,hc2,hc3⟩⟩:=hg
 ·omega
 simp only [maxLen] at hc2
 have hlen:=rowC_length Pr.len l
 rw [List.length_append,hlen] at hc3
 have tl:(rowC Pr.cells (l.take i)).length=i*3:=by rw [rowC_length Pr.len,List.length_take,Nat.min_eq_left (by omega)]
 have dl:(rowC Pr.cells (l.drop (i+1))).length=(l.length-(i+1))*3:=by rw [rowC_length Pr.len,List.length_drop]
 have hsp:rowC Pr.cells l=rowC Pr.cells (l.take i)++((l[i]).cells++rowC Pr.cells (l.drop (i+1))):=by
  rw [← rowC_cons,← List.drop_eq_getElem_cons hi,← rowC_append,List.take_append_drop]
 have hov1:over (rowC Pr.cells l++spare) (i*3) (rowC Pr.cells (l.drop (i+1)))=rowC Pr.cells (l.take i)++rowC Pr.cells (l.drop (i+1))++(((l[i]).cells++rowC Pr.cells (l.drop (i+1))).drop (rowC Pr.cells (l.drop (i+1))).length++spare):=by
  rw [hsp,← tl]
  exact over_mid _ _ _ _
 have hrl:(((l[i]).cells++rowC Pr.cells (l.drop (i+1))).drop (rowC Pr.cells (l.drop (i+1))).length).length=3:=by
  rw [List.length_drop,List.length_append,Pr.len];omega
 generalize (((l[i]).cells++rowC Pr.cells (l.drop (i+1))).drop (rowC Pr.cells (l.drop (i+1))).length)=rest at *
 have hus:((rowC Pr.cells l++spare).drop ((i+1)*3)).take ((l.length-(i+1))*3)=rowC Pr.cells (l.drop (i+1)):=by
  rw [List.drop_append_of_le_length (by omega),rowC_drop Pr.len,List.take_append_of_le_length (by omega),List.take_of_length_le (by omega)]
 have hz:(Builtin.zeroCells (Value.cells zP) 1).toList.length=3:=by rw [Array.length_toList,size_zeroCells];rfl
 have hl2:(rowC Pr.cells (l.take i)++rowC Pr.cells (l.drop (i+1))).length=(l.length-1)*3:=by rw [List.length_append,tl,dl];omega
 have hov2:over (rowC Pr.cells (l.take i)++rowC Pr.cells (l.drop (i+1))++(rest++spare)) ((l.length-1)*3) (Builtin.zeroCells (Value.cells zP) 1).toList=(rowC Pr.cells (l.take i)++rowC Pr.cells (l.drop (i+1)))++((Builtin.zeroCells (Value.cells zP) 1).toList++(rest++spare).drop (Builtin.zeroCells (Value.cells zP) 1).toList.length):=by
  rw [← hl2]
  exact over_end _ _ _ (by rw [hz,List.length_append,hrl];omega)
 have hone:∀ q,(Builtin.zeroCells (Value.cells zP) q).toList.all Value.oneCell'=true:=zP_one
 (refine v_enter Tryz.func299 rfl Tryz.ntmps299 rfl ?_;intro B _)
 repeat' (first|apply v_pure;(case hop=>(apply p_slice3L (l:=i) (h:=i+1) (q:=l.length);(case hx|hl|hh|hq=>rfl);(case h0|h1|h2=>omega)));(case hd=>rfl)|refine Wa ?_|(refine Wc ⟨?_,?_⟩<;>first|exact True.intro|intro h)|fail)
 by_cases hend:i+1<l.length
 ·refine Dz [] ?_
  all_goals refine Dt [0,1] ?_
  all_goals (first|refine Tv 2 ?_ (hop:=by first|apply PureOp.read;apply p_sliceHB i;(case hx|hl=>rfl);(case hz|h1=>omega)|fail)|refine Tv 2 ?_ (hop:=by first|apply PureOp.read;apply p_sliceB (i+1);(case hx|hl=>rfl);(case hz|h1|h2|h3=>omega)|fail)|refine Dt [2] ?_)
  all_goals refine Dt [3,4] ?_
  all_goals (first|refine Tv 5 ?_ (hop:=by first|apply PureOp.read;apply p_sliceHB i;(case hx|hl=>rfl);(case hz|h1=>omega)|fail)|refine Tv 5 ?_ (hop:=by first|apply PureOp.read;apply p_sliceB (i+1);(case hx|hl=>rfl);(case hz|h1|h2|h3=>omega)|fail)|refine Dt [5] ?_)
  all_goals (((apply d_exec 6;(case hi=>rfl);(case hr=>kernel_rfl);(case hop=>exact m_appendIn (e:=257) (sz:=3) (m':=l.length-(i+1)) (us:=rowC Pr.cells (l.drop (i+1))) rfl rfl (List.Perm.refl _) (Src.ownAt (vs:=rowC Pr.cells l++spare) (e:=257) aM (by rw [Nat.zero_add];exact hus) (by rw [dl])) (rowC_one Pr.one _) (by omega) (by rw [List.length_append,hlen];omega) hov1);(case hd=>rfl);rintro _ _ _ ⟨rfl,hG1,rfl⟩;subst hG1;refine ⟨(by intro e he;cases he),?_⟩)))
  all_goals refine Dt [7] ?_
  all_goals refine Dd ?_
  rw [show i+(l.length-(i+1))=l.length-1 by omega]
  repeat' (first|apply v_pure;(case hop=>(apply p_sliceLHB (l.length-1) l.length;(case hx|hl|hh=>rfl);(case hz|hz'|h1|h2|h3=>omega)));(case hd=>rfl)|refine Wa ?_|(refine Wc ⟨?_,?_⟩<;>first|exact True.intro|intro h)|fail)
  simp only [show l.length-(l.length-1)=1 by omega,Nat.zero_add]
  refine v_move0 (m_clear (e:=257) (agg:=true) (sz:=3) (bytes:=40) (zero:=zP) rfl (by omega) (List.Mem.head _) rfl zP_one (by rw [List.length_append,hl2,List.length_append,hrl];omega) hov2 (Upd.here _ _)) ?_
  ·rintro _ _ _ ⟨-,hG2,rfl⟩
   subst hG2
   repeat' (first|refine Wa ?_|(refine Wc ⟨?_,?_⟩<;>first|exact True.intro|intro h)|fail)
   refine v_ret [(b,_)] (outsA1 rfl rfl) (List.Sublist.refl _) ⟨rfl,?_⟩
   have e9:(l.take i++l.drop (i+1)).length=l.length-1:=by rw [List.length_append,List.length_take,List.length_drop];omega
   unfold GrP
   rw [e9,rowC_append]
   refine ⟨hl2,.inr ⟨b,cap,_,rfl,rfl,by omega,by simp only [maxLen];omega,?_⟩⟩
   rw [List.length_append,hl2,List.length_append,hz,List.length_drop,List.length_append,hrl]
   omega
 ·have hd0:rowC Pr.cells (l.drop (i+1))=[]:=by rw [List.drop_eq_nil_of_le (by omega)];rfl
  have hm0:l.length-(i+1)=0:=by omega
  refine Dz [] ?_
  all_goals refine Dt [0,1] ?_
  all_goals (first|refine Tv 2 ?_ (hop:=by first|apply PureOp.read;apply p_sliceHB i;(case hx|hl=>rfl);(case hz|h1=>omega)|fail)|refine Tv 2 ?_ (hop:=by first|apply PureOp.read;apply p_fromE (i+1);(case hx|hl=>rfl);(case hz|h1|h2=>omega)|fail)|refine Dt [2] ?_)
  all_goals refine Dt [3,4] ?_
  all_goals (first|refine Tv 5 ?_ (hop:=by first|apply PureOp.read;apply p_sliceHB i;(case hx|hl=>rfl);(case hz|h1=>omega)|fail)|refine Tv 5 ?_ (hop:=by first|apply PureOp.read;apply p_fromE (i+1);(case hx|hl=>rfl);(case hz|h1|h2=>omega)|fail)|refine Dt [5] ?_)
  all_goals (((apply d_exec 6;(case hi=>rfl);(case hr=>kernel_rfl);(case hop=>exact m_appendIn (e:=257) (sz:=3) (m':=l.length-(i+1)) (us:=rowC Pr.cells (l.drop (i+1))) rfl rfl (List.Perm.refl _) ⟨by rw [hd0,hm0];rfl,_,_,rfl,fun h=>absurd h (by omega)⟩ (rowC_one Pr.one _) (by omega) (by rw [List.length_append,hlen];omega) hov1);(case hd=>rfl);rintro _ _ _ ⟨rfl,hG1,rfl⟩;subst hG1;refine ⟨(by intro e he;cases he),?_⟩)))
  all_goals refine Dt [7] ?_
  all_goals refine Dd ?_
  rw [show i+(l.length-(i+1))=l.length-1 by omega]
  repeat' (first|apply v_pure;(case hop=>(apply p_sliceLHB (l.length-1) l.length;(case hx|hl|hh=>rfl);(case hz|hz'|h1|h2|h3=>omega)));(case hd=>rfl)|refine Wa ?_|(refine Wc ⟨?_,?_⟩<;>first|exact True.intro|intro h)|fail)
  simp only [show l.length-(l.length-1)=1 by omega,Nat.zero_add]
  refine v_move0 (m_clear (e:=257) (agg:=true) (sz:=3) (bytes:=40) (zero:=zP) rfl (by omega) (List.Mem.head _) rfl zP_one (by rw [List.length_append,hl2,List.length_append,hrl];omega) hov2 (Upd.here _ _)) ?_
  ·rintro _ _ _ ⟨-,hG2,rfl⟩
   subst hG2
   repeat' (first|refine Wa ?_|(refine Wc ⟨?_,?_⟩<;>first|exact True.intro|intro h)|fail)
   refine v_ret [(b,_)] (outsA1 rfl rfl) (List.Sublist.refl _) ⟨rfl,?_⟩
   have e9:(l.take i++l.drop (i+1)).length=l.length-1:=by rw [List.length_append,List.length_take,List.length_drop];omega
   unfold GrP
   rw [e9,rowC_append]
   refine ⟨hl2,.inr ⟨b,cap,_,rfl,rfl,by omega,by simp only [maxLen];omega,?_⟩⟩
   rw [List.length_append,hl2,List.length_append,hz,List.length_drop,List.length_append,hrl]
   omega
def revS (x:Ss):Bool:=decide (x.last.rev≠0)
theorem ssRevClos_s (G:GH) (x:Ss):Con Tryz.prog 164 #[.agg x.cells.toArray] G [] (Just (.bool (revS x)) G):=by
 apply Con.just
 (refine v_enter Tryz.func164 rfl Tryz.ntmps164 rfl ?_;intro B _)
 repeat' (first|apply v_box (zs:=x.cells);(case hx|hz|hd=>rfl);intro b|refine Wa ?_|(refine Wc ⟨?_,?_⟩<;>first|exact True.intro|intro h)|refine Wr ?_|(refine Wb ?_;intro b)|fail)
 refine Vr ?_
 refine ⟨?_,rfl⟩
 simp [revS,dec_eq]
def oddP (x:Pr):Bool:=decide (x.rev<1∨4294967296<x.rev)
theorem prOddClos_s (G:GH) (x:Pr):Con Tryz.prog 212 #[.agg x.cells.toArray] G [] (Just (.bool (oddP x)) G):=by
 apply Con.just
 (refine v_enter Tryz.func212 rfl Tryz.ntmps212 rfl ?_;intro B _)
 repeat' (first|apply v_box (zs:=x.cells);(case hx|hz|hd=>rfl);intro b|refine Wa ?_|(refine Wc ⟨?_,?_⟩<;>first|exact True.intro|intro h)|refine Wr ?_|(refine Wb ?_;intro b)|fail)
 all_goals
  (refine Vr ?_
   refine ⟨?_,rfl⟩
   unfold oddP
   congr 1
   rw [Bool.eq_iff_iff]
   simp [dec_eq]
   try omega)
theorem ssRevIndex_s {G:GH}{l:List Ss}{sv:Value}(hs:Sss G sv l):Con Tryz.prog 211 #[sv,.func (.func 164) #[] #[]] G [] (fun r G' μ'=>G'=G∧μ'=[]∧∃ z:Int,r=.int .i64 z∧(0≤z↔l.any revS=true)):=by
 obtain ⟨A,c,rfl,hlc,hcm,hsome,hcp⟩:=rowOpen hs
 simp only [maxLen] at hcm
 (refine v_enter Tryz.func211 rfl Tryz.ntmps211 rfl ?_;intro B _)
 repeat' (first|refine Wa ?_|(refine Wc ⟨?_,?_⟩<;>first|exact True.intro|intro h)|refine Wr ?_|fail)
 refine v_loop [8,7,0,1] (fun us G' μ'=>G'=G∧μ'=[]∧∃ k:Nat,k≤l.length∧us=[Value.int .i64 (k:Nat),.int .i64 (l.length:Nat),.slice A l.length c,.func (.func 164) #[] #[]]∧(l.take k).any revS=false) (fun us=>l.length-(headI us).toNat) rfl ⟨rfl,rfl,0,by omega,rfl,by simp⟩ ?_
 rintro us G' μ' ⟨rfl,rfl,k,hk,rfl,hno⟩
 by_cases hlt:k<l.length
 ·have e1:((k:Nat):Int).toNat=k:=by omega
  have hA:=hsome (by omega)
  have hck:=hcp k hlt
  have qp:=ssRevClos_s G' l[k]
  have hnx:(l.take (k+1)).any revS=revS l[k]:=by rw [List.take_succ_eq_append_getElem hlt,List.any_append,hno];simp
  have hin:revS l[k]=true→l.any revS=true:=fun h=>List.any_eq_true.2 ⟨_,List.getElem_mem hlt,h⟩
  generalize l[k]=x at *
  cases hb:revS x with
  | true =>
   rw [hb] at qp
   repeat' (first|refine Wa ?_|(refine Wc ⟨?_,?_⟩<;>first|exact True.intro|intro h)|refine RN hck ?_|apply v_callFJ0 (hs:=qp);(case hx|ha|hd=>rfl)|refine Wr ?_|fail)
   refine Vr ?_
   exact ⟨rfl,rfl,_,rfl,fun _=>hin hb,fun _=>by omega⟩
  | false =>
   rw [hb] at qp hnx
   repeat' (first|refine Wa ?_|(refine Wc ⟨?_,?_⟩<;>first|exact True.intro|intro h)|refine RN hck ?_|apply v_callFJ0 (hs:=qp);(case hx|ha|hd=>rfl)|refine Wr ?_|fail)
   exact Va rfl ⟨rfl,rfl,k+1,by omega,rfl,hnx⟩
 ·rw [List.take_of_length_le (by omega)] at hno
  repeat' (first|refine Wa ?_|(refine Wc ⟨?_,?_⟩<;>first|exact True.intro|intro h)|refine Wr ?_|fail)
  refine Vr ?_
  exact ⟨rfl,rfl,_,rfl,fun h=>by omega,fun h=>by rw [hno] at h;cases h⟩
theorem ssRevHas_s {G:GH}{l:List Ss}{sv:Value}(hs:Sss G sv l):Con Tryz.prog 163 #[sv,.func (.func 164) #[] #[]] G [] (Just (.bool (l.any revS)) G):=by
 have q:=ssRevIndex_s hs
 (refine v_enter Tryz.func163 rfl Tryz.ntmps163 rfl ?_;intro B _)
 repeat' (first|refine Wa ?_|(refine Wc ⟨?_,?_⟩<;>first|exact True.intro|intro h)|fail)
 refine v_call (μ1:=[]) (μ2:=[]) rfl q (List.Perm.refl _) rfl ?_
 rintro _ G1 _ - ⟨hG1,rfl,z,rfl,hz⟩
 subst hG1
 repeat' (first|refine Wa ?_|(refine Wc ⟨?_,?_⟩<;>first|exact True.intro|intro h)|fail)
 refine Vr ?_
 refine ⟨?_,rfl,rfl⟩
 congr 1
 rw [Bool.eq_iff_iff,dec_true,hz]
theorem prOddIndex_s {G:GH}{l:List Pr}{sv:Value}(hs:Prs G sv l):Con Tryz.prog 250 #[sv,.func (.func 212) #[] #[]] G [] (fun r G' μ'=>G'=G∧μ'=[]∧∃ z:Int,r=.int .i64 z∧(0≤z↔l.any oddP=true)):=by
 obtain ⟨A,c,rfl,hlc,hcm,hsome,hcp⟩:=rowOpen hs
 simp only [maxLen] at hcm
 (refine v_enter Tryz.func250 rfl Tryz.ntmps250 rfl ?_;intro B _)
 repeat' (first|refine Wa ?_|(refine Wc ⟨?_,?_⟩<;>first|exact True.intro|intro h)|refine Wr ?_|fail)
 refine v_loop [8,7,0,1] (fun us G' μ'=>G'=G∧μ'=[]∧∃ k:Nat,k≤l.length∧us=[Value.int .i64 (k:Nat),.int .i64 (l.length:Nat),.slice A l.length c,.func (.func 212) #[] #[]]∧(l.take k).any oddP=false) (fun us=>l.length-(headI us).toNat) rfl ⟨rfl,rfl,0,by omega,rfl,by simp⟩ ?_
 rintro us G' μ' ⟨rfl,rfl,k,hk,rfl,hno⟩
 by_cases hlt:k<l.length
 ·have e1:((k:Nat):Int).toNat=k:=by omega
  have hA:=hsome (by omega)
  have hck:=hcp k hlt
  have qp:=prOddClos_s G' l[k]
  have hnx:(l.take (k+1)).any oddP=oddP l[k]:=by rw [List.take_succ_eq_append_getElem hlt,List.any_append,hno];simp
  have hin:oddP l[k]=true→l.any oddP=true:=fun h=>List.any_eq_true.2 ⟨_,List.getElem_mem hlt,h⟩
  generalize l[k]=x at *
  cases hb:oddP x with
  | true =>
   rw [hb] at qp
   repeat' (first|refine Wa ?_|(refine Wc ⟨?_,?_⟩<;>first|exact True.intro|intro h)|refine RN hck ?_|apply v_callFJ0 (hs:=qp);(case hx|ha|hd=>rfl)|refine Wr ?_|fail)
   refine Vr ?_
   exact ⟨rfl,rfl,_,rfl,fun _=>hin hb,fun _=>by omega⟩
  | false =>
   rw [hb] at qp hnx
   repeat' (first|refine Wa ?_|(refine Wc ⟨?_,?_⟩<;>first|exact True.intro|intro h)|refine RN hck ?_|apply v_callFJ0 (hs:=qp);(case hx|ha|hd=>rfl)|refine Wr ?_|fail)
   exact Va rfl ⟨rfl,rfl,k+1,by omega,rfl,hnx⟩
 ·rw [List.take_of_length_le (by omega)] at hno
  repeat' (first|refine Wa ?_|(refine Wc ⟨?_,?_⟩<;>first|exact True.intro|intro h)|refine Wr ?_|fail)
  refine Vr ?_
  exact ⟨rfl,rfl,_,rfl,fun h=>by omega,fun h=>by rw [hno] at h;cases h⟩
theorem prOddHas_s {G:GH}{l:List Pr}{sv:Value}(hs:Prs G sv l):Con Tryz.prog 213 #[sv,.func (.func 212) #[] #[]] G [] (Just (.bool (l.any oddP)) G):=by
 have q:=prOddIndex_s hs
 (refine v_enter Tryz.func213 rfl Tryz.ntmps213 rfl ?_;intro B _)
 repeat' (first|refine Wa ?_|(refine Wc ⟨?_,?_⟩<;>first|exact True.intro|intro h)|fail)
 refine v_call (μ1:=[]) (μ2:=[]) rfl q (List.Perm.refl _) rfl ?_
 rintro _ G1 _ - ⟨hG1,rfl,z,rfl,hz⟩
 subst hG1
 repeat' (first|refine Wa ?_|(refine Wc ⟨?_,?_⟩<;>first|exact True.intro|intro h)|fail)
 refine Vr ?_
 refine ⟨?_,rfl,rfl⟩
 congr 1
 rw [Bool.eq_iff_iff,dec_true,hz]
def PrOk (x:Pr):Prop:=keyB x.key=true∧valB x.val=true
def Sized (l:List Pr):Prop := ∀ x∈l,x.key.size≤200∧x.val.size≤200
def AdjP (l:List Pr):Prop := ∀ i (h:i<l.length) (h0:0<i),ksP (l[i-1]'(by omega))<ksP l[i]
def OneP (l:List Pr):Prop:=l.length≤64∧AdjP l∧∀ x∈l,PrOk x∧x.rev=0
def TwoP (l:List Pr):Prop:=l.length≤64∧AdjP l∧∀ x∈l,PrOk x∧1≤x.rev∧x.rev≤4294967296
noncomputable instance (l:List Pr):Decidable (OneP l):=Classical.propDecidable _
noncomputable instance (l:List Pr):Decidable (TwoP l):=Classical.propDecidable _
theorem adj_rise {l:List Pr}(h:AdjP l):RiseG ksP l:=by
 intro i j hj hij
 induction j with
 | zero=>omega
 | succ j ih =>
  have h1:=h (j+1) hj (by omega)
  simp only [Nat.add_sub_cancel] at h1
  by_cases e:i=j
  ·subst e;exact h1
  ·have:=ih (by omega) (by omega)
   omega
theorem rise_adj {l:List Pr}(h:RiseG ksP l):AdjP l:=fun i hi h0=>h (i-1) i hi (by omega)
set_option maxHeartbeats 1000000 in
theorem oneCheck_s {G:GH}(hT:TabsG G) {l:List Pr}{sv:Value}(hs:Prs G sv l) (hz:Sized l):Con Tryz.prog 165 #[sv] G [] (Just (.int .i64 (if OneP l then 0 else 3)) G):=by
 obtain ⟨A,c,rfl,hlc,hcm,hsome,hcp⟩:=rowOpen hs
 simp only [maxLen] at hcm
 apply Con.just
 by_cases h64:64<l.length
 ·rw [if_neg (fun h=>by have:=h.1;omega)]
  (refine v_enter Tryz.func165 rfl Tryz.ntmps165 rfl ?_;intro B _)
  repeat' (first|refine Wa ?_|(refine Wc ⟨?_,?_⟩<;>first|exact True.intro|intro h)|refine Wr ?_|(refine Wb ?_;intro b)|fail)
  refine Vr ?_
  exact ⟨rfl,rfl⟩
 (refine v_enter Tryz.func165 rfl Tryz.ntmps165 rfl ?_;intro B _)
 repeat' (first|refine Wa ?_|(refine Wc ⟨?_,?_⟩<;>first|exact True.intro|intro h)|refine Wr ?_|(refine Wb ?_;intro b)|fail)
 refine v_loop [10,9,8,0] (fun us G' μ'=>G'=G∧μ'=[]∧∃ k:Nat,k≤l.length∧us=[Value.int .i64 (k:Nat),.int .i64 (l.length:Nat),.slice A l.length c,.slice A l.length c]∧∀ i (h:i<l.length),i<k→(∀ h0:0<i,ksP (l[i-1]'(by omega))<ksP l[i])∧PrOk l[i]∧l[i].rev=0) (fun us=>l.length-(headI us).toNat) rfl ⟨rfl,rfl,0,by omega,rfl,by omega⟩ ?_
 rintro us G' _ ⟨rfl,rfl,k,hk,rfl,hno⟩
 by_cases hlt:k<l.length
 ·have e1:((k:Nat):Int).toNat=k:=by omega
  have hA:=hsome (by omega)
  have hck:=hcp k hlt
  obtain ⟨hz1,hz2⟩:=hz _ (List.getElem_mem hlt)
  obtain ⟨pk,hpk,hpz,hpe⟩:∃ pk:ByteArray,(0<k→GH.cell? G' (((adr A).add ((((k:Nat):Int)-1).toNat*3)).add 0)=some (.string pk))∧pk.size≤200∧∀ h0:0<k,pk=(l[k-1]'(by omega)).key:=by
   by_cases h0:0<k
   ·have e2:(((k:Nat):Int)-1).toNat=k-1:=by omega
    exact ⟨_,fun _=>by rw [e2];exact (hcp (k-1) (by omega)).cell (j:=0) rfl,(hz _ (List.getElem_mem (by omega))).1,fun _=>rfl⟩
   ·exact ⟨ByteArray.empty,fun h=>absurd h h0,by decide,fun h=>absurd h h0⟩
  have hin:∀ P:Prop,OneP l→(((∀ h0:0<k,kn pk<kn (l[k]).key)∧keyB (l[k]).key=true∧valB (l[k]).val=true∧(l[k]).rev=0)→P)→P:=fun P h hp=>hp ⟨fun h0=>by rw [hpe h0];exact h.2.1 k hlt h0,(h.2.2 _ (List.getElem_mem hlt)).1.1,(h.2.2 _ (List.getElem_mem hlt)).1.2,(h.2.2 _ (List.getElem_mem hlt)).2⟩
  have hnx:(∀ h0:0<k,kn pk<kn (l[k]).key)→keyB (l[k]).key=true→valB (l[k]).val=true→(l[k]).rev=0→∀ i (h:i<l.length),i<k+1→(∀ h0:0<i,ksP (l[i-1]'(by omega))<ksP l[i])∧PrOk l[i]∧l[i].rev=0:=fun a1 a2 a3 a4 i hi hik=>by
   by_cases e:i=k
   ·subst e
    exact ⟨fun h0=>by have:=a1 h0;rw [hpe h0] at this;exact this,⟨a2,a3⟩,a4⟩
   ·exact hno i hi (by omega)
  have qk:=key_s (s:=(l[k]).key) hT (by omega)
  have qv:=val_s (s:=(l[k]).val) hT (by omega)
  clear hpe
  generalize l[k]=x at *
  obtain ⟨key,val,rev⟩:=x
  simp only at *
  generalize hkb:keyB key=kb at *
  generalize hvb:valB val=vb at *
  repeat' (first|refine Wa ?_|(refine Wc ⟨?_,?_⟩<;>first|exact True.intro|intro h)|refine RN hck ?_|refine Wr ?_|(refine Wb ?_;intro b)|fail)
  refine Dz [(b,.cells [.string key,.string val,.int .i64 rev].toArray 257 (0,0))] ?_
  all_goals refine Dt [0] ?_
  all_goals (first|refine Tv 1 ?_ (hop:=by first|apply PureOp.read;apply p_leK;(case hx|hy=>rfl);(case ha=>assumption);(case hb=>assumption)|fail)|refine Dt [1] ?_)
  all_goals refine Dt [2] ?_
  all_goals (try (refine Dg 3 ⟨?_,?_⟩<;>first|exact True.intro|intro h))
  all_goals (first|refine TvG 3 ?_ (hop:=by first|apply PureOp.read;apply p_leK;(case hx|hy=>rfl);(case ha=>assumption);(case hb=>assumption)|fail)|refine Dt [3] ?_)
  all_goals (first|refine TvG 4 ?_ (hop:=by first|apply r_load1;rfl;exact Cell.frozen (hpk (by omega))|fail)|refine Dt [4] ?_)
  all_goals refine Dt [5,6] ?_
  all_goals (first|refine TvG 7 ?_ (hop:=by first|apply PureOp.read;apply p_leK;(case hx|hy=>rfl);(case ha=>assumption);(case hb=>assumption)|fail)|refine Dt [7] ?_)
  all_goals (first|refine TvG 8 ?_ (hop:=by first|apply PureOp.read;apply p_leK;(case hx|hy=>rfl);(case ha=>assumption);(case hb=>assumption)|fail)|refine Dt [8] ?_)
  all_goals (first|refine TvG 9 ?_ (hop:=by first|apply PureOp.read;apply p_leK;(case hx|hy=>rfl);(case ha=>assumption);(case hb=>assumption)|fail)|refine Dt [9] ?_)
  all_goals (first|refine TvG 10 ?_ (hop:=by first|apply r_load1;rfl;exact Cell.frozen (hpk (by omega))|fail)|refine Dt [10] ?_)
  all_goals (first|refine TvG 11 ?_ (hop:=by first|apply PureOp.read;apply p_leK;(case hx|hy=>rfl);(case ha=>assumption);(case hb=>assumption)|fail)|refine Dt [11] ?_)
  all_goals refine Dt [12,13] ?_
  all_goals (try (refine Dg 14 ⟨?_,?_⟩<;>first|exact True.intro|intro h))
  all_goals (first|refine TvG 14 ?_ (hop:=by first|apply PureOp.read;apply p_leK;(case hx|hy=>rfl);(case ha=>assumption);(case hb=>assumption)|fail)|refine Dt [14] ?_)
  all_goals (first|refine TvG 15 ?_ (hop:=by first|apply r_load1;rfl;exact Cell.frozen (hpk (by omega))|fail)|refine Dt [15] ?_)
  all_goals (first|refine Dt [16] ?_|refine DJG 16 (hs:=qk) ?_|refine DJG 16 (hs:=qv) ?_|fail)
  all_goals (first|refine TvG 17 ?_ (hop:=by first|apply PureOp.read;apply p_leK;(case hx|hy=>rfl);(case ha=>assumption);(case hb=>assumption)|fail)|refine Dt [17] ?_)
  all_goals refine Dt [18,19] ?_
  all_goals (try (refine Dg 20 ⟨?_,?_⟩<;>first|exact True.intro|intro h))
  all_goals (first|refine TvG 20 ?_ (hop:=by first|apply PureOp.read;apply p_leK;(case hx|hy=>rfl);(case ha=>assumption);(case hb=>assumption)|fail)|refine Dt [20] ?_)
  all_goals (first|refine TvG 21 ?_ (hop:=by first|apply r_load1;rfl;exact Cell.frozen (hpk (by omega))|fail)|refine Dt [21] ?_)
  all_goals (first|refine Dt [22] ?_|refine DJG 22 (hs:=qk) ?_|refine DJG 22 (hs:=qv) ?_|fail)
  all_goals (first|refine TvG 23 ?_ (hop:=by first|apply PureOp.read;apply p_leK;(case hx|hy=>rfl);(case ha=>assumption);(case hb=>assumption)|fail)|refine Dt [23] ?_)
  all_goals refine Dt [24,25] ?_
  all_goals (try (refine Dg 26 ⟨?_,?_⟩<;>first|exact True.intro|intro h))
  all_goals (first|refine TvG 26 ?_ (hop:=by first|apply PureOp.read;apply p_leK;(case hx|hy=>rfl);(case ha=>assumption);(case hb=>assumption)|fail)|refine Dt [26] ?_)
  all_goals (first|refine TvG 27 ?_ (hop:=by first|apply r_load1;rfl;exact Cell.frozen (hpk (by omega))|fail)|refine Dt [27] ?_)
  all_goals (first|refine TvG 28 ?_ (hop:=by first|apply PureOp.read;apply p_leK;(case hx|hy=>rfl);(case ha=>assumption);(case hb=>assumption)|fail)|refine Dt [28] ?_)
  all_goals refine Dt [29] ?_
  all_goals refine Dd ?_
  repeat' (first|refine Wa ?_|(refine Wc ⟨?_,?_⟩<;>first|exact True.intro|intro h)|refine Wr ?_|(refine Wb ?_;intro b)|fail)
  all_goals first
   |(refine v_drop (List.nil_sublist _) ?_
     refine Va rfl ⟨rfl,rfl,k+1,by omega,rfl,hnx (fun h0=>by omega) (by assumption) (by assumption) (by assumption)⟩)
   |(refine Vr ?_
     refine ⟨?_,rfl⟩
     rw [if_neg]
     intro ho
     refine hin False ho ?_
     rintro ⟨a1,a2,a3,a4⟩
     first
      |(cases a2.symm.trans ‹kb=false›)
      |(cases a3.symm.trans ‹vb=false›)
      |(exact absurd a4 (by assumption))
      |(have a5:=a1 (by omega);omega))
 ·have hone:OneP l:=⟨by omega,fun i hi h0=>(hno i hi (by omega)).1 h0,fun x hx=>by
   obtain ⟨i,hi,rfl⟩:=List.getElem_of_mem hx
   exact (hno i hi (by omega)).2⟩
  rw [if_pos hone]
  repeat' (first|refine Wa ?_|(refine Wc ⟨?_,?_⟩<;>first|exact True.intro|intro h)|refine Wr ?_|(refine Wb ?_;intro b)|fail)
  refine Vr ?_
  exact ⟨rfl,rfl⟩
theorem p_idxOwn2 {P:Program}{σ:Env}{t ty:TypeId}{bytes:Nat}{zero:Value}{e:TypeId}{agg:Bool}{sz:Nat}{x i:Operand}{b l c k:Nat}{kd:IntKind} [Ty P t (.slice e)] [Lay P e agg sz bytes zero] (hx:Env.ev σ x=some (.slice (some ⟨b,0,none⟩) l c)) (hi:Env.ev σ i=some (.int kd (k:Nat))) (h:k<l):PureOp P (.indexAddr t x i) ty σ (.pointer (some ⟨b,k*sz,none⟩)):=by
 have:=p_indexAddr (P:=P) (t:=t) (ty:=ty) hx hi (by omega) (by omega)
 simpa [add_mk] using this
def plainOf (x:Pr):Pr:={ x with rev:=0 }
def plainK (l:List Pr) (k:Nat):List Pr:=(l.take k).map plainOf++l.drop k
theorem plainK_next {l:List Pr}{k:Nat}(h:k<l.length):plainK l (k+1)=(l.take k).map plainOf++plainOf l[k]::l.drop (k+1):=by
 unfold plainK
 rw [List.take_succ_eq_append_getElem h,List.map_append,List.append_assoc]
 rfl
theorem plainK_at {l:List Pr}{k:Nat}(h:k<l.length):plainK l k=(l.take k).map plainOf++l[k]::l.drop (k+1):=by
 unfold plainK
 rw [List.drop_eq_getElem_cons h]
theorem rev_over (x:Pr) (p q:List Value) (n:Nat) (hp:p.length=n):over (p++(x.cells++q)) (n+2) [.int .i64 0]=p++((plainOf x).cells++q):=by
 subst hp
 unfold over
 rw [List.take_append,List.take_of_length_le (by omega),List.drop_append,List.drop_of_length_le (by omega)]
 rw [show p.length+2-p.length=2 by omega,show p.length+2+[Value.int IntKind.i64 0].length-p.length=3 by simp only [List.length_singleton];omega]
 simp [Pr.cells,plainOf]
theorem plainPr_s {G:GH}{l:List Pr}{sv:Value}(hs:Prs G sv l) (hn:l.length≤200):Con Tryz.prog 214 #[sv] G [] (fun r G' μ'=>G'=G∧GrP r (l.map plainOf) μ'):=by
 have q:=prClone_s hs hn
 (refine v_enter Tryz.func214 rfl Tryz.ntmps214 rfl ?_;intro B _)
 repeat' (first|refine Wa ?_|(refine Wc ⟨?_,?_⟩<;>first|exact True.intro|intro h)|refine Wr ?_|fail)
 refine v_call (μ1:=[]) (μ2:=[]) rfl q (List.Perm.refl _) rfl ?_
 rintro r G1 ν - ⟨hG1,hg⟩
 subst hG1
 obtain ⟨hxl,⟨rfl,h0,rfl⟩|⟨b,cap,spare,rfl,rfl,hc1,hc2,hc3⟩⟩:=hg
 ·have hl0:l=[]:=List.eq_nil_of_length_eq_zero h0
  subst hl0
  repeat' (first|refine Wa ?_|(refine Wc ⟨?_,?_⟩<;>first|exact True.intro|intro h)|refine Wr ?_|fail)
  refine v_loop [9,8,3] (fun us G' μ'=>G'=G1∧us=[Value.int .i64 (0:Nat),.int .i64 (0:Nat),.slice none 0 0]∧μ'=[]) (fun us=>0) rfl ⟨rfl,rfl,rfl⟩ ?_
  rintro us G' _ ⟨rfl,rfl,rfl⟩
  repeat' (first|refine Wa ?_|(refine Wc ⟨?_,?_⟩<;>first|exact True.intro|intro h)|refine Wr ?_|fail)
  refine Vr ?_
  exact ⟨rfl,Grow.nil _ _⟩
 ·simp only [maxLen] at hc2
  rw [List.length_append,rowC_length Pr.len] at hc3
  repeat' (first|refine Wa ?_|(refine Wc ⟨?_,?_⟩<;>first|exact True.intro|intro h)|refine Wr ?_|fail)
  refine v_loop [9,8,3] (fun us G' μ'=>G'=G1∧∃ k:Nat,k≤l.length∧us=[Value.int .i64 (k:Nat),.int .i64 (l.length:Nat),.slice (some ⟨b,0,none⟩) l.length cap]∧μ'=[(b,.cells (rowC Pr.cells (plainK l k)++spare).toArray 257 (0,0))]) (fun us=>l.length-(headI us).toNat) rfl ⟨rfl,0,by omega,rfl,rfl⟩ ?_
  rintro us G' _ ⟨hG',k,hk,rfl,rfl⟩
  subst hG'
  by_cases hlt:k<l.length
  ·have hov:over (rowC Pr.cells (plainK l k)++spare) (k*3+2) [.int .i64 0]=rowC Pr.cells (plainK l (k+1))++spare:=by
    rw [plainK_at hlt,plainK_next hlt,rowC_append,rowC_append,rowC_cons,rowC_cons,List.append_assoc,List.append_assoc,List.append_assoc,List.append_assoc]
    exact rev_over _ _ _ _ (by rw [rowC_length Pr.len,List.length_map,List.length_take,Nat.min_eq_left (by omega)])
   have hfit:k*3+2+1≤(rowC Pr.cells (plainK l k)++spare).length:=by
    rw [List.length_append,rowC_length Pr.len]
    unfold plainK
    rw [List.length_append,List.length_map,List.length_take,List.length_drop]
    omega
   repeat' (first|apply v_pure;(case hop=>apply p_idxOwn2;(case hx|hi=>rfl);(case h=>omega));(case hd=>rfl)|refine Wa ?_|(refine Wc ⟨?_,?_⟩<;>first|exact True.intro|intro h)|apply v_store;(case hp|hx|hc|hsz|h1=>rfl);(case hb=>exact aM);(case hfit=>exact hfit);(case hov=>exact hov);(case hu=>repeat first|exact Upd.here _ _|apply Upd.there)|refine Wr ?_|fail)
   exact Va rfl ⟨rfl,k+1,by omega,rfl,rfl⟩
  ·obtain rfl:k=l.length:=by omega
   have e1:plainK l l.length=l.map plainOf:=by unfold plainK;simp
   rw [e1]
   repeat' (first|refine Wa ?_|(refine Wc ⟨?_,?_⟩<;>first|exact True.intro|intro h)|refine Wr ?_|fail)
   refine v_ret [(b,_)] (outsA1 rfl rfl) (List.Sublist.refl _) ⟨rfl,?_⟩
   unfold GrP
   rw [List.length_map]
   exact ⟨by rw [rowC_length Pr.len,List.length_map],.inr ⟨b,cap,spare,rfl,rfl,hc1,by simp only [maxLen];omega,by rw [List.length_append,rowC_length Pr.len,List.length_map];exact hc3⟩⟩
theorem Mem.lent {G:GH}{μ ν:OH}{w:World}(h:Mem G (ν++μ) w):Mem (GH.put G ν) μ w:=by
 have hs:=(Step.refl h).freeze
 exact hs.mem
theorem Con.lend {P:Program}{f:FuncId}{args:Array Value}{G:GH}{ν μ:OH}{Ψ:Value→OH→Prop}
 (h:∀ G',GH.le G G'→(∀ b o,(b,o)∈ν→G' b=some o)→Con P f args G' μ (fun v _ μ'=>Ψ v μ')) :
 Con P f args G (ν++μ) (fun v G' μ'=>G'=G∧∃ μ1,Ψ v μ1∧μ'=ν++μ1):=by
 unfold Con at h ⊢
 intro w hw
 have hn:=hw.nodup
 rw [List.map_append,List.nodup_append] at hn
 have hin:∀ b o,(b,o)∈ν→GH.put G ν b=some o:=fun b o hb=>GH.put_mem hn.1 (hw.apart b o (List.mem_append_left _ hb)) hb
 refine (h (GH.put G ν) (GH.le_put _ _) hin w (Mem.lent hw)).mono ?_
 rintro v w' ⟨G2,μ1,hs,hΨ⟩
 refine ⟨G,ν++μ1,⟨⟨fun b o hb=>hs.mem.g b o (hs.le b o (GH.le_put G ν b o hb)),fun b o hb=>?_,?_,fun b o hb=>?_⟩,GH.le_refl _,hs.os,hs.tape,hs.output,hs.size,fun b hb hno=>hs.same b hb fun o ho=>hno o (List.mem_append_right _ ho),fun b o hb=>?_,fun b o hb=>.inl ⟨o,hb⟩⟩,rfl,μ1,hΨ,rfl⟩
 ·rcases List.mem_append.1 hb with hb|hb
  ·exact hs.mem.g b o (hs.le b o (hin b o hb))
  ·exact hs.mem.own b o hb
 ·rw [List.map_append,List.nodup_append]
  refine ⟨hn.1,hs.mem.nodup,fun a ha b hb e=>?_⟩
  subst e
  obtain ⟨⟨a1,o1⟩,h1,rfl⟩:=List.mem_map.1 ha
  obtain ⟨⟨a2,o2⟩,h2,e2⟩:=List.mem_map.1 hb
  simp only at e2
  subst e2
  have:=hs.mem.apart _ _ h2
  rw [hs.le _ _ (hin _ _ h1)] at this
  cases this
 ·rcases List.mem_append.1 hb with hb|hb
  ·exact hw.apart b o (List.mem_append_left _ hb)
  ·have:=hs.mem.apart b o hb
   cases hg:G b with
   | none=>rfl
   | some o' =>
    rw [hs.le _ _ (GH.le_put G ν b o' hg)] at this
    cases this
 ·rcases List.mem_append.1 hb with hb|hb
  ·exact .inl ⟨o,List.mem_append_left _ hb⟩
  ·rcases hs.mine b o hb with ⟨o',h'⟩|h'
   ·exact .inl ⟨o',List.mem_append_right _ h'⟩
   ·exact .inr h'
theorem Con.lendJ {P:Program}{f:FuncId}{args:Array Value}{G:GH}{ν:OH}{v:Value}
 (h:∀ G',GH.le G G'→(∀ b o,(b,o)∈ν→G' b=some o)→Con P f args G' [] (Just v G')):Con P f args G ν (Keeps v G ν):=by
 have:=Con.lend (G:=G) (ν:=ν) (μ:=[]) (Ψ:=fun u μ'=>u=v∧μ'=[]) fun G' h1 h2=>(h G' h1 h2).mono fun _ _ _ h=>⟨h.1,h.2.2⟩
 rw [List.append_nil] at this
 exact this.mono fun u G' μ' ⟨h1,μ1,⟨h2,h3⟩,h4⟩=>⟨h2,h1,by rw [h4,h3,List.append_nil]⟩
theorem Con.lendF {P:Program}{f:FuncId}{args:Array Value}{G:GH}{ν:OH}{Ψ:Value→OH→Prop}
 (h:∀ G',GH.le G G'→(∀ b o,(b,o)∈ν→G' b=some o)→Con P f args G' [] (fun v _ μ'=>Ψ v μ')) :
 Con P f args G ν (fun v G' μ'=>G'=G∧∃ μ1,Ψ v μ1∧μ'=ν++μ1):=by
 have:=Con.lend (G:=G) (ν:=ν) (μ:=[]) h
 rwa [List.append_nil] at this
section
variable {P:Program}{σ:Env}{G:GH}{μ:OH}{t ty:TypeId}{bytes:Nat}{zero:Value}
end
end Go.Proofs.YtkofafmiabmobaaGreatDoor
