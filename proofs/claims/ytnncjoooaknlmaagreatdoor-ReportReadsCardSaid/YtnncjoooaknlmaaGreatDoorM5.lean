/-
  The arguments of ReportReads (entries, texts), and the eight laid variables.
-/
import Derived.Test.YtnncjoooaknlmaaGreatDoorM4
import Derived.Test.YtnncjoooaknlmaaGreatDoorM1
import Derived.Lib.LaidU8T
import Derived.Lib.LaidTab
import Derived.MakeChecks
import Derived.Test.YtnncjoooaknlmaaGreatDoorRows
import Derived.Test.YtnncjoooaknlmaaGreatDoorChecked
import Derived.JoinedOf
import Derived.SevenTiedAt
import Derived.LaidMore
import Derived.Lay
import Derived.Test.YtnncjoooaknlmaaGreatDoorTie
import Derived.Test.YtnncjoooaknlmaaGreatDoorCards
import Derived.Stop.Joined
set_option linter.unusedSimpArgs false
set_option linter.unusedVariables false
namespace Go.Proofs.YtnncjoooaknlmaaGreatDoor
open Go.Vx Go.ChangeShapes Go.WideShapes Go.ChangeAt Go.RowKit
def CmRx (c:Cm) (cs:List Value):Prop:=cs=c.cells∧c.ok
theorem elx_cm {H:Type}{enc:TypeId×Value→H}{W:World}:Elem enc Tryz.prog W 35 CmRx:=by
 intro fuel cs x hf
 have h1:=el_flen (n:=7) Tryz.underlying35 (by kernel_rfl) hf
 obtain ⟨a0,h0,w0⟩:=el_fld (i:=0) (sz:=1) (by kernel_rfl) (el_int Tryz.underlying3) hf
 obtain ⟨a1,e1,w1⟩:=el_fld (i:=1) (sz:=1) (by kernel_rfl) (el_int Tryz.underlying3) hf
 obtain ⟨a2,e2,w2⟩:=el_fld (i:=2) (sz:=1) (by kernel_rfl) (el_int Tryz.underlying3) hf
 obtain ⟨a3,e3,w3⟩:=el_fld (i:=3) (sz:=1) (by kernel_rfl) (el_string Tryz.underlying9) hf
 obtain ⟨a4,e4,w4⟩:=el_fld (i:=4) (sz:=1) (by kernel_rfl) (el_string Tryz.underlying9) hf
 obtain ⟨a5,e5,w5⟩:=el_fld (i:=5) (sz:=1) (by kernel_rfl) (el_string Tryz.underlying9) hf
 obtain ⟨a6,e6,w6⟩:=el_fld (i:=6) (sz:=1) (by kernel_rfl) (el_int Tryz.underlying3) hf
 match cs,h1 with
 | [c0,c1,c2,c3,c4,c5,c6],_ =>
  simp only [List.drop_succ_cons,List.drop_zero,List.take_succ_cons,List.take_zero,List.cons.injEq,and_true] at h0 e1 e2 e3 e4 e5 e6
  exact ⟨⟨a0,a1,a2,a3,a4,a5,a6⟩,by rw [h0,e1,e2,e3,e4,e5,e6];rfl,w0,w1,w2,w3,w4,w5,w6⟩
theorem elx_ent {H:Type}{enc:TypeId×Value→H}{W:World}:Elem enc Tryz.prog W 37 EntR:=by
 intro fuel cs x hf
 have h1:=el_flen (n:=10) Tryz.underlying37 (by kernel_rfl) hf
 obtain ⟨k,hk,wk⟩:=el_fld (i:=0) (sz:=1) (by kernel_rfl) (el_int Tryz.underlying3) hf
 have hb:Elem enc Tryz.prog W 33 (fun (p:Int×Int) cs=>cs=[.int .i64 p.1,.int .i64 p.2]∧(Lit.int .i64 p.1).wf=true∧(Lit.int .i64 p.2).wf=true):=by
  intro fuel cs x hf
  have h1:=el_flen (n:=2) Tryz.underlying33 (by kernel_rfl) hf
  obtain ⟨a,ha,wa⟩:=el_fld (i:=0) (sz:=1) (by kernel_rfl) (el_int Tryz.underlying3) hf
  obtain ⟨b,hb,wb⟩:=el_fld (i:=1) (sz:=1) (by kernel_rfl) (el_int Tryz.underlying3) hf
  match cs,h1 with
  | [c0,c1],_ =>
   simp only [List.drop_succ_cons,List.drop_zero,List.take_succ_cons,List.take_zero,List.cons.injEq,and_true] at ha hb
   exact ⟨(a,b),by rw [ha,hb],wa,wb⟩
 obtain ⟨⟨r,n⟩,hr,wr,wn⟩:=el_fld (i:=1) (sz:=2) (by kernel_rfl) hb hf
 obtain ⟨c,hc,ho⟩:=el_fld (i:=2) (sz:=7) (by kernel_rfl) elx_cm hf
 match cs,h1 with
 | [c0,c1,c2,c3,c4,c5,c6,c7,c8,c9],_ =>
  simp only [Cm.cells,List.drop_succ_cons,List.drop_zero,List.take_succ_cons,List.take_zero,List.cons.injEq,and_true] at hk hr hc
  obtain ⟨rfl,rfl⟩:=hr
  obtain ⟨rfl,rfl,rfl,rfl,rfl,rfl,rfl⟩:=hc
  subst hk
  exact ⟨⟨k,r,n,c⟩,rfl,wk,wr,wn,ho⟩
set_option maxRecDepth 100000 in
theorem argx_t22 {H:Type}{enc:TypeId×Value→H}{W:World}{base:Nat}{v:Value}{d:DataW H}{p:List MemPlace}(hv:Value.okWide Tryz.prog W .any base 22 v) (h:DataW.Trod enc Tryz.prog W 0 (fun _=>true) true 22 v d p):∃ l,Es (ghost W) v l :=
 arg_slice Tryz.underlying22 (by kernel_rfl) elx_ent hv h
theorem elx_tx {H:Type}{enc:TypeId×Value→H}{W:World}:Elem enc Tryz.prog W 9 TxR:=by
 intro fuel cs x hf
 obtain ⟨a,h,-⟩:=el_string Tryz.underlying9 fuel cs x hf
 exact ⟨a,h⟩
set_option maxRecDepth 100000 in
theorem argx_t23 {H:Type}{enc:TypeId×Value→H}{W:World}{base:Nat}{v:Value}{d:DataW H}{p:List MemPlace}(hv:Value.okWide Tryz.prog W .any base 23 v) (h:DataW.Trod enc Tryz.prog W 0 (fun _=>true) true 23 v d p):∃ l,Sl (ghost W) 1 TxR v l :=
 arg_slice Tryz.underlying23 (by kernel_rfl) elx_tx hv h
theorem firstEqx:(Rows.laid_unicode_utf8_first:DataW Unit)=Lib.firstData:=by kernel_rfl
theorem acceptEqx:(Rows.laid_unicode_utf8_acceptRanges:DataW Unit)=Lib.acceptData:=by kernel_rfl
def crcTabx:List Int:=[0,498536548,997073096,651767980,1994146192,1802195444,1303535960,1342533948,3988292384,4027552580,3604390888,3412177804,2607071920,2262029012,2685067896,3183342108]
theorem crcTabx_at:∀ i,i<16→crcTabx[i]? = some ((tab i).toNat:Int):=by decide +kernel
theorem crcEqx:(Rows.laid_changeover_crc_table:DataW Unit)=Lib.tabData .u32 crcTabx:=by kernel_rfl
def bruTab:List Int:=[0,1,56,2,57,49,28,3,61,58,42,50,38,29,17,4,62,47,59,36,45,43,51,22,53,39,33,30,24,18,12,5,63,55,48,27,60,41,37,16,46,35,44,21,52,32,23,11,54,26,40,15,34,20,31,10,25,14,19,9,13,8,7,6]
theorem bruEq:(Rows.laid_math_bits_deBruijn64tab:DataW Unit)=Lib.tabData .u8 bruTab:=by kernel_rfl
theorem powEq:(Rows.laid_internal_strconv_uint64pow10:DataW Unit)=Lib.tabData .u64 Lib.pow10Tab:=by kernel_rfl
theorem iface_of_trod {H:Type}{enc:TypeId×Value→H}{P:Program}{W:World}{base:Nat}{sp:Nat→Bool}{held:Bool}{t:TypeId}{ms:Array (String×TypeId)}(ht:P.underlying t=some (.interface ms)):∀ (fuel:Nat) (l:List Value) (x:DataW H×List MemPlace),DataW.trod enc P W base sp held fuel t l=some x→∃ ev,l=[ev]∧(ev=.nilIface∨∃ te pe,ev=.iface te pe)
 | 0,l,x,h=>by simp [DataW.trod] at h
 | n+1,l,x,h=>by
  unfold DataW.trod at h
  rw [ht] at h
  match l,h with
  | [.nilIface],_=>exact ⟨_,rfl,.inl rfl⟩
  | [.iface u v],_=>exact ⟨_,rfl,.inr ⟨u,v,rfl⟩⟩
abbrev tabsLaid8:List (String×DataW Unit):=[("math/bits.deBruijn32tab",Rows.laid_math_bits_deBruijn32tab),("math/bits.deBruijn64tab",Rows.laid_math_bits_deBruijn64tab),("internal/strconv.uint64pow10",Rows.laid_internal_strconv_uint64pow10),("unicode/utf8.acceptRanges",Rows.laid_unicode_utf8_acceptRanges),("strconv.ErrRange",Rows.laid_strconv_ErrRange),("strconv.ErrSyntax",Rows.laid_strconv_ErrSyntax),("changeover/crc.table",Rows.laid_changeover_crc_table),("unicode/utf8.first",Rows.laid_unicode_utf8_first)]
theorem tabs8_plain:(tabsLaid8.all fun x=>x.2.handleName?.isNone)=true:=by kernel_rfl
def LaidsG (G:GH):Prop:=TabsG G∧CrcG G∧BruG G∧PowG G∧ErrsG G
theorem var_lift {P:Program}{W w:World}{n:String}{cs:Array Value}(hw:∀ b o,ghost W b=some o→w.heap[b]? = some o) (h:W.var? P n=some cs):w.var? P n=some cs:=by
 unfold World.var? at h ⊢
 cases hg:P.globalNamed n with
 | none=>rw [hg] at h;cases h
 | some g =>
  rw [hg] at h
  simp only [Option.bind_some] at h ⊢
  cases hb:W.heap[g]? with
  | none=>rw [hb] at h;cases h
  | some o=>rw [hw g o hb];rw [hb] at h;exact h
theorem err_of_reads {W:World}{n:String}{g:Nat}{d:DataW Unit}(hg:Tryz.prog.globalNamed n=some g) (hty:(Tryz.prog.globals[g]?).map (·.type)=some 51) (r:Lib.VarReads Tryz.prog W n d):∃ ev,W.cell? ⟨g,0,none⟩=some ev∧(ev=.nilIface∨∃ te pe,ev=.iface te pe):=by
 obtain ⟨g',t,cs,fuel,p,hg',hty',hvar,hd⟩:=r
 obtain rfl:=Option.some.inj (hg.symm.trans hg')
 obtain rfl:=Option.some.inj (hty.symm.trans hty')
 obtain ⟨ev,he,hev⟩:=iface_of_trod Tryz.underlying51 _ _ _ hd
 refine ⟨ev,?_,hev⟩
 have:=World.var?_cell hg hvar 0
 rw [this,← Array.getElem?_toList,he]
 rfl
set_option maxRecDepth 100000 in
theorem tabs8_of_laid {W:World}(hL:laidMetH Tryz.prog tabsLaid8 W):LaidsG (ghost W):=by
 rw [MakeChecks.laidMetH_plain _ _ _ tabs8_plain] at hL
 have r1:=Lib.laidMet.reads hL (.tail _ (.tail _ (.tail _ (.tail _ (.tail _ (.tail _ (.tail _ (.head _))))))))
 have r2:=Lib.laidMet.reads hL (.tail _ (.tail _ (.tail _ (.head _))))
 have r3:=Lib.laidMet.reads hL (.tail _ (.tail _ (.tail _ (.tail _ (.tail _ (.tail _ (.head _)))))))
 have r4:=Lib.laidMet.reads hL (.tail _ (.head _))
 have r5:=Lib.laidMet.reads hL (.tail _ (.tail _ (.head _)))
 have r6:=Lib.laidMet.reads hL (.tail _ (.tail _ (.tail _ (.tail _ (.tail _ (.head _))))))
 have r7:=Lib.laidMet.reads hL (.tail _ (.tail _ (.tail _ (.tail _ (.head _)))))
 rw [firstEqx] at r1
 rw [acceptEqx] at r2
 rw [crcEqx] at r3
 rw [bruEq] at r4
 rw [powEq] at r5
 have hU:=utf8Tabs_of_readsT (ρ:=laysDecode_ren) { laysDecode with } ⟨by kernel_rfl,by kernel_rfl,by kernel_rfl,by kernel_rfl,by kernel_rfl,by kernel_rfl,by kernel_rfl⟩ r1 r2
 have e6:=err_of_reads (g:=1) (by kernel_rfl) (by kernel_rfl) r6
 have e7:=err_of_reads (g:=2) (by kernel_rfl) (by kernel_rfl) r7
 clear hL r1 r2 r6 r7
 have lift:∀ (w:World),(∀ b o,ghost W b=some o→w.heap[b]? = some o)→∀ (a:Addr) v,W.cell? a=some v→w.cell? a=some v:=by
  intro w hw a v h
  unfold World.cell? at h ⊢
  cases hb:W.heap[a.block]? with
  | none=>rw [hb] at h;simp at h
  | some o=>rw [hw _ _ hb];rw [hb] at h;exact h
 refine ⟨?_,?_,?_,?_,?_⟩
 ·intro w hw
  exact ⟨fun c hc=>lift w hw _ _ (hU.1 c hc),fun i hi=>⟨lift w hw _ _ (hU.2 i hi).1,lift w hw _ _ (hU.2 i hi).2⟩⟩
 ·obtain ⟨g,t,cs,fuel,p,hg,hty,hvar,hd⟩:=r3
  obtain rfl:=Option.some.inj ((show Tryz.prog.globalNamed "changeover/crc.table" = some 3 by kernel_rfl).symm.trans hg)
  obtain rfl:=Option.some.inj ((show (Tryz.prog.globals[3]?).map (·.type)=some 244 by kernel_rfl).symm.trans hty)
  have hcs:=Lib.cells_of_tab Tryz.underlying244 Tryz.underlying95 (by kernel_rfl) (by kernel_rfl) hd
  intro i hi
  rw [ghost_cell]
  have:=World.var?_cell hg hvar i
  rw [this,← Array.getElem?_toList,hcs,List.getElem?_map,crcTabx_at i hi]
  rfl
 ·obtain ⟨g,t,cs,fuel,p,hg,hty,hvar,hd⟩:=r4
  obtain rfl:=Option.some.inj ((show Tryz.prog.globalNamed "math/bits.deBruijn64tab" = some 8 by kernel_rfl).symm.trans hg)
  obtain rfl:=Option.some.inj ((show (Tryz.prog.globals[8]?).map (·.type)=some 318 by kernel_rfl).symm.trans hty)
  have hcs:=Lib.cells_of_tab Tryz.underlying318 Tryz.underlying5 (by kernel_rfl) (by kernel_rfl) hd
  unfold BruG
  rw [ghost_cell]
  have:=World.var?_cell hg hvar 15
  rw [this,← Array.getElem?_toList,hcs]
  rfl
 ·obtain ⟨g,t,cs,fuel,p,hg,hty,hvar,hd⟩:=r5
  obtain rfl:=Option.some.inj ((show Tryz.prog.globalNamed "internal/strconv.uint64pow10" = some 4 by kernel_rfl).symm.trans hg)
  obtain rfl:=Option.some.inj ((show (Tryz.prog.globals[4]?).map (·.type)=some 255 by kernel_rfl).symm.trans hty)
  have hcs:=Lib.cells_of_tab Tryz.underlying255 Tryz.underlying151 (by kernel_rfl) (by kernel_rfl) hd
  intro w hw
  unfold Lib.TabIs
  rw [var_lift hw hvar,← hcs]
 ·intro w hw
  obtain ⟨ev6,h6,k6⟩:=e6
  obtain ⟨ev7,h7,k7⟩:=e7
  exact ⟨⟨ev6,lift w hw _ _ h6,k6⟩,⟨ev7,lift w hw _ _ h7,k7⟩⟩
theorem cm_feqD (d:Nat) (c c':Cm):FEq Tryz.prog (d+1) c.cells c'.cells [⟨"Kind",3,0,false, "", "",0⟩,⟨"Client",3,1,false, "", "",8⟩,⟨"Seq",3,2,false, "", "",16⟩,⟨"Key",9,3,false, "", "",24⟩,⟨"Val",9,4,false, "", "",40⟩,⟨"Old",9,5,false, "", "",56⟩,⟨"Node",3,6,false, "", "",72⟩] (dec (c.kind=c'.kind) && (dec (c.client=c'.client) && (dec (c.seq=c'.seq) && (dec (c.key=c'.key) && (dec (c.val=c'.val) && (dec (c.old=c'.old) && (dec (c.node=c'.node) && true))))))) :=
 feq_int (k:=.i64) (bytes:=8) (zero:=.int .i64 0) (sz:=1) (nm := "Kind") (ft:=3) (off:=0) (em:=false) (tg := "") (pk := "") (bo:=0) rfl rfl rfl
  (feq_int (k:=.i64) (bytes:=8) (zero:=.int .i64 0) (sz:=1) (nm := "Client") (ft:=3) (off:=1) (em:=false) (tg := "") (pk := "") (bo:=8) rfl rfl rfl
  (feq_int (k:=.i64) (bytes:=8) (zero:=.int .i64 0) (sz:=1) (nm := "Seq") (ft:=3) (off:=2) (em:=false) (tg := "") (pk := "") (bo:=16) rfl rfl rfl
  (feq_str (bytes:=16) (zero:=.string ByteArray.empty) (sz:=1) (nm := "Key") (ft:=9) (off:=3) (em:=false) (tg := "") (pk := "") (bo:=24) rfl rfl rfl
  (feq_str (bytes:=16) (zero:=.string ByteArray.empty) (sz:=1) (nm := "Val") (ft:=9) (off:=4) (em:=false) (tg := "") (pk := "") (bo:=40) rfl rfl rfl
  (feq_str (bytes:=16) (zero:=.string ByteArray.empty) (sz:=1) (nm := "Old") (ft:=9) (off:=5) (em:=false) (tg := "") (pk := "") (bo:=56) rfl rfl rfl
  (feq_int (k:=.i64) (bytes:=8) (zero:=.int .i64 0) (sz:=1) (nm := "Node") (ft:=3) (off:=6) (em:=false) (tg := "") (pk := "") (bo:=72) rfl rfl rfl feq_nil))))))
theorem ent_feq (x y:Ent):∃ b,FEq Tryz.prog 9999 x.cells y.cells [⟨"Index",3,0,false, "", "",0⟩,⟨"Ballot",33,1,false, "", "",8⟩,⟨"Cmd",35,3,false, "", "",24⟩] b∧b=dec (x=y):=by
 refine ⟨_,feq_int (k:=.i64) (bytes:=8) (zero:=.int .i64 0) (sz:=1) rfl (a:=x.index) (b:=y.index) rfl rfl (feq_agg (bytes:=16) (zero:=.agg #[.int .i64 0,.int .i64 0]) (sz:=2) (us:=[.int .i64 x.round,.int .i64 x.node]) (vs:=[.int .i64 y.round,.int .i64 y.node]) rfl rfl rfl
  (feq_int (k:=.i64) (bytes:=8) (zero:=.int .i64 0) (sz:=1) (a:=x.round) (b:=y.round) rfl rfl rfl (feq_int (k:=.i64) (bytes:=8) (zero:=.int .i64 0) (sz:=1) (a:=x.node) (b:=y.node) rfl rfl rfl feq_nil))
  (feq_agg (bytes:=80) (zero:=.agg #[.int .i64 0,.int .i64 0,.int .i64 0,.string ByteArray.empty,.string ByteArray.empty,.string ByteArray.empty,.int .i64 0]) (sz:=7) (us:=x.cmd.cells) (vs:=y.cmd.cells) rfl rfl rfl (cm_feqD 9997 x.cmd y.cmd) feq_nil)),?_⟩
 rw [cm_dec]
 obtain ⟨a1,a2,a3,a4⟩:=x
 obtain ⟨b1,b2,b3,b4⟩:=y
 rw [Bool.eq_iff_iff]
 simp [dec_true,and_assoc]
theorem neEnt {σ:Env}{ty t':TypeId}{a b:Operand}{x y:Ent}(hx:Env.ev σ a=some (.agg x.cells.toArray)) (hy:Env.ev σ b=some (.agg y.cells.toArray)):PureOp Tryz.prog (.binOp .neq 37 a b t') ty σ (.bool (!dec (x=y))):=by
 obtain ⟨q,hq,rfl⟩:=ent_feq x y
 exact p_neStruct (P:=Tryz.prog) (ty:=ty) (t:=37) (t':=t') hx hy hq
theorem entSame_s {G:GH}{a b:List Ent}{av bv:Value}(ha:Es G av a) (hb:Es G bv b):Con Tryz.prog 10 #[av,bv] G [] (Just (.bool (decide (a=b))) G):=by
 obtain ⟨A,c,rfl,hlc,hcm,hsome,hcp,hcb,hcc,hok⟩:=esOpen ha
 obtain ⟨A',c',rfl,hlc',hcm',hsome',hcp',hcb',hcc',hok'⟩:=esOpen hb
 clear hcb hcc hok hcb' hcc' hok'
 simp only [maxLen] at hcm hcm'
 apply Con.just
 (refine v_enter Tryz.func10 rfl Tryz.ntmps10 rfl ?_;intro B _)
 repeat' (first|refine Wa ?_|(refine Wc ⟨?_,?_⟩<;>first|intro h|exact ⟨⟩)|refine Wr ?_|fail)
 ·refine Vr ?_
  refine ⟨?_,rfl⟩
  rw [decide_eq_false]
  intro e
  subst e
  omega
 have hab:a.length=b.length:=by omega
 refine v_loop [5,0,1] (fun us G' μ'=>G'=G∧μ'=[]∧∃ k,k≤a.length∧us=[Value.int .i64 (k:Nat),.slice A a.length c,.slice A' b.length c']∧∀ i (h:i<a.length) (h':i<b.length),i<k→a[i]=b[i]) (fun us=>a.length-(headI us).toNat) rfl ⟨rfl,rfl,0,by omega,rfl,by omega⟩ ?_
 rintro us G' μ' ⟨rfl,rfl,k,hk,rfl,hno⟩
 repeat' (first|refine Wa ?_|(refine Wc ⟨?_,?_⟩<;>first|intro h|exact ⟨⟩)|refine Wr ?_|fail)
 ·have hlt:k<a.length:=by omega
  refine Dz [] ?_
  all_goals refine Dt [0,1] ?_
  all_goals (first|refine Tv 2 ?_ (hop:=by first|apply PureOp.read;apply neEnt (x:=a[k]'(by omega)) (y:=b[k]'(by omega));(case hx|hy=>rfl)|fail)|refine Dt [2] ?_)
  all_goals (first|refine Tv 3 ?_ (hop:=by first|apply r_loadN;rfl;exact CellsAt.frozen (hcp _ (by omega));rfl|fail)|refine Tv 3 ?_ (hop:=by first|apply r_loadN;rfl;exact CellsAt.frozen (hcp' _ (by omega));rfl|fail)|refine Dt [3] ?_)
  all_goals refine Dt [4,5] ?_
  all_goals (first|refine Tv 6 ?_ (hop:=by first|apply PureOp.read;apply neEnt (x:=a[k]'(by omega)) (y:=b[k]'(by omega));(case hx|hy=>rfl)|fail)|refine Dt [6] ?_)
  all_goals (first|refine Tv 7 ?_ (hop:=by first|apply r_loadN;rfl;exact CellsAt.frozen (hcp _ (by omega));rfl|fail)|refine Tv 7 ?_ (hop:=by first|apply r_loadN;rfl;exact CellsAt.frozen (hcp' _ (by omega));rfl|fail)|refine Dt [7] ?_)
  all_goals (first|refine Tv 8 ?_ (hop:=by first|apply PureOp.read;apply neEnt (x:=a[k]'(by omega)) (y:=b[k]'(by omega));(case hx|hy=>rfl)|fail)|refine Dt [8] ?_)
  all_goals refine Dd ?_
  repeat' (first|refine Wa ?_|(refine Wc ⟨?_,?_⟩<;>first|intro h|exact ⟨⟩)|refine Wr ?_|fail)
  ·refine Vr ?_
   refine ⟨?_,rfl⟩
   rw [decide_eq_false]
   intro e
   subst e
   contradiction
  ·refine Va rfl ⟨rfl,rfl,k+1,by omega,rfl,fun i h h' hi=>?_⟩
   by_cases hik:i=k
   ·subst hik;assumption
   ·exact hno i h h' (by omega)
 ·refine Vr ?_
  refine ⟨?_,rfl⟩
  rw [decide_eq_true]
  exact List.ext_getElem hab fun i h h'=>hno i h h' (by omega)
def LargeB (n:Nat) (G:GH) (r:Value) (G':GH) (μ':OH):Prop:=G'=G∧μ'=[]∧∃ b,r=.bool b∧(b=false→n≤40)
theorem entLargeB_s {G:GH}{l:List Ent}{sv:Value}(hs:Es G sv l):Con Tryz.prog 4 #[sv] G [] (LargeB l.length G):=by
 obtain ⟨A,c,rfl,hlc,hcm,hsome,hcp,hcb,hcc,hok⟩:=esOpen hs
 simp only [maxLen] at hcm
 have hz:=fun i (h:i<l.length)=>(hok i h).2.2.2
 simp only [Cm.ok,maxLen] at hz
 (refine v_enter Tryz.func4 rfl Tryz.ntmps4 rfl ?_;intro B _)
 repeat' (first|refine Wa ?_|(refine Wc ⟨?_,?_⟩<;>first|intro h|exact ⟨⟩)|refine Wr ?_|fail)
 refine v_loop [3,0] (fun us G' μ'=>G'=G∧μ'=[]∧∃ k,k≤l.length∧us=[Value.int .i64 (k:Nat),.slice A l.length c]) (fun us=>l.length-(headI us).toNat) rfl ⟨rfl,rfl,0,by omega,rfl⟩ ?_
 rintro us G' μ' ⟨rfl,rfl,k,hk,rfl⟩
 have e1:((k:Nat):Int).toNat=k:=by omega
 repeat' (first|refine Wa ?_|(refine Wc ⟨?_,?_⟩<;>first|intro h|exact ⟨⟩)|apply v_read;(case hop=>first|apply r_load1;rfl;exact Cell.frozen (cmCell hcc _ (by omega) 3 _ rfl)|apply r_load1;rfl;exact Cell.frozen (cmCell hcc _ (by omega) 4 _ rfl)|apply r_load1;rfl;exact Cell.frozen (cmCell hcc _ (by omega) 5 _ rfl));(case hd=>rfl)|refine Wr ?_|fail)
 all_goals first
  |(refine Vr ?_
    refine ⟨rfl,rfl,_,rfl,fun h=>?_⟩
    first|(cases h;done)|(have:=dec_false.1 h;omega))
  |(refine Va rfl ⟨rfl,rfl,k+1,by omega,rfl⟩)
end Go.Proofs.YtnncjoooaknlmaaGreatDoor
/-
  The law ReportReads (layer 46).
-/
set_option maxHeartbeats 2000000
namespace Go.Proofs.YtnncjoooaknlmaaGreatDoor
open Go.Vx Go.ChangeShapes Go.WideShapes Go.ChangeAt Go.RowKit
theorem readLog_len:∀ {l:List ByteArray}{xs:List Ent},readLog l=some xs→xs.length=l.length∧∀ x∈xs,okLine x∧(Lit.int .i64 x.round).wf=true∧(Lit.int .i64 x.node).wf=true
 | [],xs,h=>by
  have:xs=[]:=(Option.some.inj h).symm
  subst this
  exact ⟨rfl,fun x hx=>by cases hx⟩
 | s::l,xs,h=>by
  unfold readLog at h
  split at h
  ·cases h
  ·rename_i x hx
   obtain ⟨h1,h2⟩:=readOne_line hx
   obtain ⟨ys,hy,rfl⟩:=Option.map_eq_some_iff.1 h
   obtain ⟨h3,h4⟩:=readLog_len hy
   refine ⟨by rw [List.length_cons,List.length_cons,h3],fun z hz=>?_⟩
   rcases List.mem_cons.1 hz with rfl|hz
   ·refine ⟨h1,?_⟩
    unfold readOne at hx
    split at hx
    ·cases hx
    ·split at hx
     ·obtain rfl:=Option.some.inj hx
      exact ⟨(by decide:(Lit.int .i64 0).wf=true),(by decide:(Lit.int .i64 0).wf=true)⟩
     ·cases hx
   ·exact h4 z hz
theorem wf_index {n:Int}(h:1≤n∧n≤4294967296):(Lit.int .i64 n).wf=true:=by
 simp only [Lit.wf,IntKind.min,IntKind.max,IntKind.signed,IntKind.bits]
 simp
 omega
theorem line_ok {x:Ent}(h:okLine x∧(Lit.int .i64 x.round).wf=true∧(Lit.int .i64 x.node).wf=true):x.ok:=⟨wf_index h.1.2,h.2.1,h.2.2,cmd_ok0 h.1.1⟩
theorem lineB_size {x:Ent}(h:okLine x):(lineB x).size≤720:=by
 have:=lineL_len h
 show (List.toArray _).size≤_
 rw [List.size_toArray]
 exact this
theorem logB_size {l:List Ent}:∀ s∈logB l,s.size≤4096:=fun s hs=>by
 unfold logB at hs
 obtain ⟨x,hx,rfl⟩:=List.mem_map.1 hs
 have:=lineB_size (x:=x) (by simpa using (List.mem_filter.1 hx).2)
 omega
noncomputable def wantL (l:List Ent):List Ent:=(l.filter fun x=>decide (okLine x)).map fun x=>entOf x.index x.cmd
theorem wantL_take {l:List Ent}{k:Nat}(h:k<l.length):wantL (l.take (k+1))=wantL (l.take k)++(if okLine l[k] then [entOf l[k].index l[k].cmd] else []):=by
 unfold wantL
 rw [List.take_succ_eq_append_getElem h,List.filter_append,List.map_append]
 congr 1
 by_cases hk:okLine l[k]
 ·rw [if_pos hk,List.filter_cons,if_pos (by simpa using hk)]
  rfl
 ·rw [if_neg hk,List.filter_cons,if_neg (by simpa using hk)]
  rfl
theorem wantL_len (l:List Ent):(wantL l).length≤l.length:=by
 unfold wantL
 rw [List.length_map]
 exact List.length_filter_le _ _
theorem wantL_ok {l:List Ent}:∀ x∈wantL l,x.ok:=fun x hx=>by
 unfold wantL at hx
 obtain ⟨y,hy,rfl⟩:=List.mem_map.1 hx
 have h:okLine y:=by simpa using (List.mem_filter.1 hy).2
 exact ⟨wf_index h.2,(by decide:(Lit.int .i64 0).wf=true),(by decide:(Lit.int .i64 0).wf=true),cmd_ok0 h.1⟩
theorem reportReads_law {W:World}{v0 v1:Value}(hL:LaidsG (ghost W)) (g0:∃ l,Es (ghost W) v0 l) (g1:∃ ls,Sl (ghost W) 1 TxR v1 ls):LawCon Tryz.prog 3 #[v0,v1] W:=by
 obtain ⟨l,hs⟩:=g0
 obtain ⟨ls,ht⟩:=g1
 obtain ⟨hT,hC,hB,hP,hE⟩:=hL
 unfold LawCon
 generalize ghost W=G at *
 have qa:=awake46_s hP hC hB
 have q2:=entLargeB_s hs
 obtain ⟨A,c,rfl,hlc,hcm,hsome,hcp,hcb,hcc,hok⟩:=esOpen hs
 obtain ⟨LA,lc,rfl,hllc,hlcm,hlsome,hlel⟩:=id ht.open
 simp only [maxLen] at hcm hlcm
 have hlcp:∀ i (h:i<ls.length),GH.cell? G ((adr LA).add (i*1))=some (.string ls[i]):=fun i h=>by
  obtain ⟨cs,-,e2,e3⟩:=hlel i _ (List.getElem?_eq_getElem h)
  rw [e2] at e3
  exact e3.head
 clear hlel
 (refine v_enter Tryz.func3 rfl Tryz.ntmps3 rfl ?_;intro B _)
 by_cases h20:ls.length≤20
 ·repeat' (first|refine Wa ?_|(refine Wc ⟨?_,?_⟩<;>first|intro h|exact ⟨⟩)|refine Wr ?_|(refine Wb ?_;intro b)|fail)
  refine cQ rfl q2 ?_
  rintro _ G1 _ - ⟨hG1,rfl,b1,rfl,h40⟩
  subst hG1
  cases b1 with
  | true =>
   repeat' (first|refine Wa ?_|(refine Wc ⟨?_,?_⟩<;>first|intro h|exact ⟨⟩)|refine cJ qa ?_|refine Wr ?_|(refine Wb ?_;intro b)|fail)
   refine Vr ?_
   rfl
  | false =>
   have hl40:=h40 rfl
   repeat' (first|refine Wa ?_|(refine Wc ⟨?_,?_⟩<;>first|intro h|exact ⟨⟩)|refine Wr ?_|(refine Wb ?_;intro b)|fail)
   refine v_loop [5,0,1] (fun us G' μ'=>G'=G1∧μ'=[]∧∃ k,k≤ls.length∧us=[Value.int .i64 (k:Nat),.slice A l.length c,.slice LA ls.length lc]∧∀ i (h:i<ls.length),i<k→ls[i].size≤300) (fun us=>ls.length-(headI us).toNat) rfl ⟨rfl,rfl,0,by omega,rfl,by omega⟩ ?_
   rintro us G' μ' ⟨rfl,rfl,k,hk,rfl,hsz⟩
   have e1:((k:Nat):Int).toNat=k:=by omega
   by_cases hlt:k<ls.length
   ·have hcx:=hlcp k hlt
    have hnx:ls[k].size≤300→∀ i (h:i<ls.length),i<k+1→ls[i].size≤300:=fun h3 i h hi=>by
     by_cases hik:i=k
     ·subst hik;exact h3
     ·exact hsz i h (by omega)
    clear hsz hlcp hcp hcc
    generalize ls[k]=s at *
    by_cases h3:s.size≤300
    ·repeat' (first|refine Wa ?_|(refine Wc ⟨?_,?_⟩<;>first|intro h|exact ⟨⟩)|refine Rf hcx ?_|refine Wr ?_|(refine Wb ?_;intro b)|fail)
     exact Va rfl ⟨rfl,rfl,k+1,by omega,rfl,hnx h3⟩
    ·repeat' (first|refine Wa ?_|(refine Wc ⟨?_,?_⟩<;>first|intro h|exact ⟨⟩)|refine Rf hcx ?_|refine cJ qa ?_|refine Wr ?_|(refine Wb ?_;intro b)|fail)
     refine Vr ?_
     rfl
   ·have hsa:∀ s∈ls,s.size≤4096:=fun s hs=>by
     obtain ⟨i,hi,rfl⟩:=List.getElem_of_mem hs
     have:=hsz i hi (by omega)
     omega
    have qr:=readLog_s hT hP hE ht (by omega) hsa
    clear hsz
    repeat' (first|refine Wa ?_|(refine Wc ⟨?_,?_⟩<;>first|intro h|exact ⟨⟩)|refine Wr ?_|(refine Wb ?_;intro b)|fail)
    refine cQ rfl qr ?_
    rintro r2 G2 μ2 - ⟨hG2,hR⟩
    have hG2':=hG2.symm
    subst hG2'
    have hln:=fun xs (h:readLog ls=some xs)=>readLog_len h
    have hlb:=fun xs (h:readLog ls=some xs)=>readLog_lines h
    generalize readLog ls=ro at *
    cases ro with
    | none =>
     obtain ⟨rfl,rfl⟩:=hR
     repeat' (first|(exact absurd trivial (by assumption:¬ True))|refine Wa ?_|(refine Wc ⟨?_,?_⟩<;>first|intro h|exact ⟨⟩)|refine Wr ?_|(refine Wb ?_;intro b)|fail)
     obtain ⟨GT,hGT⟩:∃ GT,GT=G':=⟨_,rfl⟩
     have hleT:GH.le G' GT:=by rw [hGT];exact GH.le_refl _
     rw [← hGT]
     clear hGT
     have hsT:=hs.mono hleT
     have hTT:=hT.le hleT
     have hPT:=hP.le hleT
     have hET:=hE.le hleT
     have hCT:=hC.le hleT
     have hBT:=hB.le hleT
     obtain ⟨A',c',e,-,-,-,hcpT,-,hccT,-⟩:=esOpen hsT
     cases e
     clear hcp hcc hcb hlcp hs ht hT hP hE hC hB qa q2 hleT
     refine v_loopI (ι:=Nat) [9,0,8] (fun k us G' μ'=>G'=GT∧k≤l.length∧∃ v,us=[Value.int .i64 (k:Nat),.slice A l.length c,v]∧Grow 37 10 v (wantL (l.take k)).length (esC (wantL (l.take k))) μ') (fun k=>l.length-k) rfl 0 ⟨rfl,by omega,_,rfl,Grow.nil _ 10⟩ ?_
     rintro j us G' μ' ⟨rfl,hj,v,rfl,hg⟩
     have e2:((j:Nat):Int).toNat=j:=by omega
     by_cases hjt:j<l.length
     ·have hix:=esCell hcpT j hjt
      have hcx:=hccT j hjt
      have hxok:=hok j hjt
      have htk:=wantL_take hjt
      have hlb:=wantL_len (l.take j)
      rw [List.length_take] at hlb
      clear hcpT hccT hok hsT
      generalize l[j]=x at *
      generalize wantL (l.take j)=wl at *
      have qc:=Con.just (refCmdCheck_s (G:=G') x.cmd hxok.2.2.2)
      obtain ⟨A7,c7,rfl,-,-⟩:=hg.shape
      obtain ⟨ix,rd,nd,cm⟩:=x
      simp only at qc hix hcx
      by_cases h0:cmdI cm=0
      ·rw [h0] at qc
       by_cases hr:1≤ix∧ix≤4294967296
       ·have hokl:okLine ⟨ix,rd,nd,cm⟩:=⟨h0,hr.1,hr.2⟩
        rw [if_pos hokl] at htk
        have hce:esC [entOf ix cm]=(entOf ix cm).cells:=by simp [esC]
        repeat' (first|refine Wa ?_|(refine Wc ⟨?_,?_⟩<;>first|intro h|exact ⟨⟩)|apply v_read;(case hop=>first|apply r_load1;rfl;exact Cell.frozen hix|apply r_loadN;rfl;exact CellsAt.frozen hcx;rfl);(case hd=>rfl)|refine cJ qc ?_|refine Wr ?_|(refine Wb ?_;intro b)|fail)
        all_goals
         refine Dz [] ?_
         all_goals refine Dt [0,1,2] ?_
         all_goals (first|refine Tv 3 ?_ (hop:=by first|apply PureOp.read;apply p_build (cs:=(entOf ix cm).cells);(case hz=>rfl);(case hv=>(simp only [List.map_cons,List.map_nil];repeat (first|with_reducible exact evs_nil|apply evs_cons;(case h1=>rfl))));(case hb=>rfl)|fail)|refine Dt [3] ?_)
         all_goals (first|refine Tv 4 ?_ (hop:=by first|apply PureOp.read;apply p_build (cs:=(entOf ix cm).cells);(case hz=>rfl);(case hv=>(simp only [List.map_cons,List.map_nil];repeat (first|with_reducible exact evs_nil|apply evs_cons;(case h1=>rfl))));(case hb=>rfl)|fail)|refine Dt [4] ?_)
         all_goals (first|refine T1 5 hix ?_|refine TN 5 hcx ?_|refine Dt [5] ?_)
         all_goals refine Dt [6,7] ?_
         all_goals (first|refine Tv 8 ?_ (hop:=by first|apply PureOp.read;apply p_build (cs:=(entOf ix cm).cells);(case hz=>rfl);(case hv=>(simp only [List.map_cons,List.map_nil];repeat (first|with_reducible exact evs_nil|apply evs_cons;(case h1=>rfl))));(case hb=>rfl)|fail)|refine Dt [8] ?_)
         all_goals (first|refine Tv 9 ?_ (hop:=by first|apply PureOp.read;apply p_build (cs:=(entOf ix cm).cells);(case hz=>rfl);(case hv=>(simp only [List.map_cons,List.map_nil];repeat (first|with_reducible exact evs_nil|apply evs_cons;(case h1=>rfl))));(case hb=>rfl)|fail)|refine Dt [9] ?_)
         all_goals (first|refine T1 10 hix ?_|refine TN 10 hcx ?_|refine Dt [10] ?_)
         all_goals (first|refine Tv 11 ?_ (hop:=by first|apply PureOp.read;apply p_build (cs:=(entOf ix cm).cells);(case hz=>rfl);(case hv=>(simp only [List.map_cons,List.map_nil];repeat (first|with_reducible exact evs_nil|apply evs_cons;(case h1=>rfl))));(case hb=>rfl)|fail)|refine Dt [11] ?_)
         all_goals (first|apply d_buildSlice 12;(case hi=>rfl);(case hr=>kernel_rfl);(case hT=>infer_instance);(case hL=>infer_instance);(case hz|hl=>rfl);(case hv=>(simp only [List.map_cons,List.map_nil];repeat (first|with_reducible exact evs_nil|apply evs_cons;(case h1=>rfl))));(case hp=>(first|with_reducible exact pk_nil|apply pk_cons;(case hc|hs=>rfl);(case h=>(first|with_reducible exact pk_nil|apply pk_cons;(case hc|hs=>rfl);(case h=>(first|with_reducible exact pk_nil|apply pk_cons;(case hc|hs=>rfl);(case h=>(first|with_reducible exact pk_nil|apply pk_cons;(case hc|hs=>rfl);(case h=>(first|with_reducible exact pk_nil|apply pk_cons;(case hc|hs=>rfl);(case h=>(first|with_reducible exact pk_nil|apply pk_cons;(case hc|hs=>rfl);(case h=>(first|with_reducible exact pk_nil|apply pk_cons;(case hc|hs=>rfl);(case h=>(first|with_reducible exact pk_nil|apply pk_cons;(case hc|hs=>rfl);(case h=>(with_reducible exact pk_nil));(case he=>(first|((repeat (first|with_reducible exact ap_nil|apply ap_cons));done)|rfl))|rfl));(case he=>(first|((repeat (first|with_reducible exact ap_nil|apply ap_cons));done)|rfl))|rfl));(case he=>(first|((repeat (first|with_reducible exact ap_nil|apply ap_cons));done)|rfl))|rfl));(case he=>(first|((repeat (first|with_reducible exact ap_nil|apply ap_cons));done)|rfl))|rfl));(case he=>(first|((repeat (first|with_reducible exact ap_nil|apply ap_cons));done)|rfl))|rfl));(case he=>(first|((repeat (first|with_reducible exact ap_nil|apply ap_cons));done)|rfl))|rfl));(case he=>(first|((repeat (first|with_reducible exact ap_nil|apply ap_cons));done)|rfl))|rfl));(case he=>(first|((repeat (first|with_reducible exact ap_nil|apply ap_cons));done)|rfl))|rfl));(case hb|hd=>rfl);(case hν=>exact aE);intro b100|apply d_append 12 (hg:=hg) (q':=1) (us:=(entOf ix cm).cells) (hp:=PickA.perm (by repeat (first|exact PickA.last|exact PickA.here _|exact PickA.one _|apply PickA.cons|apply PickA.app))) (hsrc:=Src.own (e:=37) (List.Mem.head _) rfl);(case hi=>rfl);(case hr=>kernel_rfl);(case hT=>infer_instance);(case hL=>infer_instance);(case hzs=>rfl);(case hsz=>omega);(case hs|hx=>rfl);(case hb=>omega);(case hb'=>simp only [maxLen];omega);(case hd=>rfl);(case h1=>first|rfl|assumption);(case hν=>exact aE);intro v3 n3 hg3;obtain ⟨A3,c3,rfl,-,-⟩:=hg3.shape|fail)
         all_goals (first|apply d_buildSlice 13;(case hi=>rfl);(case hr=>kernel_rfl);(case hT=>infer_instance);(case hL=>infer_instance);(case hz|hl=>rfl);(case hv=>(simp only [List.map_cons,List.map_nil];repeat (first|with_reducible exact evs_nil|apply evs_cons;(case h1=>rfl))));(case hp=>(first|with_reducible exact pk_nil|apply pk_cons;(case hc|hs=>rfl);(case h=>(first|with_reducible exact pk_nil|apply pk_cons;(case hc|hs=>rfl);(case h=>(first|with_reducible exact pk_nil|apply pk_cons;(case hc|hs=>rfl);(case h=>(first|with_reducible exact pk_nil|apply pk_cons;(case hc|hs=>rfl);(case h=>(first|with_reducible exact pk_nil|apply pk_cons;(case hc|hs=>rfl);(case h=>(first|with_reducible exact pk_nil|apply pk_cons;(case hc|hs=>rfl);(case h=>(first|with_reducible exact pk_nil|apply pk_cons;(case hc|hs=>rfl);(case h=>(first|with_reducible exact pk_nil|apply pk_cons;(case hc|hs=>rfl);(case h=>(with_reducible exact pk_nil));(case he=>(first|((repeat (first|with_reducible exact ap_nil|apply ap_cons));done)|rfl))|rfl));(case he=>(first|((repeat (first|with_reducible exact ap_nil|apply ap_cons));done)|rfl))|rfl));(case he=>(first|((repeat (first|with_reducible exact ap_nil|apply ap_cons));done)|rfl))|rfl));(case he=>(first|((repeat (first|with_reducible exact ap_nil|apply ap_cons));done)|rfl))|rfl));(case he=>(first|((repeat (first|with_reducible exact ap_nil|apply ap_cons));done)|rfl))|rfl));(case he=>(first|((repeat (first|with_reducible exact ap_nil|apply ap_cons));done)|rfl))|rfl));(case he=>(first|((repeat (first|with_reducible exact ap_nil|apply ap_cons));done)|rfl))|rfl));(case he=>(first|((repeat (first|with_reducible exact ap_nil|apply ap_cons));done)|rfl))|rfl));(case hb|hd=>rfl);(case hν=>exact aE);intro b100|apply d_append 13 (hg:=hg) (q':=1) (us:=(entOf ix cm).cells) (hp:=PickA.perm (by repeat (first|exact PickA.last|exact PickA.here _|exact PickA.one _|apply PickA.cons|apply PickA.app))) (hsrc:=Src.own (e:=37) (List.Mem.head _) rfl);(case hi=>rfl);(case hr=>kernel_rfl);(case hT=>infer_instance);(case hL=>infer_instance);(case hzs=>rfl);(case hsz=>omega);(case hs|hx=>rfl);(case hb=>omega);(case hb'=>simp only [maxLen];omega);(case hd=>rfl);(case h1=>first|rfl|assumption);(case hν=>exact aE);intro v3 n3 hg3;obtain ⟨A3,c3,rfl,-,-⟩:=hg3.shape|fail)
         all_goals refine Dt [14] ?_
         all_goals refine Dd ?_
        repeat' (first|refine Wa ?_|(refine Wc ⟨?_,?_⟩<;>first|intro h|exact ⟨⟩)|refine Wr ?_|(refine Wb ?_;intro b)|fail)
        all_goals
         (refine v_drop (ν:=n3) (List.sublist_append_left _ _) ?_
          refine v_againI (j+1) rfl ⟨rfl,by omega,_,rfl,?_⟩ (by omega)
          rw [htk,List.length_append,esC_append,hce]
          exact hg3)
       ·rw [if_neg (fun h=>hr ⟨h.2.1,h.2.2⟩),List.append_nil] at htk
        repeat' (first|refine Wa ?_|(refine Wc ⟨?_,?_⟩<;>first|intro h|exact ⟨⟩)|apply v_read;(case hop=>first|apply r_load1;rfl;exact Cell.frozen hix|apply r_loadN;rfl;exact CellsAt.frozen hcx;rfl);(case hd=>rfl)|refine cJ qc ?_|refine Wr ?_|(refine Wb ?_;intro b)|fail)
        all_goals
         (refine v_only μ' (by repeat (first|exact PickA.last|exact PickA.here _|exact PickA.one _|apply PickA.cons|apply PickA.app)) ?_
          refine v_againI (j+1) rfl ⟨rfl,by omega,_,rfl,?_⟩ (by omega)
          rw [htk]
          exact hg)
      ·rw [if_neg (fun h=>h0 h.1),List.append_nil] at htk
       repeat' (first|refine Wa ?_|(refine Wc ⟨?_,?_⟩<;>first|intro h|exact ⟨⟩)|apply v_read;(case hop=>first|apply r_load1;rfl;exact Cell.frozen hix|apply r_loadN;rfl;exact CellsAt.frozen hcx;rfl);(case hd=>rfl)|refine cJ qc ?_|refine Wr ?_|(refine Wb ?_;intro b)|fail)
       all_goals
        (refine v_only μ' (by repeat (first|exact PickA.last|exact PickA.here _|exact PickA.one _|apply PickA.cons|apply PickA.app)) ?_
         refine v_againI (j+1) rfl ⟨rfl,by omega,_,rfl,?_⟩ (by omega)
         rw [htk]
         exact hg)
     ·obtain rfl:j=l.length:=by omega
      rw [List.take_length] at hg
      obtain ⟨A7,c7,rfl,-,-⟩:=hg.shape
      have hwl:=wantL_len l
      have hbl:=logB_len l
      have hyl:(l.filter fun x=>decide (okLine x)).map (fun x=>entOf x.index x.cmd)=wantL l:=rfl
      have hro:=readLog_of l
      rw [hyl] at hro
      have hwok:=wantL_ok (l:=l)
      have hbs:=logB_size (l:=l)
      repeat' (first|refine Wa ?_|(refine Wc ⟨?_,?_⟩<;>first|intro h|exact ⟨⟩)|refine Wr ?_|(refine Wb ?_;intro b)|fail)
      refine v_frz μ' (by repeat (first|exact PickA.last|exact PickA.here _|exact PickA.one _|apply PickA.cons|apply PickA.app)) ?_
      intro G8 hle8 hG8
      have hw:=es_of_grow hg hG8 hwok
      have ql:=refLog_s (hsT.mono hle8) (by omega)
      refine cQ rfl ql ?_
      rintro r8 G9 μ8 - ⟨hG9,hg8⟩
      have hG9':=hG9.symm
      subst hG9'
      obtain ⟨A8,c8,rfl,-,-⟩:=hg8.shape
      repeat' (first|refine Wa ?_|(refine Wc ⟨?_,?_⟩<;>first|intro h|exact ⟨⟩)|refine Wr ?_|(refine Wb ?_;intro b)|fail)
      refine v_frz μ8 (by repeat (first|exact PickA.last|exact PickA.here _|exact PickA.one _|apply PickA.cons|apply PickA.app)) ?_
      intro G9 hle9 hG9
      have hle89:=GH.le_trans hle8 hle9
      have qr8:=readLog_s (hTT.le hle89) (hPT.le hle89) (hET.le hle89) (tx_sl hg8 hG9) (by omega) hbs
      rw [hro] at qr8
      refine cQ rfl qr8 ?_
      rintro _ G10 μ9 - ⟨hG10,v9,rfl,hg9⟩
      have hG10':=hG10.symm
      subst hG10'
      obtain ⟨A9,c9,rfl,-,-⟩:=hg9.shape
      repeat' (first|(exact absurd trivial (by assumption:¬ True))|refine Wa ?_|(refine Wc ⟨?_,?_⟩<;>first|intro h|exact ⟨⟩)|refine Wr ?_|(refine Wb ?_;intro b)|fail)
      refine v_frz μ9 (by repeat (first|exact PickA.last|exact PickA.here _|exact PickA.one _|apply PickA.cons|apply PickA.app)) ?_
      intro G10 hle10 hG10
      have hy:=es_of_grow hg9 hG10 hwok
      have qs:=entSame_s hy (hw.mono (GH.le_trans hle9 hle10))
      rw [decide_eq_true rfl] at qs
      have hleZ:=GH.le_trans hle89 hle10
      have qz:=awake46_s (hPT.le hleZ) (hCT.le hleZ) (hBT.le hleZ)
      repeat' (first|(exact absurd trivial (by assumption:¬ True))|refine Wa ?_|(refine Wc ⟨?_,?_⟩<;>first|intro h|exact ⟨⟩)|refine cJ qs ?_|refine cJ qz ?_|refine Wr ?_|(refine Wb ?_;intro b)|fail)
      refine Vr ?_
      rfl
    | some xs =>
     obtain ⟨v,rfl,hg⟩:=hR
     obtain ⟨hxl,hxo⟩:=hln xs rfl
     have hxb:=hlb xs rfl
     obtain ⟨A2,c2,rfl,-,-⟩:=hg.shape
     repeat' (first|(exact absurd trivial (by assumption:¬ True))|refine Wa ?_|(refine Wc ⟨?_,?_⟩<;>first|intro h|exact ⟨⟩)|refine Wr ?_|(refine Wb ?_;intro b)|fail)
     refine v_frz μ2 (by repeat (first|exact PickA.last|exact PickA.here _|exact PickA.one _|apply PickA.cons|apply PickA.app)) ?_
     intro G3 hle3 hG3
     have hex:=es_of_grow hg hG3 (fun x hx=>line_ok (hxo x hx))
     have ql:=refLog_s hex (by omega)
     rw [hxb] at ql
     refine cQ rfl ql ?_
     rintro r3 G4 μ4 - ⟨hG4,hg4⟩
     have hG4':=hG4.symm
     subst hG4'
     obtain ⟨A4,c4,rfl,-,-⟩:=hg4.shape
     repeat' (first|(exact absurd trivial (by assumption:¬ True))|refine Wa ?_|(refine Wc ⟨?_,?_⟩<;>first|intro h|exact ⟨⟩)|refine Wr ?_|(refine Wb ?_;intro b)|fail)
     refine v_frz μ4 (by repeat (first|exact PickA.last|exact PickA.here _|exact PickA.one _|apply PickA.cons|apply PickA.app)) ?_
     intro GT hle4 hG4
     have hleT:=GH.le_trans hle3 hle4
     have qt:=refTexts_s (tx_sl hg4 hG4) (ht.mono hleT)
     rw [decide_eq_true rfl] at qt
     clear hg hG3 hex ql hg4 hG4 hle3 hle4 hln hlb
     repeat' (first|(exact absurd trivial (by assumption:¬ True))|refine Wa ?_|(refine Wc ⟨?_,?_⟩<;>first|intro h|exact ⟨⟩)|refine cJ qt ?_|refine Wr ?_|(refine Wb ?_;intro b)|fail)
     have hsT:=hs.mono hleT
     have hTT:=hT.le hleT
     have hPT:=hP.le hleT
     have hET:=hE.le hleT
     have hCT:=hC.le hleT
     have hBT:=hB.le hleT
     obtain ⟨A',c',e,-,-,-,hcpT,-,hccT,-⟩:=esOpen hsT
     cases e
     clear hcp hcc hcb hlcp hs ht hT hP hE hC hB qa q2 hleT
     refine v_loopI (ι:=Nat) [9,0,8] (fun k us G' μ'=>G'=GT∧k≤l.length∧∃ v,us=[Value.int .i64 (k:Nat),.slice A l.length c,v]∧Grow 37 10 v (wantL (l.take k)).length (esC (wantL (l.take k))) μ') (fun k=>l.length-k) rfl 0 ⟨rfl,by omega,_,rfl,Grow.nil _ 10⟩ ?_
     rintro j us G' μ' ⟨rfl,hj,v,rfl,hg⟩
     have e2:((j:Nat):Int).toNat=j:=by omega
     by_cases hjt:j<l.length
     ·have hix:=esCell hcpT j hjt
      have hcx:=hccT j hjt
      have hxok:=hok j hjt
      have htk:=wantL_take hjt
      have hlb:=wantL_len (l.take j)
      rw [List.length_take] at hlb
      clear hcpT hccT hok hsT
      generalize l[j]=x at *
      generalize wantL (l.take j)=wl at *
      have qc:=Con.just (refCmdCheck_s (G:=G') x.cmd hxok.2.2.2)
      obtain ⟨A7,c7,rfl,-,-⟩:=hg.shape
      obtain ⟨ix,rd,nd,cm⟩:=x
      simp only at qc hix hcx
      by_cases h0:cmdI cm=0
      ·rw [h0] at qc
       by_cases hr:1≤ix∧ix≤4294967296
       ·have hokl:okLine ⟨ix,rd,nd,cm⟩:=⟨h0,hr.1,hr.2⟩
        rw [if_pos hokl] at htk
        have hce:esC [entOf ix cm]=(entOf ix cm).cells:=by simp [esC]
        repeat' (first|refine Wa ?_|(refine Wc ⟨?_,?_⟩<;>first|intro h|exact ⟨⟩)|apply v_read;(case hop=>first|apply r_load1;rfl;exact Cell.frozen hix|apply r_loadN;rfl;exact CellsAt.frozen hcx;rfl);(case hd=>rfl)|refine cJ qc ?_|refine Wr ?_|(refine Wb ?_;intro b)|fail)
        all_goals
         refine Dz [] ?_
         all_goals refine Dt [0,1,2] ?_
         all_goals (first|refine Tv 3 ?_ (hop:=by first|apply PureOp.read;apply p_build (cs:=(entOf ix cm).cells);(case hz=>rfl);(case hv=>(simp only [List.map_cons,List.map_nil];repeat (first|with_reducible exact evs_nil|apply evs_cons;(case h1=>rfl))));(case hb=>rfl)|fail)|refine Dt [3] ?_)
         all_goals (first|refine Tv 4 ?_ (hop:=by first|apply PureOp.read;apply p_build (cs:=(entOf ix cm).cells);(case hz=>rfl);(case hv=>(simp only [List.map_cons,List.map_nil];repeat (first|with_reducible exact evs_nil|apply evs_cons;(case h1=>rfl))));(case hb=>rfl)|fail)|refine Dt [4] ?_)
         all_goals (first|refine T1 5 hix ?_|refine TN 5 hcx ?_|refine Dt [5] ?_)
         all_goals refine Dt [6,7] ?_
         all_goals (first|refine Tv 8 ?_ (hop:=by first|apply PureOp.read;apply p_build (cs:=(entOf ix cm).cells);(case hz=>rfl);(case hv=>(simp only [List.map_cons,List.map_nil];repeat (first|with_reducible exact evs_nil|apply evs_cons;(case h1=>rfl))));(case hb=>rfl)|fail)|refine Dt [8] ?_)
         all_goals (first|refine Tv 9 ?_ (hop:=by first|apply PureOp.read;apply p_build (cs:=(entOf ix cm).cells);(case hz=>rfl);(case hv=>(simp only [List.map_cons,List.map_nil];repeat (first|with_reducible exact evs_nil|apply evs_cons;(case h1=>rfl))));(case hb=>rfl)|fail)|refine Dt [9] ?_)
         all_goals (first|refine T1 10 hix ?_|refine TN 10 hcx ?_|refine Dt [10] ?_)
         all_goals (first|refine Tv 11 ?_ (hop:=by first|apply PureOp.read;apply p_build (cs:=(entOf ix cm).cells);(case hz=>rfl);(case hv=>(simp only [List.map_cons,List.map_nil];repeat (first|with_reducible exact evs_nil|apply evs_cons;(case h1=>rfl))));(case hb=>rfl)|fail)|refine Dt [11] ?_)
         all_goals (first|apply d_buildSlice 12;(case hi=>rfl);(case hr=>kernel_rfl);(case hT=>infer_instance);(case hL=>infer_instance);(case hz|hl=>rfl);(case hv=>(simp only [List.map_cons,List.map_nil];repeat (first|with_reducible exact evs_nil|apply evs_cons;(case h1=>rfl))));(case hp=>(first|with_reducible exact pk_nil|apply pk_cons;(case hc|hs=>rfl);(case h=>(first|with_reducible exact pk_nil|apply pk_cons;(case hc|hs=>rfl);(case h=>(first|with_reducible exact pk_nil|apply pk_cons;(case hc|hs=>rfl);(case h=>(first|with_reducible exact pk_nil|apply pk_cons;(case hc|hs=>rfl);(case h=>(first|with_reducible exact pk_nil|apply pk_cons;(case hc|hs=>rfl);(case h=>(first|with_reducible exact pk_nil|apply pk_cons;(case hc|hs=>rfl);(case h=>(first|with_reducible exact pk_nil|apply pk_cons;(case hc|hs=>rfl);(case h=>(first|with_reducible exact pk_nil|apply pk_cons;(case hc|hs=>rfl);(case h=>(with_reducible exact pk_nil));(case he=>(first|((repeat (first|with_reducible exact ap_nil|apply ap_cons));done)|rfl))|rfl));(case he=>(first|((repeat (first|with_reducible exact ap_nil|apply ap_cons));done)|rfl))|rfl));(case he=>(first|((repeat (first|with_reducible exact ap_nil|apply ap_cons));done)|rfl))|rfl));(case he=>(first|((repeat (first|with_reducible exact ap_nil|apply ap_cons));done)|rfl))|rfl));(case he=>(first|((repeat (first|with_reducible exact ap_nil|apply ap_cons));done)|rfl))|rfl));(case he=>(first|((repeat (first|with_reducible exact ap_nil|apply ap_cons));done)|rfl))|rfl));(case he=>(first|((repeat (first|with_reducible exact ap_nil|apply ap_cons));done)|rfl))|rfl));(case he=>(first|((repeat (first|with_reducible exact ap_nil|apply ap_cons));done)|rfl))|rfl));(case hb|hd=>rfl);(case hν=>exact aE);intro b100|apply d_append 12 (hg:=hg) (q':=1) (us:=(entOf ix cm).cells) (hp:=PickA.perm (by repeat (first|exact PickA.last|exact PickA.here _|exact PickA.one _|apply PickA.cons|apply PickA.app))) (hsrc:=Src.own (e:=37) (List.Mem.head _) rfl);(case hi=>rfl);(case hr=>kernel_rfl);(case hT=>infer_instance);(case hL=>infer_instance);(case hzs=>rfl);(case hsz=>omega);(case hs|hx=>rfl);(case hb=>omega);(case hb'=>simp only [maxLen];omega);(case hd=>rfl);(case h1=>first|rfl|assumption);(case hν=>exact aE);intro v3 n3 hg3;obtain ⟨A3,c3,rfl,-,-⟩:=hg3.shape|fail)
         all_goals (first|apply d_buildSlice 13;(case hi=>rfl);(case hr=>kernel_rfl);(case hT=>infer_instance);(case hL=>infer_instance);(case hz|hl=>rfl);(case hv=>(simp only [List.map_cons,List.map_nil];repeat (first|with_reducible exact evs_nil|apply evs_cons;(case h1=>rfl))));(case hp=>(first|with_reducible exact pk_nil|apply pk_cons;(case hc|hs=>rfl);(case h=>(first|with_reducible exact pk_nil|apply pk_cons;(case hc|hs=>rfl);(case h=>(first|with_reducible exact pk_nil|apply pk_cons;(case hc|hs=>rfl);(case h=>(first|with_reducible exact pk_nil|apply pk_cons;(case hc|hs=>rfl);(case h=>(first|with_reducible exact pk_nil|apply pk_cons;(case hc|hs=>rfl);(case h=>(first|with_reducible exact pk_nil|apply pk_cons;(case hc|hs=>rfl);(case h=>(first|with_reducible exact pk_nil|apply pk_cons;(case hc|hs=>rfl);(case h=>(first|with_reducible exact pk_nil|apply pk_cons;(case hc|hs=>rfl);(case h=>(with_reducible exact pk_nil));(case he=>(first|((repeat (first|with_reducible exact ap_nil|apply ap_cons));done)|rfl))|rfl));(case he=>(first|((repeat (first|with_reducible exact ap_nil|apply ap_cons));done)|rfl))|rfl));(case he=>(first|((repeat (first|with_reducible exact ap_nil|apply ap_cons));done)|rfl))|rfl));(case he=>(first|((repeat (first|with_reducible exact ap_nil|apply ap_cons));done)|rfl))|rfl));(case he=>(first|((repeat (first|with_reducible exact ap_nil|apply ap_cons));done)|rfl))|rfl));(case he=>(first|((repeat (first|with_reducible exact ap_nil|apply ap_cons));done)|rfl))|rfl));(case he=>(first|((repeat (first|with_reducible exact ap_nil|apply ap_cons));done)|rfl))|rfl));(case he=>(first|((repeat (first|with_reducible exact ap_nil|apply ap_cons));done)|rfl))|rfl));(case hb|hd=>rfl);(case hν=>exact aE);intro b100|apply d_append 13 (hg:=hg) (q':=1) (us:=(entOf ix cm).cells) (hp:=PickA.perm (by repeat (first|exact PickA.last|exact PickA.here _|exact PickA.one _|apply PickA.cons|apply PickA.app))) (hsrc:=Src.own (e:=37) (List.Mem.head _) rfl);(case hi=>rfl);(case hr=>kernel_rfl);(case hT=>infer_instance);(case hL=>infer_instance);(case hzs=>rfl);(case hsz=>omega);(case hs|hx=>rfl);(case hb=>omega);(case hb'=>simp only [maxLen];omega);(case hd=>rfl);(case h1=>first|rfl|assumption);(case hν=>exact aE);intro v3 n3 hg3;obtain ⟨A3,c3,rfl,-,-⟩:=hg3.shape|fail)
         all_goals refine Dt [14] ?_
         all_goals refine Dd ?_
        repeat' (first|refine Wa ?_|(refine Wc ⟨?_,?_⟩<;>first|intro h|exact ⟨⟩)|refine Wr ?_|(refine Wb ?_;intro b)|fail)
        all_goals
         (refine v_drop (ν:=n3) (List.sublist_append_left _ _) ?_
          refine v_againI (j+1) rfl ⟨rfl,by omega,_,rfl,?_⟩ (by omega)
          rw [htk,List.length_append,esC_append,hce]
          exact hg3)
       ·rw [if_neg (fun h=>hr ⟨h.2.1,h.2.2⟩),List.append_nil] at htk
        repeat' (first|refine Wa ?_|(refine Wc ⟨?_,?_⟩<;>first|intro h|exact ⟨⟩)|apply v_read;(case hop=>first|apply r_load1;rfl;exact Cell.frozen hix|apply r_loadN;rfl;exact CellsAt.frozen hcx;rfl);(case hd=>rfl)|refine cJ qc ?_|refine Wr ?_|(refine Wb ?_;intro b)|fail)
        all_goals
         (refine v_only μ' (by repeat (first|exact PickA.last|exact PickA.here _|exact PickA.one _|apply PickA.cons|apply PickA.app)) ?_
          refine v_againI (j+1) rfl ⟨rfl,by omega,_,rfl,?_⟩ (by omega)
          rw [htk]
          exact hg)
      ·rw [if_neg (fun h=>h0 h.1),List.append_nil] at htk
       repeat' (first|refine Wa ?_|(refine Wc ⟨?_,?_⟩<;>first|intro h|exact ⟨⟩)|apply v_read;(case hop=>first|apply r_load1;rfl;exact Cell.frozen hix|apply r_loadN;rfl;exact CellsAt.frozen hcx;rfl);(case hd=>rfl)|refine cJ qc ?_|refine Wr ?_|(refine Wb ?_;intro b)|fail)
       all_goals
        (refine v_only μ' (by repeat (first|exact PickA.last|exact PickA.here _|exact PickA.one _|apply PickA.cons|apply PickA.app)) ?_
         refine v_againI (j+1) rfl ⟨rfl,by omega,_,rfl,?_⟩ (by omega)
         rw [htk]
         exact hg)
     ·obtain rfl:j=l.length:=by omega
      rw [List.take_length] at hg
      obtain ⟨A7,c7,rfl,-,-⟩:=hg.shape
      have hwl:=wantL_len l
      have hbl:=logB_len l
      have hyl:(l.filter fun x=>decide (okLine x)).map (fun x=>entOf x.index x.cmd)=wantL l:=rfl
      have hro:=readLog_of l
      rw [hyl] at hro
      have hwok:=wantL_ok (l:=l)
      have hbs:=logB_size (l:=l)
      repeat' (first|refine Wa ?_|(refine Wc ⟨?_,?_⟩<;>first|intro h|exact ⟨⟩)|refine Wr ?_|(refine Wb ?_;intro b)|fail)
      refine v_frz μ' (by repeat (first|exact PickA.last|exact PickA.here _|exact PickA.one _|apply PickA.cons|apply PickA.app)) ?_
      intro G8 hle8 hG8
      have hw:=es_of_grow hg hG8 hwok
      have ql:=refLog_s (hsT.mono hle8) (by omega)
      refine cQ rfl ql ?_
      rintro r8 G9 μ8 - ⟨hG9,hg8⟩
      have hG9':=hG9.symm
      subst hG9'
      obtain ⟨A8,c8,rfl,-,-⟩:=hg8.shape
      repeat' (first|refine Wa ?_|(refine Wc ⟨?_,?_⟩<;>first|intro h|exact ⟨⟩)|refine Wr ?_|(refine Wb ?_;intro b)|fail)
      refine v_frz μ8 (by repeat (first|exact PickA.last|exact PickA.here _|exact PickA.one _|apply PickA.cons|apply PickA.app)) ?_
      intro G9 hle9 hG9
      have hle89:=GH.le_trans hle8 hle9
      have qr8:=readLog_s (hTT.le hle89) (hPT.le hle89) (hET.le hle89) (tx_sl hg8 hG9) (by omega) hbs
      rw [hro] at qr8
      refine cQ rfl qr8 ?_
      rintro _ G10 μ9 - ⟨hG10,v9,rfl,hg9⟩
      have hG10':=hG10.symm
      subst hG10'
      obtain ⟨A9,c9,rfl,-,-⟩:=hg9.shape
      repeat' (first|(exact absurd trivial (by assumption:¬ True))|refine Wa ?_|(refine Wc ⟨?_,?_⟩<;>first|intro h|exact ⟨⟩)|refine Wr ?_|(refine Wb ?_;intro b)|fail)
      refine v_frz μ9 (by repeat (first|exact PickA.last|exact PickA.here _|exact PickA.one _|apply PickA.cons|apply PickA.app)) ?_
      intro G10 hle10 hG10
      have hy:=es_of_grow hg9 hG10 hwok
      have qs:=entSame_s hy (hw.mono (GH.le_trans hle9 hle10))
      rw [decide_eq_true rfl] at qs
      have hleZ:=GH.le_trans hle89 hle10
      have qz:=awake46_s (hPT.le hleZ) (hCT.le hleZ) (hBT.le hleZ)
      repeat' (first|(exact absurd trivial (by assumption:¬ True))|refine Wa ?_|(refine Wc ⟨?_,?_⟩<;>first|intro h|exact ⟨⟩)|refine cJ qs ?_|refine cJ qz ?_|refine Wr ?_|(refine Wb ?_;intro b)|fail)
      refine Vr ?_
      rfl
 ·repeat' (first|refine Wa ?_|(refine Wc ⟨?_,?_⟩<;>first|intro h|exact ⟨⟩)|refine Wr ?_|(refine Wb ?_;intro b)|fail)
  refine cQ rfl q2 ?_
  rintro _ G1 _ - ⟨hG1,rfl,b1,rfl,h40⟩
  subst hG1
  cases b1
  all_goals
   repeat' (first|refine Wa ?_|(refine Wc ⟨?_,?_⟩<;>first|intro h|exact ⟨⟩)|refine cJ qa ?_|refine Wr ?_|(refine Wb ?_;intro b)|fail)
   refine Vr ?_
   rfl
end Go.Proofs.YtnncjoooaknlmaaGreatDoor
/-
  The closed facts of the program, each by itself (one kernel's run for each).
-/
namespace Go.Proofs.YtnncjoooaknlmaaGreatDoor
open Go.Vx Go.ChangeShapes Go.WideShapes Go.ChangeAt Go.RowKit
theorem clos_laid:laidOutB Tryz.prog=true:=by kernel_rfl
theorem clos_rowed:mapsRowed Tryz.prog=true:=by kernel_rfl
theorem clos_heard:Tryz.prog.stopsHeard=true:=by kernel_rfl
theorem clos_may:Tryz.prog.mayEnter=true:=by kernel_rfl
theorem clos_lifts:(Rows.reportReadsRow.lifted == Tryz.prog.liftsFinal)=true:=by kernel_rfl
theorem clos_make:(Tryz.prog.make == some Rows.reportReadsRow.make)=true:=by kernel_rfl
theorem clos_plain:(Rows.reportReadsRow.plainKeys == Tryz.prog.plainKeys)=true:=by kernel_rfl
theorem clos_main:Tryz.prog.mainIs=some (true, "befa5a766309812883d4335dabfc121fc083f82b19a7df7c432c30f3d34e3a03".toList):=by kernel_rfl
theorem clos_looks:true=Tryz.prog.looks []:=by kernel_rfl
theorem reportReads_own : ownKnob Tryz.prog.godebug = none := by kernel_rfl
theorem reportReads_laidOut : laidOutB Tryz.prog = true := clos_laid
theorem reportReads_spec : LawSpec Rows.reportReadsSpec 2 := ⟨rfl, fun H ds h => by match ds, h with | [d0, d1], _ => rfl⟩
set_option maxRecDepth 100000 in
theorem reportReads_lifted (os : Os) (started : os.Started) (H : Type) (enc : TypeId × Value → H) :
    ReturnsInHanded {} Tryz.checked os 3 .any (fun w args => (Rows.reportReadsSpec.pre enc Tryz.prog Tryz.f3 Rows.reportReadsRow.domain false w args ∧ laidMetH Tryz.prog tabsLaid8 w) ∧ sizedMet enc Tryz.prog Tryz.f3 (OpenSpec.ofChange Rows.reportReadsSpec) false w args)
      (Rows.reportReadsSpec.post enc Tryz.prog Tryz.f3 false true false false) := by
  refine returnsInHanded_of_change_and (C := Tryz.checked) (X := fun w _ => laidMetH Tryz.prog tabsLaid8 w) (fun _ _ _ hh h => h.of_heap hh) reportReads_own started (by kernel_rfl) Tryz.func3
    (ChangeSpec.witness_shaped (enc := enc) (C := Tryz.checked) (os := os) (X := fun w _ => laidMetH Tryz.prog tabsLaid8 w) false (World.laidAll Tryz.prog os tabsLaid8) #[.slice none 0 0, .slice none 0 0] 8 (World.laidAll_os _ _ _)
      (World.shaped_of_ZipB (by kernel_rfl) (by kernel_rfl)) (by kernel_rfl) (by kernel_rfl) (by kernel_rfl)
      (by rw [MakeChecks.laidMetH_plain _ _ _ tabs8_plain]; exact laidMet_laidAll _ (by kernel_rfl) (by kernel_rfl))) ?_
  intro W base args ds gs before hval0 hW hcnd _ hL _
  have hval : ∀ (j : Nat) t v, Tryz.f3.params[j]? = some t → args[j]? = some v → Value.okWide Tryz.prog W .any base t v := hval0
  refine law_post reportReads_laidOut Tryz.underlying4 rfl reportReads_spec rfl (by kernel_rfl) hW ?_
  obtain ⟨p, q, hA0, hV, rfl, hfz, hnd⟩ := hW
  have hA : DataW.TrodAll enc Tryz.prog W 0 (fun _ => true) true Tryz.f3.params.toList args.toList ds p := hA0
  rw [Tryz.params3] at hA hval
  obtain ⟨v0, vs0, d0, ds0, p0, q0, hargs, rfl, rfl, h0, r0⟩ := trodAll_cons hA
  obtain ⟨v1, vs1, d1, ds1, p1, q1, rfl, rfl, rfl, h1, r1⟩ := trodAll_cons r0
  obtain ⟨rfl, rfl, rfl⟩ := trodAll_nil r1
  obtain rfl : args = #[v0, v1] := by cases args; simp_all
  have g0 := argx_t22 (hval 0 22 v0 rfl rfl) h0
  have g1 := argx_t23 (hval 1 23 v1 rfl rfl) h1
  exact reportReads_law (tabs8_of_laid hL) g0 g1
theorem reportReads_c_inPlace : (Rows.reportReadsRow.inPlace == Tryz.prog.inPlace 3) = true := by kernel_rfl
theorem reportReads_c_unfollowed : (Rows.reportReadsRow.unfollowed == Tryz.prog.unfollowed 3) = true := by kernel_rfl
theorem reportReads_c_recurses : (Rows.reportReadsRow.recurses == Tryz.prog.recurses 3) = true := by kernel_rfl
theorem reportReads_c_named : (Rows.reportReadsRow.named == Tryz.prog.varsNamed 3) = true := by kernel_rfl
theorem reportReads_c_lifted : (Rows.reportReadsRow.lifted == Tryz.prog.liftsFinal) = true := clos_lifts
theorem reportReads_c_make : (Tryz.prog.make == some Rows.reportReadsRow.make) = true := clos_make
theorem reportReads_c_plainKeys : (Rows.reportReadsRow.plainKeys == Tryz.prog.plainKeys) = true := clos_plain
theorem reportReads_closed : joinedFacts Tryz.prog 3 Tryz.f3 Rows.reportReadsSpec Rows.reportReadsRow = true := by
  unfold joinedFacts
  rw [clos_laid, clos_rowed, clos_heard, clos_may, reportReads_c_inPlace, reportReads_c_unfollowed, reportReads_c_recurses, reportReads_c_named, reportReads_c_lifted, reportReads_c_make, reportReads_c_plainKeys]
  kernel_rfl
theorem reportReads_over : Rows.reportReadsRow.holds Tryz.pinned (OpenSpec.ofChange Rows.reportReadsSpec) :=
  OpenClaim.holds_of_wide 3 Tryz.f3 rfl rfl rfl rfl rfl rfl rfl ⟨rfl, rfl, rfl, rfl, rfl⟩ rfl rfl rfl rfl rfl (by kernel_rfl) Tryz.func3 reportReads_closed
    (of_decide_eq_true (by kernel_rfl)) (by unfold Func.isWrapper; first | (rw [if_pos (by decide +kernel)]; kernel_rfl) | (rw [if_neg (by decide +kernel)]; exact ⟨rfl, rfl⟩))
    (fun os started H enc _ => reportReads_lifted os started H enc)
theorem reportReads_holds : Rows.ReportReadsSaid := reportReads_over
theorem reportReads_c_wft : Rows.reportReadsRow.wfByText (OpenSpec.ofChange Rows.reportReadsSpec) = true := by kernel_rfl
theorem reportReads_c_func : Tryz.prog.funcNamed Rows.reportReadsRow.func = some 3 := by kernel_rfl
theorem reportReads_c_stand : ([22, 23].all fun u => !Tryz.prog.wantsStandIn u) = true := by kernel_rfl
theorem reportReads_c_goes : false = Rows.reportReadsRow.goesBy Tryz.prog := by kernel_rfl
theorem reportReadsCard_holds : Rows.ReportReadsCardSaid :=
  Claim7.holds_tied_plain_at .later [] [.data, .data, .data, .data, .sentinel, .sentinel, .data, .pinned] true (true, "befa5a766309812883d4335dabfc121fc083f82b19a7df7c432c30f3d34e3a03") true reportReads_holds (fun _ h => by cases h) reportReads_c_wft (fun _ h => by cases h) reportReads_row_tie rfl ⟨rfl, rfl⟩ clos_main rfl
    (fun f fn hf hfn => by
      obtain rfl : f = 3 := Option.some.inj (reportReads_c_func.symm.trans hf) |>.symm
      obtain rfl : fn = Tryz.f3 := (Option.some.inj (Tryz.func3.symm.trans hfn)).symm
      exact ⟨clos_looks, fun j t ht => by
        rw [Tryz.params3] at ht
        have hm : t ∈ [22, 23] := by simpa using Array.mem_of_getElem? ht
        exact (show Tryz.prog.wantsStandIn t = false by simpa using List.all_eq_true.1 reportReads_c_stand t hm)⟩)
    reportReads_c_goes
end Go.Proofs.YtnncjoooaknlmaaGreatDoor
