/-
  entry (layer 12), the tenth part: With, by the reference.
-/
import Derived.Test.YtpemabgfmnhhnaaGreatDoorM2
import Derived.Test.YtpemabgfmnhhnaaGreatDoorM1
import Derived.Scope
import Derived.Laws.IdiomStrings
set_option linter.unusedSimpArgs false
set_option linter.unusedVariables false
namespace Go.Proofs.YtpemabgfmnhhnaaGreatDoor
open Go.Vx Go.ChangeShapes Go.WideShapes Go.ChangeAt Go.RowKit
theorem withL_hit {l:List Ent} {x:Ent} (h:hitB l x.index = true):withL l x = l.set (placeN l x.index) x:=by rw [withL,if_pos h]
theorem withL_no {l:List Ent} {x:Ent} (h:¬ hitB l x.index = true):withL l x = l.take (placeN l x.index) ++ x :: l.drop (placeN l x.index):=by rw [withL,if_neg h]
theorem withL_lo {l:List Ent} {x:Ent} {k:Nat} (hk:k ≤ placeN l x.index):(withL l x).take k = l.take k:=by
  have hp:=placeN_le l x.index
  by_cases h:hitB l x.index = true
  · rw [withL_hit h,List.take_set,List.set_eq_of_length_le (by rw [List.length_take];omega)]
  · rw [withL_no h,List.take_append_of_le_length (by rw [List.length_take];omega),List.take_take,Nat.min_eq_left hk]
theorem withL_at (l:List Ent) (x:Ent):(withL l x)[placeN l x.index]? = some x:=by
  have hp:=placeN_le l x.index
  by_cases h:hitB l x.index = true
  · rw [withL_hit h,List.getElem?_set_self (hitB_lt h)]
  · rw [withL_no h,List.getElem?_append_right (by rw [List.length_take];omega),List.length_take,Nat.min_eq_left hp,Nat.sub_self]
    rfl
theorem withL_hi {l:List Ent} {x:Ent} {k:Nat} (hk:placeN l x.index < k) (h:hitB l x.index = true):(withL l x)[k]? = l[k]? := by
  rw [withL_hit h,List.getElem?_set_ne (by omega)]
theorem withL_hi' {l:List Ent} {x:Ent} {k:Nat} (hk:placeN l x.index ≤ k) (h:¬ hitB l x.index = true):(withL l x)[k + 1]? = l[k]? := by
  have hp:=placeN_le l x.index
  rw [withL_no h,List.getElem?_append_right (by rw [List.length_take];omega),List.length_take,Nat.min_eq_left hp,show k + 1 - placeN l x.index = (k - placeN l x.index) + 1 by omega,List.getElem?_cons_succ,List.getElem?_drop,show placeN l x.index + (k - placeN l x.index) = k by omega]
theorem wl_a {l:List Ent} {k:Nat} (h:k < l.length):l.take (k + 1) = l.take k ++ [l[k]]:=by rw [List.take_add_one,List.getElem?_eq_getElem h];rfl
theorem wl_b {l:List Ent} {x:Ent} {q:Nat} (hq:placeN l x.index = q) (h:hitB l x.index = true):(withL l x).take (q + 1) = l.take q ++ [x]:=by
  subst hq
  rw [List.take_add_one,withL_lo (Nat.le_refl _),withL_at];rfl
theorem wl_c {l:List Ent} {x:Ent} {q:Nat} (hq:placeN l x.index = q) (h:¬ hitB l x.index = true) (hlt:q < l.length):(withL l x).take (q + 1 + 1) = l.take q ++ [x] ++ [l[q]]:=by
  subst hq
  rw [List.take_add_one,List.take_add_one,withL_lo (Nat.le_refl _),withL_at,withL_hi' (Nat.le_refl _) h,List.getElem?_eq_getElem hlt];rfl
theorem wl_d {l:List Ent} {x:Ent} {k q:Nat} (hq:placeN l x.index = q) (hk:q < k) (hlt:k < l.length):(withL l x).take (if hitB l x.index = true then k + 1 else k + 1 + 1) = (withL l x).take (if hitB l x.index = true then k else k + 1) ++ [l[k]]:=by
  subst hq
  by_cases h:hitB l x.index = true
  · rw [if_pos h,if_pos h,List.take_add_one,withL_hi hk h,List.getElem?_eq_getElem hlt];rfl
  · rw [if_neg h,if_neg h,List.take_add_one,withL_hi' (by omega) h,List.getElem?_eq_getElem hlt];rfl
theorem wl_e {l:List Ent} {x:Ent} (h:placeN l x.index = l.length):withL l x = l ++ [x]:=by
  rw [withL_no (fun hh=>by have:=hitB_lt hh;omega),h,List.take_length,List.drop_length]
theorem grow_add {l:List Ent} {y:Ent} {v:Value} {ν:OH} (h:Grow 97 10 v (l.length + 1) (esC l ++ y.cells) ν):Grow 97 10 v (l ++ [y]).length (esC (l ++ [y])) ν:=by
  rw [esC_append,List.length_append]
  simpa [esC] using h
theorem refWith_s {G:GH} {l:List Ent} {sv:Value} (x:Ent) (hs:Es G sv l) (hr:RiseL l) (hn:l.length ≤ 200):Con Tryz.prog 109 #[sv,.agg x.cells.toArray] G [] (Mine (withL l x) G):=by
  have hp:=placeN_le l x.index
  have hpl:=fun m (h:m < l.length)=>placeN_lt (n:=x.index) hr h
  have hwl:=withL_len l x
  obtain ⟨A,c,rfl,hlc,hcm,hsome,hcp,hcb,hcc,hok⟩:=esOpen hs
  simp only [maxLen] at hcm
  obtain ⟨p,hpp⟩:∃ p,placeN l x.index = p:=⟨_,rfl⟩
  rw [hpp] at hp
  simp only [hpp] at hpl
  (refine v_enter Tryz.func109 rfl Tryz.ntmps109 rfl ?_;intro B _)
  repeat' (first|apply v_seq|apply v_region|apply v_nil|apply v_block|(apply v_pure;(case hop=>(apply p_assign <;> rfl));(case hd=>rfl))|(apply v_box (zs:=x.cells);(case hx=>rfl);(case hz=>rfl);(case hd=>rfl);intro bx)|fail)
  refine v_loop [7,0,5,6,3] (fun us G' μ'=>G' = G ∧ ∃ (k:Nat) (out:Value) (dn:Bool) (ν:OH) (m:List Ent),k ≤ l.length ∧ us = [Value.int .i64 (k:Nat),.slice A l.length c,out,.bool dn,.pointer (some ⟨bx,0,none⟩)] ∧ μ' = (bx,.cells x.cells.toArray 97 (0,0)) :: ν ∧ Grow 97 10 out m.length (esC m) ν ∧ ((dn = false ∧ k ≤ p ∧ m = l.take k) ∨ (dn = true ∧ p < k ∧ m = (withL l x).take (if hitB l x.index = true then k else k + 1)))) (fun us=>l.length - (headI us).toNat) rfl ⟨rfl,0,_,false,[],[],by omega,rfl,rfl,Grow.nil _ _,.inl ⟨rfl,by omega,rfl⟩⟩ ?_
  rintro us G' μ' ⟨rfl,k,out,dn,ν,m,hk,rfl,rfl,hg,hm⟩
  have e1:((k:Nat):Int).toNat = k:=by omega
  have hml:m.length ≤ k + 1:=by
    rcases hm with ⟨_,_,rfl⟩|⟨_,_,rfl⟩
    · rw [List.length_take];omega
    · rw [List.length_take];split <;> omega
  rcases hm with ⟨rfl,hkp,hme⟩|⟨rfl,hkp,hme⟩
  · repeat' (first|apply v_seq|apply v_region|apply v_nil|apply v_skip|apply v_block|(apply v_exit;(case hp=>rfl))|(apply v_pure;(case hop=>first|(apply p_move <;> rfl)|(apply p_lt <;> rfl)|(apply p_not <;> rfl)|(apply p_lenSlice <;> rfl)|fail);(case hd=>rfl))|(apply v_condT;(case hc=>rfl))|(apply v_cond;(case hc=>rfl);all_goals (intro h;(try simp only [reduceCtorEq,zzz] at h)))|(apply v_read;(case hop=>(apply r_loadNo;(case hx=>rfl);(case h=>(repeat (exact mhd _)));(case hd=>(repeat (first|with_reducible exact dt_nil|apply dt_here)));(case hn=>rfl)));(case hd=>rfl))|(apply v_buildSlice;(case hz=>rfl);(case hi=>rfl);(case hv=>(simp only [List.map_cons,List.map_nil];repeat (first|with_reducible exact evs_nil|(apply evs_cons;(case h1=>rfl)))));(case hp=>(apply pk_cons;(case hc=>rfl);(case hs=>rfl);(case h=>(with_reducible exact pk_nil));(case he=>((repeat (first|with_reducible exact ap_nil|apply ap_cons));done))));(case hb=>rfl);(case hd=>rfl);intro b)|fail)
    · have hlt:k < l.length:=by omega
      refine d_start _ (by kernel_rfl) (by kernel_rfl) (by kernel_rfl) (fun _ he=>he) ?_
      all_goals (apply dtk 0;(case hi=>rfl);(case hop=>(apply prd;apply p_move <;> rfl));(case hq=>kernel_rfl))
      all_goals (apply dtk 1;(case hi=>rfl);(case hop=>(apply prd;apply p_not <;> rfl));(case hq=>kernel_rfl))
      all_goals (apply dtk 2;(case hi=>rfl);(case hop=>(apply prd;apply p_move <;> rfl));(case hq=>kernel_rfl))
      all_goals (try (apply d_guardB 3;(case hi=>rfl);(case hgd=>rfl);(case h1=>rfl);(case h2=>rfl);all_goals (intro h;(try simp only [reduceCtorEq,zzz] at h))))
      all_goals (apply dtg 3;(case hi=>rfl);(case hg=>rfl);(case hop=>(apply prd;apply p_move <;> rfl));(case hq=>kernel_rfl))
      all_goals (try (apply d_guardB 4;(case hi=>rfl);(case hgd=>rfl);(case h1=>rfl);(case h2=>rfl);all_goals (intro h;(try simp only [reduceCtorEq,zzz] at h))))
      all_goals (apply dtg 4;(case hi=>rfl);(case hg=>rfl);(case hop=>(apply prd;apply p_move <;> rfl));(case hq=>kernel_rfl))
      all_goals (try (apply d_guardB 5;(case hi=>rfl);(case hgd=>rfl);(case h1=>rfl);(case h2=>rfl);all_goals (intro h;(try simp only [reduceCtorEq,zzz] at h))))
      all_goals (apply dtg 5;(case hi=>rfl);(case hg=>rfl);(case hop=>(apply prd;apply p_indexAddrS;(case hx=>rfl);(case hi=>rfl);(case h0=>omega);(case h=>omega);(case hA=>(apply_assumption;omega))));(case hq=>kernel_rfl))
      all_goals (try (apply d_guardB 6;(case hi=>rfl);(case hgd=>rfl);(case h1=>rfl);(case h2=>rfl);all_goals (intro h;(try simp only [reduceCtorEq,zzz] at h))))
      all_goals (apply dtg 6;(case hi=>rfl);(case hg=>rfl);(case hop=>(apply prd;apply p_fieldAddr <;> rfl));(case hq=>kernel_rfl))
      all_goals (try (apply d_guardB 7;(case hi=>rfl);(case hgd=>rfl);(case h1=>rfl);(case h2=>rfl);all_goals (intro h;(try simp only [reduceCtorEq,zzz] at h))))
      all_goals (apply dtg 7;(case hi=>rfl);(case hg=>rfl);(case hop=>((apply r_load1;rfl;exact Cell.frozen (esCell hcp _ (by omega)))));(case hq=>kernel_rfl))
      all_goals (try (apply d_guardB 8;(case hi=>rfl);(case hgd=>rfl);(case h1=>rfl);(case h2=>rfl);all_goals (intro h;(try simp only [reduceCtorEq,zzz] at h))))
      all_goals (apply dtg 8;(case hi=>rfl);(case hg=>rfl);(case hop=>(apply prd;apply p_fieldAddrB <;> rfl));(case hq=>kernel_rfl))
      all_goals (try (apply d_guardB 9;(case hi=>rfl);(case hgd=>rfl);(case h1=>rfl);(case h2=>rfl);all_goals (intro h;(try simp only [reduceCtorEq,zzz] at h))))
      all_goals (apply dtg 9;(case hi=>rfl);(case hg=>rfl);(case hop=>(apply r_load1;rfl;(apply Cell.own;(case h=>(repeat (exact mhd _)));rfl)));(case hq=>kernel_rfl))
      all_goals (try (apply d_guardB 10;(case hi=>rfl);(case hgd=>rfl);(case h1=>rfl);(case h2=>rfl);all_goals (intro h;(try simp only [reduceCtorEq,zzz] at h))))
      all_goals (apply dtg 10;(case hi=>rfl);(case hg=>rfl);(case hop=>(apply prd;apply p_ge <;> rfl));(case hq=>kernel_rfl))
      all_goals (apply dtk 11;(case hi=>rfl);(case hop=>(apply prd;apply p_pickT <;> rfl));(case hq=>kernel_rfl))
      all_goals (apply d_done;(case hr=>kernel_rfl))
      repeat' (first|apply v_seq|apply v_region|apply v_skip|(apply v_pure;(case hop=>(apply p_move <;> rfl));(case hd=>rfl))|(apply v_cond;(case hc=>rfl);all_goals (intro h;(try simp only [reduceCtorEq,zzz] at h)))|(apply v_read;(case hop=>(apply r_loadNo;(case hx=>rfl);(case h=>(repeat (exact mhd _)));(case hd=>(repeat (first|with_reducible exact dt_nil|apply dt_here)));(case hn=>rfl)));(case hd=>rfl))|(apply v_buildSlice;(case hz=>rfl);(case hi=>rfl);(case hv=>(simp only [List.map_cons,List.map_nil];repeat (first|with_reducible exact evs_nil|(apply evs_cons;(case h1=>rfl)))));(case hp=>(apply pk_cons;(case hc=>rfl);(case hs=>rfl);(case h=>(with_reducible exact pk_nil));(case he=>((repeat (first|with_reducible exact ap_nil|apply ap_cons));done))));(case hb=>rfl);(case hd=>rfl);intro b)|fail)
      · have hge:¬ l[k].index < x.index:=by simp only [e1] at *;omega
        have hkp':p = k:=by
          have:=mt (hpl k hlt).1 hge
          omega
        refine v_append (e:=97) (agg:=true) (sz:=10) (bytes:=104) (zero:=zE) rfl (by omega) rfl rfl hg (show List.Perm ((b,Obj.cells (x).cells.toArray 97 (0,0)) :: (bx,Obj.cells (x).cells.toArray 97 (0,0)) :: ν) _ from (List.perm_append_comm (l₁:=[(b,Obj.cells (x).cells.toArray 97 (0,0)),(bx,Obj.cells (x).cells.toArray 97 (0,0))]))) (m':=1) (us:=(x).cells) (Src.own (e:=97) (List.Mem.head _) rfl) rfl (by omega) (by simp only [maxLen];omega) rfl fun v1 ν1 hg1=>?_
        refine v_perm (show List.Perm (ν1 ++ [(b,Obj.cells (x).cells.toArray 97 (0,0)),(bx,Obj.cells (x).cells.toArray 97 (0,0))]) (((bx,Obj.cells (x).cells.toArray 97 (0,0)) :: ν1) ++ [(b,Obj.cells (x).cells.toArray 97 (0,0))]) from (by apply perm_of_count;intro p;simp only [List.append_eq,List.countP_append,List.countP_cons,List.countP_nil,Nat.zero_add,Nat.add_zero];try ac_rfl)) ?_
        refine v_drop (ν:=(bx,Obj.cells (x).cells.toArray 97 (0,0)) :: ν1) (List.sublist_append_left _ _) ?_
        subst hme
        have hg2:=grow_add hg1
        have hl2:(l.take k ++ [x]).length ≤ k + 1:=by rw [List.length_append,List.length_take,List.length_singleton];omega
        clear hg hg1
        generalize hm2:l.take k ++ [x] = m2 at *
        repeat' (first|apply v_seq|apply v_region|apply v_nil|(apply v_pure;(case hop=>(apply p_assign <;> rfl));(case hd=>rfl))|fail)
        refine d_start _ (by kernel_rfl) (by kernel_rfl) (by kernel_rfl) (fun _ he=>he) ?_
        all_goals (apply dtk 0;(case hi=>rfl);(case hop=>(apply prd;apply p_move <;> rfl));(case hq=>kernel_rfl))
        all_goals (apply dtk 1;(case hi=>rfl);(case hop=>(apply prd;apply p_move <;> rfl));(case hq=>kernel_rfl))
        all_goals (apply dtk 2;(case hi=>rfl);(case hop=>(apply prd;apply p_indexAddrS;(case hx=>rfl);(case hi=>rfl);(case h0=>omega);(case h=>omega);(case hA=>(apply_assumption;omega))));(case hq=>kernel_rfl))
        all_goals (apply dtk 3;(case hi=>rfl);(case hop=>(apply prd;apply p_fieldAddr <;> rfl));(case hq=>kernel_rfl))
        all_goals (apply dtk 4;(case hi=>rfl);(case hop=>((apply r_load1;rfl;exact Cell.frozen (esCell hcp _ (by omega)))));(case hq=>kernel_rfl))
        all_goals (apply dtk 5;(case hi=>rfl);(case hop=>(apply prd;apply p_fieldAddrB <;> rfl));(case hq=>kernel_rfl))
        all_goals (apply dtk 6;(case hi=>rfl);(case hop=>(apply r_load1;rfl;(apply Cell.own;(case h=>(repeat (exact mhd _)));rfl)));(case hq=>kernel_rfl))
        all_goals (apply dtk 7;(case hi=>rfl);(case hop=>(apply prd;apply p_ne <;> rfl));(case hq=>kernel_rfl))
        all_goals (apply d_done;(case hr=>kernel_rfl))
        repeat' (first|apply v_region|apply v_nil|apply v_skip|apply v_blk|(apply v_pure;(case hop=>first|(apply p_move <;> rfl)|(apply p_assign <;> rfl)|(apply p_add;(case hx=>rfl);(case hy=>rfl);(case h=>omega))|(apply p_indexAddrS;(case hx=>rfl);(case hi=>rfl);(case h0=>omega);(case h=>omega);(case hA=>(apply_assumption;omega)))|fail);(case hd=>rfl))|(apply v_cond;(case hc=>rfl);all_goals (intro h;(try simp only [reduceCtorEq,zzz] at h)))|(apply v_read;(case hop=>(apply r_loadN;rfl;exact CellsAt.frozen (hcp _ (by omega));rfl));(case hd=>rfl))|(apply v_buildSlice;(case hz=>rfl);(case hi=>rfl);(case hv=>(simp only [List.map_cons,List.map_nil];repeat (first|with_reducible exact evs_nil|(apply evs_cons;(case h1=>rfl)))));(case hp=>(apply pk_cons;(case hc=>rfl);(case hs=>rfl);(case h=>(with_reducible exact pk_nil));(case he=>((repeat (first|with_reducible exact ap_nil|apply ap_cons));done))));(case hb=>rfl);(case hd=>rfl);intro b)|fail)
        · have hne:¬ l[k].index = x.index:=by simp only [e1] at *;assumption
          have hnh:¬ hitB l x.index = true:=fun hh=>by
            have h1:=hitB_index hh
            simp only [hpp,hkp'] at h1
            exact hne h1
          refine v_append (e:=97) (agg:=true) (sz:=10) (bytes:=104) (zero:=zE) rfl (by omega) rfl rfl hg2 (show List.Perm ((b,Obj.cells (l[k]'hlt).cells.toArray 97 (0,0)) :: (bx,Obj.cells (x).cells.toArray 97 (0,0)) :: ν1) _ from (List.perm_append_comm (l₁:=[(b,Obj.cells (l[k]'hlt).cells.toArray 97 (0,0)),(bx,Obj.cells (x).cells.toArray 97 (0,0))]))) (m':=1) (us:=(l[k]'hlt).cells) (Src.own (e:=97) (List.Mem.head _) rfl) rfl (by omega) (by simp only [maxLen];omega) rfl fun v2 ν2 hg3=>?_
          refine v_perm (show List.Perm (ν2 ++ [(b,Obj.cells (l[k]'hlt).cells.toArray 97 (0,0)),(bx,Obj.cells (x).cells.toArray 97 (0,0))]) (((bx,Obj.cells (x).cells.toArray 97 (0,0)) :: ν2) ++ [(b,Obj.cells (l[k]'hlt).cells.toArray 97 (0,0))]) from (by apply perm_of_count;intro p;simp only [List.append_eq,List.countP_append,List.countP_cons,List.countP_nil,Nat.zero_add,Nat.add_zero];try ac_rfl)) ?_
          refine v_drop (ν:=(bx,Obj.cells (x).cells.toArray 97 (0,0)) :: ν2) (List.sublist_append_left _ _) ?_
          repeat' (first|apply v_region|apply v_nil|apply v_blk|(apply v_pure;(case hop=>first|(apply p_move <;> rfl)|(apply p_assign <;> rfl)|(apply p_add;(case hx=>rfl);(case hy=>rfl);(case h=>omega))|fail);(case hd=>rfl))|fail)
          refine v_again rfl ⟨rfl,k + 1,v2,true,ν2,m2 ++ [l[k]],by omega,rfl,rfl,grow_add hg3,.inr ⟨rfl,by omega,?_⟩⟩ (by simp [headI];omega)
          rw [if_neg hnh,wl_c (hpp.trans hkp') hnh hlt,hm2]
        · have he:l[k].index = x.index:=by simp only [e1] at *;assumption
          have hh:hitB l x.index = true:=by rw [← he];exact hitB_at hr hlt
          refine v_again rfl ⟨rfl,k + 1,v1,true,ν1,m2,by omega,rfl,rfl,hg2,.inr ⟨rfl,by omega,?_⟩⟩ (by simp [headI];omega)
          rw [if_pos hh,wl_b (hpp.trans hkp') hh,hm2]
      · have hlt':l[k].index < x.index:=by simp only [e1] at *;omega
        have hkp':k < p:=(hpl k hlt).2 hlt'
        refine d_start _ (by kernel_rfl) (by kernel_rfl) (by kernel_rfl) (fun _ he=>he) ?_
        all_goals (apply dtk 0;(case hi=>rfl);(case hop=>(apply prd;apply p_move <;> rfl));(case hq=>kernel_rfl))
        all_goals (apply dtk 1;(case hi=>rfl);(case hop=>(apply prd;apply p_move <;> rfl));(case hq=>kernel_rfl))
        all_goals (apply dtk 2;(case hi=>rfl);(case hop=>(apply prd;apply p_indexAddrS;(case hx=>rfl);(case hi=>rfl);(case h0=>omega);(case h=>omega);(case hA=>(apply_assumption;omega))));(case hq=>kernel_rfl))
        all_goals (apply dtk 3;(case hi=>rfl);(case hop=>(apply prd;apply p_fieldAddr <;> rfl));(case hq=>kernel_rfl))
        all_goals (apply dtk 4;(case hi=>rfl);(case hop=>((apply r_load1;rfl;exact Cell.frozen (esCell hcp _ (by omega)))));(case hq=>kernel_rfl))
        all_goals (apply dtk 5;(case hi=>rfl);(case hop=>(apply prd;apply p_fieldAddrB <;> rfl));(case hq=>kernel_rfl))
        all_goals (apply dtk 6;(case hi=>rfl);(case hop=>(apply r_load1;rfl;(apply Cell.own;(case h=>(repeat (exact mhd _)));rfl)));(case hq=>kernel_rfl))
        all_goals (apply dtk 7;(case hi=>rfl);(case hop=>(apply prd;apply p_ne <;> rfl));(case hq=>kernel_rfl))
        all_goals (apply d_done;(case hr=>kernel_rfl))
        repeat' (first|apply v_region|(apply v_pure;(case hop=>first|(apply p_move <;> rfl)|(apply p_indexAddrS;(case hx=>rfl);(case hi=>rfl);(case h0=>omega);(case h=>omega);(case hA=>(apply_assumption;omega)))|fail);(case hd=>rfl))|(apply v_cond;(case hc=>rfl);all_goals (intro h;(try simp only [reduceCtorEq,zzz] at h);first|(exfalso;omega)|skip))|(apply v_read;(case hop=>(apply r_loadN;rfl;exact CellsAt.frozen (hcp _ (by omega));rfl));(case hd=>rfl))|(apply v_buildSlice;(case hz=>rfl);(case hi=>rfl);(case hv=>(simp only [List.map_cons,List.map_nil];repeat (first|with_reducible exact evs_nil|(apply evs_cons;(case h1=>rfl)))));(case hp=>(apply pk_cons;(case hc=>rfl);(case hs=>rfl);(case h=>(with_reducible exact pk_nil));(case he=>((repeat (first|with_reducible exact ap_nil|apply ap_cons));done))));(case hb=>rfl);(case hd=>rfl);intro b)|fail)
        · skip
          refine v_append (e:=97) (agg:=true) (sz:=10) (bytes:=104) (zero:=zE) rfl (by omega) rfl rfl hg (show List.Perm ((b,Obj.cells (l[k]'hlt).cells.toArray 97 (0,0)) :: (bx,Obj.cells (x).cells.toArray 97 (0,0)) :: ν) _ from (List.perm_append_comm (l₁:=[(b,Obj.cells (l[k]'hlt).cells.toArray 97 (0,0)),(bx,Obj.cells (x).cells.toArray 97 (0,0))]))) (m':=1) (us:=(l[k]'hlt).cells) (Src.own (e:=97) (List.Mem.head _) rfl) rfl (by omega) (by simp only [maxLen];omega) rfl fun v1 ν1 hg1=>?_
          refine v_perm (show List.Perm (ν1 ++ [(b,Obj.cells (l[k]'hlt).cells.toArray 97 (0,0)),(bx,Obj.cells (x).cells.toArray 97 (0,0))]) (((bx,Obj.cells (x).cells.toArray 97 (0,0)) :: ν1) ++ [(b,Obj.cells (l[k]'hlt).cells.toArray 97 (0,0))]) from (by apply perm_of_count;intro p;simp only [List.append_eq,List.countP_append,List.countP_cons,List.countP_nil,Nat.zero_add,Nat.add_zero];try ac_rfl)) ?_
          refine v_drop (ν:=(bx,Obj.cells (x).cells.toArray 97 (0,0)) :: ν1) (List.sublist_append_left _ _) ?_
          repeat' (first|apply v_region|apply v_nil|apply v_blk|(apply v_pure;(case hop=>first|(apply p_move <;> rfl)|(apply p_assign <;> rfl)|(apply p_add;(case hx=>rfl);(case hy=>rfl);(case h=>omega))|fail);(case hd=>rfl))|fail)
          subst hme
          refine v_again rfl ⟨rfl,k + 1,v1,false,ν1,l.take k ++ [l[k]],by omega,rfl,rfl,grow_add hg1,.inl ⟨rfl,by omega,(wl_a hlt).symm⟩⟩ (by simp [headI];omega)
    · subst hme
      refine v_append (e:=97) (agg:=true) (sz:=10) (bytes:=104) (zero:=zE) rfl (by omega) rfl rfl hg (show List.Perm ((b,Obj.cells (x).cells.toArray 97 (0,0)) :: (bx,Obj.cells (x).cells.toArray 97 (0,0)) :: ν) _ from (List.perm_append_comm (l₁:=[(b,Obj.cells (x).cells.toArray 97 (0,0)),(bx,Obj.cells (x).cells.toArray 97 (0,0))]))) (m':=1) (us:=(x).cells) (Src.own (e:=97) (List.Mem.head _) rfl) rfl (by omega) (by simp only [maxLen];omega) rfl fun v1 ν1 hg1=>?_
      refine v_perm (show List.Perm (ν1 ++ [(b,Obj.cells (x).cells.toArray 97 (0,0)),(bx,Obj.cells (x).cells.toArray 97 (0,0))]) (((bx,Obj.cells (x).cells.toArray 97 (0,0)) :: ν1) ++ [(b,Obj.cells (x).cells.toArray 97 (0,0))]) from (by apply perm_of_count;intro p;simp only [List.append_eq,List.countP_append,List.countP_cons,List.countP_nil,Nat.zero_add,Nat.add_zero];try ac_rfl)) ?_
      refine v_drop (ν:=(bx,Obj.cells (x).cells.toArray 97 (0,0)) :: ν1) (List.sublist_append_left _ _) ?_
      repeat' (first|apply v_seq|apply v_region|apply v_nil|(apply v_pure;(case hop=>first|(apply p_move <;> rfl)|(apply p_assign <;> rfl)|fail);(case hd=>rfl))|fail)
      refine v_ret ν1 (outsA1 rfl rfl) (by repeat (first|exact List.Sublist.refl _|apply List.Sublist.cons)) ?_
      have hk':k = l.length:=by omega
      have hg2:=grow_add hg1
      rw [hk',List.take_length] at hg2
      refine ⟨rfl,?_⟩
      rw [wl_e (by omega)]
      exact hg2
  · repeat' (first|apply v_seq|apply v_region|apply v_nil|apply v_skip|apply v_block|(apply v_exit;(case hp=>rfl))|(apply v_pure;(case hop=>first|(apply p_move <;> rfl)|(apply p_lt <;> rfl)|(apply p_assign <;> rfl)|(apply p_not <;> rfl)|(apply p_lenSlice <;> rfl)|fail);(case hd=>rfl))|(apply v_condF;(case hc=>rfl))|(apply v_cond;(case hc=>rfl);all_goals (intro h;(try simp only [reduceCtorEq,zzz] at h)))|fail)
    · have hlt:k < l.length:=by omega
      refine d_start _ (by kernel_rfl) (by kernel_rfl) (by kernel_rfl) (fun _ he=>he) ?_
      all_goals (apply dtk 0;(case hi=>rfl);(case hop=>(apply prd;apply p_move <;> rfl));(case hq=>kernel_rfl))
      all_goals (apply dtk 1;(case hi=>rfl);(case hop=>(apply prd;apply p_not <;> rfl));(case hq=>kernel_rfl))
      all_goals (apply dtk 2;(case hi=>rfl);(case hop=>(apply prd;apply p_move <;> rfl));(case hq=>kernel_rfl))
      all_goals (try (apply d_guardB 3;(case hi=>rfl);(case hgd=>rfl);(case h1=>rfl);(case h2=>rfl);all_goals (intro h;(try simp only [reduceCtorEq,zzz] at h))))
      all_goals (apply dpa 3;(case hi=>rfl);(case hg=>rfl);(case hn=>rfl);(case hq=>kernel_rfl))
      all_goals (try (apply d_guardB 4;(case hi=>rfl);(case hgd=>rfl);(case h1=>rfl);(case h2=>rfl);all_goals (intro h;(try simp only [reduceCtorEq,zzz] at h))))
      all_goals (apply dpa 4;(case hi=>rfl);(case hg=>rfl);(case hn=>rfl);(case hq=>kernel_rfl))
      all_goals (try (apply d_guardB 5;(case hi=>rfl);(case hgd=>rfl);(case h1=>rfl);(case h2=>rfl);all_goals (intro h;(try simp only [reduceCtorEq,zzz] at h))))
      all_goals (apply dpa 5;(case hi=>rfl);(case hg=>rfl);(case hn=>rfl);(case hq=>kernel_rfl))
      all_goals (try (apply d_guardB 6;(case hi=>rfl);(case hgd=>rfl);(case h1=>rfl);(case h2=>rfl);all_goals (intro h;(try simp only [reduceCtorEq,zzz] at h))))
      all_goals (apply dpa 6;(case hi=>rfl);(case hg=>rfl);(case hn=>rfl);(case hq=>kernel_rfl))
      all_goals (try (apply d_guardB 7;(case hi=>rfl);(case hgd=>rfl);(case h1=>rfl);(case h2=>rfl);all_goals (intro h;(try simp only [reduceCtorEq,zzz] at h))))
      all_goals (apply dpa 7;(case hi=>rfl);(case hg=>rfl);(case hn=>rfl);(case hq=>kernel_rfl))
      all_goals (try (apply d_guardB 8;(case hi=>rfl);(case hgd=>rfl);(case h1=>rfl);(case h2=>rfl);all_goals (intro h;(try simp only [reduceCtorEq,zzz] at h))))
      all_goals (apply dpa 8;(case hi=>rfl);(case hg=>rfl);(case hn=>rfl);(case hq=>kernel_rfl))
      all_goals (try (apply d_guardB 9;(case hi=>rfl);(case hgd=>rfl);(case h1=>rfl);(case h2=>rfl);all_goals (intro h;(try simp only [reduceCtorEq,zzz] at h))))
      all_goals (apply dpa 9;(case hi=>rfl);(case hg=>rfl);(case hn=>rfl);(case hq=>kernel_rfl))
      all_goals (try (apply d_guardB 10;(case hi=>rfl);(case hgd=>rfl);(case h1=>rfl);(case h2=>rfl);all_goals (intro h;(try simp only [reduceCtorEq,zzz] at h))))
      all_goals (apply dpa 10;(case hi=>rfl);(case hg=>rfl);(case hn=>rfl);(case hq=>kernel_rfl))
      all_goals (apply dtk 11;(case hi=>rfl);(case hop=>(apply prd;apply p_pickF <;> rfl));(case hq=>kernel_rfl))
      all_goals (apply d_done;(case hr=>kernel_rfl))
      repeat' (first|apply v_seq|apply v_skip|(apply v_condF;(case hc=>rfl))|fail)
      refine d_start _ (by kernel_rfl) (by kernel_rfl) (by kernel_rfl) (fun _ he=>he) ?_
      all_goals (apply dtk 0;(case hi=>rfl);(case hop=>(apply prd;apply p_move <;> rfl));(case hq=>kernel_rfl))
      all_goals (apply dtk 1;(case hi=>rfl);(case hop=>(apply prd;apply p_move <;> rfl));(case hq=>kernel_rfl))
      all_goals (apply dtk 2;(case hi=>rfl);(case hop=>(apply prd;apply p_indexAddrS;(case hx=>rfl);(case hi=>rfl);(case h0=>omega);(case h=>omega);(case hA=>(apply_assumption;omega))));(case hq=>kernel_rfl))
      all_goals (apply dtk 3;(case hi=>rfl);(case hop=>(apply prd;apply p_fieldAddr <;> rfl));(case hq=>kernel_rfl))
      all_goals (apply dtk 4;(case hi=>rfl);(case hop=>((apply r_load1;rfl;exact Cell.frozen (esCell hcp _ (by omega)))));(case hq=>kernel_rfl))
      all_goals (apply dtk 5;(case hi=>rfl);(case hop=>(apply prd;apply p_fieldAddrB <;> rfl));(case hq=>kernel_rfl))
      all_goals (apply dtk 6;(case hi=>rfl);(case hop=>(apply r_load1;rfl;(apply Cell.own;(case h=>(repeat (exact mhd _)));rfl)));(case hq=>kernel_rfl))
      all_goals (apply dtk 7;(case hi=>rfl);(case hop=>(apply prd;apply p_ne <;> rfl));(case hq=>kernel_rfl))
      all_goals (apply d_done;(case hr=>kernel_rfl))
      repeat' (first|apply v_region|apply v_nil|apply v_skip|apply v_blk|(apply v_pure;(case hop=>first|(apply p_move <;> rfl)|(apply p_assign <;> rfl)|(apply p_add;(case hx=>rfl);(case hy=>rfl);(case h=>omega))|(apply p_indexAddrS;(case hx=>rfl);(case hi=>rfl);(case h0=>omega);(case h=>omega);(case hA=>(apply_assumption;omega)))|fail);(case hd=>rfl))|(apply v_cond;(case hc=>rfl);all_goals (intro h;(try simp only [reduceCtorEq,zzz] at h)))|(apply v_read;(case hop=>(apply r_loadN;rfl;exact CellsAt.frozen (hcp _ (by omega));rfl));(case hd=>rfl))|(apply v_buildSlice;(case hz=>rfl);(case hi=>rfl);(case hv=>(simp only [List.map_cons,List.map_nil];repeat (first|with_reducible exact evs_nil|(apply evs_cons;(case h1=>rfl)))));(case hp=>(apply pk_cons;(case hc=>rfl);(case hs=>rfl);(case h=>(with_reducible exact pk_nil));(case he=>((repeat (first|with_reducible exact ap_nil|apply ap_cons));done))));(case hb=>rfl);(case hd=>rfl);intro b)|fail)
      · subst hme
        refine v_append (e:=97) (agg:=true) (sz:=10) (bytes:=104) (zero:=zE) rfl (by omega) rfl rfl hg (show List.Perm ((b,Obj.cells (l[k]'hlt).cells.toArray 97 (0,0)) :: (bx,Obj.cells (x).cells.toArray 97 (0,0)) :: ν) _ from (List.perm_append_comm (l₁:=[(b,Obj.cells (l[k]'hlt).cells.toArray 97 (0,0)),(bx,Obj.cells (x).cells.toArray 97 (0,0))]))) (m':=1) (us:=(l[k]'hlt).cells) (Src.own (e:=97) (List.Mem.head _) rfl) rfl (by omega) (by simp only [maxLen];omega) rfl fun v1 ν1 hg1=>?_
        refine v_perm (show List.Perm (ν1 ++ [(b,Obj.cells (l[k]'hlt).cells.toArray 97 (0,0)),(bx,Obj.cells (x).cells.toArray 97 (0,0))]) (((bx,Obj.cells (x).cells.toArray 97 (0,0)) :: ν1) ++ [(b,Obj.cells (l[k]'hlt).cells.toArray 97 (0,0))]) from (by apply perm_of_count;intro p;simp only [List.append_eq,List.countP_append,List.countP_cons,List.countP_nil,Nat.zero_add,Nat.add_zero];try ac_rfl)) ?_
        refine v_drop (ν:=(bx,Obj.cells (x).cells.toArray 97 (0,0)) :: ν1) (List.sublist_append_left _ _) ?_
        repeat' (first|apply v_region|apply v_nil|apply v_blk|(apply v_pure;(case hop=>first|(apply p_move <;> rfl)|(apply p_assign <;> rfl)|(apply p_add;(case hx=>rfl);(case hy=>rfl);(case h=>omega))|fail);(case hd=>rfl))|fail)
        refine v_again rfl ⟨rfl,k + 1,v1,true,ν1,_,by omega,rfl,rfl,grow_add hg1,.inr ⟨rfl,by omega,?_⟩⟩ (by simp [headI];omega)
        rw [wl_d hpp hkp hlt]
      · exfalso
        have h1:=hr p k hlt hkp
        have h2:=mt (hpl p (by omega)).2 (by omega)
        simp only [e1] at *
        omega
    · refine v_ret ν (outsA1 rfl rfl) (by repeat (first|exact List.Sublist.refl _|apply List.Sublist.cons)) ?_
      refine ⟨rfl,?_⟩
      subst hme
      rw [List.take_of_length_le (by rw [hwl];split <;> omega)] at hg
      exact hg
theorem get_of {W l:List Ent} {a b:Nat} (h:W[a]? = l[b]?) (ha:a < W.length):∃ hb:b < l.length,W[a] = l[b]:=by
  rw [List.getElem?_eq_getElem ha] at h
  obtain ⟨hb,e⟩:=List.getElem?_eq_some_iff.1 h.symm
  exact ⟨hb,e.symm⟩
theorem withL_lo' {l:List Ent} {x:Ent} {k:Nat} (hk:k < placeN l x.index):(withL l x)[k]? = l[k]? := by
  have h:=congrArg (·[k]?) (withL_lo (l:=l) (x:=x) (k:=k + 1) hk)
  simpa [List.getElem?_take] using h
theorem withL_x {l:List Ent} {x:Ent} {k:Nat} (hk:k = placeN l x.index) (h:k < (withL l x).length):(withL l x)[k] = x:=by
  have h1:=withL_at l x
  rw [← hk,List.getElem?_eq_getElem h] at h1
  exact Option.some.inj h1
theorem withL_rise {l:List Ent} {x:Ent} (hr:RiseL l):RiseL (withL l x):=by
  refine rise_of_step fun i hi h0=>?_
  by_cases h1:i < placeN l x.index
  · obtain ⟨ha,ea⟩:=get_of (withL_lo' h1) hi
    obtain ⟨hb,eb⟩:=get_of (withL_lo' (k:=i - 1) (by omega)) (show i - 1 < (withL l x).length by omega)
    rw [ea,eb]
    exact hr _ _ ha (by omega)
  by_cases h2:i = placeN l x.index
  · obtain ⟨hb,eb⟩:=get_of (withL_lo' (k:=i - 1) (by omega)) (show i - 1 < (withL l x).length by omega)
    rw [withL_x h2 hi,eb]
    exact (placeN_lt hr hb).1 (by omega)
  by_cases hh:hitB l x.index = true
  · obtain ⟨ha,ea⟩:=get_of (withL_hi (by omega) hh) hi
    by_cases h3:i - 1 = placeN l x.index
    · have h4:=hitB_index hh
      rw [withL_x h3 (by omega),ea,← h4]
      exact hr _ _ ha (by omega)
    · obtain ⟨hb,eb⟩:=get_of (withL_hi (k:=i - 1) (by omega) hh) (show i - 1 < (withL l x).length by omega)
      rw [ea,eb]
      exact hr _ _ ha (by omega)
  · have e0:i = (i - 1) + 1:=by omega
    obtain ⟨ha,ea⟩:=get_of (a:=i) (b:=i - 1) (by have:=withL_hi' (l:=l) (x:=x) (k:=i - 1) (by omega) hh;rwa [← e0] at this) hi
    by_cases h3:i - 1 = placeN l x.index
    · rw [withL_x h3 (by omega),ea]
      have h4:=mt (placeN_lt hr ha).2 (show ¬ i - 1 < placeN l x.index by omega)
      have h5:l[i - 1].index ≠ x.index:=fun e=>hh (by rw [← e];exact hitB_at hr ha)
      omega
    · obtain ⟨hb,eb⟩:=get_of (a:=i - 1) (b:=i - 2) (by have:=withL_hi' (l:=l) (x:=x) (k:=i - 2) (by omega) hh;rwa [show i - 2 + 1 = i - 1 by omega] at this) (show i - 1 < (withL l x).length by omega)
      rw [ea,eb]
      exact hr _ _ ha (by omega)
theorem withL_ok {l:List Ent} {x:Ent} (hl:∀ y ∈ l,y.ok) (hx:x.ok):∀ y ∈ withL l x,y.ok:=by
  intro y hy
  by_cases h:hitB l x.index = true
  · rw [withL_hit h] at hy
    rcases List.mem_or_eq_of_mem_set hy with h1|h1
    · exact hl y h1
    · rw [h1];exact hx
  · rw [withL_no h] at hy
    rcases List.mem_append.1 hy with h1|h1
    · exact hl y (List.mem_of_mem_take h1)
    · rcases List.mem_cons.1 h1 with h2|h2
      · rw [h2];exact hx
      · exact hl y (List.mem_of_mem_drop h2)
theorem chk_all {l:List Ent}:∀ (n k:Nat),l.length - k = n → chkK l k = 0 → ∀ i (h:i < l.length),k ≤ i → oneI l[i] = 0
  | 0,k,hn,_,i,h,hk=>by omega
  | n + 1,k,hn,hc,i,h,hk=>by
    have hlt:k < l.length:=by omega
    rw [chkK,dif_pos hlt] at hc
    by_cases h1:oneI l[k] ≠ 0
    · rw [if_pos h1] at hc;exact absurd hc h1
    · rw [if_neg h1] at hc
      by_cases hik:i = k
      · subst hik;exact Decidable.not_not.1 h1
      · have hnext:chkK l (k + 1) = 0:=by
          by_cases h0:0 < k
          · rw [dif_pos h0] at hc
            split at hc
            · cases hc
            · exact hc
          · rw [dif_neg h0] at hc;exact hc
        exact chk_all n (k + 1) (by omega) hnext i h (by omega)
theorem chk_step {l:List Ent}:∀ (n k:Nat),l.length - k = n → chkK l k = 0 → ∀ j (hj:j < l.length),k ≤ j → ∀ (h0:0 < j),(l[j - 1]'(by omega)).index < l[j].index
  | 0,k,hn,h,j,hj,hkj,h0=>by omega
  | n + 1,k,hn,h,j,hj,hkj,h0=>by
    have hlt:k < l.length:=by omega
    have h1:oneI l[k] = 0:=chk_all (n + 1) k hn h k hlt (Nat.le_refl _)
    by_cases hk:∃ h0:0 < k,l[k].index ≤ (l[k - 1]'(by omega)).index
    · obtain ⟨h2,h3⟩:=hk
      have:=chkK_low hlt h1 h2 h3
      omega
    · have hnx:=chkK_next hlt h1 fun h2 h3=>hk ⟨h2,h3⟩
      by_cases e:j = k
      · subst e
        have:¬ l[j].index ≤ (l[j - 1]'(by omega)).index:=fun h3=>hk ⟨h0,h3⟩
        omega
      · exact chk_step n (k + 1) (by omega) (by rw [← hnx];exact h) j hj (by omega) h0
theorem chk_rise {l:List Ent} (h:chkK l 0 = 0):RiseL l:=by
  have hs:=chk_step (l.length - 0) 0 rfl h
  have key:∀ (d i:Nat) (hi:i + d + 1 < l.length),(l[i]'(by omega)).index < l[i + d + 1].index:=by
    intro d
    induction d with
    | zero =>
      intro i hi
      have:=hs (i + 1) (by omega) (by omega) (by omega)
      simpa using this
    | succ d ih =>
      intro i hi
      have h1:=ih i (by omega)
      have h2:=hs (i + (d + 1) + 1) hi (by omega) (by omega)
      simp only [Nat.add_sub_cancel] at h2
      exact Int.lt_trans h1 h2
  intro i j hj hij
  have:=key (j - i - 1) i (by omega)
  simpa only [show i + (j - i - 1) + 1 = j by omega] using this
def ins (x:Ent):List Ent → List Ent
  | [] => [x]
  | y :: l=>if y.index < x.index then y :: ins x l else if y.index = x.index then x :: l else x :: y :: l
theorem ins_cons (x y:Ent) (l:List Ent):ins x (y :: l) = if y.index < x.index then y :: ins x l else if y.index = x.index then x :: l else x :: y :: l:=rfl
theorem rise_pw {l:List Ent}:RiseL l ↔ l.Pairwise (fun a b=>a.index < b.index):=by
  rw [List.pairwise_iff_getElem]
  exact ⟨fun h i j hi hj hij=>h i j hj hij,fun h i j hj hij=>h i j (by omega) hj hij⟩
theorem placeN_cons (y:Ent) (l:List Ent) (n:Int):placeN (y :: l) n = placeN l n + (if y.index < n then 1 else 0):=by
  unfold placeN
  rw [List.countP_cons]
  simp
theorem placeN_zero {l:List Ent} {n:Int} (h:∀ x ∈ l,n ≤ x.index):placeN l n = 0:=by
  unfold placeN
  rw [List.countP_eq_zero]
  intro x hx
  have:=h x hx
  simp;omega
theorem hitB_iff {l:List Ent} (hr:RiseL l) (n:Int):hitB l n = true ↔ ∃ x ∈ l,x.index = n:=by
  induction l with
  | nil=>simp [hitB]
  | cons y l ih =>
    have hp:=rise_pw.1 hr
    rw [List.pairwise_cons] at hp
    have hr':=rise_pw.2 hp.2
    have ih':=ih hr'
    by_cases hy:y.index < n
    · have e:hitB (y :: l) n = hitB l n:=by
        unfold hitB
        simp only [placeN_cons,if_pos hy,List.length_cons]
        by_cases hh:placeN l n < l.length
        · rw [dif_pos (by omega),dif_pos hh]
          congr 1
        · rw [dif_neg (by omega),dif_neg hh]
      rw [e,ih']
      simp only [List.mem_cons,exists_eq_or_imp]
      constructor
      · exact .inr
      · rintro (h|h)
        · omega
        · exact h
    · have e:placeN (y :: l) n = 0:=by
        refine placeN_zero fun x hx=>?_
        rw [List.mem_cons] at hx
        obtain rfl|hx:=hx
        · omega
        · have:=hp.1 x hx;omega
      unfold hitB
      simp only [e,List.length_cons]
      rw [dif_pos (by omega)]
      simp only [List.getElem_cons_zero,decide_eq_true_eq,List.mem_cons,exists_eq_or_imp]
      constructor
      · exact .inl
      · rintro (h|⟨x,hx,h⟩)
        · exact h
        · have:=hp.1 x hx;omega
theorem withL_ins {l:List Ent} (hr:RiseL l) (x:Ent):withL l x = ins x l:=by
  induction l with
  | nil=>simp [withL,hitB,placeN,ins]
  | cons y l ih =>
    have hp:=rise_pw.1 hr
    rw [List.pairwise_cons] at hp
    have hr':=rise_pw.2 hp.2
    have ih':=ih hr'
    have hh:=hitB_iff hr x.index
    have hh':=hitB_iff hr' x.index
    unfold ins
    by_cases hy:y.index < x.index
    · rw [if_pos hy,← ih']
      have e:placeN (y :: l) x.index = placeN l x.index + 1:=by rw [placeN_cons,if_pos hy]
      have eh:hitB (y :: l) x.index = hitB l x.index:=by
        rw [Bool.eq_iff_iff,hh,hh']
        simp only [List.mem_cons,exists_eq_or_imp]
        constructor
        · rintro (h|h)
          · omega
          · exact h
        · exact .inr
      unfold withL
      rw [e,eh]
      split <;> simp
    · rw [if_neg hy]
      have e:placeN (y :: l) x.index = 0:=by
        refine placeN_zero fun z hz=>?_
        rw [List.mem_cons] at hz
        obtain rfl|hz:=hz
        · omega
        · have:=hp.1 z hz;omega
      unfold withL
      rw [e]
      by_cases he:y.index = x.index
      · rw [if_pos he,if_pos (hh.2 ⟨y,by simp,he⟩)]
        rfl
      · rw [if_neg he,if_neg]
        · rfl
        · rw [hh]
          rintro ⟨z,hz,h⟩
          rw [List.mem_cons] at hz
          obtain rfl|hz:=hz
          · exact he h
          · have:=hp.1 z hz;omega
theorem mem_ins {x z:Ent}:∀ {l:List Ent},z ∈ ins x l → z = x ∨ z ∈ l
  | [],h=>by simp [ins] at h;exact .inl h
  | y :: l,h=>by
    unfold ins at h
    split at h
    · rw [List.mem_cons] at h ⊢
      obtain h|h:=h
      · exact .inr (.inl h)
      · obtain h|h:=mem_ins h
        · exact .inl h
        · exact .inr (.inr h)
    · split at h
      · rw [List.mem_cons] at h ⊢
        obtain h|h:=h
        · exact .inl h
        · exact .inr (.inr h)
      · rw [List.mem_cons] at h
        exact h
theorem ins_filter (b:Int) (x:Ent):∀ l:List Ent,(ins x l).filter (fun e=>decide (b < e.index)) = if b < x.index then ins x (l.filter (fun e=>decide (b < e.index))) else l.filter (fun e=>decide (b < e.index))
  | []=>by
    unfold ins
    by_cases hb:b < x.index <;> simp [hb,ins]
  | y :: l=>by
    have ih:=ins_filter b x l
    rw [ins_cons]
    by_cases h1:y.index < x.index
    · rw [if_pos h1,List.filter_cons,List.filter_cons,ih]
      by_cases hy:b < y.index
      · have hx:b < x.index:=by omega
        simp only [hy,hx,decide_true,if_true,ins_cons,h1]
      · simp only [hy,decide_false,if_false,Bool.false_eq_true]
    · rw [if_neg h1]
      by_cases h2:y.index = x.index
      · rw [if_pos h2,List.filter_cons,List.filter_cons]
        by_cases hb:b < x.index
        · have hy:b < y.index:=by omega
          simp only [hb,hy,decide_true,if_true,ins_cons,h1,h2,if_false,Int.lt_irrefl]
        · have hy:¬ b < y.index:=by omega
          simp only [hb,hy,decide_false,if_false,Bool.false_eq_true]
      · rw [if_neg h2,List.filter_cons]
        by_cases hb:b < x.index
        · have hy:b < y.index:=by omega
          rw [List.filter_cons]
          simp only [hb,hy,decide_true,if_true,ins_cons,h1,h2,if_false,Int.lt_irrefl]
        · simp only [hb,decide_false,if_false,Bool.false_eq_true]
def insN (x:Ent) (l:List Ent):List Ent:=if ∃ y ∈ l,y.index = x.index then l else ins x l
theorem insN_filter (b:Int) (x:Ent) (l:List Ent):(insN x l).filter (fun e=>decide (b < e.index)) = if b < x.index then insN x (l.filter (fun e=>decide (b < e.index))) else l.filter (fun e=>decide (b < e.index)):=by
  unfold insN
  by_cases hb:b < x.index
  · rw [if_pos hb]
    have e:(∃ y ∈ l.filter (fun e=>decide (b < e.index)),y.index = x.index) ↔ ∃ y ∈ l,y.index = x.index:=by
      constructor
      · rintro ⟨y,hy,h⟩;exact ⟨y,(List.mem_filter.1 hy).1,h⟩
      · rintro ⟨y,hy,h⟩;exact ⟨y,List.mem_filter.2 ⟨hy,by simp;omega⟩,h⟩
    by_cases hc:∃ y ∈ l,y.index = x.index
    · rw [if_pos hc,if_pos (e.2 hc)]
    · rw [if_neg hc,if_neg fun h=>hc (e.1 h),ins_filter,if_pos hb]
  · rw [if_neg hb]
    split
    · rfl
    · rw [ins_filter,if_neg hb]
theorem rise_ins {l:List Ent} (hr:RiseL l) (x:Ent):RiseL (ins x l):=by
  rw [← withL_ins hr]
  exact withL_rise hr
theorem rise_insN {l:List Ent} (hr:RiseL l) (x:Ent):RiseL (insN x l):=by
  unfold insN
  split
  · exact hr
  · exact rise_ins hr x
theorem rise_filter {l:List Ent} (hr:RiseL l) (p:Ent → Bool):RiseL (l.filter p):=rise_pw.2 ((rise_pw.1 hr).filter p)
theorem drop_filter {l:List Ent} (hr:RiseL l) (n:Int):l.drop (placeN l (n + 1)) = l.filter (fun e=>decide (n < e.index)):=by
  induction l with
  | nil=>simp [placeN]
  | cons y l ih =>
    have hp:=rise_pw.1 hr
    rw [List.pairwise_cons] at hp
    have ih':=ih (rise_pw.2 hp.2)
    rw [placeN_cons,List.filter_cons]
    by_cases hy:y.index < n + 1
    · rw [if_pos hy,List.drop_succ_cons,ih']
      have:¬ n < y.index:=by omega
      simp [this]
    · have hy':n < y.index:=by omega
      have e:placeN l (n + 1) = 0:=placeN_zero fun z hz=>by have:=hp.1 z hz;omega
      rw [if_neg hy,e]
      simp only [hy',decide_true,if_true,List.drop_zero,Nat.add_zero]
      congr 1
      symm
      rw [List.filter_eq_self]
      intro z hz
      have:=hp.1 z hz
      simp;omega
def lessP (r n r' n':Int):Prop:=r < r' ∨ (r = r' ∧ n < n')
instance (r n r' n':Int):Decidable (lessP r n r' n'):=by unfold lessP;infer_instance
abbrev twoI (a b:Int):Obj:=.cells [.int .i64 a,.int .i64 b].toArray 3 (0,0)
theorem cmpOr_s (G:GH) (sb:Nat) (a b:Int):Con Tryz.prog 126 #[.slice (some ⟨sb,0,none⟩) 2 2] G [(sb,twoI a b)] (Keeps (.int .i64 (if a ≠ 0 then a else b)) G [(sb,twoI a b)]):=by
  apply Con.keeps
  (refine v_enter Tryz.func126 rfl Tryz.ntmps126 rfl ?_;intro B _)
  repeat' (first|apply v_seq|apply v_region|apply v_nil|apply v_block|(apply v_pure;(case hop=>first|(apply p_move <;> rfl)|(apply p_assign <;> rfl)|(apply p_lenSlice <;> rfl)|fail);(case hd=>rfl))|fail)
  refine v_loop [8,7,6,3,2] (fun us G' μ'=>G' = G ∧ μ' = [(sb,twoI a b)] ∧ ∃ k:Nat,k ≤ 2 ∧ us = [Value.int .i64 (k:Nat),.int .i64 2,.slice (some ⟨sb,0,none⟩) 2 2,.int .i64 0,.int .i64 0] ∧ (1 ≤ k → a = 0) ∧ (2 ≤ k → b = 0)) (fun us=>3 - (headI us).toNat) rfl ⟨rfl,rfl,0,by omega,rfl,by omega,by omega⟩ ?_
  rintro us G' μ' ⟨rfl,rfl,k,hk,rfl,h1,h2⟩
  obtain rfl|rfl|rfl:k = 0 ∨ k = 1 ∨ k = 2:=by omega
  · repeat' (first|apply v_seq|apply v_region|apply v_nil|apply v_skip|apply v_block|apply v_blk|(apply v_pure;(case hop=>first|(apply p_move <;> rfl)|(apply p_lt <;> rfl)|(apply p_ne <;> rfl)|(apply p_assign <;> rfl)|(apply p_add;(case hx=>rfl);(case hy=>rfl);(case h=>omega))|(apply p_indexAddr;(case hx=>rfl);(case hi=>rfl);(case h0=>omega);(case h=>omega))|fail);(case hd=>rfl))|(apply v_cond;(case hc=>rfl);all_goals (intro h;(try simp only [reduceCtorEq,zzz] at h);first|(exfalso;omega)|skip))|(apply v_read;(case hop=>(apply r_load1;rfl;(apply Cell.own;(case h=>(repeat (exact mhd _)));rfl)));(case hd=>rfl))|fail)
    · refine v_ret [(sb,_)] (outsA1 rfl rfl) (by repeat (exact List.Sublist.refl _)) ?_
      exact ⟨by rw [if_pos (by assumption)],rfl⟩
    · refine v_again rfl ⟨rfl,rfl,1,by omega,rfl,fun _=>by omega,by omega⟩ (by simp [headI])
  · have h1:=h1 (by omega)
    repeat' (first|apply v_seq|apply v_region|apply v_nil|apply v_skip|apply v_block|apply v_blk|(apply v_pure;(case hop=>first|(apply p_move <;> rfl)|(apply p_lt <;> rfl)|(apply p_ne <;> rfl)|(apply p_assign <;> rfl)|(apply p_add;(case hx=>rfl);(case hy=>rfl);(case h=>omega))|(apply p_indexAddr;(case hx=>rfl);(case hi=>rfl);(case h0=>omega);(case h=>omega))|fail);(case hd=>rfl))|(apply v_cond;(case hc=>rfl);all_goals (intro h;(try simp only [reduceCtorEq,zzz] at h);first|(exfalso;omega)|skip))|(apply v_read;(case hop=>(apply r_load1;rfl;(apply Cell.own;(case h=>(repeat (exact mhd _)));rfl)));(case hd=>rfl))|fail)
    · refine v_ret [(sb,_)] (outsA1 rfl rfl) (by repeat (exact List.Sublist.refl _)) ?_
      exact ⟨by rw [if_neg (by omega)],rfl⟩
    · refine v_again rfl ⟨rfl,rfl,2,by omega,rfl,fun _=>by omega,fun _=>by omega⟩ (by simp [headI])
  · have h1:=h1 (by omega)
    have h2:=h2 (by omega)
    repeat' (first|apply v_seq|apply v_region|apply v_nil|(apply v_exit;(case hp=>rfl))|(apply v_pure;(case hop=>first|(apply p_move <;> rfl)|(apply p_lt <;> rfl)|(apply p_assign <;> rfl)|fail);(case hd=>rfl))|(apply v_cond;(case hc=>rfl);all_goals (intro h;(try simp only [reduceCtorEq,zzz] at h);first|(exfalso;omega)|skip))|fail)
    refine v_ret [(sb,_)] (outsA1 rfl rfl) (by repeat (exact List.Sublist.refl _)) ?_
    exact ⟨by rw [if_neg (by omega),h2],rfl⟩
theorem less_s (G:GH) (r n r' n':Int):Con Tryz.prog 83 #[.agg #[.int .i64 r,.int .i64 n],.agg #[.int .i64 r',.int .i64 n']] G [] (Just (.bool (decide (lessP r n r' n'))) G):=by
  have q1:=cmp_s G r r'
  have q2:=cmp_s G n n'
  have qo:=fun sb=>cmpOr_s G sb (cmpI r r') (cmpI n n')
  have key:dec ((if cmpI r r' ≠ 0 then cmpI r r' else cmpI n n') < 0) = decide (lessP r n r' n'):=by
    rw [dec_eq]
    congr 1
    rw [eq_iff_iff]
    have a1 := @cmpI_lt r r'
    have a2 := @cmpI_eq r r'
    have a3 := @cmpI_lt n n'
    unfold lessP
    by_cases h:cmpI r r' = 0
    · rw [if_neg (by omega)];omega
    · rw [if_pos h];omega
  apply Con.just
  (refine v_enter Tryz.func83 rfl Tryz.ntmps83 rfl ?_;intro B _)
  repeat' (first|apply v_seq|apply v_region|apply v_nil|(apply v_pure;(case hop=>(apply p_assign <;> rfl));(case hd=>rfl))|(apply v_box;(case hx=>rfl);(case hz=>rfl);(case hd=>rfl);intro b)|fail)
  refine d_start _ (by kernel_rfl) (by kernel_rfl) (by kernel_rfl) (fun _ he=>he) ?_
  all_goals (apply dtk 0;(case hi=>rfl);(case hop=>(apply prd;apply p_fieldAddrB <;> rfl));(case hq=>kernel_rfl))
  all_goals (apply dtk 1;(case hi=>rfl);(case hop=>first|(apply r_loadNo;(case hx=>rfl);(case h=>(repeat (fail)));(case hd=>(repeat (fail)));(case hn=>rfl))|(apply r_load1;rfl;(apply Cell.own;(case h=>(repeat (first|exact mhd _|apply mtl)));rfl))|(apply r_loadN;rfl;(apply CellsAt.own;(case h=>(repeat (fail))));rfl));(case hq=>kernel_rfl))
  all_goals (apply dtk 2;(case hi=>rfl);(case hop=>(apply prd;apply p_fieldAddrB <;> rfl));(case hq=>kernel_rfl))
  all_goals (apply dtk 3;(case hi=>rfl);(case hop=>first|(apply r_loadNo;(case hx=>rfl);(case h=>(repeat (fail)));(case hd=>(repeat (fail)));(case hn=>rfl))|(apply r_load1;rfl;(apply Cell.own;(case h=>(repeat (exact mhd _)));rfl))|(apply r_loadN;rfl;(apply CellsAt.own;(case h=>(repeat (fail))));rfl));(case hq=>kernel_rfl))
  all_goals (apply dtk 5;(case hi=>rfl);(case hop=>(apply prd;apply p_fieldAddrB <;> rfl));(case hq=>kernel_rfl))
  all_goals (apply dtk 6;(case hi=>rfl);(case hop=>first|(apply r_loadNo;(case hx=>rfl);(case h=>(repeat (fail)));(case hd=>(repeat (fail)));(case hn=>rfl))|(apply r_load1;rfl;(apply Cell.own;(case h=>(repeat (first|exact mhd _|apply mtl)));rfl))|(apply r_loadN;rfl;(apply CellsAt.own;(case h=>(repeat (fail))));rfl));(case hq=>kernel_rfl))
  all_goals (apply dtk 7;(case hi=>rfl);(case hop=>(apply prd;apply p_fieldAddrB <;> rfl));(case hq=>kernel_rfl))
  all_goals (apply dtk 8;(case hi=>rfl);(case hop=>first|(apply r_loadNo;(case hx=>rfl);(case h=>(repeat (fail)));(case hd=>(repeat (fail)));(case hn=>rfl))|(apply r_load1;rfl;(apply Cell.own;(case h=>(repeat (exact mhd _)));rfl))|(apply r_loadN;rfl;(apply CellsAt.own;(case h=>(repeat (fail))));rfl));(case hq=>kernel_rfl))
  all_goals (apply d_callJ 4 (hs:=q1);(case hi=>rfl);(case hr=>kernel_rfl);(case ha=>rfl);(case hd=>rfl))
  all_goals (apply d_callJ 9 (hs:=q2);(case hi=>rfl);(case hr=>kernel_rfl);(case ha=>rfl);(case hd=>rfl))
  all_goals (apply d_buildSlice 10;(case hi=>rfl);(case hr=>kernel_rfl);(case hT=>infer_instance);(case hL=>infer_instance);(case hz=>rfl);(case hl=>rfl);(case hv=>(simp only [List.map_cons,List.map_nil];repeat (first|with_reducible exact evs_nil|(apply evs_cons;(case h1=>rfl)))));(case hp=>(apply pk_cons;(case hc=>rfl);(case hs=>rfl);(case h=>(apply pk_cons;(case hc=>rfl);(case hs=>rfl);(case h=>(with_reducible exact pk_nil));(case he=>((repeat (first|with_reducible exact ap_nil|apply ap_cons));done))));(case he=>((repeat (first|with_reducible exact ap_nil|apply ap_cons));done))));(case hb=>rfl);(case hd=>rfl);(case hν=>intro e he;exact he);intro sb)
  all_goals (apply d_callK 11 (hs:=qo _);(case hi=>rfl);(case hr=>kernel_rfl);(case ha=>rfl);(case hp=>exact (Pick.perm (by repeat (exact Pick.here _))));(case hd=>rfl))
  all_goals (apply dtk 12;(case hi=>rfl);(case hop=>(apply prd;apply p_lt <;> rfl));(case hq=>kernel_rfl))
  all_goals (apply dtk 13;(case hi=>rfl);(case hop=>(apply prd;apply p_assign <;> rfl));(case hq=>kernel_rfl))
  all_goals (apply d_done;(case hr=>kernel_rfl))
  repeat' (fail)
  refine v_ret [] (outsA1 rfl rfl) (by repeat (exact List.nil_sublist _)) ?_
  exact ⟨by rw [key],rfl⟩
theorem refLess_s (G:GH) (r n r' n':Int):Con Tryz.prog 54 #[.agg #[.int .i64 r,.int .i64 n],.agg #[.int .i64 r',.int .i64 n']] G [] (Just (.bool (decide (lessP r n r' n'))) G):=by
  apply Con.just
  (refine v_enter Tryz.func54 rfl Tryz.ntmps54 rfl ?_;intro B _)
  repeat' (first|apply v_seq|apply v_region|apply v_nil|apply v_skip|(apply v_pure;(case hop=>first|(apply p_eq <;> rfl)|(apply p_lt <;> rfl)|(apply p_assign <;> rfl)|(apply p_fieldAddrB <;> rfl)|fail);(case hd=>rfl))|(apply v_cond;(case hc=>rfl);all_goals (intro h;(try simp only [reduceCtorEq,zzz] at h)))|(apply v_read;(case hop=>(apply r_load1;rfl;(apply Cell.own;(case h=>(repeat (first|exact mhd _|apply mtl)));rfl)));(case hd=>rfl))|(apply v_box;(case hx=>rfl);(case hz=>rfl);(case hd=>rfl);intro b)|fail)
  all_goals
    (refine v_ret [] (outsA1 rfl rfl) (by repeat (exact List.nil_sublist _)) ?_
     refine ⟨?_,rfl⟩
     rw [dec_eq]
     congr 1
     rw [decide_eq_decide]
     unfold lessP
     omega)
theorem ite0 {p:Prop} [Decidable p] {a b:Int} (ha:a ≠ 0) (h:(if p then a else b) = 0):¬ p ∧ b = 0:=by
  by_cases hp:p
  · rw [if_pos hp] at h;exact absurd h ha
  · rw [if_neg hp] at h;exact ⟨hp,h⟩
theorem rec0 {k r n i:Int} {c:Cm} {len:Nat} (h:recI k r n i c len = 0):(1 ≤ k ∧ k ≤ 4) ∧ ranP k r n i ∧ ¬ (k = 4 ∧ 32768 < len) ∧ ((k = 2 ∨ k = 3) → cmdI c = 0) ∧ ¬ othP k r n i c len:=by
  unfold recI at h
  obtain ⟨h1,h⟩:=ite0 (by decide) h
  obtain ⟨h2,h⟩:=ite0 (by decide) h
  obtain ⟨h3,h⟩:=ite0 (by decide) h
  by_cases hc:(k = 2 ∨ k = 3) ∧ cmdI c ≠ 0
  · rw [if_pos hc] at h;exact absurd h hc.2
  · rw [if_neg hc] at h
    obtain ⟨h4,h⟩:=ite0 (by decide) h
    refine ⟨by omega,Decidable.not_not.1 h2,h3,fun hk=>?_,h4⟩
    exact Decidable.not_not.1 fun hn=>hc ⟨hk,hn⟩
noncomputable def chkI (x:Rc):Int:=recI x.kind x.round x.node x.index x.cmd x.image.length
def Rc.small (x:Rc):Prop:=x.kind ≤ 9223372036854775807 ∧ x.round ≤ 9223372036854775807 ∧ x.node ≤ 9223372036854775807 ∧ x.index ≤ 9223372036854775807
def Rc.fits (x:Rc):Prop:=x.cmd.key.size ≤ 1000 ∧ x.cmd.val.size ≤ 1000 ∧ x.cmd.old.size ≤ 1000 ∧ x.image.length ≤ 32780
theorem cmdSz {c:Cm} (h:cmdI c = 0):c.key.size ≤ 24 ∧ c.val.size ≤ 48 ∧ c.old.size ≤ 48:=by
  rw [cmdI_eq] at h
  unfold cmdE at h
  obtain ⟨h1,h⟩:=ite0 (by decide) h
  obtain ⟨h2,h⟩:=ite0 (by decide) h
  obtain ⟨h3,h⟩:=ite0 (by decide) h
  obtain ⟨h4,h⟩:=ite0 (by decide) h
  have hk:keyB c.key = true → c.key.size ≤ 24:=fun e=>by
    simp only [keyB,Bool.and_eq_true,decide_eq_true_eq] at e
    exact e.1.2
  have hv:∀ s,valB s = true → s.size ≤ 48:=fun s e=>by
    simp only [valB,Bool.and_eq_true,decide_eq_true_eq] at e
    exact e.1.1
  have e1:=hv c.val
  have e2:=hv c.old
  cases hkb:keyB c.key <;> cases hvb:valB c.val <;> cases hob:valB c.old <;> simp only [hkb,hvb,hob,true_implies,reduceCtorEq,false_implies,and_true,and_false] at * <;> omega
theorem fits0 {x:Rc} (h:recI x.kind x.round x.node x.index x.cmd x.image.length = 0):x.fits ∧ x.small ∧ x.image.length ≤ 32768 ∧ x.cmd.key.size ≤ 24 ∧ x.cmd.val.size ≤ 48 ∧ x.cmd.old.size ≤ 48:=by
  obtain ⟨hk,hr,hi,hc,ho⟩:=rec0 h
  unfold ranP mayP at hr
  have hcz:(x.kind = 2 ∨ x.kind = 3) ∨ x.cmd = zeroCm:=by
    by_cases hh:x.kind = 2 ∨ x.kind = 3
    · exact .inl hh
    · exact .inr (Decidable.not_not.1 fun hn=>ho (.inr (.inr (.inl ⟨hh,hn⟩))))
  have hs:x.cmd.key.size ≤ 24 ∧ x.cmd.val.size ≤ 48 ∧ x.cmd.old.size ≤ 48:=by
    obtain hh|hh:=hcz
    · exact cmdSz (hc hh)
    · rw [hh];decide
  have him:x.image.length ≤ 32768:=by unfold othP at ho;omega
  refine ⟨?_,?_,him,hs⟩
  · unfold Rc.fits;omega
  · unfold Rc.small;unfold othP at ho;omega
theorem wf64 {n:Int} (h0:0 ≤ n ∧ n ≤ 9223372036854775807):(Lit.int .i64 n).wf = true:=by
  simp [Lit.wf,IntKind.min,IntKind.max,IntKind.signed,IntKind.bits]
  omega
structure Hd where
  pr:Int
  pn:Int
  base:Int
  image:List Int
  acc:List Ent
  cho:List Ent
def Hd.zero:Hd:=⟨0,0,0,[],[],[]⟩
def entOf (x:Rc):Ent:=⟨x.index,x.round,x.node,x.cmd⟩
def Hd.prom (h:Hd) (x:Rc):Hd:=if lessP h.pr h.pn x.round x.node then { h with pr:=x.round,pn:=x.node } else h
noncomputable def chg (h:Hd) (x:Rc):Hd :=
  if x.kind = 1 then h.prom x
  else if x.kind = 2 then (if (h.prom x).base < x.index then { h.prom x with acc:=withL (h.prom x).acc (entOf x) } else h.prom x)
  else if x.kind = 3 then (if hitB h.cho x.index = false ∧ h.base < x.index then { h with cho:=withL h.cho ⟨x.index,0,0,x.cmd⟩ } else h)
  else if x.index ≤ h.base then h
  else { h with base:=x.index,image:=x.image,acc:=h.acc.drop (placeN h.acc (x.index + 1)),cho:=h.cho.drop (placeN h.cho (x.index + 1)) }
noncomputable def stepH (h:Hd) (x:Rc):Hd:=if chkI x = 0 then chg h x else h
noncomputable def hardOf (l:List Rc):Hd:=l.foldl stepH Hd.zero
noncomputable def r1 (h:Hd) (x:Rc):Hd :=
  if chkI x = 0 then (if x.kind = 1 ∨ x.kind = 2 then h.prom x else if x.kind = 4 ∧ h.base < x.index then { h with base:=x.index,image:=x.image } else h) else h
noncomputable def accS (b:Int) (L:List Ent) (x:Rc):List Ent:=if chkI x = 0 ∧ x.kind = 2 ∧ b < x.index then ins (entOf x) L else L
noncomputable def choS (b:Int) (L:List Ent) (x:Rc):List Ent:=if chkI x = 0 ∧ x.kind = 3 ∧ b < x.index then insN (entOf x) L else L
theorem accS_filter {b b':Int} (hb:b ≤ b') (x:Rc) (L:List Ent):(accS b L x).filter (fun e=>decide (b' < e.index)) = accS b' (L.filter (fun e=>decide (b' < e.index))) x:=by
  unfold accS
  by_cases h:chkI x = 0 ∧ x.kind = 2 ∧ b < x.index
  · rw [if_pos h,ins_filter]
    have e:(entOf x).index = x.index:=rfl
    rw [e]
    by_cases h':b' < x.index
    · rw [if_pos h',if_pos ⟨h.1,h.2.1,h'⟩]
    · rw [if_neg h',if_neg fun hh=>h' hh.2.2]
  · rw [if_neg h,if_neg fun hh=>h ⟨hh.1,hh.2.1,by omega⟩]
theorem choS_filter {b b':Int} (hb:b ≤ b') (x:Rc) (L:List Ent):(choS b L x).filter (fun e=>decide (b' < e.index)) = choS b' (L.filter (fun e=>decide (b' < e.index))) x:=by
  unfold choS
  by_cases h:chkI x = 0 ∧ x.kind = 3 ∧ b < x.index
  · rw [if_pos h,insN_filter]
    have e:(entOf x).index = x.index:=rfl
    rw [e]
    by_cases h':b' < x.index
    · rw [if_pos h',if_pos ⟨h.1,h.2.1,h'⟩]
    · rw [if_neg h',if_neg fun hh=>h' hh.2.2]
  · rw [if_neg h,if_neg fun hh=>h ⟨hh.1,hh.2.1,by omega⟩]
theorem accF_filter {b b':Int} (hb:b ≤ b'):∀ (l:List Rc) (L:List Ent),(l.foldl (accS b) L).filter (fun e=>decide (b' < e.index)) = l.foldl (accS b') (L.filter (fun e=>decide (b' < e.index)))
  | [],L=>rfl
  | x :: l,L=>by rw [List.foldl_cons,List.foldl_cons,accF_filter hb l,accS_filter hb]
theorem choF_filter {b b':Int} (hb:b ≤ b'):∀ (l:List Rc) (L:List Ent),(l.foldl (choS b) L).filter (fun e=>decide (b' < e.index)) = l.foldl (choS b') (L.filter (fun e=>decide (b' < e.index)))
  | [],L=>rfl
  | x :: l,L=>by rw [List.foldl_cons,List.foldl_cons,choF_filter hb l,choS_filter hb]
structure Good (n:Nat) (h:Hd):Prop where
  may:mayP h.pr h.pn
  base:0 ≤ h.base ∧ h.base ≤ 4294967296
  img:h.image.length ≤ 32768 ∧ (0 < h.base ↔ 0 < h.image.length)
  racc:RiseL h.acc
  rcho:RiseL h.cho
  nacc:h.acc.length ≤ n
  ncho:h.cho.length ≤ n
  acc:∀ e ∈ h.acc,oneI e = 0 ∧ e.ok ∧ h.base < e.index ∧ e.round ≠ 0 ∧ ¬ lessP h.pr h.pn e.round e.node
  cho:∀ e ∈ h.cho,oneI e = 0 ∧ e.ok ∧ h.base < e.index ∧ e.round = 0 ∧ e.node = 0
theorem good_zero:Good 0 Hd.zero:=by
  refine ⟨.inl ⟨rfl,rfl⟩,by decide,by decide,?_,?_,by decide,by decide,?_,?_⟩
  · intro i j hj;simp [Hd.zero] at hj
  · intro i j hj;simp [Hd.zero] at hj
  · intro e he;simp [Hd.zero] at he
  · intro e he;simp [Hd.zero] at he
theorem ins_len (x:Ent):∀ l:List Ent,(ins x l).length ≤ l.length + 1
  | []=>by simp [ins]
  | y :: l=>by
    have:=ins_len x l
    rw [ins_cons]
    split
    · simp;omega
    · split <;> simp
theorem Good.more {n m:Nat} {h:Hd} (g:Good n h) (hm:n ≤ m):Good m h:=⟨g.may,g.base,g.img,g.racc,g.rcho,Nat.le_trans g.nacc hm,Nat.le_trans g.ncho hm,g.acc,g.cho⟩
theorem prom_base (h:Hd) (x:Rc):(h.prom x).base = h.base ∧ (h.prom x).image = h.image ∧ (h.prom x).acc = h.acc ∧ (h.prom x).cho = h.cho:=by
  unfold Hd.prom
  split <;> exact ⟨rfl,rfl,rfl,rfl⟩
theorem good_prom {n:Nat} {h:Hd} (g:Good n h) {x:Rc} (hm:mayP x.round x.node):Good n (h.prom x) ∧ ¬ lessP (h.prom x).pr (h.prom x).pn x.round x.node:=by
  unfold Hd.prom
  by_cases hl:lessP h.pr h.pn x.round x.node
  · rw [if_pos hl]
    refine ⟨⟨hm,g.base,g.img,g.racc,g.rcho,g.nacc,g.ncho,fun e he=>?_,g.cho⟩,by unfold lessP;simp only;omega⟩
    obtain ⟨h1,h2,h3,h4,h5⟩:=g.acc e he
    refine ⟨h1,h2,h3,h4,?_⟩
    unfold lessP at hl h5 ⊢
    simp only
    omega
  · rw [if_neg hl]
    exact ⟨g,hl⟩
theorem good_chg {n:Nat} {h:Hd} (g:Good n h) {x:Rc} (hx:chkI x = 0) (hc:x.cmd.ok):Good (n + 1) (chg h x):=by
  have h0:recI x.kind x.round x.node x.index x.cmd x.image.length = 0:=hx
  obtain ⟨hk,hr,hi,hcc,ho⟩:=rec0 h0
  obtain ⟨hfit,hsm,him,hsz⟩:=fits0 h0
  unfold ranP at hr
  unfold chg
  by_cases k1:x.kind = 1
  · rw [if_pos k1]
    exact (good_prom g (hr.1 (.inl k1)).1).1.more (by omega)
  rw [if_neg k1]
  by_cases k2:x.kind = 2
  · rw [if_pos k2]
    obtain ⟨g1,hnl⟩:=good_prom g (x:=x) (hr.1 (.inr k2)).1
    have hm:=(hr.1 (.inr k2))
    split
    · rename_i hlt
      have hcmd:=hcc (.inl k2)
      have hidx:=hr.2 (.inl k2)
      have hone:oneI (entOf x) = 0:=by
        unfold oneI entOf
        rw [if_neg]
        · exact hcmd
        · rintro (hh|hh|hh)
          · simp only at hh;omega
          · simp only at hh;omega
          · exact hh hm.1
      have hok:(entOf x).ok:=by
        have hw:=hm.1
        unfold mayP at hw
        exact ⟨wf64 (n:=x.index) (by omega),wf64 (n:=x.round) (by omega),wf64 (n:=x.node) (by omega),hc⟩
      rw [withL_ins g1.racc]
      refine ⟨g1.may,g1.base,g1.img,rise_ins g1.racc _,g1.rcho,Nat.le_trans (ins_len _ _) (by have:=g1.nacc;omega),Nat.le_trans g1.ncho (by omega),fun e he=>?_,g1.cho⟩
      obtain rfl|he:=mem_ins he
      · refine ⟨hone,hok,hlt,?_,hnl⟩
        have hm1:=hm.1
        unfold mayP at hm1
        intro hz
        have:x.round = 0:=hz
        have hm2:=hm.2
        omega
      · exact g1.acc e he
    · exact g1.more (by omega)
  rw [if_neg k2]
  by_cases k3:x.kind = 3
  · rw [if_pos k3]
    split
    · rename_i hcond
      have hcmd:=hcc (.inr k3)
      have hidx:=hr.2 (.inr (.inl k3))
      have hone:oneI ⟨x.index,0,0,x.cmd⟩ = 0:=by
        unfold oneI
        rw [if_neg]
        · exact hcmd
        · rintro (hh|hh|hh)
          · simp only at hh;omega
          · simp only at hh;omega
          · exact hh (.inl ⟨rfl,rfl⟩)
      have hok:(⟨x.index,0,0,x.cmd⟩:Ent).ok:=⟨wf64 (n:=x.index) (by omega),wf64 (n:=0) (by omega),wf64 (n:=0) (by omega),hc⟩
      rw [withL_ins g.rcho]
      refine ⟨g.may,g.base,g.img,g.racc,rise_ins g.rcho _,Nat.le_trans g.nacc (by omega),Nat.le_trans (ins_len _ _) (by have:=g.ncho;omega),g.acc,fun e he=>?_⟩
      obtain rfl|he:=mem_ins he
      · exact ⟨hone,hok,hcond.2,rfl,rfl⟩
      · exact g.cho e he
    · exact g.more (by omega)
  rw [if_neg k3]
  have k4:x.kind = 4:=by omega
  have hidx:=hr.2 (.inr (.inr k4))
  split
  · exact g.more (by omega)
  · rename_i hlt
    have hpos:0 < x.image.length:=by unfold othP at ho;omega
    rw [drop_filter g.racc,drop_filter g.rcho]
    refine ⟨g.may,by simp only;omega,by simp only;omega,rise_filter g.racc _,rise_filter g.rcho _,Nat.le_trans (List.length_filter_le _ _) (by have:=g.nacc;omega),Nat.le_trans (List.length_filter_le _ _) (by have:=g.ncho;omega),fun e he=>?_,fun e he=>?_⟩
    · obtain ⟨h1,h2⟩:=List.mem_filter.1 he
      obtain ⟨a1,a2,a3,a4,a5⟩:=g.acc e h1
      exact ⟨a1,a2,of_decide_eq_true h2,a4,a5⟩
    · obtain ⟨h1,h2⟩:=List.mem_filter.1 he
      obtain ⟨a1,a2,a3,a4,a5⟩:=g.cho e h1
      exact ⟨a1,a2,of_decide_eq_true h2,a4,a5⟩
structure Inv (pre:List Rc) (h h1:Hd):Prop where
  pr:h1.pr = h.pr
  pn:h1.pn = h.pn
  base:h1.base = h.base
  image:h1.image = h.image
  acc:h.acc = pre.foldl (accS h.base) []
  cho:h.cho = pre.foldl (choS h.base) []
  good:Good pre.length h
theorem inv_zero:Inv [] Hd.zero Hd.zero:=⟨rfl,rfl,rfl,rfl,rfl,rfl,good_zero⟩
theorem prom_eq {h h1:Hd} (e1:h1.pr = h.pr) (e2:h1.pn = h.pn) (x:Rc):(h1.prom x).pr = (h.prom x).pr ∧ (h1.prom x).pn = (h.prom x).pn:=by
  unfold Hd.prom
  rw [e1,e2]
  by_cases hl:lessP h.pr h.pn x.round x.node
  · rw [if_pos hl,if_pos hl];exact ⟨rfl,rfl⟩
  · rw [if_neg hl,if_neg hl];exact ⟨e1,e2⟩
theorem inv_step {pre:List Rc} {h h1:Hd} (i:Inv pre h h1) {x:Rc} (hc:x.cmd.ok):Inv (pre ++ [x]) (stepH h x) (r1 h1 x):=by
  have hlen:(pre ++ [x]).length = pre.length + 1:=by simp
  by_cases hx:chkI x = 0
  rotate_left
  · have e1:stepH h x = h:=by unfold stepH;rw [if_neg hx]
    have e2:r1 h1 x = h1:=by unfold r1;rw [if_neg hx]
    rw [e1,e2]
    refine ⟨i.pr,i.pn,i.base,i.image,?_,?_,by rw [hlen];exact i.good.more (by omega)⟩
    · rw [List.foldl_append,← i.acc,List.foldl_cons,List.foldl_nil,accS,if_neg fun hh=>hx hh.1]
    · rw [List.foldl_append,← i.cho,List.foldl_cons,List.foldl_nil,choS,if_neg fun hh=>hx hh.1]
  have hg:=good_chg i.good hx hc
  rw [← hlen] at hg
  have e1:stepH h x = chg h x:=by unfold stepH;rw [if_pos hx]
  rw [e1]
  have h0:recI x.kind x.round x.node x.index x.cmd x.image.length = 0:=hx
  obtain ⟨hk,hr,hi,hcc,ho⟩:=rec0 h0
  have r1e:r1 h1 x = (if x.kind = 1 ∨ x.kind = 2 then h1.prom x else if x.kind = 4 ∧ h1.base < x.index then { h1 with base:=x.index,image:=x.image } else h1):=by unfold r1;rw [if_pos hx]
  rw [r1e]
  unfold chg at hg ⊢
  obtain ⟨q1,q2⟩:=prom_eq i.pr i.pn x
  obtain ⟨b1,b2,b3,b4⟩:=prom_base h x
  obtain ⟨c1,c2,c3,c4⟩:=prom_base h1 x
  have aS:∀ b L,x.kind ≠ 2 → accS b L x = L:=fun b L hh=>by rw [accS,if_neg fun h=>hh h.2.1]
  have cS:∀ b L,x.kind ≠ 3 → choS b L x = L:=fun b L hh=>by rw [choS,if_neg fun h=>hh h.2.1]
  by_cases k1:x.kind = 1
  · rw [if_pos k1] at hg ⊢
    rw [if_pos (show x.kind = 1 ∨ x.kind = 2 from .inl k1)]
    refine ⟨q1,q2,by rw [b1,c1];exact i.base,by rw [b2,c2];exact i.image,?_,?_,hg⟩
    · rw [b3,b1,List.foldl_append,← i.acc,List.foldl_cons,List.foldl_nil,aS _ _ (by omega)]
    · rw [b4,b1,List.foldl_append,← i.cho,List.foldl_cons,List.foldl_nil,cS _ _ (by omega)]
  rw [if_neg k1] at hg ⊢
  by_cases k2:x.kind = 2
  · rw [if_pos k2] at hg ⊢
    rw [if_pos (show x.kind = 1 ∨ x.kind = 2 from .inr k2)]
    by_cases hlt:(h.prom x).base < x.index
    · rw [if_pos hlt] at hg ⊢
      have hlt':h.base < x.index:=by rw [b1] at hlt;exact hlt
      refine ⟨q1,q2,by rw [c1];simp only [b1];exact i.base,by rw [c2];simp only [b2];exact i.image,?_,?_,hg⟩
      · simp only [b3,b1]
        rw [List.foldl_append,← i.acc,List.foldl_cons,List.foldl_nil,accS,if_pos ⟨hx,k2,hlt'⟩,withL_ins i.good.racc]
      · simp only [b4,b1]
        rw [List.foldl_append,← i.cho,List.foldl_cons,List.foldl_nil,cS _ _ (by omega)]
    · rw [if_neg hlt] at hg ⊢
      have hlt':¬ h.base < x.index:=by rw [b1] at hlt;exact hlt
      refine ⟨q1,q2,by rw [c1,b1];exact i.base,by rw [c2,b2];exact i.image,?_,?_,hg⟩
      · rw [b3,b1,List.foldl_append,← i.acc,List.foldl_cons,List.foldl_nil,accS,if_neg fun hh=>hlt' hh.2.2]
      · rw [b4,b1,List.foldl_append,← i.cho,List.foldl_cons,List.foldl_nil,cS _ _ (by omega)]
  rw [if_neg k2] at hg ⊢
  rw [if_neg (show ¬ (x.kind = 1 ∨ x.kind = 2) by omega)]
  by_cases k3:x.kind = 3
  · rw [if_pos k3] at hg ⊢
    rw [if_neg (show ¬ (x.kind = 4 ∧ h1.base < x.index) by omega)]
    have hz:x.round = 0 ∧ x.node = 0:=Decidable.not_not.1 fun hn=>ho (.inl ⟨by omega,hn⟩)
    have ee:entOf x = ⟨x.index,0,0,x.cmd⟩:=by unfold entOf;rw [hz.1,hz.2]
    have hh:=hitB_iff i.good.rcho x.index
    by_cases hcond:hitB h.cho x.index = false ∧ h.base < x.index
    · rw [if_pos hcond] at hg ⊢
      refine ⟨i.pr,i.pn,i.base,i.image,?_,?_,hg⟩
      · rw [List.foldl_append,← i.acc,List.foldl_cons,List.foldl_nil,aS _ _ (by omega)]
      · simp only
        rw [List.foldl_append,← i.cho,List.foldl_cons,List.foldl_nil,choS,if_pos ⟨hx,k3,hcond.2⟩,withL_ins i.good.rcho,insN,ee,if_neg]
        intro hex
        rw [hh.2 hex] at hcond
        exact absurd hcond.1 (by decide)
    · rw [if_neg hcond] at hg ⊢
      refine ⟨i.pr,i.pn,i.base,i.image,?_,?_,hg⟩
      · rw [List.foldl_append,← i.acc,List.foldl_cons,List.foldl_nil,aS _ _ (by omega)]
      · rw [List.foldl_append,← i.cho,List.foldl_cons,List.foldl_nil,choS]
        by_cases hlt:h.base < x.index
        · rw [if_pos ⟨hx,k3,hlt⟩,insN,if_pos]
          have:hitB h.cho x.index = true:=by
            cases hb:hitB h.cho x.index
            · exact absurd ⟨hb,hlt⟩ hcond
            · rfl
          exact hh.1 this
        · rw [if_neg fun hh=>hlt hh.2.2]
  rw [if_neg k3] at hg ⊢
  have k4:x.kind = 4:=by omega
  by_cases hle:x.index ≤ h.base
  · rw [if_pos hle] at hg ⊢
    rw [if_neg (show ¬ (x.kind = 4 ∧ h1.base < x.index) by rw [i.base];omega)]
    refine ⟨i.pr,i.pn,i.base,i.image,?_,?_,hg⟩
    · rw [List.foldl_append,← i.acc,List.foldl_cons,List.foldl_nil,aS _ _ (by omega)]
    · rw [List.foldl_append,← i.cho,List.foldl_cons,List.foldl_nil,cS _ _ (by omega)]
  · rw [if_neg hle] at hg ⊢
    rw [if_pos (show x.kind = 4 ∧ h1.base < x.index by rw [i.base];omega)]
    refine ⟨i.pr,i.pn,rfl,rfl,?_,?_,hg⟩
    · simp only
      rw [drop_filter i.good.racc,i.acc,accF_filter (by omega),List.foldl_append,List.foldl_cons,List.foldl_nil,aS _ _ (by omega),List.filter_nil]
    · simp only
      rw [drop_filter i.good.rcho,i.cho,choF_filter (by omega),List.foldl_append,List.foldl_cons,List.foldl_nil,cS _ _ (by omega),List.filter_nil]
theorem inv_fold:∀ (l pre:List Rc) (h h1:Hd),Inv pre h h1 → (∀ x ∈ l,x.cmd.ok) → Inv (pre ++ l) (l.foldl stepH h) (l.foldl r1 h1)
  | [],pre,h,h1,i,_=>by simpa using i
  | x :: l,pre,h,h1,i,hc=>by
    have:=inv_fold l (pre ++ [x]) (stepH h x) (r1 h1 x) (inv_step i (hc x (by simp))) (fun y hy=>hc y (by simp [hy]))
    simpa using this
theorem hard_inv {l:List Rc} (hc:∀ x ∈ l,x.cmd.ok):Inv l (hardOf l) (l.foldl r1 Hd.zero):=by
  have:=inv_fold l [] _ _ inv_zero hc
  unfold hardOf
  simpa using this
theorem chk_of {l:List Ent} (h:∀ x ∈ l,oneI x = 0) (hr:RiseL l):∀ (n k:Nat),l.length - k = n → chkK l k = 0
  | 0,k,hn=>by rw [chkK,dif_neg (by omega)]
  | n + 1,k,hn=>by
    have hlt:k < l.length:=by omega
    rw [chkK,dif_pos hlt,if_neg (by rw [h _ (List.getElem_mem hlt)];simp)]
    have hnext:=chk_of h hr n (k + 1) (by omega)
    by_cases h0:0 < k
    · rw [dif_pos h0,if_neg,hnext]
      have:=hr (k - 1) k hlt (by omega)
      omega
    · rw [dif_neg h0,hnext]
abbrev balO (r n:Int):Obj:=.cells [.int .i64 r,.int .i64 n].toArray 23 (0,0)
abbrev twoB (r n r' n':Int):Obj:=.cells [.int .i64 r,.int .i64 n,.int .i64 r',.int .i64 n'].toArray 23 (0,0)
def maxR (r n r' n':Int):Int × Int:=if lessP r n r' n' then (r',n') else (r,n)
theorem max_s (G:GH) (sb:Nat) (r n r' n':Int):Con Tryz.prog 179 #[.slice (some ⟨sb,0,none⟩) 2 2] G [(sb,twoB r n r' n')] (Keeps (.agg #[.int .i64 (maxR r n r' n').1,.int .i64 (maxR r n r' n').2]) G [(sb,twoB r n r' n')]):=by
  have ql:=less_s G r n r' n'
  apply Con.keeps
  (refine v_enter Tryz.func179 rfl Tryz.ntmps179 rfl ?_;intro B _)
  repeat' (first|apply v_seq|apply v_region|apply v_nil|apply v_block|(apply v_pure;(case hop=>first|(apply p_move <;> rfl)|(apply p_lenSlice <;> rfl)|fail);(case hd=>rfl))|(apply v_alloc;(case hz=>rfl);(case hd=>rfl);intro b)|fail)
  rename_i ob
  rename Nat=>tb
  refine v_loop [8,7,6,3,2] (fun us G' μ'=>G' = G ∧ ∃ (k:Nat) (o1 o2:Int),μ' = [(tb,balO o1 o2),(ob,balO 0 0),(sb,twoB r n r' n')] ∧ k ≤ 2 ∧ us = [Value.int .i64 (k:Nat),.int .i64 2,.slice (some ⟨sb,0,none⟩) 2 2,.pointer (some ⟨tb,0,none⟩),.pointer (some ⟨ob,0,none⟩)] ∧ (k = 1 → o1 = r ∧ o2 = n) ∧ (k = 2 → o1 = (maxR r n r' n').1 ∧ o2 = (maxR r n r' n').2)) (fun us=>3 - (headI us).toNat) rfl ⟨rfl,0,0,0,rfl,by omega,rfl,by omega,by omega⟩ ?_
  rintro us G' μ' ⟨rfl,k,o1,o2,rfl,hk,rfl,h1,h2⟩
  obtain rfl|rfl|rfl:k = 0 ∨ k = 1 ∨ k = 2:=by omega
  · repeat' (first|apply v_seq|apply v_region|apply v_nil|apply v_skip|apply v_block|apply v_blk|(apply v_pass;(case hg=>rfl);(case hn=>rfl);(case hd=>rfl))|(apply v_pure;(case hop=>first|(apply p_move <;> rfl)|(apply p_eqs <;> rfl)|(apply p_lt <;> rfl)|(apply p_assign <;> rfl)|(apply p_pickT <;> rfl)|(apply p_add;(case hx=>rfl);(case hy=>rfl);(case h=>omega))|(apply p_indexAddr;(case hx=>rfl);(case hi=>rfl);(case h0=>omega);(case h=>omega))|fail);(case hd=>rfl))|(apply v_condT;(case hc=>rfl))|(apply v_cond;(case hc=>rfl);all_goals (intro h;(try simp only [reduceCtorEq,zzz] at h);first|(exfalso;omega)|skip))|(apply v_read;(case hop=>(apply r_loadNo;(case hx=>rfl);(case h=>(repeat (first|exact mhd _|apply mtl)));(case hd=>(repeat (first|with_reducible exact dt_nil|apply dt_here)));(case hn=>rfl)));(case hd=>rfl))|(apply v_alloc;(case hz=>rfl);(case hd=>rfl);intro b)|(apply v_store;(case hp=>rfl);(case hx=>rfl);(case hc=>rfl);(case hsz=>rfl);(case h1=>rfl);(case hb=>(repeat (first|exact mhd _|apply mtl)));(case hfit=>exact nle rfl);(case hov=>((repeat (first|with_reducible exact ov_nil|apply ov_cons));done));(case hu=>repeat (first|exact Upd.here _ _|apply Upd.there)))|fail)
    refine v_drop (ν:=[(tb,_),(ob,_),(sb,_)]) (by repeat (first|exact List.Sublist.refl _|apply List.Sublist.cons)) ?_
    refine v_again rfl ⟨rfl,1,r,n,rfl,by omega,rfl,fun _=>⟨rfl,rfl⟩,by omega⟩ (by simp [headI])
  · obtain ⟨rfl,rfl⟩:=h1 rfl
    unfold maxR at *
    by_cases hl:lessP o1 o2 r' n'
    · rw [decide_eq_true hl] at ql
      rw [if_pos hl] at *
      repeat' (first|apply v_seq|apply v_region|apply v_nil|apply v_skip|apply v_block|apply v_blk|(apply v_take;(case hg=>rfl))|(apply v_pure;(case hop=>first|(apply p_move <;> rfl)|(apply p_eq <;> rfl)|(apply p_lt <;> rfl)|(apply p_assign <;> rfl)|(apply p_pickF <;> rfl)|(apply p_add;(case hx=>rfl);(case hy=>rfl);(case h=>omega))|(apply p_indexAddr;(case hx=>rfl);(case hi=>rfl);(case h0=>omega);(case h=>omega))|fail);(case hd=>rfl))|(apply v_condT;(case hc=>rfl))|(apply v_cond;(case hc=>rfl);all_goals (intro h;(try simp only [reduceCtorEq,zzz] at h);first|(exfalso;omega)|skip))|(apply v_guardB;(case h1=>rfl);(case h2=>rfl);all_goals (intro h;(try simp only [reduceCtorEq,zzz] at h);first|(exfalso;omega)|skip))|(apply v_callJ (hs:=ql);(case ha=>rfl);(case hd=>rfl))|(apply v_read;(case hop=>(apply r_loadNo;(case hx=>rfl);(case h=>(repeat (first|exact mhd _|apply mtl)));(case hd=>(repeat (first|with_reducible exact dt_nil|apply dt_here)));(case hn=>rfl)));(case hd=>rfl))|(apply v_alloc;(case hz=>rfl);(case hd=>rfl);intro b)|(apply v_store;(case hp=>rfl);(case hx=>rfl);(case hc=>rfl);(case hsz=>rfl);(case h1=>rfl);(case hb=>(repeat (first|exact mhd _|apply mtl)));(case hfit=>exact nle rfl);(case hov=>((repeat (first|with_reducible exact ov_nil|apply ov_cons));done));(case hu=>repeat (first|exact Upd.here _ _|apply Upd.there)))|fail)
      refine v_drop (ν:=[(tb,_),(ob,_),(sb,_)]) (by repeat (first|exact List.Sublist.refl _|apply List.Sublist.cons)) ?_
      refine v_again rfl ⟨rfl,2,r',n',rfl,by omega,rfl,by omega,fun _=>⟨rfl,rfl⟩⟩ (by simp [headI])
    · rw [decide_eq_false hl] at ql
      rw [if_neg hl] at *
      repeat' (first|apply v_seq|apply v_region|apply v_nil|apply v_skip|apply v_block|apply v_blk|(apply v_take;(case hg=>rfl))|(apply v_pure;(case hop=>first|(apply p_move <;> rfl)|(apply p_eq <;> rfl)|(apply p_lt <;> rfl)|(apply p_assign <;> rfl)|(apply p_pickF <;> rfl)|(apply p_add;(case hx=>rfl);(case hy=>rfl);(case h=>omega))|(apply p_indexAddr;(case hx=>rfl);(case hi=>rfl);(case h0=>omega);(case h=>omega))|fail);(case hd=>rfl))|(apply v_condF;(case hc=>rfl))|(apply v_cond;(case hc=>rfl);all_goals (intro h;(try simp only [reduceCtorEq,zzz] at h);first|(exfalso;omega)|skip))|(apply v_guardB;(case h1=>rfl);(case h2=>rfl);all_goals (intro h;(try simp only [reduceCtorEq,zzz] at h);first|(exfalso;omega)|skip))|(apply v_callJ (hs:=ql);(case ha=>rfl);(case hd=>rfl))|(apply v_read;(case hop=>(apply r_loadNo;(case hx=>rfl);(case h=>(repeat (first|exact mhd _|apply mtl)));(case hd=>(repeat (first|with_reducible exact dt_nil|apply dt_here)));(case hn=>rfl)));(case hd=>rfl))|(apply v_alloc;(case hz=>rfl);(case hd=>rfl);intro b)|(apply v_store;(case hp=>rfl);(case hx=>rfl);(case hc=>rfl);(case hsz=>rfl);(case h1=>rfl);(case hb=>(repeat (exact mhd _)));(case hfit=>exact nle rfl);(case hov=>((repeat (first|with_reducible exact ov_nil|apply ov_cons));done));(case hu=>repeat (exact Upd.here _ _)))|fail)
      refine v_drop (ν:=[(tb,_),(ob,_),(sb,_)]) (by repeat (first|exact List.Sublist.refl _|apply List.Sublist.cons)) ?_
      refine v_again rfl ⟨rfl,2,o1,o2,rfl,by omega,rfl,by omega,fun _=>⟨rfl,rfl⟩⟩ (by simp [headI])
  · obtain ⟨rfl,rfl⟩:=h2 rfl
    repeat' (first|apply v_seq|apply v_region|apply v_nil|(apply v_exit;(case hp=>rfl))|(apply v_pure;(case hop=>(apply p_lt <;> rfl));(case hd=>rfl))|(apply v_cond;(case hc=>rfl);all_goals (intro h;(try simp only [reduceCtorEq,zzz] at h);first|(exfalso;omega)|skip))|(apply v_read;(case hop=>(apply r_loadNo;(case hx=>rfl);(case h=>(repeat (exact mhd _)));(case hd=>(repeat (first|with_reducible exact dt_nil|apply dt_here)));(case hn=>rfl)));(case hd=>rfl))|(apply v_store;(case hp=>rfl);(case hx=>rfl);(case hc=>rfl);(case hsz=>rfl);(case h1=>rfl);(case hb=>(repeat (first|exact mhd _|apply mtl)));(case hfit=>exact nle rfl);(case hov=>((repeat (first|with_reducible exact ov_nil|apply ov_cons));done));(case hu=>repeat (first|exact Upd.here _ _|apply Upd.there)))|fail)
    refine v_retM [(sb,_)] (outsM_cell (vs:=[.int .i64 (maxR r n r' n').1,.int .i64 (maxR r n r' n').2]) (e:=23) rfl rfl (by repeat (first|exact mhd _|apply mtl)) rfl) (by repeat (first|exact List.Sublist.refl _|apply List.Sublist.cons)) ?_
    exact ⟨rfl,rfl⟩
def hdL (pr pn base:Int) (iv av cv:Value):List Value:=[.int .i64 pr,.int .i64 pn,.int .i64 base,iv,av,cv]
theorem prom_max (h:Hd) (x:Rc):h.prom x = { h with pr:=(maxR h.pr h.pn x.round x.node).1,pn:=(maxR h.pr h.pn x.round x.node).2 }:=by
  unfold Hd.prom maxR
  split <;> rfl
theorem promise_s (G:GH) (hb:Nat) (pr pn base r n:Int) (iv av cv:Value):Con Tryz.prog 153 #[.pointer (some ⟨hb,0,none⟩),.agg #[.int .i64 r,.int .i64 n]] G [(hb,.cells (hdL pr pn base iv av cv).toArray 153 (0,0))]
    (fun _ G' μ'=>G' = G ∧ μ' = [(hb,.cells (hdL (maxR pr pn r n).1 (maxR pr pn r n).2 base iv av cv).toArray 153 (0,0))]):=by
  have qm:=fun sb=>max_s G sb pr pn r n
  (refine v_enter Tryz.func153 rfl Tryz.ntmps153 rfl ?_;intro B _)
  repeat' (first|apply v_seq|apply v_region|apply v_nil|(apply v_box;(case hx=>rfl);(case hz=>rfl);(case hd=>rfl);intro b)|fail)
  refine d_start [(b,balO r n)] (by kernel_rfl) (by kernel_rfl) (by kernel_rfl) (by intro e he;(simp at he;simp [he];done)) ?_
  all_goals (apply dtk 0;(case hi=>rfl);(case hop=>(apply prd;apply p_move <;> rfl));(case hq=>kernel_rfl))
  all_goals (apply dtk 1;(case hi=>rfl);(case hop=>(apply prd;apply p_move <;> rfl));(case hq=>kernel_rfl))
  all_goals (apply dtk 2;(case hi=>rfl);(case hop=>(apply prd;apply p_nilCheck <;> rfl));(case hq=>kernel_rfl))
  all_goals (apply dtk 3;(case hi=>rfl);(case hop=>(apply prd;apply p_fieldAddrB <;> rfl));(case hq=>kernel_rfl))
  all_goals (apply dtk 4;(case hi=>rfl);(case hop=>(apply prd;apply p_fieldAddrB <;> rfl));(case hq=>kernel_rfl))
  all_goals (apply dtk 6;(case hi=>rfl);(case hop=>first|(apply r_loadNo;(case hx=>rfl);(case h=>(repeat (exact mhd _)));(case hd=>(repeat (first|with_reducible exact dt_nil|apply dt_here)));(case hn=>rfl))|(apply r_load1;rfl;(apply Cell.own;(case h=>(repeat (fail)));rfl))|(apply r_loadN;rfl;(apply CellsAt.own;(case h=>(repeat (fail))));rfl));(case hq=>kernel_rfl))
  all_goals (apply d_keep 5 (hop:=ReadOp.move ?hop);(case hi=>rfl);(case hr=>kernel_rfl);(case hop=>(apply r_loadNo;(case hx=>rfl);(case h=>repeat (first|exact mhd _|apply mtl));(case hd=>repeat (first|with_reducible exact dt_nil|apply dt_here));(case hn=>rfl)));(case hd=>rfl))
  all_goals (apply d_buildSlice 7;(case hi=>rfl);(case hr=>kernel_rfl);(case hT=>infer_instance);(case hL=>infer_instance);(case hz=>rfl);(case hl=>rfl);(case hv=>(simp only [List.map_cons,List.map_nil];repeat (first|with_reducible exact evs_nil|(apply evs_cons;(case h1=>rfl)))));(case hp=>(apply pk_cons;(case hc=>rfl);(case hs=>rfl);(case h=>(apply pk_cons;(case hc=>rfl);(case hs=>rfl);(case h=>(with_reducible exact pk_nil));(case he=>((repeat (first|with_reducible exact ap_nil|apply ap_cons));done))));(case he=>((repeat (first|with_reducible exact ap_nil|apply ap_cons));done))));(case hb=>rfl);(case hd=>rfl);(case hν=>intro e he;(simp at he;simp [he];done));intro sb)
  all_goals (apply d_callK 8 (hs:=qm _);(case hi=>rfl);(case hr=>kernel_rfl);(case ha=>rfl);(case hp=>exact (Pick.perm (by repeat (exact Pick.here _))));(case hd=>rfl))
  all_goals (apply dtk 9;(case hi=>rfl);(case hop=>(apply prd;apply p_nilCheck <;> rfl));(case hq=>kernel_rfl))
  all_goals (apply dtk 10;(case hi=>rfl);(case hop=>(apply prd;apply p_fieldAddrB <;> rfl));(case hq=>kernel_rfl))
  all_goals (apply dtk 11;(case hi=>rfl);(case hop=>(apply prd;apply p_fieldAddrB <;> rfl));(case hq=>kernel_rfl))
  all_goals (apply d_store 12;(case hi=>rfl);(case hr=>kernel_rfl);(case hL=>infer_instance);(case hp=>rfl);(case hx=>rfl);(case hc=>rfl);(case hsz=>rfl);(case h1=>rfl);(case hb=>(repeat (first|exact mhd _|apply mtl)));(case hfit=>exact nle rfl);(case hov=>((repeat (first|with_reducible exact ov_nil|apply ov_cons));done));(case hu=>repeat (first|exact Upd.here _ _|apply Upd.there));(case hν'=>intro e he;(simp at he;simp [he];done)))
  all_goals (apply d_done;(case hr=>kernel_rfl))
  repeat' (fail)
  refine v_end [(hb,_)] (outsA0 rfl) (by repeat (first|exact List.Sublist.refl _|apply List.Sublist.cons)) ?_
  exact ⟨rfl,rfl⟩
def HdV (G:GH) (h:Hd) (L:List Value):Prop := ∃ iv av cv,L = hdL h.pr h.pn h.base iv av cv ∧ Sl G 1 (IntR .u8) iv h.image ∧ Es G av h.acc ∧ Es G cv h.cho
theorem esle {G G':GH} {v:Value} {l:List Ent} (h:Es G v l) (hle:GH.le G G'):Es G' v l:=Sl.le h hle fun _ _ h=>h
theorem HdV.le {G G':GH} {h:Hd} {L:List Value} (hh:HdV G h L) (hle:GH.le G G'):HdV G' h L:=let ⟨iv,av,cv,h1,h2,h3,h4⟩:=hh;⟨iv,av,cv,h1,h2.mono hle,esle h3 hle,esle h4 hle⟩
abbrev hdO (L:List Value):Obj:=.cells L.toArray 153 (0,0)
noncomputable def accH (h:Hd) (x:Rc):Hd:=if (h.prom x).base < x.index then { h.prom x with acc:=withL (h.prom x).acc (entOf x) } else h.prom x
theorem accept_s {G:GH} {H:Hd} {L:List Value} {x:Rc} {xv:Value} {n:Nat} (hb:Nat) (hh:HdV G H L) (g:Good n H) (hn:n ≤ 200) (hx:RcV G x xv) (hok:∀ e ∈ withL H.acc (entOf x),e.ok) :
    Con Tryz.prog 154 #[.pointer (some ⟨hb,0,none⟩),xv] G [(hb,hdO L)] (fun _ G' μ'=>∃ L',μ' = [(hb,hdO L')] ∧ HdV G' (accH H x) L'):=by
  obtain ⟨im,av,cv,rfl,hi,ha,hc⟩:=hh
  obtain ⟨A1,c1,rfl,-⟩:=id ha.open
  obtain ⟨iv,rfl,hxi⟩:=hx
  have qp:=promise_s G hb H.pr H.pn H.base x.round x.node im (.slice A1 H.acc.length c1) cv
  have qw:=with_s (entOf x) ha g.racc (by have:=g.nacc;omega)
  have ep:=prom_max H x
  unfold accH
  rw [ep]
  generalize hm:maxR H.pr H.pn x.round x.node = m at *
  (refine v_enter Tryz.func154 rfl Tryz.ntmps154 rfl ?_;intro B _)
  repeat' (first|apply v_seq|apply v_region|apply v_nil|(apply v_pure;(case hop=>first|(apply p_move <;> rfl)|(apply p_fieldAddrB <;> rfl)|fail);(case hd=>rfl))|(apply v_box (zs:=recL x.kind x.round x.node x.index x.cmd iv);(case hx=>rfl);(case hz=>rfl);(case hd=>rfl);intro xb)|(apply v_read;(case hop=>(apply r_loadNo;(case hx=>rfl);(case h=>(repeat (exact mhd _)));(case hd=>(repeat (first|with_reducible exact dt_nil|apply dt_here)));(case hn=>rfl)));(case hd=>rfl))|fail)
  refine v_call (μ1:=[(hb,_)]) (μ2:=_) rfl qp (PickA.perm (by repeat (first|exact PickA.last|apply PickA.cons))) rfl ?_
  rintro _ _ _ - ⟨rfl,rfl⟩
  repeat' (first|apply v_seq|apply v_nil)
  refine d_start _ (by kernel_rfl) (by kernel_rfl) (by kernel_rfl) (fun _ he=>he) ?_
  all_goals (apply dtk 0;(case hi=>rfl);(case hop=>(apply prd;apply p_fieldAddrB <;> rfl));(case hq=>kernel_rfl))
  all_goals (apply dtk 1;(case hi=>rfl);(case hop=>first|(apply r_loadNo;(case hx=>rfl);(case h=>(repeat (fail)));(case hd=>(repeat (fail)));(case hn=>rfl))|(apply r_load1;rfl;(apply Cell.own;(case h=>(repeat (first|exact mhd _|apply mtl)));rfl))|(apply r_loadN;rfl;(apply CellsAt.own;(case h=>(repeat (fail))));rfl));(case hq=>kernel_rfl))
  all_goals (apply dtk 2;(case hi=>rfl);(case hop=>(apply prd;apply p_move <;> rfl));(case hq=>kernel_rfl))
  all_goals (apply dtk 3;(case hi=>rfl);(case hop=>(apply prd;apply p_nilCheck <;> rfl));(case hq=>kernel_rfl))
  all_goals (apply dtk 4;(case hi=>rfl);(case hop=>(apply prd;apply p_fieldAddrB <;> rfl));(case hq=>kernel_rfl))
  all_goals (apply dtk 5;(case hi=>rfl);(case hop=>(apply prd;apply p_fieldAddrB <;> rfl));(case hq=>kernel_rfl))
  all_goals (apply dtk 6;(case hi=>rfl);(case hop=>first|(apply r_loadNo;(case hx=>rfl);(case h=>(repeat (fail)));(case hd=>(repeat (fail)));(case hn=>rfl))|(apply r_load1;rfl;(apply Cell.own;(case h=>(repeat (exact mhd _)));rfl))|(apply r_loadN;rfl;(apply CellsAt.own;(case h=>(repeat (fail))));rfl));(case hq=>kernel_rfl))
  all_goals (apply dtk 7;(case hi=>rfl);(case hop=>(apply prd;apply p_gt <;> rfl));(case hq=>kernel_rfl))
  all_goals (apply d_done;(case hr=>kernel_rfl))
  repeat' (first|apply v_skip|(apply v_cond;(case hc=>rfl);all_goals (intro h;(try simp only [reduceCtorEq,zzz] at h)))|fail)
  · have hlt:=h
    refine d_start [(xb,.cells (recL x.kind x.round x.node x.index x.cmd iv).toArray 42 (0,0))] (by kernel_rfl) (by kernel_rfl) (by kernel_rfl) (by intro e he;(simp at he;simp [he];done)) ?_
    all_goals (apply dtk 0;(case hi=>rfl);(case hop=>(apply prd;apply p_move <;> rfl));(case hq=>kernel_rfl))
    all_goals (apply dtk 1;(case hi=>rfl);(case hop=>(apply prd;apply p_move <;> rfl));(case hq=>kernel_rfl))
    all_goals (apply dtk 2;(case hi=>rfl);(case hop=>(apply prd;apply p_nilCheck <;> rfl));(case hq=>kernel_rfl))
    all_goals (apply dtk 3;(case hi=>rfl);(case hop=>(apply prd;apply p_fieldAddrB <;> rfl));(case hq=>kernel_rfl))
    all_goals (apply dtk 4;(case hi=>rfl);(case hop=>(apply prd;apply p_fieldAddrB <;> rfl));(case hq=>kernel_rfl))
    all_goals (apply dtk 6;(case hi=>rfl);(case hop=>(apply prd;apply p_fieldAddrB <;> rfl));(case hq=>kernel_rfl))
    all_goals (apply dtk 7;(case hi=>rfl);(case hop=>first|(apply r_loadNo;(case hx=>rfl);(case h=>(repeat (fail)));(case hd=>(repeat (fail)));(case hn=>rfl))|(apply r_load1;rfl;(apply Cell.own;(case h=>(repeat (exact mhd _)));rfl))|(apply r_loadN;rfl;(apply CellsAt.own;(case h=>(repeat (fail))));rfl));(case hq=>kernel_rfl))
    all_goals (apply dtk 8;(case hi=>rfl);(case hop=>(apply prd;apply p_fieldAddrB <;> rfl));(case hq=>kernel_rfl))
    all_goals (apply dtk 9;(case hi=>rfl);(case hop=>first|(apply r_loadNo;(case hx=>rfl);(case h=>(repeat (exact mhd _)));(case hd=>(repeat (first|with_reducible exact dt_nil|apply dt_here)));(case hn=>rfl))|(apply r_load1;rfl;(apply Cell.own;(case h=>(repeat (fail)));rfl))|(apply r_loadN;rfl;(apply CellsAt.own;(case h=>(repeat (fail))));rfl));(case hq=>kernel_rfl))
    all_goals (apply dtk 10;(case hi=>rfl);(case hop=>(apply prd;apply p_fieldAddrB <;> rfl));(case hq=>kernel_rfl))
    all_goals (apply dtk 11;(case hi=>rfl);(case hop=>first|(apply r_loadNo;(case hx=>rfl);(case h=>(repeat (exact mhd _)));(case hd=>(repeat (first|with_reducible exact dt_nil|apply dt_here)));(case hn=>rfl))|(apply r_load1;rfl;(apply Cell.own;(case h=>(repeat (fail)));rfl))|(apply r_loadN;rfl;(apply CellsAt.own;(case h=>(repeat (fail))));rfl));(case hq=>kernel_rfl))
    all_goals (apply dtk 12;(case hi=>rfl);(case hop=>(apply prd;apply p_build;(case hz=>rfl);(case hv=>(simp only [List.map_cons,List.map_nil];repeat (first|with_reducible exact evs_nil|(apply evs_cons;(case h1=>rfl)))));(case hb=>(apply bldL;repeat (first|exact bld_nil|(apply bld_cons;(case hpf=>rfl);(case hc=>rfl);(case hs=>rfl);(case hl=>rfl);(case ho=>((repeat (first|with_reducible exact ov_nil|apply ov_cons));done))))))));(case hq=>kernel_rfl))
    all_goals (apply d_keep 5 (hop:=ReadOp.move ?hop);(case hi=>rfl);(case hr=>kernel_rfl);(case hop=>(apply r_load1;rfl;(apply Cell.own;(case h=>repeat (exact mhd _));rfl)));(case hd=>rfl))
    all_goals ((apply d_call 13 (hs:=qw);(case hi=>rfl);(case hr=>kernel_rfl);  (case ha=>rfl);(case hp=>exact List.Perm.refl _);(case hd=>rfl);(case hν'=>intro e he;simp at he;simp [he]);rintro r1 G1 ν1 - ⟨rfl,hg1⟩;obtain ⟨A2,c2,rfl,-,-⟩:=hg1.shape))
    all_goals (apply dtk 14;(case hi=>rfl);(case hop=>(apply prd;apply p_nilCheck <;> rfl));(case hq=>kernel_rfl))
    all_goals (apply dtk 15;(case hi=>rfl);(case hop=>(apply prd;apply p_fieldAddrB <;> rfl));(case hq=>kernel_rfl))
    all_goals (apply dtk 16;(case hi=>rfl);(case hop=>(apply prd;apply p_fieldAddrB <;> rfl));(case hq=>kernel_rfl))
    all_goals (apply d_store 17;(case hi=>rfl);(case hr=>kernel_rfl);(case hL=>infer_instance);(case hp=>rfl);(case hx=>rfl);(case hc=>rfl);(case hsz=>rfl);(case h1=>rfl);(case hb=>(repeat (first|exact mhd _|apply List.mem_append_right)));(case hfit=>exact nle rfl);(case hov=>((repeat (first|with_reducible exact ov_nil|apply ov_cons));done));(case hu=>repeat (first|exact Upd.here _ _|apply Upd.app));(case hν'=>intro e he;(simp at he;simp [he];done)))
    all_goals (apply d_done;(case hr=>kernel_rfl))
    repeat' (fail)
    refine v_frz ν1 (by repeat (exact PickA.here _)) ?_
    intro G2 hle2 hG2
    refine v_end [(hb,_)] (outsA0 rfl) (by repeat (first|exact List.nil_sublist _|apply List.Sublist.cons_cons)) ?_
    rw [if_pos hlt]
    exact ⟨_,rfl,_,_,_,rfl,hi.mono hle2,es_of_grow hg1 hG2 hok,esle hc hle2⟩
  · have hlt:=h
    refine v_end [(hb,_)] (outsA0 rfl) (by repeat (first|exact List.nil_sublist _|apply List.Sublist.cons_cons)) ?_
    rw [if_neg hlt]
    exact ⟨_,rfl,_,_,_,rfl,hi,ha,hc⟩
end Go.Proofs.YtpemabgfmnhhnaaGreatDoor
/-
  VX, SCOPES: a scope that no goto leaves, and a label.
-/
set_option linter.unusedVariables false
set_option linter.unusedSimpArgs false
namespace Go.Vx
open Go
attribute [local semireducible] Vc
section
variable {P:Program} {fn:Func} {n:Nat} {B:Base} {Φ:Value → GH → OH → Prop} {k:List It} {σ:Env} {G:GH} {μ:OH}
theorem v_scope {Ds:List Nat} [hB:FnB P fn B Ds] {c:Code} (h:Vc P fn n B Φ (.code c :: k) σ G μ):Vc P fn n B Φ (.code (.scope c) :: k) σ G μ:=by
  intro w hw a ha
  have hr:RF B.rk.r = Fence.wide:=by rw [hB.h];rfl
  have h1:c.wpIn (RF B.rk.r) 0 P (Kont P B.rk n (Fin B Φ) k) a w:=h w hw a ha
  show (Code.scope c).wpIn (RF B.rk.r) 0 P (Kont P B.rk n (Fin B Φ) k) a w
  rw [hr] at h1 ⊢
  refine wpIn_wide.2 (wp_scope_straight (wp_mono (wpIn_wide.1 h1) fun e a' w' hq=>?_))
  cases e with
  | goto l=>exact absurd hq (kont_goto k a' w')
  | normal=>exact hq
  | exit id=>exact hq
  | ret=>exact hq
  | panic ch=>exact hq
  | outgrown=>exact hq
theorem v_label {l:Nat} (h:Vc P fn n B Φ k σ G μ):Vc P fn n B Φ (.code (.label l) :: k) σ G μ:=fun w hw a ha=>wpIn_label (h w hw a ha)
end
end Go.Vx
/-
  VX, A REGION THAT DRAWS ITS ORDER, TWO OPERATIONS READY: either may come first.
-/
set_option linter.unusedVariables false
set_option linter.unusedSimpArgs false
namespace Go.Vx
open Go
attribute [local semireducible] Vc DVc Con PureOp ReadOp MoveOp
def DX (P:Program) (fn:Func) (n:Nat) (B:Base) (Φ:Value → GH → OH → Prop) (all:Array Oper) (G0:GH) (ν:OH) (m:Nat) (listed:Array Bool) (k:List It) (σ:Env) (G:GH) (μ:OH) (i:Nat):Prop :=
  Region.noSelect all = true → GH.le G0 G → (∀ e ∈ ν,e ∈ μ) → ∀ w,Step B.G B.μ B.w G μ w → ∀ a,Holds B.rk.ds n σ a → wpOp P all (Kont P B.rk n (Fin B Φ) k) i (fun a' w'=>Sees G0 ν w' ∧ wpAnyH P .any all (Kont P B.rk n (Fin B Φ) k) (Sees G0 ν) m (listed.setIfInBounds i true) a' w') a w
section
variable {P:Program} {fn:Func} {n:Nat} {B:Base} {Φ:Value → GH → OH → Prop} {k:List It} {σ:Env} {G G0:GH} {μ:OH} {all:Array Oper} {m:Nat} {listed:Array Bool} {d:Nat} {op:Op} {ty:TypeId} {pos:String} {af:Array Edge} {v:Value}
theorem d_fork {ν:OH} (i j:Nat) (hr:Region.ready .any all listed = [i,j]) (h1:DX P fn n B Φ all G0 ν m listed k σ G μ i) (h2:DX P fn n B Φ all G0 ν m listed k σ G μ j):DVc P fn n B Φ all G0 ν (m + 1) listed k σ G μ:=by
  intro hsel hle hν w hw a ha
  refine wpAnyH_all hr (by simp) fun x hx=>?_
  simp only [List.mem_cons,List.mem_singleton,List.not_mem_nil,or_false] at hx
  obtain rfl|rfl:=hx
  · exact h1 hsel hle hν w hw a ha
  · exact h2 hsel hle hν w hw a ha
theorem x_exec {ν:OH} (i:Nat) {Ψ:Value → GH → OH → Prop} (hi:all[i]? = some ⟨some d,op,ty,pos,af,none⟩) (hop:MoveOp P op ty σ G μ Ψ) (hd:Nat.blt d n = true)
    (h:∀ v G' μ',Ψ v G' μ' → (∀ e ∈ ν,e ∈ μ') ∧ DVc P fn n B Φ all G0 ν m (listed.setIfInBounds i true) k ((d,v) :: σ) G' μ'):DX P fn n B Φ all G0 ν m listed k σ G μ i:=by
  intro hsel hle hν w hw a ha
  have hd':d < n:=by simpa [Nat.blt_eq] using hd
  unfold wpOp
  simp only [hi,Region.wanted,if_true]
  refine .inl (hop _ pos af none a.eval ha.agree w hw.mem a _ _ fun v w' G' μ' hs hΨ=>?_)
  obtain ⟨hν',hd⟩:=h v G' μ' hΨ
  have hle':=GH.le_trans hle hs.le
  exact ⟨hs.mem.seesOf hle' hν',hd hsel hle' hν' w' (hw.trans hs) _ (ha.put hd' v)⟩
end
end Go.Vx
/-
  hard (layer 19), the fifth part: what was chosen, an image, any record.
-/
set_option linter.unusedSimpArgs false
set_option linter.unusedVariables false
namespace Go.Proofs.YtpemabgfmnhhnaaGreatDoor
open Go.Vx Go.ChangeShapes Go.WideShapes Go.ChangeAt Go.RowKit
noncomputable def choH (h:Hd) (x:Rc):Hd:=if hitB h.cho x.index = false ∧ h.base < x.index then { h with cho:=withL h.cho ⟨x.index,0,0,x.cmd⟩ } else h
theorem choose_s {G:GH} {H:Hd} {L:List Value} {x:Rc} {xv:Value} {n:Nat} (hb:Nat) (hh:HdV G H L) (g:Good n H) (hn:n ≤ 200) (hx:RcV G x xv) (hok:∀ e ∈ withL H.cho ⟨x.index,0,0,x.cmd⟩,e.ok) :
    Con Tryz.prog 155 #[.pointer (some ⟨hb,0,none⟩),xv] G [(hb,hdO L)] (fun _ G' μ'=>∃ L',μ' = [(hb,hdO L')] ∧ HdV G' (choH H x) L'):=by
  obtain ⟨im,av,cv,rfl,hi,ha,hc⟩:=hh
  obtain ⟨A1,c1,rfl,-⟩:=id hc.open
  obtain ⟨iv,rfl,hxi⟩:=hx
  have qf:=find_s x.index hc g.rcho
  have qw:=with_s ⟨x.index,0,0,x.cmd⟩ hc g.rcho (by have:=g.ncho;omega)
  generalize findE H.cho x.index = fe at *
  unfold choH
  cases hbit:hitB H.cho x.index
  all_goals
    rw [hbit] at qf
  · (refine v_enter Tryz.func155 rfl Tryz.ntmps155 rfl ?_;intro B _)
    repeat' (first|apply v_seq|apply v_region|apply v_nil|(apply v_box (zs:=recL x.kind x.round x.node x.index x.cmd iv);(case hx=>rfl);(case hz=>rfl);(case hd=>rfl);intro xb)|fail)
    refine d_start _ (by kernel_rfl) (by kernel_rfl) (by kernel_rfl) (fun _ he=>he) ?_
    all_goals (apply dtk 0;(case hi=>rfl);(case hop=>(apply prd;apply p_move <;> rfl));(case hq=>kernel_rfl))
    all_goals (apply dtk 1;(case hi=>rfl);(case hop=>(apply prd;apply p_nilCheck <;> rfl));(case hq=>kernel_rfl))
    all_goals (apply dtk 2;(case hi=>rfl);(case hop=>(apply prd;apply p_fieldAddrB <;> rfl));(case hq=>kernel_rfl))
    all_goals (apply dtk 3;(case hi=>rfl);(case hop=>(apply prd;apply p_fieldAddrB <;> rfl));(case hq=>kernel_rfl))
    all_goals (apply dtk 4;(case hi=>rfl);(case hop=>first|(apply r_loadNo;(case hx=>rfl);(case h=>(repeat (fail)));(case hd=>(repeat (fail)));(case hn=>rfl))|(apply r_load1;rfl;(apply Cell.own;(case h=>(repeat (first|exact mhd _|apply mtl)));rfl))|(apply r_loadN;rfl;(apply CellsAt.own;(case h=>(repeat (fail))));rfl));(case hq=>kernel_rfl))
    all_goals (apply dtk 5;(case hi=>rfl);(case hop=>(apply prd;apply p_fieldAddrB <;> rfl));(case hq=>kernel_rfl))
    all_goals (apply dtk 6;(case hi=>rfl);(case hop=>first|(apply r_loadNo;(case hx=>rfl);(case h=>(repeat (fail)));(case hd=>(repeat (fail)));(case hn=>rfl))|(apply r_load1;rfl;(apply Cell.own;(case h=>(repeat (exact mhd _)));rfl))|(apply r_loadN;rfl;(apply CellsAt.own;(case h=>(repeat (fail))));rfl));(case hq=>kernel_rfl))
    focus
      refine d_fork 7 11 (by kernel_rfl) ?_ ?_
      rotate_right
      focus
        (apply x_exec 11;(case hi=>rfl);(case hop=>exact m_alloc rfl);(case hd=>rfl);rintro _ _ _ ⟨eb,rfl,rfl,rfl⟩;refine ⟨(by intro e he;(simp at he;simp [he];done)),?_⟩)
        all_goals (apply d_callJ 7 (hs:=qf);(case hi=>rfl);(case hr=>kernel_rfl);(case ha=>rfl);(case hd=>rfl))
        all_goals (apply dtk 8;(case hi=>rfl);(case hop=>(apply prd;apply p_move <;> rfl));(case hq=>kernel_rfl))
        all_goals (apply dtk 9;(case hi=>rfl);(case hop=>(apply prd;apply p_extract0 <;> rfl));(case hq=>kernel_rfl))
        all_goals (apply dtk 10;(case hi=>rfl);(case hop=>(apply prd;apply p_extract1 <;> rfl));(case hq=>kernel_rfl))
        all_goals (apply d_store 12;(case hi=>rfl);(case hr=>kernel_rfl);(case hL=>infer_instance);(case hp=>rfl);(case hx=>rfl);(case hc=>rfl);(case hsz=>rfl);(case h1=>rfl);(case hb=>(repeat (exact mhd _)));(case hfit=>exact nle rfl);(case hov=>((repeat (first|with_reducible exact ov_nil|apply ov_cons));done));(case hu=>repeat (exact Upd.here _ _));(case hν'=>intro e he;(simp at he;simp [he];done)))
        all_goals (apply dtk 13;(case hi=>rfl);(case hop=>(apply prd;apply p_assign <;> rfl));(case hq=>kernel_rfl))
        all_goals (apply d_done;(case hr=>kernel_rfl))
      rotate_right
      focus
        (apply x_exec 7;(case hi=>rfl);(case hop=>apply m_callFJ (hs:=qf) <;> rfl);(case hd=>rfl);rintro _ _ _ ⟨rfl,rfl,rfl⟩;refine ⟨(by intro e he;exact he),?_⟩)
        all_goals (apply dtk 8;(case hi=>rfl);(case hop=>(apply prd;apply p_move <;> rfl));(case hq=>kernel_rfl))
        all_goals (apply dtk 9;(case hi=>rfl);(case hop=>(apply prd;apply p_extract0 <;> rfl));(case hq=>kernel_rfl))
        all_goals (apply dtk 10;(case hi=>rfl);(case hop=>(apply prd;apply p_extract1 <;> rfl));(case hq=>kernel_rfl))
        all_goals (apply d_exec 11;(case hi=>rfl);(case hr=>kernel_rfl);(case hop=>exact m_alloc rfl);(case hd=>rfl);rintro _ _ _ ⟨eb,rfl,rfl,rfl⟩;refine ⟨(by intro e he;(simp at he;simp [he];done)),?_⟩)
        all_goals (apply d_store 12;(case hi=>rfl);(case hr=>kernel_rfl);(case hL=>infer_instance);(case hp=>rfl);(case hx=>rfl);(case hc=>rfl);(case hsz=>rfl);(case h1=>rfl);(case hb=>(repeat (exact mhd _)));(case hfit=>exact nle rfl);(case hov=>((repeat (first|with_reducible exact ov_nil|apply ov_cons));done));(case hu=>repeat (exact Upd.here _ _));(case hν'=>intro e he;(simp at he;simp [he];done)))
        all_goals (apply dtk 13;(case hi=>rfl);(case hop=>(apply prd;apply p_assign <;> rfl));(case hq=>kernel_rfl))
        all_goals (apply d_done;(case hr=>kernel_rfl))
    all_goals
      repeat' (first|apply v_seq)
    all_goals
      refine d_start _ (by kernel_rfl) (by kernel_rfl) (by kernel_rfl) (fun _ he=>he) ?_
      all_goals (apply dtk 0;(case hi=>rfl);(case hop=>(apply prd;apply p_move <;> rfl));(case hq=>kernel_rfl))
      all_goals (apply dtk 1;(case hi=>rfl);(case hop=>(apply prd;apply p_not <;> rfl));(case hq=>kernel_rfl))
      all_goals (apply dtk 2;(case hi=>rfl);(case hop=>(apply prd;apply p_move <;> rfl));(case hq=>kernel_rfl))
      all_goals (try (apply d_guardB 3;(case hi=>rfl);(case hgd=>rfl);(case h1=>rfl);(case h2=>rfl);all_goals (intro h;(try simp only [reduceCtorEq,zzz] at h))))
      all_goals (apply dtg 3;(case hi=>rfl);(case hg=>rfl);(case hop=>(apply prd;apply p_fieldAddrB <;> rfl));(case hq=>kernel_rfl))
      all_goals (try (apply d_guardB 4;(case hi=>rfl);(case hgd=>rfl);(case h1=>rfl);(case h2=>rfl);all_goals (intro h;(try simp only [reduceCtorEq,zzz] at h))))
      all_goals (apply dtg 4;(case hi=>rfl);(case hg=>rfl);(case hop=>first|(apply r_loadNo;(case hx=>rfl);(case h=>(repeat (fail)));(case hd=>(repeat (fail)));(case hn=>rfl))|(apply r_load1;rfl;(apply Cell.own;(case h=>(repeat (first|exact mhd _|apply mtl)));rfl))|(apply r_loadN;rfl;(apply CellsAt.own;(case h=>(repeat (fail))));rfl));(case hq=>kernel_rfl))
      all_goals (try (apply d_guardB 5;(case hi=>rfl);(case hgd=>rfl);(case h1=>rfl);(case h2=>rfl);all_goals (intro h;(try simp only [reduceCtorEq,zzz] at h))))
      all_goals (apply dtg 5;(case hi=>rfl);(case hg=>rfl);(case hop=>(apply prd;apply p_move <;> rfl));(case hq=>kernel_rfl))
      all_goals (try (apply d_guardB 6;(case hi=>rfl);(case hgd=>rfl);(case h1=>rfl);(case h2=>rfl);all_goals (intro h;(try simp only [reduceCtorEq,zzz] at h))))
      all_goals (apply dtg 6;(case hi=>rfl);(case hg=>rfl);(case hop=>(apply prd;apply p_nilCheck <;> rfl));(case hq=>kernel_rfl))
      all_goals (try (apply d_guardB 7;(case hi=>rfl);(case hgd=>rfl);(case h1=>rfl);(case h2=>rfl);all_goals (intro h;(try simp only [reduceCtorEq,zzz] at h))))
      all_goals (apply dtg 7;(case hi=>rfl);(case hg=>rfl);(case hop=>(apply prd;apply p_fieldAddrB <;> rfl));(case hq=>kernel_rfl))
      all_goals (try (apply d_guardB 8;(case hi=>rfl);(case hgd=>rfl);(case h1=>rfl);(case h2=>rfl);all_goals (intro h;(try simp only [reduceCtorEq,zzz] at h))))
      all_goals (apply dtg 8;(case hi=>rfl);(case hg=>rfl);(case hop=>(apply prd;apply p_fieldAddrB <;> rfl));(case hq=>kernel_rfl))
      all_goals (try (apply d_guardB 9;(case hi=>rfl);(case hgd=>rfl);(case h1=>rfl);(case h2=>rfl);all_goals (intro h;(try simp only [reduceCtorEq,zzz] at h))))
      all_goals (apply dtg 9;(case hi=>rfl);(case hg=>rfl);(case hop=>first|(apply r_loadNo;(case hx=>rfl);(case h=>(repeat (fail)));(case hd=>(repeat (fail)));(case hn=>rfl))|(apply r_load1;rfl;(apply Cell.own;(case h=>(repeat (first|exact mhd _|apply mtl)));rfl))|(apply r_loadN;rfl;(apply CellsAt.own;(case h=>(repeat (fail))));rfl));(case hq=>kernel_rfl))
      all_goals (try (apply d_guardB 10;(case hi=>rfl);(case hgd=>rfl);(case h1=>rfl);(case h2=>rfl);all_goals (intro h;(try simp only [reduceCtorEq,zzz] at h))))
      all_goals (apply dtg 10;(case hi=>rfl);(case hg=>rfl);(case hop=>(apply prd;apply p_gt <;> rfl));(case hq=>kernel_rfl))
      all_goals (apply dtk 11;(case hi=>rfl);(case hop=>(apply prd;apply p_pickT <;> rfl));(case hq=>kernel_rfl))
      all_goals (apply d_done;(case hr=>kernel_rfl))
    all_goals
      repeat' (first|apply v_skip|(apply v_cond;(case hc=>rfl);all_goals (intro h;(try simp only [reduceCtorEq,zzz] at h)))|fail)
    · have hlt:=h
      refine d_start [(xb,.cells (recL x.kind x.round x.node x.index x.cmd iv).toArray 42 (0,0))] (by kernel_rfl) (by kernel_rfl) (by kernel_rfl) (by intro e he;(simp at he;simp [he];done)) ?_
      all_goals (apply dtk 0;(case hi=>rfl);(case hop=>(apply prd;apply p_move <;> rfl));(case hq=>kernel_rfl))
      all_goals (apply dtk 1;(case hi=>rfl);(case hop=>(apply prd;apply p_move <;> rfl));(case hq=>kernel_rfl))
      all_goals (apply dtk 2;(case hi=>rfl);(case hop=>(apply prd;apply p_nilCheck <;> rfl));(case hq=>kernel_rfl))
      all_goals (apply dtk 3;(case hi=>rfl);(case hop=>(apply prd;apply p_fieldAddrB <;> rfl));(case hq=>kernel_rfl))
      all_goals (apply dtk 4;(case hi=>rfl);(case hop=>(apply prd;apply p_fieldAddrB <;> rfl));(case hq=>kernel_rfl))
      all_goals (apply dtk 6;(case hi=>rfl);(case hop=>(apply prd;apply p_fieldAddrB <;> rfl));(case hq=>kernel_rfl))
      all_goals (apply dtk 7;(case hi=>rfl);(case hop=>first|(apply r_loadNo;(case hx=>rfl);(case h=>(repeat (fail)));(case hd=>(repeat (fail)));(case hn=>rfl))|(apply r_load1;rfl;(apply Cell.own;(case h=>(repeat (exact mhd _)));rfl))|(apply r_loadN;rfl;(apply CellsAt.own;(case h=>(repeat (fail))));rfl));(case hq=>kernel_rfl))
      all_goals (apply dtk 8;(case hi=>rfl);(case hop=>(apply prd;apply p_fieldAddrB <;> rfl));(case hq=>kernel_rfl))
      all_goals (apply dtk 9;(case hi=>rfl);(case hop=>first|(apply r_loadNo;(case hx=>rfl);(case h=>(repeat (exact mhd _)));(case hd=>(repeat (first|with_reducible exact dt_nil|apply dt_here)));(case hn=>rfl))|(apply r_load1;rfl;(apply Cell.own;(case h=>(repeat (fail)));rfl))|(apply r_loadN;rfl;(apply CellsAt.own;(case h=>(repeat (fail))));rfl));(case hq=>kernel_rfl))
      all_goals (apply dtk 10;(case hi=>rfl);(case hop=>(apply prd;apply p_build;(case hz=>rfl);(case hv=>(simp only [List.map_cons,List.map_nil];repeat (first|with_reducible exact evs_nil|(apply evs_cons;(case h1=>rfl)))));(case hb=>(apply bldL;repeat (first|exact bld_nil|(apply bld_cons;(case hpf=>rfl);(case hc=>rfl);(case hs=>rfl);(case hl=>rfl);(case ho=>((repeat (first|with_reducible exact ov_nil|apply ov_cons));done))))))));(case hq=>kernel_rfl))
      all_goals (apply d_keep 5 (hop:=ReadOp.move ?hop);(case hi=>rfl);(case hr=>kernel_rfl);(case hop=>(apply r_load1;rfl;(apply Cell.own;(case h=>repeat (first|exact mhd _|apply mtl));rfl)));(case hd=>rfl))
      all_goals ((apply d_call 11 (hs:=qw);(case hi=>rfl);(case hr=>kernel_rfl);  (case ha=>rfl);(case hp=>exact List.Perm.refl _);(case hd=>rfl);(case hν'=>intro e he;simp at he;simp [he]);rintro r1 G1 ν1 - ⟨rfl,hg1⟩;obtain ⟨A2,c2,rfl,-,-⟩:=hg1.shape))
      all_goals (apply dtk 12;(case hi=>rfl);(case hop=>(apply prd;apply p_nilCheck <;> rfl));(case hq=>kernel_rfl))
      all_goals (apply dtk 13;(case hi=>rfl);(case hop=>(apply prd;apply p_fieldAddrB <;> rfl));(case hq=>kernel_rfl))
      all_goals (apply dtk 14;(case hi=>rfl);(case hop=>(apply prd;apply p_fieldAddrB <;> rfl));(case hq=>kernel_rfl))
      all_goals (apply d_store 15;(case hi=>rfl);(case hr=>kernel_rfl);(case hL=>infer_instance);(case hp=>rfl);(case hx=>rfl);(case hc=>rfl);(case hsz=>rfl);(case h1=>rfl);(case hb=>(repeat (first|exact mhd _|apply mtl|apply List.mem_append_right)));(case hfit=>exact nle rfl);(case hov=>((repeat (first|with_reducible exact ov_nil|apply ov_cons));done));(case hu=>repeat (first|exact Upd.here _ _|apply Upd.there|apply Upd.app));(case hν'=>intro e he;(simp at he;simp [he];done)))
      all_goals (apply d_done;(case hr=>kernel_rfl))
      repeat' (fail)
      refine v_frz ν1 (by repeat (exact PickA.here _)) ?_
      intro G2 hle2 hG2
      refine v_end [(hb,_)] (outsA0 rfl) (by repeat (first|exact List.Sublist.refl _|apply List.Sublist.cons)) ?_
      rw [if_pos ⟨rfl,hlt⟩]
      exact ⟨_,rfl,_,_,_,rfl,hi.mono hle2,esle ha hle2,es_of_grow hg1 hG2 hok⟩
    · have hlt:=h
      refine v_end [(hb,_)] (outsA0 rfl) (by repeat (first|exact List.Sublist.refl _|apply List.Sublist.cons)) ?_
      rw [if_neg fun hh=>hlt hh.2]
      exact ⟨_,rfl,_,_,_,rfl,hi,ha,hc⟩
    · have hlt:=h
      refine d_start [(xb,.cells (recL x.kind x.round x.node x.index x.cmd iv).toArray 42 (0,0))] (by kernel_rfl) (by kernel_rfl) (by kernel_rfl) (by intro e he;(simp at he;simp [he];done)) ?_
      all_goals (apply dtk 0;(case hi=>rfl);(case hop=>(apply prd;apply p_move <;> rfl));(case hq=>kernel_rfl))
      all_goals (apply dtk 1;(case hi=>rfl);(case hop=>(apply prd;apply p_move <;> rfl));(case hq=>kernel_rfl))
      all_goals (apply dtk 2;(case hi=>rfl);(case hop=>(apply prd;apply p_nilCheck <;> rfl));(case hq=>kernel_rfl))
      all_goals (apply dtk 3;(case hi=>rfl);(case hop=>(apply prd;apply p_fieldAddrB <;> rfl));(case hq=>kernel_rfl))
      all_goals (apply dtk 4;(case hi=>rfl);(case hop=>(apply prd;apply p_fieldAddrB <;> rfl));(case hq=>kernel_rfl))
      all_goals (apply dtk 6;(case hi=>rfl);(case hop=>(apply prd;apply p_fieldAddrB <;> rfl));(case hq=>kernel_rfl))
      all_goals (apply dtk 7;(case hi=>rfl);(case hop=>first|(apply r_loadNo;(case hx=>rfl);(case h=>(repeat (fail)));(case hd=>(repeat (fail)));(case hn=>rfl))|(apply r_load1;rfl;(apply Cell.own;(case h=>(repeat (exact mhd _)));rfl))|(apply r_loadN;rfl;(apply CellsAt.own;(case h=>(repeat (fail))));rfl));(case hq=>kernel_rfl))
      all_goals (apply dtk 8;(case hi=>rfl);(case hop=>(apply prd;apply p_fieldAddrB <;> rfl));(case hq=>kernel_rfl))
      all_goals (apply dtk 9;(case hi=>rfl);(case hop=>first|(apply r_loadNo;(case hx=>rfl);(case h=>(repeat (exact mhd _)));(case hd=>(repeat (first|with_reducible exact dt_nil|apply dt_here)));(case hn=>rfl))|(apply r_load1;rfl;(apply Cell.own;(case h=>(repeat (fail)));rfl))|(apply r_loadN;rfl;(apply CellsAt.own;(case h=>(repeat (fail))));rfl));(case hq=>kernel_rfl))
      all_goals (apply dtk 10;(case hi=>rfl);(case hop=>(apply prd;apply p_build;(case hz=>rfl);(case hv=>(simp only [List.map_cons,List.map_nil];repeat (first|with_reducible exact evs_nil|(apply evs_cons;(case h1=>rfl)))));(case hb=>(apply bldL;repeat (first|exact bld_nil|(apply bld_cons;(case hpf=>rfl);(case hc=>rfl);(case hs=>rfl);(case hl=>rfl);(case ho=>((repeat (first|with_reducible exact ov_nil|apply ov_cons));done))))))));(case hq=>kernel_rfl))
      all_goals (apply d_keep 5 (hop:=ReadOp.move ?hop);(case hi=>rfl);(case hr=>kernel_rfl);(case hop=>(apply r_load1;rfl;(apply Cell.own;(case h=>repeat (first|exact mhd _|apply mtl));rfl)));(case hd=>rfl))
      all_goals ((apply d_call 11 (hs:=qw);(case hi=>rfl);(case hr=>kernel_rfl);  (case ha=>rfl);(case hp=>exact List.Perm.refl _);(case hd=>rfl);(case hν'=>intro e he;simp at he;simp [he]);rintro r1 G1 ν1 - ⟨rfl,hg1⟩;obtain ⟨A2,c2,rfl,-,-⟩:=hg1.shape))
      all_goals (apply dtk 12;(case hi=>rfl);(case hop=>(apply prd;apply p_nilCheck <;> rfl));(case hq=>kernel_rfl))
      all_goals (apply dtk 13;(case hi=>rfl);(case hop=>(apply prd;apply p_fieldAddrB <;> rfl));(case hq=>kernel_rfl))
      all_goals (apply dtk 14;(case hi=>rfl);(case hop=>(apply prd;apply p_fieldAddrB <;> rfl));(case hq=>kernel_rfl))
      all_goals (apply d_store 15;(case hi=>rfl);(case hr=>kernel_rfl);(case hL=>infer_instance);(case hp=>rfl);(case hx=>rfl);(case hc=>rfl);(case hsz=>rfl);(case h1=>rfl);(case hb=>(repeat (first|exact mhd _|apply mtl|apply List.mem_append_right)));(case hfit=>exact nle rfl);(case hov=>((repeat (first|with_reducible exact ov_nil|apply ov_cons));done));(case hu=>repeat (first|exact Upd.here _ _|apply Upd.there|apply Upd.app));(case hν'=>intro e he;(simp at he;simp [he];done)))
      all_goals (apply d_done;(case hr=>kernel_rfl))
      repeat' (fail)
      refine v_frz ν1 (by repeat (exact PickA.here _)) ?_
      intro G2 hle2 hG2
      refine v_end [(hb,_)] (outsA0 rfl) (by repeat (first|exact List.Sublist.refl _|apply List.Sublist.cons)) ?_
      rw [if_pos ⟨rfl,hlt⟩]
      exact ⟨_,rfl,_,_,_,rfl,hi.mono hle2,esle ha hle2,es_of_grow hg1 hG2 hok⟩
    · have hlt:=h
      refine v_end [(hb,_)] (outsA0 rfl) (by repeat (first|exact List.Sublist.refl _|apply List.Sublist.cons)) ?_
      rw [if_neg fun hh=>hlt hh.2]
      exact ⟨_,rfl,_,_,_,rfl,hi,ha,hc⟩
  · (refine v_enter Tryz.func155 rfl Tryz.ntmps155 rfl ?_;intro B _)
    repeat' (first|apply v_seq|apply v_region|apply v_nil|(apply v_box (zs:=recL x.kind x.round x.node x.index x.cmd iv);(case hx=>rfl);(case hz=>rfl);(case hd=>rfl);intro xb)|fail)
    refine d_start _ (by kernel_rfl) (by kernel_rfl) (by kernel_rfl) (fun _ he=>he) ?_
    all_goals (apply dtk 0;(case hi=>rfl);(case hop=>(apply prd;apply p_move <;> rfl));(case hq=>kernel_rfl))
    all_goals (apply dtk 1;(case hi=>rfl);(case hop=>(apply prd;apply p_nilCheck <;> rfl));(case hq=>kernel_rfl))
    all_goals (apply dtk 2;(case hi=>rfl);(case hop=>(apply prd;apply p_fieldAddrB <;> rfl));(case hq=>kernel_rfl))
    all_goals (apply dtk 3;(case hi=>rfl);(case hop=>(apply prd;apply p_fieldAddrB <;> rfl));(case hq=>kernel_rfl))
    all_goals (apply dtk 4;(case hi=>rfl);(case hop=>first|(apply r_loadNo;(case hx=>rfl);(case h=>(repeat (fail)));(case hd=>(repeat (fail)));(case hn=>rfl))|(apply r_load1;rfl;(apply Cell.own;(case h=>(repeat (first|exact mhd _|apply mtl)));rfl))|(apply r_loadN;rfl;(apply CellsAt.own;(case h=>(repeat (fail))));rfl));(case hq=>kernel_rfl))
    all_goals (apply dtk 5;(case hi=>rfl);(case hop=>(apply prd;apply p_fieldAddrB <;> rfl));(case hq=>kernel_rfl))
    all_goals (apply dtk 6;(case hi=>rfl);(case hop=>first|(apply r_loadNo;(case hx=>rfl);(case h=>(repeat (fail)));(case hd=>(repeat (fail)));(case hn=>rfl))|(apply r_load1;rfl;(apply Cell.own;(case h=>(repeat (exact mhd _)));rfl))|(apply r_loadN;rfl;(apply CellsAt.own;(case h=>(repeat (fail))));rfl));(case hq=>kernel_rfl))
    focus
      refine d_fork 7 11 (by kernel_rfl) ?_ ?_
      rotate_right
      focus
        (apply x_exec 11;(case hi=>rfl);(case hop=>exact m_alloc rfl);(case hd=>rfl);rintro _ _ _ ⟨eb,rfl,rfl,rfl⟩;refine ⟨(by intro e he;(simp at he;simp [he];done)),?_⟩)
        all_goals (apply d_callJ 7 (hs:=qf);(case hi=>rfl);(case hr=>kernel_rfl);(case ha=>rfl);(case hd=>rfl))
        all_goals (apply dtk 8;(case hi=>rfl);(case hop=>(apply prd;apply p_move <;> rfl));(case hq=>kernel_rfl))
        all_goals (apply dtk 9;(case hi=>rfl);(case hop=>(apply prd;apply p_extract0 <;> rfl));(case hq=>kernel_rfl))
        all_goals (apply dtk 10;(case hi=>rfl);(case hop=>(apply prd;apply p_extract1 <;> rfl));(case hq=>kernel_rfl))
        all_goals (apply d_store 12;(case hi=>rfl);(case hr=>kernel_rfl);(case hL=>infer_instance);(case hp=>rfl);(case hx=>rfl);(case hc=>rfl);(case hsz=>rfl);(case h1=>rfl);(case hb=>(repeat (exact mhd _)));(case hfit=>exact nle rfl);(case hov=>((repeat (first|with_reducible exact ov_nil|apply ov_cons));done));(case hu=>repeat (exact Upd.here _ _));(case hν'=>intro e he;(simp at he;simp [he];done)))
        all_goals (apply dtk 13;(case hi=>rfl);(case hop=>(apply prd;apply p_assign <;> rfl));(case hq=>kernel_rfl))
        all_goals (apply d_done;(case hr=>kernel_rfl))
      rotate_right
      focus
        (apply x_exec 7;(case hi=>rfl);(case hop=>apply m_callFJ (hs:=qf) <;> rfl);(case hd=>rfl);rintro _ _ _ ⟨rfl,rfl,rfl⟩;refine ⟨(by intro e he;exact he),?_⟩)
        all_goals (apply dtk 8;(case hi=>rfl);(case hop=>(apply prd;apply p_move <;> rfl));(case hq=>kernel_rfl))
        all_goals (apply dtk 9;(case hi=>rfl);(case hop=>(apply prd;apply p_extract0 <;> rfl));(case hq=>kernel_rfl))
        all_goals (apply dtk 10;(case hi=>rfl);(case hop=>(apply prd;apply p_extract1 <;> rfl));(case hq=>kernel_rfl))
        all_goals (apply d_exec 11;(case hi=>rfl);(case hr=>kernel_rfl);(case hop=>exact m_alloc rfl);(case hd=>rfl);rintro _ _ _ ⟨eb,rfl,rfl,rfl⟩;refine ⟨(by intro e he;(simp at he;simp [he];done)),?_⟩)
        all_goals (apply d_store 12;(case hi=>rfl);(case hr=>kernel_rfl);(case hL=>infer_instance);(case hp=>rfl);(case hx=>rfl);(case hc=>rfl);(case hsz=>rfl);(case h1=>rfl);(case hb=>(repeat (exact mhd _)));(case hfit=>exact nle rfl);(case hov=>((repeat (first|with_reducible exact ov_nil|apply ov_cons));done));(case hu=>repeat (exact Upd.here _ _));(case hν'=>intro e he;(simp at he;simp [he];done)))
        all_goals (apply dtk 13;(case hi=>rfl);(case hop=>(apply prd;apply p_assign <;> rfl));(case hq=>kernel_rfl))
        all_goals (apply d_done;(case hr=>kernel_rfl))
    all_goals
      repeat' (first|apply v_seq)
    all_goals
      refine d_start _ (by kernel_rfl) (by kernel_rfl) (by kernel_rfl) (fun _ he=>he) ?_
      all_goals (apply dtk 0;(case hi=>rfl);(case hop=>(apply prd;apply p_move <;> rfl));(case hq=>kernel_rfl))
      all_goals (apply dtk 1;(case hi=>rfl);(case hop=>(apply prd;apply p_not <;> rfl));(case hq=>kernel_rfl))
      all_goals (apply dtk 2;(case hi=>rfl);(case hop=>(apply prd;apply p_move <;> rfl));(case hq=>kernel_rfl))
      all_goals (try (apply d_guardB 3;(case hi=>rfl);(case hgd=>rfl);(case h1=>rfl);(case h2=>rfl);all_goals (intro h;(try simp only [reduceCtorEq,zzz] at h))))
      all_goals (apply dpa 3;(case hi=>rfl);(case hg=>rfl);(case hn=>rfl);(case hq=>kernel_rfl))
      all_goals (try (apply d_guardB 4;(case hi=>rfl);(case hgd=>rfl);(case h1=>rfl);(case h2=>rfl);all_goals (intro h;(try simp only [reduceCtorEq,zzz] at h))))
      all_goals (apply dpa 4;(case hi=>rfl);(case hg=>rfl);(case hn=>rfl);(case hq=>kernel_rfl))
      all_goals (try (apply d_guardB 5;(case hi=>rfl);(case hgd=>rfl);(case h1=>rfl);(case h2=>rfl);all_goals (intro h;(try simp only [reduceCtorEq,zzz] at h))))
      all_goals (apply dpa 5;(case hi=>rfl);(case hg=>rfl);(case hn=>rfl);(case hq=>kernel_rfl))
      all_goals (try (apply d_guardB 6;(case hi=>rfl);(case hgd=>rfl);(case h1=>rfl);(case h2=>rfl);all_goals (intro h;(try simp only [reduceCtorEq,zzz] at h))))
      all_goals (apply dpa 6;(case hi=>rfl);(case hg=>rfl);(case hn=>rfl);(case hq=>kernel_rfl))
      all_goals (try (apply d_guardB 7;(case hi=>rfl);(case hgd=>rfl);(case h1=>rfl);(case h2=>rfl);all_goals (intro h;(try simp only [reduceCtorEq,zzz] at h))))
      all_goals (apply dpa 7;(case hi=>rfl);(case hg=>rfl);(case hn=>rfl);(case hq=>kernel_rfl))
      all_goals (try (apply d_guardB 8;(case hi=>rfl);(case hgd=>rfl);(case h1=>rfl);(case h2=>rfl);all_goals (intro h;(try simp only [reduceCtorEq,zzz] at h))))
      all_goals (apply dpa 8;(case hi=>rfl);(case hg=>rfl);(case hn=>rfl);(case hq=>kernel_rfl))
      all_goals (try (apply d_guardB 9;(case hi=>rfl);(case hgd=>rfl);(case h1=>rfl);(case h2=>rfl);all_goals (intro h;(try simp only [reduceCtorEq,zzz] at h))))
      all_goals (apply dpa 9;(case hi=>rfl);(case hg=>rfl);(case hn=>rfl);(case hq=>kernel_rfl))
      all_goals (try (apply d_guardB 10;(case hi=>rfl);(case hgd=>rfl);(case h1=>rfl);(case h2=>rfl);all_goals (intro h;(try simp only [reduceCtorEq,zzz] at h))))
      all_goals (apply dpa 10;(case hi=>rfl);(case hg=>rfl);(case hn=>rfl);(case hq=>kernel_rfl))
      all_goals (apply dtk 11;(case hi=>rfl);(case hop=>(apply prd;apply p_pickF <;> rfl));(case hq=>kernel_rfl))
      all_goals (apply d_done;(case hr=>kernel_rfl))
    all_goals
      repeat' (first|apply v_skip|(apply v_condF;(case hc=>rfl))|fail)
    all_goals
      (refine v_end [(hb,_)] (outsA0 rfl) (by repeat (first|exact List.Sublist.refl _|apply List.Sublist.cons)) ?_
       rw [if_neg (by simp)]
       exact ⟨_,rfl,_,_,_,rfl,hi,ha,hc⟩)
end Go.Proofs.YtpemabgfmnhhnaaGreatDoor
/-
  hard (layer 19), the sixth part: an image; any record.
-/
set_option linter.unusedSimpArgs false
set_option linter.unusedVariables false
namespace Go.Proofs.YtpemabgfmnhhnaaGreatDoor
open Go.Vx Go.ChangeShapes Go.WideShapes Go.ChangeAt Go.RowKit
noncomputable def takeH (h:Hd) (x:Rc):Hd:=if x.index ≤ h.base then h else { h with base:=x.index,image:=x.image,acc:=h.acc.drop (placeN h.acc (x.index + 1)),cho:=h.cho.drop (placeN h.cho (x.index + 1)) }
theorem take_s {G:GH} {H:Hd} {L:List Value} {x:Rc} {xv:Value} {n:Nat} (hb:Nat) (hh:HdV G H L) (g:Good n H) (hn:n ≤ 200) (hx:RcV G x xv) (him:x.image.length ≤ 40000) (hxi:0 ≤ x.index ∧ x.index ≤ 4294967296) :
    Con Tryz.prog 156 #[.pointer (some ⟨hb,0,none⟩),xv] G [(hb,hdO L)] (fun _ G' μ'=>∃ L',μ' = [(hb,hdO L')] ∧ HdV G' (takeH H x) L'):=by
  obtain ⟨im,av,cv,rfl,hi,ha,hc⟩:=hh
  obtain ⟨A0,c0,rfl,-⟩:=id hi.openInt
  obtain ⟨A1,c1,rfl,-⟩:=id ha.open
  obtain ⟨A2,c2,rfl,-⟩:=id hc.open
  obtain ⟨iv,rfl,hxv⟩:=hx
  obtain ⟨A3,c3,rfl,-⟩:=id hxv.openInt
  have qc:=bclone_s hxv (by omega)
  have hwf:=hxv.openInt
  obtain ⟨_,_,-,-,-,-,-,hwx⟩:=hwf
  have hna:=g.nacc
  have hnc:=g.ncho
  unfold takeH
  generalize hivl:Value.slice A3 x.image.length c3 = iv at *
  (refine v_enter Tryz.func156 rfl Tryz.ntmps156 rfl ?_;intro B _)
  repeat' (first|apply v_seq|apply v_region|apply v_nil|(apply v_box (zs:=recL x.kind x.round x.node x.index x.cmd iv);(case hx=>rfl);(case hz=>rfl);(case hd=>rfl);intro xb)|fail)
  refine d_start _ (by kernel_rfl) (by kernel_rfl) (by kernel_rfl) (fun _ he=>he) ?_
  all_goals (apply dtk 0;(case hi=>rfl);(case hop=>(apply prd;apply p_fieldAddrB <;> rfl));(case hq=>kernel_rfl))
  all_goals (apply dtk 1;(case hi=>rfl);(case hop=>first|(apply r_loadNo;(case hx=>rfl);(case h=>(repeat (fail)));(case hd=>(repeat (fail)));(case hn=>rfl))|(apply r_load1;rfl;(apply Cell.own;(case h=>(repeat (exact mhd _)));rfl))|(apply r_loadN;rfl;(apply CellsAt.own;(case h=>(repeat (fail))));rfl));(case hq=>kernel_rfl))
  all_goals (apply dtk 2;(case hi=>rfl);(case hop=>(apply prd;apply p_move <;> rfl));(case hq=>kernel_rfl))
  all_goals (apply dtk 3;(case hi=>rfl);(case hop=>(apply prd;apply p_nilCheck <;> rfl));(case hq=>kernel_rfl))
  all_goals (apply dtk 4;(case hi=>rfl);(case hop=>(apply prd;apply p_fieldAddrB <;> rfl));(case hq=>kernel_rfl))
  all_goals (apply dtk 5;(case hi=>rfl);(case hop=>(apply prd;apply p_fieldAddrB <;> rfl));(case hq=>kernel_rfl))
  all_goals (apply dtk 6;(case hi=>rfl);(case hop=>first|(apply r_loadNo;(case hx=>rfl);(case h=>(repeat (fail)));(case hd=>(repeat (fail)));(case hn=>rfl))|(apply r_load1;rfl;(apply Cell.own;(case h=>(repeat (first|exact mhd _|apply mtl)));rfl))|(apply r_loadN;rfl;(apply CellsAt.own;(case h=>(repeat (fail))));rfl));(case hq=>kernel_rfl))
  all_goals (apply dtk 7;(case hi=>rfl);(case hop=>(apply prd;apply p_le <;> rfl));(case hq=>kernel_rfl))
  all_goals (apply d_done;(case hr=>kernel_rfl))
  repeat' (first|apply v_seq|apply v_skip|(apply v_cond;(case hc=>rfl);all_goals (intro h;(try simp only [reduceCtorEq,zzz] at h)))|fail)
  · have hle:=h
    refine v_ret [(hb,_)] (outsA0 rfl) (by repeat (first|exact List.Sublist.refl _|apply List.Sublist.cons)) ?_
    rw [if_pos hle]
    exact ⟨_,rfl,_,_,_,rfl,hi,ha,hc⟩
  · have hgt:=h
    rw [if_neg hgt]
    subst hivl
    refine d_start [(xb,.cells (recL x.kind x.round x.node x.index x.cmd (.slice A3 x.image.length c3)).toArray 42 (0,0))] (by kernel_rfl) (by kernel_rfl) (by kernel_rfl) (by intro e he;(simp at he;simp [he];done)) ?_
    all_goals (apply dtk 0;(case hi=>rfl);(case hop=>(apply prd;apply p_move <;> rfl));(case hq=>kernel_rfl))
    all_goals (apply dtk 1;(case hi=>rfl);(case hop=>(apply prd;apply p_move <;> rfl));(case hq=>kernel_rfl))
    all_goals (apply dtk 2;(case hi=>rfl);(case hop=>(apply prd;apply p_fieldAddrB <;> rfl));(case hq=>kernel_rfl))
    all_goals (apply dtk 3;(case hi=>rfl);(case hop=>first|(apply r_loadNo;(case hx=>rfl);(case h=>(repeat (fail)));(case hd=>(repeat (fail)));(case hn=>rfl))|(apply r_load1;rfl;(apply Cell.own;(case h=>(repeat (exact mhd _)));rfl))|(apply r_loadN;rfl;(apply CellsAt.own;(case h=>(repeat (fail))));rfl));(case hq=>kernel_rfl))
    all_goals (apply dtk 4;(case hi=>rfl);(case hop=>(apply prd;apply p_fieldAddrB <;> rfl));(case hq=>kernel_rfl))
    all_goals (apply dtk 5;(case hi=>rfl);(case hop=>first|(apply r_loadNo;(case hx=>rfl);(case h=>(repeat (fail)));(case hd=>(repeat (fail)));(case hn=>rfl))|(apply r_load1;rfl;(apply Cell.own;(case h=>(repeat (exact mhd _)));rfl))|(apply r_loadN;rfl;(apply CellsAt.own;(case h=>(repeat (fail))));rfl));(case hq=>kernel_rfl))
    all_goals ((apply d_call 6 (hs:=qc);(case hi=>rfl);(case hr=>kernel_rfl);  (case ha=>rfl);(case hp=>exact List.Perm.refl _);(case hd=>rfl);(case hν'=>intro e he;simp at he;simp [he]);rintro r1 G1 ν1 - ⟨rfl,hg1⟩;obtain ⟨A4,c4,rfl,-,-⟩:=hg1.shape))
    all_goals (apply dtk 7;(case hi=>rfl);(case hop=>(apply prd;apply p_nilCheck <;> rfl));(case hq=>kernel_rfl))
    all_goals (apply dtk 8;(case hi=>rfl);(case hop=>(apply prd;apply p_fieldAddrB <;> rfl));(case hq=>kernel_rfl))
    all_goals (apply dtk 9;(case hi=>rfl);(case hop=>(apply prd;apply p_fieldAddrB <;> rfl));(case hq=>kernel_rfl))
    all_goals (apply d_store 10;(case hi=>rfl);(case hr=>kernel_rfl);(case hL=>infer_instance);(case hp=>rfl);(case hx=>rfl);(case hc=>rfl);(case hsz=>rfl);(case h1=>rfl);(case hb=>(repeat (first|exact mhd _|apply mtl|apply List.mem_append_right)));(case hfit=>exact nle rfl);(case hov=>((repeat (first|with_reducible exact ov_nil|apply ov_cons));done));(case hu=>repeat (first|exact Upd.here _ _|apply Upd.there|apply Upd.app));(case hν'=>intro e he;(simp at he;simp [he];done)))
    all_goals (apply dtk 11;(case hi=>rfl);(case hop=>(apply prd;apply p_nilCheck <;> rfl));(case hq=>kernel_rfl))
    all_goals (apply dtk 12;(case hi=>rfl);(case hop=>(apply prd;apply p_fieldAddrB <;> rfl));(case hq=>kernel_rfl))
    all_goals (apply dtk 13;(case hi=>rfl);(case hop=>(apply prd;apply p_fieldAddrB <;> rfl));(case hq=>kernel_rfl))
    all_goals (apply d_store 14;(case hi=>rfl);(case hr=>kernel_rfl);(case hL=>infer_instance);(case hp=>rfl);(case hx=>rfl);(case hc=>rfl);(case hsz=>rfl);(case h1=>rfl);(case hb=>(repeat (first|exact mhd _|apply mtl|apply List.mem_append_right)));(case hfit=>exact nle rfl);(case hov=>((repeat (first|with_reducible exact ov_nil|apply ov_cons));done));(case hu=>repeat (first|exact Upd.here _ _|apply Upd.there|apply Upd.app));(case hν'=>intro e he;(simp at he;simp [he];done)))
    all_goals (apply d_done;(case hr=>kernel_rfl))
    repeat' (first|apply v_seq)
    refine v_frz ν1 (by repeat (exact PickA.here _)) ?_
    intro G2 hle2 hG2
    have hi2:=hg1.ints hG2 hwx
    have ha2:=esle ha hle2
    have qa:=from_s (x.index + 1) ha2 g.racc (by omega)
    refine d_start [(xb,.cells (recL x.kind x.round x.node x.index x.cmd (.slice A3 x.image.length c3)).toArray 42 (0,0))] (by kernel_rfl) (by kernel_rfl) (by kernel_rfl) (by intro e he;(simp at he;simp [he];done)) ?_
    all_goals (apply dtk 0;(case hi=>rfl);(case hop=>(apply prd;apply p_move <;> rfl));(case hq=>kernel_rfl))
    all_goals (apply dtk 1;(case hi=>rfl);(case hop=>(apply prd;apply p_move <;> rfl));(case hq=>kernel_rfl))
    all_goals (apply dtk 2;(case hi=>rfl);(case hop=>(apply prd;apply p_nilCheck <;> rfl));(case hq=>kernel_rfl))
    all_goals (apply dtk 3;(case hi=>rfl);(case hop=>(apply prd;apply p_fieldAddrB <;> rfl));(case hq=>kernel_rfl))
    all_goals (apply dtk 4;(case hi=>rfl);(case hop=>(apply prd;apply p_fieldAddrB <;> rfl));(case hq=>kernel_rfl))
    all_goals (apply dtk 6;(case hi=>rfl);(case hop=>(apply prd;apply p_fieldAddrB <;> rfl));(case hq=>kernel_rfl))
    all_goals (apply dtk 7;(case hi=>rfl);(case hop=>first|(apply r_loadNo;(case hx=>rfl);(case h=>(repeat (fail)));(case hd=>(repeat (fail)));(case hn=>rfl))|(apply r_load1;rfl;(apply Cell.own;(case h=>(repeat (exact mhd _)));rfl))|(apply r_loadN;rfl;(apply CellsAt.own;(case h=>(repeat (fail))));rfl));(case hq=>kernel_rfl))
    all_goals (apply dtk 8;(case hi=>rfl);(case hop=>(apply prd;apply p_add;(case hx=>rfl);(case hy=>rfl);(case h=>omega)));(case hq=>kernel_rfl))
    all_goals (apply d_keep 5 (hop:=ReadOp.move ?hop);(case hi=>rfl);(case hr=>kernel_rfl);(case hop=>(apply r_load1;rfl;(apply Cell.own;(case h=>repeat (first|exact mhd _|apply mtl));rfl)));(case hd=>rfl))
    all_goals ((apply d_call 9 (hs:=qa);(case hi=>rfl);(case hr=>kernel_rfl);  (case ha=>rfl);(case hp=>exact List.Perm.refl _);(case hd=>rfl);(case hν'=>intro e he;simp at he;simp [he]);rintro r1 G1 ν5 - ⟨rfl,hg5⟩;obtain ⟨A5,c5,rfl,-,-⟩:=hg5.shape))
    all_goals (apply dtk 10;(case hi=>rfl);(case hop=>(apply prd;apply p_nilCheck <;> rfl));(case hq=>kernel_rfl))
    all_goals (apply dtk 11;(case hi=>rfl);(case hop=>(apply prd;apply p_fieldAddrB <;> rfl));(case hq=>kernel_rfl))
    all_goals (apply dtk 12;(case hi=>rfl);(case hop=>(apply prd;apply p_fieldAddrB <;> rfl));(case hq=>kernel_rfl))
    all_goals (apply d_store 13;(case hi=>rfl);(case hr=>kernel_rfl);(case hL=>infer_instance);(case hp=>rfl);(case hx=>rfl);(case hc=>rfl);(case hsz=>rfl);(case h1=>rfl);(case hb=>(repeat (first|exact mhd _|apply mtl|apply List.mem_append_right)));(case hfit=>exact nle rfl);(case hov=>((repeat (first|with_reducible exact ov_nil|apply ov_cons));done));(case hu=>repeat (first|exact Upd.here _ _|apply Upd.there|apply Upd.app));(case hν'=>intro e he;(simp at he;simp [he];done)))
    all_goals (apply d_done;(case hr=>kernel_rfl))
    repeat' (fail)
    refine v_frz ν5 (by repeat (exact PickA.here _)) ?_
    intro G4 hle4 hG4
    have hc4:=esle (esle hc hle2) hle4
    have hi4:=hi2.mono hle4
    have ha4:=es_of_grow hg5 hG4 (fun y hy=>by
      have:=(g.acc y (List.mem_of_mem_drop hy))
      exact this.2.1)
    have qc:=from_s (x.index + 1) hc4 g.rcho (by omega)
    refine d_start [(xb,.cells (recL x.kind x.round x.node x.index x.cmd (.slice A3 x.image.length c3)).toArray 42 (0,0))] (by kernel_rfl) (by kernel_rfl) (by kernel_rfl) (by intro e he;(simp at he;simp [he];done)) ?_
    all_goals (apply dtk 0;(case hi=>rfl);(case hop=>(apply prd;apply p_move <;> rfl));(case hq=>kernel_rfl))
    all_goals (apply dtk 1;(case hi=>rfl);(case hop=>(apply prd;apply p_move <;> rfl));(case hq=>kernel_rfl))
    all_goals (apply dtk 2;(case hi=>rfl);(case hop=>(apply prd;apply p_nilCheck <;> rfl));(case hq=>kernel_rfl))
    all_goals (apply dtk 3;(case hi=>rfl);(case hop=>(apply prd;apply p_fieldAddrB <;> rfl));(case hq=>kernel_rfl))
    all_goals (apply dtk 4;(case hi=>rfl);(case hop=>(apply prd;apply p_fieldAddrB <;> rfl));(case hq=>kernel_rfl))
    all_goals (apply dtk 6;(case hi=>rfl);(case hop=>(apply prd;apply p_fieldAddrB <;> rfl));(case hq=>kernel_rfl))
    all_goals (apply dtk 7;(case hi=>rfl);(case hop=>first|(apply r_loadNo;(case hx=>rfl);(case h=>(repeat (fail)));(case hd=>(repeat (fail)));(case hn=>rfl))|(apply r_load1;rfl;(apply Cell.own;(case h=>(repeat (exact mhd _)));rfl))|(apply r_loadN;rfl;(apply CellsAt.own;(case h=>(repeat (fail))));rfl));(case hq=>kernel_rfl))
    all_goals (apply dtk 8;(case hi=>rfl);(case hop=>(apply prd;apply p_add;(case hx=>rfl);(case hy=>rfl);(case h=>omega)));(case hq=>kernel_rfl))
    all_goals (apply d_keep 5 (hop:=ReadOp.move ?hop);(case hi=>rfl);(case hr=>kernel_rfl);(case hop=>(apply r_load1;rfl;(apply Cell.own;(case h=>repeat (first|exact mhd _|apply mtl));rfl)));(case hd=>rfl))
    all_goals ((apply d_call 9 (hs:=qc);(case hi=>rfl);(case hr=>kernel_rfl);  (case ha=>rfl);(case hp=>exact List.Perm.refl _);(case hd=>rfl);(case hν'=>intro e he;simp at he;simp [he]);rintro r1 G1 ν6 - ⟨rfl,hg6⟩;obtain ⟨A6,c6,rfl,-,-⟩:=hg6.shape))
    all_goals (apply dtk 10;(case hi=>rfl);(case hop=>(apply prd;apply p_nilCheck <;> rfl));(case hq=>kernel_rfl))
    all_goals (apply dtk 11;(case hi=>rfl);(case hop=>(apply prd;apply p_fieldAddrB <;> rfl));(case hq=>kernel_rfl))
    all_goals (apply dtk 12;(case hi=>rfl);(case hop=>(apply prd;apply p_fieldAddrB <;> rfl));(case hq=>kernel_rfl))
    all_goals (apply d_store 13;(case hi=>rfl);(case hr=>kernel_rfl);(case hL=>infer_instance);(case hp=>rfl);(case hx=>rfl);(case hc=>rfl);(case hsz=>rfl);(case h1=>rfl);(case hb=>(repeat (first|exact mhd _|apply mtl|apply List.mem_append_right)));(case hfit=>exact nle rfl);(case hov=>((repeat (first|with_reducible exact ov_nil|apply ov_cons));done));(case hu=>repeat (first|exact Upd.here _ _|apply Upd.there|apply Upd.app));(case hν'=>intro e he;(simp at he;simp [he];done)))
    all_goals (apply d_done;(case hr=>kernel_rfl))
    repeat' (fail)
    refine v_frz ν6 (by repeat (exact PickA.here _)) ?_
    intro G6 hle6 hG6
    have hc6:=es_of_grow hg6 hG6 (fun y hy=>by
      have:=(g.cho y (List.mem_of_mem_drop hy))
      exact this.2.1)
    refine v_end [(hb,_)] (outsA0 rfl) (by repeat (first|exact List.Sublist.refl _|apply List.Sublist.cons)) ?_
    exact ⟨_,rfl,_,_,_,rfl,hi4.mono hle6,esle ha4 hle6,hc6⟩
theorem chg_eq (h:Hd) (x:Rc):chg h x = if x.kind = 1 then h.prom x else if x.kind = 2 then accH h x else if x.kind = 3 then choH h x else takeH h x:=rfl
theorem entOf_ok {x:Rc} (hx:chkI x = 0) (hc:x.cmd.ok):(entOf x).ok ∧ (⟨x.index,0,0,x.cmd⟩:Ent).ok ∧ 0 ≤ x.index ∧ x.index ≤ 4294967296 ∧ x.image.length ≤ 32768:=by
  have h0:recI x.kind x.round x.node x.index x.cmd x.image.length = 0:=hx
  obtain ⟨hk,hr,hi,hcc,ho⟩:=rec0 h0
  obtain ⟨hfit,hsm,him,hsz⟩:=fits0 h0
  unfold ranP mayP at hr
  have hr0:0 ≤ x.round ∧ x.round ≤ 4294967296:=by unfold othP at ho;omega
  have hn0:0 ≤ x.node ∧ x.node ≤ 9:=by unfold othP at ho;omega
  have hi0:0 ≤ x.index ∧ x.index ≤ 4294967296:=by unfold othP at ho;omega
  exact ⟨⟨wf64 (n:=x.index) (by omega),wf64 (n:=x.round) (by omega),wf64 (n:=x.node) (by omega),hc⟩,⟨wf64 (n:=x.index) (by omega),wf64 (n:=0) (by omega),wf64 (n:=0) (by omega),hc⟩,hi0.1,hi0.2,him⟩
theorem change_s {G:GH} {H:Hd} {L:List Value} {x:Rc} {xv:Value} {n:Nat} (hb:Nat) (hh:HdV G H L) (g:Good n H) (hn:n ≤ 200) (hx:RcV G x xv) (hv:chkI x = 0) (hc:x.cmd.ok) :
    Con Tryz.prog 108 #[.pointer (some ⟨hb,0,none⟩),xv] G [(hb,hdO L)] (fun _ G' μ'=>∃ L',μ' = [(hb,hdO L')] ∧ HdV G' (chg H x) L'):=by
  obtain ⟨e1,e2,e3,e4,e5⟩:=entOf_ok hv hc
  have hk:=(rec0 (show recI x.kind x.round x.node x.index x.cmd x.image.length = 0 from hv)).1
  have q2:=accept_s hb hh g hn hx (withL_ok (fun e he=>(g.acc e he).2.1) e1)
  have q3:=choose_s hb hh g hn hx (withL_ok (fun e he=>(g.cho e he).2.1) e2)
  have q4:=take_s hb hh g hn hx (by omega) ⟨e3,e4⟩
  have hh':=hh
  obtain ⟨im,av,cv,rfl,hi,ha,hcv⟩:=hh
  have q1:=promise_s G hb H.pr H.pn H.base x.round x.node im av cv
  obtain ⟨iv,rfl,hxv⟩:=hx
  rw [chg_eq]
  (refine v_enter Tryz.func108 rfl Tryz.ntmps108 rfl ?_;intro B _)
  obtain k|k|k|k:x.kind = 1 ∨ x.kind = 2 ∨ x.kind = 3 ∨ x.kind = 4:=by omega
  · rw [if_pos k,prom_max]
    repeat' (first|apply v_seq|apply v_region|apply v_nil|apply v_block|(apply v_pure;(case hop=>first|(apply p_move <;> rfl)|(apply p_eq <;> rfl)|(apply p_assign <;> rfl)|(apply p_fieldAddrB <;> rfl)|fail);(case hd=>rfl))|(apply v_cond;(case hc=>rfl);all_goals (intro h;(try simp only [reduceCtorEq,zzz] at h);first|(exfalso;omega)|skip))|(apply v_box (zs:=recL x.kind x.round x.node x.index x.cmd iv);(case hx=>rfl);(case hz=>rfl);(case hd=>rfl);intro xb)|(apply v_read;(case hop=>first|(apply r_loadNo;(case hx=>rfl);(case h=>(repeat (exact mhd _)));(case hd=>(repeat (first|with_reducible exact dt_nil|apply dt_here)));(case hn=>rfl))|(apply r_load1;rfl;(apply Cell.own;(case h=>(repeat (exact mhd _)));rfl))|fail);(case hd=>rfl))|fail)
    refine v_call (μ1:=[(hb,_)]) (μ2:=_) rfl q1 (PickA.perm (by repeat (first|exact PickA.last|apply PickA.cons))) rfl ?_
    rintro _ _ _ - ⟨rfl,rfl⟩
    repeat' (first|apply v_nil|apply v_blk)
    refine v_end [(hb,_)] (outsA0 rfl) (by repeat (first|exact List.nil_sublist _|apply List.Sublist.cons_cons)) ?_
    exact ⟨_,rfl,_,_,_,rfl,hi,ha,hcv⟩
  · rw [if_neg (by omega),if_pos k]
    repeat' (first|apply v_seq|apply v_region|apply v_nil|apply v_block|(apply v_pure;(case hop=>first|(apply p_move <;> rfl)|(apply p_eq <;> rfl)|(apply p_assign <;> rfl)|(apply p_fieldAddrB <;> rfl)|fail);(case hd=>rfl))|(apply v_cond;(case hc=>rfl);all_goals (intro h;(try simp only [reduceCtorEq,zzz] at h);first|(exfalso;omega)|skip))|(apply v_box (zs:=recL x.kind x.round x.node x.index x.cmd iv);(case hx=>rfl);(case hz=>rfl);(case hd=>rfl);intro xb)|(apply v_read;(case hop=>first|(apply r_loadNo;(case hx=>rfl);(case h=>(repeat (exact mhd _)));(case hd=>(repeat (first|with_reducible exact dt_nil|apply dt_here)));(case hn=>rfl))|(apply r_load1;rfl;(apply Cell.own;(case h=>(repeat (exact mhd _)));rfl))|fail);(case hd=>rfl))|fail)
    refine v_call (μ1:=[(hb,_)]) (μ2:=_) rfl q2 (PickA.perm (by repeat (first|exact PickA.last|apply PickA.cons))) rfl ?_
    rintro _ G1 _ - ⟨L',rfl,h'⟩
    repeat' (first|apply v_nil|apply v_blk)
    refine v_end [(hb,_)] (outsA0 rfl) (by repeat (first|exact List.nil_sublist _|apply List.Sublist.cons_cons)) ?_
    exact ⟨_,rfl,h'⟩
  · rw [if_neg (by omega),if_neg (by omega),if_pos k]
    repeat' (first|apply v_seq|apply v_region|apply v_nil|apply v_block|(apply v_pure;(case hop=>first|(apply p_move <;> rfl)|(apply p_eq <;> rfl)|(apply p_assign <;> rfl)|(apply p_fieldAddrB <;> rfl)|fail);(case hd=>rfl))|(apply v_cond;(case hc=>rfl);all_goals (intro h;(try simp only [reduceCtorEq,zzz] at h);first|(exfalso;omega)|skip))|(apply v_box (zs:=recL x.kind x.round x.node x.index x.cmd iv);(case hx=>rfl);(case hz=>rfl);(case hd=>rfl);intro xb)|(apply v_read;(case hop=>first|(apply r_loadNo;(case hx=>rfl);(case h=>(repeat (exact mhd _)));(case hd=>(repeat (first|with_reducible exact dt_nil|apply dt_here)));(case hn=>rfl))|(apply r_load1;rfl;(apply Cell.own;(case h=>(repeat (exact mhd _)));rfl))|fail);(case hd=>rfl))|fail)
    refine v_call (μ1:=[(hb,_)]) (μ2:=_) rfl q3 (PickA.perm (by repeat (first|exact PickA.last|apply PickA.cons))) rfl ?_
    rintro _ G1 _ - ⟨L',rfl,h'⟩
    repeat' (first|apply v_nil|apply v_blk)
    refine v_end [(hb,_)] (outsA0 rfl) (by repeat (first|exact List.nil_sublist _|apply List.Sublist.cons_cons)) ?_
    exact ⟨_,rfl,h'⟩
  · rw [if_neg (by omega),if_neg (by omega),if_neg (by omega)]
    repeat' (first|apply v_seq|apply v_region|apply v_nil|apply v_block|(apply v_pure;(case hop=>first|(apply p_move <;> rfl)|(apply p_eq <;> rfl)|(apply p_assign <;> rfl)|(apply p_fieldAddrB <;> rfl)|fail);(case hd=>rfl))|(apply v_cond;(case hc=>rfl);all_goals (intro h;(try simp only [reduceCtorEq,zzz] at h);first|(exfalso;omega)|skip))|(apply v_box (zs:=recL x.kind x.round x.node x.index x.cmd iv);(case hx=>rfl);(case hz=>rfl);(case hd=>rfl);intro xb)|(apply v_read;(case hop=>first|(apply r_loadNo;(case hx=>rfl);(case h=>(repeat (exact mhd _)));(case hd=>(repeat (first|with_reducible exact dt_nil|apply dt_here)));(case hn=>rfl))|(apply r_load1;rfl;(apply Cell.own;(case h=>(repeat (exact mhd _)));rfl))|fail);(case hd=>rfl))|fail)
    refine v_call (μ1:=[(hb,_)]) (μ2:=_) rfl q4 (PickA.perm (by repeat (first|exact PickA.last|apply PickA.cons))) rfl ?_
    rintro _ G1 _ - ⟨L',rfl,h'⟩
    repeat' (first|apply v_nil|apply v_blk)
    refine v_end [(hb,_)] (outsA0 rfl) (by repeat (first|exact List.nil_sublist _|apply List.Sublist.cons_cons)) ?_
    exact ⟨_,rfl,h'⟩
def RcR (G:GH) (x:Rc) (cs:List Value):Prop := ∃ iv,cs = recL x.kind x.round x.node x.index x.cmd iv ∧ x.cmd.ok ∧ x.small ∧ Sl G 1 (IntR .u8) iv x.image
theorem RcR.le {G G':GH} (h:GH.le G G') {x:Rc} {cs:List Value} (hc:RcR G x cs):RcR G' x cs:=let ⟨iv,h1,h2,h3,h4⟩:=hc;⟨iv,h1,h2,h3,h4.mono h⟩
abbrev Rs (G:GH) (v:Value) (l:List Rc):Prop:=Sl G 12 (RcR G) v l
theorem Rs.le' {G G':GH} (h:GH.le G G') {v:Value} {l:List Rc} (hs:Rs G v l):Rs G' v l:=Sl.le hs h fun _ _=>RcR.le h
theorem rsOpen {G:GH} {v:Value} {l:List Rc} (h:Rs G v l):∃ A c,∃ (iv:Nat → Value),v = .slice A l.length c ∧ l.length ≤ c ∧ c ≤ maxLen ∧ (0 < l.length → A.isSome = true) ∧
    (∀ i (h:i < l.length),CellsG G ((adr A).add (i * 12)) (recL l[i].kind l[i].round l[i].node l[i].index l[i].cmd (iv i))) ∧ (∀ i (h:i < l.length),Sl G 1 (IntR .u8) (iv i) l[i].image) ∧ (∀ x ∈ l,x.cmd.ok ∧ x.small):=by
  obtain ⟨A,c,rfl,h1,h2,h3,h4⟩:=h.open
  have key:∀ i,∃ m:Value,∀ (h:i < l.length),CellsG G ((adr A).add (i * 12)) (recL l[i].kind l[i].round l[i].node l[i].index l[i].cmd m) ∧ Sl G 1 (IntR .u8) m l[i].image ∧ (l[i].cmd.ok ∧ l[i].small):=fun i=>by
    by_cases hi:i < l.length
    · obtain ⟨cs,_,⟨iv,rfl,h6,h7,h8⟩,h5⟩:=h4 i _ (List.getElem?_eq_getElem hi)
      exact ⟨iv,fun _=>⟨h5,h8,h6,h7⟩⟩
    · exact ⟨.slice none 0 0,fun h=>absurd h hi⟩
  have hk:=fun i=>Classical.choose_spec (key i)
  refine ⟨A,c,fun i=>Classical.choose (key i),rfl,h1,h2,h3,fun i hi=>(hk i hi).1,fun i hi=>(hk i hi).2.1,fun x hx=>?_⟩
  obtain ⟨i,hi,rfl⟩:=List.getElem_of_mem hx
  exact (hk i hi).2.2
theorem good_step {n:Nat} {h:Hd} (g:Good n h) {x:Rc} (hc:x.cmd.ok):Good (n + 1) (stepH h x):=by
  unfold stepH
  by_cases hx:chkI x = 0
  · rw [if_pos hx];exact good_chg g hx hc
  · rw [if_neg hx];exact g.more (by omega)
theorem foldl_take {l:List Rc} {k:Nat} (h:k < l.length):(l.take (k + 1)).foldl stepH Hd.zero = stepH ((l.take k).foldl stepH Hd.zero) l[k]:=by
  rw [List.take_add_one,List.getElem?_eq_getElem h,List.foldl_append]
  rfl
theorem hd_zero (G:GH):HdV G Hd.zero (hdL 0 0 0 (.slice none 0 0) (.slice none 0 0) (.slice none 0 0)):=⟨_,_,_,rfl,Sl.nil,Sl.nil,Sl.nil⟩
theorem of_s {G:GH} (hT:TabsG G) {l:List Rc} {lv:Value} (hs:Rs G lv l) (hn:l.length ≤ 200):Con Tryz.prog 64 #[lv] G [] (fun r G' μ'=>μ' = [] ∧ ∃ L,r = .agg L.toArray ∧ HdV G' (hardOf l) L):=by
  obtain ⟨A,c,ivf,rfl,hlc,hcm,hsome,hcp,him,hok⟩:=rsOpen hs
  simp only [maxLen] at hcm
  (refine v_enter Tryz.func64 rfl Tryz.ntmps64 rfl ?_;intro B _)
  repeat' (first|apply v_seq|apply v_region|apply v_nil|apply v_block|(apply v_pure;(case hop=>first|(apply p_move <;> rfl)|(apply p_assign <;> rfl)|(apply p_lenSlice <;> rfl)|(apply p_build;(case hz=>rfl);(case hv=>(simp only [List.map_cons,List.map_nil];repeat (with_reducible exact evs_nil)));(case hb=>(apply bldL;repeat (exact bld_nil))))|fail);(case hd=>rfl))|(apply v_alloc;(case hz=>rfl);(case hd=>rfl);intro b)|(apply v_box;(case hx=>rfl);(case hz=>rfl);(case hd=>rfl);intro b)|fail)
  rename_i ob
  rename Nat=>hb
  refine v_loop [10,9,8,3,2] (fun us G' μ'=>GH.le G G' ∧ ∃ (k:Nat) (L:List Value),k ≤ l.length ∧ us = [Value.int .i64 (k:Nat),.int .i64 (l.length:Nat),.slice A l.length c,.pointer (some ⟨hb,0,none⟩),.pointer (some ⟨ob,0,none⟩)] ∧ μ' = [(hb,hdO L),(ob,.cells (hdL 0 0 0 (.slice none 0 0) (.slice none 0 0) (.slice none 0 0)).toArray 27 (0,0))] ∧ HdV G' ((l.take k).foldl stepH Hd.zero) L ∧ Good k ((l.take k).foldl stepH Hd.zero)) (fun us=>l.length - (headI us).toNat) rfl ⟨GH.le_refl _,0,_,by omega,rfl,rfl,hd_zero G,good_zero⟩ ?_
  rintro us G2 μ' ⟨hle,k,L,hk,rfl,rfl,hh,hg⟩
  by_cases hlt:k < l.length
  · have e1:((k:Nat):Int).toNat = k:=by omega
    have hcx:=(hcp k hlt).le hle
    have hix:=(him k hlt).mono hle
    have hcok:=hok _ (List.getElem_mem hlt)
    have hft:=foldl_take hlt
    have hgs:=good_step hg hcok.1
    rw [← hft] at hgs
    generalize hxe:l[k] = x at *
    generalize ivf k = iv at *
    obtain ⟨Ai,ci,rfl,hic,him2,-⟩:=id hix.openInt
    simp only [maxLen] at him2
    have hx:RcV G2 x (.agg (recL x.kind x.round x.node x.index x.cmd (.slice Ai x.image.length ci)).toArray):=⟨_,rfl,hix⟩
    have qc:=recCheck_s (hT.le hle) x.kind x.round x.node x.index x.cmd hcok.1 Ai x.image.length ci (by omega)
    by_cases hv:chkI x = 0
    · have q:=change_s hb hh hg (by omega) hx hv hcok.1
      have es:stepH ((l.take k).foldl stepH Hd.zero) x = chg ((l.take k).foldl stepH Hd.zero) x:=by unfold stepH;rw [if_pos hv]
      rw [es] at hft
      rw [show recI x.kind x.round x.node x.index x.cmd x.image.length = 0 from hv] at qc
      repeat' (first|apply v_seq|apply v_region|apply v_nil|apply v_skip|apply v_block|(apply v_pure;(case hop=>first|(apply p_move <;> rfl)|(apply p_eqs <;> rfl)|(apply p_lt <;> rfl)|(apply p_indexAddrS;(case hx=>rfl);(case hi=>rfl);(case h0=>omega);(case h=>omega);(case hA=>(apply_assumption;omega)))|fail);(case hd=>rfl))|(apply v_condT;(case hc=>rfl))|(apply v_cond;(case hc=>rfl);all_goals (intro h;(try simp only [reduceCtorEq,zzz] at h);first|(exfalso;omega)|skip))|(apply v_read;(case hop=>(apply r_loadN;rfl;exact CellsAt.frozen hcx;rfl));(case hd=>rfl))|(apply v_callJ (hs:=qc);(case ha=>rfl);(case hd=>rfl))|(apply v_read;(case hop=>(apply r_loadNo;(case hx=>rfl);(case h=>(repeat (exact mhd _)));(case hd=>(repeat (first|with_reducible exact dt_nil|apply dt_here)));(case hn=>rfl)));(case hd=>rfl))|(apply v_alloc;(case hz=>rfl);(case hd=>rfl);intro b)|(apply v_store;(case hp=>rfl);(case hx=>rfl);(case hc=>rfl);(case hsz=>rfl);(case h1=>rfl);(case hb=>(repeat (exact mhd _)));(case hfit=>exact nle rfl);(case hov=>((repeat (first|with_reducible exact ov_nil|apply ov_cons));done));(case hu=>repeat (exact Upd.here _ _)))|fail)
      refine v_call (μ1:=[(hb,_)]) (μ2:=_) rfl q (PickA.perm (by repeat (first|exact PickA.here _|apply PickA.cons))) rfl ?_
      rintro _ G3 _ hle3 ⟨L',rfl,h'⟩
      rw [← hft] at h'
      repeat' (first|apply v_region|apply v_nil|apply v_blk|(apply v_pure;(case hop=>first|(apply p_move <;> rfl)|(apply p_add;(case hx=>rfl);(case hy=>rfl);(case h=>omega))|fail);(case hd=>rfl))|fail)
      refine v_drop (ν:=[(hb,_),(ob,_)]) (by repeat (first|exact List.Sublist.refl _|apply List.Sublist.cons_cons|apply List.Sublist.cons)) ?_
      refine v_again rfl ⟨GH.le_trans hle hle3,k + 1,L',by omega,rfl,rfl,h',hgs⟩ (by simp [headI];omega)
    · have es:stepH ((l.take k).foldl stepH Hd.zero) x = (l.take k).foldl stepH Hd.zero:=by unfold stepH;rw [if_neg hv]
      rw [es] at hft
      have hv':¬ recI x.kind x.round x.node x.index x.cmd x.image.length = 0:=hv
      generalize recI x.kind x.round x.node x.index x.cmd x.image.length = I at *
      repeat' (first|apply v_seq|apply v_region|apply v_nil|apply v_skip|apply v_block|apply v_blk|(apply v_pure;(case hop=>first|(apply p_move <;> rfl)|(apply p_eq <;> rfl)|(apply p_lt <;> rfl)|(apply p_add;(case hx=>rfl);(case hy=>rfl);(case h=>omega))|(apply p_indexAddrS;(case hx=>rfl);(case hi=>rfl);(case h0=>omega);(case h=>omega);(case hA=>(apply_assumption;omega)))|fail);(case hd=>rfl))|(apply v_cond;(case hc=>rfl);all_goals (intro h;(try simp only [reduceCtorEq,zzz] at h);first|(exfalso;omega)|skip))|(apply v_read;(case hop=>(apply r_loadN;rfl;exact CellsAt.frozen hcx;rfl));(case hd=>rfl))|(apply v_callJ (hs:=qc);(case ha=>rfl);(case hd=>rfl))|(apply v_read;(case hop=>(apply r_loadNo;(case hx=>rfl);(case h=>(repeat (exact mhd _)));(case hd=>(repeat (first|with_reducible exact dt_nil|apply dt_here)));(case hn=>rfl)));(case hd=>rfl))|(apply v_alloc;(case hz=>rfl);(case hd=>rfl);intro b)|(apply v_store;(case hp=>rfl);(case hx=>rfl);(case hc=>rfl);(case hsz=>rfl);(case h1=>rfl);(case hb=>(repeat (exact mhd _)));(case hfit=>exact nle rfl);(case hov=>((repeat (first|with_reducible exact ov_nil|apply ov_cons));done));(case hu=>repeat (exact Upd.here _ _)))|fail)
      refine v_drop (ν:=[(hb,_),(ob,_)]) (by repeat (first|exact List.Sublist.refl _|apply List.Sublist.cons)) ?_
      refine v_again rfl ⟨hle,k + 1,L,by omega,rfl,rfl,by rw [hft];exact hh,hgs⟩ (by simp [headI];omega)
  · obtain rfl:k = l.length:=by omega
    rw [List.take_length] at hh
    obtain ⟨im,av,cv,rfl,hi,ha,hc⟩:=hh
    obtain ⟨A0,c0,rfl,-⟩:=id hi.openInt
    obtain ⟨A1,c1,rfl,-⟩:=id ha.open
    obtain ⟨A2,c2,rfl,-⟩:=id hc.open
    repeat' (first|apply v_seq|apply v_region|apply v_nil|(apply v_exit;(case hp=>rfl))|(apply v_pure;(case hop=>first|(apply p_move <;> rfl)|(apply p_lt <;> rfl)|(apply p_fieldAddrB <;> rfl)|(apply p_nilCheck <;> rfl)|fail);(case hd=>rfl))|(apply v_cond;(case hc=>rfl);all_goals (intro h;(try simp only [reduceCtorEq,zzz] at h);first|(exfalso;omega)|skip))|(apply v_read;(case hop=>(apply r_loadNo;(case hx=>rfl);(case h=>(repeat (exact mhd _)));(case hd=>(repeat (first|with_reducible exact dt_nil|apply dt_here)));(case hn=>rfl)));(case hd=>rfl))|(apply v_store;(case hp=>rfl);(case hx=>rfl);(case hc=>rfl);(case hsz=>rfl);(case h1=>rfl);(case hb=>(repeat (first|exact mhd _|apply mtl)));(case hfit=>exact nle rfl);(case hov=>((repeat (first|with_reducible exact ov_nil|apply ov_cons));done));(case hu=>repeat (first|exact Upd.here _ _|apply Upd.there)))|fail)
    refine v_retM [] (outsM_cell (vs:=hdL (l.foldl stepH Hd.zero).pr (l.foldl stepH Hd.zero).pn (l.foldl stepH Hd.zero).base (.slice A0 (l.foldl stepH Hd.zero).image.length c0) (.slice A1 (l.foldl stepH Hd.zero).acc.length c1) (.slice A2 (l.foldl stepH Hd.zero).cho.length c2)) (e:=27) rfl rfl (by repeat (first|exact mhd _|apply mtl)) rfl) (by repeat (exact List.nil_sublist _)) ?_
    exact ⟨rfl,_,rfl,_,_,_,rfl,hi,ha,hc⟩
theorem r1_take {l:List Rc} {k:Nat} (h:k < l.length):(l.take (k + 1)).foldl r1 Hd.zero = r1 ((l.take k).foldl r1 Hd.zero) l[k]:=by
  rw [List.take_add_one,List.getElem?_eq_getElem h,List.foldl_append]
  rfl
theorem accS_take {b:Int} {l:List Rc} {k:Nat} (h:k < l.length):(l.take (k + 1)).foldl (accS b) [] = accS b ((l.take k).foldl (accS b) []) l[k]:=by
  rw [List.take_add_one,List.getElem?_eq_getElem h,List.foldl_append]
  rfl
theorem choS_take {b:Int} {l:List Rc} {k:Nat} (h:k < l.length):(l.take (k + 1)).foldl (choS b) [] = choS b ((l.take k).foldl (choS b) []) l[k]:=by
  rw [List.take_add_one,List.getElem?_eq_getElem h,List.foldl_append]
  rfl
abbrev nilS:Value:=.slice none 0 0
abbrev resO:Obj:=.cells (hdL 0 0 0 nilS nilS nilS).toArray 27 (0,0)
abbrev hardO (L:List Value):Obj:=.cells L.toArray 27 (0,0)
structure Two (k:Nat) (acc cho:List Ent):Prop where
  ra:RiseL acc
  rc:RiseL cho
  na:acc.length ≤ k
  nc:cho.length ≤ k
  oa:∀ e ∈ acc,e.ok
  oc:∀ e ∈ cho,e.ok
theorem insN_len (x:Ent) (l:List Ent):(insN x l).length ≤ l.length + 1:=by
  unfold insN
  split
  · omega
  · exact ins_len x l
theorem two_step {k:Nat} {acc cho:List Ent} (t:Two k acc cho) (b:Int) {x:Rc} (hc:x.cmd.ok):Two (k + 1) (accS b acc x) (choS b cho x):=by
  have hm:Two (k + 1) acc cho:=⟨t.ra,t.rc,by have:=t.na;omega,by have:=t.nc;omega,t.oa,t.oc⟩
  have h1:∀ acc' cho',acc' = accS b acc x → cho' = choS b cho x → Two (k + 1) acc' cho':=by
    rintro _ _ rfl rfl
    refine ⟨?_,?_,?_,?_,?_,?_⟩
    · unfold accS;split
      · exact rise_ins t.ra _
      · exact t.ra
    · unfold choS;split
      · exact rise_insN t.rc _
      · exact t.rc
    · unfold accS;split
      · exact Nat.le_trans (ins_len _ _) (by have:=t.na;omega)
      · exact hm.na
    · unfold choS;split
      · exact Nat.le_trans (insN_len _ _) (by have:=t.nc;omega)
      · exact hm.nc
    · unfold accS;split
      · rename_i h
        intro e he
        obtain rfl|he:=mem_ins he
        · exact (entOf_ok h.1 hc).1
        · exact t.oa e he
      · exact t.oa
    · unfold choS;split
      · rename_i h
        intro e he
        unfold insN at he
        split at he
        · exact t.oc e he
        · obtain rfl|he:=mem_ins he
          · exact (entOf_ok h.1 hc).1
          · exact t.oc e he
      · exact t.oc
  exact h1 _ _ rfl rfl
theorem two_zero:Two 0 [] []:=⟨fun i j hj=>by simp at hj,fun i j hj=>by simp at hj,by simp,by simp,by simp,by simp⟩
theorem rOf_s {G:GH} {l:List Rc} {lv:Value} (hs:Rs G lv l) (hn:l.length ≤ 200) :
    Con Tryz.prog 66 #[lv] G [] (fun r G' μ'=>μ' = [] ∧ ∃ L,r = .agg L.toArray ∧ HdV G' ⟨(l.foldl r1 Hd.zero).pr,(l.foldl r1 Hd.zero).pn,(l.foldl r1 Hd.zero).base,(l.foldl r1 Hd.zero).image,l.foldl (accS (l.foldl r1 Hd.zero).base) [],l.foldl (choS (l.foldl r1 Hd.zero).base) []⟩ L):=by
  obtain ⟨A,c,ivf,rfl,hlc,hcm,hsome,hcp,him,hok⟩:=rsOpen hs
  simp only [maxLen] at hcm
  (refine v_enter Tryz.func66 rfl Tryz.ntmps66 rfl ?_;intro B _)
  repeat' (first|apply v_seq|apply v_region|apply v_nil|apply v_block|(apply v_pure;(case hop=>(apply p_assign <;> rfl));(case hd=>rfl))|(apply v_alloc;(case hz=>rfl);(case hd=>rfl);intro b)|fail)
  rename_i ob
  rename Nat=>hb
  refine v_loop [4,0,3,2] (fun us G' μ'=>G' = G ∧ ∃ (k:Nat) (iv:Value),k ≤ l.length ∧ us = [Value.int .i64 (k:Nat),.slice A l.length c,.pointer (some ⟨hb,0,none⟩),.pointer (some ⟨ob,0,none⟩)] ∧ μ' = [(hb,hardO (hdL ((l.take k).foldl r1 Hd.zero).pr ((l.take k).foldl r1 Hd.zero).pn ((l.take k).foldl r1 Hd.zero).base iv nilS nilS)),(ob,resO)] ∧ Sl G 1 (IntR .u8) iv ((l.take k).foldl r1 Hd.zero).image) (fun us=>l.length - (headI us).toNat) rfl ⟨rfl,0,nilS,by omega,rfl,rfl,Sl.nil⟩ ?_
  rintro us G2 μ' ⟨rfl,k,im,hk,rfl,rfl,hi⟩
  by_cases hlt:k < l.length
  · have e1:((k:Nat):Int).toNat = k:=by omega
    have hcx:=hcp k hlt
    have hix:=him k hlt
    have hcok:=hok _ (List.getElem_mem hlt)
    have hft:=r1_take hlt
    generalize hxe:l[k] = x at *
    generalize ivf k = iv at *
    generalize (l.take k).foldl r1 Hd.zero = H at *
    obtain ⟨Ai,ci,rfl,hic,him2,-⟩:=id hix.openInt
    obtain ⟨Aj,cj,rfl,-⟩:=id hi.openInt
    simp only [maxLen] at him2
    have qc:=refRecCheck_s (G:=G2) x.kind x.round x.node x.index x.cmd hcok.1 Ai x.image.length ci (by omega)
    by_cases hv:chkI x = 0
    rotate_left
    · have es:r1 H x = H:=by unfold r1;rw [if_neg hv]
      have hv':¬ recI x.kind x.round x.node x.index x.cmd x.image.length = 0:=hv
      generalize recI x.kind x.round x.node x.index x.cmd x.image.length = I at *
      repeat' (first|apply v_seq|apply v_region|apply v_nil|apply v_skip|apply v_block|(apply v_exit;(case hp=>rfl))|(apply v_pure;(case hop=>first|(apply p_move <;> rfl)|(apply p_lt <;> rfl)|(apply p_ne <;> rfl)|(apply p_assign <;> rfl)|(apply p_lenSlice <;> rfl)|(apply p_add;(case hx=>rfl);(case hy=>rfl);(case h=>omega))|(apply p_indexAddrS;(case hx=>rfl);(case hi=>rfl);(case h0=>omega);(case h=>omega);(case hA=>(apply_assumption;omega)))|fail);(case hd=>rfl))|(apply v_cond;(case hc=>rfl);all_goals (intro h;(try simp only [reduceCtorEq,zzz] at h);first|(exfalso;omega)|skip))|(apply v_read;(case hop=>(apply r_loadN;rfl;exact CellsAt.frozen hcx;rfl));(case hd=>rfl))|(apply v_callJ (hs:=qc);(case ha=>rfl);(case hd=>rfl))|(apply v_read;(case hop=>(apply r_loadNo;(case hx=>rfl);(case h=>(repeat (exact mhd _)));(case hd=>(repeat (first|with_reducible exact dt_nil|apply dt_here)));(case hn=>rfl)));(case hd=>rfl))|(apply v_alloc;(case hz=>rfl);(case hd=>rfl);intro b)|(apply v_store;(case hp=>rfl);(case hx=>rfl);(case hc=>rfl);(case hsz=>rfl);(case h1=>rfl);(case hb=>(repeat (exact mhd _)));(case hfit=>exact nle rfl);(case hov=>((repeat (first|with_reducible exact ov_nil|apply ov_cons));done));(case hu=>repeat (exact Upd.here _ _)))|fail)
      refine v_drop (ν:=[(hb,_),(ob,_)]) (by repeat (first|exact List.Sublist.refl _|apply List.Sublist.cons)) ?_
      refine v_again rfl ⟨rfl,k + 1,_,by omega,rfl,by rw [hft,es],by rw [hft,es];exact hi⟩ (by simp [headI];omega)
    rw [show recI x.kind x.round x.node x.index x.cmd x.image.length = 0 from hv] at qc
    have hkk:=(rec0 (show recI x.kind x.round x.node x.index x.cmd x.image.length = 0 from hv)).1
    have es:r1 H x = (if x.kind = 1 ∨ x.kind = 2 then H.prom x else if x.kind = 4 ∧ H.base < x.index then { H with base:=x.index,image:=x.image } else H):=by unfold r1;rw [if_pos hv]
    rw [es] at hft
    have qb:=hasBallot_s G2 x.kind
    have ql:=refLess_s G2 H.pr H.pn x.round x.node
    by_cases k12:x.kind = 1 ∨ x.kind = 2
    · rw [if_pos k12] at hft
      rw [decide_eq_true k12] at qb
      unfold Hd.prom at hft
      by_cases hl:lessP H.pr H.pn x.round x.node
      · rw [if_pos hl] at hft
        rw [decide_eq_true hl] at ql
        repeat' (first|apply v_seq|apply v_region|apply v_nil|apply v_skip|apply v_block|apply v_blk|(apply v_take;(case hg=>rfl))|(apply v_pass;(case hg=>rfl);(case hn=>rfl);(case hd=>rfl))|(apply v_pure;(case hop=>first|(apply p_move <;> rfl)|(apply p_nes <;> rfl)|(apply p_eq <;> rfl)|(apply p_lt <;> rfl)|(apply p_assign <;> rfl)|(apply p_pickT <;> rfl)|(apply p_pickF <;> rfl)|(apply p_lenSlice <;> rfl)|(apply p_fieldAddrB <;> rfl)|(apply p_add;(case hx=>rfl);(case hy=>rfl);(case h=>omega))|(apply p_indexAddrS;(case hx=>rfl);(case hi=>rfl);(case h0=>omega);(case h=>omega);(case hA=>(apply_assumption;omega)))|fail);(case hd=>rfl))|(apply v_condT;(case hc=>rfl))|(apply v_condF;(case hc=>rfl))|(apply v_cond;(case hc=>rfl);all_goals (intro h;(try simp only [reduceCtorEq,zzz] at h);first|(exfalso;omega)|skip))|(apply v_guardB;(case h1=>rfl);(case h2=>rfl);all_goals (intro h;(try simp only [reduceCtorEq,zzz] at h);first|(exfalso;omega)|skip))|(apply v_read;(case hop=>(apply r_loadN;rfl;exact CellsAt.frozen hcx;rfl));(case hd=>rfl))|(apply v_callJ (hs:=qc);(case ha=>rfl);(case hd=>rfl))|(apply v_callJ (hs:=qb);(case ha=>rfl);(case hd=>rfl))|(apply v_callJ (hs:=ql);(case ha=>rfl);(case hd=>rfl))|(apply v_read;(case hop=>first|(apply r_loadNo;(case hx=>rfl);(case h=>(repeat (first|exact mhd _|apply mtl)));(case hd=>(repeat (first|with_reducible exact dt_nil|apply dt_here)));(case hn=>rfl))|(apply r_load1;rfl;(apply Cell.own;(case h=>(repeat (exact mhd _)));rfl))|fail);(case hd=>rfl))|(apply v_alloc;(case hz=>rfl);(case hd=>rfl);intro b)|(apply v_store;(case hp=>rfl);(case hx=>rfl);(case hc=>rfl);(case hsz=>rfl);(case h1=>rfl);(case hb=>(repeat (first|exact mhd _|apply mtl)));(case hfit=>exact nle rfl);(case hov=>((repeat (first|with_reducible exact ov_nil|apply ov_cons));done));(case hu=>repeat (first|exact Upd.here _ _|apply Upd.there)))|fail)
        refine v_drop (ν:=[(hb,_),(ob,_)]) (by repeat (first|exact List.Sublist.refl _|apply List.Sublist.cons)) ?_
        refine v_again rfl ⟨rfl,k + 1,_,by omega,rfl,by (rw [hft] <;> rfl),by rw [hft];exact hi⟩ (by simp [headI];omega)
      · rw [if_neg hl] at hft
        rw [decide_eq_false hl] at ql
        repeat' (first|apply v_seq|apply v_region|apply v_nil|apply v_skip|apply v_block|apply v_blk|(apply v_take;(case hg=>rfl))|(apply v_pass;(case hg=>rfl);(case hn=>rfl);(case hd=>rfl))|(apply v_pure;(case hop=>first|(apply p_move <;> rfl)|(apply p_nes <;> rfl)|(apply p_eq <;> rfl)|(apply p_lt <;> rfl)|(apply p_assign <;> rfl)|(apply p_pickT <;> rfl)|(apply p_pickF <;> rfl)|(apply p_lenSlice <;> rfl)|(apply p_fieldAddrB <;> rfl)|(apply p_add;(case hx=>rfl);(case hy=>rfl);(case h=>omega))|(apply p_indexAddrS;(case hx=>rfl);(case hi=>rfl);(case h0=>omega);(case h=>omega);(case hA=>(apply_assumption;omega)))|fail);(case hd=>rfl))|(apply v_condF;(case hc=>rfl))|(apply v_cond;(case hc=>rfl);all_goals (intro h;(try simp only [reduceCtorEq,zzz] at h);first|(exfalso;omega)|skip))|(apply v_guardB;(case h1=>rfl);(case h2=>rfl);all_goals (intro h;(try simp only [reduceCtorEq,zzz] at h);first|(exfalso;omega)|skip))|(apply v_read;(case hop=>(apply r_loadN;rfl;exact CellsAt.frozen hcx;rfl));(case hd=>rfl))|(apply v_callJ (hs:=qc);(case ha=>rfl);(case hd=>rfl))|(apply v_callJ (hs:=qb);(case ha=>rfl);(case hd=>rfl))|(apply v_callJ (hs:=ql);(case ha=>rfl);(case hd=>rfl))|(apply v_read;(case hop=>first|(apply r_loadNo;(case hx=>rfl);(case h=>(repeat (first|exact mhd _|apply mtl)));(case hd=>(repeat (first|with_reducible exact dt_nil|apply dt_here)));(case hn=>rfl))|(apply r_load1;rfl;(apply Cell.own;(case h=>(repeat (exact mhd _)));rfl))|fail);(case hd=>rfl))|(apply v_alloc;(case hz=>rfl);(case hd=>rfl);intro b)|(apply v_store;(case hp=>rfl);(case hx=>rfl);(case hc=>rfl);(case hsz=>rfl);(case h1=>rfl);(case hb=>(repeat (exact mhd _)));(case hfit=>exact nle rfl);(case hov=>((repeat (first|with_reducible exact ov_nil|apply ov_cons));done));(case hu=>repeat (exact Upd.here _ _)))|fail)
        refine v_drop (ν:=[(hb,_),(ob,_)]) (by repeat (first|exact List.Sublist.refl _|apply List.Sublist.cons)) ?_
        refine v_again rfl ⟨rfl,k + 1,_,by omega,rfl,by (rw [hft] <;> rfl),by rw [hft];exact hi⟩ (by simp [headI];omega)
    · rw [if_neg k12] at hft
      rw [decide_eq_false k12] at qb
      by_cases k4:x.kind = 4 ∧ H.base < x.index
      · rw [if_pos k4] at hft
        repeat' (first|apply v_seq|apply v_region|apply v_nil|apply v_skip|apply v_block|apply v_blk|(apply v_take;(case hg=>rfl))|(apply v_pass;(case hg=>rfl);(case hn=>rfl);(case hd=>rfl))|(apply v_pure;(case hop=>first|(apply p_move <;> rfl)|(apply p_nes <;> rfl)|(apply p_eq <;> rfl)|(apply p_lt <;> rfl)|(apply p_gt <;> rfl)|(apply p_assign <;> rfl)|(apply p_pickT <;> rfl)|(apply p_pickF <;> rfl)|(apply p_lenSlice <;> rfl)|(apply p_fieldAddrB <;> rfl)|(apply p_add;(case hx=>rfl);(case hy=>rfl);(case h=>omega))|(apply p_indexAddrS;(case hx=>rfl);(case hi=>rfl);(case h0=>omega);(case h=>omega);(case hA=>(apply_assumption;omega)))|fail);(case hd=>rfl))|(apply v_condF;(case hc=>rfl))|(apply v_cond;(case hc=>rfl);all_goals (intro h;(try simp only [reduceCtorEq,zzz] at h);first|(exfalso;omega)|skip))|(apply v_guardB;(case h1=>rfl);(case h2=>rfl);all_goals (intro h;(try simp only [reduceCtorEq,zzz] at h);first|(exfalso;omega)|skip))|(apply v_read;(case hop=>(apply r_loadN;rfl;exact CellsAt.frozen hcx;rfl));(case hd=>rfl))|(apply v_callJ (hs:=qc);(case ha=>rfl);(case hd=>rfl))|(apply v_callJ (hs:=qb);(case ha=>rfl);(case hd=>rfl))|(apply v_read;(case hop=>first|(apply r_loadNo;(case hx=>rfl);(case h=>(repeat (exact mhd _)));(case hd=>(repeat (first|with_reducible exact dt_nil|apply dt_here)));(case hn=>rfl))|(apply r_load1;rfl;(apply Cell.own;(case h=>(repeat (first|exact mhd _|apply mtl)));rfl))|fail);(case hd=>rfl))|(apply v_alloc;(case hz=>rfl);(case hd=>rfl);intro b)|(apply v_store;(case hp=>rfl);(case hx=>rfl);(case hc=>rfl);(case hsz=>rfl);(case h1=>rfl);(case hb=>(repeat (first|exact mhd _|apply mtl)));(case hfit=>exact nle rfl);(case hov=>((repeat (first|with_reducible exact ov_nil|apply ov_cons));done));(case hu=>repeat (first|exact Upd.here _ _|apply Upd.there)))|fail)
        refine v_drop (ν:=[(hb,_),(ob,_)]) (by repeat (first|exact List.Sublist.refl _|apply List.Sublist.cons)) ?_
        refine v_again rfl ⟨rfl,k + 1,_,by omega,rfl,by (rw [hft] <;> rfl),by rw [hft];exact hix⟩ (by simp [headI];omega)
      · rw [if_neg k4] at hft
        repeat' (first|apply v_seq|apply v_region|apply v_nil|apply v_skip|apply v_block|apply v_blk|(apply v_take;(case hg=>rfl))|(apply v_pass;(case hg=>rfl);(case hn=>rfl);(case hd=>rfl))|(apply v_pure;(case hop=>first|(apply p_move <;> rfl)|(apply p_nes <;> rfl)|(apply p_eq <;> rfl)|(apply p_lt <;> rfl)|(apply p_gt <;> rfl)|(apply p_assign <;> rfl)|(apply p_pickT <;> rfl)|(apply p_pickF <;> rfl)|(apply p_lenSlice <;> rfl)|(apply p_fieldAddrB <;> rfl)|(apply p_add;(case hx=>rfl);(case hy=>rfl);(case h=>omega))|(apply p_indexAddrS;(case hx=>rfl);(case hi=>rfl);(case h0=>omega);(case h=>omega);(case hA=>(apply_assumption;omega)))|fail);(case hd=>rfl))|(apply v_condF;(case hc=>rfl))|(apply v_cond;(case hc=>rfl);all_goals (intro h;(try simp only [reduceCtorEq,zzz] at h);first|(exfalso;omega)|skip))|(apply v_guardB;(case h1=>rfl);(case h2=>rfl);all_goals (intro h;(try simp only [reduceCtorEq,zzz] at h)))|(apply v_read;(case hop=>(apply r_loadN;rfl;exact CellsAt.frozen hcx;rfl));(case hd=>rfl))|(apply v_callJ (hs:=qc);(case ha=>rfl);(case hd=>rfl))|(apply v_callJ (hs:=qb);(case ha=>rfl);(case hd=>rfl))|(apply v_read;(case hop=>first|(apply r_loadNo;(case hx=>rfl);(case h=>(repeat (exact mhd _)));(case hd=>(repeat (first|with_reducible exact dt_nil|apply dt_here)));(case hn=>rfl))|(apply r_load1;rfl;(apply Cell.own;(case h=>(repeat (first|exact mhd _|apply mtl)));rfl))|fail);(case hd=>rfl))|(apply v_alloc;(case hz=>rfl);(case hd=>rfl);intro b)|(apply v_store;(case hp=>rfl);(case hx=>rfl);(case hc=>rfl);(case hsz=>rfl);(case h1=>rfl);(case hb=>(repeat (exact mhd _)));(case hfit=>exact nle rfl);(case hov=>((repeat (first|with_reducible exact ov_nil|apply ov_cons));done));(case hu=>repeat (exact Upd.here _ _)))|fail)
        all_goals
          (refine v_drop (ν:=[(hb,_),(ob,_)]) (by repeat (first|exact List.Sublist.refl _|apply List.Sublist.cons)) ?_
           refine v_again rfl ⟨rfl,k + 1,_,by omega,rfl,by (rw [hft] <;> rfl),by rw [hft];exact hi⟩ (by simp [headI];omega))
  obtain rfl:k = l.length:=by omega
  rw [List.take_length] at hi ⊢
  generalize l.foldl r1 Hd.zero = H at *
  repeat' (first|apply v_seq|apply v_region|apply v_nil|apply v_block|(apply v_exit;(case hp=>rfl))|(apply v_pure;(case hop=>first|(apply p_move <;> rfl)|(apply p_lt <;> rfl)|(apply p_assign <;> rfl)|(apply p_lenSlice <;> rfl)|fail);(case hd=>rfl))|(apply v_cond;(case hc=>rfl);all_goals (intro h;(try simp only [reduceCtorEq,zzz] at h);first|(exfalso;omega)|skip))|fail)
  refine v_loop [6,0,3,2] (fun us G' μ'=>GH.le G2 G' ∧ ∃ (k:Nat) (L:List Value),k ≤ l.length ∧ us = [Value.int .i64 (k:Nat),.slice A l.length c,.pointer (some ⟨hb,0,none⟩),.pointer (some ⟨ob,0,none⟩)] ∧ μ' = [(hb,hardO L),(ob,resO)] ∧ HdV G' ⟨H.pr,H.pn,H.base,H.image,(l.take k).foldl (accS H.base) [],(l.take k).foldl (choS H.base) []⟩ L ∧ Two k ((l.take k).foldl (accS H.base) []) ((l.take k).foldl (choS H.base) [])) (fun us=>l.length - (headI us).toNat) rfl ⟨GH.le_refl _,0,_,by omega,rfl,rfl,⟨im,nilS,nilS,rfl,hi,Sl.nil,Sl.nil⟩,two_zero⟩ ?_
  rintro us G3 μ' ⟨hle,k,L,hk,rfl,rfl,hh,ht⟩
  obtain ⟨im2,av,cv,rfl,hi2,ha,hc⟩:=hh
  simp only at hi2 ha hc
  obtain ⟨A0,c0,rfl,-⟩:=id hi2.openInt
  obtain ⟨A1,c1,rfl,-⟩:=id ha.open
  obtain ⟨A2,c2,rfl,-⟩:=id hc.open
  by_cases hlt:k < l.length
  · have e1:((k:Nat):Int).toNat = k:=by omega
    have hcx:=(hcp k hlt).le hle
    have hix:=(him k hlt).mono hle
    have hcok:=hok _ (List.getElem_mem hlt)
    have hfa:=accS_take (b:=H.base) hlt
    have hfc:=choS_take (b:=H.base) hlt
    have ht':=two_step ht H.base hcok.1
    generalize hxe:l[k] = x at *
    rw [← hfa,← hfc] at ht'
    generalize ivf k = iv at *
    obtain ⟨Ai,ci,rfl,hic,him2,-⟩:=id hix.openInt
    simp only [maxLen] at him2
    have qc:=refRecCheck_s (G:=G3) x.kind x.round x.node x.index x.cmd hcok.1 Ai x.image.length ci (by omega)
    have qh:=hasCmd_s G3 x.kind
    have na:=ht.na
    have nc:=ht.nc
    have qwa:=refWith_s (entOf x) ha ht.ra (by omega)
    have qwc:=refWith_s (entOf x) hc ht.rc (by omega)
    have qf:=refEntFind_s x.index hc ht.rc
    have hbi:=hitB_iff ht.rc x.index
    have hwa:=withL_ins ht.ra (entOf x)
    have hwc:=withL_ins ht.rc (entOf x)
    generalize (l.take k).foldl (accS H.base) [] = acc at *
    generalize (l.take k).foldl (choS H.base) [] = cho at *
    by_cases hsame:¬ (chkI x = 0 ∧ (x.kind = 2 ∨ x.kind = 3) ∧ H.base < x.index)
    · have ea:accS H.base acc x = acc:=by rw [accS,if_neg fun h=>hsame ⟨h.1,.inl h.2.1,h.2.2⟩]
      have ec:choS H.base cho x = cho:=by rw [choS,if_neg fun h=>hsame ⟨h.1,.inr h.2.1,h.2.2⟩]
      rw [ea] at hfa
      rw [ec] at hfc
      have hfin:HdV G3 ⟨H.pr,H.pn,H.base,H.image,(l.take (k + 1)).foldl (accS H.base) [],(l.take (k + 1)).foldl (choS H.base) []⟩ (hdL H.pr H.pn H.base (.slice A0 H.image.length c0) (.slice A1 acc.length c1) (.slice A2 cho.length c2)):=by rw [hfa,hfc];exact ⟨_,_,_,rfl,hi2,ha,hc⟩
      by_cases hv:chkI x = 0
      · rw [show recI x.kind x.round x.node x.index x.cmd x.image.length = 0 from hv] at qc
        have hsame':¬ ((x.kind = 2 ∨ x.kind = 3) ∧ H.base < x.index):=fun h=>hsame ⟨hv,h⟩
        repeat' (first|apply v_seq|apply v_region|apply v_nil|apply v_skip|apply v_block|(apply v_exit;(case hp=>rfl))|(apply v_take;(case hg=>rfl))|(apply v_pass;(case hg=>rfl);(case hn=>rfl);(case hd=>rfl))|(apply v_pure;(case hop=>first|(apply p_move <;> rfl)|(apply p_nes <;> rfl)|(apply p_lt <;> rfl)|(apply p_le <;> rfl)|(apply p_assign <;> rfl)|(apply p_pickT <;> rfl)|(apply p_pickF <;> rfl)|(apply p_not <;> rfl)|(apply p_lenSlice <;> rfl)|(apply p_fieldAddrB <;> rfl)|(apply p_add;(case hx=>rfl);(case hy=>rfl);(case h=>omega))|(apply p_indexAddrS;(case hx=>rfl);(case hi=>rfl);(case h0=>omega);(case h=>omega);(case hA=>(apply_assumption;omega)))|fail);(case hd=>rfl))|(apply v_condT;(case hc=>rfl))|(apply v_cond;(case hc=>rfl);all_goals (intro h;(try simp only [reduceCtorEq,zzz] at h);first|(exfalso;omega)|skip))|(apply v_guardB;(case h1=>rfl);(case h2=>rfl);all_goals (intro h;(try simp only [reduceCtorEq,zzz] at h)))|(apply v_read;(case hop=>(apply r_loadN;rfl;exact CellsAt.frozen hcx;rfl));(case hd=>rfl))|(apply v_callJ (hs:=qc);(case ha=>rfl);(case hd=>rfl))|(apply v_callJ (hs:=qh);(case ha=>rfl);(case hd=>rfl))|(apply v_read;(case hop=>first|(apply r_loadNo;(case hx=>rfl);(case h=>(repeat (exact mhd _)));(case hd=>(repeat (first|with_reducible exact dt_nil|apply dt_here)));(case hn=>rfl))|(apply r_load1;rfl;(apply Cell.own;(case h=>(repeat (first|exact mhd _|apply mtl)));rfl))|fail);(case hd=>rfl))|(apply v_alloc;(case hz=>rfl);(case hd=>rfl);intro b)|(apply v_store;(case hp=>rfl);(case hx=>rfl);(case hc=>rfl);(case hsz=>rfl);(case h1=>rfl);(case hb=>(repeat (exact mhd _)));(case hfit=>exact nle rfl);(case hov=>((repeat (first|with_reducible exact ov_nil|apply ov_cons));done));(case hu=>repeat (exact Upd.here _ _)))|fail)
        all_goals first
          | (exfalso;omega)
          | (refine v_drop (ν:=[(hb,_),(ob,_)]) (by repeat (first|exact List.Sublist.refl _|apply List.Sublist.cons)) ?_
             exact v_again rfl ⟨hle,k + 1,_,by omega,rfl,rfl,hfin,ht'⟩ (by simp [headI];omega))
      · have hv':¬ recI x.kind x.round x.node x.index x.cmd x.image.length = 0:=hv
        generalize recI x.kind x.round x.node x.index x.cmd x.image.length = I at *
        repeat' (first|apply v_seq|apply v_region|apply v_nil|apply v_skip|apply v_block|(apply v_exit;(case hp=>rfl))|(apply v_pass;(case hg=>rfl);(case hn=>rfl);(case hd=>rfl))|(apply v_pure;(case hop=>first|(apply p_move <;> rfl)|(apply p_lt <;> rfl)|(apply p_ne <;> rfl)|(apply p_assign <;> rfl)|(apply p_pickT <;> rfl)|(apply p_lenSlice <;> rfl)|(apply p_add;(case hx=>rfl);(case hy=>rfl);(case h=>omega))|(apply p_indexAddrS;(case hx=>rfl);(case hi=>rfl);(case h0=>omega);(case h=>omega);(case hA=>(apply_assumption;omega)))|fail);(case hd=>rfl))|(apply v_condT;(case hc=>rfl))|(apply v_cond;(case hc=>rfl);all_goals (intro h;(try simp only [reduceCtorEq,zzz] at h);first|(exfalso;omega)|skip))|(apply v_guardB;(case h1=>rfl);(case h2=>rfl);all_goals (intro h;(try simp only [reduceCtorEq,zzz] at h);first|(exfalso;omega)|skip))|(apply v_read;(case hop=>(apply r_loadN;rfl;exact CellsAt.frozen hcx;rfl));(case hd=>rfl))|(apply v_callJ (hs:=qc);(case ha=>rfl);(case hd=>rfl))|(apply v_read;(case hop=>(apply r_loadNo;(case hx=>rfl);(case h=>(repeat (exact mhd _)));(case hd=>(repeat (first|with_reducible exact dt_nil|apply dt_here)));(case hn=>rfl)));(case hd=>rfl))|(apply v_alloc;(case hz=>rfl);(case hd=>rfl);intro b)|(apply v_store;(case hp=>rfl);(case hx=>rfl);(case hc=>rfl);(case hsz=>rfl);(case h1=>rfl);(case hb=>(repeat (exact mhd _)));(case hfit=>exact nle rfl);(case hov=>((repeat (first|with_reducible exact ov_nil|apply ov_cons));done));(case hu=>repeat (exact Upd.here _ _)))|fail)
        all_goals first
          | (exfalso;omega)
          | (refine v_drop (ν:=[(hb,_),(ob,_)]) (by repeat (first|exact List.Sublist.refl _|apply List.Sublist.cons)) ?_
             exact v_again rfl ⟨hle,k + 1,_,by omega,rfl,rfl,hfin,ht'⟩ (by simp [headI];omega))
    obtain ⟨hv,hk23,hlb⟩:=Decidable.not_not.1 hsame
    rw [show recI x.kind x.round x.node x.index x.cmd x.image.length = 0 from hv] at qc
    rw [decide_eq_true hk23] at qh
    by_cases k2:x.kind = 2
    · have ea:accS H.base acc x = withL acc (entOf x):=by rw [accS,if_pos ⟨hv,k2,hlb⟩,hwa]
      have ec:choS H.base cho x = cho:=by rw [choS,if_neg fun h=>by omega]
      rw [ea] at hfa
      rw [ec] at hfc
      repeat' (first|apply v_seq|apply v_region|apply v_nil|apply v_skip|apply v_block|(apply v_take;(case hg=>rfl))|(apply v_pure;(case hop=>first|(apply p_move <;> rfl)|(apply p_nes <;> rfl)|(apply p_eq <;> rfl)|(apply p_lt <;> rfl)|(apply p_le <;> rfl)|(apply p_pickF <;> rfl)|(apply p_not <;> rfl)|(apply p_lenSlice <;> rfl)|(apply p_fieldAddrB <;> rfl)|(apply p_indexAddrS;(case hx=>rfl);(case hi=>rfl);(case h0=>omega);(case h=>omega);(case hA=>(apply_assumption;omega)))|(apply p_build;(case hz=>rfl);(case hv=>(simp only [List.map_cons,List.map_nil];repeat (first|with_reducible exact evs_nil|(apply evs_cons;(case h1=>rfl)))));(case hb=>(apply bldL;repeat (first|exact bld_nil|(apply bld_cons;(case hpf=>rfl);(case hc=>rfl);(case hs=>rfl);(case hl=>rfl);(case ho=>((repeat (first|with_reducible exact ov_nil|apply ov_cons));done)))))))|fail);(case hd=>rfl))|(apply v_condF;(case hc=>rfl))|(apply v_cond;(case hc=>rfl);all_goals (intro h;(try simp only [reduceCtorEq,zzz] at h);first|(exfalso;omega)|skip))|(apply v_guardB;(case h1=>rfl);(case h2=>rfl);all_goals (intro h;(try simp only [reduceCtorEq,zzz] at h);first|(exfalso;omega)|skip))|(apply v_read;(case hop=>(apply r_loadN;rfl;exact CellsAt.frozen hcx;rfl));(case hd=>rfl))|(apply v_callJ (hs:=qc);(case ha=>rfl);(case hd=>rfl))|(apply v_callJ (hs:=qh);(case ha=>rfl);(case hd=>rfl))|(apply v_read;(case hop=>first|(apply r_loadNo;(case hx=>rfl);(case h=>(repeat (exact mhd _)));(case hd=>(repeat (first|with_reducible exact dt_nil|apply dt_here)));(case hn=>rfl))|(apply r_load1;rfl;(apply Cell.own;(case h=>(repeat (first|exact mhd _|apply mtl)));rfl))|fail);(case hd=>rfl))|(apply v_alloc;(case hz=>rfl);(case hd=>rfl);intro b)|(apply v_store;(case hp=>rfl);(case hx=>rfl);(case hc=>rfl);(case hsz=>rfl);(case h1=>rfl);(case hb=>(repeat (exact mhd _)));(case hfit=>exact nle rfl);(case hov=>((repeat (first|with_reducible exact ov_nil|apply ov_cons));done));(case hu=>repeat (exact Upd.here _ _)))|fail)
      refine v_call (μ1:=[]) (μ2:=_) rfl qwa (List.Perm.refl _) rfl ?_
      rintro r G4 ν - ⟨rfl,hg⟩
      obtain ⟨A5,c5,rfl,-,-⟩:=hg.shape
      repeat' (first|apply v_region|apply v_nil|apply v_blk|(apply v_pure;(case hop=>first|(apply p_move <;> rfl)|(apply p_assign <;> rfl)|(apply p_fieldAddrB <;> rfl)|(apply p_add;(case hx=>rfl);(case hy=>rfl);(case h=>omega))|fail);(case hd=>rfl))|(apply v_store;(case hp=>rfl);(case hx=>rfl);(case hc=>rfl);(case hsz=>rfl);(case h1=>rfl);(case hb=>(repeat (first|exact mhd _|apply mtl|apply List.mem_append_right)));(case hfit=>exact nle rfl);(case hov=>((repeat (first|with_reducible exact ov_nil|apply ov_cons));done));(case hu=>repeat (first|exact Upd.here _ _|apply Upd.there|apply Upd.app)))|fail)
      refine v_frz ν (by repeat (exact PickA.here _)) ?_
      intro G5 hle5 hG5
      refine v_drop (ν:=[(hb,_),(ob,_)]) (by repeat (first|exact List.Sublist.refl _|apply List.Sublist.cons)) ?_
      refine v_again rfl ⟨GH.le_trans hle hle5,k + 1,_,by omega,rfl,rfl,?_,ht'⟩ (by simp [headI];omega)
      rw [hfc,hfa]
      rw [hfa] at ht'
      exact ⟨_,_,_,rfl,hi2.mono hle5,es_of_grow hg hG5 ht'.oa,esle hc hle5⟩
    · have k3:x.kind = 3:=by omega
      have ea:accS H.base acc x = acc:=by rw [accS,if_neg fun h=>k2 h.2.1]
      rw [ea] at hfa
      by_cases hb3:hitB cho x.index = true
      · have ec:choS H.base cho x = cho:=by rw [choS,if_pos ⟨hv,k3,hlb⟩,insN,if_pos (show ∃ y ∈ cho,y.index = (entOf x).index from hbi.1 hb3)]
        rw [ec] at hfc
        rw [if_pos hb3] at qf
        have hfin:HdV G3 ⟨H.pr,H.pn,H.base,H.image,(l.take (k + 1)).foldl (accS H.base) [],(l.take (k + 1)).foldl (choS H.base) []⟩ (hdL H.pr H.pn H.base (.slice A0 H.image.length c0) (.slice A1 acc.length c1) (.slice A2 cho.length c2)):=by rw [hfa,hfc];exact ⟨_,_,_,rfl,hi2,ha,hc⟩
        repeat' (first|apply v_seq|apply v_region|apply v_nil|apply v_skip|apply v_block|apply v_blk|(apply v_take;(case hg=>rfl))|(apply v_pure;(case hop=>first|(apply p_move <;> rfl)|(apply p_nes <;> rfl)|(apply p_eq <;> rfl)|(apply p_lt <;> rfl)|(apply p_le <;> rfl)|(apply p_assign <;> rfl)|(apply p_pickF <;> rfl)|(apply p_not <;> rfl)|(apply p_lenSlice <;> rfl)|(apply p_fieldAddrB <;> rfl)|(apply p_add;(case hx=>rfl);(case hy=>rfl);(case h=>omega))|(apply p_indexAddrS;(case hx=>rfl);(case hi=>rfl);(case h0=>omega);(case h=>omega);(case hA=>(apply_assumption;omega)))|(apply p_build;(case hz=>rfl);(case hv=>(simp only [List.map_cons,List.map_nil];repeat (first|with_reducible exact evs_nil|(apply evs_cons;(case h1=>rfl)))));(case hb=>(apply bldL;repeat (first|exact bld_nil|(apply bld_cons;(case hpf=>rfl);(case hc=>rfl);(case hs=>rfl);(case hl=>rfl);(case ho=>((repeat (first|with_reducible exact ov_nil|apply ov_cons));done)))))))|fail);(case hd=>rfl))|(apply v_condF;(case hc=>rfl))|(apply v_cond;(case hc=>rfl);all_goals (intro h;(try simp only [reduceCtorEq,zzz] at h);first|(exfalso;omega)|skip))|(apply v_guardB;(case h1=>rfl);(case h2=>rfl);all_goals (intro h;(try simp only [reduceCtorEq,zzz] at h);first|(exfalso;omega)|skip))|(apply v_read;(case hop=>(apply r_loadN;rfl;exact CellsAt.frozen hcx;rfl));(case hd=>rfl))|(apply v_callJ (hs:=qc);(case ha=>rfl);(case hd=>rfl))|(apply v_callJ (hs:=qh);(case ha=>rfl);(case hd=>rfl))|(apply v_callJ (hs:=qf);(case ha=>rfl);(case hd=>rfl))|(apply v_read;(case hop=>first|(apply r_loadNo;(case hx=>rfl);(case h=>(repeat (exact mhd _)));(case hd=>(repeat (first|with_reducible exact dt_nil|apply dt_here)));(case hn=>rfl))|(apply r_load1;rfl;(apply Cell.own;(case h=>(repeat (first|exact mhd _|apply mtl)));rfl))|fail);(case hd=>rfl))|(apply v_alloc;(case hz=>rfl);(case hd=>rfl);intro b)|(apply v_store;(case hp=>rfl);(case hx=>rfl);(case hc=>rfl);(case hsz=>rfl);(case h1=>rfl);(case hb=>(repeat (exact mhd _)));(case hfit=>exact nle rfl);(case hov=>((repeat (first|with_reducible exact ov_nil|apply ov_cons));done));(case hu=>repeat (exact Upd.here _ _)))|fail)
        refine v_drop (ν:=[(hb,_),(ob,_)]) (by repeat (first|exact List.Sublist.refl _|apply List.Sublist.cons)) ?_
        refine v_again rfl ⟨hle,k + 1,_,by omega,rfl,rfl,hfin,ht'⟩ (by simp [headI];omega)
      · have ec:choS H.base cho x = withL cho (entOf x):=by rw [choS,if_pos ⟨hv,k3,hlb⟩,insN,if_neg (show ¬ ∃ y ∈ cho,y.index = (entOf x).index from fun h=>hb3 (hbi.2 h)),hwc]
        rw [ec] at hfc
        rw [if_neg hb3] at qf
        repeat' (first|apply v_seq|apply v_region|apply v_nil|apply v_skip|apply v_block|(apply v_take;(case hg=>rfl))|(apply v_pure;(case hop=>first|(apply p_move <;> rfl)|(apply p_nes <;> rfl)|(apply p_eq <;> rfl)|(apply p_lt <;> rfl)|(apply p_le <;> rfl)|(apply p_pickF <;> rfl)|(apply p_not <;> rfl)|(apply p_lenSlice <;> rfl)|(apply p_fieldAddrB <;> rfl)|(apply p_indexAddrS;(case hx=>rfl);(case hi=>rfl);(case h0=>omega);(case h=>omega);(case hA=>(apply_assumption;omega)))|(apply p_build;(case hz=>rfl);(case hv=>(simp only [List.map_cons,List.map_nil];repeat (first|with_reducible exact evs_nil|(apply evs_cons;(case h1=>rfl)))));(case hb=>(apply bldL;repeat (first|exact bld_nil|(apply bld_cons;(case hpf=>rfl);(case hc=>rfl);(case hs=>rfl);(case hl=>rfl);(case ho=>((repeat (first|with_reducible exact ov_nil|apply ov_cons));done)))))))|fail);(case hd=>rfl))|(apply v_condF;(case hc=>rfl))|(apply v_cond;(case hc=>rfl);all_goals (intro h;(try simp only [reduceCtorEq,zzz] at h);first|(exfalso;omega)|skip))|(apply v_guardB;(case h1=>rfl);(case h2=>rfl);all_goals (intro h;(try simp only [reduceCtorEq,zzz] at h);first|(exfalso;omega)|skip))|(apply v_read;(case hop=>(apply r_loadN;rfl;exact CellsAt.frozen hcx;rfl));(case hd=>rfl))|(apply v_callJ (hs:=qc);(case ha=>rfl);(case hd=>rfl))|(apply v_callJ (hs:=qh);(case ha=>rfl);(case hd=>rfl))|(apply v_callJ (hs:=qf);(case ha=>rfl);(case hd=>rfl))|(apply v_read;(case hop=>first|(apply r_loadNo;(case hx=>rfl);(case h=>(repeat (exact mhd _)));(case hd=>(repeat (first|with_reducible exact dt_nil|apply dt_here)));(case hn=>rfl))|(apply r_load1;rfl;(apply Cell.own;(case h=>(repeat (first|exact mhd _|apply mtl)));rfl))|fail);(case hd=>rfl))|(apply v_alloc;(case hz=>rfl);(case hd=>rfl);intro b)|(apply v_store;(case hp=>rfl);(case hx=>rfl);(case hc=>rfl);(case hsz=>rfl);(case h1=>rfl);(case hb=>(repeat (exact mhd _)));(case hfit=>exact nle rfl);(case hov=>((repeat (first|with_reducible exact ov_nil|apply ov_cons));done));(case hu=>repeat (exact Upd.here _ _)))|fail)
        refine v_call (μ1:=[]) (μ2:=_) rfl qwc (List.Perm.refl _) rfl ?_
        rintro r G4 ν - ⟨rfl,hg⟩
        obtain ⟨A5,c5,rfl,-,-⟩:=hg.shape
        repeat' (first|apply v_region|apply v_nil|apply v_blk|(apply v_pure;(case hop=>first|(apply p_move <;> rfl)|(apply p_assign <;> rfl)|(apply p_fieldAddrB <;> rfl)|(apply p_add;(case hx=>rfl);(case hy=>rfl);(case h=>omega))|fail);(case hd=>rfl))|(apply v_store;(case hp=>rfl);(case hx=>rfl);(case hc=>rfl);(case hsz=>rfl);(case h1=>rfl);(case hb=>(repeat (first|exact mhd _|apply mtl|apply List.mem_append_right)));(case hfit=>exact nle rfl);(case hov=>((repeat (first|with_reducible exact ov_nil|apply ov_cons));done));(case hu=>repeat (first|exact Upd.here _ _|apply Upd.there|apply Upd.app)))|fail)
        refine v_frz ν (by repeat (exact PickA.here _)) ?_
        intro G5 hle5 hG5
        refine v_drop (ν:=[(hb,_),(ob,_)]) (by repeat (first|exact List.Sublist.refl _|apply List.Sublist.cons)) ?_
        refine v_again rfl ⟨GH.le_trans hle hle5,k + 1,_,by omega,rfl,rfl,?_,ht'⟩ (by simp [headI];omega)
        rw [hfc,hfa]
        rw [hfc] at ht'
        exact ⟨_,_,_,rfl,hi2.mono hle5,esle ha hle5,es_of_grow hg hG5 ht'.oc⟩
  · obtain rfl:k = l.length:=by omega
    rw [List.take_length] at ha hc ⊢
    repeat' (first|apply v_seq|apply v_region|apply v_nil|(apply v_exit;(case hp=>rfl))|(apply v_pure;(case hop=>first|(apply p_move <;> rfl)|(apply p_lt <;> rfl)|(apply p_lenSlice <;> rfl)|fail);(case hd=>rfl))|(apply v_cond;(case hc=>rfl);all_goals (intro h;(try simp only [reduceCtorEq,zzz] at h);first|(exfalso;omega)|skip))|(apply v_read;(case hop=>(apply r_loadNo;(case hx=>rfl);(case h=>(repeat (exact mhd _)));(case hd=>(repeat (first|with_reducible exact dt_nil|apply dt_here)));(case hn=>rfl)));(case hd=>rfl))|(apply v_store;(case hp=>rfl);(case hx=>rfl);(case hc=>rfl);(case hsz=>rfl);(case h1=>rfl);(case hb=>(repeat (first|exact mhd _|apply mtl)));(case hfit=>exact nle rfl);(case hov=>((repeat (first|with_reducible exact ov_nil|apply ov_cons));done));(case hu=>repeat (first|exact Upd.here _ _|apply Upd.there)))|fail)
    refine v_retM [] (outsM_cell (vs:=hdL H.pr H.pn H.base (.slice A0 H.image.length c0) (.slice A1 (l.foldl (accS H.base) []).length c1) (.slice A2 (l.foldl (choS H.base) []).length c2)) (e:=27) rfl rfl (by repeat (first|exact mhd _|apply mtl)) rfl) (by repeat (exact List.nil_sublist _)) ?_
    exact ⟨rfl,_,rfl,_,_,_,rfl,hi2,ha,hc⟩
theorem hSame_s {G:GH} {H:Hd} {L L':List Value} (h1:HdV G H L) (h2:HdV G H L'):Con Tryz.prog 22 #[.agg L.toArray,.agg L'.toArray] G [] (Just (.bool true) G):=by
  obtain ⟨iv,av,cv,rfl,hi,ha,hc⟩:=h1
  obtain ⟨iv',av',cv',rfl,hi',ha',hc'⟩:=h2
  have q1:=bSame_s hi hi'
  have q2:=entSame_s ha ha'
  have q3:=entSame_s hc hc'
  rw [decide_eq_true rfl] at q1 q2 q3
  obtain ⟨A0,c0,rfl,-⟩:=hi.openInt
  obtain ⟨A1,c1,rfl,-⟩:=ha.open
  obtain ⟨A2,c2,rfl,-⟩:=hc.open
  obtain ⟨B0,d0,rfl,-⟩:=hi'.openInt
  obtain ⟨B1,d1,rfl,-⟩:=ha'.open
  obtain ⟨B2,d2,rfl,-⟩:=hc'.open
  apply Con.just
  (refine v_enter Tryz.func22 rfl Tryz.ntmps22 rfl ?_;intro B _)
  repeat' (first|(apply v_pure;(case hop=>(apply eqBal;(case hx=>rfl);(case hy=>rfl)));(case hd=>rfl))|apply v_seq|apply v_region|apply v_nil|(apply v_take;(case hg=>rfl))|(apply v_pass;(case hg=>rfl);(case hn=>rfl);(case hd=>rfl))|(apply v_pure;(case hop=>first|(apply p_move <;> rfl)|(apply p_eqs <;> rfl)|(apply p_assign <;> rfl)|(apply p_pickT <;> rfl)|(apply p_pickF <;> rfl)|(apply p_fieldAddrB <;> rfl)|fail);(case hd=>rfl))|(apply v_guardB;(case h1=>rfl);(case h2=>rfl);all_goals (intro h;(try simp only [reduceCtorEq,zzz] at h)))|(apply v_callJ (hs:=q1);(case ha=>rfl);(case hd=>rfl))|(apply v_callJ (hs:=q2);(case ha=>rfl);(case hd=>rfl))|(apply v_callJ (hs:=q3);(case ha=>rfl);(case hd=>rfl))|(apply v_read;(case hop=>first|(apply r_loadNo;(case hx=>rfl);(case h=>(repeat (first|exact mhd _|apply mtl)));(case hd=>(repeat (first|with_reducible exact dt_nil|apply dt_here)));(case hn=>rfl))|(apply r_load1;rfl;(apply Cell.own;(case h=>(repeat (first|exact mhd _|apply mtl)));rfl))|fail);(case hd=>rfl))|(apply v_box;(case hx=>rfl);(case hz=>rfl);(case hd=>rfl);intro b)|fail)
  · refine v_ret [] (outsA1 rfl rfl) (by repeat (exact List.nil_sublist _)) ?_
    exact ⟨rfl,rfl⟩
  · exact absurd ⟨trivial,trivial⟩ ‹¬ (True ∧ True)›
theorem neBoolF {σ:Env} {ty t t':TypeId} {a b:Operand} {x y:Bool} [Ty Tryz.prog t .bool] (h:x = y) (hx:Env.ev σ a = some (.bool x)) (hy:Env.ev σ b = some (.bool y)):PureOp Tryz.prog (.binOp .neq t a b t') ty σ (.bool false):=by
  subst h
  exact p_neBs hx hy
theorem hCheck_s {G:GH} {H:Hd} {L:List Value} {n:Nat} (hh:HdV G H L) (g:Good n H):Con Tryz.prog 14 #[.agg L.toArray] G [] (Just (.bool true) G):=by
  obtain ⟨iv,av,cv,rfl,hi,ha,hc⟩:=hh
  have qa:=refEntCheck_s ha
  have qc:=refEntCheck_s hc
  rw [chk_of (fun x hx=>(g.acc x hx).1) g.racc _ 0 rfl] at qa
  rw [chk_of (fun x hx=>(g.cho x hx).1) g.rcho _ 0 rfl] at qc
  have qm:=refMay_s G H.pr H.pn
  rw [decide_eq_true g.may] at qm
  obtain ⟨A0,c0,rfl,hl0,hm0,-⟩:=hi.openInt
  obtain ⟨A1,c1,rfl,hl1,hm1,hs1,hcp1,hcb1,-,-⟩:=esOpen ha
  obtain ⟨A2,c2,rfl,hl2,hm2,hs2,hcp2,hcb2,-,-⟩:=esOpen hc
  simp only [maxLen] at hm0 hm1 hm2
  have hb:=g.base
  have him:=g.img
  have hbi:dec (0 < H.base) = dec (0 < (H.image.length:Int)):=by
    rw [dec_eq,dec_eq]
    congr 1
    rw [eq_iff_iff]
    omega
  apply Con.just
  (refine v_enter Tryz.func14 rfl Tryz.ntmps14 rfl ?_;intro B _)
  repeat' (first|(apply v_pure;(case hop=>(apply neBoolF (h:=hbi);(case hx=>rfl);(case hy=>rfl)));(case hd=>rfl))|apply v_seq|apply v_region|apply v_nil|apply v_skip|apply v_block|(apply v_take;(case hg=>rfl))|(apply v_pure;(case hop=>first|(apply p_move <;> rfl)|(apply p_nes <;> rfl)|(apply p_lt <;> rfl)|(apply p_gt <;> rfl)|(apply p_assign <;> rfl)|(apply p_pickF <;> rfl)|(apply p_not <;> rfl)|(apply p_lenSlice <;> rfl)|(apply p_fieldAddrB <;> rfl)|fail);(case hd=>rfl))|(apply v_condF;(case hc=>rfl))|(apply v_guardB;(case h1=>rfl);(case h2=>rfl);all_goals (intro h;(try simp only [reduceCtorEq,zzz] at h);first|(exfalso;omega)|skip))|(apply v_callJ (hs:=qm);(case ha=>rfl);(case hd=>rfl))|(apply v_callJ (hs:=qa);(case ha=>rfl);(case hd=>rfl))|(apply v_callJ (hs:=qc);(case ha=>rfl);(case hd=>rfl))|(apply v_read;(case hop=>first|(apply r_loadNo;(case hx=>rfl);(case h=>(repeat (exact mhd _)));(case hd=>(repeat (first|with_reducible exact dt_nil|apply dt_here)));(case hn=>rfl))|(apply r_load1;rfl;(apply Cell.own;(case h=>(repeat (exact mhd _)));rfl))|fail);(case hd=>rfl))|(apply v_box;(case hx=>rfl);(case hz=>rfl);(case hd=>rfl);intro b)|fail)
  rename Nat=>hb'
  refine v_loop [3,1] (fun us G' μ'=>G' = G ∧ μ' = [(hb',hardO (hdL H.pr H.pn H.base (.slice A0 H.image.length c0) (.slice A1 H.acc.length c1) (.slice A2 H.cho.length c2)))] ∧ ∃ k,k ≤ H.acc.length ∧ us = [Value.int .i64 (k:Nat),.pointer (some ⟨hb',0,none⟩)]) (fun us=>H.acc.length - (headI us).toNat) rfl ⟨rfl,rfl,0,by omega,rfl⟩ ?_
  rintro us G' μ' ⟨rfl,rfl,k,hk,rfl⟩
  by_cases hlt:k < H.acc.length
  · have e1:((k:Nat):Int).toNat = k:=by omega
    have hg:=g.acc _ (List.getElem_mem hlt)
    have kc0:GH.cell? G' (((adr A1).add (k * 10)).add 0) = some (.int .i64 (H.acc[k]).index):=(hcp1 k hlt).cell (j:=0) rfl
    have kc1:=hcb1 k hlt
    generalize hxe:H.acc[k] = e at *
    obtain ⟨-,-,hg1,hg2,hg3⟩:=hg
    have ql:=refLess_s G' H.pr H.pn e.round e.node
    rw [decide_eq_false hg3] at ql
    have hA:=hs1 (by omega)
    repeat' (first|apply v_seq|apply v_region|apply v_nil|apply v_skip|apply v_block|(apply v_pure;(case hop=>first|(apply p_move <;> rfl)|(apply p_lt <;> rfl)|(apply p_lenSlice <;> rfl)|(apply p_fieldAddrB <;> rfl)|(apply p_fieldAddr <;> rfl)|(apply p_indexAddrS;(case hx=>rfl);(case hi=>rfl);(case h0=>omega);(case h=>omega);(case hA=>assumption))|fail);(case hd=>rfl))|(apply v_cond;(case hc=>rfl);all_goals (intro h;(try simp only [reduceCtorEq,zzz] at h);first|(exfalso;omega)|skip))|(apply v_read;(case hop=>(apply r_loadN;rfl;exact CellsAt.frozen kc1;rfl));(case hd=>rfl))|(apply v_read;(case hop=>(apply r_load1;rfl;(apply Cell.own;(case h=>(repeat (exact mhd _)));rfl)));(case hd=>rfl))|(apply v_alloc;(case hz=>rfl);(case hd=>rfl);intro b)|(apply v_store;(case hp=>rfl);(case hx=>rfl);(case hc=>rfl);(case hsz=>rfl);(case h1=>rfl);(case hb=>(repeat (exact mhd _)));(case hfit=>exact nle rfl);(case hov=>((repeat (first|with_reducible exact ov_nil|apply ov_cons));done));(case hu=>repeat (exact Upd.here _ _)))|fail)
    refine d_start _ (by kernel_rfl) (by kernel_rfl) (by kernel_rfl) (fun _ he=>he) ?_
    all_goals (apply dtk 0;(case hi=>rfl);(case hop=>(apply prd;apply p_fieldAddrB <;> rfl));(case hq=>kernel_rfl))
    all_goals (apply dtk 1;(case hi=>rfl);(case hop=>(apply r_load1;rfl;(apply Cell.own;(case h=>(repeat (first|exact mhd _|apply mtl)));rfl)));(case hq=>kernel_rfl))
    all_goals (apply dtk 2;(case hi=>rfl);(case hop=>(apply prd;apply p_move <;> rfl));(case hq=>kernel_rfl))
    all_goals (apply dtk 3;(case hi=>rfl);(case hop=>(apply prd;apply p_indexAddrS;(case hx=>rfl);(case hi=>rfl);(case h0=>omega);(case h=>omega);(case hA=>assumption)));(case hq=>kernel_rfl))
    all_goals (apply dtk 4;(case hi=>rfl);(case hop=>(apply prd;apply p_fieldAddr <;> rfl));(case hq=>kernel_rfl))
    all_goals (apply dtk 5;(case hi=>rfl);(case hop=>((apply r_load1;rfl;exact Cell.frozen kc0)));(case hq=>kernel_rfl))
    all_goals (apply dtk 6;(case hi=>rfl);(case hop=>(apply prd;apply p_fieldAddrB <;> rfl));(case hq=>kernel_rfl))
    all_goals (apply dtk 7;(case hi=>rfl);(case hop=>(apply r_load1;rfl;(apply Cell.own;(case h=>(repeat (first|exact mhd _|apply mtl)));rfl)));(case hq=>kernel_rfl))
    all_goals (apply dtk 8;(case hi=>rfl);(case hop=>(apply prd;apply p_le <;> rfl));(case hq=>kernel_rfl))
    all_goals (apply dtk 9;(case hi=>rfl);(case hop=>(apply prd;apply p_move <;> rfl));(case hq=>kernel_rfl))
    all_goals (try (apply d_guardB 10;(case hi=>rfl);(case hgd=>rfl);(case h1=>rfl);(case h2=>rfl);all_goals (intro h;(try simp only [reduceCtorEq,zzz] at h);first|(exfalso;omega)|skip)))
    all_goals (apply dtg 10;(case hi=>rfl);(case hg=>rfl);(case hop=>(apply prd;apply p_fieldAddrB <;> rfl));(case hq=>kernel_rfl))
    all_goals (try (apply d_guardB 11;(case hi=>rfl);(case hgd=>rfl);(case h1=>rfl);(case h2=>rfl);all_goals (intro h;(try simp only [reduceCtorEq,zzz] at h))))
    all_goals (apply dtg 11;(case hi=>rfl);(case hg=>rfl);(case hop=>(apply r_load1;rfl;(apply Cell.own;(case h=>(repeat (exact mhd _)));rfl)));(case hq=>kernel_rfl))
    all_goals (try (apply d_guardB 12;(case hi=>rfl);(case hgd=>rfl);(case h1=>rfl);(case h2=>rfl);all_goals (intro h;(try simp only [reduceCtorEq,zzz] at h))))
    all_goals (apply dtg 12;(case hi=>rfl);(case hg=>rfl);(case hop=>(apply prd;apply p_eq <;> rfl));(case hq=>kernel_rfl))
    all_goals (apply dtk 13;(case hi=>rfl);(case hop=>(apply prd;apply p_pickF <;> rfl));(case hq=>kernel_rfl))
    all_goals (apply dtk 14;(case hi=>rfl);(case hop=>(apply prd;apply p_move <;> rfl));(case hq=>kernel_rfl))
    all_goals (try (apply d_guardB 15;(case hi=>rfl);(case hgd=>rfl);(case h1=>rfl);(case h2=>rfl);all_goals (intro h;(try simp only [reduceCtorEq,zzz] at h);first|(exfalso;omega)|skip)))
    all_goals (apply dtg 15;(case hi=>rfl);(case hg=>rfl);(case hop=>(apply prd;apply p_fieldAddrB <;> rfl));(case hq=>kernel_rfl))
    all_goals (try (apply d_guardB 16;(case hi=>rfl);(case hgd=>rfl);(case h1=>rfl);(case h2=>rfl);all_goals (intro h;(try simp only [reduceCtorEq,zzz] at h))))
    all_goals (apply dtg 16;(case hi=>rfl);(case hg=>rfl);(case hop=>(apply r_loadNo;(case hx=>rfl);(case h=>(repeat (first|exact mhd _|apply mtl)));(case hd=>(repeat (first|with_reducible exact dt_nil|apply dt_here)));(case hn=>rfl)));(case hq=>kernel_rfl))
    all_goals (try (apply d_guardB 17;(case hi=>rfl);(case hgd=>rfl);(case h1=>rfl);(case h2=>rfl);all_goals (intro h;(try simp only [reduceCtorEq,zzz] at h))))
    all_goals (apply dtg 17;(case hi=>rfl);(case hg=>rfl);(case hop=>(apply r_loadNo;(case hx=>rfl);(case h=>(repeat (exact mhd _)));(case hd=>(repeat (first|with_reducible exact dt_nil|apply dt_here)));(case hn=>rfl)));(case hq=>kernel_rfl))
    all_goals (try (apply d_guardB 18;(case hi=>rfl);(case hgd=>rfl);(case h1=>rfl);(case h2=>rfl);all_goals (intro h;(try simp only [reduceCtorEq,zzz] at h))))
    all_goals (apply d_callJG 18 (hs:=ql);(case hi=>rfl);(case hg=>rfl);(case hr=>kernel_rfl);(case ha=>rfl);(case hd=>rfl))
    all_goals (apply dtk 19;(case hi=>rfl);(case hop=>(apply prd;apply p_pickF <;> rfl));(case hq=>kernel_rfl))
    all_goals (apply d_done;(case hr=>kernel_rfl))
    repeat' (first|apply v_region|apply v_nil|apply v_skip|apply v_blk|(apply v_pure;(case hop=>first|(apply p_move <;> rfl)|(apply p_assign <;> rfl)|(apply p_add;(case hx=>rfl);(case hy=>rfl);(case h=>omega))|fail);(case hd=>rfl))|(apply v_condF;(case hc=>rfl))|fail)
    refine v_drop (ν:=[(hb',_)]) (by repeat (first|exact List.Sublist.refl _|apply List.Sublist.cons)) ?_
    refine v_again rfl ⟨rfl,rfl,k + 1,by omega,rfl⟩ (by simp [headI];omega)
  repeat' (first|apply v_seq|apply v_region|apply v_nil|apply v_block|(apply v_exit;(case hp=>rfl))|(apply v_pure;(case hop=>first|(apply p_move <;> rfl)|(apply p_lt <;> rfl)|(apply p_assign <;> rfl)|(apply p_lenSlice <;> rfl)|(apply p_fieldAddrB <;> rfl)|fail);(case hd=>rfl))|(apply v_cond;(case hc=>rfl);all_goals (intro h;(try simp only [reduceCtorEq,zzz] at h);first|(exfalso;omega)|skip))|(apply v_read;(case hop=>(apply r_load1;rfl;(apply Cell.own;(case h=>(repeat (exact mhd _)));rfl)));(case hd=>rfl))|fail)
  refine v_loop [5,1] (fun us G2 μ'=>G2 = G' ∧ μ' = [(hb',hardO (hdL H.pr H.pn H.base (.slice A0 H.image.length c0) (.slice A1 H.acc.length c1) (.slice A2 H.cho.length c2)))] ∧ ∃ k,k ≤ H.cho.length ∧ us = [Value.int .i64 (k:Nat),.pointer (some ⟨hb',0,none⟩)]) (fun us=>H.cho.length - (headI us).toNat) rfl ⟨rfl,rfl,0,by omega,rfl⟩ ?_
  rintro us G2 μ' ⟨rfl,rfl,k,hk,rfl⟩
  by_cases hlt:k < H.cho.length
  · have e1:((k:Nat):Int).toNat = k:=by omega
    have hg:=g.cho _ (List.getElem_mem hlt)
    have kc0:GH.cell? G2 (((adr A2).add (k * 10)).add 0) = some (.int .i64 (H.cho[k]).index):=(hcp2 k hlt).cell (j:=0) rfl
    have kc1:GH.cell? G2 ((((adr A2).add (k * 10)).add 1).add 0) = some (.int .i64 (H.cho[k]).round):=(hcb2 k hlt).cell (j:=0) rfl
    generalize hxe:H.cho[k] = e at *
    obtain ⟨-,-,hg1,hg2,hg3⟩:=hg
    have hA:=hs2 (by omega)
    repeat' (first|apply v_seq|apply v_region|apply v_nil|apply v_skip|apply v_block|(apply v_pure;(case hop=>first|(apply p_move <;> rfl)|(apply p_lt <;> rfl)|(apply p_lenSlice <;> rfl)|(apply p_fieldAddrB <;> rfl)|fail);(case hd=>rfl))|(apply v_cond;(case hc=>rfl);all_goals (intro h;(try simp only [reduceCtorEq,zzz] at h);first|(exfalso;omega)|skip))|(apply v_read;(case hop=>(apply r_load1;rfl;(apply Cell.own;(case h=>(repeat (exact mhd _)));rfl)));(case hd=>rfl))|fail)
    refine d_start _ (by kernel_rfl) (by kernel_rfl) (by kernel_rfl) (fun _ he=>he) ?_
    all_goals (apply dtk 0;(case hi=>rfl);(case hop=>(apply prd;apply p_fieldAddrB <;> rfl));(case hq=>kernel_rfl))
    all_goals (apply dtk 1;(case hi=>rfl);(case hop=>(apply r_load1;rfl;(apply Cell.own;(case h=>(repeat (exact mhd _)));rfl)));(case hq=>kernel_rfl))
    all_goals (apply dtk 2;(case hi=>rfl);(case hop=>(apply prd;apply p_move <;> rfl));(case hq=>kernel_rfl))
    all_goals (apply dtk 3;(case hi=>rfl);(case hop=>(apply prd;apply p_indexAddrS;(case hx=>rfl);(case hi=>rfl);(case h0=>omega);(case h=>omega);(case hA=>assumption)));(case hq=>kernel_rfl))
    all_goals (apply dtk 4;(case hi=>rfl);(case hop=>(apply prd;apply p_fieldAddr <;> rfl));(case hq=>kernel_rfl))
    all_goals (apply dtk 5;(case hi=>rfl);(case hop=>((apply r_load1;rfl;exact Cell.frozen kc0)));(case hq=>kernel_rfl))
    all_goals (apply dtk 6;(case hi=>rfl);(case hop=>(apply prd;apply p_fieldAddrB <;> rfl));(case hq=>kernel_rfl))
    all_goals (apply dtk 7;(case hi=>rfl);(case hop=>(apply r_load1;rfl;(apply Cell.own;(case h=>(repeat (exact mhd _)));rfl)));(case hq=>kernel_rfl))
    all_goals (apply dtk 8;(case hi=>rfl);(case hop=>(apply prd;apply p_le <;> rfl));(case hq=>kernel_rfl))
    all_goals (apply dtk 9;(case hi=>rfl);(case hop=>(apply prd;apply p_move <;> rfl));(case hq=>kernel_rfl))
    all_goals (try (apply d_guardB 10;(case hi=>rfl);(case hgd=>rfl);(case h1=>rfl);(case h2=>rfl);all_goals (intro h;(try simp only [reduceCtorEq,zzz] at h);first|(exfalso;omega)|skip)))
    all_goals (apply dtg 10;(case hi=>rfl);(case hg=>rfl);(case hop=>(apply prd;apply p_fieldAddrB <;> rfl));(case hq=>kernel_rfl))
    all_goals (try (apply d_guardB 11;(case hi=>rfl);(case hgd=>rfl);(case h1=>rfl);(case h2=>rfl);all_goals (intro h;(try simp only [reduceCtorEq,zzz] at h))))
    all_goals (apply dtg 11;(case hi=>rfl);(case hg=>rfl);(case hop=>(apply r_load1;rfl;(apply Cell.own;(case h=>(repeat (exact mhd _)));rfl)));(case hq=>kernel_rfl))
    all_goals (try (apply d_guardB 12;(case hi=>rfl);(case hgd=>rfl);(case h1=>rfl);(case h2=>rfl);all_goals (intro h;(try simp only [reduceCtorEq,zzz] at h))))
    all_goals (apply dtg 12;(case hi=>rfl);(case hg=>rfl);(case hop=>(apply prd;apply p_move <;> rfl));(case hq=>kernel_rfl))
    all_goals (try (apply d_guardB 13;(case hi=>rfl);(case hgd=>rfl);(case h1=>rfl);(case h2=>rfl);all_goals (intro h;(try simp only [reduceCtorEq,zzz] at h))))
    all_goals (apply dtg 13;(case hi=>rfl);(case hg=>rfl);(case hop=>(apply prd;apply p_indexAddrS;(case hx=>rfl);(case hi=>rfl);(case h0=>omega);(case h=>omega);(case hA=>assumption)));(case hq=>kernel_rfl))
    all_goals (try (apply d_guardB 14;(case hi=>rfl);(case hgd=>rfl);(case h1=>rfl);(case h2=>rfl);all_goals (intro h;(try simp only [reduceCtorEq,zzz] at h))))
    all_goals (apply dtg 14;(case hi=>rfl);(case hg=>rfl);(case hop=>(apply prd;apply p_fieldAddr <;> rfl));(case hq=>kernel_rfl))
    all_goals (try (apply d_guardB 15;(case hi=>rfl);(case hgd=>rfl);(case h1=>rfl);(case h2=>rfl);all_goals (intro h;(try simp only [reduceCtorEq,zzz] at h))))
    all_goals (apply dtg 15;(case hi=>rfl);(case hg=>rfl);(case hop=>(apply prd;apply p_fieldAddrB <;> rfl));(case hq=>kernel_rfl))
    all_goals (try (apply d_guardB 16;(case hi=>rfl);(case hgd=>rfl);(case h1=>rfl);(case h2=>rfl);all_goals (intro h;(try simp only [reduceCtorEq,zzz] at h))))
    all_goals (apply dtg 16;(case hi=>rfl);(case hg=>rfl);(case hop=>((apply r_load1;rfl;exact Cell.frozen kc1)));(case hq=>kernel_rfl))
    all_goals (try (apply d_guardB 17;(case hi=>rfl);(case hgd=>rfl);(case h1=>rfl);(case h2=>rfl);all_goals (intro h;(try simp only [reduceCtorEq,zzz] at h))))
    all_goals (apply dtg 17;(case hi=>rfl);(case hg=>rfl);(case hop=>(apply prd;apply p_ne <;> rfl));(case hq=>kernel_rfl))
    all_goals (apply dtk 18;(case hi=>rfl);(case hop=>(apply prd;apply p_pickF <;> rfl));(case hq=>kernel_rfl))
    all_goals (apply d_done;(case hr=>kernel_rfl))
    repeat' (first|apply v_region|apply v_nil|apply v_skip|apply v_blk|(apply v_pure;(case hop=>first|(apply p_move <;> rfl)|(apply p_assign <;> rfl)|(apply p_add;(case hx=>rfl);(case hy=>rfl);(case h=>omega))|fail);(case hd=>rfl))|(apply v_cond;(case hc=>rfl);all_goals (intro h;(try simp only [reduceCtorEq,zzz] at h);first|(exfalso;omega)|skip))|fail)
    refine v_again rfl ⟨rfl,rfl,k + 1,by omega,rfl⟩ (by simp [headI];omega)
  · repeat' (first|apply v_seq|apply v_region|apply v_nil|(apply v_exit;(case hp=>rfl))|(apply v_pure;(case hop=>first|(apply p_move <;> rfl)|(apply p_lt <;> rfl)|(apply p_assign <;> rfl)|(apply p_lenSlice <;> rfl)|(apply p_fieldAddrB <;> rfl)|fail);(case hd=>rfl))|(apply v_cond;(case hc=>rfl);all_goals (intro h;(try simp only [reduceCtorEq,zzz] at h);first|(exfalso;omega)|skip))|(apply v_read;(case hop=>(apply r_load1;rfl;(apply Cell.own;(case h=>(repeat (exact mhd _)));rfl)));(case hd=>rfl))|fail)
    refine v_ret [] (outsA1 rfl rfl) (by repeat (exact List.nil_sublist _)) ?_
    exact ⟨rfl,rfl⟩
theorem wraw_s {G:GH} {l bl:List Int} {sv bv:Value} (wb:Nat) (hs:Sl G 1 (IntR .u8) sv l) (hb:Sl G 1 (IntR .u8) bv bl) (hl:l.length ≤ 100000) (hbl:bl.length ≤ 100000) :
    Con Tryz.prog 136 #[.pointer (some ⟨wb,0,none⟩),bv] G [(wb,.cells [sv].toArray 130 (0,0))]
      (fun r G' μ'=>∃ v',μ' = [(wb,.cells [v'].toArray 130 (0,0))] ∧ Sl G' 1 (IntR .u8) v' (l ++ vbytes bl.length ++ bl)):=by
  obtain ⟨A,c,rfl,hlc,hcm,hsome,hel,hwf⟩:=hs.openInt
  have hvl:(l ++ vbytes bl.length).length ≤ 200000:=by
    have:=(vbytes_len (bl.length:Nat)).1
    rw [List.length_append]
    omega
  have hsb:=fun μ=>Src.ints (μ:=μ) hb
  have hwfb:=hb.openInt
  obtain ⟨A2,c2,rfl,hlc2,hcm2,-,-,hwf2⟩:=hwfb
  simp only [maxLen] at hcm2
  (refine v_enter Tryz.func136 rfl Tryz.ntmps136 rfl ?_;intro B _)
  repeat' (first|apply v_seq|apply v_region|apply v_nil|(apply v_pure;(case hop=>first|(apply p_move <;> rfl)|(apply p_lenSlice <;> rfl)|(apply p_fieldAddrB <;> rfl)|(apply p_nilCheck <;> rfl)|(apply p_neNil <;> rfl)|fail);(case hd=>rfl))|(apply v_condT;(case hc=>rfl))|(apply v_read;(case hop=>(apply r_load1;rfl;(apply Cell.own;(case h=>(repeat (exact mhd _)));rfl)));(case hd=>rfl))|fail)
  refine v_call (μ1:=[]) (μ2:=_) rfl (put_s (bl.length:Nat) hs (by omega) (by omega)) (List.Perm.refl _) rfl ?_
  rintro r G' μ1 - ⟨rfl,hg⟩
  repeat' (first|(apply v_pure;(case hop=>(apply p_move <;> rfl));(case hd=>rfl))|fail)
  refine v_append (e:=5) (sz:=1) (zero:=.int .u8 0) rfl (by omega) rfl rfl hg (List.Perm.refl _) (hsb _) (allOne_ints bl) (by omega) (by simp only [maxLen];omega) rfl fun v' ν' hg'=>?_
  obtain ⟨A1,c1,rfl,_⟩:=hg'.shape
  refine v_frz ν' (by repeat (exact PickA.here _)) ?_
  intro G1 hle hG
  repeat' (first|apply v_nil|(apply v_pure;(case hop=>first|(apply p_fieldAddrB <;> rfl)|(apply p_nilCheck <;> rfl)|fail);(case hd=>rfl))|(apply v_store;(case hp=>rfl);(case hx=>rfl);(case hc=>rfl);(case hsz=>rfl);(case h1=>rfl);(case hb=>(repeat (exact mhd _)));(case hfit=>exact nle rfl);(case hov=>((repeat (first|with_reducible exact ov_nil|apply ov_cons));done));(case hu=>repeat (exact Upd.here _ _)))|fail)
  refine v_end [(wb,_)] (outsA0 rfl) (by repeat (exact List.Sublist.refl _)) ?_
  refine ⟨_,rfl,?_⟩
  rw [← List.map_append,← List.length_append] at hg'
  rw [← List.length_append]
  refine hg'.ints hG fun x hx=>?_
  rcases List.mem_append.1 hx with hx|hx
  · rcases List.mem_append.1 hx with hx|hx
    · exact hwf x hx
    · exact vbytes_wf (by omega) x hx
  · exact hwf2 x hx
def sbytes (s:ByteArray):List Int:=s.data.toList.map fun b=>(b.toNat:Int)
theorem sbytes_length (s:ByteArray):(sbytes s).length = s.size:=by
  rw [sbytes,List.length_map,Array.length_toList]
  rfl
attribute [local semireducible] MoveOp in
theorem m_convSB {P:Program} {ty src dst e:TypeId} {σ:Env} {G:GH} {μ:OH} {x:Operand} {s:ByteArray} (hS:P.underlying src = some .string) (hD:P.underlying dst = some (.slice e)) (hE:P.underlying e = some (.int .u8)) (hx:Env.ev σ x = some (.string s)) (hs:s.size ≤ maxLen) :
    MoveOp P (.convert src dst x) ty σ G μ (fun v' G' μ'=>∃ b cap m,v' = .slice (some ⟨b,0,none⟩) s.size cap ∧ s.size ≤ cap ∧ cap ≤ maxLen ∧ G' = G ∧ μ' = (b,.cells (bytesRow s cap) e m) :: μ):=by
  intro dst' pos af g ρ hρ w hw a K Q hK
  have hr:=run_bytes_of_string (P:=P) w src dst e s hS hD hE
  have hex:(execOp ρ ⟨dst',.convert src dst x,ty,pos,af,g⟩).run P w = .ok (.value (.slice (some ⟨w.heap.size,0,none⟩) s.size (grownCap w s.size 0 e)))
      (w.drew.alloc (.cells (bytesRow s (grownCap w s.size 0 e)) e ((bytesRow s (grownCap w s.size 0 e)).size,(bytesRow s (grownCap w s.size 0 e)).size + 1))):=by
    simp [execOp,hρ _ _ hx,hr]
  rw [hex]
  have hst:=(Step.drew hw 1).trans (Step.alloc (Step.drew hw 1).mem (.cells (bytesRow s (grownCap w s.size 0 e)) e ((bytesRow s (grownCap w s.size 0 e)).size,(bytesRow s (grownCap w s.size 0 e)).size + 1)))
  exact hK _ _ G _ hst ⟨_,_,_,rfl,grownCap_ge w s.size 0 e,grownCap_le_maxLen w s.size 0 e hs,rfl,rfl⟩
theorem sl_bytes {G:GH} {b cap:Nat} {s:ByteArray} {e:TypeId} {m:Nat × Nat} (h:G b = some (.cells (bytesRow s cap) e m)) (h1:s.size ≤ cap) (h2:cap ≤ maxLen):Sl G 1 (IntR .u8) (.slice (some ⟨b,0,none⟩) s.size cap) (sbytes s):=by
  refine ⟨some ⟨b,0,none⟩,cap,by rw [sbytes_length],by rw [sbytes_length];exact h1,h2,fun h0=>⟨_,rfl,fun i y hy=>?_⟩⟩
  have hi:i < s.data.size:=by
    have:=(List.getElem?_eq_some_iff.1 hy).1
    rw [sbytes_length] at this
    exact this
  simp only [sbytes,List.getElem?_map,Array.getElem?_toList,Array.getElem?_eq_getElem hi,Option.map_some,Option.some.injEq] at hy
  subst hy
  refine ⟨[.int .u8 ((s.data[i]).toNat:Int)],rfl,⟨rfl,?_⟩,?_⟩
  · have:=(s.data[i]).toNat_lt
    exact WalkArith.wf_u8 (by omega)
  · intro j u hu
    have hj:j = 0:=by have:=(List.getElem?_eq_some_iff.1 hu).1;simp at this;exact this
    subst hj
    simp only [List.getElem?_cons_zero,Option.some.injEq] at hu
    subst hu
    rw [add_mk,add_mk]
    simp only [GH.cell?,h,Option.isSome_none,Bool.false_eq_true,if_false,Nat.zero_add,Nat.mul_one,Nat.add_zero]
    exact bytesRow_at s cap i hi
theorem wtext_s {G:GH} {l:List Int} {sv:Value} (wb:Nat) (s:ByteArray) (hs:Sl G 1 (IntR .u8) sv l) (hl:l.length ≤ 100000) (hz:s.size ≤ 100000) :
    Con Tryz.prog 194 #[.pointer (some ⟨wb,0,none⟩),.string s] G [(wb,.cells [sv].toArray 130 (0,0))]
      (fun r G' μ'=>∃ v',μ' = [(wb,.cells [v'].toArray 130 (0,0))] ∧ Sl G' 1 (IntR .u8) v' (l ++ vbytes s.size ++ sbytes s)):=by
  (refine v_enter Tryz.func194 rfl Tryz.ntmps194 rfl ?_;intro B _)
  repeat' (first|apply v_region|(apply v_pure;(case hop=>(apply p_move <;> rfl));(case hd=>rfl))|fail)
  refine v_move (m_convSB Tryz.underlying9 Tryz.underlying24 Tryz.underlying5 rfl (by simp only [maxLen];omega)) rfl ?_
  rintro v G' μ' ⟨b,cap,m,rfl,h1,h2,rfl,rfl⟩
  refine v_freeze1 fun G1 hle hb=>?_
  have hsb:=sl_bytes hb h1 h2
  repeat' (fail)
  have qr:=wraw_s wb (hs.mono hle) hsb hl (by rw [sbytes_length];omega)
  rw [sbytes_length] at qr
  refine v_call (μ1:=[(wb,_)]) (μ2:=_) rfl qr (List.Perm.refl _) rfl ?_
  rintro r G2 μ2 - ⟨v',rfl,hv⟩
  repeat' (first|apply v_nil)
  refine v_end [(wb,_)] (outsA0 rfl) (by repeat (exact List.Sublist.refl _)) ?_
  exact ⟨_,rfl,hv⟩
end Go.Proofs.YtpemabgfmnhhnaaGreatDoor
/-
  pack, the fifth part: a reader: a block of three cells: its bytes (frozen), where it stands, its error.
-/
set_option linter.unusedSimpArgs false
set_option linter.unusedVariables false
namespace Go.Proofs.YtpemabgfmnhhnaaGreatDoor
open Go.Vx Go.ChangeShapes Go.WideShapes Go.ChangeAt Go.RowKit
abbrev rdO (bv:Value) (at_ no:Int):Obj:=.cells [bv,.int .i64 at_,.int .i64 no].toArray 186 (0,0)
theorem newReader_s {G:GH} {l:List Int} {sv:Value} (hs:Sl G 1 (IntR .u8) sv l) (hl:l.length ≤ 1048000) :
    Con Tryz.prog 104 #[sv] G [] (fun r G' μ'=>GH.le G G' ∧ ∃ rb v',r = .pointer (some ⟨rb,0,none⟩) ∧ μ' = [(rb,rdO v' 0 0)] ∧ Sl G' 1 (IntR .u8) v' l):=by
  have hwf:=hs.openInt
  obtain ⟨A,c,rfl,hlc,hcm,-,-,hw⟩:=hwf
  (refine v_enter Tryz.func104 rfl Tryz.ntmps104 rfl ?_;intro B _)
  repeat' (first|apply v_seq|apply v_region|apply v_nil|(apply v_pure;(case hop=>first|(apply p_move <;> rfl)|(apply p_assign <;> rfl)|fail);(case hd=>rfl))|fail)
  refine v_call (μ1:=[]) (μ2:=_) rfl (bclone_s hs (by omega)) (List.Perm.refl _) rfl ?_
  rintro r G' μ1 - ⟨rfl,hg⟩
  refine v_frz μ1 (by repeat (exact PickA.here _)) ?_
  intro G1 hle hG
  have h1:=hg.ints hG hw
  obtain ⟨A1,c1,rfl,-,-⟩:=hg.shape
  repeat' (first|apply v_nil|(apply v_pure;(case hop=>first|(apply p_assign <;> rfl)|(apply p_build;(case hz=>rfl);(case hv=>(simp only [List.map_cons,List.map_nil];repeat (first|with_reducible exact evs_nil|(apply evs_cons;(case h1=>rfl)))));(case hb=>(apply bldL;repeat (first|exact bld_nil|(apply bld_cons;(case hpf=>rfl);(case hc=>rfl);(case hs=>rfl);(case hl=>rfl);(case ho=>((repeat (first|with_reducible exact ov_nil|apply ov_cons));done))))))));(case hd=>rfl))|(apply v_box (zs:=[.slice A1 l.length c1,.int .i64 0,.int .i64 0]);(case hx=>rfl);(case hz=>rfl);(case hd=>rfl);intro rb)|fail)
  refine v_ret [(_,_)] (outsA1 rfl rfl) (by repeat (exact List.Sublist.refl _)) ?_
  exact ⟨hle,_,_,rfl,rfl,h1⟩
theorem rerr_s (G:GH) (rb:Nat) (bv:Value) (at_ no:Int):Con Tryz.prog 149 #[.pointer (some ⟨rb,0,none⟩)] G [(rb,rdO bv at_ no)] (Keeps (.int .i64 no) G [(rb,rdO bv at_ no)]):=by
  apply Con.keeps
  (refine v_enter Tryz.func149 rfl Tryz.ntmps149 rfl ?_;intro B _)
  repeat' (first|apply v_seq|apply v_region|apply v_nil|apply v_skip|(apply v_pure;(case hop=>first|(apply p_move <;> rfl)|(apply p_assign <;> rfl)|(apply p_fieldAddrB <;> rfl)|(apply p_nilCheck <;> rfl)|(apply p_eqNil <;> rfl)|fail);(case hd=>rfl))|(apply v_condF;(case hc=>rfl))|(apply v_read;(case hop=>(apply r_load1;rfl;(apply Cell.own;(case h=>(repeat (exact mhd _)));rfl)));(case hd=>rfl))|fail)
  refine v_ret [(rb,_)] (outsA1 rfl rfl) (by repeat (exact List.Sublist.refl _)) ?_
  exact ⟨rfl,rfl⟩
def dvk:Nat → List Int → Option (Int × List Int)
  | _,[]=>none
  | k,c :: r=>if (c = 0 ∧ 0 < k) ∨ 8 < k then none else if c < 128 then some (c,r) else (dvk (k + 1) r).map fun p=>(c - 128 + 128 * p.1,p.2)
theorem dvk_nil (k:Nat):dvk k [] = none:=by unfold dvk;rfl
theorem dvk_cons (k:Nat) (c:Int) (r:List Int):dvk k (c :: r) = if (c = 0 ∧ 0 < k) ∨ 8 < k then none else if c < 128 then some (c,r) else (dvk (k + 1) r).map fun p=>(c - 128 + 128 * p.1,p.2):=by
  rw [dvk]
theorem pow128 (k:Nat):(128:Int) ^ (k + 1) = 128 * 128 ^ k:=by rw [Int.pow_succ,Int.mul_comm]
theorem dvk_vb:∀ (f k:Nat) (m:Int) (r:List Int),8 ≤ f + k → k ≤ 8 → 0 ≤ m → m < 128 ^ (9 - k) → (0 < k → 0 < m) → dvk k (vb f m ++ r) = some (m,r)
  | 0,k,m,r,h1,h2,h3,h4,h5=>by
    have:k = 8:=by omega
    subst this
    have:m < 128:=by simpa using h4
    rw [vb,List.cons_append,List.nil_append,dvk_cons,if_neg (by omega),if_pos this]
  | f + 1,k,m,r,h1,h2,h3,h4,h5=>by
    rw [vb_succ]
    by_cases hm:m < 128
    · rw [if_pos hm,List.cons_append,List.nil_append,dvk_cons,if_neg (by omega),if_pos hm]
    · rw [if_neg hm,List.cons_append,dvk_cons,if_neg (by omega),if_neg (by omega)]
      have hk:k ≤ 7:=by
        by_cases hk:k = 8
        · subst hk
          have:m < 128:=by simpa using h4
          omega
        · omega
      have e:9 - k = (9 - (k + 1)) + 1:=by omega
      rw [e,pow128] at h4
      rw [dvk_vb f (k + 1) (m / 128) r (by omega) (by omega) (by omega) (by omega) (by omega)]
      simp only [Option.map_some,Option.some.injEq,Prod.mk.injEq,and_true]
      omega
theorem vb_dvk:∀ (r:List Int) (k:Nat) (m:Int) (r':List Int),(∀ x ∈ r,0 ≤ x ∧ x ≤ 255) → dvk k r = some (m,r') → k ≤ 8 ∧ 0 ≤ m ∧ m < 128 ^ (9 - k) ∧ (0 < k → 0 < m) ∧ ∀ f,8 ≤ f + k → r = vb f m ++ r'
  | [],k,m,r',hw,h=>by rw [dvk_nil] at h;cases h
  | c :: r,k,m,r',hw,h=>by
    have hc:=hw c (by simp)
    rw [dvk_cons] at h
    by_cases h1:(c = 0 ∧ 0 < k) ∨ 8 < k
    · rw [if_pos h1] at h;cases h
    rw [if_neg h1] at h
    by_cases h2:c < 128
    · rw [if_pos h2] at h
      cases h
      refine ⟨by omega,by omega,?_,by omega,fun f hf=>?_⟩
      · have e:9 - k = (8 - k) + 1:=by omega
        rw [e,pow128]
        have:(0:Int) < 128 ^ (8 - k):=Int.pow_pos (by decide)
        omega
      · cases f with
        | zero=>rfl
        | succ f=>rw [vb_succ,if_pos h2];rfl
    · rw [if_neg h2] at h
      obtain ⟨p,hp,he⟩:=Option.map_eq_some_iff.1 h
      obtain ⟨m',r2⟩:=p
      cases he
      obtain ⟨i1,i2,i3,i4,i5⟩:=vb_dvk r (k + 1) m' r2 (fun x hx=>hw x (by simp [hx])) hp
      have:=i4 (by omega)
      refine ⟨by omega,by omega,?_,by omega,fun f hf=>?_⟩
      · have e:9 - k = (9 - (k + 1)) + 1:=by omega
        rw [e,pow128]
        omega
      · cases f with
        | zero=>omega
        | succ f =>
          have e1:(c - 128 + 128 * m') % 128 + 128 = c:=by omega
          have e2:(c - 128 + 128 * m') / 128 = m':=by omega
          simp only at *
          rw [vb_succ,if_neg (by omega),e1,e2,List.cons_append,← i5 f (by omega)]
theorem p63:(128:Int) ^ 9 = 9223372036854775808:=by decide
theorem dvk_vbytes {m:Int} (r:List Int) (h0:0 ≤ m) (h1:m ≤ 9223372036854775807):dvk 0 (vbytes m ++ r) = some (m,r):=by
  have e:max m 0 = m:=by omega
  rw [vbytes,e]
  refine dvk_vb 10 0 m r (by omega) (by omega) h0 ?_ (by omega)
  rw [show 9 - 0 = 9 from rfl,p63]
  omega
theorem vbytes_dvk {r:List Int} {m:Int} {r':List Int} (hw:∀ x ∈ r,0 ≤ x ∧ x ≤ 255) (h:dvk 0 r = some (m,r')):0 ≤ m ∧ m ≤ 9223372036854775807 ∧ r = vbytes m ++ r':=by
  obtain ⟨-,h0,h1,-,h2⟩:=vb_dvk r 0 m r' hw h
  rw [show 9 - 0 = 9 from rfl,p63] at h1
  have e:max m 0 = m:=by omega
  refine ⟨h0,by omega,?_⟩
  rw [vbytes,e]
  exact h2 10 (by omega)
theorem and127:∀ a:Nat,a < 256 → (BitVec.ofNat 8 a &&& 127#8).toNat = a % 128:=by decide +kernel
theorem p_and127 {σ:Env} {ty:TypeId} {x y:Operand} {a:Int} {t t':TypeId} (hx:Env.ev σ x = some (.int .u8 a)) (hy:Env.ev σ y = some (.int .u8 127)) (h:0 ≤ a ∧ a ≤ 255):PureOp Tryz.prog (.binOp .and t x y t') ty σ (.int .u8 (a % 128)):=by
  have:=p_and (P:=Tryz.prog) (ty:=ty) (t:=t) (t':=t') hx hy
  have e:IntKind.u8.wrap (BitVec.ofInt IntKind.u8.bits a &&& BitVec.ofInt IntKind.u8.bits 127).toNat = a % 128:=by
    obtain ⟨m,rfl⟩:=Int.eq_ofNat_of_zero_le h.1
    have hlt:m < 256:=by omega
    have h1:=and127 m hlt
    have e1:BitVec.ofInt IntKind.u8.bits (m:Int) = BitVec.ofNat 8 m:=by
      show BitVec.ofInt 8 (m:Int) = _
      exact BitVec.ofInt_natCast 8 m
    have e2:BitVec.ofInt IntKind.u8.bits 127 = 127#8:=rfl
    rw [e1,e2]
    show IntKind.u8.wrap (((BitVec.ofNat 8 m &&& 127#8).toNat:Nat):Int) = _
    rw [h1,IntKind.wrap_u8]
    omega
  rwa [e] at this
theorem p_convU64 {σ:Env} {ty:TypeId} {x:Operand} {k k'':IntKind} {a:Int} {t u:TypeId} [Ty Tryz.prog t (.int k'')] [Ty Tryz.prog u (.int .u64)] (hx:Env.ev σ x = some (.int k a)) (h:0 ≤ a ∧ a ≤ 9223372036854775807):PureOp Tryz.prog (.convert t u x) ty σ (.int .u64 a):=by
  have:=p_conv (P:=Tryz.prog) (ty:=ty) (t:=t) (u:=u) hx
  rw [IntKind.wrap_u64,show a % 18446744073709551616 = a by omega] at this
  exact this
theorem two7 (k:Nat):(2:Int) ^ (7 * k) = 128 ^ k:=by rw [Int.pow_mul];rfl
attribute [local semireducible] PureOp in
theorem p_shlU {σ:Env} {ty:TypeId} {x y:Operand} {k':IntKind} {a s:Int} {k:Nat} {t t':TypeId} (hx:Env.ev σ x = some (.int .u64 a)) (hy:Env.ev σ y = some (.int k' s)) (hs:s = 7 * (k:Nat)) (hk:k ≤ 8) (h:0 ≤ a * 128 ^ k ∧ a * 128 ^ k ≤ 9223372036854775807):PureOp Tryz.prog (.binOp .shl t x y t') ty σ (.int .u64 (a * 128 ^ k)):=by
  subst hs
  intro dst pos af g ρ hρ w
  have:=shift_shl .u64 k' a (7 * (k:Nat)) (by omega) (by show _ ≤ (64:Int);omega)
  have e:(7 * ((k:Nat):Int)).toNat = 7 * k:=by omega
  have hw:IntKind.u64.wrap (a * 128 ^ k) = a * 128 ^ k:=by rw [IntKind.wrap_u64];omega
  simp [execOp,hρ _ _ hx,hρ _ _ hy,eqGuard,binOp_shl,this]
  rw [e,two7,hw]
theorem p_orU {σ:Env} {ty:TypeId} {x y:Operand} {a b:Int} {k:Nat} {t t':TypeId} (hx:Env.ev σ x = some (.int .u64 a)) (hy:Env.ev σ y = some (.int .u64 (b * 128 ^ k))) (h0:0 ≤ a) (h1:a < 128 ^ k) (h2:0 ≤ b) (h3:a + b * 128 ^ k ≤ 9223372036854775807):PureOp Tryz.prog (.binOp .or t x y t') ty σ (.int .u64 (a + b * 128 ^ k)):=by
  have:=p_or (P:=Tryz.prog) (ty:=ty) (t:=t) (t':=t') hx hy
  have e:IntKind.u64.wrap (BitVec.ofInt IntKind.u64.bits a ||| BitVec.ofInt IntKind.u64.bits (b * 128 ^ k)).toNat = a + b * 128 ^ k:=by
    obtain ⟨m,rfl⟩:=Int.eq_ofNat_of_zero_le h0
    obtain ⟨n,rfl⟩:=Int.eq_ofNat_of_zero_le h2
    have ek:(128:Int) ^ k = ((2 ^ (7 * k):Nat):Int):=by rw [← two7];simp
    rw [ek] at h1 h3 ⊢
    rw [← Int.natCast_mul] at h3 ⊢
    have hm:m < 2 ^ (7 * k):=by omega
    have hor:(m ||| n * 2 ^ (7 * k)) = m + n * 2 ^ (7 * k):=by
      rw [Nat.or_comm,Nat.mul_comm,← Nat.two_pow_add_eq_or_of_lt hm,Nat.add_comm]
    generalize hq:n * 2 ^ (7 * k) = q at *
    have e1:BitVec.ofInt IntKind.u64.bits (m:Int) = BitVec.ofNat 64 m:=by
      show BitVec.ofInt 64 (m:Int) = _
      exact BitVec.ofInt_natCast 64 m
    have e2:BitVec.ofInt IntKind.u64.bits (q:Int) = BitVec.ofNat 64 q:=by
      show BitVec.ofInt 64 (q:Int) = _
      exact BitVec.ofInt_natCast 64 q
    rw [e1,e2]
    show IntKind.u64.wrap (((BitVec.ofNat 64 m ||| BitVec.ofNat 64 q).toNat:Nat):Int) = _
    rw [BitVec.toNat_or,BitVec.toNat_ofNat,BitVec.toNat_ofNat,Nat.mod_eq_of_lt (by omega),Nat.mod_eq_of_lt (by omega),hor,IntKind.wrap_u64]
    omega
  rwa [e] at this
def dve:Nat → List Int → Int
  | _,[]=>1
  | k,c :: r=>if (c = 0 ∧ 0 < k) ∨ 8 < k then 3 else if c < 128 then 0 else dve (k + 1) r
theorem dve_nil (k:Nat):dve k [] = 1:=by unfold dve;rfl
theorem dve_cons (k:Nat) (c:Int) (r:List Int):dve k (c :: r) = if (c = 0 ∧ 0 < k) ∨ 8 < k then 3 else if c < 128 then 0 else dve (k + 1) r:=by rw [dve]
theorem dve_none:∀ (r:List Int) (k:Nat),dvk k r = none ↔ dve k r ≠ 0
  | [],k=>by rw [dvk_nil,dve_nil];simp
  | c :: r,k=>by
    rw [dvk_cons,dve_cons]
    split
    · simp
    · split
      · simp
      · rw [Option.map_eq_none_iff];exact dve_none r (k + 1)
def GetV (l:List Int) (at_:Nat):Value:=match dvk 0 (l.drop at_) with
  | some (m,r')=>.tuple [.int .i64 m,.int .i64 (l.length - r'.length:Nat),.int .i64 0].toArray
  | none=>.tuple [.int .i64 0,.int .i64 0,.int .i64 (dve 0 (l.drop at_))].toArray
def dvs (n:Int) (k:Nat) (o:Option (Int × List Int)):Option (Int × List Int):=o.map fun p=>(n + 128 ^ k * p.1,p.2)
theorem dvs_step (n:Int) (k:Nat) (c:Int) (r:List Int) (h1:¬ ((c = 0 ∧ 0 < k) ∨ 8 < k)) (h2:¬ c < 128) (hc:c ≤ 255):dvs n k (dvk k (c :: r)) = dvs (n + c % 128 * 128 ^ k) (k + 1) (dvk (k + 1) r):=by
  rw [dvk_cons,if_neg h1,if_neg h2]
  cases dvk (k + 1) r with
  | none=>rfl
  | some p =>
    simp only [dvs,Option.map_some,Option.some.injEq,Prod.mk.injEq,and_true]
    rw [pow128,show c % 128 = c - 128 by omega,Int.mul_add,Int.sub_mul,Int.mul_sub,Int.mul_comm c,Int.mul_comm 128 (128 ^ k)]
    have:(128:Int) ^ k * (128 * p.1) = 128 ^ k * 128 * p.1:=by rw [Int.mul_assoc]
    omega
theorem stepB {n c:Int} {k:Nat} (hn:0 ≤ n ∧ n < 128 ^ k) (hk:k ≤ 8):0 ≤ c % 128 * 128 ^ k ∧ n + c % 128 * 128 ^ k < 128 ^ (k + 1) ∧ n + c % 128 * 128 ^ k ≤ 9223372036854775807:=by
  have h0:(0:Int) < 128 ^ k:=Int.pow_pos (by decide)
  have h1:0 ≤ c % 128 * 128 ^ k:=Int.mul_nonneg (by omega) (by omega)
  have h2:c % 128 * 128 ^ k ≤ 127 * 128 ^ k:=Int.mul_le_mul_of_nonneg_right (by omega) (by omega)
  have h3:(128:Int) ^ (k + 1) ≤ 128 ^ 9:=by
    have:(128:Nat) ^ (k + 1) ≤ 128 ^ 9:=Nat.pow_le_pow_right (by decide) (by omega)
    exact_mod_cast this
  rw [p63] at h3
  rw [pow128] at *
  omega
theorem dropC {l:List Int} {i:Nat} (h:i < l.length):l.drop i = l[i] :: l.drop (i + 1):=List.drop_eq_getElem_cons h
theorem getR_some {l:List Int} {at_:Nat} {m:Int} {r':List Int} {e:Int} (h:dvk 0 (l.drop at_) = some (m,r')) (he:e = (l.length - r'.length:Nat)) : .tuple #[.int .i64 m,.int .i64 e,.int .i64 0] = GetV l at_:=by
  unfold GetV
  rw [h,he]
theorem getR_none {l:List Int} {at_:Nat} {e:Int} (h:dvk 0 (l.drop at_) = none) (he:dve 0 (l.drop at_) = e) : .tuple #[.int .i64 0,.int .i64 0,.int .i64 e] = GetV l at_:=by
  unfold GetV
  rw [h,← he]
set_option maxHeartbeats 2000000 in
theorem vget_s {G:GH} {l:List Int} {sv:Value} (at_:Nat) (hs:Sl G 1 (IntR .u8) sv l) (hl:l.length ≤ 1048576) (ha:at_ ≤ l.length):Con Tryz.prog 144 #[sv,.int .i64 (at_:Nat)] G [] (Just (GetV l at_) G):=by
  obtain ⟨A,c,rfl,hlc,hcm,hsome,hel,hwf⟩:=hs.openInt
  simp only [maxLen] at hcm
  have hwf':∀ i (h:i < l.length),0 ≤ l[i] ∧ l[i] ≤ 255:=fun i h=>by
    have:=hwf _ (List.getElem_mem h)
    simp [Lit.wf,IntKind.min,IntKind.max,IntKind.signed,IntKind.bits] at this
    omega
  (refine v_enter Tryz.func144 rfl Tryz.ntmps144 rfl ?_;intro B _)
  repeat' (first|apply v_seq|apply v_region|apply v_nil|apply v_skip|apply v_block|(apply v_take;(case hg=>rfl))|(apply v_pure;(case hop=>first|(apply p_move <;> rfl)|(apply p_lt <;> rfl)|(apply p_gt <;> rfl)|(apply p_assign <;> rfl)|(apply p_pickF <;> rfl)|(apply p_lenSlice <;> rfl)|fail);(case hd=>rfl))|(apply v_cond;(case hc=>rfl);all_goals (intro h;(try simp only [reduceCtorEq,zzz] at h);first|(exfalso;omega)|skip))|(apply v_guardB;(case h1=>rfl);(case h2=>rfl);all_goals (intro h;(try simp only [reduceCtorEq,zzz] at h);first|(exfalso;omega)|skip))|(apply v_scope)|(apply v_label)|fail)
  refine v_loopI (ι:=Nat × Int) [8,7,0,1] (fun x us G2 μ'=>G2 = G ∧ μ' = [] ∧ us = [Value.int .i64 (at_ + x.1:Nat),.int .u64 x.2,.slice A l.length c,.int .i64 (at_:Nat)] ∧ at_ + x.1 ≤ l.length ∧ x.1 ≤ 9 ∧ (0 ≤ x.2 ∧ x.2 < 128 ^ x.1) ∧ x.2 ≤ 9223372036854775807 ∧ dvk 0 (l.drop at_) = dvs x.2 x.1 (dvk x.1 (l.drop (at_ + x.1))) ∧ dve 0 (l.drop at_) = dve x.1 (l.drop (at_ + x.1))) (fun x=>l.length - x.1) rfl (0,0) ⟨rfl,rfl,rfl,by simpa using ha,by simp,by simp,by simp,?_,rfl⟩ ?_
  · simp only [dvs,Nat.add_zero,Int.zero_add,Int.pow_zero,Int.one_mul]
    cases dvk 0 (l.drop at_) <;> rfl
  rintro ⟨k,n⟩ us G2 μ' ⟨rfl,rfl,rfl,hk,hk9,hn,hn63,he,hee⟩
  simp only at hk hk9 hn hn63 he hee
  by_cases hlt:at_ + k < l.length
  · have hel':=hel _ hlt
    have hcc:=hwf' _ hlt
    have hst:=dvs_step n k l[at_ + k] (l.drop (at_ + k + 1))
    rw [dropC hlt] at he hee
    rw [dve_cons] at hee
    generalize hcx:l[at_ + k] = cx at *
    have hsb:=stepB (n:=n) (c:=cx) (k:=k) hn
    by_cases hk8:k ≤ 8
    · obtain ⟨hb1,hb2,hb3⟩:=hsb hk8
      clear hsb
      try dsimp only
      repeat' (first|(apply v_pure;(case hop=>(apply p_and127;(case hx=>rfl);(case hy=>rfl);(case h=>exact hcc)));(case hd=>rfl))|(apply v_pure;(case hop=>(apply p_convU64;(case hx=>rfl);(case h=>omega)));(case hd=>rfl))|(apply v_pure;(case hop=>(apply p_shlU (k:=k);(case hx=>rfl);(case hy=>rfl);(case hs=>omega);(case hk=>omega);(case h=>omega)));(case hd=>rfl))|(apply v_pure;(case hop=>(apply p_orU (k:=k);(case hx=>rfl);(case hy=>rfl);(case h0=>omega);(case h1=>exact hn.2);(case h2=>omega);(case h3=>omega)));(case hd=>rfl))|apply v_seq|apply v_region|apply v_nil|apply v_skip|apply v_block|apply v_blk|(apply v_exit;(case hp=>rfl))|(apply v_take;(case hg=>rfl))|(apply v_pass;(case hg=>rfl);(case hn=>rfl);(case hd=>rfl))|(apply v_pure;(case hop=>first|(apply p_move <;> rfl)|(apply p_eq <;> rfl)|(apply p_lt <;> rfl)|(apply p_gt <;> rfl)|(apply p_assign <;> rfl)|(apply p_pickT <;> rfl)|(apply p_pickF <;> rfl)|(apply p_lenSlice <;> rfl)|(apply p_add;(case hx=>rfl);(case hy=>rfl);(case h=>omega))|(apply p_sub;(case hx=>rfl);(case hy=>rfl);(case h=>omega))|(apply p_indexAddrS;(case hx=>rfl);(case hi=>rfl);(case h0=>omega);(case h=>omega);(case hA=>(apply_assumption;omega)))|(apply p_conv64;(case hx=>rfl);(case h=>omega))|(apply p_mul;(case hx=>rfl);(case hy=>rfl);(case h=>omega))|fail);(case hd=>rfl))|(apply v_condF;(case hc=>rfl))|(apply v_cond;(case hc=>rfl);all_goals (intro h;(try simp only [reduceCtorEq,zzz] at h);first|(exfalso;omega)|skip))|(apply v_guardB;(case h1=>rfl);(case h2=>rfl);all_goals (intro h;(try simp only [reduceCtorEq,zzz] at h)))|(apply v_read;(case hop=>(apply r_load1;rfl;exact Cell.frozen hel'));(case hd=>rfl))|fail)
      · refine v_ret [] (outsA3 rfl rfl rfl rfl) (by repeat (exact List.Sublist.refl _)) ?_
        exact ⟨getR_none (by rw [he,dvk_cons,if_pos (by omega)];rfl) (by rw [hee,if_pos (by omega)]),rfl,rfl⟩
      · refine v_ret [] (outsA3 rfl rfl rfl rfl) (by repeat (exact List.Sublist.refl _)) ?_
        exact ⟨getR_some (r':=l.drop (at_ + k + 1)) (by rw [he,dvk_cons,if_neg (by omega),if_pos (by omega),dvs,Option.map_some,show cx % 128 = cx by omega,Int.mul_comm]) (by rw [List.length_drop];omega),rfl,rfl⟩
      · refine v_ret [] (outsA3 rfl rfl rfl rfl) (by repeat (exact List.Sublist.refl _)) ?_
        exact ⟨getR_some (r':=l.drop (at_ + k + 1)) (by rw [he,dvk_cons,if_neg (by omega),if_pos (by omega),dvs,Option.map_some,show cx % 128 = cx by omega,Int.mul_comm]) (by rw [List.length_drop];omega),rfl,rfl⟩
      · refine v_againI (k + 1,n + cx % 128 * 128 ^ k) rfl ⟨rfl,rfl,rfl,by simp only;omega,by simp only;omega,⟨by simp only;omega,hb2⟩,hb3,?_,?_⟩ (by simp only;omega)
        · simp only
          rw [he,hst (by omega) (by omega) hcc.2,Nat.add_assoc]
        · simp only
          rw [hee,if_neg (by omega),if_neg (by omega),Nat.add_assoc]
    · try dsimp only
      repeat' (first|apply v_seq|apply v_region|apply v_nil|apply v_skip|apply v_block|(apply v_take;(case hg=>rfl))|(apply v_pass;(case hg=>rfl);(case hn=>rfl);(case hd=>rfl))|(apply v_pure;(case hop=>first|(apply p_move <;> rfl)|(apply p_eq <;> rfl)|(apply p_lt <;> rfl)|(apply p_gt <;> rfl)|(apply p_assign <;> rfl)|(apply p_pickT <;> rfl)|(apply p_pickF <;> rfl)|(apply p_lenSlice <;> rfl)|(apply p_sub;(case hx=>rfl);(case hy=>rfl);(case h=>omega))|(apply p_indexAddrS;(case hx=>rfl);(case hi=>rfl);(case h0=>omega);(case h=>omega);(case hA=>(apply_assumption;omega)))|(apply p_mul;(case hx=>rfl);(case hy=>rfl);(case h=>omega))|fail);(case hd=>rfl))|(apply v_condF;(case hc=>rfl))|(apply v_cond;(case hc=>rfl);all_goals (intro h;(try simp only [reduceCtorEq,zzz] at h);first|(exfalso;omega)|skip))|(apply v_guardB;(case h1=>rfl);(case h2=>rfl);all_goals (intro h;(try simp only [reduceCtorEq,zzz] at h)))|(apply v_read;(case hop=>(apply r_load1;rfl;exact Cell.frozen hel'));(case hd=>rfl))|fail)
      all_goals
        (refine v_ret [] (outsA3 rfl rfl rfl rfl) (by repeat (exact List.Sublist.refl _)) ?_
         exact ⟨getR_none (by rw [he,dvk_cons,if_pos (by omega)];rfl) (by rw [hee,if_pos (by omega)]),rfl,rfl⟩)
  · have e0:l.drop (at_ + k) = []:=List.drop_eq_nil_of_le (by omega)
    rw [e0,dvk_nil] at he
    rw [e0,dve_nil] at hee
    try dsimp only
    repeat' (first|apply v_seq|apply v_region|apply v_nil|(apply v_exit;(case hp=>rfl))|(apply v_pure;(case hop=>first|(apply p_move <;> rfl)|(apply p_eq <;> rfl)|(apply p_lt <;> rfl)|(apply p_assign <;> rfl)|(apply p_lenSlice <;> rfl)|fail);(case hd=>rfl))|(apply v_cond;(case hc=>rfl);all_goals (intro h;(try simp only [reduceCtorEq,zzz] at h);first|(exfalso;omega)|skip))|fail)
    refine v_ret [] (outsA3 rfl rfl rfl rfl) (by repeat (exact List.Sublist.refl _)) ?_
    exact ⟨getR_none he hee,rfl,rfl⟩
end Go.Proofs.YtpemabgfmnhhnaaGreatDoor
