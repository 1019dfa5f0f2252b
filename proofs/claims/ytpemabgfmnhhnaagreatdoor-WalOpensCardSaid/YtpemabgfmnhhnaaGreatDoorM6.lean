/-
  disk (layer 18): files in their order.
-/
import Derived.Test.YtpemabgfmnhhnaaGreatDoorM5
import Derived.Test.YtpemabgfmnhhnaaGreatDoorM4
import Derived.Test.YtpemabgfmnhhnaaGreatDoorM3
import Derived.Laws.MakeOwn
import Derived.Test.YtpemabgfmnhhnaaGreatDoorM1
import Derived.Test.YtpemabgfmnhhnaaGreatDoorRows
import Derived.Test.YtpemabgfmnhhnaaGreatDoorChecked
import Derived.JoinedOf
import Derived.SevenTiedAt
import Derived.LaidMore
import Derived.Lay
import Derived.Test.YtpemabgfmnhhnaaGreatDoorTie
import Derived.Test.YtpemabgfmnhhnaaGreatDoorCards
import Derived.Stop.Joined
set_option linter.unusedSimpArgs false
set_option linter.unusedVariables false
namespace Go.Proofs.YtpemabgfmnhhnaaGreatDoor
open Go.Vx Go.ChangeShapes Go.WideShapes Go.ChangeAt Go.RowKit
def filesOf (g:Fs) (l:List Int):List Fl:=l.map fun k=>(k,(g k).getD [])
theorem rget_filesOf {g:Fs} {l:List Int} {k:Int}:rget (filesOf g l) k = if k ∈ l then some ((g k).getD []) else none:=by
  induction l with
  | nil=>rfl
  | cons a l ih =>
    show rget ((a,(g a).getD []) :: filesOf g l) k = _
    rw [rget_cons,ih]
    by_cases h:a = k
    · subst h;simp
    · have:¬ k = a:=fun e=>h e.symm
      simp [h,this]
theorem mf_key {G:GH} {ml:List (Int × Value)} {g:Fs} (hF:MF G ml g) {k:Int}:k ∈ ml.map (·.1) ↔ g k ≠ none:=by
  have h1:=hF k
  by_cases hk:k ∈ ml.map (·.1)
  · obtain ⟨L1,v,L2,e,h2⟩:∃ L1 v L2,ml = L1 ++ (k,v) :: L2 ∧ k ∉ L1.map (·.1):=by
      clear h1 hF
      induction ml with
      | nil=>simp at hk
      | cons x ml ih =>
        obtain ⟨a,v⟩:=x
        by_cases e:k = a
        · subst e;exact ⟨[],v,ml,rfl,by simp⟩
        · simp only [List.map_cons,List.mem_cons] at hk
          obtain ⟨L1,v',L2,rfl,h2⟩:=ih (hk.resolve_left e)
          exact ⟨(a,v) :: L1,v',L2,rfl,by simp only [List.map_cons,List.mem_cons,not_or];exact ⟨e,h2⟩⟩
    have h3:mget ml k = some v:=by rw [e,mget_at h2]
    rw [h3] at h1
    obtain ⟨A,c,b,-,h4,-⟩:=h1
    simp [hk,h4]
  · rw [mget_no hk] at h1
    simp only at h1
    simp [hk,h1]
theorem mf_no {G:GH} {ml:List (Int × Value)} {g:Fs} (hF:MF G ml g) {k:Int} (hk:k ∈ ml.map (·.1)):inNo k:=by
  have h1:=hF k
  have h2:=(mf_key hF).1 hk
  cases hm:mget ml k with
  | none=>rw [hm] at h1;exact absurd h1 h2
  | some v=>rw [hm] at h1;obtain ⟨_,_,_,_,_,_,h⟩:=h1;exact h
theorem mf_get {G:GH} {ml:List (Int × Value)} {g:Fs} (hF:MF G ml g) (k:Int):∃ A c,(mget ml k).getD (.slice none 0 0) = .slice A ((g k).getD []).length c ∧ Bs G (.slice A ((g k).getD []).length c) ((g k).getD []):=by
  have h1:=hF k
  cases hm:mget ml k with
  | none=>rw [hm] at h1;simp only at h1;rw [h1];exact ⟨none,0,rfl,Sl.nil⟩
  | some v =>
    rw [hm] at h1
    obtain ⟨A,c,b,h2,h3,h4,-⟩:=h1
    rw [h3]
    exact ⟨A,c,h2,by rw [h2] at h4;exact h4⟩
theorem rep_files {G:GH} {ml:List (Int × Value)} {g:Fs} {xs:List Int} (hF:MF G ml g) (hn:(ml.map (·.1)).Nodup) (hp:xs.Perm (ml.map (·.1))):Rep (filesOf g (sortL xs)) g:=by
  have hp2:=(sortL_perm xs).trans hp
  have hlt:(sortL xs).Pairwise (· < ·):=by
    have h1:=sortL_le xs
    have h2:(sortL xs).Nodup:=hp2.nodup_iff.2 hn
    exact (h1.and h2).imp fun h=>by omega
  refine ⟨?_,fun k=>?_⟩
  · unfold Ris filesOf
    rw [List.pairwise_map]
    exact hlt
  · rw [rget_filesOf]
    have hk:=mf_key hF (k:=k)
    by_cases h:k ∈ sortL xs
    · rw [if_pos h]
      have h2:=hk.1 (hp2.mem_iff.1 h)
      obtain ⟨b,hb⟩:=Option.ne_none_iff_exists'.1 h2
      rw [hb];rfl
    · rw [if_neg h]
      have:k ∉ ml.map (·.1):=fun e=>h (hp2.mem_iff.2 e)
      rw [hk] at this
      exact (Decidable.not_not.1 this).symm
theorem list_s {G:GH} {g:Fs} {ml:List (Int × Value)} {m N:Nat} {oM:Obj} (hM:MapB keyI ml oM) (hF:MF G ml g) (hN:Bd g N) (hN2:N ≤ 1000000) (hl:ml.length ≤ 100000) :
    Con Tryz.prog 74 #[.map (some m)] G [(m,oM)] (fun r G' μ'=>GH.le G G' ∧ ∃ R,Rep R g ∧ Fls G' r R ∧ R.length = ml.length ∧ μ' = [(m,oM)]):=by
  have q1:=keysB_s (G:=G) (m:=m)
  have hnd:=hM.nodup
  (refine v_enter Tryz.func74 rfl Tryz.ntmps74 rfl ?_;intro B _)
  repeat' (first|apply v_seq|apply v_region|apply v_nil|(apply v_pure;(case hop=>(apply p_assign <;> rfl));(case hd=>rfl))|(apply v_read;(case hop=>(apply r_load1;rfl;(apply Cell.own;(case h=>(repeat (first|exact mhd _|apply mtl)));rfl)));(case hd=>rfl))|(apply v_alloc;(case hz=>rfl);(case hd=>rfl);intro b)|(apply v_box;(case hx=>rfl);(case hz=>rfl);(case hd=>rfl);intro b)|fail)
  rename_i bx
  refine v_call (μ1:=[]) (μ2:=[(b,.cells [.slice none 0 0].toArray 64 (0,0)),(bx,.cells [Value.map (some m)].toArray 113 (0,0)),(m,oM)]) rfl q1 (List.Perm.refl _) rfl ?_
  rintro _ G1 _ - ⟨b3,rfl,hG1,rfl⟩
  subst G1
  have q2:=sorted_s (N:=ml.length) (by omega) (fun xs h=>by rw [h.length_eq,List.length_map];omega) (keysB_seq (G:=G) (m:=m) (b:=b3) hM)
  repeat' (fail)
  refine v_call (μ1:=[(b3,.cells [Value.map (some m)].toArray 113 (0,0)),(m,oM)]) (μ2:=[(b,.cells [.slice none 0 0].toArray 64 (0,0)),(bx,.cells [Value.map (some m)].toArray 113 (0,0))]) rfl q2 (by apply perm_of_count;intro p;simp only [List.append_eq,List.countP_append,List.countP_cons,List.countP_nil,Nat.zero_add,Nat.add_zero];try ac_rfl) rfl ?_
  rintro v2 G2 _ - ⟨hG2,xs,ν,hp,hg,rfl⟩
  subst G2
  refine v_frzP ν (List.Perm.of_eq (List.append_assoc _ _ _)) ?_
  intro G2 hle2 hG2
  have hrep:=rep_files hF hnd hp
  have hwf:∀ x ∈ sortL xs,(Lit.int .i64 x).wf = true:=fun x hx=>by
    have h1:=mf_no hF (hp.mem_iff.1 ((sortL_perm xs).mem_iff.1 hx))
    unfold inNo at h1
    exact WalkArith.wf_i64 (by omega)
  have hlen:(sortL xs).length = ml.length:=by rw [(sortL_perm xs).length_eq,hp.length_eq,List.length_map]
  rw [← (sortL_perm xs).length_eq] at hg
  have hs:=hg.ints hG2 hwf
  obtain ⟨A2,c2,rfl,-⟩:=id hs.openInt
  generalize sortL xs = ks at *
  repeat' (fail)
  refine v_call (μ1:=[]) (μ2:=_) rfl values_s (List.Perm.refl _) rfl ?_
  rintro _ G3 _ - ⟨b4,rfl,hG3,rfl⟩
  subst G3
  have hseq:=vals_seq (b:=b4) hs (by omega)
  repeat' (first|apply v_nil|apply v_block)
  refine v_rangeFunc (enc:=keyI) (N:=ks.length) (S:=fun xs'=>xs' = ks) (μ1:=[(b4,.cells [.slice A2 ks.length c2].toArray 47 (0,0))]) (μ2:=[(b3,.cells [Value.map (some m)].toArray 113 (0,0)),(b,.cells [.slice none 0 0].toArray 64 (0,0)),(m,oM),(bx,.cells [Value.map (some m)].toArray 113 (0,0))]) (σ':=fun x=>_) (fun pre G' ν=>GH.le G2 G' ∧ ∃ ov ν1,GrL 112 2 (FlR G') ov (filesOf g pre) ν1 ∧ ν = ν1 ++ [(b3,.cells [Value.map (some m)].toArray 113 (0,0)),(b,.cells [ov].toArray 64 (0,0)),(m,oM),(bx,.cells [Value.map (some m)].toArray 113 (0,0))]) rfl hseq (by apply perm_of_count;intro p;simp only [List.append_eq,List.countP_append,List.countP_cons,List.countP_nil,Nat.zero_add,Nat.add_zero];try ac_rfl) rfl (fun x=>Assigns.region (.cons (p_assign rfl) rfl (.nil _))) rfl ⟨GH.le_refl _,_,[],GrL.nil,rfl⟩ ?_ ?_
  · rintro l B' _ pre x G4 _ hle4 ⟨hle5',ov,ν1,hg1,rfl⟩ hpl
    obtain ⟨A5,c5,h5,h6⟩:=mf_get (hF.up (GH.le_trans hle2 hle4)) x
    have hbl:((g x).getD []).length ≤ N:=by
      cases hgx:g x with
      | none=>simp
      | some b=>exact hN x b hgx
    have qc:=bclone_s h6 (by omega)
    obtain ⟨css,hc1,hc2,hgr⟩:=id hg1
    obtain ⟨A6,c6,rfl,hA1,hA2⟩:=hgr.shape
    have hpn:(filesOf g pre).length = pre.length:=by unfold filesOf;rw [List.length_map]
    have hrd:=fun (σ:Env) (μ:OH) (ty:TypeId) (xo i:Operand) (hb:(m,oM) ∈ μ) (h1:Env.ev σ xo = some (.map (some m))) (h2:Env.ev σ i = some (keyI x))=>r_lookup (P:=Tryz.prog) (σ:=σ) (G:=G4) (μ:=μ) (ty:=ty) (t:=113) (k:=3) (e:=24) (mk:=keyI) x h1 h2 hb hM
    rw [h5] at hrd
    obtain ⟨_,_,_,_,_,_,_,hwb⟩:=h6.openInt
    repeat' (first|apply v_block)
    refine d_start [(m,oM),(bx,.cells [Value.map (some m)].toArray 113 (0,0))] (by kernel_rfl) (by kernel_rfl) (by kernel_rfl) (by intro e he;(simp at he;simp [he];done)) ?_
    all_goals (apply dtk 1;(case hi=>rfl);(case hop=>(apply prd;apply p_move <;> rfl));(case hq=>kernel_rfl))
    all_goals (apply dtk 2;(case hi=>rfl);(case hop=>(apply r_load1;rfl;(apply Cell.own;(case h=>(repeat (first|exact mhd _|apply mtl)));rfl)));(case hq=>kernel_rfl))
    all_goals (apply dtk 3;(case hi=>rfl);(case hop=>(apply prd;apply p_move <;> rfl));(case hq=>kernel_rfl))
    all_goals (apply dtk 4;(case hi=>rfl);(case hop=>((exact hrd _ _ _ _ _ (by repeat (exact mhd _)) rfl rfl)));(case hq=>kernel_rfl))
    focus
      refine d_fork 0 5 (by kernel_rfl) ?_ ?_
      rotate_right
      focus
        (apply x_call 5 (hs:=qc) (μ1:=[]);(case hi=>rfl);  (case ha=>rfl);(case hp=>exact List.Perm.refl _);(case hd=>rfl);(case hν'=>intro e he;simp only [List.mem_cons,List.not_mem_nil,or_false] at he;rcases he with rfl|rfl <;> simp);rintro r7 G7 n7 - ⟨hG7,hg7⟩;subst G7;obtain ⟨A7,c7,rfl,-,-⟩:=hg7.shape)
        all_goals (apply dtk 6;(case hi=>rfl);(case hop=>(apply prd;apply p_build;(case hz=>rfl);(case hv=>(simp only [List.map_cons,List.map_nil];repeat (first|with_reducible exact evs_nil|(apply evs_cons;(case h1=>rfl)))));(case hb=>(apply bldL;repeat (first|exact bld_nil|(apply bld_cons;(case hpf=>rfl);(case hc=>rfl);(case hs=>rfl);(case hl=>rfl);(case ho=>((repeat (first|with_reducible exact ov_nil|apply ov_cons));done))))))));(case hq=>kernel_rfl))
        focus
          refine d_fork 0 7 (by kernel_rfl) ?_ ?_
          rotate_right
          focus
            (apply x_buildSlice 7;(case hi=>rfl);(case hT=>infer_instance);(case hL=>infer_instance);(case hz=>rfl);(case hl=>rfl);(case hv=>(simp only [List.map_cons,List.map_nil];repeat (first|with_reducible exact evs_nil|(apply evs_cons;(case h1=>rfl)))));(case hp=>(apply pk_cons;(case hc=>rfl);(case hs=>rfl);(case h=>(with_reducible exact pk_nil));(case he=>((repeat (first|with_reducible exact ap_nil|apply ap_cons));done))));(case hb=>rfl);(case hd=>rfl);(case hν=>intro e he;(simp at he;simp [he];done));intro sb)
            all_goals (apply d_keep 0 (hop:=ReadOp.move ?hop);(case hi=>rfl);(case hr=>kernel_rfl);(case hop=>(apply r_load1;rfl;(apply Cell.own;(case h=>repeat (first|exact mhd _|apply mtl|apply List.mem_append_right));rfl)));(case hd=>rfl))
            all_goals (apply d_append 8 (hg:=hgr) (q':=1) (us:=[.int .i64 x,.slice A7 ((g x).getD []).length c7]) (hp:=PickA.perm (PickA.cons _ (PickA.app _ (PickA.here _)))) (hsrc:=Src.own (e:=112) (List.Mem.head _) rfl);(case hi=>rfl);(case hr=>kernel_rfl);(case hT=>infer_instance);(case hL=>infer_instance);(case hzs=>rfl);(case hsz=>omega);(case hs=>rfl);(case hx=>rfl);(case hb=>omega);(case hb'=>simp only [maxLen];omega);(case hd=>rfl);(case h1=>rfl);(case hν=>intro e he;(simp at he;simp [he];done));intro v8 n8 g8;obtain ⟨A8,c8,rfl,-,-⟩:=g8.shape)
            all_goals (apply d_store 9;(case hi=>rfl);(case hr=>kernel_rfl);(case hL=>infer_instance);(case hp=>rfl);(case hx=>rfl);(case hc=>rfl);(case hsz=>rfl);(case h1=>rfl);(case hb=>(repeat (first|exact mhd _|apply mtl|apply List.mem_append_right)));(case hfit=>exact nle rfl);(case hov=>((repeat (first|with_reducible exact ov_nil|apply ov_cons));done));(case hu=>repeat (first|exact Upd.here _ _|apply Upd.there|apply Upd.app));(case hν'=>intro e he;(simp at he;simp [he];done)))
            all_goals (apply d_done;(case hr=>kernel_rfl))
          rotate_right
          focus
            (apply x_exec 0;(case hi=>rfl);  (case hop=>exact ReadOp.move (r_load1 rfl (Cell.own (by repeat (first|exact mhd _|apply mtl|apply List.mem_append_right)) rfl)));(case hd=>rfl);rintro _ G0 _ ⟨rfl,hG0,rfl⟩;subst G0;refine ⟨(by intro e he;simp only [List.mem_cons,List.not_mem_nil,or_false] at he;rcases he with rfl|rfl <;> simp),?_⟩)
            all_goals (apply d_buildSlice 7;(case hi=>rfl);(case hr=>kernel_rfl);(case hT=>infer_instance);(case hL=>infer_instance);(case hz=>rfl);(case hl=>rfl);(case hv=>(simp only [List.map_cons,List.map_nil];repeat (first|with_reducible exact evs_nil|(apply evs_cons;(case h1=>rfl)))));(case hp=>(apply pk_cons;(case hc=>rfl);(case hs=>rfl);(case h=>(with_reducible exact pk_nil));(case he=>((repeat (first|with_reducible exact ap_nil|apply ap_cons));done))));(case hb=>rfl);(case hd=>rfl);(case hν=>intro e he;(simp at he;simp [he];done));intro sb)
            all_goals (apply d_append 8 (hg:=hgr) (q':=1) (us:=[.int .i64 x,.slice A7 ((g x).getD []).length c7]) (hp:=PickA.perm (PickA.cons _ (PickA.app _ (PickA.here _)))) (hsrc:=Src.own (e:=112) (List.Mem.head _) rfl);(case hi=>rfl);(case hr=>kernel_rfl);(case hT=>infer_instance);(case hL=>infer_instance);(case hzs=>rfl);(case hsz=>omega);(case hs=>rfl);(case hx=>rfl);(case hb=>omega);(case hb'=>simp only [maxLen];omega);(case hd=>rfl);(case h1=>rfl);(case hν=>intro e he;(simp at he;simp [he];done));intro v8 n8 g8;obtain ⟨A8,c8,rfl,-,-⟩:=g8.shape)
            all_goals (apply d_store 9;(case hi=>rfl);(case hr=>kernel_rfl);(case hL=>infer_instance);(case hp=>rfl);(case hx=>rfl);(case hc=>rfl);(case hsz=>rfl);(case h1=>rfl);(case hb=>(repeat (first|exact mhd _|apply mtl|apply List.mem_append_right)));(case hfit=>exact nle rfl);(case hov=>((repeat (first|with_reducible exact ov_nil|apply ov_cons));done));(case hu=>repeat (first|exact Upd.here _ _|apply Upd.there|apply Upd.app));(case hν'=>intro e he;(simp at he;simp [he];done)))
            all_goals (apply d_done;(case hr=>kernel_rfl))
      rotate_right
      focus
        (apply x_exec 0;(case hi=>rfl);  (case hop=>exact ReadOp.move (r_load1 rfl (Cell.own (by repeat (first|exact mhd _|apply mtl|apply List.mem_append_right)) rfl)));(case hd=>rfl);rintro _ G0 _ ⟨rfl,hG0,rfl⟩;subst G0;refine ⟨(by intro e he;simp only [List.mem_cons,List.not_mem_nil,or_false] at he;rcases he with rfl|rfl <;> simp),?_⟩)
        all_goals ((apply d_call 5 (hs:=qc) (μ1:=[]);(case hi=>rfl);(case hr=>kernel_rfl);  (case ha=>rfl);(case hp=>exact List.Perm.refl _);(case hd=>rfl);(case hν'=>intro e he;simp only [List.mem_cons,List.not_mem_nil,or_false] at he;rcases he with rfl|rfl <;> simp);rintro r7 G7 n7 - ⟨hG7,hg7⟩;subst G7;obtain ⟨A7,c7,rfl,-,-⟩:=hg7.shape))
        all_goals (apply dtk 6;(case hi=>rfl);(case hop=>(apply prd;apply p_build;(case hz=>rfl);(case hv=>(simp only [List.map_cons,List.map_nil];repeat (first|with_reducible exact evs_nil|(apply evs_cons;(case h1=>rfl)))));(case hb=>(apply bldL;repeat (first|exact bld_nil|(apply bld_cons;(case hpf=>rfl);(case hc=>rfl);(case hs=>rfl);(case hl=>rfl);(case ho=>((repeat (first|with_reducible exact ov_nil|apply ov_cons));done))))))));(case hq=>kernel_rfl))
        all_goals (apply d_buildSlice 7;(case hi=>rfl);(case hr=>kernel_rfl);(case hT=>infer_instance);(case hL=>infer_instance);(case hz=>rfl);(case hl=>rfl);(case hv=>(simp only [List.map_cons,List.map_nil];repeat (first|with_reducible exact evs_nil|(apply evs_cons;(case h1=>rfl)))));(case hp=>(apply pk_cons;(case hc=>rfl);(case hs=>rfl);(case h=>(with_reducible exact pk_nil));(case he=>((repeat (first|with_reducible exact ap_nil|apply ap_cons));done))));(case hb=>rfl);(case hd=>rfl);(case hν=>intro e he;(simp at he;simp [he];done));intro sb)
        all_goals (apply d_append 8 (hg:=hgr) (q':=1) (us:=[.int .i64 x,.slice A7 ((g x).getD []).length c7]) (hp:=PickA.perm (PickA.cons _ (PickA.app _ (PickA.here _)))) (hsrc:=Src.own (e:=112) (List.Mem.head _) rfl);(case hi=>rfl);(case hr=>kernel_rfl);(case hT=>infer_instance);(case hL=>infer_instance);(case hzs=>rfl);(case hsz=>omega);(case hs=>rfl);(case hx=>rfl);(case hb=>omega);(case hb'=>simp only [maxLen];omega);(case hd=>rfl);(case h1=>rfl);(case hν=>intro e he;(simp at he;simp [he];done));intro v8 n8 g8;obtain ⟨A8,c8,rfl,-,-⟩:=g8.shape)
        all_goals (apply d_store 9;(case hi=>rfl);(case hr=>kernel_rfl);(case hL=>infer_instance);(case hp=>rfl);(case hx=>rfl);(case hc=>rfl);(case hsz=>rfl);(case h1=>rfl);(case hb=>(repeat (first|exact mhd _|apply mtl|apply List.mem_append_right)));(case hfit=>exact nle rfl);(case hov=>((repeat (first|with_reducible exact ov_nil|apply ov_cons));done));(case hu=>repeat (first|exact Upd.here _ _|apply Upd.there|apply Upd.app));(case hν'=>intro e he;(simp at he;simp [he];done)))
        all_goals (apply d_done;(case hr=>kernel_rfl))
    all_goals repeat' (first|apply v_blk)
    all_goals
      (refine v_frz n7 (PickA.app _ (PickA.cons _ (PickA.here _))) ?_
       intro G5 hle5 hG5
       have hbs:=hg7.ints hG5 hwb
       refine v_perm List.perm_middle ?_
       refine v_drop (List.sublist_cons_self _ _) ?_
       refine v_endR (n8 ++ [(b3,.cells [Value.map (some m)].toArray 113 (0,0)),(b,_),(m,oM),(bx,.cells [Value.map (some m)].toArray 113 (0,0))]) (List.Sublist.refl _) ⟨rfl,GH.le_trans hle5' hle5,_,n8,?_,rfl⟩
       have e9:filesOf g (pre ++ [x]) = filesOf g pre ++ [(x,(g x).getD [])]:=by unfold filesOf;rw [List.map_append];rfl
       rw [e9]
       exact GrL.snoc (R:=FlR G5) (x:=(x,(g x).getD [])) hc1 (fun i y cs hy hc=>⟨(hc2 i y cs hy hc).1,(hc2 i y cs hy hc).2.le hle5⟩) g8 rfl ⟨A7,c7,rfl,hbs⟩)
  · rintro B' D _ xs' G4 _ hle4 rfl ⟨hle5,ov,ν1,hg1,rfl⟩
    repeat' (first|apply v_seq|apply v_region|apply v_nil|apply v_blk|(apply v_pure;(case hop=>(apply p_assign <;> rfl));(case hd=>rfl))|(apply v_read;(case hop=>(apply r_load1;rfl;(apply Cell.own;(case h=>(repeat (first|exact mhd _|apply mtl|apply List.mem_append_right)));rfl)));(case hd=>rfl))|fail)
    refine v_frz ν1 (PickA.cons _ (PickA.cons _ (PickA.here _))) ?_
    intro G5 hle5' hG5
    refine v_retD (Ds:=[D]) [(m,oM)] (fun ds a ha w _=>outs1 rfl rfl ds a ha) (List.Perm.refl _) ?_ ?_
    · exact List.Sublist.cons _ (List.Sublist.cons _ (List.Sublist.cons _ (List.Sublist.cons_cons _ (List.nil_sublist _))))
    refine ⟨GH.le_trans hle2 (GH.le_trans hle4 hle5'),_,hrep,?_,?_,rfl⟩
    · exact (hg1.le fun _ _ h=>h.le hle5').sl hG5
    · unfold filesOf;rw [List.length_map,hlen]
theorem files_s {G:GH} {g:Fs} {ml:List (Int × Value)} {d m N:Nat} {oM:Obj} {ov:Value} (hM:MapB keyI ml oM) (hF:MF G ml g) (hN:Bd g N) (hN2:N ≤ 1000000) (hl:ml.length ≤ 100000) :
    Con Tryz.prog 30 #[.pointer (some ⟨d,0,none⟩)] G [(d,dkO m ov),(m,oM)] (fun r G' μ'=>GH.le G G' ∧ ∃ R,Rep R g ∧ Fls G' r R ∧ R.length = ml.length ∧ μ' = [(d,dkO m ov),(m,oM)]):=by
  have q:=list_s (m:=m) hM hF hN hN2 hl
  unfold dkO
  (refine v_enter Tryz.func30 rfl Tryz.ntmps30 rfl ?_;intro B _)
  repeat' (first|apply v_seq|apply v_region|apply v_nil|apply v_skip|(apply v_pure;(case hop=>first|(apply p_move <;> rfl)|(apply p_assign <;> rfl)|(apply p_fieldAddrB <;> rfl)|(apply p_nilCheck <;> rfl)|(apply p_eqNil <;> rfl)|fail);(case hd=>rfl))|(apply v_condF;(case hc=>rfl))|(apply v_read;(case hop=>(apply r_load1;rfl;(apply Cell.own;(case h=>(repeat (exact mhd _)));rfl)));(case hd=>rfl))|fail)
  refine v_call (μ1:=[(m,oM)]) (μ2:=[(d,.cells [.map (some m),ov].toArray 115 (0,0))]) rfl q (List.Perm.swap _ _ _) rfl ?_
  rintro r G1 _ - ⟨hle,R,hR,hs,hn,rfl⟩
  repeat' (first|apply v_nil|(apply v_pure;(case hop=>(apply p_assign <;> rfl));(case hd=>rfl))|fail)
  refine v_perm (List.Perm.swap _ _ _) ?_
  refine v_ret [(d,_),(m,oM)] (outsA1 rfl rfl) (List.Sublist.refl _) ⟨hle,R,hR,hs,hn,rfl⟩
theorem view_s {G:GH} {l:List Dop} {g:Fs} {ml:List (Int × Value)} {d m:Nat} {oM:Obj} {ov:Value} {ν:OH}
    (hM:MapB keyI ml oM) (hF:MF G ml g) (hB:∀ q,q ≤ l.length → Bd (gall g (l.take q)) 1000000) (hg:GrL 124 3 (OpR G) ov l ν) (hl:l.length ≤ 5000) (hx:∀ x ∈ l,x.data.length ≤ 1000000) (hno:∀ x ∈ l,inNo x.no) (hml:ml.length ≤ 50000) :
    Con Tryz.prog 77 #[.pointer (some ⟨d,0,none⟩)] G ((d,dkO m ov) :: (m,oM) :: ν) (fun r G' μ'=>GH.le G G' ∧ ∃ R,Rep R (gall g l) ∧ Fls G' r R ∧ R.length ≤ ml.length + l.length ∧ μ' = (d,dkO m ov) :: (m,oM) :: ν):=by
  obtain ⟨css,hc1,hc2,hgr⟩:=id hg
  obtain ⟨A,c,rfl,hA,hA2⟩:=hgr.shape
  have q1:=cloneM_s (G:=G) (m:=m) hM
  unfold dkO
  (refine v_enter Tryz.func77 rfl Tryz.ntmps77 rfl ?_;intro B _)
  repeat' (first|apply v_seq|apply v_region|apply v_nil|apply v_skip|(apply v_pure;(case hop=>first|(apply p_move <;> rfl)|(apply p_assign <;> rfl)|(apply p_fieldAddrB <;> rfl)|(apply p_nilCheck <;> rfl)|(apply p_eqNil <;> rfl)|fail);(case hd=>rfl))|(apply v_condF;(case hc=>rfl))|(apply v_read;(case hop=>(apply r_load1;rfl;(apply Cell.own;(case h=>(repeat (exact mhd _)));rfl)));(case hd=>rfl))|fail)
  refine v_call (μ1:=[(m,oM)]) (μ2:=(d,.cells [.map (some m),.slice A l.length c].toArray 115 (0,0)) :: ν) rfl q1 (List.Perm.swap _ _ _) rfl ?_
  rintro _ G1 _ - ⟨hG1,cb,rfl,rfl⟩
  subst G1
  have q:=doPre_s (m:=cb) (n:=l.length) hM hF hB hg (Nat.le_refl _) (by omega) hx hno
  rw [List.take_length] at q
  repeat' (first|apply v_seq|apply v_region|apply v_nil|(apply v_pure;(case hop=>first|(apply p_move <;> rfl)|(apply p_assign <;> rfl)|(apply p_fieldAddrB <;> rfl)|(apply p_nilCheck <;> rfl)|fail);(case hd=>rfl))|(apply v_read;(case hop=>(apply r_load1;rfl;(apply Cell.own;(case h=>(repeat (first|exact mhd _|apply mtl)));rfl)));(case hd=>rfl))|fail)
  refine v_call (μ1:=(cb,oM) :: ν) (μ2:=[(m,oM),(d,.cells [.map (some m),.slice A l.length c].toArray 115 (0,0))]) rfl q ?_ rfl ?_
  · exact (by apply perm_of_count;intro p;simp only [List.append_eq,List.countP_append,List.countP_cons,List.countP_nil,Nat.zero_add,Nat.add_zero];try ac_rfl)
  rintro _ G2 _ - ⟨hle2,ml',oM',hM',hF',hl',rfl⟩
  have q3:=list_s (m:=cb) hM' hF' (by have:=hB l.length (Nat.le_refl _);rwa [List.take_length] at this) (by omega) (by omega)
  repeat' (first|apply v_seq|apply v_region|apply v_nil|(apply v_pure;(case hop=>(apply p_move <;> rfl));(case hd=>rfl))|fail)
  refine v_call (μ1:=[(cb,oM')]) (μ2:=ν ++ [(m,oM),(d,.cells [.map (some m),.slice A l.length c].toArray 115 (0,0))]) rfl q3 (List.Perm.refl _) rfl ?_
  rintro r G3 _ - ⟨hle3,R,hR,hs,hn,rfl⟩
  repeat' (first|apply v_nil|(apply v_pure;(case hop=>(apply p_assign <;> rfl));(case hd=>rfl))|fail)
  refine v_drop (ν:=ν ++ [(m,oM),(d,.cells [.map (some m),.slice A l.length c].toArray 115 (0,0))]) (List.sublist_cons_self _ _) ?_
  refine v_perm (ν:=(d,.cells [.map (some m),.slice A l.length c].toArray 115 (0,0)) :: (m,oM) :: ν) ?_ ?_
  · exact (List.perm_append_comm (l₁:=ν)).trans (List.Perm.swap _ _ _)
  refine v_ret ((d,_) :: (m,oM) :: ν) (outsA1 rfl rfl) (List.Sublist.refl _) ⟨GH.le_trans hle2 hle3,R,hR,hs,by omega,rfl⟩
theorem buffered_s {G:GH} {l:List Dop} {d m:Nat} {ov:Value} {ν:OH} (hg:GrL 124 3 (OpR G) ov l ν) (hl:l.length ≤ 5000) (hx:∀ x ∈ l,x.data.length ≤ 1000000) :
    Con Tryz.prog 33 #[.pointer (some ⟨d,0,none⟩)] G ((d,dkO m ov) :: ν) (fun r G' μ'=>GH.le G G' ∧ Ops G' r l ∧ μ' = (d,dkO m ov) :: ν):=by
  unfold dkO
  rcases opsCases hg with ⟨rfl,rfl,rfl⟩|⟨ob,cap,cells,dA,dc,rfl,h1,h2,rfl,hC⟩
  · (refine v_enter Tryz.func33 rfl Tryz.ntmps33 rfl ?_;intro B _)
    repeat' (first|apply v_seq|apply v_region|apply v_nil|apply v_skip|apply v_block|(apply v_pure;(case hop=>first|(apply p_move <;> rfl)|(apply p_assign <;> rfl)|(apply p_lenSlice <;> rfl)|(apply p_fieldAddrB <;> rfl)|(apply p_nilCheck <;> rfl)|(apply p_eqNil <;> rfl)|fail);(case hd=>rfl))|(apply v_condF;(case hc=>rfl))|(apply v_read;(case hop=>(apply r_load1;rfl;(apply Cell.own;(case h=>(repeat (exact mhd _)));rfl)));(case hd=>rfl))|fail)
    refine v_loop [13,12,3] (fun us G' μ'=>G' = G ∧ us = [Value.int .i64 (0:Nat),.int .i64 (0:Nat),.slice none 0 0] ∧ μ' = [(d,.cells [.map (some m),.slice none 0 0].toArray 115 (0,0))]) (fun us=>0) rfl ⟨rfl,rfl,rfl⟩ ?_
    rintro us G' _ ⟨rfl,rfl,rfl⟩
    repeat' (first|apply v_seq|apply v_region|apply v_nil|(apply v_exit;(case hp=>rfl))|(apply v_pure;(case hop=>first|(apply p_move <;> rfl)|(apply p_lt <;> rfl)|(apply p_assign <;> rfl)|fail);(case hd=>rfl))|(apply v_cond;(case hc=>rfl);all_goals (intro h;(try simp only [reduceCtorEq,zzz] at h);first|(exfalso;omega)|skip))|fail)
    refine v_ret [(d,_)] (outsA1 rfl rfl) (by repeat (exact List.Sublist.refl _)) ?_
    exact ⟨GH.le_refl _,Sl.nil,rfl⟩
  · simp only [maxLen] at h2
    (refine v_enter Tryz.func33 rfl Tryz.ntmps33 rfl ?_;intro B _)
    repeat' (first|apply v_seq|apply v_region|apply v_nil|apply v_skip|apply v_block|(apply v_pure;(case hop=>first|(apply p_move <;> rfl)|(apply p_assign <;> rfl)|(apply p_lenSlice <;> rfl)|(apply p_fieldAddrB <;> rfl)|(apply p_nilCheck <;> rfl)|(apply p_eqNil <;> rfl)|fail);(case hd=>rfl))|(apply v_condF;(case hc=>rfl))|(apply v_read;(case hop=>(apply r_load1;rfl;(apply Cell.own;(case h=>(repeat (exact mhd _)));rfl)));(case hd=>rfl))|fail)
    refine v_loop [13,3,12,11] (fun us G' μ'=>GH.le G G' ∧ ∃ (k:Nat) (v:Value) (ν':OH),k ≤ l.length ∧ us = [Value.int .i64 (k:Nat),v,.int .i64 (l.length:Nat),.slice (some ⟨ob,0,none⟩) l.length cap] ∧ GrL 124 3 (OpR G') v (l.take k) ν' ∧ μ' = ν' ++ [(d,.cells [.map (some m),.slice (some ⟨ob,0,none⟩) l.length cap].toArray 115 (0,0)),(ob,.cells cells.toArray 124 (0,0))]) (fun us=>l.length - (headI us).toNat) rfl ⟨GH.le_refl _,0,_,[],by omega,rfl,GrL.nil,rfl⟩ ?_
    rintro us G' _ ⟨hle,k,v,ν',hk,rfl,hg',rfl⟩
    by_cases hlt:k < l.length
    · have e1:((k:Nat):Int).toNat = k:=by omega
      have hcd:=hC.1 k hlt
      have hdat:=(hC.2 k hlt).mono hle
      have hxl:=hx _ (List.getElem_mem hlt)
      have htk:(l.take (k + 1)) = l.take k ++ [l[k]]:=List.take_succ_eq_append_getElem hlt
      have hkl:(l.take k).length = k:=by rw [List.length_take];omega
      generalize hxe:l[k] = x at *
      obtain ⟨kind,no,data⟩:=x
      simp only at *
      have qc:=bclone_s hdat (by omega)
      obtain ⟨css,hc1,hc2,hgr⟩:=id hg'
      obtain ⟨A6,c6,rfl,hA1,hA2⟩:=hgr.shape
      obtain ⟨_,_,_,_,_,_,_,hwb⟩:=hdat.openInt
      repeat' (first|(apply v_pure;(case hop=>apply p_idxOwn;(case hx=>rfl);(case hi=>rfl);(case h=>omega));(case hd=>rfl))|apply v_seq|apply v_region|apply v_nil|apply v_skip|apply v_block|(apply v_pure;(case hop=>first|(apply p_lt <;> rfl)|(apply p_fieldAddrB <;> rfl)|fail);(case hd=>rfl))|(apply v_cond;(case hc=>rfl);all_goals (intro h;(try simp only [reduceCtorEq,zzz] at h);first|(exfalso;omega)|skip))|(apply v_read;(case hop=>(apply r_loadNo;(case hx=>rfl);(case h=>repeat (first|exact mhd _|apply mtl|apply List.mem_append_right));(case hd=>exact hcd);(case hn=>rfl)));(case hd=>rfl))|(apply v_read;(case hop=>(apply r_load1;rfl;(apply Cell.own;(case h=>(repeat (exact mhd _)));rfl)));(case hd=>rfl))|(apply v_alloc;(case hz=>rfl);(case hd=>rfl);intro b)|(apply v_store;(case hp=>rfl);(case hx=>rfl);(case hc=>rfl);(case hsz=>rfl);(case h1=>rfl);(case hb=>(repeat (exact mhd _)));(case hfit=>exact nle rfl);(case hov=>((repeat (first|with_reducible exact ov_nil|apply ov_cons));done));(case hu=>repeat (exact Upd.here _ _)))|fail)
      refine v_call (μ1:=[]) (μ2:=_) rfl qc (List.Perm.refl _) rfl ?_
      rintro r7 G7 n7 - ⟨hG7,hg7⟩
      subst G7
      obtain ⟨A7,c7,rfl,-,-⟩:=hg7.shape
      repeat' (first|apply v_region|apply v_nil|apply v_blk|(apply v_pure;(case hop=>first|(apply p_move <;> rfl)|(apply p_assign <;> rfl)|(apply p_fieldAddrB <;> rfl)|(apply p_add;(case hx=>rfl);(case hy=>rfl);(case h=>omega))|fail);(case hd=>rfl))|(apply v_append (hg:=hgr) (m':=1) (us:=[.int .i64 kind,.int .i64 no,.slice A7 data.length c7]) (hp:=PickA.perm (by repeat (first|exact PickA.here _|apply PickA.cons|apply PickA.app))) (hsrc:=Src.own (e:=124) (by repeat (exact mhd _)) rfl);(case hzs=>rfl);(case hsz=>omega);(case hs=>rfl);(case hx=>rfl);(case hb=>omega);(case hb'=>simp only [maxLen];omega);(case hd=>rfl);(case h1=>rfl);intro v8 n8 hg8;obtain ⟨A8,c8,rfl,-,-⟩:=hg8.shape)|(apply v_read;(case hop=>(apply r_loadNo;(case hx=>rfl);(case h=>(repeat (first|exact mhd _|apply List.mem_append_right)));(case hd=>(repeat (first|with_reducible exact dt_nil|apply dt_here)));(case hn=>rfl)));(case hd=>rfl))|(apply v_buildSlice;(case hz=>rfl);(case hi=>rfl);(case hv=>(simp only [List.map_cons,List.map_nil];repeat (first|with_reducible exact evs_nil|(apply evs_cons;(case h1=>rfl)))));(case hp=>(apply pk_cons;(case hc=>rfl);(case hs=>rfl);(case h=>(with_reducible exact pk_nil));(case he=>((repeat (first|with_reducible exact ap_nil|apply ap_cons));done))));(case hb=>rfl);(case hd=>rfl);intro b)|(apply v_store;(case hp=>rfl);(case hx=>rfl);(case hc=>rfl);(case hsz=>rfl);(case h1=>rfl);(case hb=>(repeat (first|exact mhd _|apply List.mem_append_right)));(case hfit=>exact nle rfl);(case hov=>((repeat (first|with_reducible exact ov_nil|apply ov_cons));done));(case hu=>repeat (first|exact Upd.here _ _|apply Upd.app)))|fail)
      refine v_frz n7 (PickA.app _ (PickA.cons _ (PickA.here _))) ?_
      intro G5 hle5 hG5
      have hbs:=hg7.ints hG5 hwb
      refine v_drop (ν:=n8 ++ [(d,.cells [.map (some m),.slice (some ⟨ob,0,none⟩) l.length cap].toArray 115 (0,0)),(ob,.cells cells.toArray 124 (0,0))]) (List.Sublist.append_left (List.Sublist.cons _ (List.Sublist.cons _ (List.Sublist.refl _))) _) ?_
      refine v_again rfl ⟨GH.le_trans hle hle5,k + 1,_,n8,by omega,rfl,?_,rfl⟩ (by simp [headI];omega)
      rw [htk]
      exact GrL.snoc (R:=OpR G5) (x:=⟨kind,no,data⟩) hc1 (fun i y cs hy hc=>⟨(hc2 i y cs hy hc).1,(hc2 i y cs hy hc).2.le hle5⟩) hg8 rfl ⟨A7,c7,rfl,hbs⟩
    · obtain rfl:k = l.length:=by omega
      rw [List.take_length] at hg'
      repeat' (first|apply v_seq|apply v_region|apply v_nil|(apply v_exit;(case hp=>rfl))|(apply v_pure;(case hop=>first|(apply p_move <;> rfl)|(apply p_lt <;> rfl)|(apply p_assign <;> rfl)|fail);(case hd=>rfl))|(apply v_cond;(case hc=>rfl);all_goals (intro h;(try simp only [reduceCtorEq,zzz] at h);first|(exfalso;omega)|skip))|fail)
      refine v_frz ν' (PickA.here _) ?_
      intro G5 hle5 hG5
      refine v_ret [(d,_),(ob,_)] (outsA1 rfl rfl) (List.Sublist.refl _) ⟨GH.le_trans hle hle5,?_,rfl⟩
      exact (hg'.le fun _ _ h=>h.le hle5).sl hG5
theorem doneL_len0 {x:Dop}:∀ {R:List Fl},(doneL x R false).length ≤ R.length
  | []=>by simp [doneL]
  | f :: R=>by
    have hk:(kp x f).length ≤ 1:=by
      unfold kp
      split
      · simp
      · split
        · simp
        · split <;> simp
    have i1:=doneL_len0 (x:=x) (R:=R)
    unfold doneL
    split
    · rename_i h;cases h.1
    · simp only [List.length_cons,List.length_append];omega
theorem doneL_len {x:Dop}:∀ {R:List Fl} {ins:Bool},(doneL x R ins).length ≤ R.length + 1
  | [],ins=>by
    unfold doneL
    split <;> simp
  | f :: R,ins=>by
    have hk:(kp x f).length ≤ 1:=by
      unfold kp
      split
      · simp
      · split
        · simp
        · split <;> simp
    have i1:=doneL_len (x:=x) (R:=R) (ins:=false)
    have i2:=doneL_len (x:=x) (R:=R) (ins:=ins)
    have i3:(doneL x R false).length ≤ R.length:=doneL_len0
    unfold doneL
    split
    · simp only [List.length_cons,List.length_append];omega
    · simp only [List.length_cons,List.length_append];omega
theorem endN_file {f:Int} {n:Nat} {xs:List Rc} {i:Nat}:endN encF f n xs i = (fileB encF f n (xs.take i)).length:=by
  unfold endN fileB
  rw [List.length_append]
theorem flatF_size {f:Int}:∀ {xs:List Rc},(∀ x ∈ xs,OkF f x) → (flatF (encF f) xs).length ≤ xs.length * 7100
  | [],_=>by simp [flatF]
  | x :: xs,h=>by
    have h1:=flatF_size (xs:=xs) fun y hy=>h y (List.mem_cons_of_mem _ hy)
    have h2:=h x List.mem_cons_self
    have h3:=(encF_size h2.err h2.img).2
    have h4:=frB_max (encF f x)
    have e:flatF (encF f) (x :: xs) = frB (encF f x) ++ flatF (encF f) xs:=by simp [flatF]
    rw [e,List.length_append,List.length_cons]
    omega
theorem fileB_size {f:Int} {n:Nat} {xs:List Rc} (h:∀ x ∈ xs,OkF f x):(fileB encF f n xs).length ≤ 100 + xs.length * 7100:=by
  have h1:=flatF_size h
  have h2:=(headB_size f n).2
  unfold fileB
  rw [List.length_append]
  omega
theorem endN_mono {f:Int} {n:Nat} {xs:List Rc} {i j:Nat} (h:i ≤ j):endN encF f n xs i ≤ endN encF f n xs j:=by
  have:=flatF_len_take (encF f) (xs.take j) i
  rw [List.take_take,Nat.min_eq_left h] at this
  unfold endN
  omega
def Nice (b:List Int):Prop:=b.length ≤ 900000 ∧ ∀ f xs k,readF decF b = some (f,xs,k) → xs.length ≤ 200
def SOK (c:Nat) (s:Fs):Prop:=(∀ k b,s k = some b → 1 ≤ k ∧ k ≤ c ∧ Nice b) ∧ ∃ R,Rep R s ∧ R.length ≤ c
theorem SOK.more {c d:Nat} {s:Fs} (h:SOK c s) (hd:c ≤ d):SOK d s:=⟨fun k b hk=>by have:=h.1 k b hk;exact ⟨this.1,by omega,this.2.2⟩,let ⟨R,h1,h2⟩:=h.2;⟨R,h1,by omega⟩⟩
theorem SOK.len {c:Nat} {s:Fs} (h:SOK c s) {R:List Fl} (hR:Rep R s):R.length ≤ c:=by
  obtain ⟨R',h1,h2⟩:=h.2
  rw [rep_ext hR h1]
  exact h2
theorem SOK.bd {c:Nat} {s:Fs} (h:SOK c s):Bd s 900000:=fun k b hk=>(h.1 k b hk).2.2.1
def OpsOk (c:Nat) (l:List Dop):Prop := ∀ x ∈ l,(1 ≤ x.no ∧ x.no ≤ c) ∧ x.data.length ≤ 900000 ∧ (1 ≤ x.kind ∧ x.kind ≤ 3)
theorem OpsOk.more {c d:Nat} {l:List Dop} (h:OpsOk c l) (hd:c ≤ d):OpsOk d l:=fun x hx=>by
  have:=h x hx
  exact ⟨⟨this.1.1,by omega⟩,this.2⟩
structure WB (c a:Nat) (g:Fs) (l:List Dop) (past:List (Int × Hd)) (p:Int × Hd):Prop where
  cs:∀ s,CS g l s → SOK c s ∧ ∃ q ∈ past,PK s q
  all:PK (gall g l) p
  mem:p ∈ past
  past:∀ q ∈ past,St a q.1 q.2
  ops:OpsOk c l
  len:l.length ≤ 50 * c
structure WI (c a:Nat) (g:Fs) (l:List Dop) (past:List (Int × Hd)) (no f:Int) (n:Nat) (xs:List Rc):Prop where
  cs:∀ s,CS g l s → SOK (c + 1) s ∧ ∃ q ∈ past,PK s q
  top:TopIs (gall g l) no (fileB encF f n xs)
  n:n ≤ xs.length
  size:xs.length ≤ 2 + 2 * a
  rx:∀ x ∈ xs,Rx f x
  st:St a f (hardOf xs)
  mem:(f,hardOf xs) ∈ past
  past:∀ q ∈ past,St a q.1 q.2
  ops:OpsOk (c + 1) l
  len:l.length ≤ 50 * (c + 1)
  no:1 ≤ no ∧ no ≤ c + 1
theorem file_read {f:Int} {n:Nat} {xs:List Rc} (hf:f = 1 ∨ f = 2) (hn:n ≤ xs.length) (hx:∀ x ∈ xs,Rx f x) (hl:xs.length ≤ 100):readF decF (fileB encF f n xs) = some (f,xs,(fileB encF f n xs).length) :=
  readF_file hf hn (fun x h=>(hx x h).okC) (by omega)
theorem file_size {f:Int} {n:Nat} {xs:List Rc} (hx:∀ x ∈ xs,Rx f x):(fileB encF f n xs).length ≤ 100 + xs.length * 7100:=fileB_size fun x h=>(hx x h).okF
theorem file_nice {f:Int} {n:Nat} {xs:List Rc} (hf:f = 1 ∨ f = 2) (hn:n ≤ xs.length) (hx:∀ x ∈ xs,Rx f x) (hl:xs.length ≤ 100) (t:Nat):Nice ((fileB encF f n xs).take t):=by
  have hs:=file_size (n:=n) hx
  refine ⟨by rw [List.length_take];omega,fun f' xs' k h=>?_⟩
  have ht:(fileB encF f n xs).take t = (fileB encF f n xs).take (min t (fileB encF f n xs).length):=by
    rw [List.take_eq_take_iff]
    omega
  rw [ht] at h
  obtain ⟨c1,c2⟩:=readF_cut encF decF hf hn (fun x h=>(hx x h).okC) (by omega) (m:=min t (fileB encF f n xs).length) (by omega)
  by_cases hc:min t (fileB encF f n xs).length < endN encF f n xs n
  · rw [c1 hc] at h;cases h
  · obtain ⟨K,-,h2,-,-,h5⟩:=c2 hc
    rw [h5] at h
    cases h
    rw [List.length_take]
    omega
theorem head_cut {f:Int} {xs:List Rc} (hf:f = 1 ∨ f = 2) (hx:∀ x ∈ xs,Rx f x) (hl:xs.length ≤ 100) (t:Nat):readF decF ((fileB encF f xs.length xs).take t) = none ∨ (fileB encF f xs.length xs).take t = fileB encF f xs.length xs:=by
  by_cases ht:t < (fileB encF f xs.length xs).length
  · obtain ⟨c1,-⟩:=readF_cut encF decF hf (Nat.le_refl xs.length) (fun x h=>(hx x h).okC) (by omega) (m:=t) (by omega)
    refine .inl (c1 ?_)
    rw [endN_file,List.take_length]
    exact ht
  · exact .inr (List.take_of_length_le (by omega))
theorem file_app {f:Int} {n:Nat} {xs:List Rc} {x:Rc}:fileB encF f n (xs ++ [x]) = fileB encF f n xs ++ frB (encF f x):=by
  unfold fileB
  rw [flatF_app,flatF_cons,flatF_nil,List.append_nil,List.append_assoc]
theorem add_cut {f:Int} {n:Nat} {xs:List Rc} {x:Rc} (hf:f = 1 ∨ f = 2) (hn:n ≤ xs.length) (hx:∀ y ∈ xs ++ [x],Rx f y) (hl:xs.length ≤ 100) (t:Nat):∃ k,readF decF (fileB encF f n xs ++ (frB (encF f x)).take t) = some (f,xs,k) ∨ readF decF (fileB encF f n xs ++ (frB (encF f x)).take t) = some (f,xs ++ [x],k):=by
  have e:=file_app (f:=f) (n:=n) (xs:=xs) (x:=x)
  have hxl:(xs ++ [x]).length = xs.length + 1:=by simp
  have ht:fileB encF f n xs ++ (frB (encF f x)).take t = (fileB encF f n (xs ++ [x])).take (min ((fileB encF f n xs).length + t) (fileB encF f n (xs ++ [x])).length):=by
    rw [e,List.take_append,List.take_of_length_le (l:=fileB encF f n xs) (by rw [List.length_append];omega)]
    congr 1
    rw [List.take_eq_take_iff,List.length_append]
    omega
  rw [ht]
  have hlen:(fileB encF f n xs).length ≤ (fileB encF f n (xs ++ [x])).length:=by rw [e,List.length_append];omega
  obtain ⟨-,c2⟩:=readF_cut encF decF hf (n:=n) (xs:=xs ++ [x]) (by omega) (fun y h=>(hx y h).okC) (by omega) (m:=min ((fileB encF f n xs).length + t) (fileB encF f n (xs ++ [x])).length) (by omega)
  have h1:endN encF f n (xs ++ [x]) xs.length = (fileB encF f n xs).length:=by rw [endN_file,List.take_left]
  have h0:=endN_mono (f:=f) (n:=n) (xs:=xs ++ [x]) hn
  obtain ⟨K,k1,k2,k3,k4,k5⟩:=c2 (by omega)
  have hK:=k4 xs.length (by omega) (by omega)
  refine ⟨endN encF f n (xs ++ [x]) K,?_⟩
  rw [k5]
  by_cases hk:K = xs.length
  · left
    rw [hk,List.take_left]
  · right
    rw [List.take_of_length_le (by omega)]
theorem WI.base {c a:Nat} {g:Fs} {l:List Dop} {past:List (Int × Hd)} {no f:Int} {n:Nat} {xs:List Rc} (h:WI c a g l past no f n xs) (ha:a ≤ 45):WB (c + 1) a g l past (f,hardOf xs) :=
  ⟨h.cs,pk_top h.top (file_read h.st.form h.n h.rx (by have:=h.size;omega)),h.mem,h.past,h.ops,h.len⟩
theorem wb_zero:WB 0 0 (fun _=>none) [] [(1,Hd.zero)] (1,Hd.zero):=by
  refine ⟨fun s hs=>?_,pk_none,by simp,fun q hq=>?_,fun x hx=>by simp at hx,by simp⟩
  · rw [cs_nil hs]
    exact ⟨⟨fun k b hk=>by simp at hk,[],rep_zero,by simp⟩,(1,Hd.zero),by simp,pk_none⟩
  · rw [List.mem_singleton] at hq
    subst hq
    exact St.zero (.inl rfl)
theorem WI.sync {c a:Nat} {g:Fs} {l:List Dop} {past:List (Int × Hd)} {no f:Int} {n:Nat} {xs:List Rc} (h:WI c a g l past no f n xs) (ha:a ≤ 45):WI c a (gall g l) [] [(f,hardOf xs)] no f n xs:=by
  have hs:=h.cs _ (cs_all g l)
  refine ⟨fun s h'=>?_,h.top,h.n,h.size,h.rx,h.st,by simp,fun q hq=>by rw [List.mem_singleton] at hq;subst hq;exact h.st,fun x hx=>by simp at hx,by simp,h.no⟩
  rw [cs_nil h']
  exact ⟨hs.1,_,by simp,pk_top h.top (file_read h.st.form h.n h.rx (by have:=h.size;omega))⟩
theorem top_add {s:Fs} {no:Int} {b e:List Int} (t:TopIs s no b):TopIs (gdo s ⟨2,no,e⟩) no (b ++ e):=by
  constructor
  · unfold gdo
    simp [t.1]
  · intro k hk
    unfold gdo at hk
    by_cases h:k = no
    · omega
    · simp [h] at hk
      exact t.2 k hk
theorem top_drop {s:Fs} {no k:Int} {b:List Int} (t:TopIs s no b) (hk:k ≠ no):TopIs (gdo s ⟨3,k,[]⟩) no b:=by
  have hk':no ≠ k:=fun e=>hk e.symm
  constructor
  · unfold gdo
    simp [hk',t.1]
  · intro j hj
    unfold gdo at hj
    by_cases h:j = k
    · simp [h] at hj
    · simp [h] at hj
      exact t.2 j hj
theorem insB_no {x:Dop} {R:List Fl} (h:x.kind ≠ 1):insB x R = false:=by
  unfold insB
  simp [h]
theorem sok_add {d:Nat} {s:Fs} {no:Int} {b e:List Int} (h:SOK d s) (t:TopIs s no b) (hn:Nice (b ++ e)):SOK d (gdo s ⟨2,no,e⟩):=by
  obtain ⟨h1,R,hR,hl⟩:=h
  have hno:=h1 no b t.1
  refine ⟨fun k b' hk=>?_,doneR R ⟨2,no,e⟩,rep_done (by simp) hR,?_⟩
  · unfold gdo at hk
    by_cases hkn:k = no
    · subst hkn
      simp [t.1] at hk
      subst hk
      exact ⟨hno.1,hno.2.1,hn⟩
    · simp [hkn] at hk
      exact h1 k b' hk
  · unfold doneR
    rw [insB_no (by simp)]
    exact Nat.le_trans doneL_len0 hl
theorem sok_drop {d:Nat} {s:Fs} {no:Int} (h:SOK d s):SOK d (gdo s ⟨3,no,[]⟩):=by
  obtain ⟨h1,R,hR,hl⟩:=h
  refine ⟨fun k b' hk=>?_,doneR R ⟨3,no,[]⟩,rep_done (by simp) hR,?_⟩
  · unfold gdo at hk
    by_cases hkn:k = no
    · simp [hkn] at hk
    · simp [hkn] at hk
      exact h1 k b' hk
  · unfold doneR
    rw [insB_no (by simp)]
    exact Nat.le_trans doneL_len0 hl
theorem cs_drops {d:Nat} {no:Int} {b:List Int} {s':Fs}:∀ {R:List Fl} {s:Fs},TopIs s no b → SOK d s → (∀ r ∈ R,r.1 ≠ no) → CS s (R.map fun r=>⟨3,r.1,[]⟩) s' → TopIs s' no b ∧ SOK d s'
  | [],s,t,h,_,hc=>by
    rw [cs_nil hc]
    exact ⟨t,h⟩
  | r :: R,s,t,h,hn,hc=>by
    rw [List.map_cons] at hc
    rcases cs_cons hc with ⟨-,rfl⟩|⟨h2,-⟩|hc
    · exact ⟨t,h⟩
    · simp at h2
    · exact cs_drops (top_drop t (hn r List.mem_cons_self)) (sok_drop h) (fun q hq=>hn q (List.mem_cons_of_mem _ hq)) hc
theorem add_take {f:Int} {n:Nat} {xs:List Rc} {x:Rc} (t:Nat):fileB encF f n xs ++ (frB (encF f x)).take t = (fileB encF f n (xs ++ [x])).take ((fileB encF f n xs).length + t):=by
  rw [file_app,List.take_append,List.take_of_length_le (l:=fileB encF f n xs) (by omega)]
  congr 2
  omega
theorem WI.add {c a:Nat} {g:Fs} {l:List Dop} {past:List (Int × Hd)} {no f:Int} {n:Nat} {xs:List Rc} (h:WI c a g l past no f n xs) {x:Rc} (r:Rx f x) (ha:a ≤ 45) :
    WI (c + 1) (a + 1) g (l ++ [⟨2,no,frB (encF f x)⟩]) (past ++ [(f,stepH (hardOf xs) x)]) no f n (xs ++ [x]):=by
  have hsz:=h.size
  have hrx:∀ y ∈ xs ++ [x],Rx f y:=fun y hy=>by
    rcases List.mem_append.1 hy with hy|hy
    · exact h.rx y hy
    · rw [List.mem_singleton] at hy;subst hy;exact r
  have hl1:(xs ++ [x]).length = xs.length + 1:=by simp
  have hb:=(h.cs _ (cs_all g l)).1
  have hst:=h.st.step r
  have key:∀ t,SOK (c + 1) (gdo (gall g l) ⟨2,no,(frB (encF f x)).take t⟩) ∧ ∃ q ∈ past ++ [(f,stepH (hardOf xs) x)],PK (gdo (gall g l) ⟨2,no,(frB (encF f x)).take t⟩) q:=fun t=>by
    have ht:=top_add (e:=(frB (encF f x)).take t) h.top
    refine ⟨sok_add hb h.top ?_,?_⟩
    · rw [add_take]
      exact file_nice h.st.form (by have:=h.n;omega) hrx (by omega) _
    · obtain ⟨k,hk|hk⟩:=add_cut h.st.form h.n hrx (by omega) t
      · exact ⟨_,List.mem_append_left _ h.mem,pk_top ht hk⟩
      · refine ⟨(f,stepH (hardOf xs) x),List.mem_append_right _ (by simp),?_⟩
        have:=pk_top ht hk
        rw [hardOf_snoc] at this
        exact this
  refine ⟨fun s hs=>?_,?_,by have:=h.n;omega,by omega,hrx,?_,?_,fun q hq=>?_,fun y hy=>?_,?_,by have:=h.no;omega⟩
  · rcases cs_app hs with hs|hs
    · obtain ⟨a,q,hq,hp⟩:=h.cs s hs
      exact ⟨a.more (by omega),q,List.mem_append_left _ hq,hp⟩
    rcases cs_cons hs with ⟨h2,-⟩|⟨-,t,rfl⟩|hs
    · exact absurd rfl h2
    · exact ⟨(key t).1.more (by omega),(key t).2⟩
    · rw [cs_nil hs]
      have:=key (frB (encF f x)).length
      rw [List.take_length] at this
      exact ⟨this.1.more (by omega),this.2⟩
  · rw [gall_app,file_app]
    exact top_add h.top
  · rw [hardOf_snoc];exact hst
  · rw [hardOf_snoc];exact List.mem_append_right _ (by simp)
  · rcases List.mem_append.1 hq with hq|hq
    · exact (h.past q hq).more (by omega)
    · rw [List.mem_singleton] at hq;subst hq;exact hst
  · rcases List.mem_append.1 hy with hy|hy
    · exact h.ops.more (by omega) y hy
    · rw [List.mem_singleton] at hy
      subst hy
      have h1:=(encF_size r.err r.img).2
      have h2:=frB_max (encF f x)
      have:=h.no
      exact ⟨⟨this.1,by simp only;omega⟩,by simp only;omega,by simp⟩
  · have:=h.len
    simp
    omega
def beginOps (no:Int) (B:List Int) (R:List Fl):List Dop:=⟨1,no,[]⟩ :: ⟨2,no,B⟩ :: R.map fun r=>⟨3,r.1,[]⟩
theorem WB.begin {c a:Nat} {g:Fs} {l:List Dop} {past:List (Int × Hd)} {p:Int × Hd} (h:WB c a g l past p) {f:Int} {H:Hd} (s:St a f H) {R:List Fl} (hR:Rep R (gall g l)) {gr:Int} (hg0:0 ≤ gr) (hgc:gr ≤ c) (hk:∀ k,gall g l k ≠ none → k ≤ gr) (hc:c ≤ 45) (ha:a ≤ 45) :
    WI c a g (l ++ beginOps (gr + 1) (fileB encF f (recsOf H).length (recsOf H)) R) (past ++ [(f,H)]) (gr + 1) f (recsOf H).length (recsOf H):=by
  have hsz:=s.len
  have hrx:=s.recs
  have hb:=(h.cs _ (cs_all g l)).1
  have hbs:=file_size (n:=(recsOf H).length) hrx
  have hRl:=hb.len hR
  have hno:∀ r ∈ R,r.1 ≤ gr:=fun r hr=>hk r.1 (by rw [← hR.2,rget_mem hR.1 hr];simp)
  have hno1:∀ r ∈ R,1 ≤ r.1:=fun r hr=>by
    have e:gall g l r.1 = some r.2:=by rw [← hR.2,rget_mem hR.1 hr]
    exact (hb.1 _ _ e).1
  have hz:gall g l (gr + 1) = none:=Decidable.byContradiction fun hn=>by have:=hk _ hn;omega
  have hcut:=head_cut s.form hrx (by omega)
  have hnice:=fun t=>file_nice s.form (Nat.le_refl _) hrx (by omega) t
  have hread:=file_read s.form (Nat.le_refl _) hrx (by omega)
  generalize hbe:gall g l = b at *
  have t1:TopIs (gdo b ⟨1,gr + 1,[]⟩) (gr + 1) []:=by
    constructor
    · unfold gdo
      simp [hz]
    · intro k hk'
      unfold gdo at hk'
      by_cases e:k = gr + 1
      · omega
      · simp [e] at hk'
        have:=hk k hk'
        omega
  have s1:SOK (c + 1) (gdo b ⟨1,gr + 1,[]⟩):=by
    refine ⟨fun k b' hk'=>?_,doneR R ⟨1,gr + 1,[]⟩,rep_done (by simp) hR,?_⟩
    · unfold gdo at hk'
      by_cases e:k = gr + 1
      · simp [e,hz] at hk'
        subst hk'
        refine ⟨by omega,by omega,by simp,fun f' xs' k' h'=>?_⟩
        rw [readF_none decF nextF_nil] at h'
        cases h'
      · simp [e] at hk'
        have:=hb.1 k b' hk'
        exact ⟨this.1,by omega,this.2.2⟩
    · unfold doneR
      have:=doneL_len (x:=⟨1,gr + 1,[]⟩) (R:=R) (ins:=insB ⟨1,gr + 1,[]⟩ R)
      omega
  have c0:∀ e,b = cutS (gdo (gdo b ⟨1,gr + 1,[]⟩) ⟨2,gr + 1,e⟩) (gr + 1):=fun e=>by
    funext k
    unfold cutS gdo
    by_cases e:k = gr + 1
    · rw [e,hz];simp
    · simp [e]
  have c1:b = cutS (gdo b ⟨1,gr + 1,[]⟩) (gr + 1):=by
    funext k
    unfold cutS gdo
    by_cases e:k = gr + 1
    · rw [e,hz];simp
    · simp [e]
  have t2:=fun e=>top_add (e:=e) t1
  simp only [List.nil_append] at t2
  have s2:=fun e (he:Nice e)=>sok_add (e:=e) s1 t1 (by simpa using he)
  have hnB:Nice (fileB encF f (recsOf H).length (recsOf H)):=by have:=hnice (fileB encF f (recsOf H).length (recsOf H)).length;rwa [List.take_length] at this
  have tail:∀ s',CS (gdo (gdo b ⟨1,gr + 1,[]⟩) ⟨2,gr + 1,fileB encF f (recsOf H).length (recsOf H)⟩) (R.map fun r=>⟨3,r.1,[]⟩) s' → TopIs s' (gr + 1) (fileB encF f (recsOf H).length (recsOf H)) ∧ SOK (c + 1) s':=fun s' hs'=>cs_drops (t2 _) (s2 _ hnB) (fun r hr=>by have:=hno r hr;omega) hs'
  have hH:(f,H) = (f,hardOf (recsOf H)):=by rw [s.back]
  refine ⟨fun s' hs=>?_,?_,Nat.le_refl _,by omega,hrx,?_,?_,fun q hq=>?_,fun y hy=>?_,?_,by omega⟩
  · rcases cs_app hs with hs|hs
    · obtain ⟨a,q,hq,hp⟩:=h.cs s' hs
      exact ⟨a.more (by omega),q,List.mem_append_left _ hq,hp⟩
    rw [hbe] at hs
    unfold beginOps at hs
    have hall:=h.all
    rw [hbe] at hall
    rcases cs_cons hs with ⟨-,rfl⟩|⟨h2,-⟩|hs
    · exact ⟨hb.more (by omega),p,List.mem_append_left _ h.mem,hall⟩
    · simp at h2
    rcases cs_cons hs with ⟨h2,-⟩|⟨-,t,rfl⟩|hs
    · exact absurd rfl h2
    · refine ⟨s2 _ (hnice t),?_⟩
      rcases hcut t with h3|h3
      · exact ⟨p,List.mem_append_left _ h.mem,pk_same (t2 _) h3 hall (c0 _)⟩
      · simp only [h3]
        refine ⟨(f,H),List.mem_append_right _ (by simp),?_⟩
        rw [hH]
        exact pk_top (t2 _) hread
    · obtain ⟨a,b'⟩:=tail s' hs
      refine ⟨b',(f,H),List.mem_append_right _ (by simp),?_⟩
      rw [hH]
      exact pk_top a hread
  · rw [gall_app,hbe]
    exact (tail _ (cs_all _ _)).1
  · rw [s.back];exact s
  · rw [s.back];exact List.mem_append_right _ (by simp)
  · rcases List.mem_append.1 hq with hq|hq
    · exact h.past q hq
    · rw [List.mem_singleton] at hq;subst hq;exact s
  · rcases List.mem_append.1 hy with hy|hy
    · exact h.ops.more (by omega) y hy
    unfold beginOps at hy
    rcases List.mem_cons.1 hy with rfl|hy
    · exact ⟨⟨by simp only;omega,by simp only;omega⟩,by simp,by simp⟩
    rcases List.mem_cons.1 hy with rfl|hy
    · exact ⟨⟨by simp only;omega,by simp only;omega⟩,by simp only;omega,by simp⟩
    obtain ⟨r,hr,rfl⟩:=List.mem_map.1 hy
    have:=hno r hr
    have:=hno1 r hr
    exact ⟨⟨by simp only;omega,by simp only;omega⟩,by simp,by simp⟩
  · have:=h.len
    unfold beginOps
    simp
    omega
end Go.Proofs.YtpemabgfmnhhnaaGreatDoor
/-
  VX: make of a slice; copy of nothing; clear of a row's end; results that lie in memory, of several shapes.
-/
set_option linter.unusedVariables false
set_option linter.unusedSimpArgs false
set_option linter.unusedSectionVars false
namespace Go.Vx
open Go
section
attribute [local semireducible] MoveOp ReadOp PureOp
variable {P:Program} {fn:Func} {n:Nat} {B:Base} {Φ:Value → GH → OH → Prop} {k:List It} {rest:List Oper} {all:Array Oper} {σ:Env} {G:GH} {μ:OH} {d:Nat} {t ty:TypeId} {pos:String} {af:Array Edge} {bytes:Nat} {zero:Value}
end
section
variable {P:Program} {fn:Func} {n:Nat} {σ:Env} {G:GH} {μ:OH}
theorem outsM_tc {u0:Nat} {x0:Value} {a1 b1 sz1 bytes1:Nat} {zero1:Value} {vs1:List Value} {t1 e1:TypeId} [Lay P t1 true sz1 bytes1 zero1] (hr:fn.results = #[.tmp u0,.cell a1 t1]) (hu0:Env.get σ u0 = some x0) (ha1:Env.get σ a1 = some (.pointer (some ⟨b1,0,none⟩))) (hb1:Has μ b1 vs1 e1) (hl1:vs1.length = sz1):OutsM P fn n σ G μ (.tuple [x0,.agg vs1.toArray].toArray):=by
  intro w hw ds a' ha'
  have h0:=ha'.get _ _ hu0
  subst hl1
  have h1:=ha'.get _ _ ha1
  have g1:(loadCells ⟨b1,0,none⟩ vs1.length).run P w = .ok vs1.toArray w:=run_loadCells_list w _ vs1 (fun j v hv=>CellsAt.own hb1 j v hv w hw)
  simp only [Array.getD_eq_getD_getElem?] at h0 h1
  simp [results,hr,asAddr,loadVar,h0,h1,run_isAgg' (P:=P) (t:=t1) (agg:=true) (size:=vs1.length) (bytes:=bytes1) (zero:=zero1),run_sizeOf (P:=P) (t:=t1) (agg:=true) (size:=vs1.length) (bytes:=bytes1) (zero:=zero1),g1]
theorem outsM_tct {u0:Nat} {x0:Value} {a1 b1 sz1 bytes1:Nat} {zero1:Value} {vs1:List Value} {t1 e1:TypeId} [Lay P t1 true sz1 bytes1 zero1] {u2:Nat} {x2:Value} (hr:fn.results = #[.tmp u0,.cell a1 t1,.tmp u2]) (hu0:Env.get σ u0 = some x0) (ha1:Env.get σ a1 = some (.pointer (some ⟨b1,0,none⟩))) (hb1:Has μ b1 vs1 e1) (hl1:vs1.length = sz1) (hu2:Env.get σ u2 = some x2):OutsM P fn n σ G μ (.tuple [x0,.agg vs1.toArray,x2].toArray):=by
  intro w hw ds a' ha'
  have h0:=ha'.get _ _ hu0
  subst hl1
  have h1:=ha'.get _ _ ha1
  have g1:(loadCells ⟨b1,0,none⟩ vs1.length).run P w = .ok vs1.toArray w:=run_loadCells_list w _ vs1 (fun j v hv=>CellsAt.own hb1 j v hv w hw)
  have h2:=ha'.get _ _ hu2
  simp only [Array.getD_eq_getD_getElem?] at h0 h1 h2
  simp [results,hr,asAddr,loadVar,h0,h1,run_isAgg' (P:=P) (t:=t1) (agg:=true) (size:=vs1.length) (bytes:=bytes1) (zero:=zero1),run_sizeOf (P:=P) (t:=t1) (agg:=true) (size:=vs1.length) (bytes:=bytes1) (zero:=zero1),g1,h2]
end
end Go.Vx
/-
  wal (layer 21): Peek, greatest.
-/
set_option linter.unusedSimpArgs false
set_option linter.unusedVariables false
namespace Go.Proofs.YtpemabgfmnhhnaaGreatDoor
open Go.Vx Go.ChangeShapes Go.WideShapes Go.ChangeAt Go.RowKit
structure DkM (c:Nat) (G:GH) (g:Fs) (l:List Dop) (ov:Value) (ml:List (Int × Value)) (oM:Obj) (ν:OH):Prop where
  map:MapB keyI ml oM
  mf:MF G ml g
  gr:GrL 124 3 (OpR G) ov l ν
  ops:OpsOk c l
  len:l.length ≤ 50 * c
  sok:∀ q,q ≤ l.length → SOK c (gall g (l.take q))
@[irreducible] def dkB (d m:Nat) (ov:Value) (oM:Obj) (ν:OH):OH:=(d,dkO m ov) :: (m,oM) :: ν
theorem dkB_eq {d m:Nat} {ov:Value} {oM:Obj} {ν:OH}:dkB d m ov oM ν = (d,dkO m ov) :: (m,oM) :: ν:=by unfold dkB;rfl
theorem DkM.le {c:Nat} {G G':GH} {g:Fs} {l:List Dop} {ov:Value} {ml:List (Int × Value)} {oM:Obj} {ν:OH} (h:DkM c G g l ov ml oM ν) (hle:GH.le G G'):DkM c G' g l ov ml oM ν :=
  ⟨h.map,h.mf.up hle,h.gr.le fun _ _ hx=>hx.le hle,h.ops,h.len,h.sok⟩
theorem DkM.mlen {c:Nat} {G:GH} {g:Fs} {l:List Dop} {ov:Value} {ml:List (Int × Value)} {oM:Obj} {ν:OH} (h:DkM c G g l ov ml oM ν):ml.length ≤ c:=by
  have h1:=rep_files h.mf h.map.nodup (List.Perm.refl _)
  have h2:=(h.sok 0 (by omega)).len h1
  unfold filesOf at h2
  rw [List.length_map,(sortL_perm _).length_eq,List.length_map] at h2
  exact h2
theorem DkM.no {c:Nat} {G:GH} {g:Fs} {l:List Dop} {ov:Value} {ml:List (Int × Value)} {oM:Obj} {ν:OH} (h:DkM c G g l ov ml oM ν) (hc:c ≤ 46):∀ x ∈ l,inNo x.no:=fun x hx=>by
  have:=(h.ops x hx).1
  unfold inNo
  omega
theorem wview_s {c:Nat} {G:GH} {g:Fs} {l:List Dop} {d m:Nat} {ov:Value} {ml:List (Int × Value)} {oM:Obj} {ν:OH} (h:DkM c G g l ov ml oM ν) (hc:c ≤ 46) :
    Con Tryz.prog 77 #[.pointer (some ⟨d,0,none⟩)] G (dkB d m ov oM ν) (fun r G' μ'=>GH.le G G' ∧ ∃ R,Rep R (gall g l) ∧ Fls G' r R ∧ R.length ≤ c ∧ (∀ r ∈ R,(1 ≤ r.1 ∧ r.1 ≤ c) ∧ Nice r.2) ∧ μ' = dkB d m ov oM ν):=by
  have h1:=h.mlen
  have h2:=h.len
  have q:=view_s (d:=d) (m:=m) h.map h.mf (fun q hq k b hb=>by have:=(h.sok q hq).bd k b hb;omega) h.gr (by omega) (fun x hx=>by have:=(h.ops x hx).2.1;omega) (h.no hc) (by omega)
  unfold dkB
  refine q.mono ?_
  rintro r G' μ' ⟨hle,R,hR,hs,-,rfl⟩
  have hk:=h.sok l.length (Nat.le_refl _)
  rw [List.take_length] at hk
  refine ⟨hle,R,hR,hs,hk.len hR,fun r hr=>?_,rfl⟩
  have:=hk.1 r.1 r.2 (by rw [← hR.2,rget_mem hR.1 hr])
  exact ⟨⟨this.1,this.2.1⟩,this.2.2⟩
def PeekR (g:Fs) (l:List Dop) (D:OH) (G:GH) (r:Value) (G':GH) (μ':OH):Prop:=GH.le G G' ∧ ∃ f H L,r = .tuple [.int .i64 f,.agg L.toArray].toArray ∧ HdV G' H L ∧ PK (gall g l) (f,H) ∧ μ' = D
theorem peek_take {R:List Fl} {k:Nat} (h:k < R.length):peekL (R.take (k + 1)) = pk1 (peekL (R.take k)) R[k].2:=by
  rw [List.take_succ_eq_append_getElem h]
  exact peek_snoc _ _ _
theorem peek_s {c d m:Nat} {G:GH} (hT:TabsG G) (hC:CrcG G) {g:Fs} {l:List Dop} {ov:Value} {ml:List (Int × Value)} {oM:Obj} {ν:OH} (h:DkM c G g l ov ml oM ν) (hc:c ≤ 46) :
    Con Tryz.prog 37 #[.pointer (some ⟨d,0,none⟩)] G (dkB d m ov oM ν) (PeekR g l (dkB d m ov oM ν) G):=by
  have qv:=wview_s (d:=d) (m:=m) h hc
  (refine v_enter Tryz.func37 rfl Tryz.ntmps37 rfl ?_;intro B _)
  repeat' (first|apply v_seq|apply v_region|apply v_nil|(apply v_pure;(case hop=>first|(apply p_move <;> rfl)|(apply p_assign <;> rfl)|(apply p_build;(case hz=>rfl);(case hv=>(simp only [List.map_cons,List.map_nil];repeat (with_reducible exact evs_nil)));(case hb=>(apply bldL;repeat (exact bld_nil))))|fail);(case hd=>rfl))|(apply v_alloc;(case hz=>rfl);(case hd=>rfl);intro b)|(apply v_store;(case hp=>rfl);(case hx=>rfl);(case hc=>rfl);(case hsz=>rfl);(case h1=>rfl);(case hb=>(repeat (exact mhd _)));(case hfit=>exact nle rfl);(case hov=>((repeat (first|with_reducible exact ov_nil|apply ov_cons));done));(case hu=>repeat (exact Upd.here _ _)))|fail)
  rename_i rb
  revert b
  intro hb
  refine v_call (μ1:=(dkB d m ov oM ν)) (μ2:=[(hb,.cells (hdL 0 0 0 (.slice none 0 0) (.slice none 0 0) (.slice none 0 0)).toArray 27 (0,0)),(rb,.cells (hdL 0 0 0 (.slice none 0 0) (.slice none 0 0) (.slice none 0 0)).toArray 27 (0,0))]) rfl qv (List.perm_append_comm (l₁:=[_,_])) rfl ?_
  rintro v G1 _ hle1 ⟨-,R,hR,hs,hRl,hRn,rfl⟩
  obtain ⟨A,cA,dA,dc,rfl,hlc,hcm,hsome,hcl,hbs⟩:=flOpen hs
  simp only [maxLen] at hcm
  refine v_perm (ν:=(hb,.cells (hdL 0 0 0 (.slice none 0 0) (.slice none 0 0) (.slice none 0 0)).toArray 27 (0,0)) :: (rb,.cells (hdL 0 0 0 (.slice none 0 0) (.slice none 0 0) (.slice none 0 0)).toArray 27 (0,0)) :: dkB d m ov oM ν) (by apply perm_of_count;intro p;simp only [List.append_eq,List.countP_append,List.countP_cons,List.countP_nil,Nat.zero_add,Nat.add_zero];try ac_rfl) ?_
  repeat' (first|apply v_nil|apply v_block|(apply v_pure;(case hop=>first|(apply p_move <;> rfl)|(apply p_lenSlice <;> rfl)|fail);(case hd=>rfl))|fail)
  refine v_loop [14,13,12,5,4,3] (fun us G' μ'=>GH.le G1 G' ∧ ∃ (k:Nat) (f:Int) (H:Hd) (L:List Value),k ≤ R.length ∧ us = [Value.int .i64 (k:Nat),.int .i64 (R.length:Nat),.slice A R.length cA,.pointer (some ⟨hb,0,none⟩),.int .i64 f,.pointer (some ⟨rb,0,none⟩)] ∧ HdV G' H L ∧ peekL (R.take k) = (f,H) ∧ μ' = (hb,.cells L.toArray 27 (0,0)) :: (rb,.cells (hdL 0 0 0 (.slice none 0 0) (.slice none 0 0) (.slice none 0 0)).toArray 27 (0,0)) :: dkB d m ov oM ν) (fun us=>R.length - (headI us).toNat) rfl ⟨GH.le_refl _,0,1,Hd.zero,_,by omega,rfl,hd_zero _,rfl,rfl⟩ ?_
  rintro us G' _ ⟨hle,k,f,H,L,hk,rfl,hL,hp,rfl⟩
  have hL0:=hL
  obtain ⟨iv,av,cv,rfl,hi,ha,hcv⟩:=hL
  obtain ⟨B0,d0,rfl,-⟩:=id hi.openInt
  obtain ⟨B1,d1,rfl,-⟩:=id ha.open
  obtain ⟨B2,d2,rfl,-⟩:=id hcv.open
  by_cases hlt:k < R.length
  · have e1:((k:Nat):Int).toNat = k:=by omega
    have hA:=hsome (by omega)
    have hck:=(hcl k hlt).le hle
    have hbk:=(hbs k hlt).mono hle
    have hn:=(hRn _ (List.getElem_mem hlt)).2
    have hpt:=peek_take hlt
    rw [hp] at hpt
    have qr:=sread_s (hT.le (GH.le_trans hle1 hle)) (hC.le (GH.le_trans hle1 hle)) hbk (by have:=hn.1;omega) hn.2
    generalize R[k] = x at *
    repeat' (first|apply v_seq|apply v_region|apply v_nil|apply v_skip|apply v_block|(apply v_pure;(case hop=>first|(apply p_lt <;> rfl)|(apply p_fieldAddrB <;> rfl)|(apply p_indexAddrS;(case hx=>rfl);(case hi=>rfl);(case h0=>omega);(case h=>omega);(case hA=>assumption))|fail);(case hd=>rfl))|(apply v_cond;(case hc=>rfl);all_goals (intro h;(try simp only [reduceCtorEq,zzz] at h);first|(exfalso;omega)|skip))|(apply v_read;(case hop=>(apply r_loadN;rfl;exact CellsAt.frozen hck;rfl));(case hd=>rfl))|(apply v_read;(case hop=>(apply r_load1;rfl;(apply Cell.own;(case h=>(repeat (exact mhd _)));rfl)));(case hd=>rfl))|(apply v_alloc;(case hz=>rfl);(case hd=>rfl);intro b)|(apply v_store;(case hp=>rfl);(case hx=>rfl);(case hc=>rfl);(case hsz=>rfl);(case h1=>rfl);(case hb=>(repeat (exact mhd _)));(case hfit=>exact nle rfl);(case hov=>((repeat (first|with_reducible exact ov_nil|apply ov_cons));done));(case hu=>repeat (exact Upd.here _ _)))|fail)
    revert b
    intro fb
    refine v_call (μ1:=[]) rfl qr (List.Perm.refl _) rfl ?_
    rintro _ G2 _ hle2 ⟨rfl,⟨hR0,rfl⟩|⟨f',xs,k',L',hR',rfl,hL'⟩⟩
    · unfold pk1 at hpt
      rw [hR0] at hpt
      simp only at hpt
      repeat' (first|apply v_seq|apply v_region|apply v_nil|apply v_skip|apply v_blk|(apply v_pure;(case hop=>first|(apply p_move <;> rfl)|(apply p_eq <;> rfl)|(apply p_assign <;> rfl)|(apply p_extract0 <;> rfl)|(apply p_extract1 <;> rfl)|(apply p_add;(case hx=>rfl);(case hy=>rfl);(case h=>omega))|fail);(case hd=>rfl))|(apply v_cond;(case hc=>rfl);all_goals (intro h;(try simp only [reduceCtorEq,zzz] at h);first|(exfalso;omega)|skip))|(apply v_alloc;(case hz=>rfl);(case hd=>rfl);intro b)|(apply v_store;(case hp=>rfl);(case hx=>rfl);(case hc=>rfl);(case hsz=>rfl);(case h1=>rfl);(case hb=>(repeat (exact mhd _)));(case hfit=>exact nle rfl);(case hov=>((repeat (first|with_reducible exact ov_nil|apply ov_cons));done));(case hu=>repeat (exact Upd.here _ _)))|fail)
      refine v_drop (ν:=(hb,.cells (hdL H.pr H.pn H.base (.slice B0 H.image.length d0) (.slice B1 H.acc.length d1) (.slice B2 H.cho.length d2)).toArray 27 (0,0)) :: (rb,.cells (hdL 0 0 0 (.slice none 0 0) (.slice none 0 0) (.slice none 0 0)).toArray 27 (0,0)) :: dkB d m ov oM ν) (List.Sublist.cons _ (List.Sublist.cons _ (List.Sublist.refl _))) ?_
      refine v_again rfl ⟨GH.le_trans hle hle2,k + 1,f,H,_,by omega,rfl,hL0.le hle2,hpt,rfl⟩ (by simp [headI];omega)
    · unfold pk1 at hpt
      rw [hR'] at hpt
      simp only at hpt
      have hL1:=hL'
      obtain ⟨iv',av',cv',rfl,hi',ha',hcv'⟩:=hL'
      obtain ⟨B3,d3,rfl,-⟩:=id hi'.openInt
      obtain ⟨B4,d4,rfl,-⟩:=id ha'.open
      obtain ⟨B5,d5,rfl,-⟩:=id hcv'.open
      generalize hardOf xs = H' at *
      repeat' (first|apply v_seq|apply v_region|apply v_nil|(apply v_pure;(case hop=>first|(apply p_move <;> rfl)|(apply p_eqs <;> rfl)|(apply p_assign <;> rfl)|(apply p_extract0 <;> rfl)|(apply p_extract1 <;> rfl)|fail);(case hd=>rfl))|(apply v_condT;(case hc=>rfl))|(apply v_alloc;(case hz=>rfl);(case hd=>rfl);intro b)|(apply v_store;(case hp=>rfl);(case hx=>rfl);(case hc=>rfl);(case hsz=>rfl);(case h1=>rfl);(case hb=>(repeat (exact mhd _)));(case hfit=>exact nle rfl);(case hov=>((repeat (first|with_reducible exact ov_nil|apply ov_cons));done));(case hu=>repeat (exact Upd.here _ _)))|fail)
      refine d_start [(b,.cells #[.int .i64 f',.int .i64 H'.pr,.int .i64 H'.pn,.int .i64 H'.base,.slice B3 H'.image.length d3,.slice B4 H'.acc.length d4,.slice B5 H'.cho.length d5,.int .i64 (xs.length:Nat),.int .i64 (k':Nat)] 50 (0,0))] (by kernel_rfl) (by kernel_rfl) (by kernel_rfl) (by intro e he;(simp at he;simp [he];done)) ?_
      all_goals (apply dtk 0;(case hi=>rfl);(case hop=>(apply prd;apply p_fieldAddrB <;> rfl));(case hq=>kernel_rfl))
      all_goals (apply dtk 1;(case hi=>rfl);(case hop=>first|(apply r_loadNo;(case hx=>rfl);(case h=>(repeat (fail)));(case hd=>(repeat (fail)));(case hn=>rfl))|(apply r_load1;rfl;(apply Cell.own;(case h=>(repeat (exact mhd _)));rfl))|(apply r_loadN;rfl;(apply CellsAt.own;(case h=>(repeat (fail))));rfl));(case hq=>kernel_rfl))
      all_goals (apply dtk 2;(case hi=>rfl);(case hop=>(apply prd;apply p_fieldAddrB <;> rfl));(case hq=>kernel_rfl))
      all_goals (apply dtk 3;(case hi=>rfl);(case hop=>first|(apply r_loadNo;(case hx=>rfl);(case h=>(repeat (exact mhd _)));(case hd=>(repeat (first|with_reducible exact dt_nil|apply dt_here)));(case hn=>rfl))|(apply r_load1;rfl;(apply Cell.own;(case h=>(repeat (fail)));rfl))|(apply r_loadN;rfl;(apply CellsAt.own;(case h=>(repeat (fail))));rfl));(case hq=>kernel_rfl))
      all_goals (apply dtk 4;(case hi=>rfl);(case hop=>(apply prd;apply p_assign <;> rfl));(case hq=>kernel_rfl))
      all_goals (apply d_store 5;(case hi=>rfl);(case hr=>kernel_rfl);(case hL=>infer_instance);(case hp=>rfl);(case hx=>rfl);(case hc=>rfl);(case hsz=>rfl);(case h1=>rfl);(case hb=>(repeat (first|exact mhd _|apply mtl)));(case hfit=>exact nle rfl);(case hov=>((repeat (first|with_reducible exact ov_nil|apply ov_cons));done));(case hu=>repeat (first|exact Upd.here _ _|apply Upd.there));(case hν'=>intro e he;(simp at he;simp [he];done)))
      all_goals (apply d_done;(case hr=>kernel_rfl))
      all_goals repeat' (first|apply v_region|apply v_nil|apply v_blk|(apply v_pure;(case hop=>first|(apply p_move <;> rfl)|(apply p_add;(case hx=>rfl);(case hy=>rfl);(case h=>omega))|fail);(case hd=>rfl))|fail)
      all_goals
        (refine v_drop (ν:=(hb,.cells (hdL H'.pr H'.pn H'.base (.slice B3 H'.image.length d3) (.slice B4 H'.acc.length d4) (.slice B5 H'.cho.length d5)).toArray 27 (0,0)) :: (rb,.cells (hdL 0 0 0 (.slice none 0 0) (.slice none 0 0) (.slice none 0 0)).toArray 27 (0,0)) :: dkB d m ov oM ν) (List.Sublist.cons _ (List.Sublist.cons _ (List.Sublist.refl _))) ?_
         exact v_again rfl ⟨GH.le_trans hle hle2,k + 1,f',H',_,by omega,rfl,hL1,hpt,rfl⟩ (by simp [headI];omega))
  · obtain rfl:k = R.length:=by omega
    rw [List.take_length] at hp
    repeat' (first|apply v_seq|apply v_region|apply v_nil|(apply v_exit;(case hp=>rfl))|(apply v_pure;(case hop=>(apply p_lt <;> rfl));(case hd=>rfl))|(apply v_cond;(case hc=>rfl);all_goals (intro h;(try simp only [reduceCtorEq,zzz] at h);first|(exfalso;omega)|skip))|fail)
    refine d_start [(hb,.cells (hdL H.pr H.pn H.base (.slice B0 H.image.length d0) (.slice B1 H.acc.length d1) (.slice B2 H.cho.length d2)).toArray 27 (0,0))] (by kernel_rfl) (by kernel_rfl) (by kernel_rfl) (by intro e he;(simp at he;simp [he];done)) ?_
    all_goals (apply dtk 0;(case hi=>rfl);(case hop=>(apply prd;apply p_move <;> rfl));(case hq=>kernel_rfl))
    all_goals (apply dtk 1;(case hi=>rfl);(case hop=>first|(apply r_loadNo;(case hx=>rfl);(case h=>(repeat (exact mhd _)));(case hd=>(repeat (first|with_reducible exact dt_nil|apply dt_here)));(case hn=>rfl))|(apply r_load1;rfl;(apply Cell.own;(case h=>(repeat (fail)));rfl))|(apply r_loadN;rfl;(apply CellsAt.own;(case h=>(repeat (fail))));rfl));(case hq=>kernel_rfl))
    all_goals (apply dtk 2;(case hi=>rfl);(case hop=>(apply prd;apply p_assign <;> rfl));(case hq=>kernel_rfl))
    all_goals (apply d_store 3;(case hi=>rfl);(case hr=>kernel_rfl);(case hL=>infer_instance);(case hp=>rfl);(case hx=>rfl);(case hc=>rfl);(case hsz=>rfl);(case h1=>rfl);(case hb=>(repeat (first|exact mhd _|apply mtl)));(case hfit=>exact nle rfl);(case hov=>((repeat (first|with_reducible exact ov_nil|apply ov_cons));done));(case hu=>repeat (first|exact Upd.here _ _|apply Upd.there));(case hν'=>intro e he;(simp at he;simp [he];done)))
    all_goals (apply d_done;(case hr=>kernel_rfl))
    all_goals repeat' (fail)
    all_goals
      (refine v_retM (dkB d m ov oM ν) (outsM_tc (sz1:=6) (vs1:=hdL H.pr H.pn H.base (.slice B0 H.image.length d0) (.slice B1 H.acc.length d1) (.slice B2 H.cho.length d2)) (e1:=27) rfl rfl rfl (by repeat (first|exact mhd _|apply mtl)) rfl) (List.Sublist.cons _ (List.Sublist.cons _ (List.Sublist.refl _))) ?_
       exact ⟨GH.le_trans hle1 hle,f,H,_,rfl,hL0,fun R' hR'=>by rw [rep_ext hR' hR];exact hp,rfl⟩)
end Go.Proofs.YtpemabgfmnhhnaaGreatDoor
/-
  wal (layer 21): greatest; what is buffered.
-/
set_option linter.unusedSimpArgs false
set_option linter.unusedVariables false
namespace Go.Proofs.YtpemabgfmnhhnaaGreatDoor
open Go.Vx Go.ChangeShapes Go.WideShapes Go.ChangeAt Go.RowKit
theorem wbuf_s {c d m:Nat} {G:GH} {g:Fs} {l:List Dop} {ov:Value} {ml:List (Int × Value)} {oM:Obj} {ν:OH} (h:DkM c G g l ov ml oM ν) (hc:c ≤ 46) :
    Con Tryz.prog 33 #[.pointer (some ⟨d,0,none⟩)] G ((d,dkO m ov) :: ν) (fun r G' μ'=>GH.le G G' ∧ Ops G' r l ∧ μ' = (d,dkO m ov) :: ν):=by
  have h2:=h.len
  exact buffered_s h.gr (by omega) fun x hx=>by have:=(h.ops x hx).2.1;omega
set_option maxHeartbeats 1000000 in
theorem greatest_s {c d m:Nat} {G:GH} {g:Fs} {l:List Dop} {ov:Value} {ml:List (Int × Value)} {oM:Obj} {ν:OH} (h:DkM c G g l ov ml oM ν) (hc:c ≤ 46) :
    Con Tryz.prog 111 #[.pointer (some ⟨d,0,none⟩)] G (dkB d m ov oM ν) (fun r G' μ'=>GH.le G G' ∧ ∃ gr:Int,r = .int .i64 gr ∧ 0 ≤ gr ∧ gr ≤ c ∧ (∀ k,gall g l k ≠ none → k ≤ gr) ∧ μ' = dkB d m ov oM ν):=by
  have qb:=wbuf_s (d:=d) (m:=m) h hc
  have qv:=fun G' (hl:GH.le G G')=>wview_s (d:=d) (m:=m) (h.le hl) hc
  (refine v_enter Tryz.func111 rfl Tryz.ntmps111 rfl ?_;intro B _)
  repeat' (first|apply v_seq|apply v_region|apply v_nil|(apply v_pure;(case hop=>first|(apply p_move <;> rfl)|(apply p_assign <;> rfl)|fail);(case hd=>rfl))|fail)
  unfold dkB
  refine v_call (μ1:=(d,dkO m ov) :: ν) (μ2:=[(m,oM)]) rfl qb (by apply perm_of_count;intro p;simp only [List.append_eq,List.countP_append,List.countP_cons,List.countP_nil,Nat.zero_add,Nat.add_zero];try ac_rfl) rfl ?_
  rintro v G1 _ - ⟨hle1,hs,rfl⟩
  refine v_perm (ν:=dkB d m ov oM ν) (by rw [dkB_eq];exact (by apply perm_of_count;intro p;simp only [List.append_eq,List.countP_append,List.countP_cons,List.countP_nil,Nat.zero_add,Nat.add_zero];try ac_rfl)) ?_
  obtain ⟨A,cA,dA,dc,rfl,hlc,hcm,hsome,hcl,-⟩:=opOpen hs
  simp only [maxLen] at hcm
  have hln:=h.len
  repeat' (first|apply v_nil|apply v_block|(apply v_pure;(case hop=>first|(apply p_move <;> rfl)|(apply p_lenSlice <;> rfl)|fail);(case hd=>rfl))|fail)
  refine v_loop [11,10,9,3,0] (fun us G' μ'=>GH.le G1 G' ∧ ∃ (k:Nat) (n:Int),k ≤ l.length ∧ 0 ≤ n ∧ n ≤ c ∧ us = [Value.int .i64 (k:Nat),.int .i64 (l.length:Nat),.slice A l.length cA,.int .i64 n,.pointer (some ⟨d,0,none⟩)] ∧ μ' = (dkB d m ov oM ν)) (fun us=>l.length - (headI us).toNat) rfl ⟨GH.le_refl _,0,0,by omega,by omega,by omega,rfl,rfl⟩ ?_
  rintro us G2 _ ⟨hle2,k,n,hk,hn0,hnc,rfl,rfl⟩
  by_cases hlt:k < l.length
  · have e1:((k:Nat):Int).toNat = k:=by omega
    have hA:=hsome (by omega)
    have hck:=(hcl k hlt).le hle2
    have hno:=(h.ops _ (List.getElem_mem hlt)).1
    generalize l[k] = x at *
    repeat' (first|apply v_seq|apply v_region|apply v_nil|apply v_skip|apply v_block|apply v_blk|(apply v_pure;(case hop=>first|(apply p_move <;> rfl)|(apply p_lt <;> rfl)|(apply p_assign <;> rfl)|(apply p_fieldAddrB <;> rfl)|(apply p_add;(case hx=>rfl);(case hy=>rfl);(case h=>omega))|(apply p_max <;> rfl)|(apply p_indexAddrS;(case hx=>rfl);(case hi=>rfl);(case h0=>omega);(case h=>omega);(case hA=>assumption))|fail);(case hd=>rfl))|(apply v_cond;(case hc=>rfl);all_goals (intro h;(try simp only [reduceCtorEq,zzz] at h);first|(exfalso;omega)|skip))|(apply v_read;(case hop=>(apply r_loadN;rfl;exact CellsAt.frozen hck;rfl));(case hd=>rfl))|(apply v_read;(case hop=>(apply r_load1;rfl;(apply Cell.own;(case h=>(repeat (exact mhd _)));rfl)));(case hd=>rfl))|(apply v_alloc;(case hz=>rfl);(case hd=>rfl);intro b)|(apply v_store;(case hp=>rfl);(case hx=>rfl);(case hc=>rfl);(case hsz=>rfl);(case h1=>rfl);(case hb=>(repeat (exact mhd _)));(case hfit=>exact nle rfl);(case hov=>((repeat (first|with_reducible exact ov_nil|apply ov_cons));done));(case hu=>repeat (exact Upd.here _ _)))|fail)
    refine v_drop (ν:=(dkB d m ov oM ν)) (List.sublist_cons_self _ _) ?_
    refine v_again rfl ⟨hle2,k + 1,max n x.no,by omega,by omega,by omega,rfl,rfl⟩ (by simp [headI];omega)
  · obtain rfl:k = l.length:=by omega
    clear hk hlt hcl hsome hs
    repeat' (first|apply v_seq|apply v_region|apply v_nil|(apply v_exit;(case hp=>rfl))|(apply v_pure;(case hop=>first|(apply p_move <;> rfl)|(apply p_lt <;> rfl)|fail);(case hd=>rfl))|(apply v_cond;(case hc=>rfl);all_goals (intro h;(try simp only [reduceCtorEq,zzz] at h);first|(exfalso;omega)|skip))|fail)
    refine v_call (μ1:=(dkB d m ov oM ν)) (μ2:=[]) rfl (qv _ (GH.le_trans hle1 hle2)) (by apply perm_of_count;intro p;simp only [List.append_eq,List.countP_append,List.countP_cons,List.countP_nil,Nat.zero_add,Nat.add_zero];try ac_rfl) rfl ?_
    rintro v G3 _ hle3 ⟨-,R,hR,hs,hRl,hRn,rfl⟩
    obtain ⟨A,cA,dA,dc,rfl,hlc,hcm,hsome,hcl,-⟩:=flOpen hs
    simp only [maxLen] at hcm
    repeat' (first|apply v_nil|apply v_block|(apply v_pure;(case hop=>first|(apply p_move <;> rfl)|(apply p_lenSlice <;> rfl)|fail);(case hd=>rfl))|fail)
    refine v_loop [23,22,21,3] (fun us G' μ'=>GH.le G3 G' ∧ ∃ (k:Nat) (n:Int),k ≤ R.length ∧ 0 ≤ n ∧ n ≤ c ∧ (∀ i (h:i < R.length),i < k → R[i].1 ≤ n) ∧ us = [Value.int .i64 (k:Nat),.int .i64 (R.length:Nat),.slice A R.length cA,.int .i64 n] ∧ μ' = (dkB d m ov oM ν)) (fun us=>R.length - (headI us).toNat) rfl ⟨GH.le_refl _,0,n,by omega,hn0,hnc,fun i h hi=>by omega,rfl,by simp⟩ ?_
    rintro us G4 _ ⟨hle4,k,n,hk,hn0,hnc,hmx,rfl,rfl⟩
    by_cases hlt:k < R.length
    · have e1:((k:Nat):Int).toNat = k:=by omega
      have hA:=hsome (by omega)
      have hck:=(hcl k hlt).le hle4
      have hno:=(hRn _ (List.getElem_mem hlt)).1
      generalize hx:R[k] = x at *
      repeat' (first|apply v_seq|apply v_region|apply v_nil|apply v_skip|apply v_block|apply v_blk|(apply v_pure;(case hop=>first|(apply p_move <;> rfl)|(apply p_lt <;> rfl)|(apply p_assign <;> rfl)|(apply p_fieldAddrB <;> rfl)|(apply p_add;(case hx=>rfl);(case hy=>rfl);(case h=>omega))|(apply p_max <;> rfl)|(apply p_indexAddrS;(case hx=>rfl);(case hi=>rfl);(case h0=>omega);(case h=>omega);(case hA=>assumption))|fail);(case hd=>rfl))|(apply v_cond;(case hc=>rfl);all_goals (intro h;(try simp only [reduceCtorEq,zzz] at h);first|(exfalso;omega)|skip))|(apply v_read;(case hop=>(apply r_loadN;rfl;exact CellsAt.frozen hck;rfl));(case hd=>rfl))|(apply v_read;(case hop=>(apply r_load1;rfl;(apply Cell.own;(case h=>(repeat (exact mhd _)));rfl)));(case hd=>rfl))|(apply v_alloc;(case hz=>rfl);(case hd=>rfl);intro b)|(apply v_store;(case hp=>rfl);(case hx=>rfl);(case hc=>rfl);(case hsz=>rfl);(case h1=>rfl);(case hb=>(repeat (exact mhd _)));(case hfit=>exact nle rfl);(case hov=>((repeat (first|with_reducible exact ov_nil|apply ov_cons));done));(case hu=>repeat (exact Upd.here _ _)))|fail)
      refine v_drop (ν:=(dkB d m ov oM ν)) (List.sublist_cons_self _ _) ?_
      refine v_again rfl ⟨hle4,k + 1,max n x.1,by omega,by omega,by omega,fun i hi hik=>?_,rfl,rfl⟩ (by simp [headI];omega)
      by_cases e:i = k
      · subst e;rw [hx];omega
      · have:=hmx i hi (by omega);omega
    · obtain rfl:k = R.length:=by omega
      repeat' (first|apply v_seq|apply v_region|apply v_nil|(apply v_exit;(case hp=>rfl))|(apply v_pure;(case hop=>first|(apply p_move <;> rfl)|(apply p_lt <;> rfl)|(apply p_assign <;> rfl)|fail);(case hd=>rfl))|(apply v_cond;(case hc=>rfl);all_goals (intro h;(try simp only [reduceCtorEq,zzz] at h);first|(exfalso;omega)|skip))|fail)
      refine v_ret (dkB d m ov oM ν) (outsA1 rfl rfl) (List.Sublist.refl _) ?_
      refine ⟨GH.le_trans hle1 (GH.le_trans hle2 (GH.le_trans hle3 hle4)),n,rfl,hn0,hnc,fun k' hk'=>?_,dkB_eq⟩
      rw [← hR.2] at hk'
      have hm:k' ∈ R.map (·.1):=Decidable.byContradiction fun hn=>hk' (rget_none.2 hn)
      obtain ⟨f,hf,rfl⟩:=List.mem_map.1 hm
      obtain ⟨i,hi,rfl⟩:=List.getElem_of_mem hf
      exact hmx i hi hi
theorem WB.dk {c a:Nat} {g:Fs} {l:List Dop} {past:List (Int × Hd)} {p:Int × Hd} (h:WB c a g l past p) {G:GH} {ov:Value} {ml:List (Int × Value)} {oM:Obj} {ν:OH} (h1:MapB keyI ml oM) (h2:MF G ml g) (h3:GrL 124 3 (OpR G) ov l ν):DkM c G g l ov ml oM ν :=
  ⟨h1,h2,h3,h.ops,h.len,fun q _=>(h.cs _ (cs_pre g l q)).1⟩
theorem WI.dk {c a:Nat} {g:Fs} {l:List Dop} {past:List (Int × Hd)} {no f:Int} {n:Nat} {xs:List Rc} (h:WI c a g l past no f n xs) {G:GH} {ov:Value} {ml:List (Int × Value)} {oM:Obj} {ν:OH} (h1:MapB keyI ml oM) (h2:MF G ml g) (h3:GrL 124 3 (OpR G) ov l ν):DkM (c + 1) G g l ov ml oM ν :=
  ⟨h1,h2,h3,h.ops,h.len,fun q _=>(h.cs _ (cs_pre g l q)).1⟩
def lgO (d:Nat) (no f:Int) (L:List Value):Obj:=.cells (.pointer (some ⟨d,0,none⟩) :: .int .i64 no :: .int .i64 f :: L).toArray 118 (0,0)
def WBegR (lb d m c a:Nat) (g:Fs) (past:List (Int × Hd)) (oM:Obj) (f:Int) (H:Hd) (G:GH) (r:Value) (G':GH) (μ':OH):Prop :=
  GH.le G G' ∧ r = .int .i64 0 ∧ ∃ no n xs l L ov ν,l ≠ [] ∧ TopIs (gall g l) no (fileB encF f (recsOf H).length (recsOf H)) ∧ WI c a g l (past ++ [(f,H)]) no f n xs ∧ hardOf xs = H ∧ HdV G' H L ∧ GrL 124 3 (OpR G') ov l ν ∧ μ' = (lb,lgO d no f L) :: dkB d m ov oM ν
set_option maxHeartbeats 2000000 in
theorem wbegin_s {lb d m c a:Nat} {G:GH} (hT:TabsG G) (hC:CrcG G) {g:Fs} {l:List Dop} {past:List (Int × Hd)} {p:Int × Hd} (h:WB c a g l past p) (hc:c ≤ 45) (ha:a ≤ 40) {ov:Value} {ml:List (Int × Value)} {oM:Obj} {ν:OH} (h1:MapB keyI ml oM) (h2:MF G ml g) (h3:GrL 124 3 (OpR G) ov l ν)
    {f:Int} {H:Hd} (s:St a f H) {L:List Value} (hL:HdV G H L) (no0 f0:Int) (H0:Hd) (iv0 av0 cv0:Value) :
    Con Tryz.prog 69 #[.pointer (some ⟨lb,0,none⟩),.int .i64 f,.agg L.toArray] G ((lb,.cells (.pointer (some ⟨d,0,none⟩) :: .int .i64 no0 :: .int .i64 f0 :: hdL H0.pr H0.pn H0.base iv0 av0 cv0).toArray 118 (0,0)) :: dkB d m ov oM ν) (WBegR lb d m c a g past oM f H G):=by
  have hWB:=h
  have hd:=h.dk h1 h2 h3
  have qh:=head_s hT hC f hL (fun _=>s.good) ha (by have:=s.form;omega) (by have:=s.len;omega) (fun _ x hx=>(s.recs x hx).light)
  rw [s.head,if_pos rfl] at qh
  have qv:=fun G' (hl:GH.le G G')=>wview_s (d:=d) (m:=m) (hd.le hl) (by omega)
  have qg:=fun G' (hl:GH.le G G')=>greatest_s (d:=d) (m:=m) (hd.le hl) (by omega)
  have hsz:=file_size (n:=(recsOf H).length) s.recs
  have hrl:=s.len
  obtain ⟨iv,av,cv,rfl,hi,hac,hcv⟩:=id hL
  obtain ⟨A0,c0,rfl,-⟩:=id hi.openInt
  obtain ⟨A1,c1,rfl,-⟩:=id hac.open
  obtain ⟨A2,c2,rfl,-⟩:=id hcv.open
  have hf:=s.form
  (refine v_enter Tryz.func69 rfl Tryz.ntmps69 rfl ?_;intro B _)
  repeat' (first|(apply v_box (zs:=hdL H.pr H.pn H.base (.slice A0 H.image.length c0) (.slice A1 H.acc.length c1) (.slice A2 H.cho.length c2));(case hx=>rfl);(case hz=>rfl);(case hd=>rfl);intro b)|apply v_seq|apply v_region|apply v_nil|(apply v_pure;(case hop=>first|(apply p_move <;> rfl)|(apply p_assign <;> rfl)|fail);(case hd=>rfl))|(apply v_read;(case hop=>(apply r_loadNo;(case hx=>rfl);(case h=>(repeat (exact mhd _)));(case hd=>(repeat (first|with_reducible exact dt_nil|apply dt_here)));(case hn=>rfl)));(case hd=>rfl))|fail)
  revert b
  intro hb
  refine v_call (μ1:=[]) rfl qh (List.Perm.refl _) rfl ?_
  rintro _ G1 _ hle1 ⟨rfl,vB,rfl,hB⟩
  repeat' (first|apply v_seq|apply v_region|apply v_nil|apply v_skip|(apply v_pure;(case hop=>first|(apply p_move <;> rfl)|(apply p_nes <;> rfl)|(apply p_assign <;> rfl)|(apply p_fieldAddrB <;> rfl)|(apply p_nilCheck <;> rfl)|(apply p_extract0 <;> rfl)|(apply p_extract1 <;> rfl)|fail);(case hd=>rfl))|(apply v_condF;(case hc=>rfl))|(apply v_read;(case hop=>(apply r_load1;rfl;(apply Cell.own;(case h=>(repeat (first|exact mhd _|apply mtl)));rfl)));(case hd=>rfl))|fail)
  refine v_call (μ1:=(dkB d m ov oM ν)) (μ2:=[(hb,.cells (hdL H.pr H.pn H.base (.slice A0 H.image.length c0) (.slice A1 H.acc.length c1) (.slice A2 H.cho.length c2)).toArray 27 (0,0)),(lb,.cells (.pointer (some ⟨d,0,none⟩) :: .int .i64 no0 :: .int .i64 f0 :: hdL H0.pr H0.pn H0.base iv0 av0 cv0).toArray 118 (0,0))]) rfl (qv _ hle1) (by apply perm_of_count;intro p;simp only [List.append_eq,List.countP_append,List.countP_cons,List.countP_nil,Nat.zero_add,Nat.add_zero];try ac_rfl) rfl ?_
  rintro v G2 _ hle2 ⟨-,R,hR,hs,hRl,hRn,rfl⟩
  obtain ⟨A,cA,dA,dc,rfl,hlc,hcm,hsome,hcl,-⟩:=flOpen hs
  simp only [maxLen] at hcm
  repeat' (first|apply v_seq|apply v_region|apply v_nil|(apply v_pure;(case hop=>first|(apply p_move <;> rfl)|(apply p_assign <;> rfl)|(apply p_fieldAddrB <;> rfl)|(apply p_nilCheck <;> rfl)|fail);(case hd=>rfl))|(apply v_read;(case hop=>(apply r_load1;rfl;(apply Cell.own;(case h=>(repeat (first|exact mhd _|apply mtl|apply List.mem_append_right)));rfl)));(case hd=>rfl))|fail)
  refine v_call (μ1:=(dkB d m ov oM ν)) (μ2:=[(hb,.cells (hdL H.pr H.pn H.base (.slice A0 H.image.length c0) (.slice A1 H.acc.length c1) (.slice A2 H.cho.length c2)).toArray 27 (0,0)),(lb,.cells (.pointer (some ⟨d,0,none⟩) :: .int .i64 no0 :: .int .i64 f0 :: hdL H0.pr H0.pn H0.base iv0 av0 cv0).toArray 118 (0,0))]) rfl (qg _ (GH.le_trans hle1 hle2)) (by apply perm_of_count;intro p;simp only [List.append_eq,List.countP_append,List.countP_cons,List.countP_nil,Nat.zero_add,Nat.add_zero];try ac_rfl) rfl ?_
  rintro _ G3 _ hle3 ⟨-,gr,rfl,hg0,hgc,hgk,rfl⟩
  refine v_perm (ν:=(lb,.cells (.pointer (some ⟨d,0,none⟩) :: .int .i64 no0 :: .int .i64 f0 :: hdL H0.pr H0.pn H0.base iv0 av0 cv0).toArray 118 (0,0)) :: (hb,.cells (hdL H.pr H.pn H.base (.slice A0 H.image.length c0) (.slice A1 H.acc.length c1) (.slice A2 H.cho.length c2)).toArray 27 (0,0)) :: dkB d m ov oM ν) (by apply perm_of_count;intro p;simp only [List.append_eq,List.countP_append,List.countP_cons,List.countP_nil,Nat.zero_add,Nat.add_zero];try ac_rfl) ?_
  have hln:=h.len
  have hin:inNo (gr + 1):=by unfold inNo;omega
  have hle03:=GH.le_trans hle1 (GH.le_trans hle2 hle3)
  have qm:=make_s (d:=d) (m:=m) (gr + 1) (hd.le hle03).gr (by omega)
  rw [if_pos hin] at qm
  rw [dkB_eq]
  generalize hBe:fileB encF f (recsOf H).length (recsOf H) = B at *
  have hB3:=hB.mono (GH.le_trans hle2 hle3)
  obtain ⟨AB,cB,rfl,-⟩:=id hB.openInt
  repeat' (first|apply v_seq|apply v_nil|(apply v_pure;(case hop=>first|(apply p_fieldAddrB <;> rfl)|(apply p_nilCheck <;> rfl)|(apply p_add;(case hx=>rfl);(case hy=>rfl);(case h=>omega))|fail);(case hd=>rfl))|(apply v_store;(case hp=>rfl);(case hx=>rfl);(case hc=>rfl);(case hsz=>rfl);(case h1=>rfl);(case hb=>(repeat (exact mhd _)));(case hfit=>exact nle rfl);(case hov=>((repeat (first|with_reducible exact ov_nil|apply ov_cons));done));(case hu=>repeat (exact Upd.here _ _)))|fail)
  refine d_start [(lb,.cells (.pointer (some ⟨d,0,none⟩) :: .int .i64 (gr + 1) :: .int .i64 f0 :: hdL H0.pr H0.pn H0.base iv0 av0 cv0).toArray 118 (0,0))] (by kernel_rfl) (by kernel_rfl) (by kernel_rfl) (by intro e he;(simp at he;simp [he];done)) ?_
  all_goals (apply dtk 0;(case hi=>rfl);(case hop=>(apply prd;apply p_move <;> rfl));(case hq=>kernel_rfl))
  all_goals (apply dtk 1;(case hi=>rfl);(case hop=>(apply prd;apply p_nilCheck <;> rfl));(case hq=>kernel_rfl))
  all_goals (apply dtk 2;(case hi=>rfl);(case hop=>(apply prd;apply p_fieldAddrB <;> rfl));(case hq=>kernel_rfl))
  all_goals (apply dtk 3;(case hi=>rfl);(case hop=>first|(apply r_loadNo;(case hx=>rfl);(case h=>(repeat (fail)));(case hd=>(repeat (fail)));(case hn=>rfl))|(apply r_load1;rfl;(apply Cell.own;(case h=>(repeat (exact mhd _)));rfl))|(apply r_loadN;rfl;(apply CellsAt.own;(case h=>(repeat (fail))));rfl));(case hq=>kernel_rfl))
  all_goals (apply dtk 4;(case hi=>rfl);(case hop=>(apply prd;apply p_move <;> rfl));(case hq=>kernel_rfl))
  all_goals (apply dtk 5;(case hi=>rfl);(case hop=>(apply prd;apply p_nilCheck <;> rfl));(case hq=>kernel_rfl))
  all_goals (apply dtk 6;(case hi=>rfl);(case hop=>(apply prd;apply p_fieldAddrB <;> rfl));(case hq=>kernel_rfl))
  all_goals (apply dtk 7;(case hi=>rfl);(case hop=>first|(apply r_loadNo;(case hx=>rfl);(case h=>(repeat (fail)));(case hd=>(repeat (fail)));(case hn=>rfl))|(apply r_load1;rfl;(apply Cell.own;(case h=>(repeat (exact mhd _)));rfl))|(apply r_loadN;rfl;(apply CellsAt.own;(case h=>(repeat (fail))));rfl));(case hq=>kernel_rfl))
  all_goals ((apply d_call 8 (hs:=qm) (μ1:=(d,dkO m ov) :: ν) (μ2:=[(lb,.cells (.pointer (some ⟨d,0,none⟩) :: .int .i64 (gr + 1) :: .int .i64 f0 :: hdL H0.pr H0.pn H0.base iv0 av0 cv0).toArray 118 (0,0)),(hb,.cells (hdL H.pr H.pn H.base (.slice A0 H.image.length c0) (.slice A1 H.acc.length c1) (.slice A2 H.cho.length c2)).toArray 27 (0,0)),(m,oM)]);(case hi=>rfl);(case hr=>kernel_rfl);  (case ha=>rfl);(case hp=>exact (by apply perm_of_count;intro p;simp only [List.append_eq,List.countP_append,List.countP_cons,List.countP_nil,Nat.zero_add,Nat.add_zero];try ac_rfl));(case hd=>rfl);(case hν'=>intro e he;simp at he;simp [he]);rintro _ G4 _ hle4 ⟨-,ov1,ν1,hgr1,rfl⟩))
  all_goals (apply d_done;(case hr=>kernel_rfl))
  have qa:=add_s (d:=d) (m:=m) (gr + 1) hgr1 (by simp;omega) (hB3.mono hle4) (by omega)
  rw [if_pos hin,List.append_assoc] at qa
  repeat' (first|apply v_seq)
  refine d_start [(lb,.cells (.pointer (some ⟨d,0,none⟩) :: .int .i64 (gr + 1) :: .int .i64 f0 :: hdL H0.pr H0.pn H0.base iv0 av0 cv0).toArray 118 (0,0))] (by kernel_rfl) (by kernel_rfl) (by kernel_rfl) (by intro e he;(simp at he;simp [he];done)) ?_
  all_goals (apply dtk 0;(case hi=>rfl);(case hop=>(apply prd;apply p_move <;> rfl));(case hq=>kernel_rfl))
  all_goals (apply dtk 1;(case hi=>rfl);(case hop=>(apply prd;apply p_nilCheck <;> rfl));(case hq=>kernel_rfl))
  all_goals (apply dtk 2;(case hi=>rfl);(case hop=>(apply prd;apply p_fieldAddrB <;> rfl));(case hq=>kernel_rfl))
  all_goals (apply dtk 3;(case hi=>rfl);(case hop=>first|(apply r_loadNo;(case hx=>rfl);(case h=>(repeat (fail)));(case hd=>(repeat (fail)));(case hn=>rfl))|(apply r_load1;rfl;(apply Cell.own;(case h=>(repeat (exact mhd _)));rfl))|(apply r_loadN;rfl;(apply CellsAt.own;(case h=>(repeat (fail))));rfl));(case hq=>kernel_rfl))
  all_goals (apply dtk 4;(case hi=>rfl);(case hop=>(apply prd;apply p_move <;> rfl));(case hq=>kernel_rfl))
  all_goals (apply dtk 5;(case hi=>rfl);(case hop=>(apply prd;apply p_nilCheck <;> rfl));(case hq=>kernel_rfl))
  all_goals (apply dtk 6;(case hi=>rfl);(case hop=>(apply prd;apply p_fieldAddrB <;> rfl));(case hq=>kernel_rfl))
  all_goals (apply dtk 7;(case hi=>rfl);(case hop=>first|(apply r_loadNo;(case hx=>rfl);(case h=>(repeat (fail)));(case hd=>(repeat (fail)));(case hn=>rfl))|(apply r_load1;rfl;(apply Cell.own;(case h=>(repeat (exact mhd _)));rfl))|(apply r_loadN;rfl;(apply CellsAt.own;(case h=>(repeat (fail))));rfl));(case hq=>kernel_rfl))
  all_goals (apply dtk 8;(case hi=>rfl);(case hop=>(apply prd;apply p_move <;> rfl));(case hq=>kernel_rfl))
  all_goals ((apply d_call 9 (hs:=qa) (μ1:=(d,dkO m ov1) :: ν1) (μ2:=[(lb,.cells (.pointer (some ⟨d,0,none⟩) :: .int .i64 (gr + 1) :: .int .i64 f0 :: hdL H0.pr H0.pn H0.base iv0 av0 cv0).toArray 118 (0,0)),(hb,.cells (hdL H.pr H.pn H.base (.slice A0 H.image.length c0) (.slice A1 H.acc.length c1) (.slice A2 H.cho.length c2)).toArray 27 (0,0)),(m,oM)]);(case hi=>rfl);(case hr=>kernel_rfl);  (case ha=>rfl);(case hp=>exact (by apply perm_of_count;intro p;simp only [List.append_eq,List.countP_append,List.countP_cons,List.countP_nil,Nat.zero_add,Nat.add_zero];try ac_rfl));(case hd=>rfl);(case hν'=>intro e he;simp at he;simp [he]);rintro _ G5 _ hle5 ⟨-,ov2,ν2,hgr2,rfl⟩))
  all_goals (apply d_done;(case hr=>kernel_rfl))
  refine v_perm (ν:=(lb,.cells (.pointer (some ⟨d,0,none⟩) :: .int .i64 (gr + 1) :: .int .i64 f0 :: hdL H0.pr H0.pn H0.base iv0 av0 cv0).toArray 118 (0,0)) :: (hb,.cells (hdL H.pr H.pn H.base (.slice A0 H.image.length c0) (.slice A1 H.acc.length c1) (.slice A2 H.cho.length c2)).toArray 27 (0,0)) :: (d,dkO m ov2) :: (m,oM) :: ν2) (by apply perm_of_count;intro p;simp only [List.append_eq,List.countP_append,List.countP_cons,List.countP_nil,Nat.zero_add,Nat.add_zero];try ac_rfl) ?_
  repeat' (first|apply v_seq|apply v_region|apply v_nil|apply v_block|(apply v_pure;(case hop=>first|(apply p_move <;> rfl)|(apply p_lenSlice <;> rfl)|fail);(case hd=>rfl))|fail)
  have hle25:=GH.le_trans hle3 (GH.le_trans hle4 hle5)
  have hgr20:GrL 124 3 (OpR G5) ov2 (l ++ (⟨1,gr + 1,[]⟩ :: ⟨2,gr + 1,B⟩ :: (R.take 0).map fun r=>⟨3,r.1,[]⟩)) ν2:=by simpa using hgr2
  refine v_loop [56,55,54,5,1,0] (fun us G' μ'=>GH.le G5 G' ∧ ∃ (k:Nat) (ov3:Value) (ν3:OH),k ≤ R.length ∧ us = [Value.int .i64 (k:Nat),.int .i64 (R.length:Nat),.slice A R.length cA,.pointer (some ⟨hb,0,none⟩),.int .i64 f,.pointer (some ⟨lb,0,none⟩)] ∧ GrL 124 3 (OpR G') ov3 (l ++ (⟨1,gr + 1,[]⟩ :: ⟨2,gr + 1,B⟩ :: (R.take k).map fun r=>⟨3,r.1,[]⟩)) ν3 ∧ μ' = (lb,.cells (.pointer (some ⟨d,0,none⟩) :: .int .i64 (gr + 1) :: .int .i64 f0 :: hdL H0.pr H0.pn H0.base iv0 av0 cv0).toArray 118 (0,0)) :: (hb,.cells (hdL H.pr H.pn H.base (.slice A0 H.image.length c0) (.slice A1 H.acc.length c1) (.slice A2 H.cho.length c2)).toArray 27 (0,0)) :: (d,dkO m ov3) :: (m,oM) :: ν3) (fun us=>R.length - (headI us).toNat) rfl ⟨GH.le_refl _,0,ov2,ν2,by omega,rfl,hgr20,rfl⟩ ?_
  rintro us G6 _ ⟨hle6,k,ov3,ν3,hk,rfl,hgr3,rfl⟩
  by_cases hlt:k < R.length
  · have e1:((k:Nat):Int).toNat = k:=by omega
    have hA:=hsome (by omega)
    have hck:=(hcl k hlt).le (GH.le_trans hle25 hle6)
    have hno:=(hRn _ (List.getElem_mem hlt)).1
    have hin3:inNo R[k].1:=by unfold inNo;omega
    have hmap:(l ++ (⟨1,gr + 1,[]⟩ :: ⟨2,gr + 1,B⟩ :: (R.take k).map fun r=>⟨3,r.1,[]⟩)) ++ [⟨3,R[k].1,[]⟩] = l ++ (⟨1,gr + 1,[]⟩ :: ⟨2,gr + 1,B⟩ :: (R.take (k + 1)).map fun r=>(⟨3,r.1,[]⟩:Dop)):=by
      rw [List.take_succ_eq_append_getElem hlt,List.map_append]
      simp
    have qd:=ddrop_s (d:=d) (m:=m) R[k].1 hgr3 (by simp;omega)
    rw [if_pos hin3,hmap] at qd
    generalize R[k] = x at *
    repeat' (first|apply v_seq|apply v_region|apply v_nil|apply v_skip|apply v_block|(apply v_pure;(case hop=>first|(apply p_lt <;> rfl)|(apply p_indexAddrS;(case hx=>rfl);(case hi=>rfl);(case h0=>omega);(case h=>omega);(case hA=>assumption))|fail);(case hd=>rfl))|(apply v_cond;(case hc=>rfl);all_goals (intro h;(try simp only [reduceCtorEq,zzz] at h);first|(exfalso;omega)|skip))|(apply v_read;(case hop=>(apply r_loadN;rfl;exact CellsAt.frozen hck;rfl));(case hd=>rfl))|(apply v_alloc;(case hz=>rfl);(case hd=>rfl);intro b)|(apply v_store;(case hp=>rfl);(case hx=>rfl);(case hc=>rfl);(case hsz=>rfl);(case h1=>rfl);(case hb=>(repeat (exact mhd _)));(case hfit=>exact nle rfl);(case hov=>((repeat (first|with_reducible exact ov_nil|apply ov_cons));done));(case hu=>repeat (exact Upd.here _ _)))|fail)
    refine d_start [(b,.cells [.int .i64 x.1,.slice (dA k) x.2.length (dc k)].toArray 112 (0,0)),(lb,.cells (.pointer (some ⟨d,0,none⟩) :: .int .i64 (gr + 1) :: .int .i64 f0 :: hdL H0.pr H0.pn H0.base iv0 av0 cv0).toArray 118 (0,0))] (by kernel_rfl) (by kernel_rfl) (by kernel_rfl) (by intro e he;(simp only [List.mem_cons,List.not_mem_nil,or_false] at he;rcases he with rfl|rfl <;> simp;done)) ?_
    all_goals (apply dtk 0;(case hi=>rfl);(case hop=>(apply prd;apply p_move <;> rfl));(case hq=>kernel_rfl))
    all_goals (apply dtk 1;(case hi=>rfl);(case hop=>(apply prd;apply p_nilCheck <;> rfl));(case hq=>kernel_rfl))
    all_goals (apply dtk 2;(case hi=>rfl);(case hop=>(apply prd;apply p_fieldAddrB <;> rfl));(case hq=>kernel_rfl))
    all_goals (apply dtk 3;(case hi=>rfl);(case hop=>first|(apply r_loadNo;(case hx=>rfl);(case h=>(repeat (fail)));(case hd=>(repeat (fail)));(case hn=>rfl))|(apply r_load1;rfl;(apply Cell.own;(case h=>(repeat (first|exact mhd _|apply mtl)));rfl))|(apply r_loadN;rfl;(apply CellsAt.own;(case h=>(repeat (fail))));rfl));(case hq=>kernel_rfl))
    all_goals (apply dtk 4;(case hi=>rfl);(case hop=>(apply prd;apply p_fieldAddrB <;> rfl));(case hq=>kernel_rfl))
    all_goals (apply dtk 5;(case hi=>rfl);(case hop=>first|(apply r_loadNo;(case hx=>rfl);(case h=>(repeat (fail)));(case hd=>(repeat (fail)));(case hn=>rfl))|(apply r_load1;rfl;(apply Cell.own;(case h=>(repeat (exact mhd _)));rfl))|(apply r_loadN;rfl;(apply CellsAt.own;(case h=>(repeat (fail))));rfl));(case hq=>kernel_rfl))
    all_goals ((apply d_call 6 (hs:=qd) (μ1:=(d,dkO m ov3) :: ν3) (μ2:=[(b,.cells [.int .i64 x.1,.slice (dA k) x.2.length (dc k)].toArray 112 (0,0)),(lb,.cells (.pointer (some ⟨d,0,none⟩) :: .int .i64 (gr + 1) :: .int .i64 f0 :: hdL H0.pr H0.pn H0.base iv0 av0 cv0).toArray 118 (0,0)),(hb,.cells (hdL H.pr H.pn H.base (.slice A0 H.image.length c0) (.slice A1 H.acc.length c1) (.slice A2 H.cho.length c2)).toArray 27 (0,0)),(m,oM)]);(case hi=>rfl);(case hr=>kernel_rfl);  (case ha=>rfl);(case hp=>exact (by apply perm_of_count;intro p;simp only [List.append_eq,List.countP_append,List.countP_cons,List.countP_nil,Nat.zero_add,Nat.add_zero];try ac_rfl));(case hd=>rfl);(case hν'=>intro e he;simp at he;rcases he with rfl|rfl <;> simp);rintro _ G7 _ hle7 ⟨-,ov4,ν4,hgr4,rfl⟩))
    all_goals (apply d_done;(case hr=>kernel_rfl))
    repeat' (first|apply v_region|apply v_nil|apply v_blk|(apply v_pure;(case hop=>first|(apply p_move <;> rfl)|(apply p_add;(case hx=>rfl);(case hy=>rfl);(case h=>omega))|fail);(case hd=>rfl))|fail)
    refine v_perm (ν:=(b,.cells [.int .i64 x.1,.slice (dA k) x.2.length (dc k)].toArray 112 (0,0)) :: (lb,.cells (.pointer (some ⟨d,0,none⟩) :: .int .i64 (gr + 1) :: .int .i64 f0 :: hdL H0.pr H0.pn H0.base iv0 av0 cv0).toArray 118 (0,0)) :: (hb,.cells (hdL H.pr H.pn H.base (.slice A0 H.image.length c0) (.slice A1 H.acc.length c1) (.slice A2 H.cho.length c2)).toArray 27 (0,0)) :: (d,dkO m ov4) :: (m,oM) :: ν4) (by apply perm_of_count;intro p;simp only [List.append_eq,List.countP_append,List.countP_cons,List.countP_nil,Nat.zero_add,Nat.add_zero];try ac_rfl) ?_
    refine v_drop (ν:=(lb,.cells (.pointer (some ⟨d,0,none⟩) :: .int .i64 (gr + 1) :: .int .i64 f0 :: hdL H0.pr H0.pn H0.base iv0 av0 cv0).toArray 118 (0,0)) :: (hb,.cells (hdL H.pr H.pn H.base (.slice A0 H.image.length c0) (.slice A1 H.acc.length c1) (.slice A2 H.cho.length c2)).toArray 27 (0,0)) :: (d,dkO m ov4) :: (m,oM) :: ν4) (List.sublist_cons_self _ _) ?_
    exact v_again rfl ⟨GH.le_trans hle6 hle7,k + 1,ov4,ν4,by omega,rfl,hgr4,rfl⟩ (by simp [headI];omega)
  · obtain rfl:k = R.length:=by omega
    rw [List.take_length] at hgr3
    have hL6:=hL.le (GH.le_trans hle1 (GH.le_trans hle2 (GH.le_trans hle25 hle6)))
    have qc:=hClone_s hL6 (by have:=s.img;omega) (by have:=s.good.nacc;omega) (by have:=s.good.ncho;omega) (fun e he=>(s.good.acc e he).2.1) (fun e he=>(s.good.cho e he).2.1)
    repeat' (first|apply v_seq|apply v_region|apply v_nil|(apply v_exit;(case hp=>rfl))|(apply v_pure;(case hop=>first|(apply p_move <;> rfl)|(apply p_lt <;> rfl)|fail);(case hd=>rfl))|(apply v_cond;(case hc=>rfl);all_goals (intro h;(try simp only [reduceCtorEq,zzz] at h);first|(exfalso;omega)|skip))|(apply v_read;(case hop=>(apply r_loadNo;(case hx=>rfl);(case h=>(repeat (first|exact mhd _|apply mtl)));(case hd=>(repeat (first|with_reducible exact dt_nil|apply dt_here)));(case hn=>rfl)));(case hd=>rfl))|fail)
    refine v_call (μ1:=[]) rfl qc (List.Perm.refl _) rfl ?_
    rintro _ G7 _ hle7 ⟨rfl,L',rfl,hL'⟩
    have hL7:=hL'
    obtain ⟨iv',av',cv',rfl,hi',ha',hcv'⟩:=hL'
    obtain ⟨B3,d3,rfl,-⟩:=id hi'.openInt
    obtain ⟨B4,d4,rfl,-⟩:=id ha'.open
    obtain ⟨B5,d5,rfl,-⟩:=id hcv'.open
    repeat' (first|apply v_seq|apply v_region|apply v_nil|(apply v_pure;(case hop=>first|(apply p_assign <;> rfl)|(apply p_fieldAddrB <;> rfl)|(apply p_nilCheck <;> rfl)|fail);(case hd=>rfl))|(apply v_store;(case hp=>rfl);(case hx=>rfl);(case hc=>rfl);(case hsz=>rfl);(case h1=>rfl);(case hb=>(repeat (exact mhd _)));(case hfit=>exact nle rfl);(case hov=>((repeat (first|with_reducible exact ov_nil|apply ov_cons));done));(case hu=>repeat (exact Upd.here _ _)))|fail)
    subst hBe
    refine v_ret ((lb,lgO d (gr + 1) f (hdL H.pr H.pn H.base (.slice B3 H.image.length d3) (.slice B4 H.acc.length d4) (.slice B5 H.cho.length d5))) :: dkB d m ov3 oM ν3) (outsA1 rfl rfl) ?_ ?_
    · rw [dkB_eq]
      exact List.Sublist.cons_cons _ (List.Sublist.cons _ (List.Sublist.refl _))
    · exact ⟨GH.le_trans hle1 (GH.le_trans hle2 (GH.le_trans hle25 (GH.le_trans hle6 hle7))),rfl,gr + 1,_,_,_,_,ov3,ν3,by unfold beginOps;simp,(hWB.begin s hR hg0 hgc hgk (by omega) (by omega)).top,hWB.begin s hR hg0 hgc hgk (by omega) (by omega),s.back,hL7,hgr3.le fun _ _ hx=>hx.le hle7,rfl⟩
theorem wmay_s (v:Int) (G:GH):Con Tryz.prog 47 #[.int .i64 v] G [] (Just (.bool (decide (v = 1 ∨ v = 2))) G):=by
  (refine v_enter Tryz.func47 rfl Tryz.ntmps47 rfl ?_;intro B _)
  repeat' (first|apply v_seq|apply v_region|apply v_nil|apply v_skip|apply v_block|apply v_blk|(apply v_exit;(case hp=>rfl))|(apply v_pure;(case hop=>first|(apply p_move <;> rfl)|(apply p_eq <;> rfl)|(apply p_assign <;> rfl)|fail);(case hd=>rfl))|(apply v_cond;(case hc=>rfl);all_goals (intro h;(try simp only [reduceCtorEq,zzz] at h)))|fail)
  all_goals (refine v_ret [] (outsA1 rfl rfl) (List.nil_sublist _) ?_;refine ⟨?_,rfl,rfl⟩)
  all_goals (congr 1;(simp;omega))
def opensW (v f:Int):Int:=if (v < 1 ∨ 2 < v) ∨ f < 1 ∨ 2 < f then 8 else if v < f then 9 else 0
theorem wopens_s (v f:Int) (G:GH):Con Tryz.prog 68 #[.int .i64 v,.int .i64 f] G [] (Just (.int .i64 (opensW v f)) G):=by
  (refine v_enter Tryz.func68 rfl Tryz.ntmps68 rfl ?_;intro B _)
  repeat' (first|apply v_seq|apply v_region|apply v_nil|apply v_skip|apply v_block|apply v_blk|(apply v_pure;(case hop=>first|(apply p_move <;> rfl)|(apply p_gt <;> rfl)|(apply p_assign <;> rfl)|(apply p_not <;> rfl));(case hd=>rfl))|(apply v_cond;(case hc=>rfl);all_goals (intro h;(try simp only [reduceCtorEq,zzz] at h);first|(exfalso;omega)|skip))|(apply v_callJ (hs:=wmay_s _ _);(case ha=>rfl);(case hd=>rfl))|fail)
  all_goals (refine v_ret [] (outsA1 rfl rfl) (List.nil_sublist _) ?_;refine ⟨?_,rfl,rfl⟩)
  all_goals (congr 1;unfold opensW;split <;> (try split) <;> omega)
theorem wrefOpens_s (v f:Int) (G:GH):Con Tryz.prog 75 #[.int .i64 v,.int .i64 f] G [] (Just (.int .i64 (opensW v f)) G):=by
  (refine v_enter Tryz.func75 rfl Tryz.ntmps75 rfl ?_;intro B _)
  repeat' (first|apply v_seq|apply v_region|apply v_nil|apply v_skip|(apply v_take;(case hg=>rfl))|(apply v_pass;(case hg=>rfl);(case hn=>rfl);(case hd=>rfl))|(apply v_pure;(case hop=>first|(apply p_move <;> rfl)|(apply p_eq <;> rfl)|(apply p_lt <;> rfl)|(apply p_gt <;> rfl)|(apply p_assign <;> rfl)|(apply p_pickT <;> rfl)|(apply p_pickF <;> rfl)|fail);(case hd=>rfl))|(apply v_condT;(case hc=>rfl))|(apply v_condF;(case hc=>rfl))|(apply v_cond;(case hc=>rfl);all_goals (intro h;(try simp only [reduceCtorEq,zzz] at h)))|(apply v_guardB;(case h1=>rfl);(case h2=>rfl);all_goals (intro h;(try simp only [reduceCtorEq,zzz] at h)))|fail)
  all_goals (refine v_ret [] (outsA1 rfl rfl) (List.nil_sublist _) ?_;refine ⟨?_,rfl,rfl⟩)
  all_goals (congr 1;unfold opensW;split <;> (try split) <;> omega)
theorem refOpens21_s (v f:Int) (G:GH):Con Tryz.prog 31 #[.int .i64 v,.int .i64 f] G [] (Just (.int .i64 (opensW v f)) G):=by
  (refine v_enter Tryz.func31 rfl Tryz.ntmps31 rfl ?_;intro B _)
  repeat' (first|apply v_seq|apply v_region|apply v_nil|(apply v_pure;(case hop=>first|(apply p_move <;> rfl)|(apply p_assign <;> rfl));(case hd=>rfl))|(apply v_callJ (hs:=wrefOpens_s v f _);(case ha=>rfl);(case hd=>rfl))|fail)
  all_goals (refine v_ret [] (outsA1 rfl rfl) (List.nil_sublist _) ?_;refine ⟨?_,rfl,rfl⟩)
  all_goals rfl
theorem none_s (e:Int) (G:GH):Con Tryz.prog 67 #[.int .i64 e] G [] (Just (.tuple [.pointer none,.agg (hdL 0 0 0 (.slice none 0 0) (.slice none 0 0) (.slice none 0 0)).toArray,.int .i64 e].toArray) G):=by
  (refine v_enter Tryz.func67 rfl Tryz.ntmps67 rfl ?_;intro B _)
  repeat' (first|apply v_seq|apply v_region|apply v_nil|(apply v_pure;(case hop=>first|(apply p_move <;> rfl)|(apply p_assign <;> rfl)|(apply p_build;(case hz=>rfl);(case hv=>(simp only [List.map_cons,List.map_nil];repeat (with_reducible exact evs_nil)));(case hb=>(apply bldL;repeat (exact bld_nil)))));(case hd=>rfl))|(apply v_alloc;(case hz=>rfl);(case hd=>rfl);intro b)|(apply v_store;(case hp=>rfl);(case hx=>rfl);(case hc=>rfl);(case hsz=>rfl);(case h1=>rfl);(case hb=>(repeat (exact mhd _)));(case hfit=>exact nle rfl);(case hov=>((repeat (first|with_reducible exact ov_nil|apply ov_cons));done));(case hu=>repeat (exact Upd.here _ _)))|fail)
  refine v_retM [] (outsM_tct (sz1:=6) (vs1:=hdL 0 0 0 (.slice none 0 0) (.slice none 0 0) (.slice none 0 0)) (e1:=27) rfl rfl rfl (by repeat (exact mhd _)) rfl rfl) (List.nil_sublist _) ?_
  exact ⟨rfl,rfl,rfl⟩
def LogX (lb d m c a:Nat) (past:List (Int × Hd)) (f:Int) (H:Hd) (g:Fs) (l:List Dop) (G:GH) (μ:OH):Prop :=
  ∃ no n xs L ov ml oM ν,WI c a g l past no f n xs ∧ hardOf xs = H ∧ HdV G H L ∧ MapB keyI ml oM ∧ MF G ml g ∧ GrL 124 3 (OpR G) ov l ν ∧ μ = (lb,lgO d no f L) :: dkB d m ov oM ν
def LogM (lb d m c a:Nat) (past:List (Int × Hd)) (f:Int) (H:Hd) (G:GH) (μ:OH):Prop := ∃ g l,LogX lb d m c a past f H g l G μ
def WOpenR (d m c a:Nat) (past:List (Int × Hd)) (p:Int × Hd) (g:Fs) (G:GH) (r:Value) (G':GH) (μ':OH):Prop :=
  GH.le G G' ∧ ∃ lb L l',r = .tuple [.pointer (some ⟨lb,0,none⟩),.agg L.toArray,.int .i64 0].toArray ∧ HdV G' p.2 L ∧ l' ≠ [] ∧ (∃ no,TopIs (gall g l') no (fileB encF p.1 (recsOf p.2).length (recsOf p.2))) ∧ LogX lb d m c a (past ++ [p]) p.1 p.2 g l' G' μ'
def WOpenN (e:Int) (D:OH) (G:GH) (r:Value) (G':GH) (μ':OH):Prop :=
  GH.le G G' ∧ r = .tuple [.pointer none,.agg (hdL 0 0 0 (.slice none 0 0) (.slice none 0 0) (.slice none 0 0)).toArray,.int .i64 e].toArray ∧ μ' = D
theorem pk_eq {c a:Nat} {g:Fs} {l:List Dop} {past:List (Int × Hd)} {p q:Int × Hd} (h:WB c a g l past p) (hq:PK (gall g l) q):q = p:=by
  obtain ⟨R,hR,-⟩:=(h.cs _ (cs_all g l)).1.2
  rw [← hq R hR,h.all R hR]
set_option maxHeartbeats 2000000 in
theorem wopen_s {d m c a:Nat} {G:GH} (hT:TabsG G) (hC:CrcG G) {g:Fs} {l:List Dop} {past:List (Int × Hd)} {p:Int × Hd} (h:WB c a g l past p) (hc:c ≤ 45) (ha:a ≤ 40) {ov:Value} {ml:List (Int × Value)} {oM:Obj} {ν:OH} (h1:MapB keyI ml oM) (h2:MF G ml g) (h3:GrL 124 3 (OpR G) ov l ν) (v:Int) :
    Con Tryz.prog 26 #[.pointer (some ⟨d,0,none⟩),.int .i64 v] G (dkB d m ov oM ν) (fun r G' μ'=>(opensW v p.1 = 0 ∧ WOpenR d m c a past p g G r G' μ') ∨ (opensW v p.1 ≠ 0 ∧ WOpenN (opensW v p.1) (dkB d m ov oM ν) G r G' μ')):=by
  have hWB:=h
  have hd:=h.dk h1 h2 h3
  have qp:=peek_s (d:=d) (m:=m) hT hC hd (by omega)
  have st:=h.past _ h.mem
  (refine v_enter Tryz.func26 rfl Tryz.ntmps26 rfl ?_;intro B _)
  repeat' (first|apply v_seq|apply v_region|apply v_nil|apply v_skip|(apply v_pure;(case hop=>first|(apply p_move <;> rfl)|(apply p_assign <;> rfl)|(apply p_eqNil <;> rfl)|fail);(case hd=>rfl))|(apply v_condF;(case hc=>rfl))|(apply v_alloc;(case hz=>rfl);(case hd=>rfl);intro b)|fail)
  revert b
  intro rb
  refine v_call (μ1:=dkB d m ov oM ν) (μ2:=[(rb,.cells (hdL 0 0 0 (.slice none 0 0) (.slice none 0 0) (.slice none 0 0)).toArray 27 (0,0))]) rfl qp (List.perm_append_comm (l₁:=[_])) rfl ?_
  rintro _ G1 _ hle1 ⟨-,f,H,L,rfl,hL,hpk,rfl⟩
  obtain rfl:=pk_eq hWB hpk
  simp only at st ⊢
  have qo:=wopens_s v f G1
  have hL1:=hL
  obtain ⟨iv,av,cv,rfl,hi,hac,hcv⟩:=hL
  obtain ⟨A0,c0,rfl,-⟩:=id hi.openInt
  obtain ⟨A1,c1,rfl,-⟩:=id hac.open
  obtain ⟨A2,c2,rfl,-⟩:=id hcv.open
  refine v_perm (ν:=(rb,.cells (hdL 0 0 0 (.slice none 0 0) (.slice none 0 0) (.slice none 0 0)).toArray 27 (0,0)) :: dkB d m ov oM ν) (by apply perm_of_count;intro p;simp only [List.append_eq,List.countP_append,List.countP_cons,List.countP_nil,Nat.zero_add,Nat.add_zero];try ac_rfl) ?_
  by_cases ho:opensW v f = 0
  · rw [ho] at qo
    have qb:=fun lb=>wbegin_s (lb:=lb) (d:=d) (m:=m) (hT.le hle1) (hC.le hle1) hWB hc ha h1 (h2.up hle1) (h3.le fun _ _ hx=>hx.le hle1) st hL1 0 0 Hd.zero (.slice none 0 0) (.slice none 0 0) (.slice none 0 0)
    simp only [Hd.zero] at qb
    have qc:=fun G' (hle:GH.le G1 G')=>hClone_s (hL1.le hle) (by have:=st.img;omega) (by have:=st.good.nacc;omega) (by have:=st.good.ncho;omega) (fun e he=>(st.good.acc e he).2.1) (fun e he=>(st.good.cho e he).2.1)
    repeat' (first|apply v_seq|apply v_region|apply v_nil|apply v_skip|(apply v_pure;(case hop=>first|(apply p_move <;> rfl)|(apply p_nes <;> rfl)|(apply p_assign <;> rfl)|(apply p_extract0 <;> rfl)|(apply p_extract1 <;> rfl)|(apply p_build;(case hz=>rfl);(case hv=>(simp only [List.map_cons,List.map_nil];repeat (first|with_reducible exact evs_nil|(apply evs_cons;(case h1=>rfl)))));(case hb=>(apply bldL;repeat (first|exact bld_nil|(apply bld_cons;(case hpf=>rfl);(case hc=>rfl);(case hs=>rfl);(case hl=>rfl);(case ho=>((repeat (first|with_reducible exact ov_nil|apply ov_cons));done)))))))|fail);(case hd=>rfl))|(apply v_condF;(case hc=>rfl))|(apply v_callJ (hs:=qo);(case ha=>rfl);(case hd=>rfl))|(apply v_read;(case hop=>(apply r_loadNo;(case hx=>rfl);(case h=>(repeat (first|exact mhd _|apply mtl)));(case hd=>(repeat (first|with_reducible exact dt_nil|apply dt_here)));(case hn=>rfl)));(case hd=>rfl))|(apply v_alloc;(case hz=>rfl);(case hd=>rfl);intro b)|(apply v_box;(case hx=>rfl);(case hz=>rfl);(case hd=>rfl);intro b)|(apply v_store;(case hp=>rfl);(case hx=>rfl);(case hc=>rfl);(case hsz=>rfl);(case h1=>rfl);(case hb=>(repeat (exact mhd _)));(case hfit=>exact nle rfl);(case hov=>((repeat (first|with_reducible exact ov_nil|apply ov_cons));done));(case hu=>repeat (exact Upd.here _ _)))|fail)
    revert b
    intro lb
    revert b
    intro hb
    refine v_call (μ1:=(lb,.cells (Value.pointer (some ⟨d,0,none⟩) :: Value.int .i64 0 :: Value.int .i64 0 :: hdL 0 0 0 (.slice none 0 0) (.slice none 0 0) (.slice none 0 0)).toArray 118 (0,0)) :: dkB d m ov oM ν) (μ2:=[(hb,.cells (hdL H.pr H.pn H.base (.slice A0 H.image.length c0) (.slice A1 H.acc.length c1) (.slice A2 H.cho.length c2)).toArray 27 (0,0)),(rb,.cells (hdL 0 0 0 (.slice none 0 0) (.slice none 0 0) (.slice none 0 0)).toArray 27 (0,0))]) rfl (qb lb) (by apply perm_of_count;intro p;simp only [List.append_eq,List.countP_append,List.countP_cons,List.countP_nil,Nat.zero_add,Nat.add_zero];try ac_rfl) rfl ?_
    rintro _ G2 _ hle2 ⟨-,rfl,no,n,xs,l',L2,ov',ν',hl',htop,hWI,hx,hL2,hgr,rfl⟩
    refine v_perm (ν:=(hb,.cells (hdL H.pr H.pn H.base (.slice A0 H.image.length c0) (.slice A1 H.acc.length c1) (.slice A2 H.cho.length c2)).toArray 27 (0,0)) :: (rb,.cells (hdL 0 0 0 (.slice none 0 0) (.slice none 0 0) (.slice none 0 0)).toArray 27 (0,0)) :: (lb,lgO d no f L2) :: dkB d m ov' oM ν') (by apply perm_of_count;intro p;simp only [List.append_eq,List.countP_append,List.countP_cons,List.countP_nil,Nat.zero_add,Nat.add_zero];try ac_rfl) ?_
    repeat' (first|apply v_seq|apply v_region|apply v_nil|apply v_skip|(apply v_pure;(case hop=>first|(apply p_move <;> rfl)|(apply p_nes <;> rfl)|(apply p_assign <;> rfl)|fail);(case hd=>rfl))|(apply v_condF;(case hc=>rfl))|(apply v_read;(case hop=>(apply r_loadNo;(case hx=>rfl);(case h=>(repeat (exact mhd _)));(case hd=>(repeat (first|with_reducible exact dt_nil|apply dt_here)));(case hn=>rfl)));(case hd=>rfl))|fail)
    refine v_call (μ1:=[]) rfl (qc _ hle2) (List.Perm.refl _) rfl ?_
    rintro _ G3 _ hle3 ⟨rfl,L3,rfl,hL3⟩
    have hL4:=hL3
    obtain ⟨iv',av',cv',rfl,hi',ha',hcv'⟩:=hL3
    obtain ⟨B3,d3,rfl,-⟩:=id hi'.openInt
    obtain ⟨B4,d4,rfl,-⟩:=id ha'.open
    obtain ⟨B5,d5,rfl,-⟩:=id hcv'.open
    repeat' (first|apply v_nil|(apply v_pure;(case hop=>(apply p_assign <;> rfl));(case hd=>rfl))|(apply v_store;(case hp=>rfl);(case hx=>rfl);(case hc=>rfl);(case hsz=>rfl);(case h1=>rfl);(case hb=>(repeat (first|exact mhd _|apply mtl)));(case hfit=>exact nle rfl);(case hov=>((repeat (first|with_reducible exact ov_nil|apply ov_cons));done));(case hu=>repeat (first|exact Upd.here _ _|apply Upd.there)))|fail)
    refine v_retM ((lb,lgO d no f L2) :: dkB d m ov' oM ν') (outsM_tct (sz1:=6) (vs1:=hdL H.pr H.pn H.base (.slice B3 H.image.length d3) (.slice B4 H.acc.length d4) (.slice B5 H.cho.length d5)) (e1:=27) rfl rfl rfl (by repeat (first|exact mhd _|apply mtl)) rfl rfl) (List.Sublist.cons _ (List.Sublist.cons _ (List.Sublist.refl _))) ?_
    refine .inl ⟨ho,GH.le_trans hle1 (GH.le_trans hle2 hle3),lb,_,l',rfl,hL4,hl',⟨no,htop⟩,no,n,xs,L2,ov',ml,oM,ν',hWI,hx,hL2.le hle3,h1,h2.up (GH.le_trans hle1 (GH.le_trans hle2 hle3)),hgr.le fun _ _ hx=>hx.le hle3,rfl⟩
  · have qn:=none_s (opensW v f) G1
    generalize opensW v f = e at *
    repeat' (first|apply v_seq|apply v_region|apply v_nil|(apply v_pure;(case hop=>first|(apply p_move <;> rfl)|(apply p_ne <;> rfl)|(apply p_assign <;> rfl)|(apply p_extract0 <;> rfl)|(apply p_extract1 <;> rfl)|(apply p_extract2 <;> rfl)|fail);(case hd=>rfl))|(apply v_cond;(case hc=>rfl);all_goals (intro h;(try simp only [reduceCtorEq,zzz] at h);first|(exfalso;omega)|skip))|(apply v_callJ (hs:=qo);(case ha=>rfl);(case hd=>rfl))|(apply v_callFJ0 (hs:=qn);(case hx=>rfl);(case ha=>rfl);(case hd=>rfl))|(apply v_alloc;(case hz=>rfl);(case hd=>rfl);intro b)|(apply v_store;(case hp=>rfl);(case hx=>rfl);(case hc=>rfl);(case hsz=>rfl);(case h1=>rfl);(case hb=>(repeat (first|exact mhd _|apply mtl)));(case hfit=>exact nle rfl);(case hov=>((repeat (first|with_reducible exact ov_nil|apply ov_cons));done));(case hu=>repeat (first|exact Upd.here _ _|apply Upd.there)))|fail)
    refine v_retM (dkB d m ov oM ν) (outsM_tct (sz1:=6) (vs1:=hdL 0 0 0 (.slice none 0 0) (.slice none 0 0) (.slice none 0 0)) (e1:=27) rfl rfl rfl (by repeat (first|exact mhd _|apply mtl)) rfl rfl) (List.Sublist.cons _ (List.Sublist.cons _ (List.Sublist.refl _))) ?_
    exact .inr ⟨ho,hle1,rfl,rfl⟩
theorem wformat_s (G:GH) {lb d:Nat} {no f:Int} {L:List Value}:Con Tryz.prog 35 #[.pointer (some ⟨lb,0,none⟩)] G [(lb,lgO d no f L)] (Keeps (.int .i64 f) G [(lb,lgO d no f L)]):=by
  unfold lgO
  (refine v_enter Tryz.func35 rfl Tryz.ntmps35 rfl ?_;intro B _)
  repeat' (first|apply v_seq|apply v_region|apply v_nil|apply v_skip|(apply v_pure;(case hop=>first|(apply p_move <;> rfl)|(apply p_assign <;> rfl)|(apply p_fieldAddrB <;> rfl)|(apply p_nilCheck <;> rfl)|(apply p_eqNil <;> rfl)|fail);(case hd=>rfl))|(apply v_condF;(case hc=>rfl))|(apply v_read;(case hop=>(apply r_load1;rfl;(apply Cell.own;(case h=>(repeat (exact mhd _)));rfl)));(case hd=>rfl))|fail)
  refine v_ret [(lb,_)] (outsA1 rfl rfl) (List.Sublist.refl _) ?_
  exact ⟨rfl,rfl,rfl⟩
theorem whard_s {G:GH} {lb d n:Nat} {no f:Int} {H:Hd} {L:List Value} (hh:HdV G H L) (g:Good n H) (hn:n ≤ 200):Con Tryz.prog 34 #[.pointer (some ⟨lb,0,none⟩)] G [(lb,lgO d no f L)] (fun r G' μ'=>GH.le G G' ∧ μ' = [(lb,lgO d no f L)] ∧ ∃ L',r = .agg L'.toArray ∧ HdV G' H L'):=by
  have qc:=hClone_s hh (by have:=g.img;omega) (by have:=g.nacc;omega) (by have:=g.ncho;omega) (fun e he=>(g.acc e he).2.1) (fun e he=>(g.cho e he).2.1)
  obtain ⟨iv,av,cv,rfl,hi,ha,hcv⟩:=hh
  obtain ⟨A0,c0,rfl,-⟩:=id hi.openInt
  obtain ⟨A1,c1,rfl,-⟩:=id ha.open
  obtain ⟨A2,c2,rfl,-⟩:=id hcv.open
  unfold lgO
  (refine v_enter Tryz.func34 rfl Tryz.ntmps34 rfl ?_;intro B _)
  repeat' (first|apply v_seq|apply v_region|apply v_nil|apply v_skip|(apply v_pure;(case hop=>first|(apply p_move <;> rfl)|(apply p_fieldAddrB <;> rfl)|(apply p_nilCheck <;> rfl)|(apply p_eqNil <;> rfl)|fail);(case hd=>rfl))|(apply v_condF;(case hc=>rfl))|(apply v_read;(case hop=>(apply r_loadNo;(case hx=>rfl);(case h=>(repeat (first|exact mhd _|apply mtl)));(case hd=>(repeat (first|with_reducible exact dt_nil|apply dt_here)));(case hn=>rfl)));(case hd=>rfl))|(apply v_alloc;(case hz=>rfl);(case hd=>rfl);intro b)|fail)
  refine v_call (μ1:=[]) rfl qc (List.Perm.refl _) rfl ?_
  rintro _ G1 _ hle1 ⟨rfl,L',rfl,hL'⟩
  have hL1:=hL'
  obtain ⟨iv',av',cv',rfl,hi',ha',hcv'⟩:=hL'
  obtain ⟨B3,d3,rfl,-⟩:=id hi'.openInt
  obtain ⟨B4,d4,rfl,-⟩:=id ha'.open
  obtain ⟨B5,d5,rfl,-⟩:=id hcv'.open
  repeat' (first|apply v_nil|(apply v_store;(case hp=>rfl);(case hx=>rfl);(case hc=>rfl);(case hsz=>rfl);(case h1=>rfl);(case hb=>(repeat (exact mhd _)));(case hfit=>exact nle rfl);(case hov=>((repeat (first|with_reducible exact ov_nil|apply ov_cons));done));(case hu=>repeat (exact Upd.here _ _)))|fail)
  refine v_retM [(lb,_)] (outsM_cell (vs:=hdL H.pr H.pn H.base (.slice B3 H.image.length d3) (.slice B4 H.acc.length d4) (.slice B5 H.cho.length d5)) (e:=27) rfl rfl (by repeat (exact mhd _)) rfl) (List.Sublist.cons _ (List.Sublist.refl _)) ?_
  exact ⟨hle1,rfl,_,rfl,hL1⟩
theorem wdirty_s {c lb d m:Nat} {G:GH} {g:Fs} {l:List Dop} {ov:Value} {ml:List (Int × Value)} {oM:Obj} {ν:OH} (h:DkM c G g l ov ml oM ν) (hc:c ≤ 46) {no f:Int} {L:List Value} :
    Con Tryz.prog 36 #[.pointer (some ⟨lb,0,none⟩)] G ((lb,lgO d no f L) :: dkB d m ov oM ν) (fun r G' μ'=>GH.le G G' ∧ r = .bool (decide (0 < l.length)) ∧ μ' = (lb,lgO d no f L) :: dkB d m ov oM ν):=by
  have qb:=wbuf_s (d:=d) (m:=m) h hc
  have hd:=dkB_eq (d:=d) (m:=m) (ov:=ov) (oM:=oM) (ν:=ν)
  have hln:=h.len
  unfold lgO
  rw [hd]
  (refine v_enter Tryz.func36 rfl Tryz.ntmps36 rfl ?_;intro B _)
  repeat' (first|apply v_seq|apply v_region|apply v_nil|(apply v_take;(case hg=>rfl))|(apply v_pure;(case hop=>first|(apply p_move <;> rfl)|(apply p_assign <;> rfl)|(apply p_fieldAddrB <;> rfl)|(apply p_nilCheck <;> rfl)|(apply p_neNil <;> rfl)|fail);(case hd=>rfl))|(apply v_read;(case hop=>(apply r_load1;rfl;(apply Cell.own;(case h=>(repeat (exact mhd _)));rfl)));(case hd=>rfl))|fail)
  refine v_call (μ1:=(d,dkO m ov) :: ν) (μ2:=[(lb,.cells (Value.pointer (some ⟨d,0,none⟩) :: Value.int .i64 no :: Value.int .i64 f :: L).toArray 118 (0,0)),(m,oM)]) rfl qb (by apply perm_of_count;intro p;simp only [List.append_eq,List.countP_append,List.countP_cons,List.countP_nil,Nat.zero_add,Nat.add_zero];try ac_rfl) rfl ?_
  rintro v G1 _ - ⟨hle1,hs,rfl⟩
  obtain ⟨A,cA,dA,dc,rfl,-⟩:=opOpen hs
  repeat' (first|apply v_nil|(apply v_take;(case hg=>rfl))|(apply v_pure;(case hop=>first|(apply p_gt <;> rfl)|(apply p_assign <;> rfl)|(apply p_pickT <;> rfl)|(apply p_lenSlice <;> rfl)|fail);(case hd=>rfl))|fail)
  all_goals
    (refine v_perm (ν:=(lb,.cells (Value.pointer (some ⟨d,0,none⟩) :: Value.int .i64 no :: Value.int .i64 f :: L).toArray 118 (0,0)) :: (d,dkO m ov) :: (m,oM) :: ν) (by apply perm_of_count;intro p;simp only [List.append_eq,List.countP_append,List.countP_cons,List.countP_nil,Nat.zero_add,Nat.add_zero];try ac_rfl) ?_
     refine v_ret ((lb,.cells (Value.pointer (some ⟨d,0,none⟩) :: Value.int .i64 no :: Value.int .i64 f :: L).toArray 118 (0,0)) :: (d,dkO m ov) :: (m,oM) :: ν) (outsA1 rfl rfl) (List.Sublist.refl _) ⟨hle1,?_,rfl⟩)
  all_goals (congr 1;rw [dec_eq];exact decide_eq_decide.2 (by omega))
theorem wsync_s {lb d m c a:Nat} {G:GH} {past:List (Int × Hd)} {f:Int} {H:Hd} {g:Fs} {l:List Dop} {μ:OH} (h:LogX lb d m c a past f H g l G μ) (hc:c ≤ 45) (ha:a ≤ 45):Con Tryz.prog 29 #[.pointer (some ⟨lb,0,none⟩)] G μ (fun _ G' μ'=>GH.le G G' ∧ LogX lb d m c a [(f,H)] f H (gall g l) [] G' μ'):=by
  obtain ⟨no,n,xs,L,ov,ml,oM,ν,hW,rfl,hL,h1,h2,h3,rfl⟩:=h
  have hd:=hW.dk h1 h2 h3
  have hln:=hd.len
  have q:=sync_s (d:=d) (m:=m) h1 h2 (fun q hq k b hb=>by have:=(hd.sok q hq).bd k b hb;omega) h3 (by omega) (fun x hx=>by have:=(hd.ops x hx).2.1;omega) (hd.no (by omega))
  have hm:=hd.mlen
  unfold lgO
  rw [dkB_eq]
  (refine v_enter Tryz.func29 rfl Tryz.ntmps29 rfl ?_;intro B _)
  repeat' (first|apply v_seq|apply v_region|apply v_nil|(apply v_pure;(case hop=>first|(apply p_move <;> rfl)|(apply p_fieldAddrB <;> rfl)|(apply p_nilCheck <;> rfl)|(apply p_neNil <;> rfl)|fail);(case hd=>rfl))|(apply v_condT;(case hc=>rfl))|(apply v_read;(case hop=>(apply r_load1;rfl;(apply Cell.own;(case h=>(repeat (exact mhd _)));rfl)));(case hd=>rfl))|fail)
  refine v_call (μ1:=(d,dkO m ov) :: (m,oM) :: ν) (μ2:=[(lb,.cells (Value.pointer (some ⟨d,0,none⟩) :: Value.int .i64 no :: Value.int .i64 f :: L).toArray 118 (0,0))]) rfl q (by apply perm_of_count;intro p;simp only [List.append_eq,List.countP_append,List.countP_cons,List.countP_nil,Nat.zero_add,Nat.add_zero];try ac_rfl) rfl ?_
  rintro v G1 _ - ⟨hle1,ml',oM',hM',hF',-,rfl⟩
  repeat' (first|apply v_nil)
  refine v_perm (ν:=(lb,.cells (Value.pointer (some ⟨d,0,none⟩) :: Value.int .i64 no :: Value.int .i64 f :: L).toArray 118 (0,0)) :: [(d,dkO m (.slice none 0 0)),(m,oM')]) (by apply perm_of_count;intro p;simp only [List.append_eq,List.countP_append,List.countP_cons,List.countP_nil,Nat.zero_add,Nat.add_zero];try ac_rfl) ?_
  refine v_end ((lb,.cells (Value.pointer (some ⟨d,0,none⟩) :: Value.int .i64 no :: Value.int .i64 f :: L).toArray 118 (0,0)) :: [(d,dkO m (.slice none 0 0)),(m,oM')]) (outsA0 rfl) (List.Sublist.refl _) ?_
  exact ⟨hle1,no,n,xs,L,.slice none 0 0,ml',oM',[],hW.sync ha,rfl,hL.le hle1,hM',hF',GrL.nil,by rw [dkB_eq];rfl⟩
set_option maxHeartbeats 1000000 in
theorem wrenew_s {lb d m c a:Nat} {G:GH} (hT:TabsG G) (hC:CrcG G) {past:List (Int × Hd)} {f:Int} {H:Hd} {μ:OH} (h:LogM lb d m c a past f H G μ) (hc:c < 45) (ha:a ≤ 40) {f':Int} {H':Hd} {L':List Value} (s:St a f' H') (hh:HdV G H' L') :
    Con Tryz.prog 27 #[.pointer (some ⟨lb,0,none⟩),.int .i64 f',.agg L'.toArray] G μ (fun r G' μ'=>GH.le G G' ∧ r = .int .i64 0 ∧ LogM lb d m (c + 1) a (past ++ [(f',H')]) f' H' G' μ'):=by
  obtain ⟨g,l,no,n,xs,L,ov,ml,oM,ν,hW,rfl,hL,h1,h2,h3,rfl⟩:=h
  obtain ⟨iv,av,cv,rfl,hi,hac,hcv⟩:=id hL
  have q:=wbegin_s (lb:=lb) (d:=d) (m:=m) hT hC (hW.base (by omega)) (by omega) ha h1 h2 h3 s hh no f (hardOf xs) iv av cv
  obtain ⟨iv',av',cv',rfl,hi',ha',hcv'⟩:=id hh
  obtain ⟨A0,c0,rfl,-⟩:=id hi'.openInt
  obtain ⟨A1,c1,rfl,-⟩:=id ha'.open
  obtain ⟨A2,c2,rfl,-⟩:=id hcv'.open
  generalize hE:hdL (hardOf xs).pr (hardOf xs).pn (hardOf xs).base iv av cv = L at *
  have e:lgO d no f L = .cells (Value.pointer (some ⟨d,0,none⟩) :: Value.int .i64 no :: Value.int .i64 f :: L).toArray 118 (0,0):=rfl
  rw [e]
  (refine v_enter Tryz.func27 rfl Tryz.ntmps27 rfl ?_;intro B _)
  repeat' (first|(apply v_box (zs:=hdL H'.pr H'.pn H'.base (.slice A0 H'.image.length c0) (.slice A1 H'.acc.length c1) (.slice A2 H'.cho.length c2));(case hx=>rfl);(case hz=>rfl);(case hd=>rfl);intro b)|apply v_seq|apply v_region|apply v_nil|apply v_skip|(apply v_pure;(case hop=>first|(apply p_move <;> rfl)|(apply p_assign <;> rfl)|(apply p_eqNil <;> rfl)|fail);(case hd=>rfl))|(apply v_condF;(case hc=>rfl))|(apply v_read;(case hop=>(apply r_loadNo;(case hx=>rfl);(case h=>(repeat (exact mhd _)));(case hd=>(repeat (first|with_reducible exact dt_nil|apply dt_here)));(case hn=>rfl)));(case hd=>rfl))|fail)
  revert b
  intro hb
  refine v_call (μ1:=(lb,.cells (Value.pointer (some ⟨d,0,none⟩) :: Value.int .i64 no :: Value.int .i64 f :: L).toArray 118 (0,0)) :: dkB d m ov oM ν) (μ2:=[(hb,.cells (hdL H'.pr H'.pn H'.base (.slice A0 H'.image.length c0) (.slice A1 H'.acc.length c1) (.slice A2 H'.cho.length c2)).toArray 27 (0,0))]) rfl q (by apply perm_of_count;intro p;simp only [List.append_eq,List.countP_append,List.countP_cons,List.countP_nil,Nat.zero_add,Nat.add_zero];try ac_rfl) rfl ?_
  rintro _ G1 _ - ⟨hle1,rfl,no',n',xs',l',L2,ov',ν',-,-,hWI,hx,hL2,hgr,rfl⟩
  repeat' (first|apply v_nil|(apply v_pure;(case hop=>(apply p_assign <;> rfl));(case hd=>rfl))|fail)
  refine v_ret ((lb,lgO d no' f' L2) :: dkB d m ov' oM ν') (outsA1 rfl rfl) (List.sublist_append_left _ _) ⟨hle1,rfl,g,l',no',n',xs',L2,ov',ml,oM,ν',hWI,hx,hL2,h1,h2.up hle1,hgr,rfl⟩
def WAddR (lb d m c a:Nat) (past:List (Int × Hd)) (f:Int) (H:Hd) (x:Rc) (G:GH) (r:Value) (G':GH) (μ':OH):Prop :=
  GH.le G G' ∧ r = .int .i64 (errF f x) ∧ (if errF f x = 0 then LogM lb d m (c + 1) (a + 1) (past ++ [(f,stepH H x)]) f (stepH H x) G' μ' else LogM lb d m c a past f H G' μ')
set_option maxHeartbeats 2000000 in
theorem wadd_s {lb d m c a:Nat} {G:GH} (hT:TabsG G) (hC:CrcG G) {past:List (Int × Hd)} {f:Int} {H:Hd} {μ:OH} (h:LogM lb d m c a past f H G μ) (hc:c ≤ 45) (hq:a ≤ 45) {x:Rc} {xv:Value} (hx:RcV G x xv) (hok:x.cmd.ok) (hsm:x.small) (hl:¬ x.large) (him:x.image.length ≤ 300) :
    Con Tryz.prog 28 #[.pointer (some ⟨lb,0,none⟩),xv] G μ (WAddR lb d m c a past f H x G):=by
  have hlog:=h
  obtain ⟨g,l,no,n,xs,L,ov,ml,oM,ν,hW,rfl,hL,h1,h2,h3,rfl⟩:=h
  have qs:=sadd_s hT hC f hx hok hl hsm
  have hdk:=hW.dk h1 h2 h3
  have hln:=hdk.len
  obtain ⟨iv,av,cv,rfl,hi,ha,hcv⟩:=id hL
  obtain ⟨A0,c0,rfl,-⟩:=id hi.openInt
  obtain ⟨A1,c1,rfl,-⟩:=id ha.open
  obtain ⟨A2,c2,rfl,-⟩:=id hcv.open
  obtain ⟨xi,rfl,hxi⟩:=id hx
  obtain ⟨A3,c3,rfl,-,-,-,-,hwx⟩:=id hxi.openInt
  have e:lgO d no f (hdL (hardOf xs).pr (hardOf xs).pn (hardOf xs).base (.slice A0 (hardOf xs).image.length c0) (.slice A1 (hardOf xs).acc.length c1) (.slice A2 (hardOf xs).cho.length c2)) = .cells (Value.pointer (some ⟨d,0,none⟩) :: Value.int .i64 no :: Value.int .i64 f :: hdL (hardOf xs).pr (hardOf xs).pn (hardOf xs).base (.slice A0 (hardOf xs).image.length c0) (.slice A1 (hardOf xs).acc.length c1) (.slice A2 (hardOf xs).cho.length c2)).toArray 118 (0,0):=rfl
  unfold WAddR
  rw [e]
  by_cases he:errF f x = 0
  · have r:Rx f x:=⟨he,hl,hok,him,hwx⟩
    unfold AddS at qs
    simp only [he,↓reduceIte] at qs ⊢
    (refine v_enter Tryz.func28 rfl Tryz.ntmps28 rfl ?_;intro B _)
    repeat' (first|(apply v_box (zs:=recL x.kind x.round x.node x.index x.cmd (.slice A3 x.image.length c3));(case hx=>rfl);(case hz=>rfl);(case hd=>rfl);intro xb)|apply v_seq|apply v_region|apply v_nil|apply v_skip|(apply v_pure;(case hop=>first|(apply p_move <;> rfl)|(apply p_assign <;> rfl)|(apply p_eqNil <;> rfl)|fail);(case hd=>rfl))|(apply v_condF;(case hc=>rfl))|fail)
    refine d_start [(xb,.cells (recL x.kind x.round x.node x.index x.cmd (.slice A3 x.image.length c3)).toArray 42 (0,0)),(lb,.cells (Value.pointer (some ⟨d,0,none⟩) :: Value.int .i64 no :: Value.int .i64 f :: hdL (hardOf xs).pr (hardOf xs).pn (hardOf xs).base (.slice A0 (hardOf xs).image.length c0) (.slice A1 (hardOf xs).acc.length c1) (.slice A2 (hardOf xs).cho.length c2)).toArray 118 (0,0))] (by kernel_rfl) (by kernel_rfl) (by kernel_rfl) (by intro e he;(simp only [List.mem_cons,List.not_mem_nil,or_false] at he;rcases he with rfl|rfl <;> simp;done)) ?_
    all_goals (apply dtk 0;(case hi=>rfl);(case hop=>(apply prd;apply p_move <;> rfl));(case hq=>kernel_rfl))
    all_goals (apply dtk 1;(case hi=>rfl);(case hop=>(apply prd;apply p_nilCheck <;> rfl));(case hq=>kernel_rfl))
    all_goals (apply dtk 2;(case hi=>rfl);(case hop=>(apply prd;apply p_fieldAddrB <;> rfl));(case hq=>kernel_rfl))
    all_goals (apply dtk 3;(case hi=>rfl);(case hop=>first|(apply r_loadNo;(case hx=>rfl);(case h=>(repeat (fail)));(case hd=>(repeat (fail)));(case hn=>rfl))|(apply r_load1;rfl;(apply Cell.own;(case h=>(repeat (first|exact mhd _|apply mtl)));rfl))|(apply r_loadN;rfl;(apply CellsAt.own;(case h=>(repeat (fail))));rfl));(case hq=>kernel_rfl))
    all_goals (apply dtk 4;(case hi=>rfl);(case hop=>first|(apply r_loadNo;(case hx=>rfl);(case h=>(repeat (exact mhd _)));(case hd=>(repeat (first|with_reducible exact dt_nil|apply dt_here)));(case hn=>rfl))|(apply r_load1;rfl;(apply Cell.own;(case h=>(repeat (fail)));rfl))|(apply r_loadN;rfl;(apply CellsAt.own;(case h=>(repeat (fail))));rfl));(case hq=>kernel_rfl))
    all_goals ((apply d_call 5 (hs:=qs) (μ1:=[]);(case hi=>rfl);(case hr=>kernel_rfl);  (case ha=>rfl);(case hp=>exact List.Perm.refl _);(case hd=>rfl);(case hν'=>intro e he;simp at he;rcases he with rfl|rfl <;> simp);rintro _ G1 _ hle1 ⟨rfl,bv,rfl,hB⟩))
    all_goals (apply dtk 6;(case hi=>rfl);(case hop=>(apply prd;apply p_move <;> rfl));(case hq=>kernel_rfl))
    all_goals (apply dtk 7;(case hi=>rfl);(case hop=>(apply prd;apply p_extract0 <;> rfl));(case hq=>kernel_rfl))
    all_goals (apply dtk 8;(case hi=>rfl);(case hop=>(apply prd;apply p_extract1 <;> rfl));(case hq=>kernel_rfl))
    all_goals (apply dtk 9;(case hi=>rfl);(case hop=>(apply prd;apply p_assign <;> rfl));(case hq=>kernel_rfl))
    all_goals (apply dtk 10;(case hi=>rfl);(case hop=>(apply prd;apply p_assign <;> rfl));(case hq=>kernel_rfl))
    all_goals (apply d_done;(case hr=>kernel_rfl))
    repeat' (first|apply v_seq|apply v_region|apply v_nil|apply v_skip|(apply v_pure;(case hop=>first|(apply p_move <;> rfl)|(apply p_nes <;> rfl)|fail);(case hd=>rfl))|(apply v_condF;(case hc=>rfl))|fail)
    have hB1:=hB
    obtain ⟨AB,cB,rfl,-⟩:=id hB.openInt
    have hsz:=(encF_size he him).2
    have hfb:=frB_max (encF f x)
    have hin:inNo no:=by unfold inNo;have:=hW.no;omega
    have qa:=add_s (d:=d) (m:=m) no (h3.le fun _ _ hx=>hx.le hle1) (by omega) hB1 (by omega)
    rw [if_pos hin] at qa
    rw [dkB_eq]
    refine d_start [(xb,.cells (recL x.kind x.round x.node x.index x.cmd (.slice A3 x.image.length c3)).toArray 42 (0,0)),(lb,.cells (Value.pointer (some ⟨d,0,none⟩) :: Value.int .i64 no :: Value.int .i64 f :: hdL (hardOf xs).pr (hardOf xs).pn (hardOf xs).base (.slice A0 (hardOf xs).image.length c0) (.slice A1 (hardOf xs).acc.length c1) (.slice A2 (hardOf xs).cho.length c2)).toArray 118 (0,0))] (by kernel_rfl) (by kernel_rfl) (by kernel_rfl) (by intro e he;(simp only [List.mem_cons,List.not_mem_nil,or_false] at he;rcases he with rfl|rfl <;> simp;done)) ?_
    all_goals (apply dtk 0;(case hi=>rfl);(case hop=>(apply prd;apply p_move <;> rfl));(case hq=>kernel_rfl))
    all_goals (apply dtk 1;(case hi=>rfl);(case hop=>(apply prd;apply p_nilCheck <;> rfl));(case hq=>kernel_rfl))
    all_goals (apply dtk 2;(case hi=>rfl);(case hop=>(apply prd;apply p_fieldAddrB <;> rfl));(case hq=>kernel_rfl))
    all_goals (apply dtk 3;(case hi=>rfl);(case hop=>first|(apply r_loadNo;(case hx=>rfl);(case h=>(repeat (fail)));(case hd=>(repeat (fail)));(case hn=>rfl))|(apply r_load1;rfl;(apply Cell.own;(case h=>(repeat (first|exact mhd _|apply mtl)));rfl))|(apply r_loadN;rfl;(apply CellsAt.own;(case h=>(repeat (fail))));rfl));(case hq=>kernel_rfl))
    all_goals (apply dtk 4;(case hi=>rfl);(case hop=>(apply prd;apply p_move <;> rfl));(case hq=>kernel_rfl))
    all_goals (apply dtk 5;(case hi=>rfl);(case hop=>(apply prd;apply p_nilCheck <;> rfl));(case hq=>kernel_rfl))
    all_goals (apply dtk 6;(case hi=>rfl);(case hop=>(apply prd;apply p_fieldAddrB <;> rfl));(case hq=>kernel_rfl))
    all_goals (apply dtk 7;(case hi=>rfl);(case hop=>first|(apply r_loadNo;(case hx=>rfl);(case h=>(repeat (fail)));(case hd=>(repeat (fail)));(case hn=>rfl))|(apply r_load1;rfl;(apply Cell.own;(case h=>(repeat (first|exact mhd _|apply mtl)));rfl))|(apply r_loadN;rfl;(apply CellsAt.own;(case h=>(repeat (fail))));rfl));(case hq=>kernel_rfl))
    all_goals (apply dtk 8;(case hi=>rfl);(case hop=>(apply prd;apply p_move <;> rfl));(case hq=>kernel_rfl))
    all_goals ((apply d_call 9 (hs:=qa) (μ1:=(d,dkO m ov) :: ν) (μ2:=[(xb,.cells (recL x.kind x.round x.node x.index x.cmd (.slice A3 x.image.length c3)).toArray 42 (0,0)),(lb,.cells (Value.pointer (some ⟨d,0,none⟩) :: Value.int .i64 no :: Value.int .i64 f :: hdL (hardOf xs).pr (hardOf xs).pn (hardOf xs).base (.slice A0 (hardOf xs).image.length c0) (.slice A1 (hardOf xs).acc.length c1) (.slice A2 (hardOf xs).cho.length c2)).toArray 118 (0,0)),(m,oM)]);(case hi=>rfl);(case hr=>kernel_rfl);  (case ha=>rfl);(case hp=>exact (by apply perm_of_count;intro p;simp only [List.append_eq,List.countP_append,List.countP_cons,List.countP_nil,Nat.zero_add,Nat.add_zero];try ac_rfl));(case hd=>rfl);(case hν'=>intro e he;simp at he;rcases he with rfl|rfl <;> simp);rintro _ G2 _ hle2 ⟨-,ov2,ν2,hgr2,rfl⟩))
    all_goals (apply d_done;(case hr=>kernel_rfl))
    refine v_perm (ν:=(xb,.cells (recL x.kind x.round x.node x.index x.cmd (.slice A3 x.image.length c3)).toArray 42 (0,0)) :: (lb,.cells (Value.pointer (some ⟨d,0,none⟩) :: Value.int .i64 no :: Value.int .i64 f :: hdL (hardOf xs).pr (hardOf xs).pn (hardOf xs).base (.slice A0 (hardOf xs).image.length c0) (.slice A1 (hardOf xs).acc.length c1) (.slice A2 (hardOf xs).cho.length c2)).toArray 118 (0,0)) :: (d,dkO m ov2) :: (m,oM) :: ν2) (by apply perm_of_count;intro p;simp only [List.append_eq,List.countP_append,List.countP_cons,List.countP_nil,Nat.zero_add,Nat.add_zero];try ac_rfl) ?_
    have hle02:=GH.le_trans hle1 hle2
    have qp:=hApply_s (hT.le hle02) (hL.le hle02) hW.st.good (by omega) (hx.le hle02) hok
    repeat' (first|apply v_seq)
    refine d_start [(xb,.cells (recL x.kind x.round x.node x.index x.cmd (.slice A3 x.image.length c3)).toArray 42 (0,0))] (by kernel_rfl) (by kernel_rfl) (by kernel_rfl) (by intro e he;(simp at he;simp [he];done)) ?_
    all_goals (apply dtk 0;(case hi=>rfl);(case hop=>(apply prd;apply p_move <;> rfl));(case hq=>kernel_rfl))
    all_goals (apply dtk 1;(case hi=>rfl);(case hop=>(apply prd;apply p_move <;> rfl));(case hq=>kernel_rfl))
    all_goals (apply dtk 2;(case hi=>rfl);(case hop=>(apply prd;apply p_nilCheck <;> rfl));(case hq=>kernel_rfl))
    all_goals (apply dtk 3;(case hi=>rfl);(case hop=>(apply prd;apply p_fieldAddrB <;> rfl));(case hq=>kernel_rfl))
    all_goals (apply dtk 5;(case hi=>rfl);(case hop=>first|(apply r_loadNo;(case hx=>rfl);(case h=>(repeat (exact mhd _)));(case hd=>(repeat (first|with_reducible exact dt_nil|apply dt_here)));(case hn=>rfl))|(apply r_load1;rfl;(apply Cell.own;(case h=>(repeat (fail)));rfl))|(apply r_loadN;rfl;(apply CellsAt.own;(case h=>(repeat (fail))));rfl));(case hq=>kernel_rfl))
    all_goals (apply d_keep 4 (hop:=ReadOp.move ?hop);(case hi=>rfl);(case hr=>kernel_rfl);(case hop=>(apply r_loadNo (us:=hdL (hardOf xs).pr (hardOf xs).pn (hardOf xs).base (.slice A0 (hardOf xs).image.length c0) (.slice A1 (hardOf xs).acc.length c1) (.slice A2 (hardOf xs).cho.length c2));(case hx=>rfl);(case h=>repeat (first|exact mhd _|apply mtl));(case hd=>rfl);(case hn=>rfl)));(case hd=>rfl))
    all_goals ((apply d_call 6 (hs:=qp) (μ1:=[]);(case hi=>rfl);(case hr=>kernel_rfl);  (case ha=>rfl);(case hp=>exact List.Perm.refl _);(case hd=>rfl);(case hν'=>intro e he;simp at he;simp [he]);rintro _ G3 _ hle3 ⟨rfl,L4,rfl,hL4⟩;obtain ⟨iv',av',cv',rfl,hi',ha',hcv'⟩:=id hL4;obtain ⟨B3,d3,rfl,-⟩:=id hi'.openInt;obtain ⟨B4,d4,rfl,-⟩:=id ha'.open;obtain ⟨B5,d5,rfl,-⟩:=id hcv'.open))
    all_goals (apply dtk 7;(case hi=>rfl);(case hop=>(apply prd;apply p_nilCheck <;> rfl));(case hq=>kernel_rfl))
    all_goals (apply dtk 8;(case hi=>rfl);(case hop=>(apply prd;apply p_fieldAddrB <;> rfl));(case hq=>kernel_rfl))
    all_goals (apply d_store 9;(case hi=>rfl);(case hr=>kernel_rfl);(case hL=>infer_instance);(case hp=>rfl);(case hx=>rfl);(case hc=>rfl);(case hsz=>rfl);(case h1=>rfl);(case hb=>(repeat (first|exact mhd _|apply mtl)));(case hfit=>exact nle rfl);(case hov=>((repeat (first|with_reducible exact ov_nil|apply ov_cons));done));(case hu=>repeat (first|exact Upd.here _ _|apply Upd.there));(case hν'=>intro e he;(simp at he;simp [he];done)))
    all_goals (apply d_done;(case hr=>kernel_rfl))
    all_goals repeat' (first|apply v_seq|apply v_region|apply v_nil|(apply v_pure;(case hop=>(apply p_assign <;> rfl));(case hd=>rfl))|fail)
    refine v_drop (ν:=(lb,lgO d no f (hdL (stepH (hardOf xs) x).pr (stepH (hardOf xs) x).pn (stepH (hardOf xs) x).base (.slice B3 (stepH (hardOf xs) x).image.length d3) (.slice B4 (stepH (hardOf xs) x).acc.length d4) (.slice B5 (stepH (hardOf xs) x).cho.length d5))) :: (d,dkO m ov2) :: (m,oM) :: ν2) (List.sublist_cons_self _ _) ?_
    refine v_ret ((lb,_) :: (d,dkO m ov2) :: (m,oM) :: ν2) (outsA1 rfl rfl) (List.Sublist.refl _) ?_
    have hle03:=GH.le_trans hle02 hle3
    exact ⟨hle03,rfl,g,_,no,n,xs ++ [x],_,ov2,ml,oM,ν2,hW.add r hq,hardOf_snoc _ _,hL4,h1,h2.up hle03,hgr2.le fun _ _ hx=>hx.le hle3,by rw [dkB_eq]⟩
  · simp only [if_neg he]
    unfold AddS at qs
    (refine v_enter Tryz.func28 rfl Tryz.ntmps28 rfl ?_;intro B _)
    repeat' (first|(apply v_box (zs:=recL x.kind x.round x.node x.index x.cmd (.slice A3 x.image.length c3));(case hx=>rfl);(case hz=>rfl);(case hd=>rfl);intro xb)|apply v_seq|apply v_region|apply v_nil|apply v_skip|(apply v_pure;(case hop=>first|(apply p_move <;> rfl)|(apply p_assign <;> rfl)|(apply p_eqNil <;> rfl)|fail);(case hd=>rfl))|(apply v_condF;(case hc=>rfl))|fail)
    refine d_start [(xb,.cells (recL x.kind x.round x.node x.index x.cmd (.slice A3 x.image.length c3)).toArray 42 (0,0)),(lb,.cells (Value.pointer (some ⟨d,0,none⟩) :: Value.int .i64 no :: Value.int .i64 f :: hdL (hardOf xs).pr (hardOf xs).pn (hardOf xs).base (.slice A0 (hardOf xs).image.length c0) (.slice A1 (hardOf xs).acc.length c1) (.slice A2 (hardOf xs).cho.length c2)).toArray 118 (0,0))] (by kernel_rfl) (by kernel_rfl) (by kernel_rfl) (by intro e he;(simp only [List.mem_cons,List.not_mem_nil,or_false] at he;rcases he with rfl|rfl <;> simp;done)) ?_
    all_goals (apply dtk 0;(case hi=>rfl);(case hop=>(apply prd;apply p_move <;> rfl));(case hq=>kernel_rfl))
    all_goals (apply dtk 1;(case hi=>rfl);(case hop=>(apply prd;apply p_nilCheck <;> rfl));(case hq=>kernel_rfl))
    all_goals (apply dtk 2;(case hi=>rfl);(case hop=>(apply prd;apply p_fieldAddrB <;> rfl));(case hq=>kernel_rfl))
    all_goals (apply dtk 3;(case hi=>rfl);(case hop=>first|(apply r_loadNo;(case hx=>rfl);(case h=>(repeat (fail)));(case hd=>(repeat (fail)));(case hn=>rfl))|(apply r_load1;rfl;(apply Cell.own;(case h=>(repeat (first|exact mhd _|apply mtl)));rfl))|(apply r_loadN;rfl;(apply CellsAt.own;(case h=>(repeat (fail))));rfl));(case hq=>kernel_rfl))
    all_goals (apply dtk 4;(case hi=>rfl);(case hop=>first|(apply r_loadNo;(case hx=>rfl);(case h=>(repeat (exact mhd _)));(case hd=>(repeat (first|with_reducible exact dt_nil|apply dt_here)));(case hn=>rfl))|(apply r_load1;rfl;(apply Cell.own;(case h=>(repeat (fail)));rfl))|(apply r_loadN;rfl;(apply CellsAt.own;(case h=>(repeat (fail))));rfl));(case hq=>kernel_rfl))
    all_goals ((apply d_call 5 (hs:=qs) (μ1:=[]);(case hi=>rfl);(case hr=>kernel_rfl);  (case ha=>rfl);(case hp=>exact List.Perm.refl _);(case hd=>rfl);(case hν'=>intro e he;simp at he;rcases he with rfl|rfl <;> simp);rintro _ G1 _ hle1 ⟨rfl,bv,rfl,hB⟩))
    all_goals (apply dtk 6;(case hi=>rfl);(case hop=>(apply prd;apply p_move <;> rfl));(case hq=>kernel_rfl))
    all_goals (apply dtk 7;(case hi=>rfl);(case hop=>(apply prd;apply p_extract0 <;> rfl));(case hq=>kernel_rfl))
    all_goals (apply dtk 8;(case hi=>rfl);(case hop=>(apply prd;apply p_extract1 <;> rfl));(case hq=>kernel_rfl))
    all_goals (apply dtk 9;(case hi=>rfl);(case hop=>(apply prd;apply p_assign <;> rfl));(case hq=>kernel_rfl))
    all_goals (apply dtk 10;(case hi=>rfl);(case hop=>(apply prd;apply p_assign <;> rfl));(case hq=>kernel_rfl))
    all_goals (apply d_done;(case hr=>kernel_rfl))
    generalize errF f x = e0 at *
    repeat' (first|apply v_seq|apply v_region|apply v_nil|(apply v_pure;(case hop=>first|(apply p_move <;> rfl)|(apply p_ne <;> rfl)|(apply p_assign <;> rfl)|fail);(case hd=>rfl))|(apply v_cond;(case hc=>rfl);all_goals (intro h;(try simp only [reduceCtorEq,zzz] at h);first|(exfalso;omega)|skip))|fail)
    refine v_ret ((lb,.cells (Value.pointer (some ⟨d,0,none⟩) :: Value.int .i64 no :: Value.int .i64 f :: hdL (hardOf xs).pr (hardOf xs).pn (hardOf xs).base (.slice A0 (hardOf xs).image.length c0) (.slice A1 (hardOf xs).acc.length c1) (.slice A2 (hardOf xs).cho.length c2)).toArray 118 (0,0)) :: dkB d m ov oM ν) (outsA1 rfl rfl) (List.sublist_cons_self _ _) ?_
    exact ⟨hle1,rfl,g,l,no,n,xs,_,ov,ml,oM,ν,hW,rfl,hL.le hle1,h1,h2.up hle1,h3.le fun _ _ hx=>hx.le hle1,rfl⟩
theorem wfiles_s {c d m:Nat} {G:GH} {g:Fs} {l:List Dop} {ov:Value} {ml:List (Int × Value)} {oM:Obj} {ν:OH} (h:DkM c G g l ov ml oM ν) (hc:c ≤ 50) :
    Con Tryz.prog 30 #[.pointer (some ⟨d,0,none⟩)] G [(d,dkO m ov),(m,oM)] (fun r G' μ'=>GH.le G G' ∧ ∃ R,Rep R g ∧ Fls G' r R ∧ μ' = [(d,dkO m ov),(m,oM)]):=by
  have hb:=h.sok 0 (by omega)
  have hm:=h.mlen
  refine (files_s (d:=d) (m:=m) (N:=900000) h.map h.mf hb.bd (by omega) (by omega)).mono ?_
  rintro r G' μ' ⟨hle,R,hR,hs,-,rfl⟩
  exact ⟨hle,R,hR,hs,rfl⟩
theorem opens11:opensW 1 1 = 0:=by decide
theorem top_one {s:Fs} {no:Int} {b:List Int} (t:TopIs s no b) (h:SOK 1 s) {R:List Fl} (hR:Rep R s):R = [(1,b)]:=by
  obtain ⟨R0,rfl,h0⟩:=rep_top hR t
  have hno:=h.1 no b t.1
  have e:no = 1:=by omega
  subst e
  have hz:cutS s 1 = fun _=>none:=by
    funext k
    unfold cutS
    split
    · rfl
    · rename_i hk
      cases hs:s k with
      | none=>rfl
      | some b'=>have:=h.1 k b' hs;omega
  rw [hz] at h0
  rw [rep_ext h0 rep_zero]
  rfl
set_option maxHeartbeats 2000000 in
theorem awake21_s {G:GH} (hT:TabsG G) (hC:CrcG G):Con Tryz.prog 24 #[] G [] (Just (.bool true) G):=by
  apply Con.just
  (refine v_enter Tryz.func24 rfl Tryz.ntmps24 rfl ?_;intro B _)
  repeat' (first|apply v_seq|apply v_region|apply v_nil|(apply v_pure;(case hop=>(apply p_assign <;> rfl));(case hd=>rfl))|fail)
  refine v_call (μ1:=[]) rfl dnew_s (List.Perm.refl _) rfl ?_
  rintro _ G1 _ - ⟨hG1,d,m,rfl,rfl⟩
  subst hG1
  have qo:=wopen_s (d:=d) (m:=m) hT hC wb_zero (by omega) (by omega) (ov:=.slice none 0 0) (ml:=[]) (oM:=.map #[] 0) (ν:=[]) MapB.nil (G:=G1) (fun k=>by rw [mget_no (by simp)]) GrL.nil 1
  simp only [opens11] at qo
  repeat' (first|apply v_seq|apply v_region|apply v_nil|(apply v_pure;(case hop=>first|(apply p_move <;> rfl)|(apply p_assign <;> rfl)|fail);(case hd=>rfl))|fail)
  refine v_perm (ν:=dkB d m (.slice none 0 0) (.map #[] 0) []) (by rw [dkB_eq];exact List.Perm.refl _) ?_
  refine v_call (μ1:=dkB d m (.slice none 0 0) (.map #[] 0) []) (μ2:=[]) rfl qo (by apply perm_of_count;intro p;simp only [List.append_eq,List.countP_append,List.countP_cons,List.countP_nil,Nat.zero_add,Nat.add_zero];try ac_rfl) rfl ?_
  rintro _ G2 μ2 hle2 (⟨-,-,lb,L,l',rfl,hL,hl',⟨no',htop⟩,hX⟩|⟨h9,-⟩)
  · have qs:=wsync_s hX (by omega) (by omega)
    replace hL:HdV G2 Hd.zero L:=hL
    obtain ⟨iv,av,cv,rfl,hi,ha,hcv⟩:=hL
    obtain ⟨A0,c0,rfl,-⟩:=id hi.openInt
    obtain ⟨A1,c1,rfl,-⟩:=id ha.open
    obtain ⟨A2,c2,rfl,-⟩:=id hcv.open
    repeat' (first|apply v_seq|apply v_region|apply v_nil|(apply v_pure;(case hop=>first|(apply p_move <;> rfl)|(apply p_assign <;> rfl)|(apply p_extract0 <;> rfl)|(apply p_extract1 <;> rfl)|(apply p_extract2 <;> rfl)|fail);(case hd=>rfl))|(apply v_alloc;(case hz=>rfl);(case hd=>rfl);intro b)|(apply v_store;(case hp=>rfl);(case hx=>rfl);(case hc=>rfl);(case hsz=>rfl);(case h1=>rfl);(case hb=>(repeat (exact mhd _)));(case hfit=>exact nle rfl);(case hov=>((repeat (first|with_reducible exact ov_nil|apply ov_cons));done));(case hu=>repeat (exact Upd.here _ _)))|fail)
    revert b
    intro hb
    refine v_call (μ1:=μ2) (μ2:=[(hb,.cells (hdL Hd.zero.pr Hd.zero.pn Hd.zero.base (.slice A0 Hd.zero.image.length c0) (.slice A1 Hd.zero.acc.length c1) (.slice A2 Hd.zero.cho.length c2)).toArray 27 (0,0))]) rfl qs (by apply perm_of_count;intro p;simp only [List.append_eq,List.countP_append,List.countP_cons,List.countP_nil,Nat.zero_add,Nat.add_zero];try ac_rfl) rfl ?_
    rintro _ G3 _ hle3 ⟨-,no,n,xs,L3,ov,ml,oM,ν,hW,hxz,hL3,h1,h2,h3,rfl⟩
    have hdk:=hW.dk h1 h2 h3
    have qf:=wfiles_s (d:=d) (m:=m) hdk (by omega)
    rw [dkB_eq]
    repeat' (first|apply v_seq|apply v_region|apply v_nil|(apply v_pure;(case hop=>(apply p_move <;> rfl));(case hd=>rfl))|fail)
    refine v_call (μ1:=[(d,dkO m ov),(m,oM)]) (μ2:=(lb,lgO d no 1 L3) :: ν ++ [(hb,.cells (hdL Hd.zero.pr Hd.zero.pn Hd.zero.base (.slice A0 Hd.zero.image.length c0) (.slice A1 Hd.zero.acc.length c1) (.slice A2 Hd.zero.cho.length c2)).toArray 27 (0,0))]) rfl qf (by apply perm_of_count;intro p;simp only [List.append_eq,List.countP_append,List.countP_cons,List.countP_nil,Nat.zero_add,Nat.add_zero];try ac_rfl) rfl ?_
    rintro _ G4 _ hle4 ⟨-,R,hR,hs,rfl⟩
    have hone:=top_one htop (hdk.sok 0 (by omega)) hR
    subst hone
    have h7:(fileB encF (1,Hd.zero).1 (recsOf (1,Hd.zero).2).length (recsOf (1,Hd.zero).2)).length = 7:=by
      simp only [recs_zero]
      exact file_zero
    generalize fileB encF (1,Hd.zero).1 (recsOf (1,Hd.zero).2).length (recsOf (1,Hd.zero).2) = Bz at *
    obtain ⟨A,cA,dA,dc,rfl,hlc,hcm,hsome,hcl,-⟩:=flOpen hs
    simp only [maxLen] at hcm
    have hA:=hsome (by simp)
    have k0:=(hcl 0 (by simp)).cell (j:=0) rfl
    have k1:=(hcl 0 (by simp)).cell (j:=1) rfl
    simp only [List.getElem_cons_zero,h7] at k0 k1
    rw [show ([((1:Int),Bz)]:List Fl).length = 1 from rfl] at hlc ⊢
    refine v_perm (ν:=(hb,.cells (hdL Hd.zero.pr Hd.zero.pn Hd.zero.base (.slice A0 Hd.zero.image.length c0) (.slice A1 Hd.zero.acc.length c1) (.slice A2 Hd.zero.cho.length c2)).toArray 27 (0,0)) :: (lb,lgO d no 1 L3) :: dkB d m ov oM ν) (by rw [dkB_eq];exact (by apply perm_of_count;intro p;simp only [List.append_eq,List.countP_append,List.countP_cons,List.countP_nil,Nat.zero_add,Nat.add_zero];try ac_rfl)) ?_
    have hdk4:=hdk.le hle4
    have qd:=wdirty_s (lb:=lb) (d:=d) (m:=m) (no:=no) (f:=1) (L:=L3) hdk4 (by omega)
    repeat' (first|apply v_seq|apply v_region|apply v_nil|(apply v_take;(case hg=>rfl))|(apply v_pure;(case hop=>first|(apply p_move <;> rfl)|(apply p_eqs <;> rfl)|(apply p_assign <;> rfl)|(apply p_pickT <;> rfl)|(apply p_lenSlice <;> rfl)|(apply p_fieldAddr <;> rfl)|(apply p_indexAddrS;(case hx=>rfl);(case hi=>rfl);(case h0=>omega);(case h=>omega);(case hA=>assumption))|fail);(case hd=>rfl))|(apply v_read;(case hop=>(apply r_load1;rfl;exact Cell.frozen k0));(case hd=>rfl))|(apply v_read;(case hop=>(apply r_load1;rfl;exact Cell.frozen k1));(case hd=>rfl))|fail)
    refine v_call (μ1:=[(lb,lgO d no 1 L3)]) (μ2:=(hb,.cells (hdL Hd.zero.pr Hd.zero.pn Hd.zero.base (.slice A0 Hd.zero.image.length c0) (.slice A1 Hd.zero.acc.length c1) (.slice A2 Hd.zero.cho.length c2)).toArray 27 (0,0)) :: dkB d m ov oM ν) rfl (wformat_s _) (by apply perm_of_count;intro p;simp only [List.append_eq,List.countP_append,List.countP_cons,List.countP_nil,Nat.zero_add,Nat.add_zero];try ac_rfl) rfl ?_
    rintro _ G5 _ - ⟨rfl,hG5,rfl⟩
    subst hG5
    repeat' (first|(apply v_take;(case hg=>rfl))|(apply v_pure;(case hop=>first|(apply p_move <;> rfl)|(apply p_eqs <;> rfl)|(apply p_pickT <;> rfl)|fail);(case hd=>rfl))|fail)
    refine v_call (μ1:=(lb,lgO d no 1 L3) :: dkB d m ov oM ν) (μ2:=[(hb,.cells (hdL Hd.zero.pr Hd.zero.pn Hd.zero.base (.slice A0 Hd.zero.image.length c0) (.slice A1 Hd.zero.acc.length c1) (.slice A2 Hd.zero.cho.length c2)).toArray 27 (0,0))]) rfl qd (by apply perm_of_count;intro p;simp only [List.append_eq,List.countP_append,List.countP_cons,List.countP_nil,Nat.zero_add,Nat.add_zero];try ac_rfl) rfl ?_
    rintro _ G6 _ - ⟨hle6,rfl,rfl⟩
    repeat' (first|apply v_nil|(apply v_take;(case hg=>rfl))|(apply v_pure;(case hop=>first|(apply p_assign <;> rfl)|(apply p_pickT <;> rfl)|(apply p_not <;> rfl)|fail);(case hd=>rfl))|fail)
    refine v_ret [] (outsA1 rfl rfl) (List.nil_sublist _) ?_
    exact ⟨rfl,rfl⟩
  · exact absurd rfl h9
abbrev IsBool (v:Value):Prop := ∃ b,v = .bool b
set_option maxRecDepth 100000 in
theorem arg_t4 {H:Type} {enc:TypeId × Value → H} {W:World} {base:Nat} {v:Value} {d:DataW H} {p:List MemPlace} (hv:Value.okWide Tryz.prog W .any base 4 v) (h:DataW.Trod enc Tryz.prog W 0 (fun _=>true) true 4 v d p):IsBool v:=by
  obtain ⟨b,rfl⟩:=okWide_bool Tryz.underlying4 hv
  exact ⟨b,rfl⟩
theorem sameB_s {G:GH} {a b:List Int} {av bv:Value} (ha:Sl G 1 (IntR .u8) av a) (hb:Sl G 1 (IntR .u8) bv b):Con Tryz.prog 16 #[av,bv] G [] (Just (.bool (decide (a = b))) G):=by
  obtain ⟨A,c,rfl,hlc,hcm,hsome,hel,_⟩:=ha.openInt
  obtain ⟨A',c',rfl,hlc',hcm',hsome',hel',_⟩:=hb.openInt
  simp only [maxLen] at hcm hcm'
  (refine v_enter Tryz.func16 rfl Tryz.ntmps16 rfl ?_;intro B _)
  repeat' (first|apply v_seq|apply v_region|apply v_nil|apply v_skip|apply v_block|(apply v_pure;(case hop=>first|(apply p_move <;> rfl)|(apply p_ne <;> rfl)|(apply p_assign <;> rfl)|(apply p_lenSlice <;> rfl)|fail);(case hd=>rfl))|(apply v_cond;(case hc=>rfl);all_goals (intro h;(try simp only [reduceCtorEq,zzz] at h)))|fail)
  · refine v_ret [] (outsA1 rfl rfl) (by repeat (exact List.Sublist.refl _)) ?_
    refine ⟨?_,rfl,rfl⟩
    rw [decide_eq_false]
    intro e
    subst e
    omega
  have hab:a.length = b.length:=by omega
  refine v_loop [5,0,1] (fun us G' μ'=>G' = G ∧ μ' = [] ∧ ∃ k,k ≤ a.length ∧ us = [Value.int .i64 (k:Nat),.slice A a.length c,.slice A' b.length c'] ∧ ∀ i (h:i < a.length) (h':i < b.length),i < k → a[i] = b[i]) (fun us=>a.length - (headI us).toNat) rfl ⟨rfl,rfl,0,by omega,rfl,by omega⟩ ?_
  rintro us G' μ' ⟨rfl,rfl,k,hk,rfl,hno⟩
  repeat' (first|apply v_seq|apply v_region|apply v_nil|apply v_skip|apply v_block|(apply v_exit;(case hp=>rfl))|(apply v_pure;(case hop=>first|(apply p_move <;> rfl)|(apply p_lt <;> rfl)|(apply p_assign <;> rfl)|(apply p_lenSlice <;> rfl)|fail);(case hd=>rfl))|(apply v_cond;(case hc=>rfl);all_goals (intro h;(try simp only [reduceCtorEq,zzz] at h)))|fail)
  · refine d_start [] (by kernel_rfl) (by kernel_rfl) (by kernel_rfl) (by intro e he;exact he) ?_
    all_goals (apply dtk 0;(case hi=>rfl);(case hop=>(apply prd;apply p_move <;> rfl));(case hq=>kernel_rfl))
    all_goals (apply dtk 1;(case hi=>rfl);(case hop=>(apply prd;apply p_move <;> rfl));(case hq=>kernel_rfl))
    all_goals (apply dtk 2;(case hi=>rfl);(case hop=>(apply prd;apply p_indexAddrS;(case hx=>rfl);(case hi=>rfl);(case h0=>omega);(case h=>omega);(case hA=>(apply_assumption;omega))));(case hq=>kernel_rfl))
    all_goals (apply dtk 3;(case hi=>rfl);(case hop=>((apply r_load1;rfl;exact Cell.frozen (hel _ (by omega)))));(case hq=>kernel_rfl))
    all_goals (apply dtk 4;(case hi=>rfl);(case hop=>(apply prd;apply p_move <;> rfl));(case hq=>kernel_rfl))
    all_goals (apply dtk 5;(case hi=>rfl);(case hop=>(apply prd;apply p_move <;> rfl));(case hq=>kernel_rfl))
    all_goals (apply dtk 6;(case hi=>rfl);(case hop=>(apply prd;apply p_indexAddrS;(case hx=>rfl);(case hi=>rfl);(case h0=>omega);(case h=>omega);(case hA=>(apply_assumption;omega))));(case hq=>kernel_rfl))
    all_goals (apply dtk 7;(case hi=>rfl);(case hop=>((apply r_load1;rfl;exact Cell.frozen (hel' _ (by omega)))));(case hq=>kernel_rfl))
    all_goals (apply dtk 8;(case hi=>rfl);(case hop=>(apply prd;apply p_ne <;> rfl));(case hq=>kernel_rfl))
    all_goals (apply d_done;(case hr=>kernel_rfl))
    repeat' (first|apply v_seq|apply v_region|apply v_nil|apply v_skip|apply v_blk|(apply v_pure;(case hop=>first|(apply p_move <;> rfl)|(apply p_assign <;> rfl)|(apply p_add;(case hx=>rfl);(case hy=>rfl);(case h=>omega))|fail);(case hd=>rfl))|(apply v_cond;(case hc=>rfl);all_goals (intro h;(try simp only [reduceCtorEq,zzz] at h)))|fail)
    · refine v_ret [] (outsA1 rfl rfl) (by repeat (exact List.Sublist.refl _)) ?_
      refine ⟨?_,rfl,rfl⟩
      rw [decide_eq_false]
      intro e
      subst e
      contradiction
    · refine v_again rfl ⟨rfl,rfl,k + 1,by omega,rfl,fun i h h' hi=>?_⟩ (by simp [headI];omega)
      by_cases hik:i = k
      · subst hik;assumption
      · exact hno i h h' (by omega)
  · refine v_ret [] (outsA1 rfl rfl) (by repeat (exact List.Sublist.refl _)) ?_
    refine ⟨?_,rfl,rfl⟩
    rw [decide_eq_true]
    exact List.ext_getElem hab fun i h h'=>hno i h h' (by omega)
theorem dsame_s {G:GH} {R R':List Fl} {rv rv':Value} (hs:Fls G rv R) (hs':Fls G rv' R') (he:R = R'):Con Tryz.prog 32 #[rv,rv'] G [] (Just (.bool true) G):=by
  subst he
  obtain ⟨A,c,dA,dc,rfl,hlc,hcm,hsome,hcl,hbs⟩:=flOpen hs
  obtain ⟨A',c',dA',dc',rfl,hlc',hcm',hsome',hcl',hbs'⟩:=flOpen hs'
  simp only [maxLen] at hcm hcm'
  (refine v_enter Tryz.func32 rfl Tryz.ntmps32 rfl ?_;intro B _)
  repeat' (first|apply v_seq|apply v_region|apply v_nil|apply v_skip|apply v_block|(apply v_pure;(case hop=>first|(apply p_move <;> rfl)|(apply p_nes <;> rfl)|(apply p_assign <;> rfl)|(apply p_lenSlice <;> rfl)|fail);(case hd=>rfl))|(apply v_condF;(case hc=>rfl))|fail)
  refine v_loop [5,0,1] (fun us G' μ'=>G' = G ∧ μ' = [] ∧ ∃ k:Nat,k ≤ R.length ∧ us = [Value.int .i64 (k:Nat),.slice A R.length c,.slice A' R.length c']) (fun us=>R.length - (headI us).toNat) rfl ⟨rfl,rfl,0,by omega,rfl⟩ ?_
  rintro us G' μ' ⟨rfl,rfl,k,hk,rfl⟩
  by_cases hlt:k < R.length
  · have e1:((k:Nat):Int).toNat = k:=by omega
    have hA:=hsome (by omega)
    have hA':=hsome' (by omega)
    have h0:=(hcl k hlt).cell (j:=0) rfl
    have h1:=(hcl k hlt).cell (j:=1) rfl
    have h0':=(hcl' k hlt).cell (j:=0) rfl
    have h1':=(hcl' k hlt).cell (j:=1) rfl
    have q:=sameB_s (hbs k hlt) (hbs' k hlt)
    rw [decide_eq_true rfl] at q
    generalize R[k] = f at *
    obtain ⟨fno,fd⟩:=f
    simp only at *
    repeat' (first|apply v_seq|apply v_region|apply v_nil|apply v_skip|apply v_block|(apply v_pure;(case hop=>first|(apply p_move <;> rfl)|(apply p_lt <;> rfl)|(apply p_lenSlice <;> rfl)|fail);(case hd=>rfl))|(apply v_cond;(case hc=>rfl);all_goals (intro h;(try simp only [reduceCtorEq,zzz] at h);first|(exfalso;omega)|skip))|fail)
    refine d_start [] (by kernel_rfl) (by kernel_rfl) (by kernel_rfl) (by intro e he;exact he) ?_
    all_goals (apply dtk 0;(case hi=>rfl);(case hop=>(apply prd;apply p_move <;> rfl));(case hq=>kernel_rfl))
    all_goals (apply dtk 1;(case hi=>rfl);(case hop=>(apply prd;apply p_move <;> rfl));(case hq=>kernel_rfl))
    all_goals (apply dtk 2;(case hi=>rfl);(case hop=>(apply prd;apply p_indexAddrS;(case hx=>rfl);(case hi=>rfl);(case h0=>omega);(case h=>omega);(case hA=>assumption)));(case hq=>kernel_rfl))
    all_goals (apply dtk 3;(case hi=>rfl);(case hop=>(apply prd;apply p_fieldAddr <;> rfl));(case hq=>kernel_rfl))
    all_goals (apply dtk 4;(case hi=>rfl);(case hop=>((apply r_load1;rfl;exact Cell.frozen h0)));(case hq=>kernel_rfl))
    all_goals (apply dtk 5;(case hi=>rfl);(case hop=>(apply prd;apply p_move <;> rfl));(case hq=>kernel_rfl))
    all_goals (apply dtk 6;(case hi=>rfl);(case hop=>(apply prd;apply p_move <;> rfl));(case hq=>kernel_rfl))
    all_goals (apply dtk 7;(case hi=>rfl);(case hop=>(apply prd;apply p_indexAddrS;(case hx=>rfl);(case hi=>rfl);(case h0=>omega);(case h=>omega);(case hA=>assumption)));(case hq=>kernel_rfl))
    all_goals (apply dtk 8;(case hi=>rfl);(case hop=>(apply prd;apply p_fieldAddr <;> rfl));(case hq=>kernel_rfl))
    all_goals (apply dtk 9;(case hi=>rfl);(case hop=>((apply r_load1;rfl;exact Cell.frozen h0')));(case hq=>kernel_rfl))
    all_goals (apply dtk 10;(case hi=>rfl);(case hop=>(apply prd;apply p_nes <;> rfl));(case hq=>kernel_rfl))
    all_goals (apply dtk 11;(case hi=>rfl);(case hop=>(apply prd;apply p_move <;> rfl));(case hq=>kernel_rfl))
    all_goals (try (apply d_guardB 12;(case hi=>rfl);(case hgd=>rfl);(case h1=>rfl);(case h2=>rfl);all_goals (intro h;(try simp only [reduceCtorEq,zzz] at h))))
    all_goals (apply dtg 12;(case hi=>rfl);(case hg=>rfl);(case hop=>(apply prd;apply p_move <;> rfl));(case hq=>kernel_rfl))
    all_goals (try (apply d_guardB 13;(case hi=>rfl);(case hgd=>rfl);(case h1=>rfl);(case h2=>rfl);all_goals (intro h;(try simp only [reduceCtorEq,zzz] at h))))
    all_goals (apply dtg 13;(case hi=>rfl);(case hg=>rfl);(case hop=>(apply prd;apply p_move <;> rfl));(case hq=>kernel_rfl))
    all_goals (try (apply d_guardB 14;(case hi=>rfl);(case hgd=>rfl);(case h1=>rfl);(case h2=>rfl);all_goals (intro h;(try simp only [reduceCtorEq,zzz] at h))))
    all_goals (apply dtg 14;(case hi=>rfl);(case hg=>rfl);(case hop=>(apply prd;apply p_indexAddrS;(case hx=>rfl);(case hi=>rfl);(case h0=>omega);(case h=>omega);(case hA=>assumption)));(case hq=>kernel_rfl))
    all_goals (try (apply d_guardB 15;(case hi=>rfl);(case hgd=>rfl);(case h1=>rfl);(case h2=>rfl);all_goals (intro h;(try simp only [reduceCtorEq,zzz] at h))))
    all_goals (apply dtg 15;(case hi=>rfl);(case hg=>rfl);(case hop=>(apply prd;apply p_fieldAddr <;> rfl));(case hq=>kernel_rfl))
    all_goals (try (apply d_guardB 16;(case hi=>rfl);(case hgd=>rfl);(case h1=>rfl);(case h2=>rfl);all_goals (intro h;(try simp only [reduceCtorEq,zzz] at h))))
    all_goals (apply dtg 16;(case hi=>rfl);(case hg=>rfl);(case hop=>((apply r_load1;rfl;exact Cell.frozen h1)));(case hq=>kernel_rfl))
    all_goals (try (apply d_guardB 17;(case hi=>rfl);(case hgd=>rfl);(case h1=>rfl);(case h2=>rfl);all_goals (intro h;(try simp only [reduceCtorEq,zzz] at h))))
    all_goals (apply dtg 17;(case hi=>rfl);(case hg=>rfl);(case hop=>(apply prd;apply p_move <;> rfl));(case hq=>kernel_rfl))
    all_goals (try (apply d_guardB 18;(case hi=>rfl);(case hgd=>rfl);(case h1=>rfl);(case h2=>rfl);all_goals (intro h;(try simp only [reduceCtorEq,zzz] at h))))
    all_goals (apply dtg 18;(case hi=>rfl);(case hg=>rfl);(case hop=>(apply prd;apply p_move <;> rfl));(case hq=>kernel_rfl))
    all_goals (try (apply d_guardB 19;(case hi=>rfl);(case hgd=>rfl);(case h1=>rfl);(case h2=>rfl);all_goals (intro h;(try simp only [reduceCtorEq,zzz] at h))))
    all_goals (apply dtg 19;(case hi=>rfl);(case hg=>rfl);(case hop=>(apply prd;apply p_indexAddrS;(case hx=>rfl);(case hi=>rfl);(case h0=>omega);(case h=>omega);(case hA=>assumption)));(case hq=>kernel_rfl))
    all_goals (try (apply d_guardB 20;(case hi=>rfl);(case hgd=>rfl);(case h1=>rfl);(case h2=>rfl);all_goals (intro h;(try simp only [reduceCtorEq,zzz] at h))))
    all_goals (apply dtg 20;(case hi=>rfl);(case hg=>rfl);(case hop=>(apply prd;apply p_fieldAddr <;> rfl));(case hq=>kernel_rfl))
    all_goals (try (apply d_guardB 21;(case hi=>rfl);(case hgd=>rfl);(case h1=>rfl);(case h2=>rfl);all_goals (intro h;(try simp only [reduceCtorEq,zzz] at h))))
    all_goals (apply dtg 21;(case hi=>rfl);(case hg=>rfl);(case hop=>((apply r_load1;rfl;exact Cell.frozen h1')));(case hq=>kernel_rfl))
    all_goals (try (apply d_guardB 22;(case hi=>rfl);(case hgd=>rfl);(case h1=>rfl);(case h2=>rfl);all_goals (intro h;(try simp only [reduceCtorEq,zzz] at h))))
    all_goals (apply d_callJG 22 (hs:=q);(case hi=>rfl);(case hg=>rfl);(case hr=>kernel_rfl);(case ha=>rfl);(case hd=>rfl))
    all_goals (try (apply d_guardB 23;(case hi=>rfl);(case hgd=>rfl);(case h1=>rfl);(case h2=>rfl);all_goals (intro h;(try simp only [reduceCtorEq,zzz] at h))))
    all_goals (apply dtg 23;(case hi=>rfl);(case hg=>rfl);(case hop=>(apply prd;apply p_not <;> rfl));(case hq=>kernel_rfl))
    all_goals (apply dtk 24;(case hi=>rfl);(case hop=>(apply prd;apply p_pickF <;> rfl));(case hq=>kernel_rfl))
    all_goals (apply d_done;(case hr=>kernel_rfl))
    repeat' (first|apply v_region|apply v_nil|apply v_skip|apply v_blk|(apply v_pure;(case hop=>first|(apply p_move <;> rfl)|(apply p_assign <;> rfl)|(apply p_add;(case hx=>rfl);(case hy=>rfl);(case h=>omega))|fail);(case hd=>rfl))|(apply v_condF;(case hc=>rfl))|fail)
    exact v_again rfl ⟨rfl,rfl,k + 1,by omega,rfl⟩ (by simp [headI];omega)
  · repeat' (first|apply v_seq|apply v_region|apply v_nil|(apply v_exit;(case hp=>rfl))|(apply v_pure;(case hop=>first|(apply p_move <;> rfl)|(apply p_lt <;> rfl)|(apply p_assign <;> rfl)|(apply p_lenSlice <;> rfl)|fail);(case hd=>rfl))|(apply v_cond;(case hc=>rfl);all_goals (intro h;(try simp only [reduceCtorEq,zzz] at h);first|(exfalso;omega)|skip))|fail)
    refine v_ret [] (outsA1 rfl rfl) (by repeat (exact List.Sublist.refl _)) ?_
    exact ⟨rfl,rfl,rfl⟩
theorem opens21:opensW 2 1 = 0:=by decide
set_option maxHeartbeats 2000000 in
theorem walOpens_main {W:World} (hT:TabsG (ghost W)) (hC:CrcG (ghost W)) {recs:List Rc} {rv:Value} (hr:Rs (ghost W) rv recs) (newer:Bool) (v:Int):LawCon Tryz.prog 7 #[rv,.bool newer,.int .i64 v] W:=by
  unfold LawCon
  generalize ghost W = G at *
  have qa:=fun G' (h:GH.le G G')=>awake21_s (hT.le h) (hC.le h)
  have ql:=rLarge_s hr
  obtain ⟨A,c,ivf,rfl,hlc,hcm,hsome,hcp,him,hok⟩:=rsOpen hr
  simp only [maxLen] at hcm
  (refine v_enter Tryz.func7 rfl Tryz.ntmps7 rfl ?_;intro B _)
  repeat' (first|apply v_seq|apply v_region|apply v_nil|(apply v_pure;(case hop=>first|(apply p_move <;> rfl)|(apply p_assign <;> rfl)|fail);(case hd=>rfl))|fail)
  refine v_call (μ1:=[]) rfl ql (List.Perm.refl _) rfl ?_
  rintro _ G1 _ - ⟨hG1,rfl,b,rfl,hbb⟩
  subst hG1
  cases b
  rotate_left
  · repeat' (first|apply v_seq|apply v_region|apply v_nil|(apply v_pure;(case hop=>(apply p_assign <;> rfl));(case hd=>rfl))|(apply v_condT;(case hc=>rfl))|(apply v_callJ (hs:=qa _ (GH.le_refl _));(case ha=>rfl);(case hd=>rfl))|fail)
    all_goals
      (refine v_ret [] (outsA1 rfl rfl) (by repeat (exact List.Sublist.refl _)) ?_
       rfl)
  obtain ⟨h40,hli⟩:=hbb rfl
  clear hbb ql
  repeat' (first|apply v_seq|apply v_region|apply v_nil|apply v_skip|(apply v_condF;(case hc=>rfl))|fail)
  refine v_call (μ1:=[]) rfl dnew_s (List.Perm.refl _) rfl ?_
  rintro _ G2 _ - ⟨hG2,d,m,rfl,rfl⟩
  subst hG2
  have qo:=wopen_s (d:=d) (m:=m) hT hC wb_zero (by omega) (by omega) (ov:=.slice none 0 0) (ml:=[]) (oM:=.map #[] 0) (ν:=[]) MapB.nil (G:=G2) (fun k=>by rw [mget_no (by simp)]) GrL.nil 2
  simp only [opens21] at qo
  repeat' (first|apply v_seq|apply v_region|apply v_nil|(apply v_pure;(case hop=>first|(apply p_move <;> rfl)|(apply p_assign <;> rfl)|fail);(case hd=>rfl))|fail)
  refine v_perm (ν:=dkB d m (.slice none 0 0) (.map #[] 0) []) (by rw [dkB_eq];exact List.Perm.refl _) ?_
  refine v_call (μ1:=dkB d m (.slice none 0 0) (.map #[] 0) []) (μ2:=[]) rfl qo (by apply perm_of_count;intro p;simp only [List.append_eq,List.countP_append,List.countP_cons,List.countP_nil,Nat.zero_add,Nat.add_zero];try ac_rfl) rfl ?_
  rintro _ G3 μ3 hle3 (⟨-,-,lb,L,l',rfl,hL,-,-,hX⟩|⟨h9,-⟩)
  rotate_left
  · exact absurd rfl h9
  replace hX:LogX lb d m 0 0 ([(1,Hd.zero)] ++ [(1,Hd.zero)]) 1 Hd.zero (fun _=>none) l' G3 μ3:=hX
  replace hL:HdV G3 Hd.zero L:=hL
  obtain ⟨iv,av,cv,rfl,hi,ha,hcv⟩:=hL
  obtain ⟨A0,c0,rfl,-⟩:=id hi.openInt
  obtain ⟨A1,c1,rfl,-⟩:=id ha.open
  obtain ⟨A2,c2,rfl,-⟩:=id hcv.open
  clear qo
  repeat' (first|apply v_seq|apply v_region|apply v_nil|(apply v_pure;(case hop=>first|(apply p_move <;> rfl)|(apply p_nes <;> rfl)|(apply p_assign <;> rfl)|(apply p_extract0 <;> rfl)|(apply p_extract1 <;> rfl)|(apply p_extract2 <;> rfl)|fail);(case hd=>rfl))|(apply v_alloc;(case hz=>rfl);(case hd=>rfl);intro b)|(apply v_store;(case hp=>rfl);(case hx=>rfl);(case hc=>rfl);(case hsz=>rfl);(case h1=>rfl);(case hb=>(repeat (exact mhd _)));(case hfit=>exact nle rfl);(case hov=>((repeat (first|with_reducible exact ov_nil|apply ov_cons));done));(case hu=>repeat (exact Upd.here _ _)))|fail)
  revert b
  intro hb
  apply v_condF
  (case hc=>rfl)
  repeat' (first|apply v_seq|apply v_region|apply v_nil|apply v_skip|(apply v_pure;(case hop=>first|(apply p_move <;> rfl)|(apply p_assign <;> rfl)|fail);(case hd=>rfl))|fail)
  refine v_cut (fun σ1 G' μ'=>G' = G3 ∧ μ' = (hb,.cells (hdL Hd.zero.pr Hd.zero.pn Hd.zero.base (.slice A0 Hd.zero.image.length c0) (.slice A1 Hd.zero.acc.length c1) (.slice A2 Hd.zero.cho.length c2)).toArray 27 (0,0)) :: (μ3 ++ []) ∧ ∃ f:Int,(f = 1 ∨ f = 2) ∧ EnvHas σ1 [(11,.int .i64 f),(8,.pointer (some ⟨lb,0,none⟩)),(7,.pointer (some ⟨d,0,none⟩)),(2,.int .i64 v),(0,.slice A recs.length c)]) ?_ ?_
  · intro hcut
    cases newer
    · repeat' (first|(refine hcut _ _ _ ⟨rfl,rfl,_,?_,⟨rfl,rfl,rfl,rfl,rfl,trivial⟩⟩)|apply v_skip|(apply v_condF;(case hc=>rfl))|fail)
      all_goals exact .inl rfl
    · repeat' (first|(refine hcut _ _ _ ⟨rfl,rfl,_,?_,⟨rfl,rfl,rfl,rfl,rfl,trivial⟩⟩)|apply v_region|apply v_nil|(apply v_pure;(case hop=>(apply p_assign <;> rfl));(case hd=>rfl))|(apply v_condT;(case hc=>rfl))|fail)
      all_goals exact .inr rfl
  rintro σ1 _ _ ⟨hG4,rfl,f,hf,hE⟩
  subst hG4
  refine v_has hE ?_
  clear hE
  have qr:=wrenew_s (hT.le hle3) (hC.le hle3) ⟨_,_,hX⟩ (by omega) (by omega) (St.zero hf) (hd_zero _)
  repeat' (first|apply v_seq|apply v_region|(apply v_pure;(case hop=>first|(apply p_move <;> rfl)|(apply p_build;(case hz=>rfl);(case hv=>(simp only [List.map_cons,List.map_nil];repeat (with_reducible exact evs_nil)));(case hb=>(apply bldL;repeat (exact bld_nil))))|fail);(case hd=>rfl))|fail)
  refine v_call (μ1:=μ3) (μ2:=[(hb,.cells (hdL Hd.zero.pr Hd.zero.pn Hd.zero.base (.slice A0 Hd.zero.image.length c0) (.slice A1 Hd.zero.acc.length c1) (.slice A2 Hd.zero.cho.length c2)).toArray 27 (0,0))]) rfl qr (by apply perm_of_count;intro p;simp only [List.append_eq,List.countP_append,List.countP_cons,List.countP_nil,Nat.zero_add,Nat.add_zero];try ac_rfl) rfl ?_
  rintro _ G4 μ4 hle4 ⟨-,rfl,hM⟩
  have hle24:=GH.le_trans hle3 hle4
  repeat' (first|apply v_seq|apply v_region|apply v_nil|apply v_skip|apply v_block|(apply v_pure;(case hop=>first|(apply p_nes <;> rfl)|(apply p_assign <;> rfl)|fail);(case hd=>rfl))|(apply v_condF;(case hc=>rfl))|fail)
  refine v_loop [12,11,8,7,2,0] (fun us G' μ'=>GH.le G4 G' ∧ ∃ (k n a:Nat) (past:List (Int × Hd)) (H:Hd) (μ5:OH),k ≤ recs.length ∧ n ≤ k + 1 ∧ a ≤ k ∧ us = [Value.int .i64 (k:Nat),.int .i64 f,.pointer (some ⟨lb,0,none⟩),.pointer (some ⟨d,0,none⟩),.int .i64 v,.slice A recs.length c] ∧ LogM lb d m n a past f H G' μ5 ∧ μ' = μ5 ++ [(hb,.cells (hdL Hd.zero.pr Hd.zero.pn Hd.zero.base (.slice A0 Hd.zero.image.length c0) (.slice A1 Hd.zero.acc.length c1) (.slice A2 Hd.zero.cho.length c2)).toArray 27 (0,0))]) (fun us=>recs.length - (headI us).toNat) rfl ⟨GH.le_refl _,0,1,0,_,_,μ4,by omega,by omega,by omega,rfl,hM,rfl⟩ ?_
  rintro us G5 _ ⟨hle5,k,n,a,past,H,μ5,hk,hn,ha',rfl,hM5,rfl⟩
  have hle25:=GH.le_trans hle24 hle5
  by_cases hlt:k < recs.length
  · have e1:((k:Nat):Int).toNat = k:=by omega
    have hA:=hsome (by omega)
    have hck:=(hcp k hlt).le hle25
    have hix:=(him k hlt).mono hle25
    have hcok:=hok _ (List.getElem_mem hlt)
    have hli':=hli _ (List.getElem_mem hlt)
    generalize recs[k] = x at *
    have hx:RcV G5 x (.agg (recL x.kind x.round x.node x.index x.cmd (ivf k)).toArray):=⟨_,rfl,hix⟩
    have qadd:=wadd_s (hT.le hle25) (hC.le hle25) hM5 (by omega) (by omega) hx hcok.1 hcok.2 hli'.1 hli'.2
    repeat' (first|apply v_seq|apply v_region|apply v_nil|apply v_skip|apply v_block|(apply v_pure;(case hop=>first|(apply p_move <;> rfl)|(apply p_lt <;> rfl)|(apply p_lenSlice <;> rfl)|(apply p_indexAddrS;(case hx=>rfl);(case hi=>rfl);(case h0=>omega);(case h=>omega);(case hA=>assumption))|fail);(case hd=>rfl))|(apply v_cond;(case hc=>rfl);all_goals (intro h;(try simp only [reduceCtorEq,zzz] at h);first|(exfalso;omega)|skip))|(apply v_read;(case hop=>(apply r_loadN;rfl;exact CellsAt.frozen hck;rfl));(case hd=>rfl))|fail)
    refine v_call (μ1:=μ5) (μ2:=[(hb,.cells (hdL Hd.zero.pr Hd.zero.pn Hd.zero.base (.slice A0 Hd.zero.image.length c0) (.slice A1 Hd.zero.acc.length c1) (.slice A2 Hd.zero.cho.length c2)).toArray 27 (0,0))]) rfl qadd (by apply perm_of_count;intro p;simp only [List.append_eq,List.countP_append,List.countP_cons,List.countP_nil,Nat.zero_add,Nat.add_zero];try ac_rfl) rfl ?_
    rintro _ G6 μ6 hle6 ⟨-,rfl,hM6⟩
    repeat' (first|apply v_region|apply v_nil|apply v_blk|(apply v_pure;(case hop=>first|(apply p_move <;> rfl)|(apply p_assign <;> rfl)|(apply p_add;(case hx=>rfl);(case hy=>rfl);(case h=>omega))|fail);(case hd=>rfl))|fail)
    split at hM6
    · exact v_again rfl ⟨GH.le_trans hle5 hle6,k + 1,n + 1,a + 1,_,_,μ6,by omega,by omega,by omega,rfl,hM6,rfl⟩ (by simp [headI];omega)
    · exact v_again rfl ⟨GH.le_trans hle5 hle6,k + 1,n,a,_,_,μ6,by omega,by omega,by omega,rfl,hM6,rfl⟩ (by simp [headI];omega)
  obtain rfl:k = recs.length:=by omega
  obtain ⟨g5,l5,hX5⟩:=hM5
  have qs:=wsync_s hX5 (by omega) (by omega)
  repeat' (first|apply v_seq|apply v_region|apply v_nil|(apply v_exit;(case hp=>rfl))|(apply v_pure;(case hop=>first|(apply p_move <;> rfl)|(apply p_lt <;> rfl)|(apply p_lenSlice <;> rfl)|fail);(case hd=>rfl))|(apply v_cond;(case hc=>rfl);all_goals (intro h;(try simp only [reduceCtorEq,zzz] at h);first|(exfalso;omega)|skip))|fail)
  refine v_call (μ1:=μ5) (μ2:=[(hb,.cells (hdL Hd.zero.pr Hd.zero.pn Hd.zero.base (.slice A0 Hd.zero.image.length c0) (.slice A1 Hd.zero.acc.length c1) (.slice A2 Hd.zero.cho.length c2)).toArray 27 (0,0))]) rfl qs (by apply perm_of_count;intro p;simp only [List.append_eq,List.countP_append,List.countP_cons,List.countP_nil,Nat.zero_add,Nat.add_zero];try ac_rfl) rfl ?_
  rintro _ G6 _ hle6 ⟨-,no6,n6,xs6,L6,ov6,ml6,oM6,ν6,hW,rfl,hL6,h1,h2,h3,rfl⟩
  have hdk:=hW.dk h1 h2 h3
  have qf:=wfiles_s (d:=d) (m:=m) hdk (by omega)
  rw [dkB_eq]
  repeat' (first|apply v_seq|apply v_region|apply v_nil|(apply v_pure;(case hop=>(apply p_move <;> rfl));(case hd=>rfl))|fail)
  refine v_call (μ1:=[(d,dkO m ov6),(m,oM6)]) (μ2:=(lb,lgO d no6 f L6) :: ν6 ++ [(hb,.cells (hdL Hd.zero.pr Hd.zero.pn Hd.zero.base (.slice A0 Hd.zero.image.length c0) (.slice A1 Hd.zero.acc.length c1) (.slice A2 Hd.zero.cho.length c2)).toArray 27 (0,0))]) rfl qf (by apply perm_of_count;intro p;simp only [List.append_eq,List.countP_append,List.countP_cons,List.countP_nil,Nat.zero_add,Nat.add_zero];try ac_rfl) rfl ?_
  rintro vR G7 _ hle7 ⟨-,R,hR,hs,rfl⟩
  refine v_perm (ν:=(lb,lgO d no6 f L6) :: (dkB d m ov6 oM6 ν6 ++ [(hb,.cells (hdL Hd.zero.pr Hd.zero.pn Hd.zero.base (.slice A0 Hd.zero.image.length c0) (.slice A1 Hd.zero.acc.length c1) (.slice A2 Hd.zero.cho.length c2)).toArray 27 (0,0))])) (by rw [dkB_eq];exact (by apply perm_of_count;intro p;simp only [List.append_eq,List.countP_append,List.countP_cons,List.countP_nil,Nat.zero_add,Nat.add_zero];try ac_rfl)) ?_
  have hle27:=GH.le_trans hle25 (GH.le_trans hle6 hle7)
  have hWB:=hW.base (by omega)
  have qo:=wopen_s (d:=d) (m:=m) (hT.le hle27) (hC.le hle27) hWB (by omega) (by omega) (ov:=ov6) (ml:=ml6) (oM:=oM6) (ν:=ν6) h1 (h2.up hle7) (h3.le fun _ _ hx=>hx.le hle7) v
  simp only at qo
  have qro:=refOpens21_s v f
  repeat' (first|apply v_seq|apply v_region|apply v_nil|(apply v_pure;(case hop=>first|(apply p_move <;> rfl)|(apply p_assign <;> rfl)|fail);(case hd=>rfl))|fail)
  refine v_call (μ1:=dkB d m ov6 oM6 ν6) (μ2:=[(lb,lgO d no6 f L6),(hb,.cells (hdL Hd.zero.pr Hd.zero.pn Hd.zero.base (.slice A0 Hd.zero.image.length c0) (.slice A1 Hd.zero.acc.length c1) (.slice A2 Hd.zero.cho.length c2)).toArray 27 (0,0))]) rfl qo (by apply perm_of_count;intro p;simp only [List.append_eq,List.countP_append,List.countP_cons,List.countP_nil,Nat.zero_add,Nat.add_zero];try ac_rfl) rfl ?_
  rintro _ G8 μ8 hle8 (⟨ho,-,lb2,L2,l2,rfl,hL2,hl2,-,hX2⟩|⟨ho,hle8',rfl,rfl⟩)
  · replace hL2:HdV G8 (hardOf xs6) L2:=hL2
    obtain ⟨no2,n2,xs2,L7,ov2,ml2,oM2,ν2,hW2,-,hL7,k1,k2,k3,rfl⟩:=hX2
    have hdk2:=hW2.dk k1 k2 k3
    have hL2':=hL2
    obtain ⟨iv2,av2,cv2,rfl,hi2,ha2,hcv2⟩:=hL2
    obtain ⟨B0,d0,rfl,-⟩:=id hi2.openInt
    obtain ⟨B1,d1,rfl,-⟩:=id ha2.open
    obtain ⟨B2,d2,rfl,-⟩:=id hcv2.open
    have hg6:=hW.st.good
    have qh:=whard_s (lb:=lb) (d:=d) (no:=no6) (f:=f) (hL6.le (GH.le_trans hle7 hle8)) hg6 (by omega)
    have qd:=fun G' (h:GH.le G8 G')=>wdirty_s (lb:=lb2) (d:=d) (m:=m) (no:=no2) (f:=f) (L:=L7) (hdk2.le h) (by omega)
    have hl3:decide (0 < l2.length) = true:=decide_eq_true (List.length_pos_iff.2 hl2)
    rw [hl3] at qd
    have qf2:=fun G' (h:GH.le G8 G')=>wfiles_s (d:=d) (m:=m) (hdk2.le h) (by omega)
    rw [ho] at qro
    generalize hardOf xs6 = H6 at *
    refine v_perm (ν:=(lb,lgO d no6 f L6) :: (lb2,lgO d no2 f L7) :: (d,dkO m ov2) :: (m,oM2) :: (ν2 ++ [(hb,.cells (hdL Hd.zero.pr Hd.zero.pn Hd.zero.base (.slice A0 Hd.zero.image.length c0) (.slice A1 Hd.zero.acc.length c1) (.slice A2 Hd.zero.cho.length c2)).toArray 27 (0,0))])) (by rw [dkB_eq];exact (by apply perm_of_count;intro p;simp only [List.append_eq,List.countP_append,List.countP_cons,List.countP_nil,Nat.zero_add,Nat.add_zero];try ac_rfl)) ?_
    rw [dkB_eq] at qd
    repeat' (first|apply v_seq|apply v_region|apply v_nil|apply v_skip|(apply v_pure;(case hop=>first|(apply p_move <;> rfl)|(apply p_nes <;> rfl)|(apply p_assign <;> rfl)|(apply p_extract0 <;> rfl)|(apply p_extract1 <;> rfl)|(apply p_extract2 <;> rfl)|fail);(case hd=>rfl))|(apply v_condF;(case hc=>rfl))|(apply v_callJ (hs:=qro _);(case ha=>rfl);(case hd=>rfl))|(apply v_alloc;(case hz=>rfl);(case hd=>rfl);intro b)|(apply v_store;(case hp=>rfl);(case hx=>rfl);(case hc=>rfl);(case hsz=>rfl);(case h1=>rfl);(case hb=>(repeat (exact mhd _)));(case hfit=>exact nle rfl);(case hov=>((repeat (first|with_reducible exact ov_nil|apply ov_cons));done));(case hu=>repeat (exact Upd.here _ _)))|fail)
    revert b
    intro hb2
    refine d_start [(hb2,.cells #[.int .i64 H6.pr,.int .i64 H6.pn,.int .i64 H6.base,.slice B0 H6.image.length d0,.slice B1 H6.acc.length d1,.slice B2 H6.cho.length d2] 27 (0,0))] (by kernel_rfl) (by kernel_rfl) (by kernel_rfl) (by intro e he;(simp at he;simp [he];done)) ?_
    all_goals (apply dtk 0;(case hi=>rfl);(case hop=>(apply prd;apply p_move <;> rfl));(case hq=>kernel_rfl))
    all_goals (apply dtk 1;(case hi=>rfl);(case hop=>(apply prd;apply p_eqs <;> rfl));(case hq=>kernel_rfl))
    all_goals (apply dtk 2;(case hi=>rfl);(case hop=>(apply prd;apply p_move <;> rfl));(case hq=>kernel_rfl))
    all_goals (try (apply d_guardB 3;(case hi=>rfl);(case hgd=>rfl);(case h1=>rfl);(case h2=>rfl);all_goals (intro h;(try simp only [reduceCtorEq,zzz] at h))))
    all_goals (apply dtg 3;(case hi=>rfl);(case hg=>rfl);(case hop=>first|(apply r_loadNo;(case hx=>rfl);(case h=>(repeat (exact mhd _)));(case hd=>(repeat (first|with_reducible exact dt_nil|apply dt_here)));(case hn=>rfl))|(apply r_load1;rfl;(apply Cell.own;(case h=>(repeat (fail)));rfl))|(apply r_loadN;rfl;(apply CellsAt.own;(case h=>(repeat (fail))));rfl));(case hq=>kernel_rfl))
    all_goals (try (apply d_guardB 4;(case hi=>rfl);(case hgd=>rfl);(case h1=>rfl);(case h2=>rfl);all_goals (intro h;(try simp only [reduceCtorEq,zzz] at h))))
    all_goals (apply dtg 4;(case hi=>rfl);(case hg=>rfl);(case hop=>(apply prd;apply p_move <;> rfl));(case hq=>kernel_rfl))
    all_goals (try (apply d_guardB 5;(case hi=>rfl);(case hgd=>rfl);(case h1=>rfl);(case h2=>rfl);all_goals (intro h;(try simp only [reduceCtorEq,zzz] at h))))
    all_goals ((apply d_callG 5 (hs:=qh) (μ1:=[(lb,lgO d no6 f L6)]) (μ2:=(hb2,.cells #[.int .i64 H6.pr,.int .i64 H6.pn,.int .i64 H6.base,.slice B0 H6.image.length d0,.slice B1 H6.acc.length d1,.slice B2 H6.cho.length d2] 27 (0,0)) :: (lb2,lgO d no2 f L7) :: (d,dkO m ov2) :: (m,oM2) :: (ν2 ++ [(hb,.cells (hdL Hd.zero.pr Hd.zero.pn Hd.zero.base (.slice A0 Hd.zero.image.length c0) (.slice A1 Hd.zero.acc.length c1) (.slice A2 Hd.zero.cho.length c2)).toArray 27 (0,0))]));(case hi=>rfl);(case hg=>rfl);(case hr=>kernel_rfl);  (case ha=>rfl);(case hp=>exact (by apply perm_of_count;intro p;simp only [List.append_eq,List.countP_append,List.countP_cons,List.countP_nil,Nat.zero_add,Nat.add_zero];try ac_rfl));(case hd=>rfl);(case hν'=>intro e he;rw [List.mem_singleton] at he;rw [he];repeat (exact mhd _));rintro _ G9 _ hle9 ⟨-,rfl,L9,rfl,hL9⟩))
    all_goals (try (apply d_guardB 6;(case hi=>rfl);(case hgd=>rfl);(case h1=>rfl);(case h2=>rfl);all_goals (intro h;(try simp only [reduceCtorEq,zzz] at h))))
    all_goals (apply d_callJG 6 (hs:=(hSame_s (hL2'.le hle9) hL9));(case hi=>rfl);(case hg=>rfl);(case hr=>kernel_rfl);(case ha=>rfl);(case hd=>rfl))
    all_goals (apply dtk 7;(case hi=>rfl);(case hop=>(apply prd;apply p_pickT <;> rfl));(case hq=>kernel_rfl))
    all_goals (apply dtk 8;(case hi=>rfl);(case hop=>(apply prd;apply p_move <;> rfl));(case hq=>kernel_rfl))
    all_goals (try (apply d_guardB 9;(case hi=>rfl);(case hgd=>rfl);(case h1=>rfl);(case h2=>rfl);all_goals (intro h;(try simp only [reduceCtorEq,zzz] at h))))
    all_goals (apply dtg 9;(case hi=>rfl);(case hg=>rfl);(case hop=>(apply prd;apply p_move <;> rfl));(case hq=>kernel_rfl))
    all_goals (try (apply d_guardB 11;(case hi=>rfl);(case hgd=>rfl);(case h1=>rfl);(case h2=>rfl);all_goals (intro h;(try simp only [reduceCtorEq,zzz] at h))))
    all_goals (apply dtg 11;(case hi=>rfl);(case hg=>rfl);(case hop=>(apply prd;apply p_move <;> rfl));(case hq=>kernel_rfl))
    all_goals (try (apply d_guardB 10;(case hi=>rfl);(case hgd=>rfl);(case h1=>rfl);(case h2=>rfl);all_goals (intro h;(try simp only [reduceCtorEq,zzz] at h))))
    all_goals ((apply d_callG 10 (hs:=wformat_s _) (μ1:=[(lb2,lgO d no2 f L7)]) (μ2:=(lb,lgO d no6 f L6) :: (hb2,.cells #[.int .i64 H6.pr,.int .i64 H6.pn,.int .i64 H6.base,.slice B0 H6.image.length d0,.slice B1 H6.acc.length d1,.slice B2 H6.cho.length d2] 27 (0,0)) :: (d,dkO m ov2) :: (m,oM2) :: (ν2 ++ [(hb,.cells (hdL Hd.zero.pr Hd.zero.pn Hd.zero.base (.slice A0 Hd.zero.image.length c0) (.slice A1 Hd.zero.acc.length c1) (.slice A2 Hd.zero.cho.length c2)).toArray 27 (0,0))]));(case hi=>rfl);(case hg=>rfl);(case hr=>kernel_rfl);  (case ha=>rfl);(case hp=>exact (by apply perm_of_count;intro p;simp only [List.append_eq,List.countP_append,List.countP_cons,List.countP_nil,Nat.zero_add,Nat.add_zero];try ac_rfl));(case hd=>rfl);(case hν'=>intro e he;rw [List.mem_singleton] at he;rw [he];repeat (first|exact mhd _|apply mtl));rintro _ G10 _ - ⟨rfl,hG10,rfl⟩;subst hG10))
    all_goals (try (apply d_guardB 12;(case hi=>rfl);(case hgd=>rfl);(case h1=>rfl);(case h2=>rfl);all_goals (intro h;(try simp only [reduceCtorEq,zzz] at h))))
    all_goals (apply dtg 12;(case hi=>rfl);(case hg=>rfl);(case hop=>(apply prd;apply p_eqs <;> rfl));(case hq=>kernel_rfl))
    all_goals (apply dtk 13;(case hi=>rfl);(case hop=>(apply prd;apply p_pickT <;> rfl));(case hq=>kernel_rfl))
    all_goals (apply dtk 14;(case hi=>rfl);(case hop=>(apply prd;apply p_move <;> rfl));(case hq=>kernel_rfl))
    all_goals (try (apply d_guardB 15;(case hi=>rfl);(case hgd=>rfl);(case h1=>rfl);(case h2=>rfl);all_goals (intro h;(try simp only [reduceCtorEq,zzz] at h))))
    all_goals (apply dtg 15;(case hi=>rfl);(case hg=>rfl);(case hop=>(apply prd;apply p_move <;> rfl));(case hq=>kernel_rfl))
    all_goals (try (apply d_guardB 16;(case hi=>rfl);(case hgd=>rfl);(case h1=>rfl);(case h2=>rfl);all_goals (intro h;(try simp only [reduceCtorEq,zzz] at h))))
    all_goals ((apply d_callG 16 (hs:=qd _ hle9) (μ1:=(lb2,lgO d no2 f L7) :: (d,dkO m ov2) :: (m,oM2) :: ν2) (μ2:=[(lb,lgO d no6 f L6),(hb2,.cells #[.int .i64 H6.pr,.int .i64 H6.pn,.int .i64 H6.base,.slice B0 H6.image.length d0,.slice B1 H6.acc.length d1,.slice B2 H6.cho.length d2] 27 (0,0)),(hb,.cells (hdL Hd.zero.pr Hd.zero.pn Hd.zero.base (.slice A0 Hd.zero.image.length c0) (.slice A1 Hd.zero.acc.length c1) (.slice A2 Hd.zero.cho.length c2)).toArray 27 (0,0))]);(case hi=>rfl);(case hg=>rfl);(case hr=>kernel_rfl);  (case ha=>rfl);(case hp=>exact (by apply perm_of_count;intro p;simp only [List.append_eq,List.countP_append,List.countP_cons,List.countP_nil,Nat.zero_add,Nat.add_zero];try ac_rfl));(case hd=>rfl);(case hν'=>intro e he;rw [List.mem_singleton] at he;rw [he];repeat (first|exact mhd _|apply mtl));rintro _ G11 _ hle11 ⟨-,rfl,rfl⟩))
    all_goals (apply dtk 17;(case hi=>rfl);(case hop=>(apply prd;apply p_pickT <;> rfl));(case hq=>kernel_rfl))
    all_goals (apply dtk 18;(case hi=>rfl);(case hop=>(apply prd;apply p_move <;> rfl));(case hq=>kernel_rfl))
    all_goals (try (apply d_guardB 19;(case hi=>rfl);(case hgd=>rfl);(case h1=>rfl);(case h2=>rfl);all_goals (intro h;(try simp only [reduceCtorEq,zzz] at h))))
    all_goals (apply dtg 19;(case hi=>rfl);(case hg=>rfl);(case hop=>(apply prd;apply p_move <;> rfl));(case hq=>kernel_rfl))
    all_goals (try (apply d_guardB 21;(case hi=>rfl);(case hgd=>rfl);(case h1=>rfl);(case h2=>rfl);all_goals (intro h;(try simp only [reduceCtorEq,zzz] at h))))
    all_goals (apply dtg 21;(case hi=>rfl);(case hg=>rfl);(case hop=>(apply prd;apply p_move <;> rfl));(case hq=>kernel_rfl))
    all_goals (try (apply d_guardB 20;(case hi=>rfl);(case hgd=>rfl);(case h1=>rfl);(case h2=>rfl);all_goals (intro h;(try simp only [reduceCtorEq,zzz] at h))))
    all_goals ((apply d_callG 20 (hs:=qf2 _ (GH.le_trans hle9 hle11)) (μ1:=[(d,dkO m ov2),(m,oM2)]) (μ2:=(lb2,lgO d no2 f L7) :: (ν2 ++ [(lb,lgO d no6 f L6),(hb2,.cells #[.int .i64 H6.pr,.int .i64 H6.pn,.int .i64 H6.base,.slice B0 H6.image.length d0,.slice B1 H6.acc.length d1,.slice B2 H6.cho.length d2] 27 (0,0)),(hb,.cells (hdL Hd.zero.pr Hd.zero.pn Hd.zero.base (.slice A0 Hd.zero.image.length c0) (.slice A1 Hd.zero.acc.length c1) (.slice A2 Hd.zero.cho.length c2)).toArray 27 (0,0))]));(case hi=>rfl);(case hg=>rfl);(case hr=>kernel_rfl);  (case ha=>rfl);(case hp=>exact (by apply perm_of_count;intro p;simp only [List.append_eq,List.countP_append,List.countP_cons,List.countP_nil,Nat.zero_add,Nat.add_zero];try ac_rfl));(case hd=>rfl);(case hν'=>intro e he;rw [List.mem_singleton] at he;rw [he];repeat (first|exact mhd _|apply mtl|apply List.mem_append_right));rintro r12 G12 _ hle12 ⟨-,R',hR',hs',rfl⟩))
    all_goals (try (apply d_guardB 22;(case hi=>rfl);(case hgd=>rfl);(case h1=>rfl);(case h2=>rfl);all_goals (intro h;(try simp only [reduceCtorEq,zzz] at h))))
    all_goals (apply d_callJG 22 (hs:=(dsame_s hs' (hs.up (GH.le_trans hle8 (GH.le_trans hle9 (GH.le_trans hle11 hle12)))) (rep_ext hR' hR)));(case hi=>rfl);(case hg=>rfl);(case hr=>kernel_rfl);(case ha=>rfl);(case hd=>rfl))
    all_goals (apply dtk 23;(case hi=>rfl);(case hop=>(apply prd;apply p_pickT <;> rfl));(case hq=>kernel_rfl))
    all_goals (apply dtk 24;(case hi=>rfl);(case hop=>(apply prd;apply p_move <;> rfl));(case hq=>kernel_rfl))
    all_goals (try (apply d_guardB 25;(case hi=>rfl);(case hgd=>rfl);(case h1=>rfl);(case h2=>rfl);all_goals (intro h;(try simp only [reduceCtorEq,zzz] at h))))
    all_goals (apply d_callJG 25 (hs:=(qa _ (GH.le_trans hle27 (GH.le_trans hle8 (GH.le_trans hle9 (GH.le_trans hle11 hle12))))));(case hi=>rfl);(case hg=>rfl);(case hr=>kernel_rfl);(case ha=>rfl);(case hd=>rfl))
    all_goals (apply dtk 26;(case hi=>rfl);(case hop=>(apply prd;apply p_pickT <;> rfl));(case hq=>kernel_rfl))
    all_goals (apply dtk 27;(case hi=>rfl);(case hop=>(apply prd;apply p_assign <;> rfl));(case hq=>kernel_rfl))
    all_goals (apply d_done;(case hr=>kernel_rfl))
    all_goals repeat' (fail)
    all_goals
      (refine v_ret [] (outsA1 rfl rfl) (by repeat (exact List.nil_sublist _)) ?_
       rfl)
  · have qs0:=hSame_s (hd_zero G8) (hd_zero G8)
    have hdk8:=hdk.le (GH.le_trans hle7 hle8)
    have qf2:=wfiles_s (d:=d) (m:=m) hdk8 (by omega)
    have qbf:=fun G' (h:GH.le G8 G')=>wbuf_s (d:=d) (m:=m) (hdk8.le h) (by omega)
    generalize opensW v f = e at *
    rw [dkB_eq]
    repeat' (first|apply v_seq|apply v_region|apply v_nil|(apply v_take;(case hg=>rfl))|(apply v_pure;(case hop=>first|(apply p_move <;> rfl)|(apply p_eqs <;> rfl)|(apply p_ne <;> rfl)|(apply p_assign <;> rfl)|(apply p_pickT <;> rfl)|(apply p_extract0 <;> rfl)|(apply p_extract1 <;> rfl)|(apply p_extract2 <;> rfl)|(apply p_eqNil <;> rfl)|(apply p_build;(case hz=>rfl);(case hv=>(simp only [List.map_cons,List.map_nil];repeat (with_reducible exact evs_nil)));(case hb=>(apply bldL;repeat (exact bld_nil))))|fail);(case hd=>rfl))|(apply v_cond;(case hc=>rfl);all_goals (intro h;(try simp only [reduceCtorEq,zzz] at h);first|(exfalso;omega)|skip))|(apply v_callJ (hs:=qro _);(case ha=>rfl);(case hd=>rfl))|(apply v_callJ (hs:=qs0);(case ha=>rfl);(case hd=>rfl))|(apply v_read;(case hop=>(apply r_loadNo;(case hx=>rfl);(case h=>(repeat (exact mhd _)));(case hd=>(repeat (first|with_reducible exact dt_nil|apply dt_here)));(case hn=>rfl)));(case hd=>rfl))|(apply v_alloc;(case hz=>rfl);(case hd=>rfl);intro b)|(apply v_store;(case hp=>rfl);(case hx=>rfl);(case hc=>rfl);(case hsz=>rfl);(case h1=>rfl);(case hb=>(repeat (exact mhd _)));(case hfit=>exact nle rfl);(case hov=>((repeat (first|with_reducible exact ov_nil|apply ov_cons));done));(case hu=>repeat (exact Upd.here _ _)))|fail)
    revert b
    intro hb2
    refine v_call (μ1:=[(d,dkO m ov6),(m,oM6)]) (μ2:=(hb2,.cells (hdL 0 0 0 (.slice none 0 0) (.slice none 0 0) (.slice none 0 0)).toArray 27 (0,0)) :: ν6 ++ [(lb,lgO d no6 f L6),(hb,.cells (hdL Hd.zero.pr Hd.zero.pn Hd.zero.base (.slice A0 Hd.zero.image.length c0) (.slice A1 Hd.zero.acc.length c1) (.slice A2 Hd.zero.cho.length c2)).toArray 27 (0,0))]) rfl qf2 (by apply perm_of_count;intro p;simp only [List.append_eq,List.countP_append,List.countP_cons,List.countP_nil,Nat.zero_add,Nat.add_zero];try ac_rfl) rfl ?_
    rintro r12 G12 _ hle12 ⟨-,R',hR',hs',rfl⟩
    have qsm:=dsame_s hs' (hs.up (GH.le_trans hle8 hle12)) (rep_ext hR' hR)
    repeat' (first|(apply v_take;(case hg=>rfl))|(apply v_pure;(case hop=>first|(apply p_move <;> rfl)|(apply p_pickT <;> rfl)|fail);(case hd=>rfl))|(apply v_callJ (hs:=qsm);(case ha=>rfl);(case hd=>rfl))|fail)
    refine v_call (μ1:=(d,dkO m ov6) :: ν6) (μ2:=[(m,oM6),(hb2,.cells (hdL 0 0 0 (.slice none 0 0) (.slice none 0 0) (.slice none 0 0)).toArray 27 (0,0)),(lb,lgO d no6 f L6),(hb,.cells (hdL Hd.zero.pr Hd.zero.pn Hd.zero.base (.slice A0 Hd.zero.image.length c0) (.slice A1 Hd.zero.acc.length c1) (.slice A2 Hd.zero.cho.length c2)).toArray 27 (0,0))]) rfl (qbf _ hle12) (by apply perm_of_count;intro p;simp only [List.append_eq,List.countP_append,List.countP_cons,List.countP_nil,Nat.zero_add,Nat.add_zero];try ac_rfl) rfl ?_
    rintro r13 G13 _ hle13 ⟨-,hops,rfl⟩
    obtain ⟨A9,c9,dA9,dc9,rfl,-⟩:=opOpen hops
    repeat' (first|apply v_nil|(apply v_take;(case hg=>rfl))|(apply v_pure;(case hop=>first|(apply p_move <;> rfl)|(apply p_eqs <;> rfl)|(apply p_assign <;> rfl)|(apply p_pickT <;> rfl)|(apply p_lenSlice <;> rfl)|fail);(case hd=>rfl))|(apply v_callJ (hs:=qa _ (GH.le_trans hle27 (GH.le_trans hle8 (GH.le_trans hle12 hle13))));(case ha=>rfl);(case hd=>rfl))|fail)
    all_goals
      (refine v_ret [] (outsA1 rfl rfl) (by repeat (exact List.nil_sublist _)) ?_
       rfl)
theorem walOpens_law {W:World} {v0 v1 v2:Value} (hT:TabsG (ghost W) ∧ CrcG (ghost W)) (g0:∃ l,Rs (ghost W) v0 l) (g1:IsBool v1) (g2:IsInt v2):LawCon Tryz.prog 7 #[v0,v1,v2] W:=by
  obtain ⟨l,hr⟩:=g0
  obtain ⟨b,rfl⟩:=g1
  obtain ⟨v,rfl,-⟩:=g2
  exact walOpens_main hT.1 hT.2 hr b v
theorem clos_laid:laidOutB Tryz.prog = true:=by kernel_rfl
theorem clos_rowed:mapsRowed Tryz.prog = true:=by kernel_rfl
theorem clos_heard:Tryz.prog.stopsHeard = true:=by kernel_rfl
theorem clos_may:Tryz.prog.mayEnter = true:=by kernel_rfl
theorem clos_lifts:(Rows.segmHeadsRow.lifted == Tryz.prog.liftsFinal) = true:=by kernel_rfl
theorem clos_make:(Tryz.prog.make == some Rows.segmHeadsRow.make) = true:=by kernel_rfl
theorem clos_plain:(Rows.segmHeadsRow.plainKeys == Tryz.prog.plainKeys) = true:=by kernel_rfl
theorem clos_main:Tryz.prog.mainIs = some (true, "ff985d4a2c195d2b053ff752d8f9403905b3d56cfab988831be32c96f38effc7".toList):=by kernel_rfl
theorem clos_looks:true = Tryz.prog.looks []:=by kernel_rfl
theorem walOpens_own : ownKnob Tryz.prog.godebug = none := by kernel_rfl
theorem walOpens_laidOut : laidOutB Tryz.prog = true := clos_laid
theorem walOpens_spec : LawSpec Rows.walOpensSpec 3 := ⟨rfl, fun H ds h => by match ds, h with | [d0, d1, d2], _ => rfl⟩
set_option maxRecDepth 100000 in
theorem walOpens_lifted (os : Os) (started : os.Started) (H : Type) (enc : TypeId × Value → H) :
    ReturnsInHanded {} Tryz.checked os 7 .any (fun w args => (Rows.walOpensSpec.pre enc Tryz.prog Tryz.f7 Rows.walOpensRow.domain false w args ∧ laidMetH Tryz.prog tabsLaid3 w) ∧ sizedMet enc Tryz.prog Tryz.f7 (OpenSpec.ofChange Rows.walOpensSpec) false w args)
      (Rows.walOpensSpec.post enc Tryz.prog Tryz.f7 false true false false) := by
  refine returnsInHanded_of_change_and (C := Tryz.checked) (X := fun w _ => laidMetH Tryz.prog tabsLaid3 w) (fun _ _ _ hh h => h.of_heap hh) walOpens_own started (by kernel_rfl) Tryz.func7
    (ChangeSpec.witness_shaped (enc := enc) (C := Tryz.checked) (os := os) (X := fun w _ => laidMetH Tryz.prog tabsLaid3 w) false (World.laidAll Tryz.prog os tabsLaid3) #[.slice none 0 0, .bool false, .int .i64 0] 8 (World.laidAll_os _ _ _)
      (World.shaped_of_ZipB (by kernel_rfl) (by kernel_rfl)) (by kernel_rfl) (by kernel_rfl) (by kernel_rfl)
      (by rw [MakeChecks.laidMetH_plain _ _ _ tabs3_plain]; exact laidMet_laidAll _ (by kernel_rfl) (by kernel_rfl))) ?_
  intro W base args ds gs before hval0 hW hcnd _ hL _
  have hval : ∀ (j : Nat) t v, Tryz.f7.params[j]? = some t → args[j]? = some v → Value.okWide Tryz.prog W .any base t v := hval0
  refine law_post walOpens_laidOut Tryz.underlying4 rfl walOpens_spec rfl (by kernel_rfl) hW ?_
  obtain ⟨p, q, hA0, hV, rfl, hfz, hnd⟩ := hW
  have hA : DataW.TrodAll enc Tryz.prog W 0 (fun _ => true) true Tryz.f7.params.toList args.toList ds p := hA0
  rw [Tryz.params7] at hA hval
  obtain ⟨v0, vs0, d0, ds0, p0, q0, hargs, rfl, rfl, h0, r0⟩ := trodAll_cons hA
  obtain ⟨v1, vs1, d1, ds1, p1, q1, rfl, rfl, rfl, h1, r1⟩ := trodAll_cons r0
  obtain ⟨v2, vs2, d2, ds2, p2, q2, rfl, rfl, rfl, h2, r2⟩ := trodAll_cons r1
  obtain ⟨rfl, rfl, rfl⟩ := trodAll_nil r2
  obtain rfl : args = #[v0, v1, v2] := by cases args; simp_all
  have g0 := arg_t34 (hval 0 34 v0 rfl rfl) h0
  have g1 := arg_t4 (hval 1 4 v1 rfl rfl) h1
  have g2 := arg_t3 (hval 2 3 v2 rfl rfl) h2
  exact walOpens_law (tabs3_of_laid hL) g0 g1 g2
theorem walOpens_c_inPlace : (Rows.walOpensRow.inPlace == Tryz.prog.inPlace 7) = true := by kernel_rfl
theorem walOpens_c_unfollowed : (Rows.walOpensRow.unfollowed == Tryz.prog.unfollowed 7) = true := by kernel_rfl
theorem walOpens_c_recurses : (Rows.walOpensRow.recurses == Tryz.prog.recurses 7) = true := by kernel_rfl
theorem walOpens_c_named : (Rows.walOpensRow.named == Tryz.prog.varsNamed 7) = true := by kernel_rfl
theorem walOpens_c_lifted : (Rows.walOpensRow.lifted == Tryz.prog.liftsFinal) = true := clos_lifts
theorem walOpens_c_make : (Tryz.prog.make == some Rows.walOpensRow.make) = true := clos_make
theorem walOpens_c_plainKeys : (Rows.walOpensRow.plainKeys == Tryz.prog.plainKeys) = true := clos_plain
theorem walOpens_closed : joinedFacts Tryz.prog 7 Tryz.f7 Rows.walOpensSpec Rows.walOpensRow = true := by
  unfold joinedFacts
  rw [clos_laid, clos_rowed, clos_heard, clos_may, walOpens_c_inPlace, walOpens_c_unfollowed, walOpens_c_recurses, walOpens_c_named, walOpens_c_lifted, walOpens_c_make, walOpens_c_plainKeys]
  kernel_rfl
theorem walOpens_over : Rows.walOpensRow.holds Tryz.pinned (OpenSpec.ofChange Rows.walOpensSpec) :=
  OpenClaim.holds_of_wide 7 Tryz.f7 rfl rfl rfl rfl rfl rfl rfl ⟨rfl, rfl, rfl, rfl, rfl⟩ rfl rfl rfl rfl rfl (by kernel_rfl) Tryz.func7 walOpens_closed
    (of_decide_eq_true (by kernel_rfl)) (by unfold Func.isWrapper; first | (rw [if_pos (by decide +kernel)]; kernel_rfl) | (rw [if_neg (by decide +kernel)]; exact ⟨rfl, rfl⟩))
    (fun os started H enc _ => walOpens_lifted os started H enc)
theorem walOpens_holds : Rows.WalOpensSaid := walOpens_over
theorem walOpens_c_wft : Rows.walOpensRow.wfByText (OpenSpec.ofChange Rows.walOpensSpec) = true := by kernel_rfl
theorem walOpens_c_func : Tryz.prog.funcNamed Rows.walOpensRow.func = some 7 := by kernel_rfl
theorem walOpens_c_stand : ([34, 4, 3].all fun u => !Tryz.prog.wantsStandIn u) = true := by kernel_rfl
theorem walOpens_c_goes : false = Rows.walOpensRow.goesBy Tryz.prog := by kernel_rfl
theorem walOpensCard_holds : Rows.WalOpensCardSaid :=
  Claim7.holds_tied_plain_at .later [] [.data, .data, .pinned] true (true, "ff985d4a2c195d2b053ff752d8f9403905b3d56cfab988831be32c96f38effc7") true walOpens_holds (fun _ h => by cases h) walOpens_c_wft (fun _ h => by cases h) walOpens_row_tie rfl ⟨rfl, rfl⟩ clos_main rfl
    (fun f fn hf hfn => by
      obtain rfl : f = 7 := Option.some.inj (walOpens_c_func.symm.trans hf) |>.symm
      obtain rfl : fn = Tryz.f7 := (Option.some.inj (Tryz.func7.symm.trans hfn)).symm
      exact ⟨clos_looks, fun j t ht => by
        rw [Tryz.params7] at ht
        have hm : t ∈ [34, 4, 3] := by simpa using Array.mem_of_getElem? ht
        exact (show Tryz.prog.wantsStandIn t = false by simpa using List.all_eq_true.1 walOpens_c_stand t hm)⟩)
    walOpens_c_goes
end Go.Proofs.YtpemabgfmnhhnaaGreatDoor
