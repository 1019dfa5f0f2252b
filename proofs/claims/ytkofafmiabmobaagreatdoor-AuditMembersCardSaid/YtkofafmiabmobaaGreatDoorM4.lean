/-
  The reference 23: the walk of Do. (Printed by genD.py.)
-/
import Derived.Test.YtkofafmiabmobaaGreatDoorM3
import Derived.Test.YtkofafmiabmobaaGreatDoorM1
import Derived.Test.YtkofafmiabmobaaGreatDoorM2
import Derived.Shelf.Slices.SearchI
import Derived.Shelf.Slices.Delete
import Derived.Shelf.Spec.SlicesInsert
import Derived.Shelf.Spec.SlicesInsertGrow
set_option linter.unusedSimpArgs false
set_option linter.unusedVariables false
namespace Go.Proofs.YtkofafmiabmobaaGreatDoor
open Go.Vx Go.ChangeShapes Go.WideShapes Go.ChangeAt Go.RowKit
abbrev DoPost (G:GH) (o:List Pr×An):Value→GH→OH→Prop:=fun r G' μ'=>GH.le G G'∧μ'=[]∧∃ v',r=.tuple [v',.agg o.2.cells.toArray].toArray∧Prs G' v' o.1
theorem doN1 {G:GH}{l:List Pr}{A:Option Addr}{c:Nat}(kind client seq:Int) (key val old:ByteArray) (node:Int) (hs:Prs G (.slice A l.length c) l) (hr:RiseW ksP l) (hz:Sized l) (hn:l.length≤200) (hkz:key.size≤200) (hk:2≤kind∧kind≤5) (h5:kind≠5)
 (qp:Con Tryz.prog 224 #[.slice A l.length c,.string key] G [] (Just (.int .i64 (-1)) G)) :
 Con Tryz.prog 180 #[.int .i64 1,.slice A l.length c,.agg (Cm.cells ⟨kind,client,seq,key,val,old,node⟩).toArray] G [] (DoPost G (if kind=2 then (if 64≤l.length then (l,⟨client,seq,11,false,ByteArray.empty,0⟩) else (withG ksP l ⟨key,val,0⟩,⟨client,seq,0,false,ByteArray.empty,0⟩)) else if kind=4 then (l.filter (fun x=>decide (ksP x≠kn key)),⟨client,seq,0,false,ByteArray.empty,0⟩) else if kind=5 then (l,⟨client,seq,10,false,ByteArray.empty,0⟩) else (l,⟨client,seq,0,false,ByteArray.empty,0⟩):List Pr×An)):=by
 obtain ⟨B0,e0,e,hlc,hcm,hsome,hcp⟩:=rowOpen hs
 cases e
 simp only [maxLen] at hcm
 have qw:=refPWith_s ⟨key,val,0⟩ hs hr hn hz hkz
 have qo:=refWithout_s key hs hn hz hkz
 have hdf:dec ((0:Int) ≤ -1)=false:=dec_neg (by omega)
 (refine v_enter Tryz.func180 rfl Tryz.ntmps180 rfl ?_;intro B _)
 repeat' (first|apply v_box (d:=5) (zs:=Cm.cells ⟨kind,client,seq,key,val,old,node⟩);(case hx|hz|hd=>rfl);intro b5|apply v_alloc (d:=7);(case hz|hd=>rfl);intro b7|apply v_alloc (d:=8);(case hz|hd=>rfl);intro b8|apply v_alloc (d:=10);(case hz|hd=>rfl);intro b10|apply v_alloc (d:=11);(case hz|hd=>rfl);intro b11|apply v_read;(case hop=>(apply r_loadNo;(case hx=>rfl);(case h=>exact aM);(case hd|hn=>rfl)));(case hd=>rfl)|refine Wa ?_|(refine Wc ⟨?_,?_⟩<;>first|exact True.intro|intro h)|refine cJ qp ?_|refine Wr ?_|(refine Wb ?_;intro b)|fail)
 ·rw [if_pos (by assumption),if_pos (show 64≤l.length by omega)]
  refine Dz [(b8,.cells [.int .i64 client,.int .i64 seq,.int .i64 11,.bool false,.string ByteArray.empty,.int .i64 0].toArray 66 (0,0))] ?_
  all_goals refine Dt [0,1,2] ?_
  all_goals ((apply d_store 3;(case hi=>rfl);(case hr=>kernel_rfl);(case hL=>infer_instance);(case hp|hx|hc|hsz|h1=>rfl);(case hb=>exact aM);(case hfit=>first|exact Nat.le_of_ble_eq_true rfl|rfl);(case hov=>(first|((repeat (first|with_reducible exact ov_nil|apply ov_cons|apply ov_there));done)|rfl));(case hu=>repeat first|exact Upd.here _ _|apply Upd.there|apply Upd.app);(case hν'=>exact aE)))
  all_goals refine Dd ?_
  repeat' (first|refine Wa ?_|(refine Wc ⟨?_,?_⟩<;>first|exact True.intro|intro h)|refine Wr ?_|(refine Wb ?_;intro b)|fail)
  refine v_retM [] (outsM_tc (sz1:=6) (vs1:=[.int .i64 client,.int .i64 seq,.int .i64 11,.bool false,.string ByteArray.empty,.int .i64 0]) (e1:=66) rfl rfl rfl aM rfl) (List.nil_sublist _) ⟨GH.le_refl _,rfl,_,rfl,hs⟩
 ·rw [if_pos (by assumption),if_neg (show ¬ 64≤l.length by omega)]
  refine cQ rfl qw ?_
  rintro v3 G3 _ hle3 ⟨-,rfl,hw3⟩
  repeat' (first|apply v_box (d:=5) (zs:=Cm.cells ⟨kind,client,seq,key,val,old,node⟩);(case hx|hz|hd=>rfl);intro b5|apply v_alloc (d:=7);(case hz|hd=>rfl);intro b7|apply v_alloc (d:=8);(case hz|hd=>rfl);intro b8|apply v_alloc (d:=10);(case hz|hd=>rfl);intro b10|apply v_alloc (d:=11);(case hz|hd=>rfl);intro b11|apply v_read;(case hop=>(apply r_loadNo;(case hx=>rfl);(case h=>exact aM);(case hd|hn=>rfl)));(case hd=>rfl)|refine Wa ?_|(refine Wc ⟨?_,?_⟩<;>first|exact True.intro|intro h)|refine cJ qp ?_|refine Wr ?_|(refine Wb ?_;intro b)|fail)
  try rw [hdf]
  refine Dz [(b8,.cells [.int .i64 client,.int .i64 seq,.int .i64 0,.bool false,.string ByteArray.empty,.int .i64 0].toArray 66 (0,0))] ?_
  all_goals refine Dt [0,1,2] ?_
  all_goals ((apply d_store 3;(case hi=>rfl);(case hr=>kernel_rfl);(case hL=>infer_instance);(case hp|hx|hc|hsz|h1=>rfl);(case hb=>exact aM);(case hfit=>first|exact Nat.le_of_ble_eq_true rfl|rfl);(case hov=>(first|((repeat (first|with_reducible exact ov_nil|apply ov_cons|apply ov_there));done)|rfl));(case hu=>repeat first|exact Upd.here _ _|apply Upd.there|apply Upd.app);(case hν'=>exact aE)))
  all_goals refine Dd ?_
  repeat' (first|refine Wa ?_|(refine Wc ⟨?_,?_⟩<;>first|exact True.intro|intro h)|refine Wr ?_|(refine Wb ?_;intro b)|fail)
  refine v_retM [] (outsM_tc (sz1:=6) (vs1:=[.int .i64 client,.int .i64 seq,.int .i64 0,.bool false,.string ByteArray.empty,.int .i64 0]) (e1:=66) rfl rfl rfl aM rfl) (List.nil_sublist _) ⟨hle3,rfl,_,rfl,hw3⟩
 ·rw [if_neg (by assumption),if_pos (by assumption)]
  refine cQ rfl qo ?_
  rintro v3 G3 _ hle3 ⟨-,rfl,hw3⟩
  repeat' (first|apply v_box (d:=5) (zs:=Cm.cells ⟨kind,client,seq,key,val,old,node⟩);(case hx|hz|hd=>rfl);intro b5|apply v_alloc (d:=7);(case hz|hd=>rfl);intro b7|apply v_alloc (d:=8);(case hz|hd=>rfl);intro b8|apply v_alloc (d:=10);(case hz|hd=>rfl);intro b10|apply v_alloc (d:=11);(case hz|hd=>rfl);intro b11|apply v_read;(case hop=>(apply r_loadNo;(case hx=>rfl);(case h=>exact aM);(case hd|hn=>rfl)));(case hd=>rfl)|refine Wa ?_|(refine Wc ⟨?_,?_⟩<;>first|exact True.intro|intro h)|refine cJ qp ?_|refine Wr ?_|(refine Wb ?_;intro b)|fail)
  try rw [hdf]
  refine Dz [(b8,.cells [.int .i64 client,.int .i64 seq,.int .i64 0,.bool false,.string ByteArray.empty,.int .i64 0].toArray 66 (0,0))] ?_
  all_goals refine Dt [0,1,2] ?_
  all_goals ((apply d_store 3;(case hi=>rfl);(case hr=>kernel_rfl);(case hL=>infer_instance);(case hp|hx|hc|hsz|h1=>rfl);(case hb=>exact aM);(case hfit=>first|exact Nat.le_of_ble_eq_true rfl|rfl);(case hov=>(first|((repeat (first|with_reducible exact ov_nil|apply ov_cons|apply ov_there));done)|rfl));(case hu=>repeat first|exact Upd.here _ _|apply Upd.there|apply Upd.app);(case hν'=>exact aE)))
  all_goals refine Dd ?_
  repeat' (first|refine Wa ?_|(refine Wc ⟨?_,?_⟩<;>first|exact True.intro|intro h)|refine Wr ?_|(refine Wb ?_;intro b)|fail)
  refine v_retM [] (outsM_tc (sz1:=6) (vs1:=[.int .i64 client,.int .i64 seq,.int .i64 0,.bool false,.string ByteArray.empty,.int .i64 0]) (e1:=66) rfl rfl rfl aM rfl) (List.nil_sublist _) ⟨hle3,rfl,_,rfl,hw3⟩
 ·rw [if_neg (by assumption),if_neg (by assumption),if_neg (by assumption)]
  try rw [hdf]
  refine Dz [(b8,.cells [.int .i64 client,.int .i64 seq,.int .i64 0,.bool false,.string ByteArray.empty,.int .i64 0].toArray 66 (0,0))] ?_
  all_goals refine Dt [0,1,2] ?_
  all_goals ((apply d_store 3;(case hi=>rfl);(case hr=>kernel_rfl);(case hL=>infer_instance);(case hp|hx|hc|hsz|h1=>rfl);(case hb=>exact aM);(case hfit=>first|exact Nat.le_of_ble_eq_true rfl|rfl);(case hov=>(first|((repeat (first|with_reducible exact ov_nil|apply ov_cons|apply ov_there));done)|rfl));(case hu=>repeat first|exact Upd.here _ _|apply Upd.there|apply Upd.app);(case hν'=>exact aE)))
  all_goals refine Dd ?_
  repeat' (first|refine Wa ?_|(refine Wc ⟨?_,?_⟩<;>first|exact True.intro|intro h)|refine Wr ?_|(refine Wb ?_;intro b)|fail)
  refine v_retM [] (outsM_tc (sz1:=6) (vs1:=[.int .i64 client,.int .i64 seq,.int .i64 0,.bool false,.string ByteArray.empty,.int .i64 0]) (e1:=66) rfl rfl rfl aM rfl) (List.nil_sublist _) ⟨GH.le_refl _,rfl,_,rfl,hs⟩
theorem doN2 {G:GH}{l:List Pr}{A:Option Addr}{c:Nat}(kind client seq:Int) (key val old:ByteArray) (node:Int) (hs:Prs G (.slice A l.length c) l) (hr:RiseW ksP l) (hz:Sized l) (hn:l.length≤200) (hkz:key.size≤200) (hk:2≤kind∧kind≤5)
 (qp:Con Tryz.prog 224 #[.slice A l.length c,.string key] G [] (Just (.int .i64 (-1)) G)) :
 Con Tryz.prog 180 #[.int .i64 2,.slice A l.length c,.agg (Cm.cells ⟨kind,client,seq,key,val,old,node⟩).toArray] G [] (DoPost G (if kind=2 then (if 64≤l.length then (l,⟨client,seq,11,false,ByteArray.empty,0⟩) else (withG ksP l ⟨key,val,1⟩,⟨client,seq,0,false,ByteArray.empty,0⟩)) else if kind=4 then (l.filter (fun x=>decide (ksP x≠kn key)),⟨client,seq,0,false,ByteArray.empty,0⟩) else if kind=5 then (l,⟨client,seq,10,false,ByteArray.empty,0⟩) else (l,⟨client,seq,0,false,ByteArray.empty,0⟩):List Pr×An)):=by
 obtain ⟨B0,e0,e,hlc,hcm,hsome,hcp⟩:=rowOpen hs
 cases e
 simp only [maxLen] at hcm
 have qw:=refPWith_s ⟨key,val,1⟩ hs hr hn hz hkz
 have qo:=refWithout_s key hs hn hz hkz
 have hdf:dec ((0:Int) ≤ -1)=false:=dec_neg (by omega)
 (refine v_enter Tryz.func180 rfl Tryz.ntmps180 rfl ?_;intro B _)
 repeat' (first|apply v_box (d:=5) (zs:=Cm.cells ⟨kind,client,seq,key,val,old,node⟩);(case hx|hz|hd=>rfl);intro b5|apply v_alloc (d:=7);(case hz|hd=>rfl);intro b7|apply v_alloc (d:=8);(case hz|hd=>rfl);intro b8|apply v_alloc (d:=10);(case hz|hd=>rfl);intro b10|apply v_alloc (d:=11);(case hz|hd=>rfl);intro b11|apply v_read;(case hop=>(apply r_loadNo;(case hx=>rfl);(case h=>exact aM);(case hd|hn=>rfl)));(case hd=>rfl)|refine Wa ?_|(refine Wc ⟨?_,?_⟩<;>first|exact True.intro|intro h)|refine cJ qp ?_|refine Wr ?_|(refine Wb ?_;intro b)|fail)
 ·rw [if_pos (by assumption),if_pos (show 64≤l.length by omega)]
  refine Dz [(b8,.cells [.int .i64 client,.int .i64 seq,.int .i64 11,.bool false,.string ByteArray.empty,.int .i64 0].toArray 66 (0,0))] ?_
  all_goals refine Dt [0,1,2] ?_
  all_goals ((apply d_store 3;(case hi=>rfl);(case hr=>kernel_rfl);(case hL=>infer_instance);(case hp|hx|hc|hsz|h1=>rfl);(case hb=>exact aM);(case hfit=>first|exact Nat.le_of_ble_eq_true rfl|rfl);(case hov=>(first|((repeat (first|with_reducible exact ov_nil|apply ov_cons|apply ov_there));done)|rfl));(case hu=>repeat first|exact Upd.here _ _|apply Upd.there|apply Upd.app);(case hν'=>exact aE)))
  all_goals refine Dd ?_
  repeat' (first|refine Wa ?_|(refine Wc ⟨?_,?_⟩<;>first|exact True.intro|intro h)|refine Wr ?_|(refine Wb ?_;intro b)|fail)
  refine v_retM [] (outsM_tc (sz1:=6) (vs1:=[.int .i64 client,.int .i64 seq,.int .i64 11,.bool false,.string ByteArray.empty,.int .i64 0]) (e1:=66) rfl rfl rfl aM rfl) (List.nil_sublist _) ⟨GH.le_refl _,rfl,_,rfl,hs⟩
 ·rw [if_pos (by assumption),if_neg (show ¬ 64≤l.length by omega)]
  refine cQ rfl qw ?_
  rintro v3 G3 _ hle3 ⟨-,rfl,hw3⟩
  repeat' (first|apply v_box (d:=5) (zs:=Cm.cells ⟨kind,client,seq,key,val,old,node⟩);(case hx|hz|hd=>rfl);intro b5|apply v_alloc (d:=7);(case hz|hd=>rfl);intro b7|apply v_alloc (d:=8);(case hz|hd=>rfl);intro b8|apply v_alloc (d:=10);(case hz|hd=>rfl);intro b10|apply v_alloc (d:=11);(case hz|hd=>rfl);intro b11|apply v_read;(case hop=>(apply r_loadNo;(case hx=>rfl);(case h=>exact aM);(case hd|hn=>rfl)));(case hd=>rfl)|refine Wa ?_|(refine Wc ⟨?_,?_⟩<;>first|exact True.intro|intro h)|refine cJ qp ?_|refine Wr ?_|(refine Wb ?_;intro b)|fail)
  try rw [hdf]
  refine Dz [(b8,.cells [.int .i64 client,.int .i64 seq,.int .i64 0,.bool false,.string ByteArray.empty,.int .i64 0].toArray 66 (0,0))] ?_
  all_goals refine Dt [0,1,2] ?_
  all_goals ((apply d_store 3;(case hi=>rfl);(case hr=>kernel_rfl);(case hL=>infer_instance);(case hp|hx|hc|hsz|h1=>rfl);(case hb=>exact aM);(case hfit=>first|exact Nat.le_of_ble_eq_true rfl|rfl);(case hov=>(first|((repeat (first|with_reducible exact ov_nil|apply ov_cons|apply ov_there));done)|rfl));(case hu=>repeat first|exact Upd.here _ _|apply Upd.there|apply Upd.app);(case hν'=>exact aE)))
  all_goals refine Dd ?_
  repeat' (first|refine Wa ?_|(refine Wc ⟨?_,?_⟩<;>first|exact True.intro|intro h)|refine Wr ?_|(refine Wb ?_;intro b)|fail)
  refine v_retM [] (outsM_tc (sz1:=6) (vs1:=[.int .i64 client,.int .i64 seq,.int .i64 0,.bool false,.string ByteArray.empty,.int .i64 0]) (e1:=66) rfl rfl rfl aM rfl) (List.nil_sublist _) ⟨hle3,rfl,_,rfl,hw3⟩
 ·rw [if_neg (by assumption),if_pos (by assumption)]
  refine cQ rfl qo ?_
  rintro v3 G3 _ hle3 ⟨-,rfl,hw3⟩
  repeat' (first|apply v_box (d:=5) (zs:=Cm.cells ⟨kind,client,seq,key,val,old,node⟩);(case hx|hz|hd=>rfl);intro b5|apply v_alloc (d:=7);(case hz|hd=>rfl);intro b7|apply v_alloc (d:=8);(case hz|hd=>rfl);intro b8|apply v_alloc (d:=10);(case hz|hd=>rfl);intro b10|apply v_alloc (d:=11);(case hz|hd=>rfl);intro b11|apply v_read;(case hop=>(apply r_loadNo;(case hx=>rfl);(case h=>exact aM);(case hd|hn=>rfl)));(case hd=>rfl)|refine Wa ?_|(refine Wc ⟨?_,?_⟩<;>first|exact True.intro|intro h)|refine cJ qp ?_|refine Wr ?_|(refine Wb ?_;intro b)|fail)
  try rw [hdf]
  refine Dz [(b8,.cells [.int .i64 client,.int .i64 seq,.int .i64 0,.bool false,.string ByteArray.empty,.int .i64 0].toArray 66 (0,0))] ?_
  all_goals refine Dt [0,1,2] ?_
  all_goals ((apply d_store 3;(case hi=>rfl);(case hr=>kernel_rfl);(case hL=>infer_instance);(case hp|hx|hc|hsz|h1=>rfl);(case hb=>exact aM);(case hfit=>first|exact Nat.le_of_ble_eq_true rfl|rfl);(case hov=>(first|((repeat (first|with_reducible exact ov_nil|apply ov_cons|apply ov_there));done)|rfl));(case hu=>repeat first|exact Upd.here _ _|apply Upd.there|apply Upd.app);(case hν'=>exact aE)))
  all_goals refine Dd ?_
  repeat' (first|refine Wa ?_|(refine Wc ⟨?_,?_⟩<;>first|exact True.intro|intro h)|refine Wr ?_|(refine Wb ?_;intro b)|fail)
  refine v_retM [] (outsM_tc (sz1:=6) (vs1:=[.int .i64 client,.int .i64 seq,.int .i64 0,.bool false,.string ByteArray.empty,.int .i64 0]) (e1:=66) rfl rfl rfl aM rfl) (List.nil_sublist _) ⟨hle3,rfl,_,rfl,hw3⟩
 ·rw [if_neg (by assumption),if_neg (by assumption),if_pos (by assumption)]
  try rw [hdf]
  refine Dz [(b8,.cells [.int .i64 client,.int .i64 seq,.int .i64 10,.bool false,.string ByteArray.empty,.int .i64 0].toArray 66 (0,0))] ?_
  all_goals refine Dt [0,1,2] ?_
  all_goals ((apply d_store 3;(case hi=>rfl);(case hr=>kernel_rfl);(case hL=>infer_instance);(case hp|hx|hc|hsz|h1=>rfl);(case hb=>exact aM);(case hfit=>first|exact Nat.le_of_ble_eq_true rfl|rfl);(case hov=>(first|((repeat (first|with_reducible exact ov_nil|apply ov_cons|apply ov_there));done)|rfl));(case hu=>repeat first|exact Upd.here _ _|apply Upd.there|apply Upd.app);(case hν'=>exact aE)))
  all_goals refine Dd ?_
  repeat' (first|refine Wa ?_|(refine Wc ⟨?_,?_⟩<;>first|exact True.intro|intro h)|refine Wr ?_|(refine Wb ?_;intro b)|fail)
  refine v_retM [] (outsM_tc (sz1:=6) (vs1:=[.int .i64 client,.int .i64 seq,.int .i64 10,.bool false,.string ByteArray.empty,.int .i64 0]) (e1:=66) rfl rfl rfl aM rfl) (List.nil_sublist _) ⟨GH.le_refl _,rfl,_,rfl,hs⟩
 ·rw [if_neg (by assumption),if_neg (by assumption),if_neg (by assumption)]
  try rw [hdf]
  refine Dz [(b8,.cells [.int .i64 client,.int .i64 seq,.int .i64 0,.bool false,.string ByteArray.empty,.int .i64 0].toArray 66 (0,0))] ?_
  all_goals refine Dt [0,1,2] ?_
  all_goals ((apply d_store 3;(case hi=>rfl);(case hr=>kernel_rfl);(case hL=>infer_instance);(case hp|hx|hc|hsz|h1=>rfl);(case hb=>exact aM);(case hfit=>first|exact Nat.le_of_ble_eq_true rfl|rfl);(case hov=>(first|((repeat (first|with_reducible exact ov_nil|apply ov_cons|apply ov_there));done)|rfl));(case hu=>repeat first|exact Upd.here _ _|apply Upd.there|apply Upd.app);(case hν'=>exact aE)))
  all_goals refine Dd ?_
  repeat' (first|refine Wa ?_|(refine Wc ⟨?_,?_⟩<;>first|exact True.intro|intro h)|refine Wr ?_|(refine Wb ?_;intro b)|fail)
  refine v_retM [] (outsM_tc (sz1:=6) (vs1:=[.int .i64 client,.int .i64 seq,.int .i64 0,.bool false,.string ByteArray.empty,.int .i64 0]) (e1:=66) rfl rfl rfl aM rfl) (List.nil_sublist _) ⟨GH.le_refl _,rfl,_,rfl,hs⟩
theorem doH1 {G:GH}{l:List Pr}{A:Option Addr}{c:Nat}(kind client seq:Int) (key val old:ByteArray) (node:Int) (hs:Prs G (.slice A l.length c) l) (hr:RiseW ksP l) (hz:Sized l) (hn:l.length≤200) (hkz:key.size≤200) (hk:2≤kind∧kind≤5) (h5:kind≠5) (i:Nat) (hi:i<l.length) (f:Pr) (hck:CellsG G ((adr A).add (i*3)) f.cells)
 (qp:Con Tryz.prog 224 #[.slice A l.length c,.string key] G [] (Just (.int .i64 (i:Nat)) G)) :
 Con Tryz.prog 180 #[.int .i64 1,.slice A l.length c,.agg (Cm.cells ⟨kind,client,seq,key,val,old,node⟩).toArray] G [] (DoPost G (if kind=2 then (withG ksP l ⟨key,val,0⟩,⟨client,seq,0,true,f.val,0⟩) else if kind=4 then (l.filter (fun x=>decide (ksP x≠kn key)),⟨client,seq,0,true,f.val,0⟩) else if kind=5 then (if f.val=old then (withG ksP l ⟨key,val,0⟩,⟨client,seq,0,true,f.val,0⟩) else (l,⟨client,seq,15,true,f.val,f.rev⟩)) else (l,⟨client,seq,0,true,f.val,0⟩):List Pr×An)):=by
 obtain ⟨B0,e0,e,hlc,hcm,hsome,hcp⟩:=rowOpen hs
 cases e
 simp only [maxLen] at hcm
 have qw:=refPWith_s ⟨key,val,0⟩ hs hr hn hz hkz
 have qo:=refWithout_s key hs hn hz hkz
 have e1:((i:Nat):Int).toNat=i:=by omega
 have hA:=hsome (by omega)
 skip
 have hdf:dec ((0:Int)≤(i:Nat))=true:=dec_pos (by omega)
 (refine v_enter Tryz.func180 rfl Tryz.ntmps180 rfl ?_;intro B _)
 repeat' (first|apply v_box (d:=5) (zs:=Cm.cells ⟨kind,client,seq,key,val,old,node⟩);(case hx|hz|hd=>rfl);intro b5|apply v_alloc (d:=7);(case hz|hd=>rfl);intro b7|apply v_alloc (d:=8);(case hz|hd=>rfl);intro b8|apply v_alloc (d:=10);(case hz|hd=>rfl);intro b10|apply v_alloc (d:=11);(case hz|hd=>rfl);intro b11|apply v_read;(case hop=>(apply r_loadNo;(case hx=>rfl);(case h=>exact aM);(case hd|hn=>rfl)));(case hd=>rfl)|refine Wa ?_|(refine Wc ⟨?_,?_⟩<;>first|exact True.intro|intro h)|refine RN hck ?_|refine cJ qp ?_|refine Wr ?_|(refine Wb ?_;intro b)|fail)
 ·rw [if_pos (by assumption)]
  refine cQ rfl qw ?_
  rintro v3 G3 _ hle3 ⟨-,rfl,hw3⟩
  repeat' (first|apply v_box (d:=5) (zs:=Cm.cells ⟨kind,client,seq,key,val,old,node⟩);(case hx|hz|hd=>rfl);intro b5|apply v_alloc (d:=7);(case hz|hd=>rfl);intro b7|apply v_alloc (d:=8);(case hz|hd=>rfl);intro b8|apply v_alloc (d:=10);(case hz|hd=>rfl);intro b10|apply v_alloc (d:=11);(case hz|hd=>rfl);intro b11|apply v_read;(case hop=>(apply r_loadNo;(case hx=>rfl);(case h=>exact aM);(case hd|hn=>rfl)));(case hd=>rfl)|refine Wa ?_|(refine Wc ⟨?_,?_⟩<;>first|exact True.intro|intro h)|refine RN hck ?_|refine cJ qp ?_|refine Wr ?_|(refine Wb ?_;intro b)|fail)
  try rw [hdf]
  refine Dz [(b8,.cells [.int .i64 client,.int .i64 seq,.int .i64 0,.bool true,.string f.val,.int .i64 0].toArray 66 (0,0))] ?_
  all_goals refine Dt [0,1,2] ?_
  all_goals ((apply d_store 3;(case hi=>rfl);(case hr=>kernel_rfl);(case hL=>infer_instance);(case hp|hx|hc|hsz|h1=>rfl);(case hb=>exact aM);(case hfit=>first|exact Nat.le_of_ble_eq_true rfl|rfl);(case hov=>(first|((repeat (first|with_reducible exact ov_nil|apply ov_cons|apply ov_there));done)|rfl));(case hu=>repeat first|exact Upd.here _ _|apply Upd.there|apply Upd.app);(case hν'=>exact aE)))
  all_goals refine Dd ?_
  repeat' (first|refine Wa ?_|(refine Wc ⟨?_,?_⟩<;>first|exact True.intro|intro h)|refine Wr ?_|(refine Wb ?_;intro b)|fail)
  refine v_retM [] (outsM_tc (sz1:=6) (vs1:=[.int .i64 client,.int .i64 seq,.int .i64 0,.bool true,.string f.val,.int .i64 0]) (e1:=66) rfl rfl rfl aM rfl) (List.nil_sublist _) ⟨hle3,rfl,_,rfl,hw3⟩
 ·rw [if_neg (by assumption),if_pos (by assumption)]
  refine cQ rfl qo ?_
  rintro v3 G3 _ hle3 ⟨-,rfl,hw3⟩
  repeat' (first|apply v_box (d:=5) (zs:=Cm.cells ⟨kind,client,seq,key,val,old,node⟩);(case hx|hz|hd=>rfl);intro b5|apply v_alloc (d:=7);(case hz|hd=>rfl);intro b7|apply v_alloc (d:=8);(case hz|hd=>rfl);intro b8|apply v_alloc (d:=10);(case hz|hd=>rfl);intro b10|apply v_alloc (d:=11);(case hz|hd=>rfl);intro b11|apply v_read;(case hop=>(apply r_loadNo;(case hx=>rfl);(case h=>exact aM);(case hd|hn=>rfl)));(case hd=>rfl)|refine Wa ?_|(refine Wc ⟨?_,?_⟩<;>first|exact True.intro|intro h)|refine RN hck ?_|refine cJ qp ?_|refine Wr ?_|(refine Wb ?_;intro b)|fail)
  try rw [hdf]
  refine Dz [(b8,.cells [.int .i64 client,.int .i64 seq,.int .i64 0,.bool true,.string f.val,.int .i64 0].toArray 66 (0,0))] ?_
  all_goals refine Dt [0,1,2] ?_
  all_goals ((apply d_store 3;(case hi=>rfl);(case hr=>kernel_rfl);(case hL=>infer_instance);(case hp|hx|hc|hsz|h1=>rfl);(case hb=>exact aM);(case hfit=>first|exact Nat.le_of_ble_eq_true rfl|rfl);(case hov=>(first|((repeat (first|with_reducible exact ov_nil|apply ov_cons|apply ov_there));done)|rfl));(case hu=>repeat first|exact Upd.here _ _|apply Upd.there|apply Upd.app);(case hν'=>exact aE)))
  all_goals refine Dd ?_
  repeat' (first|refine Wa ?_|(refine Wc ⟨?_,?_⟩<;>first|exact True.intro|intro h)|refine Wr ?_|(refine Wb ?_;intro b)|fail)
  refine v_retM [] (outsM_tc (sz1:=6) (vs1:=[.int .i64 client,.int .i64 seq,.int .i64 0,.bool true,.string f.val,.int .i64 0]) (e1:=66) rfl rfl rfl aM rfl) (List.nil_sublist _) ⟨hle3,rfl,_,rfl,hw3⟩
 ·rw [if_neg (by assumption),if_neg (by assumption),if_neg (by assumption)]
  try rw [hdf]
  refine Dz [(b8,.cells [.int .i64 client,.int .i64 seq,.int .i64 0,.bool true,.string f.val,.int .i64 0].toArray 66 (0,0))] ?_
  all_goals refine Dt [0,1,2] ?_
  all_goals ((apply d_store 3;(case hi=>rfl);(case hr=>kernel_rfl);(case hL=>infer_instance);(case hp|hx|hc|hsz|h1=>rfl);(case hb=>exact aM);(case hfit=>first|exact Nat.le_of_ble_eq_true rfl|rfl);(case hov=>(first|((repeat (first|with_reducible exact ov_nil|apply ov_cons|apply ov_there));done)|rfl));(case hu=>repeat first|exact Upd.here _ _|apply Upd.there|apply Upd.app);(case hν'=>exact aE)))
  all_goals refine Dd ?_
  repeat' (first|refine Wa ?_|(refine Wc ⟨?_,?_⟩<;>first|exact True.intro|intro h)|refine Wr ?_|(refine Wb ?_;intro b)|fail)
  refine v_retM [] (outsM_tc (sz1:=6) (vs1:=[.int .i64 client,.int .i64 seq,.int .i64 0,.bool true,.string f.val,.int .i64 0]) (e1:=66) rfl rfl rfl aM rfl) (List.nil_sublist _) ⟨GH.le_refl _,rfl,_,rfl,hs⟩
theorem doH2 {G:GH}{l:List Pr}{A:Option Addr}{c:Nat}(kind client seq:Int) (key val old:ByteArray) (node:Int) (hs:Prs G (.slice A l.length c) l) (hr:RiseW ksP l) (hz:Sized l) (hn:l.length≤200) (hkz:key.size≤200) (hk:2≤kind∧kind≤5) (i:Nat) (hi:i<l.length) (f:Pr) (hck:CellsG G ((adr A).add (i*3)) f.cells) (hrev:f.rev<4294967296) (hrev2:1≤f.rev)
 (qp:Con Tryz.prog 224 #[.slice A l.length c,.string key] G [] (Just (.int .i64 (i:Nat)) G)) :
 Con Tryz.prog 180 #[.int .i64 2,.slice A l.length c,.agg (Cm.cells ⟨kind,client,seq,key,val,old,node⟩).toArray] G [] (DoPost G (if kind=2 then (withG ksP l ⟨key,val,(f.rev+1)⟩,⟨client,seq,0,true,f.val,0⟩) else if kind=4 then (l.filter (fun x=>decide (ksP x≠kn key)),⟨client,seq,0,true,f.val,0⟩) else if kind=5 then (if f.val=old then (withG ksP l ⟨key,val,(f.rev+1)⟩,⟨client,seq,0,true,f.val,(f.rev+1)⟩) else (l,⟨client,seq,15,true,f.val,f.rev⟩)) else (l,⟨client,seq,0,true,f.val,0⟩):List Pr×An)):=by
 obtain ⟨B0,e0,e,hlc,hcm,hsome,hcp⟩:=rowOpen hs
 cases e
 simp only [maxLen] at hcm
 have qw:=refPWith_s ⟨key,val,(f.rev+1)⟩ hs hr hn hz hkz
 have qo:=refWithout_s key hs hn hz hkz
 have e1:((i:Nat):Int).toNat=i:=by omega
 have hA:=hsome (by omega)
 skip
 have hdf:dec ((0:Int)≤(i:Nat))=true:=dec_pos (by omega)
 (refine v_enter Tryz.func180 rfl Tryz.ntmps180 rfl ?_;intro B _)
 repeat' (first|apply v_box (d:=5) (zs:=Cm.cells ⟨kind,client,seq,key,val,old,node⟩);(case hx|hz|hd=>rfl);intro b5|apply v_alloc (d:=7);(case hz|hd=>rfl);intro b7|apply v_alloc (d:=8);(case hz|hd=>rfl);intro b8|apply v_alloc (d:=10);(case hz|hd=>rfl);intro b10|apply v_alloc (d:=11);(case hz|hd=>rfl);intro b11|apply v_read;(case hop=>(apply r_loadNo;(case hx=>rfl);(case h=>exact aM);(case hd|hn=>rfl)));(case hd=>rfl)|refine Wa ?_|(refine Wc ⟨?_,?_⟩<;>first|exact True.intro|intro h)|refine RN hck ?_|refine cJ qp ?_|refine Wr ?_|(refine Wb ?_;intro b)|fail)
 ·rw [if_pos (by assumption)]
  refine cQ rfl qw ?_
  rintro v3 G3 _ hle3 ⟨-,rfl,hw3⟩
  repeat' (first|apply v_box (d:=5) (zs:=Cm.cells ⟨kind,client,seq,key,val,old,node⟩);(case hx|hz|hd=>rfl);intro b5|apply v_alloc (d:=7);(case hz|hd=>rfl);intro b7|apply v_alloc (d:=8);(case hz|hd=>rfl);intro b8|apply v_alloc (d:=10);(case hz|hd=>rfl);intro b10|apply v_alloc (d:=11);(case hz|hd=>rfl);intro b11|apply v_read;(case hop=>(apply r_loadNo;(case hx=>rfl);(case h=>exact aM);(case hd|hn=>rfl)));(case hd=>rfl)|refine Wa ?_|(refine Wc ⟨?_,?_⟩<;>first|exact True.intro|intro h)|refine RN hck ?_|refine cJ qp ?_|refine Wr ?_|(refine Wb ?_;intro b)|fail)
  try rw [hdf]
  refine Dz [(b8,.cells [.int .i64 client,.int .i64 seq,.int .i64 0,.bool true,.string f.val,.int .i64 0].toArray 66 (0,0))] ?_
  all_goals refine Dt [0,1,2] ?_
  all_goals ((apply d_store 3;(case hi=>rfl);(case hr=>kernel_rfl);(case hL=>infer_instance);(case hp|hx|hc|hsz|h1=>rfl);(case hb=>exact aM);(case hfit=>first|exact Nat.le_of_ble_eq_true rfl|rfl);(case hov=>(first|((repeat (first|with_reducible exact ov_nil|apply ov_cons|apply ov_there));done)|rfl));(case hu=>repeat first|exact Upd.here _ _|apply Upd.there|apply Upd.app);(case hν'=>exact aE)))
  all_goals refine Dd ?_
  repeat' (first|refine Wa ?_|(refine Wc ⟨?_,?_⟩<;>first|exact True.intro|intro h)|refine Wr ?_|(refine Wb ?_;intro b)|fail)
  refine v_retM [] (outsM_tc (sz1:=6) (vs1:=[.int .i64 client,.int .i64 seq,.int .i64 0,.bool true,.string f.val,.int .i64 0]) (e1:=66) rfl rfl rfl aM rfl) (List.nil_sublist _) ⟨hle3,rfl,_,rfl,hw3⟩
 ·rw [if_neg (by assumption),if_pos (by assumption)]
  refine cQ rfl qo ?_
  rintro v3 G3 _ hle3 ⟨-,rfl,hw3⟩
  repeat' (first|apply v_box (d:=5) (zs:=Cm.cells ⟨kind,client,seq,key,val,old,node⟩);(case hx|hz|hd=>rfl);intro b5|apply v_alloc (d:=7);(case hz|hd=>rfl);intro b7|apply v_alloc (d:=8);(case hz|hd=>rfl);intro b8|apply v_alloc (d:=10);(case hz|hd=>rfl);intro b10|apply v_alloc (d:=11);(case hz|hd=>rfl);intro b11|apply v_read;(case hop=>(apply r_loadNo;(case hx=>rfl);(case h=>exact aM);(case hd|hn=>rfl)));(case hd=>rfl)|refine Wa ?_|(refine Wc ⟨?_,?_⟩<;>first|exact True.intro|intro h)|refine RN hck ?_|refine cJ qp ?_|refine Wr ?_|(refine Wb ?_;intro b)|fail)
  try rw [hdf]
  refine Dz [(b8,.cells [.int .i64 client,.int .i64 seq,.int .i64 0,.bool true,.string f.val,.int .i64 0].toArray 66 (0,0))] ?_
  all_goals refine Dt [0,1,2] ?_
  all_goals ((apply d_store 3;(case hi=>rfl);(case hr=>kernel_rfl);(case hL=>infer_instance);(case hp|hx|hc|hsz|h1=>rfl);(case hb=>exact aM);(case hfit=>first|exact Nat.le_of_ble_eq_true rfl|rfl);(case hov=>(first|((repeat (first|with_reducible exact ov_nil|apply ov_cons|apply ov_there));done)|rfl));(case hu=>repeat first|exact Upd.here _ _|apply Upd.there|apply Upd.app);(case hν'=>exact aE)))
  all_goals refine Dd ?_
  repeat' (first|refine Wa ?_|(refine Wc ⟨?_,?_⟩<;>first|exact True.intro|intro h)|refine Wr ?_|(refine Wb ?_;intro b)|fail)
  refine v_retM [] (outsM_tc (sz1:=6) (vs1:=[.int .i64 client,.int .i64 seq,.int .i64 0,.bool true,.string f.val,.int .i64 0]) (e1:=66) rfl rfl rfl aM rfl) (List.nil_sublist _) ⟨hle3,rfl,_,rfl,hw3⟩
 ·rw [if_neg (by assumption),if_neg (by assumption),if_pos (by assumption),if_neg (by assumption)]
  try rw [hdf]
  refine Dz [(b8,.cells [.int .i64 client,.int .i64 seq,.int .i64 15,.bool true,.string f.val,.int .i64 f.rev].toArray 66 (0,0))] ?_
  all_goals refine Dt [0,1,2] ?_
  all_goals ((apply d_store 3;(case hi=>rfl);(case hr=>kernel_rfl);(case hL=>infer_instance);(case hp|hx|hc|hsz|h1=>rfl);(case hb=>exact aM);(case hfit=>first|exact Nat.le_of_ble_eq_true rfl|rfl);(case hov=>(first|((repeat (first|with_reducible exact ov_nil|apply ov_cons|apply ov_there));done)|rfl));(case hu=>repeat first|exact Upd.here _ _|apply Upd.there|apply Upd.app);(case hν'=>exact aE)))
  all_goals refine Dd ?_
  repeat' (first|refine Wa ?_|(refine Wc ⟨?_,?_⟩<;>first|exact True.intro|intro h)|refine Wr ?_|(refine Wb ?_;intro b)|fail)
  refine v_retM [] (outsM_tc (sz1:=6) (vs1:=[.int .i64 client,.int .i64 seq,.int .i64 15,.bool true,.string f.val,.int .i64 f.rev]) (e1:=66) rfl rfl rfl aM rfl) (List.nil_sublist _) ⟨GH.le_refl _,rfl,_,rfl,hs⟩
 ·rw [if_neg (by assumption),if_neg (by assumption),if_pos (by assumption),if_pos (by assumption)]
  try rw [hdf]
  refine Dz [(b8,.cells [.int .i64 client,.int .i64 seq,.int .i64 0,.bool true,.string f.val,.int .i64 (f.rev+1)].toArray 66 (0,0)),(b11,.cells [.string key,.string val,.int .i64 (f.rev+1)].toArray 257 (0,0))] ?_
  all_goals refine Dt [0,1,3] ?_
  all_goals (first|((apply d_call 2 (hs:=qw) (μ1:=[]) (μ2:=[(b11,.cells [.string key,.string val,.int .i64 (f.rev+1)].toArray 257 (0,0)),(b10,.cells [.string f.key,.string f.val,.int .i64 f.rev].toArray 257 (0,0)),(b8,.cells [.int .i64 client,.int .i64 seq,.int .i64 0,.bool true,.string f.val,.int .i64 (f.rev+1)].toArray 66 (0,0)),(b7,.cells [.int .i64 0,.int .i64 0,.int .i64 0,.bool false,.string ByteArray.empty,.int .i64 0].toArray 66 (0,0)),(b5,.cells (Cm.cells ⟨kind,client,seq,key,val,old,node⟩).toArray 41 (0,0))]);(case hi=>rfl);(case hr=>kernel_rfl);(case ha=>rfl);(case hp=>exact List.Perm.refl _);(case hd=>rfl);(case hν'=>intro e he;simp only [List.mem_cons,List.not_mem_nil,or_false] at he;rcases he with rfl|rfl<;>simp);rintro v3 G3 _ hle3 ⟨-,rfl,hw3⟩))|apply d_store 2;(case hi=>rfl);(case hr=>kernel_rfl);(case hL=>infer_instance);(case hp|hx|hc|hsz|h1=>rfl);(case hb=>exact aM);(case hfit=>first|exact Nat.le_of_ble_eq_true rfl|rfl);(case hov=>(first|((repeat (first|with_reducible exact ov_nil|apply ov_cons|apply ov_there));done)|rfl));(case hu=>repeat first|exact Upd.here _ _|apply Upd.there|apply Upd.app);(case hν'=>exact aE)|fail)
  all_goals refine Dt [4] ?_
  all_goals (first|((apply d_call 5 (hs:=qw) (μ1:=[]) (μ2:=[(b11,.cells [.string key,.string val,.int .i64 (f.rev+1)].toArray 257 (0,0)),(b10,.cells [.string f.key,.string f.val,.int .i64 f.rev].toArray 257 (0,0)),(b8,.cells [.int .i64 client,.int .i64 seq,.int .i64 0,.bool true,.string f.val,.int .i64 (f.rev+1)].toArray 66 (0,0)),(b7,.cells [.int .i64 0,.int .i64 0,.int .i64 0,.bool false,.string ByteArray.empty,.int .i64 0].toArray 66 (0,0)),(b5,.cells (Cm.cells ⟨kind,client,seq,key,val,old,node⟩).toArray 41 (0,0))]);(case hi=>rfl);(case hr=>kernel_rfl);(case ha=>rfl);(case hp=>exact List.Perm.refl _);(case hd=>rfl);(case hν'=>intro e he;simp only [List.mem_cons,List.not_mem_nil,or_false] at he;rcases he with rfl|rfl<;>simp);rintro v3 G3 _ hle3 ⟨-,rfl,hw3⟩))|apply d_store 5;(case hi=>rfl);(case hr=>kernel_rfl);(case hL=>infer_instance);(case hp|hx|hc|hsz|h1=>rfl);(case hb=>exact aM);(case hfit=>first|exact Nat.le_of_ble_eq_true rfl|rfl);(case hov=>(first|((repeat (first|with_reducible exact ov_nil|apply ov_cons|apply ov_there));done)|rfl));(case hu=>repeat first|exact Upd.here _ _|apply Upd.there|apply Upd.app);(case hν'=>exact aE)|fail)
  all_goals refine Dd ?_
  repeat' (first|refine Wa ?_|(refine Wc ⟨?_,?_⟩<;>first|exact True.intro|intro h)|refine Wr ?_|(refine Wb ?_;intro b)|fail)
  refine v_retM [] (outsM_tc (sz1:=6) (vs1:=[.int .i64 client,.int .i64 seq,.int .i64 0,.bool true,.string f.val,.int .i64 (f.rev+1)]) (e1:=66) rfl rfl rfl aM rfl) (List.nil_sublist _) ⟨hle3,rfl,_,rfl,hw3⟩
 ·rw [if_neg (by assumption),if_neg (by assumption),if_neg (by assumption)]
  try rw [hdf]
  refine Dz [(b8,.cells [.int .i64 client,.int .i64 seq,.int .i64 0,.bool true,.string f.val,.int .i64 0].toArray 66 (0,0))] ?_
  all_goals refine Dt [0,1,2] ?_
  all_goals ((apply d_store 3;(case hi=>rfl);(case hr=>kernel_rfl);(case hL=>infer_instance);(case hp|hx|hc|hsz|h1=>rfl);(case hb=>exact aM);(case hfit=>first|exact Nat.le_of_ble_eq_true rfl|rfl);(case hov=>(first|((repeat (first|with_reducible exact ov_nil|apply ov_cons|apply ov_there));done)|rfl));(case hu=>repeat first|exact Upd.here _ _|apply Upd.there|apply Upd.app);(case hν'=>exact aE)))
  all_goals refine Dd ?_
  repeat' (first|refine Wa ?_|(refine Wc ⟨?_,?_⟩<;>first|exact True.intro|intro h)|refine Wr ?_|(refine Wb ?_;intro b)|fail)
  refine v_retM [] (outsM_tc (sz1:=6) (vs1:=[.int .i64 client,.int .i64 seq,.int .i64 0,.bool true,.string f.val,.int .i64 0]) (e1:=66) rfl rfl rfl aM rfl) (List.nil_sublist _) ⟨GH.le_refl _,rfl,_,rfl,hs⟩
theorem doF2 {G:GH}{l:List Pr}{A:Option Addr}{c:Nat}(kind client seq:Int) (key val old:ByteArray) (node:Int) (hs:Prs G (.slice A l.length c) l) (hr:RiseW ksP l) (hz:Sized l) (hn:l.length≤200) (hkz:key.size≤200) (hk:2≤kind∧kind≤5) (i:Nat) (hi:i<l.length) (f:Pr) (hck:CellsG G ((adr A).add (i*3)) f.cells) (hrev:4294967296≤f.rev) (hrev2:f.rev≤4294967296)
 (qp:Con Tryz.prog 224 #[.slice A l.length c,.string key] G [] (Just (.int .i64 (i:Nat)) G)) :
 Con Tryz.prog 180 #[.int .i64 2,.slice A l.length c,.agg (Cm.cells ⟨kind,client,seq,key,val,old,node⟩).toArray] G [] (DoPost G (if kind=2 then (withG ksP l ⟨key,val,f.rev⟩,⟨client,seq,0,true,f.val,0⟩) else if kind=4 then (l.filter (fun x=>decide (ksP x≠kn key)),⟨client,seq,0,true,f.val,0⟩) else if kind=5 then (if f.val=old then (withG ksP l ⟨key,val,f.rev⟩,⟨client,seq,0,true,f.val,f.rev⟩) else (l,⟨client,seq,15,true,f.val,f.rev⟩)) else (l,⟨client,seq,0,true,f.val,0⟩):List Pr×An)):=by
 obtain ⟨B0,e0,e,hlc,hcm,hsome,hcp⟩:=rowOpen hs
 cases e
 simp only [maxLen] at hcm
 have qw:=refPWith_s ⟨key,val,f.rev⟩ hs hr hn hz hkz
 have qo:=refWithout_s key hs hn hz hkz
 have e1:((i:Nat):Int).toNat=i:=by omega
 have hA:=hsome (by omega)
 skip
 have hdf:dec ((0:Int)≤(i:Nat))=true:=dec_pos (by omega)
 (refine v_enter Tryz.func180 rfl Tryz.ntmps180 rfl ?_;intro B _)
 repeat' (first|apply v_box (d:=5) (zs:=Cm.cells ⟨kind,client,seq,key,val,old,node⟩);(case hx|hz|hd=>rfl);intro b5|apply v_alloc (d:=7);(case hz|hd=>rfl);intro b7|apply v_alloc (d:=8);(case hz|hd=>rfl);intro b8|apply v_alloc (d:=10);(case hz|hd=>rfl);intro b10|apply v_alloc (d:=11);(case hz|hd=>rfl);intro b11|apply v_read;(case hop=>(apply r_loadNo;(case hx=>rfl);(case h=>exact aM);(case hd|hn=>rfl)));(case hd=>rfl)|refine Wa ?_|(refine Wc ⟨?_,?_⟩<;>first|exact True.intro|intro h)|refine RN hck ?_|refine cJ qp ?_|refine Wr ?_|(refine Wb ?_;intro b)|fail)
 ·rw [if_pos (by assumption)]
  refine cQ rfl qw ?_
  rintro v3 G3 _ hle3 ⟨-,rfl,hw3⟩
  repeat' (first|apply v_box (d:=5) (zs:=Cm.cells ⟨kind,client,seq,key,val,old,node⟩);(case hx|hz|hd=>rfl);intro b5|apply v_alloc (d:=7);(case hz|hd=>rfl);intro b7|apply v_alloc (d:=8);(case hz|hd=>rfl);intro b8|apply v_alloc (d:=10);(case hz|hd=>rfl);intro b10|apply v_alloc (d:=11);(case hz|hd=>rfl);intro b11|apply v_read;(case hop=>(apply r_loadNo;(case hx=>rfl);(case h=>exact aM);(case hd|hn=>rfl)));(case hd=>rfl)|refine Wa ?_|(refine Wc ⟨?_,?_⟩<;>first|exact True.intro|intro h)|refine RN hck ?_|refine cJ qp ?_|refine Wr ?_|(refine Wb ?_;intro b)|fail)
  try rw [hdf]
  refine Dz [(b8,.cells [.int .i64 client,.int .i64 seq,.int .i64 0,.bool true,.string f.val,.int .i64 0].toArray 66 (0,0))] ?_
  all_goals refine Dt [0,1,2] ?_
  all_goals ((apply d_store 3;(case hi=>rfl);(case hr=>kernel_rfl);(case hL=>infer_instance);(case hp|hx|hc|hsz|h1=>rfl);(case hb=>exact aM);(case hfit=>first|exact Nat.le_of_ble_eq_true rfl|rfl);(case hov=>(first|((repeat (first|with_reducible exact ov_nil|apply ov_cons|apply ov_there));done)|rfl));(case hu=>repeat first|exact Upd.here _ _|apply Upd.there|apply Upd.app);(case hν'=>exact aE)))
  all_goals refine Dd ?_
  repeat' (first|refine Wa ?_|(refine Wc ⟨?_,?_⟩<;>first|exact True.intro|intro h)|refine Wr ?_|(refine Wb ?_;intro b)|fail)
  refine v_retM [] (outsM_tc (sz1:=6) (vs1:=[.int .i64 client,.int .i64 seq,.int .i64 0,.bool true,.string f.val,.int .i64 0]) (e1:=66) rfl rfl rfl aM rfl) (List.nil_sublist _) ⟨hle3,rfl,_,rfl,hw3⟩
 ·rw [if_neg (by assumption),if_pos (by assumption)]
  refine cQ rfl qo ?_
  rintro v3 G3 _ hle3 ⟨-,rfl,hw3⟩
  repeat' (first|apply v_box (d:=5) (zs:=Cm.cells ⟨kind,client,seq,key,val,old,node⟩);(case hx|hz|hd=>rfl);intro b5|apply v_alloc (d:=7);(case hz|hd=>rfl);intro b7|apply v_alloc (d:=8);(case hz|hd=>rfl);intro b8|apply v_alloc (d:=10);(case hz|hd=>rfl);intro b10|apply v_alloc (d:=11);(case hz|hd=>rfl);intro b11|apply v_read;(case hop=>(apply r_loadNo;(case hx=>rfl);(case h=>exact aM);(case hd|hn=>rfl)));(case hd=>rfl)|refine Wa ?_|(refine Wc ⟨?_,?_⟩<;>first|exact True.intro|intro h)|refine RN hck ?_|refine cJ qp ?_|refine Wr ?_|(refine Wb ?_;intro b)|fail)
  try rw [hdf]
  refine Dz [(b8,.cells [.int .i64 client,.int .i64 seq,.int .i64 0,.bool true,.string f.val,.int .i64 0].toArray 66 (0,0))] ?_
  all_goals refine Dt [0,1,2] ?_
  all_goals ((apply d_store 3;(case hi=>rfl);(case hr=>kernel_rfl);(case hL=>infer_instance);(case hp|hx|hc|hsz|h1=>rfl);(case hb=>exact aM);(case hfit=>first|exact Nat.le_of_ble_eq_true rfl|rfl);(case hov=>(first|((repeat (first|with_reducible exact ov_nil|apply ov_cons|apply ov_there));done)|rfl));(case hu=>repeat first|exact Upd.here _ _|apply Upd.there|apply Upd.app);(case hν'=>exact aE)))
  all_goals refine Dd ?_
  repeat' (first|refine Wa ?_|(refine Wc ⟨?_,?_⟩<;>first|exact True.intro|intro h)|refine Wr ?_|(refine Wb ?_;intro b)|fail)
  refine v_retM [] (outsM_tc (sz1:=6) (vs1:=[.int .i64 client,.int .i64 seq,.int .i64 0,.bool true,.string f.val,.int .i64 0]) (e1:=66) rfl rfl rfl aM rfl) (List.nil_sublist _) ⟨hle3,rfl,_,rfl,hw3⟩
 ·rw [if_neg (by assumption),if_neg (by assumption),if_pos (by assumption),if_neg (by assumption)]
  try rw [hdf]
  refine Dz [(b8,.cells [.int .i64 client,.int .i64 seq,.int .i64 15,.bool true,.string f.val,.int .i64 f.rev].toArray 66 (0,0))] ?_
  all_goals refine Dt [0,1,2] ?_
  all_goals ((apply d_store 3;(case hi=>rfl);(case hr=>kernel_rfl);(case hL=>infer_instance);(case hp|hx|hc|hsz|h1=>rfl);(case hb=>exact aM);(case hfit=>first|exact Nat.le_of_ble_eq_true rfl|rfl);(case hov=>(first|((repeat (first|with_reducible exact ov_nil|apply ov_cons|apply ov_there));done)|rfl));(case hu=>repeat first|exact Upd.here _ _|apply Upd.there|apply Upd.app);(case hν'=>exact aE)))
  all_goals refine Dd ?_
  repeat' (first|refine Wa ?_|(refine Wc ⟨?_,?_⟩<;>first|exact True.intro|intro h)|refine Wr ?_|(refine Wb ?_;intro b)|fail)
  refine v_retM [] (outsM_tc (sz1:=6) (vs1:=[.int .i64 client,.int .i64 seq,.int .i64 15,.bool true,.string f.val,.int .i64 f.rev]) (e1:=66) rfl rfl rfl aM rfl) (List.nil_sublist _) ⟨GH.le_refl _,rfl,_,rfl,hs⟩
 ·rw [if_neg (by assumption),if_neg (by assumption),if_pos (by assumption),if_pos (by assumption)]
  try rw [hdf]
  refine Dz [(b8,.cells [.int .i64 client,.int .i64 seq,.int .i64 0,.bool true,.string f.val,.int .i64 f.rev].toArray 66 (0,0)),(b11,.cells [.string key,.string val,.int .i64 f.rev].toArray 257 (0,0))] ?_
  all_goals refine Dt [0,1,3] ?_
  all_goals (first|((apply d_call 2 (hs:=qw) (μ1:=[]) (μ2:=[(b11,.cells [.string key,.string val,.int .i64 f.rev].toArray 257 (0,0)),(b10,.cells [.string f.key,.string f.val,.int .i64 f.rev].toArray 257 (0,0)),(b8,.cells [.int .i64 client,.int .i64 seq,.int .i64 0,.bool true,.string f.val,.int .i64 f.rev].toArray 66 (0,0)),(b7,.cells [.int .i64 0,.int .i64 0,.int .i64 0,.bool false,.string ByteArray.empty,.int .i64 0].toArray 66 (0,0)),(b5,.cells (Cm.cells ⟨kind,client,seq,key,val,old,node⟩).toArray 41 (0,0))]);(case hi=>rfl);(case hr=>kernel_rfl);(case ha=>rfl);(case hp=>exact List.Perm.refl _);(case hd=>rfl);(case hν'=>intro e he;simp only [List.mem_cons,List.not_mem_nil,or_false] at he;rcases he with rfl|rfl<;>simp);rintro v3 G3 _ hle3 ⟨-,rfl,hw3⟩))|apply d_store 2;(case hi=>rfl);(case hr=>kernel_rfl);(case hL=>infer_instance);(case hp|hx|hc|hsz|h1=>rfl);(case hb=>exact aM);(case hfit=>first|exact Nat.le_of_ble_eq_true rfl|rfl);(case hov=>(first|((repeat (first|with_reducible exact ov_nil|apply ov_cons|apply ov_there));done)|rfl));(case hu=>repeat first|exact Upd.here _ _|apply Upd.there|apply Upd.app);(case hν'=>exact aE)|fail)
  all_goals refine Dt [4] ?_
  all_goals (first|((apply d_call 5 (hs:=qw) (μ1:=[]) (μ2:=[(b11,.cells [.string key,.string val,.int .i64 f.rev].toArray 257 (0,0)),(b10,.cells [.string f.key,.string f.val,.int .i64 f.rev].toArray 257 (0,0)),(b8,.cells [.int .i64 client,.int .i64 seq,.int .i64 0,.bool true,.string f.val,.int .i64 f.rev].toArray 66 (0,0)),(b7,.cells [.int .i64 0,.int .i64 0,.int .i64 0,.bool false,.string ByteArray.empty,.int .i64 0].toArray 66 (0,0)),(b5,.cells (Cm.cells ⟨kind,client,seq,key,val,old,node⟩).toArray 41 (0,0))]);(case hi=>rfl);(case hr=>kernel_rfl);(case ha=>rfl);(case hp=>exact List.Perm.refl _);(case hd=>rfl);(case hν'=>intro e he;simp only [List.mem_cons,List.not_mem_nil,or_false] at he;rcases he with rfl|rfl<;>simp);rintro v3 G3 _ hle3 ⟨-,rfl,hw3⟩))|apply d_store 5;(case hi=>rfl);(case hr=>kernel_rfl);(case hL=>infer_instance);(case hp|hx|hc|hsz|h1=>rfl);(case hb=>exact aM);(case hfit=>first|exact Nat.le_of_ble_eq_true rfl|rfl);(case hov=>(first|((repeat (first|with_reducible exact ov_nil|apply ov_cons|apply ov_there));done)|rfl));(case hu=>repeat first|exact Upd.here _ _|apply Upd.there|apply Upd.app);(case hν'=>exact aE)|fail)
  all_goals refine Dd ?_
  repeat' (first|refine Wa ?_|(refine Wc ⟨?_,?_⟩<;>first|exact True.intro|intro h)|refine Wr ?_|(refine Wb ?_;intro b)|fail)
  refine v_retM [] (outsM_tc (sz1:=6) (vs1:=[.int .i64 client,.int .i64 seq,.int .i64 0,.bool true,.string f.val,.int .i64 f.rev]) (e1:=66) rfl rfl rfl aM rfl) (List.nil_sublist _) ⟨hle3,rfl,_,rfl,hw3⟩
 ·rw [if_neg (by assumption),if_neg (by assumption),if_neg (by assumption)]
  try rw [hdf]
  refine Dz [(b8,.cells [.int .i64 client,.int .i64 seq,.int .i64 0,.bool true,.string f.val,.int .i64 0].toArray 66 (0,0))] ?_
  all_goals refine Dt [0,1,2] ?_
  all_goals ((apply d_store 3;(case hi=>rfl);(case hr=>kernel_rfl);(case hL=>infer_instance);(case hp|hx|hc|hsz|h1=>rfl);(case hb=>exact aM);(case hfit=>first|exact Nat.le_of_ble_eq_true rfl|rfl);(case hov=>(first|((repeat (first|with_reducible exact ov_nil|apply ov_cons|apply ov_there));done)|rfl));(case hu=>repeat first|exact Upd.here _ _|apply Upd.there|apply Upd.app);(case hν'=>exact aE)))
  all_goals refine Dd ?_
  repeat' (first|refine Wa ?_|(refine Wc ⟨?_,?_⟩<;>first|exact True.intro|intro h)|refine Wr ?_|(refine Wb ?_;intro b)|fail)
  refine v_retM [] (outsM_tc (sz1:=6) (vs1:=[.int .i64 client,.int .i64 seq,.int .i64 0,.bool true,.string f.val,.int .i64 0]) (e1:=66) rfl rfl rfl aM rfl) (List.nil_sublist _) ⟨GH.le_refl _,rfl,_,rfl,hs⟩
theorem psOk_sized {z:Int}{l:List Pr}(h:PsOk z l):Sized l:=fun x hx=>by
 have:=(h.2.2 x hx).1
 have a:=keyB_size this.1
 have b:=valB_size this.2
 omega
theorem refDo_s {G:GH}{l:List Pr}{sv:Value}{z:Int}(c:Cm) (hs:Prs G sv l) (hok:PsOk z l) (hz:z=1∨z=2) (hk:2≤c.kind∧c.kind≤5) (h5:c.kind=5→z=2) (hkz:c.key.size≤200) :
 Con Tryz.prog 180 #[.int .i64 z,sv,.agg c.cells.toArray] G [] (DoPost G (doS z l c)):=by
 have hsz:=psOk_sized hok
 have hn:l.length≤200:=by have:=hok.1;omega
 have qp:=refPlace_s c.key hs hok.2.1 hsz hkz
 rw [doR_eq c hz hk h5]
 unfold doR prR
 obtain ⟨A,c0,rfl,hlc,hcm,hsome,hcp⟩:=rowOpen hs
 obtain ⟨kind,client,seq,key,val,old,node⟩:=c
 simp only at *
 cases hh:hitG ksP l (kn key) with
 | false =>
  have hf:findP l (kn key)=zeroPr:=by unfold findP;rw [dif_neg (by rw [hh];simp)]
  rw [hh,if_neg (by simp)] at qp
  rw [hf]
  have e2:nextR zeroPr.rev=1:=by decide
  rcases hz with rfl|rfl
  ·have:=doN1 kind client seq key val old node hs hok.2.1 hsz hn hkz hk (fun h=>absurd (h5 h) (by omega)) qp
   simpa [ans0,zeroPr] using this
  ·have:=doN2 kind client seq key val old node hs hok.2.1 hsz hn hkz hk qp
   rw [e2]
   simpa [ans0,zeroPr] using this
 | true =>
  have hlt:=hitG_lt hh
  have hf:findP l (kn key)=l[placeG ksP l (kn key)]:=by unfold findP;rw [dif_pos hh]
  rw [hh,if_pos rfl] at qp
  rw [hf]
  have hck:=hcp _ hlt
  have hrev:=(hok.2.2 _ (List.getElem_mem hlt)).2
  unfold RevOk at hrev
  generalize l[placeG ksP l (kn key)]=f at *
  generalize placeG ksP l (kn key)=i at *
  rcases hz with rfl|rfl
  ·have:=doH1 kind client seq key val old node hs hok.2.1 hsz hn hkz hk (fun h=>absurd (h5 h) (by omega)) i hlt f hck qp
   simpa [ans0] using this
  ·by_cases hb:f.rev<4294967296
   ·have e2:nextR f.rev=f.rev+1:=by unfold nextR;omega
    have:=doH2 kind client seq key val old node hs hok.2.1 hsz hn hkz hk i hlt f hck hb (by omega) qp
    rw [e2]
    simpa [ans0] using this
   ·have e2:nextR f.rev=f.rev:=by unfold nextR;omega
    have:=doF2 kind client seq key val old node hs hok.2.1 hsz hn hkz hk i hlt f hck (by omega) (by omega) qp
    rw [e2]
    simpa [ans0] using this
theorem which_last {l:List Ss}(h:SesP l) {n q:Int}(hq:1≤q) :
 ((whichS l n q).1=1↔(0<(lastS l n).1∧q=(lastS l n).1))∧((whichS l n q).1=2↔q<(lastS l n).1)∧((whichS l n q).1=1→(whichS l n q).2=(lastS l n).2):=by
 unfold whichS lastS
 cases hh:hitG ksS l n with
 | false=>simp;omega
 | true =>
  have hm:=sesAt_mem (riseG_pw.1 (adjS_rise h.1)) hh
  obtain ⟨h1,h2,h3⟩:=h.2 _ hm.1
  have h4:=(ansI_zero.1 h3).1.2.1
  simp only [Bool.true_eq_false,if_false,if_true]
  by_cases a:(sesAt l n).seq<q
  ·rw [if_pos a];simp;omega
  ·rw [if_neg a]
   by_cases b:q=(sesAt l n).seq
   ·rw [if_pos b];simp;omega
   ·rw [if_neg b];simp;omega
set_option maxHeartbeats 1000000 in
theorem refApply_s {G:GH}{s:St}{v:Value}(c:Cm) (hs:StV G s v) (hok:StP s) (hc:cmdI c=0) (hkz:c.key.size≤200) :
 Con Tryz.prog 132 #[v,.agg c.cells.toArray] G [] (fun r G' μ'=>GH.le G G'∧μ'=[]∧∃ v',r=.tuple [v',.agg (applyS s c).2.1.cells.toArray].toArray∧StV G' (applyS s c).1 v'):=by
 obtain ⟨A,c0,A',c',rfl,hp,hss⟩:=id hs
 obtain ⟨h1,h2,h3,h4⟩:=stP_iff.1 hok
 have hrw:=riseG_pw.1 (adjS_rise h1.1)
 have qo:=owned_s G c.kind
 have qh:=refHas7_s s.schema c.kind G
 have ql:=refLast_s c.client hss hrw
 have qr:=refRevs_s 2 1 hs (by have:=h3.1;omega)
 have qd:=fun a b=>refDo_s (z:=s.schema) c hp h3 h2 a b hkz
 have qs:=fun G' (hle:GH.le G G') a=>refSWith_s a (hss.mono hle) hrw (by have:=sesP_few h1;omega)
 have hc':=(cmd_ok hc).2.1
 have hwl:=fun (hq:1≤c.seq)=>which_last (n:=c.client) (q:=c.seq) h1 hq
 have hup:revsS s 2 1=upS s:=rfl
 have hvs:verS s.schema=s.schema:=by unfold verS;rcases h2 with h|h<;>rw [h]<;>simp
 unfold applyS clientS
 rw [if_neg (by simp [hc]),hvs]
 clear hc hvs
 obtain ⟨schema,lp,ls⟩:=s
 obtain ⟨kind,cl,seq,key,val,old,node⟩:=c
 simp only at *
 generalize whichS ls cl seq=w at *
 obtain ⟨wk,wa⟩:=w
 generalize lastS ls cl=la at *
 obtain ⟨lq,⟨ac,aq,ae,af,av,ar⟩⟩:=la
 generalize doS schema lp ⟨kind,cl,seq,key,val,old,node⟩=dd at *
 obtain ⟨l1,d⟩:=dd
 obtain ⟨dc,dq,de,df,dv,dr⟩:=d
 simp only at *
 (refine v_enter Tryz.func132 rfl Tryz.ntmps132 rfl ?_;intro B _)
 by_cases ho:2≤kind∧kind≤5
 ·rw [decide_eq_true ho] at qo
  rw [if_pos ho]
  obtain ⟨hc1,hc2,hc3⟩:=hc' ho
  obtain ⟨w1,w2,w3⟩:=hwl hc2.1
  by_cases hh:HasP schema kind
  ·rw [decide_eq_true hh] at qh
   repeat' (first|apply v_box (d:=2) (zs:=[.int .i64 schema,.slice A lp.length c0,.slice A' ls.length c']);(case hx|hz|hd=>rfl);intro b2|apply v_box (d:=3) (zs:=Cm.cells ⟨kind,cl,seq,key,val,old,node⟩);(case hx|hz|hd=>rfl);intro b3|apply v_alloc (d:=4);(case hz|hd=>rfl);intro b4|apply v_alloc (d:=5);(case hz|hd=>rfl);intro b5|apply v_alloc (d:=7);(case hz|hd=>rfl);intro b7|apply v_alloc (d:=8);(case hz|hd=>rfl);intro b8|apply v_alloc (d:=10);(case hz|hd=>rfl);intro b10|apply v_read;(case hop=>(apply r_loadNo;(case hx=>rfl);(case h=>exact aM);(case hd|hn=>rfl)));(case hd=>rfl)|refine Wa ?_|(refine Wc ⟨?_,?_⟩<;>first|exact True.intro|intro h)|refine cJ qo ?_|refine cJ qh ?_|refine cJ ql ?_|refine Wr ?_|(refine Wb ?_;intro b)|fail)
   ·have hw1:wk=1:=w1.2 ⟨by omega,by omega⟩
    obtain rfl:=w3 hw1
    rw [if_pos hw1]
    refine Dz [(b2,.cells [.int .i64 schema,.slice A lp.length c0,.slice A' ls.length c'].toArray 57 (0,0)),(b7,.cells [.int .i64 ac,.int .i64 aq,.int .i64 ae,.bool af,.string av,.int .i64 ar].toArray 66 (0,0))] ?_
    all_goals refine Dt [0,1] ?_
    all_goals ((apply d_store 2;(case hi=>rfl);(case hr=>kernel_rfl);(case hL=>infer_instance);(case hp|hx|hc|hsz|h1=>rfl);(case hb=>exact aM);(case hfit=>first|exact Nat.le_of_ble_eq_true rfl|rfl);(case hov=>(first|((repeat (first|with_reducible exact ov_nil|apply ov_cons|apply ov_there));done)|rfl));(case hu=>repeat first|exact Upd.here _ _|apply Upd.there|apply Upd.app);(case hν'=>exact aE)))
    all_goals ((apply d_store 3;(case hi=>rfl);(case hr=>kernel_rfl);(case hL=>infer_instance);(case hp|hx|hc|hsz|h1=>rfl);(case hb=>exact aM);(case hfit=>first|exact Nat.le_of_ble_eq_true rfl|rfl);(case hov=>(first|((repeat (first|with_reducible exact ov_nil|apply ov_cons|apply ov_there));done)|rfl));(case hu=>repeat first|exact Upd.here _ _|apply Upd.there|apply Upd.app);(case hν'=>exact aE)))
    all_goals refine Dd ?_
    repeat' (first|refine Wa ?_|(refine Wc ⟨?_,?_⟩<;>first|exact True.intro|intro h)|refine Wr ?_|(refine Wb ?_;intro b)|fail)
    refine v_retM [] (outsM_cc (sz0:=3) (vs0:=[.int .i64 schema,.slice A lp.length c0,.slice A' ls.length c']) (e0:=57) (sz1:=6) (vs1:=[.int .i64 ac,.int .i64 aq,.int .i64 ae,.bool af,.string av,.int .i64 ar]) (e1:=66) rfl rfl aM rfl rfl aM rfl) (List.nil_sublist _) ⟨GH.le_refl _,rfl,_,rfl,hs⟩
   ·rw [if_neg (fun h=>by have:=w1.1 h;omega),if_pos (w2.2 (by omega))]
    refine Dz [(b2,.cells [.int .i64 schema,.slice A lp.length c0,.slice A' ls.length c'].toArray 57 (0,0)),(b8,.cells [.int .i64 cl,.int .i64 seq,.int .i64 15,.bool false,.string ByteArray.empty,.int .i64 0].toArray 66 (0,0))] ?_
    all_goals refine Dt [0,1] ?_
    all_goals ((apply d_store 2;(case hi=>rfl);(case hr=>kernel_rfl);(case hL=>infer_instance);(case hp|hx|hc|hsz|h1=>rfl);(case hb=>exact aM);(case hfit=>first|exact Nat.le_of_ble_eq_true rfl|rfl);(case hov=>(first|((repeat (first|with_reducible exact ov_nil|apply ov_cons|apply ov_there));done)|rfl));(case hu=>repeat first|exact Upd.here _ _|apply Upd.there|apply Upd.app);(case hν'=>exact aE)))
    all_goals ((apply d_store 3;(case hi=>rfl);(case hr=>kernel_rfl);(case hL=>infer_instance);(case hp|hx|hc|hsz|h1=>rfl);(case hb=>exact aM);(case hfit=>first|exact Nat.le_of_ble_eq_true rfl|rfl);(case hov=>(first|((repeat (first|with_reducible exact ov_nil|apply ov_cons|apply ov_there));done)|rfl));(case hu=>repeat first|exact Upd.here _ _|apply Upd.there|apply Upd.app);(case hν'=>exact aE)))
    all_goals refine Dd ?_
    repeat' (first|refine Wa ?_|(refine Wc ⟨?_,?_⟩<;>first|exact True.intro|intro h)|refine Wr ?_|(refine Wb ?_;intro b)|fail)
    refine v_retM [] (outsM_cc (sz0:=3) (vs0:=[.int .i64 schema,.slice A lp.length c0,.slice A' ls.length c']) (e0:=57) (sz1:=6) (vs1:=[.int .i64 cl,.int .i64 seq,.int .i64 15,.bool false,.string ByteArray.empty,.int .i64 0]) (e1:=66) rfl rfl aM rfl rfl aM rfl) (List.nil_sublist _) ⟨GH.le_refl _,rfl,_,rfl,hs⟩
   ·rw [if_neg (fun h=>by have:=w1.1 h;omega),if_neg (fun h=>by have:=w2.1 h;omega),if_pos hh]
    refine cQ rfl (qd ho (fun h=>by have:=hh.2.2.2 h;omega)) ?_
    rintro _ G3 _ hle3 ⟨-,rfl,v3,rfl,hp3⟩
    obtain ⟨A3,c3,rfl,-⟩:=id hp3.open
    have qw:=qs G3 hle3 ⟨dc,dq,de,df,dv,dr⟩
    repeat' (first|apply v_box (d:=2) (zs:=[.int .i64 schema,.slice A lp.length c0,.slice A' ls.length c']);(case hx|hz|hd=>rfl);intro b2|apply v_box (d:=3) (zs:=Cm.cells ⟨kind,cl,seq,key,val,old,node⟩);(case hx|hz|hd=>rfl);intro b3|apply v_alloc (d:=4);(case hz|hd=>rfl);intro b4|apply v_alloc (d:=5);(case hz|hd=>rfl);intro b5|apply v_alloc (d:=7);(case hz|hd=>rfl);intro b7|apply v_alloc (d:=8);(case hz|hd=>rfl);intro b8|apply v_alloc (d:=10);(case hz|hd=>rfl);intro b10|apply v_read;(case hop=>(apply r_loadNo;(case hx=>rfl);(case h=>exact aM);(case hd|hn=>rfl)));(case hd=>rfl)|refine Wa ?_|(refine Wc ⟨?_,?_⟩<;>first|exact True.intro|intro h)|refine cJ qo ?_|refine cJ qh ?_|refine cJ ql ?_|refine Wr ?_|(refine Wb ?_;intro b)|fail)
    refine Dz [(b2,.cells [.int .i64 schema,.slice A lp.length c0,.slice A' ls.length c'].toArray 57 (0,0)),(b10,.cells [.int .i64 dc,.int .i64 dq,.int .i64 de,.bool df,.string dv,.int .i64 dr].toArray 66 (0,0))] ?_
    all_goals refine Dt [0,1,2,3,4,5,8] ?_
    all_goals (first|((apply d_call 6 (hs:=qw) (μ1:=[]) (μ2:=[(b10,.cells [.int .i64 dc,.int .i64 dq,.int .i64 de,.bool df,.string dv,.int .i64 dr].toArray 66 (0,0)),(b8,.cells [.int .i64 cl,.int .i64 seq,.int .i64 0,.bool false,.string ByteArray.empty,.int .i64 0].toArray 66 (0,0)),(b7,.cells [.int .i64 ac,.int .i64 aq,.int .i64 ae,.bool af,.string av,.int .i64 ar].toArray 66 (0,0)),(b5,.cells [.int .i64 0,.int .i64 0,.int .i64 0,.bool false,.string ByteArray.empty,.int .i64 0].toArray 66 (0,0)),(b4,.cells [.int .i64 0,.slice none 0 0,.slice none 0 0].toArray 57 (0,0)),(b3,.cells (Cm.cells ⟨kind,cl,seq,key,val,old,node⟩).toArray 41 (0,0)),(b2,.cells [.int .i64 schema,.slice A lp.length c0,.slice A' ls.length c'].toArray 57 (0,0))]);(case hi=>rfl);(case hr=>kernel_rfl);(case ha=>rfl);(case hp=>exact List.Perm.refl _);(case hd=>rfl);(case hν'=>intro e he;simp only [List.mem_cons,List.not_mem_nil,or_false] at he;rcases he with rfl|rfl<;>simp);rintro v4 G4 _ hle4 ⟨-,rfl,hw4⟩;obtain ⟨A4,c4,rfl,-⟩:=id hw4.open))|apply d_store 6;(case hi=>rfl);(case hr=>kernel_rfl);(case hL=>infer_instance);(case hp|hx|hc|hsz|h1=>rfl);(case hb=>exact aM);(case hfit=>first|exact Nat.le_of_ble_eq_true rfl|rfl);(case hov=>(first|((repeat (first|with_reducible exact ov_nil|apply ov_cons|apply ov_there));done)|rfl));(case hu=>repeat first|exact Upd.here _ _|apply Upd.there|apply Upd.app);(case hν'=>exact aE)|fail)
    all_goals refine Dt [7] ?_
    all_goals (first|((apply d_call 9 (hs:=qw) (μ1:=[]) (μ2:=[(b10,.cells [.int .i64 dc,.int .i64 dq,.int .i64 de,.bool df,.string dv,.int .i64 dr].toArray 66 (0,0)),(b8,.cells [.int .i64 cl,.int .i64 seq,.int .i64 0,.bool false,.string ByteArray.empty,.int .i64 0].toArray 66 (0,0)),(b7,.cells [.int .i64 ac,.int .i64 aq,.int .i64 ae,.bool af,.string av,.int .i64 ar].toArray 66 (0,0)),(b5,.cells [.int .i64 0,.int .i64 0,.int .i64 0,.bool false,.string ByteArray.empty,.int .i64 0].toArray 66 (0,0)),(b4,.cells [.int .i64 0,.slice none 0 0,.slice none 0 0].toArray 57 (0,0)),(b3,.cells (Cm.cells ⟨kind,cl,seq,key,val,old,node⟩).toArray 41 (0,0)),(b2,.cells [.int .i64 schema,.slice A lp.length c0,.slice A' ls.length c'].toArray 57 (0,0))]);(case hi=>rfl);(case hr=>kernel_rfl);(case ha=>rfl);(case hp=>exact List.Perm.refl _);(case hd=>rfl);(case hν'=>intro e he;simp only [List.mem_cons,List.not_mem_nil,or_false] at he;rcases he with rfl|rfl<;>simp);rintro v4 G4 _ hle4 ⟨-,rfl,hw4⟩;obtain ⟨A4,c4,rfl,-⟩:=id hw4.open))|apply d_store 9;(case hi=>rfl);(case hr=>kernel_rfl);(case hL=>infer_instance);(case hp|hx|hc|hsz|h1=>rfl);(case hb=>exact aM);(case hfit=>first|exact Nat.le_of_ble_eq_true rfl|rfl);(case hov=>(first|((repeat (first|with_reducible exact ov_nil|apply ov_cons|apply ov_there));done)|rfl));(case hu=>repeat first|exact Upd.here _ _|apply Upd.there|apply Upd.app);(case hν'=>exact aE)|fail)
    all_goals (first|((apply d_call 10 (hs:=qw) (μ1:=[]) (μ2:=[(b10,.cells [.int .i64 dc,.int .i64 dq,.int .i64 de,.bool df,.string dv,.int .i64 dr].toArray 66 (0,0)),(b8,.cells [.int .i64 cl,.int .i64 seq,.int .i64 0,.bool false,.string ByteArray.empty,.int .i64 0].toArray 66 (0,0)),(b7,.cells [.int .i64 ac,.int .i64 aq,.int .i64 ae,.bool af,.string av,.int .i64 ar].toArray 66 (0,0)),(b5,.cells [.int .i64 0,.int .i64 0,.int .i64 0,.bool false,.string ByteArray.empty,.int .i64 0].toArray 66 (0,0)),(b4,.cells [.int .i64 0,.slice none 0 0,.slice none 0 0].toArray 57 (0,0)),(b3,.cells (Cm.cells ⟨kind,cl,seq,key,val,old,node⟩).toArray 41 (0,0)),(b2,.cells [.int .i64 schema,.slice A lp.length c0,.slice A' ls.length c'].toArray 57 (0,0))]);(case hi=>rfl);(case hr=>kernel_rfl);(case ha=>rfl);(case hp=>exact List.Perm.refl _);(case hd=>rfl);(case hν'=>intro e he;simp only [List.mem_cons,List.not_mem_nil,or_false] at he;rcases he with rfl|rfl<;>simp);rintro v4 G4 _ hle4 ⟨-,rfl,hw4⟩;obtain ⟨A4,c4,rfl,-⟩:=id hw4.open))|apply d_store 10;(case hi=>rfl);(case hr=>kernel_rfl);(case hL=>infer_instance);(case hp|hx|hc|hsz|h1=>rfl);(case hb=>exact aM);(case hfit=>first|exact Nat.le_of_ble_eq_true rfl|rfl);(case hov=>(first|((repeat (first|with_reducible exact ov_nil|apply ov_cons|apply ov_there));done)|rfl));(case hu=>repeat first|exact Upd.here _ _|apply Upd.there|apply Upd.app);(case hν'=>exact aE)|fail)
    all_goals refine Dd ?_
    repeat' (first|refine Wa ?_|(refine Wc ⟨?_,?_⟩<;>first|exact True.intro|intro h)|refine Wr ?_|(refine Wb ?_;intro b)|fail)
    refine v_retM [] (outsM_cc (sz0:=3) (vs0:=[.int .i64 schema,.slice A3 l1.length c3,.slice A4 (withG ksS ls (sesOf ⟨dc,dq,de,df,dv,dr⟩)).length c4]) (e0:=57) (sz1:=6) (vs1:=[.int .i64 dc,.int .i64 dq,.int .i64 de,.bool df,.string dv,.int .i64 dr]) (e1:=66) rfl rfl aM rfl rfl aM rfl) (List.nil_sublist _) ⟨GH.le_trans hle3 hle4,rfl,_,rfl,A3,c3,A4,c4,rfl,hp3.mono hle4,hw4⟩
   ·rw [if_neg (fun h=>by have:=w1.1 h;omega),if_neg (fun h=>by have:=w2.1 h;omega),if_pos hh]
    refine cQ rfl (qd ho (fun h=>by have:=hh.2.2.2 h;omega)) ?_
    rintro _ G3 _ hle3 ⟨-,rfl,v3,rfl,hp3⟩
    obtain ⟨A3,c3,rfl,-⟩:=id hp3.open
    have qw:=qs G3 hle3 ⟨dc,dq,de,df,dv,dr⟩
    repeat' (first|apply v_box (d:=2) (zs:=[.int .i64 schema,.slice A lp.length c0,.slice A' ls.length c']);(case hx|hz|hd=>rfl);intro b2|apply v_box (d:=3) (zs:=Cm.cells ⟨kind,cl,seq,key,val,old,node⟩);(case hx|hz|hd=>rfl);intro b3|apply v_alloc (d:=4);(case hz|hd=>rfl);intro b4|apply v_alloc (d:=5);(case hz|hd=>rfl);intro b5|apply v_alloc (d:=7);(case hz|hd=>rfl);intro b7|apply v_alloc (d:=8);(case hz|hd=>rfl);intro b8|apply v_alloc (d:=10);(case hz|hd=>rfl);intro b10|apply v_read;(case hop=>(apply r_loadNo;(case hx=>rfl);(case h=>exact aM);(case hd|hn=>rfl)));(case hd=>rfl)|refine Wa ?_|(refine Wc ⟨?_,?_⟩<;>first|exact True.intro|intro h)|refine cJ qo ?_|refine cJ qh ?_|refine cJ ql ?_|refine Wr ?_|(refine Wb ?_;intro b)|fail)
    refine Dz [(b2,.cells [.int .i64 schema,.slice A lp.length c0,.slice A' ls.length c'].toArray 57 (0,0)),(b10,.cells [.int .i64 dc,.int .i64 dq,.int .i64 de,.bool df,.string dv,.int .i64 dr].toArray 66 (0,0))] ?_
    all_goals refine Dt [0,1,2,3,4,5,8] ?_
    all_goals (first|((apply d_call 6 (hs:=qw) (μ1:=[]) (μ2:=[(b10,.cells [.int .i64 dc,.int .i64 dq,.int .i64 de,.bool df,.string dv,.int .i64 dr].toArray 66 (0,0)),(b8,.cells [.int .i64 cl,.int .i64 seq,.int .i64 0,.bool false,.string ByteArray.empty,.int .i64 0].toArray 66 (0,0)),(b7,.cells [.int .i64 ac,.int .i64 aq,.int .i64 ae,.bool af,.string av,.int .i64 ar].toArray 66 (0,0)),(b5,.cells [.int .i64 0,.int .i64 0,.int .i64 0,.bool false,.string ByteArray.empty,.int .i64 0].toArray 66 (0,0)),(b4,.cells [.int .i64 0,.slice none 0 0,.slice none 0 0].toArray 57 (0,0)),(b3,.cells (Cm.cells ⟨kind,cl,seq,key,val,old,node⟩).toArray 41 (0,0)),(b2,.cells [.int .i64 schema,.slice A lp.length c0,.slice A' ls.length c'].toArray 57 (0,0))]);(case hi=>rfl);(case hr=>kernel_rfl);(case ha=>rfl);(case hp=>exact List.Perm.refl _);(case hd=>rfl);(case hν'=>intro e he;simp only [List.mem_cons,List.not_mem_nil,or_false] at he;rcases he with rfl|rfl<;>simp);rintro v4 G4 _ hle4 ⟨-,rfl,hw4⟩;obtain ⟨A4,c4,rfl,-⟩:=id hw4.open))|apply d_store 6;(case hi=>rfl);(case hr=>kernel_rfl);(case hL=>infer_instance);(case hp|hx|hc|hsz|h1=>rfl);(case hb=>exact aM);(case hfit=>first|exact Nat.le_of_ble_eq_true rfl|rfl);(case hov=>(first|((repeat (first|with_reducible exact ov_nil|apply ov_cons|apply ov_there));done)|rfl));(case hu=>repeat first|exact Upd.here _ _|apply Upd.there|apply Upd.app);(case hν'=>exact aE)|fail)
    all_goals refine Dt [7] ?_
    all_goals (first|((apply d_call 9 (hs:=qw) (μ1:=[]) (μ2:=[(b10,.cells [.int .i64 dc,.int .i64 dq,.int .i64 de,.bool df,.string dv,.int .i64 dr].toArray 66 (0,0)),(b8,.cells [.int .i64 cl,.int .i64 seq,.int .i64 0,.bool false,.string ByteArray.empty,.int .i64 0].toArray 66 (0,0)),(b7,.cells [.int .i64 ac,.int .i64 aq,.int .i64 ae,.bool af,.string av,.int .i64 ar].toArray 66 (0,0)),(b5,.cells [.int .i64 0,.int .i64 0,.int .i64 0,.bool false,.string ByteArray.empty,.int .i64 0].toArray 66 (0,0)),(b4,.cells [.int .i64 0,.slice none 0 0,.slice none 0 0].toArray 57 (0,0)),(b3,.cells (Cm.cells ⟨kind,cl,seq,key,val,old,node⟩).toArray 41 (0,0)),(b2,.cells [.int .i64 schema,.slice A lp.length c0,.slice A' ls.length c'].toArray 57 (0,0))]);(case hi=>rfl);(case hr=>kernel_rfl);(case ha=>rfl);(case hp=>exact List.Perm.refl _);(case hd=>rfl);(case hν'=>intro e he;simp only [List.mem_cons,List.not_mem_nil,or_false] at he;rcases he with rfl|rfl<;>simp);rintro v4 G4 _ hle4 ⟨-,rfl,hw4⟩;obtain ⟨A4,c4,rfl,-⟩:=id hw4.open))|apply d_store 9;(case hi=>rfl);(case hr=>kernel_rfl);(case hL=>infer_instance);(case hp|hx|hc|hsz|h1=>rfl);(case hb=>exact aM);(case hfit=>first|exact Nat.le_of_ble_eq_true rfl|rfl);(case hov=>(first|((repeat (first|with_reducible exact ov_nil|apply ov_cons|apply ov_there));done)|rfl));(case hu=>repeat first|exact Upd.here _ _|apply Upd.there|apply Upd.app);(case hν'=>exact aE)|fail)
    all_goals (first|((apply d_call 10 (hs:=qw) (μ1:=[]) (μ2:=[(b10,.cells [.int .i64 dc,.int .i64 dq,.int .i64 de,.bool df,.string dv,.int .i64 dr].toArray 66 (0,0)),(b8,.cells [.int .i64 cl,.int .i64 seq,.int .i64 0,.bool false,.string ByteArray.empty,.int .i64 0].toArray 66 (0,0)),(b7,.cells [.int .i64 ac,.int .i64 aq,.int .i64 ae,.bool af,.string av,.int .i64 ar].toArray 66 (0,0)),(b5,.cells [.int .i64 0,.int .i64 0,.int .i64 0,.bool false,.string ByteArray.empty,.int .i64 0].toArray 66 (0,0)),(b4,.cells [.int .i64 0,.slice none 0 0,.slice none 0 0].toArray 57 (0,0)),(b3,.cells (Cm.cells ⟨kind,cl,seq,key,val,old,node⟩).toArray 41 (0,0)),(b2,.cells [.int .i64 schema,.slice A lp.length c0,.slice A' ls.length c'].toArray 57 (0,0))]);(case hi=>rfl);(case hr=>kernel_rfl);(case ha=>rfl);(case hp=>exact List.Perm.refl _);(case hd=>rfl);(case hν'=>intro e he;simp only [List.mem_cons,List.not_mem_nil,or_false] at he;rcases he with rfl|rfl<;>simp);rintro v4 G4 _ hle4 ⟨-,rfl,hw4⟩;obtain ⟨A4,c4,rfl,-⟩:=id hw4.open))|apply d_store 10;(case hi=>rfl);(case hr=>kernel_rfl);(case hL=>infer_instance);(case hp|hx|hc|hsz|h1=>rfl);(case hb=>exact aM);(case hfit=>first|exact Nat.le_of_ble_eq_true rfl|rfl);(case hov=>(first|((repeat (first|with_reducible exact ov_nil|apply ov_cons|apply ov_there));done)|rfl));(case hu=>repeat first|exact Upd.here _ _|apply Upd.there|apply Upd.app);(case hν'=>exact aE)|fail)
    all_goals refine Dd ?_
    repeat' (first|refine Wa ?_|(refine Wc ⟨?_,?_⟩<;>first|exact True.intro|intro h)|refine Wr ?_|(refine Wb ?_;intro b)|fail)
    refine v_retM [] (outsM_cc (sz0:=3) (vs0:=[.int .i64 schema,.slice A3 l1.length c3,.slice A4 (withG ksS ls (sesOf ⟨dc,dq,de,df,dv,dr⟩)).length c4]) (e0:=57) (sz1:=6) (vs1:=[.int .i64 dc,.int .i64 dq,.int .i64 de,.bool df,.string dv,.int .i64 dr]) (e1:=66) rfl rfl aM rfl rfl aM rfl) (List.nil_sublist _) ⟨GH.le_trans hle3 hle4,rfl,_,rfl,A3,c3,A4,c4,rfl,hp3.mono hle4,hw4⟩
  ·rw [decide_eq_false hh] at qh
   repeat' (first|apply v_box (d:=2) (zs:=[.int .i64 schema,.slice A lp.length c0,.slice A' ls.length c']);(case hx|hz|hd=>rfl);intro b2|apply v_box (d:=3) (zs:=Cm.cells ⟨kind,cl,seq,key,val,old,node⟩);(case hx|hz|hd=>rfl);intro b3|apply v_alloc (d:=4);(case hz|hd=>rfl);intro b4|apply v_alloc (d:=5);(case hz|hd=>rfl);intro b5|apply v_alloc (d:=7);(case hz|hd=>rfl);intro b7|apply v_alloc (d:=8);(case hz|hd=>rfl);intro b8|apply v_alloc (d:=10);(case hz|hd=>rfl);intro b10|apply v_read;(case hop=>(apply r_loadNo;(case hx=>rfl);(case h=>exact aM);(case hd|hn=>rfl)));(case hd=>rfl)|refine Wa ?_|(refine Wc ⟨?_,?_⟩<;>first|exact True.intro|intro h)|refine cJ qo ?_|refine cJ qh ?_|refine cJ ql ?_|refine Wr ?_|(refine Wb ?_;intro b)|fail)
   ·have hw1:wk=1:=w1.2 ⟨by omega,by omega⟩
    obtain rfl:=w3 hw1
    rw [if_pos hw1]
    refine Dz [(b2,.cells [.int .i64 schema,.slice A lp.length c0,.slice A' ls.length c'].toArray 57 (0,0)),(b7,.cells [.int .i64 ac,.int .i64 aq,.int .i64 ae,.bool af,.string av,.int .i64 ar].toArray 66 (0,0))] ?_
    all_goals refine Dt [0,1] ?_
    all_goals ((apply d_store 2;(case hi=>rfl);(case hr=>kernel_rfl);(case hL=>infer_instance);(case hp|hx|hc|hsz|h1=>rfl);(case hb=>exact aM);(case hfit=>first|exact Nat.le_of_ble_eq_true rfl|rfl);(case hov=>(first|((repeat (first|with_reducible exact ov_nil|apply ov_cons|apply ov_there));done)|rfl));(case hu=>repeat first|exact Upd.here _ _|apply Upd.there|apply Upd.app);(case hν'=>exact aE)))
    all_goals ((apply d_store 3;(case hi=>rfl);(case hr=>kernel_rfl);(case hL=>infer_instance);(case hp|hx|hc|hsz|h1=>rfl);(case hb=>exact aM);(case hfit=>first|exact Nat.le_of_ble_eq_true rfl|rfl);(case hov=>(first|((repeat (first|with_reducible exact ov_nil|apply ov_cons|apply ov_there));done)|rfl));(case hu=>repeat first|exact Upd.here _ _|apply Upd.there|apply Upd.app);(case hν'=>exact aE)))
    all_goals refine Dd ?_
    repeat' (first|refine Wa ?_|(refine Wc ⟨?_,?_⟩<;>first|exact True.intro|intro h)|refine Wr ?_|(refine Wb ?_;intro b)|fail)
    refine v_retM [] (outsM_cc (sz0:=3) (vs0:=[.int .i64 schema,.slice A lp.length c0,.slice A' ls.length c']) (e0:=57) (sz1:=6) (vs1:=[.int .i64 ac,.int .i64 aq,.int .i64 ae,.bool af,.string av,.int .i64 ar]) (e1:=66) rfl rfl aM rfl rfl aM rfl) (List.nil_sublist _) ⟨GH.le_refl _,rfl,_,rfl,hs⟩
   ·rw [if_neg (fun h=>by have:=w1.1 h;omega),if_pos (w2.2 (by omega))]
    refine Dz [(b2,.cells [.int .i64 schema,.slice A lp.length c0,.slice A' ls.length c'].toArray 57 (0,0)),(b8,.cells [.int .i64 cl,.int .i64 seq,.int .i64 15,.bool false,.string ByteArray.empty,.int .i64 0].toArray 66 (0,0))] ?_
    all_goals refine Dt [0,1] ?_
    all_goals ((apply d_store 2;(case hi=>rfl);(case hr=>kernel_rfl);(case hL=>infer_instance);(case hp|hx|hc|hsz|h1=>rfl);(case hb=>exact aM);(case hfit=>first|exact Nat.le_of_ble_eq_true rfl|rfl);(case hov=>(first|((repeat (first|with_reducible exact ov_nil|apply ov_cons|apply ov_there));done)|rfl));(case hu=>repeat first|exact Upd.here _ _|apply Upd.there|apply Upd.app);(case hν'=>exact aE)))
    all_goals ((apply d_store 3;(case hi=>rfl);(case hr=>kernel_rfl);(case hL=>infer_instance);(case hp|hx|hc|hsz|h1=>rfl);(case hb=>exact aM);(case hfit=>first|exact Nat.le_of_ble_eq_true rfl|rfl);(case hov=>(first|((repeat (first|with_reducible exact ov_nil|apply ov_cons|apply ov_there));done)|rfl));(case hu=>repeat first|exact Upd.here _ _|apply Upd.there|apply Upd.app);(case hν'=>exact aE)))
    all_goals refine Dd ?_
    repeat' (first|refine Wa ?_|(refine Wc ⟨?_,?_⟩<;>first|exact True.intro|intro h)|refine Wr ?_|(refine Wb ?_;intro b)|fail)
    refine v_retM [] (outsM_cc (sz0:=3) (vs0:=[.int .i64 schema,.slice A lp.length c0,.slice A' ls.length c']) (e0:=57) (sz1:=6) (vs1:=[.int .i64 cl,.int .i64 seq,.int .i64 15,.bool false,.string ByteArray.empty,.int .i64 0]) (e1:=66) rfl rfl aM rfl rfl aM rfl) (List.nil_sublist _) ⟨GH.le_refl _,rfl,_,rfl,hs⟩
   ·rw [if_neg (fun h=>by have:=w1.1 h;omega),if_neg (fun h=>by have:=w2.1 h;omega),if_neg hh]
    refine Dz [(b2,.cells [.int .i64 schema,.slice A lp.length c0,.slice A' ls.length c'].toArray 57 (0,0)),(b8,.cells [.int .i64 cl,.int .i64 seq,.int .i64 14,.bool false,.string ByteArray.empty,.int .i64 0].toArray 66 (0,0))] ?_
    all_goals refine Dt [0,1] ?_
    all_goals ((apply d_store 2;(case hi=>rfl);(case hr=>kernel_rfl);(case hL=>infer_instance);(case hp|hx|hc|hsz|h1=>rfl);(case hb=>exact aM);(case hfit=>first|exact Nat.le_of_ble_eq_true rfl|rfl);(case hov=>(first|((repeat (first|with_reducible exact ov_nil|apply ov_cons|apply ov_there));done)|rfl));(case hu=>repeat first|exact Upd.here _ _|apply Upd.there|apply Upd.app);(case hν'=>exact aE)))
    all_goals ((apply d_store 3;(case hi=>rfl);(case hr=>kernel_rfl);(case hL=>infer_instance);(case hp|hx|hc|hsz|h1=>rfl);(case hb=>exact aM);(case hfit=>first|exact Nat.le_of_ble_eq_true rfl|rfl);(case hov=>(first|((repeat (first|with_reducible exact ov_nil|apply ov_cons|apply ov_there));done)|rfl));(case hu=>repeat first|exact Upd.here _ _|apply Upd.there|apply Upd.app);(case hν'=>exact aE)))
    all_goals refine Dd ?_
    repeat' (first|refine Wa ?_|(refine Wc ⟨?_,?_⟩<;>first|exact True.intro|intro h)|refine Wr ?_|(refine Wb ?_;intro b)|fail)
    refine v_retM [] (outsM_cc (sz0:=3) (vs0:=[.int .i64 schema,.slice A lp.length c0,.slice A' ls.length c']) (e0:=57) (sz1:=6) (vs1:=[.int .i64 cl,.int .i64 seq,.int .i64 14,.bool false,.string ByteArray.empty,.int .i64 0]) (e1:=66) rfl rfl aM rfl rfl aM rfl) (List.nil_sublist _) ⟨GH.le_refl _,rfl,_,rfl,hs⟩
   ·rw [if_neg (fun h=>by have:=w1.1 h;omega),if_neg (fun h=>by have:=w2.1 h;omega),if_neg hh]
    refine Dz [(b2,.cells [.int .i64 schema,.slice A lp.length c0,.slice A' ls.length c'].toArray 57 (0,0)),(b8,.cells [.int .i64 cl,.int .i64 seq,.int .i64 14,.bool false,.string ByteArray.empty,.int .i64 0].toArray 66 (0,0))] ?_
    all_goals refine Dt [0,1] ?_
    all_goals ((apply d_store 2;(case hi=>rfl);(case hr=>kernel_rfl);(case hL=>infer_instance);(case hp|hx|hc|hsz|h1=>rfl);(case hb=>exact aM);(case hfit=>first|exact Nat.le_of_ble_eq_true rfl|rfl);(case hov=>(first|((repeat (first|with_reducible exact ov_nil|apply ov_cons|apply ov_there));done)|rfl));(case hu=>repeat first|exact Upd.here _ _|apply Upd.there|apply Upd.app);(case hν'=>exact aE)))
    all_goals ((apply d_store 3;(case hi=>rfl);(case hr=>kernel_rfl);(case hL=>infer_instance);(case hp|hx|hc|hsz|h1=>rfl);(case hb=>exact aM);(case hfit=>first|exact Nat.le_of_ble_eq_true rfl|rfl);(case hov=>(first|((repeat (first|with_reducible exact ov_nil|apply ov_cons|apply ov_there));done)|rfl));(case hu=>repeat first|exact Upd.here _ _|apply Upd.there|apply Upd.app);(case hν'=>exact aE)))
    all_goals refine Dd ?_
    repeat' (first|refine Wa ?_|(refine Wc ⟨?_,?_⟩<;>first|exact True.intro|intro h)|refine Wr ?_|(refine Wb ?_;intro b)|fail)
    refine v_retM [] (outsM_cc (sz0:=3) (vs0:=[.int .i64 schema,.slice A lp.length c0,.slice A' ls.length c']) (e0:=57) (sz1:=6) (vs1:=[.int .i64 cl,.int .i64 seq,.int .i64 14,.bool false,.string ByteArray.empty,.int .i64 0]) (e1:=66) rfl rfl aM rfl rfl aM rfl) (List.nil_sublist _) ⟨GH.le_refl _,rfl,_,rfl,hs⟩
 ·rw [decide_eq_false ho] at qo
  rw [if_neg ho]
  repeat' (first|apply v_box (d:=2) (zs:=[.int .i64 schema,.slice A lp.length c0,.slice A' ls.length c']);(case hx|hz|hd=>rfl);intro b2|apply v_box (d:=3) (zs:=Cm.cells ⟨kind,cl,seq,key,val,old,node⟩);(case hx|hz|hd=>rfl);intro b3|apply v_alloc (d:=4);(case hz|hd=>rfl);intro b4|apply v_alloc (d:=5);(case hz|hd=>rfl);intro b5|apply v_alloc (d:=7);(case hz|hd=>rfl);intro b7|apply v_alloc (d:=8);(case hz|hd=>rfl);intro b8|apply v_alloc (d:=10);(case hz|hd=>rfl);intro b10|apply v_read;(case hop=>(apply r_loadNo;(case hx=>rfl);(case h=>exact aM);(case hd|hn=>rfl)));(case hd=>rfl)|refine Wa ?_|(refine Wc ⟨?_,?_⟩<;>first|exact True.intro|intro h)|refine cJ qo ?_|refine cJ qh ?_|refine cJ ql ?_|refine Wr ?_|(refine Wb ?_;intro b)|fail)
  ·rw [if_pos ⟨by assumption,by assumption⟩]
   refine cQ rfl qr ?_
   rintro v3 G3 _ hle3 ⟨-,rfl,hs3⟩
   rw [hup] at hs3
   obtain ⟨A3,c3,A3',c3',rfl,-,-⟩:=id hs3
   repeat' (first|apply v_box (d:=2) (zs:=[.int .i64 schema,.slice A lp.length c0,.slice A' ls.length c']);(case hx|hz|hd=>rfl);intro b2|apply v_box (d:=3) (zs:=Cm.cells ⟨kind,cl,seq,key,val,old,node⟩);(case hx|hz|hd=>rfl);intro b3|apply v_alloc (d:=4);(case hz|hd=>rfl);intro b4|apply v_alloc (d:=5);(case hz|hd=>rfl);intro b5|apply v_alloc (d:=7);(case hz|hd=>rfl);intro b7|apply v_alloc (d:=8);(case hz|hd=>rfl);intro b8|apply v_alloc (d:=10);(case hz|hd=>rfl);intro b10|apply v_read;(case hop=>(apply r_loadNo;(case hx=>rfl);(case h=>exact aM);(case hd|hn=>rfl)));(case hd=>rfl)|refine Wa ?_|(refine Wc ⟨?_,?_⟩<;>first|exact True.intro|intro h)|refine cJ qo ?_|refine cJ qh ?_|refine cJ ql ?_|refine Wr ?_|(refine Wb ?_;intro b)|fail)
   refine v_retM [] (outsM_cc (sz0:=3) (vs0:=[.int .i64 2,.slice A3 (upS ⟨schema,lp,ls⟩).pairs.length c3,.slice A3' (upS ⟨schema,lp,ls⟩).sess.length c3']) (e0:=57) (sz1:=6) (vs1:=zA.cells) (e1:=66) rfl rfl aM rfl rfl aM rfl) (List.nil_sublist _) ⟨hle3,rfl,_,rfl,hs3⟩
  all_goals
   (rw [if_neg (fun h=>by have:=h.1;have:=h.2;omega)]
    refine v_retM [] (outsM_cc (sz0:=3) (vs0:=[.int .i64 schema,.slice A lp.length c0,.slice A' ls.length c']) (e0:=57) (sz1:=6) (vs1:=zA.cells) (e1:=66) rfl rfl aM rfl rfl aM rfl) (List.nil_sublist _) ⟨GH.le_refl _,rfl,_,rfl,hs⟩)
abbrev kA:ByteArray:=⟨#[97]⟩
abbrev emp:St:=⟨1,[],[]⟩
abbrev mA:Cm:=⟨6,0,0,ByteArray.empty,ByteArray.empty,ByteArray.empty,0⟩
theorem sesP_nil:SesP []:=⟨fun i hi=>by simp at hi,fun x hx=>by simp at hx⟩
theorem emp_ok:StP emp:=stP_iff.2 ⟨sesP_nil,.inl rfl,⟨by simp,List.Pairwise.nil,fun x hx=>by simp at hx⟩,fun _=>rfl⟩
theorem empty_s (G:GH):Con Tryz.prog 54 #[] G [] (Just (.agg [.int .i64 1,.slice none 0 0,.slice none 0 0].toArray) G):=by
 apply Con.just
 (refine v_enter Tryz.func54 rfl Tryz.ntmps54 rfl ?_;intro B _)
 repeat' (first|apply v_alloc (d:=0);(case hz|hd=>rfl);intro b0|refine Wa ?_|(refine Wc ⟨?_,?_⟩<;>first|exact True.intro|intro h)|refine Wr ?_|(refine Wb ?_;intro b)|fail)
 refine v_retM [] (outsM_cell (sz:=3) (vs:=[.int .i64 1,.slice none 0 0,.slice none 0 0]) (e:=57) rfl rfl aM rfl) (List.nil_sublist _) ⟨rfl,rfl⟩
theorem emp_v (G:GH):StV G emp (.agg [.int .i64 1,.slice none 0 0,.slice none 0 0].toArray):=by
 refine ⟨none,0,none,0,rfl,?_,?_⟩
 ·exact row_of_grow Pr.len (Grow.nil 257 3) (fun b o h=>by cases h)
 ·exact row_of_grow Ss.len (Grow.nil 241 8) (fun b o h=>by cases h)
section
attribute [local semireducible] Vc DVc Con PureOp ReadOp MoveOp
end
theorem madeC {G:GH}{l:List Cm}{b:Nat}(h:l.length≤200) (hb:G b=some (.cells (rowC Cm.cells l).toArray 41 (0,0))):Cms G (.slice (some ⟨b,0,none⟩) l.length l.length) l:=by
 have hg:Grow 41 7 (.slice (some ⟨b,0,none⟩) l.length l.length) l.length (rowC Cm.cells l) [(b,.cells (rowC Cm.cells l).toArray 41 (0,0))] :=
  ⟨rowC_length Cm.len l,.inr ⟨b,l.length,[],rfl,by rw [List.append_nil],Nat.le_refl _,by simp only [maxLen];omega,by rw [List.append_nil];exact rowC_length Cm.len l⟩⟩
 exact row_of_grow Cm.len hg (fun b' o h=>by simp only [List.mem_singleton] at h;cases h;exact hb)
end Go.Proofs.YtkofafmiabmobaaGreatDoor
/-
  conf (layer 11), the first part: what its readers, and the reference's, answer.
-/
namespace Go.Proofs.YtkofafmiabmobaaGreatDoor
open Go.Vx Go.ChangeShapes Go.WideShapes Go.ChangeAt Go.RowKit
abbrev Co:=Int×List Int
def CoR (G:GH) (x:Co) (cs:List Value):Prop := ∃ mv,cs=[.int .i64 x.1,mv]∧(Lit.int .i64 x.1).wf=true∧Sl G 1 (IntR .i64) mv x.2
theorem CoR.le {G G':GH}(h:GH.le G G') {x:Co}{cs:List Value}(hc:CoR G x cs):CoR G' x cs:=let ⟨mv,h1,h2,h3⟩:=hc;⟨mv,h1,h2,h3.mono h⟩
abbrev Cos (G:GH) (v:Value) (l:List Co):Prop:=Sl G 2 (CoR G) v l
theorem Cos.le {G G':GH}(h:GH.le G G') {v:Value}{l:List Co}(hc:Cos G v l):Cos G' v l:=Sl.le hc h fun _ _=>CoR.le h
theorem coOpen {G:GH}{v:Value}{l:List Co}(h:Cos G v l):∃ A c,∃ (mA:Nat→Option Addr) (mc:Nat→Nat),v=.slice A l.length c∧l.length≤c∧c≤maxLen∧(0<l.length→A.isSome=true) ∧
 (∀ i (h:i<l.length),CellsG G ((adr A).add (i*2)) [.int .i64 l[i].1,.slice (mA i) l[i].2.length (mc i)])∧(∀ i (h:i<l.length),GH.cell? G (((adr A).add (i*2)).add 0)=some (.int .i64 l[i].1))∧(∀ i (h:i<l.length),GH.cell? G (((adr A).add (i*2)).add 1)=some (.slice (mA i) l[i].2.length (mc i))) ∧
 (∀ i (h:i<l.length),Sl G 1 (IntR .i64) (.slice (mA i) l[i].2.length (mc i)) l[i].2)∧(∀ i (h:i<l.length),(Lit.int .i64 l[i].1).wf=true):=by
 obtain ⟨A,c,rfl,h1,h2,h3,h4⟩:=h.open
 have key:∀ i,∃ m:Option Addr×Nat,∀ (h:i<l.length),CellsG G ((adr A).add (i*2)) [.int .i64 l[i].1,.slice m.1 l[i].2.length m.2]∧Sl G 1 (IntR .i64) (.slice m.1 l[i].2.length m.2) l[i].2∧(Lit.int .i64 l[i].1).wf=true:=fun i=>by
  by_cases hi:i<l.length
  ·obtain ⟨cs,_,⟨mv,rfl,h6,h7⟩,h5⟩:=h4 i _ (List.getElem?_eq_getElem hi)
   obtain ⟨A',c',rfl,_⟩:=h7.openInt
   exact ⟨(A',c'),fun _=>⟨h5,h7,h6⟩⟩
  ·exact ⟨(none,0),fun h=>absurd h hi⟩
 have hk:=fun i=>Classical.choose_spec (key i)
 exact ⟨A,c,fun i=>(Classical.choose (key i)).1,fun i=>(Classical.choose (key i)).2,rfl,h1,h2,h3,fun i hi=>(hk i hi).1,fun i hi=>(hk i hi).1.cell (j:=0) rfl,fun i hi=>(hk i hi).1.cell (j:=1) rfl,fun i hi=>(hk i hi).2.1,fun i hi=>(hk i hi).2.2⟩
def inB (l:List Int) (n:Int):Bool:=decide (n∈l)
theorem in_s {G:GH}{l:List Int}{sv:Value}(n:Int) (hs:Sl G 1 (IntR .i64) sv l):Con Tryz.prog 223 #[sv,.int .i64 n] G [] (Just (.bool (inB l n)) G):=by
 obtain ⟨A,c,rfl,hlc,hcm,hsome,hel,_⟩:=hs.openInt
 simp only [maxLen] at hcm
 (refine v_enter Tryz.func223 rfl Tryz.ntmps223 rfl ?_;intro B _)
 repeat' (first|refine Wa ?_|(refine Wc ⟨?_,?_⟩<;>first|exact True.intro|intro h)|refine Wr ?_|fail)
 refine v_loop [5,0,1] (fun us G' μ'=>G'=G∧μ'=[]∧∃ k,k≤l.length∧us=[Value.int .i64 (k:Nat),.slice A l.length c,.int .i64 n]∧∀ i (h:i<l.length),i<k→l[i]≠n) (fun us=>l.length-(headI us).toNat) rfl ⟨rfl,rfl,0,by omega,rfl,by omega⟩ ?_
 rintro us G' μ' ⟨rfl,rfl,k,hk,rfl,hno⟩
 repeat' (first|refine Wa ?_|(refine Wc ⟨?_,?_⟩<;>first|exact True.intro|intro h)|apply v_read;(case hop=>(apply r_load1;rfl;exact Cell.frozen (hel _ (by omega))));(case hd=>rfl)|refine Wr ?_|fail)
 ·refine Vr ?_
  refine ⟨?_,rfl,rfl⟩
  rw [inB,decide_eq_true (by rename_i h;rw [← h];exact List.getElem_mem _)]
 ·refine Va rfl ⟨rfl,rfl,k+1,by omega,rfl,fun i h hi=>?_⟩
  by_cases hik:i=k
  ·subst hik;assumption
  ·exact hno i h (by omega)
 ·refine Vr ?_
  refine ⟨?_,rfl,rfl⟩
  rw [inB,decide_eq_false]
  intro hm
  obtain ⟨i,hi,he⟩:=List.getElem_of_mem hm
  exact hno i hi (by omega) he
def intsB (a b:List Int):Bool:=decide (a=b)
theorem ints_s {G:GH}{a b:List Int}{av bv:Value}(ha:Sl G 1 (IntR .i64) av a) (hb:Sl G 1 (IntR .i64) bv b):Con Tryz.prog 7 #[av,bv] G [] (Just (.bool (intsB a b)) G):=by
 obtain ⟨A,c,rfl,hlc,hcm,hsome,hel,_⟩:=ha.openInt
 obtain ⟨A',c',rfl,hlc',hcm',hsome',hel',_⟩:=hb.openInt
 simp only [maxLen] at hcm hcm'
 (refine v_enter Tryz.func7 rfl Tryz.ntmps7 rfl ?_;intro B _)
 repeat' (first|refine Wa ?_|(refine Wc ⟨?_,?_⟩<;>first|exact True.intro|intro h)|refine Wr ?_|fail)
 ·refine Vr ?_
  refine ⟨?_,rfl,rfl⟩
  rw [intsB,decide_eq_false]
  intro e
  subst e
  omega
 have hab:a.length=b.length:=by omega
 refine v_loop [5,0,1] (fun us G' μ'=>G'=G∧μ'=[]∧∃ k,k≤a.length∧us=[Value.int .i64 (k:Nat),.slice A a.length c,.slice A' b.length c']∧∀ i (h:i<a.length) (h':i<b.length),i<k→a[i]=b[i]) (fun us=>a.length-(headI us).toNat) rfl ⟨rfl,rfl,0,by omega,rfl,by omega⟩ ?_
 rintro us G' μ' ⟨rfl,rfl,k,hk,rfl,hno⟩
 repeat' (first|refine Wa ?_|(refine Wc ⟨?_,?_⟩<;>first|exact True.intro|intro h)|refine Wr ?_|fail)
 ·refine Dz [] ?_
  all_goals refine Dt [0,1,2] ?_
  all_goals (first|refine Tv 3 ?_ (hop:=by first|apply r_load1;rfl;exact Cell.frozen (hel _ (by omega))|fail)|refine Tv 3 ?_ (hop:=by first|apply r_load1;rfl;exact Cell.frozen (hel' _ (by omega))|fail)|refine Dt [3] ?_)
  all_goals refine Dt [4,5,6] ?_
  all_goals (first|refine Tv 7 ?_ (hop:=by first|apply r_load1;rfl;exact Cell.frozen (hel _ (by omega))|fail)|refine Tv 7 ?_ (hop:=by first|apply r_load1;rfl;exact Cell.frozen (hel' _ (by omega))|fail)|refine Dt [7] ?_)
  all_goals refine Dt [8] ?_
  all_goals refine Dd ?_
  repeat' (first|refine Wa ?_|(refine Wc ⟨?_,?_⟩<;>first|exact True.intro|intro h)|refine Wr ?_|fail)
  ·refine Vr ?_
   refine ⟨?_,rfl,rfl⟩
   rw [intsB,decide_eq_false]
   intro e
   subst e
   contradiction
  ·refine Va rfl ⟨rfl,rfl,k+1,by omega,rfl,fun i h h' hi=>?_⟩
   by_cases hik:i=k
   ·subst hik;assumption
   ·exact hno i h h' (by omega)
 ·refine Vr ?_
  refine ⟨?_,rfl,rfl⟩
  rw [intsB,decide_eq_true]
  exact List.ext_getElem hab fun i h h'=>hno i h h' (by omega)
def MemOK (m:List Int):Prop:=0<m.length∧∀ k (h:k<m.length),1≤m[k]∧m[k]≤9∧(0<k→m[k-1]<m[k])
def ConfOK (l:List Co):Prop:=(∃ h:0<l.length,l[0].1=1)∧∀ i (h:i<l.length),MemOK l[i].2∧l[i].1≤4294967296∧(0<i→l[i-1].1<l[i].1)
noncomputable instance (m:List Int):Decidable (MemOK m):=Classical.propDecidable _
noncomputable instance (l:List Co):Decidable (ConfOK l):=Classical.propDecidable _
theorem members_s {G:GH}{l:List Int}{sv:Value}(hs:Sl G 1 (IntR .i64) sv l):Con Tryz.prog 111 #[sv] G [] (Just (.bool (decide (MemOK l))) G):=by
 obtain ⟨A,c,rfl,hlc,hcm,hsome,hel,_⟩:=hs.openInt
 simp only [maxLen] at hcm
 (refine v_enter Tryz.func111 rfl Tryz.ntmps111 rfl ?_;intro B _)
 repeat' (first|refine Wa ?_|(refine Wc ⟨?_,?_⟩<;>first|exact True.intro|intro h)|refine Wr ?_|fail)
 refine v_loop [7,6,5,0] (fun us G' μ'=>G'=G∧μ'=[]∧∃ k,k≤l.length∧us=[Value.int .i64 (k:Nat),.int .i64 l.length,.slice A l.length c,.slice A l.length c]∧∀ i (h:i<l.length),i<k→1≤l[i]∧l[i]≤9∧(0<i→l[i-1]<l[i])) (fun us=>l.length-(headI us).toNat) rfl ⟨rfl,rfl,0,by omega,rfl,by omega⟩ ?_
 rintro us G' μ' ⟨rfl,rfl,k,hk,rfl,hno⟩
 repeat' (first|refine Wa ?_|(refine Wc ⟨?_,?_⟩<;>first|exact True.intro|intro h)|apply v_read;(case hop=>(apply r_load1;rfl;exact Cell.frozen (hel _ (by omega))));(case hd=>rfl)|refine Wr ?_|fail)
 all_goals have e1:((k:Nat):Int).toNat=k:=by omega
 all_goals have e2:(((k:Nat):Int)-1).toNat=k-1:=by omega
 all_goals try
  (refine Vr ?_
   refine ⟨?_,rfl,rfl⟩
   rw [decide_eq_false]
   rintro ⟨_,hm⟩
   have:=hm k (by omega)
   simp only [e1,e2] at *
   omega)
 all_goals try
  (refine Va rfl ⟨rfl,rfl,k+1,by omega,rfl,fun i h hi=>?_⟩
   by_cases hik:i=k
   ·subst hik;simp only [e1,e2] at *;omega
   ·exact hno i h (by omega))
 ·refine Vr ?_
  refine ⟨?_,rfl,rfl⟩
  congr 1
  rw [dec_eq,decide_eq_decide]
  exact ⟨fun h=>⟨by omega,fun i h'=>hno i h' (by omega)⟩,fun h=>by have:=h.1;omega⟩
theorem check_s {G:GH}{l:List Co}{sv:Value}(hs:Cos G sv l):Con Tryz.prog 53 #[sv] G [] (Just (.int .i64 (if ConfOK l then 0 else 3)) G):=by
 obtain ⟨A,c,mA,mc,rfl,hlc,hcm,hsome,hcp,hc0,hc1,hmv,hwf⟩:=coOpen hs
 simp only [maxLen] at hcm
 (refine v_enter Tryz.func53 rfl Tryz.ntmps53 rfl ?_;intro B _)
 repeat' (first|refine Wa ?_|(refine Wc ⟨?_,?_⟩<;>first|exact True.intro|intro h)|apply v_read;(case hop=>first|apply r_load1;rfl;exact Cell.frozen (hc0 _ (by omega))|apply r_load1;rfl;exact Cell.frozen (hc1 _ (by omega))|apply r_loadN;rfl;exact CellsAt.frozen (hcp _ (by omega));rfl);(case hd=>rfl)|refine Wr ?_|(refine Wb ?_;intro b)|fail)
 ·refine Vr ?_
  refine ⟨?_,rfl,rfl⟩
  rw [if_neg]
  rintro ⟨⟨h0,_⟩,_⟩
  omega
 ·refine Vr ?_
  refine ⟨?_,rfl,rfl⟩
  rw [if_neg]
  rintro ⟨⟨_,h0⟩,_⟩
  contradiction
 refine v_loop [17,16,15,0] (fun us G' μ'=>G'=G∧μ'=[]∧∃ k,k≤l.length∧us=[Value.int .i64 (k:Nat),.int .i64 l.length,.slice A l.length c,.slice A l.length c]∧∀ i (h:i<l.length),i<k→MemOK l[i].2∧l[i].1≤4294967296∧(0<i→l[i-1].1<l[i].1)) (fun us=>l.length-(headI us).toNat) rfl ⟨rfl,rfl,0,by omega,rfl,by omega⟩ ?_
 rintro us G' μ' ⟨rfl,rfl,k,hk,rfl,hno⟩
 have e1:((k:Nat):Int).toNat=k:=by omega
 have e2:(((k:Nat):Int)-1).toNat=k-1:=by omega
 repeat' (first|refine Wa ?_|(refine Wc ⟨?_,?_⟩<;>first|exact True.intro|intro h)|apply v_read;(case hop=>first|apply r_load1;rfl;exact Cell.frozen (hc0 _ (by omega))|apply r_load1;rfl;exact Cell.frozen (hc1 _ (by omega))|apply r_loadN;rfl;exact CellsAt.frozen (hcp _ (by omega));rfl);(case hd=>rfl)|refine Wr ?_|(refine Wb ?_;intro b)|fail)
 ·have hlt:k<l.length:=by omega
  refine Dz _ ?_
  all_goals refine Dt [0] ?_
  all_goals (first|refine Tv 1 ?_ (hop:=by first|apply r_load1;rfl;exact Cell.frozen (hc0 _ (by omega))|fail)|refine Dt [1] ?_)
  all_goals (refine DJ 2 (hs:=(members_s (hmv _ hlt))) ?_)
  all_goals refine Dt [3,4] ?_
  all_goals (try (refine Dg 5 ⟨?_,?_⟩<;>first|exact True.intro|intro h))
  all_goals refine Dt [5] ?_
  all_goals (first|refine TvG 6 ?_ (hop:=by first|apply r_load1;rfl;exact Cell.frozen (hc0 _ (by omega))|fail)|refine Dt [6] ?_)
  all_goals refine Dt [7,8,9] ?_
  all_goals (try (refine Dg 10 ⟨?_,?_⟩<;>first|exact True.intro|intro h))
  all_goals refine Dt [10,11,12] ?_
  all_goals (try (refine Dg 13 ⟨?_,?_⟩<;>first|exact True.intro|intro h))
  all_goals refine Dt [13] ?_
  all_goals (first|refine TvG 14 ?_ (hop:=by first|apply r_load1;rfl;exact Cell.frozen (hc0 _ (by omega))|fail)|refine Dt [14] ?_)
  all_goals refine Dt [15,16,17,18,19] ?_
  all_goals (first|refine TvG 20 ?_ (hop:=by first|apply r_load1;rfl;exact Cell.frozen (hc0 _ (by omega))|fail)|refine Dt [20] ?_)
  all_goals refine Dt [21,22,23] ?_
  all_goals refine Dd ?_
  repeat' (first|refine Wa ?_|(refine Wc ⟨?_,?_⟩<;>first|exact True.intro|intro h)|refine Wr ?_|(refine Wb ?_;intro b)|fail)
  all_goals try
   (refine Vr ?_
    refine ⟨?_,rfl,rfl⟩
    rw [if_neg]
    rintro ⟨_,hm⟩
    obtain ⟨q1,q2,q3⟩:=hm k (by omega)
    simp only [e1,e2] at *
    first|contradiction|omega)
  all_goals
   (refine v_drop (ν:=[]) sS ?_
    refine Va rfl ⟨rfl,rfl,k+1,by omega,rfl,fun i h hi=>?_⟩
    by_cases hik:i=k
    ·subst hik
     simp only [e1,e2] at *
     exact ⟨by assumption,by omega,by omega⟩
    ·exact hno i h (by omega))
 ·refine Vr ?_
  refine ⟨?_,rfl,rfl⟩
  rw [if_pos ⟨⟨by omega,by assumption⟩,fun i h=>hno i h (by omega)⟩]
set_option maxHeartbeats 1000000 in
theorem refConfCheck_s {G:GH}{l:List Co}{sv:Value}(hs:Cos G sv l):Con Tryz.prog 26 #[sv] G [] (Just (.bool (decide (ConfOK l))) G):=by
 obtain ⟨A,c,mA,mc,rfl,hlc,hcm,hsome,hcp,hc0,hc1,hmv,hwf⟩:=coOpen hs
 simp only [maxLen] at hcm
 (refine v_enter Tryz.func26 rfl Tryz.ntmps26 rfl ?_;intro B _)
 repeat' (first|refine Wa ?_|(refine Wc ⟨?_,?_⟩<;>first|exact True.intro|intro h)|apply v_read;(case hop=>first|apply r_load1;rfl;exact Cell.frozen (hc0 _ (by omega))|apply r_load1;rfl;exact Cell.frozen (hc1 _ (by omega))|apply r_loadN;rfl;exact CellsAt.frozen (hcp _ (by omega));rfl);(case hd=>rfl)|refine Wr ?_|fail)
 ·refine Vr ?_
  refine ⟨?_,rfl,rfl⟩
  rw [decide_eq_false]
  rintro ⟨⟨h0,_⟩,_⟩
  omega
 ·refine Vr ?_
  refine ⟨?_,rfl,rfl⟩
  rw [decide_eq_false]
  rintro ⟨⟨_,h0⟩,_⟩
  contradiction
 refine v_loop [3,0] (fun us G' μ'=>G'=G∧μ'=[]∧∃ k,k≤l.length∧us=[Value.int .i64 (k:Nat),.slice A l.length c]∧∀ i (h:i<l.length),i<k→MemOK l[i].2∧l[i].1≤4294967296∧(0<i→l[i-1].1<l[i].1)) (fun us=>l.length-(headI us).toNat) rfl ⟨rfl,rfl,0,by omega,rfl,by omega⟩ ?_
 rintro us G' μ' ⟨rfl,rfl,k,hk,rfl,hno⟩
 have e1:((k:Nat):Int).toNat=k:=by omega
 have e2:(((k:Nat):Int)-1).toNat=k-1:=by omega
 repeat' (first|refine Wa ?_|(refine Wc ⟨?_,?_⟩<;>first|exact True.intro|intro h)|apply v_read;(case hop=>first|apply r_load1;rfl;exact Cell.frozen (hc0 _ (by omega))|apply r_load1;rfl;exact Cell.frozen (hc1 _ (by omega))|apply r_loadN;rfl;exact CellsAt.frozen (hcp _ (by omega));rfl);(case hd=>rfl)|refine Wr ?_|fail)
 ·have hlt:k<l.length:=by omega
  refine Dz [] ?_
  all_goals refine Dt [0,1,2,3] ?_
  all_goals (try (refine Dg 4 ⟨?_,?_⟩<;>first|exact True.intro|intro h))
  all_goals refine Dt [4,5,6,7] ?_
  all_goals (first|refine TvG 8 ?_ (hop:=by first|apply r_load1;rfl;exact Cell.frozen (hc0 _ (by omega))|fail)|refine Dt [8] ?_)
  all_goals refine Dt [9,10,11] ?_
  all_goals (try (refine Dg 12 ⟨?_,?_⟩<;>first|exact True.intro|intro h))
  all_goals refine Dt [12,13,14] ?_
  all_goals (try (refine Dg 15 ⟨?_,?_⟩<;>first|exact True.intro|intro h))
  all_goals refine Dt [15,16,17,18] ?_
  all_goals (first|refine TvG 19 ?_ (hop:=by first|apply r_load1;rfl;exact Cell.frozen (hc0 _ (by omega))|fail)|refine Dt [19] ?_)
  all_goals refine Dt [20,21,22,23,24] ?_
  all_goals (first|refine TvG 25 ?_ (hop:=by first|apply r_load1;rfl;exact Cell.frozen (hc0 _ (by omega))|fail)|refine Dt [25] ?_)
  all_goals refine Dt [26,27,28] ?_
  all_goals refine Dd ?_
  repeat' (first|refine Wa ?_|(refine Wc ⟨?_,?_⟩<;>first|exact True.intro|intro h)|refine Wr ?_|fail)
  all_goals try
   (refine Vr ?_
    refine ⟨?_,rfl,rfl⟩
    rw [decide_eq_false]
    rintro ⟨_,hm⟩
    obtain ⟨⟨q1,q0⟩,q2,q3⟩:=hm k (by omega)
    simp only [e1,e2] at *
    omega)
  all_goals
   (have hne:¬ ((l[k].2.length:Int)=0):=by assumption
    obtain ⟨A',c',he,hlc',hcm',hsome',hel',_⟩:=(hmv k hlt).openInt
    injection he with ea _ ec
    subst ea
    subst ec
    simp only [maxLen] at hcm'
    refine v_loop [5,4,3,0] (fun us G'' μ'=>G''=G'∧μ'=[]∧∃ j,j≤l[k].2.length∧us=[Value.int .i64 (j:Nat),.slice (mA k) l[k].2.length (mc k),.int .i64 (k:Nat),.slice A l.length c]∧∀ i (h:i<l[k].2.length),i<j→1≤l[k].2[i]∧l[k].2[i]≤9∧(0<i→l[k].2[i-1]<l[k].2[i])) (fun us=>l[k].2.length-(headI us).toNat) rfl ⟨rfl,rfl,0,by omega,rfl,by omega⟩ ?_
    rintro us G'' μ' ⟨rfl,rfl,j,hj,rfl,hin⟩
    have e3:((j:Nat):Int).toNat=j:=by omega
    have e4:(((j:Nat):Int)-1).toNat=j-1:=by omega
    repeat' (first|refine Wa ?_|(refine Wc ⟨?_,?_⟩<;>first|exact True.intro|intro h)|refine Wr ?_|fail)
    ·refine Dz [] ?_
     all_goals refine Dt [0,1,2] ?_
     all_goals (first|refine Tv 3 ?_ (hop:=by first|apply r_load1;rfl;exact Cell.frozen (hel' _ (by omega))|fail)|refine Dt [3] ?_)
     all_goals refine Dt [4,5] ?_
     all_goals (try (refine Dg 6 ⟨?_,?_⟩<;>first|exact True.intro|intro h))
     all_goals refine Dt [6,7,8] ?_
     all_goals (first|refine TvG 9 ?_ (hop:=by first|apply r_load1;rfl;exact Cell.frozen (hel' _ (by omega))|fail)|refine Dt [9] ?_)
     all_goals refine Dt [10,11,12] ?_
     all_goals (try (refine Dg 13 ⟨?_,?_⟩<;>first|exact True.intro|intro h))
     all_goals refine Dt [13,14,15] ?_
     all_goals (try (refine Dg 16 ⟨?_,?_⟩<;>first|exact True.intro|intro h))
     all_goals refine Dt [16,17,18] ?_
     all_goals (first|refine TvG 19 ?_ (hop:=by first|apply r_load1;rfl;exact Cell.frozen (hel' _ (by omega))|fail)|refine Dt [19] ?_)
     all_goals refine Dt [20,21,22,23] ?_
     all_goals (first|refine TvG 24 ?_ (hop:=by first|apply r_load1;rfl;exact Cell.frozen (hel' _ (by omega))|fail)|refine Dt [24] ?_)
     all_goals refine Dt [25,26,27] ?_
     all_goals refine Dd ?_
     repeat' (first|refine Wa ?_|(refine Wc ⟨?_,?_⟩<;>first|exact True.intro|intro h)|refine Wr ?_|fail)
     all_goals try
      (refine Vr ?_
       refine ⟨?_,rfl,rfl⟩
       rw [decide_eq_false]
       rintro ⟨_,hm⟩
       obtain ⟨⟨q1,q0⟩,q2,q3⟩:=hm k (by omega)
       have q4:=q0 j (by omega)
       simp only [e3,e4] at *
       omega)
     all_goals
      (refine Va rfl ⟨rfl,rfl,j+1,by omega,rfl,fun i h hi=>?_⟩
       by_cases hik:i=j
       ·subst hik;simp only [e3,e4] at *;omega
       ·exact hin i h (by omega))
    ·refine Va rfl ⟨rfl,rfl,k+1,by omega,rfl,fun i h hi=>?_⟩
     by_cases hik:i=k
     ·subst hik
      simp only [e1,e2] at *
      exact ⟨⟨by omega,fun i' h'=>hin i' h' (by omega)⟩,by omega,by omega⟩
     ·exact hno i h (by omega))
 ·refine Vr ?_
  refine ⟨?_,rfl,rfl⟩
  rw [decide_eq_true]
  exact ⟨⟨by omega,by assumption⟩,fun i h=>hno i h (by omega)⟩
def placeK (l:List Co) (x:Int):Nat→Int
 | 0 => -1
 | k+1=>if (l.getD k (0,[])).1≤x then (k:Int) else placeK l x k
theorem placeK_le (l:List Co) (x:Int):∀ k:Nat,-1≤placeK l x k∧placeK l x k<k
 | 0=>by simp [placeK]
 | k+1=>by
  have:=placeK_le l x k
  unfold placeK
  split<;>omega
theorem placeK_succ {l:List Co}{x:Int}{k:Nat}(h:k<l.length):placeK l x (k+1)=if l[k].1≤x then (k:Int) else placeK l x k:=by
 rw [placeK,List.getD_eq_getElem?_getD,List.getElem?_eq_getElem h];rfl
theorem place_s {G:GH}{l:List Co}{sv:Value}(x:Int) (hs:Cos G sv l):Con Tryz.prog 114 #[sv,.int .i64 x] G [] (Just (.int .i64 (placeK l x l.length)) G):=by
 obtain ⟨A,c,mA,mc,rfl,hlc,hcm,hsome,hcp,hc0,hc1,hmv,hwf⟩:=coOpen hs
 simp only [maxLen] at hcm
 (refine v_enter Tryz.func114 rfl Tryz.ntmps114 rfl ?_;intro B _)
 repeat' (first|refine Wa ?_|(refine Wc ⟨?_,?_⟩<;>first|exact True.intro|intro h)|refine Wr ?_|(refine Wb ?_;intro b)|fail)
 refine v_loop [10,9,8,5,1] (fun us G' μ'=>G'=G∧μ'=[]∧∃ k,k≤l.length∧us=[Value.int .i64 (k:Nat),.int .i64 l.length,.slice A l.length c,.int .i64 (placeK l x k),.int .i64 x]) (fun us=>l.length-(headI us).toNat) rfl ⟨rfl,rfl,0,by omega,rfl⟩ ?_
 rintro us G' μ' ⟨rfl,rfl,k,hk,rfl⟩
 repeat' (first|refine Wa ?_|(refine Wc ⟨?_,?_⟩<;>first|exact True.intro|intro h)|apply v_read;(case hop=>first|apply r_load1;rfl;exact Cell.frozen (hc0 _ (by omega))|apply r_load1;rfl;exact Cell.frozen (hc1 _ (by omega))|apply r_loadN;rfl;exact CellsAt.frozen (hcp _ (by omega));rfl);(case hd=>rfl)|refine Wr ?_|(refine Wb ?_;intro b)|fail)
 ·refine v_drop (ν:=[]) sS ?_
  refine Va rfl ⟨rfl,rfl,k+1,by omega,?_⟩
  rw [placeK_succ (by omega),if_pos (by assumption)]
  rfl
 ·refine v_drop (ν:=[]) sS ?_
  refine Va rfl ⟨rfl,rfl,k+1,by omega,?_⟩
  rw [placeK_succ (by omega),if_neg (by assumption)]
  rfl
 ·refine Vr ?_
  obtain rfl:k=l.length:=by omega
  exact ⟨rfl,rfl,rfl⟩
def atK (l:List Co) (x:Int) (k:Nat):List Int:=if placeK l x k<0 then [] else (l.getD (placeK l x k).toNat (0,[])).2
theorem atK_pos {l:List Co}{x:Int}{k:Nat}(h:k<l.length) (hx:l[k].1≤x):atK l x (k+1)=l[k].2:=by
 rw [atK,placeK_succ h,if_pos hx,if_neg (by omega),Int.toNat_natCast,List.getD_eq_getElem?_getD,List.getElem?_eq_getElem h];rfl
theorem atK_neg {l:List Co}{x:Int}{k:Nat}(h:k<l.length) (hx:¬ l[k].1≤x):atK l x (k+1)=atK l x k:=by
 rw [atK,placeK_succ h,if_neg hx];rfl
theorem refAt_s {G:GH}{l:List Co}{sv:Value}(x:Int) (hs:Cos G sv l):Con Tryz.prog 28 #[sv,.int .i64 x] G [] (fun r G' μ'=>G'=G∧μ'=[]∧Sl G 1 (IntR .i64) r (atK l x l.length)):=by
 obtain ⟨A,c,mA,mc,rfl,hlc,hcm,hsome,hcp,hc0,hc1,hmv,hwf⟩:=coOpen hs
 simp only [maxLen] at hcm
 (refine v_enter Tryz.func28 rfl Tryz.ntmps28 rfl ?_;intro B _)
 repeat' (first|refine Wa ?_|(refine Wc ⟨?_,?_⟩<;>first|exact True.intro|intro h)|refine Wr ?_|fail)
 refine v_loop [6,5,0,1] (fun us G' μ'=>G'=G∧μ'=[]∧∃ k out,k≤l.length∧us=[Value.int .i64 (k:Nat),out,.slice A l.length c,.int .i64 x]∧Sl G 1 (IntR .i64) out (atK l x k)) (fun us=>l.length-(headI us).toNat) rfl ⟨rfl,rfl,0,_,by omega,rfl,Sl.nil⟩ ?_
 rintro us G' μ' ⟨rfl,rfl,k,out,hk,rfl,hout⟩
 repeat' (first|refine Wa ?_|(refine Wc ⟨?_,?_⟩<;>first|exact True.intro|intro h)|apply v_read;(case hop=>first|apply r_load1;rfl;exact Cell.frozen (hc0 _ (by omega))|apply r_load1;rfl;exact Cell.frozen (hc1 _ (by omega))|apply r_loadN;rfl;exact CellsAt.frozen (hcp _ (by omega));rfl);(case hd=>rfl)|refine Wr ?_|fail)
 ·refine Va rfl ⟨rfl,rfl,k+1,_,by omega,rfl,?_⟩
  have hlt:k<l.length:=by omega
  rw [atK_pos hlt (by assumption)]
  exact hmv k hlt
 ·refine Va rfl ⟨rfl,rfl,k+1,_,by omega,rfl,?_⟩
  have hlt:k<l.length:=by omega
  rw [atK_neg hlt (by assumption)]
  exact hout
 ·refine Vr ?_
  obtain rfl:k=l.length:=by omega
  exact ⟨rfl,rfl,hout⟩
theorem clone_s {G:GH}{l:List Int}{sv:Value}(hs:Sl G 1 (IntR .i64) sv l) (hl:l.length≤1048576):Con Tryz.prog 52 #[sv] G [] (fun r G' μ'=>G'=G∧Grow 3 1 r l.length (l.map (.int .i64 ·)) μ'):=by
 obtain ⟨A,c,rfl,hlc,hcm,hsome,hel,_⟩:=hs.openInt
 simp only [maxLen] at hcm
 (refine v_enter Tryz.func52 rfl Tryz.ntmps52 rfl ?_;intro B _)
 repeat' (first|refine Wa ?_|(refine Wc ⟨?_,?_⟩<;>first|exact True.intro|intro h)|(refine Wb ?_;intro b)|fail)
 ·refine Vr ?_
  have:l=[]:=by
   cases l with
   | nil=>rfl
   | cons a l=>have:=hsome (by simp);simp_all
  subst this
  exact ⟨rfl,Grow.nil _ _⟩
 ·refine v_append (e:=3) (sz:=1) (zero:=.int .i64 0) rfl (by omega) rfl rfl Grow.empty (List.Perm.refl _) (Src.ints hs) (allOne_ints l) (by omega) (by simp only [maxLen];omega) rfl ?_
  intro v' ν' hg
  repeat' (first|refine Wa ?_|(refine Wc ⟨?_,?_⟩<;>first|exact True.intro|intro h)|(refine Wb ?_;intro b)|fail)
  refine v_ret ν' (outsA1 rfl rfl) (by simp) ?_
  rw [Nat.zero_add,List.nil_append] at hg
  exact ⟨rfl,hg⟩
theorem placeK_nonneg {l:List Co}{x:Int}(h:0<l.length) (hx:l[0].1≤x):∀ k,0<k→k≤l.length→0≤placeK l x k
 | 1,_,_=>by rw [placeK_succ h,if_pos hx];simp
 | k+2,_,hk=>by
  rw [placeK_succ (by omega)]
  split
  ·omega
  ·exact placeK_nonneg h hx (k+1) (by omega) (by omega)
noncomputable def atL (l:List Co) (x:Int):List Int:=if ConfOK l∧1≤x then atK l x l.length else []
theorem at_s {G:GH}{l:List Co}{sv:Value}(x:Int) (hs:Cos G sv l) (hbig:∀ c∈l,c.2.length≤1048576):Con Tryz.prog 56 #[sv,.int .i64 x] G [] (fun r G' μ'=>μ'=[]∧Sl G' 1 (IntR .i64) r (atL l x)):=by
 obtain ⟨A,c,mA,mc,rfl,hlc,hcm,hsome,hcp,hc0,hc1,hmv,hwf⟩:=coOpen hs
 simp only [maxLen] at hcm
 have hp:=placeK_le l x l.length
 have hn:=fun (h:0<l.length) (hx:l[0].1≤x)=>placeK_nonneg h hx l.length h (Nat.le_refl _)
 have ck:ConfOK l→0<l.length:=fun h=>h.1.1
 by_cases hok:ConfOK l
 ·obtain ⟨⟨h0,h1⟩,_⟩:=id hok
  have q:=check_s hs
  rw [if_pos hok] at q
  (refine v_enter Tryz.func56 rfl Tryz.ntmps56 rfl ?_;intro B _)
  repeat' (first|refine Wa ?_|(refine Wc ⟨?_,?_⟩<;>first|exact True.intro|intro h)|refine cJ q ?_|refine Wr ?_|fail)
  ·refine Vr ?_
   rw [atL,if_neg (by omega)]
   exact ⟨rfl,Sl.nil⟩
  have hn':=hn h0 (by omega)
  repeat' (first|refine Wa ?_|(refine Wc ⟨?_,?_⟩<;>first|exact True.intro|intro h)|refine cJ (place_s x hs) ?_|apply v_read;(case hop=>first|apply r_load1;rfl;exact Cell.frozen (hc0 _ (by omega))|apply r_load1;rfl;exact Cell.frozen (hc1 _ (by omega))|apply r_loadN;rfl;exact CellsAt.frozen (hcp _ (by omega));rfl);(case hd=>rfl)|refine Wr ?_|fail)
  refine v_call (μ1:=[]) (μ2:=_) rfl (clone_s (hmv _ (by omega)) (hbig _ (List.getElem_mem _))) (List.Perm.refl _) rfl ?_
  rintro r G' μ1 - ⟨rfl,hg⟩
  refine v_freeze (ν:=μ1) (μ:=[]) ?_
  intro G1 hle hG
  repeat' (first|refine Wa ?_|(refine Wc ⟨?_,?_⟩<;>first|exact True.intro|intro h)|refine Wr ?_|fail)
  refine Vr ?_
  refine ⟨rfl,?_⟩
  have hlt:(placeK l x l.length).toNat<l.length:=by omega
  obtain ⟨_,_,_,_,_,_,_,hw⟩:=(hmv _ hlt).openInt
  rw [atL,if_pos ⟨hok,by omega⟩,atK,if_neg (by omega),List.getD_eq_getElem?_getD,List.getElem?_eq_getElem hlt]
  exact hg.ints hG hw
 ·have q:=check_s hs
  rw [if_neg hok] at q
  (refine v_enter Tryz.func56 rfl Tryz.ntmps56 rfl ?_;intro B _)
  repeat' (first|refine Wa ?_|(refine Wc ⟨?_,?_⟩<;>first|exact True.intro|intro h)|refine cJ q ?_|refine Wr ?_|fail)
  refine Vr ?_
  rw [atL,if_neg (fun h=>hok h.1)]
  exact ⟨rfl,Sl.nil⟩
end Go.Proofs.YtkofafmiabmobaaGreatDoor
/-
  The kit's contracts for three functions of slices, laid at this program (printed by a program of ours off the structures' fields).
-/
namespace Go.Proofs.YtkofafmiabmobaaGreatDoor
open Go.Shelf Go.Lib Go.Sort Go.RowKit
def laysSearch_ren:Go.Shelf.Ren:=⟨fun|25=>252|31=>289|32=>294|37=>195|n=>n,fun|0=>0|3=>3|4=>4|22=>22|40=>286|n=>n,fun n=>n⟩
theorem laysSearch:Lays2.n25 Tryz.prog laysSearch_ren where
 mixed:=by kernel_rfl
 f25:=Tryz.func252.trans (congrArg some (by kernel_rfl))
 f31:=Tryz.func289.trans (congrArg some (by kernel_rfl))
 f32:=Tryz.func294.trans (congrArg some (by kernel_rfl))
 f37:=Tryz.func195.trans (congrArg some (by kernel_rfl))
 t0:=Tryz.underlying0
 a0:=Tryz.isAgg0
 z0:=Tryz.sizeOf0
 v0:=Tryz.zeroValue0
 t3:=Tryz.underlying3
 a3:=Tryz.isAgg3
 z3:=Tryz.sizeOf3
 v3:=Tryz.zeroValue3
 t4:=Tryz.underlying4
 a4:=Tryz.isAgg4
 z4:=Tryz.sizeOf4
 v4:=Tryz.zeroValue4
 t22:=Tryz.underlying22
 a22:=Tryz.isAgg22
 z22:=Tryz.sizeOf22
 v22:=Tryz.zeroValue22
 t40:=Tryz.underlying286
 a40:=Tryz.isAgg286
 z40:=Tryz.sizeOf286
 v40:=Tryz.zeroValue286
def laysDelete_ren:Go.Shelf.Ren:=⟨fun|23=>254|n=>n,fun|0=>0|3=>3|4=>4|22=>22|n=>n,fun n=>n⟩
theorem laysDelete:Lays2.n23 Tryz.prog laysDelete_ren where
 mixed:=by kernel_rfl
 f23:=Tryz.func254.trans (congrArg some (by kernel_rfl))
 t0:=Tryz.underlying0
 a0:=Tryz.isAgg0
 z0:=Tryz.sizeOf0
 v0:=Tryz.zeroValue0
 t3:=Tryz.underlying3
 a3:=Tryz.isAgg3
 z3:=Tryz.sizeOf3
 v3:=Tryz.zeroValue3
 t4:=Tryz.underlying4
 a4:=Tryz.isAgg4
 z4:=Tryz.sizeOf4
 v4:=Tryz.zeroValue4
 t22:=Tryz.underlying22
 a22:=Tryz.isAgg22
 z22:=Tryz.sizeOf22
 v22:=Tryz.zeroValue22
 i3:=by kernel_rfl
def laysInsert_ren:Go.Shelf.Ren:=⟨fun|21=>253|27=>295|28=>296|35=>326|39=>354|n=>n,fun|0=>0|3=>3|4=>4|22=>22|n=>n,fun n=>n⟩
theorem laysInsert:Lays2.n21 Tryz.prog laysInsert_ren where
 mixed:=by kernel_rfl
 f21:=Tryz.func253.trans (congrArg some (by kernel_rfl))
 f27:=Tryz.func295.trans (congrArg some (by kernel_rfl))
 f28:=Tryz.func296.trans (congrArg some (by kernel_rfl))
 f35:=Tryz.func326.trans (congrArg some (by kernel_rfl))
 f39:=Tryz.func354.trans (congrArg some (by kernel_rfl))
 t0:=Tryz.underlying0
 a0:=Tryz.isAgg0
 z0:=Tryz.sizeOf0
 v0:=Tryz.zeroValue0
 t3:=Tryz.underlying3
 a3:=Tryz.isAgg3
 z3:=Tryz.sizeOf3
 v3:=Tryz.zeroValue3
 t4:=Tryz.underlying4
 a4:=Tryz.isAgg4
 z4:=Tryz.sizeOf4
 v4:=Tryz.zeroValue4
 t22:=Tryz.underlying22
 a22:=Tryz.isAgg22
 z22:=Tryz.sizeOf22
 v22:=Tryz.zeroValue22
 i3:=by kernel_rfl
end Go.Proofs.YtkofafmiabmobaaGreatDoor
/-
  The three functions of slices, as contracts of ours.
-/
namespace Go.Proofs.YtkofafmiabmobaaGreatDoor
open Go.Vx Go.ChangeShapes Go.WideShapes Go.ChangeAt Go.RowKit
attribute [local semireducible] Con
theorem Con.ofCallsM {P:Program}{f:FuncId}{args:Array Value}{G:GH}{μ:OH}{Φ:Value→GH→OH→Prop}(h:∀ w,Mem G μ w→Calls P f args w fun e w'=>∃ v,e=.returned v∧∃ G' μ',Step G μ w G' μ' w'∧Φ v G' μ'):Con P f args G μ Φ:=by
 intro w hw
 exact (h w hw).mono fun e w' hq=>by
  obtain ⟨v,rfl,hv⟩:=hq
  exact ⟨v,rfl,hv⟩
theorem cell_spot {G:GH}{a:Addr}{v:Value}(h:GH.cell? G a=some v):a.spot=none:=by
 unfold GH.cell? at h
 split at h
 ·split at h
  ·cases h
  ·rename_i h'
   cases hs:a.spot with
   | none=>rfl
   | some s=>rw [hs] at h';simp at h'
 ·cases h
theorem search_s {G:GH}{l:List Int}{sv:Value}(x:Int) (hs:Sl G 1 (IntR .i64) sv l) (hl:0<l.length) (hbig:l.length≤1048576) (hsort:l.Pairwise (· ≤ ·)) :
 Con Tryz.prog 252 #[sv,.int .i64 x] G [] (Just (.tuple #[.int .i64 (l.countP (· < x):Nat),.bool (l.contains x)]) G):=by
 obtain ⟨A,c,rfl,hlc,hcm,hsome,hel,_⟩:=hs.openInt
 refine Con.ofCallsM fun w hw=>?_
 have hA:=hsome hl
 cases A with
 | none=>cases hA
 | some a =>
  obtain ⟨b,off,spot⟩:=a
  have h0:=cell_spot (hel 0 hl)
  have:spot=none:=by simpa [adr,Addr.add] using h0
  subst this
  refine (Any.slices_BinarySearch_int laysSearch b off l.length c l x w (Nat.le_refl _) (by omega) (fun j hj=>?_) (by rw [List.take_length];exact hsort)).mono ?_
  ·have:=hel j hj
   rw [Nat.mul_one] at this
   have h2:=(Cell.frozen (μ:=[]) this) w hw.sees
   rw [show (adr (some ⟨b,off,none⟩)).add j=(⟨b,off+j,none⟩:Addr) from add_mk b off j] at h2
   rw [h2,List.getD_eq_getElem?_getD,List.getElem?_eq_getElem hj];rfl
  ·rintro e w' ⟨rfl,q,rfl⟩
   rw [List.take_length]
   exact ⟨_,rfl,G,[],Step.drew hw q,rfl,rfl,rfl⟩
section
variable {G:GH}{μ μ':OH}{w:World}{b:Nat}{e:TypeId}
theorem Step.map {vs vs':List Value}{f:Array Value→Array Value}(hw:Mem G μ w) (hb:Has μ b vs e) (hf:f vs.toArray=vs'.toArray) (hu:Upd b (.cells vs'.toArray e (0,0)) μ μ'):Step G μ w G μ' (Go.Sort.mapBlock w b f):=by
 have hg:=hw.own _ _ hb
 refine Step.upd hw hu rfl rfl rfl (by simp [Go.Sort.mapBlock]) ?_ (fun c hc=>?_)
 ·simp only [Go.Sort.mapBlock,Array.getElem?_modify,if_true,hg,Option.map_some,Go.Sort.onCells,hf]
 ·simp only [Go.Sort.mapBlock,Array.getElem?_modify]
  rw [if_neg (fun h=>hc h.symm)]
theorem over_cons {vs:List Value}{i:Nat}{v:Value}{r:List Value}(h:i<vs.length):over (vs.set i v) (i+1) r=over vs i (v::r):=by
 have t1:(vs.set i v).take (i+1)=vs.take i++[v]:=by
  rw [List.take_add_one,List.getElem?_set_self h,List.take_set,List.set_eq_of_length_le (by rw [List.length_take];omega)];rfl
 have t2:(vs.set i v).drop (i+1+r.length)=vs.drop (i+1+r.length):=by
  rw [List.drop_set,if_pos (by omega)]
 simp only [over,t1,t2,List.length_cons]
 rw [show i+1+r.length=i+(r.length+1) by omega]
 simp
theorem Step.cells:∀ (us:List Value) {vs:List Value}{o:Nat}{ν:OH}{w:World},Mem G ((b,.cells vs.toArray e (0,0))::ν) w→o+us.length≤vs.length →
 Step G ((b,.cells vs.toArray e (0,0))::ν) w G ((b,.cells (over vs o us).toArray e (0,0))::ν) (w.setCells b o us)
 | [],vs,o,ν,w,hw,_=>by simpa [over,World.setCells] using Step.refl hw
 | u::us,vs,o,ν,w,hw,h=>by
  rw [List.length_cons] at h
  have h1:Step G ((b,.cells vs.toArray e (0,0))::ν) w G ((b,.cells (vs.set o u).toArray e (0,0))::ν) (w.setCell ⟨b,o,none⟩ u):=by
   rw [Go.Sort.setCell_eq]
   exact Step.map hw (List.Mem.head _) (by simp) (.here _ _)
  have h2:=Step.cells us (vs:=vs.set o u) (o:=o+1) h1.mem (by simp;omega)
  rw [over_cons (by omega)] at h2
  exact h1.trans h2
end
theorem over_atM {a m r us:List Value}(h:us.length=m.length):over (a++m++r) a.length us=a++us++r:=by
 simp only [over,h,List.append_assoc,List.take_left,← List.drop_drop,List.drop_left]
theorem cellOwn {μ:OH}{G:GH}{w:World}{b:Nat}{e:TypeId}{vs:List Value}(hw:Mem G μ w) (hb:Has μ b vs e) {j:Nat}{v:Value}(hv:vs[j]? = some v):w.cell? ⟨b,0+j,none⟩=some v:=by
 rw [Nat.zero_add]
 exact Cell.own hb hv w hw.sees
theorem frozenOwn {μ:OH}{G:GH}{w:World}{b:Nat}{e:TypeId}{vs:List Value}(hw:Mem G μ w) (hb:Has μ b vs e) (j:Nat):w.frozen? ⟨b,j,none⟩=false:=by
 have:=hw.own _ _ hb
 simp [World.frozen?,this]
theorem shapeOwn {μ:OH}{G:GH}{w:World}{b:Nat}{e:TypeId}{vs:List Value}(hw:Mem G μ w) (hb:Has μ b vs e):w.shape? b=some (e,vs.length):=by
 have:=hw.own _ _ hb
 simp [World.shape?,this]
theorem one_ints {k:IntKind}(l:List Int):∀ v∈l.map (Value.int k ·),v.oneCell'=true:=fun v hv=>List.all_eq_true.1 (allOne_ints l) v hv
theorem over_at2 {a m r us:List Value}(h:us.length=m.length):over (a++(m++r)) a.length us=a++us++r:=by
 rw [← List.append_assoc];exact over_atM h
theorem growOf {e:TypeId}{b n cap:Nat}{xs cells:List Value}(hx:xs.length=n) (hcells:∃ spare,cells=xs++spare) (hl:cells.length=cap) (hn:n≤cap) (hm:cap≤maxLen):Grow e 1 (.slice (some ⟨b,0,none⟩) n cap) n xs [(b,.cells cells.toArray e (0,0))]:=by
 obtain ⟨spare,rfl⟩:=hcells
 exact ⟨by omega,.inr ⟨b,cap,spare,rfl,rfl,hn,hm,by omega⟩⟩
theorem shift_cells {cs spare:List Value}{i:Nat}{x:Value}(hi:i≤cs.length) (hs:0<spare.length):∃ r,over (over (cs++spare) (i+1) (cs.drop i)) i [x]=cs.take i++[x]++cs.drop i++r:=by
 have hlt:0<(cs.drop i++spare).length:=by simp;omega
 obtain ⟨t0,t,ht⟩:∃ t0 t,cs.drop i++spare=t0::t:=by
  cases h:cs.drop i++spare with
  | nil=>rw [h] at hlt;simp at hlt
  | cons a b=>exact ⟨a,b,rfl⟩
 have htl:(cs.drop i).length≤t.length:=by
  have:=congrArg List.length ht
  simp at this ⊢
  omega
 have e0:cs++spare=(cs.take i++[t0])++t.take (cs.drop i).length++t.drop (cs.drop i).length:=by
  rw [List.append_assoc,List.take_append_drop,List.append_assoc,List.singleton_append,← ht,← List.append_assoc,List.take_append_drop]
 have hi1:(cs.take i++[t0]).length=i+1:=by simp;omega
 have hi2:(cs.take i).length=i:=by simp;omega
 refine ⟨t.drop (cs.drop i).length,?_⟩
 rw [e0,← hi1,over_atM (by rw [List.length_take];omega)]
 have e1:cs.take i++[t0]++cs.drop i++t.drop (cs.drop i).length=cs.take i++[t0]++(cs.drop i++t.drop (cs.drop i).length):=by simp
 rw [e1]
 conv=>lhs;rw [show over (cs.take i++[t0]++(cs.drop i++t.drop (cs.drop i).length)) i [x]=over (cs.take i++[t0]++(cs.drop i++t.drop (cs.drop i).length)) (cs.take i).length [x] by rw [hi2]]
 rw [over_atM (m:=[t0]) (us:=[x]) rfl]
 simp
theorem end_cells {cs spare:List Value}{x:Value}(hs:0<spare.length):∃ r,over (cs++spare) cs.length [x]=cs++[x]++r:=by
 match spare,hs with
 | y::r,_ =>
  refine ⟨r,?_⟩
  have:cs++y::r=cs++[y]++r:=by simp
  rw [this,over_atM (m:=[y]) (us:=[x]) rfl]
theorem insert_s {G:GH}{l:List Int}{i:Nat}{x:Int}{b vb cap:Nat}{spare:List Value}(hl:0<l.length) (hbig:l.length≤1048576) (hi:i≤l.length) (hc:l.length≤cap) (hm:cap≤maxLen) (hcap:(l.map (Value.int .i64 ·)++spare).length=cap) :
 Con Tryz.prog 253 #[.slice (some ⟨b,0,none⟩) l.length cap,.int .i64 i,.slice (some ⟨vb,0,none⟩) 1 1] G [(b,.cells (l.map (Value.int .i64 ·)++spare).toArray 3 (0,0)),(vb,.cells [Value.int .i64 x].toArray 3 (0,0))]
  (fun r G' μ'=>G'=G∧Grow 3 1 r (l.length+1) ((l.take i++[x]++l.drop i).map (Value.int .i64 ·)) μ'):=by
 refine Con.ofCallsM fun w hw=>?_
 have hne:vb≠b:=by
  have:=hw.nodup
  simp at this
  exact fun e=>this e.symm
 simp only [maxLen] at hm
 have h1:Has [(b,.cells (l.map (Value.int .i64 ·)++spare).toArray 3 (0,0)),(vb,.cells [Value.int .i64 x].toArray 3 (0,0))] b (l.map (Value.int .i64 ·)++spare) 3:=List.Mem.head _
 have h2:Has [(b,.cells (l.map (Value.int .i64 ·)++spare).toArray 3 (0,0)),(vb,.cells [Value.int .i64 x].toArray 3 (0,0))] vb [Value.int .i64 x] 3:=List.Mem.tail _ (List.Mem.head _)
 have hcl:(l.map (Value.int .i64 ·)).length=l.length:=by simp
 have hsl:spare.length=cap-l.length:=by rw [List.length_append,hcl] at hcap;omega
 have hcs:∀ j v,(l.map (Value.int .i64 ·))[j]? = some v→w.cell? ⟨b,0+j,none⟩=some v:=fun j v hv=>cellOwn hw h1 (by rw [List.getElem?_append_left (List.getElem?_eq_some_iff.1 hv).1];exact hv)
 have hvs:∀ j v,[Value.int .i64 x][j]? = some v→w.cell? ⟨vb,0+j,none⟩=some v:=fun j v hv=>cellOwn hw h2 hv
 have hsp:∀ j,j<cap→(w.cell? ⟨b,0+j,none⟩).isSome=true:=fun j hj=>by
  have hlt:j<(l.map (Value.int .i64 ·)++spare).length:=by rw [hcap];exact hj
  rw [cellOwn hw h1 (List.getElem?_eq_getElem hlt)];rfl
 have h1v:∀ v∈[Value.int .i64 x],v.oneCell'=true:=by intro v hv;simp at hv;subst hv;rfl
 have hlen:(l.take i++[x]++l.drop i).length=l.length+1:=by simp;omega
 by_cases hroom:l.length+1≤cap
 ·by_cases hin:i<l.length
  ·refine (Any2.slices_Insert_int_shift laysInsert b 0 l.length cap i vb 0 1 1 (l.map (Value.int .i64 ·)) [Value.int .i64 x] w hin (by omega) hroom hm hne hcl rfl hcs (fun j hj=>hsp j (by omega)) (fun j _=>frozenOwn hw h1 _) hvs (one_ints l) h1v _ _ _ _ (shapeOwn hw h2) (shapeOwn hw h1) (by rw [hcap];omega) (frozenOwn hw h2 _) (frozenOwn hw h2 _)).mono ?_
   rintro e w' ⟨rfl,rfl⟩
   obtain ⟨r,hr⟩:=shift_cells (cs:=l.map (Value.int .i64 ·)) (spare:=spare) (i:=i) (x:=.int .i64 x) (by omega) (by omega)
   have st0:=Step.drew hw 1
   have st1:=Step.cells ((l.map (Value.int .i64 ·)).drop i) (o:=0+(i+1)) st0.mem (by simp;omega)
   have st2:=Step.cells [Value.int .i64 x] (o:=0+i) st1.mem (by rw [over_length (by simp;omega),hcap];simp;omega)
   rw [Nat.zero_add,Nat.zero_add,hr] at st2
   refine ⟨_,rfl,G,_,((st0.trans st1).trans (by rw [Nat.zero_add,Nat.zero_add];rw [Nat.zero_add] at st1;exact st2)).drop (List.Sublist.cons_cons _ (List.nil_sublist _)),rfl,growOf (by simp;omega) ⟨r,by simp [List.map_take,List.map_drop]⟩ ?_ hroom hm⟩
   rw [← hr,over_length (by rw [over_length (by simp;omega)];simp;omega),over_length (by simp;omega),hcap]
  ·obtain rfl:i=l.length:=by omega
   refine (Any2.slices_Insert_int_end_room laysInsert b 0 l.length cap vb 0 1 1 [Value.int .i64 x] w (by omega) hroom hm rfl (fun j hj=>by rw [Nat.add_assoc];exact hsp _ (by omega)) (fun j _=>frozenOwn hw h1 _) hvs h1v).mono ?_
   rintro e w' ⟨rfl,rfl⟩
   obtain ⟨r,hr⟩:=end_cells (cs:=l.map (Value.int .i64 ·)) (spare:=spare) (x:=.int .i64 x) (by omega)
   have st1:=Step.cells [Value.int .i64 x] (o:=0+l.length) hw (by simp;omega)
   rw [hcl] at hr
   have hr':over (l.map (Value.int .i64 ·)++spare) (0+l.length) [Value.int .i64 x]=l.map (Value.int .i64 ·)++[Value.int .i64 x]++r:=by rw [Nat.zero_add];exact hr
   rw [hr'] at st1
   refine ⟨_,rfl,G,_,st1.drop (List.Sublist.cons_cons _ (List.nil_sublist _)),rfl,growOf (by simp) ⟨r,by simp⟩ ?_ hroom hm⟩
   rw [← hr',over_length (by simp;omega),hcap]
 ·by_cases hin:i<l.length
  ·refine (Any2.slices_Insert_int_grow laysInsert b 0 l.length cap i vb 0 1 1 (l.map (Value.int .i64 ·)) [Value.int .i64 x] w hin (by omega) hc (by omega) (by omega) hcl rfl hcs hvs (one_ints l) h1v).mono ?_
   rintro e w' ⟨rfl,rfl⟩
   have hge:=grownCap_ge w (l.length+1) cap 3
   have hle:=grownCap_le_maxLen w (l.length+1) cap 3 (by simp only [maxLen];omega)
   generalize hK:(Builtin.zeroCells (Value.int .i64 0).cells (grownCap w (l.length+1) cap (laysInsert_ren.t 3)-(l.length+1)))=K
   have hKl:K.toList.length=grownCap w (l.length+1) cap 3-(l.length+1):=by
    rw [← hK,show laysInsert_ren.t 3=3 from rfl]
    simp [size_zeroCells,Value.cells]
   generalize hZ:(Builtin.zeroCells (Value.int .i64 0).cells (l.length+1-i))=Z
   have hZl:Z.toList.length=l.length+1-i:=by
    rw [← hZ]
    simp [size_zeroCells,Value.cells]
   obtain ⟨z0,Z',hZ'⟩:∃ z0 Z',Z.toList=z0::Z':=by
    cases h:Z.toList with
    | nil=>rw [h] at hZl;simp at hZl;omega
    | cons a b=>exact ⟨a,b,rfl⟩
   have hZl':Z'.length=l.length-i:=by rw [hZ',List.length_cons] at hZl;omega
   have hobj:Obj.cells (((l.map (Value.int .i64 ·)).take i).toArray++Z++K) (laysInsert_ren.t 3)=Obj.cells ((l.map (Value.int .i64 ·)).take i++[z0]++(Z'++K.toList)).toArray 3 (0,0):=by
    rw [show laysInsert_ren.t 3=3 from rfl]
    congr 1
    apply Array.ext'
    simp [hZ']
   rw [hobj]
   have st1:=(Step.alloc hw (.cells ((l.map (Value.int .i64 ·)).take i++[z0]++(Z'++K.toList)).toArray 3 (0,0))).drop (List.Sublist.cons_cons _ (List.nil_sublist _))
   have st2:=Step.drew st1.mem 1
   have hti:((l.map (Value.int .i64 ·)).take i).length=i:=by simp;omega
   have st3:=Step.cells [Value.int .i64 x] (o:=((l.map (Value.int .i64 ·)).take i).length) st2.mem (by simp)
   rw [over_atM (m:=[z0]) (us:=[Value.int .i64 x]) rfl] at st3
   have st4:=Step.drew st3.mem 1
   have st5:=Step.cells ((l.map (Value.int .i64 ·)).drop i) (o:=((l.map (Value.int .i64 ·)).take i++[Value.int .i64 x]).length) st4.mem (by simp;omega)
   rw [over_at2 (m:=Z') (by simp;omega)] at st5
   have st:=((((st1.trans st2).trans st3).trans st4).trans st5)
   rw [hti,List.length_append,hti] at st
   refine ⟨_,rfl,G,_,st,rfl,growOf (by simp;omega) ⟨K.toList,by simp [List.map_take,List.map_drop]⟩ ?_ hge hle⟩
   rw [List.length_append,hKl,show laysInsert_ren.t 3=3 from rfl]
   simp
   omega
  ·obtain rfl:i=l.length:=by omega
   refine (Any2.slices_Insert_int_end_grow laysInsert (some ⟨b,0,none⟩) l.length cap vb 0 1 1 (l.map (Value.int .i64 ·)) [Value.int .i64 x] w (by omega) hc (by omega) (by omega) hcl rfl (by intro h;cases h) (by rintro a ⟨rfl⟩ j v hv;rw [add_mk];exact hcs j v hv) hvs h1v).mono ?_
   rintro e w' ⟨rfl,rfl⟩
   have hge:=grownCap_ge w (l.length+1) cap 3
   have hle:=grownCap_le_maxLen w (l.length+1) cap 3 (by simp only [maxLen];omega)
   have st0:=Step.drew hw 1
   have st1:=Step.alloc st0.mem (.cells (l.map (Value.int .i64 ·)++[Value.int .i64 x]++(Builtin.zeroCells (Value.int .i64 0).cells (grownCap w (l.length+1) cap 3-(l.length+1))).toList).toArray 3 (0,0))
   have hobj:Obj.cells (l.map (Value.int .i64 ·)++[Value.int .i64 x]++(Builtin.zeroCells (Value.int .i64 0).cells (grownCap w (l.length+1) cap 3-(l.length+1))).toList).toArray 3 (0,0)=Obj.cells ((l.map (Value.int .i64 ·)++[Value.int .i64 x]).toArray++Builtin.zeroCells (Value.int .i64 0).cells (grownCap w (l.length+1) cap 3-(l.length+1))) 3 (0,0):=by simp
   have st2:=(st0.trans st1).drop (List.Sublist.cons_cons _ (List.nil_sublist _))
   refine ⟨_,rfl,G,[(w.heap.size,.cells (l.map (Value.int .i64 ·)++[Value.int .i64 x]++(Builtin.zeroCells (Value.int .i64 0).cells (grownCap w (l.length+1) cap 3-(l.length+1))).toList).toArray 3 (0,0))],?_,rfl,growOf (by simp) ⟨_,by rw [List.take_length,List.drop_length];simp;rfl⟩ ?_ hge hle⟩
   ·have st3:=st2
    conv at st3=>arg 6;rw [hobj]
    exact st3
   ·rw [show laysInsert_ren.t 3=3 from rfl]
    simp [size_zeroCells,Value.cells]
    omega
theorem putCells_list {cs spare:List Value}{d:List Int}(h:cs.length=d.length):Go.Sort.putCells (Value.int .i64) 0 d.toArray (cs++spare).toArray=(d.map (Value.int .i64 ·)++spare).toArray:=by
 apply Array.ext_getElem?
 intro k
 simp only [Go.Sort.putCells,Array.getElem?_mapIdx,List.getElem?_toArray]
 by_cases hk:k<d.length
 ·rw [List.getElem?_append_left (by omega),List.getElem?_append_left (by simpa using hk),List.getElem?_eq_getElem (by omega)]
  simp [hk]
 ·rw [List.getElem?_append_right (by omega),List.getElem?_append_right (by simp;omega)]
  simp only [List.length_map,h]
  cases hs:spare[k-d.length]? with
  | none=>simp
  | some v=>simp [hk]
theorem delete_s {G:GH}{l:List Int}{i:Nat}{b cap:Nat}{spare:List Value}(hi:i<l.length) (hc:l.length≤cap) (hm:cap≤maxLen) (hcap:(l.map (Value.int .i64 ·)++spare).length=cap) :
 Con Tryz.prog 254 #[.slice (some ⟨b,0,none⟩) l.length cap,.int .i64 i,.int .i64 ((i+1:Nat):Int)] G [(b,.cells (l.map (Value.int .i64 ·)++spare).toArray 3 (0,0))]
  (fun r G' μ'=>G'=G∧Grow 3 1 r (l.length-1) ((l.take i++l.drop (i+1)).map (Value.int .i64 ·)) μ'):=by
 refine Con.ofCallsM fun w hw=>?_
 have hm':=hm
 simp only [maxLen] at hm'
 have h1:Has [(b,.cells (l.map (Value.int .i64 ·)++spare).toArray 3 (0,0))] b (l.map (Value.int .i64 ·)++spare) 3:=List.Mem.head _
 refine (Any.slices_Delete_int laysDelete b 0 cap i (i+1) l w (fun j hj=>⟨?_,frozenOwn hw h1 _⟩) hc hm' (by omega) (by omega)).mono ?_
 ·have hj':j<l.length:=by simpa using hj
  rw [cellOwn hw h1 (v:=.int .i64 l[j]) (by rw [List.getElem?_append_left (by simpa using hj'),List.getElem?_map,List.getElem?_eq_getElem hj'];rfl)]
  simp [hj']
 ·rintro e w' ⟨rfl,q,rfl⟩
  have st0:=Step.drew hw q
  have hdl:(l.take i++l.drop (i+1)++List.replicate (i+1-i) 0).length=l.length:=by simp;omega
  have st1:Step G _ _ G [(b,.cells ((l.take i++l.drop (i+1)++List.replicate (i+1-i) 0).map (Value.int .i64 ·)++spare).toArray 3 (0,0))] _:=Step.map (f:=Go.Sort.putCells (Value.int .i64) 0 (l.take i++l.drop (i+1)++List.replicate (i+1-i) 0).toArray) st0.mem h1 (putCells_list (by rw [hdl];simp)) (.here _ _)
  refine ⟨_,rfl,G,_,st0.trans st1,rfl,?_⟩
  rw [show i+1-i=1 by omega]
  refine growOf (by simp;omega) ⟨Value.int .i64 0::spare,by simp⟩ ?_ (by omega) hm
  rw [List.length_append,List.length_map] at hcap ⊢
  simp
  omega
end Go.Proofs.YtkofafmiabmobaaGreatDoor
/-
  conf (layer 11), the fourth part: members with a change.
-/
namespace Go.Proofs.YtkofafmiabmobaaGreatDoor
open Go.Vx Go.ChangeShapes Go.WideShapes Go.ChangeAt Go.RowKit
def changedL (l:List Int) (kind n:Int):List Int :=
 if kind=7∧l.contains n=false∧1≤n∧n≤9 then l.take (l.countP (· < n))++[n]++l.drop (l.countP (· < n))
 else if kind=8∧l.contains n=true∧1<l.length then l.take (l.countP (· < n))++l.drop (l.countP (· < n)+1) else []
theorem MemOK.sorted {l:List Int}(h:MemOK l):l.Pairwise (· < ·):=by
 rw [List.pairwise_iff_getElem]
 obtain ⟨_,h⟩:=h
 have key:∀ (d i:Nat) (hi:i+d+1<l.length),l[i]<l[i+d+1]:=by
  intro d
  induction d with
  | zero =>
   intro i hi
   have:=(h (i+1) (by omega)).2.2 (by omega)
   simpa using this
  | succ d ih =>
   intro i hi
   have h1:=ih i (by omega)
   have h2:=(h (i+(d+1)+1) hi).2.2 (by omega)
   have h3:l[i+(d+1)+1-1]=l[i+d+1]:=by congr 1
   rw [h3] at h2
   omega
 intro i j hi hj hij
 have:=key (j-i-1) i (by omega)
 have h3:l[i+(j-i-1)+1]'(by omega)=l[j]:=by congr 1;omega
 omega
theorem MemOK.weak {l:List Int}(h:MemOK l):l.Pairwise (· ≤ ·):=h.sorted.imp fun h=>Int.le_of_lt h
theorem countP_lt {l:List Int}{n:Int}(h:l.contains n=true):l.countP (· < n)<l.length:=by
 have h1:n∈l:=by simpa using h
 rw [Nat.lt_iff_le_and_ne]
 refine ⟨List.countP_le_length,fun e=>?_⟩
 have:=List.countP_eq_length.1 e n h1
 simp at this
theorem changed_s {G:GH}{l:List Int}{sv:Value}(kind n:Int) (hs:Sl G 1 (IntR .i64) sv l) (hok:MemOK l) (hbig:l.length≤1048000) (hn:(Lit.int .i64 n).wf=true) :
 Con Tryz.prog 216 #[sv,.int .i64 kind,.int .i64 n] G [] (fun r G' μ'=>μ'=[]∧∃ v,r=.tuple #[v,.bool (decide (0<(changedL l kind n).length))]∧Sl G' 1 (IntR .i64) v (changedL l kind n)):=by
 have hsearch:=search_s n hs hok.1 (by omega) hok.weak
 obtain ⟨A,c,rfl,hlc,hcm,hsome,hel,hwf⟩:=hs.openInt
 simp only [maxLen] at hcm
 (refine v_enter Tryz.func216 rfl Tryz.ntmps216 rfl ?_;intro B _)
 repeat' (first|refine Wa ?_|(refine Wc ⟨?_,?_⟩<;>first|exact True.intro|intro h)|refine cJ hsearch ?_|(refine Wb ?_;intro b)|fail)
 all_goals try
  (refine v_ret [] (outsA2 rfl rfl rfl) sS ?_
   have e:changedL l kind n=[]:=by
    unfold changedL
    rw [if_neg,if_neg]
    ·rintro ⟨h1,h2,h3⟩
     first|omega|simp_all
    ·rintro ⟨h1,h2,h3⟩
     first|omega|simp_all
   rw [e]
   exact ⟨rfl,_,rfl,Sl.nil⟩)
 ·have e:changedL l kind n=l.take (l.countP (· < n))++[n]++l.drop (l.countP (· < n)):=by
   unfold changedL
   rw [if_pos]
   exact ⟨by assumption,by assumption,by omega,by omega⟩
  refine v_call (μ1:=[]) (μ2:=_) rfl (clone_s hs (by omega)) (List.Perm.refl _) rfl ?_
  rintro r G' μ1 - ⟨rfl,hlen,⟨-,h0,-⟩|⟨b,cap,spare,rfl,rfl,h1,h2,h3⟩⟩
  ·have:=hok.1;omega
  have hcP:l.countP (· < n)≤l.length:=List.countP_le_length
  repeat' (first|refine Wa ?_|(refine Wc ⟨?_,?_⟩<;>first|exact True.intro|intro h)|(refine Wb ?_;intro b)|fail)
  refine v_call (μ2:=[]) rfl (insert_s (l:=l) (i:=l.countP (· < n)) (x:=n) (spare:=spare) hok.1 (by omega) hcP h1 h2 (by rw [h3];omega)) (by rw [List.append_nil];exact List.Perm.swap _ _ _) rfl ?_
  rintro r G'' μ1 - ⟨rfl,hg⟩
  refine v_freeze (ν:=μ1) (μ:=[]) ?_
  intro G1 hle hG
  repeat' (first|refine Wa ?_|(refine Wc ⟨?_,?_⟩<;>first|exact True.intro|intro h)|(refine Wb ?_;intro b)|fail)
  refine v_ret [] (outsA2 rfl rfl rfl) sS ?_
  rw [e]
  refine ⟨rfl,_,?_,Grow.ints (l:=l.take (l.countP (· < n))++[n]++l.drop (l.countP (· < n))) (by
   have:(l.take (l.countP (· < n))++[n]++l.drop (l.countP (· < n))).length=l.length+1:=by simp;omega
   rw [this];exact hg) hG ?_⟩
  ·rw [decide_eq_true (by simp;omega)]
  ·intro x hx
   simp only [List.mem_append,List.mem_singleton] at hx
   rcases hx with (hx|hx)|hx
   ·exact hwf x (List.mem_of_mem_take hx)
   ·rw [hx];exact hn
   ·exact hwf x (List.mem_of_mem_drop hx)
 ·have e:changedL l kind n=l.take (l.countP (· < n))++l.drop (l.countP (· < n)+1):=by
   unfold changedL
   rw [if_neg (by rintro ⟨h1,_⟩;omega),if_pos]
   exact ⟨by assumption,by assumption,by omega⟩
  refine v_call (μ1:=[]) (μ2:=_) rfl (clone_s hs (by omega)) (List.Perm.refl _) rfl ?_
  rintro r G' μ1 - ⟨rfl,hlen,⟨-,h0,-⟩|⟨b,cap,spare,rfl,rfl,h1,h2,h3⟩⟩
  ·have:=hok.1;omega
  have hcP:l.countP (· < n)<l.length:=countP_lt (by assumption)
  have hn1:1<l.length:=by omega
  repeat' (first|refine Wa ?_|(refine Wc ⟨?_,?_⟩<;>first|exact True.intro|intro h)|(refine Wb ?_;intro b)|fail)
  refine v_call (μ2:=[]) rfl (delete_s (l:=l) (i:=l.countP (· < n)) (spare:=spare) hcP h1 h2 (by rw [h3];omega)) (List.Perm.refl _) rfl ?_
  rintro r G'' μ1 - ⟨rfl,hg⟩
  refine v_freeze (ν:=μ1) (μ:=[]) ?_
  intro G1 hle hG
  repeat' (first|refine Wa ?_|(refine Wc ⟨?_,?_⟩<;>first|exact True.intro|intro h)|(refine Wb ?_;intro b)|fail)
  refine v_ret [] (outsA2 rfl rfl rfl) sS ?_
  rw [e]
  refine ⟨rfl,_,?_,Grow.ints (l:=l.take (l.countP (· < n))++l.drop (l.countP (· < n)+1)) (by
   have:(l.take (l.countP (· < n))++l.drop (l.countP (· < n)+1)).length=l.length-1:=by simp;omega
   rw [this];exact hg) hG ?_⟩
  ·rw [decide_eq_true (by simp;omega)]
  ·intro x hx
   simp only [List.mem_append] at hx
   rcases hx with hx|hx
   ·exact hwf x (List.mem_of_mem_take hx)
   ·exact hwf x (List.mem_of_mem_drop hx)
def nine (k:Nat):List Int:=(List.range k).map fun j:Nat=>(j:Int)+1
def refChangedL (l:List Int) (kind n:Int):List Int :=
 if kind=7∧1≤n∧n≤9∧inB l n=false then (nine 9).filter fun m=>decide (m=n) || inB l m
 else if kind=8∧inB l n=true then l.filter fun m=>decide (m≠n) else []
theorem nine_succ (k:Nat):nine (k+1)=nine k++[(k:Int)+1]:=by simp [nine,List.range_succ]
theorem refChanged_s {G:GH}{l:List Int}{sv:Value}(kind n:Int) (hs:Sl G 1 (IntR .i64) sv l) (hbig:l.length≤1048000) :
 Con Tryz.prog 176 #[sv,.int .i64 kind,.int .i64 n] G [] (fun r G' μ'=>G'=G∧Grow 3 1 r (refChangedL l kind n).length ((refChangedL l kind n).map (Value.int .i64 ·)) μ'):=by
 have hin:=fun m=>in_s m hs
 obtain ⟨A,c,rfl,hlc,hcm,hsome,hel,hwf⟩:=hs.openInt
 simp only [maxLen] at hcm
 (refine v_enter Tryz.func176 rfl Tryz.ntmps176 rfl ?_;intro B _)
 repeat' (first|refine Wa ?_|(refine Wc ⟨?_,?_⟩<;>first|exact True.intro|intro h)|refine cJ (hin _) ?_|refine Wr ?_|(refine Wb ?_;intro b)|fail)
 ·have e:refChangedL l kind n=(nine 9).filter fun m=>decide (m=n) || inB l m:=by
   unfold refChangedL
   rw [if_pos ⟨by assumption,by assumption,by assumption,by assumption⟩]
  refine v_loop [8,7,0,1,2] (fun us G' μ'=>G'=G∧∃ (k:Nat) (out:Value),k≤9∧us=[Value.int .i64 ((k:Int)+1),out,.slice A l.length c,.int .i64 kind,.int .i64 n]∧Grow 3 1 out ((nine k).filter fun m=>decide (m=n) || inB l m).length (((nine k).filter fun m=>decide (m=n) || inB l m).map (Value.int .i64 ·)) μ') (fun us=>10-(headI us).toNat) rfl ⟨rfl,0,_,by omega,rfl,Grow.nil _ _⟩ ?_
  rintro us G' μ' ⟨rfl,k,out,hk,rfl,hg⟩
  have hf:=List.length_filter_le (fun m=>decide (m=n) || inB l m) (nine k)
  have hnk:(nine k).length=k:=by simp [nine]
  repeat' (first|refine Wa ?_|(refine Wc ⟨?_,?_⟩<;>first|exact True.intro|intro h)|refine cJ (hin _) ?_|refine Wr ?_|(refine Wb ?_;intro b)|fail)
  all_goals try
   (refine v_append (e:=3) (sz:=1) (zero:=.int .i64 0) (us:=[Value.int .i64 ((k:Int)+1)]) (m':=1) rfl (by omega) rfl rfl hg (List.perm_append_comm (l₁:=[_])) (Src.own (List.Mem.head _) rfl) rfl (by omega) (by simp only [maxLen];omega) rfl ?_
    intro v' ν' hg'
    repeat' (first|refine Wa ?_|(refine Wc ⟨?_,?_⟩<;>first|exact True.intro|intro h)|refine Wr ?_|(refine Wb ?_;intro b)|fail)
    refine v_drop (ν:=ν') (by simp) ?_
    refine Va rfl ⟨rfl,k+1,v',by omega,rfl,?_⟩
    have ef:((nine (k+1)).filter fun m=>decide (m=n) || inB l m)=((nine k).filter fun m=>decide (m=n) || inB l m)++[(k:Int)+1]:=by
     rw [nine_succ,List.filter_append]
     congr 1
     simp [*]
    rw [ef]
    simpa using hg')
  ·refine Va rfl ⟨rfl,k+1,out,by omega,rfl,?_⟩
   have ef:((nine (k+1)).filter fun m=>decide (m=n) || inB l m)=((nine k).filter fun m=>decide (m=n) || inB l m):=by
    rw [nine_succ,List.filter_append]
    simp [*]
   rw [ef]
   exact hg
  ·obtain rfl:k=9:=by omega
   rw [← e] at hg
   repeat' (first|refine Wa ?_|(refine Wc ⟨?_,?_⟩<;>first|exact True.intro|intro h)|refine Wr ?_|(refine Wb ?_;intro b)|fail)
   all_goals first
    |(exfalso;omega)
    |(refine v_ret μ' (outsA1 rfl rfl) (List.Sublist.refl _) ?_
      exact ⟨rfl,hg⟩)
 all_goals try
  (refine Vr ?_
   have e:refChangedL l kind n=[]:=by
    unfold refChangedL
    rw [if_neg,if_neg]
    ·rintro ⟨h1,h2⟩
     first|omega|simp_all
    ·rintro ⟨h1,h2,h3,h4⟩
     first|omega|simp_all
   rw [e]
   exact ⟨rfl,Grow.nil _ _⟩)
 all_goals
  (have e:refChangedL l kind n=l.filter fun m=>decide (m≠n):=by
    unfold refChangedL
    rw [if_neg (by rintro ⟨h1,h2,h3,h4⟩;omega),if_pos ⟨by assumption,by assumption⟩]
   refine v_loop [9,7,0,1,2] (fun us G' μ'=>G'=G∧∃ (k:Nat) (out:Value),k≤l.length∧us=[Value.int .i64 (k:Int),out,.slice A l.length c,.int .i64 kind,.int .i64 n]∧Grow 3 1 out ((l.take k).filter fun m=>decide (m≠n)).length (((l.take k).filter fun m=>decide (m≠n)).map (Value.int .i64 ·)) μ') (fun us=>l.length-(headI us).toNat) rfl ⟨rfl,0,_,by omega,rfl,Grow.nil _ _⟩ ?_
   rintro us G' μ' ⟨rfl,k,out,hk,rfl,hg⟩
   have hf:=List.length_filter_le (fun m=>decide (m≠n)) (l.take k)
   have hlk:(l.take k).length≤k:=by rw [List.length_take];omega
   repeat' (first|refine Wa ?_|(refine Wc ⟨?_,?_⟩<;>first|exact True.intro|intro h)|apply v_read;(case hop=>(apply r_load1;rfl;exact Cell.frozen (hel _ (by omega))));(case hd=>rfl)|refine Wr ?_|(refine Wb ?_;intro b)|fail))
 all_goals first
  |(refine v_append (e:=3) (sz:=1) (zero:=.int .i64 0) (us:=[Value.int .i64 (l[k]'(by omega))]) (m':=1) rfl (by omega) rfl rfl hg (List.perm_append_comm (l₁:=[_])) (Src.own (List.Mem.head _) rfl) rfl (by omega) (by simp only [maxLen];omega) rfl ?_
    intro v' ν' hg'
    repeat' (first|refine Wa ?_|(refine Wc ⟨?_,?_⟩<;>first|exact True.intro|intro h)|refine Wr ?_|(refine Wb ?_;intro b)|fail)
    refine v_drop (ν:=ν') (by simp) ?_
    refine Va rfl ⟨rfl,k+1,v',by omega,rfl,?_⟩
    have hne:¬ l[k]'(by omega)=n:=by assumption
    have ef:((l.take (k+1)).filter fun m=>decide (m≠n))=((l.take k).filter fun m=>decide (m≠n))++[l[k]'(by omega)]:=by
     rw [List.take_succ_eq_append_getElem (by omega),List.filter_append]
     congr 1
     simp [hne]
    rw [ef]
    simpa using hg')
  |(refine Va rfl ⟨rfl,k+1,out,by omega,rfl,?_⟩
    have hne:l[k]'(by omega)=n:=by assumption
    have ef:((l.take (k+1)).filter fun m=>decide (m≠n))=((l.take k).filter fun m=>decide (m≠n)):=by
     rw [List.take_succ_eq_append_getElem (by omega),List.filter_append]
     simp [hne]
    rw [ef]
    exact hg)
  |(obtain rfl:k=l.length:=by omega
    rw [List.take_length,← e] at hg
    refine v_ret μ' (outsA1 rfl rfl) (List.Sublist.refl _) ?_
    exact ⟨rfl,hg⟩)
theorem sorted_ext:∀ {a b:List Int},a.Pairwise (· < ·)→b.Pairwise (· < ·)→(∀ x,x∈a↔x∈b)→a=b
 | [],[],_,_,_=>rfl
 | [],y::b,_,_,h=>by have:=(h y).2 (by simp);simp at this
 | x::a,[],_,_,h=>by have:=(h x).1 (by simp);simp at this
 | x::a,y::b,ha,hb,h=>by
  rw [List.pairwise_cons] at ha hb
  have hxy:x=y:=by
   have h1:=(h x).1 (by simp)
   have h2:=(h y).2 (by simp)
   simp only [List.mem_cons] at h1 h2
   rcases h1 with h1|h1
   ·exact h1
   ·rcases h2 with h2|h2
    ·exact h2.symm
    ·have:=hb.1 x h1
     have:=ha.1 y h2
     omega
  subst hxy
  congr 1
  refine sorted_ext ha.2 hb.2 fun z=>?_
  have hz:=h z
  simp only [List.mem_cons] at hz
  constructor
  ·intro hm
   have:=ha.1 z hm
   rcases hz.1 (.inr hm) with e|e
   ·omega
   ·exact e
  ·intro hm
   have:=hb.1 z hm
   rcases hz.2 (.inr hm) with e|e
   ·omega
   ·exact e
theorem countP_zero {l:List Int}{n:Int}(h:∀ x∈l,n≤x):l.countP (· < n)=0:=by
 rw [List.countP_eq_zero]
 intro x hx
 have:=h x hx
 simp;omega
theorem insert_sorted {n:Int}:∀ {l:List Int},l.Pairwise (· < ·)→n∉l→(l.take (l.countP (· < n))++[n]++l.drop (l.countP (· < n))).Pairwise (· < ·)
 | [],_,_=>by simp
 | a::l,h,hn=>by
  rw [List.pairwise_cons] at h
  simp only [List.mem_cons,not_or] at hn
  by_cases ha:a<n
  ·have ih:=insert_sorted h.2 hn.2
   rw [List.countP_cons_of_pos (by simpa using ha),List.take_succ_cons,List.drop_succ_cons]
   simp only [List.cons_append]
   rw [List.pairwise_cons]
   refine ⟨fun x hx=>?_,ih⟩
   simp only [List.mem_append,List.mem_singleton] at hx
   rcases hx with (hx|hx)|hx
   ·exact h.1 x (List.mem_of_mem_take hx)
   ·omega
   ·exact h.1 x (List.mem_of_mem_drop hx)
  ·have hz:(a::l).countP (· < n)=0:=countP_zero (by
    intro x hx
    simp only [List.mem_cons] at hx
    rcases hx with hx|hx
    ·omega
    ·have:=h.1 x hx;omega)
   rw [hz]
   simp only [List.take_zero,List.drop_zero,List.nil_append,List.singleton_append]
   rw [List.pairwise_cons,List.pairwise_cons]
   refine ⟨fun x hx=>?_,h⟩
   simp only [List.mem_cons] at hx
   rcases hx with hx|hx
   ·omega
   ·have:=h.1 x hx;omega
theorem delete_filter {n:Int}:∀ {l:List Int},l.Pairwise (· < ·)→n∈l→l.take (l.countP (· < n))++l.drop (l.countP (· < n)+1)=l.filter fun m=>decide (m≠n)
 | [],_,hn=>by simp at hn
 | a::l,h,hn=>by
  rw [List.pairwise_cons] at h
  simp only [List.mem_cons] at hn
  by_cases ha:a<n
  ·have hn':n∈l:=by
    rcases hn with e|e
    ·omega
    ·exact e
   have ih:=delete_filter h.2 hn'
   rw [List.countP_cons_of_pos (by simpa using ha),List.take_succ_cons,List.drop_succ_cons,List.cons_append,ih,List.filter_cons_of_pos (by simp;omega)]
  ·have hz:(a::l).countP (· < n)=0:=countP_zero (by
    intro x hx
    simp only [List.mem_cons] at hx
    rcases hx with hx|hx
    ·omega
    ·have:=h.1 x hx;omega)
   have hna:a=n:=by
    rcases hn with e|e
    ·exact e.symm
    ·have:=h.1 n e;omega
   rw [hz,List.filter_cons_of_neg (by simp [hna])]
   simp only [List.take_zero,List.nil_append,Nat.zero_add,List.drop_succ_cons,List.drop_zero]
   refine (List.filter_eq_self.2 fun x hx=>?_).symm
   have:=h.1 x hx
   simp;omega
theorem nine_sorted:∀ k,(nine k).Pairwise (· < ·)
 | 0=>by simp [nine]
 | k+1=>by
  rw [nine_succ,List.pairwise_append]
  refine ⟨nine_sorted k,by simp,fun a ha b hb=>?_⟩
  simp only [nine,List.mem_map,List.mem_range] at ha
  obtain ⟨j,hj,rfl⟩:=ha
  simp at hb
  omega
theorem mem_nine {x:Int}:x∈nine 9↔1≤x∧x≤9:=by
 simp only [nine,List.mem_map,List.mem_range]
 exact ⟨by rintro ⟨j,hj,rfl⟩;omega,fun h=>⟨(x-1).toNat,by omega,by omega⟩⟩
theorem MemOK.range {l:List Int}(h:MemOK l) {x:Int}(hx:x∈l):1≤x∧x≤9:=by
 obtain ⟨i,hi,rfl⟩:=List.getElem_of_mem hx
 have:=h.2 i hi
 omega
theorem refChanged_eq {l:List Int}(kind n:Int) (hok:MemOK l):refChangedL l kind n=changedL l kind n:=by
 have hin:∀ x,inB l x=l.contains x:=fun x=>by simp [inB]
 unfold refChangedL changedL
 by_cases h7:kind=7∧1≤n∧n≤9∧inB l n=false
 ·have hn:n∉l:=by simpa [inB] using h7.2.2.2
  rw [if_pos h7,if_pos ⟨h7.1,by rw [← hin];exact h7.2.2.2,h7.2.1,h7.2.2.1⟩]
  refine sorted_ext ((nine_sorted 9).filter _) (insert_sorted hok.sorted hn) fun x=>?_
  simp only [List.mem_filter,mem_nine,Bool.or_eq_true,decide_eq_true_eq,inB,List.mem_append,List.mem_singleton]
  have ht:x∈l↔x∈l.take (l.countP (· < n))∨x∈l.drop (l.countP (· < n)):=by
   rw [← List.mem_append,List.take_append_drop]
  constructor
  ·rintro ⟨_,h|h⟩
   ·exact .inl (.inr h)
   ·rcases ht.1 h with h|h
    ·exact .inl (.inl h)
    ·exact .inr h
  ·rintro ((h|h)|h)
   ·have hm:=ht.2 (.inl h);exact ⟨hok.range hm,.inr hm⟩
   ·exact ⟨by omega,.inl h⟩
   ·have hm:=ht.2 (.inr h);exact ⟨hok.range hm,.inr hm⟩
 ·have h7':¬ (kind=7∧l.contains n=false∧1≤n∧n≤9):=by rintro ⟨a,b,c,d⟩;exact h7 ⟨a,c,d,by rw [hin];exact b⟩
  rw [if_neg h7,if_neg h7']
  by_cases h8:kind=8∧inB l n=true
  ·have hn:n∈l:=by simpa [inB] using h8.2
   rw [if_pos h8,← delete_filter hok.sorted hn]
   by_cases h1:1<l.length
   ·rw [if_pos ⟨h8.1,by rw [← hin];exact h8.2,h1⟩]
   ·rw [if_neg (fun h=>h1 h.2.2)]
    have:=countP_lt (l:=l) (n:=n) (by simpa using hn)
    apply List.eq_nil_of_length_eq_zero
    rw [List.length_append,List.length_take,List.length_drop]
    omega
  ·rw [if_neg h8,if_neg (by rintro ⟨a,b,c⟩;exact h8 ⟨a,by rw [hin];exact b⟩)]
def CoCells (G:GH) (l:List Co) (css:List (List Value)):Prop:=css.length=l.length∧∀ (i:Nat) x cs,l[i]? = some x→css[i]? = some cs→cs.length=2∧CoR G x cs
theorem CoCells.le {G G':GH}{l:List Co}{css:List (List Value)}(h:CoCells G l css) (hle:GH.le G G'):CoCells G' l css :=
 ⟨h.1,fun i x cs h1 h2=>let ⟨a,b⟩:=h.2 i x cs h1 h2;⟨a,b.le hle⟩⟩
theorem CoCells.push {G:GH}{l:List Co}{css:List (List Value)}{x:Co}{cs:List Value}(h:CoCells G l css) (h2:cs.length=2) (hx:CoR G x cs):CoCells G (l++[x]) (css++[cs]):=by
 refine ⟨by simp [h.1],fun i y ds h3 h4=>?_⟩
 by_cases hi:i<l.length
 ·rw [List.getElem?_append_left hi] at h3
  rw [List.getElem?_append_left (by rw [h.1];exact hi)] at h4
  exact h.2 i y ds h3 h4
 ·rw [List.getElem?_append_right (by omega)] at h3
  rw [List.getElem?_append_right (by rw [h.1];omega),h.1] at h4
  have:i-l.length=0:=by
   have:=(List.getElem?_eq_some_iff.1 h3).1
   simp at this;omega
  rw [this] at h3 h4
  simp at h3 h4
  subst h3;subst h4
  exact ⟨h2,hx⟩
theorem CoCells.nil {G:GH}:CoCells G [] []:=⟨rfl,fun i x cs h=>by simp at h⟩
theorem CoCells.grow {G:GH}{l:List Co}{css:List (List Value)}{v:Value}{ν:OH}(h:CoCells G l css) (hg:Grow 71 2 v l.length css.flatten ν) {G':GH}(hle:GH.le G G') (hG:∀ b o,(b,o)∈ν→G' b=some o):Cos G' v l :=
 hg.sl hG h.1 (h.le hle).2
theorem permR7 {x y:Nat×Obj}{ν μ:OH}:(x::(ν++(y::μ))).Perm (μ++(x::(ν++[y]))):=by
 have h1:(x::(ν++(y::μ)))=(x::(ν++[y]))++μ:=by simp
 rw [h1]
 exact List.perm_append_comm
theorem cloneL_s {G:GH}{l:List Co}{sv:Value}(hs:Cos G sv l) (hl:l.length≤1000) (hbig:∀ c∈l,c.2.length≤1048576) :
 Con Tryz.prog 130 #[sv] G [] (fun r G' μ'=>∃ css,CoCells G' l css∧Grow 71 2 r l.length css.flatten μ'):=by
 obtain ⟨A,c,mA,mc,rfl,hlc,hcm,hsome,hcp,hc0,hc1,hmv,hwf⟩:=coOpen hs
 simp only [maxLen] at hcm
 (refine v_enter Tryz.func130 rfl Tryz.ntmps130 rfl ?_;intro B _)
 repeat' (first|refine Wa ?_|(refine Wc ⟨?_,?_⟩<;>first|exact True.intro|intro h)|refine Wr ?_|(refine Wb ?_;intro b)|fail)
 refine v_loop [8,7,6,3] (fun us G' μ'=>GH.le G G'∧∃ (k:Nat) (out:Value) (css:List (List Value)),k≤l.length∧us=[Value.int .i64 (k:Int),.int .i64 l.length,.slice A l.length c,out]∧CoCells G' (l.take k) css∧Grow 71 2 out k css.flatten μ') (fun us=>l.length-(headI us).toNat) rfl ⟨GH.le_refl _,0,_,[],by omega,rfl,CoCells.nil,Grow.nil _ _⟩ ?_
 rintro us G' μ' ⟨hle,k,out,css,hk,rfl,hcc,hg⟩
 repeat' (first|refine Wa ?_|(refine Wc ⟨?_,?_⟩<;>first|exact True.intro|intro h)|apply v_read;(case hop=>(apply r_loadN;rfl;exact CellsAt.frozen ((hcp _ (by omega)).le hle);rfl));(case hd=>rfl)|refine Wr ?_|(refine Wb ?_;intro b)|fail)
 ·have hlt:k<l.length:=by omega
  have hlt2:=hbig _ (List.getElem_mem hlt)
  refine Dz [(b,.cells ([.int .i64 (l[k]'hlt).1,.slice (mA k) (l[k]'hlt).2.length (mc k)]).toArray 71 (0,0))] ?_
  all_goals refine Dt [0,1,2,3,4] ?_
  all_goals (first|((apply d_call 5 (hs:=clone_s ((hmv _ hlt).mono hle) hlt2);(case hi=>rfl);(case hr=>kernel_rfl);(case ha=>rfl);(case hp=>exact List.Perm.refl _);(case hd=>rfl);(case hν'=>intro e he;simp at he;simp [he]);rintro r1 _ ν1 _ ⟨rfl,hg1⟩;obtain ⟨A1,c1,rfl,-,-⟩:=hg1.shape))|apply d_buildSlice 5;(case hi=>rfl);(case hr=>kernel_rfl);(case hT=>infer_instance);(case hL=>infer_instance);(case hz|hl=>rfl);(case hv=>(simp only [List.map_cons,List.map_nil];repeat (first|with_reducible exact evs_nil|apply evs_cons;(case h1=>rfl))));(case hp=>(first|with_reducible exact pk_nil|apply pk_cons;(case hc|hs=>rfl);(case h=>(first|with_reducible exact pk_nil|apply pk_cons;(case hc|hs=>rfl);(case h=>(first|with_reducible exact pk_nil|apply pk_cons;(case hc|hs=>rfl);(case h=>(first|with_reducible exact pk_nil|apply pk_cons;(case hc|hs=>rfl);(case h=>(first|with_reducible exact pk_nil|apply pk_cons;(case hc|hs=>rfl);(case h=>(first|with_reducible exact pk_nil|apply pk_cons;(case hc|hs=>rfl);(case h=>(first|with_reducible exact pk_nil|apply pk_cons;(case hc|hs=>rfl);(case h=>(first|with_reducible exact pk_nil|apply pk_cons;(case hc|hs=>rfl);(case h=>(with_reducible exact pk_nil));(case he=>(first|((repeat (first|with_reducible exact ap_nil|apply ap_cons));done)|rfl))|rfl));(case he=>(first|((repeat (first|with_reducible exact ap_nil|apply ap_cons));done)|rfl))|rfl));(case he=>(first|((repeat (first|with_reducible exact ap_nil|apply ap_cons));done)|rfl))|rfl));(case he=>(first|((repeat (first|with_reducible exact ap_nil|apply ap_cons));done)|rfl))|rfl));(case he=>(first|((repeat (first|with_reducible exact ap_nil|apply ap_cons));done)|rfl))|rfl));(case he=>(first|((repeat (first|with_reducible exact ap_nil|apply ap_cons));done)|rfl))|rfl));(case he=>(first|((repeat (first|with_reducible exact ap_nil|apply ap_cons));done)|rfl))|rfl));(case he=>(first|((repeat (first|with_reducible exact ap_nil|apply ap_cons));done)|rfl))|rfl));(case hb|hd=>rfl);(case hν=>exact aE);intro b7|apply d_append 5 (hg:=hg) (q':=1) (us:=[.int .i64 (l[k]'hlt).1,.slice A1 _ c1]) (μr:=(b7,_)::(ν1++[(b,_)])) (hp:=permR7) (hsrc:=Src.own (List.Mem.head _) rfl);(case hi=>rfl);(case hr=>kernel_rfl);(case hT=>infer_instance);(case hL=>infer_instance);(case hzs=>rfl);(case hsz=>omega);(case hs|hx=>rfl);(case hb=>omega);(case hb'=>simp only [maxLen];omega);(case hd=>rfl);(case h1=>first|rfl|assumption);(case hν=>exact aE);intro out' ν' hg'|fail)
  all_goals refine Dt [6] ?_
  all_goals (first|((apply d_call 7 (hs:=clone_s ((hmv _ hlt).mono hle) hlt2);(case hi=>rfl);(case hr=>kernel_rfl);(case ha=>rfl);(case hp=>exact List.Perm.refl _);(case hd=>rfl);(case hν'=>intro e he;simp at he;simp [he]);rintro r1 _ ν1 _ ⟨rfl,hg1⟩;obtain ⟨A1,c1,rfl,-,-⟩:=hg1.shape))|apply d_buildSlice 7;(case hi=>rfl);(case hr=>kernel_rfl);(case hT=>infer_instance);(case hL=>infer_instance);(case hz|hl=>rfl);(case hv=>(simp only [List.map_cons,List.map_nil];repeat (first|with_reducible exact evs_nil|apply evs_cons;(case h1=>rfl))));(case hp=>(first|with_reducible exact pk_nil|apply pk_cons;(case hc|hs=>rfl);(case h=>(first|with_reducible exact pk_nil|apply pk_cons;(case hc|hs=>rfl);(case h=>(first|with_reducible exact pk_nil|apply pk_cons;(case hc|hs=>rfl);(case h=>(first|with_reducible exact pk_nil|apply pk_cons;(case hc|hs=>rfl);(case h=>(first|with_reducible exact pk_nil|apply pk_cons;(case hc|hs=>rfl);(case h=>(first|with_reducible exact pk_nil|apply pk_cons;(case hc|hs=>rfl);(case h=>(first|with_reducible exact pk_nil|apply pk_cons;(case hc|hs=>rfl);(case h=>(first|with_reducible exact pk_nil|apply pk_cons;(case hc|hs=>rfl);(case h=>(with_reducible exact pk_nil));(case he=>(first|((repeat (first|with_reducible exact ap_nil|apply ap_cons));done)|rfl))|rfl));(case he=>(first|((repeat (first|with_reducible exact ap_nil|apply ap_cons));done)|rfl))|rfl));(case he=>(first|((repeat (first|with_reducible exact ap_nil|apply ap_cons));done)|rfl))|rfl));(case he=>(first|((repeat (first|with_reducible exact ap_nil|apply ap_cons));done)|rfl))|rfl));(case he=>(first|((repeat (first|with_reducible exact ap_nil|apply ap_cons));done)|rfl))|rfl));(case he=>(first|((repeat (first|with_reducible exact ap_nil|apply ap_cons));done)|rfl))|rfl));(case he=>(first|((repeat (first|with_reducible exact ap_nil|apply ap_cons));done)|rfl))|rfl));(case he=>(first|((repeat (first|with_reducible exact ap_nil|apply ap_cons));done)|rfl))|rfl));(case hb|hd=>rfl);(case hν=>exact aE);intro b7|apply d_append 7 (hg:=hg) (q':=1) (us:=[.int .i64 (l[k]'hlt).1,.slice A1 _ c1]) (μr:=(b7,_)::(ν1++[(b,_)])) (hp:=permR7) (hsrc:=Src.own (List.Mem.head _) rfl);(case hi=>rfl);(case hr=>kernel_rfl);(case hT=>infer_instance);(case hL=>infer_instance);(case hzs=>rfl);(case hsz=>omega);(case hs|hx=>rfl);(case hb=>omega);(case hb'=>simp only [maxLen];omega);(case hd=>rfl);(case h1=>first|rfl|assumption);(case hν=>exact aE);intro out' ν' hg'|fail)
  all_goals (first|((apply d_call 8 (hs:=clone_s ((hmv _ hlt).mono hle) hlt2);(case hi=>rfl);(case hr=>kernel_rfl);(case ha=>rfl);(case hp=>exact List.Perm.refl _);(case hd=>rfl);(case hν'=>intro e he;simp at he;simp [he]);rintro r1 _ ν1 _ ⟨rfl,hg1⟩;obtain ⟨A1,c1,rfl,-,-⟩:=hg1.shape))|apply d_buildSlice 8;(case hi=>rfl);(case hr=>kernel_rfl);(case hT=>infer_instance);(case hL=>infer_instance);(case hz|hl=>rfl);(case hv=>(simp only [List.map_cons,List.map_nil];repeat (first|with_reducible exact evs_nil|apply evs_cons;(case h1=>rfl))));(case hp=>(first|with_reducible exact pk_nil|apply pk_cons;(case hc|hs=>rfl);(case h=>(first|with_reducible exact pk_nil|apply pk_cons;(case hc|hs=>rfl);(case h=>(first|with_reducible exact pk_nil|apply pk_cons;(case hc|hs=>rfl);(case h=>(first|with_reducible exact pk_nil|apply pk_cons;(case hc|hs=>rfl);(case h=>(first|with_reducible exact pk_nil|apply pk_cons;(case hc|hs=>rfl);(case h=>(first|with_reducible exact pk_nil|apply pk_cons;(case hc|hs=>rfl);(case h=>(first|with_reducible exact pk_nil|apply pk_cons;(case hc|hs=>rfl);(case h=>(first|with_reducible exact pk_nil|apply pk_cons;(case hc|hs=>rfl);(case h=>(with_reducible exact pk_nil));(case he=>(first|((repeat (first|with_reducible exact ap_nil|apply ap_cons));done)|rfl))|rfl));(case he=>(first|((repeat (first|with_reducible exact ap_nil|apply ap_cons));done)|rfl))|rfl));(case he=>(first|((repeat (first|with_reducible exact ap_nil|apply ap_cons));done)|rfl))|rfl));(case he=>(first|((repeat (first|with_reducible exact ap_nil|apply ap_cons));done)|rfl))|rfl));(case he=>(first|((repeat (first|with_reducible exact ap_nil|apply ap_cons));done)|rfl))|rfl));(case he=>(first|((repeat (first|with_reducible exact ap_nil|apply ap_cons));done)|rfl))|rfl));(case he=>(first|((repeat (first|with_reducible exact ap_nil|apply ap_cons));done)|rfl))|rfl));(case he=>(first|((repeat (first|with_reducible exact ap_nil|apply ap_cons));done)|rfl))|rfl));(case hb|hd=>rfl);(case hν=>exact aE);intro b7|apply d_append 8 (hg:=hg) (q':=1) (us:=[.int .i64 (l[k]'hlt).1,.slice A1 _ c1]) (μr:=(b7,_)::(ν1++[(b,_)])) (hp:=permR7) (hsrc:=Src.own (List.Mem.head _) rfl);(case hi=>rfl);(case hr=>kernel_rfl);(case hT=>infer_instance);(case hL=>infer_instance);(case hzs=>rfl);(case hsz=>omega);(case hs|hx=>rfl);(case hb=>omega);(case hb'=>simp only [maxLen];omega);(case hd=>rfl);(case h1=>first|rfl|assumption);(case hν=>exact aE);intro out' ν' hg'|fail)
  all_goals refine Dt [9] ?_
  all_goals refine Dd ?_
  repeat' (first|refine Wa ?_|(refine Wc ⟨?_,?_⟩<;>first|exact True.intro|intro h)|refine Wr ?_|(refine Wb ?_;intro b)|fail)
  refine v_freezeP ν1 ν' [(b7,_),(b,_)] aV ?_
  intro G1 hle1 hG1
  refine Va rfl ⟨GH.le_trans hle hle1,k+1,out',css++[[.int .i64 (l[k]'hlt).1,.slice A1 (l[k]'hlt).2.length c1]],by omega,rfl,?_,?_⟩
  ·rw [List.take_succ_eq_append_getElem hlt]
   obtain ⟨_,_,_,_,_,_,_,hw⟩:=(hmv _ hlt).openInt
   exact (hcc.le hle1).push rfl ⟨_,rfl,hwf _ hlt,hg1.ints hG1 hw⟩
  ·simpa using hg'
 ·refine v_ret μ' (outsA1 rfl rfl) (List.Sublist.refl _) ?_
  obtain rfl:k=l.length:=by omega
  rw [List.take_length] at hcc
  exact ⟨css,hcc,hg⟩
def lastC (l:List Co):Co:=l.getD (l.length-1) (0,[])
theorem lastC_eq {l:List Co}(h:0<l.length):lastC l=l[l.length-1]'(by omega):=by
 rw [lastC,List.getD_eq_getElem?_getD,List.getElem?_eq_getElem (by omega)];rfl
def fromOf (l:List Co) (x:Int):Int:=max (x+4) (lastC l).1
def changeL (l:List Co) (x kind n:Int):List Co:=(if fromOf l x=(lastC l).1 then l.take (l.length-1) else l)++[(fromOf l x,changedL (lastC l).2 kind n)]
open Classical in
noncomputable def changeR (l:List Co) (x kind n:Int):List Co×Int :=
 if ¬ ConfOK l then ([],3) else if x<1∨4294967292<x then ([],6) else if (changedL (lastC l).2 kind n).length=0 then ([],16) else (changeL l x kind n,0)
theorem CoCells.take {G:GH}{l:List Co}{css:List (List Value)}(h:CoCells G l css) (k:Nat):CoCells G (l.take k) (css.take k) :=
 ⟨by simp [h.1],fun i x cs h1 h2=>by
  rw [List.getElem?_take] at h1 h2
  split at h1
  ·rename_i hi
   rw [if_pos hi] at h2
   exact h.2 i x cs h1 h2
  ·cases h1⟩
theorem flatten_take2:∀ (css:List (List Value)) (k:Nat),(∀ cs∈css,cs.length=2)→css.flatten.take (k*2)=(css.take k).flatten
 | [],k,_=>by simp
 | cs::css,0,_=>by simp
 | cs::css,k+1,h=>by
  have h1:cs.length=2:=h cs (by simp)
  rw [List.take_succ_cons,List.flatten_cons,List.flatten_cons,List.take_append,h1,List.take_of_length_le (by omega),show (k+1)*2-2=k*2 by omega,flatten_take2 css k fun c hc=>h c (by simp [hc])]
theorem CoCells.two {G:GH}{l:List Co}{css:List (List Value)}(h:CoCells G l css):∀ cs∈css,cs.length=2:=fun cs hcs=>by
 obtain ⟨i,hi,rfl⟩:=List.getElem_of_mem hcs
 have h1:=h.1
 exact (h.2 i _ _ (List.getElem?_eq_getElem (by omega)) (List.getElem?_eq_getElem hi)).1
theorem CoCells.flen {G:GH}{l:List Co}{css:List (List Value)}(h:CoCells G l css):css.flatten.length=l.length*2:=by
 rw [← h.1]
 have:=h.two
 clear h
 induction css with
 | nil=>simp
 | cons cs css ih =>
  rw [List.flatten_cons,List.length_append,ih fun c hc=>this c (by simp [hc]),this cs (by simp),List.length_cons];omega
theorem change_s {G:GH}{l:List Co}{sv:Value}(x kind n:Int) (hs:Cos G sv l) (hl:l.length≤1000) (hbig:∀ c∈l,c.2.length≤1048000) (hn:(Lit.int .i64 n).wf=true) :
 Con Tryz.prog 171 #[sv,.int .i64 x,.int .i64 kind,.int .i64 n] G [] (fun r G' μ'=>μ'=[]∧∃ v,r=.tuple #[v,.int .i64 (changeR l x kind n).2]∧Cos G' v (changeR l x kind n).1):=by
 have hclone:=fun (G':GH) (hle:GH.le G G')=>cloneL_s (hs.le hle) hl (fun c hc=>by have:=hbig c hc;omega)
 have hck:=check_s hs
 obtain ⟨A,c,mA,mc,rfl,hlc,hcm,hsome,hcp,hc0,hc1,hmv,hwf⟩:=coOpen hs
 simp only [maxLen] at hcm
 by_cases hok:ConfOK l
 ·rw [if_pos hok] at hck
  have h0:=hok.1.1
  have hlt:l.length-1<l.length:=by omega
  have hlast:=lastC_eq h0
  obtain ⟨lz,mz,hz⟩:∃ lz mz,lastC l=(lz,mz):=⟨_,_,rfl⟩
  have hz':l[l.length-1]'hlt=(lz,mz):=by rw [← hlast,hz]
  obtain ⟨hmem,hfrom,-⟩:=hok.2 _ hlt
  have hfw:=hwf _ hlt
  have hcP0:=hcp _ hlt
  have hmz:=hmv _ hlt
  have hbz:=hbig _ (List.getElem_mem hlt)
  rw [hz'] at hmem hfrom hfw hcP0 hmz hbz
  simp only at hmem hfrom hfw hcP0 hmz hbz
  have hch:=changed_s kind n hmz hmem hbz hn
  have e1:(((l.length:Nat):Int)-1).toNat=l.length-1:=by omega
  have hcP1:CellsG G ((adr A).add ((((l.length:Nat):Int)-1).toNat*2)) [.int .i64 lz,.slice (mA (l.length-1)) mz.length (mc (l.length-1))]:=by rw [e1];exact hcP0
  have hwf':=bounds_i64 hfw
  (refine v_enter Tryz.func171 rfl Tryz.ntmps171 rfl ?_;intro B _)
  repeat' (first|refine Wa ?_|(refine Wc ⟨?_,?_⟩<;>first|exact True.intro|intro h)|refine cJ hck ?_|refine RN hcP1 ?_|refine Wr ?_|(refine Wb ?_;intro b)|fail)
  all_goals try
   (refine v_ret [] (outsA2 rfl rfl rfl) sS ?_
    have e:changeR l x kind n=([],6):=by
     unfold changeR
     rw [if_neg (by simpa using hok),if_pos (by omega)]
    rw [e]
    exact ⟨rfl,_,rfl,Sl.nil⟩)
  refine v_call (μ1:=[]) (μ2:=_) rfl hch (List.Perm.refl _) rfl ?_
  rintro r G' μ1 hle ⟨rfl,mv,rfl,hmv'⟩
  by_cases hno:0<(changedL mz kind n).length
  ·rw [decide_eq_true hno]
   repeat' (first|refine Wa ?_|(refine Wc ⟨?_,?_⟩<;>first|exact True.intro|intro h)|refine Wr ?_|(refine Wb ?_;intro b)|fail)
   refine v_call (μ1:=[]) (μ2:=_) rfl (hclone G' hle) (List.Perm.refl _) rfl ?_
   rintro r G2 ν1 hle2 ⟨css,hcc,hg⟩
   have hG02:=GH.le_trans hle hle2
   obtain ⟨A2,c2,rfl,h2a,h2b⟩:=hg.shape
   simp only [maxLen] at h2b
   obtain ⟨mA',mc',rfl,hmc1,hmc2,_⟩:=hmv'.openInt
   have hF:fromOf l x=max (x+4) lz:=by rw [fromOf,hz]
   have hR:changeR l x kind n=(changeL l x kind n,0):=by
    unfold changeR
    rw [if_neg (by simpa using hok),if_neg (by omega),hz,if_neg (by simp only;omega)]
   have hwF:(Lit.int .i64 (max (x+4) lz)).wf=true:=WalkArith.wf_i64 (by omega)
   repeat' (first|refine Wa ?_|(refine Wc ⟨?_,?_⟩<;>first|exact True.intro|intro h)|refine Wr ?_|(refine Wb ?_;intro b)|fail)
   ·have e4:changeL l x kind n=l.take (l.length-1)++[(max (x+4) lz,changedL mz kind n)]:=by
     rw [changeL,hF,hz,if_pos (by assumption)]
    have hlen:1<l.length:=by
     apply Classical.byContradiction
     intro hc
     have h1:l[l.length-1]'hlt=l[0]:=by congr 1;omega
     have h2:=hok.1.2
     rw [← h1,hz'] at h2
     simp only at h2
     omega
    refine v_frz ν1 (by repeat (first|exact PickA.last|exact PickA.here _|exact PickA.one _|apply PickA.cons|apply PickA.app)) ?_
    intro G3 hle3 hG3
    obtain ⟨A3,c3,he,_,_,hcl⟩:=hg.cells hG3
    injection he with ea _ ec
    subst ea;subst ec
    obtain ⟨a3,rfl,hcl3⟩:=hcl (by omega)
    have hct:=hcl3.take ((l.length-1)*2)
    rw [flatten_take2 _ _ hcc.two] at hct
    have hcct:=(hcc.take (l.length-1)).le hle3
    have htl:(l.take (l.length-1)).length=l.length-1:=by simp
    rw [e1]
    refine v_appendFull (e:=71) (sz:=2) (m:=l.length-1) (m':=1) (us:=[.int .i64 (max (x+4) lz),.slice mA' (changedL mz kind n).length mc']) rfl rfl rfl (Src.frozen hct (by rw [hcct.flen,htl])) (Src.own (List.Mem.head _) rfl) (by omega) (by omega) (by omega) (by simp only [maxLen];omega) rfl ?_
    intro v' ν' hg'
    refine v_frz ν' (by repeat (first|exact PickA.last|exact PickA.here _|exact PickA.one _|apply PickA.cons|apply PickA.app)) ?_
    intro G4 hle4 hG4
    repeat' (first|refine Wa ?_|(refine Wc ⟨?_,?_⟩<;>first|exact True.intro|intro h)|refine Wr ?_|(refine Wb ?_;intro b)|fail)
    refine v_ret [] (outsA2 rfl rfl rfl) sS ?_
    rw [hR]
    refine ⟨rfl,_,rfl,?_⟩
    have hfin:=(hcct.le hle4).push (x:=(max (x+4) lz,changedL mz kind n)) (cs:=[.int .i64 (max (x+4) lz),.slice mA' (changedL mz kind n).length mc']) rfl ⟨_,rfl,hwF,hmv'.mono (GH.le_trans hle2 (GH.le_trans hle3 hle4))⟩
    simp only [e4]
    refine hfin.grow ?_ (GH.le_refl _) hG4
    rw [List.length_append,htl]
    simpa using hg'
   ·have e4:changeL l x kind n=l++[(max (x+4) lz,changedL mz kind n)]:=by
     rw [changeL,hF,hz,if_neg (by assumption)]
    refine v_append (e:=71) (sz:=2) (m':=1) (us:=[.int .i64 (max (x+4) lz),.slice mA' (changedL mz kind n).length mc']) rfl (by omega) rfl rfl hg (PickA.perm (by repeat (first|exact PickA.last|exact PickA.here _|exact PickA.one _|apply PickA.cons|apply PickA.app))) (Src.own (List.Mem.head _) rfl) rfl (by omega) (by simp only [maxLen];omega) rfl ?_
    intro v' ν' hg'
    refine v_frz ν' (by repeat (first|exact PickA.last|exact PickA.here _|exact PickA.one _|apply PickA.cons|apply PickA.app)) ?_
    intro G4 hle4 hG4
    repeat' (first|refine Wa ?_|(refine Wc ⟨?_,?_⟩<;>first|exact True.intro|intro h)|refine Wr ?_|(refine Wb ?_;intro b)|fail)
    refine v_ret [] (outsA2 rfl rfl rfl) sS ?_
    rw [hR]
    refine ⟨rfl,_,rfl,?_⟩
    have hfin:=(hcc.le hle4).push (x:=(max (x+4) lz,changedL mz kind n)) (cs:=[.int .i64 (max (x+4) lz),.slice mA' (changedL mz kind n).length mc']) rfl ⟨_,rfl,hwF,hmv'.mono (GH.le_trans hle2 hle4)⟩
    simp only [e4]
    refine hfin.grow ?_ (GH.le_refl _) hG4
    simpa using hg'
  ·rw [decide_eq_false hno]
   repeat' (first|refine Wa ?_|(refine Wc ⟨?_,?_⟩<;>first|exact True.intro|intro h)|refine Wr ?_|(refine Wb ?_;intro b)|fail)
   refine v_ret [] (outsA2 rfl rfl rfl) sS ?_
   have e:changeR l x kind n=([],16):=by
    unfold changeR
    rw [if_neg (by simpa using hok),if_neg (by omega),hz,if_pos (by simp only;omega)]
   rw [e]
   exact ⟨rfl,_,rfl,Sl.nil⟩
 ·rw [if_neg hok] at hck
  (refine v_enter Tryz.func171 rfl Tryz.ntmps171 rfl ?_;intro B _)
  repeat' (first|refine Wa ?_|(refine Wc ⟨?_,?_⟩<;>first|exact True.intro|intro h)|refine cJ hck ?_|refine Wr ?_|(refine Wb ?_;intro b)|fail)
  refine v_ret [] (outsA2 rfl rfl rfl) sS ?_
  have e:changeR l x kind n=([],3):=by
   unfold changeR
   rw [if_pos hok]
  rw [e]
  exact ⟨rfl,_,rfl,Sl.nil⟩
def trimL (l:List Co) (x:Int):List Co :=
 match l.drop (placeK l x l.length).toNat with
 | [] => []
 | c::r=>(1,c.2)::r
open Classical in
noncomputable def trimR (l:List Co) (x:Int):List Co:=if ConfOK l∧1≤x then trimL l x else l
theorem CoCells.cons {G:GH}{y:Co}{l:List Co}{cs:List Value}{css:List (List Value)}(h:CoCells G (y::l) (cs::css)):cs.length=2∧CoR G y cs∧CoCells G l css :=
 ⟨(h.2 0 y cs rfl rfl).1,(h.2 0 y cs rfl rfl).2,by have:=h.1;simpa using this,fun i x ds h1 h2=>h.2 (i+1) x ds (by simpa using h1) (by simpa using h2)⟩
theorem CoCells.mk {G:GH}{y:Co}{l:List Co}{cs:List Value}{css:List (List Value)}(h1:cs.length=2) (h2:CoR G y cs) (h3:CoCells G l css):CoCells G (y::l) (cs::css) :=
 ⟨by simp [h3.1],fun i x ds h4 h5=>by
  cases i with
  | zero=>simp at h4 h5;subst h4;subst h5;exact ⟨h1,h2⟩
  | succ i=>exact h3.2 i x ds (by simpa using h4) (by simpa using h5)⟩
theorem trim_s {G:GH}{l:List Co}{sv:Value}(x:Int) (hs:Cos G sv l) (hl:l.length≤1000) (hbig:∀ c∈l,c.2.length≤1048000) :
 Con Tryz.prog 65 #[sv,.int .i64 x] G [] (fun r G' μ'=>μ'=[]∧Cos G' r (trimR l x)):=by
 have hck:=check_s hs
 have hpl:=place_s x hs
 have hs0:=hs
 obtain ⟨A,c,mA,mc,rfl,hlc,hcm,hsome,hcp,hc0,hc1,hmv,hwf⟩:=coOpen hs
 simp only [maxLen] at hcm
 by_cases hok:ConfOK l
 ·rw [if_pos hok] at hck
  have h0:=hok.1.1
  have hp:=placeK_le l x l.length
  have hn:=fun (hx:l[0].1≤x)=>placeK_nonneg h0 hx l.length h0 (Nat.le_refl _)
  have h1:=hok.1.2
  (refine v_enter Tryz.func65 rfl Tryz.ntmps65 rfl ?_;intro B _)
  repeat' (first|refine Wa ?_|(refine Wc ⟨?_,?_⟩<;>first|exact True.intro|intro h)|refine cJ hck ?_|refine Wr ?_|fail)
  ·refine Vr ?_
   rw [trimR,if_neg (by rintro ⟨_,h⟩;omega)]
   exact ⟨rfl,hs0⟩
  have hn':=hn (by omega)
  repeat' (first|refine Wa ?_|(refine Wc ⟨?_,?_⟩<;>first|exact True.intro|intro h)|refine cJ hpl ?_|refine Wr ?_|fail)
  have hk:(placeK l x l.length).toNat≤l.length:=by omega
  have hsd:=Sl.drop hs0 hk
  have hdl:(l.drop (placeK l x l.length).toNat).length=l.length-(placeK l x l.length).toNat:=by simp
  refine v_call (μ1:=[]) (μ2:=[]) rfl (cloneL_s hsd (by omega) (fun c hc=>by have:=hbig c (List.mem_of_mem_drop hc);omega)) (List.Perm.refl _) rfl ?_
  rintro r G2 ν1 hle ⟨css,hcc,hlen,⟨-,hz,-⟩|⟨b,cap,spare,rfl,rfl,h2a,h2b,h2c⟩⟩
  ·omega
  have ht:trimR l x=trimL l x:=by rw [trimR,if_pos ⟨hok,by omega⟩]
  rw [ht]
  unfold trimL
  generalize hD:l.drop (placeK l x l.length).toNat=D at *
  match D,css,hcc,hlen,hdl,h2a,h2c with
  | [],_,_,_,hdl,_,_=>simp at hdl;omega
  | y::D,cs::css,hcc,hlen,hdl,h2a,h2c =>
   obtain ⟨hc2,⟨mv,rfl,hy1,hy2⟩,hcr⟩:=hcc.cons
   obtain ⟨Am,cm,rfl,_⟩:=hy2.openInt
   have h2b':=h2b
   simp only [maxLen] at h2b'
   have hyl:0<(y::D).length:=by simp
   repeat' (first|refine Wa ?_|(refine Wc ⟨?_,?_⟩<;>first|exact True.intro|intro h)|refine Wr ?_|fail)
   refine v_frz [(b,.cells ([Value.int .i64 1,.slice Am y.2.length cm]++css.flatten++spare).toArray 71 (0,0))] (r:=[]) ?_ ?_
   ·exact PickA.last
   intro G3 hle3 hG3
   refine Vr ?_
   refine ⟨rfl,?_⟩
   have hfin:=CoCells.mk (G:=G3) (y:=(1,y.2)) (cs:=[Value.int .i64 1,.slice Am y.2.length cm]) rfl ⟨_,rfl,WalkArith.wf_i64 (by simp),hy2.mono hle3⟩ (hcr.le hle3)
   refine hfin.grow ⟨?_,.inr ⟨b,cap,spare,?_,rfl,?_,h2b,?_⟩⟩ (GH.le_refl _) hG3
   ·simpa using hlen
   ·rfl
   ·simpa using h2a
   ·simpa using h2c
  | y::D,[],hcc,_,_,_,_=>have:=hcc.1;simp at this
 ·rw [if_neg hok] at hck
  (refine v_enter Tryz.func65 rfl Tryz.ntmps65 rfl ?_;intro B _)
  repeat' (first|refine Wa ?_|(refine Wc ⟨?_,?_⟩<;>first|exact True.intro|intro h)|refine cJ hck ?_|refine Wr ?_|fail)
  refine Vr ?_
  rw [trimR,if_neg (by rintro ⟨h,_⟩;exact hok h)]
  exact ⟨rfl,hs0⟩
def refFrom (l:List Co) (x:Int):Int:=if x+4<(lastC l).1 then (lastC l).1 else x+4
def refChangeL (l:List Co) (x kind n:Int):List Co:=if (refChangedL (lastC l).2 kind n).length=0 then [] else (l.filter fun c=>decide (c.1<refFrom l x))++[(refFrom l x,refChangedL (lastC l).2 kind n)]
theorem take_filter_succ {l:List Co}{k:Nat}(h:k<l.length) (p:Co→Bool):(l.take (k+1)).filter p=(l.take k).filter p++(if p l[k] then [l[k]] else []):=by
 rw [List.take_succ_eq_append_getElem h,List.filter_append]
 congr 1
 by_cases hp:p l[k]=true<;>simp [List.filter,hp]
theorem refChangedL_wf {G:GH}{l:List Int}{v:Value}{kind n:Int}(hs:Sl G 1 (IntR .i64) v l) (hn:(Lit.int .i64 n).wf=true) {y:Int}(hy:y∈refChangedL l kind n):(Lit.int .i64 y).wf=true:=by
 obtain ⟨_,_,_,_,_,_,_,hw⟩:=hs.openInt
 unfold refChangedL at hy
 split at hy
 ·simp only [List.mem_filter,mem_nine] at hy
  exact WalkArith.wf_i64 (by omega)
 ·split at hy
  ·simp only [List.mem_filter] at hy
   exact hw y hy.1
  ·simp at hy
theorem refChange_s {G:GH}{l:List Co}{sv:Value}(x kind n:Int) (hs:Cos G sv l) (h0:0<l.length) (hl:l.length≤1000) (hbig:∀ c∈l,c.2.length≤1048000) (hn:(Lit.int .i64 n).wf=true) (hx : -9223372036854775808≤x∧x≤9223372036854770000) :
 Con Tryz.prog 131 #[sv,.int .i64 x,.int .i64 kind,.int .i64 n] G [] (fun r G' μ'=>μ'=[]∧∃ v,r=.tuple #[v,.bool (decide ((refChangedL (lastC l).2 kind n).length≠0))]∧Cos G' v (refChangeL l x kind n)):=by
 obtain ⟨A,c,mA,mc,rfl,hlc,hcm,hsome,hcp,hc0,hc1,hmv,hwf⟩:=coOpen hs
 simp only [maxLen] at hcm
 have hlt:l.length-1<l.length:=by omega
 have hlast:=lastC_eq h0
 obtain ⟨lz,mz,hz⟩:∃ lz mz,lastC l=(lz,mz):=⟨_,_,rfl⟩
 have hz':l[l.length-1]'hlt=(lz,mz):=by rw [← hlast,hz]
 have hfw:=hwf _ hlt
 have hcP0:=hcp _ hlt
 have hmz:=hmv _ hlt
 have hbz:=hbig _ (List.getElem_mem hlt)
 rw [hz'] at hfw hcP0 hmz hbz
 simp only at hfw hcP0 hmz hbz
 have hch:=refChanged_s kind n hmz hbz
 have e1:(((l.length:Nat):Int)-1).toNat=l.length-1:=by omega
 have hcP1:CellsG G ((adr A).add ((((l.length:Nat):Int)-1).toNat*2)) [.int .i64 lz,.slice (mA (l.length-1)) mz.length (mc (l.length-1))]:=by rw [e1];exact hcP0
 have hwf':=bounds_i64 hfw
 simp only [refChangeL,hz]
 (refine v_enter Tryz.func131 rfl Tryz.ntmps131 rfl ?_;intro B _)
 repeat' (first|refine Wa ?_|(refine Wc ⟨?_,?_⟩<;>first|exact True.intro|intro h)|refine RN hcP1 ?_|refine Wr ?_|(refine Wb ?_;intro b)|fail)
 refine v_call (μ1:=[]) (μ2:=_) rfl hch (List.Perm.refl _) rfl ?_
 rintro r G' ν1 - ⟨rfl,hg⟩
 have hsl:=fun {G1:GH} (h:∀ b o,(b,o)∈ν1→G1 b=some o)=>hg.ints h (fun y hy=>refChangedL_wf hmz hn hy)
 obtain ⟨Am,cm,rfl,hm1,hm2⟩:=hg.shape
 refine v_frz ν1 (by repeat (first|exact PickA.last|exact PickA.here _|exact PickA.one _|apply PickA.cons|apply PickA.app)) ?_
 intro G1 hle1 hG1
 have hmv1:=hsl hG1
 repeat' (first|refine Wa ?_|(refine Wc ⟨?_,?_⟩<;>first|exact True.intro|intro h)|refine Wr ?_|(refine Wb ?_;intro b)|fail)
 ·refine v_ret [] (outsA2 rfl rfl rfl) sS ?_
  have e:(refChangedL mz kind n).length=0:=by omega
  rw [if_pos e,decide_eq_false (by omega)]
  exact ⟨rfl,_,rfl,Sl.nil⟩
 all_goals
  have hne:(refChangedL mz kind n).length≠0:=by omega
  have e5:refFrom l x=refFrom l x:=rfl
  rw [if_neg hne,decide_eq_true hne]
  conv at e5=>rhs;rw [refFrom,hz]
  simp only at e5
  first|rw [if_pos (by omega)] at e5|rw [if_neg (by omega)] at e5
  generalize hF:refFrom l x=F at *
  refine v_drop (ν:=[]) sS ?_
  refine v_loop [14,13,0,12,11] (fun us G' μ'=>G'=G1∧∃ (k:Nat) (out:Value) (css:List (List Value)) (f:Int),k≤l.length∧us=[Value.int .i64 (k:Int),out,.slice A l.length c,.int .i64 f,.slice Am (refChangedL mz kind n).length cm]∧f=F∧CoCells G1 ((l.take k).filter fun c=>decide (c.1<F)) css∧Grow 71 2 out ((l.take k).filter fun c=>decide (c.1<F)).length css.flatten μ') (fun us=>l.length-(headI us).toNat) rfl ⟨rfl,0,_,[],_,by omega,rfl,e5.symm,CoCells.nil,Grow.nil _ _⟩ ?_
  rintro us G' μ' ⟨rfl,k,out,css,f,hk,rfl,rfl,hcc,hg⟩
  have hf:=List.length_filter_le (fun c:Co=>decide (c.1<f)) (l.take k)
  have ek:((k:Nat):Int).toNat=k:=Int.toNat_natCast k
  have hlk:(l.take k).length≤k:=by rw [List.length_take];omega
  repeat' (first|refine Wa ?_|(refine Wc ⟨?_,?_⟩<;>first|exact True.intro|intro h)|apply v_read;(case hop=>first|apply r_load1;rfl;exact Cell.frozen (GH.cell_le (GH.le_trans hle1 (GH.le_refl _)) (hc0 _ (by omega)))|apply r_loadN;rfl;exact CellsAt.frozen ((hcp _ (by omega)).le hle1);rfl);(case hd=>rfl)|refine Wr ?_|(refine Wb ?_;intro b)|fail)
  ·have hlt:k<l.length:=by omega
   refine v_append (e:=71) (sz:=2) (m':=1) (us:=[.int .i64 (l[((k:Nat):Int).toNat]'(by omega)).1,.slice (mA ((k:Nat):Int).toNat) (l[((k:Nat):Int).toNat]'(by omega)).2.length (mc ((k:Nat):Int).toNat)]) rfl (by omega) rfl rfl hg (PickA.perm (by repeat (first|exact PickA.last|exact PickA.here _|exact PickA.one _|apply PickA.cons|apply PickA.app))) (Src.own (List.Mem.head _) rfl) rfl (by omega) (by simp only [maxLen];omega) rfl ?_
   intro v' ν' hg'
   repeat' (first|refine Wa ?_|(refine Wc ⟨?_,?_⟩<;>first|exact True.intro|intro h)|refine Wr ?_|(refine Wb ?_;intro b)|fail)
   refine v_only ν' (by repeat (first|exact PickA.last|exact PickA.here _|exact PickA.one _|apply PickA.cons|apply PickA.app)) ?_
   refine Va rfl ⟨rfl,k+1,v',css++[[.int .i64 (l[k]'hlt).1,.slice (mA k) (l[k]'hlt).2.length (mc k)]],f,by omega,rfl,rfl,?_,?_⟩
   ·rw [take_filter_succ hlt,if_pos (by simp only [ek] at *;simpa)]
    exact hcc.push rfl ⟨_,rfl,hwf k hlt,(hmv k hlt).mono hle1⟩
   ·rw [take_filter_succ hlt,if_pos (by simp only [ek] at *;simpa)]
    simp only [ek] at hg'
    simpa using hg'
  ·have hlt:k<l.length:=by omega
   refine Va rfl ⟨rfl,k+1,out,css,f,by omega,rfl,rfl,?_,?_⟩
   ·rw [take_filter_succ hlt,if_neg (by simp only [ek] at *;simp;omega),List.append_nil]
    exact hcc
   ·rw [take_filter_succ hlt,if_neg (by simp only [ek] at *;simp;omega),List.append_nil]
    exact hg
  ·obtain rfl:k=l.length:=by omega
   refine v_append (e:=71) (sz:=2) (m':=1) (us:=[.int .i64 f,.slice Am (refChangedL mz kind n).length cm]) rfl (by omega) rfl rfl hg (PickA.perm (by repeat (first|exact PickA.last|exact PickA.here _|exact PickA.one _|apply PickA.cons|apply PickA.app))) (Src.own (List.Mem.head _) rfl) rfl (by omega) (by simp only [maxLen];omega) rfl ?_
   intro v' ν' hg'
   refine v_frz ν' (by repeat (first|exact PickA.last|exact PickA.here _|exact PickA.one _|apply PickA.cons|apply PickA.app)) ?_
   intro G4 hle4 hG4
   repeat' (first|refine Wa ?_|(refine Wc ⟨?_,?_⟩<;>first|exact True.intro|intro h)|refine Wr ?_|(refine Wb ?_;intro b)|fail)
   refine v_ret [] (outsA2 rfl rfl rfl) sS ?_
   refine ⟨rfl,_,rfl,?_⟩
   have hwF:(Lit.int .i64 f).wf=true:=WalkArith.wf_i64 (by omega)
   rw [List.take_length] at hcc hg'
   have hfin:=(hcc.le hle4).push (x:=(f,refChangedL mz kind n)) (cs:=[.int .i64 f,.slice Am (refChangedL mz kind n).length cm]) rfl ⟨_,rfl,hwF,hmv1.mono hle4⟩
   refine hfin.grow ?_ (GH.le_refl _) hG4
   simpa using hg'
theorem memOK_of {m:List Int}(h0:0<m.length) (hs:m.Pairwise (· < ·)) (hr:∀ x∈m,1≤x∧x≤9):MemOK m:=by
 refine ⟨h0,fun k hk=>?_⟩
 obtain ⟨h1,h2⟩:=hr _ (List.getElem_mem hk)
 refine ⟨h1,h2,fun h=>?_⟩
 rw [List.pairwise_iff_getElem] at hs
 exact hs (k-1) k (by omega) hk (by omega)
theorem changedL_ok {l:List Int}{kind n:Int}(hok:MemOK l) (h:(changedL l kind n).length≠0):MemOK (changedL l kind n):=by
 unfold changedL at h ⊢
 by_cases h7:kind=7∧l.contains n=false∧1≤n∧n≤9
 ·rw [if_pos h7]
  have hn:n∉l:=by simpa using h7.2.1
  refine memOK_of (by simp;omega) (insert_sorted hok.sorted hn) fun x hx=>?_
  simp only [List.mem_append,List.mem_singleton] at hx
  rcases hx with (hx|hx)|hx
  ·exact hok.range (List.mem_of_mem_take hx)
  ·omega
  ·exact hok.range (List.mem_of_mem_drop hx)
 ·rw [if_neg h7] at h ⊢
  by_cases h8:kind=8∧l.contains n=true∧1<l.length
  ·rw [if_pos h8] at h ⊢
   have hn:n∈l:=by simpa using h8.2.1
   rw [delete_filter hok.sorted hn] at h ⊢
   exact memOK_of (by omega) (hok.sorted.filter _) fun x hx=>hok.range (List.mem_filter.1 hx).1
  ·rw [if_neg h8] at h;simp at h
theorem ConfOK.rises {l:List Co}(h:ConfOK l):l.Pairwise (fun a b=>a.1<b.1):=by
 rw [List.pairwise_iff_getElem]
 have key:∀ (d i:Nat) (hi:i+d+1<l.length),l[i].1<l[i+d+1].1:=by
  intro d
  induction d with
  | zero =>
   intro i hi
   have:=(h.2 (i+1) (by omega)).2.2 (by omega)
   simpa using this
  | succ d ih =>
   intro i hi
   have h1:=ih i (by omega)
   have h2:=(h.2 (i+(d+1)+1) hi).2.2 (by omega)
   have h3:l[i+(d+1)+1-1]=l[i+d+1]:=by congr 1
   rw [h3] at h2
   omega
 intro i j hi hj hij
 have:=key (j-i-1) i (by omega)
 have h3:l[i+(j-i-1)+1]'(by omega)=l[j]:=by congr 1;omega
 rw [h3] at this
 exact this
theorem ConfOK.of {l:List Co}(h0:∃ h:0<l.length,l[0].1=1) (hr:l.Pairwise (fun a b=>a.1<b.1)) (hm:∀ c∈l,MemOK c.2∧c.1≤4294967296):ConfOK l:=by
 refine ⟨h0,fun i hi=>?_⟩
 obtain ⟨h1,h2⟩:=hm _ (List.getElem_mem hi)
 refine ⟨h1,h2,fun h=>?_⟩
 rw [List.pairwise_iff_getElem] at hr
 exact hr (i-1) i (by omega) hi (by omega)
theorem ConfOK.mems {l:List Co}(h:ConfOK l):∀ c∈l,MemOK c.2∧c.1≤4294967296:=fun c hc=>by
 obtain ⟨i,hi,rfl⟩:=List.getElem_of_mem hc
 have:=h.2 i hi
 exact ⟨this.1,this.2.1⟩
theorem lastC_mem {l:List Co}(h:0<l.length):lastC l∈l:=by
 rw [lastC_eq h];exact List.getElem_mem _
theorem split_last {l:List Co}(h:0<l.length):l=l.take (l.length-1)++[lastC l]:=by
 have h1:l.take (l.length-1+1)=l:=by rw [List.take_of_length_le (by omega)]
 conv=>lhs;rw [← h1,List.take_succ_eq_append_getElem (by omega)]
 rw [lastC_eq h]
theorem ConfOK.below {l:List Co}(h:ConfOK l):∀ c∈l.take (l.length-1),c.1<(lastC l).1:=by
 have hr:=h.rises
 rw [split_last h.1.1,List.pairwise_append] at hr
 exact fun c hc=>hr.2.2 c hc _ (by simp)
theorem refFrom_eq (l:List Co) (x:Int):refFrom l x=fromOf l x:=by
 unfold refFrom fromOf
 split<;>omega
theorem refChangeL_eq {l:List Co}{x kind n:Int}(hok:ConfOK l) (h:(changedL (lastC l).2 kind n).length≠0):refChangeL l x kind n=changeL l x kind n:=by
 have hl:=(hok.mems (lastC l) (lastC_mem hok.1.1)).1
 have e:=refChanged_eq kind n hl
 unfold refChangeL changeL
 rw [e,if_neg h,refFrom_eq]
 congr 1
 have hb:=hok.below
 have hFd:fromOf l x=max (x+4) (lastC l).1:=rfl
 generalize fromOf l x=F at *
 split
 ·rename_i hF
  conv=>lhs;rw [split_last hok.1.1,List.filter_append]
  rw [List.filter_eq_self.2 (fun c hc=>by have:=hb c hc;simp;omega)]
  simp [hF]
 ·rename_i hF
  rw [List.filter_eq_self]
  intro c hc
  rw [split_last hok.1.1] at hc
  have hlast:(lastC l).1<F:=by omega
  simp only [List.mem_append,List.mem_singleton] at hc
  rcases hc with hc|hc
  ·have:=hb c hc;simp;omega
  ·rw [hc];simpa using hlast
theorem changeL_ok {l:List Co}{x kind n:Int}(hok:ConfOK l) (hx:1≤x∧x≤4294967292) (h:(changedL (lastC l).2 kind n).length≠0):ConfOK (changeL l x kind n):=by
 have hl:=hok.mems (lastC l) (lastC_mem hok.1.1)
 have hm:=changedL_ok hl.1 h
 have hb:=hok.below
 have h0:=hok.1.1
 have h1:=hok.1.2
 have hF:fromOf l x≤4294967296∧5≤fromOf l x:=by unfold fromOf;omega
 unfold changeL
 split
 ·rename_i he
  have hlen:1<l.length:=by
   apply Classical.byContradiction
   intro hc
   have:lastC l=l[0]:=by rw [lastC_eq h0];congr 1;omega
   rw [this,h1] at he
   omega
  refine ConfOK.of ⟨by simp,?_⟩ ?_ ?_
  ·rw [List.getElem_append_left (by simp;omega),List.getElem_take];exact h1
  ·rw [List.pairwise_append]
   refine ⟨hok.rises.sublist (List.take_sublist _ _),by simp,fun a ha b hb'=>?_⟩
   simp at hb'
   subst hb'
   have:=hb a ha
   simp only;omega
  ·intro c hc
   simp only [List.mem_append,List.mem_singleton] at hc
   rcases hc with hc|rfl
   ·exact hok.mems c (List.mem_of_mem_take hc)
   ·exact ⟨hm,hF.1⟩
 ·rename_i he
  have hlast:(lastC l).1<fromOf l x:=by unfold fromOf at he ⊢;omega
  refine ConfOK.of ⟨by simp,?_⟩ ?_ ?_
  ·rw [List.getElem_append_left h0];exact h1
  ·rw [List.pairwise_append]
   refine ⟨hok.rises,by simp,fun a ha b hb'=>?_⟩
   simp at hb'
   subst hb'
   rw [split_last h0] at ha
   simp only [List.mem_append,List.mem_singleton] at ha
   rcases ha with ha|rfl
   ·have:=hb a ha
    simp only;omega
   ·exact hlast
  ·intro c hc
   simp only [List.mem_append,List.mem_singleton] at hc
   rcases hc with hc|rfl
   ·exact hok.mems c hc
   ·exact ⟨hm,hF.1⟩
theorem placeK_spec {l:List Co}{x:Int}:∀ {k:Nat}(hk:k≤l.length),(0≤placeK l x k→∃ h:(placeK l x k).toNat<l.length,l[(placeK l x k).toNat].1≤x)∧∀ i (h:i<k),placeK l x k<i→¬ l[i].1≤x
 | 0,_=>by simp [placeK]
 | k+1,hk=>by
  have ih:=placeK_spec (l:=l) (x:=x) (k:=k) (by omega)
  rw [placeK_succ (by omega)]
  split
  ·rename_i h
   refine ⟨fun _=>⟨by omega,by simpa using h⟩,fun i hi hlt=>by omega⟩
  ·rename_i h
   refine ⟨ih.1,fun i hi hlt=>?_⟩
   by_cases hik:i=k
   ·subst hik;exact h
   ·exact ih.2 i (by omega) hlt
theorem trimL_eq {l:List Co}{p:Nat}{x:Int}(hp:placeK l x l.length=(p:Int)) (hlt:p<l.length):trimL l x=(1,l[p].2)::l.drop (p+1):=by
 unfold trimL
 rw [hp,Int.toNat_natCast,List.drop_eq_getElem_cons hlt]
theorem trim_ok {l:List Co}{x:Int}(hok:ConfOK l) (hx:1≤x):∃ (p:Nat) (hlt:p<l.length),placeK l x l.length=(p:Int)∧trimL l x=(1,l[p].2)::l.drop (p+1)∧ConfOK (trimL l x)∧(trimL l x).length≤l.length∧(∀ h:1<(trimL l x).length,x<(trimL l x)[1].1) ∧
 ∀ y,x≤y→atK (trimL l x) y (trimL l x).length=atK l y l.length:=by
 have h0:=hok.1.1
 have h1:=hok.1.2
 have hn:=placeK_nonneg h0 (x:=x) (by omega) l.length h0 (Nat.le_refl _)
 have hle:=placeK_le l x l.length
 obtain ⟨p,hp⟩:=Int.eq_ofNat_of_zero_le hn
 have hlt:p<l.length:=by omega
 obtain ⟨hs1,hs2⟩:=placeK_spec (l:=l) (x:=x) (Nat.le_refl l.length)
 have hpx:l[p].1≤x:=by
  obtain ⟨_,h⟩:=hs1 hn
  have e:(placeK l x l.length).toNat=p:=by omega
  simpa [e] using h
 have ht:=trimL_eq hp hlt
 have hrise:=hok.rises
 rw [List.pairwise_iff_getElem] at hrise
 have h1p:1≤l[p].1:=by
  by_cases hz:p=0
  ·subst hz;omega
  ·have:=hrise 0 p h0 hlt (by omega);omega
 refine ⟨p,hlt,hp,ht,?_,?_,?_,?_⟩
 ·rw [ht]
  refine ConfOK.of ⟨by simp,rfl⟩ ?_ ?_
  ·rw [List.pairwise_cons]
   refine ⟨fun c hc=>?_,hok.rises.sublist (List.drop_sublist _ _)⟩
   obtain ⟨i,hi,rfl⟩:=List.getElem_of_mem hc
   rw [List.getElem_drop]
   have:=hrise p (p+1+i) hlt (by simp at hi;omega) (by omega)
   simp only;omega
  ·intro c hc
   simp only [List.mem_cons] at hc
   rcases hc with rfl|hc
   ·exact ⟨(hok.mems _ (List.getElem_mem hlt)).1,by simp⟩
   ·exact hok.mems c (List.mem_of_mem_drop hc)
 ·rw [ht];simp;omega
 ·rw [ht]
  intro h
  have hi:p+1<l.length:=by simp at h;omega
  have e:((1,l[p].2)::l.drop (p+1))[1]'h=l[p+1]:=by simp
  rw [e]
  have:=hs2 (p+1) hi (by omega)
  omega
 ·intro y hy
  have key:∀ j,p+1+j≤l.length→atK (trimL l x) y (1+j)=atK l y (p+1+j):=by
   intro j
   induction j with
   | zero =>
    intro hj
    rw [ht,atK_pos (l:=(1,l[p].2)::l.drop (p+1)) (k:=0) (by simp) (by simp;omega),atK_pos hlt (by omega)]
    rfl
   | succ j ih =>
    intro hj
    have hi:p+1+j<l.length:=by omega
    have hi':1+j<(trimL l x).length:=by rw [ht];simp;omega
    have e:(trimL l x)[1+j]'hi'=l[p+1+j]:=by
     simp only [ht]
     rw [List.getElem_cons,dif_neg (by omega),List.getElem_drop]
     congr 1;omega
    by_cases hc:l[p+1+j].1≤y
    ·rw [show 1+(j+1)=(1+j)+1 by omega,show p+1+(j+1)=(p+1+j)+1 by omega,atK_pos hi (by omega),atK_pos hi' (by rw [e];exact hc),e]
    ·rw [show 1+(j+1)=(1+j)+1 by omega,show p+1+(j+1)=(p+1+j)+1 by omega,atK_neg hi hc,atK_neg hi' (by rw [e];exact hc)]
     exact ih (by omega)
  have hl:(trimL l x).length=1+(l.length-(p+1)):=by rw [ht];simp;omega
  rw [hl,key _ (by omega)]
  congr 1;omega
structure Im where
 index:Int
 active:Int
 confs:List Co
 st:St
def ImV (G:GH) (m:Im) (v:Value):Prop := ∃ C cc A c A' c',v=.agg [.int .i64 m.index,.int .i64 m.active,.slice C m.confs.length cc,.int .i64 m.st.schema,.slice A m.st.pairs.length c,.slice A' m.st.sess.length c'].toArray ∧
 Cos G (.slice C m.confs.length cc) m.confs∧Prs G (.slice A m.st.pairs.length c) m.st.pairs∧Sss G (.slice A' m.st.sess.length c') m.st.sess
theorem ImV.up {G G':GH}(hle:GH.le G G') {m:Im}{v:Value}(h:ImV G m v):ImV G' m v:=by
 obtain ⟨C,cc,A,c,A',c',e,h1,h2,h3⟩:=h
 exact ⟨C,cc,A,c,A',c',e,h1.le hle,h2.mono hle,h3.mono hle⟩
theorem ImV.mk' {G:GH}{x a:Int}{l:List Co}{s:St}{C:Option Addr}{cc:Nat}{A A':Option Addr}{c c':Nat}(h1:Cos G (.slice C l.length cc) l) (h2:StV G s (.agg [.int .i64 s.schema,.slice A s.pairs.length c,.slice A' s.sess.length c'].toArray)) :
 ImV G ⟨x,a,l,s⟩ (.agg [.int .i64 x,.int .i64 a,.slice C l.length cc,.int .i64 s.schema,.slice A s.pairs.length c,.slice A' s.sess.length c'].toArray):=by
 obtain ⟨B,d,B',d',e,h3,h4⟩:=h2
 cases e
 exact ⟨C,cc,A,c,A',c',rfl,h1,h3,h4⟩
def ImP (m:Im):Prop:=(0≤m.index∧m.index≤4294967296∧0≤m.active∧m.active≤m.index)∧ConfOK m.confs∧StP m.st∧(m.st.schema=2↔0<m.active)
noncomputable instance (m:Im):Decidable (ImP m):=Classical.propDecidable _
def CoZ (l:List Co):Prop:=l.length≤900∧∀ c∈l,c.2.length≤1000
def zeroIm:Im:=⟨0,0,[],zeroSt⟩
noncomputable def confsI (m:Im) (c:Cm):List Co:=if (c.kind=7∨c.kind=8)∧(changeR m.confs (m.index+1) c.kind c.node).2=0 then changeL m.confs (m.index+1) c.kind c.node else m.confs
def activeI (m:Im) (c:Cm):Int:=if c.kind=6∧m.active=0 then m.index+1 else m.active
noncomputable def nextI (m:Im) (c:Cm):Im:=⟨m.index+1,activeI m c,trimL (confsI m c) (m.index+2),(applyS m.st c).1⟩
noncomputable def winS (m:Im) (c:Cm):Im×An×Int :=
 if ¬ ImP m then (zeroIm,zA,3) else if 4294967292≤m.index then (zeroIm,zA,11) else if cmdI c≠0 then (zeroIm,zA,cmdI c) else (nextI m c,(applyS m.st c).2.1,0)
theorem changeR_zero {l:List Co}{x k n:Int}(hok:ConfOK l) (hx:1≤x∧x≤4294967292):(changeR l x k n).2=0↔(changedL (lastC l).2 k n).length≠0:=by
 unfold changeR
 rw [if_neg (by simpa using hok),if_neg (by omega)]
 split<;>simp_all
theorem changeR_one {l:List Co}{x k n:Int}(h:(changeR l x k n).2=0):(changeR l x k n).1=changeL l x k n:=by
 unfold changeR at *
 split at h
 ·exact absurd h (by simp)
 split at h
 ·exact absurd h (by simp)
 split at h
 ·exact absurd h (by simp)
 rw [if_neg (by assumption),if_neg (by assumption),if_neg (by assumption)]
theorem applyS_schema {s:St}{c:Cm}(hs:StP s) (hc:cmdI c=0):(applyS s c).1.schema=if c.kind=6 then 2 else s.schema:=by
 have hz:=(stP_iff.1 hs).2.1
 unfold applyS
 rw [if_neg (by simp [hc])]
 split
 ·rw [if_neg (by omega)]
  unfold clientS
  (repeat' split)<;>rfl
 ·split
  ·rename_i h
   rw [if_pos h.1];rfl
  ·rename_i h1 h2
   split
   ·rename_i h6
    have:s.schema≠1:=fun h=>h2 ⟨h6,h⟩
    simp only;omega
   ·rfl
theorem confsI_ok {m:Im}{c:Cm}(h:ImP m) (hx:m.index<4294967292):ConfOK (confsI m c):=by
 unfold confsI
 split
 ·rename_i hh
  have:=(changeR_zero h.2.1 (by have:=h.1;omega)).1 hh.2
  exact changeL_ok h.2.1 (by have:=h.1;omega) this
 ·exact h.2.1
theorem nextI_ok {m:Im}{c:Cm}(h:ImP m) (hx:m.index<4294967292) (hc:cmdI c=0):ImP (nextI m c):=by
 obtain ⟨p,hlt,hp,ht,hok2,hlen,hnx,hat⟩:=trim_ok (x:=m.index+2) (confsI_ok (c:=c) h hx) (by have:=h.1;omega)
 have he:(applyS m.st c).2.2=0:=by
  unfold applyS
  rw [if_neg (by simp [hc])]
  (repeat' split)<;>rfl
 have hsch:=applyS_schema h.2.2.1 hc
 have h4:=h.2.2.2
 have hz:=(stP_iff.1 h.2.2.1).2.1
 obtain ⟨h1,h2,h3,h5⟩:=h.1
 refine ⟨?_,hok2,(applyS_ok h.2.2.1 he).1,?_⟩
 ·show 0≤m.index+1∧m.index+1≤4294967296∧0≤activeI m c∧activeI m c≤m.index+1
  unfold activeI
  split<;>omega
 ·show (applyS m.st c).1.schema=2↔0<activeI m c
  rw [hsch]
  unfold activeI
  by_cases h6:c.kind=6
  ·rw [if_pos h6]
   by_cases ha:m.active=0
   ·rw [if_pos ⟨h6,ha⟩];constructor<;>intro _<;>omega
   ·rw [if_neg (fun h=>ha h.2)];constructor<;>intro _<;>omega
  ·rw [if_neg h6,if_neg (fun h=>h6 h.1)];exact h4
theorem confsI_len {m:Im}{c:Cm}:(confsI m c).length≤m.confs.length+1:=by
 unfold confsI changeL
 split
 ·rw [List.length_append,List.length_singleton]
  split
  ·rw [List.length_take];omega
  ·omega
 ·omega
theorem memOK_len:∀ (l:List Int) (a:Int),l.Pairwise (· < ·)→(∀ x∈l,a≤x∧x≤9)→a≤10→(l.length:Int)≤10-a
 | [],a,_,_,ha=>by simp;omega
 | x::l,a,h,hx,ha=>by
  have h1:=List.pairwise_cons.1 h
  have h2:=hx x List.mem_cons_self
  have:=memOK_len l (x+1) h1.2 (fun y hy=>⟨by have:=h1.1 y hy;omega,(hx y (List.mem_cons_of_mem _ hy)).2⟩) (by omega)
  simp only [List.length_cons]
  omega
theorem ConfOK.few {l:List Co}(h:ConfOK l):∀ c∈l,c.2.length≤9:=fun c hc=>by
 have hm:=(h.mems c hc).1
 have:=memOK_len c.2 1 hm.sorted (fun x hx=>hm.range hx) (by omega)
 omega
theorem nextI_len {m:Im}{c:Cm}(h:ImP m) (hx:m.index<4294967292):(nextI m c).confs.length≤m.confs.length+1:=by
 obtain ⟨p,hlt,hp,ht,hok2,hlen,hnx,hat⟩:=trim_ok (x:=m.index+2) (confsI_ok (c:=c) h hx) (by have:=h.1;omega)
 exact Nat.le_trans hlen confsI_len
theorem ConfOK.coZ {l:List Co}(h:ConfOK l) (hl:l.length≤900):CoZ l:=⟨hl,fun c hc=>by have:=h.few c hc;omega⟩
theorem CoZ.one {l:List Co}(h:CoZ l):∀ c∈l,c.2.length≤1048000:=fun c hc=>by have:=h.2 c hc;omega
theorem CoZ.two {l:List Co}(h:CoZ l):∀ c∈l,c.2.length≤1048576:=fun c hc=>by have:=h.2 c hc;omega
theorem verFormat_s (G:GH) (a:Int):Con Tryz.prog 113 #[.int .i64 a] G [] (Just (.int .i64 (if 0<a then 2 else 1)) G):=by
 apply Con.just
 (refine v_enter Tryz.func113 rfl Tryz.ntmps113 rfl ?_;intro B _)
 repeat' (first|refine Wa ?_|(refine Wc ⟨?_,?_⟩<;>first|exact True.intro|intro h)|fail)
 ·refine Vr ?_
  rw [if_pos (by omega)]
  exact ⟨rfl,rfl⟩
 ·refine Vr ?_
  rw [if_neg (by omega)]
  exact ⟨rfl,rfl⟩
theorem winCheck_s {G:GH}(hT:TabsG G) {m:Im}{v:Value}(hm:ImV G m v) (hz:StZ m.st):Con Tryz.prog 55 #[v] G [] (Just (.int .i64 (if ImP m then 0 else 3)) G):=by
 obtain ⟨C,cc,A,c,A',c',rfl,hC,hp,hss⟩:=hm
 have hs:StV G m.st (.agg [.int .i64 m.st.schema,.slice A m.st.pairs.length c,.slice A' m.st.sess.length c'].toArray):=⟨_,_,_,_,rfl,hp,hss⟩
 have q1:=check_s hC
 have q2:=migCheck_s hT hs hz
 have q3:=verFormat_s G m.active
 have hst:ImP m↔(0≤m.index∧m.index≤4294967296∧0≤m.active∧m.active≤m.index)∧ConfOK m.confs∧StP m.st∧(m.st.schema=2↔0<m.active):=Iff.rfl
 have h12:StP m.st→m.st.schema=1∨m.st.schema=2:=fun h=>(stP_iff.1 h).2.1
 apply Con.just
 generalize hi:(if ImP m then (0:Int) else 3)=iv
 have hyes:ImP m→iv=0:=fun h=>by rw [← hi,if_pos h]
 have hnot:¬ ImP m→iv=3:=fun h=>by rw [← hi,if_neg h]
 rw [hst] at hyes hnot
 clear hi hst hC hp hss hs
 obtain ⟨ix,ac,lc,st⟩:=m
 simp only at *
 obtain ⟨z,lp,ls⟩:=st
 simp only at *
 generalize lp.length=np at *
 generalize ls.length=ns at *
 generalize lc.length=nl at *
 by_cases h1:ConfOK lc
 ·rw [if_pos h1] at q1
  by_cases h2:StP ⟨z,lp,ls⟩
  ·rw [if_pos h2] at q2
   have h12:=h12 h2
   by_cases h3:0<ac
   ·rw [if_pos h3] at q3
    (refine v_enter Tryz.func55 rfl Tryz.ntmps55 rfl ?_;intro B _)
    repeat' (first|apply v_box (d:=1) (zs:=[.int .i64 ix,.int .i64 ac,.slice C nl cc,.int .i64 z,.slice A np c,.slice A' ns c']);(case hx|hz|hd=>rfl);intro b1|refine Wa ?_|(refine Wc ⟨?_,?_⟩<;>first|exact True.intro|intro h)|refine cJ q1 ?_|refine cJ q2 ?_|refine Wr ?_|(refine Wb ?_;intro b)|fail)
    all_goals try
     (refine Vr ?_
      exact ⟨by rw [hnot (by rintro ⟨h,-⟩;omega)],rfl⟩)
    refine Dz _ ?_
    all_goals refine Dt [0,1,2,3,4] ?_
    all_goals (((apply d_callJ 5 (hs:=q3);(case hi=>rfl);(case hr=>kernel_rfl);(case ha|hd=>rfl))))
    all_goals refine Dt [6] ?_
    all_goals refine Dd ?_
    repeat' (first|refine Wa ?_|(refine Wc ⟨?_,?_⟩<;>first|exact True.intro|intro h)|refine Wr ?_|(refine Wb ?_;intro b)|fail)
    all_goals
     (refine Vr ?_
      refine ⟨?_,rfl⟩
      first
       |(rw [hyes ⟨by omega,h1,h2,by omega⟩])
       |(rw [hnot (by rintro ⟨h,-,-,h'⟩;omega)]))
   ·rw [if_neg h3] at q3
    (refine v_enter Tryz.func55 rfl Tryz.ntmps55 rfl ?_;intro B _)
    repeat' (first|apply v_box (d:=1) (zs:=[.int .i64 ix,.int .i64 ac,.slice C nl cc,.int .i64 z,.slice A np c,.slice A' ns c']);(case hx|hz|hd=>rfl);intro b1|refine Wa ?_|(refine Wc ⟨?_,?_⟩<;>first|exact True.intro|intro h)|refine cJ q1 ?_|refine cJ q2 ?_|refine Wr ?_|(refine Wb ?_;intro b)|fail)
    all_goals try
     (refine Vr ?_
      exact ⟨by rw [hnot (by rintro ⟨h,-⟩;omega)],rfl⟩)
    refine Dz _ ?_
    all_goals refine Dt [0,1,2,3,4] ?_
    all_goals (((apply d_callJ 5 (hs:=q3);(case hi=>rfl);(case hr=>kernel_rfl);(case ha|hd=>rfl))))
    all_goals refine Dt [6] ?_
    all_goals refine Dd ?_
    repeat' (first|refine Wa ?_|(refine Wc ⟨?_,?_⟩<;>first|exact True.intro|intro h)|refine Wr ?_|(refine Wb ?_;intro b)|fail)
    all_goals
     (refine Vr ?_
      refine ⟨?_,rfl⟩
      first
       |(rw [hyes ⟨by omega,h1,h2,by omega⟩])
       |(rw [hnot (by rintro ⟨h,-,-,h'⟩;omega)]))
  ·rw [if_neg h2] at q2
   rw [hnot (fun h=>h2 h.2.2.1)]
   (refine v_enter Tryz.func55 rfl Tryz.ntmps55 rfl ?_;intro B _)
   repeat' (first|apply v_box (d:=1) (zs:=[.int .i64 ix,.int .i64 ac,.slice C nl cc,.int .i64 z,.slice A np c,.slice A' ns c']);(case hx|hz|hd=>rfl);intro b1|refine Wa ?_|(refine Wc ⟨?_,?_⟩<;>first|exact True.intro|intro h)|refine cJ q1 ?_|refine cJ q2 ?_|refine Wr ?_|(refine Wb ?_;intro b)|fail)
   all_goals
    (refine Vr ?_
     exact ⟨rfl,rfl⟩)
 ·rw [if_neg h1] at q1
  rw [hnot (fun h=>h1 h.2.1)]
  (refine v_enter Tryz.func55 rfl Tryz.ntmps55 rfl ?_;intro B _)
  repeat' (first|apply v_box (d:=1) (zs:=[.int .i64 ix,.int .i64 ac,.slice C nl cc,.int .i64 z,.slice A np c,.slice A' ns c']);(case hx|hz|hd=>rfl);intro b1|refine Wa ?_|(refine Wc ⟨?_,?_⟩<;>first|exact True.intro|intro h)|refine cJ q1 ?_|refine Wr ?_|(refine Wb ?_;intro b)|fail)
  all_goals
   (refine Vr ?_
    exact ⟨rfl,rfl⟩)
def OpenP (m:Im) (i:Int):Prop:=m.index<i∧i-4≤m.index
noncomputable instance (m:Im) (i:Int):Decidable (OpenP m i):=Classical.propDecidable _
theorem winOpen_s {G:GH}{m:Im}{v:Value}(i:Int) (hm:ImV G m v) (h0:0≤m.index) (hi:(Lit.int .i64 i).wf=true):Con Tryz.prog 23 #[v,.int .i64 i] G [] (Just (.bool (decide (OpenP m i))) G):=by
 obtain ⟨C,cc,A,c,A',c',rfl,hC,hp,hss⟩:=hm
 have hb:=bounds_i64 hi
 have hst:decide (OpenP m i)=decide (m.index<i∧i-4≤m.index):=decide_eq_decide.2 Iff.rfl
 rw [hst]
 clear hst hC hp hss
 obtain ⟨ix,ac,lc,⟨z,lp,ls⟩⟩:=m
 simp only at *
 generalize lp.length=np at *
 generalize ls.length=ns at *
 generalize lc.length=nl at *
 apply Con.just
 (refine v_enter Tryz.func23 rfl Tryz.ntmps23 rfl ?_;intro B _)
 repeat' (first|apply v_box (d:=2) (zs:=[.int .i64 ix,.int .i64 ac,.slice C nl cc,.int .i64 z,.slice A np c,.slice A' ns c']);(case hx|hz|hd=>rfl);intro b2|refine Wa ?_|(refine Wc ⟨?_,?_⟩<;>first|exact True.intro|intro h)|refine Wr ?_|(refine Wb ?_;intro b)|fail)
 all_goals
  (refine Vr ?_
   refine ⟨?_,rfl⟩
   (try simp only [dec_eq])
   congr 1
   first
    |(rw [decide_eq_decide];omega)
    |(rw [eq_comm,decide_eq_false_iff_not];omega)
    |(rw [eq_comm,decide_eq_true_iff];omega))
noncomputable def membersI (m:Im) (i:Int):List Int:=if ImP m∧OpenP m i then atK m.confs i m.confs.length else []
theorem winMembers_s {G:GH}(hT:TabsG G) {m:Im}{v:Value}(i:Int) (hm:ImV G m v) (hz:StZ m.st) (hc:CoZ m.confs) (hi:(Lit.int .i64 i).wf=true) :
 Con Tryz.prog 22 #[v,.int .i64 i] G [] (fun r G' μ'=>μ'=[]∧Sl G' 1 (IntR .i64) r (membersI m i)):=by
 have q1:=winCheck_s hT hm hz
 have q2:=fun h=>winOpen_s i hm h hi
 have hmi:membersI m i=if ImP m∧OpenP m i then atK m.confs i m.confs.length else []:=rfl
 have h0:ImP m→0≤m.index:=fun h=>h.1.1
 have hpos:ImP m→OpenP m i→1≤i:=fun h h'=>by have:=h.1.1;have:=h'.1;omega
 obtain ⟨C,cc,A,c,A',c',rfl,hC,hp,hss⟩:=hm
 have q3:=at_s i hC hc.two
 have hcok:ImP m→ConfOK m.confs:=fun h=>h.2.1
 have hat:atL m.confs i=if ConfOK m.confs∧1≤i then atK m.confs i m.confs.length else []:=rfl
 rw [hmi]
 clear hmi hC hp hss hc hz
 by_cases hP:ImP m
 ·rw [if_pos hP] at q1
  have q2:=q2 (h0 hP)
  by_cases hO:OpenP m i
  ·rw [if_pos ⟨hP,hO⟩]
   rw [if_pos ⟨hcok hP,hpos hP hO⟩] at hat
   rw [hat] at q3
   rw [decide_eq_true hO] at q2
   clear hat hcok hpos h0
   (obtain ⟨ix,ac,lc,⟨z,lp,ls⟩⟩:=m;simp only at *;generalize lp.length=np at *;generalize ls.length=ns at *;generalize lc.length=nl at *)
   (refine v_enter Tryz.func22 rfl Tryz.ntmps22 rfl ?_;intro B _)
   repeat' (first|apply v_box (d:=2) (zs:=[.int .i64 ix,.int .i64 ac,.slice C nl cc,.int .i64 z,.slice A np c,.slice A' ns c']);(case hx|hz|hd=>rfl);intro b2|apply v_read;(case hop=>(apply r_loadNo;(case hx=>rfl);(case h=>exact aM);(case hd|hn=>rfl)));(case hd=>rfl)|refine Wa ?_|(refine Wc ⟨?_,?_⟩<;>first|exact True.intro|intro h)|refine cJ q1 ?_|refine cJ q2 ?_|refine Wr ?_|(refine Wb ?_;intro b)|fail)
   refine cQ rfl q3 ?_
   rintro r G2 _ - ⟨rfl,hr⟩
   repeat' (first|refine Wa ?_|(refine Wc ⟨?_,?_⟩<;>first|exact True.intro|intro h)|refine Wr ?_|(refine Wb ?_;intro b)|fail)
   refine Vr ?_
   exact ⟨rfl,hr⟩
  ·rw [if_neg (fun h=>hO h.2)]
   rw [decide_eq_false hO] at q2
   clear hat hcok hpos h0
   (obtain ⟨ix,ac,lc,⟨z,lp,ls⟩⟩:=m;simp only at *;generalize lp.length=np at *;generalize ls.length=ns at *;generalize lc.length=nl at *)
   (refine v_enter Tryz.func22 rfl Tryz.ntmps22 rfl ?_;intro B _)
   repeat' (first|apply v_box (d:=2) (zs:=[.int .i64 ix,.int .i64 ac,.slice C nl cc,.int .i64 z,.slice A np c,.slice A' ns c']);(case hx|hz|hd=>rfl);intro b2|apply v_read;(case hop=>(apply r_loadNo;(case hx=>rfl);(case h=>exact aM);(case hd|hn=>rfl)));(case hd=>rfl)|refine Wa ?_|(refine Wc ⟨?_,?_⟩<;>first|exact True.intro|intro h)|refine cJ q1 ?_|refine cJ q2 ?_|refine Wr ?_|(refine Wb ?_;intro b)|fail)
   refine Vr ?_
   exact ⟨rfl,Sl.nil⟩
 ·rw [if_neg hP] at q1
  rw [if_neg (fun h=>hP h.1)]
  clear hat hcok hpos h0 q2
  (obtain ⟨ix,ac,lc,⟨z,lp,ls⟩⟩:=m;simp only at *;generalize lp.length=np at *;generalize ls.length=ns at *;generalize lc.length=nl at *)
  (refine v_enter Tryz.func22 rfl Tryz.ntmps22 rfl ?_;intro B _)
  repeat' (first|apply v_box (d:=2) (zs:=[.int .i64 ix,.int .i64 ac,.slice C nl cc,.int .i64 z,.slice A np c,.slice A' ns c']);(case hx|hz|hd=>rfl);intro b2|apply v_read;(case hop=>(apply r_loadNo;(case hx=>rfl);(case h=>exact aM);(case hd|hn=>rfl)));(case hd=>rfl)|refine Wa ?_|(refine Wc ⟨?_,?_⟩<;>first|exact True.intro|intro h)|refine cJ q1 ?_|refine Wr ?_|(refine Wb ?_;intro b)|fail)
  refine Vr ?_
  exact ⟨rfl,Sl.nil⟩
end Go.Proofs.YtkofafmiabmobaaGreatDoor
