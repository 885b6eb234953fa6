import Derived.Test.YtkeiahjelpjegaaGreatA03
set_option linter.unusedSimpArgs false
set_option linter.unusedVariables false
namespace Go.Ev
open Go Go.Proofs
set_option maxRecDepth 8000
set_option maxHeartbeats 1000000 in
theorem zeN (x:za) (b:zi) (res:zg) (fin:zi)
 (h:(∃ r0:Int,zdb x r0∧(((r0 == 0)=true→(res=({ first:=[],last:=[],null:=true })∧fin=b))∧((r0 == 0)=false→(0:Nat) < List.length (za.Kids x)∧(∃ r0_1:List zg,∃ o:zi,zaq (List.getD (za.Kids x) (0:Nat) default) (if (1:Int) > if za.Hi x > za.Lo x then za.Hi x else za.Lo x then (1:Int) else if za.Hi x > za.Lo x then za.Hi x else za.Lo x) b r0_1 o∧(∃ J14:List zb→List (List Int)→List zg→Prop,(∀ (o0_sets:List zb) (o0_follow:List (List Int)) (l:List zg),J14 o0_sets o0_follow l→(zaf l∧(List.length l < 1099511627776∧∃ (Inv24:Nat→List zb→List (List Int)→List Int→List Int→Bool→Prop),Inv24 0 o0_sets o0_follow ([]) ([]) true∧(∀ (i:Nat) (y:zg),i < List.length l→l[List.length l - 1 - i]?=some y→∀ (o0_sets_1:List zb) (o0_follow_1:List (List Int)) (out_first:List Int) (out_last:List Int) (out_null:Bool),Inv24 i o0_sets_1 o0_follow_1 out_first out_last out_null→(∃ r0_6:zg,∃ o_4:zi,zaK y ({ first:=out_first,last:=out_last,null:=out_null }) ({ sets:=o0_sets_1,follow:=o0_follow_1 }) r0_6 o_4∧(((decide (za.Hi x≥(0:Int)) && decide ((↑(List.length l):Int) - 1 - (↑i:Int)≥za.Lo x))=true→(∃ r0_7:zg,zcG r0_6 r0_7∧Inv24 (i+1) (zi.sets o_4) (zi.follow o_4) (zg.first r0_7) (zg.last r0_7) (zg.null r0_7)))∧((decide (za.Hi x≥(0:Int)) && decide ((↑(List.length l):Int) - 1 - (↑i:Int)≥za.Lo x))=false→Inv24 (i+1) (zi.sets o_4) (zi.follow o_4) (zg.first r0_6) (zg.last r0_6) (zg.null r0_6)))))∧(∀ (o0_sets_1:List zb) (o0_follow_1:List (List Int)) (out_first:List Int) (out_last:List Int) (out_null:Bool),Inv24 (List.length l) o0_sets_1 o0_follow_1 out_first out_last out_null→(res=({ first:=out_first,last:=out_last,null:=out_null })∧fin=({ sets:=o0_sets_1,follow:=o0_follow_1 }))))))∧(((decide (za.Hi x < (0:Int)))=true→((0:Int)≤w64 ((↑(List.length r0_1):Int) - 1))∧(Int.toNat (w64 ((↑(List.length r0_1):Int) - 1)) < List.length r0_1)∧Int.toNat (w64 ((↑(List.length r0_1):Int) - 1)) < List.length r0_1∧Int.toNat (w64 ((↑(List.length r0_1):Int) - 1)) < List.length r0_1∧(∃ o_5:zi,zaY (zg.last (gd r0_1 (w64 ((↑(List.length r0_1):Int) - 1)))) (zg.first (gd r0_1 (w64 ((↑(List.length r0_1):Int) - 1)))) o o_5∧Int.toNat (w64 ((↑(List.length r0_1):Int) - 1)) < List.length r0_1∧(((zg.null (gd r0_1 (w64 ((↑(List.length r0_1):Int) - 1))))=true→((zg.null (gd r0_1 (w64 ((↑(List.length r0_1):Int) - 1))))=true→Int.toNat (w64 ((↑(List.length r0_1):Int) - 1)) < List.length r0_1)∧J14 (zi.sets o_5) (zi.follow o_5) (List.set r0_1 (Int.toNat (w64 ((↑(List.length r0_1):Int) - 1))) { first:=zg.first (gd r0_1 (w64 ((↑(List.length r0_1):Int) - 1))),last:=zg.last (gd r0_1 (w64 ((↑(List.length r0_1):Int) - 1))),null:=true }))∧((zg.null (gd r0_1 (w64 ((↑(List.length r0_1):Int) - 1))))=false→((zg.null (gd r0_1 (w64 ((↑(List.length r0_1):Int) - 1))))=false→Int.toNat (w64 ((↑(List.length r0_1):Int) - 1)) < List.length r0_1)∧J14 (zi.sets o_5) (zi.follow o_5) (List.set r0_1 (Int.toNat (w64 ((↑(List.length r0_1):Int) - 1))) { first:=zg.first (gd r0_1 (w64 ((↑(List.length r0_1):Int) - 1))),last:=zg.last (gd r0_1 (w64 ((↑(List.length r0_1):Int) - 1))),null:=za.Lo x == 0 })))))∧((decide (za.Hi x < (0:Int)))=false→J14 (zi.sets o) (zi.follow o) r0_1)))))))):zbq x b res fin:=by
 unfold zbq
 have kk:=cfOk [75] 76
 refine fD (x:=bodyOf Tryz.f145) kk Tryz.func145 ?_
 refine wkS [1,3,4] [(1,.ptr 3 0),(3,zr b),(4,zm x)] (by kernel_rfl) ?_
 refine sDE kk [] [1,4] [(7,.ptr 8 0),(8,.ptr 3 0),(10,.ptr 11 0),(11,zm x),(13,.ptr 14 0),(14,.agg [.own 3 ([]),.own 3 ([]),vB false])] [(7,.ptr 8 0),(8,.ptr 3 0),(10,.ptr 11 0),(11,zm x),(13,.ptr 14 0),(14,.agg [oL 3 zd ([]),oL 3 zd ([]),vB false])] obN ?_
 refine qD ?_
 obtain ⟨r0,hc0,h⟩:=h
 refine sD kk [.c (vi r0) []] [] [(37,vB (r0 == 0))] (obC hc0 obN) ?_
 refine cD (t:=12) (b:=r0 == 0) (fun hb1=>?_) (fun hb1=>?_)
 ·have h:=h.1 hb1
  refine sDE kk [] [7,8,10,11,37] [(14,.agg [.own 3 ([]),.own 3 ([]),vB true])] [(14,.agg [oL 3 zd ([]),oL 3 zd ([]),vB true])] obN ?_
  refine tD ?_
  obtain ⟨he0,he1⟩:=h
  subst res fin
  exact (endD [(14,0),(14,1)] (.agg [vL zd ([]),vL zd ([]),vB true]) [zr b]).1
 ·have h:=h.2 hb1
  refine Sem.skip' (by kernel_rfl) Wk.refl ?_
  show Sem _ _ _ _ _
  refine wkD [37] ?_
  obtain ⟨h2,h⟩:=h
  obtain ⟨r0_1,o,hc3,h⟩:=h
  refine sD kk [.e (zD (List.getD (za.Kids x) (0:Nat) default)),.c (oL 158 zu r0_1) [zr o]] [] [(3,zr o),(16,oL 158 zu r0_1)] (obC (show (0:Int)≤(0:Int) from by first | decide | rfl | trivial) (obC (show (List.map ze (za.Kids x))[(Int.toNat (0:Int):Nat)]?=some (zD (List.getD (za.Kids x) (0:Nat) default)) from by have:=zbh ze (za.Kids x) ((0:Nat)) _ (zt _) h2;simpa only [nm,enq,zt] using this) (obC (Eq.mp (by unfold zaq;(try simp only [List.drop_zero,List.take_length]);first | done | simp only [nm,enq]:zaq (List.getD (za.Kids x) (0:Nat) default) (if (1:Int) > if za.Hi x > za.Lo x then za.Hi x else za.Lo x then (1:Int) else if za.Hi x > za.Lo x then za.Hi x else za.Lo x) b r0_1 o=CallE Tryz.prog 160 [.ptr 3 0,.agg [vi (za.Kind (List.getD (za.Kids x) (0:Nat) default)),vI .u64 (zb.e0 (za.Set (List.getD (za.Kids x) (0:Nat) default))),vI .u64 (zb.e1 (za.Set (List.getD (za.Kids x) (0:Nat) default))),vI .u64 (zb.e2 (za.Set (List.getD (za.Kids x) (0:Nat) default))),vI .u64 (zb.e3 (za.Set (List.getD (za.Kids x) (0:Nat) default))),vi (za.Lo (List.getD (za.Kids x) (0:Nat) default)),vi (za.Hi (List.getD (za.Kids x) (0:Nat) default)),vL ze (za.Kids (List.getD (za.Kids x) (0:Nat) default))],vi (if true=true then if (1:Int) > if true=true then if za.Hi x > za.Lo x then za.Hi x else za.Lo x else if za.Hi x < za.Lo x then za.Hi x else za.Lo x then (1:Int) else if true=true then if za.Hi x > za.Lo x then za.Hi x else za.Lo x else if za.Hi x < za.Lo x then za.Hi x else za.Lo x else if (1:Int) < if true=true then if za.Hi x > za.Lo x then za.Hi x else za.Lo x else if za.Hi x < za.Lo x then za.Hi x else za.Lo x then (1:Int) else if true=true then if za.Hi x > za.Lo x then za.Hi x else za.Lo x else if za.Hi x < za.Lo x then za.Hi x else za.Lo x)] [.agg [oL 25 zf (zi.sets b),oL 40 zj (zi.follow b)]] (oL 158 zu r0_1) [zr o]) hc3) obN))) ?_
  refine sDE kk [] [] [(19,.ptr 20 0),(20,.agg [.own 3 ([]),.own 3 ([]),vB true])] [(19,.ptr 20 0),(20,.agg [oL 3 zd ([]),oL 3 zd ([]),vB true])] obN ?_
  obtain ⟨J14,hJ14,h⟩:=h
  refine sjD (fun (q:List zb×List (List Int)×List zg)=>J14 q.1 q.2.1 q.2.2) (fun (q:List zb×List (List Int)×List zg)=>(fun (o0_sets:List zb) (o0_follow:List (List Int)) (l:List zg)=>([(3,.agg [oL 25 zf o0_sets,oL 40 zj o0_follow]),(7,.ptr 8 0),(8,.ptr 3 0),(10,.ptr 11 0),(11,zm x),(13,.ptr 14 0),(14,.agg [oL 3 zd ([]),oL 3 zd ([]),vB false]),(16,oL 158 zu l),(19,.ptr 20 0),(20,.agg [oL 3 zd ([]),oL 3 zd ([]),vB true])]:Sta)) q.1 q.2.1 q.2.2) ?_ ?_
  ·rintro ⟨o0_sets,o0_follow,l⟩ hj
   have h:=hJ14 o0_sets o0_follow l hj
   refine qD ?_
   obtain ⟨hc15,h⟩:=h
   refine sD kk [.c (.clo 169 [.fp (fL zu l) 0]) []] [16] [(172,.clo 169 [.fp (fL zu l) 0])] (obC (Eq.mp (by unfold zaf;(try simp only [List.drop_zero,List.take_length]);first | done | simp only [nm,enq]:zaf l=CallE Tryz.prog 161 [.f (FV.sl (List.take (List.length (List.map zu l)) (List.drop (0:Nat) (List.map zu l))))] [] (.clo 169 [.fp (fL zu l) 0]) []) hc15) obN) ?_
   refine bD (id:=0) ?_
   obtain ⟨hl25,Inv24,h0Inv24,hRInv24,hDInv24⟩:=h
   refine Sem.range (α:=zg) (σ:=List zb×List (List Int)×List Int×List Int×Bool) (c:=(cf [75] 76)) (by rfl) (tg:=57) (p0:=58) (p1:=59) (by kernel_rfl) (xs:=l) (by kernel_rfl) back_ok_169 (ey:=(fun (y:zg)=>(za2 y:FV))) (sz:=3) (fun y=>z7 y) (fun y=>by simp [FV.fits,FV.size,FV.cells,FV.one,z7]) (by omega) [(7,.ptr 8 0),(10,.ptr 11 0),(13,.ptr 14 0),(19,.ptr 20 0)] [3,8,11,14,20] (fun (q:List zb×List (List Int)×List Int×List Int×Bool)=>(fun (o0_sets_1:List zb) (o0_follow_1:List (List Int)) (out_first:List Int) (out_last:List Int) (out_null:Bool)=>([.agg [oL 25 zf o0_sets_1,oL 40 zj o0_follow_1],.ptr 3 0,zm x,.agg [oL 3 zd ([]),oL 3 zd ([]),vB false],.agg [vL zd out_first,vL zd out_last,vB out_null]]:List AV)) q.1 q.2.1 q.2.2.1 q.2.2.2.1 q.2.2.2.2) (fun (i:Nat) (q:List zb×List (List Int)×List Int×List Int×Bool)=>Inv24 i q.1 q.2.1 q.2.2.1 q.2.2.2.1 q.2.2.2.2) (o0_sets,o0_follow,([]),([]),true) ((wkE (G':=[(3,.agg [oL 25 zf o0_sets,oL 40 zj o0_follow]),(7,.ptr 8 0),(8,.ptr 3 0),(10,.ptr 11 0),(11,zm x),(13,.ptr 14 0),(14,.agg [oL 3 zd ([]),oL 3 zd ([]),vB false]),(19,.ptr 20 0),(20,.agg [vL zd ([]),vL zd ([]),vB true])]) [(20,0),(20,1)] [3,7,8,10,11,13,14,19,20] (by kernel_rfl)).trans (Wk.pick [7,10,13,19,3,8,11,14,20] (by kernel_rfl))) h0Inv24 (by rfl) (fun q=>by rfl) (by rfl) (by decide) (fun q q'=>by rfl) (Nat.le_of_ble_eq_true rfl) (Nat.le_of_ble_eq_true rfl) (by decide) ?_ ?_
   ·rintro i ⟨o0_sets_1,o0_follow_1,out_first,out_last,out_null⟩ y hi hy hinv
    have h:=hRInv24 i y hi hy o0_sets_1 o0_follow_1 out_first out_last out_null hinv
    refine Sem.weak (Wk.pick [3,6,7,9,10,12,13,15,19,175,178] (G':=[(3,.agg [oL 25 zf o0_sets_1,oL 40 zj o0_follow_1]),(6,.ptr 3 0),(7,.ptr 6 0),(9,zm x),(10,.ptr 9 0),(12,.agg [oL 3 zd ([]),oL 3 zd ([]),vB false]),(13,.ptr 12 0),(15,.agg [vL zd out_first,vL zd out_last,vB out_null]),(19,.ptr 15 0),(175,vi ((↑(List.length l):Int) - 1 - (↑i:Int))),(178,zx y)]) (by kernel_rfl)) ?_
    show Sem _ (cfr [75] 76) (sq1 (sq1 (sq2 (sq1 (sq2 (sq2 (sq2 (sq2 (sq2 (bodyOf Tryz.f145)))))))))) _ _
    have kr:=cfrOk [75] 76
    refine sD kr [] [13,175] [(25,vi ((↑(List.length l):Int) - 1 - (↑i:Int)))] obN ?_
    refine rD kr [] [178] [(28,.ptr 29 0),(29,zx y)] obN ?_
    refine ⟨rfl,?_⟩
    show Sem _ (cfr [75] 76) (sq2 (sq1 (sq2 (sq1 (sq2 (sq2 (sq2 (sq2 (sq2 (bodyOf Tryz.f145)))))))))) _ _
    refine bD (id:=1) ?_
    obtain ⟨r0_6,o_4,hc26,h⟩:=h
    refine sD kr [.c (zx r0_6) [zr o_4]] [7,28,29] [(3,zr o_4),(15,zx r0_6)] (obC hc26 obN) ?_
    refine sM [10,25] [(217,vB (decide (za.Hi x≥(0:Int)) && decide ((↑(List.length l):Int) - 1 - (↑i:Int)≥za.Lo x)))] ?_ (fun hk0=>?_)
    ·refine cD (t:=72) (b:=decide (za.Hi x≥(0:Int)) && decide ((↑(List.length l):Int) - 1 - (↑i:Int)≥za.Lo x)) (fun hb28=>?_) (fun hb28=>?_)
     ·have h:=h.1 hb28
      obtain ⟨r0_7,hc29,h⟩:=h
      refine rD kr [.c (zx r0_7) []] [19,217] [(15,zx r0_7)] (obC hc29 obN) ?_
      exact rndE (wkE [] [3,6,9,12,15] (by rfl)) (by kernel_rfl) ⟨((zi.sets o_4),(zi.follow o_4),(zg.first r0_7),(zg.last r0_7),(zg.null r0_7)),rfl,h⟩
     ·have h:=h.2 hb28
      refine Sem.skip' (by kernel_rfl) Wk.refl ?_
      exact rndE (wkE [] [3,6,9,12,15] (by rfl)) (by kernel_rfl) ⟨((zi.sets o_4),(zi.follow o_4),(zg.first r0_6),(zg.last r0_6),(zg.null r0_6)),rfl,h⟩
    ·rcases Bool.eq_false_or_eq_true (decide (za.Hi x≥(0:Int))) with hb27 | hb27
     ·refine sD kr [bT,bT,bT,bT,bT] [10,25] [(217,vB (decide ((↑(List.length l):Int) - 1 - (↑i:Int)≥za.Lo x)))] (obC (gtt hb27) (obC (gtt hb27) (obC (gtt hb27) (obC (gtt hb27) (obC hb27 obN))))) ?_
      exact Sem.cast (by try rw [hb27];kernel_rfl) hk0
     ·refine sD kr [bF,bF,bF,bF,bF] [10,25] [(217,vB false)] (obC (gtf hb27) (obC (gtf hb27) (obC (gtf hb27) (obC (gtf hb27) (obC hb27 obN))))) ?_
      exact Sem.cast (by try rw [hb27];kernel_rfl) hk0
   ·rintro ⟨o0_sets_1,o0_follow_1,out_first,out_last,out_null⟩ hinv
    have h:=hDInv24 o0_sets_1 o0_follow_1 out_first out_last out_null hinv
    refine ⟨[(3,.agg [oL 25 zf o0_sets_1,oL 40 zj o0_follow_1]),(13,.ptr 14 0),(14,.agg [oL 3 zd ([]),oL 3 zd ([]),vB false]),(19,.ptr 20 0),(20,.agg [vL zd out_first,vL zd out_last,vB out_null])],Wk.pick [3,13,14,19,20] (by kernel_rfl),?_⟩
    show Sem _ _ _ _ _
    refine sD kk [] [19,20] [(14,.agg [vL zd out_first,vL zd out_last,vB out_null])] obN ?_
    refine tD ?_
    obtain ⟨he0,he1⟩:=h
    subst res fin
    exact (endD [] (.agg [vL zd out_first,vL zd out_last,vB out_null]) [.agg [oL 25 zf o0_sets_1,oL 40 zj o0_follow_1]]).1
  ·refine sD kk [] [] [(85,vB (decide (za.Hi x < (0:Int))))] obN ?_
   refine cD (t:=28) (b:=decide (za.Hi x < (0:Int))) (fun hb30=>?_) (fun hb30=>?_)
   ·have h:=h.1 hb30
    obtain ⟨h31,h⟩:=h
    obtain ⟨h32,h⟩:=h
    refine sDE kk [] [85] [(22,AV.ep (16:Nat) (0:Nat) ((0:Nat)+Int.toNat (w64 ((↑(List.length (List.map zu r0_1)):Int) - 1))) (0:Nat))] [(22,AV.ep (16:Nat) (0:Nat) (Int.toNat (w64 ((↑(List.length r0_1):Int) - 1))) (0:Nat))] (obC (show (0:Int)≤w64 ((↑(List.length (List.map zu r0_1)):Int) - 1) from by simpa only [nm] using h31) (obC (show Int.toNat (w64 ((↑(List.length (List.map zu r0_1)):Int) - 1)) < List.length (List.map zu r0_1) from by simpa only [nm] using h32) obN)) ?_
    obtain ⟨h33,h⟩:=h
    obtain ⟨h34,h⟩:=h
    obtain ⟨o_5,hc35,h⟩:=h
    refine sD kk [.e (za2 (gd r0_1 (w64 ((↑(List.length r0_1):Int) - 1)))),.e (za2 (gd r0_1 (w64 ((↑(List.length r0_1):Int) - 1)))),.c (.tup []) [zr o_5]] [] [(3,zr o_5)] (obC (zbh zu r0_1 (Int.toNat (w64 ((↑(List.length r0_1):Int) - 1))) _ (z7 _) h33) (obC (zbh zu r0_1 (Int.toNat (w64 ((↑(List.length r0_1):Int) - 1))) _ (z7 _) h34) (obC hc35 obN))) ?_
    obtain ⟨h36,h⟩:=h
    rcases Bool.eq_false_or_eq_true (zg.null (gd r0_1 (w64 ((↑(List.length r0_1):Int) - 1)))) with hb37 | hb37
    ·have h:=h.1 hb37
     obtain ⟨h39,h⟩:=h
     refine rDE kk [.e (za2 (gd r0_1 (w64 ((↑(List.length r0_1):Int) - 1)))),bF,bF,bF,bT,.e (za2 (gd r0_1 (w64 ((↑(List.length r0_1):Int) - 1))))] [22] [(16,.own 158 (List.set (List.map zu r0_1) (Int.toNat (w64 ((↑(List.length r0_1):Int) - 1))) (FV.agg [FV.sl (List.map zd (zg.first (gd r0_1 (w64 ((↑(List.length r0_1):Int) - 1))))),FV.sl (List.map zd (zg.last (gd r0_1 (w64 ((↑(List.length r0_1):Int) - 1))))),FV.pv (Value.bool true)])))] [(16,oL 158 zu (List.set r0_1 (Int.toNat (w64 ((↑(List.length r0_1):Int) - 1))) { first:=zg.first (gd r0_1 (w64 ((↑(List.length r0_1):Int) - 1))),last:=zg.last (gd r0_1 (w64 ((↑(List.length r0_1):Int) - 1))),null:=true }))] (obC (zbh zu r0_1 (Int.toNat (w64 ((↑(List.length r0_1):Int) - 1))) _ (z7 _) h36) (obC (gff hb37) (obC (gff hb37) (obC (gff hb37) (obC hb37 (obC (zbh zu r0_1 (Int.toNat (w64 ((↑(List.length r0_1):Int) - 1))) _ (z7 _) (h39 hb37)) obN)))))) ?_
     exact jD ((zi.sets o_5),(zi.follow o_5),(List.set r0_1 (Int.toNat (w64 ((↑(List.length r0_1):Int) - 1))) { first:=zg.first (gd r0_1 (w64 ((↑(List.length r0_1):Int) - 1))),last:=zg.last (gd r0_1 (w64 ((↑(List.length r0_1):Int) - 1))),null:=true })) [] h
    ·have h:=h.2 hb37
     obtain ⟨h38,h⟩:=h
     refine rDE kk [.e (za2 (gd r0_1 (w64 ((↑(List.length r0_1):Int) - 1)))),bT,bT,bT,bF,.e (za2 (gd r0_1 (w64 ((↑(List.length r0_1):Int) - 1))))] [22] [(16,.own 158 (List.set (List.map zu r0_1) (Int.toNat (w64 ((↑(List.length r0_1):Int) - 1))) (FV.agg [FV.sl (List.map zd (zg.first (gd r0_1 (w64 ((↑(List.length r0_1):Int) - 1))))),FV.sl (List.map zd (zg.last (gd r0_1 (w64 ((↑(List.length r0_1):Int) - 1))))),FV.pv (Value.bool (za.Lo x == 0))])))] [(16,oL 158 zu (List.set r0_1 (Int.toNat (w64 ((↑(List.length r0_1):Int) - 1))) { first:=zg.first (gd r0_1 (w64 ((↑(List.length r0_1):Int) - 1))),last:=zg.last (gd r0_1 (w64 ((↑(List.length r0_1):Int) - 1))),null:=za.Lo x == 0 }))] (obC (zbh zu r0_1 (Int.toNat (w64 ((↑(List.length r0_1):Int) - 1))) _ (z7 _) h36) (obC (gft hb37) (obC (gft hb37) (obC (gft hb37) (obC hb37 (obC (zbh zu r0_1 (Int.toNat (w64 ((↑(List.length r0_1):Int) - 1))) _ (z7 _) (h38 hb37)) obN)))))) ?_
     exact jD ((zi.sets o_5),(zi.follow o_5),(List.set r0_1 (Int.toNat (w64 ((↑(List.length r0_1):Int) - 1))) { first:=zg.first (gd r0_1 (w64 ((↑(List.length r0_1):Int) - 1))),last:=zg.last (gd r0_1 (w64 ((↑(List.length r0_1):Int) - 1))),null:=za.Lo x == 0 })) [] h
   ·have h:=h.2 hb30
    refine Sem.skip' (by kernel_rfl) Wk.refl ?_
    exact jD ((zi.sets o),(zi.follow o),r0_1) [] h
set_option maxHeartbeats 1000000 in
theorem zd5 (x:za) (b:zi) (res:zg) (fin:zi)
 (h:(((za.Kind x == (2:Int))=true→(∃ r0:zg,∃ o:zi,zbH (za.Set x) b r0 o∧(res=r0∧fin=o)))∧((za.Kind x == (2:Int))=false→(((za.Kind x == (3:Int))=true→(∃ (Inv12:List zb→List (List Int)→List Int→List Int→Bool→Int→Prop) (mu13:List zb→List (List Int)→List Int→List Int→Bool→Int→Nat),Inv12 (zi.sets b) (zi.follow b) ([]) ([]) true 0∧(∀ (o0_sets:List zb) (o0_follow:List (List Int)) (out_first:List Int) (out_last:List Int) (out_null:Bool) (t26:Int),Inv12 o0_sets o0_follow out_first out_last out_null t26→(((decide (t26 < (↑(List.length (za.Kids x)):Int)))=true→((0:Int)≤t26)∧t26 < ↑(List.length (za.Kids x))∧(∃ r0_5:zg,∃ o_5:zi,zak (gd (za.Kids x) t26) ({ sets:=o0_sets,follow:=o0_follow }) r0_5 o_5∧(∃ r0_6:zg,∃ o_6:zi,zaK ({ first:=out_first,last:=out_last,null:=out_null }) r0_5 o_5 r0_6 o_6∧(Inv12 (zi.sets o_6) (zi.follow o_6) (zg.first r0_6) (zg.last r0_6) (zg.null r0_6) (w64 (t26+1))∧mu13 (zi.sets o_6) (zi.follow o_6) (zg.first r0_6) (zg.last r0_6) (zg.null r0_6) (w64 (t26+1)) < mu13 o0_sets o0_follow out_first out_last out_null t26))))∧((decide (t26 < (↑(List.length (za.Kids x)):Int)))=false→(res=({ first:=out_first,last:=out_last,null:=out_null })∧fin=({ sets:=o0_sets,follow:=o0_follow })))))))∧((za.Kind x == (3:Int))=false→(((za.Kind x == (4:Int))=true→(∃ (Inv32:List zb→List (List Int)→List Int→List Int→Bool→Int→Prop) (mu33:List zb→List (List Int)→List Int→List Int→Bool→Int→Nat),Inv32 (zi.sets b) (zi.follow b) ([]) ([]) false 0∧(∀ (o0_sets_1:List zb) (o0_follow_1:List (List Int)) (out_first_1:List Int) (out_last_1:List Int) (out_null_1:Bool) (t43:Int),Inv32 o0_sets_1 o0_follow_1 out_first_1 out_last_1 out_null_1 t43→(((decide (t43 < (↑(List.length (za.Kids x)):Int)))=true→((0:Int)≤t43)∧t43 < ↑(List.length (za.Kids x))∧(∃ r0_13:zg,∃ o_9:zi,zak (gd (za.Kids x) t43) ({ sets:=o0_sets_1,follow:=o0_follow_1 }) r0_13 o_9∧(∃ r0_14:List Int,zag out_first_1 (zg.first r0_13) r0_14∧(∃ r0_15:List Int,zag out_last_1 (zg.last r0_13) r0_15∧(Inv32 (zi.sets o_9) (zi.follow o_9) r0_14 r0_15 (out_null_1 || zg.null r0_13) (w64 (t43+1))∧mu33 (zi.sets o_9) (zi.follow o_9) r0_14 r0_15 (out_null_1 || zg.null r0_13) (w64 (t43+1)) < mu33 o0_sets_1 o0_follow_1 out_first_1 out_last_1 out_null_1 t43)))))∧((decide (t43 < (↑(List.length (za.Kids x)):Int)))=false→(res=({ first:=out_first_1,last:=out_last_1,null:=out_null_1 })∧fin=({ sets:=o0_sets_1,follow:=o0_follow_1 })))))))∧((za.Kind x == (4:Int))=false→(((za.Kind x == (5:Int))=true→(∃ r0_16:zg,∃ o_10:zi,zbq x b r0_16 o_10∧(res=r0_16∧fin=o_10)))∧((za.Kind x == (5:Int))=false→(res=({ first:=[],last:=[],null:=true })∧fin=b)))))))))):zak x b res fin:=by
 unfold zak
 have kk:=cfOk [37,68] 75
 refine fD (x:=bodyOf Tryz.f126) kk Tryz.func126 ?_
 refine wkS [1,3,4] [(1,.ptr 3 0),(3,zr b),(4,zm x)] (by kernel_rfl) ?_
 refine sDE kk [] [4] [(10,.ptr 11 0),(11,zm x),(13,.ptr 14 0),(14,.agg [.own 3 ([]),.own 3 ([]),vB false])] [(10,.ptr 11 0),(11,zm x),(13,.ptr 14 0),(14,.agg [oL 3 zd ([]),oL 3 zd ([]),vB false])] obN ?_
 refine qD ?_
 refine sD kk [] [] [(40,vi (za.Kind x))] obN ?_
 refine bD (id:=0) ?_
 refine sD kk [] [] [(43,vB (za.Kind x == (2:Int)))] obN ?_
 refine cD (t:=14) (b:=za.Kind x == (2:Int)) (fun hb0=>?_) (fun hb0=>?_)
 ·have h:=h.1 hb0
  obtain ⟨r0,o,hc1,h⟩:=h
  refine sD kk [.c (zx r0) [zr o]] [1,10,11,40,43] [(3,zr o),(14,zx r0)] (obC hc1 obN) ?_
  refine tD ?_
  obtain ⟨he0,he1⟩:=h
  subst res fin
  exact (endD [] (zx r0) [zr o]).1
 ·have h:=h.2 hb0
  refine sD kk [] [43] [(61,vB (za.Kind x == (3:Int)))] obN ?_
  refine cD (t:=20) (b:=za.Kind x == (3:Int)) (fun hb2=>?_) (fun hb2=>?_)
  ·have h:=h.1 hb2
   refine sDE kk [] [40,61] [(16,.ptr 17 0),(17,.agg [.own 3 ([]),.own 3 ([]),vB true])] [(16,.ptr 17 0),(17,.agg [oL 3 zd ([]),oL 3 zd ([]),vB true])] obN ?_
   refine qD ?_
   refine sDE kk [] [10,11] [(73,vL ze (za.Kids x)),(76,vi ((↑(List.length (List.map ze (za.Kids x))):Int))),(79,vi 0)] [(73,vL ze (za.Kids x)),(76,vi ((↑(List.length (za.Kids x)):Int))),(79,vi 0)] obN ?_
   refine bD (id:=1) ?_
   obtain ⟨Inv12,mu13,h0Inv12,hInv12⟩:=h
   refine loD (fun (q:List zb×List (List Int)×List Int×List Int×Bool×Int)=>(fun (o0_sets:List zb) (o0_follow:List (List Int)) (out_first:List Int) (out_last:List Int) (out_null:Bool) (t26:Int)=>([(1,.ptr 3 0),(3,.agg [oL 25 zf o0_sets,oL 40 zj o0_follow]),(13,.ptr 14 0),(14,.agg [oL 3 zd ([]),oL 3 zd ([]),vB false]),(16,.ptr 17 0),(17,.agg [vL zd out_first,vL zd out_last,vB out_null]),(73,vL ze (za.Kids x)),(76,vi ((↑(List.length (za.Kids x)):Int))),(79,vi t26)]:Sta)) q.1 q.2.1 q.2.2.1 q.2.2.2.1 q.2.2.2.2.1 q.2.2.2.2.2) (fun (q:List zb×List (List Int)×List Int×List Int×Bool×Int)=>Inv12 q.1 q.2.1 q.2.2.1 q.2.2.2.1 q.2.2.2.2.1 q.2.2.2.2.2) (fun (q:List zb×List (List Int)×List Int×List Int×Bool×Int)=>mu13 q.1 q.2.1 q.2.2.1 q.2.2.2.1 q.2.2.2.2.1 q.2.2.2.2.2) ((zi.sets b),(zi.follow b),([]),([]),true,0) [(17,0),(17,1)] h0Inv12 ?_
   rintro ⟨o0_sets,o0_follow,out_first,out_last,out_null,t26⟩ hi
   have h:=hInv12 o0_sets o0_follow out_first out_last out_null t26 hi
   refine sD kk [] [] [(82,vB (decide (t26 < (↑(List.length (za.Kids x)):Int))))] obN ?_
   refine qD ?_
   refine cD (t:=27) (b:=decide (t26 < (↑(List.length (za.Kids x)):Int))) (fun hb14=>?_) (fun hb14=>?_)
   ·have h:=h.1 hb14
    refine Sem.skip' (by kernel_rfl) Wk.refl ?_
    show Sem _ _ _ _ _
    refine wkD [82] ?_
    refine qD ?_
    refine bD (id:=2) ?_
    obtain ⟨h15,h⟩:=h
    obtain ⟨h16,h⟩:=h
    refine sD kk [.e (zD (gd (za.Kids x) t26))] [] [(22,.ptr 23 0),(23,zm (gd (za.Kids x) t26))] (obC h15 (obC (zL ze (za.Kids x) t26 _ (zt _) h15 h16) obN)) ?_
    obtain ⟨r0_5,o_5,hc17,h⟩:=h
    obtain ⟨r0_6,o_6,hc18,h⟩:=h
    refine rD kk [.c (zx r0_5) [zr o_5],.c (zx r0_6) [zr o_6]] [22,23] [(3,zr o_6),(17,zx r0_6)] (obC hc17 (obC hc18 obN)) ?_
    show Sem _ _ _ _ _
    refine rD kk [] [] [(79,vi (w64 (t26+1)))] obN ?_
    exact lD ((zi.sets o_6),(zi.follow o_6),(zg.first r0_6),(zg.last r0_6),(zg.null r0_6),(w64 (t26+1))) [] h
   ·have h:=h.2 hb14
    refine xD (i:=1) ?_
    show Sem _ _ _ _ _
    refine wkD [1,73,76,79,82] ?_
    refine sD kk [] [16,17] [(14,.agg [vL zd out_first,vL zd out_last,vB out_null])] obN ?_
    refine tD ?_
    obtain ⟨he0,he1⟩:=h
    subst res fin
    exact (endD [] (.agg [vL zd out_first,vL zd out_last,vB out_null]) [.agg [oL 25 zf o0_sets,oL 40 zj o0_follow]]).1
  ·have h:=h.2 hb2
   refine sD kk [] [61] [(115,vB (za.Kind x == (4:Int)))] obN ?_
   refine cD (t:=38) (b:=za.Kind x == (4:Int)) (fun hb19=>?_) (fun hb19=>?_)
   ·have h:=h.1 hb19
    refine sDE kk [] [40,115] [(25,.ptr 26 0),(26,.agg [.own 3 ([]),.own 3 ([]),vB false])] [(25,.ptr 26 0),(26,.agg [oL 3 zd ([]),oL 3 zd ([]),vB false])] obN ?_
    refine qD ?_
    refine sDE kk [] [10,11] [(124,vL ze (za.Kids x)),(127,vi ((↑(List.length (List.map ze (za.Kids x))):Int))),(130,vi 0)] [(124,vL ze (za.Kids x)),(127,vi ((↑(List.length (za.Kids x)):Int))),(130,vi 0)] obN ?_
    refine bD (id:=3) ?_
    obtain ⟨Inv32,mu33,h0Inv32,hInv32⟩:=h
    refine loD (fun (q:List zb×List (List Int)×List Int×List Int×Bool×Int)=>(fun (o0_sets_1:List zb) (o0_follow_1:List (List Int)) (out_first_1:List Int) (out_last_1:List Int) (out_null_1:Bool) (t43:Int)=>([(1,.ptr 3 0),(3,.agg [oL 25 zf o0_sets_1,oL 40 zj o0_follow_1]),(13,.ptr 14 0),(14,.agg [oL 3 zd ([]),oL 3 zd ([]),vB false]),(25,.ptr 26 0),(26,.agg [vL zd out_first_1,vL zd out_last_1,vB out_null_1]),(124,vL ze (za.Kids x)),(127,vi ((↑(List.length (za.Kids x)):Int))),(130,vi t43)]:Sta)) q.1 q.2.1 q.2.2.1 q.2.2.2.1 q.2.2.2.2.1 q.2.2.2.2.2) (fun (q:List zb×List (List Int)×List Int×List Int×Bool×Int)=>Inv32 q.1 q.2.1 q.2.2.1 q.2.2.2.1 q.2.2.2.2.1 q.2.2.2.2.2) (fun (q:List zb×List (List Int)×List Int×List Int×Bool×Int)=>mu33 q.1 q.2.1 q.2.2.1 q.2.2.2.1 q.2.2.2.2.1 q.2.2.2.2.2) ((zi.sets b),(zi.follow b),([]),([]),false,0) [(26,0),(26,1)] h0Inv32 ?_
    rintro ⟨o0_sets_1,o0_follow_1,out_first_1,out_last_1,out_null_1,t43⟩ hi
    have h:=hInv32 o0_sets_1 o0_follow_1 out_first_1 out_last_1 out_null_1 t43 hi
    refine sD kk [] [] [(133,vB (decide (t43 < (↑(List.length (za.Kids x)):Int))))] obN ?_
    refine qD ?_
    refine cD (t:=44) (b:=decide (t43 < (↑(List.length (za.Kids x)):Int))) (fun hb34=>?_) (fun hb34=>?_)
    ·have h:=h.1 hb34
     refine Sem.skip' (by kernel_rfl) Wk.refl ?_
     show Sem _ _ _ _ _
     refine wkD [133] ?_
     refine qD ?_
     refine bD (id:=4) ?_
     obtain ⟨h35,h⟩:=h
     obtain ⟨h36,h⟩:=h
     refine sD kk [.e (zD (gd (za.Kids x) t43))] [] [(31,.ptr 32 0),(32,zm (gd (za.Kids x) t43))] (obC h35 (obC (zL ze (za.Kids x) t43 _ (zt _) h35 h36) obN)) ?_
     obtain ⟨r0_13,o_9,hc37,h⟩:=h
     refine sD kk [.c (zx r0_13) [zr o_9]] [31,32] [(3,zr o_9),(34,.ptr 35 0),(35,zx r0_13)] (obC hc37 obN) ?_
     obtain ⟨r0_14,hc38,h⟩:=h
     obtain ⟨r0_15,hc39,h⟩:=h
     refine rM [34,35] [(26,.agg [vL zd r0_14,vL zd r0_15,vB (out_null_1 || zg.null r0_13)])] ?_ (fun hk0=>?_)
     ·show Sem _ _ _ _ _
      refine rD kk [] [] [(130,vi (w64 (t43+1)))] obN ?_
      exact lD ((zi.sets o_9),(zi.follow o_9),r0_14,r0_15,(out_null_1 || zg.null r0_13),(w64 (t43+1))) [] h
     ·rcases Bool.eq_false_or_eq_true (out_null_1) with hb40 | hb40
      ·refine rD kk [.c (vL zd r0_14) [],.c (vL zd r0_15) [],bF,bF,bT] [34,35] [(26,.agg [vL zd r0_14,vL zd r0_15,vB true])] (obC hc38 (obC hc39 (obC (gff hb40) (obC (gff hb40) (obC hb40 obN))))) ?_
       exact kcast (by try rw [hb40];kernel_rfl) hk0
      ·refine rD kk [.c (vL zd r0_14) [],.c (vL zd r0_15) [],bT,bT,bF] [34,35] [(26,.agg [vL zd r0_14,vL zd r0_15,vB (zg.null r0_13)])] (obC hc38 (obC hc39 (obC (gft hb40) (obC (gft hb40) (obC hb40 obN))))) ?_
       exact kcast (by try rw [hb40];kernel_rfl) hk0
    ·have h:=h.2 hb34
     refine xD (i:=3) ?_
     show Sem _ _ _ _ _
     refine wkD [1,124,127,130,133] ?_
     refine sD kk [] [25,26] [(14,.agg [vL zd out_first_1,vL zd out_last_1,vB out_null_1])] obN ?_
     refine tD ?_
     obtain ⟨he0,he1⟩:=h
     subst res fin
     exact (endD [] (.agg [vL zd out_first_1,vL zd out_last_1,vB out_null_1]) [.agg [oL 25 zf o0_sets_1,oL 40 zj o0_follow_1]]).1
   ·have h:=h.2 hb19
    refine sD kk [] [40,115] [(208,vB (za.Kind x == (5:Int)))] obN ?_
    refine cD (t:=69) (b:=za.Kind x == (5:Int)) (fun hb41=>?_) (fun hb41=>?_)
    ·have h:=h.1 hb41
     obtain ⟨r0_16,o_10,hc42,h⟩:=h
     refine sD kk [.c (zx r0_16) [zr o_10]] [1,10,11,208] [(3,zr o_10),(14,zx r0_16)] (obC hc42 obN) ?_
     refine tD ?_
     obtain ⟨he0,he1⟩:=h
     subst res fin
     exact (endD [] (zx r0_16) [zr o_10]).1
    ·have h:=h.2 hb41
     refine Sem.skip' (by kernel_rfl) Wk.refl ?_
     show Sem _ _ _ _ _
     refine wkD [1,10,11,208] ?_
     refine sDE kk [] [] [(14,.agg [.own 3 ([]),.own 3 ([]),vB true])] [(14,.agg [oL 3 zd ([]),oL 3 zd ([]),vB true])] obN ?_
     refine tD ?_
     obtain ⟨he0,he1⟩:=h
     subst res fin
     exact (endD [(14,0),(14,1)] (.agg [vL zd ([]),vL zd ([]),vB true]) [zr b]).1
set_option maxHeartbeats 1000000 in
theorem W_place_Of (x:za) (res:zc) (res_1:Int)
 (h:(∃ r0:Bool,zcq x r0∧(((!r0)=true→(res=({ Sets:=[],First:=[],Last:=[],Follow:=[],Null:=false })∧res_1=1))∧((!r0)=false→(∃ r0_1:zg,∃ o:zi,zak x ({ sets:=[],follow:=[] }) r0_1 o∧(res=({ Sets:=zi.sets o,First:=zg.first r0_1,Last:=zg.last r0_1,Follow:=zi.follow o,Null:=zg.null r0_1 })∧res_1=0)))))):zeh x res res_1:=by
 unfold zeh
 have kk:=cfOk [] 30
 refine fD (x:=bodyOf Tryz.f102) kk Tryz.func102 ?_
 refine wkS [1] [(1,zm x)] (by kernel_rfl) ?_
 refine sDE kk [] [1] [(4,.ptr 5 0),(5,zm x),(7,.ptr 8 0),(8,.agg [.own 25 ([]),.own 3 ([]),.own 3 ([]),.own 40 ([]),vB false])] [(4,.ptr 5 0),(5,zm x),(7,.ptr 8 0),(8,.agg [oL 25 zf ([]),oL 3 zd ([]),oL 3 zd ([]),oL 40 zj ([]),vB false])] obN ?_
 refine qD ?_
 obtain ⟨r0,hc0,h⟩:=h
 refine sD kk [.c (vB r0) []] [] [(25,vB (!r0))] (obC hc0 obN) ?_
 refine cD (t:=8) (b:=!r0) (fun hb1=>?_) (fun hb1=>?_)
 ·have h:=h.1 hb1
  refine sDE kk [] [4,5,25] [(8,.agg [.own 25 ([]),.own 3 ([]),.own 3 ([]),.own 40 ([]),vB false]),(10,vi 1)] [(8,.agg [oL 25 zf ([]),oL 3 zd ([]),oL 3 zd ([]),oL 40 zj ([]),vB false]),(10,vi 1)] obN ?_
  refine tD ?_
  obtain ⟨he0,he1⟩:=h
  subst res res_1
  exact (endD [] (.tup [.agg [.f (FV.sl (List.take (List.length (List.map zf [])) (List.drop (0:Nat) (List.map zf [])))),.f (FV.sl (List.take (List.length (List.map zd [])) (List.drop (0:Nat) (List.map zd [])))),.f (FV.sl (List.take (List.length (List.map zd [])) (List.drop (0:Nat) (List.map zd [])))),.f (FV.sl (List.take (List.length (List.map zj [])) (List.drop (0:Nat) (List.map zj [])))),vB false],vi 1]) []).1
 ·have h:=h.2 hb1
  refine Sem.skip' (by kernel_rfl) Wk.refl ?_
  show Sem _ _ _ _ _
  refine wkD [25] ?_
  refine sDE kk [] [] [(13,.ptr 35 0),(35,.agg [.own 25 ([]),.own 40 ([])])] [(13,.ptr 35 0),(35,.agg [oL 25 zf ([]),oL 40 zj ([])])] obN ?_
  obtain ⟨r0_1,o,hc2,h⟩:=h
  refine sD kk [.c (zx r0_1) [zr o]] [4,5] [(16,.ptr 17 0),(17,zx r0_1),(35,zr o)] (obC hc2 obN) ?_
  refine sDE kk [] [13,16,17,35] [(8,.agg [.f (FV.sl (List.take (List.length (List.map zf (zi.sets o))) (List.drop (0:Nat) (List.map zf (zi.sets o))))),vL zd (zg.first r0_1),vL zd (zg.last r0_1),.f (FV.sl (List.take (List.length (List.map zj (zi.follow o))) (List.drop (0:Nat) (List.map zj (zi.follow o))))),vB (zg.null r0_1)]),(10,vi 0)] [(8,.agg [vL zf (zi.sets o),vL zd (zg.first r0_1),vL zd (zg.last r0_1),vL zj (zi.follow o),vB (zg.null r0_1)]),(10,vi 0)] obN ?_
  refine tD ?_
  obtain ⟨he0,he1⟩:=h
  subst res res_1
  exact (endD [] (.tup [.agg [vL zf (zi.sets o),vL zd (zg.first r0_1),vL zd (zg.last r0_1),vL zj (zi.follow o),vB (zg.null r0_1)],vi 0]) []).1
set_option maxHeartbeats 1000000 in
theorem zcd (s0:(List Int)) (v:Int) (res:Int)
 (h:(∃ (Inv7:Int→Prop) (mu8:Int→Nat),Inv7 0∧(∀ (t8:Int),Inv7 t8→(((decide (t8 < (↑(List.length s0):Int)))=true→((0:Int)≤t8)∧t8 < ↑(List.length s0)∧(((v == gd s0 t8)=true→(res=t8))∧((v == gd s0 t8)=false→(Inv7 (w64 (t8+1))∧mu8 (w64 (t8+1)) < mu8 t8))))∧((decide (t8 < (↑(List.length s0):Int)))=false→(res=(-1))))))):za1 s0 v res:=by
 unfold za1
 have kk:=cfOk [17] 19
 refine fD (x:=bodyOf Tryz.f127) kk Tryz.func127 ?_
 refine wkS [1,4] [(1,vL zd s0),(4,vi v)] (by kernel_rfl) ?_
 refine sD kk [] [] [] obN ?_
 refine qD ?_
 refine sDE kk [] [] [(22,vi ((↑(List.length (List.map zd s0)):Int))),(25,vi 0)] [(22,vi ((↑(List.length s0):Int))),(25,vi 0)] obN ?_
 refine bD (id:=0) ?_
 obtain ⟨Inv7,mu8,h0Inv7,hInv7⟩:=h
 refine loD (fun (q:Int)=>(fun (t8:Int)=>([(1,vL zd s0),(4,vi v),(22,vi ((↑(List.length s0):Int))),(25,vi t8)]:Sta)) q) (fun (q:Int)=>Inv7 q) (fun (q:Int)=>mu8 q) 0 [] h0Inv7 ?_
 rintro t8 hi
 have h:=hInv7 t8 hi
 refine sD kk [] [] [(28,vB (decide (t8 < (↑(List.length s0):Int))))] obN ?_
 refine qD ?_
 refine cD (t:=9) (b:=decide (t8 < (↑(List.length s0):Int))) (fun hb9=>?_) (fun hb9=>?_)
 ·have h:=h.1 hb9
  refine Sem.skip' (by kernel_rfl) Wk.refl ?_
  show Sem _ _ _ _ _
  refine wkD [28] ?_
  refine qD ?_
  refine bD (id:=1) ?_
  refine sD kk [] [] [(16,vi t8)] obN ?_
  obtain ⟨h10,h⟩:=h
  obtain ⟨h11,h⟩:=h
  refine sD kk [.e (fi (gd s0 t8))] [] [(49,vB (v == gd s0 t8))] (obC h10 (obC (zL zd s0 t8 _ rfl h10 h11) obN)) ?_
  refine cD (t:=16) (b:=v == gd s0 t8) (fun hb12=>?_) (fun hb12=>?_)
  ·have h:=h.1 hb12
   refine sD kk [] [1,4,16,22,25,49] [(13,vi t8)] obN ?_
   refine tD ?_
   obtain he0:=h
   subst res
   exact (endD [] (vi t8) []).1
  ·have h:=h.2 hb12
   refine Sem.skip' (by kernel_rfl) Wk.refl ?_
   show Sem _ _ _ _ _
   refine wkD [16,49] ?_
   refine rD kk [] [] [(25,vi (w64 (t8+1)))] obN ?_
   exact lD (w64 (t8+1)) [] h
 ·have h:=h.2 hb9
  refine xD (i:=0) ?_
  show Sem _ _ _ _ _
  refine wkD [1,4,22,25,28] ?_
  refine sD kk [] [] [(13,vi (-1))] obN ?_
  refine tD ?_
  obtain he0:=h
  subst res
  exact (endD [] (vi (-1)) []).1
set_option maxHeartbeats 1000000 in
theorem zcQ (s0:(List Int)) (v:Int) (res:Bool)
 (h:(∃ r0:Int,za1 s0 v r0∧(res=(decide (r0≥(0:Int)))))):zaG s0 v res:=by
 unfold zaG
 have kk:=cfOk [] 9
 refine fD (x:=bodyOf Tryz.f104) kk Tryz.func104 ?_
 refine wkS [1,4] [(1,vL zd s0),(4,vi v)] (by kernel_rfl) ?_
 refine sD kk [] [] [] obN ?_
 obtain ⟨r0,hc0,h⟩:=h
 refine sD kk [.c (vi r0) []] [1,4] [(13,vB (decide (r0≥(0:Int))))] (obC hc0 obN) ?_
 refine tD ?_
 obtain he0:=h
 subst res
 exact (endD [] (vB (decide (r0≥(0:Int)))) []).1
set_option maxHeartbeats 1000000 in
theorem zgI (k:Int) (v:zc) (v_1:ByteArray) (v_2:Int) (res:Bool) (fin:zc) (fin_1:ByteArray) (fin_2:Int)
 (h:((0:Int)≤k)∧k < ↑(List.length (zc.Sets v))∧((0:Int)≤v_2)∧v_2 < ↑(ByteArray.size v_1)∧(∃ r0:Bool,zd8 (gd (zc.Sets v) k) (w64 (↑(UInt8.toNat (byteAt v_1 v_2)):Int)) r0∧(res=r0∧fin=v∧fin_1=v_1∧fin_2=v_2))):zbW k v v_1 v_2 res fin fin_1 fin_2:=by
 unfold zbW
 have kk:=cfOk [] 16
 refine fD (x:=bodyOf Tryz.f103) kk Tryz.func103 ?_
 refine wkS [1,3,4,6,7,9,10] [(1,vi k),(3,zn v),(4,.ptr 3 0),(6,vS v_1),(7,.ptr 6 0),(9,vi v_2),(10,.ptr 9 0)] (by kernel_rfl) ?_
 refine sD kk [] [] [] obN ?_
 obtain ⟨h0,h⟩:=h
 obtain ⟨h1,h⟩:=h
 obtain ⟨h2,h⟩:=h
 obtain ⟨h3,h⟩:=h
 obtain ⟨r0,hc4,h⟩:=h
 refine sD kk [.e (zcY (gd (zc.Sets v) k)),.y (byteAt v_1 v_2),.c (vB r0) []] [1,4,7,10] [(16,vB r0)] (obC h0 (obC (zL zf (zc.Sets v) k _ (zaS _) h0 h1) (obC h2 (obC (zhV v_1 v_2 h2 h3) (obC hc4 obN))))) ?_
 refine tD ?_
 obtain ⟨he0,he1,he2,he3⟩:=h
 subst res fin fin_1 fin_2
 exact (endD [] (vB r0) [zn v,vS v_1,vi v_2]).1
set_option maxHeartbeats 1000000 in
theorem W_split_ahead (x:za) (s0:ByteArray) (res:(List Bool))
 (h:(∃ r0:zc,∃ r0_1:Int,zeh x r0 r0_1∧(∃ (Inv122:ByteArray→List zb→List Int→List Int→List (List Int)→Bool→List Bool→List Int→Int→Prop) (mu123:ByteArray→List zb→List Int→List Int→List (List Int)→Bool→List Bool→List Int→Int→Nat),Inv122 s0 (zc.Sets r0) (zc.First r0) (zc.Last r0) (zc.Follow r0) (zc.Null r0) ([zc.Null r0]) (zc.First r0) 0∧(∀ (s0_5:ByteArray) (p_Sets_4:List zb) (p_First_4:List Int) (p_Last_4:List Int) (p_Follow_4:List (List Int)) (p_Null_4:Bool) (out:List Bool) (next:List Int) (t27:Int),Inv122 s0_5 p_Sets_4 p_First_4 p_Last_4 p_Follow_4 p_Null_4 out next t27→(((decide (t27 < (↑(ByteArray.size s0):Int)))=true→(∃ (Inv161:ByteArray→List zb→List Int→List Int→List (List Int)→Bool→Int→List Int→Bool→Int→Prop) (mu162:ByteArray→List zb→List Int→List Int→List (List Int)→Bool→Int→List Int→Bool→Int→Nat),Inv161 s0_5 p_Sets_4 p_First_4 p_Last_4 p_Follow_4 p_Null_4 t27 ([]) false 0∧(∀ (s0_11:ByteArray) (p_Sets_10:List zb) (p_First_10:List Int) (p_Last_10:List Int) (p_Follow_10:List (List Int)) (p_Null_10:Bool) (i_9:Int) (then0_9:List Int) (is_9:Bool) (t33_2:Int),Inv161 s0_11 p_Sets_10 p_First_10 p_Last_10 p_Follow_10 p_Null_10 i_9 then0_9 is_9 t33_2→(((decide (t33_2 < (↑(List.length next):Int)))=true→(∃ J173:ByteArray→List zb→List Int→List Int→List (List Int)→Bool→Int→List Int→Bool→Prop,(∀ (s0_13:ByteArray) (p_Sets_12:List zb) (p_First_12:List Int) (p_Last_12:List Int) (p_Follow_12:List (List Int)) (p_Null_12:Bool) (i_11:Int) (then0_11:List Int) (is_11:Bool),J173 s0_13 p_Sets_12 p_First_12 p_Last_12 p_Follow_12 p_Null_12 i_11 then0_11 is_11→(Inv161 s0_13 p_Sets_12 p_First_12 p_Last_12 p_Follow_12 p_Null_12 i_11 then0_11 is_11 (w64 (t33_2+1))∧mu162 s0_13 p_Sets_12 p_First_12 p_Last_12 p_Follow_12 p_Null_12 i_11 then0_11 is_11 (w64 (t33_2+1)) < mu162 s0_11 p_Sets_10 p_First_10 p_Last_10 p_Follow_10 p_Null_10 i_9 then0_9 is_9 t33_2))∧((0:Int)≤t33_2)∧t33_2 < ↑(List.length next)∧(∃ r0_38:Bool,∃ o_51:zc,∃ o_52:ByteArray,∃ o_53:Int,zbW (gd next t33_2) ({ Sets:=p_Sets_10,First:=p_First_10,Last:=p_Last_10,Follow:=p_Follow_10,Null:=p_Null_10 }) s0_11 i_9 r0_38 o_51 o_52 o_53∧(((r0_38)=true→((0:Int)≤gd next t33_2)∧gd next t33_2 < ↑(List.length (zc.Follow o_51))∧((List.length then0_9+List.length (gd (zc.Follow o_51) (gd next t33_2))) * (8:Nat)≤(2:Nat) ^ (47:Nat))∧(((is_9)=true→J173 o_52 (zc.Sets o_51) (zc.First o_51) (zc.Last o_51) (zc.Follow o_51) (zc.Null o_51) o_53 (then0_9++gd (zc.Follow o_51) (gd next t33_2)) true)∧((is_9)=false→(∃ r0_39:Bool,zaG (zc.Last o_51) (gd next t33_2) r0_39∧J173 o_52 (zc.Sets o_51) (zc.First o_51) (zc.Last o_51) (zc.Follow o_51) (zc.Null o_51) o_53 (then0_9++gd (zc.Follow o_51) (gd next t33_2)) r0_39))))∧((r0_38)=false→J173 o_52 (zc.Sets o_51) (zc.First o_51) (zc.Last o_51) (zc.Follow o_51) (zc.Null o_51) o_53 then0_9 is_9)))))∧((decide (t33_2 < (↑(List.length next):Int)))=false→(∃ r0_40:List Int,zag then0_9 ([]) r0_40∧((List.length out+(1:Nat)) * (1:Nat)≤(2:Nat) ^ (47:Nat))∧(Inv122 s0_11 p_Sets_10 p_First_10 p_Last_10 p_Follow_10 p_Null_10 (out++[is_9]) r0_40 (w64 (t27+1))∧mu123 s0_11 p_Sets_10 p_First_10 p_Last_10 p_Follow_10 p_Null_10 (out++[is_9]) r0_40 (w64 (t27+1)) < mu123 s0_5 p_Sets_4 p_First_4 p_Last_4 p_Follow_4 p_Null_4 out next t27)))))))∧((decide (t27 < (↑(ByteArray.size s0):Int)))=false→(res=out))))))):zcf x s0 res:=by
 unfold zcf
 have kk:=cfOk [62] 63
 refine fD (x:=bodyOf Tryz.f66) kk Tryz.func66 ?_
 refine wkS [1,4] [(1,zm x),(4,vS s0)] (by kernel_rfl) ?_
 refine sD kk [] [1,4] [(7,.ptr 8 0),(8,zm x),(10,.ptr 11 0),(11,vS s0)] obN ?_
 obtain ⟨r0,r0_1,hc0,h⟩:=h
 refine sD kk [.c (.tup [zn r0,vi r0_1]) []] [7,8] [(16,.ptr 17 0),(17,zn r0)] (obC hc0 obN) ?_
 refine sDE kk [] [] [(22,.own 4 ([FV.pv (Value.bool (zc.Null r0))]))] [(22,oL 4 zk ([zc.Null r0]))] obN ?_
 refine sD kk [] [] [(25,vL zd (zc.First r0))] obN ?_
 refine qD ?_
 refine sD kk [] [] [(79,vi ((↑(ByteArray.size s0):Int))),(82,vi 0)] obN ?_
 refine bD (id:=0) ?_
 obtain ⟨Inv122,mu123,h0Inv122,hInv122⟩:=h
 refine loD (fun (q:ByteArray×List zb×List Int×List Int×List (List Int)×Bool×List Bool×List Int×Int)=>(fun (s0_5:ByteArray) (p_Sets_4:List zb) (p_First_4:List Int) (p_Last_4:List Int) (p_Follow_4:List (List Int)) (p_Null_4:Bool) (out:List Bool) (next:List Int) (t27:Int)=>([(10,.ptr 11 0),(11,vS s0_5),(16,.ptr 17 0),(17,.agg [vL zf p_Sets_4,vL zd p_First_4,vL zd p_Last_4,vL zj p_Follow_4,vB p_Null_4]),(22,oL 4 zk out),(25,vL zd next),(79,vi ((↑(ByteArray.size s0):Int))),(82,vi t27)]:Sta)) q.1 q.2.1 q.2.2.1 q.2.2.2.1 q.2.2.2.2.1 q.2.2.2.2.2.1 q.2.2.2.2.2.2.1 q.2.2.2.2.2.2.2.1 q.2.2.2.2.2.2.2.2) (fun (q:ByteArray×List zb×List Int×List Int×List (List Int)×Bool×List Bool×List Int×Int)=>Inv122 q.1 q.2.1 q.2.2.1 q.2.2.2.1 q.2.2.2.2.1 q.2.2.2.2.2.1 q.2.2.2.2.2.2.1 q.2.2.2.2.2.2.2.1 q.2.2.2.2.2.2.2.2) (fun (q:ByteArray×List zb×List Int×List Int×List (List Int)×Bool×List Bool×List Int×Int)=>mu123 q.1 q.2.1 q.2.2.1 q.2.2.2.1 q.2.2.2.2.1 q.2.2.2.2.2.1 q.2.2.2.2.2.2.1 q.2.2.2.2.2.2.2.1 q.2.2.2.2.2.2.2.2) (s0,(zc.Sets r0),(zc.First r0),(zc.Last r0),(zc.Follow r0),(zc.Null r0),([zc.Null r0]),(zc.First r0),0) [] h0Inv122 ?_
 rintro ⟨s0_5,p_Sets_4,p_First_4,p_Last_4,p_Follow_4,p_Null_4,out,next,t27⟩ hi
 have h:=hInv122 s0_5 p_Sets_4 p_First_4 p_Last_4 p_Follow_4 p_Null_4 out next t27 hi
 refine sD kk [] [] [(85,vB (decide (t27 < (↑(ByteArray.size s0):Int))))] obN ?_
 refine qD ?_
 refine cD (t:=28) (b:=decide (t27 < (↑(ByteArray.size s0):Int))) (fun hb124=>?_) (fun hb124=>?_)
 ·have h:=h.1 hb124
  refine Sem.skip' (by kernel_rfl) Wk.refl ?_
  show Sem _ _ _ _ _
  refine wkD [85] ?_
  refine qD ?_
  refine bD (id:=1) ?_
  refine sD kk [] [] [(28,.ptr 29 0),(29,vi t27)] obN ?_
  refine sD kk [] [28] [(31,.clo 103 [.ptr 17 0,.ptr 11 0,.ptr 29 0])] obN ?_
  refine sDE kk [] [] [(34,.own 3 ([]))] [(34,oL 3 zd ([]))] obN ?_
  refine sD kk [] [] [(37,vB false)] obN ?_
  refine qD ?_
  refine sDE kk [] [25] [(94,vL zd next),(97,vi ((↑(List.length (List.map zd next)):Int))),(100,vi 0)] [(94,vL zd next),(97,vi ((↑(List.length next):Int))),(100,vi 0)] obN ?_
  refine bD (id:=2) ?_
  obtain ⟨Inv161,mu162,h0Inv161,hInv161⟩:=h
  refine loD (fun (q:ByteArray×List zb×List Int×List Int×List (List Int)×Bool×Int×List Int×Bool×Int)=>(fun (s0_11:ByteArray) (p_Sets_10:List zb) (p_First_10:List Int) (p_Last_10:List Int) (p_Follow_10:List (List Int)) (p_Null_10:Bool) (i_9:Int) (then0_9:List Int) (is_9:Bool) (t33_2:Int)=>([(10,.ptr 11 0),(11,vS s0_11),(16,.ptr 17 0),(17,.agg [vL zf p_Sets_10,vL zd p_First_10,vL zd p_Last_10,vL zj p_Follow_10,vB p_Null_10]),(22,oL 4 zk out),(29,vi i_9),(31,.clo 103 [.ptr 17 0,.ptr 11 0,.ptr 29 0]),(34,oL 3 zd then0_9),(37,vB is_9),(79,vi ((↑(ByteArray.size s0):Int))),(82,vi t27),(94,vL zd next),(97,vi ((↑(List.length next):Int))),(100,vi t33_2)]:Sta)) q.1 q.2.1 q.2.2.1 q.2.2.2.1 q.2.2.2.2.1 q.2.2.2.2.2.1 q.2.2.2.2.2.2.1 q.2.2.2.2.2.2.2.1 q.2.2.2.2.2.2.2.2.1 q.2.2.2.2.2.2.2.2.2) (fun (q:ByteArray×List zb×List Int×List Int×List (List Int)×Bool×Int×List Int×Bool×Int)=>Inv161 q.1 q.2.1 q.2.2.1 q.2.2.2.1 q.2.2.2.2.1 q.2.2.2.2.2.1 q.2.2.2.2.2.2.1 q.2.2.2.2.2.2.2.1 q.2.2.2.2.2.2.2.2.1 q.2.2.2.2.2.2.2.2.2) (fun (q:ByteArray×List zb×List Int×List Int×List (List Int)×Bool×Int×List Int×Bool×Int)=>mu162 q.1 q.2.1 q.2.2.1 q.2.2.2.1 q.2.2.2.2.1 q.2.2.2.2.2.1 q.2.2.2.2.2.2.1 q.2.2.2.2.2.2.2.1 q.2.2.2.2.2.2.2.2.1 q.2.2.2.2.2.2.2.2.2) (s0_5,p_Sets_4,p_First_4,p_Last_4,p_Follow_4,p_Null_4,t27,([]),false,0) [] h0Inv161 ?_
  rintro ⟨s0_11,p_Sets_10,p_First_10,p_Last_10,p_Follow_10,p_Null_10,i_9,then0_9,is_9,t33_2⟩ hi
  have h:=hInv161 s0_11 p_Sets_10 p_First_10 p_Last_10 p_Follow_10 p_Null_10 i_9 then0_9 is_9 t33_2 hi
  refine sD kk [] [] [(103,vB (decide (t33_2 < (↑(List.length next):Int))))] obN ?_
  refine qD ?_
  refine cD (t:=34) (b:=decide (t33_2 < (↑(List.length next):Int))) (fun hb163=>?_) (fun hb163=>?_)
  ·have h:=h.1 hb163
   refine Sem.skip' (by kernel_rfl) Wk.refl ?_
   show Sem _ _ _ _ _
   refine wkD [103] ?_
   obtain ⟨J173,hJ173,h⟩:=h
   refine sjD (fun (q:ByteArray×List zb×List Int×List Int×List (List Int)×Bool×Int×List Int×Bool)=>J173 q.1 q.2.1 q.2.2.1 q.2.2.2.1 q.2.2.2.2.1 q.2.2.2.2.2.1 q.2.2.2.2.2.2.1 q.2.2.2.2.2.2.2.1 q.2.2.2.2.2.2.2.2) (fun (q:ByteArray×List zb×List Int×List Int×List (List Int)×Bool×Int×List Int×Bool)=>(fun (s0_13:ByteArray) (p_Sets_12:List zb) (p_First_12:List Int) (p_Last_12:List Int) (p_Follow_12:List (List Int)) (p_Null_12:Bool) (i_11:Int) (then0_11:List Int) (is_11:Bool)=>([(10,.ptr 11 0),(11,vS s0_13),(16,.ptr 17 0),(17,.agg [vL zf p_Sets_12,vL zd p_First_12,vL zd p_Last_12,vL zj p_Follow_12,vB p_Null_12]),(22,oL 4 zk out),(29,vi i_11),(31,.clo 103 [.ptr 17 0,.ptr 11 0,.ptr 29 0]),(34,oL 3 zd then0_11),(37,vB is_11),(79,vi ((↑(ByteArray.size s0):Int))),(82,vi t27),(94,vL zd next),(97,vi ((↑(List.length next):Int))),(100,vi t33_2)]:Sta)) q.1 q.2.1 q.2.2.1 q.2.2.2.1 q.2.2.2.2.1 q.2.2.2.2.2.1 q.2.2.2.2.2.2.1 q.2.2.2.2.2.2.2.1 q.2.2.2.2.2.2.2.2) ?_ ?_
   ·rintro ⟨s0_13,p_Sets_12,p_First_12,p_Last_12,p_Follow_12,p_Null_12,i_11,then0_11,is_11⟩ hj
    have h:=hJ173 s0_13 p_Sets_12 p_First_12 p_Last_12 p_Follow_12 p_Null_12 i_11 then0_11 is_11 hj
    refine rD kk [] [] [(100,vi (w64 (t33_2+1)))] obN ?_
    exact lD (s0_13,p_Sets_12,p_First_12,p_Last_12,p_Follow_12,p_Null_12,i_11,then0_11,is_11,(w64 (t33_2+1))) [] h
   ·refine bD (id:=3) ?_
    obtain ⟨h174,h⟩:=h
    obtain ⟨h175,h⟩:=h
    refine sD kk [.e (fi (gd next t33_2))] [] [(43,vi (gd next t33_2))] (obC h174 (obC (zL zd next t33_2 _ rfl h174 h175) obN)) ?_
    obtain ⟨r0_38,o_51,o_52,o_53,hc176,h⟩:=h
    refine sD kk [.c (vB r0_38) [zn o_51,vS o_52,vi o_53]] [] [(11,vS o_52),(17,zn o_51),(29,vi o_53),(118,vB r0_38)] (obC hc176 obN) ?_
    refine cD (t:=39) (b:=r0_38) (fun hb177=>?_) (fun hb177=>?_)
    ·have h:=h.1 hb177
     obtain ⟨h178,h⟩:=h
     obtain ⟨h179,h⟩:=h
     obtain ⟨h180,h⟩:=h
     refine sDE kk [.e (fL zd (gd (zc.Follow o_51) (gd next t33_2)))] [118] [(34,.own 3 (List.map zd then0_9++List.map zd (gd (zc.Follow o_51) (gd next t33_2))))] [(34,oL 3 zd (then0_9++gd (zc.Follow o_51) (gd next t33_2)))] (obC h178 (obC (zL zj (zc.Follow o_51) (gd next t33_2) _ rfl h178 h179) (obC (show (0:Nat)=(0:Nat)∧List.length (List.map zd then0_9)=List.length (List.map zd then0_9) from ⟨rfl,rfl⟩) (obC (show (List.length (List.map zd then0_9)+List.length (List.map zd (gd (zc.Follow o_51) (gd next t33_2)))) * (8:Nat)≤(2:Nat) ^ (47:Nat) from by simpa only [nm] using h180) (obC (show List.all (List.map zd (gd (zc.Follow o_51) (gd next t33_2))) (FV.fits (1:Nat))=true from by first | exact zbo _ | rfl | simp [isByteF,FV.fits,FV.size,FV.cells,FV.one,zd]) obN))))) ?_
     rcases Bool.eq_false_or_eq_true (is_9) with hb181 | hb181
     ·have h:=h.1 hb181
      refine rD kk [bF,bF,bF,bF,bT] [43] [(37,vB true)] (obC (gff hb181) (obC (gff hb181) (obC (gff hb181) (obC (gff hb181) (obC hb181 obN))))) ?_
      exact jD (o_52,(zc.Sets o_51),(zc.First o_51),(zc.Last o_51),(zc.Follow o_51),(zc.Null o_51),o_53,(then0_9++gd (zc.Follow o_51) (gd next t33_2)),true) [] h
     ·have h:=h.2 hb181
      obtain ⟨r0_39,hc182,h⟩:=h
      refine rD kk [bT,bT,bT,bT,.c (vB r0_39) [],bF] [43] [(37,vB r0_39)] (obC (gft hb181) (obC (gft hb181) (obC (gft hb181) (obC (gft hb181) (obC hc182 (obC hb181 obN)))))) ?_
      exact jD (o_52,(zc.Sets o_51),(zc.First o_51),(zc.Last o_51),(zc.Follow o_51),(zc.Null o_51),o_53,(then0_9++gd (zc.Follow o_51) (gd next t33_2)),r0_39) [] h
    ·have h:=h.2 hb177
     refine Sem.skip' (by kernel_rfl) Wk.refl ?_
     exact jD (o_52,(zc.Sets o_51),(zc.First o_51),(zc.Last o_51),(zc.Follow o_51),(zc.Null o_51),o_53,then0_9,is_9) [] h
  ·have h:=h.2 hb163
   refine xD (i:=2) ?_
   show Sem _ _ _ _ _
   refine wkD [29,31,94,97,100,103] ?_
   obtain ⟨r0_40,hc183,h⟩:=h
   refine sD kk [.c (vL zd r0_40) []] [34] [(25,vL zd r0_40)] (obC (Eq.mp (by unfold zag;(try simp only [List.drop_zero,List.take_length]);first | done | simp only [nm,enq]:zag then0_9 ([]) r0_40=CallE Tryz.prog 82 [.f (FV.sl (List.take (List.length (List.map zd then0_9)) (List.drop (0:Nat) (List.map zd then0_9)))),.f (FV.sl [])] [] (vL zd r0_40) []) hc183) obN) ?_
   obtain ⟨h184,h⟩:=h
   refine rDE kk [] [37] [(22,.own 4 (List.map zk out++List.take (List.length [FV.pv (Value.bool is_9)]) (List.drop (0:Nat) [FV.pv (Value.bool is_9)])))] [(22,oL 4 zk (out++[is_9]))] (obC (show (0:Nat)=(0:Nat)∧List.length (List.map zk out)=List.length (List.map zk out) from ⟨rfl,rfl⟩) (obC (show (List.length (List.map zk out)+List.length (List.take (1:Nat) (List.drop (0:Nat) [FV.pv (Value.bool is_9)]))) * (1:Nat)≤(2:Nat) ^ (47:Nat) from by simpa only [nm] using h184) (obC (show List.all (List.take (1:Nat) (List.drop (0:Nat) [FV.pv (Value.bool is_9)])) (FV.fits (1:Nat))=true from by first | exact zcL _ | rfl | simp [isByteF,FV.fits,FV.size,FV.cells,FV.one,]) obN))) ?_
   show Sem _ _ _ _ _
   refine rD kk [] [] [(82,vi (w64 (t27+1)))] obN ?_
   exact lD (s0_11,p_Sets_10,p_First_10,p_Last_10,p_Follow_10,p_Null_10,(out++[is_9]),r0_40,(w64 (t27+1))) [] h
 ·have h:=h.2 hb124
  refine xD (i:=0) ?_
  show Sem _ _ _ _ _
  refine wkD [10,11,16,17,25,79,82,85] ?_
  refine sD kk [] [22] [(13,oL 4 zk out)] obN ?_
  refine tD ?_
  obtain he0:=h
  subst res
  exact (endD [] (oL 4 zk out) []).1
set_option maxHeartbeats 1000000 in
theorem W_split_Ahead (x:za) (s0:ByteArray) (res:(List Bool))
 (h:(∃ r0:Bool,zcq x r0∧(((!r0 || decide ((↑(ByteArray.size s0):Int) > (10000:Int)))=true→(res=([])))∧((!r0 || decide ((↑(ByteArray.size s0):Int) > (10000:Int)))=false→(∃ r0_1:List Bool,zcf x s0 r0_1∧(res=r0_1)))))):zbM x s0 res:=by
 unfold zbM
 have kk:=cfOk [] 16
 refine fD (x:=bodyOf Tryz.f30) kk Tryz.func30 ?_
 refine wkS [1,4] [(1,zm x),(4,vS s0)] (by kernel_rfl) ?_
 refine sD kk [] [1] [(7,.ptr 8 0),(8,zm x)] obN ?_
 refine qD ?_
 obtain ⟨r0,hc0,h⟩:=h
 refine sM [] [(37,vB (!r0 || decide ((↑(ByteArray.size s0):Int) > (10000:Int))))] ?_ (fun hk0=>?_)
 ·refine cD (t:=12) (b:=!r0 || decide ((↑(ByteArray.size s0):Int) > (10000:Int))) (fun hb2=>?_) (fun hb2=>?_)
  ·have h:=h.1 hb2
   refine sDE kk [] [4,7,8,37] [(13,.own 4 ([]))] [(13,oL 4 zk ([]))] obN ?_
   refine tD ?_
   obtain he0:=h
   subst res
   exact (endD [] (oL 4 zk ([])) []).1
  ·have h:=h.2 hb2
   refine Sem.skip' (by kernel_rfl) Wk.refl ?_
   show Sem _ _ _ _ _
   refine wkD [37] ?_
   obtain ⟨r0_1,hc3,h⟩:=h
   refine sD kk [.c (oL 4 zk r0_1) []] [4,7,8] [(13,oL 4 zk r0_1)] (obC hc3 obN) ?_
   refine tD ?_
   obtain he0:=h
   subst res
   exact (endD [] (oL 4 zk r0_1) []).1
 ·rcases Bool.eq_false_or_eq_true (!r0) with hb1 | hb1
  ·refine sD kk [.c (vB r0) [],bF,bF,bF,bT] [] [(37,vB true)] (obC hc0 (obC (gff hb1) (obC (gff hb1) (obC (gff hb1) (obC hb1 obN))))) ?_
   exact Sem.cast (by try rw [hb1];kernel_rfl) hk0
  ·refine sD kk [.c (vB r0) [],bT,bT,bT,bF] [] [(37,vB (decide ((↑(ByteArray.size s0):Int) > (10000:Int))))] (obC hc0 (obC (gft hb1) (obC (gft hb1) (obC (gft hb1) (obC hb1 obN))))) ?_
   exact Sem.cast (by try rw [hb1];kernel_rfl) hk0
set_option maxHeartbeats 1000000 in
theorem zfE (a:zb) (res:(List zH))
 (h:(∃ (Inv32:List zH→Int→Prop) (mu33:List zH→Int→Nat),Inv32 ([]) 0∧(∀ (out_1:List zH) (i:Int),Inv32 out_1 i→(((decide (i < (256:Int)))=true→(∃ J46:List zH→Prop,(∀ (out_3:List zH),J46 out_3→(Inv32 out_3 (w64 (i+1))∧mu33 out_3 (w64 (i+1)) < mu33 out_1 i))∧(∃ r0_8:Bool,zaw a i r0_8∧(((!r0_8)=true→J46 out_1)∧((!r0_8)=false→(((decide (i > (0:Int)))=true→(∃ r0_9:Bool,zaw a (w64 (i - 1)) r0_9∧(((r0_9)=true→((0:Int)≤w64 ((↑(List.length out_1):Int) - 1))∧(Int.toNat (w64 ((↑(List.length out_1):Int) - 1)) < List.length out_1)∧w64 ((↑(List.length out_1):Int) - 1) < ↑(List.length out_1)∧J46 (List.set out_1 (Int.toNat (w64 ((↑(List.length out_1):Int) - 1))) { e0:=zH.e0 (gd out_1 (w64 ((↑(List.length out_1):Int) - 1))),e1:=i }))∧((r0_9)=false→((List.length out_1+(1:Nat)) * (16:Nat)≤(2:Nat) ^ (47:Nat))∧J46 (out_1++[{ e0:=i,e1:=i }])))))∧((decide (i > (0:Int)))=false→((List.length out_1+(1:Nat)) * (16:Nat)≤(2:Nat) ^ (47:Nat))∧J46 (out_1++[{ e0:=i,e1:=i }]))))))))∧((decide (i < (256:Int)))=false→(res=out_1)))))):zbB a res:=by
 unfold zbB
 have kk:=cfOk [34] 35
 refine fD (x:=bodyOf Tryz.f105) kk Tryz.func105 ?_
 refine wkS [1] [(1,zy a)] (by kernel_rfl) ?_
 refine sD kk [] [1] [(4,.ptr 5 0),(5,zy a)] obN ?_
 refine sDE kk [] [] [(10,.own 138 ([]))] [(10,oL 138 zw ([]))] obN ?_
 refine qD ?_
 refine sD kk [] [] [(13,vi 0)] obN ?_
 refine bD (id:=0) ?_
 obtain ⟨Inv32,mu33,h0Inv32,hInv32⟩:=h
 refine loD (fun (q:List zH×Int)=>(fun (out_1:List zH) (i:Int)=>([(4,.ptr 5 0),(5,zy a),(10,oL 138 zw out_1),(13,vi i)]:Sta)) q.1 q.2) (fun (q:List zH×Int)=>Inv32 q.1 q.2) (fun (q:List zH×Int)=>mu33 q.1 q.2) (([]),0) [] h0Inv32 ?_
 rintro ⟨out_1,i⟩ hi
 have h:=hInv32 out_1 i hi
 refine qD ?_
 refine sD kk [] [] [(19,vB (decide (i < (256:Int))))] obN ?_
 refine cD (t:=6) (b:=decide (i < (256:Int))) (fun hb34=>?_) (fun hb34=>?_)
 ·have h:=h.1 hb34
  refine Sem.skip' (by kernel_rfl) Wk.refl ?_
  show Sem _ _ _ _ _
  refine wkD [19] ?_
  obtain ⟨J46,hJ46,h⟩:=h
  refine sjD (fun (q:List zH)=>J46 q) (fun (q:List zH)=>(fun (out_3:List zH)=>([(4,.ptr 5 0),(5,zy a),(10,oL 138 zw out_3),(13,vi i)]:Sta)) q) ?_ ?_
  ·rintro out_3 hj
   have h:=hJ46 out_3 hj
   refine rD kk [] [] [(13,vi (w64 (i+1)))] obN ?_
   exact lD (out_3,(w64 (i+1))) [] h
  ·refine bD (id:=1) ?_
   refine qD ?_
   obtain ⟨r0_8,hc47,h⟩:=h
   refine sD kk [.c (vB r0_8) []] [] [(37,vB (!r0_8))] (obC hc47 obN) ?_
   refine cD (t:=12) (b:=!r0_8) (fun hb48=>?_) (fun hb48=>?_)
   ·have h:=h.1 hb48
    refine xD (i:=1) ?_
    exact jD out_1 [] h
   ·have h:=h.2 hb48
    refine Sem.skip' (by kernel_rfl) Wk.refl ?_
    show Sem _ _ _ _ _
    refine wkD [37] ?_
    refine qD ?_
    rcases Bool.eq_false_or_eq_true (decide (i > (0:Int))) with hb49 | hb49
    ·have h:=h.1 hb49
     obtain ⟨r0_9,hc50,h⟩:=h
     refine sD kk [bT,bT,bT,bT,.c (vB r0_9) [],bT] [] [(61,vB r0_9)] (obC (gtt hb49) (obC (gtt hb49) (obC (gtt hb49) (obC (gtt hb49) (obC hc50 (obC hb49 obN)))))) ?_
     refine cD (t:=20) (b:=r0_9) (fun hb51=>?_) (fun hb51=>?_)
     ·have h:=h.1 hb51
      obtain ⟨h52,h⟩:=h
      obtain ⟨h53,h⟩:=h
      obtain ⟨h54,h⟩:=h
      refine sDE kk [.e (zay (gd out_1 (w64 ((↑(List.length out_1):Int) - 1))))] [61] [(10,.own 138 (List.set (List.map zw out_1) ((0:Nat)+Int.toNat (w64 ((↑(List.length (List.map zw out_1)):Int) - 1))) (FV.agg [FV.pv (Value.int IntKind.i64 (zH.e0 (gd out_1 (w64 ((↑(List.length out_1):Int) - 1))))),FV.pv (Value.int IntKind.i64 i)])))] [(10,oL 138 zw (List.set out_1 (Int.toNat (w64 ((↑(List.length out_1):Int) - 1))) { e0:=zH.e0 (gd out_1 (w64 ((↑(List.length out_1):Int) - 1))),e1:=i }))] (obC (show (0:Int)≤w64 ((↑(List.length (List.map zw out_1)):Int) - 1) from by simpa only [nm] using h52) (obC (show Int.toNat (w64 ((↑(List.length (List.map zw out_1)):Int) - 1)) < List.length (List.map zw out_1) from by simpa only [nm] using h53) (obC (show (List.map zw out_1)[((0:Nat)+Int.toNat (w64 ((↑(List.length (List.map zw out_1)):Int) - 1)):Nat)]?=some (zay (gd out_1 (w64 ((↑(List.length out_1):Int) - 1)))) from by have:=zL zw out_1 (w64 ((↑(List.length out_1):Int) - 1)) _ (zY _) h52 h54;simpa only [nm,enq,zY] using this) obN))) ?_
      refine xD (i:=1) ?_
      exact jD (List.set out_1 (Int.toNat (w64 ((↑(List.length out_1):Int) - 1))) { e0:=zH.e0 (gd out_1 (w64 ((↑(List.length out_1):Int) - 1))),e1:=i }) [] h
     ·have h:=h.2 hb51
      refine Sem.skip' (by kernel_rfl) Wk.refl ?_
      show Sem _ _ _ _ _
      refine wkD [61] ?_
      obtain ⟨h55,h⟩:=h
      refine rDE kk [] [] [(10,.own 138 (List.map zw out_1++List.take (List.length [FV.agg [FV.pv (Value.int IntKind.i64 i),FV.pv (Value.int IntKind.i64 i)]]) (List.drop (0:Nat) [FV.agg [FV.pv (Value.int IntKind.i64 i),FV.pv (Value.int IntKind.i64 i)]])))] [(10,oL 138 zw (out_1++[{ e0:=i,e1:=i }]))] (obC (show (0:Nat)=(0:Nat)∧List.length (List.map zw out_1)=List.length (List.map zw out_1) from ⟨rfl,rfl⟩) (obC (show (List.length (List.map zw out_1)+List.length (List.take (1:Nat) (List.drop (0:Nat) [FV.agg [FV.pv (Value.int IntKind.i64 i),FV.pv (Value.int IntKind.i64 i)]]))) * (16:Nat)≤(2:Nat) ^ (47:Nat) from by simpa only [nm] using h55) (obC (show List.all (List.take (1:Nat) (List.drop (0:Nat) [FV.agg [FV.pv (Value.int IntKind.i64 i),FV.pv (Value.int IntKind.i64 i)]])) (FV.fits (2:Nat))=true from by first | exact zbo _ | rfl | simp [isByteF,FV.fits,FV.size,FV.cells,FV.one,]) obN))) ?_
      exact jD (out_1++[{ e0:=i,e1:=i }]) [] h
    ·have h:=h.2 hb49
     refine sD kk [bF,bF,bF,bF,bF] [] [(61,vB false)] (obC (gtf hb49) (obC (gtf hb49) (obC (gtf hb49) (obC (gtf hb49) (obC hb49 obN))))) ?_
     refine cD (t:=20) (b:=false) (fun hb56=>?_) (fun hb56=>?_)
     ·cases hb56
     ·refine Sem.skip' (by kernel_rfl) Wk.refl ?_
      show Sem _ _ _ _ _
      refine wkD [61] ?_
      obtain ⟨h57,h⟩:=h
      refine rDE kk [] [] [(10,.own 138 (List.map zw out_1++List.take (List.length [FV.agg [FV.pv (Value.int IntKind.i64 i),FV.pv (Value.int IntKind.i64 i)]]) (List.drop (0:Nat) [FV.agg [FV.pv (Value.int IntKind.i64 i),FV.pv (Value.int IntKind.i64 i)]])))] [(10,oL 138 zw (out_1++[{ e0:=i,e1:=i }]))] (obC (show (0:Nat)=(0:Nat)∧List.length (List.map zw out_1)=List.length (List.map zw out_1) from ⟨rfl,rfl⟩) (obC (show (List.length (List.map zw out_1)+List.length (List.take (1:Nat) (List.drop (0:Nat) [FV.agg [FV.pv (Value.int IntKind.i64 i),FV.pv (Value.int IntKind.i64 i)]]))) * (16:Nat)≤(2:Nat) ^ (47:Nat) from by simpa only [nm] using h57) (obC (show List.all (List.take (1:Nat) (List.drop (0:Nat) [FV.agg [FV.pv (Value.int IntKind.i64 i),FV.pv (Value.int IntKind.i64 i)]])) (FV.fits (2:Nat))=true from by first | exact zbo _ | rfl | simp [isByteF,FV.fits,FV.size,FV.cells,FV.one,]) obN))) ?_
      exact jD (out_1++[{ e0:=i,e1:=i }]) [] h
 ·have h:=h.2 hb34
  refine xD (i:=0) ?_
  show Sem _ _ _ _ _
  refine wkD [4,5,13,19] ?_
  refine sD kk [] [10] [(7,oL 138 zw out_1)] obN ?_
  refine tD ?_
  obtain he0:=h
  subst res
  exact (endD [] (oL 138 zw out_1) []).1
set_option maxHeartbeats 1000000 in
theorem zeZ (b:Int) (res:Bool)
 (h:(res=(bif decide (b≥(97:Int)) then decide (b≤(122:Int)) || bif decide (b≥(65:Int)) then decide (b≤(90:Int)) || decide (b≥(48:Int)) && decide (b≤(57:Int)) else decide (b≥(48:Int)) && decide (b≤(57:Int)) else bif decide (b≥(65:Int)) then decide (b≤(90:Int)) || decide (b≥(48:Int)) && decide (b≤(57:Int)) else decide (b≥(48:Int)) && decide (b≤(57:Int))))):zb1 b res:=by
 unfold zb1
 have kk:=cfOk [] 25
 refine fD (x:=bodyOf Tryz.f128) kk Tryz.func128 ?_
 refine wkS [1] [(1,vi b)] (by kernel_rfl) ?_
 refine sD kk [] [] [] obN ?_
 refine sM [1] [(7,vB (bif decide (b≥(97:Int)) then decide (b≤(122:Int)) || bif decide (b≥(65:Int)) then decide (b≤(90:Int)) || decide (b≥(48:Int)) && decide (b≤(57:Int)) else decide (b≥(48:Int)) && decide (b≤(57:Int)) else bif decide (b≥(65:Int)) then decide (b≤(90:Int)) || decide (b≥(48:Int)) && decide (b≤(57:Int)) else decide (b≥(48:Int)) && decide (b≤(57:Int))))] ?_ (fun hk0=>?_)
 ·refine tD ?_
  obtain he0:=h
  subst res
  exact (endD [] (vB (bif decide (b≥(97:Int)) then decide (b≤(122:Int)) || bif decide (b≥(65:Int)) then decide (b≤(90:Int)) || decide (b≥(48:Int)) && decide (b≤(57:Int)) else decide (b≥(48:Int)) && decide (b≤(57:Int)) else bif decide (b≥(65:Int)) then decide (b≤(90:Int)) || decide (b≥(48:Int)) && decide (b≤(57:Int)) else decide (b≥(48:Int)) && decide (b≤(57:Int)))) []).1
 ·rcases Bool.eq_false_or_eq_true (decide (b≥(97:Int))) with hb0 | hb0
  ·rcases Bool.eq_false_or_eq_true (decide (b≤(122:Int))) with hb1 | hb1
   ·refine sD kk [bT,bT,bT,bF,bF,bF,bF,bT,bF,bF,bF,bF,bT] [1] [(7,vB true)] (obC (gtt hb0) (obC (gtt hb0) (obC hb0 (obC (gff hb1) (obC (gff hb1) (obC (gff hb1) (obC (gff hb1) (obC hb1 (oF (oF (oF (oF (oT obN))))))))))))) ?_
    exact Sem.cast (by try rw [hb0];try rw [hb1];kernel_rfl) hk0
   ·rcases Bool.eq_false_or_eq_true (decide (b≥(65:Int))) with hb2 | hb2
    ·rcases Bool.eq_false_or_eq_true (decide (b≤(90:Int))) with hb3 | hb3
     ·refine sD kk [bT,bT,bT,bT,bT,bT,bT,bT,bT,bT,bF,bF,bF,bF,bF,bT] [1] [(7,vB true)] (obC (gtt hb0) (obC (gtt hb0) (obC hb0 (obC (gft hb1) (obC (gft hb1) (obC (gft hb1) (obC (gtt hb2) (obC (gtt hb2) (obC (gft hb1) (obC hb2 (obC hb1 (obC (gff hb3) (obC (gff hb3) (obC (gff hb3) (obC (gff hb3) (obC hb3 obN)))))))))))))))) ?_
      exact Sem.cast (by try rw [hb0];try rw [hb1];try rw [hb2];try rw [hb3];kernel_rfl) hk0
     ·rcases Bool.eq_false_or_eq_true (decide (b≥(48:Int))) with hb4 | hb4
      ·refine sD kk [bT,bT,bT,bT,bT,bT,bT,bT,bT,bT,bF,bT,bT,bT,bT,bT,bT,bT,bF] [1] [(7,vB (decide (b≤(57:Int))))] (obC (gtt hb0) (obC (gtt hb0) (obC hb0 (obC (gft hb1) (obC (gft hb1) (obC (gft hb1) (obC (gtt hb2) (obC (gtt hb2) (obC (gft hb1) (obC hb2 (obC hb1 (obC (gft hb3) (obC (gft hb3) (obC (gft hb3) (obC (gtt hb4) (obC (gtt hb4) (obC (gft hb3) (obC hb4 (obC hb3 obN))))))))))))))))))) ?_
       exact Sem.cast (by try rw [hb0];try rw [hb1];try rw [hb2];try rw [hb3];try rw [hb4];kernel_rfl) hk0
      ·refine sD kk [bT,bT,bT,bT,bT,bT,bT,bT,bT,bT,bF,bT,bT,bT,bF,bF,bT,bF,bF] [1] [(7,vB false)] (obC (gtt hb0) (obC (gtt hb0) (obC hb0 (obC (gft hb1) (obC (gft hb1) (obC (gft hb1) (obC (gtt hb2) (obC (gtt hb2) (obC (gft hb1) (obC hb2 (obC hb1 (obC (gft hb3) (obC (gft hb3) (obC (gft hb3) (obC (gtf hb4) (obC (gtf hb4) (obC (gft hb3) (obC hb4 (obC hb3 obN))))))))))))))))))) ?_
       exact Sem.cast (by try rw [hb0];try rw [hb1];try rw [hb2];try rw [hb3];try rw [hb4];kernel_rfl) hk0
    ·rcases Bool.eq_false_or_eq_true (decide (b≥(48:Int))) with hb5 | hb5
     ·refine sD kk [bT,bT,bT,bT,bT,bT,bF,bF,bT,bF,bF,bT,bT,bT,bT,bT,bT,bT,bF] [1] [(7,vB (decide (b≤(57:Int))))] (obC (gtt hb0) (obC (gtt hb0) (obC hb0 (obC (gft hb1) (obC (gft hb1) (obC (gft hb1) (obC (gtf hb2) (obC (gtf hb2) (obC (gft hb1) (obC hb2 (obC hb1 (oT (oT (oT (obC (gtt hb5) (obC (gtt hb5) (oT (obC hb5 (oF obN))))))))))))))))))) ?_
      exact Sem.cast (by try rw [hb0];try rw [hb1];try rw [hb2];try rw [hb5];kernel_rfl) hk0
     ·refine sD kk [bT,bT,bT,bT,bT,bT,bF,bF,bT,bF,bF,bT,bT,bT,bF,bF,bT,bF,bF] [1] [(7,vB false)] (obC (gtt hb0) (obC (gtt hb0) (obC hb0 (obC (gft hb1) (obC (gft hb1) (obC (gft hb1) (obC (gtf hb2) (obC (gtf hb2) (obC (gft hb1) (obC hb2 (obC hb1 (oT (oT (oT (obC (gtf hb5) (obC (gtf hb5) (oT (obC hb5 (oF obN))))))))))))))))))) ?_
      exact Sem.cast (by try rw [hb0];try rw [hb1];try rw [hb2];try rw [hb5];kernel_rfl) hk0
  ·rcases Bool.eq_false_or_eq_true (decide (b≥(65:Int))) with hb6 | hb6
   ·rcases Bool.eq_false_or_eq_true (decide (b≤(90:Int))) with hb7 | hb7
    ·refine sD kk [bF,bF,bF,bT,bT,bT,bT,bT,bT,bT,bF,bF,bF,bF,bF,bT] [1] [(7,vB true)] (obC (gtf hb0) (obC (gtf hb0) (obC hb0 (oT (oT (oT (obC (gtt hb6) (obC (gtt hb6) (oT (obC hb6 (oF (obC (gff hb7) (obC (gff hb7) (obC (gff hb7) (obC (gff hb7) (obC hb7 obN)))))))))))))))) ?_
     exact Sem.cast (by try rw [hb0];try rw [hb6];try rw [hb7];kernel_rfl) hk0
    ·rcases Bool.eq_false_or_eq_true (decide (b≥(48:Int))) with hb8 | hb8
     ·refine sD kk [bF,bF,bF,bT,bT,bT,bT,bT,bT,bT,bF,bT,bT,bT,bT,bT,bT,bT,bF] [1] [(7,vB (decide (b≤(57:Int))))] (obC (gtf hb0) (obC (gtf hb0) (obC hb0 (oT (oT (oT (obC (gtt hb6) (obC (gtt hb6) (oT (obC hb6 (oF (obC (gft hb7) (obC (gft hb7) (obC (gft hb7) (obC (gtt hb8) (obC (gtt hb8) (obC (gft hb7) (obC hb8 (obC hb7 obN))))))))))))))))))) ?_
      exact Sem.cast (by try rw [hb0];try rw [hb6];try rw [hb7];try rw [hb8];kernel_rfl) hk0
     ·refine sD kk [bF,bF,bF,bT,bT,bT,bT,bT,bT,bT,bF,bT,bT,bT,bF,bF,bT,bF,bF] [1] [(7,vB false)] (obC (gtf hb0) (obC (gtf hb0) (obC hb0 (oT (oT (oT (obC (gtt hb6) (obC (gtt hb6) (oT (obC hb6 (oF (obC (gft hb7) (obC (gft hb7) (obC (gft hb7) (obC (gtf hb8) (obC (gtf hb8) (obC (gft hb7) (obC hb8 (obC hb7 obN))))))))))))))))))) ?_
      exact Sem.cast (by try rw [hb0];try rw [hb6];try rw [hb7];try rw [hb8];kernel_rfl) hk0
   ·rcases Bool.eq_false_or_eq_true (decide (b≥(48:Int))) with hb9 | hb9
    ·refine sD kk [bF,bF,bF,bT,bT,bT,bF,bF,bT,bF,bF,bT,bT,bT,bT,bT,bT,bT,bF] [1] [(7,vB (decide (b≤(57:Int))))] (obC (gtf hb0) (obC (gtf hb0) (obC hb0 (oT (oT (oT (obC (gtf hb6) (obC (gtf hb6) (oT (obC hb6 (oF (oT (oT (oT (obC (gtt hb9) (obC (gtt hb9) (oT (obC hb9 (oF obN))))))))))))))))))) ?_
     exact Sem.cast (by try rw [hb0];try rw [hb6];try rw [hb9];kernel_rfl) hk0
    ·refine sD kk [bF,bF,bF,bT,bT,bT,bF,bF,bT,bF,bF,bT,bT,bT,bF,bF,bT,bF,bF] [1] [(7,vB false)] (obC (gtf hb0) (obC (gtf hb0) (obC hb0 (oT (oT (oT (obC (gtf hb6) (obC (gtf hb6) (oT (obC hb6 (oF (oT (oT (oT (obC (gtf hb9) (obC (gtf hb9) (oT (obC hb9 (oF obN))))))))))))))))))) ?_
     exact Sem.cast (by try rw [hb0];try rw [hb6];try rw [hb9];kernel_rfl) hk0
set_option maxHeartbeats 1000000 in
theorem zfB (b:Int) (res:ByteArray)
 (h:(∃ r0:Bool,zb1 b r0∧(((r0)=true→(res=(bytesT (List.take (1:Nat) (List.drop (0:Nat) [FV.pv (Value.int IntKind.u8 (IntKind.wrap IntKind.u8 b))])))))∧((r0)=false→((0:Int)≤w64 (Int.tdiv b (16:Int)))∧w64 (Int.tdiv b (16:Int)) < ↑(ByteArray.size ({ data:=#[(48:UInt8),(49:UInt8),(50:UInt8),(51:UInt8),(52:UInt8),(53:UInt8),(54:UInt8),(55:UInt8),(56:UInt8),(57:UInt8),(97:UInt8),(98:UInt8),(99:UInt8),(100:UInt8),(101:UInt8),(102:UInt8)] }))∧((0:Int)≤Int.tmod b (16:Int))∧Int.tmod b (16:Int) < ↑(ByteArray.size ({ data:=#[(48:UInt8),(49:UInt8),(50:UInt8),(51:UInt8),(52:UInt8),(53:UInt8),(54:UInt8),(55:UInt8),(56:UInt8),(57:UInt8),(97:UInt8),(98:UInt8),(99:UInt8),(100:UInt8),(101:UInt8),(102:UInt8)] }))∧((↑(ByteArray.size { data:=#[(92:UInt8),(120:UInt8)] }+ByteArray.size (bytesT [FV.pv (Value.int IntKind.u8 (↑(UInt8.toNat (byteAt { data:=#[(48:UInt8),(49:UInt8),(50:UInt8),(51:UInt8),(52:UInt8),(53:UInt8),(54:UInt8),(55:UInt8),(56:UInt8),(57:UInt8),(97:UInt8),(98:UInt8),(99:UInt8),(100:UInt8),(101:UInt8),(102:UInt8)] } (w64 (Int.tdiv b (16:Int))))):Int)),FV.pv (Value.int IntKind.u8 (↑(UInt8.toNat (byteAt { data:=#[(48:UInt8),(49:UInt8),(50:UInt8),(51:UInt8),(52:UInt8),(53:UInt8),(54:UInt8),(55:UInt8),(56:UInt8),(57:UInt8),(97:UInt8),(98:UInt8),(99:UInt8),(100:UInt8),(101:UInt8),(102:UInt8)] } (Int.tmod b (16:Int)))):Int))])):Int)≤IntKind.max IntKind.i64)∧(res=({ data:=#[(92:UInt8),(120:UInt8)] }++bytesT (List.take (2:Nat) (List.drop (0:Nat) [FV.pv (Value.int IntKind.u8 (↑(UInt8.toNat (byteAt { data:=#[(48:UInt8),(49:UInt8),(50:UInt8),(51:UInt8),(52:UInt8),(53:UInt8),(54:UInt8),(55:UInt8),(56:UInt8),(57:UInt8),(97:UInt8),(98:UInt8),(99:UInt8),(100:UInt8),(101:UInt8),(102:UInt8)] } (w64 (Int.tdiv b (16:Int))))):Int)),FV.pv (Value.int IntKind.u8 (↑(UInt8.toNat (byteAt { data:=#[(48:UInt8),(49:UInt8),(50:UInt8),(51:UInt8),(52:UInt8),(53:UInt8),(54:UInt8),(55:UInt8),(56:UInt8),(57:UInt8),(97:UInt8),(98:UInt8),(99:UInt8),(100:UInt8),(101:UInt8),(102:UInt8)] } (Int.tmod b (16:Int)))):Int))])))))))):zaA b res:=by
 unfold zaA
 have kk:=cfOk [] 18
 refine fD (x:=bodyOf Tryz.f106) kk Tryz.func106 ?_
 refine wkS [1] [(1,vi b)] (by kernel_rfl) ?_
 refine sD kk [] [] [] obN ?_
 refine qD ?_
 obtain ⟨r0,hc0,h⟩:=h
 refine sD kk [.c (vB r0) []] [] [(13,vB r0)] (obC hc0 obN) ?_
 refine cD (t:=4) (b:=r0) (fun hb1=>?_) (fun hb1=>?_)
 ·have h:=h.1 hb1
  refine sD kk [] [1,13] [(7,vS (bytesT (List.take (1:Nat) (List.drop (0:Nat) [FV.pv (Value.int IntKind.u8 (IntKind.wrap IntKind.u8 b))]))))] (obC (show List.all (List.take (1:Nat) (List.drop (0:Nat) [FV.pv (Value.int IntKind.u8 (IntKind.wrap IntKind.u8 b))])) isByteF=true from by first | exact zf0 _ | rfl | simp [isByteF,FV.fits,FV.size,FV.cells,FV.one,]) obN) ?_
  refine tD ?_
  obtain he0:=h
  subst res
  exact (endD [] (vS (bytesT (List.take (1:Nat) (List.drop (0:Nat) [FV.pv (Value.int IntKind.u8 (IntKind.wrap IntKind.u8 b))])))) []).1
 ·have h:=h.2 hb1
  refine Sem.skip' (by kernel_rfl) Wk.refl ?_
  show Sem _ _ _ _ _
  refine wkD [13] ?_
  obtain ⟨h2,h⟩:=h
  obtain ⟨h3,h⟩:=h
  obtain ⟨h4,h⟩:=h
  obtain ⟨h5,h⟩:=h
  obtain ⟨h6,h⟩:=h
  refine sD kk [.y (byteAt ({ data:=#[(48:UInt8),(49:UInt8),(50:UInt8),(51:UInt8),(52:UInt8),(53:UInt8),(54:UInt8),(55:UInt8),(56:UInt8),(57:UInt8),(97:UInt8),(98:UInt8),(99:UInt8),(100:UInt8),(101:UInt8),(102:UInt8)] }) (w64 (Int.tdiv b (16:Int)))),.y (byteAt ({ data:=#[(48:UInt8),(49:UInt8),(50:UInt8),(51:UInt8),(52:UInt8),(53:UInt8),(54:UInt8),(55:UInt8),(56:UInt8),(57:UInt8),(97:UInt8),(98:UInt8),(99:UInt8),(100:UInt8),(101:UInt8),(102:UInt8)] }) (Int.tmod b (16:Int)))] [1] [(7,vS ({ data:=#[(92:UInt8),(120:UInt8)] }++bytesT (List.take (2:Nat) (List.drop (0:Nat) [FV.pv (Value.int IntKind.u8 (↑(UInt8.toNat (byteAt { data:=#[(48:UInt8),(49:UInt8),(50:UInt8),(51:UInt8),(52:UInt8),(53:UInt8),(54:UInt8),(55:UInt8),(56:UInt8),(57:UInt8),(97:UInt8),(98:UInt8),(99:UInt8),(100:UInt8),(101:UInt8),(102:UInt8)] } (w64 (Int.tdiv b (16:Int))))):Int)),FV.pv (Value.int IntKind.u8 (↑(UInt8.toNat (byteAt { data:=#[(48:UInt8),(49:UInt8),(50:UInt8),(51:UInt8),(52:UInt8),(53:UInt8),(54:UInt8),(55:UInt8),(56:UInt8),(57:UInt8),(97:UInt8),(98:UInt8),(99:UInt8),(100:UInt8),(101:UInt8),(102:UInt8)] } (Int.tmod b (16:Int)))):Int))]))))] (obC (show (16:Int)≠(0:Int) from by first | decide | rfl | trivial) (obC h2 (obC (zhV ({ data:=#[(48:UInt8),(49:UInt8),(50:UInt8),(51:UInt8),(52:UInt8),(53:UInt8),(54:UInt8),(55:UInt8),(56:UInt8),(57:UInt8),(97:UInt8),(98:UInt8),(99:UInt8),(100:UInt8),(101:UInt8),(102:UInt8)] }) (w64 (Int.tdiv b (16:Int))) h2 h3) (obC (show (16:Int)≠(0:Int) from by first | decide | rfl | trivial) (obC h4 (obC (zhV ({ data:=#[(48:UInt8),(49:UInt8),(50:UInt8),(51:UInt8),(52:UInt8),(53:UInt8),(54:UInt8),(55:UInt8),(56:UInt8),(57:UInt8),(97:UInt8),(98:UInt8),(99:UInt8),(100:UInt8),(101:UInt8),(102:UInt8)] }) (Int.tmod b (16:Int)) h4 h5) (obC (show List.all (List.take (2:Nat) (List.drop (0:Nat) [FV.pv (Value.int IntKind.u8 (↑(UInt8.toNat (byteAt { data:=#[(48:UInt8),(49:UInt8),(50:UInt8),(51:UInt8),(52:UInt8),(53:UInt8),(54:UInt8),(55:UInt8),(56:UInt8),(57:UInt8),(97:UInt8),(98:UInt8),(99:UInt8),(100:UInt8),(101:UInt8),(102:UInt8)] } (w64 (Int.tdiv b (16:Int))))):Int)),FV.pv (Value.int IntKind.u8 (↑(UInt8.toNat (byteAt { data:=#[(48:UInt8),(49:UInt8),(50:UInt8),(51:UInt8),(52:UInt8),(53:UInt8),(54:UInt8),(55:UInt8),(56:UInt8),(57:UInt8),(97:UInt8),(98:UInt8),(99:UInt8),(100:UInt8),(101:UInt8),(102:UInt8)] } (Int.tmod b (16:Int)))):Int))])) isByteF=true from by first | exact zf0 _ | rfl | simp [isByteF,FV.fits,FV.size,FV.cells,FV.one,]) (obC (show (↑(ByteArray.size { data:=#[(92:UInt8),(120:UInt8)] }+ByteArray.size (bytesT (List.take (2:Nat) (List.drop (0:Nat) [FV.pv (Value.int IntKind.u8 (↑(UInt8.toNat (byteAt { data:=#[(48:UInt8),(49:UInt8),(50:UInt8),(51:UInt8),(52:UInt8),(53:UInt8),(54:UInt8),(55:UInt8),(56:UInt8),(57:UInt8),(97:UInt8),(98:UInt8),(99:UInt8),(100:UInt8),(101:UInt8),(102:UInt8)] } (w64 (Int.tdiv b (16:Int))))):Int)),FV.pv (Value.int IntKind.u8 (↑(UInt8.toNat (byteAt { data:=#[(48:UInt8),(49:UInt8),(50:UInt8),(51:UInt8),(52:UInt8),(53:UInt8),(54:UInt8),(55:UInt8),(56:UInt8),(57:UInt8),(97:UInt8),(98:UInt8),(99:UInt8),(100:UInt8),(101:UInt8),(102:UInt8)] } (Int.tmod b (16:Int)))):Int))])))):Int)≤IntKind.max IntKind.i64 from by simpa only [nm] using h6) obN)))))))) ?_
  refine tD ?_
  obtain he0:=h
  subst res
  exact (endD [] (vS ({ data:=#[(92:UInt8),(120:UInt8)] }++bytesT (List.take (2:Nat) (List.drop (0:Nat) [FV.pv (Value.int IntKind.u8 (↑(UInt8.toNat (byteAt { data:=#[(48:UInt8),(49:UInt8),(50:UInt8),(51:UInt8),(52:UInt8),(53:UInt8),(54:UInt8),(55:UInt8),(56:UInt8),(57:UInt8),(97:UInt8),(98:UInt8),(99:UInt8),(100:UInt8),(101:UInt8),(102:UInt8)] } (w64 (Int.tdiv b (16:Int))))):Int)),FV.pv (Value.int IntKind.u8 (↑(UInt8.toNat (byteAt { data:=#[(48:UInt8),(49:UInt8),(50:UInt8),(51:UInt8),(52:UInt8),(53:UInt8),(54:UInt8),(55:UInt8),(56:UInt8),(57:UInt8),(97:UInt8),(98:UInt8),(99:UInt8),(100:UInt8),(101:UInt8),(102:UInt8)] } (Int.tmod b (16:Int)))):Int))])))) []).1
set_option maxHeartbeats 1000000 in
theorem zeX (s0:zb) (res:ByteArray)
 (h:(∃ r0:List zH,zbB s0 r0∧(((↑(List.length (List.map zw r0)):Int) == 1)=true→((0:Nat) < List.length r0))∧(((↑(List.length (List.map zw r0)):Int) == 1)=true→(0:Nat) < List.length r0)∧(((↑(List.length (List.map zw r0)):Int) == 1)=true→((0:Nat) < List.length r0))∧(((↑(List.length (List.map zw r0)):Int) == 1)=true→(0:Nat) < List.length r0)∧((((↑(List.length (List.map zw r0)):Int) == 1 && zH.e0 (List.getD r0 (0:Nat) default) == zH.e1 (List.getD r0 (0:Nat) default))=true→((0:Nat) < List.length r0)∧(0:Nat) < List.length r0∧(∃ r0_1:ByteArray,zaA (zH.e0 (List.getD r0 (0:Nat) default)) r0_1∧(res=r0_1)))∧(((↑(List.length (List.map zw r0)):Int) == 1 && zH.e0 (List.getD r0 (0:Nat) default) == zH.e1 (List.getD r0 (0:Nat) default))=false→(∃ (Inv78:ByteArray→Int→Prop) (mu79:ByteArray→Int→Nat),Inv78 ({ data:=#[(91:UInt8)] }) 0∧(∀ (out_1:ByteArray) (i:Int),Inv78 out_1 i→(((decide (i < (↑(List.length r0):Int)))=true→(∃ J99:ByteArray→Prop,(∀ (out_3:ByteArray),J99 out_3→(Inv78 out_3 (w64 (i+1))∧mu79 out_3 (w64 (i+1)) < mu79 out_1 i))∧((0:Int)≤i)∧(Int.toNat i < List.length r0)∧i < ↑(List.length r0)∧(∃ r0_12:ByteArray,zaA (zH.e0 (gd r0 i)) r0_12∧((↑(ByteArray.size out_1+ByteArray.size r0_12):Int)≤IntKind.max IntKind.i64)∧((0:Int)≤i)∧(Int.toNat i < List.length r0)∧i < ↑(List.length r0)∧((0:Int)≤i)∧(Int.toNat i < List.length r0)∧i < ↑(List.length r0)∧(((decide (zH.e1 (gd r0 i) > zH.e0 (gd r0 i)))=true→((↑(ByteArray.size (out_1++r0_12)+ByteArray.size { data:=#[(45:UInt8)] }):Int)≤IntKind.max IntKind.i64)∧((0:Int)≤i)∧(Int.toNat i < List.length r0)∧i < ↑(List.length r0)∧(∃ r0_13:ByteArray,zaA (zH.e1 (gd r0 i)) r0_13∧((↑(ByteArray.size (out_1++r0_12++{ data:=#[(45:UInt8)] })+ByteArray.size r0_13):Int)≤IntKind.max IntKind.i64)∧J99 (out_1++r0_12++{ data:=#[(45:UInt8)] }++r0_13)))∧((decide (zH.e1 (gd r0 i) > zH.e0 (gd r0 i)))=false→J99 (out_1++r0_12))))))∧((decide (i < (↑(List.length r0):Int)))=false→((↑(ByteArray.size out_1+ByteArray.size { data:=#[(93:UInt8)] }):Int)≤IntKind.max IntKind.i64)∧(res=(out_1++{ data:=#[(93:UInt8)] })))))))))):zbu s0 res:=by
 unfold zbu
 have kk:=cfOk [] 63
 refine fD (x:=bodyOf Tryz.f67) kk Tryz.func67 ?_
 refine wkS [1] [(1,zy s0)] (by kernel_rfl) ?_
 refine sD kk [] [1] [(4,.ptr 5 0),(5,zy s0)] obN ?_
 obtain ⟨r0,hc0,h⟩:=h
 refine sD kk [.c (oL 138 zw r0) []] [4,5] [(10,oL 138 zw r0)] (obC hc0 obN) ?_
 refine qD ?_
 obtain ⟨h2,h3,h4,h5,h⟩:=h
 refine sM [] [(64,vB ((↑(List.length (List.map zw r0)):Int) == 1 && zH.e0 (List.getD r0 (0:Nat) default) == zH.e1 (List.getD r0 (0:Nat) default)))] ?_ (fun hk0=>?_)
 ·refine cD (t:=21) (b:=(↑(List.length (List.map zw r0)):Int) == 1 && zH.e0 (List.getD r0 (0:Nat) default) == zH.e1 (List.getD r0 (0:Nat) default)) (fun hb6=>?_) (fun hb6=>?_)
  ·have h:=h.1 hb6
   obtain ⟨h7,h⟩:=h
   obtain ⟨h8,h⟩:=h
   obtain ⟨r0_1,hc9,h⟩:=h
   refine sD kk [.e (zay (List.getD r0 (0:Nat) default)),.c (vS r0_1) []] [10,64] [(7,vS r0_1)] (obC (show (0:Int)≤(0:Int) from by first | decide | rfl | trivial) (obC (show Int.toNat (0:Int) < List.length (List.map zw r0) from by simpa only [nm] using h7) (obC (zbh zw r0 ((0:Nat)) _ (zY _) h8) (obC hc9 obN)))) ?_
   refine tD ?_
   obtain he0:=h
   subst res
   exact (endD [] (vS r0_1) []).1
  ·have h:=h.2 hb6
   refine Sem.skip' (by kernel_rfl) Wk.refl ?_
   show Sem _ _ _ _ _
   refine wkD [64] ?_
   refine sD kk [] [] [(13,vS ({ data:=#[(91:UInt8)] }))] obN ?_
   refine qD ?_
   refine sD kk [] [] [(16,vi 0)] obN ?_
   refine bD (id:=0) ?_
   obtain ⟨Inv78,mu79,h0Inv78,hInv78⟩:=h
   refine loD (fun (q:ByteArray×Int)=>(fun (out_1:ByteArray) (i:Int)=>([(10,oL 138 zw r0),(13,vS out_1),(16,vi i)]:Sta)) q.1 q.2) (fun (q:ByteArray×Int)=>Inv78 q.1 q.2) (fun (q:ByteArray×Int)=>mu79 q.1 q.2) (({ data:=#[(91:UInt8)] }),0) [] h0Inv78 ?_
   rintro ⟨out_1,i⟩ hi
   have h:=hInv78 out_1 i hi
   refine qD ?_
   refine sDE kk [] [] [(91,vB (decide (i < (↑(List.length (List.map zw r0)):Int))))] [(91,vB (decide (i < (↑(List.length r0):Int))))] obN ?_
   refine cD (t:=30) (b:=decide (i < (↑(List.length r0):Int))) (fun hb80=>?_) (fun hb80=>?_)
   ·have h:=h.1 hb80
    refine Sem.skip' (by kernel_rfl) Wk.refl ?_
    show Sem _ _ _ _ _
    refine wkD [91] ?_
    obtain ⟨J99,hJ99,h⟩:=h
    refine sjD (fun (q:ByteArray)=>J99 q) (fun (q:ByteArray)=>(fun (out_3:ByteArray)=>([(10,oL 138 zw r0),(13,vS out_3),(16,vi i)]:Sta)) q) ?_ ?_
    ·rintro out_3 hj
     have h:=hJ99 out_3 hj
     refine rD kk [] [] [(16,vi (w64 (i+1)))] obN ?_
     exact lD (out_3,(w64 (i+1))) [] h
    ·refine bD (id:=1) ?_
     obtain ⟨h100,h⟩:=h
     obtain ⟨h101,h⟩:=h
     obtain ⟨h102,h⟩:=h
     obtain ⟨r0_12,hc103,h⟩:=h
     obtain ⟨h104,h⟩:=h
     refine sD kk [.e (zay (gd r0 i)),.c (vS r0_12) []] [] [(13,vS (out_1++r0_12))] (obC h100 (obC (show Int.toNat i < List.length (List.map zw r0) from by simpa only [nm] using h101) (obC (show (List.map zw r0)[((0:Nat)+Int.toNat i:Nat)]?=some (zay (gd r0 i)) from by have:=zL zw r0 i _ (zY _) h100 h102;simpa only [nm,enq,zY] using this) (obC hc103 (obC h104 obN))))) ?_
     obtain ⟨h105,h⟩:=h
     obtain ⟨h106,h⟩:=h
     obtain ⟨h107,h⟩:=h
     obtain ⟨h108,h⟩:=h
     obtain ⟨h109,h⟩:=h
     obtain ⟨h110,h⟩:=h
     refine sD kk [.e (zay (gd r0 i)),.e (zay (gd r0 i))] [] [(154,vB (decide (zH.e1 (gd r0 i) > zH.e0 (gd r0 i))))] (obC h105 (obC (show Int.toNat i < List.length (List.map zw r0) from by simpa only [nm] using h106) (obC (show (List.map zw r0)[((0:Nat)+Int.toNat i:Nat)]?=some (zay (gd r0 i)) from by have:=zL zw r0 i _ (zY _) h105 h107;simpa only [nm,enq,zY] using this) (obC h108 (obC (show Int.toNat i < List.length (List.map zw r0) from by simpa only [nm] using h109) (obC (show (List.map zw r0)[((0:Nat)+Int.toNat i:Nat)]?=some (zay (gd r0 i)) from by have:=zL zw r0 i _ (zY _) h108 h110;simpa only [nm,enq,zY] using this) obN)))))) ?_
     refine cD (t:=51) (b:=decide (zH.e1 (gd r0 i) > zH.e0 (gd r0 i))) (fun hb111=>?_) (fun hb111=>?_)
     ·have h:=h.1 hb111
      obtain ⟨h112,h⟩:=h
      obtain ⟨h113,h⟩:=h
      obtain ⟨h114,h⟩:=h
      obtain ⟨h115,h⟩:=h
      obtain ⟨r0_13,hc116,h⟩:=h
      obtain ⟨h117,h⟩:=h
      refine rD kk [.e (zay (gd r0 i)),.c (vS r0_13) []] [154] [(13,vS (out_1++r0_12++{ data:=#[(45:UInt8)] }++r0_13))] (obC h112 (obC h113 (obC (show Int.toNat i < List.length (List.map zw r0) from by simpa only [nm] using h114) (obC (show (List.map zw r0)[((0:Nat)+Int.toNat i:Nat)]?=some (zay (gd r0 i)) from by have:=zL zw r0 i _ (zY _) h113 h115;simpa only [nm,enq,zY] using this) (obC hc116 (obC h117 obN)))))) ?_
      exact jD (out_1++r0_12++{ data:=#[(45:UInt8)] }++r0_13) [] h
     ·have h:=h.2 hb111
      refine Sem.skip' (by kernel_rfl) Wk.refl ?_
      exact jD (out_1++r0_12) [] h
   ·have h:=h.2 hb80
    refine xD (i:=0) ?_
    show Sem _ _ _ _ _
    refine wkD [10,16,91] ?_
    obtain ⟨h118,h⟩:=h
    refine sD kk [] [13] [(7,vS (out_1++{ data:=#[(93:UInt8)] }))] (obC h118 obN) ?_
    refine tD ?_
    obtain he0:=h
    subst res
    exact (endD [] (vS (out_1++{ data:=#[(93:UInt8)] })) []).1
 ·rcases Bool.eq_false_or_eq_true ((↑(List.length (List.map zw r0)):Int) == 1) with hb1 | hb1
  ·refine sD kk [bT,bT,bT,bT,.e (zay (List.getD r0 (0:Nat) default)),bT,bT,bT,bT,.e (zay (List.getD r0 (0:Nat) default)),bT,bT] [] [(64,vB (zH.e0 (List.getD r0 (0:Nat) default) == zH.e1 (List.getD r0 (0:Nat) default)))] (obC (gtt hb1) (obC (gtt hb1) (obC (show (0:Int)≤(0:Int) from by first | decide | rfl | trivial) (obC (show Int.toNat (0:Int) < List.length (List.map zw r0) from by simpa only [nm] using (h2 hb1)) (obC (gtt hb1) (obC (gtt hb1) (obC (zbh zw r0 ((0:Nat)) _ (zY _) (h3 hb1)) (obC (gtt hb1) (obC (gtt hb1) (obC (show (0:Int)≤(0:Int) from by first | decide | rfl | trivial) (obC (show Int.toNat (0:Int) < List.length (List.map zw r0) from by simpa only [nm] using (h4 hb1)) (obC (gtt hb1) (obC (gtt hb1) (obC (zbh zw r0 ((0:Nat)) _ (zY _) (h5 hb1)) (obC (gtt hb1) (obC hb1 obN)))))))))))))))) ?_
   exact Sem.cast (by try rw [hb1];kernel_rfl) hk0
  ·refine sD kk [bF,bF,bF,bF,bF,bF,bF,bF,bF,bF] [] [(64,vB false)] (obC (gtf hb1) (obC (gtf hb1) (obC (gtf hb1) (obC (gtf hb1) (obC (gtf hb1) (obC (gtf hb1) (obC (gtf hb1) (obC (gtf hb1) (obC (gtf hb1) (obC hb1 obN)))))))))) ?_
   exact Sem.cast (by try rw [hb1];kernel_rfl) hk0
set_option maxHeartbeats 1000000 in
theorem zgO (x:za) (alone:Bool) (res:ByteArray)
 (h:(((alone)=true→(∃ r0:ByteArray,zZ x r0∧((↑(ByteArray.size { data:=#[(40:UInt8)] }+ByteArray.size r0):Int)≤IntKind.max IntKind.i64)∧((↑(ByteArray.size ({ data:=#[(40:UInt8)] }++r0)+ByteArray.size { data:=#[(41:UInt8)] }):Int)≤IntKind.max IntKind.i64)∧(res=({ data:=#[(40:UInt8)] }++r0++{ data:=#[(41:UInt8)] }))))∧((alone)=false→(∃ r0_1:ByteArray,zZ x r0_1∧(res=r0_1))))):za8 x alone res:=by
 unfold za8
 have kk:=cfOk [] 12
 refine fD (x:=bodyOf Tryz.f68) kk Tryz.func68 ?_
 refine wkS [1,4] [(1,zm x),(4,vB alone)] (by kernel_rfl) ?_
 refine sD kk [] [1] [(7,.ptr 8 0),(8,zm x)] obN ?_
 refine qD ?_
 refine sD kk [] [4] [(16,vB alone)] obN ?_
 refine cD (t:=5) (b:=alone) (fun hb0=>?_) (fun hb0=>?_)
 ·have h:=h.1 hb0
  obtain ⟨r0,hc1,h⟩:=h
  obtain ⟨h2,h⟩:=h
  obtain ⟨h3,h⟩:=h
  refine sD kk [.c (vS r0) []] [7,8,16] [(13,vS ({ data:=#[(40:UInt8)] }++r0++{ data:=#[(41:UInt8)] }))] (obC hc1 (obC h2 (obC h3 obN))) ?_
  refine tD ?_
  obtain he0:=h
  subst res
  exact (endD [] (vS ({ data:=#[(40:UInt8)] }++r0++{ data:=#[(41:UInt8)] })) []).1
 ·have h:=h.2 hb0
  refine Sem.skip' (by kernel_rfl) Wk.refl ?_
  show Sem _ _ _ _ _
  refine wkD [16] ?_
  obtain ⟨r0_1,hc4,h⟩:=h
  refine sD kk [.c (vS r0_1) []] [7,8] [(13,vS r0_1)] (obC hc4 obN) ?_
  refine tD ?_
  obtain he0:=h
  subst res
  exact (endD [] (vS r0_1) []).1
set_option maxHeartbeats 1000000 in
theorem zeo (n:Int) (res:ByteArray)
 (h:(((decide (n < (10:Int)))=true→(res=(bytesT (List.take (1:Nat) (List.drop (0:Nat) [FV.pv (Value.int IntKind.u8 (IntKind.wrap IntKind.u8 (w64 ((48:Int)+Int.tmod n (10:Int)))))])))))∧((decide (n < (10:Int)))=false→(∃ r0:ByteArray,zaE (w64 (Int.tdiv n (10:Int))) r0∧((↑(ByteArray.size r0+ByteArray.size (bytesT [FV.pv (Value.int IntKind.u8 (IntKind.wrap IntKind.u8 (w64 ((48:Int)+Int.tmod n (10:Int)))))])):Int)≤IntKind.max IntKind.i64)∧(res=(r0++bytesT (List.take (1:Nat) (List.drop (0:Nat) [FV.pv (Value.int IntKind.u8 (IntKind.wrap IntKind.u8 (w64 ((48:Int)+Int.tmod n (10:Int)))))])))))))):zaE n res:=by
 unfold zaE
 have kk:=cfOk [12] 18
 refine fD (x:=bodyOf Tryz.f69) kk Tryz.func69 ?_
 refine wkS [1] [(1,vi n)] (by kernel_rfl) ?_
 refine sD kk [] [] [] obN ?_
 refine sD kk [] [] [(10,vS (bytesT (List.take (1:Nat) (List.drop (0:Nat) [FV.pv (Value.int IntKind.u8 (IntKind.wrap IntKind.u8 (w64 ((48:Int)+Int.tmod n (10:Int)))))]))))] (obC (show (10:Int)≠(0:Int) from by first | decide | rfl | trivial) (obC (show List.all (List.take (1:Nat) (List.drop (0:Nat) [FV.pv (Value.int IntKind.u8 (IntKind.wrap IntKind.u8 (w64 ((48:Int)+Int.tmod n (10:Int)))))])) isByteF=true from by first | exact zf0 _ | rfl | simp [isByteF,FV.fits,FV.size,FV.cells,FV.one,]) obN)) ?_
 refine qD ?_
 refine sD kk [] [] [(34,vB (decide (n < (10:Int))))] obN ?_
 refine cD (t:=11) (b:=decide (n < (10:Int))) (fun hb0=>?_) (fun hb0=>?_)
 ·have h:=h.1 hb0
  refine sD kk [] [1,10,34] [(7,vS (bytesT (List.take (1:Nat) (List.drop (0:Nat) [FV.pv (Value.int IntKind.u8 (IntKind.wrap IntKind.u8 (w64 ((48:Int)+Int.tmod n (10:Int)))))]))))] obN ?_
  refine tD ?_
  obtain he0:=h
  subst res
  exact (endD [] (vS (bytesT (List.take (1:Nat) (List.drop (0:Nat) [FV.pv (Value.int IntKind.u8 (IntKind.wrap IntKind.u8 (w64 ((48:Int)+Int.tmod n (10:Int)))))])))) []).1
 ·have h:=h.2 hb0
  refine Sem.skip' (by kernel_rfl) Wk.refl ?_
  show Sem _ _ _ _ _
  refine wkD [34] ?_
  obtain ⟨r0,hc1,h⟩:=h
  obtain ⟨h2,h⟩:=h
  refine sD kk [.c (vS r0) []] [1,10] [(7,vS (r0++bytesT (List.take (1:Nat) (List.drop (0:Nat) [FV.pv (Value.int IntKind.u8 (IntKind.wrap IntKind.u8 (w64 ((48:Int)+Int.tmod n (10:Int)))))]))))] (obC (show (10:Int)≠(0:Int) from by first | decide | rfl | trivial) (obC hc1 (obC (show (↑(ByteArray.size r0+ByteArray.size (bytesT (List.take (1:Nat) (List.drop (0:Nat) [FV.pv (Value.int IntKind.u8 (IntKind.wrap IntKind.u8 (w64 ((48:Int)+Int.tmod n (10:Int)))))])))):Int)≤IntKind.max IntKind.i64 from by simpa only [nm] using h2) obN))) ?_
  refine tD ?_
  obtain he0:=h
  subst res
  exact (endD [] (vS (r0++bytesT (List.take (1:Nat) (List.drop (0:Nat) [FV.pv (Value.int IntKind.u8 (IntKind.wrap IntKind.u8 (w64 ((48:Int)+Int.tmod n (10:Int)))))])))) []).1
set_option maxHeartbeats 1000000 in
theorem zce (x:za) (res:ByteArray)
 (h:(((za.Kind x == 1)=true→(res=({ data:=#[(40:UInt8),(41:UInt8)] })))∧((za.Kind x == 1)=false→(((za.Kind x == (2:Int))=true→(∃ r0:ByteArray,zbu (za.Set x) r0∧(res=r0)))∧((za.Kind x == (2:Int))=false→(((za.Kind x == (5:Int))=true→(0:Nat) < List.length (za.Kids x)∧(0:Nat) < List.length (za.Kids x)∧(∃ r0_1:ByteArray,za8 (List.getD (za.Kids x) (0:Nat) default) (decide (za.Kind (List.getD (za.Kids x) (0:Nat) default)≥(3:Int))) r0_1∧((↑(ByteArray.size r0_1+ByteArray.size { data:=#[(123:UInt8)] }):Int)≤IntKind.max IntKind.i64)∧(∃ r0_2:ByteArray,zaE (za.Lo x) r0_2∧((↑(ByteArray.size (r0_1++{ data:=#[(123:UInt8)] })+ByteArray.size r0_2):Int)≤IntKind.max IntKind.i64)∧((↑(ByteArray.size (r0_1++{ data:=#[(123:UInt8)] }++r0_2)+ByteArray.size { data:=#[(44:UInt8)] }):Int)≤IntKind.max IntKind.i64)∧(∃ J14:ByteArray→Prop,(∀ (s0:ByteArray),J14 s0→((↑(ByteArray.size s0+ByteArray.size { data:=#[(125:UInt8)] }):Int)≤IntKind.max IntKind.i64)∧(res=(s0++{ data:=#[(125:UInt8)] })))∧(((decide (za.Hi x≥(0:Int)))=true→(∃ r0_4:ByteArray,zaE (za.Hi x) r0_4∧((↑(ByteArray.size (r0_1++{ data:=#[(123:UInt8)] }++r0_2++{ data:=#[(44:UInt8)] })+ByteArray.size r0_4):Int)≤IntKind.max IntKind.i64)∧J14 (r0_1++{ data:=#[(123:UInt8)] }++r0_2++{ data:=#[(44:UInt8)] }++r0_4)))∧((decide (za.Hi x≥(0:Int)))=false→J14 (r0_1++{ data:=#[(123:UInt8)] }++r0_2++{ data:=#[(44:UInt8)] })))))))∧((za.Kind x == (5:Int))=false→(∃ (Inv47:ByteArray→Int→Prop) (mu48:ByteArray→Int→Nat),Inv47 ({ data:=#[] }) 0∧(∀ (s0_1:ByteArray) (i:Int),Inv47 s0_1 i→(((decide (i < (↑(List.length (za.Kids x)):Int)))=true→(∃ J53:ByteArray→Prop,(∀ (s0_3:ByteArray),J53 s0_3→((0:Int)≤i)∧i < ↑(List.length (za.Kids x))∧(((za.Kind x == (3:Int))=true→((za.Kind x == (3:Int))=true→((0:Int)≤i))∧((za.Kind x == (3:Int))=true→i < ↑(List.length (za.Kids x)))∧(∃ r0_9:ByteArray,za8 (gd (za.Kids x) i) (za.Kind (gd (za.Kids x) i) == (4:Int)) r0_9∧((za.Kind x == (3:Int))=true→((↑(ByteArray.size s0_3+ByteArray.size r0_9):Int)≤IntKind.max IntKind.i64))∧(Inv47 (s0_3++r0_9) (w64 (i+1))∧mu48 (s0_3++r0_9) (w64 (i+1)) < mu48 s0_1 i)))∧((za.Kind x == (3:Int))=false→(∃ r0_10:ByteArray,za8 (gd (za.Kids x) i) false r0_10∧((za.Kind x == (3:Int))=false→((↑(ByteArray.size s0_3+ByteArray.size r0_10):Int)≤IntKind.max IntKind.i64))∧(Inv47 (s0_3++r0_10) (w64 (i+1))∧mu48 (s0_3++r0_10) (w64 (i+1)) < mu48 s0_1 i)))))∧(((decide (i > (0:Int)) && za.Kind x == (4:Int))=true→((↑(ByteArray.size s0_1+ByteArray.size { data:=#[(124:UInt8)] }):Int)≤IntKind.max IntKind.i64)∧J53 (s0_1++{ data:=#[(124:UInt8)] }))∧((decide (i > (0:Int)) && za.Kind x == (4:Int))=false→J53 s0_1))))∧((decide (i < (↑(List.length (za.Kids x)):Int)))=false→(res=s0_1)))))))))))):zZ x res:=by
 unfold zZ
 have kk:=cfOk [80] 81
 refine fD (x:=bodyOf Tryz.f31) kk Tryz.func31 ?_
 refine wkS [1] [(1,zm x)] (by kernel_rfl) ?_
 refine sD kk [] [1] [(4,.ptr 5 0),(5,zm x)] obN ?_
 refine qD ?_
 refine sD kk [] [] [(22,vi (za.Kind x))] obN ?_
 refine bD (id:=0) ?_
 refine sD kk [] [] [(25,vB (za.Kind x == 1))] obN ?_
 refine cD (t:=8) (b:=za.Kind x == 1) (fun hb0=>?_) (fun hb0=>?_)
 ·have h:=h.1 hb0
  refine sD kk [] [4,5,22,25] [(7,vS ({ data:=#[(40:UInt8),(41:UInt8)] }))] obN ?_
  refine tD ?_
  obtain he0:=h
  subst res
  exact (endD [] (vS ({ data:=#[(40:UInt8),(41:UInt8)] })) []).1
 ·have h:=h.2 hb0
  refine sD kk [] [25] [(31,vB (za.Kind x == (2:Int)))] obN ?_
  refine cD (t:=10) (b:=za.Kind x == (2:Int)) (fun hb1=>?_) (fun hb1=>?_)
  ·have h:=h.1 hb1
   obtain ⟨r0,hc2,h⟩:=h
   refine sD kk [.c (vS r0) []] [4,5,22,31] [(7,vS r0)] (obC hc2 obN) ?_
   refine tD ?_
   obtain he0:=h
   subst res
   exact (endD [] (vS r0) []).1
  ·have h:=h.2 hb1
   refine sD kk [] [22,31] [(46,vB (za.Kind x == (5:Int)))] obN ?_
   refine cD (t:=15) (b:=za.Kind x == (5:Int)) (fun hb3=>?_) (fun hb3=>?_)
   ·have h:=h.1 hb3
    obtain ⟨h4,h⟩:=h
    obtain ⟨h5,h⟩:=h
    obtain ⟨r0_1,hc6,h⟩:=h
    obtain ⟨h7,h⟩:=h
    obtain ⟨r0_2,hc8,h⟩:=h
    obtain ⟨h9,h⟩:=h
    obtain ⟨h10,h⟩:=h
    refine sD kk [.e (zD (List.getD (za.Kids x) (0:Nat) default)),.e (zD (List.getD (za.Kids x) (0:Nat) default)),.c (vS r0_1) [],.c (vS r0_2) []] [46] [(10,vS (r0_1++{ data:=#[(123:UInt8)] }++r0_2++{ data:=#[(44:UInt8)] }))] (obC (show (0:Int)≤(0:Int) from by first | decide | rfl | trivial) (obC (show (List.map ze (za.Kids x))[(Int.toNat (0:Int):Nat)]?=some (zD (List.getD (za.Kids x) (0:Nat) default)) from by have:=zbh ze (za.Kids x) ((0:Nat)) _ (zt _) h4;simpa only [nm,enq,zt] using this) (obC (show (0:Int)≤(0:Int) from by first | decide | rfl | trivial) (obC (show (List.map ze (za.Kids x))[(Int.toNat (0:Int):Nat)]?=some (zD (List.getD (za.Kids x) (0:Nat) default)) from by have:=zbh ze (za.Kids x) ((0:Nat)) _ (zt _) h5;simpa only [nm,enq,zt] using this) (obC hc6 (obC h7 (obC hc8 (obC h9 (obC h10 obN))))))))) ?_
    obtain ⟨J14,hJ14,h⟩:=h
    refine sjD (fun (q:ByteArray)=>J14 q) (fun (q:ByteArray)=>(fun (s0:ByteArray)=>([(10,vS s0)]:Sta)) q) ?_ ?_
    ·rintro s0 hj
     have h:=hJ14 s0 hj
     obtain ⟨h15,h⟩:=h
     refine sD kk [] [10] [(7,vS (s0++{ data:=#[(125:UInt8)] }))] (obC h15 obN) ?_
     refine tD ?_
     obtain he0:=h
     subst res
     exact (endD [] (vS (s0++{ data:=#[(125:UInt8)] })) []).1
    ·refine sD kk [] [] [(109,vB (decide (za.Hi x≥(0:Int))))] obN ?_
     refine cD (t:=36) (b:=decide (za.Hi x≥(0:Int))) (fun hb16=>?_) (fun hb16=>?_)
     ·have h:=h.1 hb16
      obtain ⟨r0_4,hc17,h⟩:=h
      obtain ⟨h18,h⟩:=h
      refine rD kk [.c (vS r0_4) []] [4,5,109] [(10,vS (r0_1++{ data:=#[(123:UInt8)] }++r0_2++{ data:=#[(44:UInt8)] }++r0_4))] (obC hc17 (obC h18 obN)) ?_
      exact jD (r0_1++{ data:=#[(123:UInt8)] }++r0_2++{ data:=#[(44:UInt8)] }++r0_4) [] h
     ·have h:=h.2 hb16
      refine Sem.skip' (by kernel_rfl) Wk.refl ?_
      exact jD (r0_1++{ data:=#[(123:UInt8)] }++r0_2++{ data:=#[(44:UInt8)] }) [] h
   ·have h:=h.2 hb3
    refine Sem.skip' (by kernel_rfl) Wk.refl ?_
    show Sem _ _ _ _ _
    refine wkD [46] ?_
    refine sD kk [] [] [(13,vS ({ data:=#[] }))] obN ?_
    refine qD ?_
    refine sD kk [] [] [(16,vi 0)] obN ?_
    refine bD (id:=1) ?_
    obtain ⟨Inv47,mu48,h0Inv47,hInv47⟩:=h
    refine loD (fun (q:ByteArray×Int)=>(fun (s0_1:ByteArray) (i:Int)=>([(4,.ptr 5 0),(5,zm x),(13,vS s0_1),(16,vi i)]:Sta)) q.1 q.2) (fun (q:ByteArray×Int)=>Inv47 q.1 q.2) (fun (q:ByteArray×Int)=>mu48 q.1 q.2) (({ data:=#[] }),0) [] h0Inv47 ?_
    rintro ⟨s0_1,i⟩ hi
    have h:=hInv47 s0_1 i hi
    refine qD ?_
    refine sDE kk [] [] [(145,vB (decide (i < (↑(List.length (List.map ze (za.Kids x))):Int))))] [(145,vB (decide (i < (↑(List.length (za.Kids x)):Int))))] obN ?_
    refine cD (t:=48) (b:=decide (i < (↑(List.length (za.Kids x)):Int))) (fun hb49=>?_) (fun hb49=>?_)
    ·have h:=h.1 hb49
     refine Sem.skip' (by kernel_rfl) Wk.refl ?_
     show Sem _ _ _ _ _
     refine wkD [145] ?_
     refine qD ?_
     refine bD (id:=2) ?_
     obtain ⟨J53,hJ53,h⟩:=h
     refine sjD (fun (q:ByteArray)=>J53 q) (fun (q:ByteArray)=>(fun (s0_3:ByteArray)=>([(4,.ptr 5 0),(5,zm x),(13,vS s0_3),(16,vi i)]:Sta)) q) ?_ ?_
     ·rintro s0_3 hj
      have h:=hJ53 s0_3 hj
      obtain ⟨h54,h⟩:=h
      obtain ⟨h55,h⟩:=h
      rcases Bool.eq_false_or_eq_true (za.Kind x == (3:Int)) with hb56 | hb56
      ·have h:=h.1 hb56
       obtain ⟨h57,h⟩:=h
       obtain ⟨h58,h⟩:=h
       obtain ⟨r0_9,hc59,h⟩:=h
       obtain ⟨h60,h⟩:=h
       refine rD kk [.e (zD (gd (za.Kids x) i)),bT,bT,bT,bT,.e (zD (gd (za.Kids x) i)),bT,bT,bT,bT,.c (vS r0_9) []] [] [(13,vS (s0_3++r0_9))] (obC h54 (obC (zL ze (za.Kids x) i _ (zt _) h54 h55) (obC (gtt hb56) (obC (gtt hb56) (obC (gtt hb56) (obC (gtt hb56) (obC (h57 hb56) (obC (zL ze (za.Kids x) i _ (zt _) (h57 hb56) (h58 hb56)) (obC (gtt hb56) (obC (gtt hb56) (obC (gtt hb56) (obC hb56 (obC hc59 (obC (h60 hb56) obN)))))))))))))) ?_
       show Sem _ _ _ _ _
       refine rD kk [] [] [(16,vi (w64 (i+1)))] obN ?_
       exact lD ((s0_3++r0_9),(w64 (i+1))) [] h
      ·have h:=h.2 hb56
       obtain ⟨r0_10,hc61,h⟩:=h
       obtain ⟨h62,h⟩:=h
       refine rD kk [.e (zD (gd (za.Kids x) i)),bF,bF,bF,bF,bF,bF,bF,bF,.c (vS r0_10) []] [] [(13,vS (s0_3++r0_10))] (obC h54 (obC (zL ze (za.Kids x) i _ (zt _) h54 h55) (obC (gtf hb56) (obC (gtf hb56) (obC (gtf hb56) (obC (gtf hb56) (obC (gtf hb56) (obC (gtf hb56) (obC (gtf hb56) (obC hb56 (obC hc61 (obC (h62 hb56) obN)))))))))))) ?_
       show Sem _ _ _ _ _
       refine rD kk [] [] [(16,vi (w64 (i+1)))] obN ?_
       exact lD ((s0_3++r0_10),(w64 (i+1))) [] h
     ·refine sM [] [(172,vB (decide (i > (0:Int)) && za.Kind x == (4:Int)))] ?_ (fun hk0=>?_)
      ·refine cD (t:=57) (b:=decide (i > (0:Int)) && za.Kind x == (4:Int)) (fun hb64=>?_) (fun hb64=>?_)
       ·have h:=h.1 hb64
        obtain ⟨h65,h⟩:=h
        refine rD kk [] [172] [(13,vS (s0_1++{ data:=#[(124:UInt8)] }))] (obC h65 obN) ?_
        exact jD (s0_1++{ data:=#[(124:UInt8)] }) [] h
       ·have h:=h.2 hb64
        refine Sem.skip' (by kernel_rfl) Wk.refl ?_
        exact jD s0_1 [] h
      ·rcases Bool.eq_false_or_eq_true (decide (i > (0:Int))) with hb63 | hb63
       ·refine sD kk [bT,bT,bT,bT] [] [(172,vB (za.Kind x == (4:Int)))] (obC (gtt hb63) (obC (gtt hb63) (obC (gtt hb63) (obC hb63 obN)))) ?_
        exact Sem.cast (by try rw [hb63];kernel_rfl) hk0
       ·refine sD kk [bF,bF,bF,bF] [] [(172,vB false)] (obC (gtf hb63) (obC (gtf hb63) (obC (gtf hb63) (obC hb63 obN)))) ?_
        exact Sem.cast (by try rw [hb63];kernel_rfl) hk0
    ·have h:=h.2 hb49
     refine xD (i:=1) ?_
     show Sem _ _ _ _ _
     refine wkD [4,5,16,145] ?_
     refine sD kk [] [13] [(7,vS s0_1)] obN ?_
     refine tD ?_
     obtain he0:=h
     subst res
     exact (endD [] (vS s0_1) []).1
set_option maxHeartbeats 1000000 in
theorem zeQ (a:(List Bool)) (b:(List Bool)) (res:Bool)
 (h:((((↑(List.length a):Int) != (↑(List.length b):Int))=true→(res=false))∧(((↑(List.length a):Int) != (↑(List.length b):Int))=false→(∃ (Inv11:Int→Prop) (mu12:Int→Nat),Inv11 0∧(∀ (i:Int),Inv11 i→(((decide (i < (↑(List.length a):Int)))=true→((0:Int)≤i)∧i < ↑(List.length a)∧((0:Int)≤i)∧i < ↑(List.length b)∧(((!gd a i == gd b i)=true→(res=false))∧((!gd a i == gd b i)=false→(Inv11 (w64 (i+1))∧mu12 (w64 (i+1)) < mu12 i))))∧((decide (i < (↑(List.length a):Int)))=false→(res=true)))))))):zK a b res:=by
 unfold zK
 have kk:=cfOk [] 26
 refine fD (x:=bodyOf Tryz.f32) kk Tryz.func32 ?_
 refine wkS [1,4] [(1,vL zk a),(4,vL zk b)] (by kernel_rfl) ?_
 refine sD kk [] [] [] obN ?_
 refine qD ?_
 refine sDE kk [] [] [(31,vB ((↑(List.length (List.map zk a)):Int) != (↑(List.length (List.map zk b)):Int)))] [(31,vB ((↑(List.length a):Int) != (↑(List.length b):Int)))] obN ?_
 refine cD (t:=10) (b:=(↑(List.length a):Int) != (↑(List.length b):Int)) (fun hb0=>?_) (fun hb0=>?_)
 ·have h:=h.1 hb0
  refine sD kk [] [1,4,31] [(13,vB false)] obN ?_
  refine tD ?_
  obtain he0:=h
  subst res
  exact (endD [] (vB false) []).1
 ·have h:=h.2 hb0
  refine Sem.skip' (by kernel_rfl) Wk.refl ?_
  show Sem _ _ _ _ _
  refine wkD [31] ?_
  refine qD ?_
  refine sD kk [] [] [(16,vi 0)] obN ?_
  refine bD (id:=0) ?_
  obtain ⟨Inv11,mu12,h0Inv11,hInv11⟩:=h
  refine loD (fun (q:Int)=>(fun (i:Int)=>([(1,vL zk a),(4,vL zk b),(16,vi i)]:Sta)) q) (fun (q:Int)=>Inv11 q) (fun (q:Int)=>mu12 q) 0 [] h0Inv11 ?_
  rintro i hi
  have h:=hInv11 i hi
  refine qD ?_
  refine sDE kk [] [] [(43,vB (decide (i < (↑(List.length (List.map zk a)):Int))))] [(43,vB (decide (i < (↑(List.length a):Int))))] obN ?_
  refine cD (t:=14) (b:=decide (i < (↑(List.length a):Int))) (fun hb13=>?_) (fun hb13=>?_)
  ·have h:=h.1 hb13
   refine Sem.skip' (by kernel_rfl) Wk.refl ?_
   show Sem _ _ _ _ _
   refine wkD [43] ?_
   refine qD ?_
   refine bD (id:=1) ?_
   obtain ⟨h14,h⟩:=h
   obtain ⟨h15,h⟩:=h
   obtain ⟨h16,h⟩:=h
   obtain ⟨h17,h⟩:=h
   refine sD kk [.e (fB (gd a i)),.e (fB (gd b i))] [] [(76,vB (!gd a i == gd b i))] (obC h14 (obC (zL zk a i _ rfl h14 h15) (obC h16 (obC (zL zk b i _ rfl h16 h17) obN)))) ?_
   refine cD (t:=25) (b:=!gd a i == gd b i) (fun hb18=>?_) (fun hb18=>?_)
   ·have h:=h.1 hb18
    refine sD kk [] [1,4,16,76] [(13,vB false)] obN ?_
    refine tD ?_
    obtain he0:=h
    subst res
    exact (endD [] (vB false) []).1
   ·have h:=h.2 hb18
    refine Sem.skip' (by kernel_rfl) Wk.refl ?_
    show Sem _ _ _ _ _
    refine wkD [76] ?_
    refine rD kk [] [] [(16,vi (w64 (i+1)))] obN ?_
    exact lD (w64 (i+1)) [] h
  ·have h:=h.2 hb13
   refine xD (i:=0) ?_
   show Sem _ _ _ _ _
   refine wkD [1,4,16,43] ?_
   refine sD kk [] [] [(13,vB true)] obN ?_
   refine tD ?_
   obtain he0:=h
   subst res
   exact (endD [] (vB true) []).1
set_option maxHeartbeats 1000000 in
theorem zeM (l:(List Int)) (res:(List Int))
 (h:((0:Int)≤(0:Int)∧(0:Int)≤(↑(List.length l):Int)∧(↑(List.length l):Int) < (2:Int) ^ (40:Nat)∧(↑(1:Nat):Int) * (↑(List.length l):Int)≤(2:Int) ^ (47:Nat))∧(zcF l∧(List.length l < 1099511627776∧∃ (Inv3:Nat→List Int→Prop),Inv3 0 (List.replicate (0:Nat) (0:Int))∧(∀ (i:Nat) (y:Int),i < List.length l→l[List.length l - 1 - i]?=some y→∀ (out:List Int),Inv3 i out→((List.length out+(1:Nat)) * (1:Nat)≤(2:Nat) ^ (47:Nat))∧Inv3 (i+1) (out++[y]))∧(∀ (out:List Int),Inv3 (List.length l) out→(res=out))))):zbp l res:=by
 unfold zbp
 have kk:=cfOk [] 18
 refine fD (x:=bodyOf Tryz.f70) kk Tryz.func70 ?_
 refine wkS [1] [(1,vL zE l)] (by kernel_rfl) ?_
 refine sD kk [] [] [] obN ?_
 obtain ⟨h0,h⟩:=h
 refine sDE kk [] [] [(10,.ptr 11 0),(11,.own 5 (List.replicate (Int.toNat (0:Int)) (FV.pv (Value.int IntKind.u8 (0:Int)))))] [(10,.ptr 11 0),(11,oL 5 zE (List.replicate (0:Nat) (0:Int)))] (obC (show (0:Int)≤(0:Int)∧(0:Int)≤(↑(List.length (List.map zE l)):Int)∧(↑(List.length (List.map zE l)):Int) < (2:Int) ^ (40:Nat)∧(↑(1:Nat):Int) * (↑(List.length (List.map zE l)):Int)≤(2:Int) ^ (47:Nat) from by simpa only [nm] using h0) obN) ?_
 refine qD ?_
 obtain ⟨hc1,h⟩:=h
 refine sD kk [.c (.clo 129 [.fp (fL zE l) 0]) []] [1] [(31,.clo 129 [.fp (fL zE l) 0])] (obC hc1 obN) ?_
 refine bD (id:=0) ?_
 obtain ⟨hl4,Inv3,h0Inv3,hRInv3,hDInv3⟩:=h
 refine Sem.range (α:=Int) (σ:=List Int) (c:=(cf [] 18)) (by rfl) (tg:=10) (p0:=11) (p1:=12) (by kernel_rfl) (xs:=l) (by kernel_rfl) back_ok_129 (ey:=(fun (y:Int)=>(.pv (.int .u8 y):FV))) (sz:=1) (fun y=>rfl) (fun y=>by rfl) (by omega) [(10,.ptr 11 0)] [11] (fun (q:List Int)=>(fun (out:List Int)=>([oL 5 zE out]:List AV)) q) (fun (i:Nat) (q:List Int)=>Inv3 i q) (List.replicate (0:Nat) (0:Int)) ((wkE (G':=[(10,.ptr 11 0),(11,oL 5 zE (List.replicate (0:Nat) (0:Int)))]) [] [10,11] (by kernel_rfl)).trans (Wk.pick [10,11] (by kernel_rfl))) h0Inv3 (by rfl) (fun q=>by rfl) (by rfl) (by decide) (fun q q'=>by rfl) (Nat.le_of_ble_eq_true rfl) (Nat.le_of_ble_eq_true rfl) (by decide) ?_ ?_
 ·rintro i out y hi hy hinv
  have h:=hRInv3 i y hi hy out hinv
  refine Sem.weak (Wk.pick [3,10,34,37] (G':=[(3,oL 5 zE out),(10,.ptr 3 0),(34,vi ((↑(List.length l):Int) - 1 - (↑i:Int))),(37,vI .u8 y)]) (by kernel_rfl)) ?_
  show Sem _ (cfr [] 18) (sq1 (sq1 (sq2 (sq1 (sq2 (sq2 (bodyOf Tryz.f70))))))) _ _
  have kr:=cfrOk [] 18
  refine rD kr [] [34,37] [(16,vI .u8 y)] obN ?_
  refine ⟨rfl,?_⟩
  show Sem _ (cfr [] 18) (sq2 (sq1 (sq2 (sq1 (sq2 (sq2 (bodyOf Tryz.f70))))))) _ _
  refine bD (id:=1) ?_
  obtain ⟨h5,h⟩:=h
  refine rDE kr [] [10,16] [(3,.own 5 (List.map zE out++List.take (List.length [FV.pv (Value.int IntKind.u8 y)]) (List.drop (0:Nat) [FV.pv (Value.int IntKind.u8 y)])))] [(3,oL 5 zE (out++[y]))] (obC (show (0:Nat)=(0:Nat)∧List.length (List.map zE out)=List.length (List.map zE out) from ⟨rfl,rfl⟩) (obC (show (List.length (List.map zE out)+List.length (List.take (1:Nat) (List.drop (0:Nat) [FV.pv (Value.int IntKind.u8 y)]))) * (1:Nat)≤(2:Nat) ^ (47:Nat) from by simpa only [nm] using h5) (obC (show List.all (List.take (1:Nat) (List.drop (0:Nat) [FV.pv (Value.int IntKind.u8 y)])) (FV.fits (1:Nat))=true from by first | exact zf0 _ | rfl | simp [isByteF,FV.fits,FV.size,FV.cells,FV.one,]) obN))) ?_
  exact rndE (wkE [] [3] (by rfl)) (by kernel_rfl) ⟨(out++[y]),rfl,h⟩
 ·rintro out hinv
  have h:=hDInv3 out hinv
  refine ⟨[(10,.ptr 11 0),(11,oL 5 zE out)],Wk.pick [10,11] (by kernel_rfl),?_⟩
  show Sem _ _ _ _ _
  refine sDE kk [] [10,11] [(7,.f (FV.sl (List.take (List.length (List.map zE out)) (List.drop (0:Nat) (List.map zE out)))))] [(7,vL zE out)] obN ?_
  refine tD ?_
  obtain he0:=h
  subst res
  exact (endD [] (vL zE out) []).1
set_option maxHeartbeats 1000000 in
theorem W_split_Split (r0:zA) (text:ByteArray) (res:Int)
 (h:(∃ r0_1:List Bool,zbM (zA.Rx r0) text r0_1∧((((↑(List.length r0_1):Int) == 0)=true→(res=0))∧(((↑(List.length r0_1):Int) == 0)=false→(((za.Kind (zA.Trail r0) == 0)=true→((0:Int)≤(↑(ByteArray.size text):Int))∧(ByteArray.size text < List.length r0_1)∧ByteArray.size text < List.length r0_1∧(((List.getD r0_1 (ByteArray.size text) default)=true→(res=((↑(ByteArray.size text):Int))))∧((List.getD r0_1 (ByteArray.size text) default)=false→(res=0))))∧((za.Kind (zA.Trail r0) == 0)=false→(∃ r0_2:Bool,zcq (zA.Trail r0) r0_2∧(((!r0_2)=true→(res=0))∧((!r0_2)=false→(∃ r0_3:za,zbk (zA.Trail r0) r0_3∧(∃ r0_4:List Int,zbp (bytesOf text) r0_4∧(∃ r0_5:List Bool,zcf r0_3 (bytesT (List.map zE r0_4)) r0_5∧(∃ (Inv30:Int→Prop) (mu31:Int→Nat),Inv30 ((↑(ByteArray.size text):Int))∧(∀ (h0:Int),Inv30 h0→(((decide (h0 > (0:Int)))=true→((0:Int)≤h0)∧(Int.toNat h0 < List.length r0_1)∧h0 < ↑(List.length r0_1)∧((gd r0_1 h0)=true→((0:Int)≤w64 ((↑(ByteArray.size text):Int) - h0)))∧((gd r0_1 h0)=true→(Int.toNat (w64 ((↑(ByteArray.size text):Int) - h0)) < List.length r0_5))∧((gd r0_1 h0)=true→w64 ((↑(ByteArray.size text):Int) - h0) < ↑(List.length r0_5))∧(((gd r0_1 h0 && gd r0_5 (w64 ((↑(ByteArray.size text):Int) - h0)))=true→(res=h0))∧((gd r0_1 h0 && gd r0_5 (w64 ((↑(ByteArray.size text):Int) - h0)))=false→(Inv30 (w64 (h0 - 1))∧mu31 (w64 (h0 - 1)) < mu31 h0))))∧((decide (h0 > (0:Int)))=false→(res=0))))))))))))))))):zas r0 text res:=by
 unfold zas
 have kk:=cfOk [28,59] 60
 refine fD (x:=bodyOf Tryz.f33) kk Tryz.func33 ?_
 refine wkS [1,4] [(1,za3 r0),(4,vS text)] (by kernel_rfl) ?_
 refine sD kk [] [1] [(7,.ptr 8 0),(8,za3 r0)] obN ?_
 refine sD kk [] [] [(16,vi ((↑(ByteArray.size text):Int)))] obN ?_
 obtain ⟨r0_1,hc0,h⟩:=h
 refine sD kk [.c (oL 4 zk r0_1) []] [] [(19,oL 4 zk r0_1)] (obC hc0 obN) ?_
 refine qD ?_
 refine bD (id:=0) ?_
 refine sDE kk [] [] [(46,vB ((↑(List.length (List.map zk r0_1)):Int) == 0))] [(46,vB ((↑(List.length r0_1):Int) == 0))] obN ?_
 refine cD (t:=15) (b:=(↑(List.length r0_1):Int) == 0) (fun hb1=>?_) (fun hb1=>?_)
 ·have h:=h.1 hb1
  refine sD kk [] [4,7,8,16,19,46] [(13,vi 0)] obN ?_
  refine tD ?_
  obtain he0:=h
  subst res
  exact (endD [] (vi 0) []).1
 ·have h:=h.2 hb1
  refine sD kk [] [46] [(58,vB (za.Kind (zA.Trail r0) == 0))] obN ?_
  refine cD (t:=19) (b:=za.Kind (zA.Trail r0) == 0) (fun hb2=>?_) (fun hb2=>?_)
  ·have h:=h.1 hb2
   refine qD ?_
   obtain ⟨h3,h⟩:=h
   obtain ⟨h4,h⟩:=h
   obtain ⟨h5,h⟩:=h
   refine sD kk [.e (fB (List.getD r0_1 (ByteArray.size text) default))] [4,7,8,19,58] [(82,vB (List.getD r0_1 (ByteArray.size text) default))] (obC h3 (obC (show Int.toNat (↑(ByteArray.size text):Int) < List.length (List.map zk r0_1) from by simpa only [nm] using h4) (obC (show (List.map zk r0_1)[((0:Nat)+Int.toNat (↑(ByteArray.size text):Int):Nat)]?=some (fB (List.getD r0_1 (ByteArray.size text) default)) from by have:=zbh zk r0_1 (ByteArray.size text) _ rfl h5;simpa only [nm,enq,zk] using this) obN))) ?_
   refine cD (t:=27) (b:=List.getD r0_1 (ByteArray.size text) default) (fun hb6=>?_) (fun hb6=>?_)
   ·have h:=h.1 hb6
    refine sD kk [] [16,82] [(13,vi ((↑(ByteArray.size text):Int)))] obN ?_
    refine tD ?_
    obtain he0:=h
    subst res
    exact (endD [] (vi ((↑(ByteArray.size text):Int))) []).1
   ·have h:=h.2 hb6
    refine Sem.skip' (by kernel_rfl) Wk.refl ?_
    show Sem _ _ _ _ _
    refine wkD [16,82] ?_
    refine sD kk [] [] [(13,vi 0)] obN ?_
    refine tD ?_
    obtain he0:=h
    subst res
    exact (endD [] (vi 0) []).1
  ·have h:=h.2 hb2
   obtain ⟨r0_2,hc7,h⟩:=h
   refine sD kk [.c (vB r0_2) []] [58] [(88,vB (!r0_2))] (obC hc7 obN) ?_
   refine cD (t:=29) (b:=!r0_2) (fun hb8=>?_) (fun hb8=>?_)
   ·have h:=h.1 hb8
    refine sD kk [] [4,7,8,16,19,88] [(13,vi 0)] obN ?_
    refine tD ?_
    obtain he0:=h
    subst res
    exact (endD [] (vi 0) []).1
   ·have h:=h.2 hb8
    refine Sem.skip' (by kernel_rfl) Wk.refl ?_
    show Sem _ _ _ _ _
    refine wkD [88] ?_
    obtain ⟨r0_3,hc9,h⟩:=h
    obtain ⟨r0_4,hc10,h⟩:=h
    obtain ⟨r0_5,hc11,h⟩:=h
    refine sD kk [.c (zm r0_3) [],.c (vL zE r0_4) [],.c (oL 4 zk r0_5) []] [4,7,8] [(22,oL 4 zk r0_5)] (obC hc9 (obC hc10 (obC (show List.all (List.map zE r0_4) isByteF=true from by first | exact zf0 _ | rfl | simp [isByteF,FV.fits,FV.size,FV.cells,FV.one,zE]) (obC hc11 obN)))) ?_
    refine qD ?_
    refine sD kk [] [] [(25,vi ((↑(ByteArray.size text):Int)))] obN ?_
    refine bD (id:=1) ?_
    obtain ⟨Inv30,mu31,h0Inv30,hInv30⟩:=h
    refine loD (fun (q:Int)=>(fun (h0:Int)=>([(16,vi ((↑(ByteArray.size text):Int))),(19,oL 4 zk r0_1),(22,oL 4 zk r0_5),(25,vi h0)]:Sta)) q) (fun (q:Int)=>Inv30 q) (fun (q:Int)=>mu31 q) ((↑(ByteArray.size text):Int)) [] h0Inv30 ?_
    rintro h0 hi
    have h:=hInv30 h0 hi
    refine qD ?_
    refine sD kk [] [] [(133,vB (decide (h0 > (0:Int))))] obN ?_
    refine cD (t:=44) (b:=decide (h0 > (0:Int))) (fun hb32=>?_) (fun hb32=>?_)
    ·have h:=h.1 hb32
     refine Sem.skip' (by kernel_rfl) Wk.refl ?_
     show Sem _ _ _ _ _
     refine wkD [133] ?_
     refine qD ?_
     refine bD (id:=2) ?_
     obtain ⟨h33,h⟩:=h
     obtain ⟨h34,h⟩:=h
     obtain ⟨h35,h⟩:=h
     obtain ⟨h37,h38,h39,h⟩:=h
     refine sM [] [(175,vB (gd r0_1 h0 && gd r0_5 (w64 ((↑(ByteArray.size text):Int) - h0))))] ?_ (fun hk0=>?_)
     ·refine cD (t:=58) (b:=gd r0_1 h0 && gd r0_5 (w64 ((↑(ByteArray.size text):Int) - h0))) (fun hb40=>?_) (fun hb40=>?_)
      ·have h:=h.1 hb40
       refine sD kk [] [16,19,22,25,175] [(13,vi h0)] obN ?_
       refine tD ?_
       obtain he0:=h
       subst res
       exact (endD [] (vi h0) []).1
      ·have h:=h.2 hb40
       refine Sem.skip' (by kernel_rfl) Wk.refl ?_
       show Sem _ _ _ _ _
       refine wkD [175] ?_
       refine rD kk [] [] [(25,vi (w64 (h0 - 1)))] obN ?_
       exact lD (w64 (h0 - 1)) [] h
     ·rcases Bool.eq_false_or_eq_true (gd r0_1 h0) with hb36 | hb36
      ·refine sD kk [.e (fB (gd r0_1 h0)),bT,bT,bT,bT,bT,bT,.e (fB (gd r0_5 (w64 ((↑(ByteArray.size text):Int) - h0)))),bT] [] [(175,vB (gd r0_5 (w64 ((↑(ByteArray.size text):Int) - h0))))] (obC h33 (obC (show Int.toNat h0 < List.length (List.map zk r0_1) from by simpa only [nm] using h34) (obC (show (List.map zk r0_1)[((0:Nat)+Int.toNat h0:Nat)]?=some (fB (gd r0_1 h0)) from by have:=zL zk r0_1 h0 _ rfl h33 h35;simpa only [nm,enq,zk] using this) (obC (gtt hb36) (obC (gtt hb36) (obC (gtt hb36) (obC (gtt hb36) (obC (gtt hb36) (obC (h37 hb36) (obC (show Int.toNat (w64 ((↑(ByteArray.size text):Int) - h0)) < List.length (List.map zk r0_5) from by simpa only [nm] using (h38 hb36)) (obC (gtt hb36) (obC (show (List.map zk r0_5)[((0:Nat)+Int.toNat (w64 ((↑(ByteArray.size text):Int) - h0)):Nat)]?=some (fB (gd r0_5 (w64 ((↑(ByteArray.size text):Int) - h0)))) from by have:=zL zk r0_5 (w64 ((↑(ByteArray.size text):Int) - h0)) _ rfl (h37 hb36) (h39 hb36);simpa only [nm,enq,zk] using this) (obC hb36 obN))))))))))))) ?_
       exact Sem.cast (by try rw [hb36];kernel_rfl) hk0
      ·refine sD kk [.e (fB (gd r0_1 h0)),bF,bF,bF,bF,bF,bF,bF] [] [(175,vB false)] (obC h33 (obC (show Int.toNat h0 < List.length (List.map zk r0_1) from by simpa only [nm] using h34) (obC (show (List.map zk r0_1)[((0:Nat)+Int.toNat h0:Nat)]?=some (fB (gd r0_1 h0)) from by have:=zL zk r0_1 h0 _ rfl h33 h35;simpa only [nm,enq,zk] using this) (obC (gtf hb36) (obC (gtf hb36) (obC (gtf hb36) (obC (gtf hb36) (obC (gtf hb36) (obC (gtf hb36) (obC hb36 obN)))))))))) ?_
       exact Sem.cast (by try rw [hb36];kernel_rfl) hk0
    ·have h:=h.2 hb32
     refine xD (i:=1) ?_
     show Sem _ _ _ _ _
     refine wkD [16,19,22,25,133] ?_
     refine sD kk [] [] [(13,vi 0)] obN ?_
     refine tD ?_
     obtain he0:=h
     subst res
     exact (endD [] (vi 0) []).1
set_option maxHeartbeats 1000000 in
theorem ze1 (res:Bool)
 (h:(∃ r0:za,zaT ((97:Int)) r0∧(∃ r0_1:za,zaT ((98:Int)) r0_1∧(∃ r0_2:za,∃ r0_3:Int,zaQ ({ Kind:=(3:Int),Set:={ e0:=(0:Int),e1:=(0:Int),e2:=(0:Int),e3:=(0:Int) },Lo:=(0:Int),Hi:=(0:Int),Kids:=[r0,{ Kind:=(5:Int),Set:={ e0:=(0:Int),e1:=(0:Int),e2:=(0:Int),e3:=(0:Int) },Lo:=(0:Int),Hi:=(-1:Int),Kids:=[r0_1] }] }) r0_2 r0_3∧(∃ r0_4:za,∃ r0_5:Int,zaQ ({ Kind:=(0:Int),Set:={ e0:=(0:Int),e1:=(0:Int),e2:=(0:Int),e3:=(0:Int) },Lo:=(0:Int),Hi:=(0:Int),Kids:=[] }) r0_4 r0_5∧(∃ r0_6:List Bool,zbM ({ Kind:=(3:Int),Set:={ e0:=(0:Int),e1:=(0:Int),e2:=(0:Int),e3:=(0:Int) },Lo:=(0:Int),Hi:=(0:Int),Kids:=[r0,{ Kind:=(5:Int),Set:={ e0:=(0:Int),e1:=(0:Int),e2:=(0:Int),e3:=(0:Int) },Lo:=(0:Int),Hi:=(-1:Int),Kids:=[r0_1] }] }) ({ data:=#[(97:UInt8),(98:UInt8),(98:UInt8)] }) r0_6∧(((r0_3 == 0)=true→(∃ r0_7:ByteArray,zZ r0_2 r0_7∧(((ByteArray.toList r0_7 == ByteArray.toList { data:=#[(98:UInt8),(123:UInt8),(48:UInt8),(44:UInt8),(125:UInt8),(97:UInt8)] })=true→(((r0_5 == 1)=true→(∃ r0_8:Bool,zK r0_6 ([false,true,true,true]) r0_8∧(((r0_8)=true→(∃ r0_9:za,zaT ((98:Int)) r0_9∧(∃ r0_10:Int,zas ({ Conds:=[],All:=false,Bol:=false,Rx:={ Kind:=(3:Int),Set:={ e0:=(0:Int),e1:=(0:Int),e2:=(0:Int),e3:=(0:Int) },Lo:=(0:Int),Hi:=(0:Int),Kids:=[r0,{ Kind:=(5:Int),Set:={ e0:=(0:Int),e1:=(0:Int),e2:=(0:Int),e3:=(0:Int) },Lo:=(0:Int),Hi:=(-1:Int),Kids:=[r0_1] }] },Trail:=r0_9,Eof:=false,Act:=(0:Int),To:=(0:Int) }) ({ data:=#[(97:UInt8),(98:UInt8),(98:UInt8)] }) r0_10∧(((r0_10 == (2:Int))=true→(∃ r0_11:Int,zas ({ Conds:=[],All:=false,Bol:=false,Rx:={ Kind:=(3:Int),Set:={ e0:=(0:Int),e1:=(0:Int),e2:=(0:Int),e3:=(0:Int) },Lo:=(0:Int),Hi:=(0:Int),Kids:=[r0,{ Kind:=(5:Int),Set:={ e0:=(0:Int),e1:=(0:Int),e2:=(0:Int),e3:=(0:Int) },Lo:=(0:Int),Hi:=(-1:Int),Kids:=[r0_1] }] },Trail:={ Kind:=(0:Int),Set:={ e0:=(0:Int),e1:=(0:Int),e2:=(0:Int),e3:=(0:Int) },Lo:=(0:Int),Hi:=(0:Int),Kids:=[] },Eof:=false,Act:=(0:Int),To:=(0:Int) }) ({ data:=#[(97:UInt8),(98:UInt8),(98:UInt8)] }) r0_11∧(res=(r0_11 == (3:Int)))))∧((r0_10 == (2:Int))=false→(res=false))))))∧((r0_8)=false→(res=false)))))∧((r0_5 == 1)=false→(res=false))))∧((ByteArray.toList r0_7 == ByteArray.toList { data:=#[(98:UInt8),(123:UInt8),(48:UInt8),(44:UInt8),(125:UInt8),(97:UInt8)] })=false→(res=false)))))∧((r0_3 == 0)=false→(res=false))))))))):zbv res:=by
 unfold zbv
 have kk:=cfOk [] 54
 refine fD (x:=bodyOf Tryz.f11) kk Tryz.func11 ?_
 refine wkS [] [] (by kernel_rfl) ?_
 refine sD kk [] [] [] obN ?_
 obtain ⟨r0,hc0,h⟩:=h
 obtain ⟨r0_1,hc1,h⟩:=h
 refine sDE kk [.c (zS r0) [],.c (zS r0_1) []] [] [(4,.ptr 5 0),(5,.agg [vi 3,vI .u64 0,vI .u64 0,vI .u64 0,vI .u64 0,vi 0,vi 0,.f (FV.sl (List.take (List.length [FV.agg [FV.pv (Value.int IntKind.i64 (za.Kind r0)),FV.pv (Value.int IntKind.u64 (zb.e0 (za.Set r0))),FV.pv (Value.int IntKind.u64 (zb.e1 (za.Set r0))),FV.pv (Value.int IntKind.u64 (zb.e2 (za.Set r0))),FV.pv (Value.int IntKind.u64 (zb.e3 (za.Set r0))),FV.pv (Value.int IntKind.i64 (za.Lo r0)),FV.pv (Value.int IntKind.i64 (za.Hi r0)),FV.sl (List.take (List.length (List.map ze (za.Kids r0))) (List.drop (0:Nat) (List.map ze (za.Kids r0))))],FV.agg [FV.pv (Value.int IntKind.i64 (5)),FV.pv (Value.int IntKind.u64 (0)),FV.pv (Value.int IntKind.u64 (0)),FV.pv (Value.int IntKind.u64 (0)),FV.pv (Value.int IntKind.u64 (0)),FV.pv (Value.int IntKind.i64 (0)),FV.pv (Value.int IntKind.i64 (-1)),FV.sl (List.take (List.length [FV.agg [FV.pv (Value.int IntKind.i64 (za.Kind r0_1)),FV.pv (Value.int IntKind.u64 (zb.e0 (za.Set r0_1))),FV.pv (Value.int IntKind.u64 (zb.e1 (za.Set r0_1))),FV.pv (Value.int IntKind.u64 (zb.e2 (za.Set r0_1))),FV.pv (Value.int IntKind.u64 (zb.e3 (za.Set r0_1))),FV.pv (Value.int IntKind.i64 (za.Lo r0_1)),FV.pv (Value.int IntKind.i64 (za.Hi r0_1)),FV.sl (List.take (List.length (List.map ze (za.Kids r0_1))) (List.drop (0:Nat) (List.map ze (za.Kids r0_1))))]]) (List.drop (0:Nat) [FV.agg [FV.pv (Value.int IntKind.i64 (za.Kind r0_1)),FV.pv (Value.int IntKind.u64 (zb.e0 (za.Set r0_1))),FV.pv (Value.int IntKind.u64 (zb.e1 (za.Set r0_1))),FV.pv (Value.int IntKind.u64 (zb.e2 (za.Set r0_1))),FV.pv (Value.int IntKind.u64 (zb.e3 (za.Set r0_1))),FV.pv (Value.int IntKind.i64 (za.Lo r0_1)),FV.pv (Value.int IntKind.i64 (za.Hi r0_1)),FV.sl (List.take (List.length (List.map ze (za.Kids r0_1))) (List.drop (0:Nat) (List.map ze (za.Kids r0_1))))]]))]]) (List.drop (0:Nat) [FV.agg [FV.pv (Value.int IntKind.i64 (za.Kind r0)),FV.pv (Value.int IntKind.u64 (zb.e0 (za.Set r0))),FV.pv (Value.int IntKind.u64 (zb.e1 (za.Set r0))),FV.pv (Value.int IntKind.u64 (zb.e2 (za.Set r0))),FV.pv (Value.int IntKind.u64 (zb.e3 (za.Set r0))),FV.pv (Value.int IntKind.i64 (za.Lo r0)),FV.pv (Value.int IntKind.i64 (za.Hi r0)),FV.sl (List.take (List.length (List.map ze (za.Kids r0))) (List.drop (0:Nat) (List.map ze (za.Kids r0))))],FV.agg [FV.pv (Value.int IntKind.i64 (5)),FV.pv (Value.int IntKind.u64 (0)),FV.pv (Value.int IntKind.u64 (0)),FV.pv (Value.int IntKind.u64 (0)),FV.pv (Value.int IntKind.u64 (0)),FV.pv (Value.int IntKind.i64 (0)),FV.pv (Value.int IntKind.i64 (-1)),FV.sl (List.take (List.length [FV.agg [FV.pv (Value.int IntKind.i64 (za.Kind r0_1)),FV.pv (Value.int IntKind.u64 (zb.e0 (za.Set r0_1))),FV.pv (Value.int IntKind.u64 (zb.e1 (za.Set r0_1))),FV.pv (Value.int IntKind.u64 (zb.e2 (za.Set r0_1))),FV.pv (Value.int IntKind.u64 (zb.e3 (za.Set r0_1))),FV.pv (Value.int IntKind.i64 (za.Lo r0_1)),FV.pv (Value.int IntKind.i64 (za.Hi r0_1)),FV.sl (List.take (List.length (List.map ze (za.Kids r0_1))) (List.drop (0:Nat) (List.map ze (za.Kids r0_1))))]]) (List.drop (0:Nat) [FV.agg [FV.pv (Value.int IntKind.i64 (za.Kind r0_1)),FV.pv (Value.int IntKind.u64 (zb.e0 (za.Set r0_1))),FV.pv (Value.int IntKind.u64 (zb.e1 (za.Set r0_1))),FV.pv (Value.int IntKind.u64 (zb.e2 (za.Set r0_1))),FV.pv (Value.int IntKind.u64 (zb.e3 (za.Set r0_1))),FV.pv (Value.int IntKind.i64 (za.Lo r0_1)),FV.pv (Value.int IntKind.i64 (za.Hi r0_1)),FV.sl (List.take (List.length (List.map ze (za.Kids r0_1))) (List.drop (0:Nat) (List.map ze (za.Kids r0_1))))]]))]])))])] [(4,.ptr 5 0),(5,.agg [vi 3,vI .u64 0,vI .u64 0,vI .u64 0,vI .u64 0,vi 0,vi 0,vL ze ([r0,{ Kind:=(5:Int),Set:={ e0:=(0:Int),e1:=(0:Int),e2:=(0:Int),e3:=(0:Int) },Lo:=(0:Int),Hi:=(-1:Int),Kids:=[r0_1] }])])] (obC hc0 (obC hc1 obN)) ?_
 obtain ⟨r0_2,r0_3,hc2,h⟩:=h
 refine sD kk [.c (.tup [zm r0_2,vi r0_3]) []] [] [(7,.ptr 8 0),(8,zm r0_2),(10,vi r0_3)] (obC hc2 obN) ?_
 obtain ⟨r0_4,r0_5,hc3,h⟩:=h
 refine sD kk [.c (.tup [zm r0_4,vi r0_5]) []] [] [(16,vi r0_5)] (obC (Eq.mp (by unfold zaQ;(try simp only [List.drop_zero,List.take_length]);first | done | simp only [nm,enq]:zaQ ({ Kind:=(0:Int),Set:={ e0:=(0:Int),e1:=(0:Int),e2:=(0:Int),e3:=(0:Int) },Lo:=(0:Int),Hi:=(0:Int),Kids:=[] }) r0_4 r0_5=CallE Tryz.prog 29 [.agg [vi 0,vI .u64 0,vI .u64 0,vI .u64 0,vI .u64 0,vi 0,vi 0,.f (FV.sl [])]] [] (.tup [zm r0_4,vi r0_5]) []) hc3) obN) ?_
 obtain ⟨r0_6,hc4,h⟩:=h
 refine sD kk [.c (oL 4 zk r0_6) []] [] [(19,oL 4 zk r0_6)] (obC hc4 obN) ?_
 rcases Bool.eq_false_or_eq_true (r0_3 == 0) with hb5 | hb5
 ·have h:=h.1 hb5
  obtain ⟨r0_7,hc6,h⟩:=h
  rcases Bool.eq_false_or_eq_true (ByteArray.toList r0_7 == ByteArray.toList { data:=#[(98:UInt8),(123:UInt8),(48:UInt8),(44:UInt8),(125:UInt8),(97:UInt8)] }) with hb7 | hb7
  ·have h:=h.1 hb7
   rcases Bool.eq_false_or_eq_true (r0_5 == 1) with hb8 | hb8
   ·have h:=h.1 hb8
    obtain ⟨r0_8,hc9,h⟩:=h
    rcases Bool.eq_false_or_eq_true (r0_8) with hb10 | hb10
    ·have h:=h.1 hb10
     obtain ⟨r0_9,hc11,h⟩:=h
     obtain ⟨r0_10,hc12,h⟩:=h
     rcases Bool.eq_false_or_eq_true (r0_10 == (2:Int)) with hb13 | hb13
     ·have h:=h.1 hb13
      obtain ⟨r0_11,hc14,h⟩:=h
      refine sD kk [bT,bT,.c (vS r0_7) [],bT,bT,bT,bT,bT,bT,bT,bT,.c (vB r0_8) [],bT,bT,bT,.c (zS r0_9) [],bT,bT,.c (vi r0_10) [],bT,bT,bT,bT,bT,.c (vi r0_11) [],bT,bT] [4,5,7,8,10,16,19] [(1,vB (r0_11 == (3:Int)))] (obC (gtt hb5) (obC (gtt hb5) (obC hc6 (obC (gtt hb5) (obC hb5 (obC (gtt hb7) (obC (gtt hb7) (obC hb7 (obC (gtt hb8) (obC (gtt hb8) (obC (gtt hb8) (obC (Eq.mp (by unfold zK;(try simp only [List.drop_zero,List.take_length]);first | done | simp only [nm,enq]:zK r0_6 ([false,true,true,true]) r0_8=CallE Tryz.prog 32 [.f (FV.sl (List.take (List.length (List.map zk r0_6)) (List.drop (0:Nat) (List.map zk r0_6)))),.f (FV.sl (List.take (List.length [FV.pv (Value.bool false),FV.pv (Value.bool true),FV.pv (Value.bool true),FV.pv (Value.bool true)]) (List.drop (0:Nat) [FV.pv (Value.bool false),FV.pv (Value.bool true),FV.pv (Value.bool true),FV.pv (Value.bool true)])))] [] (vB r0_8) []) hc9) (obC hb8 (obC (gtt hb10) (obC (gtt hb10) (obC hc11 (obC (gtt hb10) (obC (gtt hb10) (obC (Eq.mp (by unfold zas;(try simp only [List.drop_zero,List.take_length]);first | done | simp only [nm,enq]:zas ({ Conds:=[],All:=false,Bol:=false,Rx:={ Kind:=(3:Int),Set:={ e0:=(0:Int),e1:=(0:Int),e2:=(0:Int),e3:=(0:Int) },Lo:=(0:Int),Hi:=(0:Int),Kids:=[r0,{ Kind:=(5:Int),Set:={ e0:=(0:Int),e1:=(0:Int),e2:=(0:Int),e3:=(0:Int) },Lo:=(0:Int),Hi:=(-1:Int),Kids:=[r0_1] }] },Trail:=r0_9,Eof:=false,Act:=(0:Int),To:=(0:Int) }) ({ data:=#[(97:UInt8),(98:UInt8),(98:UInt8)] }) r0_10=CallE Tryz.prog 33 [.agg [.f (FV.sl []),vB false,vB false,vi 3,vI .u64 0,vI .u64 0,vI .u64 0,vI .u64 0,vi 0,vi 0,vL ze ([r0,{ Kind:=(5:Int),Set:={ e0:=(0:Int),e1:=(0:Int),e2:=(0:Int),e3:=(0:Int) },Lo:=(0:Int),Hi:=(-1:Int),Kids:=[r0_1] }]),vi (za.Kind r0_9),vI .u64 (zb.e0 (za.Set r0_9)),vI .u64 (zb.e1 (za.Set r0_9)),vI .u64 (zb.e2 (za.Set r0_9)),vI .u64 (zb.e3 (za.Set r0_9)),vi (za.Lo r0_9),vi (za.Hi r0_9),.f (FV.sl (List.take (List.length (List.map ze (za.Kids r0_9))) (List.drop (0:Nat) (List.map ze (za.Kids r0_9))))),vB false,vi 0,vi 0],vS ({ data:=#[(97:UInt8),(98:UInt8),(98:UInt8)] })] [] (vi r0_10) []) hc12) (obC (gtt hb10) (obC hb10 (obC (gtt hb13) (obC (gtt hb13) (obC (gtt hb13) (obC (Eq.mp (by unfold zas;(try simp only [List.drop_zero,List.take_length]);first | done | simp only [nm,enq]:zas ({ Conds:=[],All:=false,Bol:=false,Rx:={ Kind:=(3:Int),Set:={ e0:=(0:Int),e1:=(0:Int),e2:=(0:Int),e3:=(0:Int) },Lo:=(0:Int),Hi:=(0:Int),Kids:=[r0,{ Kind:=(5:Int),Set:={ e0:=(0:Int),e1:=(0:Int),e2:=(0:Int),e3:=(0:Int) },Lo:=(0:Int),Hi:=(-1:Int),Kids:=[r0_1] }] },Trail:={ Kind:=(0:Int),Set:={ e0:=(0:Int),e1:=(0:Int),e2:=(0:Int),e3:=(0:Int) },Lo:=(0:Int),Hi:=(0:Int),Kids:=[] },Eof:=false,Act:=(0:Int),To:=(0:Int) }) ({ data:=#[(97:UInt8),(98:UInt8),(98:UInt8)] }) r0_11=CallE Tryz.prog 33 [.agg [.f (FV.sl []),vB false,vB false,vi 3,vI .u64 0,vI .u64 0,vI .u64 0,vI .u64 0,vi 0,vi 0,vL ze ([r0,{ Kind:=(5:Int),Set:={ e0:=(0:Int),e1:=(0:Int),e2:=(0:Int),e3:=(0:Int) },Lo:=(0:Int),Hi:=(-1:Int),Kids:=[r0_1] }]),vi 0,vI .u64 0,vI .u64 0,vI .u64 0,vI .u64 0,vi 0,vi 0,.f (FV.sl []),vB false,vi 0,vi 0],vS ({ data:=#[(97:UInt8),(98:UInt8),(98:UInt8)] })] [] (vi r0_11) []) hc14) (obC (gtt hb13) (obC hb13 obN))))))))))))))))))))))))))) ?_
      refine tD ?_
      obtain he0:=h
      subst res
      exact (endD [] (vB (r0_11 == (3:Int))) []).1
     ·have h:=h.2 hb13
      refine sD kk [bT,bT,.c (vS r0_7) [],bT,bT,bT,bT,bT,bT,bT,bT,.c (vB r0_8) [],bT,bT,bT,.c (zS r0_9) [],bT,bT,.c (vi r0_10) [],bT,bT,bF,bF,bF,bF,bF] [4,5,7,8,10,16,19] [(1,vB false)] (obC (gtt hb5) (obC (gtt hb5) (obC hc6 (obC (gtt hb5) (obC hb5 (obC (gtt hb7) (obC (gtt hb7) (obC hb7 (obC (gtt hb8) (obC (gtt hb8) (obC (gtt hb8) (obC (Eq.mp (by unfold zK;(try simp only [List.drop_zero,List.take_length]);first | done | simp only [nm,enq]:zK r0_6 ([false,true,true,true]) r0_8=CallE Tryz.prog 32 [.f (FV.sl (List.take (List.length (List.map zk r0_6)) (List.drop (0:Nat) (List.map zk r0_6)))),.f (FV.sl (List.take (List.length [FV.pv (Value.bool false),FV.pv (Value.bool true),FV.pv (Value.bool true),FV.pv (Value.bool true)]) (List.drop (0:Nat) [FV.pv (Value.bool false),FV.pv (Value.bool true),FV.pv (Value.bool true),FV.pv (Value.bool true)])))] [] (vB r0_8) []) hc9) (obC hb8 (obC (gtt hb10) (obC (gtt hb10) (obC hc11 (obC (gtt hb10) (obC (gtt hb10) (obC (Eq.mp (by unfold zas;(try simp only [List.drop_zero,List.take_length]);first | done | simp only [nm,enq]:zas ({ Conds:=[],All:=false,Bol:=false,Rx:={ Kind:=(3:Int),Set:={ e0:=(0:Int),e1:=(0:Int),e2:=(0:Int),e3:=(0:Int) },Lo:=(0:Int),Hi:=(0:Int),Kids:=[r0,{ Kind:=(5:Int),Set:={ e0:=(0:Int),e1:=(0:Int),e2:=(0:Int),e3:=(0:Int) },Lo:=(0:Int),Hi:=(-1:Int),Kids:=[r0_1] }] },Trail:=r0_9,Eof:=false,Act:=(0:Int),To:=(0:Int) }) ({ data:=#[(97:UInt8),(98:UInt8),(98:UInt8)] }) r0_10=CallE Tryz.prog 33 [.agg [.f (FV.sl []),vB false,vB false,vi 3,vI .u64 0,vI .u64 0,vI .u64 0,vI .u64 0,vi 0,vi 0,vL ze ([r0,{ Kind:=(5:Int),Set:={ e0:=(0:Int),e1:=(0:Int),e2:=(0:Int),e3:=(0:Int) },Lo:=(0:Int),Hi:=(-1:Int),Kids:=[r0_1] }]),vi (za.Kind r0_9),vI .u64 (zb.e0 (za.Set r0_9)),vI .u64 (zb.e1 (za.Set r0_9)),vI .u64 (zb.e2 (za.Set r0_9)),vI .u64 (zb.e3 (za.Set r0_9)),vi (za.Lo r0_9),vi (za.Hi r0_9),.f (FV.sl (List.take (List.length (List.map ze (za.Kids r0_9))) (List.drop (0:Nat) (List.map ze (za.Kids r0_9))))),vB false,vi 0,vi 0],vS ({ data:=#[(97:UInt8),(98:UInt8),(98:UInt8)] })] [] (vi r0_10) []) hc12) (obC (gtt hb10) (obC hb10 (obC (gtf hb13) (obC (gtf hb13) (obC (gtf hb13) (obC (gtf hb13) (obC hb13 obN)))))))))))))))))))))))))) ?_
      refine tD ?_
      obtain he0:=h
      subst res
      exact (endD [] (vB false) []).1
    ·have h:=h.2 hb10
     refine sD kk [bT,bT,.c (vS r0_7) [],bT,bT,bT,bT,bT,bT,bT,bT,.c (vB r0_8) [],bT,bF,bF,bF,bF,bF,bF,bF,bF,bF,bF,bF] [4,5,7,8,10,16,19] [(1,vB false)] (obC (gtt hb5) (obC (gtt hb5) (obC hc6 (obC (gtt hb5) (obC hb5 (obC (gtt hb7) (obC (gtt hb7) (obC hb7 (obC (gtt hb8) (obC (gtt hb8) (obC (gtt hb8) (obC (Eq.mp (by unfold zK;(try simp only [List.drop_zero,List.take_length]);first | done | simp only [nm,enq]:zK r0_6 ([false,true,true,true]) r0_8=CallE Tryz.prog 32 [.f (FV.sl (List.take (List.length (List.map zk r0_6)) (List.drop (0:Nat) (List.map zk r0_6)))),.f (FV.sl (List.take (List.length [FV.pv (Value.bool false),FV.pv (Value.bool true),FV.pv (Value.bool true),FV.pv (Value.bool true)]) (List.drop (0:Nat) [FV.pv (Value.bool false),FV.pv (Value.bool true),FV.pv (Value.bool true),FV.pv (Value.bool true)])))] [] (vB r0_8) []) hc9) (obC hb8 (obC (gtf hb10) (obC (gtf hb10) (obC (gtf hb10) (obC (gtf hb10) (obC (gtf hb10) (obC hb10 (oF (oF (oF (oF (oF obN)))))))))))))))))))))))) ?_
     refine tD ?_
     obtain he0:=h
     subst res
     exact (endD [] (vB false) []).1
   ·have h:=h.2 hb8
    refine sD kk [bT,bT,.c (vS r0_7) [],bT,bT,bT,bT,bT,bF,bF,bF,bF,bF,bF,bF,bF,bF,bF,bF,bF,bF,bF,bF] [4,5,7,8,10,16,19] [(1,vB false)] (obC (gtt hb5) (obC (gtt hb5) (obC hc6 (obC (gtt hb5) (obC hb5 (obC (gtt hb7) (obC (gtt hb7) (obC hb7 (obC (gtf hb8) (obC (gtf hb8) (obC (gtf hb8) (obC hb8 (oF (oF (oF (oF (oF (oF (oF (oF (oF (oF (oF obN))))))))))))))))))))))) ?_
    refine tD ?_
    obtain he0:=h
    subst res
    exact (endD [] (vB false) []).1
  ·have h:=h.2 hb7
   refine sD kk [bT,bT,.c (vS r0_7) [],bT,bT,bF,bF,bF,bF,bF,bF,bF,bF,bF,bF,bF,bF,bF,bF,bF,bF,bF,bF] [4,5,7,8,10,16,19] [(1,vB false)] (obC (gtt hb5) (obC (gtt hb5) (obC hc6 (obC (gtt hb5) (obC hb5 (obC (gtf hb7) (obC (gtf hb7) (obC hb7 (oF (oF (oF (oF (oF (oF (oF (oF (oF (oF (oF (oF (oF (oF (oF obN))))))))))))))))))))))) ?_
   refine tD ?_
   obtain he0:=h
   subst res
   exact (endD [] (vB false) []).1
 ·have h:=h.2 hb5
  refine sD kk [bF,bF,bF,bF,bF,bF,bF,bF,bF,bF,bF,bF,bF,bF,bF,bF,bF,bF,bF,bF,bF,bF] [4,5,7,8,10,16,19] [(1,vB false)] (obC (gtf hb5) (obC (gtf hb5) (obC (gtf hb5) (obC hb5 (oF (oF (oF (oF (oF (oF (oF (oF (oF (oF (oF (oF (oF (oF (oF (oF (oF (oF obN)))))))))))))))))))))) ?_
  refine tD ?_
  obtain he0:=h
  subst res
  exact (endD [] (vB false) []).1
set_option maxHeartbeats 1000000 in
theorem zeW (x:za) (deep:Int) (res:Bool)
 (h:(((decide (deep < (1:Int)))=true→(res=false))∧((decide (deep < (1:Int)))=false→(((za.Kind x == 1)=true→(res=(!!(zb.e0 (za.Set x) == 0 && (zb.e1 (za.Set x) == 0 && (zb.e2 (za.Set x) == 0 && (zb.e3 (za.Set x) == 0 && true)))) && (za.Lo x == 0 && za.Hi x == 0 && (↑(List.length (za.Kids x)):Int) == 0))))∧((za.Kind x == 1)=false→(((za.Kind x == (2:Int))=true→(res=(!(zb.e0 (za.Set x) == 0 && (zb.e1 (za.Set x) == 0 && (zb.e2 (za.Set x) == 0 && (zb.e3 (za.Set x) == 0 && true)))) && (za.Lo x == 0 && za.Hi x == 0 && (↑(List.length (za.Kids x)):Int) == 0))))∧((za.Kind x == (2:Int))=false→(((za.Kind x == (5:Int))=true→(((!!(zb.e0 (za.Set x) == 0 && (zb.e1 (za.Set x) == 0 && (zb.e2 (za.Set x) == 0 && (zb.e3 (za.Set x) == 0 && true)))))=true→(((decide (za.Lo x≥(0:Int)))=true→(((decide (za.Lo x≤(20:Int)))=true→(((za.Hi x == (-1:Int) || decide (za.Hi x≥if true=true then if za.Lo x > (1:Int) then za.Lo x else (1:Int) else if za.Lo x < (1:Int) then za.Lo x else (1:Int)) && decide (za.Hi x≤(20:Int)))=true→((((↑(List.length (List.map ze (za.Kids x))):Int) == 1)=true→((!!(zb.e0 (za.Set x) == 0 && (zb.e1 (za.Set x) == 0 && (zb.e2 (za.Set x) == 0 && (zb.e3 (za.Set x) == 0 && true)))))=true→((decide (za.Lo x≥(0:Int)))=true→((decide (za.Lo x≤(20:Int)))=true→((za.Hi x == (-1:Int) || decide (za.Hi x≥if true=true then if za.Lo x > (1:Int) then za.Lo x else (1:Int) else if za.Lo x < (1:Int) then za.Lo x else (1:Int)) && decide (za.Hi x≤(20:Int)))=true→(((↑(List.length (List.map ze (za.Kids x))):Int) == 1)=true→(0:Nat) < List.length (za.Kids x))))))∧(∃ r0:Bool,zaM (List.getD (za.Kids x) (0:Nat) default) (w64 (deep - 1)) r0∧(res=r0)))∧(((↑(List.length (List.map ze (za.Kids x))):Int) == 1)=false→(res=false))))∧((za.Hi x == (-1:Int) || decide (za.Hi x≥if true=true then if za.Lo x > (1:Int) then za.Lo x else (1:Int) else if za.Lo x < (1:Int) then za.Lo x else (1:Int)) && decide (za.Hi x≤(20:Int)))=false→(res=false))))∧((decide (za.Lo x≤(20:Int)))=false→(res=false))))∧((decide (za.Lo x≥(0:Int)))=false→(res=false))))∧((!!(zb.e0 (za.Set x) == 0 && (zb.e1 (za.Set x) == 0 && (zb.e2 (za.Set x) == 0 && (zb.e3 (za.Set x) == 0 && true)))))=false→(res=false))))∧((za.Kind x == (5:Int))=false→(∃ J19:Bool→Prop,(∀ (t98:Bool),J19 t98→(((t98)=true→(((!(zb.e0 (za.Set x) == 0 && (zb.e1 (za.Set x) == 0 && (zb.e2 (za.Set x) == 0 && (zb.e3 (za.Set x) == 0 && true)))) || (!(za.Lo x == 0 && za.Hi x == 0) || decide ((↑(List.length (za.Kids x)):Int) < (2:Int))))=true→(res=false))∧((!(zb.e0 (za.Set x) == 0 && (zb.e1 (za.Set x) == 0 && (zb.e2 (za.Set x) == 0 && (zb.e3 (za.Set x) == 0 && true)))) || (!(za.Lo x == 0 && za.Hi x == 0) || decide ((↑(List.length (za.Kids x)):Int) < (2:Int))))=false→(∃ (Inv40:Int→Prop) (mu41:Int→Nat),Inv40 0∧(∀ (i:Int),Inv40 i→(((decide (i < (↑(List.length (za.Kids x)):Int)))=true→((0:Int)≤i)∧i < ↑(List.length (za.Kids x))∧(((za.Kind (gd (za.Kids x) i) == za.Kind x)=true→(res=false))∧((za.Kind (gd (za.Kids x) i) == za.Kind x)=false→((za.Kind (gd (za.Kids x) i) == za.Kind x)=false→((0:Int)≤i))∧((za.Kind (gd (za.Kids x) i) == za.Kind x)=false→i < ↑(List.length (za.Kids x)))∧(∃ r0_3:Bool,zaM (gd (za.Kids x) i) (w64 (deep - 1)) r0_3∧(((!r0_3)=true→(res=false))∧((!r0_3)=false→(Inv40 (w64 (i+1))∧mu41 (w64 (i+1)) < mu41 i)))))))∧((decide (i < (↑(List.length (za.Kids x)):Int)))=false→(res=true))))))))∧((t98)=false→(res=false))))∧(((za.Kind x == (3:Int))=true→J19 (za.Kind x == (3:Int)))∧((za.Kind x == (3:Int))=false→J19 (za.Kind x == (4:Int)))))))))))))):zaM x deep res:=by
 unfold zaM
 have kk:=cfOk [] 139
 refine fD (x:=bodyOf Tryz.f108) kk Tryz.func108 ?_
 refine wkS [1,4] [(1,zm x),(4,vi deep)] (by kernel_rfl) ?_
 refine sD kk [] [1] [(7,.ptr 8 0),(8,zm x)] obN ?_
 refine qD ?_
 refine sD kk [] [] [(31,vB (decide (deep < (1:Int))))] obN ?_
 refine cD (t:=10) (b:=decide (deep < (1:Int))) (fun hb0=>?_) (fun hb0=>?_)
 ·have h:=h.1 hb0
  refine sD kk [] [4,7,8,31] [(13,vB false)] obN ?_
  refine tD ?_
  obtain he0:=h
  subst res
  exact (endD [] (vB false) []).1
 ·have h:=h.2 hb0
  refine Sem.skip' (by kernel_rfl) Wk.refl ?_
  show Sem _ _ _ _ _
  refine wkD [31] ?_
  refine sD kk [] [] [(16,vB (!(zb.e0 (za.Set x) == 0 && (zb.e1 (za.Set x) == 0 && (zb.e2 (za.Set x) == 0 && (zb.e3 (za.Set x) == 0 && true))))))] obN ?_
  refine sM [] [(19,vB (za.Lo x == 0 && za.Hi x == 0))] ?_ (fun hk0=>?_)
  ·refine qD ?_
   refine sD kk [] [] [(73,vi (za.Kind x))] obN ?_
   refine bD (id:=0) ?_
   refine sD kk [] [] [(76,vB (za.Kind x == 1))] obN ?_
   refine cD (t:=25) (b:=za.Kind x == 1) (fun hb2=>?_) (fun hb2=>?_)
   ·have h:=h.1 hb2
    refine sM [4,7,8,16,19,73,76] [(13,vB (!!(zb.e0 (za.Set x) == 0 && (zb.e1 (za.Set x) == 0 && (zb.e2 (za.Set x) == 0 && (zb.e3 (za.Set x) == 0 && true)))) && (za.Lo x == 0 && za.Hi x == 0 && (↑(List.length (za.Kids x)):Int) == 0)))] ?_ (fun hk0=>?_)
    ·refine tD ?_
     obtain he0:=h
     subst res
     exact (endD [] (vB (!!(zb.e0 (za.Set x) == 0 && (zb.e1 (za.Set x) == 0 && (zb.e2 (za.Set x) == 0 && (zb.e3 (za.Set x) == 0 && true)))) && (za.Lo x == 0 && za.Hi x == 0 && (↑(List.length (za.Kids x)):Int) == 0))) []).1
    ·rcases Bool.eq_false_or_eq_true (!!(zb.e0 (za.Set x) == 0 && (zb.e1 (za.Set x) == 0 && (zb.e2 (za.Set x) == 0 && (zb.e3 (za.Set x) == 0 && true))))) with hb3 | hb3
     ·rcases Bool.eq_false_or_eq_true (za.Lo x == 0 && za.Hi x == 0) with hb4 | hb4
      ·refine sDE kk [bT,bT,bT,bT,bT,bT,bT] [4,7,8,16,19,73,76] [(13,vB ((↑(List.length (List.map ze (za.Kids x))):Int) == 0))] [(13,vB ((↑(List.length (za.Kids x)):Int) == 0))] (obC (gtt hb3) (obC hb3 (obC (gtt hb4) (obC (gtt hb4) (obC (gtt hb4) (obC (gtt hb4) (obC hb4 obN))))))) ?_
       exact Sem.cast (by try rw [hb3];try rw [hb4];kernel_rfl) hk0
      ·refine sD kk [bT,bT,bF,bF,bF,bF,bF] [4,7,8,16,19,73,76] [(13,vB false)] (obC (gtt hb3) (obC hb3 (obC (gtf hb4) (obC (gtf hb4) (obC (gtf hb4) (obC (gtf hb4) (obC hb4 obN))))))) ?_
       exact Sem.cast (by try rw [hb3];try rw [hb4];kernel_rfl) hk0
     ·refine sD kk [bF,bF,bF,bF,bF,bF,bF] [4,7,8,16,19,73,76] [(13,vB false)] (obC (gtf hb3) (obC hb3 (oF (oF (oF (oF (oF obN))))))) ?_
      exact Sem.cast (by try rw [hb3];kernel_rfl) hk0
   ·have h:=h.2 hb2
    refine sD kk [] [76] [(115,vB (za.Kind x == (2:Int)))] obN ?_
    refine cD (t:=38) (b:=za.Kind x == (2:Int)) (fun hb5=>?_) (fun hb5=>?_)
    ·have h:=h.1 hb5
     refine sM [4,7,8,16,19,73,115] [(13,vB (!(zb.e0 (za.Set x) == 0 && (zb.e1 (za.Set x) == 0 && (zb.e2 (za.Set x) == 0 && (zb.e3 (za.Set x) == 0 && true)))) && (za.Lo x == 0 && za.Hi x == 0 && (↑(List.length (za.Kids x)):Int) == 0)))] ?_ (fun hk0=>?_)
     ·refine tD ?_
      obtain he0:=h
      subst res
      exact (endD [] (vB (!(zb.e0 (za.Set x) == 0 && (zb.e1 (za.Set x) == 0 && (zb.e2 (za.Set x) == 0 && (zb.e3 (za.Set x) == 0 && true)))) && (za.Lo x == 0 && za.Hi x == 0 && (↑(List.length (za.Kids x)):Int) == 0))) []).1
     ·rcases Bool.eq_false_or_eq_true (!(zb.e0 (za.Set x) == 0 && (zb.e1 (za.Set x) == 0 && (zb.e2 (za.Set x) == 0 && (zb.e3 (za.Set x) == 0 && true))))) with hb6 | hb6
      ·rcases Bool.eq_false_or_eq_true (za.Lo x == 0 && za.Hi x == 0) with hb7 | hb7
       ·refine sDE kk [bT,bT,bT,bT,bT,bT,bT] [4,7,8,16,19,73,115] [(13,vB ((↑(List.length (List.map ze (za.Kids x))):Int) == 0))] [(13,vB ((↑(List.length (za.Kids x)):Int) == 0))] (obC (gtt hb6) (obC hb6 (obC (gtt hb7) (obC (gtt hb7) (obC (gtt hb7) (obC (gtt hb7) (obC hb7 obN))))))) ?_
        exact Sem.cast (by try rw [hb6];try rw [hb7];kernel_rfl) hk0
       ·refine sD kk [bT,bT,bF,bF,bF,bF,bF] [4,7,8,16,19,73,115] [(13,vB false)] (obC (gtt hb6) (obC hb6 (obC (gtf hb7) (obC (gtf hb7) (obC (gtf hb7) (obC (gtf hb7) (obC hb7 obN))))))) ?_
        exact Sem.cast (by try rw [hb6];try rw [hb7];kernel_rfl) hk0
      ·refine sD kk [bF,bF,bF,bF,bF,bF,bF] [4,7,8,16,19,73,115] [(13,vB false)] (obC (gtf hb6) (obC hb6 (oF (oF (oF (oF (oF obN))))))) ?_
       exact Sem.cast (by try rw [hb6];kernel_rfl) hk0
    ·have h:=h.2 hb5
     refine sD kk [] [115] [(151,vB (za.Kind x == (5:Int)))] obN ?_
     refine cD (t:=50) (b:=za.Kind x == (5:Int)) (fun hb8=>?_) (fun hb8=>?_)
     ·have h:=h.1 hb8
      refine sM [19,73,151] [(22,vB (za.Hi x == (-1:Int) || decide (za.Hi x≥if true=true then if za.Lo x > (1:Int) then za.Lo x else (1:Int) else if za.Lo x < (1:Int) then za.Lo x else (1:Int)) && decide (za.Hi x≤(20:Int))))] ?_ (fun hk0=>?_)
      ·rcases Bool.eq_false_or_eq_true (!!(zb.e0 (za.Set x) == 0 && (zb.e1 (za.Set x) == 0 && (zb.e2 (za.Set x) == 0 && (zb.e3 (za.Set x) == 0 && true))))) with hb11 | hb11
       ·have h:=h.1 hb11
        rcases Bool.eq_false_or_eq_true (decide (za.Lo x≥(0:Int))) with hb12 | hb12
        ·have h:=h.1 hb12
         rcases Bool.eq_false_or_eq_true (decide (za.Lo x≤(20:Int))) with hb13 | hb13
         ·have h:=h.1 hb13
          rcases Bool.eq_false_or_eq_true (za.Hi x == (-1:Int) || decide (za.Hi x≥if true=true then if za.Lo x > (1:Int) then za.Lo x else (1:Int) else if za.Lo x < (1:Int) then za.Lo x else (1:Int)) && decide (za.Hi x≤(20:Int))) with hb14 | hb14
          ·have h:=h.1 hb14
           rcases Bool.eq_false_or_eq_true ((↑(List.length (List.map ze (za.Kids x))):Int) == 1) with hb15 | hb15
           ·have h:=h.1 hb15
            obtain ⟨h16,h⟩:=h
            obtain ⟨r0,hc17,h⟩:=h
            refine sD kk [bT,bT,bT,bT,bT,bT,bT,bT,bT,bT,bT,bT,bT,bT,bT,bT,bT,bT,.e (zD (List.getD (za.Kids x) (0:Nat) default)),bT,bT,bT,bT,.c (vB r0) [],bT] [4,7,8,16,22] [(13,vB r0)] (obC (gtt hb11) (obC (gtt hb11) (obC (gtt hb11) (obC hb11 (obC (gtt hb12) (obC (gtt hb12) (obC (gtt hb12) (obC hb12 (obC (gtt hb13) (obC hb13 (obC (gtt hb14) (obC (gtt hb14) (obC (gtt hb14) (obC (gtt hb14) (obC hb14 (obC (gtt hb15) (obC (gtt hb15) (obC (gtt hb15) (obC (show (0:Int)≤(0:Int) from by first | decide | rfl | trivial) (obC (show (List.map ze (za.Kids x))[(Int.toNat (0:Int):Nat)]?=some (zD (List.getD (za.Kids x) (0:Nat) default)) from by have:=zbh ze (za.Kids x) ((0:Nat)) _ (zt _) (((((h16 hb11) hb12) hb13) hb14) hb15);simpa only [nm,enq,zt] using this) (obC (gtt hb15) (obC (gtt hb15) (obC (gtt hb15) (obC (gtt hb15) (obC hc17 (obC hb15 obN)))))))))))))))))))))))))) ?_
            refine tD ?_
            obtain he0:=h
            subst res
            exact (endD [] (vB r0) []).1
           ·have h:=h.2 hb15
            refine sD kk [bT,bT,bT,bT,bT,bT,bT,bT,bT,bT,bT,bT,bT,bT,bT,bF,bF,bF,bF,bF,bF,bF,bF] [4,7,8,16,22] [(13,vB false)] (obC (gtt hb11) (obC (gtt hb11) (obC (gtt hb11) (obC hb11 (obC (gtt hb12) (obC (gtt hb12) (obC (gtt hb12) (obC hb12 (obC (gtt hb13) (obC hb13 (obC (gtt hb14) (obC (gtt hb14) (obC (gtt hb14) (obC (gtt hb14) (obC hb14 (obC (gtf hb15) (obC (gtf hb15) (obC (gtf hb15) (obC (gtf hb15) (obC (gtf hb15) (obC (gtf hb15) (obC (gtf hb15) (obC hb15 obN))))))))))))))))))))))) ?_
            refine tD ?_
            obtain he0:=h
            subst res
            exact (endD [] (vB false) []).1
          ·have h:=h.2 hb14
           refine sD kk [bT,bT,bT,bT,bT,bT,bT,bT,bT,bT,bF,bF,bF,bF,bF,bF,bF,bF,bF,bF,bF,bF,bF] [4,7,8,16,22] [(13,vB false)] (obC (gtt hb11) (obC (gtt hb11) (obC (gtt hb11) (obC hb11 (obC (gtt hb12) (obC (gtt hb12) (obC (gtt hb12) (obC hb12 (obC (gtt hb13) (obC hb13 (obC (gtf hb14) (obC (gtf hb14) (obC (gtf hb14) (obC (gtf hb14) (obC hb14 (oF (oF (oF (oF (oF (oF (oF (oF obN))))))))))))))))))))))) ?_
           refine tD ?_
           obtain he0:=h
           subst res
           exact (endD [] (vB false) []).1
         ·have h:=h.2 hb13
          refine sD kk [bT,bT,bT,bT,bT,bT,bT,bT,bF,bF,bF,bF,bF,bF,bF,bF,bF,bF,bF,bF,bF,bF,bF] [4,7,8,16,22] [(13,vB false)] (obC (gtt hb11) (obC (gtt hb11) (obC (gtt hb11) (obC hb11 (obC (gtt hb12) (obC (gtt hb12) (obC (gtt hb12) (obC hb12 (obC (gtf hb13) (obC hb13 (oF (oF (oF (oF (oF (oF (oF (oF (oF (oF (oF (oF (oF obN))))))))))))))))))))))) ?_
          refine tD ?_
          obtain he0:=h
          subst res
          exact (endD [] (vB false) []).1
        ·have h:=h.2 hb12
         refine sD kk [bT,bT,bT,bT,bF,bF,bF,bF,bF,bF,bF,bF,bF,bF,bF,bF,bF,bF,bF,bF,bF,bF,bF] [4,7,8,16,22] [(13,vB false)] (obC (gtt hb11) (obC (gtt hb11) (obC (gtt hb11) (obC hb11 (obC (gtf hb12) (obC (gtf hb12) (obC (gtf hb12) (obC hb12 (oF (oF (oF (oF (oF (oF (oF (oF (oF (oF (oF (oF (oF (oF (oF obN))))))))))))))))))))))) ?_
         refine tD ?_
         obtain he0:=h
         subst res
         exact (endD [] (vB false) []).1
       ·have h:=h.2 hb11
        refine sD kk [bF,bF,bF,bF,bF,bF,bF,bF,bF,bF,bF,bF,bF,bF,bF,bF,bF,bF,bF,bF,bF,bF,bF] [4,7,8,16,22] [(13,vB false)] (obC (gtf hb11) (obC (gtf hb11) (obC (gtf hb11) (obC hb11 (oF (oF (oF (oF (oF (oF (oF (oF (oF (oF (oF (oF (oF (oF (oF (oF (oF (oF (oF obN))))))))))))))))))))))) ?_
        refine tD ?_
        obtain he0:=h
        subst res
        exact (endD [] (vB false) []).1
      ·rcases Bool.eq_false_or_eq_true (za.Hi x == (-1:Int)) with hb9 | hb9
       ·refine sD kk [bF,bF,bF,bF,bF,bF,bF,bF,bT] [19,73,151] [(22,vB true)] (obC (gff hb9) (obC (gff hb9) (obC (gff hb9) (obC (gff hb9) (obC (gff hb9) (obC (gff hb9) (obC (gff hb9) (obC (gff hb9) (obC hb9 obN))))))))) ?_
        exact Sem.cast (by try rw [hb9];kernel_rfl) hk0
       ·rcases Bool.eq_false_or_eq_true (decide (za.Hi x≥if true=true then if za.Lo x > (1:Int) then za.Lo x else (1:Int) else if za.Lo x < (1:Int) then za.Lo x else (1:Int))) with hb10 | hb10
        ·refine sD kk [bT,bT,bT,bT,bT,bT,bT,bT,bT,bT,bT,bT,bF] [19,73,151] [(22,vB (decide (za.Hi x≤(20:Int))))] (obC (gft hb9) (obC (gft hb9) (obC (gft hb9) (obC (gft hb9) (obC (gft hb9) (obC (gft hb9) (obC (gft hb9) (obC (gtt hb10) (obC (gtt hb10) (obC (gtt hb10) (obC (gft hb9) (obC hb10 (obC hb9 obN))))))))))))) ?_
         exact Sem.cast (by try rw [hb9];try rw [hb10];kernel_rfl) hk0
        ·refine sD kk [bT,bT,bT,bT,bT,bT,bT,bF,bF,bF,bT,bF,bF] [19,73,151] [(22,vB false)] (obC (gft hb9) (obC (gft hb9) (obC (gft hb9) (obC (gft hb9) (obC (gft hb9) (obC (gft hb9) (obC (gft hb9) (obC (gtf hb10) (obC (gtf hb10) (obC (gtf hb10) (obC (gft hb9) (obC hb10 (obC hb9 obN))))))))))))) ?_
         exact Sem.cast (by try rw [hb9];try rw [hb10];kernel_rfl) hk0
     ·have h:=h.2 hb8
      obtain ⟨J19,hJ19,h⟩:=h
      refine sjD (fun (q:Bool)=>J19 q) (fun (q:Bool)=>(fun (t98:Bool)=>([(4,vi deep),(7,.ptr 8 0),(8,zm x),(16,vB (!(zb.e0 (za.Set x) == 0 && (zb.e1 (za.Set x) == 0 && (zb.e2 (za.Set x) == 0 && (zb.e3 (za.Set x) == 0 && true)))))),(19,vB (za.Lo x == 0 && za.Hi x == 0)),(295,vB t98)]:Sta)) q) ?_ ?_
      ·rintro t98 hj
       have h:=hJ19 t98 hj
       refine cD (t:=98) (b:=t98) (fun hb20=>?_) (fun hb20=>?_)
       ·have h:=h.1 hb20
        refine qD ?_
        refine sM [16,19,295] [(334,vB (!(zb.e0 (za.Set x) == 0 && (zb.e1 (za.Set x) == 0 && (zb.e2 (za.Set x) == 0 && (zb.e3 (za.Set x) == 0 && true)))) || (!(za.Lo x == 0 && za.Hi x == 0) || decide ((↑(List.length (za.Kids x)):Int) < (2:Int)))))] ?_ (fun hk0=>?_)
        ·refine cD (t:=111) (b:=!(zb.e0 (za.Set x) == 0 && (zb.e1 (za.Set x) == 0 && (zb.e2 (za.Set x) == 0 && (zb.e3 (za.Set x) == 0 && true)))) || (!(za.Lo x == 0 && za.Hi x == 0) || decide ((↑(List.length (za.Kids x)):Int) < (2:Int)))) (fun hb23=>?_) (fun hb23=>?_)
         ·have h:=h.1 hb23
          refine sD kk [] [4,7,8,334] [(13,vB false)] obN ?_
          refine tD ?_
          obtain he0:=h
          subst res
          exact (endD [] (vB false) []).1
         ·have h:=h.2 hb23
          refine Sem.skip' (by kernel_rfl) Wk.refl ?_
          show Sem _ _ _ _ _
          refine wkD [334] ?_
          refine qD ?_
          refine sD kk [] [] [(25,vi 0)] obN ?_
          refine bD (id:=1) ?_
          obtain ⟨Inv40,mu41,h0Inv40,hInv40⟩:=h
          refine loD (fun (q:Int)=>(fun (i:Int)=>([(4,vi deep),(7,.ptr 8 0),(8,zm x),(25,vi i)]:Sta)) q) (fun (q:Int)=>Inv40 q) (fun (q:Int)=>mu41 q) 0 [] h0Inv40 ?_
          rintro i hi
          have h:=hInv40 i hi
          refine qD ?_
          refine sDE kk [] [] [(349,vB (decide (i < (↑(List.length (List.map ze (za.Kids x))):Int))))] [(349,vB (decide (i < (↑(List.length (za.Kids x)):Int))))] obN ?_
          refine cD (t:=116) (b:=decide (i < (↑(List.length (za.Kids x)):Int))) (fun hb42=>?_) (fun hb42=>?_)
          ·have h:=h.1 hb42
           refine Sem.skip' (by kernel_rfl) Wk.refl ?_
           show Sem _ _ _ _ _
           refine wkD [349] ?_
           refine qD ?_
           refine bD (id:=2) ?_
           obtain ⟨h43,h⟩:=h
           obtain ⟨h44,h⟩:=h
           rcases Bool.eq_false_or_eq_true (za.Kind (gd (za.Kids x) i) == za.Kind x) with hb45 | hb45
           ·have h:=h.1 hb45
            refine sD kk [.e (zD (gd (za.Kids x) i)),bF,bF,bF,bF,bF,bF,bF,bF,bF,bT] [] [(415,vB true)] (obC h43 (obC (zL ze (za.Kids x) i _ (zt _) h43 h44) (obC (gff hb45) (obC (gff hb45) (obC (gff hb45) (obC (gff hb45) (obC (gff hb45) (obC (gff hb45) (obC (gff hb45) (obC (gff hb45) (obC (gff hb45) (obC hb45 obN)))))))))))) ?_
            refine cD (t:=138) (b:=true) (fun hb50=>?_) (fun hb50=>?_)
            ·refine sD kk [] [4,7,8,25,415] [(13,vB false)] obN ?_
             refine tD ?_
             obtain he0:=h
             subst res
             exact (endD [] (vB false) []).1
            ·cases hb50
           ·have h:=h.2 hb45
            obtain ⟨h46,h⟩:=h
            obtain ⟨h47,h⟩:=h
            obtain ⟨r0_3,hc48,h⟩:=h
            refine sD kk [.e (zD (gd (za.Kids x) i)),bT,bT,bT,bT,.e (zD (gd (za.Kids x) i)),bT,bT,bT,bT,.c (vB r0_3) [],bT,bF] [] [(415,vB (!r0_3))] (obC h43 (obC (zL ze (za.Kids x) i _ (zt _) h43 h44) (obC (gft hb45) (obC (gft hb45) (obC (gft hb45) (obC (gft hb45) (obC (h46 hb45) (obC (zL ze (za.Kids x) i _ (zt _) (h46 hb45) (h47 hb45)) (obC (gft hb45) (obC (gft hb45) (obC (gft hb45) (obC (gft hb45) (obC hc48 (obC (gft hb45) (obC hb45 obN))))))))))))))) ?_
            refine cD (t:=138) (b:=!r0_3) (fun hb49=>?_) (fun hb49=>?_)
            ·have h:=h.1 hb49
             refine sD kk [] [4,7,8,25,415] [(13,vB false)] obN ?_
             refine tD ?_
             obtain he0:=h
             subst res
             exact (endD [] (vB false) []).1
            ·have h:=h.2 hb49
             refine Sem.skip' (by kernel_rfl) Wk.refl ?_
             show Sem _ _ _ _ _
             refine wkD [415] ?_
             refine rD kk [] [] [(25,vi (w64 (i+1)))] obN ?_
             exact lD (w64 (i+1)) [] h
          ·have h:=h.2 hb42
           refine xD (i:=1) ?_
           show Sem _ _ _ _ _
           refine wkD [4,7,8,25,349] ?_
           refine sD kk [] [] [(13,vB true)] obN ?_
           refine tD ?_
           obtain he0:=h
           subst res
           exact (endD [] (vB true) []).1
        ·rcases Bool.eq_false_or_eq_true (!(zb.e0 (za.Set x) == 0 && (zb.e1 (za.Set x) == 0 && (zb.e2 (za.Set x) == 0 && (zb.e3 (za.Set x) == 0 && true))))) with hb21 | hb21
         ·refine sD kk [bF,bF,bT,bF,bF,bF,bF,bT] [16,19,295] [(334,vB true)] (obC (gff hb21) (obC (gff hb21) (obC hb21 (oF (oF (oF (oF (oT obN)))))))) ?_
          exact Sem.cast (by try rw [hb21];kernel_rfl) hk0
         ·rcases Bool.eq_false_or_eq_true (!(za.Lo x == 0 && za.Hi x == 0)) with hb22 | hb22
          ·refine sD kk [bT,bT,bF,bF,bF,bF,bF,bT] [16,19,295] [(334,vB true)] (obC (gft hb21) (obC (gft hb21) (obC hb21 (obC (gff hb22) (obC (gff hb22) (obC (gff hb22) (obC (gff hb22) (obC hb22 obN)))))))) ?_
           exact Sem.cast (by try rw [hb21];try rw [hb22];kernel_rfl) hk0
          ·refine sDE kk [bT,bT,bF,bT,bT,bT,bT,bF] [16,19,295] [(334,vB (decide ((↑(List.length (List.map ze (za.Kids x))):Int) < (2:Int))))] [(334,vB (decide ((↑(List.length (za.Kids x)):Int) < (2:Int))))] (obC (gft hb21) (obC (gft hb21) (obC hb21 (obC (gft hb22) (obC (gft hb22) (obC (gft hb22) (obC (gft hb22) (obC hb22 obN)))))))) ?_
           exact Sem.cast (by try rw [hb21];try rw [hb22];kernel_rfl) hk0
       ·have h:=h.2 hb20
        refine Sem.skip' (by kernel_rfl) Wk.refl ?_
        show Sem _ _ _ _ _
        refine wkD [4,7,8,16,19,295] ?_
        refine sD kk [] [] [(13,vB false)] obN ?_
        refine tD ?_
        obtain he0:=h
        subst res
        exact (endD [] (vB false) []).1
      ·refine sD kk [] [151] [(295,vB (za.Kind x == (3:Int)))] obN ?_
       refine cD (t:=98) (b:=za.Kind x == (3:Int)) (fun hb51=>?_) (fun hb51=>?_)
       ·have h:=h.1 hb51
        refine Sem.skip' (by kernel_rfl) Wk.refl ?_
        exact jD (za.Kind x == (3:Int)) [] h
       ·have h:=h.2 hb51
        refine rD kk [] [73] [(295,vB (za.Kind x == (4:Int)))] obN ?_
        exact jD (za.Kind x == (4:Int)) [] h
  ·rcases Bool.eq_false_or_eq_true (za.Lo x == 0) with hb1 | hb1
   ·refine sD kk [bT,bT,bT,bT] [] [(19,vB (za.Hi x == 0))] (obC (gtt hb1) (obC (gtt hb1) (obC (gtt hb1) (obC hb1 obN)))) ?_
    exact Sem.cast (by try rw [hb1];kernel_rfl) hk0
   ·refine sD kk [bF,bF,bF,bF] [] [(19,vB false)] (obC (gtf hb1) (obC (gtf hb1) (obC (gtf hb1) (obC hb1 obN)))) ?_
    exact Sem.cast (by try rw [hb1];kernel_rfl) hk0
set_option maxHeartbeats 1000000 in
theorem ze0 (x:za) (most:Int) (res:Int)
 (h:(∃ (Inv9:Int→Int→Prop) (mu10:Int→Int→Nat),Inv9 (w64 (most - 1)) 0∧(∀ (most_1:Int) (i:Int),Inv9 most_1 i→(((decide (i < (↑(List.length (List.map ze (za.Kids x))):Int)) && decide (most_1≥(0:Int)))=true→((0:Int)≤i)∧i < ↑(List.length (za.Kids x))∧(∃ r0_2:Int,zaO (gd (za.Kids x) i) most_1 r0_2∧(Inv9 r0_2 (w64 (i+1))∧mu10 r0_2 (w64 (i+1)) < mu10 most_1 i)))∧((decide (i < (↑(List.length (List.map ze (za.Kids x))):Int)) && decide (most_1≥(0:Int)))=false→(res=most_1)))))):zaO x most res:=by
 unfold zaO
 have kk:=cfOk [26] 27
 refine fD (x:=bodyOf Tryz.f38) kk Tryz.func38 ?_
 refine wkS [1,4] [(1,zm x),(4,vi most)] (by kernel_rfl) ?_
 refine sD kk [] [1] [(7,.ptr 8 0),(8,zm x)] obN ?_
 refine sD kk [] [] [(4,vi (w64 (most - 1)))] obN ?_
 refine qD ?_
 refine sD kk [] [] [(16,vi 0)] obN ?_
 refine bD (id:=0) ?_
 obtain ⟨Inv9,mu10,h0Inv9,hInv9⟩:=h
 refine loD (fun (q:Int×Int)=>(fun (most_1:Int) (i:Int)=>([(4,vi most_1),(7,.ptr 8 0),(8,zm x),(16,vi i)]:Sta)) q.1 q.2) (fun (q:Int×Int)=>Inv9 q.1 q.2) (fun (q:Int×Int)=>mu10 q.1 q.2) ((w64 (most - 1)),0) [] h0Inv9 ?_
 rintro ⟨most_1,i⟩ hi
 have h:=hInv9 most_1 i hi
 refine qD ?_
 refine sM [] [(49,vB (decide (i < (↑(List.length (List.map ze (za.Kids x))):Int)) && decide (most_1≥(0:Int))))] ?_ (fun hk0=>?_)
 ·refine cD (t:=16) (b:=decide (i < (↑(List.length (List.map ze (za.Kids x))):Int)) && decide (most_1≥(0:Int))) (fun hb12=>?_) (fun hb12=>?_)
  ·have h:=h.1 hb12
   refine Sem.skip' (by kernel_rfl) Wk.refl ?_
   show Sem _ _ _ _ _
   refine wkD [49] ?_
   refine qD ?_
   refine bD (id:=1) ?_
   obtain ⟨h13,h⟩:=h
   obtain ⟨h14,h⟩:=h
   obtain ⟨r0_2,hc15,h⟩:=h
   refine rD kk [.e (zD (gd (za.Kids x) i)),.c (vi r0_2) []] [] [(4,vi r0_2)] (obC h13 (obC (zL ze (za.Kids x) i _ (zt _) h13 h14) (obC hc15 obN))) ?_
   show Sem _ _ _ _ _
   refine rD kk [] [] [(16,vi (w64 (i+1)))] obN ?_
   exact lD (r0_2,(w64 (i+1))) [] h
  ·have h:=h.2 hb12
   refine xD (i:=0) ?_
   show Sem _ _ _ _ _
   refine wkD [7,8,16,49] ?_
   refine sD kk [] [4] [(13,vi most_1)] obN ?_
   refine tD ?_
   obtain he0:=h
   subst res
   exact (endD [] (vi most_1) []).1
 ·rcases Bool.eq_false_or_eq_true (decide (i < (↑(List.length (List.map ze (za.Kids x))):Int))) with hb11 | hb11
  ·refine sD kk [bT,bT,bT] [] [(49,vB (decide (most_1≥(0:Int))))] (obC (gtt hb11) (obC (gtt hb11) (obC hb11 obN))) ?_
   exact Sem.cast (by try rw [hb11];kernel_rfl) hk0
  ·refine sD kk [bF,bF,bF] [] [(49,vB false)] (obC (gtf hb11) (obC (gtf hb11) (obC hb11 obN))) ?_
   exact Sem.cast (by try rw [hb11];kernel_rfl) hk0
set_option maxHeartbeats 1000000 in
theorem zeY (x:za) (res:Bool)
 (h:(∃ r0:Bool,zaM x 20 r0∧(((r0)=true→(∃ r0_1:Int,zah x r0_1∧(((decide (r0_1≤(200:Int)))=true→(∃ r0_2:Int,zaO x ((1000:Int)) r0_2∧(res=(decide (r0_2≥(0:Int))))))∧((decide (r0_1≤(200:Int)))=false→(res=false)))))∧((r0)=false→(res=false))))):zaN x res:=by
 unfold zaN
 have kk:=cfOk [] 15
 refine fD (x:=bodyOf Tryz.f71) kk Tryz.func71 ?_
 refine wkS [1] [(1,zm x)] (by kernel_rfl) ?_
 refine sD kk [] [1] [(4,.ptr 5 0),(5,zm x)] obN ?_
 obtain ⟨r0,hc0,h⟩:=h
 rcases Bool.eq_false_or_eq_true (r0) with hb1 | hb1
 ·have h:=h.1 hb1
  obtain ⟨r0_1,hc2,h⟩:=h
  rcases Bool.eq_false_or_eq_true (decide (r0_1≤(200:Int))) with hb3 | hb3
  ·have h:=h.1 hb3
   obtain ⟨r0_2,hc4,h⟩:=h
   refine sD kk [.c (vB r0) [],bT,bT,.c (vi r0_1) [],bT,bT,bT,bT,.c (vi r0_2) [],bT,bT] [4,5] [(7,vB (decide (r0_2≥(0:Int))))] (obC hc0 (obC (gtt hb1) (obC (gtt hb1) (obC hc2 (obC (gtt hb1) (obC hb1 (obC (gtt hb3) (obC (gtt hb3) (obC hc4 (obC (gtt hb3) (obC hb3 obN))))))))))) ?_
   refine tD ?_
   obtain he0:=h
   subst res
   exact (endD [] (vB (decide (r0_2≥(0:Int)))) []).1
  ·have h:=h.2 hb3
   refine sD kk [.c (vB r0) [],bT,bT,.c (vi r0_1) [],bT,bT,bF,bF,bF,bF] [4,5] [(7,vB false)] (obC hc0 (obC (gtt hb1) (obC (gtt hb1) (obC hc2 (obC (gtt hb1) (obC hb1 (obC (gtf hb3) (obC (gtf hb3) (obC (gtf hb3) (obC hb3 obN)))))))))) ?_
   refine tD ?_
   obtain he0:=h
   subst res
   exact (endD [] (vB false) []).1
 ·have h:=h.2 hb1
  refine sD kk [.c (vB r0) [],bF,bF,bF,bF,bF,bF,bF,bF] [4,5] [(7,vB false)] (obC hc0 (obC (gtf hb1) (obC (gtf hb1) (obC (gtf hb1) (obC hb1 (oF (oF (oF (oF obN))))))))) ?_
  refine tD ?_
  obtain he0:=h
  subst res
  exact (endD [] (vB false) []).1
set_option maxHeartbeats 1000000 in
theorem zd6 (x:za) (res:za)
 (h:(∃ (Inv15:List za→Int→Prop) (mu16:List za→Int→Nat),Inv15 ([]) 0∧(∀ (out_Kids:List za) (i:Int),Inv15 out_Kids i→(((decide (i < (↑(List.length (za.Kids x)):Int)))=true→(∃ J19:Int→Prop,(∀ (k_2:Int),J19 k_2→((0:Int)≤k_2)∧k_2 < ↑(List.length (za.Kids x))∧(∃ r0_2:za,zaR (gd (za.Kids x) k_2) r0_2∧((List.length out_Kids+(1:Nat)) * (80:Nat)≤(2:Nat) ^ (47:Nat))∧(Inv15 (out_Kids++[r0_2]) (w64 (i+1))∧mu16 (out_Kids++[r0_2]) (w64 (i+1)) < mu16 out_Kids i)))∧(((za.Kind x == (3:Int))=true→J19 (w64 (w64 ((↑(List.length (za.Kids x)):Int) - 1) - i)))∧((za.Kind x == (3:Int))=false→J19 i))))∧((decide (i < (↑(List.length (za.Kids x)):Int)))=false→(res=({ Kind:=za.Kind x,Set:=za.Set x,Lo:=za.Lo x,Hi:=za.Hi x,Kids:=out_Kids }))))))):zaR x res:=by
 unfold zaR
 have kk:=cfOk [43] 44
 refine fD (x:=bodyOf Tryz.f72) kk Tryz.func72 ?_
 refine wkS [1] [(1,zm x)] (by kernel_rfl) ?_
 refine sDE kk [] [1] [(4,.ptr 5 0),(5,zm x),(7,.ptr 8 0),(8,.agg [vi 0,vI .u64 0,vI .u64 0,vI .u64 0,vI .u64 0,vi 0,vi 0,.own 28 ([])])] [(4,.ptr 5 0),(5,zm x),(7,.ptr 8 0),(8,.agg [vi 0,vI .u64 0,vI .u64 0,vI .u64 0,vI .u64 0,vi 0,vi 0,oL 28 ze ([])])] obN ?_
 refine sDE kk [] [] [(10,.ptr 11 0),(11,.agg [vi (za.Kind x),vI .u64 (zb.e0 (za.Set x)),vI .u64 (zb.e1 (za.Set x)),vI .u64 (zb.e2 (za.Set x)),vI .u64 (zb.e3 (za.Set x)),vi (za.Lo x),vi (za.Hi x),.own 28 ([])])] [(10,.ptr 11 0),(11,.agg [vi (za.Kind x),vI .u64 (zb.e0 (za.Set x)),vI .u64 (zb.e1 (za.Set x)),vI .u64 (zb.e2 (za.Set x)),vI .u64 (zb.e3 (za.Set x)),vi (za.Lo x),vi (za.Hi x),oL 28 ze ([])])] obN ?_
 refine qD ?_
 refine sD kk [] [] [(13,vi 0)] obN ?_
 refine bD (id:=0) ?_
 obtain ⟨Inv15,mu16,h0Inv15,hInv15⟩:=h
 refine loD (fun (q:List za×Int)=>(fun (out_Kids:List za) (i:Int)=>([(4,.ptr 5 0),(5,zm x),(7,.ptr 8 0),(8,.agg [vi 0,vI .u64 0,vI .u64 0,vI .u64 0,vI .u64 0,vi 0,vi 0,oL 28 ze ([])]),(10,.ptr 11 0),(11,.agg [vi (za.Kind x),vI .u64 (zb.e0 (za.Set x)),vI .u64 (zb.e1 (za.Set x)),vI .u64 (zb.e2 (za.Set x)),vI .u64 (zb.e3 (za.Set x)),vi (za.Lo x),vi (za.Hi x),oL 28 ze out_Kids]),(13,vi i)]:Sta)) q.1 q.2) (fun (q:List za×Int)=>Inv15 q.1 q.2) (fun (q:List za×Int)=>mu16 q.1 q.2) (([]),0) [] h0Inv15 ?_
 rintro ⟨out_Kids,i⟩ hi
 have h:=hInv15 out_Kids i hi
 refine qD ?_
 refine sDE kk [] [] [(58,vB (decide (i < (↑(List.length (List.map ze (za.Kids x))):Int))))] [(58,vB (decide (i < (↑(List.length (za.Kids x)):Int))))] obN ?_
 refine cD (t:=19) (b:=decide (i < (↑(List.length (za.Kids x)):Int))) (fun hb17=>?_) (fun hb17=>?_)
 ·have h:=h.1 hb17
  refine Sem.skip' (by kernel_rfl) Wk.refl ?_
  show Sem _ _ _ _ _
  refine wkD [58] ?_
  refine qD ?_
  refine bD (id:=1) ?_
  refine sD kk [] [] [(16,vi i)] obN ?_
  obtain ⟨J19,hJ19,h⟩:=h
  refine sjD (fun (q:Int)=>J19 q) (fun (q:Int)=>(fun (k_2:Int)=>([(4,.ptr 5 0),(5,zm x),(7,.ptr 8 0),(8,.agg [vi 0,vI .u64 0,vI .u64 0,vI .u64 0,vI .u64 0,vi 0,vi 0,oL 28 ze ([])]),(10,.ptr 11 0),(11,.agg [vi (za.Kind x),vI .u64 (zb.e0 (za.Set x)),vI .u64 (zb.e1 (za.Set x)),vI .u64 (zb.e2 (za.Set x)),vI .u64 (zb.e3 (za.Set x)),vi (za.Lo x),vi (za.Hi x),oL 28 ze out_Kids]),(13,vi i),(16,vi k_2)]:Sta)) q) ?_ ?_
  ·rintro k_2 hj
   have h:=hJ19 k_2 hj
   obtain ⟨h20,h⟩:=h
   obtain ⟨h21,h⟩:=h
   obtain ⟨r0_2,hc22,h⟩:=h
   obtain ⟨h23,h⟩:=h
   refine rDE kk [.e (zD (gd (za.Kids x) k_2)),.c (zm r0_2) []] [16] [(11,.agg [vi (za.Kind x),vI .u64 (zb.e0 (za.Set x)),vI .u64 (zb.e1 (za.Set x)),vI .u64 (zb.e2 (za.Set x)),vI .u64 (zb.e3 (za.Set x)),vi (za.Lo x),vi (za.Hi x),.own 28 (List.map ze out_Kids++List.take (List.length [FV.agg [FV.pv (Value.int IntKind.i64 (za.Kind r0_2)),FV.pv (Value.int IntKind.u64 (zb.e0 (za.Set r0_2))),FV.pv (Value.int IntKind.u64 (zb.e1 (za.Set r0_2))),FV.pv (Value.int IntKind.u64 (zb.e2 (za.Set r0_2))),FV.pv (Value.int IntKind.u64 (zb.e3 (za.Set r0_2))),FV.pv (Value.int IntKind.i64 (za.Lo r0_2)),FV.pv (Value.int IntKind.i64 (za.Hi r0_2)),FV.sl (List.map ze (za.Kids r0_2))]]) (List.drop (0:Nat) [FV.agg [FV.pv (Value.int IntKind.i64 (za.Kind r0_2)),FV.pv (Value.int IntKind.u64 (zb.e0 (za.Set r0_2))),FV.pv (Value.int IntKind.u64 (zb.e1 (za.Set r0_2))),FV.pv (Value.int IntKind.u64 (zb.e2 (za.Set r0_2))),FV.pv (Value.int IntKind.u64 (zb.e3 (za.Set r0_2))),FV.pv (Value.int IntKind.i64 (za.Lo r0_2)),FV.pv (Value.int IntKind.i64 (za.Hi r0_2)),FV.sl (List.map ze (za.Kids r0_2))]]))])] [(11,.agg [vi (za.Kind x),vI .u64 (zb.e0 (za.Set x)),vI .u64 (zb.e1 (za.Set x)),vI .u64 (zb.e2 (za.Set x)),vI .u64 (zb.e3 (za.Set x)),vi (za.Lo x),vi (za.Hi x),oL 28 ze (out_Kids++[r0_2])])] (obC h20 (obC (zL ze (za.Kids x) k_2 _ (zt _) h20 h21) (obC hc22 (obC (show (0:Nat)=(0:Nat)∧List.length (List.map ze out_Kids)=List.length (List.map ze out_Kids) from ⟨rfl,rfl⟩) (obC (show (List.length (List.map ze out_Kids)+List.length (List.take (1:Nat) (List.drop (0:Nat) [FV.agg [FV.pv (Value.int IntKind.i64 (za.Kind r0_2)),FV.pv (Value.int IntKind.u64 (zb.e0 (za.Set r0_2))),FV.pv (Value.int IntKind.u64 (zb.e1 (za.Set r0_2))),FV.pv (Value.int IntKind.u64 (zb.e2 (za.Set r0_2))),FV.pv (Value.int IntKind.u64 (zb.e3 (za.Set r0_2))),FV.pv (Value.int IntKind.i64 (za.Lo r0_2)),FV.pv (Value.int IntKind.i64 (za.Hi r0_2)),FV.sl (List.map ze (za.Kids r0_2))]]))) * (80:Nat)≤(2:Nat) ^ (47:Nat) from by simpa only [nm] using h23) (obC (show List.all (List.take (1:Nat) (List.drop (0:Nat) [FV.agg [FV.pv (Value.int IntKind.i64 (za.Kind r0_2)),FV.pv (Value.int IntKind.u64 (zb.e0 (za.Set r0_2))),FV.pv (Value.int IntKind.u64 (zb.e1 (za.Set r0_2))),FV.pv (Value.int IntKind.u64 (zb.e2 (za.Set r0_2))),FV.pv (Value.int IntKind.u64 (zb.e3 (za.Set r0_2))),FV.pv (Value.int IntKind.i64 (za.Lo r0_2)),FV.pv (Value.int IntKind.i64 (za.Hi r0_2)),FV.sl (List.map ze (za.Kids r0_2))]])) (FV.fits (8:Nat))=true from by first | exact zbo _ | rfl | simp [isByteF,FV.fits,FV.size,FV.cells,FV.one,zt]) obN)))))) ?_
   show Sem _ _ _ _ _
   refine rD kk [] [] [(13,vi (w64 (i+1)))] obN ?_
   exact lD ((out_Kids++[r0_2]),(w64 (i+1))) [] h
  ·refine sD kk [] [] [(76,vB (za.Kind x == (3:Int)))] obN ?_
   refine cD (t:=25) (b:=za.Kind x == (3:Int)) (fun hb24=>?_) (fun hb24=>?_)
   ·have h:=h.1 hb24
    refine rDE kk [] [76] [(16,vi (w64 (w64 ((↑(List.length (List.map ze (za.Kids x))):Int) - 1) - i)))] [(16,vi (w64 (w64 ((↑(List.length (za.Kids x)):Int) - 1) - i)))] obN ?_
    exact jD (w64 (w64 ((↑(List.length (za.Kids x)):Int) - 1) - i)) [] h
   ·have h:=h.2 hb24
    refine Sem.skip' (by kernel_rfl) Wk.refl ?_
    exact jD i [] h
 ·have h:=h.2 hb17
  refine xD (i:=0) ?_
  show Sem _ _ _ _ _
  refine wkD [4,5,13,58] ?_
  refine sD kk [] [10,11] [(8,.agg [vi (za.Kind x),vI .u64 (zb.e0 (za.Set x)),vI .u64 (zb.e1 (za.Set x)),vI .u64 (zb.e2 (za.Set x)),vI .u64 (zb.e3 (za.Set x)),vi (za.Lo x),vi (za.Hi x),oL 28 ze out_Kids])] (obC (show (0:Nat)=(0:Nat)∧List.length (List.map ze out_Kids)=List.length (List.map ze out_Kids) from ⟨rfl,rfl⟩) obN) ?_
  refine tD ?_
  obtain he0:=h
  subst res
  exact (endD [(8,7)] (.agg [vi (za.Kind x),vI .u64 (zb.e0 (za.Set x)),vI .u64 (zb.e1 (za.Set x)),vI .u64 (zb.e2 (za.Set x)),vI .u64 (zb.e3 (za.Set x)),vi (za.Lo x),vi (za.Hi x),vL ze out_Kids]) []).1
set_option maxHeartbeats 1000000 in
theorem zd7 (x:za) (res:za) (res_1:Int)
 (h:(∃ r0:Bool,zaN x r0∧(((!r0)=true→(res=({ Kind:=(0:Int),Set:={ e0:=(0:Int),e1:=(0:Int),e2:=(0:Int),e3:=(0:Int) },Lo:=(0:Int),Hi:=(0:Int),Kids:=[] })∧res_1=1))∧((!r0)=false→(∃ r0_1:za,zaR x r0_1∧(res=r0_1∧res_1=0)))))):zbe x res res_1:=by
 unfold zbe
 have kk:=cfOk [] 10
 refine fD (x:=bodyOf Tryz.f34) kk Tryz.func34 ?_
 refine wkS [1] [(1,zm x)] (by kernel_rfl) ?_
 refine sDE kk [] [1] [(4,.ptr 5 0),(5,zm x),(7,.ptr 8 0),(8,.agg [vi 0,vI .u64 0,vI .u64 0,vI .u64 0,vI .u64 0,vi 0,vi 0,.own 28 ([])])] [(4,.ptr 5 0),(5,zm x),(7,.ptr 8 0),(8,.agg [vi 0,vI .u64 0,vI .u64 0,vI .u64 0,vI .u64 0,vi 0,vi 0,oL 28 ze ([])])] obN ?_
 refine qD ?_
 obtain ⟨r0,hc0,h⟩:=h
 refine sD kk [.c (vB r0) []] [] [(19,vB (!r0))] (obC hc0 obN) ?_
 refine cD (t:=6) (b:=!r0) (fun hb1=>?_) (fun hb1=>?_)
 ·have h:=h.1 hb1
  refine sDE kk [] [4,5,19] [(8,.agg [vi 0,vI .u64 0,vI .u64 0,vI .u64 0,vI .u64 0,vi 0,vi 0,.own 28 ([])]),(10,vi 1)] [(8,.agg [vi 0,vI .u64 0,vI .u64 0,vI .u64 0,vI .u64 0,vi 0,vi 0,oL 28 ze ([])]),(10,vi 1)] obN ?_
  refine tD ?_
  obtain ⟨he0,he1⟩:=h
  subst res res_1
  exact (endD [] (.tup [.agg [vi 0,vI .u64 0,vI .u64 0,vI .u64 0,vI .u64 0,vi 0,vi 0,.f (FV.sl (List.take (List.length (List.map ze [])) (List.drop (0:Nat) (List.map ze []))))],vi 1]) []).1
 ·have h:=h.2 hb1
  refine Sem.skip' (by kernel_rfl) Wk.refl ?_
  show Sem _ _ _ _ _
  refine wkD [19] ?_
  obtain ⟨r0_1,hc2,h⟩:=h
  refine sD kk [.c (zm r0_1) []] [4,5] [(8,zm r0_1),(10,vi 0)] (obC hc2 obN) ?_
  refine tD ?_
  obtain ⟨he0,he1⟩:=h
  subst res res_1
  exact (endD [] (.tup [zm r0_1,vi 0]) []).1
set_option maxHeartbeats 1000000 in
theorem zfD (a:za) (b:za) (res:Bool)
 (h:(((za.Kind a != za.Kind b || (!(zb.e0 (za.Set a) == zb.e0 (za.Set b) && (zb.e1 (za.Set a) == zb.e1 (za.Set b) && (zb.e2 (za.Set a) == zb.e2 (za.Set b) && (zb.e3 (za.Set a) == zb.e3 (za.Set b) && true)))) || (za.Lo a != za.Lo b || (za.Hi a != za.Hi b || (↑(List.length (za.Kids a)):Int) != (↑(List.length (za.Kids b)):Int)))))=true→(res=false))∧((za.Kind a != za.Kind b || (!(zb.e0 (za.Set a) == zb.e0 (za.Set b) && (zb.e1 (za.Set a) == zb.e1 (za.Set b) && (zb.e2 (za.Set a) == zb.e2 (za.Set b) && (zb.e3 (za.Set a) == zb.e3 (za.Set b) && true)))) || (za.Lo a != za.Lo b || (za.Hi a != za.Hi b || (↑(List.length (za.Kids a)):Int) != (↑(List.length (za.Kids b)):Int)))))=false→(∃ (Inv17:Int→Prop) (mu18:Int→Nat),Inv17 0∧(∀ (i:Int),Inv17 i→(((decide (i < (↑(List.length (za.Kids a)):Int)))=true→((0:Int)≤i)∧i < ↑(List.length (za.Kids a))∧((0:Int)≤i)∧i < ↑(List.length (za.Kids b))∧(∃ r0_2:Bool,zbg (gd (za.Kids a) i) (gd (za.Kids b) i) r0_2∧(((!r0_2)=true→(res=false))∧((!r0_2)=false→(Inv17 (w64 (i+1))∧mu18 (w64 (i+1)) < mu18 i)))))∧((decide (i < (↑(List.length (za.Kids a)):Int)))=false→(res=true)))))))):zbg a b res:=by
 unfold zbg
 have kk:=cfOk [] 60
 refine fD (x:=bodyOf Tryz.f35) kk Tryz.func35 ?_
 refine wkS [1,4] [(1,zm a),(4,zm b)] (by kernel_rfl) ?_
 refine sD kk [] [1,4] [(7,.ptr 8 0),(8,zm a),(10,.ptr 11 0),(11,zm b)] obN ?_
 refine qD ?_
 refine sM [] [(121,vB (za.Kind a != za.Kind b || (!(zb.e0 (za.Set a) == zb.e0 (za.Set b) && (zb.e1 (za.Set a) == zb.e1 (za.Set b) && (zb.e2 (za.Set a) == zb.e2 (za.Set b) && (zb.e3 (za.Set a) == zb.e3 (za.Set b) && true)))) || (za.Lo a != za.Lo b || (za.Hi a != za.Hi b || (↑(List.length (za.Kids a)):Int) != (↑(List.length (za.Kids b)):Int))))))] ?_ (fun hk0=>?_)
 ·refine cD (t:=40) (b:=za.Kind a != za.Kind b || (!(zb.e0 (za.Set a) == zb.e0 (za.Set b) && (zb.e1 (za.Set a) == zb.e1 (za.Set b) && (zb.e2 (za.Set a) == zb.e2 (za.Set b) && (zb.e3 (za.Set a) == zb.e3 (za.Set b) && true)))) || (za.Lo a != za.Lo b || (za.Hi a != za.Hi b || (↑(List.length (za.Kids a)):Int) != (↑(List.length (za.Kids b)):Int))))) (fun hb4=>?_) (fun hb4=>?_)
  ·have h:=h.1 hb4
   refine sD kk [] [7,8,10,11,121] [(13,vB false)] obN ?_
   refine tD ?_
   obtain he0:=h
   subst res
   exact (endD [] (vB false) []).1
  ·have h:=h.2 hb4
   refine Sem.skip' (by kernel_rfl) Wk.refl ?_
   show Sem _ _ _ _ _
   refine wkD [121] ?_
   refine qD ?_
   refine sD kk [] [] [(16,vi 0)] obN ?_
   refine bD (id:=0) ?_
   obtain ⟨Inv17,mu18,h0Inv17,hInv17⟩:=h
   refine loD (fun (q:Int)=>(fun (i:Int)=>([(7,.ptr 8 0),(8,zm a),(10,.ptr 11 0),(11,zm b),(16,vi i)]:Sta)) q) (fun (q:Int)=>Inv17 q) (fun (q:Int)=>mu18 q) 0 [] h0Inv17 ?_
   rintro i hi
   have h:=hInv17 i hi
   refine qD ?_
   refine sDE kk [] [] [(136,vB (decide (i < (↑(List.length (List.map ze (za.Kids a))):Int))))] [(136,vB (decide (i < (↑(List.length (za.Kids a)):Int))))] obN ?_
   refine cD (t:=45) (b:=decide (i < (↑(List.length (za.Kids a)):Int))) (fun hb19=>?_) (fun hb19=>?_)
   ·have h:=h.1 hb19
    refine Sem.skip' (by kernel_rfl) Wk.refl ?_
    show Sem _ _ _ _ _
    refine wkD [136] ?_
    refine qD ?_
    refine bD (id:=1) ?_
    obtain ⟨h20,h⟩:=h
    obtain ⟨h21,h⟩:=h
    obtain ⟨h22,h⟩:=h
    obtain ⟨h23,h⟩:=h
    obtain ⟨r0_2,hc24,h⟩:=h
    refine sD kk [.e (zD (gd (za.Kids a) i)),.e (zD (gd (za.Kids b) i)),.c (vB r0_2) []] [] [(178,vB (!r0_2))] (obC h20 (obC (zL ze (za.Kids a) i _ (zt _) h20 h21) (obC h22 (obC (zL ze (za.Kids b) i _ (zt _) h22 h23) (obC hc24 obN))))) ?_
    refine cD (t:=59) (b:=!r0_2) (fun hb25=>?_) (fun hb25=>?_)
    ·have h:=h.1 hb25
     refine sD kk [] [7,8,10,11,16,178] [(13,vB false)] obN ?_
     refine tD ?_
     obtain he0:=h
     subst res
     exact (endD [] (vB false) []).1
    ·have h:=h.2 hb25
     refine Sem.skip' (by kernel_rfl) Wk.refl ?_
     show Sem _ _ _ _ _
     refine wkD [178] ?_
     refine rD kk [] [] [(16,vi (w64 (i+1)))] obN ?_
     exact lD (w64 (i+1)) [] h
   ·have h:=h.2 hb19
    refine xD (i:=0) ?_
    show Sem _ _ _ _ _
    refine wkD [7,8,10,11,16,136] ?_
    refine sD kk [] [] [(13,vB true)] obN ?_
    refine tD ?_
    obtain he0:=h
    subst res
    exact (endD [] (vB true) []).1
 ·rcases Bool.eq_false_or_eq_true (za.Kind a != za.Kind b) with hb0 | hb0
  ·refine sD kk [bF,bF,bF,bF,bF,bT,bF,bF,bF,bF,bF,bT,bF,bF,bF,bF,bF,bT,bF,bF,bF,bF,bF,bF,bF,bT] [] [(121,vB true)] (obC (gff hb0) (obC (gff hb0) (obC (gff hb0) (obC (gff hb0) (obC (gff hb0) (obC hb0 (oF (oF (oF (oF (oF (oT (oF (oF (oF (oF (oF (oT (oF (oF (oF (oF (oF (oF (oF (oT obN)))))))))))))))))))))))))) ?_
   exact Sem.cast (by try rw [hb0];kernel_rfl) hk0
  ·rcases Bool.eq_false_or_eq_true (!(zb.e0 (za.Set a) == zb.e0 (za.Set b) && (zb.e1 (za.Set a) == zb.e1 (za.Set b) && (zb.e2 (za.Set a) == zb.e2 (za.Set b) && (zb.e3 (za.Set a) == zb.e3 (za.Set b) && true))))) with hb1 | hb1
   ·refine sD kk [bT,bT,bT,bT,bT,bF,bF,bF,bF,bF,bF,bT,bF,bF,bF,bF,bF,bT,bF,bF,bF,bF,bF,bF,bF,bT] [] [(121,vB true)] (obC (gft hb0) (obC (gft hb0) (obC (gft hb0) (obC (gft hb0) (obC (gft hb0) (obC hb0 (obC (gff hb1) (obC (gff hb1) (obC (gff hb1) (obC (gff hb1) (obC (gff hb1) (obC hb1 (oF (oF (oF (oF (oF (oT (oF (oF (oF (oF (oF (oF (oF (oT obN)))))))))))))))))))))))))) ?_
    exact Sem.cast (by try rw [hb0];try rw [hb1];kernel_rfl) hk0
   ·rcases Bool.eq_false_or_eq_true (za.Lo a != za.Lo b) with hb2 | hb2
    ·refine sD kk [bT,bT,bT,bT,bT,bF,bT,bT,bT,bT,bT,bF,bF,bF,bF,bF,bF,bT,bF,bF,bF,bF,bF,bF,bF,bT] [] [(121,vB true)] (obC (gft hb0) (obC (gft hb0) (obC (gft hb0) (obC (gft hb0) (obC (gft hb0) (obC hb0 (obC (gft hb1) (obC (gft hb1) (obC (gft hb1) (obC (gft hb1) (obC (gft hb1) (obC hb1 (obC (gff hb2) (obC (gff hb2) (obC (gff hb2) (obC (gff hb2) (obC (gff hb2) (obC hb2 (oF (oF (oF (oF (oF (oF (oF (oT obN)))))))))))))))))))))))))) ?_
     exact Sem.cast (by try rw [hb0];try rw [hb1];try rw [hb2];kernel_rfl) hk0
    ·rcases Bool.eq_false_or_eq_true (za.Hi a != za.Hi b) with hb3 | hb3
     ·refine sD kk [bT,bT,bT,bT,bT,bF,bT,bT,bT,bT,bT,bF,bT,bT,bT,bT,bT,bF,bF,bF,bF,bF,bF,bF,bF,bT] [] [(121,vB true)] (obC (gft hb0) (obC (gft hb0) (obC (gft hb0) (obC (gft hb0) (obC (gft hb0) (obC hb0 (obC (gft hb1) (obC (gft hb1) (obC (gft hb1) (obC (gft hb1) (obC (gft hb1) (obC hb1 (obC (gft hb2) (obC (gft hb2) (obC (gft hb2) (obC (gft hb2) (obC (gft hb2) (obC hb2 (obC (gff hb3) (obC (gff hb3) (obC (gff hb3) (obC (gff hb3) (obC (gff hb3) (obC (gff hb3) (obC (gff hb3) (obC hb3 obN)))))))))))))))))))))))))) ?_
      exact Sem.cast (by try rw [hb0];try rw [hb1];try rw [hb2];try rw [hb3];kernel_rfl) hk0
     ·refine sDE kk [bT,bT,bT,bT,bT,bF,bT,bT,bT,bT,bT,bF,bT,bT,bT,bT,bT,bF,bT,bT,bT,bT,bT,bT,bT,bF] [] [(121,vB ((↑(List.length (List.map ze (za.Kids a))):Int) != (↑(List.length (List.map ze (za.Kids b))):Int)))] [(121,vB ((↑(List.length (za.Kids a)):Int) != (↑(List.length (za.Kids b)):Int)))] (obC (gft hb0) (obC (gft hb0) (obC (gft hb0) (obC (gft hb0) (obC (gft hb0) (obC hb0 (obC (gft hb1) (obC (gft hb1) (obC (gft hb1) (obC (gft hb1) (obC (gft hb1) (obC hb1 (obC (gft hb2) (obC (gft hb2) (obC (gft hb2) (obC (gft hb2) (obC (gft hb2) (obC hb2 (obC (gft hb3) (obC (gft hb3) (obC (gft hb3) (obC (gft hb3) (obC (gft hb3) (obC (gft hb3) (obC (gft hb3) (obC hb3 obN)))))))))))))))))))))))))) ?_
      exact Sem.cast (by try rw [hb0];try rw [hb1];try rw [hb2];try rw [hb3];kernel_rfl) hk0
set_option maxHeartbeats 1000000 in
theorem zeU (res:zc)
 (h:(res=({ Sets:=[],First:=[],Last:=[],Follow:=[],Null:=true }))):zaL res:=by
 unfold zaL
 have kk:=cfOk [] 2
 refine fD (x:=bodyOf Tryz.f130) kk Tryz.func130 ?_
 refine wkS [] [] (by kernel_rfl) ?_
 refine sDE kk [] [] [(1,.ptr 2 0),(2,.agg [.own 25 ([]),.own 3 ([]),.own 3 ([]),.own 40 ([]),vB false])] [(1,.ptr 2 0),(2,.agg [oL 25 zf ([]),oL 3 zd ([]),oL 3 zd ([]),oL 40 zj ([]),vB false])] obN ?_
 refine sDE kk [] [] [(2,.agg [.own 25 ([]),.own 3 ([]),.own 3 ([]),.own 40 ([]),vB true])] [(2,.agg [oL 25 zf ([]),oL 3 zd ([]),oL 3 zd ([]),oL 40 zj ([]),vB true])] obN ?_
 refine tD ?_
 obtain he0:=h
 subst res
 exact (endD [] (.agg [oL 25 zf ([]),oL 3 zd ([]),oL 3 zd ([]),oL 40 zj ([]),vB true]) []).1
end Go.Ev
