import Derived.Test.YtkeiahjelpjegaaA03
set_option linter.unusedSimpArgs false
set_option linter.unusedVariables false
namespace Go.Ev
open Go Go.Proofs
set_option maxRecDepth 8000
set_option maxHeartbeats 1000000 in
theorem W_place_Join_int (a:(List Int)) (b:(List Int)) (res:(List Int))
 (h:(∃ r0:List Int,C_slices_Concat__int_int ([a,b]) r0∧List.length r0 < 1099511627776∧(List.length (sortInts r0)=List.length r0)∧List.length (sortInts r0) < 1099511627776∧(res=(compactInts (sortInts r0))))):C_place_Join_int a b res:=by
 unfold C_place_Join_int
 have kk:=cfOk [] 14
 refine fD (x:=bodyOf Try.f64) kk Try.func64 ?_
 refine wkS [1,4] [(1,vL enc_i64 a),(4,vL enc_i64 b)] (by kernel_rfl) ?_
 refine sD kk [] [] [] obN ?_
 obtain ⟨r0,hc0,h⟩:=h
 refine sD kk [.c (oL 3 enc_i64 r0) []] [1,4] [(16,oL 3 enc_i64 r0)] (obC (Eq.mp (by unfold C_slices_Concat__int_int;(try simp only [List.drop_zero,List.take_length]);first | done | simp only [nm,enq]:C_slices_Concat__int_int ([a,b]) r0=CallE Try.prog 79 [.f (FV.sl (List.take (List.length [FV.sl (List.map enc_i64 a),FV.sl (List.map enc_i64 b)]) (List.drop (0:Nat) [FV.sl (List.map enc_i64 a),FV.sl (List.map enc_i64 b)])))] [] (oL 3 enc_i64 r0) []) hc0) obN) ?_
 obtain ⟨h1,h⟩:=h
 obtain ⟨h2,h⟩:=h
 refine sD kk [.l (List.map enc_i64 (sortInts r0))] [] [(16,oL 3 enc_i64 (sortInts r0))] (obC (show (0:Nat)=(0:Nat)∧List.length (List.map enc_i64 r0)=List.length (List.map enc_i64 r0) from by first | decide | rfl | trivial | (simp only [nm]<;>first | decide | rfl | omega)) (obC (show Prod.fst (sortF,false) (List.map enc_i64 r0)=some (List.map enc_i64 (sortInts r0)) from by first | exact sortF_map enc_i64 (fun _=>rfl) _ h1 | (have:=sortF_map enc_i64 (fun _=>rfl) _ h1;simpa only [nm,enq] using this)) (obC (show List.length (List.map enc_i64 (sortInts r0))=List.length (List.map enc_i64 r0) from by simpa only [nm] using h2) obN))) ?_
 obtain ⟨h3,h⟩:=h
 refine sD kk [.l (List.map enc_i64 (compactInts (sortInts r0)))] [16] [(13,oL 3 enc_i64 (compactInts (sortInts r0)))] (obC (show (0:Nat)=(0:Nat)∧List.length (List.map enc_i64 (sortInts r0))=List.length (List.map enc_i64 (sortInts r0)) from by first | decide | rfl | trivial | (simp only [nm]<;>first | decide | rfl | omega)) (obC (show Prod.fst (compactF,true) (List.map enc_i64 (sortInts r0))=some (List.map enc_i64 (compactInts (sortInts r0))) from by first | exact compactF_map enc_i64 (fun _=>rfl) _ h3 | (have:=compactF_map enc_i64 (fun _=>rfl) _ h3;simpa only [nm,enq] using this)) obN)) ?_
 refine tD ?_
 obtain he0:=h
 subst res
 exact (endD [(13,0)] (vL enc_i64 (compactInts (sortInts r0))) []).1
set_option maxHeartbeats 1000000 in
theorem W_place_builder_lead (from0:(List Int)) (to0:(List Int)) (b:place_builder) (fin:place_builder)
 (h:(∃ (Inv19:List (List Int)→Int→Prop) (mu20:List (List Int)→Int→Nat),Inv19 (place_builder.follow b) 0∧(∀ (o0_follow:List (List Int)) (t10:Int),Inv19 o0_follow t10→(((decide (t10 < (↑(List.length from0):Int)))=true→((0:Int)≤t10)∧t10 < ↑(List.length from0)∧((0:Int)≤gd from0 t10)∧(Int.toNat (gd from0 t10) < List.length o0_follow)∧gd from0 t10 < ↑(List.length o0_follow)∧(∃ r0_2:List Int,C_place_Join_int (gd o0_follow (gd from0 t10)) to0 r0_2∧((0:Int)≤gd from0 t10)∧(Int.toNat (gd from0 t10) < List.length o0_follow)∧gd from0 t10 < ↑(List.length o0_follow)∧(Inv19 (List.set o0_follow (Int.toNat (gd from0 t10)) r0_2) (w64 (t10+1))∧mu20 (List.set o0_follow (Int.toNat (gd from0 t10)) r0_2) (w64 (t10+1)) < mu20 o0_follow t10)))∧((decide (t10 < (↑(List.length from0):Int)))=false→(fin=({ sets:=place_builder.sets b,follow:=o0_follow }))))))):C_place_builder_lead from0 to0 b fin:=by
 unfold C_place_builder_lead
 have kk:=cfOk [] 30
 refine fD (x:=bodyOf Try.f119) kk Try.func119 ?_
 refine wkS [1,3,4,7] [(1,.ptr 3 0),(3,ao_place_builder b),(4,vL enc_i64 from0),(7,vL enc_i64 to0)] (by kernel_rfl) ?_
 refine sDE kk [] [4] [(25,vL enc_i64 from0),(28,vi ((↑(List.length (List.map enc_i64 from0)):Int))),(31,vi 0)] [(25,vL enc_i64 from0),(28,vi ((↑(List.length from0):Int))),(31,vi 0)] obN ?_
 refine bD (id:=0) ?_
 obtain ⟨Inv19,mu20,h0Inv19,hInv19⟩:=h
 refine loD (fun (q:List (List Int)×Int)=>(fun (o0_follow:List (List Int)) (t10:Int)=>([(1,.ptr 3 0),(3,.agg [oL 33 enc_arr4_uint64 (place_builder.sets b),oL 30 encs_i64 o0_follow]),(7,vL enc_i64 to0),(25,vL enc_i64 from0),(28,vi ((↑(List.length from0):Int))),(31,vi t10)]:Sta)) q.1 q.2) (fun (q:List (List Int)×Int)=>Inv19 q.1 q.2) (fun (q:List (List Int)×Int)=>mu20 q.1 q.2) ((place_builder.follow b),0) [] h0Inv19 ?_
 rintro ⟨o0_follow,t10⟩ hi
 have h:=hInv19 o0_follow t10 hi
 refine sD kk [] [] [(34,vB (decide (t10 < (↑(List.length from0):Int))))] obN ?_
 refine qD ?_
 refine cD (t:=11) (b:=decide (t10 < (↑(List.length from0):Int))) (fun hb21=>?_) (fun hb21=>?_)
 ·have h:=h.1 hb21
  refine Sem.skip' (by kernel_rfl) Wk.refl ?_
  show Sem _ _ _ _ _
  refine wkD [34] ?_
  refine qD ?_
  refine bD (id:=1) ?_
  obtain ⟨h22,h⟩:=h
  obtain ⟨h23,h⟩:=h
  refine sD kk [.e (fi (gd from0 t10))] [] [(22,vi (gd from0 t10))] (obC h22 (obC (idx_ok enc_i64 from0 t10 _ rfl h22 h23) obN)) ?_
  obtain ⟨h24,h⟩:=h
  obtain ⟨h25,h⟩:=h
  obtain ⟨h26,h⟩:=h
  obtain ⟨r0_2,hc27,h⟩:=h
  obtain ⟨h28,h⟩:=h
  obtain ⟨h29,h⟩:=h
  obtain ⟨h30,h⟩:=h
  refine rDE kk [.e (fL enc_i64 (gd o0_follow (gd from0 t10))),.c (vL enc_i64 r0_2) [],.e (fL enc_i64 (gd o0_follow (gd from0 t10)))] [22] [(3,.agg [oL 33 enc_arr4_uint64 (place_builder.sets b),.own 30 (List.set (List.map encs_i64 o0_follow) ((0:Nat)+Int.toNat (gd from0 t10)) (FV.sl (List.map enc_i64 r0_2)))])] [(3,.agg [oL 33 enc_arr4_uint64 (place_builder.sets b),oL 30 encs_i64 (List.set o0_follow (Int.toNat (gd from0 t10)) r0_2)])] (obC h24 (obC (show Int.toNat (gd from0 t10) < List.length (List.map encs_i64 o0_follow) from by simpa only [nm] using h25) (obC (show (List.map encs_i64 o0_follow)[((0:Nat)+Int.toNat (gd from0 t10):Nat)]?=some (fL enc_i64 (gd o0_follow (gd from0 t10))) from by have:=idx_ok encs_i64 o0_follow (gd from0 t10) _ rfl h24 h26;simpa only [nm,enq,encs_i64] using this) (obC hc27 (obC h28 (obC (show Int.toNat (gd from0 t10) < List.length (List.map encs_i64 o0_follow) from by simpa only [nm] using h29) (obC (show (List.map encs_i64 o0_follow)[((0:Nat)+Int.toNat (gd from0 t10):Nat)]?=some (fL enc_i64 (gd o0_follow (gd from0 t10))) from by have:=idx_ok encs_i64 o0_follow (gd from0 t10) _ rfl h28 h30;simpa only [nm,enq,encs_i64] using this) obN))))))) ?_
  show Sem _ _ _ _ _
  refine rD kk [] [] [(31,vi (w64 (t10+1)))] obN ?_
  exact lD ((List.set o0_follow (Int.toNat (gd from0 t10)) r0_2),(w64 (t10+1))) [] h
 ·have h:=h.2 hb21
  refine xD (i:=0) ?_
  obtain he0:=h
  subst fin
  exact (endD [] (.tup []) [.agg [oL 33 enc_arr4_uint64 (place_builder.sets b),oL 30 encs_i64 o0_follow]]).2
set_option maxHeartbeats 1000000 in
theorem W_place_builder_cat (x:place_piece) (y:place_piece) (b:place_builder) (res:place_piece) (fin:place_builder)
 (h:(∃ o:place_builder,C_place_builder_lead (place_piece.last x) (place_piece.first y) b o∧(∃ J4:List Int→Prop,(∀ (out_first:List Int),J4 out_first→(∃ J7:List Int→Prop,(∀ (out_last:List Int),J7 out_last→(res=({ first:=out_first,last:=out_last,null:=place_piece.null x && place_piece.null y })∧fin=o))∧(((place_piece.null y)=true→(∃ r0_2:List Int,C_place_Join_int (place_piece.last x) (place_piece.last y) r0_2∧J7 r0_2))∧((place_piece.null y)=false→J7 (place_piece.last y)))))∧(((place_piece.null x)=true→(∃ r0_3:List Int,C_place_Join_int (place_piece.first x) (place_piece.first y) r0_3∧J4 r0_3))∧((place_piece.null x)=false→J4 (place_piece.first x)))))):C_place_builder_cat x y b res fin:=by
 unfold C_place_builder_cat
 have kk:=cfOk [41] 42
 refine fD (x:=bodyOf Try.f113) kk Try.func113 ?_
 refine wkS [1,3,4,7] [(1,.ptr 3 0),(3,ao_place_builder b),(4,av_place_piece x),(7,av_place_piece y)] (by kernel_rfl) ?_
 refine sDE kk [] [4,7] [(13,.ptr 14 0),(14,av_place_piece x),(16,.ptr 17 0),(17,av_place_piece y),(19,.ptr 20 0),(20,.agg [.own 3 ([]),.own 3 ([]),vB false])] [(13,.ptr 14 0),(14,av_place_piece x),(16,.ptr 17 0),(17,av_place_piece y),(19,.ptr 20 0),(20,.agg [oL 3 enc_i64 ([]),oL 3 enc_i64 ([]),vB false])] obN ?_
 obtain ⟨o,hc0,h⟩:=h
 refine sD kk [.c (.tup []) [ao_place_builder o]] [1] [(3,ao_place_builder o)] (obC hc0 obN) ?_
 refine sM [] [(22,.ptr 23 0),(23,.agg [vL enc_i64 (place_piece.first x),vL enc_i64 (place_piece.last y),vB (place_piece.null x && place_piece.null y)])] ?_ (fun hk0=>?_)
 ·obtain ⟨J4,hJ4,h⟩:=h
  refine sjD (fun (q:List Int)=>J4 q) (fun (q:List Int)=>(fun (out_first:List Int)=>([(3,ao_place_builder o),(13,.ptr 14 0),(14,av_place_piece x),(16,.ptr 17 0),(17,av_place_piece y),(19,.ptr 20 0),(20,.agg [oL 3 enc_i64 ([]),oL 3 enc_i64 ([]),vB false]),(22,.ptr 23 0),(23,.agg [vL enc_i64 out_first,vL enc_i64 (place_piece.last y),vB (place_piece.null x && place_piece.null y)])]:Sta)) q) ?_ ?_
  ·rintro out_first hj
   have h:=hJ4 out_first hj
   obtain ⟨J7,hJ7,h⟩:=h
   refine sjD (fun (q:List Int)=>J7 q) (fun (q:List Int)=>(fun (out_last:List Int)=>([(3,ao_place_builder o),(19,.ptr 20 0),(20,.agg [oL 3 enc_i64 ([]),oL 3 enc_i64 ([]),vB false]),(22,.ptr 23 0),(23,.agg [vL enc_i64 out_first,vL enc_i64 out_last,vB (place_piece.null x && place_piece.null y)])]:Sta)) q) ?_ ?_
   ·rintro out_last hj
    have h:=hJ7 out_last hj
    refine sD kk [] [22,23] [(20,.agg [vL enc_i64 out_first,vL enc_i64 out_last,vB (place_piece.null x && place_piece.null y)])] obN ?_
    refine tD ?_
    obtain ⟨he0,he1⟩:=h
    subst res fin
    exact (endD [] (.agg [vL enc_i64 out_first,vL enc_i64 out_last,vB (place_piece.null x && place_piece.null y)]) [ao_place_builder o]).1
   ·refine sD kk [] [] [(103,vB (place_piece.null y))] obN ?_
    refine cD (t:=34) (b:=place_piece.null y) (fun hb8=>?_) (fun hb8=>?_)
    ·have h:=h.1 hb8
     obtain ⟨r0_2,hc9,h⟩:=h
     refine rD kk [.c (vL enc_i64 r0_2) []] [13,14,16,17,103] [(23,.agg [vL enc_i64 out_first,vL enc_i64 r0_2,vB (place_piece.null x && place_piece.null y)])] (obC hc9 obN) ?_
     exact jD r0_2 [] h
    ·have h:=h.2 hb8
     refine Sem.skip' (by kernel_rfl) Wk.refl ?_
     exact jD (place_piece.last y) [] h
  ·refine sD kk [] [] [(79,vB (place_piece.null x))] obN ?_
   refine cD (t:=26) (b:=place_piece.null x) (fun hb10=>?_) (fun hb10=>?_)
   ·have h:=h.1 hb10
    obtain ⟨r0_3,hc11,h⟩:=h
    refine rD kk [.c (vL enc_i64 r0_3) []] [79] [(23,.agg [vL enc_i64 r0_3,vL enc_i64 (place_piece.last y),vB (place_piece.null x && place_piece.null y)])] (obC hc11 obN) ?_
    exact jD r0_3 [] h
   ·have h:=h.2 hb10
    refine Sem.skip' (by kernel_rfl) Wk.refl ?_
    exact jD (place_piece.first x) [] h
 ·rcases Bool.eq_false_or_eq_true (place_piece.null x) with hb1 | hb1
  ·refine sD kk [.b true,.b true,.b true] [] [(22,.ptr 23 0),(23,.agg [vL enc_i64 (place_piece.first x),vL enc_i64 (place_piece.last y),vB (place_piece.null y)])] (obC (gtt hb1) (obC (gtt hb1) (obC hb1 obN))) ?_
   exact Sem.cast (by try rw [hb1];kernel_rfl) hk0
  ·refine sD kk [.b false,.b false,.b false] [] [(22,.ptr 23 0),(23,.agg [vL enc_i64 (place_piece.first x),vL enc_i64 (place_piece.last y),vB false])] (obC (gtf hb1) (obC (gtf hb1) (obC hb1 obN))) ?_
   exact Sem.cast (by try rw [hb1];kernel_rfl) hk0
set_option maxHeartbeats 1000000 in
theorem W_place_builder_copies (x:api_Rx) (n:Int) (b:place_builder) (res:(List place_piece)) (fin:place_builder)
 (h:(∃ (Inv5:List arr4_uint64→List (List Int)→List place_piece→Int→Prop) (mu6:List arr4_uint64→List (List Int)→List place_piece→Int→Nat),Inv5 (place_builder.sets b) (place_builder.follow b) ([]) 0∧(∀ (o0_sets:List arr4_uint64) (o0_follow:List (List Int)) (out:List place_piece) (t8:Int),Inv5 o0_sets o0_follow out t8→(((decide (t8 < n))=true→(∃ r0_2:place_piece,∃ o_2:place_builder,C_place_builder_piece x ({ sets:=o0_sets,follow:=o0_follow }) r0_2 o_2∧((List.length out+(1:Nat)) * (56:Nat)≤(2:Nat) ^ (47:Nat))∧(Inv5 (place_builder.sets o_2) (place_builder.follow o_2) (out++[r0_2]) (w64 (t8+1))∧mu6 (place_builder.sets o_2) (place_builder.follow o_2) (out++[r0_2]) (w64 (t8+1)) < mu6 o0_sets o0_follow out t8)))∧((decide (t8 < n))=false→(res=out∧fin=({ sets:=o0_sets,follow:=o0_follow }))))))):C_place_builder_copies x n b res fin:=by
 unfold C_place_builder_copies
 have kk:=cfOk [17] 18
 refine fD (x:=bodyOf Try.f120) kk Try.func120 ?_
 refine wkS [1,3,4,7] [(1,.ptr 3 0),(3,ao_place_builder b),(4,av_api_Rx x),(7,vi n)] (by kernel_rfl) ?_
 refine sDE kk [] [4] [(13,.ptr 14 0),(14,av_api_Rx x),(19,.own 133 ([]))] [(13,.ptr 14 0),(14,av_api_Rx x),(19,oL 133 enc_place_piece ([]))] obN ?_
 refine qD ?_
 refine sD kk [] [7] [(22,vi n),(25,vi 0)] obN ?_
 refine bD (id:=0) ?_
 obtain ⟨Inv5,mu6,h0Inv5,hInv5⟩:=h
 refine loD (fun (q:List arr4_uint64×List (List Int)×List place_piece×Int)=>(fun (o0_sets:List arr4_uint64) (o0_follow:List (List Int)) (out:List place_piece) (t8:Int)=>([(1,.ptr 3 0),(3,.agg [oL 33 enc_arr4_uint64 o0_sets,oL 30 encs_i64 o0_follow]),(13,.ptr 14 0),(14,av_api_Rx x),(19,oL 133 enc_place_piece out),(22,vi n),(25,vi t8)]:Sta)) q.1 q.2.1 q.2.2.1 q.2.2.2) (fun (q:List arr4_uint64×List (List Int)×List place_piece×Int)=>Inv5 q.1 q.2.1 q.2.2.1 q.2.2.2) (fun (q:List arr4_uint64×List (List Int)×List place_piece×Int)=>mu6 q.1 q.2.1 q.2.2.1 q.2.2.2) ((place_builder.sets b),(place_builder.follow b),([]),0) [] h0Inv5 ?_
 rintro ⟨o0_sets,o0_follow,out,t8⟩ hi
 have h:=hInv5 o0_sets o0_follow out t8 hi
 refine sD kk [] [] [(28,vB (decide (t8 < n)))] obN ?_
 refine qD ?_
 refine cD (t:=9) (b:=decide (t8 < n)) (fun hb7=>?_) (fun hb7=>?_)
 ·have h:=h.1 hb7
  refine Sem.skip' (by kernel_rfl) Wk.refl ?_
  show Sem _ _ _ _ _
  refine wkD [28] ?_
  refine qD ?_
  refine bD (id:=1) ?_
  obtain ⟨r0_2,o_2,hc8,h⟩:=h
  obtain ⟨h9,h⟩:=h
  refine rDE kk [.c (av_place_piece r0_2) [ao_place_builder o_2]] [] [(3,ao_place_builder o_2),(19,.own 133 (List.map enc_place_piece out++List.take (List.length [FV.agg [FV.sl (List.map enc_i64 (place_piece.first r0_2)),FV.sl (List.map enc_i64 (place_piece.last r0_2)),FV.pv (Value.bool (place_piece.null r0_2))]]) (List.drop (0:Nat) [FV.agg [FV.sl (List.map enc_i64 (place_piece.first r0_2)),FV.sl (List.map enc_i64 (place_piece.last r0_2)),FV.pv (Value.bool (place_piece.null r0_2))]])))] [(3,ao_place_builder o_2),(19,oL 133 enc_place_piece (out++[r0_2]))] (obC hc8 (obC (show (0:Nat)=(0:Nat)∧List.length (List.map enc_place_piece out)=List.length (List.map enc_place_piece out) from by first | decide | rfl | trivial | (simp only [nm]<;>first | decide | rfl | omega)) (obC (show (List.length (List.map enc_place_piece out)+List.length (List.take (1:Nat) (List.drop (0:Nat) [FV.agg [FV.sl (List.map enc_i64 (place_piece.first r0_2)),FV.sl (List.map enc_i64 (place_piece.last r0_2)),FV.pv (Value.bool (place_piece.null r0_2))]]))) * (56:Nat)≤(2:Nat) ^ (47:Nat) from by simpa only [nm] using h9) (obC (show List.all (List.take (1:Nat) (List.drop (0:Nat) [FV.agg [FV.sl (List.map enc_i64 (place_piece.first r0_2)),FV.sl (List.map enc_i64 (place_piece.last r0_2)),FV.pv (Value.bool (place_piece.null r0_2))]])) (FV.fits (3:Nat))=true from by first | exact fits_i64 _ | rfl | simp [isByteF,FV.fits,FV.size,FV.cells,FV.one,enc_i64]) obN)))) ?_
  show Sem _ _ _ _ _
  refine rD kk [] [] [(25,vi (w64 (t8+1)))] obN ?_
  exact lD ((place_builder.sets o_2),(place_builder.follow o_2),(out++[r0_2]),(w64 (t8+1))) [] h
 ·have h:=h.2 hb7
  refine xD (i:=0) ?_
  show Sem _ _ _ _ _
  refine wkD [1,13,14,22,25,28] ?_
  refine sD kk [] [] [] obN ?_
  refine tD ?_
  obtain ⟨he0,he1⟩:=h
  subst res fin
  exact (endD [] (oL 133 enc_place_piece out) [.agg [oL 33 enc_arr4_uint64 o0_sets,oL 30 encs_i64 o0_follow]]).1
set_option maxHeartbeats 1000000 in
theorem W_place_maybe (x:place_piece) (res:place_piece)
 (h:(res=({ first:=place_piece.first x,last:=place_piece.last x,null:=true }))):C_place_maybe x res:=by
 unfold C_place_maybe
 have kk:=cfOk [4] 5
 refine fD (x:=bodyOf Try.f122) kk Try.func122 ?_
 refine wkS [1] [(1,av_place_piece x)] (by kernel_rfl) ?_
 refine sDE kk [] [1] [(4,.ptr 5 0),(5,av_place_piece x),(7,.ptr 8 0),(8,.agg [.own 3 ([]),.own 3 ([]),vB false])] [(4,.ptr 5 0),(5,av_place_piece x),(7,.ptr 8 0),(8,.agg [oL 3 enc_i64 ([]),oL 3 enc_i64 ([]),vB false])] obN ?_
 refine sD kk [] [] [(5,.agg [vL enc_i64 (place_piece.first x),vL enc_i64 (place_piece.last x),vB true])] obN ?_
 refine sD kk [] [4,5] [(8,.agg [vL enc_i64 (place_piece.first x),vL enc_i64 (place_piece.last x),vB true])] obN ?_
 refine tD ?_
 obtain he0:=h
 subst res
 exact (endD [] (.agg [vL enc_i64 (place_piece.first x),vL enc_i64 (place_piece.last x),vB true]) []).1
set_option maxHeartbeats 1000000 in
theorem W_place_builder_rep (x:api_Rx) (b:place_builder) (res:place_piece) (fin:place_builder)
 (h:(∃ r0:Int,C_rx_Size x r0∧(((r0 == 0)=true→(res=({ first:=[],last:=[],null:=true })∧fin=b))∧((r0 == 0)=false→(0:Nat) < List.length (api_Rx.Kids x)∧(∃ r0_1:List place_piece,∃ o:place_builder,C_place_builder_copies (List.getD (api_Rx.Kids x) (0:Nat) default) (if (1:Int) > if api_Rx.Hi x > api_Rx.Lo x then api_Rx.Hi x else api_Rx.Lo x then (1:Int) else if api_Rx.Hi x > api_Rx.Lo x then api_Rx.Hi x else api_Rx.Lo x) b r0_1 o∧(∃ J14:List arr4_uint64→List (List Int)→List place_piece→Prop,(∀ (o0_sets:List arr4_uint64) (o0_follow:List (List Int)) (l:List place_piece),J14 o0_sets o0_follow l→(C_slices_Backward__place_piece_place_piece l∧(List.length l < 1099511627776∧∃ (Inv24:Nat→List arr4_uint64→List (List Int)→List Int→List Int→Bool→Prop),Inv24 0 o0_sets o0_follow ([]) ([]) true∧(∀ (i:Nat) (y:place_piece),i < List.length l→l[List.length l - 1 - i]?=some y→∀ (o0_sets_1:List arr4_uint64) (o0_follow_1:List (List Int)) (out_first:List Int) (out_last:List Int) (out_null:Bool),Inv24 i o0_sets_1 o0_follow_1 out_first out_last out_null→(∃ r0_6:place_piece,∃ o_4:place_builder,C_place_builder_cat y ({ first:=out_first,last:=out_last,null:=out_null }) ({ sets:=o0_sets_1,follow:=o0_follow_1 }) r0_6 o_4∧(((decide (api_Rx.Hi x≥(0:Int)) && decide ((↑(List.length l):Int) - 1 - (↑i:Int)≥api_Rx.Lo x))=true→(∃ r0_7:place_piece,C_place_maybe r0_6 r0_7∧Inv24 (i+1) (place_builder.sets o_4) (place_builder.follow o_4) (place_piece.first r0_7) (place_piece.last r0_7) (place_piece.null r0_7)))∧((decide (api_Rx.Hi x≥(0:Int)) && decide ((↑(List.length l):Int) - 1 - (↑i:Int)≥api_Rx.Lo x))=false→Inv24 (i+1) (place_builder.sets o_4) (place_builder.follow o_4) (place_piece.first r0_6) (place_piece.last r0_6) (place_piece.null r0_6)))))∧(∀ (o0_sets_1:List arr4_uint64) (o0_follow_1:List (List Int)) (out_first:List Int) (out_last:List Int) (out_null:Bool),Inv24 (List.length l) o0_sets_1 o0_follow_1 out_first out_last out_null→(res=({ first:=out_first,last:=out_last,null:=out_null })∧fin=({ sets:=o0_sets_1,follow:=o0_follow_1 }))))))∧(((decide (api_Rx.Hi x < (0:Int)))=true→((0:Int)≤w64 ((↑(List.length r0_1):Int) - 1))∧(Int.toNat (w64 ((↑(List.length r0_1):Int) - 1)) < List.length r0_1)∧Int.toNat (w64 ((↑(List.length r0_1):Int) - 1)) < List.length r0_1∧Int.toNat (w64 ((↑(List.length r0_1):Int) - 1)) < List.length r0_1∧(∃ o_5:place_builder,C_place_builder_lead (place_piece.last (gd r0_1 (w64 ((↑(List.length r0_1):Int) - 1)))) (place_piece.first (gd r0_1 (w64 ((↑(List.length r0_1):Int) - 1)))) o o_5∧Int.toNat (w64 ((↑(List.length r0_1):Int) - 1)) < List.length r0_1∧(((place_piece.null (gd r0_1 (w64 ((↑(List.length r0_1):Int) - 1))))=true→((place_piece.null (gd r0_1 (w64 ((↑(List.length r0_1):Int) - 1))))=true→Int.toNat (w64 ((↑(List.length r0_1):Int) - 1)) < List.length r0_1)∧J14 (place_builder.sets o_5) (place_builder.follow o_5) (List.set r0_1 (Int.toNat (w64 ((↑(List.length r0_1):Int) - 1))) { first:=place_piece.first (gd r0_1 (w64 ((↑(List.length r0_1):Int) - 1))),last:=place_piece.last (gd r0_1 (w64 ((↑(List.length r0_1):Int) - 1))),null:=true }))∧((place_piece.null (gd r0_1 (w64 ((↑(List.length r0_1):Int) - 1))))=false→((place_piece.null (gd r0_1 (w64 ((↑(List.length r0_1):Int) - 1))))=false→Int.toNat (w64 ((↑(List.length r0_1):Int) - 1)) < List.length r0_1)∧J14 (place_builder.sets o_5) (place_builder.follow o_5) (List.set r0_1 (Int.toNat (w64 ((↑(List.length r0_1):Int) - 1))) { first:=place_piece.first (gd r0_1 (w64 ((↑(List.length r0_1):Int) - 1))),last:=place_piece.last (gd r0_1 (w64 ((↑(List.length r0_1):Int) - 1))),null:=api_Rx.Lo x == 0 })))))∧((decide (api_Rx.Hi x < (0:Int)))=false→J14 (place_builder.sets o) (place_builder.follow o) r0_1)))))))):C_place_builder_rep x b res fin:=by
 unfold C_place_builder_rep
 have kk:=cfOk [75] 76
 refine fD (x:=bodyOf Try.f114) kk Try.func114 ?_
 refine wkS [1,3,4] [(1,.ptr 3 0),(3,ao_place_builder b),(4,av_api_Rx x)] (by kernel_rfl) ?_
 refine sDE kk [] [1,4] [(7,.ptr 8 0),(8,.ptr 3 0),(10,.ptr 11 0),(11,av_api_Rx x),(13,.ptr 14 0),(14,.agg [.own 3 ([]),.own 3 ([]),vB false])] [(7,.ptr 8 0),(8,.ptr 3 0),(10,.ptr 11 0),(11,av_api_Rx x),(13,.ptr 14 0),(14,.agg [oL 3 enc_i64 ([]),oL 3 enc_i64 ([]),vB false])] obN ?_
 refine qD ?_
 obtain ⟨r0,hc0,h⟩:=h
 refine sD kk [.c (vi r0) []] [] [(37,vB (r0 == 0))] (obC hc0 obN) ?_
 refine cD (t:=12) (b:=r0 == 0) (fun hb1=>?_) (fun hb1=>?_)
 ·have h:=h.1 hb1
  refine sDE kk [] [7,8,10,11,37] [(14,.agg [.own 3 ([]),.own 3 ([]),vB true])] [(14,.agg [oL 3 enc_i64 ([]),oL 3 enc_i64 ([]),vB true])] obN ?_
  refine tD ?_
  obtain ⟨he0,he1⟩:=h
  subst res fin
  exact (endD [(14,0),(14,1)] (.agg [vL enc_i64 ([]),vL enc_i64 ([]),vB true]) [ao_place_builder b]).1
 ·have h:=h.2 hb1
  refine Sem.skip' (by kernel_rfl) Wk.refl ?_
  show Sem _ _ _ _ _
  refine wkD [37] ?_
  obtain ⟨h2,h⟩:=h
  obtain ⟨r0_1,o,hc3,h⟩:=h
  refine sD kk [.e (fv_api_Rx (List.getD (api_Rx.Kids x) (0:Nat) default)),.c (oL 133 enc_place_piece r0_1) [ao_place_builder o]] [] [(3,ao_place_builder o),(16,oL 133 enc_place_piece r0_1)] (obC (show (0:Int)≤(0:Int) from by first | decide | rfl | trivial | (simp only [nm]<;>first | decide | rfl | omega)) (obC (show (List.map enc_api_Rx (api_Rx.Kids x))[(Int.toNat (0:Int):Nat)]?=some (fv_api_Rx (List.getD (api_Rx.Kids x) (0:Nat) default)) from by have:=idx_ok' enc_api_Rx (api_Rx.Kids x) ((0:Nat)) _ (enc_api_Rx_eq _) h2;simpa only [nm,enq,enc_api_Rx_eq] using this) (obC (Eq.mp (by unfold C_place_builder_copies;(try simp only [List.drop_zero,List.take_length]);first | done | simp only [nm,enq]:C_place_builder_copies (List.getD (api_Rx.Kids x) (0:Nat) default) (if (1:Int) > if api_Rx.Hi x > api_Rx.Lo x then api_Rx.Hi x else api_Rx.Lo x then (1:Int) else if api_Rx.Hi x > api_Rx.Lo x then api_Rx.Hi x else api_Rx.Lo x) b r0_1 o=CallE Try.prog 120 [.ptr 3 0,.agg [vi (api_Rx.Kind (List.getD (api_Rx.Kids x) (0:Nat) default)),vI .u64 (arr4_uint64.e0 (api_Rx.Set (List.getD (api_Rx.Kids x) (0:Nat) default))),vI .u64 (arr4_uint64.e1 (api_Rx.Set (List.getD (api_Rx.Kids x) (0:Nat) default))),vI .u64 (arr4_uint64.e2 (api_Rx.Set (List.getD (api_Rx.Kids x) (0:Nat) default))),vI .u64 (arr4_uint64.e3 (api_Rx.Set (List.getD (api_Rx.Kids x) (0:Nat) default))),vi (api_Rx.Lo (List.getD (api_Rx.Kids x) (0:Nat) default)),vi (api_Rx.Hi (List.getD (api_Rx.Kids x) (0:Nat) default)),vL enc_api_Rx (api_Rx.Kids (List.getD (api_Rx.Kids x) (0:Nat) default))],vi (if true=true then if (1:Int) > if true=true then if api_Rx.Hi x > api_Rx.Lo x then api_Rx.Hi x else api_Rx.Lo x else if api_Rx.Hi x < api_Rx.Lo x then api_Rx.Hi x else api_Rx.Lo x then (1:Int) else if true=true then if api_Rx.Hi x > api_Rx.Lo x then api_Rx.Hi x else api_Rx.Lo x else if api_Rx.Hi x < api_Rx.Lo x then api_Rx.Hi x else api_Rx.Lo x else if (1:Int) < if true=true then if api_Rx.Hi x > api_Rx.Lo x then api_Rx.Hi x else api_Rx.Lo x else if api_Rx.Hi x < api_Rx.Lo x then api_Rx.Hi x else api_Rx.Lo x then (1:Int) else if true=true then if api_Rx.Hi x > api_Rx.Lo x then api_Rx.Hi x else api_Rx.Lo x else if api_Rx.Hi x < api_Rx.Lo x then api_Rx.Hi x else api_Rx.Lo x)] [.agg [oL 33 enc_arr4_uint64 (place_builder.sets b),oL 30 encs_i64 (place_builder.follow b)]] (oL 133 enc_place_piece r0_1) [ao_place_builder o]) hc3) obN))) ?_
  refine sDE kk [] [] [(19,.ptr 20 0),(20,.agg [.own 3 ([]),.own 3 ([]),vB true])] [(19,.ptr 20 0),(20,.agg [oL 3 enc_i64 ([]),oL 3 enc_i64 ([]),vB true])] obN ?_
  obtain ⟨J14,hJ14,h⟩:=h
  refine sjD (fun (q:List arr4_uint64×List (List Int)×List place_piece)=>J14 q.1 q.2.1 q.2.2) (fun (q:List arr4_uint64×List (List Int)×List place_piece)=>(fun (o0_sets:List arr4_uint64) (o0_follow:List (List Int)) (l:List place_piece)=>([(3,.agg [oL 33 enc_arr4_uint64 o0_sets,oL 30 encs_i64 o0_follow]),(7,.ptr 8 0),(8,.ptr 3 0),(10,.ptr 11 0),(11,av_api_Rx x),(13,.ptr 14 0),(14,.agg [oL 3 enc_i64 ([]),oL 3 enc_i64 ([]),vB false]),(16,oL 133 enc_place_piece l),(19,.ptr 20 0),(20,.agg [oL 3 enc_i64 ([]),oL 3 enc_i64 ([]),vB true])]:Sta)) q.1 q.2.1 q.2.2) ?_ ?_
  ·rintro ⟨o0_sets,o0_follow,l⟩ hj
   have h:=hJ14 o0_sets o0_follow l hj
   refine qD ?_
   obtain ⟨hc15,h⟩:=h
   refine sD kk [.c (.clo 134 [.fp (fL enc_place_piece l) 0]) []] [16] [(172,.clo 134 [.fp (fL enc_place_piece l) 0])] (obC (Eq.mp (by unfold C_slices_Backward__place_piece_place_piece;(try simp only [List.drop_zero,List.take_length]);first | done | simp only [nm,enq]:C_slices_Backward__place_piece_place_piece l=CallE Try.prog 121 [.f (FV.sl (List.take (List.length (List.map enc_place_piece l)) (List.drop (0:Nat) (List.map enc_place_piece l))))] [] (.clo 134 [.fp (fL enc_place_piece l) 0]) []) hc15) obN) ?_
   refine bD (id:=0) ?_
   obtain ⟨hl25,Inv24,h0Inv24,hRInv24,hDInv24⟩:=h
   refine Sem.range (α:=place_piece) (σ:=List arr4_uint64×List (List Int)×List Int×List Int×Bool) (c:=(cf [75] 76)) (by rfl) (tg:=57) (p0:=58) (p1:=59) (by kernel_rfl) (xs:=l) (by kernel_rfl) back_ok_134 (ey:=(fun (y:place_piece)=>(fv_place_piece y:FV))) (sz:=3) (fun y=>enc_place_piece_eq y) (fun y=>by simp [FV.fits,FV.size,FV.cells,FV.one,enc_place_piece_eq]) (by omega) [(7,.ptr 8 0),(10,.ptr 11 0),(13,.ptr 14 0),(19,.ptr 20 0)] [3,8,11,14,20] (fun (q:List arr4_uint64×List (List Int)×List Int×List Int×Bool)=>(fun (o0_sets_1:List arr4_uint64) (o0_follow_1:List (List Int)) (out_first:List Int) (out_last:List Int) (out_null:Bool)=>([.agg [oL 33 enc_arr4_uint64 o0_sets_1,oL 30 encs_i64 o0_follow_1],.ptr 3 0,av_api_Rx x,.agg [oL 3 enc_i64 ([]),oL 3 enc_i64 ([]),vB false],.agg [vL enc_i64 out_first,vL enc_i64 out_last,vB out_null]]:List AV)) q.1 q.2.1 q.2.2.1 q.2.2.2.1 q.2.2.2.2) (fun (i:Nat) (q:List arr4_uint64×List (List Int)×List Int×List Int×Bool)=>Inv24 i q.1 q.2.1 q.2.2.1 q.2.2.2.1 q.2.2.2.2) (o0_sets,o0_follow,([]),([]),true) ((wkE (G':=[(3,.agg [oL 33 enc_arr4_uint64 o0_sets,oL 30 encs_i64 o0_follow]),(7,.ptr 8 0),(8,.ptr 3 0),(10,.ptr 11 0),(11,av_api_Rx x),(13,.ptr 14 0),(14,.agg [oL 3 enc_i64 ([]),oL 3 enc_i64 ([]),vB false]),(19,.ptr 20 0),(20,.agg [vL enc_i64 ([]),vL enc_i64 ([]),vB true])]) [(20,0),(20,1)] [3,7,8,10,11,13,14,19,20] (by kernel_rfl)).trans (Wk.pick [7,10,13,19,3,8,11,14,20] (by kernel_rfl))) h0Inv24 (by rfl) (fun q=>by rfl) (by rfl) (by decide) (fun q q'=>by rfl) (Nat.le_of_ble_eq_true rfl) (Nat.le_of_ble_eq_true rfl) (by decide) ?_ ?_
   ·rintro i ⟨o0_sets_1,o0_follow_1,out_first,out_last,out_null⟩ y hi hy hinv
    have h:=hRInv24 i y hi hy o0_sets_1 o0_follow_1 out_first out_last out_null hinv
    refine Sem.weak (Wk.pick [3,6,7,9,10,12,13,15,19,175,178] (G':=[(3,.agg [oL 33 enc_arr4_uint64 o0_sets_1,oL 30 encs_i64 o0_follow_1]),(6,.ptr 3 0),(7,.ptr 6 0),(9,av_api_Rx x),(10,.ptr 9 0),(12,.agg [oL 3 enc_i64 ([]),oL 3 enc_i64 ([]),vB false]),(13,.ptr 12 0),(15,.agg [vL enc_i64 out_first,vL enc_i64 out_last,vB out_null]),(19,.ptr 15 0),(175,vi ((↑(List.length l):Int) - 1 - (↑i:Int))),(178,av_place_piece y)]) (by kernel_rfl)) ?_
    show Sem _ (cfr [75] 76) (sq1 (sq1 (sq2 (sq1 (sq2 (sq2 (sq2 (sq2 (sq2 (bodyOf Try.f114)))))))))) _ _
    have kr:=cfrOk [75] 76
    refine sD kr [] [13,175] [(25,vi ((↑(List.length l):Int) - 1 - (↑i:Int)))] obN ?_
    refine rD kr [] [178] [(28,.ptr 29 0),(29,av_place_piece y)] obN ?_
    refine ⟨rfl,?_⟩
    show Sem _ (cfr [75] 76) (sq2 (sq1 (sq2 (sq1 (sq2 (sq2 (sq2 (sq2 (sq2 (bodyOf Try.f114)))))))))) _ _
    refine bD (id:=1) ?_
    obtain ⟨r0_6,o_4,hc26,h⟩:=h
    refine sD kr [.c (av_place_piece r0_6) [ao_place_builder o_4]] [7,28,29] [(3,ao_place_builder o_4),(15,av_place_piece r0_6)] (obC hc26 obN) ?_
    refine sM [10,25] [(217,vB (decide (api_Rx.Hi x≥(0:Int)) && decide ((↑(List.length l):Int) - 1 - (↑i:Int)≥api_Rx.Lo x)))] ?_ (fun hk0=>?_)
    ·refine cD (t:=72) (b:=decide (api_Rx.Hi x≥(0:Int)) && decide ((↑(List.length l):Int) - 1 - (↑i:Int)≥api_Rx.Lo x)) (fun hb28=>?_) (fun hb28=>?_)
     ·have h:=h.1 hb28
      obtain ⟨r0_7,hc29,h⟩:=h
      refine rD kr [.c (av_place_piece r0_7) []] [19,217] [(15,av_place_piece r0_7)] (obC hc29 obN) ?_
      exact rndE (wkE [] [3,6,9,12,15] (by rfl)) (by kernel_rfl) ⟨((place_builder.sets o_4),(place_builder.follow o_4),(place_piece.first r0_7),(place_piece.last r0_7),(place_piece.null r0_7)),rfl,h⟩
     ·have h:=h.2 hb28
      refine Sem.skip' (by kernel_rfl) Wk.refl ?_
      exact rndE (wkE [] [3,6,9,12,15] (by rfl)) (by kernel_rfl) ⟨((place_builder.sets o_4),(place_builder.follow o_4),(place_piece.first r0_6),(place_piece.last r0_6),(place_piece.null r0_6)),rfl,h⟩
    ·rcases Bool.eq_false_or_eq_true (decide (api_Rx.Hi x≥(0:Int))) with hb27 | hb27
     ·refine sD kr [.b true,.b true,.b true,.b true,.b true] [10,25] [(217,vB (decide ((↑(List.length l):Int) - 1 - (↑i:Int)≥api_Rx.Lo x)))] (obC (gtt hb27) (obC (gtt hb27) (obC (gtt hb27) (obC (gtt hb27) (obC hb27 obN))))) ?_
      exact Sem.cast (by try rw [hb27];kernel_rfl) hk0
     ·refine sD kr [.b false,.b false,.b false,.b false,.b false] [10,25] [(217,vB false)] (obC (gtf hb27) (obC (gtf hb27) (obC (gtf hb27) (obC (gtf hb27) (obC hb27 obN))))) ?_
      exact Sem.cast (by try rw [hb27];kernel_rfl) hk0
   ·rintro ⟨o0_sets_1,o0_follow_1,out_first,out_last,out_null⟩ hinv
    have h:=hDInv24 o0_sets_1 o0_follow_1 out_first out_last out_null hinv
    refine ⟨[(3,.agg [oL 33 enc_arr4_uint64 o0_sets_1,oL 30 encs_i64 o0_follow_1]),(13,.ptr 14 0),(14,.agg [oL 3 enc_i64 ([]),oL 3 enc_i64 ([]),vB false]),(19,.ptr 20 0),(20,.agg [vL enc_i64 out_first,vL enc_i64 out_last,vB out_null])],Wk.pick [3,13,14,19,20] (by kernel_rfl),?_⟩
    show Sem _ _ _ _ _
    refine sD kk [] [19,20] [(14,.agg [vL enc_i64 out_first,vL enc_i64 out_last,vB out_null])] obN ?_
    refine tD ?_
    obtain ⟨he0,he1⟩:=h
    subst res fin
    exact (endD [] (.agg [vL enc_i64 out_first,vL enc_i64 out_last,vB out_null]) [.agg [oL 33 enc_arr4_uint64 o0_sets_1,oL 30 encs_i64 o0_follow_1]]).1
  ·refine sD kk [] [] [(85,vB (decide (api_Rx.Hi x < (0:Int))))] obN ?_
   refine cD (t:=28) (b:=decide (api_Rx.Hi x < (0:Int))) (fun hb30=>?_) (fun hb30=>?_)
   ·have h:=h.1 hb30
    obtain ⟨h31,h⟩:=h
    obtain ⟨h32,h⟩:=h
    refine sDE kk [] [85] [(22,AV.ep (16:Nat) (0:Nat) ((0:Nat)+Int.toNat (w64 ((↑(List.length (List.map enc_place_piece r0_1)):Int) - 1))) (0:Nat))] [(22,AV.ep (16:Nat) (0:Nat) (Int.toNat (w64 ((↑(List.length r0_1):Int) - 1))) (0:Nat))] (obC (show (0:Int)≤w64 ((↑(List.length (List.map enc_place_piece r0_1)):Int) - 1) from by simpa only [nm] using h31) (obC (show Int.toNat (w64 ((↑(List.length (List.map enc_place_piece r0_1)):Int) - 1)) < List.length (List.map enc_place_piece r0_1) from by simpa only [nm] using h32) obN)) ?_
    obtain ⟨h33,h⟩:=h
    obtain ⟨h34,h⟩:=h
    obtain ⟨o_5,hc35,h⟩:=h
    refine sD kk [.e (fv_place_piece (gd r0_1 (w64 ((↑(List.length r0_1):Int) - 1)))),.e (fv_place_piece (gd r0_1 (w64 ((↑(List.length r0_1):Int) - 1)))),.c (.tup []) [ao_place_builder o_5]] [] [(3,ao_place_builder o_5)] (obC (idx_ok' enc_place_piece r0_1 (Int.toNat (w64 ((↑(List.length r0_1):Int) - 1))) _ (enc_place_piece_eq _) h33) (obC (idx_ok' enc_place_piece r0_1 (Int.toNat (w64 ((↑(List.length r0_1):Int) - 1))) _ (enc_place_piece_eq _) h34) (obC hc35 obN))) ?_
    obtain ⟨h36,h⟩:=h
    rcases Bool.eq_false_or_eq_true (place_piece.null (gd r0_1 (w64 ((↑(List.length r0_1):Int) - 1)))) with hb37 | hb37
    ·have h:=h.1 hb37
     obtain ⟨h39,h⟩:=h
     refine rDE kk [.e (fv_place_piece (gd r0_1 (w64 ((↑(List.length r0_1):Int) - 1)))),.b false,.b false,.b false,.b true,.e (fv_place_piece (gd r0_1 (w64 ((↑(List.length r0_1):Int) - 1))))] [22] [(16,.own 133 (List.set (List.map enc_place_piece r0_1) (Int.toNat (w64 ((↑(List.length r0_1):Int) - 1))) (FV.agg [FV.sl (List.map enc_i64 (place_piece.first (gd r0_1 (w64 ((↑(List.length r0_1):Int) - 1))))),FV.sl (List.map enc_i64 (place_piece.last (gd r0_1 (w64 ((↑(List.length r0_1):Int) - 1))))),FV.pv (Value.bool true)])))] [(16,oL 133 enc_place_piece (List.set r0_1 (Int.toNat (w64 ((↑(List.length r0_1):Int) - 1))) { first:=place_piece.first (gd r0_1 (w64 ((↑(List.length r0_1):Int) - 1))),last:=place_piece.last (gd r0_1 (w64 ((↑(List.length r0_1):Int) - 1))),null:=true }))] (obC (idx_ok' enc_place_piece r0_1 (Int.toNat (w64 ((↑(List.length r0_1):Int) - 1))) _ (enc_place_piece_eq _) h36) (obC (gff hb37) (obC (gff hb37) (obC (gff hb37) (obC hb37 (obC (idx_ok' enc_place_piece r0_1 (Int.toNat (w64 ((↑(List.length r0_1):Int) - 1))) _ (enc_place_piece_eq _) (h39 hb37)) obN)))))) ?_
     exact jD ((place_builder.sets o_5),(place_builder.follow o_5),(List.set r0_1 (Int.toNat (w64 ((↑(List.length r0_1):Int) - 1))) { first:=place_piece.first (gd r0_1 (w64 ((↑(List.length r0_1):Int) - 1))),last:=place_piece.last (gd r0_1 (w64 ((↑(List.length r0_1):Int) - 1))),null:=true })) [] h
    ·have h:=h.2 hb37
     obtain ⟨h38,h⟩:=h
     refine rDE kk [.e (fv_place_piece (gd r0_1 (w64 ((↑(List.length r0_1):Int) - 1)))),.b true,.b true,.b true,.b false,.e (fv_place_piece (gd r0_1 (w64 ((↑(List.length r0_1):Int) - 1))))] [22] [(16,.own 133 (List.set (List.map enc_place_piece r0_1) (Int.toNat (w64 ((↑(List.length r0_1):Int) - 1))) (FV.agg [FV.sl (List.map enc_i64 (place_piece.first (gd r0_1 (w64 ((↑(List.length r0_1):Int) - 1))))),FV.sl (List.map enc_i64 (place_piece.last (gd r0_1 (w64 ((↑(List.length r0_1):Int) - 1))))),FV.pv (Value.bool (api_Rx.Lo x == 0))])))] [(16,oL 133 enc_place_piece (List.set r0_1 (Int.toNat (w64 ((↑(List.length r0_1):Int) - 1))) { first:=place_piece.first (gd r0_1 (w64 ((↑(List.length r0_1):Int) - 1))),last:=place_piece.last (gd r0_1 (w64 ((↑(List.length r0_1):Int) - 1))),null:=api_Rx.Lo x == 0 }))] (obC (idx_ok' enc_place_piece r0_1 (Int.toNat (w64 ((↑(List.length r0_1):Int) - 1))) _ (enc_place_piece_eq _) h36) (obC (gft hb37) (obC (gft hb37) (obC (gft hb37) (obC hb37 (obC (idx_ok' enc_place_piece r0_1 (Int.toNat (w64 ((↑(List.length r0_1):Int) - 1))) _ (enc_place_piece_eq _) (h38 hb37)) obN)))))) ?_
     exact jD ((place_builder.sets o_5),(place_builder.follow o_5),(List.set r0_1 (Int.toNat (w64 ((↑(List.length r0_1):Int) - 1))) { first:=place_piece.first (gd r0_1 (w64 ((↑(List.length r0_1):Int) - 1))),last:=place_piece.last (gd r0_1 (w64 ((↑(List.length r0_1):Int) - 1))),null:=api_Rx.Lo x == 0 })) [] h
   ·have h:=h.2 hb30
    refine Sem.skip' (by kernel_rfl) Wk.refl ?_
    exact jD ((place_builder.sets o),(place_builder.follow o),r0_1) [] h
set_option maxHeartbeats 1000000 in
theorem W_place_builder_piece (x:api_Rx) (b:place_builder) (res:place_piece) (fin:place_builder)
 (h:(((api_Rx.Kind x == (2:Int))=true→(∃ r0:place_piece,∃ o:place_builder,C_place_builder_place (api_Rx.Set x) b r0 o∧(res=r0∧fin=o)))∧((api_Rx.Kind x == (2:Int))=false→(((api_Rx.Kind x == (3:Int))=true→(∃ (Inv12:List arr4_uint64→List (List Int)→List Int→List Int→Bool→Int→Prop) (mu13:List arr4_uint64→List (List Int)→List Int→List Int→Bool→Int→Nat),Inv12 (place_builder.sets b) (place_builder.follow b) ([]) ([]) true 0∧(∀ (o0_sets:List arr4_uint64) (o0_follow:List (List Int)) (out_first:List Int) (out_last:List Int) (out_null:Bool) (t26:Int),Inv12 o0_sets o0_follow out_first out_last out_null t26→(((decide (t26 < (↑(List.length (api_Rx.Kids x)):Int)))=true→((0:Int)≤t26)∧t26 < ↑(List.length (api_Rx.Kids x))∧(∃ r0_5:place_piece,∃ o_5:place_builder,C_place_builder_piece (gd (api_Rx.Kids x) t26) ({ sets:=o0_sets,follow:=o0_follow }) r0_5 o_5∧(∃ r0_6:place_piece,∃ o_6:place_builder,C_place_builder_cat ({ first:=out_first,last:=out_last,null:=out_null }) r0_5 o_5 r0_6 o_6∧(Inv12 (place_builder.sets o_6) (place_builder.follow o_6) (place_piece.first r0_6) (place_piece.last r0_6) (place_piece.null r0_6) (w64 (t26+1))∧mu13 (place_builder.sets o_6) (place_builder.follow o_6) (place_piece.first r0_6) (place_piece.last r0_6) (place_piece.null r0_6) (w64 (t26+1)) < mu13 o0_sets o0_follow out_first out_last out_null t26))))∧((decide (t26 < (↑(List.length (api_Rx.Kids x)):Int)))=false→(res=({ first:=out_first,last:=out_last,null:=out_null })∧fin=({ sets:=o0_sets,follow:=o0_follow })))))))∧((api_Rx.Kind x == (3:Int))=false→(((api_Rx.Kind x == (4:Int))=true→(∃ (Inv32:List arr4_uint64→List (List Int)→List Int→List Int→Bool→Int→Prop) (mu33:List arr4_uint64→List (List Int)→List Int→List Int→Bool→Int→Nat),Inv32 (place_builder.sets b) (place_builder.follow b) ([]) ([]) false 0∧(∀ (o0_sets_1:List arr4_uint64) (o0_follow_1:List (List Int)) (out_first_1:List Int) (out_last_1:List Int) (out_null_1:Bool) (t43:Int),Inv32 o0_sets_1 o0_follow_1 out_first_1 out_last_1 out_null_1 t43→(((decide (t43 < (↑(List.length (api_Rx.Kids x)):Int)))=true→((0:Int)≤t43)∧t43 < ↑(List.length (api_Rx.Kids x))∧(∃ r0_13:place_piece,∃ o_9:place_builder,C_place_builder_piece (gd (api_Rx.Kids x) t43) ({ sets:=o0_sets_1,follow:=o0_follow_1 }) r0_13 o_9∧(∃ r0_14:List Int,C_place_Join_int out_first_1 (place_piece.first r0_13) r0_14∧(∃ r0_15:List Int,C_place_Join_int out_last_1 (place_piece.last r0_13) r0_15∧(Inv32 (place_builder.sets o_9) (place_builder.follow o_9) r0_14 r0_15 (out_null_1 || place_piece.null r0_13) (w64 (t43+1))∧mu33 (place_builder.sets o_9) (place_builder.follow o_9) r0_14 r0_15 (out_null_1 || place_piece.null r0_13) (w64 (t43+1)) < mu33 o0_sets_1 o0_follow_1 out_first_1 out_last_1 out_null_1 t43)))))∧((decide (t43 < (↑(List.length (api_Rx.Kids x)):Int)))=false→(res=({ first:=out_first_1,last:=out_last_1,null:=out_null_1 })∧fin=({ sets:=o0_sets_1,follow:=o0_follow_1 })))))))∧((api_Rx.Kind x == (4:Int))=false→(((api_Rx.Kind x == (5:Int))=true→(∃ r0_16:place_piece,∃ o_10:place_builder,C_place_builder_rep x b r0_16 o_10∧(res=r0_16∧fin=o_10)))∧((api_Rx.Kind x == (5:Int))=false→(res=({ first:=[],last:=[],null:=true })∧fin=b)))))))))):C_place_builder_piece x b res fin:=by
 unfold C_place_builder_piece
 have kk:=cfOk [37,68] 75
 refine fD (x:=bodyOf Try.f91) kk Try.func91 ?_
 refine wkS [1,3,4] [(1,.ptr 3 0),(3,ao_place_builder b),(4,av_api_Rx x)] (by kernel_rfl) ?_
 refine sDE kk [] [4] [(10,.ptr 11 0),(11,av_api_Rx x),(13,.ptr 14 0),(14,.agg [.own 3 ([]),.own 3 ([]),vB false])] [(10,.ptr 11 0),(11,av_api_Rx x),(13,.ptr 14 0),(14,.agg [oL 3 enc_i64 ([]),oL 3 enc_i64 ([]),vB false])] obN ?_
 refine qD ?_
 refine sD kk [] [] [(40,vi (api_Rx.Kind x))] obN ?_
 refine bD (id:=0) ?_
 refine sD kk [] [] [(43,vB (api_Rx.Kind x == (2:Int)))] obN ?_
 refine cD (t:=14) (b:=api_Rx.Kind x == (2:Int)) (fun hb0=>?_) (fun hb0=>?_)
 ·have h:=h.1 hb0
  obtain ⟨r0,o,hc1,h⟩:=h
  refine sD kk [.c (av_place_piece r0) [ao_place_builder o]] [1,10,11,40,43] [(3,ao_place_builder o),(14,av_place_piece r0)] (obC hc1 obN) ?_
  refine tD ?_
  obtain ⟨he0,he1⟩:=h
  subst res fin
  exact (endD [] (av_place_piece r0) [ao_place_builder o]).1
 ·have h:=h.2 hb0
  refine sD kk [] [43] [(61,vB (api_Rx.Kind x == (3:Int)))] obN ?_
  refine cD (t:=20) (b:=api_Rx.Kind x == (3:Int)) (fun hb2=>?_) (fun hb2=>?_)
  ·have h:=h.1 hb2
   refine sDE kk [] [40,61] [(16,.ptr 17 0),(17,.agg [.own 3 ([]),.own 3 ([]),vB true])] [(16,.ptr 17 0),(17,.agg [oL 3 enc_i64 ([]),oL 3 enc_i64 ([]),vB true])] obN ?_
   refine qD ?_
   refine sDE kk [] [10,11] [(73,vL enc_api_Rx (api_Rx.Kids x)),(76,vi ((↑(List.length (List.map enc_api_Rx (api_Rx.Kids x))):Int))),(79,vi 0)] [(73,vL enc_api_Rx (api_Rx.Kids x)),(76,vi ((↑(List.length (api_Rx.Kids x)):Int))),(79,vi 0)] obN ?_
   refine bD (id:=1) ?_
   obtain ⟨Inv12,mu13,h0Inv12,hInv12⟩:=h
   refine loD (fun (q:List arr4_uint64×List (List Int)×List Int×List Int×Bool×Int)=>(fun (o0_sets:List arr4_uint64) (o0_follow:List (List Int)) (out_first:List Int) (out_last:List Int) (out_null:Bool) (t26:Int)=>([(1,.ptr 3 0),(3,.agg [oL 33 enc_arr4_uint64 o0_sets,oL 30 encs_i64 o0_follow]),(13,.ptr 14 0),(14,.agg [oL 3 enc_i64 ([]),oL 3 enc_i64 ([]),vB false]),(16,.ptr 17 0),(17,.agg [vL enc_i64 out_first,vL enc_i64 out_last,vB out_null]),(73,vL enc_api_Rx (api_Rx.Kids x)),(76,vi ((↑(List.length (api_Rx.Kids x)):Int))),(79,vi t26)]:Sta)) q.1 q.2.1 q.2.2.1 q.2.2.2.1 q.2.2.2.2.1 q.2.2.2.2.2) (fun (q:List arr4_uint64×List (List Int)×List Int×List Int×Bool×Int)=>Inv12 q.1 q.2.1 q.2.2.1 q.2.2.2.1 q.2.2.2.2.1 q.2.2.2.2.2) (fun (q:List arr4_uint64×List (List Int)×List Int×List Int×Bool×Int)=>mu13 q.1 q.2.1 q.2.2.1 q.2.2.2.1 q.2.2.2.2.1 q.2.2.2.2.2) ((place_builder.sets b),(place_builder.follow b),([]),([]),true,0) [(17,0),(17,1)] h0Inv12 ?_
   rintro ⟨o0_sets,o0_follow,out_first,out_last,out_null,t26⟩ hi
   have h:=hInv12 o0_sets o0_follow out_first out_last out_null t26 hi
   refine sD kk [] [] [(82,vB (decide (t26 < (↑(List.length (api_Rx.Kids x)):Int))))] obN ?_
   refine qD ?_
   refine cD (t:=27) (b:=decide (t26 < (↑(List.length (api_Rx.Kids x)):Int))) (fun hb14=>?_) (fun hb14=>?_)
   ·have h:=h.1 hb14
    refine Sem.skip' (by kernel_rfl) Wk.refl ?_
    show Sem _ _ _ _ _
    refine wkD [82] ?_
    refine qD ?_
    refine bD (id:=2) ?_
    obtain ⟨h15,h⟩:=h
    obtain ⟨h16,h⟩:=h
    refine sD kk [.e (fv_api_Rx (gd (api_Rx.Kids x) t26))] [] [(22,.ptr 23 0),(23,av_api_Rx (gd (api_Rx.Kids x) t26))] (obC h15 (obC (idx_ok enc_api_Rx (api_Rx.Kids x) t26 _ (enc_api_Rx_eq _) h15 h16) obN)) ?_
    obtain ⟨r0_5,o_5,hc17,h⟩:=h
    obtain ⟨r0_6,o_6,hc18,h⟩:=h
    refine rD kk [.c (av_place_piece r0_5) [ao_place_builder o_5],.c (av_place_piece r0_6) [ao_place_builder o_6]] [22,23] [(3,ao_place_builder o_6),(17,av_place_piece r0_6)] (obC hc17 (obC hc18 obN)) ?_
    show Sem _ _ _ _ _
    refine rD kk [] [] [(79,vi (w64 (t26+1)))] obN ?_
    exact lD ((place_builder.sets o_6),(place_builder.follow o_6),(place_piece.first r0_6),(place_piece.last r0_6),(place_piece.null r0_6),(w64 (t26+1))) [] h
   ·have h:=h.2 hb14
    refine xD (i:=1) ?_
    show Sem _ _ _ _ _
    refine wkD [1,73,76,79,82] ?_
    refine sD kk [] [16,17] [(14,.agg [vL enc_i64 out_first,vL enc_i64 out_last,vB out_null])] obN ?_
    refine tD ?_
    obtain ⟨he0,he1⟩:=h
    subst res fin
    exact (endD [] (.agg [vL enc_i64 out_first,vL enc_i64 out_last,vB out_null]) [.agg [oL 33 enc_arr4_uint64 o0_sets,oL 30 encs_i64 o0_follow]]).1
  ·have h:=h.2 hb2
   refine sD kk [] [61] [(115,vB (api_Rx.Kind x == (4:Int)))] obN ?_
   refine cD (t:=38) (b:=api_Rx.Kind x == (4:Int)) (fun hb19=>?_) (fun hb19=>?_)
   ·have h:=h.1 hb19
    refine sDE kk [] [40,115] [(25,.ptr 26 0),(26,.agg [.own 3 ([]),.own 3 ([]),vB false])] [(25,.ptr 26 0),(26,.agg [oL 3 enc_i64 ([]),oL 3 enc_i64 ([]),vB false])] obN ?_
    refine qD ?_
    refine sDE kk [] [10,11] [(124,vL enc_api_Rx (api_Rx.Kids x)),(127,vi ((↑(List.length (List.map enc_api_Rx (api_Rx.Kids x))):Int))),(130,vi 0)] [(124,vL enc_api_Rx (api_Rx.Kids x)),(127,vi ((↑(List.length (api_Rx.Kids x)):Int))),(130,vi 0)] obN ?_
    refine bD (id:=3) ?_
    obtain ⟨Inv32,mu33,h0Inv32,hInv32⟩:=h
    refine loD (fun (q:List arr4_uint64×List (List Int)×List Int×List Int×Bool×Int)=>(fun (o0_sets_1:List arr4_uint64) (o0_follow_1:List (List Int)) (out_first_1:List Int) (out_last_1:List Int) (out_null_1:Bool) (t43:Int)=>([(1,.ptr 3 0),(3,.agg [oL 33 enc_arr4_uint64 o0_sets_1,oL 30 encs_i64 o0_follow_1]),(13,.ptr 14 0),(14,.agg [oL 3 enc_i64 ([]),oL 3 enc_i64 ([]),vB false]),(25,.ptr 26 0),(26,.agg [vL enc_i64 out_first_1,vL enc_i64 out_last_1,vB out_null_1]),(124,vL enc_api_Rx (api_Rx.Kids x)),(127,vi ((↑(List.length (api_Rx.Kids x)):Int))),(130,vi t43)]:Sta)) q.1 q.2.1 q.2.2.1 q.2.2.2.1 q.2.2.2.2.1 q.2.2.2.2.2) (fun (q:List arr4_uint64×List (List Int)×List Int×List Int×Bool×Int)=>Inv32 q.1 q.2.1 q.2.2.1 q.2.2.2.1 q.2.2.2.2.1 q.2.2.2.2.2) (fun (q:List arr4_uint64×List (List Int)×List Int×List Int×Bool×Int)=>mu33 q.1 q.2.1 q.2.2.1 q.2.2.2.1 q.2.2.2.2.1 q.2.2.2.2.2) ((place_builder.sets b),(place_builder.follow b),([]),([]),false,0) [(26,0),(26,1)] h0Inv32 ?_
    rintro ⟨o0_sets_1,o0_follow_1,out_first_1,out_last_1,out_null_1,t43⟩ hi
    have h:=hInv32 o0_sets_1 o0_follow_1 out_first_1 out_last_1 out_null_1 t43 hi
    refine sD kk [] [] [(133,vB (decide (t43 < (↑(List.length (api_Rx.Kids x)):Int))))] obN ?_
    refine qD ?_
    refine cD (t:=44) (b:=decide (t43 < (↑(List.length (api_Rx.Kids x)):Int))) (fun hb34=>?_) (fun hb34=>?_)
    ·have h:=h.1 hb34
     refine Sem.skip' (by kernel_rfl) Wk.refl ?_
     show Sem _ _ _ _ _
     refine wkD [133] ?_
     refine qD ?_
     refine bD (id:=4) ?_
     obtain ⟨h35,h⟩:=h
     obtain ⟨h36,h⟩:=h
     refine sD kk [.e (fv_api_Rx (gd (api_Rx.Kids x) t43))] [] [(31,.ptr 32 0),(32,av_api_Rx (gd (api_Rx.Kids x) t43))] (obC h35 (obC (idx_ok enc_api_Rx (api_Rx.Kids x) t43 _ (enc_api_Rx_eq _) h35 h36) obN)) ?_
     obtain ⟨r0_13,o_9,hc37,h⟩:=h
     refine sD kk [.c (av_place_piece r0_13) [ao_place_builder o_9]] [31,32] [(3,ao_place_builder o_9),(34,.ptr 35 0),(35,av_place_piece r0_13)] (obC hc37 obN) ?_
     obtain ⟨r0_14,hc38,h⟩:=h
     obtain ⟨r0_15,hc39,h⟩:=h
     refine rM [34,35] [(26,.agg [vL enc_i64 r0_14,vL enc_i64 r0_15,vB (out_null_1 || place_piece.null r0_13)])] ?_ (fun hk0=>?_)
     ·show Sem _ _ _ _ _
      refine rD kk [] [] [(130,vi (w64 (t43+1)))] obN ?_
      exact lD ((place_builder.sets o_9),(place_builder.follow o_9),r0_14,r0_15,(out_null_1 || place_piece.null r0_13),(w64 (t43+1))) [] h
     ·rcases Bool.eq_false_or_eq_true (out_null_1) with hb40 | hb40
      ·refine rD kk [.c (vL enc_i64 r0_14) [],.c (vL enc_i64 r0_15) [],.b false,.b false,.b true] [34,35] [(26,.agg [vL enc_i64 r0_14,vL enc_i64 r0_15,vB true])] (obC hc38 (obC hc39 (obC (gff hb40) (obC (gff hb40) (obC hb40 obN))))) ?_
       exact kcast (by try rw [hb40];kernel_rfl) hk0
      ·refine rD kk [.c (vL enc_i64 r0_14) [],.c (vL enc_i64 r0_15) [],.b true,.b true,.b false] [34,35] [(26,.agg [vL enc_i64 r0_14,vL enc_i64 r0_15,vB (place_piece.null r0_13)])] (obC hc38 (obC hc39 (obC (gft hb40) (obC (gft hb40) (obC hb40 obN))))) ?_
       exact kcast (by try rw [hb40];kernel_rfl) hk0
    ·have h:=h.2 hb34
     refine xD (i:=3) ?_
     show Sem _ _ _ _ _
     refine wkD [1,124,127,130,133] ?_
     refine sD kk [] [25,26] [(14,.agg [vL enc_i64 out_first_1,vL enc_i64 out_last_1,vB out_null_1])] obN ?_
     refine tD ?_
     obtain ⟨he0,he1⟩:=h
     subst res fin
     exact (endD [] (.agg [vL enc_i64 out_first_1,vL enc_i64 out_last_1,vB out_null_1]) [.agg [oL 33 enc_arr4_uint64 o0_sets_1,oL 30 encs_i64 o0_follow_1]]).1
   ·have h:=h.2 hb19
    refine sD kk [] [40,115] [(208,vB (api_Rx.Kind x == (5:Int)))] obN ?_
    refine cD (t:=69) (b:=api_Rx.Kind x == (5:Int)) (fun hb41=>?_) (fun hb41=>?_)
    ·have h:=h.1 hb41
     obtain ⟨r0_16,o_10,hc42,h⟩:=h
     refine sD kk [.c (av_place_piece r0_16) [ao_place_builder o_10]] [1,10,11,208] [(3,ao_place_builder o_10),(14,av_place_piece r0_16)] (obC hc42 obN) ?_
     refine tD ?_
     obtain ⟨he0,he1⟩:=h
     subst res fin
     exact (endD [] (av_place_piece r0_16) [ao_place_builder o_10]).1
    ·have h:=h.2 hb41
     refine Sem.skip' (by kernel_rfl) Wk.refl ?_
     show Sem _ _ _ _ _
     refine wkD [1,10,11,208] ?_
     refine sDE kk [] [] [(14,.agg [.own 3 ([]),.own 3 ([]),vB true])] [(14,.agg [oL 3 enc_i64 ([]),oL 3 enc_i64 ([]),vB true])] obN ?_
     refine tD ?_
     obtain ⟨he0,he1⟩:=h
     subst res fin
     exact (endD [(14,0),(14,1)] (.agg [vL enc_i64 ([]),vL enc_i64 ([]),vB true]) [ao_place_builder b]).1
set_option maxHeartbeats 1000000 in
theorem W_place_Of (x:api_Rx) (res:api_Places) (res_1:Int)
 (h:(∃ r0:Bool,C_rx_Right x r0∧(((!r0)=true→(res=({ Sets:=[],First:=[],Last:=[],Follow:=[],Null:=false })∧res_1=1))∧((!r0)=false→(∃ r0_1:place_piece,∃ o:place_builder,C_place_builder_piece x ({ sets:=[],follow:=[] }) r0_1 o∧(res=({ Sets:=place_builder.sets o,First:=place_piece.first r0_1,Last:=place_piece.last r0_1,Follow:=place_builder.follow o,Null:=place_piece.null r0_1 })∧res_1=0)))))):C_place_Of x res res_1:=by
 unfold C_place_Of
 have kk:=cfOk [] 30
 refine fD (x:=bodyOf Try.f60) kk Try.func60 ?_
 refine wkS [1] [(1,av_api_Rx x)] (by kernel_rfl) ?_
 refine sDE kk [] [1] [(4,.ptr 5 0),(5,av_api_Rx x),(7,.ptr 8 0),(8,.agg [.own 33 ([]),.own 3 ([]),.own 3 ([]),.own 30 ([]),vB false])] [(4,.ptr 5 0),(5,av_api_Rx x),(7,.ptr 8 0),(8,.agg [oL 33 enc_arr4_uint64 ([]),oL 3 enc_i64 ([]),oL 3 enc_i64 ([]),oL 30 encs_i64 ([]),vB false])] obN ?_
 refine qD ?_
 obtain ⟨r0,hc0,h⟩:=h
 refine sD kk [.c (vB r0) []] [] [(25,vB (!r0))] (obC hc0 obN) ?_
 refine cD (t:=8) (b:=!r0) (fun hb1=>?_) (fun hb1=>?_)
 ·have h:=h.1 hb1
  refine sDE kk [] [4,5,25] [(8,.agg [.own 33 ([]),.own 3 ([]),.own 3 ([]),.own 30 ([]),vB false]),(10,vi 1)] [(8,.agg [oL 33 enc_arr4_uint64 ([]),oL 3 enc_i64 ([]),oL 3 enc_i64 ([]),oL 30 encs_i64 ([]),vB false]),(10,vi 1)] obN ?_
  refine tD ?_
  obtain ⟨he0,he1⟩:=h
  subst res res_1
  exact (endD [] (.tup [.agg [.f (FV.sl (List.take (List.length (List.map enc_arr4_uint64 [])) (List.drop (0:Nat) (List.map enc_arr4_uint64 [])))),.f (FV.sl (List.take (List.length (List.map enc_i64 [])) (List.drop (0:Nat) (List.map enc_i64 [])))),.f (FV.sl (List.take (List.length (List.map enc_i64 [])) (List.drop (0:Nat) (List.map enc_i64 [])))),.f (FV.sl (List.take (List.length (List.map encs_i64 [])) (List.drop (0:Nat) (List.map encs_i64 [])))),vB false],vi 1]) []).1
 ·have h:=h.2 hb1
  refine Sem.skip' (by kernel_rfl) Wk.refl ?_
  show Sem _ _ _ _ _
  refine wkD [25] ?_
  refine sDE kk [] [] [(13,.ptr 35 0),(35,.agg [.own 33 ([]),.own 30 ([])])] [(13,.ptr 35 0),(35,.agg [oL 33 enc_arr4_uint64 ([]),oL 30 encs_i64 ([])])] obN ?_
  obtain ⟨r0_1,o,hc2,h⟩:=h
  refine sD kk [.c (av_place_piece r0_1) [ao_place_builder o]] [4,5] [(16,.ptr 17 0),(17,av_place_piece r0_1),(35,ao_place_builder o)] (obC hc2 obN) ?_
  refine sDE kk [] [13,16,17,35] [(8,.agg [.f (FV.sl (List.take (List.length (List.map enc_arr4_uint64 (place_builder.sets o))) (List.drop (0:Nat) (List.map enc_arr4_uint64 (place_builder.sets o))))),vL enc_i64 (place_piece.first r0_1),vL enc_i64 (place_piece.last r0_1),.f (FV.sl (List.take (List.length (List.map encs_i64 (place_builder.follow o))) (List.drop (0:Nat) (List.map encs_i64 (place_builder.follow o))))),vB (place_piece.null r0_1)]),(10,vi 0)] [(8,.agg [vL enc_arr4_uint64 (place_builder.sets o),vL enc_i64 (place_piece.first r0_1),vL enc_i64 (place_piece.last r0_1),vL encs_i64 (place_builder.follow o),vB (place_piece.null r0_1)]),(10,vi 0)] obN ?_
  refine tD ?_
  obtain ⟨he0,he1⟩:=h
  subst res res_1
  exact (endD [] (.tup [.agg [vL enc_arr4_uint64 (place_builder.sets o),vL enc_i64 (place_piece.first r0_1),vL enc_i64 (place_piece.last r0_1),vL encs_i64 (place_builder.follow o),vB (place_piece.null r0_1)],vi 0]) []).1
set_option maxHeartbeats 1000000 in
theorem W_slices_Index__int_int (s0:(List Int)) (v:Int) (res:Int)
 (h:(∃ (Inv7:Int→Prop) (mu8:Int→Nat),Inv7 0∧(∀ (t8:Int),Inv7 t8→(((decide (t8 < (↑(List.length s0):Int)))=true→((0:Int)≤t8)∧t8 < ↑(List.length s0)∧(((v == gd s0 t8)=true→(res=t8))∧((v == gd s0 t8)=false→(Inv7 (w64 (t8+1))∧mu8 (w64 (t8+1)) < mu8 t8))))∧((decide (t8 < (↑(List.length s0):Int)))=false→(res=(-1))))))):C_slices_Index__int_int s0 v res:=by
 unfold C_slices_Index__int_int
 have kk:=cfOk [17] 19
 refine fD (x:=bodyOf Try.f92) kk Try.func92 ?_
 refine wkS [1,4] [(1,vL enc_i64 s0),(4,vi v)] (by kernel_rfl) ?_
 refine sD kk [] [] [] obN ?_
 refine qD ?_
 refine sDE kk [] [] [(22,vi ((↑(List.length (List.map enc_i64 s0)):Int))),(25,vi 0)] [(22,vi ((↑(List.length s0):Int))),(25,vi 0)] obN ?_
 refine bD (id:=0) ?_
 obtain ⟨Inv7,mu8,h0Inv7,hInv7⟩:=h
 refine loD (fun (q:Int)=>(fun (t8:Int)=>([(1,vL enc_i64 s0),(4,vi v),(22,vi ((↑(List.length s0):Int))),(25,vi t8)]:Sta)) q) (fun (q:Int)=>Inv7 q) (fun (q:Int)=>mu8 q) 0 [] h0Inv7 ?_
 rintro t8 hi
 have h:=hInv7 t8 hi
 refine sD kk [] [] [(28,vB (decide (t8 < (↑(List.length s0):Int))))] obN ?_
 refine qD ?_
 refine cD (t:=9) (b:=decide (t8 < (↑(List.length s0):Int))) (fun hb9=>?_) (fun hb9=>?_)
 ·have h:=h.1 hb9
  refine Sem.skip' (by kernel_rfl) Wk.refl ?_
  show Sem _ _ _ _ _
  refine wkD [28] ?_
  refine qD ?_
  refine bD (id:=1) ?_
  refine sD kk [] [] [(16,vi t8)] obN ?_
  obtain ⟨h10,h⟩:=h
  obtain ⟨h11,h⟩:=h
  refine sD kk [.e (fi (gd s0 t8))] [] [(49,vB (v == gd s0 t8))] (obC h10 (obC (idx_ok enc_i64 s0 t8 _ rfl h10 h11) obN)) ?_
  refine cD (t:=16) (b:=v == gd s0 t8) (fun hb12=>?_) (fun hb12=>?_)
  ·have h:=h.1 hb12
   refine sD kk [] [1,4,16,22,25,49] [(13,vi t8)] obN ?_
   refine tD ?_
   obtain he0:=h
   subst res
   exact (endD [] (vi t8) []).1
  ·have h:=h.2 hb12
   refine Sem.skip' (by kernel_rfl) Wk.refl ?_
   show Sem _ _ _ _ _
   refine wkD [16,49] ?_
   refine rD kk [] [] [(25,vi (w64 (t8+1)))] obN ?_
   exact lD (w64 (t8+1)) [] h
 ·have h:=h.2 hb9
  refine xD (i:=0) ?_
  show Sem _ _ _ _ _
  refine wkD [1,4,22,25,28] ?_
  refine sD kk [] [] [(13,vi (-1))] obN ?_
  refine tD ?_
  obtain he0:=h
  subst res
  exact (endD [] (vi (-1)) []).1
set_option maxHeartbeats 1000000 in
theorem W_slices_Contains__int_int (s0:(List Int)) (v:Int) (res:Bool)
 (h:(∃ r0:Int,C_slices_Index__int_int s0 v r0∧(res=(decide (r0≥(0:Int)))))):C_slices_Contains__int_int s0 v res:=by
 unfold C_slices_Contains__int_int
 have kk:=cfOk [] 9
 refine fD (x:=bodyOf Try.f63) kk Try.func63 ?_
 refine wkS [1,4] [(1,vL enc_i64 s0),(4,vi v)] (by kernel_rfl) ?_
 refine sD kk [] [] [] obN ?_
 obtain ⟨r0,hc0,h⟩:=h
 refine sD kk [.c (vi r0) []] [1,4] [(13,vB (decide (r0≥(0:Int))))] (obC hc0 obN) ?_
 refine tD ?_
 obtain he0:=h
 subst res
 exact (endD [] (vB (decide (r0≥(0:Int)))) []).1
set_option maxHeartbeats 1000000 in
theorem W_split_ahead_L1 (k:Int) (v:api_Places) (v_1:ByteArray) (v_2:Int) (res:Bool) (fin:api_Places) (fin_1:ByteArray) (fin_2:Int)
 (h:((0:Int)≤k)∧k < ↑(List.length (api_Places.Sets v))∧((0:Int)≤v_2)∧v_2 < ↑(ByteArray.size v_1)∧(∃ r0:Bool,C_set_Has (gd (api_Places.Sets v) k) (w64 (↑(UInt8.toNat (byteAt v_1 v_2)):Int)) r0∧(res=r0∧fin=v∧fin_1=v_1∧fin_2=v_2))):C_split_ahead_L1 k v v_1 v_2 res fin fin_1 fin_2:=by
 unfold C_split_ahead_L1
 have kk:=cfOk [] 16
 refine fD (x:=bodyOf Try.f61) kk Try.func61 ?_
 refine wkS [1,3,4,6,7,9,10] [(1,vi k),(3,av_api_Places v),(4,.ptr 3 0),(6,vS v_1),(7,.ptr 6 0),(9,vi v_2),(10,.ptr 9 0)] (by kernel_rfl) ?_
 refine sD kk [] [] [] obN ?_
 obtain ⟨h0,h⟩:=h
 obtain ⟨h1,h⟩:=h
 obtain ⟨h2,h⟩:=h
 obtain ⟨h3,h⟩:=h
 obtain ⟨r0,hc4,h⟩:=h
 refine sD kk [.e (fv_arr4_uint64 (gd (api_Places.Sets v) k)),.y (byteAt v_1 v_2),.c (vB r0) []] [1,4,7,10] [(16,vB r0)] (obC h0 (obC (idx_ok enc_arr4_uint64 (api_Places.Sets v) k _ (enc_arr4_uint64_eq _) h0 h1) (obC h2 (obC (byte_ok v_1 v_2 h2 h3) (obC hc4 obN))))) ?_
 refine tD ?_
 obtain ⟨he0,he1,he2,he3⟩:=h
 subst res fin fin_1 fin_2
 exact (endD [] (vB r0) [av_api_Places v,vS v_1,vi v_2]).1
set_option maxHeartbeats 1000000 in
theorem W_split_ahead (x:api_Rx) (s0:ByteArray) (res:(List Bool))
 (h:(∃ r0:api_Places,∃ r0_1:Int,C_place_Of x r0 r0_1∧(∃ (Inv122:ByteArray→List arr4_uint64→List Int→List Int→List (List Int)→Bool→List Bool→List Int→Int→Prop) (mu123:ByteArray→List arr4_uint64→List Int→List Int→List (List Int)→Bool→List Bool→List Int→Int→Nat),Inv122 s0 (api_Places.Sets r0) (api_Places.First r0) (api_Places.Last r0) (api_Places.Follow r0) (api_Places.Null r0) ([api_Places.Null r0]) (api_Places.First r0) 0∧(∀ (s0_5:ByteArray) (p_Sets_4:List arr4_uint64) (p_First_4:List Int) (p_Last_4:List Int) (p_Follow_4:List (List Int)) (p_Null_4:Bool) (out:List Bool) (next:List Int) (t27:Int),Inv122 s0_5 p_Sets_4 p_First_4 p_Last_4 p_Follow_4 p_Null_4 out next t27→(((decide (t27 < (↑(ByteArray.size s0):Int)))=true→(∃ (Inv161:ByteArray→List arr4_uint64→List Int→List Int→List (List Int)→Bool→Int→List Int→Bool→Int→Prop) (mu162:ByteArray→List arr4_uint64→List Int→List Int→List (List Int)→Bool→Int→List Int→Bool→Int→Nat),Inv161 s0_5 p_Sets_4 p_First_4 p_Last_4 p_Follow_4 p_Null_4 t27 ([]) false 0∧(∀ (s0_11:ByteArray) (p_Sets_10:List arr4_uint64) (p_First_10:List Int) (p_Last_10:List Int) (p_Follow_10:List (List Int)) (p_Null_10:Bool) (i_9:Int) (then0_9:List Int) (is_9:Bool) (t33_2:Int),Inv161 s0_11 p_Sets_10 p_First_10 p_Last_10 p_Follow_10 p_Null_10 i_9 then0_9 is_9 t33_2→(((decide (t33_2 < (↑(List.length next):Int)))=true→(∃ J173:ByteArray→List arr4_uint64→List Int→List Int→List (List Int)→Bool→Int→List Int→Bool→Prop,(∀ (s0_13:ByteArray) (p_Sets_12:List arr4_uint64) (p_First_12:List Int) (p_Last_12:List Int) (p_Follow_12:List (List Int)) (p_Null_12:Bool) (i_11:Int) (then0_11:List Int) (is_11:Bool),J173 s0_13 p_Sets_12 p_First_12 p_Last_12 p_Follow_12 p_Null_12 i_11 then0_11 is_11→(Inv161 s0_13 p_Sets_12 p_First_12 p_Last_12 p_Follow_12 p_Null_12 i_11 then0_11 is_11 (w64 (t33_2+1))∧mu162 s0_13 p_Sets_12 p_First_12 p_Last_12 p_Follow_12 p_Null_12 i_11 then0_11 is_11 (w64 (t33_2+1)) < mu162 s0_11 p_Sets_10 p_First_10 p_Last_10 p_Follow_10 p_Null_10 i_9 then0_9 is_9 t33_2))∧((0:Int)≤t33_2)∧t33_2 < ↑(List.length next)∧(∃ r0_38:Bool,∃ o_51:api_Places,∃ o_52:ByteArray,∃ o_53:Int,C_split_ahead_L1 (gd next t33_2) ({ Sets:=p_Sets_10,First:=p_First_10,Last:=p_Last_10,Follow:=p_Follow_10,Null:=p_Null_10 }) s0_11 i_9 r0_38 o_51 o_52 o_53∧(((r0_38)=true→((0:Int)≤gd next t33_2)∧gd next t33_2 < ↑(List.length (api_Places.Follow o_51))∧((List.length then0_9+List.length (gd (api_Places.Follow o_51) (gd next t33_2))) * (8:Nat)≤(2:Nat) ^ (47:Nat))∧(((is_9)=true→J173 o_52 (api_Places.Sets o_51) (api_Places.First o_51) (api_Places.Last o_51) (api_Places.Follow o_51) (api_Places.Null o_51) o_53 (then0_9++gd (api_Places.Follow o_51) (gd next t33_2)) true)∧((is_9)=false→(∃ r0_39:Bool,C_slices_Contains__int_int (api_Places.Last o_51) (gd next t33_2) r0_39∧J173 o_52 (api_Places.Sets o_51) (api_Places.First o_51) (api_Places.Last o_51) (api_Places.Follow o_51) (api_Places.Null o_51) o_53 (then0_9++gd (api_Places.Follow o_51) (gd next t33_2)) r0_39))))∧((r0_38)=false→J173 o_52 (api_Places.Sets o_51) (api_Places.First o_51) (api_Places.Last o_51) (api_Places.Follow o_51) (api_Places.Null o_51) o_53 then0_9 is_9)))))∧((decide (t33_2 < (↑(List.length next):Int)))=false→(∃ r0_40:List Int,C_place_Join_int then0_9 ([]) r0_40∧((List.length out+(1:Nat)) * (1:Nat)≤(2:Nat) ^ (47:Nat))∧(Inv122 s0_11 p_Sets_10 p_First_10 p_Last_10 p_Follow_10 p_Null_10 (out++[is_9]) r0_40 (w64 (t27+1))∧mu123 s0_11 p_Sets_10 p_First_10 p_Last_10 p_Follow_10 p_Null_10 (out++[is_9]) r0_40 (w64 (t27+1)) < mu123 s0_5 p_Sets_4 p_First_4 p_Last_4 p_Follow_4 p_Null_4 out next t27)))))))∧((decide (t27 < (↑(ByteArray.size s0):Int)))=false→(res=out))))))):C_split_ahead x s0 res:=by
 unfold C_split_ahead
 have kk:=cfOk [62] 63
 refine fD (x:=bodyOf Try.f30) kk Try.func30 ?_
 refine wkS [1,4] [(1,av_api_Rx x),(4,vS s0)] (by kernel_rfl) ?_
 refine sD kk [] [1,4] [(7,.ptr 8 0),(8,av_api_Rx x),(10,.ptr 11 0),(11,vS s0)] obN ?_
 obtain ⟨r0,r0_1,hc0,h⟩:=h
 refine sD kk [.c (.tup [av_api_Places r0,vi r0_1]) []] [7,8] [(16,.ptr 17 0),(17,av_api_Places r0)] (obC hc0 obN) ?_
 refine sDE kk [] [] [(22,.own 4 ([FV.pv (Value.bool (api_Places.Null r0))]))] [(22,oL 4 enc_bool ([api_Places.Null r0]))] obN ?_
 refine sD kk [] [] [(25,vL enc_i64 (api_Places.First r0))] obN ?_
 refine qD ?_
 refine sD kk [] [] [(79,vi ((↑(ByteArray.size s0):Int))),(82,vi 0)] obN ?_
 refine bD (id:=0) ?_
 obtain ⟨Inv122,mu123,h0Inv122,hInv122⟩:=h
 refine loD (fun (q:ByteArray×List arr4_uint64×List Int×List Int×List (List Int)×Bool×List Bool×List Int×Int)=>(fun (s0_5:ByteArray) (p_Sets_4:List arr4_uint64) (p_First_4:List Int) (p_Last_4:List Int) (p_Follow_4:List (List Int)) (p_Null_4:Bool) (out:List Bool) (next:List Int) (t27:Int)=>([(10,.ptr 11 0),(11,vS s0_5),(16,.ptr 17 0),(17,.agg [vL enc_arr4_uint64 p_Sets_4,vL enc_i64 p_First_4,vL enc_i64 p_Last_4,vL encs_i64 p_Follow_4,vB p_Null_4]),(22,oL 4 enc_bool out),(25,vL enc_i64 next),(79,vi ((↑(ByteArray.size s0):Int))),(82,vi t27)]:Sta)) q.1 q.2.1 q.2.2.1 q.2.2.2.1 q.2.2.2.2.1 q.2.2.2.2.2.1 q.2.2.2.2.2.2.1 q.2.2.2.2.2.2.2.1 q.2.2.2.2.2.2.2.2) (fun (q:ByteArray×List arr4_uint64×List Int×List Int×List (List Int)×Bool×List Bool×List Int×Int)=>Inv122 q.1 q.2.1 q.2.2.1 q.2.2.2.1 q.2.2.2.2.1 q.2.2.2.2.2.1 q.2.2.2.2.2.2.1 q.2.2.2.2.2.2.2.1 q.2.2.2.2.2.2.2.2) (fun (q:ByteArray×List arr4_uint64×List Int×List Int×List (List Int)×Bool×List Bool×List Int×Int)=>mu123 q.1 q.2.1 q.2.2.1 q.2.2.2.1 q.2.2.2.2.1 q.2.2.2.2.2.1 q.2.2.2.2.2.2.1 q.2.2.2.2.2.2.2.1 q.2.2.2.2.2.2.2.2) (s0,(api_Places.Sets r0),(api_Places.First r0),(api_Places.Last r0),(api_Places.Follow r0),(api_Places.Null r0),([api_Places.Null r0]),(api_Places.First r0),0) [] h0Inv122 ?_
 rintro ⟨s0_5,p_Sets_4,p_First_4,p_Last_4,p_Follow_4,p_Null_4,out,next,t27⟩ hi
 have h:=hInv122 s0_5 p_Sets_4 p_First_4 p_Last_4 p_Follow_4 p_Null_4 out next t27 hi
 refine sD kk [] [] [(85,vB (decide (t27 < (↑(ByteArray.size s0):Int))))] obN ?_
 refine qD ?_
 refine cD (t:=28) (b:=decide (t27 < (↑(ByteArray.size s0):Int))) (fun hb124=>?_) (fun hb124=>?_)
 ·have h:=h.1 hb124
  refine Sem.skip' (by kernel_rfl) Wk.refl ?_
  show Sem _ _ _ _ _
  refine wkD [85] ?_
  refine qD ?_
  refine bD (id:=1) ?_
  refine sD kk [] [] [(28,.ptr 29 0),(29,vi t27)] obN ?_
  refine sD kk [] [28] [(31,.clo 61 [.ptr 17 0,.ptr 11 0,.ptr 29 0])] obN ?_
  refine sDE kk [] [] [(34,.own 3 ([]))] [(34,oL 3 enc_i64 ([]))] obN ?_
  refine sD kk [] [] [(37,vB false)] obN ?_
  refine qD ?_
  refine sDE kk [] [25] [(94,vL enc_i64 next),(97,vi ((↑(List.length (List.map enc_i64 next)):Int))),(100,vi 0)] [(94,vL enc_i64 next),(97,vi ((↑(List.length next):Int))),(100,vi 0)] obN ?_
  refine bD (id:=2) ?_
  obtain ⟨Inv161,mu162,h0Inv161,hInv161⟩:=h
  refine loD (fun (q:ByteArray×List arr4_uint64×List Int×List Int×List (List Int)×Bool×Int×List Int×Bool×Int)=>(fun (s0_11:ByteArray) (p_Sets_10:List arr4_uint64) (p_First_10:List Int) (p_Last_10:List Int) (p_Follow_10:List (List Int)) (p_Null_10:Bool) (i_9:Int) (then0_9:List Int) (is_9:Bool) (t33_2:Int)=>([(10,.ptr 11 0),(11,vS s0_11),(16,.ptr 17 0),(17,.agg [vL enc_arr4_uint64 p_Sets_10,vL enc_i64 p_First_10,vL enc_i64 p_Last_10,vL encs_i64 p_Follow_10,vB p_Null_10]),(22,oL 4 enc_bool out),(29,vi i_9),(31,.clo 61 [.ptr 17 0,.ptr 11 0,.ptr 29 0]),(34,oL 3 enc_i64 then0_9),(37,vB is_9),(79,vi ((↑(ByteArray.size s0):Int))),(82,vi t27),(94,vL enc_i64 next),(97,vi ((↑(List.length next):Int))),(100,vi t33_2)]:Sta)) q.1 q.2.1 q.2.2.1 q.2.2.2.1 q.2.2.2.2.1 q.2.2.2.2.2.1 q.2.2.2.2.2.2.1 q.2.2.2.2.2.2.2.1 q.2.2.2.2.2.2.2.2.1 q.2.2.2.2.2.2.2.2.2) (fun (q:ByteArray×List arr4_uint64×List Int×List Int×List (List Int)×Bool×Int×List Int×Bool×Int)=>Inv161 q.1 q.2.1 q.2.2.1 q.2.2.2.1 q.2.2.2.2.1 q.2.2.2.2.2.1 q.2.2.2.2.2.2.1 q.2.2.2.2.2.2.2.1 q.2.2.2.2.2.2.2.2.1 q.2.2.2.2.2.2.2.2.2) (fun (q:ByteArray×List arr4_uint64×List Int×List Int×List (List Int)×Bool×Int×List Int×Bool×Int)=>mu162 q.1 q.2.1 q.2.2.1 q.2.2.2.1 q.2.2.2.2.1 q.2.2.2.2.2.1 q.2.2.2.2.2.2.1 q.2.2.2.2.2.2.2.1 q.2.2.2.2.2.2.2.2.1 q.2.2.2.2.2.2.2.2.2) (s0_5,p_Sets_4,p_First_4,p_Last_4,p_Follow_4,p_Null_4,t27,([]),false,0) [] h0Inv161 ?_
  rintro ⟨s0_11,p_Sets_10,p_First_10,p_Last_10,p_Follow_10,p_Null_10,i_9,then0_9,is_9,t33_2⟩ hi
  have h:=hInv161 s0_11 p_Sets_10 p_First_10 p_Last_10 p_Follow_10 p_Null_10 i_9 then0_9 is_9 t33_2 hi
  refine sD kk [] [] [(103,vB (decide (t33_2 < (↑(List.length next):Int))))] obN ?_
  refine qD ?_
  refine cD (t:=34) (b:=decide (t33_2 < (↑(List.length next):Int))) (fun hb163=>?_) (fun hb163=>?_)
  ·have h:=h.1 hb163
   refine Sem.skip' (by kernel_rfl) Wk.refl ?_
   show Sem _ _ _ _ _
   refine wkD [103] ?_
   obtain ⟨J173,hJ173,h⟩:=h
   refine sjD (fun (q:ByteArray×List arr4_uint64×List Int×List Int×List (List Int)×Bool×Int×List Int×Bool)=>J173 q.1 q.2.1 q.2.2.1 q.2.2.2.1 q.2.2.2.2.1 q.2.2.2.2.2.1 q.2.2.2.2.2.2.1 q.2.2.2.2.2.2.2.1 q.2.2.2.2.2.2.2.2) (fun (q:ByteArray×List arr4_uint64×List Int×List Int×List (List Int)×Bool×Int×List Int×Bool)=>(fun (s0_13:ByteArray) (p_Sets_12:List arr4_uint64) (p_First_12:List Int) (p_Last_12:List Int) (p_Follow_12:List (List Int)) (p_Null_12:Bool) (i_11:Int) (then0_11:List Int) (is_11:Bool)=>([(10,.ptr 11 0),(11,vS s0_13),(16,.ptr 17 0),(17,.agg [vL enc_arr4_uint64 p_Sets_12,vL enc_i64 p_First_12,vL enc_i64 p_Last_12,vL encs_i64 p_Follow_12,vB p_Null_12]),(22,oL 4 enc_bool out),(29,vi i_11),(31,.clo 61 [.ptr 17 0,.ptr 11 0,.ptr 29 0]),(34,oL 3 enc_i64 then0_11),(37,vB is_11),(79,vi ((↑(ByteArray.size s0):Int))),(82,vi t27),(94,vL enc_i64 next),(97,vi ((↑(List.length next):Int))),(100,vi t33_2)]:Sta)) q.1 q.2.1 q.2.2.1 q.2.2.2.1 q.2.2.2.2.1 q.2.2.2.2.2.1 q.2.2.2.2.2.2.1 q.2.2.2.2.2.2.2.1 q.2.2.2.2.2.2.2.2) ?_ ?_
   ·rintro ⟨s0_13,p_Sets_12,p_First_12,p_Last_12,p_Follow_12,p_Null_12,i_11,then0_11,is_11⟩ hj
    have h:=hJ173 s0_13 p_Sets_12 p_First_12 p_Last_12 p_Follow_12 p_Null_12 i_11 then0_11 is_11 hj
    refine rD kk [] [] [(100,vi (w64 (t33_2+1)))] obN ?_
    exact lD (s0_13,p_Sets_12,p_First_12,p_Last_12,p_Follow_12,p_Null_12,i_11,then0_11,is_11,(w64 (t33_2+1))) [] h
   ·refine bD (id:=3) ?_
    obtain ⟨h174,h⟩:=h
    obtain ⟨h175,h⟩:=h
    refine sD kk [.e (fi (gd next t33_2))] [] [(43,vi (gd next t33_2))] (obC h174 (obC (idx_ok enc_i64 next t33_2 _ rfl h174 h175) obN)) ?_
    obtain ⟨r0_38,o_51,o_52,o_53,hc176,h⟩:=h
    refine sD kk [.c (vB r0_38) [av_api_Places o_51,vS o_52,vi o_53]] [] [(11,vS o_52),(17,av_api_Places o_51),(29,vi o_53),(118,vB r0_38)] (obC hc176 obN) ?_
    refine cD (t:=39) (b:=r0_38) (fun hb177=>?_) (fun hb177=>?_)
    ·have h:=h.1 hb177
     obtain ⟨h178,h⟩:=h
     obtain ⟨h179,h⟩:=h
     obtain ⟨h180,h⟩:=h
     refine sDE kk [.e (fL enc_i64 (gd (api_Places.Follow o_51) (gd next t33_2)))] [118] [(34,.own 3 (List.map enc_i64 then0_9++List.map enc_i64 (gd (api_Places.Follow o_51) (gd next t33_2))))] [(34,oL 3 enc_i64 (then0_9++gd (api_Places.Follow o_51) (gd next t33_2)))] (obC h178 (obC (idx_ok encs_i64 (api_Places.Follow o_51) (gd next t33_2) _ rfl h178 h179) (obC (show (0:Nat)=(0:Nat)∧List.length (List.map enc_i64 then0_9)=List.length (List.map enc_i64 then0_9) from by first | decide | rfl | trivial | (simp only [nm]<;>first | decide | rfl | omega)) (obC (show (List.length (List.map enc_i64 then0_9)+List.length (List.map enc_i64 (gd (api_Places.Follow o_51) (gd next t33_2)))) * (8:Nat)≤(2:Nat) ^ (47:Nat) from by simpa only [nm] using h180) (obC (show List.all (List.map enc_i64 (gd (api_Places.Follow o_51) (gd next t33_2))) (FV.fits (1:Nat))=true from by first | exact fits_i64 _ | rfl | simp [isByteF,FV.fits,FV.size,FV.cells,FV.one,enc_i64]) obN))))) ?_
     rcases Bool.eq_false_or_eq_true (is_9) with hb181 | hb181
     ·have h:=h.1 hb181
      refine rD kk [.b false,.b false,.b false,.b false,.b true] [43] [(37,vB true)] (obC (gff hb181) (obC (gff hb181) (obC (gff hb181) (obC (gff hb181) (obC hb181 obN))))) ?_
      exact jD (o_52,(api_Places.Sets o_51),(api_Places.First o_51),(api_Places.Last o_51),(api_Places.Follow o_51),(api_Places.Null o_51),o_53,(then0_9++gd (api_Places.Follow o_51) (gd next t33_2)),true) [] h
     ·have h:=h.2 hb181
      obtain ⟨r0_39,hc182,h⟩:=h
      refine rD kk [.b true,.b true,.b true,.b true,.c (vB r0_39) [],.b false] [43] [(37,vB r0_39)] (obC (gft hb181) (obC (gft hb181) (obC (gft hb181) (obC (gft hb181) (obC hc182 (obC hb181 obN)))))) ?_
      exact jD (o_52,(api_Places.Sets o_51),(api_Places.First o_51),(api_Places.Last o_51),(api_Places.Follow o_51),(api_Places.Null o_51),o_53,(then0_9++gd (api_Places.Follow o_51) (gd next t33_2)),r0_39) [] h
    ·have h:=h.2 hb177
     refine Sem.skip' (by kernel_rfl) Wk.refl ?_
     exact jD (o_52,(api_Places.Sets o_51),(api_Places.First o_51),(api_Places.Last o_51),(api_Places.Follow o_51),(api_Places.Null o_51),o_53,then0_9,is_9) [] h
  ·have h:=h.2 hb163
   refine xD (i:=2) ?_
   show Sem _ _ _ _ _
   refine wkD [29,31,94,97,100,103] ?_
   obtain ⟨r0_40,hc183,h⟩:=h
   refine sD kk [.c (vL enc_i64 r0_40) []] [34] [(25,vL enc_i64 r0_40)] (obC (Eq.mp (by unfold C_place_Join_int;(try simp only [List.drop_zero,List.take_length]);first | done | simp only [nm,enq]:C_place_Join_int then0_9 ([]) r0_40=CallE Try.prog 64 [.f (FV.sl (List.take (List.length (List.map enc_i64 then0_9)) (List.drop (0:Nat) (List.map enc_i64 then0_9)))),.f (FV.sl [])] [] (vL enc_i64 r0_40) []) hc183) obN) ?_
   obtain ⟨h184,h⟩:=h
   refine rDE kk [] [37] [(22,.own 4 (List.map enc_bool out++List.take (List.length [FV.pv (Value.bool is_9)]) (List.drop (0:Nat) [FV.pv (Value.bool is_9)])))] [(22,oL 4 enc_bool (out++[is_9]))] (obC (show (0:Nat)=(0:Nat)∧List.length (List.map enc_bool out)=List.length (List.map enc_bool out) from by first | decide | rfl | trivial | (simp only [nm]<;>first | decide | rfl | omega)) (obC (show (List.length (List.map enc_bool out)+List.length (List.take (1:Nat) (List.drop (0:Nat) [FV.pv (Value.bool is_9)]))) * (1:Nat)≤(2:Nat) ^ (47:Nat) from by simpa only [nm] using h184) (obC (show List.all (List.take (1:Nat) (List.drop (0:Nat) [FV.pv (Value.bool is_9)])) (FV.fits (1:Nat))=true from by first | exact fits_bool _ | rfl | simp [isByteF,FV.fits,FV.size,FV.cells,FV.one,]) obN))) ?_
   show Sem _ _ _ _ _
   refine rD kk [] [] [(82,vi (w64 (t27+1)))] obN ?_
   exact lD (s0_11,p_Sets_10,p_First_10,p_Last_10,p_Follow_10,p_Null_10,(out++[is_9]),r0_40,(w64 (t27+1))) [] h
 ·have h:=h.2 hb124
  refine xD (i:=0) ?_
  show Sem _ _ _ _ _
  refine wkD [10,11,16,17,25,79,82,85] ?_
  refine sD kk [] [22] [(13,oL 4 enc_bool out)] obN ?_
  refine tD ?_
  obtain he0:=h
  subst res
  exact (endD [] (oL 4 enc_bool out) []).1
set_option maxHeartbeats 1000000 in
theorem W_split_Ahead (x:api_Rx) (s0:ByteArray) (res:(List Bool))
 (h:(∃ r0:Bool,C_rx_Right x r0∧(((!r0 || decide ((↑(ByteArray.size s0):Int) > (10000:Int)))=true→(res=([])))∧((!r0 || decide ((↑(ByteArray.size s0):Int) > (10000:Int)))=false→(∃ r0_1:List Bool,C_split_ahead x s0 r0_1∧(res=r0_1)))))):C_split_Ahead x s0 res:=by
 unfold C_split_Ahead
 have kk:=cfOk [] 16
 refine fD (x:=bodyOf Try.f19) kk Try.func19 ?_
 refine wkS [1,4] [(1,av_api_Rx x),(4,vS s0)] (by kernel_rfl) ?_
 refine sD kk [] [1] [(7,.ptr 8 0),(8,av_api_Rx x)] obN ?_
 refine qD ?_
 obtain ⟨r0,hc0,h⟩:=h
 refine sM [] [(37,vB (!r0 || decide ((↑(ByteArray.size s0):Int) > (10000:Int))))] ?_ (fun hk0=>?_)
 ·refine cD (t:=12) (b:=!r0 || decide ((↑(ByteArray.size s0):Int) > (10000:Int))) (fun hb2=>?_) (fun hb2=>?_)
  ·have h:=h.1 hb2
   refine sDE kk [] [4,7,8,37] [(13,.own 4 ([]))] [(13,oL 4 enc_bool ([]))] obN ?_
   refine tD ?_
   obtain he0:=h
   subst res
   exact (endD [] (oL 4 enc_bool ([])) []).1
  ·have h:=h.2 hb2
   refine Sem.skip' (by kernel_rfl) Wk.refl ?_
   show Sem _ _ _ _ _
   refine wkD [37] ?_
   obtain ⟨r0_1,hc3,h⟩:=h
   refine sD kk [.c (oL 4 enc_bool r0_1) []] [4,7,8] [(13,oL 4 enc_bool r0_1)] (obC hc3 obN) ?_
   refine tD ?_
   obtain he0:=h
   subst res
   exact (endD [] (oL 4 enc_bool r0_1) []).1
 ·rcases Bool.eq_false_or_eq_true (!r0) with hb1 | hb1
  ·refine sD kk [.c (vB r0) [],.b false,.b false,.b false,.b true] [] [(37,vB true)] (obC hc0 (obC (gff hb1) (obC (gff hb1) (obC (gff hb1) (obC hb1 obN))))) ?_
   exact Sem.cast (by try rw [hb1];kernel_rfl) hk0
  ·refine sD kk [.c (vB r0) [],.b true,.b true,.b true,.b false] [] [(37,vB (decide ((↑(ByteArray.size s0):Int) > (10000:Int))))] (obC hc0 (obC (gft hb1) (obC (gft hb1) (obC (gft hb1) (obC hb1 obN))))) ?_
   exact Sem.cast (by try rw [hb1];kernel_rfl) hk0
set_option maxHeartbeats 1000000 in
theorem W_split_reverse (x:api_Rx) (res:api_Rx)
 (h:(∃ J2:List api_Rx→Prop,(∀ (x_Kids:List api_Rx),J2 x_Kids→(∃ (Inv11:List api_Rx→Int→Prop) (mu12:List api_Rx→Int→Nat),Inv11 ([]) 0∧(∀ (kids:List api_Rx) (t16:Int),Inv11 kids t16→(((decide (t16 < (↑(List.length x_Kids):Int)))=true→((0:Int)≤t16)∧t16 < ↑(List.length x_Kids)∧(∃ r0_3:api_Rx,C_split_reverse (gd x_Kids t16) r0_3∧((List.length kids+(1:Nat)) * (80:Nat)≤(2:Nat) ^ (47:Nat))∧(Inv11 (kids++[r0_3]) (w64 (t16+1))∧mu12 (kids++[r0_3]) (w64 (t16+1)) < mu12 kids t16)))∧((decide (t16 < (↑(List.length x_Kids):Int)))=false→(res=({ Kind:=api_Rx.Kind x,Set:=api_Rx.Set x,Lo:=api_Rx.Lo x,Hi:=api_Rx.Hi x,Kids:=kids })))))))∧(((api_Rx.Kind x == (3:Int))=true→(∃ r0_4:List api_Rx,C_split_turned_api_Rx (api_Rx.Kids x) r0_4∧J2 r0_4))∧((api_Rx.Kind x == (3:Int))=false→J2 (api_Rx.Kids x))))):C_split_reverse x res:=by
 unfold C_split_reverse
 have kk:=cfOk [28] 29
 refine fD (x:=bodyOf Try.f31) kk Try.func31 ?_
 refine wkS [1] [(1,av_api_Rx x)] (by kernel_rfl) ?_
 refine sDE kk [] [1] [(4,.ptr 5 0),(5,av_api_Rx x),(7,.ptr 8 0),(8,.agg [vi 0,vI .u64 0,vI .u64 0,vI .u64 0,vI .u64 0,vi 0,vi 0,.own 36 ([])])] [(4,.ptr 5 0),(5,av_api_Rx x),(7,.ptr 8 0),(8,.agg [vi 0,vI .u64 0,vI .u64 0,vI .u64 0,vI .u64 0,vi 0,vi 0,oL 36 enc_api_Rx ([])])] obN ?_
 obtain ⟨J2,hJ2,h⟩:=h
 refine sjD (fun (q:List api_Rx)=>J2 q) (fun (q:List api_Rx)=>(fun (x_Kids:List api_Rx)=>([(4,.ptr 5 0),(5,.agg [vi (api_Rx.Kind x),vI .u64 (arr4_uint64.e0 (api_Rx.Set x)),vI .u64 (arr4_uint64.e1 (api_Rx.Set x)),vI .u64 (arr4_uint64.e2 (api_Rx.Set x)),vI .u64 (arr4_uint64.e3 (api_Rx.Set x)),vi (api_Rx.Lo x),vi (api_Rx.Hi x),vL enc_api_Rx x_Kids]),(7,.ptr 8 0),(8,.agg [vi 0,vI .u64 0,vI .u64 0,vI .u64 0,vI .u64 0,vi 0,vi 0,oL 36 enc_api_Rx ([])])]:Sta)) q) ?_ ?_
 ·rintro x_Kids hj
  have h:=hJ2 x_Kids hj
  refine sDE kk [] [] [(10,.own 36 ([]))] [(10,oL 36 enc_api_Rx ([]))] obN ?_
  refine qD ?_
  refine sDE kk [] [] [(43,vL enc_api_Rx x_Kids),(46,vi ((↑(List.length (List.map enc_api_Rx x_Kids)):Int))),(49,vi 0)] [(43,vL enc_api_Rx x_Kids),(46,vi ((↑(List.length x_Kids):Int))),(49,vi 0)] obN ?_
  refine bD (id:=0) ?_
  obtain ⟨Inv11,mu12,h0Inv11,hInv11⟩:=h
  refine loD (fun (q:List api_Rx×Int)=>(fun (kids:List api_Rx) (t16:Int)=>([(4,.ptr 5 0),(5,.agg [vi (api_Rx.Kind x),vI .u64 (arr4_uint64.e0 (api_Rx.Set x)),vI .u64 (arr4_uint64.e1 (api_Rx.Set x)),vI .u64 (arr4_uint64.e2 (api_Rx.Set x)),vI .u64 (arr4_uint64.e3 (api_Rx.Set x)),vi (api_Rx.Lo x),vi (api_Rx.Hi x),vL enc_api_Rx x_Kids]),(7,.ptr 8 0),(8,.agg [vi 0,vI .u64 0,vI .u64 0,vI .u64 0,vI .u64 0,vi 0,vi 0,oL 36 enc_api_Rx ([])]),(10,oL 36 enc_api_Rx kids),(43,vL enc_api_Rx x_Kids),(46,vi ((↑(List.length x_Kids):Int))),(49,vi t16)]:Sta)) q.1 q.2) (fun (q:List api_Rx×Int)=>Inv11 q.1 q.2) (fun (q:List api_Rx×Int)=>mu12 q.1 q.2) (([]),0) [] h0Inv11 ?_
  rintro ⟨kids,t16⟩ hi
  have h:=hInv11 kids t16 hi
  refine sD kk [] [] [(52,vB (decide (t16 < (↑(List.length x_Kids):Int))))] obN ?_
  refine qD ?_
  refine cD (t:=17) (b:=decide (t16 < (↑(List.length x_Kids):Int))) (fun hb13=>?_) (fun hb13=>?_)
  ·have h:=h.1 hb13
   refine Sem.skip' (by kernel_rfl) Wk.refl ?_
   show Sem _ _ _ _ _
   refine wkD [52] ?_
   refine qD ?_
   refine bD (id:=1) ?_
   obtain ⟨h14,h⟩:=h
   obtain ⟨h15,h⟩:=h
   refine sD kk [.e (fv_api_Rx (gd x_Kids t16))] [] [(16,.ptr 17 0),(17,av_api_Rx (gd x_Kids t16))] (obC h14 (obC (idx_ok enc_api_Rx x_Kids t16 _ (enc_api_Rx_eq _) h14 h15) obN)) ?_
   obtain ⟨r0_3,hc16,h⟩:=h
   obtain ⟨h17,h⟩:=h
   refine rDE kk [.c (av_api_Rx r0_3) []] [16,17] [(10,.own 36 (List.map enc_api_Rx kids++List.take (List.length [FV.agg [FV.pv (Value.int IntKind.i64 (api_Rx.Kind r0_3)),FV.pv (Value.int IntKind.u64 (arr4_uint64.e0 (api_Rx.Set r0_3))),FV.pv (Value.int IntKind.u64 (arr4_uint64.e1 (api_Rx.Set r0_3))),FV.pv (Value.int IntKind.u64 (arr4_uint64.e2 (api_Rx.Set r0_3))),FV.pv (Value.int IntKind.u64 (arr4_uint64.e3 (api_Rx.Set r0_3))),FV.pv (Value.int IntKind.i64 (api_Rx.Lo r0_3)),FV.pv (Value.int IntKind.i64 (api_Rx.Hi r0_3)),FV.sl (List.map enc_api_Rx (api_Rx.Kids r0_3))]]) (List.drop (0:Nat) [FV.agg [FV.pv (Value.int IntKind.i64 (api_Rx.Kind r0_3)),FV.pv (Value.int IntKind.u64 (arr4_uint64.e0 (api_Rx.Set r0_3))),FV.pv (Value.int IntKind.u64 (arr4_uint64.e1 (api_Rx.Set r0_3))),FV.pv (Value.int IntKind.u64 (arr4_uint64.e2 (api_Rx.Set r0_3))),FV.pv (Value.int IntKind.u64 (arr4_uint64.e3 (api_Rx.Set r0_3))),FV.pv (Value.int IntKind.i64 (api_Rx.Lo r0_3)),FV.pv (Value.int IntKind.i64 (api_Rx.Hi r0_3)),FV.sl (List.map enc_api_Rx (api_Rx.Kids r0_3))]])))] [(10,oL 36 enc_api_Rx (kids++[r0_3]))] (obC hc16 (obC (show (0:Nat)=(0:Nat)∧List.length (List.map enc_api_Rx kids)=List.length (List.map enc_api_Rx kids) from by first | decide | rfl | trivial | (simp only [nm]<;>first | decide | rfl | omega)) (obC (show (List.length (List.map enc_api_Rx kids)+List.length (List.take (1:Nat) (List.drop (0:Nat) [FV.agg [FV.pv (Value.int IntKind.i64 (api_Rx.Kind r0_3)),FV.pv (Value.int IntKind.u64 (arr4_uint64.e0 (api_Rx.Set r0_3))),FV.pv (Value.int IntKind.u64 (arr4_uint64.e1 (api_Rx.Set r0_3))),FV.pv (Value.int IntKind.u64 (arr4_uint64.e2 (api_Rx.Set r0_3))),FV.pv (Value.int IntKind.u64 (arr4_uint64.e3 (api_Rx.Set r0_3))),FV.pv (Value.int IntKind.i64 (api_Rx.Lo r0_3)),FV.pv (Value.int IntKind.i64 (api_Rx.Hi r0_3)),FV.sl (List.map enc_api_Rx (api_Rx.Kids r0_3))]]))) * (80:Nat)≤(2:Nat) ^ (47:Nat) from by simpa only [nm] using h17) (obC (show List.all (List.take (1:Nat) (List.drop (0:Nat) [FV.agg [FV.pv (Value.int IntKind.i64 (api_Rx.Kind r0_3)),FV.pv (Value.int IntKind.u64 (arr4_uint64.e0 (api_Rx.Set r0_3))),FV.pv (Value.int IntKind.u64 (arr4_uint64.e1 (api_Rx.Set r0_3))),FV.pv (Value.int IntKind.u64 (arr4_uint64.e2 (api_Rx.Set r0_3))),FV.pv (Value.int IntKind.u64 (arr4_uint64.e3 (api_Rx.Set r0_3))),FV.pv (Value.int IntKind.i64 (api_Rx.Lo r0_3)),FV.pv (Value.int IntKind.i64 (api_Rx.Hi r0_3)),FV.sl (List.map enc_api_Rx (api_Rx.Kids r0_3))]])) (FV.fits (8:Nat))=true from by first | exact fits_i64 _ | rfl | simp [isByteF,FV.fits,FV.size,FV.cells,FV.one,enc_api_Rx_eq]) obN)))) ?_
   show Sem _ _ _ _ _
   refine rD kk [] [] [(49,vi (w64 (t16+1)))] obN ?_
   exact lD ((kids++[r0_3]),(w64 (t16+1))) [] h
  ·have h:=h.2 hb13
   refine xD (i:=0) ?_
   show Sem _ _ _ _ _
   refine wkD [43,46,49,52] ?_
   refine sDE kk [] [10] [(5,.agg [vi (api_Rx.Kind x),vI .u64 (arr4_uint64.e0 (api_Rx.Set x)),vI .u64 (arr4_uint64.e1 (api_Rx.Set x)),vI .u64 (arr4_uint64.e2 (api_Rx.Set x)),vI .u64 (arr4_uint64.e3 (api_Rx.Set x)),vi (api_Rx.Lo x),vi (api_Rx.Hi x),.f (FV.sl (List.take (List.length (List.map enc_api_Rx kids)) (List.drop (0:Nat) (List.map enc_api_Rx kids))))])] [(5,.agg [vi (api_Rx.Kind x),vI .u64 (arr4_uint64.e0 (api_Rx.Set x)),vI .u64 (arr4_uint64.e1 (api_Rx.Set x)),vI .u64 (arr4_uint64.e2 (api_Rx.Set x)),vI .u64 (arr4_uint64.e3 (api_Rx.Set x)),vi (api_Rx.Lo x),vi (api_Rx.Hi x),vL enc_api_Rx kids])] obN ?_
   refine sD kk [] [4,5] [(8,.agg [vi (api_Rx.Kind x),vI .u64 (arr4_uint64.e0 (api_Rx.Set x)),vI .u64 (arr4_uint64.e1 (api_Rx.Set x)),vI .u64 (arr4_uint64.e2 (api_Rx.Set x)),vI .u64 (arr4_uint64.e3 (api_Rx.Set x)),vi (api_Rx.Lo x),vi (api_Rx.Hi x),vL enc_api_Rx kids])] obN ?_
   refine tD ?_
   obtain he0:=h
   subst res
   exact (endD [] (.agg [vi (api_Rx.Kind x),vI .u64 (arr4_uint64.e0 (api_Rx.Set x)),vI .u64 (arr4_uint64.e1 (api_Rx.Set x)),vI .u64 (arr4_uint64.e2 (api_Rx.Set x)),vI .u64 (arr4_uint64.e3 (api_Rx.Set x)),vi (api_Rx.Lo x),vi (api_Rx.Hi x),vL enc_api_Rx kids]) []).1
 ·refine sD kk [] [] [(25,vB (api_Rx.Kind x == (3:Int)))] obN ?_
  refine cD (t:=8) (b:=api_Rx.Kind x == (3:Int)) (fun hb18=>?_) (fun hb18=>?_)
  ·have h:=h.1 hb18
   obtain ⟨r0_4,hc19,h⟩:=h
   refine rD kk [.c (vL enc_api_Rx r0_4) []] [25] [(5,.agg [vi (api_Rx.Kind x),vI .u64 (arr4_uint64.e0 (api_Rx.Set x)),vI .u64 (arr4_uint64.e1 (api_Rx.Set x)),vI .u64 (arr4_uint64.e2 (api_Rx.Set x)),vI .u64 (arr4_uint64.e3 (api_Rx.Set x)),vi (api_Rx.Lo x),vi (api_Rx.Hi x),vL enc_api_Rx r0_4])] (obC hc19 obN) ?_
   exact jD r0_4 [] h
  ·have h:=h.2 hb18
   refine Sem.skip' (by kernel_rfl) Wk.refl ?_
   exact jD (api_Rx.Kids x) [] h
set_option maxHeartbeats 1000000 in
theorem W_split_turned_byte (l:(List Int)) (res:(List Int))
 (h:((0:Int)≤(0:Int)∧(0:Int)≤(↑(List.length l):Int)∧(↑(List.length l):Int) < (2:Int) ^ (40:Nat)∧(↑(1:Nat):Int) * (↑(List.length l):Int)≤(2:Int) ^ (47:Nat))∧(C_slices_Backward__byte_byte l∧(List.length l < 1099511627776∧∃ (Inv3:Nat→List Int→Prop),Inv3 0 (List.replicate (0:Nat) (0:Int))∧(∀ (i:Nat) (y:Int),i < List.length l→l[List.length l - 1 - i]?=some y→∀ (out:List Int),Inv3 i out→((List.length out+(1:Nat)) * (1:Nat)≤(2:Nat) ^ (47:Nat))∧Inv3 (i+1) (out++[y]))∧(∀ (out:List Int),Inv3 (List.length l) out→(res=out))))):C_split_turned_byte l res:=by
 unfold C_split_turned_byte
 have kk:=cfOk [] 18
 refine fD (x:=bodyOf Try.f32) kk Try.func32 ?_
 refine wkS [1] [(1,vL enc_u8 l)] (by kernel_rfl) ?_
 refine sD kk [] [] [] obN ?_
 obtain ⟨h0,h⟩:=h
 refine sDE kk [] [] [(10,.ptr 11 0),(11,.own 5 (List.replicate (Int.toNat (0:Int)) (FV.pv (Value.int IntKind.u8 (0:Int)))))] [(10,.ptr 11 0),(11,oL 5 enc_u8 (List.replicate (0:Nat) (0:Int)))] (obC (show (0:Int)≤(0:Int)∧(0:Int)≤(↑(List.length (List.map enc_u8 l)):Int)∧(↑(List.length (List.map enc_u8 l)):Int) < (2:Int) ^ (40:Nat)∧(↑(1:Nat):Int) * (↑(List.length (List.map enc_u8 l)):Int)≤(2:Int) ^ (47:Nat) from by simpa only [nm] using h0) obN) ?_
 refine qD ?_
 obtain ⟨hc1,h⟩:=h
 refine sD kk [.c (.clo 96 [.fp (fL enc_u8 l) 0]) []] [1] [(31,.clo 96 [.fp (fL enc_u8 l) 0])] (obC hc1 obN) ?_
 refine bD (id:=0) ?_
 obtain ⟨hl4,Inv3,h0Inv3,hRInv3,hDInv3⟩:=h
 refine Sem.range (α:=Int) (σ:=List Int) (c:=(cf [] 18)) (by rfl) (tg:=10) (p0:=11) (p1:=12) (by kernel_rfl) (xs:=l) (by kernel_rfl) back_ok_96 (ey:=(fun (y:Int)=>(.pv (.int .u8 y):FV))) (sz:=1) (fun y=>rfl) (fun y=>by rfl) (by omega) [(10,.ptr 11 0)] [11] (fun (q:List Int)=>(fun (out:List Int)=>([oL 5 enc_u8 out]:List AV)) q) (fun (i:Nat) (q:List Int)=>Inv3 i q) (List.replicate (0:Nat) (0:Int)) ((wkE (G':=[(10,.ptr 11 0),(11,oL 5 enc_u8 (List.replicate (0:Nat) (0:Int)))]) [] [10,11] (by kernel_rfl)).trans (Wk.pick [10,11] (by kernel_rfl))) h0Inv3 (by rfl) (fun q=>by rfl) (by rfl) (by decide) (fun q q'=>by rfl) (Nat.le_of_ble_eq_true rfl) (Nat.le_of_ble_eq_true rfl) (by decide) ?_ ?_
 ·rintro i out y hi hy hinv
  have h:=hRInv3 i y hi hy out hinv
  refine Sem.weak (Wk.pick [3,10,34,37] (G':=[(3,oL 5 enc_u8 out),(10,.ptr 3 0),(34,vi ((↑(List.length l):Int) - 1 - (↑i:Int))),(37,vI .u8 y)]) (by kernel_rfl)) ?_
  show Sem _ (cfr [] 18) (sq1 (sq1 (sq2 (sq1 (sq2 (sq2 (bodyOf Try.f32))))))) _ _
  have kr:=cfrOk [] 18
  refine rD kr [] [34,37] [(16,vI .u8 y)] obN ?_
  refine ⟨rfl,?_⟩
  show Sem _ (cfr [] 18) (sq2 (sq1 (sq2 (sq1 (sq2 (sq2 (bodyOf Try.f32))))))) _ _
  refine bD (id:=1) ?_
  obtain ⟨h5,h⟩:=h
  refine rDE kr [] [10,16] [(3,.own 5 (List.map enc_u8 out++List.take (List.length [FV.pv (Value.int IntKind.u8 y)]) (List.drop (0:Nat) [FV.pv (Value.int IntKind.u8 y)])))] [(3,oL 5 enc_u8 (out++[y]))] (obC (show (0:Nat)=(0:Nat)∧List.length (List.map enc_u8 out)=List.length (List.map enc_u8 out) from by first | decide | rfl | trivial | (simp only [nm]<;>first | decide | rfl | omega)) (obC (show (List.length (List.map enc_u8 out)+List.length (List.take (1:Nat) (List.drop (0:Nat) [FV.pv (Value.int IntKind.u8 y)]))) * (1:Nat)≤(2:Nat) ^ (47:Nat) from by simpa only [nm] using h5) (obC (show List.all (List.take (1:Nat) (List.drop (0:Nat) [FV.pv (Value.int IntKind.u8 y)])) (FV.fits (1:Nat))=true from by first | exact fits_u8 _ | rfl | simp [isByteF,FV.fits,FV.size,FV.cells,FV.one,]) obN))) ?_
  exact rndE (wkE [] [3] (by rfl)) (by kernel_rfl) ⟨(out++[y]),rfl,h⟩
 ·rintro out hinv
  have h:=hDInv3 out hinv
  refine ⟨[(10,.ptr 11 0),(11,oL 5 enc_u8 out)],Wk.pick [10,11] (by kernel_rfl),?_⟩
  show Sem _ _ _ _ _
  refine sDE kk [] [10,11] [(7,.f (FV.sl (List.take (List.length (List.map enc_u8 out)) (List.drop (0:Nat) (List.map enc_u8 out)))))] [(7,vL enc_u8 out)] obN ?_
  refine tD ?_
  obtain he0:=h
  subst res
  exact (endD [] (vL enc_u8 out) []).1
set_option maxHeartbeats 1000000 in
theorem W_split_Split (r0:api_Rule) (text:ByteArray) (res:Int)
 (h:(∃ r0_1:List Bool,C_split_Ahead (api_Rule.Rx r0) text r0_1∧((((↑(List.length r0_1):Int) == 0)=true→(res=0))∧(((↑(List.length r0_1):Int) == 0)=false→(((api_Rx.Kind (api_Rule.Trail r0) == 0)=true→((0:Int)≤(↑(ByteArray.size text):Int))∧(ByteArray.size text < List.length r0_1)∧ByteArray.size text < List.length r0_1∧(((List.getD r0_1 (ByteArray.size text) default)=true→(res=((↑(ByteArray.size text):Int))))∧((List.getD r0_1 (ByteArray.size text) default)=false→(res=0))))∧((api_Rx.Kind (api_Rule.Trail r0) == 0)=false→(∃ r0_2:Bool,C_rx_Right (api_Rule.Trail r0) r0_2∧(((!r0_2)=true→(res=0))∧((!r0_2)=false→(∃ r0_3:api_Rx,C_split_reverse (api_Rule.Trail r0) r0_3∧(∃ r0_4:List Int,C_split_turned_byte (bytesOf text) r0_4∧(∃ r0_5:List Bool,C_split_ahead r0_3 (bytesT (List.map enc_u8 r0_4)) r0_5∧(∃ (Inv30:Int→Prop) (mu31:Int→Nat),Inv30 ((↑(ByteArray.size text):Int))∧(∀ (h0:Int),Inv30 h0→(((decide (h0 > (0:Int)))=true→((0:Int)≤h0)∧(Int.toNat h0 < List.length r0_1)∧h0 < ↑(List.length r0_1)∧((gd r0_1 h0)=true→((0:Int)≤w64 ((↑(ByteArray.size text):Int) - h0)))∧((gd r0_1 h0)=true→(Int.toNat (w64 ((↑(ByteArray.size text):Int) - h0)) < List.length r0_5))∧((gd r0_1 h0)=true→w64 ((↑(ByteArray.size text):Int) - h0) < ↑(List.length r0_5))∧(((gd r0_1 h0 && gd r0_5 (w64 ((↑(ByteArray.size text):Int) - h0)))=true→(res=h0))∧((gd r0_1 h0 && gd r0_5 (w64 ((↑(ByteArray.size text):Int) - h0)))=false→(Inv30 (w64 (h0 - 1))∧mu31 (w64 (h0 - 1)) < mu31 h0))))∧((decide (h0 > (0:Int)))=false→(res=0))))))))))))))))):C_split_Split r0 text res:=by
 unfold C_split_Split
 have kk:=cfOk [28,59] 60
 refine fD (x:=bodyOf Try.f10) kk Try.func10 ?_
 refine wkS [1,4] [(1,av_api_Rule r0),(4,vS text)] (by kernel_rfl) ?_
 refine sD kk [] [1] [(7,.ptr 8 0),(8,av_api_Rule r0)] obN ?_
 refine sD kk [] [] [(16,vi ((↑(ByteArray.size text):Int)))] obN ?_
 obtain ⟨r0_1,hc0,h⟩:=h
 refine sD kk [.c (oL 4 enc_bool r0_1) []] [] [(19,oL 4 enc_bool r0_1)] (obC hc0 obN) ?_
 refine qD ?_
 refine bD (id:=0) ?_
 refine sDE kk [] [] [(46,vB ((↑(List.length (List.map enc_bool r0_1)):Int) == 0))] [(46,vB ((↑(List.length r0_1):Int) == 0))] obN ?_
 refine cD (t:=15) (b:=(↑(List.length r0_1):Int) == 0) (fun hb1=>?_) (fun hb1=>?_)
 ·have h:=h.1 hb1
  refine sD kk [] [4,7,8,16,19,46] [(13,vi 0)] obN ?_
  refine tD ?_
  obtain he0:=h
  subst res
  exact (endD [] (vi 0) []).1
 ·have h:=h.2 hb1
  refine sD kk [] [46] [(58,vB (api_Rx.Kind (api_Rule.Trail r0) == 0))] obN ?_
  refine cD (t:=19) (b:=api_Rx.Kind (api_Rule.Trail r0) == 0) (fun hb2=>?_) (fun hb2=>?_)
  ·have h:=h.1 hb2
   refine qD ?_
   obtain ⟨h3,h⟩:=h
   obtain ⟨h4,h⟩:=h
   obtain ⟨h5,h⟩:=h
   refine sD kk [.e (fB (List.getD r0_1 (ByteArray.size text) default))] [4,7,8,19,58] [(82,vB (List.getD r0_1 (ByteArray.size text) default))] (obC h3 (obC (show Int.toNat (↑(ByteArray.size text):Int) < List.length (List.map enc_bool r0_1) from by simpa only [nm] using h4) (obC (show (List.map enc_bool r0_1)[((0:Nat)+Int.toNat (↑(ByteArray.size text):Int):Nat)]?=some (fB (List.getD r0_1 (ByteArray.size text) default)) from by have:=idx_ok' enc_bool r0_1 (ByteArray.size text) _ rfl h5;simpa only [nm,enq,enc_bool] using this) obN))) ?_
   refine cD (t:=27) (b:=List.getD r0_1 (ByteArray.size text) default) (fun hb6=>?_) (fun hb6=>?_)
   ·have h:=h.1 hb6
    refine sD kk [] [16,82] [(13,vi ((↑(ByteArray.size text):Int)))] obN ?_
    refine tD ?_
    obtain he0:=h
    subst res
    exact (endD [] (vi ((↑(ByteArray.size text):Int))) []).1
   ·have h:=h.2 hb6
    refine Sem.skip' (by kernel_rfl) Wk.refl ?_
    show Sem _ _ _ _ _
    refine wkD [16,82] ?_
    refine sD kk [] [] [(13,vi 0)] obN ?_
    refine tD ?_
    obtain he0:=h
    subst res
    exact (endD [] (vi 0) []).1
  ·have h:=h.2 hb2
   obtain ⟨r0_2,hc7,h⟩:=h
   refine sD kk [.c (vB r0_2) []] [58] [(88,vB (!r0_2))] (obC hc7 obN) ?_
   refine cD (t:=29) (b:=!r0_2) (fun hb8=>?_) (fun hb8=>?_)
   ·have h:=h.1 hb8
    refine sD kk [] [4,7,8,16,19,88] [(13,vi 0)] obN ?_
    refine tD ?_
    obtain he0:=h
    subst res
    exact (endD [] (vi 0) []).1
   ·have h:=h.2 hb8
    refine Sem.skip' (by kernel_rfl) Wk.refl ?_
    show Sem _ _ _ _ _
    refine wkD [88] ?_
    obtain ⟨r0_3,hc9,h⟩:=h
    obtain ⟨r0_4,hc10,h⟩:=h
    obtain ⟨r0_5,hc11,h⟩:=h
    refine sD kk [.c (av_api_Rx r0_3) [],.c (vL enc_u8 r0_4) [],.c (oL 4 enc_bool r0_5) []] [4,7,8] [(22,oL 4 enc_bool r0_5)] (obC hc9 (obC hc10 (obC (show List.all (List.map enc_u8 r0_4) isByteF=true from by first | exact fits_u8 _ | rfl | simp [isByteF,FV.fits,FV.size,FV.cells,FV.one,enc_u8]) (obC hc11 obN)))) ?_
    refine qD ?_
    refine sD kk [] [] [(25,vi ((↑(ByteArray.size text):Int)))] obN ?_
    refine bD (id:=1) ?_
    obtain ⟨Inv30,mu31,h0Inv30,hInv30⟩:=h
    refine loD (fun (q:Int)=>(fun (h0:Int)=>([(16,vi ((↑(ByteArray.size text):Int))),(19,oL 4 enc_bool r0_1),(22,oL 4 enc_bool r0_5),(25,vi h0)]:Sta)) q) (fun (q:Int)=>Inv30 q) (fun (q:Int)=>mu31 q) ((↑(ByteArray.size text):Int)) [] h0Inv30 ?_
    rintro h0 hi
    have h:=hInv30 h0 hi
    refine qD ?_
    refine sD kk [] [] [(133,vB (decide (h0 > (0:Int))))] obN ?_
    refine cD (t:=44) (b:=decide (h0 > (0:Int))) (fun hb32=>?_) (fun hb32=>?_)
    ·have h:=h.1 hb32
     refine Sem.skip' (by kernel_rfl) Wk.refl ?_
     show Sem _ _ _ _ _
     refine wkD [133] ?_
     refine qD ?_
     refine bD (id:=2) ?_
     obtain ⟨h33,h⟩:=h
     obtain ⟨h34,h⟩:=h
     obtain ⟨h35,h⟩:=h
     obtain ⟨h37,h38,h39,h⟩:=h
     refine sM [] [(175,vB (gd r0_1 h0 && gd r0_5 (w64 ((↑(ByteArray.size text):Int) - h0))))] ?_ (fun hk0=>?_)
     ·refine cD (t:=58) (b:=gd r0_1 h0 && gd r0_5 (w64 ((↑(ByteArray.size text):Int) - h0))) (fun hb40=>?_) (fun hb40=>?_)
      ·have h:=h.1 hb40
       refine sD kk [] [16,19,22,25,175] [(13,vi h0)] obN ?_
       refine tD ?_
       obtain he0:=h
       subst res
       exact (endD [] (vi h0) []).1
      ·have h:=h.2 hb40
       refine Sem.skip' (by kernel_rfl) Wk.refl ?_
       show Sem _ _ _ _ _
       refine wkD [175] ?_
       refine rD kk [] [] [(25,vi (w64 (h0 - 1)))] obN ?_
       exact lD (w64 (h0 - 1)) [] h
     ·rcases Bool.eq_false_or_eq_true (gd r0_1 h0) with hb36 | hb36
      ·refine sD kk [.e (fB (gd r0_1 h0)),.b true,.b true,.b true,.b true,.b true,.b true,.e (fB (gd r0_5 (w64 ((↑(ByteArray.size text):Int) - h0)))),.b true] [] [(175,vB (gd r0_5 (w64 ((↑(ByteArray.size text):Int) - h0))))] (obC h33 (obC (show Int.toNat h0 < List.length (List.map enc_bool r0_1) from by simpa only [nm] using h34) (obC (show (List.map enc_bool r0_1)[((0:Nat)+Int.toNat h0:Nat)]?=some (fB (gd r0_1 h0)) from by have:=idx_ok enc_bool r0_1 h0 _ rfl h33 h35;simpa only [nm,enq,enc_bool] using this) (obC (gtt hb36) (obC (gtt hb36) (obC (gtt hb36) (obC (gtt hb36) (obC (gtt hb36) (obC (h37 hb36) (obC (show Int.toNat (w64 ((↑(ByteArray.size text):Int) - h0)) < List.length (List.map enc_bool r0_5) from by simpa only [nm] using (h38 hb36)) (obC (gtt hb36) (obC (show (List.map enc_bool r0_5)[((0:Nat)+Int.toNat (w64 ((↑(ByteArray.size text):Int) - h0)):Nat)]?=some (fB (gd r0_5 (w64 ((↑(ByteArray.size text):Int) - h0)))) from by have:=idx_ok enc_bool r0_5 (w64 ((↑(ByteArray.size text):Int) - h0)) _ rfl (h37 hb36) (h39 hb36);simpa only [nm,enq,enc_bool] using this) (obC hb36 obN))))))))))))) ?_
       exact Sem.cast (by try rw [hb36];kernel_rfl) hk0
      ·refine sD kk [.e (fB (gd r0_1 h0)),.b false,.b false,.b false,.b false,.b false,.b false,.b false] [] [(175,vB false)] (obC h33 (obC (show Int.toNat h0 < List.length (List.map enc_bool r0_1) from by simpa only [nm] using h34) (obC (show (List.map enc_bool r0_1)[((0:Nat)+Int.toNat h0:Nat)]?=some (fB (gd r0_1 h0)) from by have:=idx_ok enc_bool r0_1 h0 _ rfl h33 h35;simpa only [nm,enq,enc_bool] using this) (obC (gtf hb36) (obC (gtf hb36) (obC (gtf hb36) (obC (gtf hb36) (obC (gtf hb36) (obC (gtf hb36) (obC hb36 obN)))))))))) ?_
       exact Sem.cast (by try rw [hb36];kernel_rfl) hk0
    ·have h:=h.2 hb32
     refine xD (i:=1) ?_
     show Sem _ _ _ _ _
     refine wkD [16,19,22,25,133] ?_
     refine sD kk [] [] [(13,vi 0)] obN ?_
     refine tD ?_
     obtain he0:=h
     subst res
     exact (endD [] (vi 0) []).1
set_option maxHeartbeats 1000000 in
theorem W_heckleref03_right (x:api_Rx) (deep:Int) (res:Bool)
 (h:(((decide (deep < (1:Int)))=true→(res=false))∧((decide (deep < (1:Int)))=false→(((api_Rx.Kind x == 1)=true→(res=(!!(arr4_uint64.e0 (api_Rx.Set x) == 0 && (arr4_uint64.e1 (api_Rx.Set x) == 0 && (arr4_uint64.e2 (api_Rx.Set x) == 0 && (arr4_uint64.e3 (api_Rx.Set x) == 0 && true)))) && (api_Rx.Lo x == 0 && api_Rx.Hi x == 0 && (↑(List.length (api_Rx.Kids x)):Int) == 0))))∧((api_Rx.Kind x == 1)=false→(((api_Rx.Kind x == (2:Int))=true→(res=(!(arr4_uint64.e0 (api_Rx.Set x) == 0 && (arr4_uint64.e1 (api_Rx.Set x) == 0 && (arr4_uint64.e2 (api_Rx.Set x) == 0 && (arr4_uint64.e3 (api_Rx.Set x) == 0 && true)))) && (api_Rx.Lo x == 0 && api_Rx.Hi x == 0 && (↑(List.length (api_Rx.Kids x)):Int) == 0))))∧((api_Rx.Kind x == (2:Int))=false→(((api_Rx.Kind x == (5:Int))=true→(((!!(arr4_uint64.e0 (api_Rx.Set x) == 0 && (arr4_uint64.e1 (api_Rx.Set x) == 0 && (arr4_uint64.e2 (api_Rx.Set x) == 0 && (arr4_uint64.e3 (api_Rx.Set x) == 0 && true)))))=true→(((decide (api_Rx.Lo x≥(0:Int)))=true→(((decide (api_Rx.Lo x≤(20:Int)))=true→(((api_Rx.Hi x == (-1:Int) || decide (api_Rx.Hi x≥if true=true then if api_Rx.Lo x > (1:Int) then api_Rx.Lo x else (1:Int) else if api_Rx.Lo x < (1:Int) then api_Rx.Lo x else (1:Int)) && decide (api_Rx.Hi x≤(20:Int)))=true→((((↑(List.length (List.map enc_api_Rx (api_Rx.Kids x))):Int) == 1)=true→((!!(arr4_uint64.e0 (api_Rx.Set x) == 0 && (arr4_uint64.e1 (api_Rx.Set x) == 0 && (arr4_uint64.e2 (api_Rx.Set x) == 0 && (arr4_uint64.e3 (api_Rx.Set x) == 0 && true)))))=true→((decide (api_Rx.Lo x≥(0:Int)))=true→((decide (api_Rx.Lo x≤(20:Int)))=true→((api_Rx.Hi x == (-1:Int) || decide (api_Rx.Hi x≥if true=true then if api_Rx.Lo x > (1:Int) then api_Rx.Lo x else (1:Int) else if api_Rx.Lo x < (1:Int) then api_Rx.Lo x else (1:Int)) && decide (api_Rx.Hi x≤(20:Int)))=true→(((↑(List.length (List.map enc_api_Rx (api_Rx.Kids x))):Int) == 1)=true→(0:Nat) < List.length (api_Rx.Kids x))))))∧(∃ r0:Bool,C_heckleref03_right (List.getD (api_Rx.Kids x) (0:Nat) default) (w64 (deep - 1)) r0∧(res=r0)))∧(((↑(List.length (List.map enc_api_Rx (api_Rx.Kids x))):Int) == 1)=false→(res=false))))∧((api_Rx.Hi x == (-1:Int) || decide (api_Rx.Hi x≥if true=true then if api_Rx.Lo x > (1:Int) then api_Rx.Lo x else (1:Int) else if api_Rx.Lo x < (1:Int) then api_Rx.Lo x else (1:Int)) && decide (api_Rx.Hi x≤(20:Int)))=false→(res=false))))∧((decide (api_Rx.Lo x≤(20:Int)))=false→(res=false))))∧((decide (api_Rx.Lo x≥(0:Int)))=false→(res=false))))∧((!!(arr4_uint64.e0 (api_Rx.Set x) == 0 && (arr4_uint64.e1 (api_Rx.Set x) == 0 && (arr4_uint64.e2 (api_Rx.Set x) == 0 && (arr4_uint64.e3 (api_Rx.Set x) == 0 && true)))))=false→(res=false))))∧((api_Rx.Kind x == (5:Int))=false→(∃ J19:Bool→Prop,(∀ (t98:Bool),J19 t98→(((t98)=true→(((!(arr4_uint64.e0 (api_Rx.Set x) == 0 && (arr4_uint64.e1 (api_Rx.Set x) == 0 && (arr4_uint64.e2 (api_Rx.Set x) == 0 && (arr4_uint64.e3 (api_Rx.Set x) == 0 && true)))) || (!(api_Rx.Lo x == 0 && api_Rx.Hi x == 0) || decide ((↑(List.length (api_Rx.Kids x)):Int) < (2:Int))))=true→(res=false))∧((!(arr4_uint64.e0 (api_Rx.Set x) == 0 && (arr4_uint64.e1 (api_Rx.Set x) == 0 && (arr4_uint64.e2 (api_Rx.Set x) == 0 && (arr4_uint64.e3 (api_Rx.Set x) == 0 && true)))) || (!(api_Rx.Lo x == 0 && api_Rx.Hi x == 0) || decide ((↑(List.length (api_Rx.Kids x)):Int) < (2:Int))))=false→(∃ (Inv40:Int→Prop) (mu41:Int→Nat),Inv40 0∧(∀ (i:Int),Inv40 i→(((decide (i < (↑(List.length (api_Rx.Kids x)):Int)))=true→((0:Int)≤i)∧i < ↑(List.length (api_Rx.Kids x))∧(((api_Rx.Kind (gd (api_Rx.Kids x) i) == api_Rx.Kind x)=true→(res=false))∧((api_Rx.Kind (gd (api_Rx.Kids x) i) == api_Rx.Kind x)=false→((api_Rx.Kind (gd (api_Rx.Kids x) i) == api_Rx.Kind x)=false→((0:Int)≤i))∧((api_Rx.Kind (gd (api_Rx.Kids x) i) == api_Rx.Kind x)=false→i < ↑(List.length (api_Rx.Kids x)))∧(∃ r0_3:Bool,C_heckleref03_right (gd (api_Rx.Kids x) i) (w64 (deep - 1)) r0_3∧(((!r0_3)=true→(res=false))∧((!r0_3)=false→(Inv40 (w64 (i+1))∧mu41 (w64 (i+1)) < mu41 i)))))))∧((decide (i < (↑(List.length (api_Rx.Kids x)):Int)))=false→(res=true))))))))∧((t98)=false→(res=false))))∧(((api_Rx.Kind x == (3:Int))=true→J19 (api_Rx.Kind x == (3:Int)))∧((api_Rx.Kind x == (3:Int))=false→J19 (api_Rx.Kind x == (4:Int)))))))))))))):C_heckleref03_right x deep res:=by
 unfold C_heckleref03_right
 have kk:=cfOk [] 139
 refine fD (x:=bodyOf Try.f39) kk Try.func39 ?_
 refine wkS [1,4] [(1,av_api_Rx x),(4,vi deep)] (by kernel_rfl) ?_
 refine sD kk [] [1] [(7,.ptr 8 0),(8,av_api_Rx x)] obN ?_
 refine qD ?_
 refine sD kk [] [] [(31,vB (decide (deep < (1:Int))))] obN ?_
 refine cD (t:=10) (b:=decide (deep < (1:Int))) (fun hb0=>?_) (fun hb0=>?_)
 ·have h:=h.1 hb0
  refine sD kk [] [4,7,8,31] [(13,vB false)] obN ?_
  refine tD ?_
  obtain he0:=h
  subst res
  exact (endD [] (vB false) []).1
 ·have h:=h.2 hb0
  refine Sem.skip' (by kernel_rfl) Wk.refl ?_
  show Sem _ _ _ _ _
  refine wkD [31] ?_
  refine sD kk [] [] [(16,vB (!(arr4_uint64.e0 (api_Rx.Set x) == 0 && (arr4_uint64.e1 (api_Rx.Set x) == 0 && (arr4_uint64.e2 (api_Rx.Set x) == 0 && (arr4_uint64.e3 (api_Rx.Set x) == 0 && true))))))] obN ?_
  refine sM [] [(19,vB (api_Rx.Lo x == 0 && api_Rx.Hi x == 0))] ?_ (fun hk0=>?_)
  ·refine qD ?_
   refine sD kk [] [] [(73,vi (api_Rx.Kind x))] obN ?_
   refine bD (id:=0) ?_
   refine sD kk [] [] [(76,vB (api_Rx.Kind x == 1))] obN ?_
   refine cD (t:=25) (b:=api_Rx.Kind x == 1) (fun hb2=>?_) (fun hb2=>?_)
   ·have h:=h.1 hb2
    refine sM [4,7,8,16,19,73,76] [(13,vB (!!(arr4_uint64.e0 (api_Rx.Set x) == 0 && (arr4_uint64.e1 (api_Rx.Set x) == 0 && (arr4_uint64.e2 (api_Rx.Set x) == 0 && (arr4_uint64.e3 (api_Rx.Set x) == 0 && true)))) && (api_Rx.Lo x == 0 && api_Rx.Hi x == 0 && (↑(List.length (api_Rx.Kids x)):Int) == 0)))] ?_ (fun hk0=>?_)
    ·refine tD ?_
     obtain he0:=h
     subst res
     exact (endD [] (vB (!!(arr4_uint64.e0 (api_Rx.Set x) == 0 && (arr4_uint64.e1 (api_Rx.Set x) == 0 && (arr4_uint64.e2 (api_Rx.Set x) == 0 && (arr4_uint64.e3 (api_Rx.Set x) == 0 && true)))) && (api_Rx.Lo x == 0 && api_Rx.Hi x == 0 && (↑(List.length (api_Rx.Kids x)):Int) == 0))) []).1
    ·rcases Bool.eq_false_or_eq_true (!!(arr4_uint64.e0 (api_Rx.Set x) == 0 && (arr4_uint64.e1 (api_Rx.Set x) == 0 && (arr4_uint64.e2 (api_Rx.Set x) == 0 && (arr4_uint64.e3 (api_Rx.Set x) == 0 && true))))) with hb3 | hb3
     ·rcases Bool.eq_false_or_eq_true (api_Rx.Lo x == 0 && api_Rx.Hi x == 0) with hb4 | hb4
      ·refine sDE kk [.b true,.b true,.b true,.b true,.b true,.b true,.b true] [4,7,8,16,19,73,76] [(13,vB ((↑(List.length (List.map enc_api_Rx (api_Rx.Kids x))):Int) == 0))] [(13,vB ((↑(List.length (api_Rx.Kids x)):Int) == 0))] (obC (gtt hb3) (obC hb3 (obC (gtt hb4) (obC (gtt hb4) (obC (gtt hb4) (obC (gtt hb4) (obC hb4 obN))))))) ?_
       exact Sem.cast (by try rw [hb3];try rw [hb4];kernel_rfl) hk0
      ·refine sD kk [.b true,.b true,.b false,.b false,.b false,.b false,.b false] [4,7,8,16,19,73,76] [(13,vB false)] (obC (gtt hb3) (obC hb3 (obC (gtf hb4) (obC (gtf hb4) (obC (gtf hb4) (obC (gtf hb4) (obC hb4 obN))))))) ?_
       exact Sem.cast (by try rw [hb3];try rw [hb4];kernel_rfl) hk0
     ·refine sD kk [.b false,.b false,.b false,.b false,.b false,.b false,.b false] [4,7,8,16,19,73,76] [(13,vB false)] (obC (gtf hb3) (obC hb3 (obC (rfl:false=false) (obC (rfl:false=false) (obC (rfl:false=false) (obC (rfl:false=false) (obC (rfl:false=false) obN))))))) ?_
      exact Sem.cast (by try rw [hb3];kernel_rfl) hk0
   ·have h:=h.2 hb2
    refine sD kk [] [76] [(115,vB (api_Rx.Kind x == (2:Int)))] obN ?_
    refine cD (t:=38) (b:=api_Rx.Kind x == (2:Int)) (fun hb5=>?_) (fun hb5=>?_)
    ·have h:=h.1 hb5
     refine sM [4,7,8,16,19,73,115] [(13,vB (!(arr4_uint64.e0 (api_Rx.Set x) == 0 && (arr4_uint64.e1 (api_Rx.Set x) == 0 && (arr4_uint64.e2 (api_Rx.Set x) == 0 && (arr4_uint64.e3 (api_Rx.Set x) == 0 && true)))) && (api_Rx.Lo x == 0 && api_Rx.Hi x == 0 && (↑(List.length (api_Rx.Kids x)):Int) == 0)))] ?_ (fun hk0=>?_)
     ·refine tD ?_
      obtain he0:=h
      subst res
      exact (endD [] (vB (!(arr4_uint64.e0 (api_Rx.Set x) == 0 && (arr4_uint64.e1 (api_Rx.Set x) == 0 && (arr4_uint64.e2 (api_Rx.Set x) == 0 && (arr4_uint64.e3 (api_Rx.Set x) == 0 && true)))) && (api_Rx.Lo x == 0 && api_Rx.Hi x == 0 && (↑(List.length (api_Rx.Kids x)):Int) == 0))) []).1
     ·rcases Bool.eq_false_or_eq_true (!(arr4_uint64.e0 (api_Rx.Set x) == 0 && (arr4_uint64.e1 (api_Rx.Set x) == 0 && (arr4_uint64.e2 (api_Rx.Set x) == 0 && (arr4_uint64.e3 (api_Rx.Set x) == 0 && true))))) with hb6 | hb6
      ·rcases Bool.eq_false_or_eq_true (api_Rx.Lo x == 0 && api_Rx.Hi x == 0) with hb7 | hb7
       ·refine sDE kk [.b true,.b true,.b true,.b true,.b true,.b true,.b true] [4,7,8,16,19,73,115] [(13,vB ((↑(List.length (List.map enc_api_Rx (api_Rx.Kids x))):Int) == 0))] [(13,vB ((↑(List.length (api_Rx.Kids x)):Int) == 0))] (obC (gtt hb6) (obC hb6 (obC (gtt hb7) (obC (gtt hb7) (obC (gtt hb7) (obC (gtt hb7) (obC hb7 obN))))))) ?_
        exact Sem.cast (by try rw [hb6];try rw [hb7];kernel_rfl) hk0
       ·refine sD kk [.b true,.b true,.b false,.b false,.b false,.b false,.b false] [4,7,8,16,19,73,115] [(13,vB false)] (obC (gtt hb6) (obC hb6 (obC (gtf hb7) (obC (gtf hb7) (obC (gtf hb7) (obC (gtf hb7) (obC hb7 obN))))))) ?_
        exact Sem.cast (by try rw [hb6];try rw [hb7];kernel_rfl) hk0
      ·refine sD kk [.b false,.b false,.b false,.b false,.b false,.b false,.b false] [4,7,8,16,19,73,115] [(13,vB false)] (obC (gtf hb6) (obC hb6 (obC (rfl:false=false) (obC (rfl:false=false) (obC (rfl:false=false) (obC (rfl:false=false) (obC (rfl:false=false) obN))))))) ?_
       exact Sem.cast (by try rw [hb6];kernel_rfl) hk0
    ·have h:=h.2 hb5
     refine sD kk [] [115] [(151,vB (api_Rx.Kind x == (5:Int)))] obN ?_
     refine cD (t:=50) (b:=api_Rx.Kind x == (5:Int)) (fun hb8=>?_) (fun hb8=>?_)
     ·have h:=h.1 hb8
      refine sM [19,73,151] [(22,vB (api_Rx.Hi x == (-1:Int) || decide (api_Rx.Hi x≥if true=true then if api_Rx.Lo x > (1:Int) then api_Rx.Lo x else (1:Int) else if api_Rx.Lo x < (1:Int) then api_Rx.Lo x else (1:Int)) && decide (api_Rx.Hi x≤(20:Int))))] ?_ (fun hk0=>?_)
      ·rcases Bool.eq_false_or_eq_true (!!(arr4_uint64.e0 (api_Rx.Set x) == 0 && (arr4_uint64.e1 (api_Rx.Set x) == 0 && (arr4_uint64.e2 (api_Rx.Set x) == 0 && (arr4_uint64.e3 (api_Rx.Set x) == 0 && true))))) with hb11 | hb11
       ·have h:=h.1 hb11
        rcases Bool.eq_false_or_eq_true (decide (api_Rx.Lo x≥(0:Int))) with hb12 | hb12
        ·have h:=h.1 hb12
         rcases Bool.eq_false_or_eq_true (decide (api_Rx.Lo x≤(20:Int))) with hb13 | hb13
         ·have h:=h.1 hb13
          rcases Bool.eq_false_or_eq_true (api_Rx.Hi x == (-1:Int) || decide (api_Rx.Hi x≥if true=true then if api_Rx.Lo x > (1:Int) then api_Rx.Lo x else (1:Int) else if api_Rx.Lo x < (1:Int) then api_Rx.Lo x else (1:Int)) && decide (api_Rx.Hi x≤(20:Int))) with hb14 | hb14
          ·have h:=h.1 hb14
           rcases Bool.eq_false_or_eq_true ((↑(List.length (List.map enc_api_Rx (api_Rx.Kids x))):Int) == 1) with hb15 | hb15
           ·have h:=h.1 hb15
            obtain ⟨h16,h⟩:=h
            obtain ⟨r0,hc17,h⟩:=h
            refine sD kk [.b true,.b true,.b true,.b true,.b true,.b true,.b true,.b true,.b true,.b true,.b true,.b true,.b true,.b true,.b true,.b true,.b true,.b true,.e (fv_api_Rx (List.getD (api_Rx.Kids x) (0:Nat) default)),.b true,.b true,.b true,.b true,.c (vB r0) [],.b true] [4,7,8,16,22] [(13,vB r0)] (obC (gtt hb11) (obC (gtt hb11) (obC (gtt hb11) (obC hb11 (obC (gtt hb12) (obC (gtt hb12) (obC (gtt hb12) (obC hb12 (obC (gtt hb13) (obC hb13 (obC (gtt hb14) (obC (gtt hb14) (obC (gtt hb14) (obC (gtt hb14) (obC hb14 (obC (gtt hb15) (obC (gtt hb15) (obC (gtt hb15) (obC (show (0:Int)≤(0:Int) from by first | decide | rfl | trivial | (simp only [nm]<;>first | decide | rfl | omega)) (obC (show (List.map enc_api_Rx (api_Rx.Kids x))[(Int.toNat (0:Int):Nat)]?=some (fv_api_Rx (List.getD (api_Rx.Kids x) (0:Nat) default)) from by have:=idx_ok' enc_api_Rx (api_Rx.Kids x) ((0:Nat)) _ (enc_api_Rx_eq _) (((((h16 hb11) hb12) hb13) hb14) hb15);simpa only [nm,enq,enc_api_Rx_eq] using this) (obC (gtt hb15) (obC (gtt hb15) (obC (gtt hb15) (obC (gtt hb15) (obC hc17 (obC hb15 obN)))))))))))))))))))))))))) ?_
            refine tD ?_
            obtain he0:=h
            subst res
            exact (endD [] (vB r0) []).1
           ·have h:=h.2 hb15
            refine sD kk [.b true,.b true,.b true,.b true,.b true,.b true,.b true,.b true,.b true,.b true,.b true,.b true,.b true,.b true,.b true,.b false,.b false,.b false,.b false,.b false,.b false,.b false,.b false] [4,7,8,16,22] [(13,vB false)] (obC (gtt hb11) (obC (gtt hb11) (obC (gtt hb11) (obC hb11 (obC (gtt hb12) (obC (gtt hb12) (obC (gtt hb12) (obC hb12 (obC (gtt hb13) (obC hb13 (obC (gtt hb14) (obC (gtt hb14) (obC (gtt hb14) (obC (gtt hb14) (obC hb14 (obC (gtf hb15) (obC (gtf hb15) (obC (gtf hb15) (obC (gtf hb15) (obC (gtf hb15) (obC (gtf hb15) (obC (gtf hb15) (obC hb15 obN))))))))))))))))))))))) ?_
            refine tD ?_
            obtain he0:=h
            subst res
            exact (endD [] (vB false) []).1
          ·have h:=h.2 hb14
           refine sD kk [.b true,.b true,.b true,.b true,.b true,.b true,.b true,.b true,.b true,.b true,.b false,.b false,.b false,.b false,.b false,.b false,.b false,.b false,.b false,.b false,.b false,.b false,.b false] [4,7,8,16,22] [(13,vB false)] (obC (gtt hb11) (obC (gtt hb11) (obC (gtt hb11) (obC hb11 (obC (gtt hb12) (obC (gtt hb12) (obC (gtt hb12) (obC hb12 (obC (gtt hb13) (obC hb13 (obC (gtf hb14) (obC (gtf hb14) (obC (gtf hb14) (obC (gtf hb14) (obC hb14 (obC (rfl:false=false) (obC (rfl:false=false) (obC (rfl:false=false) (obC (rfl:false=false) (obC (rfl:false=false) (obC (rfl:false=false) (obC (rfl:false=false) (obC (rfl:false=false) obN))))))))))))))))))))))) ?_
           refine tD ?_
           obtain he0:=h
           subst res
           exact (endD [] (vB false) []).1
         ·have h:=h.2 hb13
          refine sD kk [.b true,.b true,.b true,.b true,.b true,.b true,.b true,.b true,.b false,.b false,.b false,.b false,.b false,.b false,.b false,.b false,.b false,.b false,.b false,.b false,.b false,.b false,.b false] [4,7,8,16,22] [(13,vB false)] (obC (gtt hb11) (obC (gtt hb11) (obC (gtt hb11) (obC hb11 (obC (gtt hb12) (obC (gtt hb12) (obC (gtt hb12) (obC hb12 (obC (gtf hb13) (obC hb13 (obC (rfl:false=false) (obC (rfl:false=false) (obC (rfl:false=false) (obC (rfl:false=false) (obC (rfl:false=false) (obC (rfl:false=false) (obC (rfl:false=false) (obC (rfl:false=false) (obC (rfl:false=false) (obC (rfl:false=false) (obC (rfl:false=false) (obC (rfl:false=false) (obC (rfl:false=false) obN))))))))))))))))))))))) ?_
          refine tD ?_
          obtain he0:=h
          subst res
          exact (endD [] (vB false) []).1
        ·have h:=h.2 hb12
         refine sD kk [.b true,.b true,.b true,.b true,.b false,.b false,.b false,.b false,.b false,.b false,.b false,.b false,.b false,.b false,.b false,.b false,.b false,.b false,.b false,.b false,.b false,.b false,.b false] [4,7,8,16,22] [(13,vB false)] (obC (gtt hb11) (obC (gtt hb11) (obC (gtt hb11) (obC hb11 (obC (gtf hb12) (obC (gtf hb12) (obC (gtf hb12) (obC hb12 (obC (rfl:false=false) (obC (rfl:false=false) (obC (rfl:false=false) (obC (rfl:false=false) (obC (rfl:false=false) (obC (rfl:false=false) (obC (rfl:false=false) (obC (rfl:false=false) (obC (rfl:false=false) (obC (rfl:false=false) (obC (rfl:false=false) (obC (rfl:false=false) (obC (rfl:false=false) (obC (rfl:false=false) (obC (rfl:false=false) obN))))))))))))))))))))))) ?_
         refine tD ?_
         obtain he0:=h
         subst res
         exact (endD [] (vB false) []).1
       ·have h:=h.2 hb11
        refine sD kk [.b false,.b false,.b false,.b false,.b false,.b false,.b false,.b false,.b false,.b false,.b false,.b false,.b false,.b false,.b false,.b false,.b false,.b false,.b false,.b false,.b false,.b false,.b false] [4,7,8,16,22] [(13,vB false)] (obC (gtf hb11) (obC (gtf hb11) (obC (gtf hb11) (obC hb11 (obC (rfl:false=false) (obC (rfl:false=false) (obC (rfl:false=false) (obC (rfl:false=false) (obC (rfl:false=false) (obC (rfl:false=false) (obC (rfl:false=false) (obC (rfl:false=false) (obC (rfl:false=false) (obC (rfl:false=false) (obC (rfl:false=false) (obC (rfl:false=false) (obC (rfl:false=false) (obC (rfl:false=false) (obC (rfl:false=false) (obC (rfl:false=false) (obC (rfl:false=false) (obC (rfl:false=false) (obC (rfl:false=false) obN))))))))))))))))))))))) ?_
        refine tD ?_
        obtain he0:=h
        subst res
        exact (endD [] (vB false) []).1
      ·rcases Bool.eq_false_or_eq_true (api_Rx.Hi x == (-1:Int)) with hb9 | hb9
       ·refine sD kk [.b false,.b false,.b false,.b false,.b false,.b false,.b false,.b false,.b true] [19,73,151] [(22,vB true)] (obC (gff hb9) (obC (gff hb9) (obC (gff hb9) (obC (gff hb9) (obC (gff hb9) (obC (gff hb9) (obC (gff hb9) (obC (gff hb9) (obC hb9 obN))))))))) ?_
        exact Sem.cast (by try rw [hb9];kernel_rfl) hk0
       ·rcases Bool.eq_false_or_eq_true (decide (api_Rx.Hi x≥if true=true then if api_Rx.Lo x > (1:Int) then api_Rx.Lo x else (1:Int) else if api_Rx.Lo x < (1:Int) then api_Rx.Lo x else (1:Int))) with hb10 | hb10
        ·refine sD kk [.b true,.b true,.b true,.b true,.b true,.b true,.b true,.b true,.b true,.b true,.b true,.b true,.b false] [19,73,151] [(22,vB (decide (api_Rx.Hi x≤(20:Int))))] (obC (gft hb9) (obC (gft hb9) (obC (gft hb9) (obC (gft hb9) (obC (gft hb9) (obC (gft hb9) (obC (gft hb9) (obC (gtt hb10) (obC (gtt hb10) (obC (gtt hb10) (obC (gft hb9) (obC hb10 (obC hb9 obN))))))))))))) ?_
         exact Sem.cast (by try rw [hb9];try rw [hb10];kernel_rfl) hk0
        ·refine sD kk [.b true,.b true,.b true,.b true,.b true,.b true,.b true,.b false,.b false,.b false,.b true,.b false,.b false] [19,73,151] [(22,vB false)] (obC (gft hb9) (obC (gft hb9) (obC (gft hb9) (obC (gft hb9) (obC (gft hb9) (obC (gft hb9) (obC (gft hb9) (obC (gtf hb10) (obC (gtf hb10) (obC (gtf hb10) (obC (gft hb9) (obC hb10 (obC hb9 obN))))))))))))) ?_
         exact Sem.cast (by try rw [hb9];try rw [hb10];kernel_rfl) hk0
     ·have h:=h.2 hb8
      obtain ⟨J19,hJ19,h⟩:=h
      refine sjD (fun (q:Bool)=>J19 q) (fun (q:Bool)=>(fun (t98:Bool)=>([(4,vi deep),(7,.ptr 8 0),(8,av_api_Rx x),(16,vB (!(arr4_uint64.e0 (api_Rx.Set x) == 0 && (arr4_uint64.e1 (api_Rx.Set x) == 0 && (arr4_uint64.e2 (api_Rx.Set x) == 0 && (arr4_uint64.e3 (api_Rx.Set x) == 0 && true)))))),(19,vB (api_Rx.Lo x == 0 && api_Rx.Hi x == 0)),(295,vB t98)]:Sta)) q) ?_ ?_
      ·rintro t98 hj
       have h:=hJ19 t98 hj
       refine cD (t:=98) (b:=t98) (fun hb20=>?_) (fun hb20=>?_)
       ·have h:=h.1 hb20
        refine qD ?_
        refine sM [16,19,295] [(334,vB (!(arr4_uint64.e0 (api_Rx.Set x) == 0 && (arr4_uint64.e1 (api_Rx.Set x) == 0 && (arr4_uint64.e2 (api_Rx.Set x) == 0 && (arr4_uint64.e3 (api_Rx.Set x) == 0 && true)))) || (!(api_Rx.Lo x == 0 && api_Rx.Hi x == 0) || decide ((↑(List.length (api_Rx.Kids x)):Int) < (2:Int)))))] ?_ (fun hk0=>?_)
        ·refine cD (t:=111) (b:=!(arr4_uint64.e0 (api_Rx.Set x) == 0 && (arr4_uint64.e1 (api_Rx.Set x) == 0 && (arr4_uint64.e2 (api_Rx.Set x) == 0 && (arr4_uint64.e3 (api_Rx.Set x) == 0 && true)))) || (!(api_Rx.Lo x == 0 && api_Rx.Hi x == 0) || decide ((↑(List.length (api_Rx.Kids x)):Int) < (2:Int)))) (fun hb23=>?_) (fun hb23=>?_)
         ·have h:=h.1 hb23
          refine sD kk [] [4,7,8,334] [(13,vB false)] obN ?_
          refine tD ?_
          obtain he0:=h
          subst res
          exact (endD [] (vB false) []).1
         ·have h:=h.2 hb23
          refine Sem.skip' (by kernel_rfl) Wk.refl ?_
          show Sem _ _ _ _ _
          refine wkD [334] ?_
          refine qD ?_
          refine sD kk [] [] [(25,vi 0)] obN ?_
          refine bD (id:=1) ?_
          obtain ⟨Inv40,mu41,h0Inv40,hInv40⟩:=h
          refine loD (fun (q:Int)=>(fun (i:Int)=>([(4,vi deep),(7,.ptr 8 0),(8,av_api_Rx x),(25,vi i)]:Sta)) q) (fun (q:Int)=>Inv40 q) (fun (q:Int)=>mu41 q) 0 [] h0Inv40 ?_
          rintro i hi
          have h:=hInv40 i hi
          refine qD ?_
          refine sDE kk [] [] [(349,vB (decide (i < (↑(List.length (List.map enc_api_Rx (api_Rx.Kids x))):Int))))] [(349,vB (decide (i < (↑(List.length (api_Rx.Kids x)):Int))))] obN ?_
          refine cD (t:=116) (b:=decide (i < (↑(List.length (api_Rx.Kids x)):Int))) (fun hb42=>?_) (fun hb42=>?_)
          ·have h:=h.1 hb42
           refine Sem.skip' (by kernel_rfl) Wk.refl ?_
           show Sem _ _ _ _ _
           refine wkD [349] ?_
           refine qD ?_
           refine bD (id:=2) ?_
           obtain ⟨h43,h⟩:=h
           obtain ⟨h44,h⟩:=h
           rcases Bool.eq_false_or_eq_true (api_Rx.Kind (gd (api_Rx.Kids x) i) == api_Rx.Kind x) with hb45 | hb45
           ·have h:=h.1 hb45
            refine sD kk [.e (fv_api_Rx (gd (api_Rx.Kids x) i)),.b false,.b false,.b false,.b false,.b false,.b false,.b false,.b false,.b false,.b true] [] [(415,vB true)] (obC h43 (obC (idx_ok enc_api_Rx (api_Rx.Kids x) i _ (enc_api_Rx_eq _) h43 h44) (obC (gff hb45) (obC (gff hb45) (obC (gff hb45) (obC (gff hb45) (obC (gff hb45) (obC (gff hb45) (obC (gff hb45) (obC (gff hb45) (obC (gff hb45) (obC hb45 obN)))))))))))) ?_
            refine cD (t:=138) (b:=true) (fun hb50=>?_) (fun hb50=>?_)
            ·refine sD kk [] [4,7,8,25,415] [(13,vB false)] obN ?_
             refine tD ?_
             obtain he0:=h
             subst res
             exact (endD [] (vB false) []).1
            ·cases hb50
           ·have h:=h.2 hb45
            obtain ⟨h46,h⟩:=h
            obtain ⟨h47,h⟩:=h
            obtain ⟨r0_3,hc48,h⟩:=h
            refine sD kk [.e (fv_api_Rx (gd (api_Rx.Kids x) i)),.b true,.b true,.b true,.b true,.e (fv_api_Rx (gd (api_Rx.Kids x) i)),.b true,.b true,.b true,.b true,.c (vB r0_3) [],.b true,.b false] [] [(415,vB (!r0_3))] (obC h43 (obC (idx_ok enc_api_Rx (api_Rx.Kids x) i _ (enc_api_Rx_eq _) h43 h44) (obC (gft hb45) (obC (gft hb45) (obC (gft hb45) (obC (gft hb45) (obC (h46 hb45) (obC (idx_ok enc_api_Rx (api_Rx.Kids x) i _ (enc_api_Rx_eq _) (h46 hb45) (h47 hb45)) (obC (gft hb45) (obC (gft hb45) (obC (gft hb45) (obC (gft hb45) (obC hc48 (obC (gft hb45) (obC hb45 obN))))))))))))))) ?_
            refine cD (t:=138) (b:=!r0_3) (fun hb49=>?_) (fun hb49=>?_)
            ·have h:=h.1 hb49
             refine sD kk [] [4,7,8,25,415] [(13,vB false)] obN ?_
             refine tD ?_
             obtain he0:=h
             subst res
             exact (endD [] (vB false) []).1
            ·have h:=h.2 hb49
             refine Sem.skip' (by kernel_rfl) Wk.refl ?_
             show Sem _ _ _ _ _
             refine wkD [415] ?_
             refine rD kk [] [] [(25,vi (w64 (i+1)))] obN ?_
             exact lD (w64 (i+1)) [] h
          ·have h:=h.2 hb42
           refine xD (i:=1) ?_
           show Sem _ _ _ _ _
           refine wkD [4,7,8,25,349] ?_
           refine sD kk [] [] [(13,vB true)] obN ?_
           refine tD ?_
           obtain he0:=h
           subst res
           exact (endD [] (vB true) []).1
        ·rcases Bool.eq_false_or_eq_true (!(arr4_uint64.e0 (api_Rx.Set x) == 0 && (arr4_uint64.e1 (api_Rx.Set x) == 0 && (arr4_uint64.e2 (api_Rx.Set x) == 0 && (arr4_uint64.e3 (api_Rx.Set x) == 0 && true))))) with hb21 | hb21
         ·refine sD kk [.b false,.b false,.b true,.b false,.b false,.b false,.b false,.b true] [16,19,295] [(334,vB true)] (obC (gff hb21) (obC (gff hb21) (obC hb21 (obC (rfl:false=false) (obC (rfl:false=false) (obC (rfl:false=false) (obC (rfl:false=false) (obC (rfl:true=true) obN)))))))) ?_
          exact Sem.cast (by try rw [hb21];kernel_rfl) hk0
         ·rcases Bool.eq_false_or_eq_true (!(api_Rx.Lo x == 0 && api_Rx.Hi x == 0)) with hb22 | hb22
          ·refine sD kk [.b true,.b true,.b false,.b false,.b false,.b false,.b false,.b true] [16,19,295] [(334,vB true)] (obC (gft hb21) (obC (gft hb21) (obC hb21 (obC (gff hb22) (obC (gff hb22) (obC (gff hb22) (obC (gff hb22) (obC hb22 obN)))))))) ?_
           exact Sem.cast (by try rw [hb21];try rw [hb22];kernel_rfl) hk0
          ·refine sDE kk [.b true,.b true,.b false,.b true,.b true,.b true,.b true,.b false] [16,19,295] [(334,vB (decide ((↑(List.length (List.map enc_api_Rx (api_Rx.Kids x))):Int) < (2:Int))))] [(334,vB (decide ((↑(List.length (api_Rx.Kids x)):Int) < (2:Int))))] (obC (gft hb21) (obC (gft hb21) (obC hb21 (obC (gft hb22) (obC (gft hb22) (obC (gft hb22) (obC (gft hb22) (obC hb22 obN)))))))) ?_
           exact Sem.cast (by try rw [hb21];try rw [hb22];kernel_rfl) hk0
       ·have h:=h.2 hb20
        refine Sem.skip' (by kernel_rfl) Wk.refl ?_
        show Sem _ _ _ _ _
        refine wkD [4,7,8,16,19,295] ?_
        refine sD kk [] [] [(13,vB false)] obN ?_
        refine tD ?_
        obtain he0:=h
        subst res
        exact (endD [] (vB false) []).1
      ·refine sD kk [] [151] [(295,vB (api_Rx.Kind x == (3:Int)))] obN ?_
       refine cD (t:=98) (b:=api_Rx.Kind x == (3:Int)) (fun hb51=>?_) (fun hb51=>?_)
       ·have h:=h.1 hb51
        refine Sem.skip' (by kernel_rfl) Wk.refl ?_
        exact jD (api_Rx.Kind x == (3:Int)) [] h
       ·have h:=h.2 hb51
        refine rD kk [] [73] [(295,vB (api_Rx.Kind x == (4:Int)))] obN ?_
        exact jD (api_Rx.Kind x == (4:Int)) [] h
  ·rcases Bool.eq_false_or_eq_true (api_Rx.Lo x == 0) with hb1 | hb1
   ·refine sD kk [.b true,.b true,.b true,.b true] [] [(19,vB (api_Rx.Hi x == 0))] (obC (gtt hb1) (obC (gtt hb1) (obC (gtt hb1) (obC hb1 obN)))) ?_
    exact Sem.cast (by try rw [hb1];kernel_rfl) hk0
   ·refine sD kk [.b false,.b false,.b false,.b false] [] [(19,vB false)] (obC (gtf hb1) (obC (gtf hb1) (obC (gtf hb1) (obC hb1 obN)))) ?_
    exact Sem.cast (by try rw [hb1];kernel_rfl) hk0
set_option maxHeartbeats 1000000 in
theorem W_heckleref03_Nodes (x:api_Rx) (most:Int) (res:Int)
 (h:(∃ (Inv9:Int→Int→Prop) (mu10:Int→Int→Nat),Inv9 (w64 (most - 1)) 0∧(∀ (most_1:Int) (i:Int),Inv9 most_1 i→(((decide (i < (↑(List.length (List.map enc_api_Rx (api_Rx.Kids x))):Int)) && decide (most_1≥(0:Int)))=true→((0:Int)≤i)∧i < ↑(List.length (api_Rx.Kids x))∧(∃ r0_2:Int,C_heckleref03_Nodes (gd (api_Rx.Kids x) i) most_1 r0_2∧(Inv9 r0_2 (w64 (i+1))∧mu10 r0_2 (w64 (i+1)) < mu10 most_1 i)))∧((decide (i < (↑(List.length (List.map enc_api_Rx (api_Rx.Kids x))):Int)) && decide (most_1≥(0:Int)))=false→(res=most_1)))))):C_heckleref03_Nodes x most res:=by
 unfold C_heckleref03_Nodes
 have kk:=cfOk [26] 27
 refine fD (x:=bodyOf Try.f40) kk Try.func40 ?_
 refine wkS [1,4] [(1,av_api_Rx x),(4,vi most)] (by kernel_rfl) ?_
 refine sD kk [] [1] [(7,.ptr 8 0),(8,av_api_Rx x)] obN ?_
 refine sD kk [] [] [(4,vi (w64 (most - 1)))] obN ?_
 refine qD ?_
 refine sD kk [] [] [(16,vi 0)] obN ?_
 refine bD (id:=0) ?_
 obtain ⟨Inv9,mu10,h0Inv9,hInv9⟩:=h
 refine loD (fun (q:Int×Int)=>(fun (most_1:Int) (i:Int)=>([(4,vi most_1),(7,.ptr 8 0),(8,av_api_Rx x),(16,vi i)]:Sta)) q.1 q.2) (fun (q:Int×Int)=>Inv9 q.1 q.2) (fun (q:Int×Int)=>mu10 q.1 q.2) ((w64 (most - 1)),0) [] h0Inv9 ?_
 rintro ⟨most_1,i⟩ hi
 have h:=hInv9 most_1 i hi
 refine qD ?_
 refine sM [] [(49,vB (decide (i < (↑(List.length (List.map enc_api_Rx (api_Rx.Kids x))):Int)) && decide (most_1≥(0:Int))))] ?_ (fun hk0=>?_)
 ·refine cD (t:=16) (b:=decide (i < (↑(List.length (List.map enc_api_Rx (api_Rx.Kids x))):Int)) && decide (most_1≥(0:Int))) (fun hb12=>?_) (fun hb12=>?_)
  ·have h:=h.1 hb12
   refine Sem.skip' (by kernel_rfl) Wk.refl ?_
   show Sem _ _ _ _ _
   refine wkD [49] ?_
   refine qD ?_
   refine bD (id:=1) ?_
   obtain ⟨h13,h⟩:=h
   obtain ⟨h14,h⟩:=h
   obtain ⟨r0_2,hc15,h⟩:=h
   refine rD kk [.e (fv_api_Rx (gd (api_Rx.Kids x) i)),.c (vi r0_2) []] [] [(4,vi r0_2)] (obC h13 (obC (idx_ok enc_api_Rx (api_Rx.Kids x) i _ (enc_api_Rx_eq _) h13 h14) (obC hc15 obN))) ?_
   show Sem _ _ _ _ _
   refine rD kk [] [] [(16,vi (w64 (i+1)))] obN ?_
   exact lD (r0_2,(w64 (i+1))) [] h
  ·have h:=h.2 hb12
   refine xD (i:=0) ?_
   show Sem _ _ _ _ _
   refine wkD [7,8,16,49] ?_
   refine sD kk [] [4] [(13,vi most_1)] obN ?_
   refine tD ?_
   obtain he0:=h
   subst res
   exact (endD [] (vi most_1) []).1
 ·rcases Bool.eq_false_or_eq_true (decide (i < (↑(List.length (List.map enc_api_Rx (api_Rx.Kids x))):Int))) with hb11 | hb11
  ·refine sD kk [.b true,.b true,.b true] [] [(49,vB (decide (most_1≥(0:Int))))] (obC (gtt hb11) (obC (gtt hb11) (obC hb11 obN))) ?_
   exact Sem.cast (by try rw [hb11];kernel_rfl) hk0
  ·refine sD kk [.b false,.b false,.b false] [] [(49,vB false)] (obC (gtf hb11) (obC (gtf hb11) (obC hb11 obN))) ?_
   exact Sem.cast (by try rw [hb11];kernel_rfl) hk0
set_option maxHeartbeats 1000000 in
theorem W_heckleref03_Right (x:api_Rx) (res:Bool)
 (h:(∃ r0:Bool,C_heckleref03_right x 20 r0∧(((r0)=true→(∃ r0_1:Int,C_heckleref03_Size x r0_1∧(((decide (r0_1≤(200:Int)))=true→(∃ r0_2:Int,C_heckleref03_Nodes x ((1000:Int)) r0_2∧(res=(decide (r0_2≥(0:Int))))))∧((decide (r0_1≤(200:Int)))=false→(res=false)))))∧((r0)=false→(res=false))))):C_heckleref03_Right x res:=by
 unfold C_heckleref03_Right
 have kk:=cfOk [] 15
 refine fD (x:=bodyOf Try.f16) kk Try.func16 ?_
 refine wkS [1] [(1,av_api_Rx x)] (by kernel_rfl) ?_
 refine sD kk [] [1] [(4,.ptr 5 0),(5,av_api_Rx x)] obN ?_
 obtain ⟨r0,hc0,h⟩:=h
 rcases Bool.eq_false_or_eq_true (r0) with hb1 | hb1
 ·have h:=h.1 hb1
  obtain ⟨r0_1,hc2,h⟩:=h
  rcases Bool.eq_false_or_eq_true (decide (r0_1≤(200:Int))) with hb3 | hb3
  ·have h:=h.1 hb3
   obtain ⟨r0_2,hc4,h⟩:=h
   refine sD kk [.c (vB r0) [],.b true,.b true,.c (vi r0_1) [],.b true,.b true,.b true,.b true,.c (vi r0_2) [],.b true,.b true] [4,5] [(7,vB (decide (r0_2≥(0:Int))))] (obC hc0 (obC (gtt hb1) (obC (gtt hb1) (obC hc2 (obC (gtt hb1) (obC hb1 (obC (gtt hb3) (obC (gtt hb3) (obC hc4 (obC (gtt hb3) (obC hb3 obN))))))))))) ?_
   refine tD ?_
   obtain he0:=h
   subst res
   exact (endD [] (vB (decide (r0_2≥(0:Int)))) []).1
  ·have h:=h.2 hb3
   refine sD kk [.c (vB r0) [],.b true,.b true,.c (vi r0_1) [],.b true,.b true,.b false,.b false,.b false,.b false] [4,5] [(7,vB false)] (obC hc0 (obC (gtt hb1) (obC (gtt hb1) (obC hc2 (obC (gtt hb1) (obC hb1 (obC (gtf hb3) (obC (gtf hb3) (obC (gtf hb3) (obC hb3 obN)))))))))) ?_
   refine tD ?_
   obtain he0:=h
   subst res
   exact (endD [] (vB false) []).1
 ·have h:=h.2 hb1
  refine sD kk [.c (vB r0) [],.b false,.b false,.b false,.b false,.b false,.b false,.b false,.b false] [4,5] [(7,vB false)] (obC hc0 (obC (gtf hb1) (obC (gtf hb1) (obC (gtf hb1) (obC hb1 (obC (rfl:false=false) (obC (rfl:false=false) (obC (rfl:false=false) (obC (rfl:false=false) obN))))))))) ?_
  refine tD ?_
  obtain he0:=h
  subst res
  exact (endD [] (vB false) []).1
set_option maxHeartbeats 1000000 in
theorem W_heckleref05_May (x:api_Rx) (s0:ByteArray) (res:Bool)
 (h:(∃ r0:Bool,C_heckleref03_Right x r0∧(res=(r0 && decide ((↑(ByteArray.size s0):Int)≤(10000:Int)))))):C_heckleref05_May x s0 res:=by
 unfold C_heckleref05_May
 have kk:=cfOk [] 12
 refine fD (x:=bodyOf Try.f73) kk Try.func73 ?_
 refine wkS [1,4] [(1,av_api_Rx x),(4,vS s0)] (by kernel_rfl) ?_
 refine sD kk [] [1] [(7,.ptr 8 0),(8,av_api_Rx x)] obN ?_
 obtain ⟨r0,hc0,h⟩:=h
 refine sM [4,7,8] [(13,vB (r0 && decide ((↑(ByteArray.size s0):Int)≤(10000:Int))))] ?_ (fun hk0=>?_)
 ·refine tD ?_
  obtain he0:=h
  subst res
  exact (endD [] (vB (r0 && decide ((↑(ByteArray.size s0):Int)≤(10000:Int)))) []).1
 ·rcases Bool.eq_false_or_eq_true (r0) with hb1 | hb1
  ·refine sD kk [.c (vB r0) [],.b true,.b true,.b true,.b true] [4,7,8] [(13,vB (decide ((↑(ByteArray.size s0):Int)≤(10000:Int))))] (obC hc0 (obC (gtt hb1) (obC (gtt hb1) (obC (gtt hb1) (obC hb1 obN))))) ?_
   exact Sem.cast (by try rw [hb1];kernel_rfl) hk0
  ·refine sD kk [.c (vB r0) [],.b false,.b false,.b false,.b false] [4,7,8] [(13,vB false)] (obC hc0 (obC (gtf hb1) (obC (gtf hb1) (obC (gtf hb1) (obC hb1 obN))))) ?_
   exact Sem.cast (by try rw [hb1];kernel_rfl) hk0
set_option maxHeartbeats 1000000 in
theorem W_heckleref05_or (a:(List Bool)) (b:(List Bool)) (res:(List Bool))
 (h:(∃ (Inv12:List Bool→Int→Prop) (mu13:List Bool→Int→Nat),Inv12 ([]) 0∧(∀ (out:List Bool) (i:Int),Inv12 out i→(((decide (i < (↑(List.length a):Int)))=true→((0:Int)≤i)∧i < ↑(List.length a)∧(((gd a i)=true→((gd a i)=true→((List.length out+(1:Nat)) * (1:Nat)≤(2:Nat) ^ (47:Nat)))∧(Inv12 (out++[true]) (w64 (i+1))∧mu13 (out++[true]) (w64 (i+1)) < mu13 out i))∧((gd a i)=false→((gd a i)=false→((0:Int)≤i))∧((gd a i)=false→i < ↑(List.length b))∧((gd a i)=false→((List.length out+(1:Nat)) * (1:Nat)≤(2:Nat) ^ (47:Nat)))∧(Inv12 (out++[gd b i]) (w64 (i+1))∧mu13 (out++[gd b i]) (w64 (i+1)) < mu13 out i))))∧((decide (i < (↑(List.length a):Int)))=false→(res=out)))))):C_heckleref05_or a b res:=by
 unfold C_heckleref05_or
 have kk:=cfOk [26] 27
 refine fD (x:=bodyOf Try.f101) kk Try.func101 ?_
 refine wkS [1,4] [(1,vL enc_bool a),(4,vL enc_bool b)] (by kernel_rfl) ?_
 refine sD kk [] [] [] obN ?_
 refine sDE kk [] [] [(16,.own 4 ([]))] [(16,oL 4 enc_bool ([]))] obN ?_
 refine qD ?_
 refine sD kk [] [] [(19,vi 0)] obN ?_
 refine bD (id:=0) ?_
 obtain ⟨Inv12,mu13,h0Inv12,hInv12⟩:=h
 refine loD (fun (q:List Bool×Int)=>(fun (out:List Bool) (i:Int)=>([(1,vL enc_bool a),(4,vL enc_bool b),(16,oL 4 enc_bool out),(19,vi i)]:Sta)) q.1 q.2) (fun (q:List Bool×Int)=>Inv12 q.1 q.2) (fun (q:List Bool×Int)=>mu13 q.1 q.2) (([]),0) [] h0Inv12 ?_
 rintro ⟨out,i⟩ hi
 have h:=hInv12 out i hi
 refine qD ?_
 refine sDE kk [] [] [(31,vB (decide (i < (↑(List.length (List.map enc_bool a)):Int))))] [(31,vB (decide (i < (↑(List.length a):Int))))] obN ?_
 refine cD (t:=10) (b:=decide (i < (↑(List.length a):Int))) (fun hb14=>?_) (fun hb14=>?_)
 ·have h:=h.1 hb14
  refine Sem.skip' (by kernel_rfl) Wk.refl ?_
  show Sem _ _ _ _ _
  refine wkD [31] ?_
  refine qD ?_
  refine bD (id:=1) ?_
  obtain ⟨h15,h⟩:=h
  obtain ⟨h16,h⟩:=h
  rcases Bool.eq_false_or_eq_true (gd a i) with hb17 | hb17
  ·have h:=h.1 hb17
   obtain ⟨h21,h⟩:=h
   refine rDE kk [.e (fB (gd a i)),.b false,.b false,.b false,.b false,.b true] [] [(16,.own 4 (List.map enc_bool out++List.take (List.length [FV.pv (Value.bool true)]) (List.drop (0:Nat) [FV.pv (Value.bool true)])))] [(16,oL 4 enc_bool (out++[true]))] (obC h15 (obC (idx_ok enc_bool a i _ rfl h15 h16) (obC (gff hb17) (obC (gff hb17) (obC (gff hb17) (obC (gff hb17) (obC hb17 (obC (show (0:Nat)=(0:Nat)∧List.length (List.map enc_bool out)=List.length (List.map enc_bool out) from by first | decide | rfl | trivial | (simp only [nm]<;>first | decide | rfl | omega)) (obC (show (List.length (List.map enc_bool out)+List.length (List.take (1:Nat) (List.drop (0:Nat) [FV.pv (Value.bool true)]))) * (1:Nat)≤(2:Nat) ^ (47:Nat) from by simpa only [nm] using (h21 hb17)) (obC (show List.all (List.take (1:Nat) (List.drop (0:Nat) [FV.pv (Value.bool true)])) (FV.fits (1:Nat))=true from by first | decide | rfl | trivial | (simp only [nm]<;>first | decide | rfl | omega)) obN)))))))))) ?_
   show Sem _ _ _ _ _
   refine rD kk [] [] [(19,vi (w64 (i+1)))] obN ?_
   exact lD ((out++[true]),(w64 (i+1))) [] h
  ·have h:=h.2 hb17
   obtain ⟨h18,h⟩:=h
   obtain ⟨h19,h⟩:=h
   obtain ⟨h20,h⟩:=h
   refine rDE kk [.e (fB (gd a i)),.b true,.b true,.b true,.e (fB (gd b i)),.b true,.b false] [] [(16,.own 4 (List.map enc_bool out++List.take (List.length [FV.pv (Value.bool (gd b i))]) (List.drop (0:Nat) [FV.pv (Value.bool (gd b i))])))] [(16,oL 4 enc_bool (out++[gd b i]))] (obC h15 (obC (idx_ok enc_bool a i _ rfl h15 h16) (obC (gft hb17) (obC (gft hb17) (obC (gft hb17) (obC (h18 hb17) (obC (idx_ok enc_bool b i _ rfl (h18 hb17) (h19 hb17)) (obC (gft hb17) (obC hb17 (obC (show (0:Nat)=(0:Nat)∧List.length (List.map enc_bool out)=List.length (List.map enc_bool out) from by first | decide | rfl | trivial | (simp only [nm]<;>first | decide | rfl | omega)) (obC (show (List.length (List.map enc_bool out)+List.length (List.take (1:Nat) (List.drop (0:Nat) [FV.pv (Value.bool (gd b i))]))) * (1:Nat)≤(2:Nat) ^ (47:Nat) from by simpa only [nm] using (h20 hb17)) (obC (show List.all (List.take (1:Nat) (List.drop (0:Nat) [FV.pv (Value.bool (gd b i))])) (FV.fits (1:Nat))=true from by first | exact fits_bool _ | rfl | simp [isByteF,FV.fits,FV.size,FV.cells,FV.one,]) obN)))))))))))) ?_
   show Sem _ _ _ _ _
   refine rD kk [] [] [(19,vi (w64 (i+1)))] obN ?_
   exact lD ((out++[gd b i]),(w64 (i+1))) [] h
 ·have h:=h.2 hb14
  refine xD (i:=0) ?_
  show Sem _ _ _ _ _
  refine wkD [1,4,19,31] ?_
  refine sD kk [] [16] [(13,oL 4 enc_bool out)] obN ?_
  refine tD ?_
  obtain he0:=h
  subst res
  exact (endD [] (oL 4 enc_bool out) []).1
set_option maxHeartbeats 1000000 in
theorem W_heckleref05_closed (x:api_Rx) (res:Bool)
 (h:(res=(api_Rx.Kind x == (5:Int) && (decide (api_Rx.Hi x < (0:Int)) && decide (api_Rx.Lo x≤(1:Int)))))):C_heckleref05_closed x res:=by
 unfold C_heckleref05_closed
 have kk:=cfOk [] 16
 refine fD (x:=bodyOf Try.f102) kk Try.func102 ?_
 refine wkS [1] [(1,av_api_Rx x)] (by kernel_rfl) ?_
 refine sD kk [] [1] [(4,.ptr 5 0),(5,av_api_Rx x)] obN ?_
 refine sM [4,5] [(7,vB (api_Rx.Kind x == (5:Int) && (decide (api_Rx.Hi x < (0:Int)) && decide (api_Rx.Lo x≤(1:Int)))))] ?_ (fun hk0=>?_)
 ·refine tD ?_
  obtain he0:=h
  subst res
  exact (endD [] (vB (api_Rx.Kind x == (5:Int) && (decide (api_Rx.Hi x < (0:Int)) && decide (api_Rx.Lo x≤(1:Int))))) []).1
 ·rcases Bool.eq_false_or_eq_true (api_Rx.Kind x == (5:Int)) with hb0 | hb0
  ·rcases Bool.eq_false_or_eq_true (decide (api_Rx.Hi x < (0:Int))) with hb1 | hb1
   ·refine sD kk [.b true,.b true,.b true,.b true,.b true,.b true,.b true,.b true] [4,5] [(7,vB (decide (api_Rx.Lo x≤(1:Int))))] (obC (gtt hb0) (obC (gtt hb0) (obC (gtt hb0) (obC hb0 (obC (gtt hb1) (obC (gtt hb1) (obC (gtt hb1) (obC hb1 obN)))))))) ?_
    exact Sem.cast (by try rw [hb0];try rw [hb1];kernel_rfl) hk0
   ·refine sD kk [.b true,.b true,.b true,.b true,.b false,.b false,.b false,.b false] [4,5] [(7,vB false)] (obC (gtt hb0) (obC (gtt hb0) (obC (gtt hb0) (obC hb0 (obC (gtf hb1) (obC (gtf hb1) (obC (gtf hb1) (obC hb1 obN)))))))) ?_
    exact Sem.cast (by try rw [hb0];try rw [hb1];kernel_rfl) hk0
  ·refine sD kk [.b false,.b false,.b false,.b false,.b false,.b false,.b false,.b false] [4,5] [(7,vB false)] (obC (gtf hb0) (obC (gtf hb0) (obC (gtf hb0) (obC hb0 (obC (rfl:false=false) (obC (rfl:false=false) (obC (rfl:false=false) (obC (rfl:false=false) obN)))))))) ?_
   exact Sem.cast (by try rw [hb0];kernel_rfl) hk0
set_option maxHeartbeats 1000000 in
theorem W_heckleref05_within (a:(List Bool)) (b:(List Bool)) (res:Bool)
 (h:(∃ (Inv12:Int→Prop) (mu13:Int→Nat),Inv12 0∧(∀ (i:Int),Inv12 i→(((decide (i < (↑(List.length a):Int)))=true→((0:Int)≤i)∧i < ↑(List.length a)∧((gd a i)=true→((0:Int)≤i))∧((gd a i)=true→i < ↑(List.length b))∧(((gd a i && !gd b i)=true→(res=false))∧((gd a i && !gd b i)=false→(Inv12 (w64 (i+1))∧mu13 (w64 (i+1)) < mu13 i))))∧((decide (i < (↑(List.length a):Int)))=false→(res=true)))))):C_heckleref05_within a b res:=by
 unfold C_heckleref05_within
 have kk:=cfOk [] 23
 refine fD (x:=bodyOf Try.f103) kk Try.func103 ?_
 refine wkS [1,4] [(1,vL enc_bool a),(4,vL enc_bool b)] (by kernel_rfl) ?_
 refine sD kk [] [] [] obN ?_
 refine qD ?_
 refine sD kk [] [] [(16,vi 0)] obN ?_
 refine bD (id:=0) ?_
 obtain ⟨Inv12,mu13,h0Inv12,hInv12⟩:=h
 refine loD (fun (q:Int)=>(fun (i:Int)=>([(1,vL enc_bool a),(4,vL enc_bool b),(16,vi i)]:Sta)) q) (fun (q:Int)=>Inv12 q) (fun (q:Int)=>mu13 q) 0 [] h0Inv12 ?_
 rintro i hi
 have h:=hInv12 i hi
 refine qD ?_
 refine sDE kk [] [] [(28,vB (decide (i < (↑(List.length (List.map enc_bool a)):Int))))] [(28,vB (decide (i < (↑(List.length a):Int))))] obN ?_
 refine cD (t:=9) (b:=decide (i < (↑(List.length a):Int))) (fun hb14=>?_) (fun hb14=>?_)
 ·have h:=h.1 hb14
  refine Sem.skip' (by kernel_rfl) Wk.refl ?_
  show Sem _ _ _ _ _
  refine wkD [28] ?_
  refine qD ?_
  refine bD (id:=1) ?_
  obtain ⟨h15,h⟩:=h
  obtain ⟨h16,h⟩:=h
  obtain ⟨h18,h19,h⟩:=h
  refine sM [] [(67,vB (gd a i && !gd b i))] ?_ (fun hk0=>?_)
  ·refine cD (t:=22) (b:=gd a i && !gd b i) (fun hb20=>?_) (fun hb20=>?_)
   ·have h:=h.1 hb20
    refine sD kk [] [1,4,16,67] [(13,vB false)] obN ?_
    refine tD ?_
    obtain he0:=h
    subst res
    exact (endD [] (vB false) []).1
   ·have h:=h.2 hb20
    refine Sem.skip' (by kernel_rfl) Wk.refl ?_
    show Sem _ _ _ _ _
    refine wkD [67] ?_
    refine rD kk [] [] [(16,vi (w64 (i+1)))] obN ?_
    exact lD (w64 (i+1)) [] h
  ·rcases Bool.eq_false_or_eq_true (gd a i) with hb17 | hb17
   ·refine sD kk [.e (fB (gd a i)),.b true,.b true,.b true,.e (fB (gd b i)),.b true,.b true,.b true] [] [(67,vB (!gd b i))] (obC h15 (obC (idx_ok enc_bool a i _ rfl h15 h16) (obC (gtt hb17) (obC (gtt hb17) (obC (gtt hb17) (obC (h18 hb17) (obC (idx_ok enc_bool b i _ rfl (h18 hb17) (h19 hb17)) (obC (gtt hb17) (obC (gtt hb17) (obC hb17 obN)))))))))) ?_
    exact Sem.cast (by try rw [hb17];kernel_rfl) hk0
   ·refine sD kk [.e (fB (gd a i)),.b false,.b false,.b false,.b false,.b false,.b false] [] [(67,vB false)] (obC h15 (obC (idx_ok enc_bool a i _ rfl h15 h16) (obC (gtf hb17) (obC (gtf hb17) (obC (gtf hb17) (obC (gtf hb17) (obC (gtf hb17) (obC hb17 obN)))))))) ?_
    exact Sem.cast (by try rw [hb17];kernel_rfl) hk0
 ·have h:=h.2 hb14
  refine xD (i:=0) ?_
  show Sem _ _ _ _ _
  refine wkD [1,4,16,28] ?_
  refine sD kk [] [] [(13,vB true)] obN ?_
  refine tD ?_
  obtain he0:=h
  subst res
  exact (endD [] (vB true) []).1
set_option maxHeartbeats 1000000 in
theorem W_heckleref05_step (x:api_Rx) (s0:ByteArray) (from0:(List Bool)) (res:(List Bool))
 (h:((0:Int)≤(↑(List.length from0):Int)∧(↑(List.length from0):Int)≤(↑(List.length from0):Int)∧(↑(List.length from0):Int) < (2:Int) ^ (40:Nat)∧(↑(1:Nat):Int) * (↑(List.length from0):Int)≤(2:Int) ^ (47:Nat))∧(∃ J119:List Bool→Prop,(∀ (out_3:List Bool),J119 out_3→(res=out_3))∧(((api_Rx.Kind x == 1)=true→J119 (from0++List.drop (List.length from0) (List.replicate (List.length from0) false)))∧((api_Rx.Kind x == 1)=false→(((api_Rx.Kind x == (2:Int))=true→(∃ (Inv144:List Bool→Int→Prop) (mu145:List Bool→Int→Nat),Inv144 (List.replicate (List.length from0) false) 0∧(∀ (out_4:List Bool) (i_5:Int),Inv144 out_4 i_5→(((decide (i_5 < (↑(ByteArray.size s0):Int)))=true→((0:Int)≤i_5)∧i_5 < ↑(List.length from0)∧(((gd from0 i_5)=true→((gd from0 i_5)=true→((0:Int)≤i_5))∧((gd from0 i_5)=true→i_5 < ↑(ByteArray.size s0))∧(∃ r0_29:Bool,C_heckleref01_Has (api_Rx.Set x) (w64 (↑(UInt8.toNat (byteAt s0 i_5)):Int)) r0_29∧((gd from0 i_5)=true→((0:Int)≤w64 (i_5+1)))∧((gd from0 i_5)=true→(Int.toNat (w64 (i_5+1)) < List.length out_4))∧((gd from0 i_5)=true→w64 (i_5+1) < ↑(List.length out_4))∧(Inv144 (List.set out_4 (Int.toNat (w64 (i_5+1))) r0_29) (w64 (i_5+1))∧mu145 (List.set out_4 (Int.toNat (w64 (i_5+1))) r0_29) (w64 (i_5+1)) < mu145 out_4 i_5)))∧((gd from0 i_5)=false→((gd from0 i_5)=false→((0:Int)≤w64 (i_5+1)))∧((gd from0 i_5)=false→(Int.toNat (w64 (i_5+1)) < List.length out_4))∧((gd from0 i_5)=false→w64 (i_5+1) < ↑(List.length out_4))∧(Inv144 (List.set out_4 (Int.toNat (w64 (i_5+1))) false) (w64 (i_5+1))∧mu145 (List.set out_4 (Int.toNat (w64 (i_5+1))) false) (w64 (i_5+1)) < mu145 out_4 i_5))))∧((decide (i_5 < (↑(ByteArray.size s0):Int)))=false→J119 out_4)))))∧((api_Rx.Kind x == (2:Int))=false→(((api_Rx.Kind x == (3:Int))=true→(∃ (Inv167:List Bool→Int→Prop) (mu168:List Bool→Int→Nat),Inv167 from0 0∧(∀ (now_3:List Bool) (i_6:Int),Inv167 now_3 i_6→(((decide (i_6 < (↑(List.length (api_Rx.Kids x)):Int)))=true→((0:Int)≤i_6)∧i_6 < ↑(List.length (api_Rx.Kids x))∧(∃ r0_32:List Bool,C_heckleref05_step (gd (api_Rx.Kids x) i_6) s0 now_3 r0_32∧(Inv167 r0_32 (w64 (i_6+1))∧mu168 r0_32 (w64 (i_6+1)) < mu168 now_3 i_6)))∧((decide (i_6 < (↑(List.length (api_Rx.Kids x)):Int)))=false→J119 (List.take (List.length from0) now_3++List.drop (List.length now_3) (List.replicate (List.length from0) false)))))))∧((api_Rx.Kind x == (3:Int))=false→(((api_Rx.Kind x == (4:Int))=true→(∃ (Inv183:List Bool→Int→Prop) (mu184:List Bool→Int→Nat),Inv183 (List.replicate (List.length from0) false) 0∧(∀ (out_5:List Bool) (i_7:Int),Inv183 out_5 i_7→(((decide (i_7 < (↑(List.length (api_Rx.Kids x)):Int)))=true→((0:Int)≤i_7)∧i_7 < ↑(List.length (api_Rx.Kids x))∧(∃ r0_37:List Bool,C_heckleref05_step (gd (api_Rx.Kids x) i_7) s0 from0 r0_37∧(∃ r0_38:List Bool,C_heckleref05_or out_5 r0_37 r0_38∧(Inv183 r0_38 (w64 (i_7+1))∧mu184 r0_38 (w64 (i_7+1)) < mu184 out_5 i_7))))∧((decide (i_7 < (↑(List.length (api_Rx.Kids x)):Int)))=false→J119 out_5)))))∧((api_Rx.Kind x == (4:Int))=false→(((api_Rx.Kind x == (5:Int))=true→(∃ r0_39:Int,C_heckleref03_Size x r0_39∧(((r0_39 == 0)=true→(res=(from0++List.drop (List.length from0) (List.replicate (List.length from0) false))))∧((r0_39 == 0)=false→(∃ (Inv199:List Bool→Int→Prop) (mu200:List Bool→Int→Nat),Inv199 from0 0∧(∀ (now_4:List Bool) (i_8:Int),Inv199 now_4 i_8→(((decide (i_8 < api_Rx.Lo x))=true→(0:Nat) < List.length (api_Rx.Kids x)∧(∃ r0_42:List Bool,C_heckleref05_step (List.getD (api_Rx.Kids x) (0:Nat) default) s0 now_4 r0_42∧(Inv199 r0_42 (w64 (i_8+1))∧mu200 r0_42 (w64 (i_8+1)) < mu200 now_4 i_8)))∧((decide (i_8 < api_Rx.Lo x))=false→(∃ J205:Int→Prop,(∀ (most_2:Int),J205 most_2→(∃ J211:Int→Prop,(∀ (most_3:Int),J211 most_3→(∃ (Inv224:List Bool→List Bool→Int→Prop) (mu225:List Bool→List Bool→Int→Nat),Inv224 (List.take (List.length from0) now_4++List.drop (List.length now_4) (List.replicate (List.length from0) false)) now_4 0∧(∀ (out_6:List Bool) (now_5:List Bool) (i_9:Int),Inv224 out_6 now_5 i_9→(((decide (i_9 < most_3))=true→(0:Nat) < List.length (api_Rx.Kids x)∧(∃ r0_50:List Bool,C_heckleref05_step (List.getD (api_Rx.Kids x) (0:Nat) default) s0 now_5 r0_50∧(∃ r0_51:Bool,C_heckleref05_within r0_50 out_6 r0_51∧(((r0_51)=true→J119 out_6)∧((r0_51)=false→(∃ r0_52:List Bool,C_heckleref05_or out_6 r0_50 r0_52∧(Inv224 r0_52 r0_50 (w64 (i_9+1))∧mu225 r0_52 r0_50 (w64 (i_9+1)) < mu225 out_6 now_5 i_9)))))))∧((decide (i_9 < most_3))=false→J119 out_6)))))∧(((decide (api_Rx.Hi x < (0:Int)))=true→((decide (api_Rx.Hi x < (0:Int)))=true→(0:Nat) < List.length (api_Rx.Kids x))∧(∃ r0_53:Bool,C_heckleref05_closed (List.getD (api_Rx.Kids x) (0:Nat) default) r0_53∧(((r0_53)=true→J211 (if w64 ((1:Int) - api_Rx.Lo x) > (0:Int) then w64 ((1:Int) - api_Rx.Lo x) else (0:Int)))∧((r0_53)=false→J211 most_2))))∧((decide (api_Rx.Hi x < (0:Int)))=false→J211 most_2))))∧(((decide (api_Rx.Hi x < (0:Int)))=true→J205 ((↑(List.length from0):Int)))∧((decide (api_Rx.Hi x < (0:Int)))=false→J205 (w64 (api_Rx.Hi x - api_Rx.Lo x)))))))))))))∧((api_Rx.Kind x == (5:Int))=false→J119 (List.replicate (List.length from0) false))))))))))))):C_heckleref05_step x s0 from0 res:=by
 unfold C_heckleref05_step
 have kk:=cfOk [99,159] 160
 refine fD (x:=bodyOf Try.f74) kk Try.func74 ?_
 refine wkS [1,4,7] [(1,av_api_Rx x),(4,vS s0),(7,vL enc_bool from0)] (by kernel_rfl) ?_
 refine sD kk [] [1] [(10,.ptr 11 0),(11,av_api_Rx x)] obN ?_
 obtain ⟨h0,h⟩:=h
 refine sDE kk [] [] [(22,.own 4 (List.replicate (Int.toNat (↑(List.length (List.map enc_bool from0)):Int)) (FV.pv (Value.bool false))))] [(22,oL 4 enc_bool (List.replicate (List.length from0) false))] (obC (show (0:Int)≤(↑(List.length (List.map enc_bool from0)):Int)∧(↑(List.length (List.map enc_bool from0)):Int)≤(↑(List.length (List.map enc_bool from0)):Int)∧(↑(List.length (List.map enc_bool from0)):Int) < (2:Int) ^ (40:Nat)∧(↑(1:Nat):Int) * (↑(List.length (List.map enc_bool from0)):Int)≤(2:Int) ^ (47:Nat) from by simpa only [nm] using h0) obN) ?_
 obtain ⟨J119,hJ119,h⟩:=h
 refine sjD (fun (q:List Bool)=>J119 q) (fun (q:List Bool)=>(fun (out_3:List Bool)=>([(22,vL enc_bool out_3)]:Sta)) q) ?_ ?_
 ·rintro out_3 hj
  have h:=hJ119 out_3 hj
  refine sD kk [] [22] [(19,vL enc_bool out_3)] obN ?_
  refine tD ?_
  obtain he0:=h
  subst res
  exact (endD [] (vL enc_bool out_3) []).1
 ·refine sD kk [] [] [(61,vi (api_Rx.Kind x))] obN ?_
  refine bD (id:=0) ?_
  refine sD kk [] [] [(64,vB (api_Rx.Kind x == 1))] obN ?_
  refine cD (t:=21) (b:=api_Rx.Kind x == 1) (fun hb120=>?_) (fun hb120=>?_)
  ·have h:=h.1 hb120
   refine rDE kk [] [4,7,10,11,61,64] [(22,.own 4 (List.take (List.length (List.map enc_bool (List.replicate (List.length from0) false))) (List.map enc_bool from0)++List.drop (List.length (List.map enc_bool from0)) (List.map enc_bool (List.replicate (List.length from0) false))))] [(22,oL 4 enc_bool (from0++List.drop (List.length from0) (List.replicate (List.length from0) false)))] (obC (show (0:Nat)=(0:Nat)∧List.length (List.map enc_bool (List.replicate (List.length from0) false))=List.length (List.map enc_bool (List.replicate (List.length from0) false)) from by first | decide | rfl | trivial | (simp only [nm]<;>first | decide | rfl | omega)) (obC (show List.all (List.map enc_bool from0) (FV.fits (1:Nat))=true from by first | exact fits_bool _ | rfl | simp [isByteF,FV.fits,FV.size,FV.cells,FV.one,enc_bool]) obN)) ?_
   exact jD (from0++List.drop (List.length from0) (List.replicate (List.length from0) false)) [(22,0)] h
  ·have h:=h.2 hb120
   refine sD kk [] [64] [(79,vB (api_Rx.Kind x == (2:Int)))] obN ?_
   refine cD (t:=26) (b:=api_Rx.Kind x == (2:Int)) (fun hb121=>?_) (fun hb121=>?_)
   ·have h:=h.1 hb121
    refine sD kk [] [61,79] [(25,vi 0)] obN ?_
    refine bD (id:=1) ?_
    obtain ⟨Inv144,mu145,h0Inv144,hInv144⟩:=h
    refine loD (fun (q:List Bool×Int)=>(fun (out_4:List Bool) (i_5:Int)=>([(4,vS s0),(7,vL enc_bool from0),(10,.ptr 11 0),(11,av_api_Rx x),(22,oL 4 enc_bool out_4),(25,vi i_5)]:Sta)) q.1 q.2) (fun (q:List Bool×Int)=>Inv144 q.1 q.2) (fun (q:List Bool×Int)=>mu145 q.1 q.2) ((List.replicate (List.length from0) false),0) [] h0Inv144 ?_
    rintro ⟨out_4,i_5⟩ hi
    have h:=hInv144 out_4 i_5 hi
    refine qD ?_
    refine sD kk [] [] [(94,vB (decide (i_5 < (↑(ByteArray.size s0):Int))))] obN ?_
    refine cD (t:=31) (b:=decide (i_5 < (↑(ByteArray.size s0):Int))) (fun hb146=>?_) (fun hb146=>?_)
    ·have h:=h.1 hb146
     refine Sem.skip' (by kernel_rfl) Wk.refl ?_
     show Sem _ _ _ _ _
     refine wkD [94] ?_
     refine qD ?_
     refine bD (id:=2) ?_
     obtain ⟨h147,h⟩:=h
     obtain ⟨h148,h⟩:=h
     rcases Bool.eq_false_or_eq_true (gd from0 i_5) with hb149 | hb149
     ·have h:=h.1 hb149
      obtain ⟨h150,h⟩:=h
      obtain ⟨h151,h⟩:=h
      obtain ⟨r0_29,hc152,h⟩:=h
      obtain ⟨h153,h⟩:=h
      obtain ⟨h154,h⟩:=h
      obtain ⟨h155,h⟩:=h
      refine rDE kk [.e (fB (gd from0 i_5)),.b true,.b true,.b true,.b true,.b true,.y (byteAt s0 i_5),.b true,.b true,.c (vB r0_29) [],.b true,.e (fB (gd out_4 (w64 (i_5+1))))] [] [(22,.own 4 (List.set (List.map enc_bool out_4) ((0:Nat)+Int.toNat (w64 (i_5+1))) (FV.pv (Value.bool r0_29))))] [(22,oL 4 enc_bool (List.set out_4 (Int.toNat (w64 (i_5+1))) r0_29))] (obC h147 (obC (idx_ok enc_bool from0 i_5 _ rfl h147 h148) (obC (gtt hb149) (obC (gtt hb149) (obC (gtt hb149) (obC (gtt hb149) (obC (gtt hb149) (obC (h150 hb149) (obC (byte_ok s0 i_5 (h150 hb149) (h151 hb149)) (obC (gtt hb149) (obC (gtt hb149) (obC hc152 (obC hb149 (obC (h153 hb149) (obC (show Int.toNat (w64 (i_5+1)) < List.length (List.map enc_bool out_4) from by simpa only [nm] using (h154 hb149)) (obC (show (List.map enc_bool out_4)[((0:Nat)+Int.toNat (w64 (i_5+1)):Nat)]?=some (fB (gd out_4 (w64 (i_5+1)))) from by have:=idx_ok enc_bool out_4 (w64 (i_5+1)) _ rfl (h153 hb149) (h155 hb149);simpa only [nm,enq,enc_bool] using this) obN)))))))))))))))) ?_
      show Sem _ _ _ _ _
      refine rD kk [] [] [(25,vi (w64 (i_5+1)))] obN ?_
      exact lD ((List.set out_4 (Int.toNat (w64 (i_5+1))) r0_29),(w64 (i_5+1))) [] h
     ·have h:=h.2 hb149
      obtain ⟨h156,h⟩:=h
      obtain ⟨h157,h⟩:=h
      obtain ⟨h158,h⟩:=h
      refine rDE kk [.e (fB (gd from0 i_5)),.b false,.b false,.b false,.b false,.b false,.b false,.b false,.b false,.e (fB (gd out_4 (w64 (i_5+1))))] [] [(22,.own 4 (List.set (List.map enc_bool out_4) ((0:Nat)+Int.toNat (w64 (i_5+1))) (FV.pv (Value.bool false))))] [(22,oL 4 enc_bool (List.set out_4 (Int.toNat (w64 (i_5+1))) false))] (obC h147 (obC (idx_ok enc_bool from0 i_5 _ rfl h147 h148) (obC (gtf hb149) (obC (gtf hb149) (obC (gtf hb149) (obC (gtf hb149) (obC (gtf hb149) (obC (gtf hb149) (obC (gtf hb149) (obC hb149 (obC (h156 hb149) (obC (show Int.toNat (w64 (i_5+1)) < List.length (List.map enc_bool out_4) from by simpa only [nm] using (h157 hb149)) (obC (show (List.map enc_bool out_4)[((0:Nat)+Int.toNat (w64 (i_5+1)):Nat)]?=some (fB (gd out_4 (w64 (i_5+1)))) from by have:=idx_ok enc_bool out_4 (w64 (i_5+1)) _ rfl (h156 hb149) (h158 hb149);simpa only [nm,enq,enc_bool] using this) obN))))))))))))) ?_
      show Sem _ _ _ _ _
      refine rD kk [] [] [(25,vi (w64 (i_5+1)))] obN ?_
      exact lD ((List.set out_4 (Int.toNat (w64 (i_5+1))) false),(w64 (i_5+1))) [] h
    ·have h:=h.2 hb146
     refine xD (i:=1) ?_
     exact jD out_4 [(22,0)] h
   ·have h:=h.2 hb121
    refine sD kk [] [79] [(154,vB (api_Rx.Kind x == (3:Int)))] obN ?_
    refine cD (t:=51) (b:=api_Rx.Kind x == (3:Int)) (fun hb159=>?_) (fun hb159=>?_)
    ·have h:=h.1 hb159
     refine sD kk [] [7,61,154] [(28,vL enc_bool from0)] obN ?_
     refine qD ?_
     refine sD kk [] [] [(31,vi 0)] obN ?_
     refine bD (id:=3) ?_
     obtain ⟨Inv167,mu168,h0Inv167,hInv167⟩:=h
     refine loD (fun (q:List Bool×Int)=>(fun (now_3:List Bool) (i_6:Int)=>([(4,vS s0),(10,.ptr 11 0),(11,av_api_Rx x),(22,oL 4 enc_bool (List.replicate (List.length from0) false)),(28,vL enc_bool now_3),(31,vi i_6)]:Sta)) q.1 q.2) (fun (q:List Bool×Int)=>Inv167 q.1 q.2) (fun (q:List Bool×Int)=>mu168 q.1 q.2) (from0,0) [] h0Inv167 ?_
     rintro ⟨now_3,i_6⟩ hi
     have h:=hInv167 now_3 i_6 hi
     refine qD ?_
     refine sDE kk [] [] [(175,vB (decide (i_6 < (↑(List.length (List.map enc_api_Rx (api_Rx.Kids x))):Int))))] [(175,vB (decide (i_6 < (↑(List.length (api_Rx.Kids x)):Int))))] obN ?_
     refine cD (t:=58) (b:=decide (i_6 < (↑(List.length (api_Rx.Kids x)):Int))) (fun hb169=>?_) (fun hb169=>?_)
     ·have h:=h.1 hb169
      refine Sem.skip' (by kernel_rfl) Wk.refl ?_
      show Sem _ _ _ _ _
      refine wkD [175] ?_
      refine qD ?_
      refine bD (id:=4) ?_
      obtain ⟨h170,h⟩:=h
      obtain ⟨h171,h⟩:=h
      obtain ⟨r0_32,hc172,h⟩:=h
      refine rD kk [.e (fv_api_Rx (gd (api_Rx.Kids x) i_6)),.c (vL enc_bool r0_32) []] [] [(28,vL enc_bool r0_32)] (obC h170 (obC (idx_ok enc_api_Rx (api_Rx.Kids x) i_6 _ (enc_api_Rx_eq _) h170 h171) (obC hc172 obN))) ?_
      show Sem _ _ _ _ _
      refine rD kk [] [] [(31,vi (w64 (i_6+1)))] obN ?_
      exact lD (r0_32,(w64 (i_6+1))) [] h
     ·have h:=h.2 hb169
      refine xD (i:=3) ?_
      show Sem _ _ _ _ _
      refine wkD [4,10,11,31,175] ?_
      refine rDE kk [] [28] [(22,.own 4 (List.take (List.length (List.map enc_bool (List.replicate (List.length from0) false))) (List.map enc_bool now_3)++List.drop (List.length (List.map enc_bool now_3)) (List.map enc_bool (List.replicate (List.length from0) false))))] [(22,oL 4 enc_bool (List.take (List.length from0) now_3++List.drop (List.length now_3) (List.replicate (List.length from0) false)))] (obC (show (0:Nat)=(0:Nat)∧List.length (List.map enc_bool (List.replicate (List.length from0) false))=List.length (List.map enc_bool (List.replicate (List.length from0) false)) from by first | decide | rfl | trivial | (simp only [nm]<;>first | decide | rfl | omega)) (obC (show List.all (List.map enc_bool now_3) (FV.fits (1:Nat))=true from by first | exact fits_bool _ | rfl | simp [isByteF,FV.fits,FV.size,FV.cells,FV.one,enc_bool]) obN)) ?_
      exact jD (List.take (List.length from0) now_3++List.drop (List.length now_3) (List.replicate (List.length from0) false)) [(22,0)] h
    ·have h:=h.2 hb159
     refine sD kk [] [154] [(217,vB (api_Rx.Kind x == (4:Int)))] obN ?_
     refine cD (t:=72) (b:=api_Rx.Kind x == (4:Int)) (fun hb173=>?_) (fun hb173=>?_)
     ·have h:=h.1 hb173
      refine sD kk [] [61,217] [(34,vi 0)] obN ?_
      refine bD (id:=5) ?_
      obtain ⟨Inv183,mu184,h0Inv183,hInv183⟩:=h
      refine loD (fun (q:List Bool×Int)=>(fun (out_5:List Bool) (i_7:Int)=>([(4,vS s0),(7,vL enc_bool from0),(10,.ptr 11 0),(11,av_api_Rx x),(22,oL 4 enc_bool out_5),(34,vi i_7)]:Sta)) q.1 q.2) (fun (q:List Bool×Int)=>Inv183 q.1 q.2) (fun (q:List Bool×Int)=>mu184 q.1 q.2) ((List.replicate (List.length from0) false),0) [] h0Inv183 ?_
      rintro ⟨out_5,i_7⟩ hi
      have h:=hInv183 out_5 i_7 hi
      refine qD ?_
      refine sDE kk [] [] [(235,vB (decide (i_7 < (↑(List.length (List.map enc_api_Rx (api_Rx.Kids x))):Int))))] [(235,vB (decide (i_7 < (↑(List.length (api_Rx.Kids x)):Int))))] obN ?_
      refine cD (t:=78) (b:=decide (i_7 < (↑(List.length (api_Rx.Kids x)):Int))) (fun hb185=>?_) (fun hb185=>?_)
      ·have h:=h.1 hb185
       refine Sem.skip' (by kernel_rfl) Wk.refl ?_
       show Sem _ _ _ _ _
       refine wkD [235] ?_
       refine qD ?_
       refine bD (id:=6) ?_
       obtain ⟨h186,h⟩:=h
       obtain ⟨h187,h⟩:=h
       obtain ⟨r0_37,hc188,h⟩:=h
       obtain ⟨r0_38,hc189,h⟩:=h
       refine rD kk [.e (fv_api_Rx (gd (api_Rx.Kids x) i_7)),.c (vL enc_bool r0_37) [],.c (oL 4 enc_bool r0_38) []] [] [(22,oL 4 enc_bool r0_38)] (obC h186 (obC (idx_ok enc_api_Rx (api_Rx.Kids x) i_7 _ (enc_api_Rx_eq _) h186 h187) (obC hc188 (obC (Eq.mp (by unfold C_heckleref05_or;(try simp only [List.drop_zero,List.take_length]);first | done | simp only [nm,enq]:C_heckleref05_or out_5 r0_37 r0_38=CallE Try.prog 101 [.f (FV.sl (List.take (List.length (List.map enc_bool out_5)) (List.drop (0:Nat) (List.map enc_bool out_5)))),vL enc_bool r0_37] [] (oL 4 enc_bool r0_38) []) hc189) obN)))) ?_
       show Sem _ _ _ _ _
       refine rD kk [] [] [(34,vi (w64 (i_7+1)))] obN ?_
       exact lD (r0_38,(w64 (i_7+1))) [] h
      ·have h:=h.2 hb185
       refine xD (i:=5) ?_
       exact jD out_5 [(22,0)] h
     ·have h:=h.2 hb173
      refine sD kk [] [61,217] [(274,vB (api_Rx.Kind x == (5:Int)))] obN ?_
      refine cD (t:=91) (b:=api_Rx.Kind x == (5:Int)) (fun hb190=>?_) (fun hb190=>?_)
      ·have h:=h.1 hb190
       refine qD ?_
       obtain ⟨r0_39,hc191,h⟩:=h
       refine sD kk [.c (vi r0_39) []] [274] [(286,vB (r0_39 == 0))] (obC hc191 obN) ?_
       refine cD (t:=95) (b:=r0_39 == 0) (fun hb192=>?_) (fun hb192=>?_)
       ·have h:=h.1 hb192
        refine sDE kk [] [4,7,10,11,286] [(22,.own 4 (List.take (List.length (List.map enc_bool (List.replicate (List.length from0) false))) (List.map enc_bool from0)++List.drop (List.length (List.map enc_bool from0)) (List.map enc_bool (List.replicate (List.length from0) false))))] [(22,oL 4 enc_bool (from0++List.drop (List.length from0) (List.replicate (List.length from0) false)))] (obC (show (0:Nat)=(0:Nat)∧List.length (List.map enc_bool (List.replicate (List.length from0) false))=List.length (List.map enc_bool (List.replicate (List.length from0) false)) from by first | decide | rfl | trivial | (simp only [nm]<;>first | decide | rfl | omega)) (obC (show List.all (List.map enc_bool from0) (FV.fits (1:Nat))=true from by first | exact fits_bool _ | rfl | simp [isByteF,FV.fits,FV.size,FV.cells,FV.one,enc_bool]) obN)) ?_
        refine sD kk [] [22] [(19,oL 4 enc_bool (from0++List.drop (List.length from0) (List.replicate (List.length from0) false)))] obN ?_
        refine tD ?_
        obtain he0:=h
        subst res
        exact (endD [(19,0)] (vL enc_bool (from0++List.drop (List.length from0) (List.replicate (List.length from0) false))) []).1
       ·have h:=h.2 hb192
        refine Sem.skip' (by kernel_rfl) Wk.refl ?_
        show Sem _ _ _ _ _
        refine wkD [286] ?_
        refine sD kk [] [] [(37,vL enc_bool from0)] obN ?_
        refine qD ?_
        refine sD kk [] [] [(40,vi 0)] obN ?_
        refine bD (id:=7) ?_
        obtain ⟨Inv199,mu200,h0Inv199,hInv199⟩:=h
        refine loD (fun (q:List Bool×Int)=>(fun (now_4:List Bool) (i_8:Int)=>([(4,vS s0),(7,vL enc_bool from0),(10,.ptr 11 0),(11,av_api_Rx x),(22,oL 4 enc_bool (List.replicate (List.length from0) false)),(37,vL enc_bool now_4),(40,vi i_8)]:Sta)) q.1 q.2) (fun (q:List Bool×Int)=>Inv199 q.1 q.2) (fun (q:List Bool×Int)=>mu200 q.1 q.2) (from0,0) [] h0Inv199 ?_
        rintro ⟨now_4,i_8⟩ hi
        have h:=hInv199 now_4 i_8 hi
        refine qD ?_
        refine sD kk [] [] [(313,vB (decide (i_8 < api_Rx.Lo x)))] obN ?_
        refine cD (t:=104) (b:=decide (i_8 < api_Rx.Lo x)) (fun hb201=>?_) (fun hb201=>?_)
        ·have h:=h.1 hb201
         refine Sem.skip' (by kernel_rfl) Wk.refl ?_
         show Sem _ _ _ _ _
         refine wkD [313] ?_
         refine qD ?_
         refine bD (id:=8) ?_
         obtain ⟨h202,h⟩:=h
         obtain ⟨r0_42,hc203,h⟩:=h
         refine rD kk [.e (fv_api_Rx (List.getD (api_Rx.Kids x) (0:Nat) default)),.c (vL enc_bool r0_42) []] [] [(37,vL enc_bool r0_42)] (obC (show (0:Int)≤(0:Int) from by first | decide | rfl | trivial | (simp only [nm]<;>first | decide | rfl | omega)) (obC (show (List.map enc_api_Rx (api_Rx.Kids x))[(Int.toNat (0:Int):Nat)]?=some (fv_api_Rx (List.getD (api_Rx.Kids x) (0:Nat) default)) from by have:=idx_ok' enc_api_Rx (api_Rx.Kids x) ((0:Nat)) _ (enc_api_Rx_eq _) h202;simpa only [nm,enq,enc_api_Rx_eq] using this) (obC hc203 obN))) ?_
         show Sem _ _ _ _ _
         refine rD kk [] [] [(40,vi (w64 (i_8+1)))] obN ?_
         exact lD (r0_42,(w64 (i_8+1))) [] h
        ·have h:=h.2 hb201
         refine xD (i:=7) ?_
         show Sem _ _ _ _ _
         refine wkD [40,313] ?_
         refine sDE kk [] [] [(22,.own 4 (List.take (List.length (List.map enc_bool (List.replicate (List.length from0) false))) (List.map enc_bool now_4)++List.drop (List.length (List.map enc_bool now_4)) (List.map enc_bool (List.replicate (List.length from0) false))))] [(22,oL 4 enc_bool (List.take (List.length from0) now_4++List.drop (List.length now_4) (List.replicate (List.length from0) false)))] (obC (show (0:Nat)=(0:Nat)∧List.length (List.map enc_bool (List.replicate (List.length from0) false))=List.length (List.map enc_bool (List.replicate (List.length from0) false)) from by first | decide | rfl | trivial | (simp only [nm]<;>first | decide | rfl | omega)) (obC (show List.all (List.map enc_bool now_4) (FV.fits (1:Nat))=true from by first | exact fits_bool _ | rfl | simp [isByteF,FV.fits,FV.size,FV.cells,FV.one,enc_bool]) obN)) ?_
         refine sD kk [] [] [(43,vi (w64 (api_Rx.Hi x - api_Rx.Lo x)))] obN ?_
         obtain ⟨J205,hJ205,h⟩:=h
         refine sjD (fun (q:Int)=>J205 q) (fun (q:Int)=>(fun (most_2:Int)=>([(4,vS s0),(10,.ptr 11 0),(11,av_api_Rx x),(22,oL 4 enc_bool (List.take (List.length from0) now_4++List.drop (List.length now_4) (List.replicate (List.length from0) false))),(37,vL enc_bool now_4),(43,vi most_2)]:Sta)) q) ?_ ?_
         ·rintro most_2 hj
          have h:=hJ205 most_2 hj
          obtain ⟨J211,hJ211,h⟩:=h
          refine sjD (fun (q:Int)=>J211 q) (fun (q:Int)=>(fun (most_3:Int)=>([(4,vS s0),(10,.ptr 11 0),(11,av_api_Rx x),(22,oL 4 enc_bool (List.take (List.length from0) now_4++List.drop (List.length now_4) (List.replicate (List.length from0) false))),(37,vL enc_bool now_4),(43,vi most_3)]:Sta)) q) ?_ ?_
          ·rintro most_3 hj
           have h:=hJ211 most_3 hj
           refine sD kk [] [] [(46,vi 0)] obN ?_
           refine bD (id:=9) ?_
           obtain ⟨Inv224,mu225,h0Inv224,hInv224⟩:=h
           refine loD (fun (q:List Bool×List Bool×Int)=>(fun (out_6:List Bool) (now_5:List Bool) (i_9:Int)=>([(4,vS s0),(10,.ptr 11 0),(11,av_api_Rx x),(22,oL 4 enc_bool out_6),(37,vL enc_bool now_5),(43,vi most_3),(46,vi i_9)]:Sta)) q.1 q.2.1 q.2.2) (fun (q:List Bool×List Bool×Int)=>Inv224 q.1 q.2.1 q.2.2) (fun (q:List Bool×List Bool×Int)=>mu225 q.1 q.2.1 q.2.2) ((List.take (List.length from0) now_4++List.drop (List.length now_4) (List.replicate (List.length from0) false)),now_4,0) [] h0Inv224 ?_
           rintro ⟨out_6,now_5,i_9⟩ hi
           have h:=hInv224 out_6 now_5 i_9 hi
           refine qD ?_
           refine sD kk [] [] [(430,vB (decide (i_9 < most_3)))] obN ?_
           refine cD (t:=143) (b:=decide (i_9 < most_3)) (fun hb226=>?_) (fun hb226=>?_)
           ·have h:=h.1 hb226
            refine Sem.skip' (by kernel_rfl) Wk.refl ?_
            show Sem _ _ _ _ _
            refine wkD [430] ?_
            refine qD ?_
            refine bD (id:=10) ?_
            obtain ⟨h227,h⟩:=h
            obtain ⟨r0_50,hc228,h⟩:=h
            refine sD kk [.e (fv_api_Rx (List.getD (api_Rx.Kids x) (0:Nat) default)),.c (vL enc_bool r0_50) []] [] [(37,vL enc_bool r0_50)] (obC (show (0:Int)≤(0:Int) from by first | decide | rfl | trivial | (simp only [nm]<;>first | decide | rfl | omega)) (obC (show (List.map enc_api_Rx (api_Rx.Kids x))[(Int.toNat (0:Int):Nat)]?=some (fv_api_Rx (List.getD (api_Rx.Kids x) (0:Nat) default)) from by have:=idx_ok' enc_api_Rx (api_Rx.Kids x) ((0:Nat)) _ (enc_api_Rx_eq _) h227;simpa only [nm,enq,enc_api_Rx_eq] using this) (obC hc228 obN))) ?_
            refine qD ?_
            obtain ⟨r0_51,hc229,h⟩:=h
            refine sD kk [.c (vB r0_51) []] [] [(22,vL enc_bool out_6),(466,vB r0_51)] (obC (Eq.mp (by unfold C_heckleref05_within;(try simp only [List.drop_zero,List.take_length]);first | done | simp only [nm,enq]:C_heckleref05_within r0_50 out_6 r0_51=CallE Try.prog 103 [vL enc_bool r0_50,.f (FV.sl (List.take (List.length (List.map enc_bool out_6)) (List.drop (0:Nat) (List.map enc_bool out_6))))] [] (vB r0_51) []) hc229) obN) ?_
            refine cD (t:=155) (b:=r0_51) (fun hb230=>?_) (fun hb230=>?_)
            ·have h:=h.1 hb230
             refine xD (i:=9) ?_
             exact jD out_6 [] h
            ·have h:=h.2 hb230
             refine Sem.skip' (by kernel_rfl) Wk.refl ?_
             show Sem _ _ _ _ _
             refine wkD [466] ?_
             obtain ⟨r0_52,hc231,h⟩:=h
             refine rD kk [.c (oL 4 enc_bool r0_52) []] [] [(22,oL 4 enc_bool r0_52)] (obC hc231 obN) ?_
             show Sem _ _ _ _ _
             refine rD kk [] [] [(46,vi (w64 (i_9+1)))] obN ?_
             exact lD (r0_52,r0_50,(w64 (i_9+1))) [] h
           ·have h:=h.2 hb226
            refine xD (i:=9) ?_
            exact jD out_6 [(22,0)] h
          ·rcases Bool.eq_false_or_eq_true (decide (api_Rx.Hi x < (0:Int))) with hb232 | hb232
           ·have h:=h.1 hb232
            obtain ⟨h233,h⟩:=h
            obtain ⟨r0_53,hc234,h⟩:=h
            refine sD kk [.b true,.b true,.b true,.e (fv_api_Rx (List.getD (api_Rx.Kids x) (0:Nat) default)),.b true,.b true,.c (vB r0_53) [],.b true] [] [(409,vB r0_53)] (obC (gtt hb232) (obC (gtt hb232) (obC (gtt hb232) (obC (show (0:Int)≤(0:Int) from by first | decide | rfl | trivial | (simp only [nm]<;>first | decide | rfl | omega)) (obC (show (List.map enc_api_Rx (api_Rx.Kids x))[(Int.toNat (0:Int):Nat)]?=some (fv_api_Rx (List.getD (api_Rx.Kids x) (0:Nat) default)) from by have:=idx_ok' enc_api_Rx (api_Rx.Kids x) ((0:Nat)) _ (enc_api_Rx_eq _) (h233 hb232);simpa only [nm,enq,enc_api_Rx_eq] using this) (obC (gtt hb232) (obC (gtt hb232) (obC hc234 (obC hb232 obN))))))))) ?_
            refine cD (t:=136) (b:=r0_53) (fun hb235=>?_) (fun hb235=>?_)
            ·have h:=h.1 hb235
             refine rDE kk [] [409] [(43,vi (if true=true then if w64 ((1:Int) - api_Rx.Lo x) > (0:Int) then w64 ((1:Int) - api_Rx.Lo x) else (0:Int) else if w64 ((1:Int) - api_Rx.Lo x) < (0:Int) then w64 ((1:Int) - api_Rx.Lo x) else (0:Int)))] [(43,vi (if w64 ((1:Int) - api_Rx.Lo x) > (0:Int) then w64 ((1:Int) - api_Rx.Lo x) else (0:Int)))] obN ?_
             exact jD (if w64 ((1:Int) - api_Rx.Lo x) > (0:Int) then w64 ((1:Int) - api_Rx.Lo x) else (0:Int)) [] h
            ·have h:=h.2 hb235
             refine Sem.skip' (by kernel_rfl) Wk.refl ?_
             exact jD most_2 [] h
           ·have h:=h.2 hb232
            refine sD kk [.b false,.b false,.b false,.b false,.b false,.b false] [] [(409,vB false)] (obC (gtf hb232) (obC (gtf hb232) (obC (gtf hb232) (obC (gtf hb232) (obC (gtf hb232) (obC hb232 obN)))))) ?_
            refine cD (t:=136) (b:=false) (fun hb236=>?_) (fun hb236=>?_)
            ·cases hb236
            ·refine Sem.skip' (by kernel_rfl) Wk.refl ?_
             exact jD most_2 [] h
         ·refine sD kk [] [] [(373,vB (decide (api_Rx.Hi x < (0:Int))))] obN ?_
          refine cD (t:=124) (b:=decide (api_Rx.Hi x < (0:Int))) (fun hb237=>?_) (fun hb237=>?_)
          ·have h:=h.1 hb237
           refine rDE kk [] [7,373] [(43,vi ((↑(List.length (List.map enc_bool from0)):Int)))] [(43,vi ((↑(List.length from0):Int)))] obN ?_
           exact jD ((↑(List.length from0):Int)) [] h
          ·have h:=h.2 hb237
           refine Sem.skip' (by kernel_rfl) Wk.refl ?_
           exact jD (w64 (api_Rx.Hi x - api_Rx.Lo x)) [] h
      ·have h:=h.2 hb190
       refine Sem.skip' (by kernel_rfl) Wk.refl ?_
       exact jD (List.replicate (List.length from0) false) [(22,0)] h
set_option maxHeartbeats 1000000 in
theorem W_heckleref05_Ends (x:api_Rx) (s0:ByteArray) (at0:Int) (res:(List Int))
 (h:(∃ r0:Bool,C_heckleref05_May x s0 r0∧(((!r0 || (decide (at0 < (0:Int)) || decide (at0 > (↑(ByteArray.size s0):Int))))=true→(res=([])))∧((!r0 || (decide (at0 < (0:Int)) || decide (at0 > (↑(ByteArray.size s0):Int))))=false→((0:Int)≤w64 ((↑(ByteArray.size s0):Int)+1)∧w64 ((↑(ByteArray.size s0):Int)+1)≤w64 ((↑(ByteArray.size s0):Int)+1)∧w64 ((↑(ByteArray.size s0):Int)+1) < (2:Int) ^ (40:Nat)∧(↑(1:Nat):Int) * w64 ((↑(ByteArray.size s0):Int)+1)≤(2:Int) ^ (47:Nat))∧((0:Int)≤at0)∧(Int.toNat at0 < Int.toNat (w64 ((↑(ByteArray.size s0):Int)+1)))∧at0 < ↑(List.length (List.replicate (Int.toNat (w64 ((↑(ByteArray.size s0):Int)+1))) false))∧(∃ r0_1:List Bool,C_heckleref05_step x s0 (List.set (List.replicate (Int.toNat (w64 ((↑(ByteArray.size s0):Int)+1))) false) (Int.toNat at0) true) r0_1∧(∃ (Inv25:List Int→Int→Prop) (mu26:List Int→Int→Nat),Inv25 ([]) 0∧(∀ (out_1:List Int) (i:Int),Inv25 out_1 i→(((decide (i < (↑(List.length r0_1):Int)))=true→(∃ J32:List Int→Prop,(∀ (out_3:List Int),J32 out_3→(Inv25 out_3 (w64 (i+1))∧mu26 out_3 (w64 (i+1)) < mu26 out_1 i))∧((0:Int)≤i)∧i < ↑(List.length r0_1)∧(((gd r0_1 i)=true→((List.length out_1+(1:Nat)) * (8:Nat)≤(2:Nat) ^ (47:Nat))∧J32 (out_1++[i]))∧((gd r0_1 i)=false→J32 out_1))))∧((decide (i < (↑(List.length r0_1):Int)))=false→(res=out_1)))))))))):C_heckleref05_Ends x s0 at0 res:=by
 unfold C_heckleref05_Ends
 have kk:=cfOk [50] 51
 refine fD (x:=bodyOf Try.f41) kk Try.func41 ?_
 refine wkS [1,4,7] [(1,av_api_Rx x),(4,vS s0),(7,vi at0)] (by kernel_rfl) ?_
 refine sD kk [] [1] [(10,.ptr 11 0),(11,av_api_Rx x)] obN ?_
 refine qD ?_
 obtain ⟨r0,hc0,h⟩:=h
 refine sM [] [(73,vB (!r0 || (decide (at0 < (0:Int)) || decide (at0 > (↑(ByteArray.size s0):Int)))))] ?_ (fun hk0=>?_)
 ·refine cD (t:=24) (b:=!r0 || (decide (at0 < (0:Int)) || decide (at0 > (↑(ByteArray.size s0):Int)))) (fun hb3=>?_) (fun hb3=>?_)
  ·have h:=h.1 hb3
   refine sDE kk [] [4,7,10,11,73] [(19,.own 3 ([]))] [(19,oL 3 enc_i64 ([]))] obN ?_
   refine tD ?_
   obtain he0:=h
   subst res
   exact (endD [] (oL 3 enc_i64 ([])) []).1
  ·have h:=h.2 hb3
   refine Sem.skip' (by kernel_rfl) Wk.refl ?_
   show Sem _ _ _ _ _
   refine wkD [73] ?_
   obtain ⟨h4,h⟩:=h
   refine sDE kk [] [] [(22,.own 4 (List.replicate (Int.toNat (w64 ((↑(ByteArray.size s0):Int)+1))) (FV.pv (Value.bool false))))] [(22,oL 4 enc_bool (List.replicate (Int.toNat (w64 ((↑(ByteArray.size s0):Int)+1))) false))] (obC h4 obN) ?_
   obtain ⟨h5,h⟩:=h
   obtain ⟨h6,h⟩:=h
   obtain ⟨h7,h⟩:=h
   refine sDE kk [.e (fB (gd (List.replicate (Int.toNat (w64 ((↑(ByteArray.size s0):Int)+1))) false) at0))] [7] [(22,.own 4 (List.set (List.map enc_bool (List.replicate (Int.toNat (w64 ((↑(ByteArray.size s0):Int)+1))) false)) ((0:Nat)+Int.toNat at0) (FV.pv (Value.bool true))))] [(22,oL 4 enc_bool (List.set (List.replicate (Int.toNat (w64 ((↑(ByteArray.size s0):Int)+1))) false) (Int.toNat at0) true))] (obC h5 (obC (show Int.toNat at0 < List.length (List.map enc_bool (List.replicate (Int.toNat (w64 ((↑(ByteArray.size s0):Int)+1))) false)) from by simpa only [nm] using h6) (obC (show (List.map enc_bool (List.replicate (Int.toNat (w64 ((↑(ByteArray.size s0):Int)+1))) false))[((0:Nat)+Int.toNat at0:Nat)]?=some (fB (gd (List.replicate (Int.toNat (w64 ((↑(ByteArray.size s0):Int)+1))) false) at0)) from by have:=idx_ok enc_bool (List.replicate (Int.toNat (w64 ((↑(ByteArray.size s0):Int)+1))) false) at0 _ rfl h5 h7;simpa only [nm,enq,enc_bool] using this) obN))) ?_
   obtain ⟨r0_1,hc8,h⟩:=h
   refine sD kk [.c (vL enc_bool r0_1) []] [4,10,11,22] [(25,vL enc_bool r0_1)] (obC (Eq.mp (by unfold C_heckleref05_step;(try simp only [List.drop_zero,List.take_length]);first | done | simp only [nm,enq]:C_heckleref05_step x s0 (List.set (List.replicate (Int.toNat (w64 ((↑(ByteArray.size s0):Int)+1))) false) (Int.toNat at0) true) r0_1=CallE Try.prog 74 [.agg [vi (api_Rx.Kind x),vI .u64 (arr4_uint64.e0 (api_Rx.Set x)),vI .u64 (arr4_uint64.e1 (api_Rx.Set x)),vI .u64 (arr4_uint64.e2 (api_Rx.Set x)),vI .u64 (arr4_uint64.e3 (api_Rx.Set x)),vi (api_Rx.Lo x),vi (api_Rx.Hi x),vL enc_api_Rx (api_Rx.Kids x)],vS s0,.f (FV.sl (List.take (List.length (List.map enc_bool (List.set (List.replicate (Int.toNat (w64 ((↑(ByteArray.size s0):Int)+1))) false) (Int.toNat at0) true))) (List.drop (0:Nat) (List.map enc_bool (List.set (List.replicate (Int.toNat (w64 ((↑(ByteArray.size s0):Int)+1))) false) (Int.toNat at0) true)))))] [] (vL enc_bool r0_1) []) hc8) obN) ?_
   refine sDE kk [] [] [(28,.own 3 ([]))] [(28,oL 3 enc_i64 ([]))] obN ?_
   refine qD ?_
   refine sD kk [] [] [(31,vi 0)] obN ?_
   refine bD (id:=0) ?_
   obtain ⟨Inv25,mu26,h0Inv25,hInv25⟩:=h
   refine loD (fun (q:List Int×Int)=>(fun (out_1:List Int) (i:Int)=>([(25,vL enc_bool r0_1),(28,oL 3 enc_i64 out_1),(31,vi i)]:Sta)) q.1 q.2) (fun (q:List Int×Int)=>Inv25 q.1 q.2) (fun (q:List Int×Int)=>mu26 q.1 q.2) (([]),0) [] h0Inv25 ?_
   rintro ⟨out_1,i⟩ hi
   have h:=hInv25 out_1 i hi
   refine qD ?_
   refine sDE kk [] [] [(118,vB (decide (i < (↑(List.length (List.map enc_bool r0_1)):Int))))] [(118,vB (decide (i < (↑(List.length r0_1):Int))))] obN ?_
   refine cD (t:=39) (b:=decide (i < (↑(List.length r0_1):Int))) (fun hb27=>?_) (fun hb27=>?_)
   ·have h:=h.1 hb27
    refine Sem.skip' (by kernel_rfl) Wk.refl ?_
    show Sem _ _ _ _ _
    refine wkD [118] ?_
    obtain ⟨J32,hJ32,h⟩:=h
    refine sjD (fun (q:List Int)=>J32 q) (fun (q:List Int)=>(fun (out_3:List Int)=>([(25,vL enc_bool r0_1),(28,oL 3 enc_i64 out_3),(31,vi i)]:Sta)) q) ?_ ?_
    ·rintro out_3 hj
     have h:=hJ32 out_3 hj
     refine rD kk [] [] [(31,vi (w64 (i+1)))] obN ?_
     exact lD (out_3,(w64 (i+1))) [] h
    ·refine bD (id:=1) ?_
     obtain ⟨h33,h⟩:=h
     obtain ⟨h34,h⟩:=h
     refine sD kk [.e (fB (gd r0_1 i))] [] [(136,vB (gd r0_1 i))] (obC h33 (obC (idx_ok enc_bool r0_1 i _ rfl h33 h34) obN)) ?_
     refine cD (t:=45) (b:=gd r0_1 i) (fun hb35=>?_) (fun hb35=>?_)
     ·have h:=h.1 hb35
      obtain ⟨h36,h⟩:=h
      refine rDE kk [] [136] [(28,.own 3 (List.map enc_i64 out_1++List.take (List.length [FV.pv (Value.int IntKind.i64 i)]) (List.drop (0:Nat) [FV.pv (Value.int IntKind.i64 i)])))] [(28,oL 3 enc_i64 (out_1++[i]))] (obC (show (0:Nat)=(0:Nat)∧List.length (List.map enc_i64 out_1)=List.length (List.map enc_i64 out_1) from by first | decide | rfl | trivial | (simp only [nm]<;>first | decide | rfl | omega)) (obC (show (List.length (List.map enc_i64 out_1)+List.length (List.take (1:Nat) (List.drop (0:Nat) [FV.pv (Value.int IntKind.i64 i)]))) * (8:Nat)≤(2:Nat) ^ (47:Nat) from by simpa only [nm] using h36) (obC (show List.all (List.take (1:Nat) (List.drop (0:Nat) [FV.pv (Value.int IntKind.i64 i)])) (FV.fits (1:Nat))=true from by first | exact fits_i64 _ | rfl | simp [isByteF,FV.fits,FV.size,FV.cells,FV.one,]) obN))) ?_
      exact jD (out_1++[i]) [] h
     ·have h:=h.2 hb35
      refine Sem.skip' (by kernel_rfl) Wk.refl ?_
      exact jD out_1 [] h
   ·have h:=h.2 hb27
    refine xD (i:=0) ?_
    show Sem _ _ _ _ _
    refine wkD [25,31,118] ?_
    refine sD kk [] [28] [(19,oL 3 enc_i64 out_1)] obN ?_
    refine tD ?_
    obtain he0:=h
    subst res
    exact (endD [] (oL 3 enc_i64 out_1) []).1
 ·rcases Bool.eq_false_or_eq_true (!r0) with hb1 | hb1
  ·refine sD kk [.c (vB r0) [],.b false,.b false,.b true,.b false,.b false,.b false,.b false,.b true] [] [(73,vB true)] (obC hc0 (obC (gff hb1) (obC (gff hb1) (obC hb1 (obC (rfl:false=false) (obC (rfl:false=false) (obC (rfl:false=false) (obC (rfl:false=false) (obC (rfl:true=true) obN))))))))) ?_
   exact Sem.cast (by try rw [hb1];kernel_rfl) hk0
  ·rcases Bool.eq_false_or_eq_true (decide (at0 < (0:Int))) with hb2 | hb2
   ·refine sD kk [.c (vB r0) [],.b true,.b true,.b false,.b false,.b false,.b false,.b false,.b true] [] [(73,vB true)] (obC hc0 (obC (gft hb1) (obC (gft hb1) (obC hb1 (obC (gff hb2) (obC (gff hb2) (obC (gff hb2) (obC (gff hb2) (obC hb2 obN))))))))) ?_
    exact Sem.cast (by try rw [hb1];try rw [hb2];kernel_rfl) hk0
   ·refine sD kk [.c (vB r0) [],.b true,.b true,.b false,.b true,.b true,.b true,.b true,.b false] [] [(73,vB (decide (at0 > (↑(ByteArray.size s0):Int))))] (obC hc0 (obC (gft hb1) (obC (gft hb1) (obC hb1 (obC (gft hb2) (obC (gft hb2) (obC (gft hb2) (obC (gft hb2) (obC hb2 obN))))))))) ?_
    exact Sem.cast (by try rw [hb1];try rw [hb2];kernel_rfl) hk0
set_option maxHeartbeats 1000000 in
theorem W_heckleref05_Match (x:api_Rx) (s0:ByteArray) (res:Bool)
 (h:(∃ r0:List Int,C_heckleref05_Ends x s0 0 r0∧((decide ((↑(List.length (List.map enc_i64 r0)):Int) > (0:Int)))=true→((0:Int)≤w64 ((↑(List.length r0):Int) - 1)))∧((decide ((↑(List.length (List.map enc_i64 r0)):Int) > (0:Int)))=true→(Int.toNat (w64 ((↑(List.length r0):Int) - 1)) < List.length r0))∧((decide ((↑(List.length (List.map enc_i64 r0)):Int) > (0:Int)))=true→w64 ((↑(List.length r0):Int) - 1) < ↑(List.length r0))∧(res=(decide ((↑(List.length r0):Int) > (0:Int)) && gd r0 (w64 ((↑(List.length r0):Int) - 1)) == (↑(ByteArray.size s0):Int))))):C_heckleref05_Match x s0 res:=by
 unfold C_heckleref05_Match
 have kk:=cfOk [] 23
 refine fD (x:=bodyOf Try.f17) kk Try.func17 ?_
 refine wkS [1,4] [(1,av_api_Rx x),(4,vS s0)] (by kernel_rfl) ?_
 refine sD kk [] [1] [(7,.ptr 8 0),(8,av_api_Rx x)] obN ?_
 obtain ⟨r0,hc0,h⟩:=h
 refine sD kk [.c (oL 3 enc_i64 r0) []] [7,8] [(16,oL 3 enc_i64 r0)] (obC hc0 obN) ?_
 obtain ⟨h2,h3,h4,h⟩:=h
 refine sM [4,16] [(13,vB (decide ((↑(List.length (List.map enc_i64 r0)):Int) > (0:Int)) && gd r0 (w64 ((↑(List.length r0):Int) - 1)) == (↑(ByteArray.size s0):Int)))] ?_ (fun hk0=>?_)
 ·refine tD ?_
  obtain he0:=h
  subst res
  exact (endD [] (vB (decide ((↑(List.length (List.map enc_i64 r0)):Int) > (0:Int)) && gd r0 (w64 ((↑(List.length r0):Int) - 1)) == (↑(ByteArray.size s0):Int))) []).1
 ·rcases Bool.eq_false_or_eq_true (decide ((↑(List.length (List.map enc_i64 r0)):Int) > (0:Int))) with hb1 | hb1
  ·refine sD kk [.b true,.b true,.b true,.b true,.b true,.b true,.e (fi (gd r0 (w64 ((↑(List.length r0):Int) - 1)))),.b true,.b true,.b true,.b true] [4,16] [(13,vB (gd r0 (w64 ((↑(List.length r0):Int) - 1)) == (↑(ByteArray.size s0):Int)))] (obC (gtt hb1) (obC (gtt hb1) (obC (gtt hb1) (obC (gtt hb1) (obC (gtt hb1) (obC (show (0:Int)≤w64 ((↑(List.length (List.map enc_i64 r0)):Int) - 1) from by simpa only [nm] using (h2 hb1)) (obC (show Int.toNat (w64 ((↑(List.length (List.map enc_i64 r0)):Int) - 1)) < List.length (List.map enc_i64 r0) from by simpa only [nm] using (h3 hb1)) (obC (gtt hb1) (obC (show (List.map enc_i64 r0)[((0:Nat)+Int.toNat (w64 ((↑(List.length (List.map enc_i64 r0)):Int) - 1)):Nat)]?=some (fi (gd r0 (w64 ((↑(List.length r0):Int) - 1)))) from by have:=idx_ok enc_i64 r0 (w64 ((↑(List.length r0):Int) - 1)) _ rfl (h2 hb1) (h4 hb1);simpa only [nm,enq,enc_i64] using this) (obC (gtt hb1) (obC (gtt hb1) (obC (gtt hb1) (obC hb1 obN))))))))))))) ?_
   exact Sem.cast (by try rw [hb1];kernel_rfl) hk0
  ·refine sD kk [.b false,.b false,.b false,.b false,.b false,.b false,.b false,.b false,.b false,.b false] [4,16] [(13,vB false)] (obC (gtf hb1) (obC (gtf hb1) (obC (gtf hb1) (obC (gtf hb1) (obC (gtf hb1) (obC (gtf hb1) (obC (gtf hb1) (obC (gtf hb1) (obC (gtf hb1) (obC hb1 obN)))))))))) ?_
   exact Sem.cast (by try rw [hb1];kernel_rfl) hk0
end Go.Ev
set_option linter.unusedSimpArgs false
set_option linter.unusedVariables false
namespace Go.Ev
open Go Go.Proofs
set_option maxRecDepth 8000
set_option maxHeartbeats 1000000 in
theorem W_heckleref08_Head (r0:api_Rule) (text:ByteArray) (res:Int)
 (h:(((api_Rx.Kind (api_Rule.Trail r0) == 0)=true→(((!ByteArray.toList text == ByteArray.toList { data:=#[] })=true→(∃ r0_1:Bool,C_heckleref05_Match (api_Rule.Rx r0) text r0_1∧(((r0_1)=true→(res=((↑(ByteArray.size text):Int))))∧((r0_1)=false→(res=0)))))∧((!ByteArray.toList text == ByteArray.toList { data:=#[] })=false→(res=0))))∧((api_Rx.Kind (api_Rule.Trail r0) == 0)=false→(∃ (Inv21:Int→Prop) (mu22:Int→Nat),Inv21 ((↑(ByteArray.size text):Int))∧(∀ (h0:Int),Inv21 h0→(((decide (h0 > (0:Int)))=true→((0:Int)≤h0∧Int.toNat h0≤ByteArray.size text)∧(∃ r0_6:Bool,C_heckleref05_Match (api_Rule.Rx r0) (ByteArray.extract text (0:Nat) (Int.toNat h0)) r0_6∧(((r0_6)=true→((r0_6)=true→((0:Int)≤h0∧Int.toNat h0≤ByteArray.size text))∧(∃ r0_7:Bool,C_heckleref05_Match (api_Rule.Trail r0) (ByteArray.extract text (Int.toNat h0) (ByteArray.size text)) r0_7∧(((r0_7)=true→(res=h0))∧((r0_7)=false→(Inv21 (w64 (h0 - 1))∧mu22 (w64 (h0 - 1)) < mu22 h0)))))∧((r0_6)=false→(Inv21 (w64 (h0 - 1))∧mu22 (w64 (h0 - 1)) < mu22 h0)))))∧((decide (h0 > (0:Int)))=false→(res=0)))))))):C_heckleref08_Head r0 text res:=by
 unfold C_heckleref08_Head
 have kk:=cfOk [40] 41
 refine fD (x:=bodyOf Try.f33) kk Try.func33 ?_
 refine wkS [1,4] [(1,av_api_Rule r0),(4,vS text)] (by kernel_rfl) ?_
 refine sD kk [] [1] [(7,.ptr 8 0),(8,av_api_Rule r0)] obN ?_
 refine qD ?_
 refine sD kk [] [] [(28,vB (api_Rx.Kind (api_Rule.Trail r0) == 0))] obN ?_
 refine cD (t:=9) (b:=api_Rx.Kind (api_Rule.Trail r0) == 0) (fun hb0=>?_) (fun hb0=>?_)
 ·have h:=h.1 hb0
  refine qD ?_
  rcases Bool.eq_false_or_eq_true (!ByteArray.toList text == ByteArray.toList { data:=#[] }) with hb1 | hb1
  ·have h:=h.1 hb1
   obtain ⟨r0_1,hc2,h⟩:=h
   refine sD kk [.b true,.b true,.b true,.b true,.c (vB r0_1) [],.b true] [7,8,28] [(52,vB r0_1)] (obC (gtt hb1) (obC (gtt hb1) (obC (gtt hb1) (obC (gtt hb1) (obC hc2 (obC hb1 obN)))))) ?_
   refine cD (t:=17) (b:=r0_1) (fun hb3=>?_) (fun hb3=>?_)
   ·have h:=h.1 hb3
    refine sD kk [] [4,52] [(13,vi ((↑(ByteArray.size text):Int)))] obN ?_
    refine tD ?_
    obtain he0:=h
    subst res
    exact (endD [] (vi ((↑(ByteArray.size text):Int))) []).1
   ·have h:=h.2 hb3
    refine Sem.skip' (by kernel_rfl) Wk.refl ?_
    show Sem _ _ _ _ _
    refine wkD [4,52] ?_
    refine sD kk [] [] [(13,vi 0)] obN ?_
    refine tD ?_
    obtain he0:=h
    subst res
    exact (endD [] (vi 0) []).1
  ·have h:=h.2 hb1
   refine sD kk [.b false,.b false,.b false,.b false,.b false] [7,8,28] [(52,vB false)] (obC (gtf hb1) (obC (gtf hb1) (obC (gtf hb1) (obC (gtf hb1) (obC hb1 obN))))) ?_
   refine cD (t:=17) (b:=false) (fun hb4=>?_) (fun hb4=>?_)
   ·cases hb4
   ·refine Sem.skip' (by kernel_rfl) Wk.refl ?_
    show Sem _ _ _ _ _
    refine wkD [4,52] ?_
    refine sD kk [] [] [(13,vi 0)] obN ?_
    refine tD ?_
    obtain he0:=h
    subst res
    exact (endD [] (vi 0) []).1
 ·have h:=h.2 hb0
  refine Sem.skip' (by kernel_rfl) Wk.refl ?_
  show Sem _ _ _ _ _
  refine wkD [28] ?_
  refine qD ?_
  refine sD kk [] [] [(16,vi ((↑(ByteArray.size text):Int)))] obN ?_
  refine bD (id:=0) ?_
  obtain ⟨Inv21,mu22,h0Inv21,hInv21⟩:=h
  refine loD (fun (q:Int)=>(fun (h0:Int)=>([(4,vS text),(7,.ptr 8 0),(8,av_api_Rule r0),(16,vi h0)]:Sta)) q) (fun (q:Int)=>Inv21 q) (fun (q:Int)=>mu22 q) ((↑(ByteArray.size text):Int)) [] h0Inv21 ?_
  rintro h0 hi
  have h:=hInv21 h0 hi
  refine qD ?_
  refine sD kk [] [] [(70,vB (decide (h0 > (0:Int))))] obN ?_
  refine cD (t:=23) (b:=decide (h0 > (0:Int))) (fun hb23=>?_) (fun hb23=>?_)
  ·have h:=h.1 hb23
   refine Sem.skip' (by kernel_rfl) Wk.refl ?_
   show Sem _ _ _ _ _
   refine wkD [70] ?_
   refine qD ?_
   refine bD (id:=1) ?_
   obtain ⟨h24,h⟩:=h
   obtain ⟨r0_6,hc25,h⟩:=h
   rcases Bool.eq_false_or_eq_true (r0_6) with hb26 | hb26
   ·have h:=h.1 hb26
    obtain ⟨h27,h⟩:=h
    obtain ⟨r0_7,hc28,h⟩:=h
    refine sD kk [.c (vB r0_6) [],.b true,.b true,.b true,.b true,.b true,.b true,.c (vB r0_7) [],.b true] [] [(118,vB r0_7)] (obC (show True∧(0:Int)≤h0∧(0:Nat)≤Int.toNat h0∧Int.toNat h0≤ByteArray.size text from by simpa only [nm] using h24) (obC hc25 (obC (gtt hb26) (obC (gtt hb26) (obC (gtt hb26) (obC (gtt hb26) (obC (gtt hb26) (obC (show (0:Int)≤h0∧True∧Int.toNat h0≤ByteArray.size text∧ByteArray.size text≤ByteArray.size text from by simpa only [nm] using (h27 hb26)) (obC (gtt hb26) (obC hc28 (obC hb26 obN))))))))))) ?_
    refine cD (t:=39) (b:=r0_7) (fun hb29=>?_) (fun hb29=>?_)
    ·have h:=h.1 hb29
     refine sD kk [] [4,7,8,16,118] [(13,vi h0)] obN ?_
     refine tD ?_
     obtain he0:=h
     subst res
     exact (endD [] (vi h0) []).1
    ·have h:=h.2 hb29
     refine Sem.skip' (by kernel_rfl) Wk.refl ?_
     show Sem _ _ _ _ _
     refine wkD [118] ?_
     refine rD kk [] [] [(16,vi (w64 (h0 - 1)))] obN ?_
     exact lD (w64 (h0 - 1)) [] h
   ·have h:=h.2 hb26
    refine sD kk [.c (vB r0_6) [],.b false,.b false,.b false,.b false,.b false,.b false,.b false] [] [(118,vB false)] (obC (show True∧(0:Int)≤h0∧(0:Nat)≤Int.toNat h0∧Int.toNat h0≤ByteArray.size text from by simpa only [nm] using h24) (obC hc25 (obC (gtf hb26) (obC (gtf hb26) (obC (gtf hb26) (obC (gtf hb26) (obC (gtf hb26) (obC (gtf hb26) (obC hb26 obN))))))))) ?_
    refine cD (t:=39) (b:=false) (fun hb30=>?_) (fun hb30=>?_)
    ·cases hb30
    ·refine Sem.skip' (by kernel_rfl) Wk.refl ?_
     show Sem _ _ _ _ _
     refine wkD [118] ?_
     refine rD kk [] [] [(16,vi (w64 (h0 - 1)))] obN ?_
     exact lD (w64 (h0 - 1)) [] h
  ·have h:=h.2 hb23
   refine xD (i:=0) ?_
   show Sem _ _ _ _ _
   refine wkD [4,7,8,16,70] ?_
   refine sD kk [] [] [(13,vi 0)] obN ?_
   refine tD ?_
   obtain he0:=h
   subst res
   exact (endD [] (vi 0) []).1
set_option maxHeartbeats 1000000 in
theorem W_heckleref15_Split (r0:api_Rule) (text:ByteArray) (res:Int)
 (h:(((decide ((↑(ByteArray.size text):Int) > (10000:Int)))=true→(res=0))∧((decide ((↑(ByteArray.size text):Int) > (10000:Int)))=false→(∃ r0_1:Int,C_heckleref08_Head r0 text r0_1∧(res=r0_1))))):C_heckleref15_Split r0 text res:=by
 unfold C_heckleref15_Split
 have kk:=cfOk [] 11
 refine fD (x:=bodyOf Try.f11) kk Try.func11 ?_
 refine wkS [1,4] [(1,av_api_Rule r0),(4,vS text)] (by kernel_rfl) ?_
 refine sD kk [] [1] [(7,.ptr 8 0),(8,av_api_Rule r0)] obN ?_
 refine qD ?_
 refine sD kk [] [] [(22,vB (decide ((↑(ByteArray.size text):Int) > (10000:Int))))] obN ?_
 refine cD (t:=7) (b:=decide ((↑(ByteArray.size text):Int) > (10000:Int))) (fun hb0=>?_) (fun hb0=>?_)
 ·have h:=h.1 hb0
  refine sD kk [] [4,7,8,22] [(13,vi 0)] obN ?_
  refine tD ?_
  obtain he0:=h
  subst res
  exact (endD [] (vi 0) []).1
 ·have h:=h.2 hb0
  refine Sem.skip' (by kernel_rfl) Wk.refl ?_
  show Sem _ _ _ _ _
  refine wkD [22] ?_
  obtain ⟨r0_1,hc1,h⟩:=h
  refine sD kk [.c (vi r0_1) []] [4,7,8] [(13,vi r0_1)] (obC hc1 obN) ?_
  refine tD ?_
  obtain he0:=h
  subst res
  exact (endD [] (vi r0_1) []).1
set_option maxHeartbeats 1000000 in
theorem W_hecklelaw15_char (b:Int) (res:api_Rx)
 (h:(∃ r0:arr4_uint64,C_heckleref01_Of b b r0∧(res=({ Kind:=(2:Int),Set:=r0,Lo:=(0:Int),Hi:=(0:Int),Kids:=[] })))):C_hecklelaw15_char b res:=by
 unfold C_hecklelaw15_char
 have kk:=cfOk [] 7
 refine fD (x:=bodyOf Try.f34) kk Try.func34 ?_
 refine wkS [1] [(1,vi b)] (by kernel_rfl) ?_
 refine sDE kk [] [] [(7,.ptr 8 0),(8,.agg [vi 0,vI .u64 0,vI .u64 0,vI .u64 0,vI .u64 0,vi 0,vi 0,.own 36 ([])])] [(7,.ptr 8 0),(8,.agg [vi 0,vI .u64 0,vI .u64 0,vI .u64 0,vI .u64 0,vi 0,vi 0,oL 36 enc_api_Rx ([])])] obN ?_
 obtain ⟨r0,hc0,h⟩:=h
 refine sDE kk [.c (av_arr4_uint64 r0) []] [1] [(8,.agg [vi 2,vI .u64 (arr4_uint64.e0 r0),vI .u64 (arr4_uint64.e1 r0),vI .u64 (arr4_uint64.e2 r0),vI .u64 (arr4_uint64.e3 r0),vi 0,vi 0,.own 36 ([])])] [(8,.agg [vi 2,vI .u64 (arr4_uint64.e0 r0),vI .u64 (arr4_uint64.e1 r0),vI .u64 (arr4_uint64.e2 r0),vI .u64 (arr4_uint64.e3 r0),vi 0,vi 0,oL 36 enc_api_Rx ([])])] (obC hc0 obN) ?_
 refine tD ?_
 obtain he0:=h
 subst res
 exact (endD [] (.agg [vi 2,vI .u64 (arr4_uint64.e0 r0),vI .u64 (arr4_uint64.e1 r0),vI .u64 (arr4_uint64.e2 r0),vI .u64 (arr4_uint64.e3 r0),vi 0,vi 0,oL 36 enc_api_Rx ([])]) []).1
set_option maxHeartbeats 1000000 in
theorem W_split_Reverse (x:api_Rx) (res:api_Rx) (res_1:Int)
 (h:(∃ r0:Bool,C_rx_Right x r0∧(((!r0)=true→(res=({ Kind:=(0:Int),Set:={ e0:=(0:Int),e1:=(0:Int),e2:=(0:Int),e3:=(0:Int) },Lo:=(0:Int),Hi:=(0:Int),Kids:=[] })∧res_1=1))∧((!r0)=false→(∃ r0_1:api_Rx,C_split_reverse x r0_1∧(res=r0_1∧res_1=0)))))):C_split_Reverse x res res_1:=by
 unfold C_split_Reverse
 have kk:=cfOk [] 10
 refine fD (x:=bodyOf Try.f14) kk Try.func14 ?_
 refine wkS [1] [(1,av_api_Rx x)] (by kernel_rfl) ?_
 refine sDE kk [] [1] [(4,.ptr 5 0),(5,av_api_Rx x),(7,.ptr 8 0),(8,.agg [vi 0,vI .u64 0,vI .u64 0,vI .u64 0,vI .u64 0,vi 0,vi 0,.own 36 ([])])] [(4,.ptr 5 0),(5,av_api_Rx x),(7,.ptr 8 0),(8,.agg [vi 0,vI .u64 0,vI .u64 0,vI .u64 0,vI .u64 0,vi 0,vi 0,oL 36 enc_api_Rx ([])])] obN ?_
 refine qD ?_
 obtain ⟨r0,hc0,h⟩:=h
 refine sD kk [.c (vB r0) []] [] [(19,vB (!r0))] (obC hc0 obN) ?_
 refine cD (t:=6) (b:=!r0) (fun hb1=>?_) (fun hb1=>?_)
 ·have h:=h.1 hb1
  refine sDE kk [] [4,5,19] [(8,.agg [vi 0,vI .u64 0,vI .u64 0,vI .u64 0,vI .u64 0,vi 0,vi 0,.own 36 ([])]),(10,vi 1)] [(8,.agg [vi 0,vI .u64 0,vI .u64 0,vI .u64 0,vI .u64 0,vi 0,vi 0,oL 36 enc_api_Rx ([])]),(10,vi 1)] obN ?_
  refine tD ?_
  obtain ⟨he0,he1⟩:=h
  subst res res_1
  exact (endD [] (.tup [.agg [vi 0,vI .u64 0,vI .u64 0,vI .u64 0,vI .u64 0,vi 0,vi 0,.f (FV.sl (List.take (List.length (List.map enc_api_Rx [])) (List.drop (0:Nat) (List.map enc_api_Rx []))))],vi 1]) []).1
 ·have h:=h.2 hb1
  refine Sem.skip' (by kernel_rfl) Wk.refl ?_
  show Sem _ _ _ _ _
  refine wkD [19] ?_
  obtain ⟨r0_1,hc2,h⟩:=h
  refine sD kk [.c (av_api_Rx r0_1) []] [4,5] [(8,av_api_Rx r0_1),(10,vi 0)] (obC hc2 obN) ?_
  refine tD ?_
  obtain ⟨he0,he1⟩:=h
  subst res res_1
  exact (endD [] (.tup [av_api_Rx r0_1,vi 0]) []).1
set_option maxHeartbeats 1000000 in
theorem W_heckleref01_Runs (a:arr4_uint64) (res:(List arr2_int))
 (h:(∃ (Inv32:List arr2_int→Int→Prop) (mu33:List arr2_int→Int→Nat),Inv32 ([]) 0∧(∀ (out_1:List arr2_int) (i:Int),Inv32 out_1 i→(((decide (i < (256:Int)))=true→(∃ J46:List arr2_int→Prop,(∀ (out_3:List arr2_int),J46 out_3→(Inv32 out_3 (w64 (i+1))∧mu33 out_3 (w64 (i+1)) < mu33 out_1 i))∧(∃ r0_8:Bool,C_heckleref01_Has a i r0_8∧(((!r0_8)=true→J46 out_1)∧((!r0_8)=false→(((decide (i > (0:Int)))=true→(∃ r0_9:Bool,C_heckleref01_Has a (w64 (i - 1)) r0_9∧(((r0_9)=true→((0:Int)≤w64 ((↑(List.length out_1):Int) - 1))∧(Int.toNat (w64 ((↑(List.length out_1):Int) - 1)) < List.length out_1)∧w64 ((↑(List.length out_1):Int) - 1) < ↑(List.length out_1)∧J46 (List.set out_1 (Int.toNat (w64 ((↑(List.length out_1):Int) - 1))) { e0:=arr2_int.e0 (gd out_1 (w64 ((↑(List.length out_1):Int) - 1))),e1:=i }))∧((r0_9)=false→((List.length out_1+(1:Nat)) * (16:Nat)≤(2:Nat) ^ (47:Nat))∧J46 (out_1++[{ e0:=i,e1:=i }])))))∧((decide (i > (0:Int)))=false→((List.length out_1+(1:Nat)) * (16:Nat)≤(2:Nat) ^ (47:Nat))∧J46 (out_1++[{ e0:=i,e1:=i }]))))))))∧((decide (i < (256:Int)))=false→(res=out_1)))))):C_heckleref01_Runs a res:=by
 unfold C_heckleref01_Runs
 have kk:=cfOk [34] 35
 refine fD (x:=bodyOf Try.f98) kk Try.func98 ?_
 refine wkS [1] [(1,av_arr4_uint64 a)] (by kernel_rfl) ?_
 refine sD kk [] [1] [(4,.ptr 5 0),(5,av_arr4_uint64 a)] obN ?_
 refine sDE kk [] [] [(10,.own 145 ([]))] [(10,oL 145 enc_arr2_int ([]))] obN ?_
 refine qD ?_
 refine sD kk [] [] [(13,vi 0)] obN ?_
 refine bD (id:=0) ?_
 obtain ⟨Inv32,mu33,h0Inv32,hInv32⟩:=h
 refine loD (fun (q:List arr2_int×Int)=>(fun (out_1:List arr2_int) (i:Int)=>([(4,.ptr 5 0),(5,av_arr4_uint64 a),(10,oL 145 enc_arr2_int out_1),(13,vi i)]:Sta)) q.1 q.2) (fun (q:List arr2_int×Int)=>Inv32 q.1 q.2) (fun (q:List arr2_int×Int)=>mu33 q.1 q.2) (([]),0) [] h0Inv32 ?_
 rintro ⟨out_1,i⟩ hi
 have h:=hInv32 out_1 i hi
 refine qD ?_
 refine sD kk [] [] [(19,vB (decide (i < (256:Int))))] obN ?_
 refine cD (t:=6) (b:=decide (i < (256:Int))) (fun hb34=>?_) (fun hb34=>?_)
 ·have h:=h.1 hb34
  refine Sem.skip' (by kernel_rfl) Wk.refl ?_
  show Sem _ _ _ _ _
  refine wkD [19] ?_
  obtain ⟨J46,hJ46,h⟩:=h
  refine sjD (fun (q:List arr2_int)=>J46 q) (fun (q:List arr2_int)=>(fun (out_3:List arr2_int)=>([(4,.ptr 5 0),(5,av_arr4_uint64 a),(10,oL 145 enc_arr2_int out_3),(13,vi i)]:Sta)) q) ?_ ?_
  ·rintro out_3 hj
   have h:=hJ46 out_3 hj
   refine rD kk [] [] [(13,vi (w64 (i+1)))] obN ?_
   exact lD (out_3,(w64 (i+1))) [] h
  ·refine bD (id:=1) ?_
   refine qD ?_
   obtain ⟨r0_8,hc47,h⟩:=h
   refine sD kk [.c (vB r0_8) []] [] [(37,vB (!r0_8))] (obC hc47 obN) ?_
   refine cD (t:=12) (b:=!r0_8) (fun hb48=>?_) (fun hb48=>?_)
   ·have h:=h.1 hb48
    refine xD (i:=1) ?_
    exact jD out_1 [] h
   ·have h:=h.2 hb48
    refine Sem.skip' (by kernel_rfl) Wk.refl ?_
    show Sem _ _ _ _ _
    refine wkD [37] ?_
    refine qD ?_
    rcases Bool.eq_false_or_eq_true (decide (i > (0:Int))) with hb49 | hb49
    ·have h:=h.1 hb49
     obtain ⟨r0_9,hc50,h⟩:=h
     refine sD kk [.b true,.b true,.b true,.b true,.c (vB r0_9) [],.b true] [] [(61,vB r0_9)] (obC (gtt hb49) (obC (gtt hb49) (obC (gtt hb49) (obC (gtt hb49) (obC hc50 (obC hb49 obN)))))) ?_
     refine cD (t:=20) (b:=r0_9) (fun hb51=>?_) (fun hb51=>?_)
     ·have h:=h.1 hb51
      obtain ⟨h52,h⟩:=h
      obtain ⟨h53,h⟩:=h
      obtain ⟨h54,h⟩:=h
      refine sDE kk [.e (fv_arr2_int (gd out_1 (w64 ((↑(List.length out_1):Int) - 1))))] [61] [(10,.own 145 (List.set (List.map enc_arr2_int out_1) ((0:Nat)+Int.toNat (w64 ((↑(List.length (List.map enc_arr2_int out_1)):Int) - 1))) (FV.agg [FV.pv (Value.int IntKind.i64 (arr2_int.e0 (gd out_1 (w64 ((↑(List.length out_1):Int) - 1))))),FV.pv (Value.int IntKind.i64 i)])))] [(10,oL 145 enc_arr2_int (List.set out_1 (Int.toNat (w64 ((↑(List.length out_1):Int) - 1))) { e0:=arr2_int.e0 (gd out_1 (w64 ((↑(List.length out_1):Int) - 1))),e1:=i }))] (obC (show (0:Int)≤w64 ((↑(List.length (List.map enc_arr2_int out_1)):Int) - 1) from by simpa only [nm] using h52) (obC (show Int.toNat (w64 ((↑(List.length (List.map enc_arr2_int out_1)):Int) - 1)) < List.length (List.map enc_arr2_int out_1) from by simpa only [nm] using h53) (obC (show (List.map enc_arr2_int out_1)[((0:Nat)+Int.toNat (w64 ((↑(List.length (List.map enc_arr2_int out_1)):Int) - 1)):Nat)]?=some (fv_arr2_int (gd out_1 (w64 ((↑(List.length out_1):Int) - 1)))) from by have:=idx_ok enc_arr2_int out_1 (w64 ((↑(List.length out_1):Int) - 1)) _ (enc_arr2_int_eq _) h52 h54;simpa only [nm,enq,enc_arr2_int_eq] using this) obN))) ?_
      refine xD (i:=1) ?_
      exact jD (List.set out_1 (Int.toNat (w64 ((↑(List.length out_1):Int) - 1))) { e0:=arr2_int.e0 (gd out_1 (w64 ((↑(List.length out_1):Int) - 1))),e1:=i }) [] h
     ·have h:=h.2 hb51
      refine Sem.skip' (by kernel_rfl) Wk.refl ?_
      show Sem _ _ _ _ _
      refine wkD [61] ?_
      obtain ⟨h55,h⟩:=h
      refine rDE kk [] [] [(10,.own 145 (List.map enc_arr2_int out_1++List.take (List.length [FV.agg [FV.pv (Value.int IntKind.i64 i),FV.pv (Value.int IntKind.i64 i)]]) (List.drop (0:Nat) [FV.agg [FV.pv (Value.int IntKind.i64 i),FV.pv (Value.int IntKind.i64 i)]])))] [(10,oL 145 enc_arr2_int (out_1++[{ e0:=i,e1:=i }]))] (obC (show (0:Nat)=(0:Nat)∧List.length (List.map enc_arr2_int out_1)=List.length (List.map enc_arr2_int out_1) from by first | decide | rfl | trivial | (simp only [nm]<;>first | decide | rfl | omega)) (obC (show (List.length (List.map enc_arr2_int out_1)+List.length (List.take (1:Nat) (List.drop (0:Nat) [FV.agg [FV.pv (Value.int IntKind.i64 i),FV.pv (Value.int IntKind.i64 i)]]))) * (16:Nat)≤(2:Nat) ^ (47:Nat) from by simpa only [nm] using h55) (obC (show List.all (List.take (1:Nat) (List.drop (0:Nat) [FV.agg [FV.pv (Value.int IntKind.i64 i),FV.pv (Value.int IntKind.i64 i)]])) (FV.fits (2:Nat))=true from by first | exact fits_i64 _ | rfl | simp [isByteF,FV.fits,FV.size,FV.cells,FV.one,]) obN))) ?_
      exact jD (out_1++[{ e0:=i,e1:=i }]) [] h
    ·have h:=h.2 hb49
     refine sD kk [.b false,.b false,.b false,.b false,.b false] [] [(61,vB false)] (obC (gtf hb49) (obC (gtf hb49) (obC (gtf hb49) (obC (gtf hb49) (obC hb49 obN))))) ?_
     refine cD (t:=20) (b:=false) (fun hb56=>?_) (fun hb56=>?_)
     ·cases hb56
     ·refine Sem.skip' (by kernel_rfl) Wk.refl ?_
      show Sem _ _ _ _ _
      refine wkD [61] ?_
      obtain ⟨h57,h⟩:=h
      refine rDE kk [] [] [(10,.own 145 (List.map enc_arr2_int out_1++List.take (List.length [FV.agg [FV.pv (Value.int IntKind.i64 i),FV.pv (Value.int IntKind.i64 i)]]) (List.drop (0:Nat) [FV.agg [FV.pv (Value.int IntKind.i64 i),FV.pv (Value.int IntKind.i64 i)]])))] [(10,oL 145 enc_arr2_int (out_1++[{ e0:=i,e1:=i }]))] (obC (show (0:Nat)=(0:Nat)∧List.length (List.map enc_arr2_int out_1)=List.length (List.map enc_arr2_int out_1) from by first | decide | rfl | trivial | (simp only [nm]<;>first | decide | rfl | omega)) (obC (show (List.length (List.map enc_arr2_int out_1)+List.length (List.take (1:Nat) (List.drop (0:Nat) [FV.agg [FV.pv (Value.int IntKind.i64 i),FV.pv (Value.int IntKind.i64 i)]]))) * (16:Nat)≤(2:Nat) ^ (47:Nat) from by simpa only [nm] using h57) (obC (show List.all (List.take (1:Nat) (List.drop (0:Nat) [FV.agg [FV.pv (Value.int IntKind.i64 i),FV.pv (Value.int IntKind.i64 i)]])) (FV.fits (2:Nat))=true from by first | exact fits_i64 _ | rfl | simp [isByteF,FV.fits,FV.size,FV.cells,FV.one,]) obN))) ?_
      exact jD (out_1++[{ e0:=i,e1:=i }]) [] h
 ·have h:=h.2 hb34
  refine xD (i:=0) ?_
  show Sem _ _ _ _ _
  refine wkD [4,5,13,19] ?_
  refine sD kk [] [10] [(7,oL 145 enc_arr2_int out_1)] obN ?_
  refine tD ?_
  obtain he0:=h
  subst res
  exact (endD [] (oL 145 enc_arr2_int out_1) []).1
set_option maxHeartbeats 1000000 in
theorem W_heckleref03_Plain (b:Int) (res:Bool)
 (h:(res=(bif decide (b≥(97:Int)) then decide (b≤(122:Int)) || bif decide (b≥(65:Int)) then decide (b≤(90:Int)) || decide (b≥(48:Int)) && decide (b≤(57:Int)) else decide (b≥(48:Int)) && decide (b≤(57:Int)) else bif decide (b≥(65:Int)) then decide (b≤(90:Int)) || decide (b≥(48:Int)) && decide (b≤(57:Int)) else decide (b≥(48:Int)) && decide (b≤(57:Int))))):C_heckleref03_Plain b res:=by
 unfold C_heckleref03_Plain
 have kk:=cfOk [] 25
 refine fD (x:=bodyOf Try.f118) kk Try.func118 ?_
 refine wkS [1] [(1,vi b)] (by kernel_rfl) ?_
 refine sD kk [] [] [] obN ?_
 refine sM [1] [(7,vB (bif decide (b≥(97:Int)) then decide (b≤(122:Int)) || bif decide (b≥(65:Int)) then decide (b≤(90:Int)) || decide (b≥(48:Int)) && decide (b≤(57:Int)) else decide (b≥(48:Int)) && decide (b≤(57:Int)) else bif decide (b≥(65:Int)) then decide (b≤(90:Int)) || decide (b≥(48:Int)) && decide (b≤(57:Int)) else decide (b≥(48:Int)) && decide (b≤(57:Int))))] ?_ (fun hk0=>?_)
 ·refine tD ?_
  obtain he0:=h
  subst res
  exact (endD [] (vB (bif decide (b≥(97:Int)) then decide (b≤(122:Int)) || bif decide (b≥(65:Int)) then decide (b≤(90:Int)) || decide (b≥(48:Int)) && decide (b≤(57:Int)) else decide (b≥(48:Int)) && decide (b≤(57:Int)) else bif decide (b≥(65:Int)) then decide (b≤(90:Int)) || decide (b≥(48:Int)) && decide (b≤(57:Int)) else decide (b≥(48:Int)) && decide (b≤(57:Int)))) []).1
 ·rcases Bool.eq_false_or_eq_true (decide (b≥(97:Int))) with hb0 | hb0
  ·rcases Bool.eq_false_or_eq_true (decide (b≤(122:Int))) with hb1 | hb1
   ·refine sD kk [.b true,.b true,.b true,.b false,.b false,.b false,.b false,.b true,.b false,.b false,.b false,.b false,.b true] [1] [(7,vB true)] (obC (gtt hb0) (obC (gtt hb0) (obC hb0 (obC (gff hb1) (obC (gff hb1) (obC (gff hb1) (obC (gff hb1) (obC hb1 (obC (rfl:false=false) (obC (rfl:false=false) (obC (rfl:false=false) (obC (rfl:false=false) (obC (rfl:true=true) obN))))))))))))) ?_
    exact Sem.cast (by try rw [hb0];try rw [hb1];kernel_rfl) hk0
   ·rcases Bool.eq_false_or_eq_true (decide (b≥(65:Int))) with hb2 | hb2
    ·rcases Bool.eq_false_or_eq_true (decide (b≤(90:Int))) with hb3 | hb3
     ·refine sD kk [.b true,.b true,.b true,.b true,.b true,.b true,.b true,.b true,.b true,.b true,.b false,.b false,.b false,.b false,.b false,.b true] [1] [(7,vB true)] (obC (gtt hb0) (obC (gtt hb0) (obC hb0 (obC (gft hb1) (obC (gft hb1) (obC (gft hb1) (obC (gtt hb2) (obC (gtt hb2) (obC (gft hb1) (obC hb2 (obC hb1 (obC (gff hb3) (obC (gff hb3) (obC (gff hb3) (obC (gff hb3) (obC hb3 obN)))))))))))))))) ?_
      exact Sem.cast (by try rw [hb0];try rw [hb1];try rw [hb2];try rw [hb3];kernel_rfl) hk0
     ·rcases Bool.eq_false_or_eq_true (decide (b≥(48:Int))) with hb4 | hb4
      ·refine sD kk [.b true,.b true,.b true,.b true,.b true,.b true,.b true,.b true,.b true,.b true,.b false,.b true,.b true,.b true,.b true,.b true,.b true,.b true,.b false] [1] [(7,vB (decide (b≤(57:Int))))] (obC (gtt hb0) (obC (gtt hb0) (obC hb0 (obC (gft hb1) (obC (gft hb1) (obC (gft hb1) (obC (gtt hb2) (obC (gtt hb2) (obC (gft hb1) (obC hb2 (obC hb1 (obC (gft hb3) (obC (gft hb3) (obC (gft hb3) (obC (gtt hb4) (obC (gtt hb4) (obC (gft hb3) (obC hb4 (obC hb3 obN))))))))))))))))))) ?_
       exact Sem.cast (by try rw [hb0];try rw [hb1];try rw [hb2];try rw [hb3];try rw [hb4];kernel_rfl) hk0
      ·refine sD kk [.b true,.b true,.b true,.b true,.b true,.b true,.b true,.b true,.b true,.b true,.b false,.b true,.b true,.b true,.b false,.b false,.b true,.b false,.b false] [1] [(7,vB false)] (obC (gtt hb0) (obC (gtt hb0) (obC hb0 (obC (gft hb1) (obC (gft hb1) (obC (gft hb1) (obC (gtt hb2) (obC (gtt hb2) (obC (gft hb1) (obC hb2 (obC hb1 (obC (gft hb3) (obC (gft hb3) (obC (gft hb3) (obC (gtf hb4) (obC (gtf hb4) (obC (gft hb3) (obC hb4 (obC hb3 obN))))))))))))))))))) ?_
       exact Sem.cast (by try rw [hb0];try rw [hb1];try rw [hb2];try rw [hb3];try rw [hb4];kernel_rfl) hk0
    ·rcases Bool.eq_false_or_eq_true (decide (b≥(48:Int))) with hb5 | hb5
     ·refine sD kk [.b true,.b true,.b true,.b true,.b true,.b true,.b false,.b false,.b true,.b false,.b false,.b true,.b true,.b true,.b true,.b true,.b true,.b true,.b false] [1] [(7,vB (decide (b≤(57:Int))))] (obC (gtt hb0) (obC (gtt hb0) (obC hb0 (obC (gft hb1) (obC (gft hb1) (obC (gft hb1) (obC (gtf hb2) (obC (gtf hb2) (obC (gft hb1) (obC hb2 (obC hb1 (obC (rfl:true=true) (obC (rfl:true=true) (obC (rfl:true=true) (obC (gtt hb5) (obC (gtt hb5) (obC (rfl:true=true) (obC hb5 (obC (rfl:false=false) obN))))))))))))))))))) ?_
      exact Sem.cast (by try rw [hb0];try rw [hb1];try rw [hb2];try rw [hb5];kernel_rfl) hk0
     ·refine sD kk [.b true,.b true,.b true,.b true,.b true,.b true,.b false,.b false,.b true,.b false,.b false,.b true,.b true,.b true,.b false,.b false,.b true,.b false,.b false] [1] [(7,vB false)] (obC (gtt hb0) (obC (gtt hb0) (obC hb0 (obC (gft hb1) (obC (gft hb1) (obC (gft hb1) (obC (gtf hb2) (obC (gtf hb2) (obC (gft hb1) (obC hb2 (obC hb1 (obC (rfl:true=true) (obC (rfl:true=true) (obC (rfl:true=true) (obC (gtf hb5) (obC (gtf hb5) (obC (rfl:true=true) (obC hb5 (obC (rfl:false=false) obN))))))))))))))))))) ?_
      exact Sem.cast (by try rw [hb0];try rw [hb1];try rw [hb2];try rw [hb5];kernel_rfl) hk0
  ·rcases Bool.eq_false_or_eq_true (decide (b≥(65:Int))) with hb6 | hb6
   ·rcases Bool.eq_false_or_eq_true (decide (b≤(90:Int))) with hb7 | hb7
    ·refine sD kk [.b false,.b false,.b false,.b true,.b true,.b true,.b true,.b true,.b true,.b true,.b false,.b false,.b false,.b false,.b false,.b true] [1] [(7,vB true)] (obC (gtf hb0) (obC (gtf hb0) (obC hb0 (obC (rfl:true=true) (obC (rfl:true=true) (obC (rfl:true=true) (obC (gtt hb6) (obC (gtt hb6) (obC (rfl:true=true) (obC hb6 (obC (rfl:false=false) (obC (gff hb7) (obC (gff hb7) (obC (gff hb7) (obC (gff hb7) (obC hb7 obN)))))))))))))))) ?_
     exact Sem.cast (by try rw [hb0];try rw [hb6];try rw [hb7];kernel_rfl) hk0
    ·rcases Bool.eq_false_or_eq_true (decide (b≥(48:Int))) with hb8 | hb8
     ·refine sD kk [.b false,.b false,.b false,.b true,.b true,.b true,.b true,.b true,.b true,.b true,.b false,.b true,.b true,.b true,.b true,.b true,.b true,.b true,.b false] [1] [(7,vB (decide (b≤(57:Int))))] (obC (gtf hb0) (obC (gtf hb0) (obC hb0 (obC (rfl:true=true) (obC (rfl:true=true) (obC (rfl:true=true) (obC (gtt hb6) (obC (gtt hb6) (obC (rfl:true=true) (obC hb6 (obC (rfl:false=false) (obC (gft hb7) (obC (gft hb7) (obC (gft hb7) (obC (gtt hb8) (obC (gtt hb8) (obC (gft hb7) (obC hb8 (obC hb7 obN))))))))))))))))))) ?_
      exact Sem.cast (by try rw [hb0];try rw [hb6];try rw [hb7];try rw [hb8];kernel_rfl) hk0
     ·refine sD kk [.b false,.b false,.b false,.b true,.b true,.b true,.b true,.b true,.b true,.b true,.b false,.b true,.b true,.b true,.b false,.b false,.b true,.b false,.b false] [1] [(7,vB false)] (obC (gtf hb0) (obC (gtf hb0) (obC hb0 (obC (rfl:true=true) (obC (rfl:true=true) (obC (rfl:true=true) (obC (gtt hb6) (obC (gtt hb6) (obC (rfl:true=true) (obC hb6 (obC (rfl:false=false) (obC (gft hb7) (obC (gft hb7) (obC (gft hb7) (obC (gtf hb8) (obC (gtf hb8) (obC (gft hb7) (obC hb8 (obC hb7 obN))))))))))))))))))) ?_
      exact Sem.cast (by try rw [hb0];try rw [hb6];try rw [hb7];try rw [hb8];kernel_rfl) hk0
   ·rcases Bool.eq_false_or_eq_true (decide (b≥(48:Int))) with hb9 | hb9
    ·refine sD kk [.b false,.b false,.b false,.b true,.b true,.b true,.b false,.b false,.b true,.b false,.b false,.b true,.b true,.b true,.b true,.b true,.b true,.b true,.b false] [1] [(7,vB (decide (b≤(57:Int))))] (obC (gtf hb0) (obC (gtf hb0) (obC hb0 (obC (rfl:true=true) (obC (rfl:true=true) (obC (rfl:true=true) (obC (gtf hb6) (obC (gtf hb6) (obC (rfl:true=true) (obC hb6 (obC (rfl:false=false) (obC (rfl:true=true) (obC (rfl:true=true) (obC (rfl:true=true) (obC (gtt hb9) (obC (gtt hb9) (obC (rfl:true=true) (obC hb9 (obC (rfl:false=false) obN))))))))))))))))))) ?_
     exact Sem.cast (by try rw [hb0];try rw [hb6];try rw [hb9];kernel_rfl) hk0
    ·refine sD kk [.b false,.b false,.b false,.b true,.b true,.b true,.b false,.b false,.b true,.b false,.b false,.b true,.b true,.b true,.b false,.b false,.b true,.b false,.b false] [1] [(7,vB false)] (obC (gtf hb0) (obC (gtf hb0) (obC hb0 (obC (rfl:true=true) (obC (rfl:true=true) (obC (rfl:true=true) (obC (gtf hb6) (obC (gtf hb6) (obC (rfl:true=true) (obC hb6 (obC (rfl:false=false) (obC (rfl:true=true) (obC (rfl:true=true) (obC (rfl:true=true) (obC (gtf hb9) (obC (gtf hb9) (obC (rfl:true=true) (obC hb9 (obC (rfl:false=false) obN))))))))))))))))))) ?_
     exact Sem.cast (by try rw [hb0];try rw [hb6];try rw [hb9];kernel_rfl) hk0
set_option maxHeartbeats 1000000 in
theorem W_heckleref03_char (b:Int) (res:ByteArray)
 (h:(∃ r0:Bool,C_heckleref03_Plain b r0∧(((r0)=true→(res=(bytesT (List.take (1:Nat) (List.drop (0:Nat) [FV.pv (Value.int IntKind.u8 (IntKind.wrap IntKind.u8 b))])))))∧((r0)=false→((0:Int)≤w64 (Int.tdiv b (16:Int)))∧w64 (Int.tdiv b (16:Int)) < ↑(ByteArray.size ({ data:=#[(48:UInt8),(49:UInt8),(50:UInt8),(51:UInt8),(52:UInt8),(53:UInt8),(54:UInt8),(55:UInt8),(56:UInt8),(57:UInt8),(97:UInt8),(98:UInt8),(99:UInt8),(100:UInt8),(101:UInt8),(102:UInt8)] }))∧((0:Int)≤Int.tmod b (16:Int))∧Int.tmod b (16:Int) < ↑(ByteArray.size ({ data:=#[(48:UInt8),(49:UInt8),(50:UInt8),(51:UInt8),(52:UInt8),(53:UInt8),(54:UInt8),(55:UInt8),(56:UInt8),(57:UInt8),(97:UInt8),(98:UInt8),(99:UInt8),(100:UInt8),(101:UInt8),(102:UInt8)] }))∧((↑(ByteArray.size { data:=#[(92:UInt8),(120:UInt8)] }+ByteArray.size (bytesT [FV.pv (Value.int IntKind.u8 (↑(UInt8.toNat (byteAt { data:=#[(48:UInt8),(49:UInt8),(50:UInt8),(51:UInt8),(52:UInt8),(53:UInt8),(54:UInt8),(55:UInt8),(56:UInt8),(57:UInt8),(97:UInt8),(98:UInt8),(99:UInt8),(100:UInt8),(101:UInt8),(102:UInt8)] } (w64 (Int.tdiv b (16:Int))))):Int)),FV.pv (Value.int IntKind.u8 (↑(UInt8.toNat (byteAt { data:=#[(48:UInt8),(49:UInt8),(50:UInt8),(51:UInt8),(52:UInt8),(53:UInt8),(54:UInt8),(55:UInt8),(56:UInt8),(57:UInt8),(97:UInt8),(98:UInt8),(99:UInt8),(100:UInt8),(101:UInt8),(102:UInt8)] } (Int.tmod b (16:Int)))):Int))])):Int)≤IntKind.max IntKind.i64)∧(res=({ data:=#[(92:UInt8),(120:UInt8)] }++bytesT (List.take (2:Nat) (List.drop (0:Nat) [FV.pv (Value.int IntKind.u8 (↑(UInt8.toNat (byteAt { data:=#[(48:UInt8),(49:UInt8),(50:UInt8),(51:UInt8),(52:UInt8),(53:UInt8),(54:UInt8),(55:UInt8),(56:UInt8),(57:UInt8),(97:UInt8),(98:UInt8),(99:UInt8),(100:UInt8),(101:UInt8),(102:UInt8)] } (w64 (Int.tdiv b (16:Int))))):Int)),FV.pv (Value.int IntKind.u8 (↑(UInt8.toNat (byteAt { data:=#[(48:UInt8),(49:UInt8),(50:UInt8),(51:UInt8),(52:UInt8),(53:UInt8),(54:UInt8),(55:UInt8),(56:UInt8),(57:UInt8),(97:UInt8),(98:UInt8),(99:UInt8),(100:UInt8),(101:UInt8),(102:UInt8)] } (Int.tmod b (16:Int)))):Int))])))))))):C_heckleref03_char b res:=by
 unfold C_heckleref03_char
 have kk:=cfOk [] 18
 refine fD (x:=bodyOf Try.f99) kk Try.func99 ?_
 refine wkS [1] [(1,vi b)] (by kernel_rfl) ?_
 refine sD kk [] [] [] obN ?_
 refine qD ?_
 obtain ⟨r0,hc0,h⟩:=h
 refine sD kk [.c (vB r0) []] [] [(13,vB r0)] (obC hc0 obN) ?_
 refine cD (t:=4) (b:=r0) (fun hb1=>?_) (fun hb1=>?_)
 ·have h:=h.1 hb1
  refine sD kk [] [1,13] [(7,vS (bytesT (List.take (1:Nat) (List.drop (0:Nat) [FV.pv (Value.int IntKind.u8 (IntKind.wrap IntKind.u8 b))]))))] (obC (show List.all (List.take (1:Nat) (List.drop (0:Nat) [FV.pv (Value.int IntKind.u8 (IntKind.wrap IntKind.u8 b))])) isByteF=true from by first | exact fits_u8 _ | rfl | simp [isByteF,FV.fits,FV.size,FV.cells,FV.one,]) obN) ?_
  refine tD ?_
  obtain he0:=h
  subst res
  exact (endD [] (vS (bytesT (List.take (1:Nat) (List.drop (0:Nat) [FV.pv (Value.int IntKind.u8 (IntKind.wrap IntKind.u8 b))])))) []).1
 ·have h:=h.2 hb1
  refine Sem.skip' (by kernel_rfl) Wk.refl ?_
  show Sem _ _ _ _ _
  refine wkD [13] ?_
  obtain ⟨h2,h⟩:=h
  obtain ⟨h3,h⟩:=h
  obtain ⟨h4,h⟩:=h
  obtain ⟨h5,h⟩:=h
  obtain ⟨h6,h⟩:=h
  refine sD kk [.y (byteAt ({ data:=#[(48:UInt8),(49:UInt8),(50:UInt8),(51:UInt8),(52:UInt8),(53:UInt8),(54:UInt8),(55:UInt8),(56:UInt8),(57:UInt8),(97:UInt8),(98:UInt8),(99:UInt8),(100:UInt8),(101:UInt8),(102:UInt8)] }) (w64 (Int.tdiv b (16:Int)))),.y (byteAt ({ data:=#[(48:UInt8),(49:UInt8),(50:UInt8),(51:UInt8),(52:UInt8),(53:UInt8),(54:UInt8),(55:UInt8),(56:UInt8),(57:UInt8),(97:UInt8),(98:UInt8),(99:UInt8),(100:UInt8),(101:UInt8),(102:UInt8)] }) (Int.tmod b (16:Int)))] [1] [(7,vS ({ data:=#[(92:UInt8),(120:UInt8)] }++bytesT (List.take (2:Nat) (List.drop (0:Nat) [FV.pv (Value.int IntKind.u8 (↑(UInt8.toNat (byteAt { data:=#[(48:UInt8),(49:UInt8),(50:UInt8),(51:UInt8),(52:UInt8),(53:UInt8),(54:UInt8),(55:UInt8),(56:UInt8),(57:UInt8),(97:UInt8),(98:UInt8),(99:UInt8),(100:UInt8),(101:UInt8),(102:UInt8)] } (w64 (Int.tdiv b (16:Int))))):Int)),FV.pv (Value.int IntKind.u8 (↑(UInt8.toNat (byteAt { data:=#[(48:UInt8),(49:UInt8),(50:UInt8),(51:UInt8),(52:UInt8),(53:UInt8),(54:UInt8),(55:UInt8),(56:UInt8),(57:UInt8),(97:UInt8),(98:UInt8),(99:UInt8),(100:UInt8),(101:UInt8),(102:UInt8)] } (Int.tmod b (16:Int)))):Int))]))))] (obC (show (16:Int)≠(0:Int) from by first | decide | rfl | trivial | (simp only [nm]<;>first | decide | rfl | omega)) (obC h2 (obC (byte_ok ({ data:=#[(48:UInt8),(49:UInt8),(50:UInt8),(51:UInt8),(52:UInt8),(53:UInt8),(54:UInt8),(55:UInt8),(56:UInt8),(57:UInt8),(97:UInt8),(98:UInt8),(99:UInt8),(100:UInt8),(101:UInt8),(102:UInt8)] }) (w64 (Int.tdiv b (16:Int))) h2 h3) (obC (show (16:Int)≠(0:Int) from by first | decide | rfl | trivial | (simp only [nm]<;>first | decide | rfl | omega)) (obC h4 (obC (byte_ok ({ data:=#[(48:UInt8),(49:UInt8),(50:UInt8),(51:UInt8),(52:UInt8),(53:UInt8),(54:UInt8),(55:UInt8),(56:UInt8),(57:UInt8),(97:UInt8),(98:UInt8),(99:UInt8),(100:UInt8),(101:UInt8),(102:UInt8)] }) (Int.tmod b (16:Int)) h4 h5) (obC (show List.all (List.take (2:Nat) (List.drop (0:Nat) [FV.pv (Value.int IntKind.u8 (↑(UInt8.toNat (byteAt { data:=#[(48:UInt8),(49:UInt8),(50:UInt8),(51:UInt8),(52:UInt8),(53:UInt8),(54:UInt8),(55:UInt8),(56:UInt8),(57:UInt8),(97:UInt8),(98:UInt8),(99:UInt8),(100:UInt8),(101:UInt8),(102:UInt8)] } (w64 (Int.tdiv b (16:Int))))):Int)),FV.pv (Value.int IntKind.u8 (↑(UInt8.toNat (byteAt { data:=#[(48:UInt8),(49:UInt8),(50:UInt8),(51:UInt8),(52:UInt8),(53:UInt8),(54:UInt8),(55:UInt8),(56:UInt8),(57:UInt8),(97:UInt8),(98:UInt8),(99:UInt8),(100:UInt8),(101:UInt8),(102:UInt8)] } (Int.tmod b (16:Int)))):Int))])) isByteF=true from by first | exact fits_u8 _ | rfl | simp [isByteF,FV.fits,FV.size,FV.cells,FV.one,]) (obC (show (↑(ByteArray.size { data:=#[(92:UInt8),(120:UInt8)] }+ByteArray.size (bytesT (List.take (2:Nat) (List.drop (0:Nat) [FV.pv (Value.int IntKind.u8 (↑(UInt8.toNat (byteAt { data:=#[(48:UInt8),(49:UInt8),(50:UInt8),(51:UInt8),(52:UInt8),(53:UInt8),(54:UInt8),(55:UInt8),(56:UInt8),(57:UInt8),(97:UInt8),(98:UInt8),(99:UInt8),(100:UInt8),(101:UInt8),(102:UInt8)] } (w64 (Int.tdiv b (16:Int))))):Int)),FV.pv (Value.int IntKind.u8 (↑(UInt8.toNat (byteAt { data:=#[(48:UInt8),(49:UInt8),(50:UInt8),(51:UInt8),(52:UInt8),(53:UInt8),(54:UInt8),(55:UInt8),(56:UInt8),(57:UInt8),(97:UInt8),(98:UInt8),(99:UInt8),(100:UInt8),(101:UInt8),(102:UInt8)] } (Int.tmod b (16:Int)))):Int))])))):Int)≤IntKind.max IntKind.i64 from by simpa only [nm] using h6) obN)))))))) ?_
  refine tD ?_
  obtain he0:=h
  subst res
  exact (endD [] (vS ({ data:=#[(92:UInt8),(120:UInt8)] }++bytesT (List.take (2:Nat) (List.drop (0:Nat) [FV.pv (Value.int IntKind.u8 (↑(UInt8.toNat (byteAt { data:=#[(48:UInt8),(49:UInt8),(50:UInt8),(51:UInt8),(52:UInt8),(53:UInt8),(54:UInt8),(55:UInt8),(56:UInt8),(57:UInt8),(97:UInt8),(98:UInt8),(99:UInt8),(100:UInt8),(101:UInt8),(102:UInt8)] } (w64 (Int.tdiv b (16:Int))))):Int)),FV.pv (Value.int IntKind.u8 (↑(UInt8.toNat (byteAt { data:=#[(48:UInt8),(49:UInt8),(50:UInt8),(51:UInt8),(52:UInt8),(53:UInt8),(54:UInt8),(55:UInt8),(56:UInt8),(57:UInt8),(97:UInt8),(98:UInt8),(99:UInt8),(100:UInt8),(101:UInt8),(102:UInt8)] } (Int.tmod b (16:Int)))):Int))])))) []).1
set_option maxHeartbeats 1000000 in
theorem W_heckleref03_bytes (s0:arr4_uint64) (res:ByteArray)
 (h:(∃ r0:List arr2_int,C_heckleref01_Runs s0 r0∧(((↑(List.length (List.map enc_arr2_int r0)):Int) == 1)=true→((0:Nat) < List.length r0))∧(((↑(List.length (List.map enc_arr2_int r0)):Int) == 1)=true→(0:Nat) < List.length r0)∧(((↑(List.length (List.map enc_arr2_int r0)):Int) == 1)=true→((0:Nat) < List.length r0))∧(((↑(List.length (List.map enc_arr2_int r0)):Int) == 1)=true→(0:Nat) < List.length r0)∧((((↑(List.length (List.map enc_arr2_int r0)):Int) == 1 && arr2_int.e0 (List.getD r0 (0:Nat) default) == arr2_int.e1 (List.getD r0 (0:Nat) default))=true→((0:Nat) < List.length r0)∧(0:Nat) < List.length r0∧(∃ r0_1:ByteArray,C_heckleref03_char (arr2_int.e0 (List.getD r0 (0:Nat) default)) r0_1∧(res=r0_1)))∧(((↑(List.length (List.map enc_arr2_int r0)):Int) == 1 && arr2_int.e0 (List.getD r0 (0:Nat) default) == arr2_int.e1 (List.getD r0 (0:Nat) default))=false→(∃ (Inv78:ByteArray→Int→Prop) (mu79:ByteArray→Int→Nat),Inv78 ({ data:=#[(91:UInt8)] }) 0∧(∀ (out_1:ByteArray) (i:Int),Inv78 out_1 i→(((decide (i < (↑(List.length r0):Int)))=true→(∃ J99:ByteArray→Prop,(∀ (out_3:ByteArray),J99 out_3→(Inv78 out_3 (w64 (i+1))∧mu79 out_3 (w64 (i+1)) < mu79 out_1 i))∧((0:Int)≤i)∧(Int.toNat i < List.length r0)∧i < ↑(List.length r0)∧(∃ r0_12:ByteArray,C_heckleref03_char (arr2_int.e0 (gd r0 i)) r0_12∧((↑(ByteArray.size out_1+ByteArray.size r0_12):Int)≤IntKind.max IntKind.i64)∧((0:Int)≤i)∧(Int.toNat i < List.length r0)∧i < ↑(List.length r0)∧((0:Int)≤i)∧(Int.toNat i < List.length r0)∧i < ↑(List.length r0)∧(((decide (arr2_int.e1 (gd r0 i) > arr2_int.e0 (gd r0 i)))=true→((↑(ByteArray.size (out_1++r0_12)+ByteArray.size { data:=#[(45:UInt8)] }):Int)≤IntKind.max IntKind.i64)∧((0:Int)≤i)∧(Int.toNat i < List.length r0)∧i < ↑(List.length r0)∧(∃ r0_13:ByteArray,C_heckleref03_char (arr2_int.e1 (gd r0 i)) r0_13∧((↑(ByteArray.size (out_1++r0_12++{ data:=#[(45:UInt8)] })+ByteArray.size r0_13):Int)≤IntKind.max IntKind.i64)∧J99 (out_1++r0_12++{ data:=#[(45:UInt8)] }++r0_13)))∧((decide (arr2_int.e1 (gd r0 i) > arr2_int.e0 (gd r0 i)))=false→J99 (out_1++r0_12))))))∧((decide (i < (↑(List.length r0):Int)))=false→((↑(ByteArray.size out_1+ByteArray.size { data:=#[(93:UInt8)] }):Int)≤IntKind.max IntKind.i64)∧(res=(out_1++{ data:=#[(93:UInt8)] })))))))))):C_heckleref03_bytes s0 res:=by
 unfold C_heckleref03_bytes
 have kk:=cfOk [] 63
 refine fD (x:=bodyOf Try.f68) kk Try.func68 ?_
 refine wkS [1] [(1,av_arr4_uint64 s0)] (by kernel_rfl) ?_
 refine sD kk [] [1] [(4,.ptr 5 0),(5,av_arr4_uint64 s0)] obN ?_
 obtain ⟨r0,hc0,h⟩:=h
 refine sD kk [.c (oL 145 enc_arr2_int r0) []] [4,5] [(10,oL 145 enc_arr2_int r0)] (obC hc0 obN) ?_
 refine qD ?_
 obtain ⟨h2,h3,h4,h5,h⟩:=h
 refine sM [] [(64,vB ((↑(List.length (List.map enc_arr2_int r0)):Int) == 1 && arr2_int.e0 (List.getD r0 (0:Nat) default) == arr2_int.e1 (List.getD r0 (0:Nat) default)))] ?_ (fun hk0=>?_)
 ·refine cD (t:=21) (b:=(↑(List.length (List.map enc_arr2_int r0)):Int) == 1 && arr2_int.e0 (List.getD r0 (0:Nat) default) == arr2_int.e1 (List.getD r0 (0:Nat) default)) (fun hb6=>?_) (fun hb6=>?_)
  ·have h:=h.1 hb6
   obtain ⟨h7,h⟩:=h
   obtain ⟨h8,h⟩:=h
   obtain ⟨r0_1,hc9,h⟩:=h
   refine sD kk [.e (fv_arr2_int (List.getD r0 (0:Nat) default)),.c (vS r0_1) []] [10,64] [(7,vS r0_1)] (obC (show (0:Int)≤(0:Int) from by first | decide | rfl | trivial | (simp only [nm]<;>first | decide | rfl | omega)) (obC (show Int.toNat (0:Int) < List.length (List.map enc_arr2_int r0) from by simpa only [nm] using h7) (obC (idx_ok' enc_arr2_int r0 ((0:Nat)) _ (enc_arr2_int_eq _) h8) (obC hc9 obN)))) ?_
   refine tD ?_
   obtain he0:=h
   subst res
   exact (endD [] (vS r0_1) []).1
  ·have h:=h.2 hb6
   refine Sem.skip' (by kernel_rfl) Wk.refl ?_
   show Sem _ _ _ _ _
   refine wkD [64] ?_
   refine sD kk [] [] [(13,vS ({ data:=#[(91:UInt8)] }))] obN ?_
   refine qD ?_
   refine sD kk [] [] [(16,vi 0)] obN ?_
   refine bD (id:=0) ?_
   obtain ⟨Inv78,mu79,h0Inv78,hInv78⟩:=h
   refine loD (fun (q:ByteArray×Int)=>(fun (out_1:ByteArray) (i:Int)=>([(10,oL 145 enc_arr2_int r0),(13,vS out_1),(16,vi i)]:Sta)) q.1 q.2) (fun (q:ByteArray×Int)=>Inv78 q.1 q.2) (fun (q:ByteArray×Int)=>mu79 q.1 q.2) (({ data:=#[(91:UInt8)] }),0) [] h0Inv78 ?_
   rintro ⟨out_1,i⟩ hi
   have h:=hInv78 out_1 i hi
   refine qD ?_
   refine sDE kk [] [] [(91,vB (decide (i < (↑(List.length (List.map enc_arr2_int r0)):Int))))] [(91,vB (decide (i < (↑(List.length r0):Int))))] obN ?_
   refine cD (t:=30) (b:=decide (i < (↑(List.length r0):Int))) (fun hb80=>?_) (fun hb80=>?_)
   ·have h:=h.1 hb80
    refine Sem.skip' (by kernel_rfl) Wk.refl ?_
    show Sem _ _ _ _ _
    refine wkD [91] ?_
    obtain ⟨J99,hJ99,h⟩:=h
    refine sjD (fun (q:ByteArray)=>J99 q) (fun (q:ByteArray)=>(fun (out_3:ByteArray)=>([(10,oL 145 enc_arr2_int r0),(13,vS out_3),(16,vi i)]:Sta)) q) ?_ ?_
    ·rintro out_3 hj
     have h:=hJ99 out_3 hj
     refine rD kk [] [] [(16,vi (w64 (i+1)))] obN ?_
     exact lD (out_3,(w64 (i+1))) [] h
    ·refine bD (id:=1) ?_
     obtain ⟨h100,h⟩:=h
     obtain ⟨h101,h⟩:=h
     obtain ⟨h102,h⟩:=h
     obtain ⟨r0_12,hc103,h⟩:=h
     obtain ⟨h104,h⟩:=h
     refine sD kk [.e (fv_arr2_int (gd r0 i)),.c (vS r0_12) []] [] [(13,vS (out_1++r0_12))] (obC h100 (obC (show Int.toNat i < List.length (List.map enc_arr2_int r0) from by simpa only [nm] using h101) (obC (show (List.map enc_arr2_int r0)[((0:Nat)+Int.toNat i:Nat)]?=some (fv_arr2_int (gd r0 i)) from by have:=idx_ok enc_arr2_int r0 i _ (enc_arr2_int_eq _) h100 h102;simpa only [nm,enq,enc_arr2_int_eq] using this) (obC hc103 (obC h104 obN))))) ?_
     obtain ⟨h105,h⟩:=h
     obtain ⟨h106,h⟩:=h
     obtain ⟨h107,h⟩:=h
     obtain ⟨h108,h⟩:=h
     obtain ⟨h109,h⟩:=h
     obtain ⟨h110,h⟩:=h
     refine sD kk [.e (fv_arr2_int (gd r0 i)),.e (fv_arr2_int (gd r0 i))] [] [(154,vB (decide (arr2_int.e1 (gd r0 i) > arr2_int.e0 (gd r0 i))))] (obC h105 (obC (show Int.toNat i < List.length (List.map enc_arr2_int r0) from by simpa only [nm] using h106) (obC (show (List.map enc_arr2_int r0)[((0:Nat)+Int.toNat i:Nat)]?=some (fv_arr2_int (gd r0 i)) from by have:=idx_ok enc_arr2_int r0 i _ (enc_arr2_int_eq _) h105 h107;simpa only [nm,enq,enc_arr2_int_eq] using this) (obC h108 (obC (show Int.toNat i < List.length (List.map enc_arr2_int r0) from by simpa only [nm] using h109) (obC (show (List.map enc_arr2_int r0)[((0:Nat)+Int.toNat i:Nat)]?=some (fv_arr2_int (gd r0 i)) from by have:=idx_ok enc_arr2_int r0 i _ (enc_arr2_int_eq _) h108 h110;simpa only [nm,enq,enc_arr2_int_eq] using this) obN)))))) ?_
     refine cD (t:=51) (b:=decide (arr2_int.e1 (gd r0 i) > arr2_int.e0 (gd r0 i))) (fun hb111=>?_) (fun hb111=>?_)
     ·have h:=h.1 hb111
      obtain ⟨h112,h⟩:=h
      obtain ⟨h113,h⟩:=h
      obtain ⟨h114,h⟩:=h
      obtain ⟨h115,h⟩:=h
      obtain ⟨r0_13,hc116,h⟩:=h
      obtain ⟨h117,h⟩:=h
      refine rD kk [.e (fv_arr2_int (gd r0 i)),.c (vS r0_13) []] [154] [(13,vS (out_1++r0_12++{ data:=#[(45:UInt8)] }++r0_13))] (obC h112 (obC h113 (obC (show Int.toNat i < List.length (List.map enc_arr2_int r0) from by simpa only [nm] using h114) (obC (show (List.map enc_arr2_int r0)[((0:Nat)+Int.toNat i:Nat)]?=some (fv_arr2_int (gd r0 i)) from by have:=idx_ok enc_arr2_int r0 i _ (enc_arr2_int_eq _) h113 h115;simpa only [nm,enq,enc_arr2_int_eq] using this) (obC hc116 (obC h117 obN)))))) ?_
      exact jD (out_1++r0_12++{ data:=#[(45:UInt8)] }++r0_13) [] h
     ·have h:=h.2 hb111
      refine Sem.skip' (by kernel_rfl) Wk.refl ?_
      exact jD (out_1++r0_12) [] h
   ·have h:=h.2 hb80
    refine xD (i:=0) ?_
    show Sem _ _ _ _ _
    refine wkD [10,16,91] ?_
    obtain ⟨h118,h⟩:=h
    refine sD kk [] [13] [(7,vS (out_1++{ data:=#[(93:UInt8)] }))] (obC h118 obN) ?_
    refine tD ?_
    obtain he0:=h
    subst res
    exact (endD [] (vS (out_1++{ data:=#[(93:UInt8)] })) []).1
 ·rcases Bool.eq_false_or_eq_true ((↑(List.length (List.map enc_arr2_int r0)):Int) == 1) with hb1 | hb1
  ·refine sD kk [.b true,.b true,.b true,.b true,.e (fv_arr2_int (List.getD r0 (0:Nat) default)),.b true,.b true,.b true,.b true,.e (fv_arr2_int (List.getD r0 (0:Nat) default)),.b true,.b true] [] [(64,vB (arr2_int.e0 (List.getD r0 (0:Nat) default) == arr2_int.e1 (List.getD r0 (0:Nat) default)))] (obC (gtt hb1) (obC (gtt hb1) (obC (show (0:Int)≤(0:Int) from by first | decide | rfl | trivial | (simp only [nm]<;>first | decide | rfl | omega)) (obC (show Int.toNat (0:Int) < List.length (List.map enc_arr2_int r0) from by simpa only [nm] using (h2 hb1)) (obC (gtt hb1) (obC (gtt hb1) (obC (idx_ok' enc_arr2_int r0 ((0:Nat)) _ (enc_arr2_int_eq _) (h3 hb1)) (obC (gtt hb1) (obC (gtt hb1) (obC (show (0:Int)≤(0:Int) from by first | decide | rfl | trivial | (simp only [nm]<;>first | decide | rfl | omega)) (obC (show Int.toNat (0:Int) < List.length (List.map enc_arr2_int r0) from by simpa only [nm] using (h4 hb1)) (obC (gtt hb1) (obC (gtt hb1) (obC (idx_ok' enc_arr2_int r0 ((0:Nat)) _ (enc_arr2_int_eq _) (h5 hb1)) (obC (gtt hb1) (obC hb1 obN)))))))))))))))) ?_
   exact Sem.cast (by try rw [hb1];kernel_rfl) hk0
  ·refine sD kk [.b false,.b false,.b false,.b false,.b false,.b false,.b false,.b false,.b false,.b false] [] [(64,vB false)] (obC (gtf hb1) (obC (gtf hb1) (obC (gtf hb1) (obC (gtf hb1) (obC (gtf hb1) (obC (gtf hb1) (obC (gtf hb1) (obC (gtf hb1) (obC (gtf hb1) (obC hb1 obN)))))))))) ?_
   exact Sem.cast (by try rw [hb1];kernel_rfl) hk0
set_option maxHeartbeats 1000000 in
theorem W_heckleref03_in (x:api_Rx) (alone:Bool) (res:ByteArray)
 (h:(((alone)=true→(∃ r0:ByteArray,C_heckleref03_Text x r0∧((↑(ByteArray.size { data:=#[(40:UInt8)] }+ByteArray.size r0):Int)≤IntKind.max IntKind.i64)∧((↑(ByteArray.size ({ data:=#[(40:UInt8)] }++r0)+ByteArray.size { data:=#[(41:UInt8)] }):Int)≤IntKind.max IntKind.i64)∧(res=({ data:=#[(40:UInt8)] }++r0++{ data:=#[(41:UInt8)] }))))∧((alone)=false→(∃ r0_1:ByteArray,C_heckleref03_Text x r0_1∧(res=r0_1))))):C_heckleref03_in x alone res:=by
 unfold C_heckleref03_in
 have kk:=cfOk [] 12
 refine fD (x:=bodyOf Try.f69) kk Try.func69 ?_
 refine wkS [1,4] [(1,av_api_Rx x),(4,vB alone)] (by kernel_rfl) ?_
 refine sD kk [] [1] [(7,.ptr 8 0),(8,av_api_Rx x)] obN ?_
 refine qD ?_
 refine sD kk [] [4] [(16,vB alone)] obN ?_
 refine cD (t:=5) (b:=alone) (fun hb0=>?_) (fun hb0=>?_)
 ·have h:=h.1 hb0
  obtain ⟨r0,hc1,h⟩:=h
  obtain ⟨h2,h⟩:=h
  obtain ⟨h3,h⟩:=h
  refine sD kk [.c (vS r0) []] [7,8,16] [(13,vS ({ data:=#[(40:UInt8)] }++r0++{ data:=#[(41:UInt8)] }))] (obC hc1 (obC h2 (obC h3 obN))) ?_
  refine tD ?_
  obtain he0:=h
  subst res
  exact (endD [] (vS ({ data:=#[(40:UInt8)] }++r0++{ data:=#[(41:UInt8)] })) []).1
 ·have h:=h.2 hb0
  refine Sem.skip' (by kernel_rfl) Wk.refl ?_
  show Sem _ _ _ _ _
  refine wkD [16] ?_
  obtain ⟨r0_1,hc4,h⟩:=h
  refine sD kk [.c (vS r0_1) []] [7,8] [(13,vS r0_1)] (obC hc4 obN) ?_
  refine tD ?_
  obtain he0:=h
  subst res
  exact (endD [] (vS r0_1) []).1
set_option maxHeartbeats 1000000 in
theorem W_heckleref03_Digits (n:Int) (res:ByteArray)
 (h:(((decide (n < (10:Int)))=true→(res=(bytesT (List.take (1:Nat) (List.drop (0:Nat) [FV.pv (Value.int IntKind.u8 (IntKind.wrap IntKind.u8 (w64 ((48:Int)+Int.tmod n (10:Int)))))])))))∧((decide (n < (10:Int)))=false→(∃ r0:ByteArray,C_heckleref03_Digits (w64 (Int.tdiv n (10:Int))) r0∧((↑(ByteArray.size r0+ByteArray.size (bytesT [FV.pv (Value.int IntKind.u8 (IntKind.wrap IntKind.u8 (w64 ((48:Int)+Int.tmod n (10:Int)))))])):Int)≤IntKind.max IntKind.i64)∧(res=(r0++bytesT (List.take (1:Nat) (List.drop (0:Nat) [FV.pv (Value.int IntKind.u8 (IntKind.wrap IntKind.u8 (w64 ((48:Int)+Int.tmod n (10:Int)))))])))))))):C_heckleref03_Digits n res:=by
 unfold C_heckleref03_Digits
 have kk:=cfOk [12] 18
 refine fD (x:=bodyOf Try.f70) kk Try.func70 ?_
 refine wkS [1] [(1,vi n)] (by kernel_rfl) ?_
 refine sD kk [] [] [] obN ?_
 refine sD kk [] [] [(10,vS (bytesT (List.take (1:Nat) (List.drop (0:Nat) [FV.pv (Value.int IntKind.u8 (IntKind.wrap IntKind.u8 (w64 ((48:Int)+Int.tmod n (10:Int)))))]))))] (obC (show (10:Int)≠(0:Int) from by first | decide | rfl | trivial | (simp only [nm]<;>first | decide | rfl | omega)) (obC (show List.all (List.take (1:Nat) (List.drop (0:Nat) [FV.pv (Value.int IntKind.u8 (IntKind.wrap IntKind.u8 (w64 ((48:Int)+Int.tmod n (10:Int)))))])) isByteF=true from by first | exact fits_u8 _ | rfl | simp [isByteF,FV.fits,FV.size,FV.cells,FV.one,]) obN)) ?_
 refine qD ?_
 refine sD kk [] [] [(34,vB (decide (n < (10:Int))))] obN ?_
 refine cD (t:=11) (b:=decide (n < (10:Int))) (fun hb0=>?_) (fun hb0=>?_)
 ·have h:=h.1 hb0
  refine sD kk [] [1,10,34] [(7,vS (bytesT (List.take (1:Nat) (List.drop (0:Nat) [FV.pv (Value.int IntKind.u8 (IntKind.wrap IntKind.u8 (w64 ((48:Int)+Int.tmod n (10:Int)))))]))))] obN ?_
  refine tD ?_
  obtain he0:=h
  subst res
  exact (endD [] (vS (bytesT (List.take (1:Nat) (List.drop (0:Nat) [FV.pv (Value.int IntKind.u8 (IntKind.wrap IntKind.u8 (w64 ((48:Int)+Int.tmod n (10:Int)))))])))) []).1
 ·have h:=h.2 hb0
  refine Sem.skip' (by kernel_rfl) Wk.refl ?_
  show Sem _ _ _ _ _
  refine wkD [34] ?_
  obtain ⟨r0,hc1,h⟩:=h
  obtain ⟨h2,h⟩:=h
  refine sD kk [.c (vS r0) []] [1,10] [(7,vS (r0++bytesT (List.take (1:Nat) (List.drop (0:Nat) [FV.pv (Value.int IntKind.u8 (IntKind.wrap IntKind.u8 (w64 ((48:Int)+Int.tmod n (10:Int)))))]))))] (obC (show (10:Int)≠(0:Int) from by first | decide | rfl | trivial | (simp only [nm]<;>first | decide | rfl | omega)) (obC hc1 (obC (show (↑(ByteArray.size r0+ByteArray.size (bytesT (List.take (1:Nat) (List.drop (0:Nat) [FV.pv (Value.int IntKind.u8 (IntKind.wrap IntKind.u8 (w64 ((48:Int)+Int.tmod n (10:Int)))))])))):Int)≤IntKind.max IntKind.i64 from by simpa only [nm] using h2) obN))) ?_
  refine tD ?_
  obtain he0:=h
  subst res
  exact (endD [] (vS (r0++bytesT (List.take (1:Nat) (List.drop (0:Nat) [FV.pv (Value.int IntKind.u8 (IntKind.wrap IntKind.u8 (w64 ((48:Int)+Int.tmod n (10:Int)))))])))) []).1
set_option maxHeartbeats 1000000 in
theorem W_heckleref03_Text (x:api_Rx) (res:ByteArray)
 (h:(((api_Rx.Kind x == 1)=true→(res=({ data:=#[(40:UInt8),(41:UInt8)] })))∧((api_Rx.Kind x == 1)=false→(((api_Rx.Kind x == (2:Int))=true→(∃ r0:ByteArray,C_heckleref03_bytes (api_Rx.Set x) r0∧(res=r0)))∧((api_Rx.Kind x == (2:Int))=false→(((api_Rx.Kind x == (5:Int))=true→(0:Nat) < List.length (api_Rx.Kids x)∧(0:Nat) < List.length (api_Rx.Kids x)∧(∃ r0_1:ByteArray,C_heckleref03_in (List.getD (api_Rx.Kids x) (0:Nat) default) (decide (api_Rx.Kind (List.getD (api_Rx.Kids x) (0:Nat) default)≥(3:Int))) r0_1∧((↑(ByteArray.size r0_1+ByteArray.size { data:=#[(123:UInt8)] }):Int)≤IntKind.max IntKind.i64)∧(∃ r0_2:ByteArray,C_heckleref03_Digits (api_Rx.Lo x) r0_2∧((↑(ByteArray.size (r0_1++{ data:=#[(123:UInt8)] })+ByteArray.size r0_2):Int)≤IntKind.max IntKind.i64)∧((↑(ByteArray.size (r0_1++{ data:=#[(123:UInt8)] }++r0_2)+ByteArray.size { data:=#[(44:UInt8)] }):Int)≤IntKind.max IntKind.i64)∧(∃ J14:ByteArray→Prop,(∀ (s0:ByteArray),J14 s0→((↑(ByteArray.size s0+ByteArray.size { data:=#[(125:UInt8)] }):Int)≤IntKind.max IntKind.i64)∧(res=(s0++{ data:=#[(125:UInt8)] })))∧(((decide (api_Rx.Hi x≥(0:Int)))=true→(∃ r0_4:ByteArray,C_heckleref03_Digits (api_Rx.Hi x) r0_4∧((↑(ByteArray.size (r0_1++{ data:=#[(123:UInt8)] }++r0_2++{ data:=#[(44:UInt8)] })+ByteArray.size r0_4):Int)≤IntKind.max IntKind.i64)∧J14 (r0_1++{ data:=#[(123:UInt8)] }++r0_2++{ data:=#[(44:UInt8)] }++r0_4)))∧((decide (api_Rx.Hi x≥(0:Int)))=false→J14 (r0_1++{ data:=#[(123:UInt8)] }++r0_2++{ data:=#[(44:UInt8)] })))))))∧((api_Rx.Kind x == (5:Int))=false→(∃ (Inv47:ByteArray→Int→Prop) (mu48:ByteArray→Int→Nat),Inv47 ({ data:=#[] }) 0∧(∀ (s0_1:ByteArray) (i:Int),Inv47 s0_1 i→(((decide (i < (↑(List.length (api_Rx.Kids x)):Int)))=true→(∃ J53:ByteArray→Prop,(∀ (s0_3:ByteArray),J53 s0_3→((0:Int)≤i)∧i < ↑(List.length (api_Rx.Kids x))∧(((api_Rx.Kind x == (3:Int))=true→((api_Rx.Kind x == (3:Int))=true→((0:Int)≤i))∧((api_Rx.Kind x == (3:Int))=true→i < ↑(List.length (api_Rx.Kids x)))∧(∃ r0_9:ByteArray,C_heckleref03_in (gd (api_Rx.Kids x) i) (api_Rx.Kind (gd (api_Rx.Kids x) i) == (4:Int)) r0_9∧((api_Rx.Kind x == (3:Int))=true→((↑(ByteArray.size s0_3+ByteArray.size r0_9):Int)≤IntKind.max IntKind.i64))∧(Inv47 (s0_3++r0_9) (w64 (i+1))∧mu48 (s0_3++r0_9) (w64 (i+1)) < mu48 s0_1 i)))∧((api_Rx.Kind x == (3:Int))=false→(∃ r0_10:ByteArray,C_heckleref03_in (gd (api_Rx.Kids x) i) false r0_10∧((api_Rx.Kind x == (3:Int))=false→((↑(ByteArray.size s0_3+ByteArray.size r0_10):Int)≤IntKind.max IntKind.i64))∧(Inv47 (s0_3++r0_10) (w64 (i+1))∧mu48 (s0_3++r0_10) (w64 (i+1)) < mu48 s0_1 i)))))∧(((decide (i > (0:Int)) && api_Rx.Kind x == (4:Int))=true→((↑(ByteArray.size s0_1+ByteArray.size { data:=#[(124:UInt8)] }):Int)≤IntKind.max IntKind.i64)∧J53 (s0_1++{ data:=#[(124:UInt8)] }))∧((decide (i > (0:Int)) && api_Rx.Kind x == (4:Int))=false→J53 s0_1))))∧((decide (i < (↑(List.length (api_Rx.Kids x)):Int)))=false→(res=s0_1)))))))))))):C_heckleref03_Text x res:=by
 unfold C_heckleref03_Text
 have kk:=cfOk [80] 81
 refine fD (x:=bodyOf Try.f35) kk Try.func35 ?_
 refine wkS [1] [(1,av_api_Rx x)] (by kernel_rfl) ?_
 refine sD kk [] [1] [(4,.ptr 5 0),(5,av_api_Rx x)] obN ?_
 refine qD ?_
 refine sD kk [] [] [(22,vi (api_Rx.Kind x))] obN ?_
 refine bD (id:=0) ?_
 refine sD kk [] [] [(25,vB (api_Rx.Kind x == 1))] obN ?_
 refine cD (t:=8) (b:=api_Rx.Kind x == 1) (fun hb0=>?_) (fun hb0=>?_)
 ·have h:=h.1 hb0
  refine sD kk [] [4,5,22,25] [(7,vS ({ data:=#[(40:UInt8),(41:UInt8)] }))] obN ?_
  refine tD ?_
  obtain he0:=h
  subst res
  exact (endD [] (vS ({ data:=#[(40:UInt8),(41:UInt8)] })) []).1
 ·have h:=h.2 hb0
  refine sD kk [] [25] [(31,vB (api_Rx.Kind x == (2:Int)))] obN ?_
  refine cD (t:=10) (b:=api_Rx.Kind x == (2:Int)) (fun hb1=>?_) (fun hb1=>?_)
  ·have h:=h.1 hb1
   obtain ⟨r0,hc2,h⟩:=h
   refine sD kk [.c (vS r0) []] [4,5,22,31] [(7,vS r0)] (obC hc2 obN) ?_
   refine tD ?_
   obtain he0:=h
   subst res
   exact (endD [] (vS r0) []).1
  ·have h:=h.2 hb1
   refine sD kk [] [22,31] [(46,vB (api_Rx.Kind x == (5:Int)))] obN ?_
   refine cD (t:=15) (b:=api_Rx.Kind x == (5:Int)) (fun hb3=>?_) (fun hb3=>?_)
   ·have h:=h.1 hb3
    obtain ⟨h4,h⟩:=h
    obtain ⟨h5,h⟩:=h
    obtain ⟨r0_1,hc6,h⟩:=h
    obtain ⟨h7,h⟩:=h
    obtain ⟨r0_2,hc8,h⟩:=h
    obtain ⟨h9,h⟩:=h
    obtain ⟨h10,h⟩:=h
    refine sD kk [.e (fv_api_Rx (List.getD (api_Rx.Kids x) (0:Nat) default)),.e (fv_api_Rx (List.getD (api_Rx.Kids x) (0:Nat) default)),.c (vS r0_1) [],.c (vS r0_2) []] [46] [(10,vS (r0_1++{ data:=#[(123:UInt8)] }++r0_2++{ data:=#[(44:UInt8)] }))] (obC (show (0:Int)≤(0:Int) from by first | decide | rfl | trivial | (simp only [nm]<;>first | decide | rfl | omega)) (obC (show (List.map enc_api_Rx (api_Rx.Kids x))[(Int.toNat (0:Int):Nat)]?=some (fv_api_Rx (List.getD (api_Rx.Kids x) (0:Nat) default)) from by have:=idx_ok' enc_api_Rx (api_Rx.Kids x) ((0:Nat)) _ (enc_api_Rx_eq _) h4;simpa only [nm,enq,enc_api_Rx_eq] using this) (obC (show (0:Int)≤(0:Int) from by first | decide | rfl | trivial | (simp only [nm]<;>first | decide | rfl | omega)) (obC (show (List.map enc_api_Rx (api_Rx.Kids x))[(Int.toNat (0:Int):Nat)]?=some (fv_api_Rx (List.getD (api_Rx.Kids x) (0:Nat) default)) from by have:=idx_ok' enc_api_Rx (api_Rx.Kids x) ((0:Nat)) _ (enc_api_Rx_eq _) h5;simpa only [nm,enq,enc_api_Rx_eq] using this) (obC hc6 (obC h7 (obC hc8 (obC h9 (obC h10 obN))))))))) ?_
    obtain ⟨J14,hJ14,h⟩:=h
    refine sjD (fun (q:ByteArray)=>J14 q) (fun (q:ByteArray)=>(fun (s0:ByteArray)=>([(10,vS s0)]:Sta)) q) ?_ ?_
    ·rintro s0 hj
     have h:=hJ14 s0 hj
     obtain ⟨h15,h⟩:=h
     refine sD kk [] [10] [(7,vS (s0++{ data:=#[(125:UInt8)] }))] (obC h15 obN) ?_
     refine tD ?_
     obtain he0:=h
     subst res
     exact (endD [] (vS (s0++{ data:=#[(125:UInt8)] })) []).1
    ·refine sD kk [] [] [(109,vB (decide (api_Rx.Hi x≥(0:Int))))] obN ?_
     refine cD (t:=36) (b:=decide (api_Rx.Hi x≥(0:Int))) (fun hb16=>?_) (fun hb16=>?_)
     ·have h:=h.1 hb16
      obtain ⟨r0_4,hc17,h⟩:=h
      obtain ⟨h18,h⟩:=h
      refine rD kk [.c (vS r0_4) []] [4,5,109] [(10,vS (r0_1++{ data:=#[(123:UInt8)] }++r0_2++{ data:=#[(44:UInt8)] }++r0_4))] (obC hc17 (obC h18 obN)) ?_
      exact jD (r0_1++{ data:=#[(123:UInt8)] }++r0_2++{ data:=#[(44:UInt8)] }++r0_4) [] h
     ·have h:=h.2 hb16
      refine Sem.skip' (by kernel_rfl) Wk.refl ?_
      exact jD (r0_1++{ data:=#[(123:UInt8)] }++r0_2++{ data:=#[(44:UInt8)] }) [] h
   ·have h:=h.2 hb3
    refine Sem.skip' (by kernel_rfl) Wk.refl ?_
    show Sem _ _ _ _ _
    refine wkD [46] ?_
    refine sD kk [] [] [(13,vS ({ data:=#[] }))] obN ?_
    refine qD ?_
    refine sD kk [] [] [(16,vi 0)] obN ?_
    refine bD (id:=1) ?_
    obtain ⟨Inv47,mu48,h0Inv47,hInv47⟩:=h
    refine loD (fun (q:ByteArray×Int)=>(fun (s0_1:ByteArray) (i:Int)=>([(4,.ptr 5 0),(5,av_api_Rx x),(13,vS s0_1),(16,vi i)]:Sta)) q.1 q.2) (fun (q:ByteArray×Int)=>Inv47 q.1 q.2) (fun (q:ByteArray×Int)=>mu48 q.1 q.2) (({ data:=#[] }),0) [] h0Inv47 ?_
    rintro ⟨s0_1,i⟩ hi
    have h:=hInv47 s0_1 i hi
    refine qD ?_
    refine sDE kk [] [] [(145,vB (decide (i < (↑(List.length (List.map enc_api_Rx (api_Rx.Kids x))):Int))))] [(145,vB (decide (i < (↑(List.length (api_Rx.Kids x)):Int))))] obN ?_
    refine cD (t:=48) (b:=decide (i < (↑(List.length (api_Rx.Kids x)):Int))) (fun hb49=>?_) (fun hb49=>?_)
    ·have h:=h.1 hb49
     refine Sem.skip' (by kernel_rfl) Wk.refl ?_
     show Sem _ _ _ _ _
     refine wkD [145] ?_
     refine qD ?_
     refine bD (id:=2) ?_
     obtain ⟨J53,hJ53,h⟩:=h
     refine sjD (fun (q:ByteArray)=>J53 q) (fun (q:ByteArray)=>(fun (s0_3:ByteArray)=>([(4,.ptr 5 0),(5,av_api_Rx x),(13,vS s0_3),(16,vi i)]:Sta)) q) ?_ ?_
     ·rintro s0_3 hj
      have h:=hJ53 s0_3 hj
      obtain ⟨h54,h⟩:=h
      obtain ⟨h55,h⟩:=h
      rcases Bool.eq_false_or_eq_true (api_Rx.Kind x == (3:Int)) with hb56 | hb56
      ·have h:=h.1 hb56
       obtain ⟨h57,h⟩:=h
       obtain ⟨h58,h⟩:=h
       obtain ⟨r0_9,hc59,h⟩:=h
       obtain ⟨h60,h⟩:=h
       refine rD kk [.e (fv_api_Rx (gd (api_Rx.Kids x) i)),.b true,.b true,.b true,.b true,.e (fv_api_Rx (gd (api_Rx.Kids x) i)),.b true,.b true,.b true,.b true,.c (vS r0_9) []] [] [(13,vS (s0_3++r0_9))] (obC h54 (obC (idx_ok enc_api_Rx (api_Rx.Kids x) i _ (enc_api_Rx_eq _) h54 h55) (obC (gtt hb56) (obC (gtt hb56) (obC (gtt hb56) (obC (gtt hb56) (obC (h57 hb56) (obC (idx_ok enc_api_Rx (api_Rx.Kids x) i _ (enc_api_Rx_eq _) (h57 hb56) (h58 hb56)) (obC (gtt hb56) (obC (gtt hb56) (obC (gtt hb56) (obC hb56 (obC hc59 (obC (h60 hb56) obN)))))))))))))) ?_
       show Sem _ _ _ _ _
       refine rD kk [] [] [(16,vi (w64 (i+1)))] obN ?_
       exact lD ((s0_3++r0_9),(w64 (i+1))) [] h
      ·have h:=h.2 hb56
       obtain ⟨r0_10,hc61,h⟩:=h
       obtain ⟨h62,h⟩:=h
       refine rD kk [.e (fv_api_Rx (gd (api_Rx.Kids x) i)),.b false,.b false,.b false,.b false,.b false,.b false,.b false,.b false,.c (vS r0_10) []] [] [(13,vS (s0_3++r0_10))] (obC h54 (obC (idx_ok enc_api_Rx (api_Rx.Kids x) i _ (enc_api_Rx_eq _) h54 h55) (obC (gtf hb56) (obC (gtf hb56) (obC (gtf hb56) (obC (gtf hb56) (obC (gtf hb56) (obC (gtf hb56) (obC (gtf hb56) (obC hb56 (obC hc61 (obC (h62 hb56) obN)))))))))))) ?_
       show Sem _ _ _ _ _
       refine rD kk [] [] [(16,vi (w64 (i+1)))] obN ?_
       exact lD ((s0_3++r0_10),(w64 (i+1))) [] h
     ·refine sM [] [(172,vB (decide (i > (0:Int)) && api_Rx.Kind x == (4:Int)))] ?_ (fun hk0=>?_)
      ·refine cD (t:=57) (b:=decide (i > (0:Int)) && api_Rx.Kind x == (4:Int)) (fun hb64=>?_) (fun hb64=>?_)
       ·have h:=h.1 hb64
        obtain ⟨h65,h⟩:=h
        refine rD kk [] [172] [(13,vS (s0_1++{ data:=#[(124:UInt8)] }))] (obC h65 obN) ?_
        exact jD (s0_1++{ data:=#[(124:UInt8)] }) [] h
       ·have h:=h.2 hb64
        refine Sem.skip' (by kernel_rfl) Wk.refl ?_
        exact jD s0_1 [] h
      ·rcases Bool.eq_false_or_eq_true (decide (i > (0:Int))) with hb63 | hb63
       ·refine sD kk [.b true,.b true,.b true,.b true] [] [(172,vB (api_Rx.Kind x == (4:Int)))] (obC (gtt hb63) (obC (gtt hb63) (obC (gtt hb63) (obC hb63 obN)))) ?_
        exact Sem.cast (by try rw [hb63];kernel_rfl) hk0
       ·refine sD kk [.b false,.b false,.b false,.b false] [] [(172,vB false)] (obC (gtf hb63) (obC (gtf hb63) (obC (gtf hb63) (obC hb63 obN)))) ?_
        exact Sem.cast (by try rw [hb63];kernel_rfl) hk0
    ·have h:=h.2 hb49
     refine xD (i:=1) ?_
     show Sem _ _ _ _ _
     refine wkD [4,5,16,145] ?_
     refine sD kk [] [13] [(7,vS s0_1)] obN ?_
     refine tD ?_
     obtain he0:=h
     subst res
     exact (endD [] (vS s0_1) []).1
set_option maxHeartbeats 1000000 in
theorem W_heckleref15_Bools (a:(List Bool)) (b:(List Bool)) (res:Bool)
 (h:((((↑(List.length a):Int) != (↑(List.length b):Int))=true→(res=false))∧(((↑(List.length a):Int) != (↑(List.length b):Int))=false→(∃ (Inv11:Int→Prop) (mu12:Int→Nat),Inv11 0∧(∀ (i:Int),Inv11 i→(((decide (i < (↑(List.length a):Int)))=true→((0:Int)≤i)∧i < ↑(List.length a)∧((0:Int)≤i)∧i < ↑(List.length b)∧(((!gd a i == gd b i)=true→(res=false))∧((!gd a i == gd b i)=false→(Inv11 (w64 (i+1))∧mu12 (w64 (i+1)) < mu12 i))))∧((decide (i < (↑(List.length a):Int)))=false→(res=true)))))))):C_heckleref15_Bools a b res:=by
 unfold C_heckleref15_Bools
 have kk:=cfOk [] 26
 refine fD (x:=bodyOf Try.f36) kk Try.func36 ?_
 refine wkS [1,4] [(1,vL enc_bool a),(4,vL enc_bool b)] (by kernel_rfl) ?_
 refine sD kk [] [] [] obN ?_
 refine qD ?_
 refine sDE kk [] [] [(31,vB ((↑(List.length (List.map enc_bool a)):Int) != (↑(List.length (List.map enc_bool b)):Int)))] [(31,vB ((↑(List.length a):Int) != (↑(List.length b):Int)))] obN ?_
 refine cD (t:=10) (b:=(↑(List.length a):Int) != (↑(List.length b):Int)) (fun hb0=>?_) (fun hb0=>?_)
 ·have h:=h.1 hb0
  refine sD kk [] [1,4,31] [(13,vB false)] obN ?_
  refine tD ?_
  obtain he0:=h
  subst res
  exact (endD [] (vB false) []).1
 ·have h:=h.2 hb0
  refine Sem.skip' (by kernel_rfl) Wk.refl ?_
  show Sem _ _ _ _ _
  refine wkD [31] ?_
  refine qD ?_
  refine sD kk [] [] [(16,vi 0)] obN ?_
  refine bD (id:=0) ?_
  obtain ⟨Inv11,mu12,h0Inv11,hInv11⟩:=h
  refine loD (fun (q:Int)=>(fun (i:Int)=>([(1,vL enc_bool a),(4,vL enc_bool b),(16,vi i)]:Sta)) q) (fun (q:Int)=>Inv11 q) (fun (q:Int)=>mu12 q) 0 [] h0Inv11 ?_
  rintro i hi
  have h:=hInv11 i hi
  refine qD ?_
  refine sDE kk [] [] [(43,vB (decide (i < (↑(List.length (List.map enc_bool a)):Int))))] [(43,vB (decide (i < (↑(List.length a):Int))))] obN ?_
  refine cD (t:=14) (b:=decide (i < (↑(List.length a):Int))) (fun hb13=>?_) (fun hb13=>?_)
  ·have h:=h.1 hb13
   refine Sem.skip' (by kernel_rfl) Wk.refl ?_
   show Sem _ _ _ _ _
   refine wkD [43] ?_
   refine qD ?_
   refine bD (id:=1) ?_
   obtain ⟨h14,h⟩:=h
   obtain ⟨h15,h⟩:=h
   obtain ⟨h16,h⟩:=h
   obtain ⟨h17,h⟩:=h
   refine sD kk [.e (fB (gd a i)),.e (fB (gd b i))] [] [(76,vB (!gd a i == gd b i))] (obC h14 (obC (idx_ok enc_bool a i _ rfl h14 h15) (obC h16 (obC (idx_ok enc_bool b i _ rfl h16 h17) obN)))) ?_
   refine cD (t:=25) (b:=!gd a i == gd b i) (fun hb18=>?_) (fun hb18=>?_)
   ·have h:=h.1 hb18
    refine sD kk [] [1,4,16,76] [(13,vB false)] obN ?_
    refine tD ?_
    obtain he0:=h
    subst res
    exact (endD [] (vB false) []).1
   ·have h:=h.2 hb18
    refine Sem.skip' (by kernel_rfl) Wk.refl ?_
    show Sem _ _ _ _ _
    refine wkD [76] ?_
    refine rD kk [] [] [(16,vi (w64 (i+1)))] obN ?_
    exact lD (w64 (i+1)) [] h
  ·have h:=h.2 hb13
   refine xD (i:=0) ?_
   show Sem _ _ _ _ _
   refine wkD [1,4,16,43] ?_
   refine sD kk [] [] [(13,vB true)] obN ?_
   refine tD ?_
   obtain he0:=h
   subst res
   exact (endD [] (vB true) []).1
set_option maxHeartbeats 1000000 in
theorem W_hecklelaw15_awake (res:Bool)
 (h:(∃ r0:api_Rx,C_hecklelaw15_char ((97:Int)) r0∧(∃ r0_1:api_Rx,C_hecklelaw15_char ((98:Int)) r0_1∧(∃ r0_2:api_Rx,∃ r0_3:Int,C_split_Reverse ({ Kind:=(3:Int),Set:={ e0:=(0:Int),e1:=(0:Int),e2:=(0:Int),e3:=(0:Int) },Lo:=(0:Int),Hi:=(0:Int),Kids:=[r0,{ Kind:=(5:Int),Set:={ e0:=(0:Int),e1:=(0:Int),e2:=(0:Int),e3:=(0:Int) },Lo:=(0:Int),Hi:=(-1:Int),Kids:=[r0_1] }] }) r0_2 r0_3∧(∃ r0_4:api_Rx,∃ r0_5:Int,C_split_Reverse ({ Kind:=(0:Int),Set:={ e0:=(0:Int),e1:=(0:Int),e2:=(0:Int),e3:=(0:Int) },Lo:=(0:Int),Hi:=(0:Int),Kids:=[] }) r0_4 r0_5∧(∃ r0_6:List Bool,C_split_Ahead ({ Kind:=(3:Int),Set:={ e0:=(0:Int),e1:=(0:Int),e2:=(0:Int),e3:=(0:Int) },Lo:=(0:Int),Hi:=(0:Int),Kids:=[r0,{ Kind:=(5:Int),Set:={ e0:=(0:Int),e1:=(0:Int),e2:=(0:Int),e3:=(0:Int) },Lo:=(0:Int),Hi:=(-1:Int),Kids:=[r0_1] }] }) ({ data:=#[(97:UInt8),(98:UInt8),(98:UInt8)] }) r0_6∧(((r0_3 == 0)=true→(∃ r0_7:ByteArray,C_heckleref03_Text r0_2 r0_7∧(((ByteArray.toList r0_7 == ByteArray.toList { data:=#[(98:UInt8),(123:UInt8),(48:UInt8),(44:UInt8),(125:UInt8),(97:UInt8)] })=true→(((r0_5 == 1)=true→(∃ r0_8:Bool,C_heckleref15_Bools r0_6 ([false,true,true,true]) r0_8∧(((r0_8)=true→(∃ r0_9:api_Rx,C_hecklelaw15_char ((98:Int)) r0_9∧(∃ r0_10:Int,C_split_Split ({ Conds:=[],All:=false,Bol:=false,Rx:={ Kind:=(3:Int),Set:={ e0:=(0:Int),e1:=(0:Int),e2:=(0:Int),e3:=(0:Int) },Lo:=(0:Int),Hi:=(0:Int),Kids:=[r0,{ Kind:=(5:Int),Set:={ e0:=(0:Int),e1:=(0:Int),e2:=(0:Int),e3:=(0:Int) },Lo:=(0:Int),Hi:=(-1:Int),Kids:=[r0_1] }] },Trail:=r0_9,Eof:=false,Act:=(0:Int),To:=(0:Int) }) ({ data:=#[(97:UInt8),(98:UInt8),(98:UInt8)] }) r0_10∧(((r0_10 == (2:Int))=true→(∃ r0_11:Int,C_split_Split ({ Conds:=[],All:=false,Bol:=false,Rx:={ Kind:=(3:Int),Set:={ e0:=(0:Int),e1:=(0:Int),e2:=(0:Int),e3:=(0:Int) },Lo:=(0:Int),Hi:=(0:Int),Kids:=[r0,{ Kind:=(5:Int),Set:={ e0:=(0:Int),e1:=(0:Int),e2:=(0:Int),e3:=(0:Int) },Lo:=(0:Int),Hi:=(-1:Int),Kids:=[r0_1] }] },Trail:={ Kind:=(0:Int),Set:={ e0:=(0:Int),e1:=(0:Int),e2:=(0:Int),e3:=(0:Int) },Lo:=(0:Int),Hi:=(0:Int),Kids:=[] },Eof:=false,Act:=(0:Int),To:=(0:Int) }) ({ data:=#[(97:UInt8),(98:UInt8),(98:UInt8)] }) r0_11∧(res=(r0_11 == (3:Int)))))∧((r0_10 == (2:Int))=false→(res=false))))))∧((r0_8)=false→(res=false)))))∧((r0_5 == 1)=false→(res=false))))∧((ByteArray.toList r0_7 == ByteArray.toList { data:=#[(98:UInt8),(123:UInt8),(48:UInt8),(44:UInt8),(125:UInt8),(97:UInt8)] })=false→(res=false)))))∧((r0_3 == 0)=false→(res=false))))))))):C_hecklelaw15_awake res:=by
 unfold C_hecklelaw15_awake
 have kk:=cfOk [] 54
 refine fD (x:=bodyOf Try.f12) kk Try.func12 ?_
 refine wkS [] [] (by kernel_rfl) ?_
 refine sD kk [] [] [] obN ?_
 obtain ⟨r0,hc0,h⟩:=h
 obtain ⟨r0_1,hc1,h⟩:=h
 refine sDE kk [.c (ao_api_Rx r0) [],.c (ao_api_Rx r0_1) []] [] [(4,.ptr 5 0),(5,.agg [vi 3,vI .u64 0,vI .u64 0,vI .u64 0,vI .u64 0,vi 0,vi 0,.f (FV.sl (List.take (List.length [FV.agg [FV.pv (Value.int IntKind.i64 (api_Rx.Kind r0)),FV.pv (Value.int IntKind.u64 (arr4_uint64.e0 (api_Rx.Set r0))),FV.pv (Value.int IntKind.u64 (arr4_uint64.e1 (api_Rx.Set r0))),FV.pv (Value.int IntKind.u64 (arr4_uint64.e2 (api_Rx.Set r0))),FV.pv (Value.int IntKind.u64 (arr4_uint64.e3 (api_Rx.Set r0))),FV.pv (Value.int IntKind.i64 (api_Rx.Lo r0)),FV.pv (Value.int IntKind.i64 (api_Rx.Hi r0)),FV.sl (List.take (List.length (List.map enc_api_Rx (api_Rx.Kids r0))) (List.drop (0:Nat) (List.map enc_api_Rx (api_Rx.Kids r0))))],FV.agg [FV.pv (Value.int IntKind.i64 (5)),FV.pv (Value.int IntKind.u64 (0)),FV.pv (Value.int IntKind.u64 (0)),FV.pv (Value.int IntKind.u64 (0)),FV.pv (Value.int IntKind.u64 (0)),FV.pv (Value.int IntKind.i64 (0)),FV.pv (Value.int IntKind.i64 (-1)),FV.sl (List.take (List.length [FV.agg [FV.pv (Value.int IntKind.i64 (api_Rx.Kind r0_1)),FV.pv (Value.int IntKind.u64 (arr4_uint64.e0 (api_Rx.Set r0_1))),FV.pv (Value.int IntKind.u64 (arr4_uint64.e1 (api_Rx.Set r0_1))),FV.pv (Value.int IntKind.u64 (arr4_uint64.e2 (api_Rx.Set r0_1))),FV.pv (Value.int IntKind.u64 (arr4_uint64.e3 (api_Rx.Set r0_1))),FV.pv (Value.int IntKind.i64 (api_Rx.Lo r0_1)),FV.pv (Value.int IntKind.i64 (api_Rx.Hi r0_1)),FV.sl (List.take (List.length (List.map enc_api_Rx (api_Rx.Kids r0_1))) (List.drop (0:Nat) (List.map enc_api_Rx (api_Rx.Kids r0_1))))]]) (List.drop (0:Nat) [FV.agg [FV.pv (Value.int IntKind.i64 (api_Rx.Kind r0_1)),FV.pv (Value.int IntKind.u64 (arr4_uint64.e0 (api_Rx.Set r0_1))),FV.pv (Value.int IntKind.u64 (arr4_uint64.e1 (api_Rx.Set r0_1))),FV.pv (Value.int IntKind.u64 (arr4_uint64.e2 (api_Rx.Set r0_1))),FV.pv (Value.int IntKind.u64 (arr4_uint64.e3 (api_Rx.Set r0_1))),FV.pv (Value.int IntKind.i64 (api_Rx.Lo r0_1)),FV.pv (Value.int IntKind.i64 (api_Rx.Hi r0_1)),FV.sl (List.take (List.length (List.map enc_api_Rx (api_Rx.Kids r0_1))) (List.drop (0:Nat) (List.map enc_api_Rx (api_Rx.Kids r0_1))))]]))]]) (List.drop (0:Nat) [FV.agg [FV.pv (Value.int IntKind.i64 (api_Rx.Kind r0)),FV.pv (Value.int IntKind.u64 (arr4_uint64.e0 (api_Rx.Set r0))),FV.pv (Value.int IntKind.u64 (arr4_uint64.e1 (api_Rx.Set r0))),FV.pv (Value.int IntKind.u64 (arr4_uint64.e2 (api_Rx.Set r0))),FV.pv (Value.int IntKind.u64 (arr4_uint64.e3 (api_Rx.Set r0))),FV.pv (Value.int IntKind.i64 (api_Rx.Lo r0)),FV.pv (Value.int IntKind.i64 (api_Rx.Hi r0)),FV.sl (List.take (List.length (List.map enc_api_Rx (api_Rx.Kids r0))) (List.drop (0:Nat) (List.map enc_api_Rx (api_Rx.Kids r0))))],FV.agg [FV.pv (Value.int IntKind.i64 (5)),FV.pv (Value.int IntKind.u64 (0)),FV.pv (Value.int IntKind.u64 (0)),FV.pv (Value.int IntKind.u64 (0)),FV.pv (Value.int IntKind.u64 (0)),FV.pv (Value.int IntKind.i64 (0)),FV.pv (Value.int IntKind.i64 (-1)),FV.sl (List.take (List.length [FV.agg [FV.pv (Value.int IntKind.i64 (api_Rx.Kind r0_1)),FV.pv (Value.int IntKind.u64 (arr4_uint64.e0 (api_Rx.Set r0_1))),FV.pv (Value.int IntKind.u64 (arr4_uint64.e1 (api_Rx.Set r0_1))),FV.pv (Value.int IntKind.u64 (arr4_uint64.e2 (api_Rx.Set r0_1))),FV.pv (Value.int IntKind.u64 (arr4_uint64.e3 (api_Rx.Set r0_1))),FV.pv (Value.int IntKind.i64 (api_Rx.Lo r0_1)),FV.pv (Value.int IntKind.i64 (api_Rx.Hi r0_1)),FV.sl (List.take (List.length (List.map enc_api_Rx (api_Rx.Kids r0_1))) (List.drop (0:Nat) (List.map enc_api_Rx (api_Rx.Kids r0_1))))]]) (List.drop (0:Nat) [FV.agg [FV.pv (Value.int IntKind.i64 (api_Rx.Kind r0_1)),FV.pv (Value.int IntKind.u64 (arr4_uint64.e0 (api_Rx.Set r0_1))),FV.pv (Value.int IntKind.u64 (arr4_uint64.e1 (api_Rx.Set r0_1))),FV.pv (Value.int IntKind.u64 (arr4_uint64.e2 (api_Rx.Set r0_1))),FV.pv (Value.int IntKind.u64 (arr4_uint64.e3 (api_Rx.Set r0_1))),FV.pv (Value.int IntKind.i64 (api_Rx.Lo r0_1)),FV.pv (Value.int IntKind.i64 (api_Rx.Hi r0_1)),FV.sl (List.take (List.length (List.map enc_api_Rx (api_Rx.Kids r0_1))) (List.drop (0:Nat) (List.map enc_api_Rx (api_Rx.Kids r0_1))))]]))]])))])] [(4,.ptr 5 0),(5,.agg [vi 3,vI .u64 0,vI .u64 0,vI .u64 0,vI .u64 0,vi 0,vi 0,vL enc_api_Rx ([r0,{ Kind:=(5:Int),Set:={ e0:=(0:Int),e1:=(0:Int),e2:=(0:Int),e3:=(0:Int) },Lo:=(0:Int),Hi:=(-1:Int),Kids:=[r0_1] }])])] (obC hc0 (obC hc1 obN)) ?_
 obtain ⟨r0_2,r0_3,hc2,h⟩:=h
 refine sD kk [.c (.tup [av_api_Rx r0_2,vi r0_3]) []] [] [(7,.ptr 8 0),(8,av_api_Rx r0_2),(10,vi r0_3)] (obC hc2 obN) ?_
 obtain ⟨r0_4,r0_5,hc3,h⟩:=h
 refine sD kk [.c (.tup [av_api_Rx r0_4,vi r0_5]) []] [] [(16,vi r0_5)] (obC (Eq.mp (by unfold C_split_Reverse;(try simp only [List.drop_zero,List.take_length]);first | done | simp only [nm,enq]:C_split_Reverse ({ Kind:=(0:Int),Set:={ e0:=(0:Int),e1:=(0:Int),e2:=(0:Int),e3:=(0:Int) },Lo:=(0:Int),Hi:=(0:Int),Kids:=[] }) r0_4 r0_5=CallE Try.prog 14 [.agg [vi 0,vI .u64 0,vI .u64 0,vI .u64 0,vI .u64 0,vi 0,vi 0,.f (FV.sl [])]] [] (.tup [av_api_Rx r0_4,vi r0_5]) []) hc3) obN) ?_
 obtain ⟨r0_6,hc4,h⟩:=h
 refine sD kk [.c (oL 4 enc_bool r0_6) []] [] [(19,oL 4 enc_bool r0_6)] (obC hc4 obN) ?_
 rcases Bool.eq_false_or_eq_true (r0_3 == 0) with hb5 | hb5
 ·have h:=h.1 hb5
  obtain ⟨r0_7,hc6,h⟩:=h
  rcases Bool.eq_false_or_eq_true (ByteArray.toList r0_7 == ByteArray.toList { data:=#[(98:UInt8),(123:UInt8),(48:UInt8),(44:UInt8),(125:UInt8),(97:UInt8)] }) with hb7 | hb7
  ·have h:=h.1 hb7
   rcases Bool.eq_false_or_eq_true (r0_5 == 1) with hb8 | hb8
   ·have h:=h.1 hb8
    obtain ⟨r0_8,hc9,h⟩:=h
    rcases Bool.eq_false_or_eq_true (r0_8) with hb10 | hb10
    ·have h:=h.1 hb10
     obtain ⟨r0_9,hc11,h⟩:=h
     obtain ⟨r0_10,hc12,h⟩:=h
     rcases Bool.eq_false_or_eq_true (r0_10 == (2:Int)) with hb13 | hb13
     ·have h:=h.1 hb13
      obtain ⟨r0_11,hc14,h⟩:=h
      refine sD kk [.b true,.b true,.c (vS r0_7) [],.b true,.b true,.b true,.b true,.b true,.b true,.b true,.b true,.c (vB r0_8) [],.b true,.b true,.b true,.c (ao_api_Rx r0_9) [],.b true,.b true,.c (vi r0_10) [],.b true,.b true,.b true,.b true,.b true,.c (vi r0_11) [],.b true,.b true] [4,5,7,8,10,16,19] [(1,vB (r0_11 == (3:Int)))] (obC (gtt hb5) (obC (gtt hb5) (obC hc6 (obC (gtt hb5) (obC hb5 (obC (gtt hb7) (obC (gtt hb7) (obC hb7 (obC (gtt hb8) (obC (gtt hb8) (obC (gtt hb8) (obC (Eq.mp (by unfold C_heckleref15_Bools;(try simp only [List.drop_zero,List.take_length]);first | done | simp only [nm,enq]:C_heckleref15_Bools r0_6 ([false,true,true,true]) r0_8=CallE Try.prog 36 [.f (FV.sl (List.take (List.length (List.map enc_bool r0_6)) (List.drop (0:Nat) (List.map enc_bool r0_6)))),.f (FV.sl (List.take (List.length [FV.pv (Value.bool false),FV.pv (Value.bool true),FV.pv (Value.bool true),FV.pv (Value.bool true)]) (List.drop (0:Nat) [FV.pv (Value.bool false),FV.pv (Value.bool true),FV.pv (Value.bool true),FV.pv (Value.bool true)])))] [] (vB r0_8) []) hc9) (obC hb8 (obC (gtt hb10) (obC (gtt hb10) (obC hc11 (obC (gtt hb10) (obC (gtt hb10) (obC (Eq.mp (by unfold C_split_Split;(try simp only [List.drop_zero,List.take_length]);first | done | simp only [nm,enq]:C_split_Split ({ Conds:=[],All:=false,Bol:=false,Rx:={ Kind:=(3:Int),Set:={ e0:=(0:Int),e1:=(0:Int),e2:=(0:Int),e3:=(0:Int) },Lo:=(0:Int),Hi:=(0:Int),Kids:=[r0,{ Kind:=(5:Int),Set:={ e0:=(0:Int),e1:=(0:Int),e2:=(0:Int),e3:=(0:Int) },Lo:=(0:Int),Hi:=(-1:Int),Kids:=[r0_1] }] },Trail:=r0_9,Eof:=false,Act:=(0:Int),To:=(0:Int) }) ({ data:=#[(97:UInt8),(98:UInt8),(98:UInt8)] }) r0_10=CallE Try.prog 10 [.agg [.f (FV.sl []),vB false,vB false,vi 3,vI .u64 0,vI .u64 0,vI .u64 0,vI .u64 0,vi 0,vi 0,vL enc_api_Rx ([r0,{ Kind:=(5:Int),Set:={ e0:=(0:Int),e1:=(0:Int),e2:=(0:Int),e3:=(0:Int) },Lo:=(0:Int),Hi:=(-1:Int),Kids:=[r0_1] }]),vi (api_Rx.Kind r0_9),vI .u64 (arr4_uint64.e0 (api_Rx.Set r0_9)),vI .u64 (arr4_uint64.e1 (api_Rx.Set r0_9)),vI .u64 (arr4_uint64.e2 (api_Rx.Set r0_9)),vI .u64 (arr4_uint64.e3 (api_Rx.Set r0_9)),vi (api_Rx.Lo r0_9),vi (api_Rx.Hi r0_9),.f (FV.sl (List.take (List.length (List.map enc_api_Rx (api_Rx.Kids r0_9))) (List.drop (0:Nat) (List.map enc_api_Rx (api_Rx.Kids r0_9))))),vB false,vi 0,vi 0],vS ({ data:=#[(97:UInt8),(98:UInt8),(98:UInt8)] })] [] (vi r0_10) []) hc12) (obC (gtt hb10) (obC hb10 (obC (gtt hb13) (obC (gtt hb13) (obC (gtt hb13) (obC (Eq.mp (by unfold C_split_Split;(try simp only [List.drop_zero,List.take_length]);first | done | simp only [nm,enq]:C_split_Split ({ Conds:=[],All:=false,Bol:=false,Rx:={ Kind:=(3:Int),Set:={ e0:=(0:Int),e1:=(0:Int),e2:=(0:Int),e3:=(0:Int) },Lo:=(0:Int),Hi:=(0:Int),Kids:=[r0,{ Kind:=(5:Int),Set:={ e0:=(0:Int),e1:=(0:Int),e2:=(0:Int),e3:=(0:Int) },Lo:=(0:Int),Hi:=(-1:Int),Kids:=[r0_1] }] },Trail:={ Kind:=(0:Int),Set:={ e0:=(0:Int),e1:=(0:Int),e2:=(0:Int),e3:=(0:Int) },Lo:=(0:Int),Hi:=(0:Int),Kids:=[] },Eof:=false,Act:=(0:Int),To:=(0:Int) }) ({ data:=#[(97:UInt8),(98:UInt8),(98:UInt8)] }) r0_11=CallE Try.prog 10 [.agg [.f (FV.sl []),vB false,vB false,vi 3,vI .u64 0,vI .u64 0,vI .u64 0,vI .u64 0,vi 0,vi 0,vL enc_api_Rx ([r0,{ Kind:=(5:Int),Set:={ e0:=(0:Int),e1:=(0:Int),e2:=(0:Int),e3:=(0:Int) },Lo:=(0:Int),Hi:=(-1:Int),Kids:=[r0_1] }]),vi 0,vI .u64 0,vI .u64 0,vI .u64 0,vI .u64 0,vi 0,vi 0,.f (FV.sl []),vB false,vi 0,vi 0],vS ({ data:=#[(97:UInt8),(98:UInt8),(98:UInt8)] })] [] (vi r0_11) []) hc14) (obC (gtt hb13) (obC hb13 obN))))))))))))))))))))))))))) ?_
      refine tD ?_
      obtain he0:=h
      subst res
      exact (endD [] (vB (r0_11 == (3:Int))) []).1
     ·have h:=h.2 hb13
      refine sD kk [.b true,.b true,.c (vS r0_7) [],.b true,.b true,.b true,.b true,.b true,.b true,.b true,.b true,.c (vB r0_8) [],.b true,.b true,.b true,.c (ao_api_Rx r0_9) [],.b true,.b true,.c (vi r0_10) [],.b true,.b true,.b false,.b false,.b false,.b false,.b false] [4,5,7,8,10,16,19] [(1,vB false)] (obC (gtt hb5) (obC (gtt hb5) (obC hc6 (obC (gtt hb5) (obC hb5 (obC (gtt hb7) (obC (gtt hb7) (obC hb7 (obC (gtt hb8) (obC (gtt hb8) (obC (gtt hb8) (obC (Eq.mp (by unfold C_heckleref15_Bools;(try simp only [List.drop_zero,List.take_length]);first | done | simp only [nm,enq]:C_heckleref15_Bools r0_6 ([false,true,true,true]) r0_8=CallE Try.prog 36 [.f (FV.sl (List.take (List.length (List.map enc_bool r0_6)) (List.drop (0:Nat) (List.map enc_bool r0_6)))),.f (FV.sl (List.take (List.length [FV.pv (Value.bool false),FV.pv (Value.bool true),FV.pv (Value.bool true),FV.pv (Value.bool true)]) (List.drop (0:Nat) [FV.pv (Value.bool false),FV.pv (Value.bool true),FV.pv (Value.bool true),FV.pv (Value.bool true)])))] [] (vB r0_8) []) hc9) (obC hb8 (obC (gtt hb10) (obC (gtt hb10) (obC hc11 (obC (gtt hb10) (obC (gtt hb10) (obC (Eq.mp (by unfold C_split_Split;(try simp only [List.drop_zero,List.take_length]);first | done | simp only [nm,enq]:C_split_Split ({ Conds:=[],All:=false,Bol:=false,Rx:={ Kind:=(3:Int),Set:={ e0:=(0:Int),e1:=(0:Int),e2:=(0:Int),e3:=(0:Int) },Lo:=(0:Int),Hi:=(0:Int),Kids:=[r0,{ Kind:=(5:Int),Set:={ e0:=(0:Int),e1:=(0:Int),e2:=(0:Int),e3:=(0:Int) },Lo:=(0:Int),Hi:=(-1:Int),Kids:=[r0_1] }] },Trail:=r0_9,Eof:=false,Act:=(0:Int),To:=(0:Int) }) ({ data:=#[(97:UInt8),(98:UInt8),(98:UInt8)] }) r0_10=CallE Try.prog 10 [.agg [.f (FV.sl []),vB false,vB false,vi 3,vI .u64 0,vI .u64 0,vI .u64 0,vI .u64 0,vi 0,vi 0,vL enc_api_Rx ([r0,{ Kind:=(5:Int),Set:={ e0:=(0:Int),e1:=(0:Int),e2:=(0:Int),e3:=(0:Int) },Lo:=(0:Int),Hi:=(-1:Int),Kids:=[r0_1] }]),vi (api_Rx.Kind r0_9),vI .u64 (arr4_uint64.e0 (api_Rx.Set r0_9)),vI .u64 (arr4_uint64.e1 (api_Rx.Set r0_9)),vI .u64 (arr4_uint64.e2 (api_Rx.Set r0_9)),vI .u64 (arr4_uint64.e3 (api_Rx.Set r0_9)),vi (api_Rx.Lo r0_9),vi (api_Rx.Hi r0_9),.f (FV.sl (List.take (List.length (List.map enc_api_Rx (api_Rx.Kids r0_9))) (List.drop (0:Nat) (List.map enc_api_Rx (api_Rx.Kids r0_9))))),vB false,vi 0,vi 0],vS ({ data:=#[(97:UInt8),(98:UInt8),(98:UInt8)] })] [] (vi r0_10) []) hc12) (obC (gtt hb10) (obC hb10 (obC (gtf hb13) (obC (gtf hb13) (obC (gtf hb13) (obC (gtf hb13) (obC hb13 obN)))))))))))))))))))))))))) ?_
      refine tD ?_
      obtain he0:=h
      subst res
      exact (endD [] (vB false) []).1
    ·have h:=h.2 hb10
     refine sD kk [.b true,.b true,.c (vS r0_7) [],.b true,.b true,.b true,.b true,.b true,.b true,.b true,.b true,.c (vB r0_8) [],.b true,.b false,.b false,.b false,.b false,.b false,.b false,.b false,.b false,.b false,.b false,.b false] [4,5,7,8,10,16,19] [(1,vB false)] (obC (gtt hb5) (obC (gtt hb5) (obC hc6 (obC (gtt hb5) (obC hb5 (obC (gtt hb7) (obC (gtt hb7) (obC hb7 (obC (gtt hb8) (obC (gtt hb8) (obC (gtt hb8) (obC (Eq.mp (by unfold C_heckleref15_Bools;(try simp only [List.drop_zero,List.take_length]);first | done | simp only [nm,enq]:C_heckleref15_Bools r0_6 ([false,true,true,true]) r0_8=CallE Try.prog 36 [.f (FV.sl (List.take (List.length (List.map enc_bool r0_6)) (List.drop (0:Nat) (List.map enc_bool r0_6)))),.f (FV.sl (List.take (List.length [FV.pv (Value.bool false),FV.pv (Value.bool true),FV.pv (Value.bool true),FV.pv (Value.bool true)]) (List.drop (0:Nat) [FV.pv (Value.bool false),FV.pv (Value.bool true),FV.pv (Value.bool true),FV.pv (Value.bool true)])))] [] (vB r0_8) []) hc9) (obC hb8 (obC (gtf hb10) (obC (gtf hb10) (obC (gtf hb10) (obC (gtf hb10) (obC (gtf hb10) (obC hb10 (obC (rfl:false=false) (obC (rfl:false=false) (obC (rfl:false=false) (obC (rfl:false=false) (obC (rfl:false=false) obN)))))))))))))))))))))))) ?_
     refine tD ?_
     obtain he0:=h
     subst res
     exact (endD [] (vB false) []).1
   ·have h:=h.2 hb8
    refine sD kk [.b true,.b true,.c (vS r0_7) [],.b true,.b true,.b true,.b true,.b true,.b false,.b false,.b false,.b false,.b false,.b false,.b false,.b false,.b false,.b false,.b false,.b false,.b false,.b false,.b false] [4,5,7,8,10,16,19] [(1,vB false)] (obC (gtt hb5) (obC (gtt hb5) (obC hc6 (obC (gtt hb5) (obC hb5 (obC (gtt hb7) (obC (gtt hb7) (obC hb7 (obC (gtf hb8) (obC (gtf hb8) (obC (gtf hb8) (obC hb8 (obC (rfl:false=false) (obC (rfl:false=false) (obC (rfl:false=false) (obC (rfl:false=false) (obC (rfl:false=false) (obC (rfl:false=false) (obC (rfl:false=false) (obC (rfl:false=false) (obC (rfl:false=false) (obC (rfl:false=false) (obC (rfl:false=false) obN))))))))))))))))))))))) ?_
    refine tD ?_
    obtain he0:=h
    subst res
    exact (endD [] (vB false) []).1
  ·have h:=h.2 hb7
   refine sD kk [.b true,.b true,.c (vS r0_7) [],.b true,.b true,.b false,.b false,.b false,.b false,.b false,.b false,.b false,.b false,.b false,.b false,.b false,.b false,.b false,.b false,.b false,.b false,.b false,.b false] [4,5,7,8,10,16,19] [(1,vB false)] (obC (gtt hb5) (obC (gtt hb5) (obC hc6 (obC (gtt hb5) (obC hb5 (obC (gtf hb7) (obC (gtf hb7) (obC hb7 (obC (rfl:false=false) (obC (rfl:false=false) (obC (rfl:false=false) (obC (rfl:false=false) (obC (rfl:false=false) (obC (rfl:false=false) (obC (rfl:false=false) (obC (rfl:false=false) (obC (rfl:false=false) (obC (rfl:false=false) (obC (rfl:false=false) (obC (rfl:false=false) (obC (rfl:false=false) (obC (rfl:false=false) (obC (rfl:false=false) obN))))))))))))))))))))))) ?_
   refine tD ?_
   obtain he0:=h
   subst res
   exact (endD [] (vB false) []).1
 ·have h:=h.2 hb5
  refine sD kk [.b false,.b false,.b false,.b false,.b false,.b false,.b false,.b false,.b false,.b false,.b false,.b false,.b false,.b false,.b false,.b false,.b false,.b false,.b false,.b false,.b false,.b false] [4,5,7,8,10,16,19] [(1,vB false)] (obC (gtf hb5) (obC (gtf hb5) (obC (gtf hb5) (obC hb5 (obC (rfl:false=false) (obC (rfl:false=false) (obC (rfl:false=false) (obC (rfl:false=false) (obC (rfl:false=false) (obC (rfl:false=false) (obC (rfl:false=false) (obC (rfl:false=false) (obC (rfl:false=false) (obC (rfl:false=false) (obC (rfl:false=false) (obC (rfl:false=false) (obC (rfl:false=false) (obC (rfl:false=false) (obC (rfl:false=false) (obC (rfl:false=false) (obC (rfl:false=false) (obC (rfl:false=false) obN)))))))))))))))))))))) ?_
  refine tD ?_
  obtain he0:=h
  subst res
  exact (endD [] (vB false) []).1
set_option maxHeartbeats 1000000 in
theorem W_hecklelaw15_SplitRules (l:(List Int)) (t:(List Int)) (res:Bool)
 (h:(∃ r0:api_Spec,C_hecklelaw06_Made l false r0∧(∃ r0_1:ByteArray,C_hecklelaw05_Text t r0_1∧(∃ (Inv70:Int→Prop) (mu71:Int→Nat),Inv70 0∧(∀ (i:Int),Inv70 i→(((decide (i < (↑(List.length (api_Spec.Rules r0)):Int)))=true→(∃ (Inv95:Int→Prop) (mu96:Int→Nat),Inv95 0∧(∀ (n_2:Int),Inv95 n_2→(((decide (n_2≤(↑(ByteArray.size r0_1):Int)))=true→((0:Int)≤i)∧(Int.toNat i < List.length (api_Spec.Rules r0))∧i < ↑(List.length (api_Spec.Rules r0))∧((0:Int)≤n_2∧Int.toNat n_2≤ByteArray.size r0_1)∧(∃ r0_18:Int,C_split_Split (gd (api_Spec.Rules r0) i) (ByteArray.extract r0_1 (0:Nat) (Int.toNat n_2)) r0_18∧((0:Int)≤i)∧(Int.toNat i < List.length (api_Spec.Rules r0))∧i < ↑(List.length (api_Spec.Rules r0))∧((0:Int)≤n_2∧Int.toNat n_2≤ByteArray.size r0_1)∧(∃ r0_19:Int,C_heckleref15_Split (gd (api_Spec.Rules r0) i) (ByteArray.extract r0_1 (0:Nat) (Int.toNat n_2)) r0_19∧(((r0_18 != r0_19)=true→(res=false))∧((r0_18 != r0_19)=false→(Inv95 (w64 (n_2+1))∧mu96 (w64 (n_2+1)) < mu96 n_2))))))∧((decide (n_2≤(↑(ByteArray.size r0_1):Int)))=false→(Inv70 (w64 (i+1))∧mu71 (w64 (i+1)) < mu71 i))))))∧((decide (i < (↑(List.length (api_Spec.Rules r0)):Int)))=false→(∃ r0_20:Bool,C_hecklelaw15_awake r0_20∧(res=r0_20))))))))):C_hecklelaw15_SplitRules l t res:=by
 unfold C_hecklelaw15_SplitRules
 have kk:=cfOk [] 46
 refine fD (x:=bodyOf Try.f3) kk Try.func3 ?_
 refine wkS [1,4] [(1,vL enc_u8 l),(4,vL enc_u8 t)] (by kernel_rfl) ?_
 refine sD kk [] [] [] obN ?_
 obtain ⟨r0,hc0,h⟩:=h
 obtain ⟨r0_1,hc1,h⟩:=h
 refine sD kk [.c (.agg [vL enc_api_Cond (api_Spec.Conds r0),vB (api_Spec.Default r0),oL 38 enc_api_Rule (api_Spec.Rules r0)]) [],.c (vS r0_1) []] [1,4] [(16,.ptr 17 0),(17,.agg [vL enc_api_Cond (api_Spec.Conds r0),vB (api_Spec.Default r0),oL 38 enc_api_Rule (api_Spec.Rules r0)]),(19,vS r0_1)] (obC hc0 (obC hc1 obN)) ?_
 refine qD ?_
 refine sD kk [] [] [(22,vi 0)] obN ?_
 refine bD (id:=0) ?_
 obtain ⟨Inv70,mu71,h0Inv70,hInv70⟩:=h
 refine loD (fun (q:Int)=>(fun (i:Int)=>([(16,.ptr 17 0),(17,.agg [vL enc_api_Cond (api_Spec.Conds r0),vB (api_Spec.Default r0),oL 38 enc_api_Rule (api_Spec.Rules r0)]),(19,vS r0_1),(22,vi i)]:Sta)) q) (fun (q:Int)=>Inv70 q) (fun (q:Int)=>mu71 q) 0 [] h0Inv70 ?_
 rintro i hi
 have h:=hInv70 i hi
 refine qD ?_
 refine sDE kk [] [] [(52,vB (decide (i < (↑(List.length (List.map enc_api_Rule (api_Spec.Rules r0))):Int))))] [(52,vB (decide (i < (↑(List.length (api_Spec.Rules r0)):Int))))] obN ?_
 refine cD (t:=17) (b:=decide (i < (↑(List.length (api_Spec.Rules r0)):Int))) (fun hb72=>?_) (fun hb72=>?_)
 ·have h:=h.1 hb72
  refine Sem.skip' (by kernel_rfl) Wk.refl ?_
  show Sem _ _ _ _ _
  refine wkD [52] ?_
  refine qD ?_
  refine bD (id:=1) ?_
  refine sD kk [] [] [(25,vi 0)] obN ?_
  refine bD (id:=2) ?_
  obtain ⟨Inv95,mu96,h0Inv95,hInv95⟩:=h
  refine loD (fun (q:Int)=>(fun (n_2:Int)=>([(16,.ptr 17 0),(17,.agg [vL enc_api_Cond (api_Spec.Conds r0),vB (api_Spec.Default r0),oL 38 enc_api_Rule (api_Spec.Rules r0)]),(19,vS r0_1),(22,vi i),(25,vi n_2)]:Sta)) q) (fun (q:Int)=>Inv95 q) (fun (q:Int)=>mu96 q) 0 [] h0Inv95 ?_
  rintro n_2 hi
  have h:=hInv95 n_2 hi
  refine qD ?_
  refine sD kk [] [] [(70,vB (decide (n_2≤(↑(ByteArray.size r0_1):Int))))] obN ?_
  refine cD (t:=23) (b:=decide (n_2≤(↑(ByteArray.size r0_1):Int))) (fun hb97=>?_) (fun hb97=>?_)
  ·have h:=h.1 hb97
   refine Sem.skip' (by kernel_rfl) Wk.refl ?_
   show Sem _ _ _ _ _
   refine wkD [70] ?_
   refine qD ?_
   refine bD (id:=3) ?_
   obtain ⟨h98,h⟩:=h
   obtain ⟨h99,h⟩:=h
   obtain ⟨h100,h⟩:=h
   obtain ⟨h101,h⟩:=h
   obtain ⟨r0_18,hc102,h⟩:=h
   obtain ⟨h103,h⟩:=h
   obtain ⟨h104,h⟩:=h
   obtain ⟨h105,h⟩:=h
   obtain ⟨h106,h⟩:=h
   obtain ⟨r0_19,hc107,h⟩:=h
   refine sD kk [.e (fv_api_Rule (gd (api_Spec.Rules r0) i)),.c (vi r0_18) [],.e (fv_api_Rule (gd (api_Spec.Rules r0) i)),.c (vi r0_19) []] [] [(133,vB (r0_18 != r0_19))] (obC h98 (obC (show Int.toNat i < List.length (List.map enc_api_Rule (api_Spec.Rules r0)) from by simpa only [nm] using h99) (obC (show (List.map enc_api_Rule (api_Spec.Rules r0))[((0:Nat)+Int.toNat i:Nat)]?=some (fv_api_Rule (gd (api_Spec.Rules r0) i)) from by have:=idx_ok enc_api_Rule (api_Spec.Rules r0) i _ (enc_api_Rule_eq _) h98 h100;simpa only [nm,enq,enc_api_Rule_eq] using this) (obC (show True∧(0:Int)≤n_2∧(0:Nat)≤Int.toNat n_2∧Int.toNat n_2≤ByteArray.size r0_1 from by simpa only [nm] using h101) (obC hc102 (obC h103 (obC (show Int.toNat i < List.length (List.map enc_api_Rule (api_Spec.Rules r0)) from by simpa only [nm] using h104) (obC (show (List.map enc_api_Rule (api_Spec.Rules r0))[((0:Nat)+Int.toNat i:Nat)]?=some (fv_api_Rule (gd (api_Spec.Rules r0) i)) from by have:=idx_ok enc_api_Rule (api_Spec.Rules r0) i _ (enc_api_Rule_eq _) h103 h105;simpa only [nm,enq,enc_api_Rule_eq] using this) (obC (show True∧(0:Int)≤n_2∧(0:Nat)≤Int.toNat n_2∧Int.toNat n_2≤ByteArray.size r0_1 from by simpa only [nm] using h106) (obC hc107 obN)))))))))) ?_
   refine cD (t:=44) (b:=r0_18 != r0_19) (fun hb108=>?_) (fun hb108=>?_)
   ·have h:=h.1 hb108
    refine sD kk [] [16,17,19,22,25,133] [(13,vB false)] obN ?_
    refine tD ?_
    obtain he0:=h
    subst res
    exact (endD [] (vB false) []).1
   ·have h:=h.2 hb108
    refine Sem.skip' (by kernel_rfl) Wk.refl ?_
    show Sem _ _ _ _ _
    refine wkD [133] ?_
    refine rD kk [] [] [(25,vi (w64 (n_2+1)))] obN ?_
    exact lD (w64 (n_2+1)) [] h
  ·have h:=h.2 hb97
   refine xD (i:=2) ?_
   show Sem _ _ _ _ _
   refine wkD [25,70] ?_
   refine rD kk [] [] [(22,vi (w64 (i+1)))] obN ?_
   exact lD (w64 (i+1)) [] h
 ·have h:=h.2 hb72
  refine xD (i:=0) ?_
  show Sem _ _ _ _ _
  refine wkD [16,17,19,22,52] ?_
  obtain ⟨r0_20,hc109,h⟩:=h
  refine sD kk [.c (vB r0_20) []] [] [(13,vB r0_20)] (obC hc109 obN) ?_
  refine tD ?_
  obtain he0:=h
  subst res
  exact (endD [] (vB r0_20) []).1
end Go.Ev
set_option linter.unusedVariables false
set_option linter.unusedSimpArgs false
namespace Go.Ev
open Go Go.RowKit
variable {P : Program}
def noCE:CEx:=fun _ _ _ _ _=>False
theorem RM.wp_det {G:Sta} {U1 U2:List Up} {T1 T2:List Acc}:∀ (m:RM) (T:List Acc),m.wp noCE G T (fun U' T'=>U'=U1∧T'=T1)→m.wp noCE G T (fun U' T'=>U'=U2∧T'=T2)→U1=U2∧T1=T2
 | .ret U,T,⟨h1,h2⟩,⟨h3,h4⟩=>⟨h1.symm.trans h3,h2.symm.trans h4⟩
 | .fail,T,h,_=>h.elim
 | .ask b o k,T,⟨v,h1,h2,h3⟩,⟨v',g1,g2,g3⟩=>by
   rw [h1] at g1;cases g1
   exact RM.wp_det (k v) _ h3 g3
 | .peek b k,T,⟨v,h1,h2⟩,⟨v',g1,g2⟩=>by
   rw [h1] at g1;cases g1
   exact RM.wp_det (k _) _ h2 g2
 | .call g args outs k,T,⟨r,o,h1,h2⟩,_=>h1.elim
section
variable {CE : CEx} {c : Cfg} {G G' : Sta} {own : Own} {a : Act} {w : World} {ops : Array Oper} {X : Nat → Nat → Bool}
variable {F : Fence} {n : Nat} {Q : Exit → Act → World → Prop}
def Tp (ops:Array Oper):List Ent→Prop
 | []=>True
 | x :: r=>(∀ o,ops[x.i]?=some o→∀ e∈o.after,Region.binds .any e=true→e.on < ops.size∧∀ y∈x :: r,e.on≠y.i)∧Tp ops r
def entOkX (ops:Array Oper) (X:Nat→Nat→Bool):List Ent→Prop
 | []=>True
 | x :: r=>(∀ y∈r,anc ops ops.size x.i y.i=false→X x.i y.i=false→x.ind y)∧entOkX ops X r
theorem Tp.mid:∀ {p:List Ent} {y:Ent} {r:List Ent},Tp ops (p++y :: r)→Tp ops (p++r)
 | [],y,r,h=>h.2
 | x :: p,y,r,h=>by
   refine ⟨fun o ho e he hb=>?_,Tp.mid h.2⟩
   obtain ⟨h1,h2⟩:=h.1 o ho e he hb
   refine ⟨h1,fun z hz=>h2 z ?_⟩
   show z∈(x :: p)++y :: r
   have hz:z∈(x :: p)++r:=hz
   rcases List.mem_append.1 hz with hz | hz
   ·exact List.mem_append_left _ hz
   ·exact List.mem_append_right _ (List.mem_cons_of_mem _ hz)
theorem entOkX.mid:∀ {p:List Ent} {y:Ent} {r:List Ent},entOkX ops X (p++y :: r)→(∀ x∈p,anc ops ops.size x.i y.i=false→X x.i y.i=false→x.ind y)∧entOkX ops X (p++r)
 | [],y,r,h=>⟨fun x hx=>by simp at hx,h.2⟩
 | x :: p,y,r,h=>by
   obtain ⟨h1,h2⟩:=h
   obtain ⟨h3,h4⟩:=entOkX.mid h2
   refine ⟨fun z hz=>?_,fun z hz=>h1 z ?_,h4⟩
   ·rcases List.mem_cons.1 hz with rfl | hz
    ·exact h1 y (by simp)
    ·exact h3 z hz
   ·have hz:z∈p++r:=hz
    show z∈p++y :: r
    rcases List.mem_append.1 hz with hz | hz
    ·exact List.mem_append_left _ hz
    ·exact List.mem_append_right _ (List.mem_cons_of_mem _ hz)
structure Pl (ops:Array Oper) (X:Nat→Nat→Bool) (es:List Ent) (listed:Array Bool):Prop where
 sz:listed.size=ops.size
 cl:Closed ops listed
 ls:∀ i,i < ops.size→(listed.getD i true=false↔i∈es.map (·.i))
 lt:∀ x∈es,x.i < ops.size
 nd:(es.map (·.i)).Nodup
 tp:Tp ops es
 ok:entOkX ops X es
theorem Pl.empty {es:List Ent} {listed:Array Bool} (h:Pl ops X es listed) (hr:Region.ready .any ops listed=[]):es=[]:=by
 cases es with
 | nil=>rfl
 | cons x es=>
   exfalso
   have hx:=h.lt x (List.mem_cons_self ..)
   have:x.i∈Region.ready .any ops listed:=by
    rw [mem_ready]
    refine ⟨(h.ls x.i hx).2 (by simp),ops[x.i],by simp [hx],fun e he hb=>?_⟩
    obtain ⟨h2,h3⟩:=h.tp.1 ops[x.i] (by simp [hx]) e he hb
    cases hle:listed.getD e.on false with
    | true=>rfl
    | false=>
      have:listed.getD e.on true=false:=by
       simp only [Array.getD_eq_getD_getElem?,Array.getElem?_eq_getElem (show e.on < listed.size by rw [h.sz];exact h2),Option.getD_some] at hle ⊢;exact hle
      have:=(h.ls e.on h2).1 this
      obtain ⟨y,hy,e1⟩:=List.mem_map.1 this
      exact absurd e1.symm (h3 y hy)
   rw [hr] at this;cases this
theorem Pl.pick {es:List Ent} {listed:Array Bool} (h:Pl ops X es listed) {i:Nat} (hi:i∈Region.ready .any ops listed) (hX:∀ x∈es,x.i≠i→X x.i i=false) (hrun:Runs CE (stepRM c ops) es G G') :
 ∃ (y:Ent) (es':List Ent),y.i=i∧(stepRM c ops y.i).wp CE G [] (fun U' T'=>U'=y.U∧T'=y.T)∧Runs CE (stepRM c ops) es' (app y.U G) G'∧Pl ops X es' (listed.setIfInBounds i true)∧es'.length+1=es.length∧(∀ z∈es',z∈es)∧(∀ z∈es',z.i≠i)∧∀ z∈es,z.i≠i→z∈es':=by
 obtain ⟨h1,o,ho,hready⟩:=mem_ready.1 hi
 have hilt:i < ops.size:=(Array.getElem?_eq_some_iff.1 ho).1
 have hmem:=(h.ls i hilt).1 h1
 obtain ⟨y,hy,rfl⟩:=List.mem_map.1 hmem
 obtain ⟨p,r,rfl⟩:=List.append_of_mem hy
 obtain ⟨hm1,hm2⟩:=entOkX.mid h.ok
 have hnd:=h.nd
 have hnotin:∀ z∈p++r,z.i≠y.i:=by
  intro z hz e
  rw [List.map_append,List.map_cons,List.nodup_append,List.nodup_cons] at hnd
  rcases List.mem_append.1 hz with hz | hz
  ·exact hnd.2.2 z.i (List.mem_map.2 ⟨z,hz,rfl⟩) y.i (by simp) e
  ·exact hnd.2.1.1 (e▸List.mem_map.2 ⟨z,hz,rfl⟩)
 have hind:∀ x∈p,x.ind y:=by
  intro x hx
  refine hm1 x hx ?_ (hX x (List.mem_append_left _ hx) (hnotin x (List.mem_append_left _ hx)))
  cases ha:anc ops ops.size x.i y.i with
  | false=>rfl
  | true=>
    have hxl:=anc_listed h.sz h.cl ops.size x.i y.i ha (fun o' ho' e he hb=>by rw [ho] at ho';cases ho';exact hready e he hb)
    have hxlt:=h.lt x (List.mem_append_left _ hx)
    have:listed.getD x.i true=false:=(h.ls x.i hxlt).2 (by simp [List.mem_map];exact .inl ⟨x,hx,rfl⟩)
    have hsz:=h.sz
    simp only [Array.getD_eq_getD_getElem?,Array.getElem?_eq_getElem (show x.i < listed.size by omega),Option.getD_some] at hxl this
    rw [hxl] at this;cases this
 obtain ⟨r1,r2⟩:=Runs.front hind hrun
 have hsub:(p++r).Sublist (p++y :: r):=List.Sublist.append (List.Sublist.refl _) (List.sublist_cons_self _ _)
 refine ⟨y,p++r,rfl,r1,r2,⟨by simpa using h.sz,?_,?_,fun x hx=>h.lt x (hsub.mem hx),hnd.sublist (hsub.map _),h.tp.mid,hm2⟩,by simp;omega,fun z hz=>hsub.mem hz,hnotin,?_⟩
 ·intro j o' ho' hj e he hb
  have hlst:listed.getD e.on false=true→(listed.setIfInBounds y.i true).getD e.on false=true:=fun h=>getD_set_true h
  by_cases hjy:y.i=j
  ·subst hjy
   rw [ho] at ho';cases ho'
   exact hlst (hready e he hb)
  ·rw [getD_set_ne true hjy] at hj
   exact hlst (h.cl j o' ho' hj e he hb)
 ·intro j hj
  by_cases hjy:y.i=j
  ·subst hjy
   have hsz:=h.sz
   have:(listed.setIfInBounds y.i true).getD y.i true=true:=by
    simp [Array.getD_eq_getD_getElem?,Array.getElem?_setIfInBounds,show y.i < listed.size by omega]
   rw [this]
   simp only [Bool.true_eq_false,false_iff]
   intro hmem
   obtain ⟨z,hz,e⟩:=List.mem_map.1 hmem
   exact hnotin z hz e
  ·rw [getD_set_ne true hjy,h.ls j hj]
   simp only [List.map_append,List.map_cons,List.mem_append,List.mem_cons]
   constructor
   ·rintro (h | h | h)
    ·exact .inl h
    ·exact absurd h.symm hjy
    ·exact .inr h
   ·rintro (h | h)
    ·exact .inl h
    ·exact .inr (.inr h)
 ·intro z hz hzi
  rcases List.mem_append.1 hz with hz | hz
  ·exact List.mem_append_left _ hz
  ·rcases List.mem_cons.1 hz with rfl | hz
   ·exact absurd rfl hzi
   ·exact List.mem_append_right _ hz
theorem Pl.done {es:List Ent} {listed:Array Bool} (he:es=[]) (s:St P c.nt G own a w) (h:Runs CE (stepRM c ops) es G G')
 (hq:∀ own' a' w',St P c.nt G' own' a' w'→Tr own w own' w'→a'.defers=a.defers→Q .normal a' w'):Q .normal a w:=by
 subst he
 have:G=G':=h
 subst this
 exact hq own a w s (Tr.refl _ _) rfl
theorem Pl.end {es:List Ent} {listed:Array Bool} (h:Pl ops X es listed) (he:es=[]):Region.ready .any ops listed=[]:=by
 subst he
 cases hr:Region.ready .any ops listed with
 | nil=>rfl
 | cons i r=>
   have:i∈Region.ready .any ops listed:=by rw [hr];exact List.mem_cons_self ..
   obtain ⟨h1,o,ho,_⟩:=mem_ready.1 this
   have hi:i < ops.size:=(Array.getElem?_eq_some_iff.1 ho).1
   have:=(h.ls i hi).1 h1
   simp at this
theorem runs_one (hc:CfgOk P c) (hip:IpsOk P c) (hCE:∀ g args outs r outs',CE g args outs r outs'→CallE P g args outs r outs') (hF:WideF P F):∀ (fuel:Nat) (es:List Ent) {listed:Array Bool} {G G':Sta} {own:Own} {a:Act} {w:World},
 es.length≤fuel→Pl ops X es listed→(∀ x∈es,∀ y∈es,X x.i y.i=false)→
 St P c.nt G own a w→Runs CE (stepRM c ops) es G G'→(∀ own' a' w',St P c.nt G' own' a' w'→Tr own w own' w'→a'.defers=a.defers→Q .normal a' w')→wpAnyIn F n P .any ops Q fuel listed a w:=by
 intro fuel
 induction fuel with
 | zero=>
   intro es listed G G' own a w hf hp hX s h hq
   have he:es=[]:=List.length_eq_zero_iff.1 (by omega)
   exact ⟨hp.end he,Pl.done (listed:=listed) he s h hq⟩
 | succ fuel ih=>
   intro es listed G G' own a w hf hp hX s h hq
   refine ⟨fun hr=>Pl.done (listed:=listed) (hp.empty hr) s h hq,fun i hi=>?_⟩
   have hi1:=mem_ready.1 hi
   obtain ⟨hi1,oi,hoi,_⟩:=hi1
   have hmem:=(hp.ls i (Array.getElem?_eq_some_iff.1 hoi).1).1 hi1
   obtain ⟨z,hz,ez⟩:=List.mem_map.1 hmem
   obtain ⟨y,es',rfl,r1,r2,hp',hlen,hsub,hne,_⟩:=hp.pick hi (fun x hx _=>ez▸hX x hx z hz) h
   refine step_ent hc hip hCE hF s r1 fun own' a' w' s' t' d'=>?_
   exact ih es' (by omega) hp' (fun x hx y hy=>hX x (hsub x hx) y (hsub y hy)) s' r2 fun own2 a2 w2 s2 t2 d2=>hq own2 a2 w2 s2 (t'.trans t2) (d2.trans d')
def xp (A B:Nat) (i j:Nat):Bool:=i == A && j == B
theorem runs_two (hc:CfgOk P c) (hip:IpsOk P c) (hF:WideF P F) {A B:Nat} (hAB:A≠B):∀ (fuel:Nat) (es1 es2:List Ent) {listed:Array Bool} {G G1 G2:Sta} {own:Own} {a:Act} {w:World},
 es1.length≤fuel→Pl ops (xp A B) es1 listed→Pl ops (xp B A) es2 listed→
 St P c.nt G own a w→Runs noCE (stepRM c ops) es1 G G1→Runs noCE (stepRM c ops) es2 G G2→(∀ own' a' w',St P c.nt G1 own' a' w'→Tr own w own' w'→a'.defers=a.defers→Q .normal a' w')→(∀ own' a' w',St P c.nt G2 own' a' w'→Tr own w own' w'→a'.defers=a.defers→Q .normal a' w')→wpAnyIn F n P .any ops Q fuel listed a w:=by
 have hCE:∀ g args outs r outs',noCE g args outs r outs'→CallE P g args outs r outs':=fun _ _ _ _ _ h=>h.elim
 intro fuel
 induction fuel with
 | zero=>
   intro es1 es2 listed G G1 G2 own a w hf hp1 hp2 s h1 h2 hq hq'
   have he:es1=[]:=List.length_eq_zero_iff.1 (by omega)
   exact ⟨hp1.end he,Pl.done (listed:=listed) he s h1 hq⟩
 | succ fuel ih=>
   intro es1 es2 listed G G1 G2 own a w hf hp1 hp2 s h1 h2 hq hq'
   refine ⟨fun hr=>Pl.done (listed:=listed) (hp1.empty hr) s h1 hq,fun i hi=>?_⟩
   by_cases hA:i=A
   ·subst hA
    obtain ⟨y,es',e,r1,r2,hp',hlen,hsub,hne,_⟩:=hp1.pick hi (fun x hx hxi=>by simp only [xp,Bool.and_eq_false_imp,beq_iff_eq];intro e;exact absurd e hxi) h1
    refine e▸step_ent hc hip hCE hF s r1 fun own' a' w' s' t' d'=>?_
    rw [e]
    exact runs_one hc hip hCE hF fuel es' (by omega) hp' (fun x hx y hy=>by simp only [xp,Bool.and_eq_false_imp,beq_iff_eq];intro e;exact absurd e (hne x hx)) s' r2 fun own2 a2 w2 s2 t2 d2=>hq own2 a2 w2 s2 (t'.trans t2) (d2.trans d')
   ·by_cases hB:i=B
    ·subst hB
     obtain ⟨y,es',e,r1,r2,hp',hlen,hsub,hne,_⟩:=hp2.pick hi (fun x hx hxi=>by simp only [xp,Bool.and_eq_false_imp,beq_iff_eq];intro e;exact absurd e hxi) h2
     have hl:es2.length=es1.length:=by
      have:(es2.map (·.i)).Perm (es1.map (·.i)):=by
       refine (List.perm_ext_iff_of_nodup hp2.nd hp1.nd).2 fun j=>?_
       constructor
       ·intro hj
        obtain ⟨z,hz,rfl⟩:=List.mem_map.1 hj
        exact (hp1.ls z.i (hp2.lt z hz)).1 ((hp2.ls z.i (hp2.lt z hz)).2 hj)
       ·intro hj
        obtain ⟨z,hz,rfl⟩:=List.mem_map.1 hj
        exact (hp2.ls z.i (hp1.lt z hz)).1 ((hp1.ls z.i (hp1.lt z hz)).2 hj)
      simpa using this.length_eq
     refine e▸step_ent hc hip hCE hF s r1 fun own' a' w' s' t' d'=>?_
     rw [e]
     exact runs_one hc hip hCE hF fuel es' (by omega) hp' (fun x hx y hy=>by simp only [xp,Bool.and_eq_false_imp,beq_iff_eq];intro e;exact absurd e (hne x hx)) s' r2 fun own2 a2 w2 s2 t2 d2=>hq' own2 a2 w2 s2 (t'.trans t2) (d2.trans d')
    ·obtain ⟨y1,f1,e1,r1,r2,hp1',hlen,hsub,hne,_⟩:=hp1.pick hi (fun x hx hxi=>by simp only [xp,Bool.and_eq_false_imp,beq_iff_eq];intro _;simpa using hB) h1
     obtain ⟨y2,f2,e2,q1,q2,hp2',hlen2,hsub2,hne2,_⟩:=hp2.pick hi (fun x hx hxi=>by simp only [xp,Bool.and_eq_false_imp,beq_iff_eq];intro _;simpa using hA) h2
     obtain ⟨hU,_⟩:=RM.wp_det _ [] (e1▸r1) (e2▸q1)
     refine e1▸step_ent hc hip hCE hF s r1 fun own' a' w' s' t' d'=>?_
     rw [e1]
     exact ih f1 f2 (by omega) hp1' hp2' s' r2 (by rw [hU];exact q2) (fun own2 a2 w2 s2 t2 d2=>hq own2 a2 w2 s2 (t'.trans t2) (d2.trans d')) (fun own2 a2 w2 s2 t2 d2=>hq' own2 a2 w2 s2 (t'.trans t2) (d2.trans d'))
end
end Go.Ev
set_option linter.unusedVariables false
set_option linter.unusedSimpArgs false
namespace Go.Ev
open Go Go.RowKit
variable {P : Program}
section
variable {c : Cfg} {ops : Array Oper}
def evIx (c:Cfg) (ops:Array Oper):List Nat→List Lg→Sta→List Ora→Option (List Prop×List Lg×Sta)
 | [],log,G,q=>match q with
   | []=>some ([],log,G)
   | _=>none
 | i :: r,log,G,q=>match ops[i]? with
   | none=>none
   | some o=>match (guard2 c ops o).ev noCE G [] q with
     | some (obs,q',U,T)=>match evIx c ops r (log++[⟨i,T++Ups.refs U,Ups.writes U⟩]) (app U G) q' with
       | some (obs',log',G')=>some (obs++obs',log',G')
       | none=>none
     | none=>none
theorem evIx_runs:∀ (is:List Nat) {log log':List Lg} {G G':Sta} {q:List Ora} {obs:List Prop},evIx c ops is log G q=some (obs,log',G')→AllP obs→
 ∃ es,es.map (·.i)=is∧Runs noCE (stepRM c ops) es G G'∧log'=log++es.map Ent.lg
 | [],log,log',G,G',q,obs,h,ho=>by
   unfold evIx at h
   split at h
   ·simp only [Option.some.injEq,Prod.mk.injEq] at h;obtain ⟨rfl,rfl,rfl⟩:=h;exact ⟨[],rfl,rfl,by simp⟩
   ·cases h
 | i :: r,log,log',G,G',q,obs,h,ho=>by
   unfold evIx at h
   split at h
   ·cases h
   ·rename_i o hop
    split at h
    ·rename_i obs1 q' U T h1
     split at h
     ·rename_i obs2 log2 G2 h2
      simp only [Option.some.injEq,Prod.mk.injEq] at h
      obtain ⟨rfl,rfl,rfl⟩:=h
      obtain ⟨ho1,ho2⟩:=allP_append ho
      obtain ⟨es,e1,e2,e3⟩:=evIx_runs r h2 ho2
      refine ⟨⟨i,U,T⟩ :: es,by simp [e1],⟨?_,e2⟩,?_⟩
      ·rw [step_guard hop]
       exact le_guard _ _ _ _ (RM2.ev_wp _ h1 ho1 ⟨rfl,rfl⟩)
      ·rw [e3];simp [Ent.lg,Ent.reads]
     ·cases h
    ·cases h
def logOkX (tab:List (List Nat)) (X:Nat→Nat→Bool):List Lg→Bool
 | []=>true
 | x :: r=>r.all (fun y=>ancT tab x.i y.i || (X x.i y.i || lgOk x y)) && logOkX tab X r
theorem entOkX_spec {X:Nat→Nat→Bool} {tab:List (List Nat)} (htopo:topo ops=true) (h:ancOk ops tab=true):∀ {es:List Ent},(∀ x∈es,x.i < ops.size)→logOkX tab X (es.map Ent.lg)=true→entOkX ops X es
 | [],_,_=>trivial
 | x :: r,hlt,hes=>by
   simp only [List.map_cons,logOkX,Bool.and_eq_true] at hes
   refine ⟨fun y hy hn hx=>?_,entOkX_spec htopo h (fun z hz=>hlt z (List.mem_cons_of_mem _ hz)) hes.2⟩
   have:=List.all_eq_true.1 hes.1 y.lg (List.mem_map.2 ⟨y,hy,rfl⟩)
   simp only [Bool.or_eq_true] at this
   rcases this with h1 | h1 | h1
   ·have hy:=hlt y (List.mem_cons_of_mem _ hy)
    rw [ancOk_spec htopo h ops.size y.i x.i hy hy h1] at hn;cases hn
   ·have h1:X x.i y.i=true:=h1
    rw [h1] at hx;cases hx
   ·exact indB_spec h1
def tpB (ops:Array Oper):List Nat→Bool
 | []=>true
 | i :: r=>(match ops[i]? with
   | none=>false
   | some o=>o.after.toList.all fun e=>!Region.binds .any e || (Nat.blt e.on ops.size && (i :: r).all fun j=>!Nat.beq e.on j)) && tpB ops r
theorem tpB_spec:∀ {es:List Ent},tpB ops (es.map (·.i))=true→Tp ops es
 | [],_=>trivial
 | x :: r,h=>by
   simp only [List.map_cons,tpB,Bool.and_eq_true] at h
   refine ⟨fun o ho e he hb=>?_,tpB_spec h.2⟩
   have h1:=h.1
   rw [ho] at h1
   have h2:=List.all_eq_true.1 h1 e (Array.mem_toList_iff.2 he)
   simp only [hb,Bool.not_true,Bool.false_or,Bool.and_eq_true] at h2
   refine ⟨by have:=h2.1;simpa [Nat.blt_eq] using this,fun y hy e1=>?_⟩
   have h3:=List.all_eq_true.1 h2.2 y.i (by
    rcases List.mem_cons.1 hy with rfl | hy
    ·exact List.mem_cons_self ..
    ·exact List.mem_cons_of_mem _ (List.mem_map.2 ⟨y,hy,rfl⟩))
   rw [e1] at h3;simp at h3
def ndB:List Nat→Bool
 | []=>true
 | i :: r=>r.all (fun j=>!Nat.beq i j) && ndB r
theorem ndB_spec:∀ {l:List Nat},ndB l=true→l.Nodup
 | [],_=>List.nodup_nil
 | i :: r,h=>by
   simp only [ndB,Bool.and_eq_true] at h
   refine List.nodup_cons.2 ⟨fun hm=>?_,ndB_spec h.2⟩
   have:=List.all_eq_true.1 h.1 _ hm
   simp at this
def permB (is:List Nat) (n:Nat):Bool:=ndB is && (is.all (fun i=>Nat.blt i n) && (List.range n).all fun i=>is.any fun j=>Nat.beq i j)
def evOrd (c:Cfg) (x:Code) (A B:Nat) (is:List Nat) (q:List Ora) (G:Sta):Option (List Prop×Sta):=
 match x with
 | .region _ ops true=>match evIx c ops is [] G q with
   | some (obs,log,G')=>match permB is ops.size && (topo ops && (ancOk ops (tabOf ops) && (tpB ops is && logOkX (tabOf ops) (xp A B) log))) with
     | true=>some (obs,G')
     | false=>none
   | none=>none
 | _=>none
theorem evOrd_pl {x:Code} {A B:Nat} {is:List Nat} {q:List Ora} {G G':Sta} {obs:List Prop} {id:Nat} {ops:Array Oper} {d:Bool} (hx:x=.region id ops d) (h:evOrd c x A B is q G=some (obs,G')) (ho:AllP obs) :
 d=true∧∃ es,es.length=ops.size∧Runs noCE (stepRM c ops) es G G'∧Pl ops (xp A B) es (Array.replicate ops.size false):=by
 subst hx
 cases d with
 | false=>cases h
 | true=>
 refine ⟨rfl,?_⟩
 unfold evOrd at h
 dsimp only at h
 split at h
 ·rename_i obs' log G1 hev
  split at h
  ·rename_i hb
   simp only [Option.some.injEq,Prod.mk.injEq] at h
   obtain ⟨rfl,rfl⟩:=h
   simp only [Bool.and_eq_true] at hb
   obtain ⟨hperm,htopo,hanc,htp,hlog⟩:=hb
   simp only [permB,Bool.and_eq_true] at hperm
   obtain ⟨p1,p2,p3⟩:=hperm
   obtain ⟨es,e1,e2,e3⟩:=evIx_runs is hev ho
   have hlt:∀ x∈es,x.i < ops.size:=fun x hx=>by
    have h1:=List.all_eq_true.1 p2 x.i (by rw [← e1];exact List.mem_map.2 ⟨x,hx,rfl⟩)
    simpa [Nat.blt_eq] using h1
   have hnd:(es.map (·.i)).Nodup:=by rw [e1];exact ndB_spec p1
   have hall:∀ i,i < ops.size→i∈es.map (·.i):=fun i hi=>by
    have h1:=List.all_eq_true.1 p3 i (List.mem_range.2 hi)
    obtain ⟨j,hj,hij⟩:=List.any_eq_true.1 h1
    rw [e1,Nat.eq_of_beq_eq_true hij];exact hj
   have hsz:es.length=ops.size:=by
    have:(es.map (·.i)).Perm (List.range ops.size):=by
     refine (List.perm_ext_iff_of_nodup hnd List.nodup_range).2 fun j=>⟨fun hj=>?_,fun hj=>hall j (List.mem_range.1 hj)⟩
     obtain ⟨z,hz,rfl⟩:=List.mem_map.1 hj
     exact List.mem_range.2 (hlt z hz)
    simpa using this.length_eq
   refine ⟨es,hsz,e2,by simp,?_,?_,hlt,hnd,tpB_spec (by rw [e1];exact htp),entOkX_spec htopo hanc hlt (by rw [e3,List.nil_append] at hlog;exact hlog)⟩
   ·intro i o ho hl
    have hi:=(Array.getElem?_eq_some_iff.1 ho).1
    simp [Array.getD_eq_getD_getElem?,hi] at hl
   ·intro i hi
    simp [Array.getD_eq_getD_getElem?,hi]
    have:=hall i hi
    simpa using this
  ·cases h
 ·cases h
theorem Sem.region2 (hc:COk P c) {x:Code} {A B:Nat} (hAB:A≠B) {is1 is2:List Nat} {q1 q2:List Ora} {G G1 G2 G':Sta} {obs1 obs2:List Prop} {K:Ex→Sta→Prop} (h1:evOrd c x A B is1 q1 G=some (obs1,G1)) (h2:evOrd c x B A is2 q2 G=some (obs2,G2))
 (ho1:AllP obs1) (ho2:AllP obs2) (hw:Wk P c.nt G1 G') (hw2:Wk P c.nt G2 G') (hk:K .normal G'):Sem P c x G K:=by
 intro own a w F n Q hF s hQ
 have hx:∃ id ops d,x=.region id ops d:=by
  unfold evOrd at h1
  split at h1
  ·exact ⟨_,_,_,rfl⟩
  ·cases h1
 obtain ⟨id,ops,d,hx⟩:=hx
 obtain ⟨hd,es1,l1,r1,p1⟩:=evOrd_pl hx h1 ho1
 obtain ⟨_,es2,l2,r2,p2⟩:=evOrd_pl hx h2 ho2
 subst hd
 subst hx
 have fin:∀ {H:Sta},Wk P c.nt H G'→∀ own' a' w',St P c.nt H own' a' w'→Tr own w own' w'→a'.defers=a.defers→Q .normal a' w':=by
  intro H hw own' a' w' s' t' d'
  obtain ⟨own2,s2,t2⟩:=hw own' a' w' s'
  exact hQ .normal _ own2 a' w' hk s2 (t'.trans t2) (.same d')
 obtain ⟨s1,t1⟩:=s.drawn (w.drawn+1)
 refine wpIn_region_any hc.ro ?_
 exact runs_two hc.cfg hc.ip hF.1 hAB ops.size es1 es2 (by omega) p1 p2 s1 r1 r2 (fun own' a' w' s' t' d'=>fin hw own' a' w' s' (t1.trans t') d') (fun own' a' w' s' t' d'=>fin hw2 own' a' w' s' (t1.trans t') d')
end
def steal (b off:Nat) (G:Sta):Sta:=
 match look G b (some off) with
 | some (.rf sb j 0 n)=>match look G sb (some j) with
   | some (.own E l)=>match Nat.beq (b % 3) 1 with
     | true=>G
     | false=>app [.leaf sb j .bad,.leaf b off (.own E (l.take n))] G
   | _=>G
 | _=>G
theorem Wk.steal {c:Cfg} {G:Sta} (b off:Nat):Wk P c.nt G (Ev.steal b off G):=by
 intro own a w s
 unfold Ev.steal
 split
 ·rename_i sb j n h1
  split
  ·rename_i E l h2
   split
   ·exact ⟨own,s,Tr.refl _ _⟩
   ·rename_i hb
    have hb:b % 3≠1:=fun e=>by rw [e] at hb;simp at hb
    simp only [look,Option.bind_eq_some_iff,Option.filter_eq_some_iff] at h1
    obtain ⟨v,hg,hv,_⟩:=h1
    obtain ⟨k,arr,TT,e1,e2,e3,e4⟩:=s.boxes b v hb hg
    have hoff:off < v.leaves.length:=(List.getElem?_eq_some_iff.1 hv).1
    obtain ⟨u,hu⟩:∃ u,arr[off]?=some u:=⟨arr[off]'(by omega),by simp [show off < arr.size by omega]⟩
    have hr:SlV P G own w sb j 0 n u:=e4 off _ _ hv hu
    obtain ⟨_,hown⟩:=slv_own h2 hr
    obtain ⟨r1,s1,K1,K2⟩:=store_own (c:=c) s hb e1 (show lenOf G b=some v.leaves.length by simp [lenOf,hg]) hoff hown
    rw [setCell_self e2 hu] at s1 K2
    exact ⟨_,s1,K1.tr.trans K2.tr⟩
  ·exact ⟨own,s,Tr.refl _ _⟩
 ·exact ⟨own,s,Tr.refl _ _⟩
theorem Sem.cfg {c c':Cfg} {x:Code} {G:Sta} {K:Ex→Sta→Prop} (h1:c'.nt=c.nt) (h2:c'.rnd=c.rnd) (h:Sem P c' x G K):Sem P c x G K:=by
 unfold Sem WideC at h ⊢
 rw [h1,h2] at h
 exact h
theorem COk.vs {c:Cfg} (h:COk P c) (vs:Nat→Bool):COk P { c with vs:=vs }:=⟨h.cfg,ipsOk_same h.ip rfl rfl,h.ro⟩
def rawOf:Option (List Prop×Sta)→Sta
 | some (_,G)=>G
 | none=>[]
theorem Wk.st {c:Cfg} {G G':Sta} {keep:List Nat} (b off:Nat) (h:Ev.tidy [] keep (Ev.steal b off G)=G'):Wk P c.nt G G':=(Wk.steal b off).trans (Wk.eq h)
end Go.Ev
