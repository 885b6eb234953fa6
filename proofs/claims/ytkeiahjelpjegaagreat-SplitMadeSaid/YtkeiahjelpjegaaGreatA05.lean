import Derived.Test.YtkeiahjelpjegaaGreatA04
import Derived.Lib.RowBridge
set_option linter.unusedSimpArgs false
set_option linter.unusedVariables false
namespace Go.Ev
open Go Go.Proofs
set_option maxRecDepth 8000
set_option maxHeartbeats 1000000 in
theorem zeS (l:(List Int)) (by0:Int) (res:(List Int))
 (h:(∃ (Inv6:List Int→Int→Prop) (mu7:List Int→Int→Nat),Inv6 ([]) 0∧(∀ (out:List Int) (i:Int),Inv6 out i→(((decide (i < (↑(List.length l):Int)))=true→((0:Int)≤i)∧i < ↑(List.length l)∧((List.length out+(1:Nat)) * (8:Nat)≤(2:Nat) ^ (47:Nat))∧(Inv6 (out++[w64 (gd l i+by0)]) (w64 (i+1))∧mu7 (out++[w64 (gd l i+by0)]) (w64 (i+1)) < mu7 out i))∧((decide (i < (↑(List.length l):Int)))=false→(res=out)))))):zal l by0 res:=by
 unfold zal
 have kk:=cfOk [22] 23
 refine fD (x:=bodyOf Tryz.f147) kk Tryz.func147 ?_
 refine wkS [1,4] [(1,vL zd l),(4,vi by0)] (by kernel_rfl) ?_
 refine sD kk [] [] [] obN ?_
 refine sDE kk [] [] [(16,.own 3 ([]))] [(16,oL 3 zd ([]))] obN ?_
 refine qD ?_
 refine sD kk [] [] [(19,vi 0)] obN ?_
 refine bD (id:=0) ?_
 obtain ⟨Inv6,mu7,h0Inv6,hInv6⟩:=h
 refine loD (fun (q:List Int×Int)=>(fun (out:List Int) (i:Int)=>([(1,vL zd l),(4,vi by0),(16,oL 3 zd out),(19,vi i)]:Sta)) q.1 q.2) (fun (q:List Int×Int)=>Inv6 q.1 q.2) (fun (q:List Int×Int)=>mu7 q.1 q.2) (([]),0) [] h0Inv6 ?_
 rintro ⟨out,i⟩ hi
 have h:=hInv6 out i hi
 refine qD ?_
 refine sDE kk [] [] [(31,vB (decide (i < (↑(List.length (List.map zd l)):Int))))] [(31,vB (decide (i < (↑(List.length l):Int))))] obN ?_
 refine cD (t:=10) (b:=decide (i < (↑(List.length l):Int))) (fun hb8=>?_) (fun hb8=>?_)
 ·have h:=h.1 hb8
  refine Sem.skip' (by kernel_rfl) Wk.refl ?_
  show Sem _ _ _ _ _
  refine wkD [31] ?_
  refine qD ?_
  refine bD (id:=1) ?_
  obtain ⟨h9,h⟩:=h
  obtain ⟨h10,h⟩:=h
  obtain ⟨h11,h⟩:=h
  refine rDE kk [.e (fi (gd l i))] [] [(16,.own 3 (List.map zd out++List.take (List.length [FV.pv (Value.int IntKind.i64 (w64 (gd l i+by0)))]) (List.drop (0:Nat) [FV.pv (Value.int IntKind.i64 (w64 (gd l i+by0)))])))] [(16,oL 3 zd (out++[w64 (gd l i+by0)]))] (obC h9 (obC (zL zd l i _ rfl h9 h10) (obC (show (0:Nat)=(0:Nat)∧List.length (List.map zd out)=List.length (List.map zd out) from ⟨rfl,rfl⟩) (obC (show (List.length (List.map zd out)+List.length (List.take (1:Nat) (List.drop (0:Nat) [FV.pv (Value.int IntKind.i64 (w64 (gd l i+by0)))]))) * (8:Nat)≤(2:Nat) ^ (47:Nat) from by simpa only [nm] using h11) (obC (show List.all (List.take (1:Nat) (List.drop (0:Nat) [FV.pv (Value.int IntKind.i64 (w64 (gd l i+by0)))])) (FV.fits (1:Nat))=true from by first | exact zbo _ | rfl | simp [isByteF,FV.fits,FV.size,FV.cells,FV.one,]) obN))))) ?_
  show Sem _ _ _ _ _
  refine rD kk [] [] [(19,vi (w64 (i+1)))] obN ?_
  exact lD ((out++[w64 (gd l i+by0)]),(w64 (i+1))) [] h
 ·have h:=h.2 hb8
  refine xD (i:=0) ?_
  show Sem _ _ _ _ _
  refine wkD [1,4,19,31] ?_
  refine sD kk [] [16] [(13,oL 3 zd out)] obN ?_
  refine tD ?_
  obtain he0:=h
  subst res
  exact (endD [] (oL 3 zd out) []).1
set_option maxHeartbeats 1000000 in
theorem zfy (a:zc) (b:zc) (res:zc)
 (h:(List.length (zc.Sets a) * (32:Nat)≤(2:Nat) ^ (47:Nat))∧((List.length (zc.Sets a)+List.length (zc.Sets b)) * (32:Nat)≤(2:Nat) ^ (47:Nat))∧(∃ (Inv8:List (List Int)→Int→Prop) (mu9:List (List Int)→Int→Nat),Inv8 ([]) 0∧(∀ (out_Follow:List (List Int)) (i:Int),Inv8 out_Follow i→(((decide (i < (↑(List.length (zc.Follow a)):Int)))=true→((0:Int)≤i)∧i < ↑(List.length (zc.Follow a))∧((List.length out_Follow+(1:Nat)) * (24:Nat)≤(2:Nat) ^ (47:Nat))∧(Inv8 (out_Follow++[gd (zc.Follow a) i]) (w64 (i+1))∧mu9 (out_Follow++[gd (zc.Follow a) i]) (w64 (i+1)) < mu9 out_Follow i))∧((decide (i < (↑(List.length (zc.Follow a)):Int)))=false→(∃ (Inv23:List (List Int)→Int→Prop) (mu24:List (List Int)→Int→Nat),Inv23 out_Follow 0∧(∀ (out_Follow_1:List (List Int)) (i_1:Int),Inv23 out_Follow_1 i_1→(((decide (i_1 < (↑(List.length (zc.Follow b)):Int)))=true→((0:Int)≤i_1)∧i_1 < ↑(List.length (zc.Follow b))∧(∃ r0_2:List Int,zal (gd (zc.Follow b) i_1) ((↑(List.length (zc.Sets a)):Int)) r0_2∧((List.length out_Follow_1+(1:Nat)) * (24:Nat)≤(2:Nat) ^ (47:Nat))∧(Inv23 (out_Follow_1++[r0_2]) (w64 (i_1+1))∧mu24 (out_Follow_1++[r0_2]) (w64 (i_1+1)) < mu24 out_Follow_1 i_1)))∧((decide (i_1 < (↑(List.length (zc.Follow b)):Int)))=false→(res=({ Sets:=zc.Sets a++zc.Sets b,First:=[],Last:=[],Follow:=out_Follow_1,Null:=false }))))))))))):zao a b res:=by
 unfold zao
 have kk:=cfOk [55] 56
 refine fD (x:=bodyOf Tryz.f146) kk Tryz.func146 ?_
 refine wkS [1,4] [(1,zn a),(4,zn b)] (by kernel_rfl) ?_
 refine sDE kk [] [1,4] [(7,.ptr 8 0),(8,zn a),(10,.ptr 11 0),(11,zn b),(13,.ptr 14 0),(14,.agg [.own 25 ([]),.own 3 ([]),.own 3 ([]),.own 40 ([]),vB false])] [(7,.ptr 8 0),(8,zn a),(10,.ptr 11 0),(11,zn b),(13,.ptr 14 0),(14,.agg [oL 25 zf ([]),oL 3 zd ([]),oL 3 zd ([]),oL 40 zj ([]),vB false])] obN ?_
 refine sDE kk [] [] [(16,vi ((↑(List.length (List.map zf (zc.Sets a))):Int)))] [(16,vi ((↑(List.length (zc.Sets a)):Int)))] obN ?_
 obtain ⟨h0,h⟩:=h
 obtain ⟨h1,h⟩:=h
 refine sDE kk [] [] [(19,.ptr 20 0),(20,.agg [.f (FV.sl (List.take (List.length (List.map zf (zc.Sets a)++List.map zf (zc.Sets b))) (List.drop (0:Nat) (List.map zf (zc.Sets a)++List.map zf (zc.Sets b))))),.own 3 ([]),.own 3 ([]),.own 40 ([]),vB false])] [(19,.ptr 20 0),(20,.agg [vL zf (zc.Sets a++zc.Sets b),oL 3 zd ([]),oL 3 zd ([]),oL 40 zj ([]),vB false])] (obC (show ((0:Nat)+List.length (List.map zf (zc.Sets a))) * (32:Nat)≤(2:Nat) ^ (47:Nat) from by simpa only [nm] using h0) (obC (show List.all (List.map zf (zc.Sets a)) (FV.fits (4:Nat))=true from by first | exact zdv _ | rfl | simp [isByteF,FV.fits,FV.size,FV.cells,FV.one,zaS]) (obC (show (List.length (List.map zf (zc.Sets a))+List.length (List.map zf (zc.Sets b))) * (32:Nat)≤(2:Nat) ^ (47:Nat) from by simpa only [nm] using h1) (obC (show List.all (List.map zf (zc.Sets b)) (FV.fits (4:Nat))=true from by first | exact zdv _ | rfl | simp [isByteF,FV.fits,FV.size,FV.cells,FV.one,zaS]) obN)))) ?_
 refine qD ?_
 refine sD kk [] [] [(22,vi 0)] obN ?_
 refine bD (id:=0) ?_
 obtain ⟨Inv8,mu9,h0Inv8,hInv8⟩:=h
 refine loD (fun (q:List (List Int)×Int)=>(fun (out_Follow:List (List Int)) (i:Int)=>([(7,.ptr 8 0),(8,zn a),(10,.ptr 11 0),(11,zn b),(13,.ptr 14 0),(14,.agg [oL 25 zf ([]),oL 3 zd ([]),oL 3 zd ([]),oL 40 zj ([]),vB false]),(16,vi ((↑(List.length (zc.Sets a)):Int))),(19,.ptr 20 0),(20,.agg [vL zf (zc.Sets a++zc.Sets b),oL 3 zd ([]),oL 3 zd ([]),oL 40 zj out_Follow,vB false]),(22,vi i)]:Sta)) q.1 q.2) (fun (q:List (List Int)×Int)=>Inv8 q.1 q.2) (fun (q:List (List Int)×Int)=>mu9 q.1 q.2) (([]),0) [] h0Inv8 ?_
 rintro ⟨out_Follow,i⟩ hi
 have h:=hInv8 out_Follow i hi
 refine qD ?_
 refine sDE kk [] [] [(70,vB (decide (i < (↑(List.length (List.map zj (zc.Follow a))):Int))))] [(70,vB (decide (i < (↑(List.length (zc.Follow a)):Int))))] obN ?_
 refine cD (t:=23) (b:=decide (i < (↑(List.length (zc.Follow a)):Int))) (fun hb10=>?_) (fun hb10=>?_)
 ·have h:=h.1 hb10
  refine Sem.skip' (by kernel_rfl) Wk.refl ?_
  show Sem _ _ _ _ _
  refine wkD [70] ?_
  refine qD ?_
  refine bD (id:=1) ?_
  obtain ⟨h11,h⟩:=h
  obtain ⟨h12,h⟩:=h
  obtain ⟨h13,h⟩:=h
  refine rDE kk [.e (fL zd (gd (zc.Follow a) i))] [] [(20,.agg [vL zf (zc.Sets a++zc.Sets b),oL 3 zd ([]),oL 3 zd ([]),.own 40 (List.map zj out_Follow++List.take (List.length [FV.sl (List.map zd (gd (zc.Follow a) i))]) (List.drop (0:Nat) [FV.sl (List.map zd (gd (zc.Follow a) i))])),vB false])] [(20,.agg [vL zf (zc.Sets a++zc.Sets b),oL 3 zd ([]),oL 3 zd ([]),oL 40 zj (out_Follow++[gd (zc.Follow a) i]),vB false])] (obC h11 (obC (zL zj (zc.Follow a) i _ rfl h11 h12) (obC (show (0:Nat)=(0:Nat)∧List.length (List.map zj out_Follow)=List.length (List.map zj out_Follow) from ⟨rfl,rfl⟩) (obC (show (List.length (List.map zj out_Follow)+List.length (List.take (1:Nat) (List.drop (0:Nat) [FV.sl (List.map zd (gd (zc.Follow a) i))]))) * (24:Nat)≤(2:Nat) ^ (47:Nat) from by simpa only [nm] using h13) (obC (show List.all (List.take (1:Nat) (List.drop (0:Nat) [FV.sl (List.map zd (gd (zc.Follow a) i))])) (FV.fits (1:Nat))=true from by first | exact zbo _ | rfl | simp [isByteF,FV.fits,FV.size,FV.cells,FV.one,zd]) obN))))) ?_
  show Sem _ _ _ _ _
  refine rD kk [] [] [(22,vi (w64 (i+1)))] obN ?_
  exact lD ((out_Follow++[gd (zc.Follow a) i]),(w64 (i+1))) [] h
 ·have h:=h.2 hb10
  refine xD (i:=0) ?_
  show Sem _ _ _ _ _
  refine wkD [7,8,22,70] ?_
  refine qD ?_
  refine sD kk [] [] [(25,vi 0)] obN ?_
  refine bD (id:=2) ?_
  obtain ⟨Inv23,mu24,h0Inv23,hInv23⟩:=h
  refine loD (fun (q:List (List Int)×Int)=>(fun (out_Follow_1:List (List Int)) (i_1:Int)=>([(10,.ptr 11 0),(11,zn b),(13,.ptr 14 0),(14,.agg [oL 25 zf ([]),oL 3 zd ([]),oL 3 zd ([]),oL 40 zj ([]),vB false]),(16,vi ((↑(List.length (zc.Sets a)):Int))),(19,.ptr 20 0),(20,.agg [vL zf (zc.Sets a++zc.Sets b),oL 3 zd ([]),oL 3 zd ([]),oL 40 zj out_Follow_1,vB false]),(25,vi i_1)]:Sta)) q.1 q.2) (fun (q:List (List Int)×Int)=>Inv23 q.1 q.2) (fun (q:List (List Int)×Int)=>mu24 q.1 q.2) (out_Follow,0) [] h0Inv23 ?_
  rintro ⟨out_Follow_1,i_1⟩ hi
  have h:=hInv23 out_Follow_1 i_1 hi
  refine qD ?_
  refine sDE kk [] [] [(121,vB (decide (i_1 < (↑(List.length (List.map zj (zc.Follow b))):Int))))] [(121,vB (decide (i_1 < (↑(List.length (zc.Follow b)):Int))))] obN ?_
  refine cD (t:=40) (b:=decide (i_1 < (↑(List.length (zc.Follow b)):Int))) (fun hb25=>?_) (fun hb25=>?_)
  ·have h:=h.1 hb25
   refine Sem.skip' (by kernel_rfl) Wk.refl ?_
   show Sem _ _ _ _ _
   refine wkD [121] ?_
   refine qD ?_
   refine bD (id:=3) ?_
   obtain ⟨h26,h⟩:=h
   obtain ⟨h27,h⟩:=h
   obtain ⟨r0_2,hc28,h⟩:=h
   obtain ⟨h29,h⟩:=h
   refine rDE kk [.e (fL zd (gd (zc.Follow b) i_1)),.c (oL 3 zd r0_2) []] [] [(20,.agg [vL zf (zc.Sets a++zc.Sets b),oL 3 zd ([]),oL 3 zd ([]),.own 40 (List.map zj out_Follow_1++List.take (List.length [FV.sl (List.take (List.length (List.map zd r0_2)) (List.drop (0:Nat) (List.map zd r0_2)))]) (List.drop (0:Nat) [FV.sl (List.take (List.length (List.map zd r0_2)) (List.drop (0:Nat) (List.map zd r0_2)))])),vB false])] [(20,.agg [vL zf (zc.Sets a++zc.Sets b),oL 3 zd ([]),oL 3 zd ([]),oL 40 zj (out_Follow_1++[r0_2]),vB false])] (obC h26 (obC (zL zj (zc.Follow b) i_1 _ rfl h26 h27) (obC hc28 (obC (show (0:Nat)=(0:Nat)∧List.length (List.map zj out_Follow_1)=List.length (List.map zj out_Follow_1) from ⟨rfl,rfl⟩) (obC (show (List.length (List.map zj out_Follow_1)+List.length (List.take (1:Nat) (List.drop (0:Nat) [FV.sl (List.take (List.length (List.map zd r0_2)) (List.drop (0:Nat) (List.map zd r0_2)))]))) * (24:Nat)≤(2:Nat) ^ (47:Nat) from by simpa only [nm] using h29) (obC (show List.all (List.take (1:Nat) (List.drop (0:Nat) [FV.sl (List.take (List.length (List.map zd r0_2)) (List.drop (0:Nat) (List.map zd r0_2)))])) (FV.fits (1:Nat))=true from by first | exact zbo _ | rfl | simp [isByteF,FV.fits,FV.size,FV.cells,FV.one,zd]) obN)))))) ?_
   show Sem _ _ _ _ _
   refine rD kk [] [] [(25,vi (w64 (i_1+1)))] obN ?_
   exact lD ((out_Follow_1++[r0_2]),(w64 (i_1+1))) [] h
  ·have h:=h.2 hb25
   refine xD (i:=2) ?_
   show Sem _ _ _ _ _
   refine wkD [10,11,16,25,121] ?_
   refine sD kk [] [19,20] [(14,.agg [vL zf (zc.Sets a++zc.Sets b),oL 3 zd ([]),oL 3 zd ([]),oL 40 zj out_Follow_1,vB false])] (obC (show (0:Nat)=(0:Nat)∧(0:Nat)=List.length (List.map zd []) from by first | decide | rfl | trivial) (obC (show (0:Nat)=(0:Nat)∧(0:Nat)=List.length (List.map zd []) from by first | decide | rfl | trivial) (obC (show (0:Nat)=(0:Nat)∧List.length (List.map zj out_Follow_1)=List.length (List.map zj out_Follow_1) from ⟨rfl,rfl⟩) obN))) ?_
   refine tD ?_
   obtain he0:=h
   subst res
   exact (endD [] (.agg [vL zf (zc.Sets a++zc.Sets b),oL 3 zd ([]),oL 3 zd ([]),oL 40 zj out_Follow_1,vB false]) []).1
set_option maxHeartbeats 1000000 in
theorem zgc (a:(List Int)) (b:(List Int)) (res:(List Int))
 (h:(∃ (Inv38:List Int→Int→Int→Prop) (mu39:List Int→Int→Int→Nat),Inv38 ([]) 0 0∧(∀ (out:List Int) (i:Int) (k:Int),Inv38 out i k→(((decide (i < (↑(List.length (List.map zd a)):Int)) || decide (k < (↑(List.length b):Int)))=true→((k == (↑(List.length (List.map zd b)):Int))=false→((decide (i < (↑(List.length (List.map zd a)):Int)))=true→((0:Int)≤i)))∧((k == (↑(List.length (List.map zd b)):Int))=false→((decide (i < (↑(List.length (List.map zd a)):Int)))=true→i < ↑(List.length a)))∧((k == (↑(List.length (List.map zd b)):Int))=false→((decide (i < (↑(List.length (List.map zd a)):Int)))=true→((0:Int)≤k)))∧((k == (↑(List.length (List.map zd b)):Int))=false→((decide (i < (↑(List.length (List.map zd a)):Int)))=true→k < ↑(List.length b)))∧(((k == (↑(List.length (List.map zd b)):Int) || decide (i < (↑(List.length (List.map zd a)):Int)) && decide (gd a i < gd b k))=true→((0:Int)≤i)∧i < ↑(List.length a)∧((List.length out+(1:Nat)) * (8:Nat)≤(2:Nat) ^ (47:Nat))∧(Inv38 (out++[gd a i]) (w64 (i+1)) k∧mu39 (out++[gd a i]) (w64 (i+1)) k < mu39 out i k))∧((k == (↑(List.length (List.map zd b)):Int) || decide (i < (↑(List.length (List.map zd a)):Int)) && decide (gd a i < gd b k))=false→((i == (↑(List.length (List.map zd a)):Int))=false→((0:Int)≤k))∧((i == (↑(List.length (List.map zd a)):Int))=false→k < ↑(List.length b))∧((i == (↑(List.length (List.map zd a)):Int))=false→((0:Int)≤i))∧((i == (↑(List.length (List.map zd a)):Int))=false→i < ↑(List.length a))∧(((i == (↑(List.length (List.map zd a)):Int) || decide (gd b k < gd a i))=true→((0:Int)≤k)∧k < ↑(List.length b)∧((List.length out+(1:Nat)) * (8:Nat)≤(2:Nat) ^ (47:Nat))∧(Inv38 (out++[gd b k]) i (w64 (k+1))∧mu39 (out++[gd b k]) i (w64 (k+1)) < mu39 out i k))∧((i == (↑(List.length (List.map zd a)):Int) || decide (gd b k < gd a i))=false→((0:Int)≤i)∧i < ↑(List.length a)∧((List.length out+(1:Nat)) * (8:Nat)≤(2:Nat) ^ (47:Nat))∧(Inv38 (out++[gd a i]) (w64 (i+1)) (w64 (k+1))∧mu39 (out++[gd a i]) (w64 (i+1)) (w64 (k+1)) < mu39 out i k))))))∧((decide (i < (↑(List.length (List.map zd a)):Int)) || decide (k < (↑(List.length b):Int)))=false→(res=out)))))):zR a b res:=by
 unfold zR
 have kk:=cfOk [85] 86
 refine fD (x:=bodyOf Tryz.f47) kk Tryz.func47 ?_
 refine wkS [1,4] [(1,vL zd a),(4,vL zd b)] (by kernel_rfl) ?_
 refine sD kk [] [] [] obN ?_
 refine sDE kk [] [] [(16,.own 3 ([]))] [(16,oL 3 zd ([]))] obN ?_
 refine sD kk [] [] [(19,vi 0),(22,vi 0)] obN ?_
 refine qD ?_
 refine bD (id:=0) ?_
 obtain ⟨Inv38,mu39,h0Inv38,hInv38⟩:=h
 refine loD (fun (q:List Int×Int×Int)=>(fun (out:List Int) (i:Int) (k:Int)=>([(1,vL zd a),(4,vL zd b),(16,oL 3 zd out),(19,vi i),(22,vi k)]:Sta)) q.1 q.2.1 q.2.2) (fun (q:List Int×Int×Int)=>Inv38 q.1 q.2.1 q.2.2) (fun (q:List Int×Int×Int)=>mu39 q.1 q.2.1 q.2.2) (([]),0,0) [] h0Inv38 ?_
 rintro ⟨out,i,k⟩ hi
 have h:=hInv38 out i k hi
 refine qD ?_
 refine sM [] [(52,vB (decide (i < (↑(List.length (List.map zd a)):Int)) || decide (k < (↑(List.length b):Int))))] ?_ (fun hk0=>?_)
 ·refine cD (t:=17) (b:=decide (i < (↑(List.length (List.map zd a)):Int)) || decide (k < (↑(List.length b):Int))) (fun hb41=>?_) (fun hb41=>?_)
  ·have h:=h.1 hb41
   refine Sem.skip' (by kernel_rfl) Wk.refl ?_
   show Sem _ _ _ _ _
   refine wkD [52] ?_
   refine bD (id:=1) ?_
   refine bD (id:=2) ?_
   obtain ⟨h44,h45,h46,h47,h⟩:=h
   refine sM [] [(88,vB (k == (↑(List.length (List.map zd b)):Int) || decide (i < (↑(List.length (List.map zd a)):Int)) && decide (gd a i < gd b k)))] ?_ (fun hk0=>?_)
   ·refine cD (t:=29) (b:=k == (↑(List.length (List.map zd b)):Int) || decide (i < (↑(List.length (List.map zd a)):Int)) && decide (gd a i < gd b k)) (fun hb48=>?_) (fun hb48=>?_)
    ·have h:=h.1 hb48
     obtain ⟨h49,h⟩:=h
     obtain ⟨h50,h⟩:=h
     obtain ⟨h51,h⟩:=h
     refine sDE kk [.e (fi (gd a i))] [88] [(16,.own 3 (List.map zd out++List.take (List.length [FV.pv (Value.int IntKind.i64 (gd a i))]) (List.drop (0:Nat) [FV.pv (Value.int IntKind.i64 (gd a i))])))] [(16,oL 3 zd (out++[gd a i]))] (obC h49 (obC (zL zd a i _ rfl h49 h50) (obC (show (0:Nat)=(0:Nat)∧List.length (List.map zd out)=List.length (List.map zd out) from ⟨rfl,rfl⟩) (obC (show (List.length (List.map zd out)+List.length (List.take (1:Nat) (List.drop (0:Nat) [FV.pv (Value.int IntKind.i64 (gd a i))]))) * (8:Nat)≤(2:Nat) ^ (47:Nat) from by simpa only [nm] using h51) (obC (show List.all (List.take (1:Nat) (List.drop (0:Nat) [FV.pv (Value.int IntKind.i64 (gd a i))])) (FV.fits (1:Nat))=true from by first | exact zbo _ | rfl | simp [isByteF,FV.fits,FV.size,FV.cells,FV.one,]) obN))))) ?_
     refine rD kk [] [] [(19,vi (w64 (i+1)))] obN ?_
     exact lD ((out++[gd a i]),(w64 (i+1)),k) [] h
    ·have h:=h.2 hb48
     obtain ⟨h53,h54,h55,h56,h⟩:=h
     refine sM [88] [(181,vB (i == (↑(List.length (List.map zd a)):Int) || decide (gd b k < gd a i)))] ?_ (fun hk0=>?_)
     ·refine cD (t:=60) (b:=i == (↑(List.length (List.map zd a)):Int) || decide (gd b k < gd a i)) (fun hb57=>?_) (fun hb57=>?_)
      ·have h:=h.1 hb57
       obtain ⟨h58,h⟩:=h
       obtain ⟨h59,h⟩:=h
       obtain ⟨h60,h⟩:=h
       refine sDE kk [.e (fi (gd b k))] [181] [(16,.own 3 (List.map zd out++List.take (List.length [FV.pv (Value.int IntKind.i64 (gd b k))]) (List.drop (0:Nat) [FV.pv (Value.int IntKind.i64 (gd b k))])))] [(16,oL 3 zd (out++[gd b k]))] (obC h58 (obC (zL zd b k _ rfl h58 h59) (obC (show (0:Nat)=(0:Nat)∧List.length (List.map zd out)=List.length (List.map zd out) from ⟨rfl,rfl⟩) (obC (show (List.length (List.map zd out)+List.length (List.take (1:Nat) (List.drop (0:Nat) [FV.pv (Value.int IntKind.i64 (gd b k))]))) * (8:Nat)≤(2:Nat) ^ (47:Nat) from by simpa only [nm] using h60) (obC (show List.all (List.take (1:Nat) (List.drop (0:Nat) [FV.pv (Value.int IntKind.i64 (gd b k))])) (FV.fits (1:Nat))=true from by first | exact zbo _ | rfl | simp [isByteF,FV.fits,FV.size,FV.cells,FV.one,]) obN))))) ?_
       refine rD kk [] [] [(22,vi (w64 (k+1)))] obN ?_
       exact lD ((out++[gd b k]),i,(w64 (k+1))) [] h
      ·have h:=h.2 hb57
       obtain ⟨h61,h⟩:=h
       obtain ⟨h62,h⟩:=h
       obtain ⟨h63,h⟩:=h
       refine sDE kk [.e (fi (gd a i))] [181] [(16,.own 3 (List.map zd out++List.take (List.length [FV.pv (Value.int IntKind.i64 (gd a i))]) (List.drop (0:Nat) [FV.pv (Value.int IntKind.i64 (gd a i))])))] [(16,oL 3 zd (out++[gd a i]))] (obC h61 (obC (zL zd a i _ rfl h61 h62) (obC (show (0:Nat)=(0:Nat)∧List.length (List.map zd out)=List.length (List.map zd out) from ⟨rfl,rfl⟩) (obC (show (List.length (List.map zd out)+List.length (List.take (1:Nat) (List.drop (0:Nat) [FV.pv (Value.int IntKind.i64 (gd a i))]))) * (8:Nat)≤(2:Nat) ^ (47:Nat) from by simpa only [nm] using h63) (obC (show List.all (List.take (1:Nat) (List.drop (0:Nat) [FV.pv (Value.int IntKind.i64 (gd a i))])) (FV.fits (1:Nat))=true from by first | exact zbo _ | rfl | simp [isByteF,FV.fits,FV.size,FV.cells,FV.one,]) obN))))) ?_
       refine sD kk [] [] [(19,vi (w64 (i+1)))] obN ?_
       refine rD kk [] [] [(22,vi (w64 (k+1)))] obN ?_
       exact lD ((out++[gd a i]),(w64 (i+1)),(w64 (k+1))) [] h
     ·rcases Bool.eq_false_or_eq_true (i == (↑(List.length (List.map zd a)):Int)) with hb52 | hb52
      ·refine sD kk [bF,bF,bF,bF,bF,bF,bF,bF,bF,bT] [88] [(181,vB true)] (obC (gff hb52) (obC (gff hb52) (obC (gff hb52) (obC (gff hb52) (obC (gff hb52) (obC (gff hb52) (obC (gff hb52) (obC (gff hb52) (obC (gff hb52) (obC hb52 obN)))))))))) ?_
       exact Sem.cast (by try rw [hb52];kernel_rfl) hk0
      ·refine sD kk [bT,bT,bT,.e (fi (gd b k)),bT,bT,bT,bT,.e (fi (gd a i)),bT,bT,bF] [88] [(181,vB (decide (gd b k < gd a i)))] (obC (gft hb52) (obC (gft hb52) (obC (gft hb52) (obC (h53 hb52) (obC (zL zd b k _ rfl (h53 hb52) (h54 hb52)) (obC (gft hb52) (obC (gft hb52) (obC (gft hb52) (obC (gft hb52) (obC (h55 hb52) (obC (zL zd a i _ rfl (h55 hb52) (h56 hb52)) (obC (gft hb52) (obC (gft hb52) (obC hb52 obN)))))))))))))) ?_
       exact Sem.cast (by try rw [hb52];kernel_rfl) hk0
   ·rcases Bool.eq_false_or_eq_true (k == (↑(List.length (List.map zd b)):Int)) with hb42 | hb42
    ·refine sD kk [bF,bF,bF,bF,bF,bF,bT] [] [(88,vB true)] (obC (gff hb42) (obC (gff hb42) (obC (gff hb42) (obC (gff hb42) (obC (gff hb42) (obC (gff hb42) (obC hb42 obN))))))) ?_
     exact Sem.cast (by try rw [hb42];kernel_rfl) hk0
    ·rcases Bool.eq_false_or_eq_true (decide (i < (↑(List.length (List.map zd a)):Int))) with hb43 | hb43
     ·refine sD kk [bT,bT,bT,bT,bT,bT,bT,bT,.e (fi (gd a i)),bT,bT,bT,bT,.e (fi (gd b k)),bT,bT,bT,bT,bF] [] [(88,vB (decide (gd a i < gd b k)))] (obC (gft hb42) (obC (gft hb42) (obC (gft hb42) (obC (gft hb42) (obC (gft hb42) (obC (gtt hb43) (obC (gtt hb43) (obC (gtt hb43) (obC ((h44 hb42) hb43) (obC (zL zd a i _ rfl ((h44 hb42) hb43) ((h45 hb42) hb43)) (obC (gtt hb43) (obC (gtt hb43) (obC (gtt hb43) (obC (gtt hb43) (obC ((h46 hb42) hb43) (obC (zL zd b k _ rfl ((h46 hb42) hb43) ((h47 hb42) hb43)) (obC (gtt hb43) (obC (gtt hb43) (obC (gft hb42) (obC hb43 (obC hb42 obN))))))))))))))))))))) ?_
      exact Sem.cast (by try rw [hb42];try rw [hb43];kernel_rfl) hk0
     ·refine sD kk [bT,bT,bT,bT,bT,bF,bF,bF,bF,bF,bF,bF,bF,bF,bT,bF,bF] [] [(88,vB false)] (obC (gft hb42) (obC (gft hb42) (obC (gft hb42) (obC (gft hb42) (obC (gft hb42) (obC (gtf hb43) (obC (gtf hb43) (obC (gtf hb43) (obC (gtf hb43) (obC (gtf hb43) (obC (gtf hb43) (obC (gtf hb43) (obC (gtf hb43) (obC (gtf hb43) (obC (gft hb42) (obC hb43 (obC hb42 obN))))))))))))))))) ?_
      exact Sem.cast (by try rw [hb42];try rw [hb43];kernel_rfl) hk0
  ·have h:=h.2 hb41
   refine xD (i:=0) ?_
   show Sem _ _ _ _ _
   refine wkD [1,4,19,22,52] ?_
   refine sD kk [] [16] [(13,oL 3 zd out)] obN ?_
   refine tD ?_
   obtain he0:=h
   subst res
   exact (endD [(13,0)] (vL zd out) []).1
 ·rcases Bool.eq_false_or_eq_true (decide (i < (↑(List.length (List.map zd a)):Int))) with hb40 | hb40
  ·refine sD kk [bF,bF,bF,bF,bT] [] [(52,vB true)] (obC (gff hb40) (obC (gff hb40) (obC (gff hb40) (obC (gff hb40) (obC hb40 obN))))) ?_
   exact Sem.cast (by try rw [hb40];kernel_rfl) hk0
  ·refine sDE kk [bT,bT,bT,bT,bF] [] [(52,vB (decide (k < (↑(List.length (List.map zd b)):Int))))] [(52,vB (decide (k < (↑(List.length b):Int))))] (obC (gft hb40) (obC (gft hb40) (obC (gft hb40) (obC (gft hb40) (obC hb40 obN))))) ?_
   exact Sem.cast (by try rw [hb40];kernel_rfl) hk0
set_option maxHeartbeats 1000000 in
theorem zga (a:zc) (b:zc) (res:zc)
 (h:(∃ r0:zc,zao a b r0∧(∃ r0_1:List Int,zal (zc.First b) ((↑(List.length (zc.Sets a)):Int)) r0_1∧(∃ r0_2:List Int,zal (zc.Last b) ((↑(List.length (zc.Sets a)):Int)) r0_2∧(∃ (Inv25:List (List Int)→Int→Prop) (mu26:List (List Int)→Int→Nat),Inv25 (zc.Follow r0) 0∧(∀ (out_Follow:List (List Int)) (i:Int),Inv25 out_Follow i→(((decide (i < (↑(List.length (zc.Last a)):Int)))=true→((0:Int)≤i)∧i < ↑(List.length (zc.Last a))∧((0:Int)≤i)∧i < ↑(List.length (zc.Last a))∧((0:Int)≤gd (zc.Last a) i)∧(Int.toNat (gd (zc.Last a) i) < List.length out_Follow)∧gd (zc.Last a) i < ↑(List.length out_Follow)∧(∃ r0_5:List Int,zR (gd out_Follow (gd (zc.Last a) i)) r0_1 r0_5∧((0:Int)≤gd (zc.Last a) i)∧(Int.toNat (gd (zc.Last a) i) < List.length out_Follow)∧gd (zc.Last a) i < ↑(List.length out_Follow)∧(Inv25 (List.set out_Follow (Int.toNat (gd (zc.Last a) i)) r0_5) (w64 (i+1))∧mu26 (List.set out_Follow (Int.toNat (gd (zc.Last a) i)) r0_5) (w64 (i+1)) < mu26 out_Follow i)))∧((decide (i < (↑(List.length (zc.Last a)):Int)))=false→(∃ J41:List Int→Prop,(∀ (out_First:List Int),J41 out_First→(∃ J44:List Int→Prop,(∀ (out_Last:List Int),J44 out_Last→(res=({ Sets:=zc.Sets r0,First:=out_First,Last:=out_Last,Follow:=out_Follow,Null:=zc.Null a && zc.Null b })))∧(((zc.Null b)=true→(∃ r0_8:List Int,zR (zc.Last a) r0_2 r0_8∧J44 r0_8))∧((zc.Null b)=false→J44 r0_2))))∧(((zc.Null a)=true→(∃ r0_9:List Int,zR (zc.First a) r0_1 r0_9∧J41 r0_9))∧((zc.Null a)=false→J41 (zc.First a)))))))))))):zT a b res:=by
 unfold zT
 have kk:=cfOk [76] 77
 refine fD (x:=bodyOf Tryz.f131) kk Tryz.func131 ?_
 refine wkS [1,4] [(1,zn a),(4,zn b)] (by kernel_rfl) ?_
 refine sDE kk [] [1,4] [(7,.ptr 8 0),(8,zn a),(10,.ptr 11 0),(11,zn b),(13,.ptr 14 0),(14,.agg [.own 25 ([]),.own 3 ([]),.own 3 ([]),.own 40 ([]),vB false])] [(7,.ptr 8 0),(8,zn a),(10,.ptr 11 0),(11,zn b),(13,.ptr 14 0),(14,.agg [oL 25 zf ([]),oL 3 zd ([]),oL 3 zd ([]),oL 40 zj ([]),vB false])] obN ?_
 refine sDE kk [] [] [(16,vi ((↑(List.length (List.map zf (zc.Sets a))):Int)))] [(16,vi ((↑(List.length (zc.Sets a)):Int)))] obN ?_
 obtain ⟨r0,hc0,h⟩:=h
 refine sD kk [.c (.agg [vL zf (zc.Sets r0),oL 3 zd (zc.First r0),oL 3 zd (zc.Last r0),oL 40 zj (zc.Follow r0),vB (zc.Null r0)]) []] [] [(19,.ptr 20 0),(20,.agg [vL zf (zc.Sets r0),oL 3 zd (zc.First r0),oL 3 zd (zc.Last r0),oL 40 zj (zc.Follow r0),vB (zc.Null r0)])] (obC hc0 obN) ?_
 obtain ⟨r0_1,hc1,h⟩:=h
 obtain ⟨r0_2,hc2,h⟩:=h
 refine sD kk [.c (oL 3 zd r0_1) [],.c (oL 3 zd r0_2) []] [16] [(22,oL 3 zd r0_1),(25,oL 3 zd r0_2)] (obC hc1 (obC hc2 obN)) ?_
 refine qD ?_
 refine sD kk [] [] [(28,vi 0)] obN ?_
 refine bD (id:=0) ?_
 obtain ⟨Inv25,mu26,h0Inv25,hInv25⟩:=h
 refine loD (fun (q:List (List Int)×Int)=>(fun (out_Follow:List (List Int)) (i:Int)=>([(7,.ptr 8 0),(8,zn a),(10,.ptr 11 0),(11,zn b),(13,.ptr 14 0),(14,.agg [oL 25 zf ([]),oL 3 zd ([]),oL 3 zd ([]),oL 40 zj ([]),vB false]),(19,.ptr 20 0),(20,.agg [vL zf (zc.Sets r0),oL 3 zd (zc.First r0),oL 3 zd (zc.Last r0),oL 40 zj out_Follow,vB (zc.Null r0)]),(22,vL zd r0_1),(25,oL 3 zd r0_2),(28,vi i)]:Sta)) q.1 q.2) (fun (q:List (List Int)×Int)=>Inv25 q.1 q.2) (fun (q:List (List Int)×Int)=>mu26 q.1 q.2) ((zc.Follow r0),0) [(22,0)] h0Inv25 ?_
 rintro ⟨out_Follow,i⟩ hi
 have h:=hInv25 out_Follow i hi
 refine qD ?_
 refine sDE kk [] [] [(85,vB (decide (i < (↑(List.length (List.map zd (zc.Last a))):Int))))] [(85,vB (decide (i < (↑(List.length (zc.Last a)):Int))))] obN ?_
 refine cD (t:=28) (b:=decide (i < (↑(List.length (zc.Last a)):Int))) (fun hb27=>?_) (fun hb27=>?_)
 ·have h:=h.1 hb27
  refine Sem.skip' (by kernel_rfl) Wk.refl ?_
  show Sem _ _ _ _ _
  refine wkD [85] ?_
  refine qD ?_
  refine bD (id:=1) ?_
  obtain ⟨h28,h⟩:=h
  obtain ⟨h29,h⟩:=h
  obtain ⟨h30,h⟩:=h
  obtain ⟨h31,h⟩:=h
  obtain ⟨h32,h⟩:=h
  obtain ⟨h33,h⟩:=h
  obtain ⟨h34,h⟩:=h
  obtain ⟨r0_5,hc35,h⟩:=h
  obtain ⟨h36,h⟩:=h
  obtain ⟨h37,h⟩:=h
  obtain ⟨h38,h⟩:=h
  refine rDE kk [.e (fi (gd (zc.Last a) i)),.e (fi (gd (zc.Last a) i)),.e (fL zd (gd out_Follow (gd (zc.Last a) i))),.c (vL zd r0_5) [],.e (fL zd (gd out_Follow (gd (zc.Last a) i)))] [] [(20,.agg [vL zf (zc.Sets r0),oL 3 zd (zc.First r0),oL 3 zd (zc.Last r0),.own 40 (List.set (List.map zj out_Follow) ((0:Nat)+Int.toNat (gd (zc.Last a) i)) (FV.sl (List.map zd r0_5))),vB (zc.Null r0)])] [(20,.agg [vL zf (zc.Sets r0),oL 3 zd (zc.First r0),oL 3 zd (zc.Last r0),oL 40 zj (List.set out_Follow (Int.toNat (gd (zc.Last a) i)) r0_5),vB (zc.Null r0)])] (obC h28 (obC (zL zd (zc.Last a) i _ rfl h28 h29) (obC h30 (obC (zL zd (zc.Last a) i _ rfl h30 h31) (obC h32 (obC (show Int.toNat (gd (zc.Last a) i) < List.length (List.map zj out_Follow) from by simpa only [nm] using h33) (obC (show (List.map zj out_Follow)[((0:Nat)+Int.toNat (gd (zc.Last a) i):Nat)]?=some (fL zd (gd out_Follow (gd (zc.Last a) i))) from by have:=zL zj out_Follow (gd (zc.Last a) i) _ rfl h32 h34;simpa only [nm,enq,zj] using this) (obC hc35 (obC h36 (obC (show Int.toNat (gd (zc.Last a) i) < List.length (List.map zj out_Follow) from by simpa only [nm] using h37) (obC (show (List.map zj out_Follow)[((0:Nat)+Int.toNat (gd (zc.Last a) i):Nat)]?=some (fL zd (gd out_Follow (gd (zc.Last a) i))) from by have:=zL zj out_Follow (gd (zc.Last a) i) _ rfl h36 h38;simpa only [nm,enq,zj] using this) obN))))))))))) ?_
  show Sem _ _ _ _ _
  refine rD kk [] [] [(28,vi (w64 (i+1)))] obN ?_
  exact lD ((List.set out_Follow (Int.toNat (gd (zc.Last a) i)) r0_5),(w64 (i+1))) [] h
 ·have h:=h.2 hb27
  refine xD (i:=0) ?_
  show Sem _ _ _ _ _
  refine wkD [28,85] ?_
  refine sDE kk [] [] [(20,.agg [vL zf (zc.Sets r0),vL zd (zc.First a),.f (FV.sl (List.take (List.length (List.map zd r0_2)) (List.drop (0:Nat) (List.map zd r0_2)))),oL 40 zj out_Follow,vB (zc.Null r0)]),(25,vL zd r0_2)] [(20,.agg [vL zf (zc.Sets r0),vL zd (zc.First a),vL zd r0_2,oL 40 zj out_Follow,vB (zc.Null r0)]),(25,vL zd r0_2)] obN ?_
  obtain ⟨J41,hJ41,h⟩:=h
  refine sjD (fun (q:List Int)=>J41 q) (fun (q:List Int)=>(fun (out_First:List Int)=>([(7,.ptr 8 0),(8,zn a),(10,.ptr 11 0),(11,zn b),(13,.ptr 14 0),(14,.agg [oL 25 zf ([]),oL 3 zd ([]),oL 3 zd ([]),oL 40 zj ([]),vB false]),(19,.ptr 20 0),(20,.agg [vL zf (zc.Sets r0),vL zd out_First,vL zd r0_2,oL 40 zj out_Follow,vB (zc.Null r0)]),(25,vL zd r0_2)]:Sta)) q) ?_ ?_
  ·rintro out_First hj
   have h:=hJ41 out_First hj
   obtain ⟨J44,hJ44,h⟩:=h
   refine sjD (fun (q:List Int)=>J44 q) (fun (q:List Int)=>(fun (out_Last:List Int)=>([(7,.ptr 8 0),(8,zn a),(10,.ptr 11 0),(11,zn b),(13,.ptr 14 0),(14,.agg [oL 25 zf ([]),oL 3 zd ([]),oL 3 zd ([]),oL 40 zj ([]),vB false]),(19,.ptr 20 0),(20,.agg [vL zf (zc.Sets r0),vL zd out_First,vL zd out_Last,oL 40 zj out_Follow,vB (zc.Null r0)])]:Sta)) q) ?_ ?_
   ·rintro out_Last hj
    have h:=hJ44 out_Last hj
    refine sM [7,8,10,11] [(20,.agg [vL zf (zc.Sets r0),vL zd out_First,vL zd out_Last,oL 40 zj out_Follow,vB (zc.Null a && zc.Null b)])] ?_ (fun hk0=>?_)
    ·refine sD kk [] [19,20] [(14,.agg [vL zf (zc.Sets r0),vL zd out_First,vL zd out_Last,oL 40 zj out_Follow,vB (zc.Null a && zc.Null b)])] (obC (show (0:Nat)=(0:Nat)∧List.length (List.map zj out_Follow)=List.length (List.map zj out_Follow) from ⟨rfl,rfl⟩) obN) ?_
     refine tD ?_
     obtain he0:=h
     subst res
     exact (endD [] (.agg [vL zf (zc.Sets r0),vL zd out_First,vL zd out_Last,oL 40 zj out_Follow,vB (zc.Null a && zc.Null b)]) []).1
    ·rcases Bool.eq_false_or_eq_true (zc.Null a) with hb45 | hb45
     ·refine sD kk [bT,bT,bT] [7,8,10,11] [(20,.agg [vL zf (zc.Sets r0),vL zd out_First,vL zd out_Last,oL 40 zj out_Follow,vB (zc.Null b)])] (obC (gtt hb45) (obC (gtt hb45) (obC hb45 obN))) ?_
      exact Sem.cast (by try rw [hb45];kernel_rfl) hk0
     ·refine sD kk [bF,bF,bF] [7,8,10,11] [(20,.agg [vL zf (zc.Sets r0),vL zd out_First,vL zd out_Last,oL 40 zj out_Follow,vB false])] (obC (gtf hb45) (obC (gtf hb45) (obC hb45 obN))) ?_
      exact Sem.cast (by try rw [hb45];kernel_rfl) hk0
   ·refine sD kk [] [] [(190,vB (zc.Null b))] obN ?_
    refine cD (t:=63) (b:=zc.Null b) (fun hb46=>?_) (fun hb46=>?_)
    ·have h:=h.1 hb46
     obtain ⟨r0_8,hc47,h⟩:=h
     refine rD kk [.c (vL zd r0_8) []] [25,190] [(20,.agg [vL zf (zc.Sets r0),vL zd out_First,vL zd r0_8,oL 40 zj out_Follow,vB (zc.Null r0)])] (obC hc47 obN) ?_
     exact jD r0_8 [] h
    ·have h:=h.2 hb46
     refine Sem.skip' (by kernel_rfl) Wk.refl ?_
     exact jD r0_2 [] h
  ·refine sD kk [] [] [(169,vB (zc.Null a))] obN ?_
   refine cD (t:=56) (b:=zc.Null a) (fun hb48=>?_) (fun hb48=>?_)
   ·have h:=h.1 hb48
    obtain ⟨r0_9,hc49,h⟩:=h
    refine rD kk [.c (vL zd r0_9) []] [22,169] [(20,.agg [vL zf (zc.Sets r0),vL zd r0_9,vL zd r0_2,oL 40 zj out_Follow,vB (zc.Null r0)])] (obC hc49 obN) ?_
    exact jD r0_9 [] h
   ·have h:=h.2 hb48
    refine Sem.skip' (by kernel_rfl) Wk.refl ?_
    exact jD (zc.First a) [] h
set_option maxHeartbeats 1000000 in
theorem zgb (a:zc) (b:zc) (res:zc)
 (h:(∃ r0:zc,zao a b r0∧(∃ r0_1:List Int,zal (zc.First b) ((↑(List.length (zc.Sets a)):Int)) r0_1∧(∃ r0_2:List Int,zR (zc.First a) r0_1 r0_2∧(∃ r0_3:List Int,zal (zc.Last b) ((↑(List.length (zc.Sets a)):Int)) r0_3∧(∃ r0_4:List Int,zR (zc.Last a) r0_3 r0_4∧(res=({ Sets:=zc.Sets r0,First:=r0_2,Last:=r0_4,Follow:=zc.Follow r0,Null:=zc.Null a || zc.Null b })))))))):zbN a b res:=by
 unfold zbN
 have kk:=cfOk [36] 37
 refine fD (x:=bodyOf Tryz.f132) kk Tryz.func132 ?_
 refine wkS [1,4] [(1,zn a),(4,zn b)] (by kernel_rfl) ?_
 refine sDE kk [] [1,4] [(7,.ptr 8 0),(8,zn a),(10,.ptr 11 0),(11,zn b),(13,.ptr 14 0),(14,.agg [.own 25 ([]),.own 3 ([]),.own 3 ([]),.own 40 ([]),vB false])] [(7,.ptr 8 0),(8,zn a),(10,.ptr 11 0),(11,zn b),(13,.ptr 14 0),(14,.agg [oL 25 zf ([]),oL 3 zd ([]),oL 3 zd ([]),oL 40 zj ([]),vB false])] obN ?_
 refine sDE kk [] [] [(16,vi ((↑(List.length (List.map zf (zc.Sets a))):Int)))] [(16,vi ((↑(List.length (zc.Sets a)):Int)))] obN ?_
 obtain ⟨r0,hc0,h⟩:=h
 refine sD kk [.c (.agg [vL zf (zc.Sets r0),oL 3 zd (zc.First r0),oL 3 zd (zc.Last r0),oL 40 zj (zc.Follow r0),vB (zc.Null r0)]) []] [] [(19,.ptr 20 0),(20,.agg [vL zf (zc.Sets r0),oL 3 zd (zc.First r0),oL 3 zd (zc.Last r0),oL 40 zj (zc.Follow r0),vB (zc.Null r0)])] (obC hc0 obN) ?_
 obtain ⟨r0_1,hc1,h⟩:=h
 obtain ⟨r0_2,hc2,h⟩:=h
 refine sD kk [.c (oL 3 zd r0_1) [],.c (vL zd r0_2) []] [] [(20,.agg [vL zf (zc.Sets r0),vL zd r0_2,oL 3 zd (zc.Last r0),oL 40 zj (zc.Follow r0),vB (zc.Null r0)])] (obC hc1 (obC (Eq.mp (by unfold zR;(try simp only [List.drop_zero,List.take_length]);first | done | simp only [nm,enq]:zR (zc.First a) r0_1 r0_2=CallE Tryz.prog 47 [vL zd (zc.First a),.f (FV.sl (List.take (List.length (List.map zd r0_1)) (List.drop (0:Nat) (List.map zd r0_1))))] [] (vL zd r0_2) []) hc2) obN)) ?_
 obtain ⟨r0_3,hc3,h⟩:=h
 obtain ⟨r0_4,hc4,h⟩:=h
 refine sD kk [.c (oL 3 zd r0_3) [],.c (vL zd r0_4) []] [16] [(20,.agg [vL zf (zc.Sets r0),vL zd r0_2,vL zd r0_4,oL 40 zj (zc.Follow r0),vB (zc.Null r0)])] (obC hc3 (obC (Eq.mp (by unfold zR;(try simp only [List.drop_zero,List.take_length]);first | done | simp only [nm,enq]:zR (zc.Last a) r0_3 r0_4=CallE Tryz.prog 47 [vL zd (zc.Last a),.f (FV.sl (List.take (List.length (List.map zd r0_3)) (List.drop (0:Nat) (List.map zd r0_3))))] [] (vL zd r0_4) []) hc4) obN)) ?_
 refine sM [7,8,10,11] [(20,.agg [vL zf (zc.Sets r0),vL zd r0_2,vL zd r0_4,oL 40 zj (zc.Follow r0),vB (zc.Null a || zc.Null b)])] ?_ (fun hk0=>?_)
 ·refine sD kk [] [19,20] [(14,.agg [vL zf (zc.Sets r0),vL zd r0_2,vL zd r0_4,oL 40 zj (zc.Follow r0),vB (zc.Null a || zc.Null b)])] (obC (show (0:Nat)=(0:Nat)∧List.length (List.map zj (zc.Follow r0))=List.length (List.map zj (zc.Follow r0)) from ⟨rfl,rfl⟩) obN) ?_
  refine tD ?_
  obtain he0:=h
  subst res
  exact (endD [] (.agg [vL zf (zc.Sets r0),vL zd r0_2,vL zd r0_4,oL 40 zj (zc.Follow r0),vB (zc.Null a || zc.Null b)]) []).1
 ·rcases Bool.eq_false_or_eq_true (zc.Null a) with hb5 | hb5
  ·refine sD kk [bF,bF,bT] [7,8,10,11] [(20,.agg [vL zf (zc.Sets r0),vL zd r0_2,vL zd r0_4,oL 40 zj (zc.Follow r0),vB true])] (obC (gff hb5) (obC (gff hb5) (obC hb5 obN))) ?_
   exact Sem.cast (by try rw [hb5];kernel_rfl) hk0
  ·refine sD kk [bT,bT,bF] [7,8,10,11] [(20,.agg [vL zf (zc.Sets r0),vL zd r0_2,vL zd r0_4,oL 40 zj (zc.Follow r0),vB (zc.Null b)])] (obC (gft hb5) (obC (gft hb5) (obC hb5 obN))) ?_
   exact Sem.cast (by try rw [hb5];kernel_rfl) hk0
set_option maxHeartbeats 1000000 in
theorem zeV (a:zc) (res:zc)
 (h:(∃ r0:zc,zao a ({ Sets:=[],First:=[],Last:=[],Follow:=[],Null:=false }) r0∧(∃ (Inv23:List (List Int)→Int→Prop) (mu24:List (List Int)→Int→Nat),Inv23 (zc.Follow r0) 0∧(∀ (out_Follow:List (List Int)) (i:Int),Inv23 out_Follow i→(((decide (i < (↑(List.length (zc.Last a)):Int)))=true→((0:Int)≤i)∧i < ↑(List.length (zc.Last a))∧((0:Int)≤i)∧i < ↑(List.length (zc.Last a))∧((0:Int)≤gd (zc.Last a) i)∧(Int.toNat (gd (zc.Last a) i) < List.length out_Follow)∧gd (zc.Last a) i < ↑(List.length out_Follow)∧(∃ r0_3:List Int,zR (gd out_Follow (gd (zc.Last a) i)) (zc.First a) r0_3∧((0:Int)≤gd (zc.Last a) i)∧(Int.toNat (gd (zc.Last a) i) < List.length out_Follow)∧gd (zc.Last a) i < ↑(List.length out_Follow)∧(Inv23 (List.set out_Follow (Int.toNat (gd (zc.Last a) i)) r0_3) (w64 (i+1))∧mu24 (List.set out_Follow (Int.toNat (gd (zc.Last a) i)) r0_3) (w64 (i+1)) < mu24 out_Follow i)))∧((decide (i < (↑(List.length (zc.Last a)):Int)))=false→(res=({ Sets:=zc.Sets r0,First:=zc.First a,Last:=zc.Last a,Follow:=out_Follow,Null:=zc.Null a })))))))):zbt a res:=by
 unfold zbt
 have kk:=cfOk [44] 45
 refine fD (x:=bodyOf Tryz.f133) kk Tryz.func133 ?_
 refine wkS [1] [(1,zn a)] (by kernel_rfl) ?_
 refine sDE kk [] [1] [(4,.ptr 5 0),(5,zn a),(7,.ptr 8 0),(8,.agg [.own 25 ([]),.own 3 ([]),.own 3 ([]),.own 40 ([]),vB false])] [(4,.ptr 5 0),(5,zn a),(7,.ptr 8 0),(8,.agg [oL 25 zf ([]),oL 3 zd ([]),oL 3 zd ([]),oL 40 zj ([]),vB false])] obN ?_
 obtain ⟨r0,hc0,h⟩:=h
 refine sD kk [.c (.agg [vL zf (zc.Sets r0),oL 3 zd (zc.First r0),oL 3 zd (zc.Last r0),oL 40 zj (zc.Follow r0),vB (zc.Null r0)]) []] [] [(10,.ptr 11 0),(11,.agg [vL zf (zc.Sets r0),oL 3 zd (zc.First r0),oL 3 zd (zc.Last r0),oL 40 zj (zc.Follow r0),vB (zc.Null r0)])] (obC (Eq.mp (by unfold zao;(try simp only [List.drop_zero,List.take_length]);first | done | simp only [nm,enq]:zao a ({ Sets:=[],First:=[],Last:=[],Follow:=[],Null:=false }) r0=CallE Tryz.prog 146 [.agg [vL zf (zc.Sets a),vL zd (zc.First a),vL zd (zc.Last a),vL zj (zc.Follow a),vB (zc.Null a)],.agg [.f (FV.sl []),.f (FV.sl []),.f (FV.sl []),.f (FV.sl []),vB false]] [] (.agg [vL zf (zc.Sets r0),oL 3 zd (zc.First r0),oL 3 zd (zc.Last r0),oL 40 zj (zc.Follow r0),vB (zc.Null r0)]) []) hc0) obN) ?_
 refine qD ?_
 refine sD kk [] [] [(13,vi 0)] obN ?_
 refine bD (id:=0) ?_
 obtain ⟨Inv23,mu24,h0Inv23,hInv23⟩:=h
 refine loD (fun (q:List (List Int)×Int)=>(fun (out_Follow:List (List Int)) (i:Int)=>([(4,.ptr 5 0),(5,zn a),(7,.ptr 8 0),(8,.agg [oL 25 zf ([]),oL 3 zd ([]),oL 3 zd ([]),oL 40 zj ([]),vB false]),(10,.ptr 11 0),(11,.agg [vL zf (zc.Sets r0),oL 3 zd (zc.First r0),oL 3 zd (zc.Last r0),oL 40 zj out_Follow,vB (zc.Null r0)]),(13,vi i)]:Sta)) q.1 q.2) (fun (q:List (List Int)×Int)=>Inv23 q.1 q.2) (fun (q:List (List Int)×Int)=>mu24 q.1 q.2) ((zc.Follow r0),0) [] h0Inv23 ?_
 rintro ⟨out_Follow,i⟩ hi
 have h:=hInv23 out_Follow i hi
 refine qD ?_
 refine sDE kk [] [] [(37,vB (decide (i < (↑(List.length (List.map zd (zc.Last a))):Int))))] [(37,vB (decide (i < (↑(List.length (zc.Last a)):Int))))] obN ?_
 refine cD (t:=12) (b:=decide (i < (↑(List.length (zc.Last a)):Int))) (fun hb25=>?_) (fun hb25=>?_)
 ·have h:=h.1 hb25
  refine Sem.skip' (by kernel_rfl) Wk.refl ?_
  show Sem _ _ _ _ _
  refine wkD [37] ?_
  refine qD ?_
  refine bD (id:=1) ?_
  obtain ⟨h26,h⟩:=h
  obtain ⟨h27,h⟩:=h
  obtain ⟨h28,h⟩:=h
  obtain ⟨h29,h⟩:=h
  obtain ⟨h30,h⟩:=h
  obtain ⟨h31,h⟩:=h
  obtain ⟨h32,h⟩:=h
  obtain ⟨r0_3,hc33,h⟩:=h
  obtain ⟨h34,h⟩:=h
  obtain ⟨h35,h⟩:=h
  obtain ⟨h36,h⟩:=h
  refine rDE kk [.e (fi (gd (zc.Last a) i)),.e (fi (gd (zc.Last a) i)),.e (fL zd (gd out_Follow (gd (zc.Last a) i))),.c (vL zd r0_3) [],.e (fL zd (gd out_Follow (gd (zc.Last a) i)))] [] [(11,.agg [vL zf (zc.Sets r0),oL 3 zd (zc.First r0),oL 3 zd (zc.Last r0),.own 40 (List.set (List.map zj out_Follow) ((0:Nat)+Int.toNat (gd (zc.Last a) i)) (FV.sl (List.map zd r0_3))),vB (zc.Null r0)])] [(11,.agg [vL zf (zc.Sets r0),oL 3 zd (zc.First r0),oL 3 zd (zc.Last r0),oL 40 zj (List.set out_Follow (Int.toNat (gd (zc.Last a) i)) r0_3),vB (zc.Null r0)])] (obC h26 (obC (zL zd (zc.Last a) i _ rfl h26 h27) (obC h28 (obC (zL zd (zc.Last a) i _ rfl h28 h29) (obC h30 (obC (show Int.toNat (gd (zc.Last a) i) < List.length (List.map zj out_Follow) from by simpa only [nm] using h31) (obC (show (List.map zj out_Follow)[((0:Nat)+Int.toNat (gd (zc.Last a) i):Nat)]?=some (fL zd (gd out_Follow (gd (zc.Last a) i))) from by have:=zL zj out_Follow (gd (zc.Last a) i) _ rfl h30 h32;simpa only [nm,enq,zj] using this) (obC hc33 (obC h34 (obC (show Int.toNat (gd (zc.Last a) i) < List.length (List.map zj out_Follow) from by simpa only [nm] using h35) (obC (show (List.map zj out_Follow)[((0:Nat)+Int.toNat (gd (zc.Last a) i):Nat)]?=some (fL zd (gd out_Follow (gd (zc.Last a) i))) from by have:=zL zj out_Follow (gd (zc.Last a) i) _ rfl h34 h36;simpa only [nm,enq,zj] using this) obN))))))))))) ?_
  show Sem _ _ _ _ _
  refine rD kk [] [] [(13,vi (w64 (i+1)))] obN ?_
  exact lD ((List.set out_Follow (Int.toNat (gd (zc.Last a) i)) r0_3),(w64 (i+1))) [] h
 ·have h:=h.2 hb25
  refine xD (i:=0) ?_
  show Sem _ _ _ _ _
  refine wkD [13,37] ?_
  refine sD kk [] [4,5] [(11,.agg [vL zf (zc.Sets r0),vL zd (zc.First a),vL zd (zc.Last a),oL 40 zj out_Follow,vB (zc.Null a)])] obN ?_
  refine sD kk [] [10,11] [(8,.agg [vL zf (zc.Sets r0),vL zd (zc.First a),vL zd (zc.Last a),oL 40 zj out_Follow,vB (zc.Null a)])] (obC (show (0:Nat)=(0:Nat)∧List.length (List.map zj out_Follow)=List.length (List.map zj out_Follow) from ⟨rfl,rfl⟩) obN) ?_
  refine tD ?_
  obtain he0:=h
  subst res
  exact (endD [] (.agg [vL zf (zc.Sets r0),vL zd (zc.First a),vL zd (zc.Last a),oL 40 zj out_Follow,vB (zc.Null a)]) []).1
set_option maxHeartbeats 1000000 in
theorem zeT (a:zc) (res:zc)
 (h:(res=({ Sets:=zc.Sets a,First:=zc.First a,Last:=zc.Last a,Follow:=zc.Follow a,Null:=true }))):zab a res:=by
 unfold zab
 have kk:=cfOk [4] 5
 refine fD (x:=bodyOf Tryz.f134) kk Tryz.func134 ?_
 refine wkS [1] [(1,zn a)] (by kernel_rfl) ?_
 refine sDE kk [] [1] [(4,.ptr 5 0),(5,zn a),(7,.ptr 8 0),(8,.agg [.own 25 ([]),.own 3 ([]),.own 3 ([]),.own 40 ([]),vB false])] [(4,.ptr 5 0),(5,zn a),(7,.ptr 8 0),(8,.agg [oL 25 zf ([]),oL 3 zd ([]),oL 3 zd ([]),oL 40 zj ([]),vB false])] obN ?_
 refine sD kk [] [] [(5,.agg [vL zf (zc.Sets a),vL zd (zc.First a),vL zd (zc.Last a),vL zj (zc.Follow a),vB true])] obN ?_
 refine sD kk [] [4,5] [(8,.agg [vL zf (zc.Sets a),vL zd (zc.First a),vL zd (zc.Last a),vL zj (zc.Follow a),vB true])] obN ?_
 refine tD ?_
 obtain he0:=h
 subst res
 exact (endD [] (.agg [vL zf (zc.Sets a),vL zd (zc.First a),vL zd (zc.Last a),vL zj (zc.Follow a),vB true]) []).1
set_option maxHeartbeats 1000000 in
theorem zgL (x:za) (res:zc)
 (h:(((za.Kind x == (2:Int))=true→(res=({ Sets:=[za.Set x],First:=[(0:Int)],Last:=[(0:Int)],Follow:=[[]],Null:=false })))∧((za.Kind x == (2:Int))=false→(((za.Kind x == (3:Int))=true→(∃ r0:zc,zaL r0∧(∃ (Inv12:List zb→List Int→List Int→List (List Int)→Bool→Int→Prop) (mu13:List zb→List Int→List Int→List (List Int)→Bool→Int→Nat),Inv12 (zc.Sets r0) (zc.First r0) (zc.Last r0) (zc.Follow r0) (zc.Null r0) 0∧(∀ (out_Sets:List zb) (out_First:List Int) (out_Last:List Int) (out_Follow:List (List Int)) (out_Null:Bool) (i:Int),Inv12 out_Sets out_First out_Last out_Follow out_Null i→(((decide (i < (↑(List.length (za.Kids x)):Int)))=true→((0:Int)≤i)∧i < ↑(List.length (za.Kids x))∧(∃ r0_5:zc,zaF (gd (za.Kids x) i) r0_5∧(∃ r0_6:zc,zT ({ Sets:=out_Sets,First:=out_First,Last:=out_Last,Follow:=out_Follow,Null:=out_Null }) r0_5 r0_6∧(Inv12 (zc.Sets r0_6) (zc.First r0_6) (zc.Last r0_6) (zc.Follow r0_6) (zc.Null r0_6) (w64 (i+1))∧mu13 (zc.Sets r0_6) (zc.First r0_6) (zc.Last r0_6) (zc.Follow r0_6) (zc.Null r0_6) (w64 (i+1)) < mu13 out_Sets out_First out_Last out_Follow out_Null i))))∧((decide (i < (↑(List.length (za.Kids x)):Int)))=false→(res=({ Sets:=out_Sets,First:=out_First,Last:=out_Last,Follow:=out_Follow,Null:=out_Null }))))))))∧((za.Kind x == (3:Int))=false→(((za.Kind x == (4:Int))=true→(0:Nat) < List.length (za.Kids x)∧(∃ r0_7:zc,zaF (List.getD (za.Kids x) (0:Nat) default) r0_7∧(∃ (Inv31:List zb→List Int→List Int→List (List Int)→Bool→Int→Prop) (mu32:List zb→List Int→List Int→List (List Int)→Bool→Int→Nat),Inv31 (zc.Sets r0_7) (zc.First r0_7) (zc.Last r0_7) (zc.Follow r0_7) (zc.Null r0_7) 1∧(∀ (out_Sets_1:List zb) (out_First_1:List Int) (out_Last_1:List Int) (out_Follow_1:List (List Int)) (out_Null_1:Bool) (i_1:Int),Inv31 out_Sets_1 out_First_1 out_Last_1 out_Follow_1 out_Null_1 i_1→(((decide (i_1 < (↑(List.length (za.Kids x)):Int)))=true→((0:Int)≤i_1)∧i_1 < ↑(List.length (za.Kids x))∧(∃ r0_12:zc,zaF (gd (za.Kids x) i_1) r0_12∧(∃ r0_13:zc,zbN ({ Sets:=out_Sets_1,First:=out_First_1,Last:=out_Last_1,Follow:=out_Follow_1,Null:=out_Null_1 }) r0_12 r0_13∧(Inv31 (zc.Sets r0_13) (zc.First r0_13) (zc.Last r0_13) (zc.Follow r0_13) (zc.Null r0_13) (w64 (i_1+1))∧mu32 (zc.Sets r0_13) (zc.First r0_13) (zc.Last r0_13) (zc.Follow r0_13) (zc.Null r0_13) (w64 (i_1+1)) < mu32 out_Sets_1 out_First_1 out_Last_1 out_Follow_1 out_Null_1 i_1))))∧((decide (i_1 < (↑(List.length (za.Kids x)):Int)))=false→(res=({ Sets:=out_Sets_1,First:=out_First_1,Last:=out_Last_1,Follow:=out_Follow_1,Null:=out_Null_1 }))))))))∧((za.Kind x == (4:Int))=false→(((za.Kind x == (5:Int))=true→(0:Nat) < List.length (za.Kids x)∧(∃ r0_14:zc,zaF (List.getD (za.Kids x) (0:Nat) default) r0_14∧(∃ r0_15:zc,zaL r0_15∧(((decide (za.Hi x < (0:Int)))=true→(∃ (Inv47:List zb→List Int→List Int→List (List Int)→Bool→Int→Prop) (mu48:List zb→List Int→List Int→List (List Int)→Bool→Int→Nat),Inv47 (zc.Sets r0_15) (zc.First r0_15) (zc.Last r0_15) (zc.Follow r0_15) (zc.Null r0_15) 1∧(∀ (out_Sets_2:List zb) (out_First_2:List Int) (out_Last_2:List Int) (out_Follow_2:List (List Int)) (out_Null_2:Bool) (i_2:Int),Inv47 out_Sets_2 out_First_2 out_Last_2 out_Follow_2 out_Null_2 i_2→(((decide (i_2 < za.Lo x))=true→(∃ r0_18:zc,zT ({ Sets:=out_Sets_2,First:=out_First_2,Last:=out_Last_2,Follow:=out_Follow_2,Null:=out_Null_2 }) r0_14 r0_18∧(Inv47 (zc.Sets r0_18) (zc.First r0_18) (zc.Last r0_18) (zc.Follow r0_18) (zc.Null r0_18) (w64 (i_2+1))∧mu48 (zc.Sets r0_18) (zc.First r0_18) (zc.Last r0_18) (zc.Follow r0_18) (zc.Null r0_18) (w64 (i_2+1)) < mu48 out_Sets_2 out_First_2 out_Last_2 out_Follow_2 out_Null_2 i_2)))∧((decide (i_2 < za.Lo x))=false→(∃ r0_19:zc,zbt r0_14 r0_19∧(∃ J54:List zb→List Int→List Int→List (List Int)→Bool→Prop,(∀ (last_Sets:List zb) (last_First:List Int) (last_Last:List Int) (last_Follow:List (List Int)) (last_Null:Bool),J54 last_Sets last_First last_Last last_Follow last_Null→(∃ r0_21:zc,zT ({ Sets:=out_Sets_2,First:=out_First_2,Last:=out_Last_2,Follow:=out_Follow_2,Null:=out_Null_2 }) ({ Sets:=last_Sets,First:=last_First,Last:=last_Last,Follow:=last_Follow,Null:=last_Null }) r0_21∧(res=r0_21)))∧(((za.Lo x == 0)=true→(∃ r0_22:zc,zab r0_19 r0_22∧J54 (zc.Sets r0_22) (zc.First r0_22) (zc.Last r0_22) (zc.Follow r0_22) (zc.Null r0_22)))∧((za.Lo x == 0)=false→J54 (zc.Sets r0_19) (zc.First r0_19) (zc.Last r0_19) (zc.Follow r0_19) (zc.Null r0_19))))))))))∧((decide (za.Hi x < (0:Int)))=false→(∃ (Inv64:List zb→List Int→List Int→List (List Int)→Bool→Int→Prop) (mu65:List zb→List Int→List Int→List (List Int)→Bool→Int→Nat),Inv64 (zc.Sets r0_15) (zc.First r0_15) (zc.Last r0_15) (zc.Follow r0_15) (zc.Null r0_15) (za.Lo x)∧(∀ (out_Sets_3:List zb) (out_First_3:List Int) (out_Last_3:List Int) (out_Follow_3:List (List Int)) (out_Null_3:Bool) (i_3:Int),Inv64 out_Sets_3 out_First_3 out_Last_3 out_Follow_3 out_Null_3 i_3→(((decide (i_3 < za.Hi x))=true→(∃ r0_27:zc,zT r0_14 ({ Sets:=out_Sets_3,First:=out_First_3,Last:=out_Last_3,Follow:=out_Follow_3,Null:=out_Null_3 }) r0_27∧(∃ r0_28:zc,zab r0_27 r0_28∧(Inv64 (zc.Sets r0_28) (zc.First r0_28) (zc.Last r0_28) (zc.Follow r0_28) (zc.Null r0_28) (w64 (i_3+1))∧mu65 (zc.Sets r0_28) (zc.First r0_28) (zc.Last r0_28) (zc.Follow r0_28) (zc.Null r0_28) (w64 (i_3+1)) < mu65 out_Sets_3 out_First_3 out_Last_3 out_Follow_3 out_Null_3 i_3))))∧((decide (i_3 < za.Hi x))=false→(∃ (Inv73:List zb→List Int→List Int→List (List Int)→Bool→Int→Prop) (mu74:List zb→List Int→List Int→List (List Int)→Bool→Int→Nat),Inv73 out_Sets_3 out_First_3 out_Last_3 out_Follow_3 out_Null_3 0∧(∀ (out_Sets_4:List zb) (out_First_4:List Int) (out_Last_4:List Int) (out_Follow_4:List (List Int)) (out_Null_4:Bool) (i_4:Int),Inv73 out_Sets_4 out_First_4 out_Last_4 out_Follow_4 out_Null_4 i_4→(((decide (i_4 < za.Lo x))=true→(∃ r0_31:zc,zT r0_14 ({ Sets:=out_Sets_4,First:=out_First_4,Last:=out_Last_4,Follow:=out_Follow_4,Null:=out_Null_4 }) r0_31∧(Inv73 (zc.Sets r0_31) (zc.First r0_31) (zc.Last r0_31) (zc.Follow r0_31) (zc.Null r0_31) (w64 (i_4+1))∧mu74 (zc.Sets r0_31) (zc.First r0_31) (zc.Last r0_31) (zc.Follow r0_31) (zc.Null r0_31) (w64 (i_4+1)) < mu74 out_Sets_4 out_First_4 out_Last_4 out_Follow_4 out_Null_4 i_4)))∧((decide (i_4 < za.Lo x))=false→(res=({ Sets:=out_Sets_4,First:=out_First_4,Last:=out_Last_4,Follow:=out_Follow_4,Null:=out_Null_4 })))))))))))))))∧((za.Kind x == (5:Int))=false→(∃ r0_32:zc,zaL r0_32∧(res=r0_32))))))))))):zaF x res:=by
 unfold zaF
 have kk:=cfOk [42,65,117] 119
 refine fD (x:=bodyOf Tryz.f109) kk Tryz.func109 ?_
 refine wkS [1] [(1,zm x)] (by kernel_rfl) ?_
 refine sDE kk [] [1] [(4,.ptr 5 0),(5,zm x),(7,.ptr 8 0),(8,.agg [.own 25 ([]),.own 3 ([]),.own 3 ([]),.own 40 ([]),vB false])] [(4,.ptr 5 0),(5,zm x),(7,.ptr 8 0),(8,.agg [oL 25 zf ([]),oL 3 zd ([]),oL 3 zd ([]),oL 40 zj ([]),vB false])] obN ?_
 refine qD ?_
 refine sD kk [] [] [(43,vi (za.Kind x))] obN ?_
 refine bD (id:=0) ?_
 refine sD kk [] [] [(46,vB (za.Kind x == (2:Int)))] obN ?_
 refine cD (t:=15) (b:=za.Kind x == (2:Int)) (fun hb0=>?_) (fun hb0=>?_)
 ·have h:=h.1 hb0
  refine sDE kk [] [4,5,43,46] [(8,.agg [.f (FV.sl (List.take (List.length [FV.agg [FV.pv (Value.int IntKind.u64 (zb.e0 (za.Set x))),FV.pv (Value.int IntKind.u64 (zb.e1 (za.Set x))),FV.pv (Value.int IntKind.u64 (zb.e2 (za.Set x))),FV.pv (Value.int IntKind.u64 (zb.e3 (za.Set x)))]]) (List.drop (0:Nat) [FV.agg [FV.pv (Value.int IntKind.u64 (zb.e0 (za.Set x))),FV.pv (Value.int IntKind.u64 (zb.e1 (za.Set x))),FV.pv (Value.int IntKind.u64 (zb.e2 (za.Set x))),FV.pv (Value.int IntKind.u64 (zb.e3 (za.Set x)))]]))),.f (FV.sl (List.take (List.length [FV.pv (Value.int IntKind.i64 (0))]) (List.drop (0:Nat) [FV.pv (Value.int IntKind.i64 (0))]))),.f (FV.sl (List.take (List.length [FV.pv (Value.int IntKind.i64 (0))]) (List.drop (0:Nat) [FV.pv (Value.int IntKind.i64 (0))]))),.f (FV.sl (List.take (List.length [FV.sl []]) (List.drop (0:Nat) [FV.sl []]))),vB false])] [(8,.agg [vL zf ([za.Set x]),vL zd ([(0:Int)]),vL zd ([(0:Int)]),vL zj ([[]]),vB false])] obN ?_
  refine tD ?_
  obtain he0:=h
  subst res
  exact (endD [] (.agg [vL zf ([za.Set x]),vL zd ([(0:Int)]),vL zd ([(0:Int)]),vL zj ([[]]),vB false]) []).1
 ·have h:=h.2 hb0
  refine sD kk [] [46] [(73,vB (za.Kind x == (3:Int)))] obN ?_
  refine cD (t:=24) (b:=za.Kind x == (3:Int)) (fun hb1=>?_) (fun hb1=>?_)
  ·have h:=h.1 hb1
   obtain ⟨r0,hc2,h⟩:=h
   refine sD kk [.c (zbb r0) []] [43,73] [(10,.ptr 11 0),(11,zbb r0)] (obC hc2 obN) ?_
   refine qD ?_
   refine sD kk [] [] [(13,vi 0)] obN ?_
   refine bD (id:=1) ?_
   obtain ⟨Inv12,mu13,h0Inv12,hInv12⟩:=h
   refine loD (fun (q:List zb×List Int×List Int×List (List Int)×Bool×Int)=>(fun (out_Sets:List zb) (out_First:List Int) (out_Last:List Int) (out_Follow:List (List Int)) (out_Null:Bool) (i:Int)=>([(4,.ptr 5 0),(5,zm x),(7,.ptr 8 0),(8,.agg [oL 25 zf ([]),oL 3 zd ([]),oL 3 zd ([]),oL 40 zj ([]),vB false]),(10,.ptr 11 0),(11,.agg [vL zf out_Sets,vL zd out_First,vL zd out_Last,oL 40 zj out_Follow,vB out_Null]),(13,vi i)]:Sta)) q.1 q.2.1 q.2.2.1 q.2.2.2.1 q.2.2.2.2.1 q.2.2.2.2.2) (fun (q:List zb×List Int×List Int×List (List Int)×Bool×Int)=>Inv12 q.1 q.2.1 q.2.2.1 q.2.2.2.1 q.2.2.2.2.1 q.2.2.2.2.2) (fun (q:List zb×List Int×List Int×List (List Int)×Bool×Int)=>mu13 q.1 q.2.1 q.2.2.1 q.2.2.2.1 q.2.2.2.2.1 q.2.2.2.2.2) ((zc.Sets r0),(zc.First r0),(zc.Last r0),(zc.Follow r0),(zc.Null r0),0) [(11,0),(11,1),(11,2)] h0Inv12 ?_
   rintro ⟨out_Sets,out_First,out_Last,out_Follow,out_Null,i⟩ hi
   have h:=hInv12 out_Sets out_First out_Last out_Follow out_Null i hi
   refine qD ?_
   refine sDE kk [] [] [(94,vB (decide (i < (↑(List.length (List.map ze (za.Kids x))):Int))))] [(94,vB (decide (i < (↑(List.length (za.Kids x)):Int))))] obN ?_
   refine cD (t:=31) (b:=decide (i < (↑(List.length (za.Kids x)):Int))) (fun hb14=>?_) (fun hb14=>?_)
   ·have h:=h.1 hb14
    refine Sem.skip' (by kernel_rfl) Wk.refl ?_
    show Sem _ _ _ _ _
    refine wkD [94] ?_
    refine qD ?_
    refine bD (id:=2) ?_
    obtain ⟨h15,h⟩:=h
    obtain ⟨h16,h⟩:=h
    obtain ⟨r0_5,hc17,h⟩:=h
    obtain ⟨r0_6,hc18,h⟩:=h
    refine rD kk [.e (zD (gd (za.Kids x) i)),.c (zn r0_5) [],.c (.agg [vL zf (zc.Sets r0_6),vL zd (zc.First r0_6),vL zd (zc.Last r0_6),oL 40 zj (zc.Follow r0_6),vB (zc.Null r0_6)]) []] [] [(11,.agg [vL zf (zc.Sets r0_6),vL zd (zc.First r0_6),vL zd (zc.Last r0_6),oL 40 zj (zc.Follow r0_6),vB (zc.Null r0_6)])] (obC h15 (obC (zL ze (za.Kids x) i _ (zt _) h15 h16) (obC hc17 (obC (Eq.mp (by unfold zT;(try simp only [List.drop_zero,List.take_length]);first | done | simp only [nm,enq]:zT ({ Sets:=out_Sets,First:=out_First,Last:=out_Last,Follow:=out_Follow,Null:=out_Null }) r0_5 r0_6=CallE Tryz.prog 131 [.agg [vL zf out_Sets,vL zd out_First,vL zd out_Last,.f (FV.sl (List.take (List.length (List.map zj out_Follow)) (List.drop (0:Nat) (List.map zj out_Follow)))),vB out_Null],.agg [vL zf (zc.Sets r0_5),vL zd (zc.First r0_5),vL zd (zc.Last r0_5),vL zj (zc.Follow r0_5),vB (zc.Null r0_5)]] [] (.agg [vL zf (zc.Sets r0_6),vL zd (zc.First r0_6),vL zd (zc.Last r0_6),oL 40 zj (zc.Follow r0_6),vB (zc.Null r0_6)]) []) hc18) obN)))) ?_
    show Sem _ _ _ _ _
    refine rD kk [] [] [(13,vi (w64 (i+1)))] obN ?_
    exact lD ((zc.Sets r0_6),(zc.First r0_6),(zc.Last r0_6),(zc.Follow r0_6),(zc.Null r0_6),(w64 (i+1))) [] h
   ·have h:=h.2 hb14
    refine xD (i:=1) ?_
    show Sem _ _ _ _ _
    refine wkD [4,5,13,94] ?_
    refine sD kk [] [10,11] [(8,.agg [vL zf out_Sets,vL zd out_First,vL zd out_Last,oL 40 zj out_Follow,vB out_Null])] (obC (show (0:Nat)=(0:Nat)∧List.length (List.map zj out_Follow)=List.length (List.map zj out_Follow) from ⟨rfl,rfl⟩) obN) ?_
    refine tD ?_
    obtain he0:=h
    subst res
    exact (endD [(8,3)] (.agg [vL zf out_Sets,vL zd out_First,vL zd out_Last,vL zj out_Follow,vB out_Null]) []).1
  ·have h:=h.2 hb1
   refine sD kk [] [73] [(130,vB (za.Kind x == (4:Int)))] obN ?_
   refine cD (t:=43) (b:=za.Kind x == (4:Int)) (fun hb19=>?_) (fun hb19=>?_)
   ·have h:=h.1 hb19
    obtain ⟨h20,h⟩:=h
    obtain ⟨r0_7,hc21,h⟩:=h
    refine sD kk [.e (zD (List.getD (za.Kids x) (0:Nat) default)),.c (zn r0_7) []] [43,130] [(16,.ptr 17 0),(17,zn r0_7)] (obC (show (0:Int)≤(0:Int) from by first | decide | rfl | trivial) (obC (show (List.map ze (za.Kids x))[(Int.toNat (0:Int):Nat)]?=some (zD (List.getD (za.Kids x) (0:Nat) default)) from by have:=zbh ze (za.Kids x) ((0:Nat)) _ (zt _) h20;simpa only [nm,enq,zt] using this) (obC hc21 obN))) ?_
    refine qD ?_
    refine sD kk [] [] [(19,vi 1)] obN ?_
    refine bD (id:=3) ?_
    obtain ⟨Inv31,mu32,h0Inv31,hInv31⟩:=h
    refine loD (fun (q:List zb×List Int×List Int×List (List Int)×Bool×Int)=>(fun (out_Sets_1:List zb) (out_First_1:List Int) (out_Last_1:List Int) (out_Follow_1:List (List Int)) (out_Null_1:Bool) (i_1:Int)=>([(4,.ptr 5 0),(5,zm x),(7,.ptr 8 0),(8,.agg [oL 25 zf ([]),oL 3 zd ([]),oL 3 zd ([]),oL 40 zj ([]),vB false]),(16,.ptr 17 0),(17,.agg [vL zf out_Sets_1,vL zd out_First_1,vL zd out_Last_1,vL zj out_Follow_1,vB out_Null_1]),(19,vi i_1)]:Sta)) q.1 q.2.1 q.2.2.1 q.2.2.2.1 q.2.2.2.2.1 q.2.2.2.2.2) (fun (q:List zb×List Int×List Int×List (List Int)×Bool×Int)=>Inv31 q.1 q.2.1 q.2.2.1 q.2.2.2.1 q.2.2.2.2.1 q.2.2.2.2.2) (fun (q:List zb×List Int×List Int×List (List Int)×Bool×Int)=>mu32 q.1 q.2.1 q.2.2.1 q.2.2.2.1 q.2.2.2.2.1 q.2.2.2.2.2) ((zc.Sets r0_7),(zc.First r0_7),(zc.Last r0_7),(zc.Follow r0_7),(zc.Null r0_7),1) [] h0Inv31 ?_
    rintro ⟨out_Sets_1,out_First_1,out_Last_1,out_Follow_1,out_Null_1,i_1⟩ hi
    have h:=hInv31 out_Sets_1 out_First_1 out_Last_1 out_Follow_1 out_Null_1 i_1 hi
    refine qD ?_
    refine sDE kk [] [] [(163,vB (decide (i_1 < (↑(List.length (List.map ze (za.Kids x))):Int))))] [(163,vB (decide (i_1 < (↑(List.length (za.Kids x)):Int))))] obN ?_
    refine cD (t:=54) (b:=decide (i_1 < (↑(List.length (za.Kids x)):Int))) (fun hb33=>?_) (fun hb33=>?_)
    ·have h:=h.1 hb33
     refine Sem.skip' (by kernel_rfl) Wk.refl ?_
     show Sem _ _ _ _ _
     refine wkD [163] ?_
     refine qD ?_
     refine bD (id:=4) ?_
     obtain ⟨h34,h⟩:=h
     obtain ⟨h35,h⟩:=h
     obtain ⟨r0_12,hc36,h⟩:=h
     obtain ⟨r0_13,hc37,h⟩:=h
     refine rD kk [.e (zD (gd (za.Kids x) i_1)),.c (zn r0_12) [],.c (.agg [vL zf (zc.Sets r0_13),vL zd (zc.First r0_13),vL zd (zc.Last r0_13),oL 40 zj (zc.Follow r0_13),vB (zc.Null r0_13)]) []] [] [(17,.agg [vL zf (zc.Sets r0_13),vL zd (zc.First r0_13),vL zd (zc.Last r0_13),oL 40 zj (zc.Follow r0_13),vB (zc.Null r0_13)])] (obC h34 (obC (zL ze (za.Kids x) i_1 _ (zt _) h34 h35) (obC hc36 (obC hc37 obN)))) ?_
     show Sem _ _ _ _ _
     refine rD kk [] [] [(19,vi (w64 (i_1+1)))] obN ?_
     exact lD ((zc.Sets r0_13),(zc.First r0_13),(zc.Last r0_13),(zc.Follow r0_13),(zc.Null r0_13),(w64 (i_1+1))) [(17,3)] h
    ·have h:=h.2 hb33
     refine xD (i:=3) ?_
     show Sem _ _ _ _ _
     refine wkD [4,5,19,163] ?_
     refine sD kk [] [16,17] [(8,.agg [vL zf out_Sets_1,vL zd out_First_1,vL zd out_Last_1,vL zj out_Follow_1,vB out_Null_1])] obN ?_
     refine tD ?_
     obtain he0:=h
     subst res
     exact (endD [] (.agg [vL zf out_Sets_1,vL zd out_First_1,vL zd out_Last_1,vL zj out_Follow_1,vB out_Null_1]) []).1
   ·have h:=h.2 hb19
    refine sD kk [] [43,130] [(199,vB (za.Kind x == (5:Int)))] obN ?_
    refine cD (t:=66) (b:=za.Kind x == (5:Int)) (fun hb38=>?_) (fun hb38=>?_)
    ·have h:=h.1 hb38
     obtain ⟨h39,h⟩:=h
     obtain ⟨r0_14,hc40,h⟩:=h
     refine sD kk [.e (zD (List.getD (za.Kids x) (0:Nat) default)),.c (zn r0_14) []] [199] [(22,.ptr 23 0),(23,zn r0_14)] (obC (show (0:Int)≤(0:Int) from by first | decide | rfl | trivial) (obC (show (List.map ze (za.Kids x))[(Int.toNat (0:Int):Nat)]?=some (zD (List.getD (za.Kids x) (0:Nat) default)) from by have:=zbh ze (za.Kids x) ((0:Nat)) _ (zt _) h39;simpa only [nm,enq,zt] using this) (obC hc40 obN))) ?_
     obtain ⟨r0_15,hc41,h⟩:=h
     refine sD kk [.c (zbb r0_15) []] [] [(25,.ptr 26 0),(26,zbb r0_15)] (obC hc41 obN) ?_
     refine qD ?_
     refine sD kk [] [] [(229,vB (decide (za.Hi x < (0:Int))))] obN ?_
     refine cD (t:=76) (b:=decide (za.Hi x < (0:Int))) (fun hb42=>?_) (fun hb42=>?_)
     ·have h:=h.1 hb42
      refine qD ?_
      refine sD kk [] [229] [(28,vi 1)] obN ?_
      refine bD (id:=5) ?_
      obtain ⟨Inv47,mu48,h0Inv47,hInv47⟩:=h
      refine loD (fun (q:List zb×List Int×List Int×List (List Int)×Bool×Int)=>(fun (out_Sets_2:List zb) (out_First_2:List Int) (out_Last_2:List Int) (out_Follow_2:List (List Int)) (out_Null_2:Bool) (i_2:Int)=>([(4,.ptr 5 0),(5,zm x),(7,.ptr 8 0),(8,.agg [oL 25 zf ([]),oL 3 zd ([]),oL 3 zd ([]),oL 40 zj ([]),vB false]),(22,.ptr 23 0),(23,zn r0_14),(25,.ptr 26 0),(26,.agg [vL zf out_Sets_2,vL zd out_First_2,vL zd out_Last_2,oL 40 zj out_Follow_2,vB out_Null_2]),(28,vi i_2)]:Sta)) q.1 q.2.1 q.2.2.1 q.2.2.2.1 q.2.2.2.2.1 q.2.2.2.2.2) (fun (q:List zb×List Int×List Int×List (List Int)×Bool×Int)=>Inv47 q.1 q.2.1 q.2.2.1 q.2.2.2.1 q.2.2.2.2.1 q.2.2.2.2.2) (fun (q:List zb×List Int×List Int×List (List Int)×Bool×Int)=>mu48 q.1 q.2.1 q.2.2.1 q.2.2.2.1 q.2.2.2.2.1 q.2.2.2.2.2) ((zc.Sets r0_15),(zc.First r0_15),(zc.Last r0_15),(zc.Follow r0_15),(zc.Null r0_15),1) [(26,0),(26,1),(26,2)] h0Inv47 ?_
      rintro ⟨out_Sets_2,out_First_2,out_Last_2,out_Follow_2,out_Null_2,i_2⟩ hi
      have h:=hInv47 out_Sets_2 out_First_2 out_Last_2 out_Follow_2 out_Null_2 i_2 hi
      refine qD ?_
      refine sD kk [] [] [(241,vB (decide (i_2 < za.Lo x)))] obN ?_
      refine cD (t:=80) (b:=decide (i_2 < za.Lo x)) (fun hb49=>?_) (fun hb49=>?_)
      ·have h:=h.1 hb49
       refine Sem.skip' (by kernel_rfl) Wk.refl ?_
       show Sem _ _ _ _ _
       refine wkD [241] ?_
       refine qD ?_
       refine bD (id:=6) ?_
       obtain ⟨r0_18,hc50,h⟩:=h
       refine rD kk [.c (.agg [vL zf (zc.Sets r0_18),vL zd (zc.First r0_18),vL zd (zc.Last r0_18),oL 40 zj (zc.Follow r0_18),vB (zc.Null r0_18)]) []] [] [(26,.agg [vL zf (zc.Sets r0_18),vL zd (zc.First r0_18),vL zd (zc.Last r0_18),oL 40 zj (zc.Follow r0_18),vB (zc.Null r0_18)])] (obC (Eq.mp (by unfold zT;(try simp only [List.drop_zero,List.take_length]);first | done | simp only [nm,enq]:zT ({ Sets:=out_Sets_2,First:=out_First_2,Last:=out_Last_2,Follow:=out_Follow_2,Null:=out_Null_2 }) r0_14 r0_18=CallE Tryz.prog 131 [.agg [vL zf out_Sets_2,vL zd out_First_2,vL zd out_Last_2,.f (FV.sl (List.take (List.length (List.map zj out_Follow_2)) (List.drop (0:Nat) (List.map zj out_Follow_2)))),vB out_Null_2],.agg [vL zf (zc.Sets r0_14),vL zd (zc.First r0_14),vL zd (zc.Last r0_14),vL zj (zc.Follow r0_14),vB (zc.Null r0_14)]] [] (.agg [vL zf (zc.Sets r0_18),vL zd (zc.First r0_18),vL zd (zc.Last r0_18),oL 40 zj (zc.Follow r0_18),vB (zc.Null r0_18)]) []) hc50) obN) ?_
       show Sem _ _ _ _ _
       refine rD kk [] [] [(28,vi (w64 (i_2+1)))] obN ?_
       exact lD ((zc.Sets r0_18),(zc.First r0_18),(zc.Last r0_18),(zc.Follow r0_18),(zc.Null r0_18),(w64 (i_2+1))) [] h
      ·have h:=h.2 hb49
       refine xD (i:=5) ?_
       show Sem _ _ _ _ _
       refine wkD [28,241] ?_
       obtain ⟨r0_19,hc51,h⟩:=h
       refine sD kk [.c (.agg [vL zf (zc.Sets r0_19),vL zd (zc.First r0_19),vL zd (zc.Last r0_19),oL 40 zj (zc.Follow r0_19),vB (zc.Null r0_19)]) []] [22,23] [(31,.ptr 32 0),(32,.agg [vL zf (zc.Sets r0_19),vL zd (zc.First r0_19),vL zd (zc.Last r0_19),oL 40 zj (zc.Follow r0_19),vB (zc.Null r0_19)])] (obC hc51 obN) ?_
       obtain ⟨J54,hJ54,h⟩:=h
       refine sjD (fun (q:List zb×List Int×List Int×List (List Int)×Bool)=>J54 q.1 q.2.1 q.2.2.1 q.2.2.2.1 q.2.2.2.2) (fun (q:List zb×List Int×List Int×List (List Int)×Bool)=>(fun (last_Sets:List zb) (last_First:List Int) (last_Last:List Int) (last_Follow:List (List Int)) (last_Null:Bool)=>([(7,.ptr 8 0),(8,.agg [oL 25 zf ([]),oL 3 zd ([]),oL 3 zd ([]),oL 40 zj ([]),vB false]),(25,.ptr 26 0),(26,.agg [vL zf out_Sets_2,vL zd out_First_2,vL zd out_Last_2,oL 40 zj out_Follow_2,vB out_Null_2]),(31,.ptr 32 0),(32,.agg [vL zf last_Sets,vL zd last_First,vL zd last_Last,vL zj last_Follow,vB last_Null])]:Sta)) q.1 q.2.1 q.2.2.1 q.2.2.2.1 q.2.2.2.2) ?_ ?_
       ·rintro ⟨last_Sets,last_First,last_Last,last_Follow,last_Null⟩ hj
        have h:=hJ54 last_Sets last_First last_Last last_Follow last_Null hj
        obtain ⟨r0_21,hc55,h⟩:=h
        refine sD kk [.c (.agg [vL zf (zc.Sets r0_21),vL zd (zc.First r0_21),vL zd (zc.Last r0_21),oL 40 zj (zc.Follow r0_21),vB (zc.Null r0_21)]) []] [25,26,31,32] [(8,.agg [vL zf (zc.Sets r0_21),vL zd (zc.First r0_21),vL zd (zc.Last r0_21),oL 40 zj (zc.Follow r0_21),vB (zc.Null r0_21)])] (obC (Eq.mp (by unfold zT;(try simp only [List.drop_zero,List.take_length]);first | done | simp only [nm,enq]:zT ({ Sets:=out_Sets_2,First:=out_First_2,Last:=out_Last_2,Follow:=out_Follow_2,Null:=out_Null_2 }) ({ Sets:=last_Sets,First:=last_First,Last:=last_Last,Follow:=last_Follow,Null:=last_Null }) r0_21=CallE Tryz.prog 131 [.agg [vL zf out_Sets_2,vL zd out_First_2,vL zd out_Last_2,.f (FV.sl (List.take (List.length (List.map zj out_Follow_2)) (List.drop (0:Nat) (List.map zj out_Follow_2)))),vB out_Null_2],.agg [vL zf last_Sets,vL zd last_First,vL zd last_Last,vL zj last_Follow,vB last_Null]] [] (.agg [vL zf (zc.Sets r0_21),vL zd (zc.First r0_21),vL zd (zc.Last r0_21),oL 40 zj (zc.Follow r0_21),vB (zc.Null r0_21)]) []) hc55) obN) ?_
        refine tD ?_
        obtain he0:=h
        subst res
        exact (endD [(8,3)] (zn r0_21) []).1
       ·refine sD kk [] [4,5] [(271,vB (za.Lo x == 0))] obN ?_
        refine cD (t:=90) (b:=za.Lo x == 0) (fun hb56=>?_) (fun hb56=>?_)
        ·have h:=h.1 hb56
         obtain ⟨r0_22,hc57,h⟩:=h
         refine rD kk [.c (zn r0_22) []] [271] [(32,zn r0_22)] (obC (Eq.mp (by unfold zab;(try simp only [List.drop_zero,List.take_length]);first | done | simp only [nm,enq]:zab r0_19 r0_22=CallE Tryz.prog 134 [.agg [vL zf (zc.Sets r0_19),vL zd (zc.First r0_19),vL zd (zc.Last r0_19),.f (FV.sl (List.take (List.length (List.map zj (zc.Follow r0_19))) (List.drop (0:Nat) (List.map zj (zc.Follow r0_19))))),vB (zc.Null r0_19)]] [] (zn r0_22) []) hc57) obN) ?_
         exact jD ((zc.Sets r0_22),(zc.First r0_22),(zc.Last r0_22),(zc.Follow r0_22),(zc.Null r0_22)) [] h
        ·have h:=h.2 hb56
         refine Sem.skip' (by kernel_rfl) Wk.refl ?_
         exact jD ((zc.Sets r0_19),(zc.First r0_19),(zc.Last r0_19),(zc.Follow r0_19),(zc.Null r0_19)) [(32,3)] h
     ·have h:=h.2 hb42
      refine Sem.skip' (by kernel_rfl) Wk.refl ?_
      show Sem _ _ _ _ _
      refine wkD [229] ?_
      refine qD ?_
      refine sD kk [] [] [(34,vi (za.Lo x))] obN ?_
      refine bD (id:=7) ?_
      obtain ⟨Inv64,mu65,h0Inv64,hInv64⟩:=h
      refine loD (fun (q:List zb×List Int×List Int×List (List Int)×Bool×Int)=>(fun (out_Sets_3:List zb) (out_First_3:List Int) (out_Last_3:List Int) (out_Follow_3:List (List Int)) (out_Null_3:Bool) (i_3:Int)=>([(4,.ptr 5 0),(5,zm x),(7,.ptr 8 0),(8,.agg [oL 25 zf ([]),oL 3 zd ([]),oL 3 zd ([]),oL 40 zj ([]),vB false]),(22,.ptr 23 0),(23,zn r0_14),(25,.ptr 26 0),(26,.agg [vL zf out_Sets_3,vL zd out_First_3,vL zd out_Last_3,vL zj out_Follow_3,vB out_Null_3]),(34,vi i_3)]:Sta)) q.1 q.2.1 q.2.2.1 q.2.2.2.1 q.2.2.2.2.1 q.2.2.2.2.2) (fun (q:List zb×List Int×List Int×List (List Int)×Bool×Int)=>Inv64 q.1 q.2.1 q.2.2.1 q.2.2.2.1 q.2.2.2.2.1 q.2.2.2.2.2) (fun (q:List zb×List Int×List Int×List (List Int)×Bool×Int)=>mu65 q.1 q.2.1 q.2.2.1 q.2.2.2.1 q.2.2.2.2.1 q.2.2.2.2.2) ((zc.Sets r0_15),(zc.First r0_15),(zc.Last r0_15),(zc.Follow r0_15),(zc.Null r0_15),(za.Lo x)) [(26,0),(26,1),(26,2),(26,3)] h0Inv64 ?_
      rintro ⟨out_Sets_3,out_First_3,out_Last_3,out_Follow_3,out_Null_3,i_3⟩ hi
      have h:=hInv64 out_Sets_3 out_First_3 out_Last_3 out_Follow_3 out_Null_3 i_3 hi
      refine qD ?_
      refine sD kk [] [] [(304,vB (decide (i_3 < za.Hi x)))] obN ?_
      refine cD (t:=101) (b:=decide (i_3 < za.Hi x)) (fun hb66=>?_) (fun hb66=>?_)
      ·have h:=h.1 hb66
       refine Sem.skip' (by kernel_rfl) Wk.refl ?_
       show Sem _ _ _ _ _
       refine wkD [304] ?_
       refine qD ?_
       refine bD (id:=8) ?_
       obtain ⟨r0_27,hc67,h⟩:=h
       obtain ⟨r0_28,hc68,h⟩:=h
       refine rD kk [.c (.agg [vL zf (zc.Sets r0_27),vL zd (zc.First r0_27),vL zd (zc.Last r0_27),oL 40 zj (zc.Follow r0_27),vB (zc.Null r0_27)]) [],.c (zn r0_28) []] [] [(26,zn r0_28)] (obC hc67 (obC (Eq.mp (by unfold zab;(try simp only [List.drop_zero,List.take_length]);first | done | simp only [nm,enq]:zab r0_27 r0_28=CallE Tryz.prog 134 [.agg [vL zf (zc.Sets r0_27),vL zd (zc.First r0_27),vL zd (zc.Last r0_27),.f (FV.sl (List.take (List.length (List.map zj (zc.Follow r0_27))) (List.drop (0:Nat) (List.map zj (zc.Follow r0_27))))),vB (zc.Null r0_27)]] [] (zn r0_28) []) hc68) obN)) ?_
       show Sem _ _ _ _ _
       refine rD kk [] [] [(34,vi (w64 (i_3+1)))] obN ?_
       exact lD ((zc.Sets r0_28),(zc.First r0_28),(zc.Last r0_28),(zc.Follow r0_28),(zc.Null r0_28),(w64 (i_3+1))) [] h
      ·have h:=h.2 hb66
       refine xD (i:=7) ?_
       show Sem _ _ _ _ _
       refine wkD [34,304] ?_
       refine qD ?_
       refine sD kk [] [] [(37,vi 0)] obN ?_
       refine bD (id:=9) ?_
       obtain ⟨Inv73,mu74,h0Inv73,hInv73⟩:=h
       refine loD (fun (q:List zb×List Int×List Int×List (List Int)×Bool×Int)=>(fun (out_Sets_4:List zb) (out_First_4:List Int) (out_Last_4:List Int) (out_Follow_4:List (List Int)) (out_Null_4:Bool) (i_4:Int)=>([(4,.ptr 5 0),(5,zm x),(7,.ptr 8 0),(8,.agg [oL 25 zf ([]),oL 3 zd ([]),oL 3 zd ([]),oL 40 zj ([]),vB false]),(22,.ptr 23 0),(23,zn r0_14),(25,.ptr 26 0),(26,.agg [vL zf out_Sets_4,vL zd out_First_4,vL zd out_Last_4,vL zj out_Follow_4,vB out_Null_4]),(37,vi i_4)]:Sta)) q.1 q.2.1 q.2.2.1 q.2.2.2.1 q.2.2.2.2.1 q.2.2.2.2.2) (fun (q:List zb×List Int×List Int×List (List Int)×Bool×Int)=>Inv73 q.1 q.2.1 q.2.2.1 q.2.2.2.1 q.2.2.2.2.1 q.2.2.2.2.2) (fun (q:List zb×List Int×List Int×List (List Int)×Bool×Int)=>mu74 q.1 q.2.1 q.2.2.1 q.2.2.2.1 q.2.2.2.2.1 q.2.2.2.2.2) (out_Sets_3,out_First_3,out_Last_3,out_Follow_3,out_Null_3,0) [] h0Inv73 ?_
       rintro ⟨out_Sets_4,out_First_4,out_Last_4,out_Follow_4,out_Null_4,i_4⟩ hi
       have h:=hInv73 out_Sets_4 out_First_4 out_Last_4 out_Follow_4 out_Null_4 i_4 hi
       refine qD ?_
       refine sD kk [] [] [(334,vB (decide (i_4 < za.Lo x)))] obN ?_
       refine cD (t:=111) (b:=decide (i_4 < za.Lo x)) (fun hb75=>?_) (fun hb75=>?_)
       ·have h:=h.1 hb75
        refine Sem.skip' (by kernel_rfl) Wk.refl ?_
        show Sem _ _ _ _ _
        refine wkD [334] ?_
        refine qD ?_
        refine bD (id:=10) ?_
        obtain ⟨r0_31,hc76,h⟩:=h
        refine rD kk [.c (.agg [vL zf (zc.Sets r0_31),vL zd (zc.First r0_31),vL zd (zc.Last r0_31),oL 40 zj (zc.Follow r0_31),vB (zc.Null r0_31)]) []] [] [(26,.agg [vL zf (zc.Sets r0_31),vL zd (zc.First r0_31),vL zd (zc.Last r0_31),oL 40 zj (zc.Follow r0_31),vB (zc.Null r0_31)])] (obC hc76 obN) ?_
        show Sem _ _ _ _ _
        refine rD kk [] [] [(37,vi (w64 (i_4+1)))] obN ?_
        exact lD ((zc.Sets r0_31),(zc.First r0_31),(zc.Last r0_31),(zc.Follow r0_31),(zc.Null r0_31),(w64 (i_4+1))) [(26,3)] h
       ·have h:=h.2 hb75
        refine xD (i:=9) ?_
        show Sem _ _ _ _ _
        refine wkD [4,5,22,23,37,334] ?_
        refine sD kk [] [25,26] [(8,.agg [vL zf out_Sets_4,vL zd out_First_4,vL zd out_Last_4,vL zj out_Follow_4,vB out_Null_4])] obN ?_
        refine tD ?_
        obtain he0:=h
        subst res
        exact (endD [] (.agg [vL zf out_Sets_4,vL zd out_First_4,vL zd out_Last_4,vL zj out_Follow_4,vB out_Null_4]) []).1
    ·have h:=h.2 hb38
     refine Sem.skip' (by kernel_rfl) Wk.refl ?_
     show Sem _ _ _ _ _
     refine wkD [4,5,199] ?_
     obtain ⟨r0_32,hc77,h⟩:=h
     refine sD kk [.c (zbb r0_32) []] [] [(8,zbb r0_32)] (obC hc77 obN) ?_
     refine tD ?_
     obtain he0:=h
     subst res
     exact (endD [(8,0),(8,1),(8,2),(8,3)] (zn r0_32) []).1
set_option maxHeartbeats 1000000 in
theorem zgM (x:za) (res:zc) (res_1:Int)
 (h:(∃ r0:Bool,zaN x r0∧(((!r0)=true→(res=({ Sets:=[],First:=[],Last:=[],Follow:=[],Null:=false })∧res_1=1))∧((!r0)=false→(∃ r0_1:zc,zaF x r0_1∧(res=r0_1∧res_1=0)))))):zbY x res res_1:=by
 unfold zbY
 have kk:=cfOk [] 10
 refine fD (x:=bodyOf Tryz.f73) kk Tryz.func73 ?_
 refine wkS [1] [(1,zm x)] (by kernel_rfl) ?_
 refine sDE kk [] [1] [(4,.ptr 5 0),(5,zm x),(7,.ptr 8 0),(8,.agg [.own 25 ([]),.own 3 ([]),.own 3 ([]),.own 40 ([]),vB false])] [(4,.ptr 5 0),(5,zm x),(7,.ptr 8 0),(8,.agg [oL 25 zf ([]),oL 3 zd ([]),oL 3 zd ([]),oL 40 zj ([]),vB false])] obN ?_
 refine qD ?_
 obtain ⟨r0,hc0,h⟩:=h
 refine sD kk [.c (vB r0) []] [] [(19,vB (!r0))] (obC hc0 obN) ?_
 refine cD (t:=6) (b:=!r0) (fun hb1=>?_) (fun hb1=>?_)
 ·have h:=h.1 hb1
  refine sDE kk [] [4,5,19] [(8,.agg [.own 25 ([]),.own 3 ([]),.own 3 ([]),.own 40 ([]),vB false]),(10,vi 1)] [(8,.agg [oL 25 zf ([]),oL 3 zd ([]),oL 3 zd ([]),oL 40 zj ([]),vB false]),(10,vi 1)] obN ?_
  refine tD ?_
  obtain ⟨he0,he1⟩:=h
  subst res res_1
  exact (endD [] (.tup [.agg [.f (FV.sl (List.take (List.length (List.map zf [])) (List.drop (0:Nat) (List.map zf [])))),.f (FV.sl (List.take (List.length (List.map zd [])) (List.drop (0:Nat) (List.map zd [])))),.f (FV.sl (List.take (List.length (List.map zd [])) (List.drop (0:Nat) (List.map zd [])))),.f (FV.sl (List.take (List.length (List.map zj [])) (List.drop (0:Nat) (List.map zj [])))),vB false],vi 1]) []).1
 ·have h:=h.2 hb1
  refine Sem.skip' (by kernel_rfl) Wk.refl ?_
  show Sem _ _ _ _ _
  refine wkD [19] ?_
  obtain ⟨r0_1,hc2,h⟩:=h
  refine sD kk [.c (zn r0_1) []] [4,5] [(8,zn r0_1),(10,vi 0)] (obC hc2 obN) ?_
  refine tD ?_
  obtain ⟨he0,he1⟩:=h
  subst res res_1
  exact (endD [] (.tup [zn r0_1,vi 0]) []).1
set_option maxHeartbeats 1000000 in
theorem zeR (x:za) (s0:ByteArray) (res:(List Bool))
 (h:(∃ r0:zc,∃ r0_1:Int,zbY x r0 r0_1∧(((r0_1 != (0:Int) || decide ((↑(ByteArray.size s0):Int) > (10000:Int)))=true→(res=([])))∧((r0_1 != (0:Int) || decide ((↑(ByteArray.size s0):Int) > (10000:Int)))=false→(∃ (Inv376:List Bool→List Int→Int→Prop) (mu377:List Bool→List Int→Int→Nat),Inv376 ([zc.Null r0]) (zc.First r0) 0∧(∀ (out:List Bool) (next:List Int) (i:Int),Inv376 out next i→(((decide (i < (↑(ByteArray.size s0):Int)))=true→(∃ (Inv499:Bool→List Int→Int→Prop) (mu500:Bool→List Int→Int→Nat),Inv499 false ([]) 0∧(∀ (is_23:Bool) (then0_9:List Int) (k_2:Int),Inv499 is_23 then0_9 k_2→(((decide (k_2 < (↑(List.length next):Int)))=true→(∃ J534:Bool→List Int→Prop,(∀ (is_28:Bool) (then0_11:List Int),J534 is_28 then0_11→(Inv499 is_28 then0_11 (w64 (k_2+1))∧mu500 is_28 then0_11 (w64 (k_2+1)) < mu500 is_23 then0_9 k_2))∧((0:Int)≤k_2)∧k_2 < ↑(List.length next)∧((0:Int)≤gd next k_2)∧gd next k_2 < ↑(List.length (zc.Sets r0))∧((0:Int)≤i)∧i < ↑(ByteArray.size s0)∧(∃ r0_36:Bool,zaw (gd (zc.Sets r0) (gd next k_2)) (w64 (↑(UInt8.toNat (byteAt s0 i)):Int)) r0_36∧(((!r0_36)=true→J534 is_23 then0_9)∧((!r0_36)=false→((0:Int)≤k_2)∧k_2 < ↑(List.length next)∧((0:Int)≤gd next k_2)∧gd next k_2 < ↑(List.length (zc.Follow r0))∧(∃ r0_37:List Int,zR then0_9 (gd (zc.Follow r0) (gd next k_2)) r0_37∧(∃ (Inv559:Bool→Int→Prop) (mu560:Bool→Int→Nat),Inv559 is_23 0∧(∀ (is_29:Bool) (j_17:Int),Inv559 is_29 j_17→(((decide (j_17 < (↑(List.length (zc.Last r0)):Int)))=true→((is_29)=false→((0:Int)≤j_17))∧((is_29)=false→j_17 < ↑(List.length (zc.Last r0)))∧((is_29)=false→((0:Int)≤k_2))∧((is_29)=false→k_2 < ↑(List.length next))∧(Inv559 (is_29 || gd (zc.Last r0) j_17 == gd next k_2) (w64 (j_17+1))∧mu560 (is_29 || gd (zc.Last r0) j_17 == gd next k_2) (w64 (j_17+1)) < mu560 is_29 j_17))∧((decide (j_17 < (↑(List.length (zc.Last r0)):Int)))=false→J534 is_29 r0_37))))))))))∧((decide (k_2 < (↑(List.length next):Int)))=false→((List.length out+(1:Nat)) * (1:Nat)≤(2:Nat) ^ (47:Nat))∧(Inv376 (out++[is_23]) then0_9 (w64 (i+1))∧mu377 (out++[is_23]) then0_9 (w64 (i+1)) < mu377 out next i))))))∧((decide (i < (↑(ByteArray.size s0):Int)))=false→(res=out))))))))):zbs x s0 res:=by
 unfold zbs
 have kk:=cfOk [92] 93
 refine fD (x:=bodyOf Tryz.f36) kk Tryz.func36 ?_
 refine wkS [1,4] [(1,zm x),(4,vS s0)] (by kernel_rfl) ?_
 refine sD kk [] [1] [(7,.ptr 8 0),(8,zm x)] obN ?_
 obtain ⟨r0,r0_1,hc0,h⟩:=h
 refine sD kk [.c (.tup [zn r0,vi r0_1]) []] [7,8] [(16,.ptr 17 0),(17,zn r0),(19,vi r0_1)] (obC hc0 obN) ?_
 refine qD ?_
 refine sM [19] [(76,vB (r0_1 != (0:Int) || decide ((↑(ByteArray.size s0):Int) > (10000:Int))))] ?_ (fun hk0=>?_)
 ·refine cD (t:=25) (b:=r0_1 != (0:Int) || decide ((↑(ByteArray.size s0):Int) > (10000:Int))) (fun hb2=>?_) (fun hb2=>?_)
  ·have h:=h.1 hb2
   refine sDE kk [] [4,16,17,76] [(13,.own 4 ([]))] [(13,oL 4 zk ([]))] obN ?_
   refine tD ?_
   obtain he0:=h
   subst res
   exact (endD [] (oL 4 zk ([])) []).1
  ·have h:=h.2 hb2
   refine Sem.skip' (by kernel_rfl) Wk.refl ?_
   show Sem _ _ _ _ _
   refine wkD [76] ?_
   refine sDE kk [] [] [(22,.own 4 ([FV.pv (Value.bool (zc.Null r0))]))] [(22,oL 4 zk ([zc.Null r0]))] obN ?_
   refine sD kk [] [] [(25,vL zd (zc.First r0))] obN ?_
   refine qD ?_
   refine sD kk [] [] [(28,vi 0)] obN ?_
   refine bD (id:=0) ?_
   obtain ⟨Inv376,mu377,h0Inv376,hInv376⟩:=h
   refine loD (fun (q:List Bool×List Int×Int)=>(fun (out:List Bool) (next:List Int) (i:Int)=>([(4,vS s0),(16,.ptr 17 0),(17,zn r0),(22,oL 4 zk out),(25,vL zd next),(28,vi i)]:Sta)) q.1 q.2.1 q.2.2) (fun (q:List Bool×List Int×Int)=>Inv376 q.1 q.2.1 q.2.2) (fun (q:List Bool×List Int×Int)=>mu377 q.1 q.2.1 q.2.2) (([zc.Null r0]),(zc.First r0),0) [] h0Inv376 ?_
   rintro ⟨out,next,i⟩ hi
   have h:=hInv376 out next i hi
   refine qD ?_
   refine sD kk [] [] [(103,vB (decide (i < (↑(ByteArray.size s0):Int))))] obN ?_
   refine cD (t:=34) (b:=decide (i < (↑(ByteArray.size s0):Int))) (fun hb378=>?_) (fun hb378=>?_)
   ·have h:=h.1 hb378
    refine Sem.skip' (by kernel_rfl) Wk.refl ?_
    show Sem _ _ _ _ _
    refine wkD [103] ?_
    refine qD ?_
    refine bD (id:=1) ?_
    refine sD kk [] [] [(31,vB false)] obN ?_
    refine sDE kk [] [] [(34,.own 3 ([]))] [(34,oL 3 zd ([]))] obN ?_
    refine qD ?_
    refine sD kk [] [] [(37,vi 0)] obN ?_
    refine bD (id:=2) ?_
    obtain ⟨Inv499,mu500,h0Inv499,hInv499⟩:=h
    refine loD (fun (q:Bool×List Int×Int)=>(fun (is_23:Bool) (then0_9:List Int) (k_2:Int)=>([(4,vS s0),(16,.ptr 17 0),(17,zn r0),(22,oL 4 zk out),(25,vL zd next),(28,vi i),(31,vB is_23),(34,vL zd then0_9),(37,vi k_2)]:Sta)) q.1 q.2.1 q.2.2) (fun (q:Bool×List Int×Int)=>Inv499 q.1 q.2.1 q.2.2) (fun (q:Bool×List Int×Int)=>mu500 q.1 q.2.1 q.2.2) (false,([]),0) [(34,0)] h0Inv499 ?_
    rintro ⟨is_23,then0_9,k_2⟩ hi
    have h:=hInv499 is_23 then0_9 k_2 hi
    refine qD ?_
    refine sDE kk [] [] [(121,vB (decide (k_2 < (↑(List.length (List.map zd next)):Int))))] [(121,vB (decide (k_2 < (↑(List.length next):Int))))] obN ?_
    refine cD (t:=40) (b:=decide (k_2 < (↑(List.length next):Int))) (fun hb501=>?_) (fun hb501=>?_)
    ·have h:=h.1 hb501
     refine Sem.skip' (by kernel_rfl) Wk.refl ?_
     show Sem _ _ _ _ _
     refine wkD [121] ?_
     obtain ⟨J534,hJ534,h⟩:=h
     refine sjD (fun (q:Bool×List Int)=>J534 q.1 q.2) (fun (q:Bool×List Int)=>(fun (is_28:Bool) (then0_11:List Int)=>([(4,vS s0),(16,.ptr 17 0),(17,zn r0),(22,oL 4 zk out),(25,vL zd next),(28,vi i),(31,vB is_28),(34,vL zd then0_11),(37,vi k_2)]:Sta)) q.1 q.2) ?_ ?_
     ·rintro ⟨is_28,then0_11⟩ hj
      have h:=hJ534 is_28 then0_11 hj
      refine rD kk [] [] [(37,vi (w64 (k_2+1)))] obN ?_
      exact lD (is_28,then0_11,(w64 (k_2+1))) [] h
     ·refine bD (id:=3) ?_
      refine qD ?_
      obtain ⟨h535,h⟩:=h
      obtain ⟨h536,h⟩:=h
      obtain ⟨h537,h⟩:=h
      obtain ⟨h538,h⟩:=h
      obtain ⟨h539,h⟩:=h
      obtain ⟨h540,h⟩:=h
      obtain ⟨r0_36,hc541,h⟩:=h
      refine sD kk [.e (fi (gd next k_2)),.e (zcY (gd (zc.Sets r0) (gd next k_2))),.y (byteAt s0 i),.c (vB r0_36) []] [] [(169,vB (!r0_36))] (obC h535 (obC (zL zd next k_2 _ rfl h535 h536) (obC h537 (obC (zL zf (zc.Sets r0) (gd next k_2) _ (zaS _) h537 h538) (obC h539 (obC (zhV s0 i h539 h540) (obC hc541 obN))))))) ?_
      refine cD (t:=56) (b:=!r0_36) (fun hb542=>?_) (fun hb542=>?_)
      ·have h:=h.1 hb542
       refine xD (i:=3) ?_
       exact jD (is_23,then0_9) [] h
      ·have h:=h.2 hb542
       refine Sem.skip' (by kernel_rfl) Wk.refl ?_
       show Sem _ _ _ _ _
       refine wkD [169] ?_
       obtain ⟨h543,h⟩:=h
       obtain ⟨h544,h⟩:=h
       obtain ⟨h545,h⟩:=h
       obtain ⟨h546,h⟩:=h
       obtain ⟨r0_37,hc547,h⟩:=h
       refine sD kk [.e (fi (gd next k_2)),.e (fL zd (gd (zc.Follow r0) (gd next k_2))),.c (vL zd r0_37) []] [] [(34,vL zd r0_37)] (obC h543 (obC (zL zd next k_2 _ rfl h543 h544) (obC h545 (obC (zL zj (zc.Follow r0) (gd next k_2) _ rfl h545 h546) (obC hc547 obN))))) ?_
       refine sD kk [] [] [(40,vi 0)] obN ?_
       refine bD (id:=4) ?_
       obtain ⟨Inv559,mu560,h0Inv559,hInv559⟩:=h
       refine loD (fun (q:Bool×Int)=>(fun (is_29:Bool) (j_17:Int)=>([(4,vS s0),(16,.ptr 17 0),(17,zn r0),(22,oL 4 zk out),(25,vL zd next),(28,vi i),(31,vB is_29),(34,vL zd r0_37),(37,vi k_2),(40,vi j_17)]:Sta)) q.1 q.2) (fun (q:Bool×Int)=>Inv559 q.1 q.2) (fun (q:Bool×Int)=>mu560 q.1 q.2) (is_23,0) [] h0Inv559 ?_
       rintro ⟨is_29,j_17⟩ hi
       have h:=hInv559 is_29 j_17 hi
       refine qD ?_
       refine sDE kk [] [] [(214,vB (decide (j_17 < (↑(List.length (List.map zd (zc.Last r0))):Int))))] [(214,vB (decide (j_17 < (↑(List.length (zc.Last r0)):Int))))] obN ?_
       refine cD (t:=71) (b:=decide (j_17 < (↑(List.length (zc.Last r0)):Int))) (fun hb561=>?_) (fun hb561=>?_)
       ·have h:=h.1 hb561
        refine Sem.skip' (by kernel_rfl) Wk.refl ?_
        show Sem _ _ _ _ _
        refine wkD [214] ?_
        refine qD ?_
        refine bD (id:=5) ?_
        obtain ⟨h563,h564,h565,h566,h⟩:=h
        refine rM [] [(31,vB (is_29 || gd (zc.Last r0) j_17 == gd next k_2))] ?_ (fun hk0=>?_)
        ·show Sem _ _ _ _ _
         refine rD kk [] [] [(40,vi (w64 (j_17+1)))] obN ?_
         exact lD ((is_29 || gd (zc.Last r0) j_17 == gd next k_2),(w64 (j_17+1))) [] h
        ·rcases Bool.eq_false_or_eq_true (is_29) with hb562 | hb562
         ·refine rD kk [bF,bF,bF,bF,bF,bF,bF,bF,bF,bF,bT] [] [(31,vB true)] (obC (gff hb562) (obC (gff hb562) (obC (gff hb562) (obC (gff hb562) (obC (gff hb562) (obC (gff hb562) (obC (gff hb562) (obC (gff hb562) (obC (gff hb562) (obC (gff hb562) (obC hb562 obN))))))))))) ?_
          exact kcast (by try rw [hb562];kernel_rfl) hk0
         ·refine rD kk [bT,bT,bT,bT,.e (fi (gd (zc.Last r0) j_17)),bT,bT,bT,bT,.e (fi (gd next k_2)),bT,bT,bF] [] [(31,vB (gd (zc.Last r0) j_17 == gd next k_2))] (obC (gft hb562) (obC (gft hb562) (obC (gft hb562) (obC (gft hb562) (obC (h563 hb562) (obC (zL zd (zc.Last r0) j_17 _ rfl (h563 hb562) (h564 hb562)) (obC (gft hb562) (obC (gft hb562) (obC (gft hb562) (obC (gft hb562) (obC (h565 hb562) (obC (zL zd next k_2 _ rfl (h565 hb562) (h566 hb562)) (obC (gft hb562) (obC (gft hb562) (obC hb562 obN))))))))))))))) ?_
          exact kcast (by try rw [hb562];kernel_rfl) hk0
       ·have h:=h.2 hb561
        refine xD (i:=4) ?_
        exact jD (is_29,r0_37) [] h
    ·have h:=h.2 hb501
     refine xD (i:=2) ?_
     show Sem _ _ _ _ _
     refine wkD [25,37,121] ?_
     obtain ⟨h567,h⟩:=h
     refine sDE kk [] [31] [(22,.own 4 (List.map zk out++List.take (List.length [FV.pv (Value.bool is_23)]) (List.drop (0:Nat) [FV.pv (Value.bool is_23)])))] [(22,oL 4 zk (out++[is_23]))] (obC (show (0:Nat)=(0:Nat)∧List.length (List.map zk out)=List.length (List.map zk out) from ⟨rfl,rfl⟩) (obC (show (List.length (List.map zk out)+List.length (List.take (1:Nat) (List.drop (0:Nat) [FV.pv (Value.bool is_23)]))) * (1:Nat)≤(2:Nat) ^ (47:Nat) from by simpa only [nm] using h567) (obC (show List.all (List.take (1:Nat) (List.drop (0:Nat) [FV.pv (Value.bool is_23)])) (FV.fits (1:Nat))=true from by first | exact zcL _ | rfl | simp [isByteF,FV.fits,FV.size,FV.cells,FV.one,]) obN))) ?_
     refine rD kk [] [34] [(25,vL zd then0_9)] obN ?_
     show Sem _ _ _ _ _
     refine rD kk [] [] [(28,vi (w64 (i+1)))] obN ?_
     exact lD ((out++[is_23]),then0_9,(w64 (i+1))) [] h
   ·have h:=h.2 hb378
    refine xD (i:=0) ?_
    show Sem _ _ _ _ _
    refine wkD [4,16,17,25,28,103] ?_
    refine sD kk [] [22] [(13,oL 4 zk out)] obN ?_
    refine tD ?_
    obtain he0:=h
    subst res
    exact (endD [] (oL 4 zk out) []).1
 ·rcases Bool.eq_false_or_eq_true (r0_1 != (0:Int)) with hb1 | hb1
  ·refine sD kk [bF,bF,bF,bT] [19] [(76,vB true)] (obC (gff hb1) (obC (gff hb1) (obC (gff hb1) (obC hb1 obN)))) ?_
   exact Sem.cast (by try rw [hb1];kernel_rfl) hk0
  ·refine sD kk [bT,bT,bT,bF] [19] [(76,vB (decide ((↑(ByteArray.size s0):Int) > (10000:Int))))] (obC (gft hb1) (obC (gft hb1) (obC (gft hb1) (obC hb1 obN)))) ?_
   exact Sem.cast (by try rw [hb1];kernel_rfl) hk0
set_option maxHeartbeats 1000000 in
theorem zc9 (x:za) (s0:ByteArray) (res:Bool)
 (h:(∃ r0:Bool,zaN x r0∧(res=(r0 && decide ((↑(ByteArray.size s0):Int)≤(10000:Int)))))):zbO x s0 res:=by
 unfold zbO
 have kk:=cfOk [] 12
 refine fD (x:=bodyOf Tryz.f120) kk Tryz.func120 ?_
 refine wkS [1,4] [(1,zm x),(4,vS s0)] (by kernel_rfl) ?_
 refine sD kk [] [1] [(7,.ptr 8 0),(8,zm x)] obN ?_
 obtain ⟨r0,hc0,h⟩:=h
 refine sM [4,7,8] [(13,vB (r0 && decide ((↑(ByteArray.size s0):Int)≤(10000:Int))))] ?_ (fun hk0=>?_)
 ·refine tD ?_
  obtain he0:=h
  subst res
  exact (endD [] (vB (r0 && decide ((↑(ByteArray.size s0):Int)≤(10000:Int)))) []).1
 ·rcases Bool.eq_false_or_eq_true (r0) with hb1 | hb1
  ·refine sD kk [.c (vB r0) [],bT,bT,bT,bT] [4,7,8] [(13,vB (decide ((↑(ByteArray.size s0):Int)≤(10000:Int))))] (obC hc0 (obC (gtt hb1) (obC (gtt hb1) (obC (gtt hb1) (obC hb1 obN))))) ?_
   exact Sem.cast (by try rw [hb1];kernel_rfl) hk0
  ·refine sD kk [.c (vB r0) [],bF,bF,bF,bF] [4,7,8] [(13,vB false)] (obC hc0 (obC (gtf hb1) (obC (gtf hb1) (obC (gtf hb1) (obC hb1 obN))))) ?_
   exact Sem.cast (by try rw [hb1];kernel_rfl) hk0
set_option maxHeartbeats 1000000 in
theorem zgN (a:(List Bool)) (b:(List Bool)) (res:(List Bool))
 (h:(∃ (Inv12:List Bool→Int→Prop) (mu13:List Bool→Int→Nat),Inv12 ([]) 0∧(∀ (out:List Bool) (i:Int),Inv12 out i→(((decide (i < (↑(List.length a):Int)))=true→((0:Int)≤i)∧i < ↑(List.length a)∧(((gd a i)=true→((gd a i)=true→((List.length out+(1:Nat)) * (1:Nat)≤(2:Nat) ^ (47:Nat)))∧(Inv12 (out++[true]) (w64 (i+1))∧mu13 (out++[true]) (w64 (i+1)) < mu13 out i))∧((gd a i)=false→((gd a i)=false→((0:Int)≤i))∧((gd a i)=false→i < ↑(List.length b))∧((gd a i)=false→((List.length out+(1:Nat)) * (1:Nat)≤(2:Nat) ^ (47:Nat)))∧(Inv12 (out++[gd b i]) (w64 (i+1))∧mu13 (out++[gd b i]) (w64 (i+1)) < mu13 out i))))∧((decide (i < (↑(List.length a):Int)))=false→(res=out)))))):zaW a b res:=by
 unfold zaW
 have kk:=cfOk [26] 27
 refine fD (x:=bodyOf Tryz.f137) kk Tryz.func137 ?_
 refine wkS [1,4] [(1,vL zk a),(4,vL zk b)] (by kernel_rfl) ?_
 refine sD kk [] [] [] obN ?_
 refine sDE kk [] [] [(16,.own 4 ([]))] [(16,oL 4 zk ([]))] obN ?_
 refine qD ?_
 refine sD kk [] [] [(19,vi 0)] obN ?_
 refine bD (id:=0) ?_
 obtain ⟨Inv12,mu13,h0Inv12,hInv12⟩:=h
 refine loD (fun (q:List Bool×Int)=>(fun (out:List Bool) (i:Int)=>([(1,vL zk a),(4,vL zk b),(16,oL 4 zk out),(19,vi i)]:Sta)) q.1 q.2) (fun (q:List Bool×Int)=>Inv12 q.1 q.2) (fun (q:List Bool×Int)=>mu13 q.1 q.2) (([]),0) [] h0Inv12 ?_
 rintro ⟨out,i⟩ hi
 have h:=hInv12 out i hi
 refine qD ?_
 refine sDE kk [] [] [(31,vB (decide (i < (↑(List.length (List.map zk a)):Int))))] [(31,vB (decide (i < (↑(List.length a):Int))))] obN ?_
 refine cD (t:=10) (b:=decide (i < (↑(List.length a):Int))) (fun hb14=>?_) (fun hb14=>?_)
 ·have h:=h.1 hb14
  refine Sem.skip' (by kernel_rfl) Wk.refl ?_
  show Sem _ _ _ _ _
  refine wkD [31] ?_
  refine qD ?_
  refine bD (id:=1) ?_
  obtain ⟨h15,h⟩:=h
  obtain ⟨h16,h⟩:=h
  rcases Bool.eq_false_or_eq_true (gd a i) with hb17 | hb17
  ·have h:=h.1 hb17
   obtain ⟨h21,h⟩:=h
   refine rDE kk [.e (fB (gd a i)),bF,bF,bF,bF,bT] [] [(16,.own 4 (List.map zk out++List.take (List.length [FV.pv (Value.bool true)]) (List.drop (0:Nat) [FV.pv (Value.bool true)])))] [(16,oL 4 zk (out++[true]))] (obC h15 (obC (zL zk a i _ rfl h15 h16) (obC (gff hb17) (obC (gff hb17) (obC (gff hb17) (obC (gff hb17) (obC hb17 (obC (show (0:Nat)=(0:Nat)∧List.length (List.map zk out)=List.length (List.map zk out) from ⟨rfl,rfl⟩) (obC (show (List.length (List.map zk out)+List.length (List.take (1:Nat) (List.drop (0:Nat) [FV.pv (Value.bool true)]))) * (1:Nat)≤(2:Nat) ^ (47:Nat) from by simpa only [nm] using (h21 hb17)) (obC (show List.all (List.take (1:Nat) (List.drop (0:Nat) [FV.pv (Value.bool true)])) (FV.fits (1:Nat))=true from by first | decide | rfl | trivial) obN)))))))))) ?_
   show Sem _ _ _ _ _
   refine rD kk [] [] [(19,vi (w64 (i+1)))] obN ?_
   exact lD ((out++[true]),(w64 (i+1))) [] h
  ·have h:=h.2 hb17
   obtain ⟨h18,h⟩:=h
   obtain ⟨h19,h⟩:=h
   obtain ⟨h20,h⟩:=h
   refine rDE kk [.e (fB (gd a i)),bT,bT,bT,.e (fB (gd b i)),bT,bF] [] [(16,.own 4 (List.map zk out++List.take (List.length [FV.pv (Value.bool (gd b i))]) (List.drop (0:Nat) [FV.pv (Value.bool (gd b i))])))] [(16,oL 4 zk (out++[gd b i]))] (obC h15 (obC (zL zk a i _ rfl h15 h16) (obC (gft hb17) (obC (gft hb17) (obC (gft hb17) (obC (h18 hb17) (obC (zL zk b i _ rfl (h18 hb17) (h19 hb17)) (obC (gft hb17) (obC hb17 (obC (show (0:Nat)=(0:Nat)∧List.length (List.map zk out)=List.length (List.map zk out) from ⟨rfl,rfl⟩) (obC (show (List.length (List.map zk out)+List.length (List.take (1:Nat) (List.drop (0:Nat) [FV.pv (Value.bool (gd b i))]))) * (1:Nat)≤(2:Nat) ^ (47:Nat) from by simpa only [nm] using (h20 hb17)) (obC (show List.all (List.take (1:Nat) (List.drop (0:Nat) [FV.pv (Value.bool (gd b i))])) (FV.fits (1:Nat))=true from by first | exact zcL _ | rfl | simp [isByteF,FV.fits,FV.size,FV.cells,FV.one,]) obN)))))))))))) ?_
   show Sem _ _ _ _ _
   refine rD kk [] [] [(19,vi (w64 (i+1)))] obN ?_
   exact lD ((out++[gd b i]),(w64 (i+1))) [] h
 ·have h:=h.2 hb14
  refine xD (i:=0) ?_
  show Sem _ _ _ _ _
  refine wkD [1,4,19,31] ?_
  refine sD kk [] [16] [(13,oL 4 zk out)] obN ?_
  refine tD ?_
  obtain he0:=h
  subst res
  exact (endD [] (oL 4 zk out) []).1
set_option maxHeartbeats 1000000 in
theorem zen (x:za) (res:Bool)
 (h:(res=(za.Kind x == (5:Int) && (decide (za.Hi x < (0:Int)) && decide (za.Lo x≤(1:Int)))))):zbj x res:=by
 unfold zbj
 have kk:=cfOk [] 16
 refine fD (x:=bodyOf Tryz.f138) kk Tryz.func138 ?_
 refine wkS [1] [(1,zm x)] (by kernel_rfl) ?_
 refine sD kk [] [1] [(4,.ptr 5 0),(5,zm x)] obN ?_
 refine sM [4,5] [(7,vB (za.Kind x == (5:Int) && (decide (za.Hi x < (0:Int)) && decide (za.Lo x≤(1:Int)))))] ?_ (fun hk0=>?_)
 ·refine tD ?_
  obtain he0:=h
  subst res
  exact (endD [] (vB (za.Kind x == (5:Int) && (decide (za.Hi x < (0:Int)) && decide (za.Lo x≤(1:Int))))) []).1
 ·rcases Bool.eq_false_or_eq_true (za.Kind x == (5:Int)) with hb0 | hb0
  ·rcases Bool.eq_false_or_eq_true (decide (za.Hi x < (0:Int))) with hb1 | hb1
   ·refine sD kk [bT,bT,bT,bT,bT,bT,bT,bT] [4,5] [(7,vB (decide (za.Lo x≤(1:Int))))] (obC (gtt hb0) (obC (gtt hb0) (obC (gtt hb0) (obC hb0 (obC (gtt hb1) (obC (gtt hb1) (obC (gtt hb1) (obC hb1 obN)))))))) ?_
    exact Sem.cast (by try rw [hb0];try rw [hb1];kernel_rfl) hk0
   ·refine sD kk [bT,bT,bT,bT,bF,bF,bF,bF] [4,5] [(7,vB false)] (obC (gtt hb0) (obC (gtt hb0) (obC (gtt hb0) (obC hb0 (obC (gtf hb1) (obC (gtf hb1) (obC (gtf hb1) (obC hb1 obN)))))))) ?_
    exact Sem.cast (by try rw [hb0];try rw [hb1];kernel_rfl) hk0
  ·refine sD kk [bF,bF,bF,bF,bF,bF,bF,bF] [4,5] [(7,vB false)] (obC (gtf hb0) (obC (gtf hb0) (obC (gtf hb0) (obC hb0 (oF (oF (oF (oF obN)))))))) ?_
   exact Sem.cast (by try rw [hb0];kernel_rfl) hk0
set_option maxHeartbeats 1000000 in
theorem zem (a:(List Bool)) (b:(List Bool)) (res:Bool)
 (h:(∃ (Inv12:Int→Prop) (mu13:Int→Nat),Inv12 0∧(∀ (i:Int),Inv12 i→(((decide (i < (↑(List.length a):Int)))=true→((0:Int)≤i)∧i < ↑(List.length a)∧((gd a i)=true→((0:Int)≤i))∧((gd a i)=true→i < ↑(List.length b))∧(((gd a i && !gd b i)=true→(res=false))∧((gd a i && !gd b i)=false→(Inv12 (w64 (i+1))∧mu13 (w64 (i+1)) < mu13 i))))∧((decide (i < (↑(List.length a):Int)))=false→(res=true)))))):zaD a b res:=by
 unfold zaD
 have kk:=cfOk [] 23
 refine fD (x:=bodyOf Tryz.f139) kk Tryz.func139 ?_
 refine wkS [1,4] [(1,vL zk a),(4,vL zk b)] (by kernel_rfl) ?_
 refine sD kk [] [] [] obN ?_
 refine qD ?_
 refine sD kk [] [] [(16,vi 0)] obN ?_
 refine bD (id:=0) ?_
 obtain ⟨Inv12,mu13,h0Inv12,hInv12⟩:=h
 refine loD (fun (q:Int)=>(fun (i:Int)=>([(1,vL zk a),(4,vL zk b),(16,vi i)]:Sta)) q) (fun (q:Int)=>Inv12 q) (fun (q:Int)=>mu13 q) 0 [] h0Inv12 ?_
 rintro i hi
 have h:=hInv12 i hi
 refine qD ?_
 refine sDE kk [] [] [(28,vB (decide (i < (↑(List.length (List.map zk a)):Int))))] [(28,vB (decide (i < (↑(List.length a):Int))))] obN ?_
 refine cD (t:=9) (b:=decide (i < (↑(List.length a):Int))) (fun hb14=>?_) (fun hb14=>?_)
 ·have h:=h.1 hb14
  refine Sem.skip' (by kernel_rfl) Wk.refl ?_
  show Sem _ _ _ _ _
  refine wkD [28] ?_
  refine qD ?_
  refine bD (id:=1) ?_
  obtain ⟨h15,h⟩:=h
  obtain ⟨h16,h⟩:=h
  obtain ⟨h18,h19,h⟩:=h
  refine sM [] [(67,vB (gd a i && !gd b i))] ?_ (fun hk0=>?_)
  ·refine cD (t:=22) (b:=gd a i && !gd b i) (fun hb20=>?_) (fun hb20=>?_)
   ·have h:=h.1 hb20
    refine sD kk [] [1,4,16,67] [(13,vB false)] obN ?_
    refine tD ?_
    obtain he0:=h
    subst res
    exact (endD [] (vB false) []).1
   ·have h:=h.2 hb20
    refine Sem.skip' (by kernel_rfl) Wk.refl ?_
    show Sem _ _ _ _ _
    refine wkD [67] ?_
    refine rD kk [] [] [(16,vi (w64 (i+1)))] obN ?_
    exact lD (w64 (i+1)) [] h
  ·rcases Bool.eq_false_or_eq_true (gd a i) with hb17 | hb17
   ·refine sD kk [.e (fB (gd a i)),bT,bT,bT,.e (fB (gd b i)),bT,bT,bT] [] [(67,vB (!gd b i))] (obC h15 (obC (zL zk a i _ rfl h15 h16) (obC (gtt hb17) (obC (gtt hb17) (obC (gtt hb17) (obC (h18 hb17) (obC (zL zk b i _ rfl (h18 hb17) (h19 hb17)) (obC (gtt hb17) (obC (gtt hb17) (obC hb17 obN)))))))))) ?_
    exact Sem.cast (by try rw [hb17];kernel_rfl) hk0
   ·refine sD kk [.e (fB (gd a i)),bF,bF,bF,bF,bF,bF] [] [(67,vB false)] (obC h15 (obC (zL zk a i _ rfl h15 h16) (obC (gtf hb17) (obC (gtf hb17) (obC (gtf hb17) (obC (gtf hb17) (obC (gtf hb17) (obC hb17 obN)))))))) ?_
    exact Sem.cast (by try rw [hb17];kernel_rfl) hk0
 ·have h:=h.2 hb14
  refine xD (i:=0) ?_
  show Sem _ _ _ _ _
  refine wkD [1,4,16,28] ?_
  refine sD kk [] [] [(13,vB true)] obN ?_
  refine tD ?_
  obtain he0:=h
  subst res
  exact (endD [] (vB true) []).1
set_option maxHeartbeats 1000000 in
theorem zfA (x:za) (s0:ByteArray) (from0:(List Bool)) (res:(List Bool))
 (h:((0:Int)≤(↑(List.length from0):Int)∧(↑(List.length from0):Int)≤(↑(List.length from0):Int)∧(↑(List.length from0):Int) < (2:Int) ^ (40:Nat)∧(↑(1:Nat):Int) * (↑(List.length from0):Int)≤(2:Int) ^ (47:Nat))∧(∃ J119:List Bool→Prop,(∀ (out_3:List Bool),J119 out_3→(res=out_3))∧(((za.Kind x == 1)=true→J119 (from0++List.drop (List.length from0) (List.replicate (List.length from0) false)))∧((za.Kind x == 1)=false→(((za.Kind x == (2:Int))=true→(∃ (Inv144:List Bool→Int→Prop) (mu145:List Bool→Int→Nat),Inv144 (List.replicate (List.length from0) false) 0∧(∀ (out_4:List Bool) (i_5:Int),Inv144 out_4 i_5→(((decide (i_5 < (↑(ByteArray.size s0):Int)))=true→((0:Int)≤i_5)∧i_5 < ↑(List.length from0)∧(((gd from0 i_5)=true→((gd from0 i_5)=true→((0:Int)≤i_5))∧((gd from0 i_5)=true→i_5 < ↑(ByteArray.size s0))∧(∃ r0_29:Bool,zaw (za.Set x) (w64 (↑(UInt8.toNat (byteAt s0 i_5)):Int)) r0_29∧((gd from0 i_5)=true→((0:Int)≤w64 (i_5+1)))∧((gd from0 i_5)=true→(Int.toNat (w64 (i_5+1)) < List.length out_4))∧((gd from0 i_5)=true→w64 (i_5+1) < ↑(List.length out_4))∧(Inv144 (List.set out_4 (Int.toNat (w64 (i_5+1))) r0_29) (w64 (i_5+1))∧mu145 (List.set out_4 (Int.toNat (w64 (i_5+1))) r0_29) (w64 (i_5+1)) < mu145 out_4 i_5)))∧((gd from0 i_5)=false→((gd from0 i_5)=false→((0:Int)≤w64 (i_5+1)))∧((gd from0 i_5)=false→(Int.toNat (w64 (i_5+1)) < List.length out_4))∧((gd from0 i_5)=false→w64 (i_5+1) < ↑(List.length out_4))∧(Inv144 (List.set out_4 (Int.toNat (w64 (i_5+1))) false) (w64 (i_5+1))∧mu145 (List.set out_4 (Int.toNat (w64 (i_5+1))) false) (w64 (i_5+1)) < mu145 out_4 i_5))))∧((decide (i_5 < (↑(ByteArray.size s0):Int)))=false→J119 out_4)))))∧((za.Kind x == (2:Int))=false→(((za.Kind x == (3:Int))=true→(∃ (Inv167:List Bool→Int→Prop) (mu168:List Bool→Int→Nat),Inv167 from0 0∧(∀ (now_3:List Bool) (i_6:Int),Inv167 now_3 i_6→(((decide (i_6 < (↑(List.length (za.Kids x)):Int)))=true→((0:Int)≤i_6)∧i_6 < ↑(List.length (za.Kids x))∧(∃ r0_32:List Bool,zU (gd (za.Kids x) i_6) s0 now_3 r0_32∧(Inv167 r0_32 (w64 (i_6+1))∧mu168 r0_32 (w64 (i_6+1)) < mu168 now_3 i_6)))∧((decide (i_6 < (↑(List.length (za.Kids x)):Int)))=false→J119 (List.take (List.length from0) now_3++List.drop (List.length now_3) (List.replicate (List.length from0) false)))))))∧((za.Kind x == (3:Int))=false→(((za.Kind x == (4:Int))=true→(∃ (Inv183:List Bool→Int→Prop) (mu184:List Bool→Int→Nat),Inv183 (List.replicate (List.length from0) false) 0∧(∀ (out_5:List Bool) (i_7:Int),Inv183 out_5 i_7→(((decide (i_7 < (↑(List.length (za.Kids x)):Int)))=true→((0:Int)≤i_7)∧i_7 < ↑(List.length (za.Kids x))∧(∃ r0_37:List Bool,zU (gd (za.Kids x) i_7) s0 from0 r0_37∧(∃ r0_38:List Bool,zaW out_5 r0_37 r0_38∧(Inv183 r0_38 (w64 (i_7+1))∧mu184 r0_38 (w64 (i_7+1)) < mu184 out_5 i_7))))∧((decide (i_7 < (↑(List.length (za.Kids x)):Int)))=false→J119 out_5)))))∧((za.Kind x == (4:Int))=false→(((za.Kind x == (5:Int))=true→(∃ r0_39:Int,zah x r0_39∧(((r0_39 == 0)=true→(res=(from0++List.drop (List.length from0) (List.replicate (List.length from0) false))))∧((r0_39 == 0)=false→(∃ (Inv199:List Bool→Int→Prop) (mu200:List Bool→Int→Nat),Inv199 from0 0∧(∀ (now_4:List Bool) (i_8:Int),Inv199 now_4 i_8→(((decide (i_8 < za.Lo x))=true→(0:Nat) < List.length (za.Kids x)∧(∃ r0_42:List Bool,zU (List.getD (za.Kids x) (0:Nat) default) s0 now_4 r0_42∧(Inv199 r0_42 (w64 (i_8+1))∧mu200 r0_42 (w64 (i_8+1)) < mu200 now_4 i_8)))∧((decide (i_8 < za.Lo x))=false→(∃ J205:Int→Prop,(∀ (most_2:Int),J205 most_2→(∃ J211:Int→Prop,(∀ (most_3:Int),J211 most_3→(∃ (Inv224:List Bool→List Bool→Int→Prop) (mu225:List Bool→List Bool→Int→Nat),Inv224 (List.take (List.length from0) now_4++List.drop (List.length now_4) (List.replicate (List.length from0) false)) now_4 0∧(∀ (out_6:List Bool) (now_5:List Bool) (i_9:Int),Inv224 out_6 now_5 i_9→(((decide (i_9 < most_3))=true→(0:Nat) < List.length (za.Kids x)∧(∃ r0_50:List Bool,zU (List.getD (za.Kids x) (0:Nat) default) s0 now_5 r0_50∧(∃ r0_51:Bool,zaD r0_50 out_6 r0_51∧(((r0_51)=true→J119 out_6)∧((r0_51)=false→(∃ r0_52:List Bool,zaW out_6 r0_50 r0_52∧(Inv224 r0_52 r0_50 (w64 (i_9+1))∧mu225 r0_52 r0_50 (w64 (i_9+1)) < mu225 out_6 now_5 i_9)))))))∧((decide (i_9 < most_3))=false→J119 out_6)))))∧(((decide (za.Hi x < (0:Int)))=true→((decide (za.Hi x < (0:Int)))=true→(0:Nat) < List.length (za.Kids x))∧(∃ r0_53:Bool,zbj (List.getD (za.Kids x) (0:Nat) default) r0_53∧(((r0_53)=true→J211 (if w64 ((1:Int) - za.Lo x) > (0:Int) then w64 ((1:Int) - za.Lo x) else (0:Int)))∧((r0_53)=false→J211 most_2))))∧((decide (za.Hi x < (0:Int)))=false→J211 most_2))))∧(((decide (za.Hi x < (0:Int)))=true→J205 ((↑(List.length from0):Int)))∧((decide (za.Hi x < (0:Int)))=false→J205 (w64 (za.Hi x - za.Lo x)))))))))))))∧((za.Kind x == (5:Int))=false→J119 (List.replicate (List.length from0) false))))))))))))):zU x s0 from0 res:=by
 unfold zU
 have kk:=cfOk [99,159] 160
 refine fD (x:=bodyOf Tryz.f121) kk Tryz.func121 ?_
 refine wkS [1,4,7] [(1,zm x),(4,vS s0),(7,vL zk from0)] (by kernel_rfl) ?_
 refine sD kk [] [1] [(10,.ptr 11 0),(11,zm x)] obN ?_
 obtain ⟨h0,h⟩:=h
 refine sDE kk [] [] [(22,.own 4 (List.replicate (Int.toNat (↑(List.length (List.map zk from0)):Int)) (FV.pv (Value.bool false))))] [(22,oL 4 zk (List.replicate (List.length from0) false))] (obC (show (0:Int)≤(↑(List.length (List.map zk from0)):Int)∧(↑(List.length (List.map zk from0)):Int)≤(↑(List.length (List.map zk from0)):Int)∧(↑(List.length (List.map zk from0)):Int) < (2:Int) ^ (40:Nat)∧(↑(1:Nat):Int) * (↑(List.length (List.map zk from0)):Int)≤(2:Int) ^ (47:Nat) from by simpa only [nm] using h0) obN) ?_
 obtain ⟨J119,hJ119,h⟩:=h
 refine sjD (fun (q:List Bool)=>J119 q) (fun (q:List Bool)=>(fun (out_3:List Bool)=>([(22,vL zk out_3)]:Sta)) q) ?_ ?_
 ·rintro out_3 hj
  have h:=hJ119 out_3 hj
  refine sD kk [] [22] [(19,vL zk out_3)] obN ?_
  refine tD ?_
  obtain he0:=h
  subst res
  exact (endD [] (vL zk out_3) []).1
 ·refine sD kk [] [] [(61,vi (za.Kind x))] obN ?_
  refine bD (id:=0) ?_
  refine sD kk [] [] [(64,vB (za.Kind x == 1))] obN ?_
  refine cD (t:=21) (b:=za.Kind x == 1) (fun hb120=>?_) (fun hb120=>?_)
  ·have h:=h.1 hb120
   refine rDE kk [] [4,7,10,11,61,64] [(22,.own 4 (List.take (List.length (List.map zk (List.replicate (List.length from0) false))) (List.map zk from0)++List.drop (List.length (List.map zk from0)) (List.map zk (List.replicate (List.length from0) false))))] [(22,oL 4 zk (from0++List.drop (List.length from0) (List.replicate (List.length from0) false)))] (obC (show (0:Nat)=(0:Nat)∧List.length (List.map zk (List.replicate (List.length from0) false))=List.length (List.map zk (List.replicate (List.length from0) false)) from ⟨rfl,rfl⟩) (obC (show List.all (List.map zk from0) (FV.fits (1:Nat))=true from by first | exact zcL _ | rfl | simp [isByteF,FV.fits,FV.size,FV.cells,FV.one,zk]) obN)) ?_
   exact jD (from0++List.drop (List.length from0) (List.replicate (List.length from0) false)) [(22,0)] h
  ·have h:=h.2 hb120
   refine sD kk [] [64] [(79,vB (za.Kind x == (2:Int)))] obN ?_
   refine cD (t:=26) (b:=za.Kind x == (2:Int)) (fun hb121=>?_) (fun hb121=>?_)
   ·have h:=h.1 hb121
    refine sD kk [] [61,79] [(25,vi 0)] obN ?_
    refine bD (id:=1) ?_
    obtain ⟨Inv144,mu145,h0Inv144,hInv144⟩:=h
    refine loD (fun (q:List Bool×Int)=>(fun (out_4:List Bool) (i_5:Int)=>([(4,vS s0),(7,vL zk from0),(10,.ptr 11 0),(11,zm x),(22,oL 4 zk out_4),(25,vi i_5)]:Sta)) q.1 q.2) (fun (q:List Bool×Int)=>Inv144 q.1 q.2) (fun (q:List Bool×Int)=>mu145 q.1 q.2) ((List.replicate (List.length from0) false),0) [] h0Inv144 ?_
    rintro ⟨out_4,i_5⟩ hi
    have h:=hInv144 out_4 i_5 hi
    refine qD ?_
    refine sD kk [] [] [(94,vB (decide (i_5 < (↑(ByteArray.size s0):Int))))] obN ?_
    refine cD (t:=31) (b:=decide (i_5 < (↑(ByteArray.size s0):Int))) (fun hb146=>?_) (fun hb146=>?_)
    ·have h:=h.1 hb146
     refine Sem.skip' (by kernel_rfl) Wk.refl ?_
     show Sem _ _ _ _ _
     refine wkD [94] ?_
     refine qD ?_
     refine bD (id:=2) ?_
     obtain ⟨h147,h⟩:=h
     obtain ⟨h148,h⟩:=h
     rcases Bool.eq_false_or_eq_true (gd from0 i_5) with hb149 | hb149
     ·have h:=h.1 hb149
      obtain ⟨h150,h⟩:=h
      obtain ⟨h151,h⟩:=h
      obtain ⟨r0_29,hc152,h⟩:=h
      obtain ⟨h153,h⟩:=h
      obtain ⟨h154,h⟩:=h
      obtain ⟨h155,h⟩:=h
      refine rDE kk [.e (fB (gd from0 i_5)),bT,bT,bT,bT,bT,.y (byteAt s0 i_5),bT,bT,.c (vB r0_29) [],bT,.e (fB (gd out_4 (w64 (i_5+1))))] [] [(22,.own 4 (List.set (List.map zk out_4) ((0:Nat)+Int.toNat (w64 (i_5+1))) (FV.pv (Value.bool r0_29))))] [(22,oL 4 zk (List.set out_4 (Int.toNat (w64 (i_5+1))) r0_29))] (obC h147 (obC (zL zk from0 i_5 _ rfl h147 h148) (obC (gtt hb149) (obC (gtt hb149) (obC (gtt hb149) (obC (gtt hb149) (obC (gtt hb149) (obC (h150 hb149) (obC (zhV s0 i_5 (h150 hb149) (h151 hb149)) (obC (gtt hb149) (obC (gtt hb149) (obC hc152 (obC hb149 (obC (h153 hb149) (obC (show Int.toNat (w64 (i_5+1)) < List.length (List.map zk out_4) from by simpa only [nm] using (h154 hb149)) (obC (show (List.map zk out_4)[((0:Nat)+Int.toNat (w64 (i_5+1)):Nat)]?=some (fB (gd out_4 (w64 (i_5+1)))) from by have:=zL zk out_4 (w64 (i_5+1)) _ rfl (h153 hb149) (h155 hb149);simpa only [nm,enq,zk] using this) obN)))))))))))))))) ?_
      show Sem _ _ _ _ _
      refine rD kk [] [] [(25,vi (w64 (i_5+1)))] obN ?_
      exact lD ((List.set out_4 (Int.toNat (w64 (i_5+1))) r0_29),(w64 (i_5+1))) [] h
     ·have h:=h.2 hb149
      obtain ⟨h156,h⟩:=h
      obtain ⟨h157,h⟩:=h
      obtain ⟨h158,h⟩:=h
      refine rDE kk [.e (fB (gd from0 i_5)),bF,bF,bF,bF,bF,bF,bF,bF,.e (fB (gd out_4 (w64 (i_5+1))))] [] [(22,.own 4 (List.set (List.map zk out_4) ((0:Nat)+Int.toNat (w64 (i_5+1))) (FV.pv (Value.bool false))))] [(22,oL 4 zk (List.set out_4 (Int.toNat (w64 (i_5+1))) false))] (obC h147 (obC (zL zk from0 i_5 _ rfl h147 h148) (obC (gtf hb149) (obC (gtf hb149) (obC (gtf hb149) (obC (gtf hb149) (obC (gtf hb149) (obC (gtf hb149) (obC (gtf hb149) (obC hb149 (obC (h156 hb149) (obC (show Int.toNat (w64 (i_5+1)) < List.length (List.map zk out_4) from by simpa only [nm] using (h157 hb149)) (obC (show (List.map zk out_4)[((0:Nat)+Int.toNat (w64 (i_5+1)):Nat)]?=some (fB (gd out_4 (w64 (i_5+1)))) from by have:=zL zk out_4 (w64 (i_5+1)) _ rfl (h156 hb149) (h158 hb149);simpa only [nm,enq,zk] using this) obN))))))))))))) ?_
      show Sem _ _ _ _ _
      refine rD kk [] [] [(25,vi (w64 (i_5+1)))] obN ?_
      exact lD ((List.set out_4 (Int.toNat (w64 (i_5+1))) false),(w64 (i_5+1))) [] h
    ·have h:=h.2 hb146
     refine xD (i:=1) ?_
     exact jD out_4 [(22,0)] h
   ·have h:=h.2 hb121
    refine sD kk [] [79] [(154,vB (za.Kind x == (3:Int)))] obN ?_
    refine cD (t:=51) (b:=za.Kind x == (3:Int)) (fun hb159=>?_) (fun hb159=>?_)
    ·have h:=h.1 hb159
     refine sD kk [] [7,61,154] [(28,vL zk from0)] obN ?_
     refine qD ?_
     refine sD kk [] [] [(31,vi 0)] obN ?_
     refine bD (id:=3) ?_
     obtain ⟨Inv167,mu168,h0Inv167,hInv167⟩:=h
     refine loD (fun (q:List Bool×Int)=>(fun (now_3:List Bool) (i_6:Int)=>([(4,vS s0),(10,.ptr 11 0),(11,zm x),(22,oL 4 zk (List.replicate (List.length from0) false)),(28,vL zk now_3),(31,vi i_6)]:Sta)) q.1 q.2) (fun (q:List Bool×Int)=>Inv167 q.1 q.2) (fun (q:List Bool×Int)=>mu168 q.1 q.2) (from0,0) [] h0Inv167 ?_
     rintro ⟨now_3,i_6⟩ hi
     have h:=hInv167 now_3 i_6 hi
     refine qD ?_
     refine sDE kk [] [] [(175,vB (decide (i_6 < (↑(List.length (List.map ze (za.Kids x))):Int))))] [(175,vB (decide (i_6 < (↑(List.length (za.Kids x)):Int))))] obN ?_
     refine cD (t:=58) (b:=decide (i_6 < (↑(List.length (za.Kids x)):Int))) (fun hb169=>?_) (fun hb169=>?_)
     ·have h:=h.1 hb169
      refine Sem.skip' (by kernel_rfl) Wk.refl ?_
      show Sem _ _ _ _ _
      refine wkD [175] ?_
      refine qD ?_
      refine bD (id:=4) ?_
      obtain ⟨h170,h⟩:=h
      obtain ⟨h171,h⟩:=h
      obtain ⟨r0_32,hc172,h⟩:=h
      refine rD kk [.e (zD (gd (za.Kids x) i_6)),.c (vL zk r0_32) []] [] [(28,vL zk r0_32)] (obC h170 (obC (zL ze (za.Kids x) i_6 _ (zt _) h170 h171) (obC hc172 obN))) ?_
      show Sem _ _ _ _ _
      refine rD kk [] [] [(31,vi (w64 (i_6+1)))] obN ?_
      exact lD (r0_32,(w64 (i_6+1))) [] h
     ·have h:=h.2 hb169
      refine xD (i:=3) ?_
      show Sem _ _ _ _ _
      refine wkD [4,10,11,31,175] ?_
      refine rDE kk [] [28] [(22,.own 4 (List.take (List.length (List.map zk (List.replicate (List.length from0) false))) (List.map zk now_3)++List.drop (List.length (List.map zk now_3)) (List.map zk (List.replicate (List.length from0) false))))] [(22,oL 4 zk (List.take (List.length from0) now_3++List.drop (List.length now_3) (List.replicate (List.length from0) false)))] (obC (show (0:Nat)=(0:Nat)∧List.length (List.map zk (List.replicate (List.length from0) false))=List.length (List.map zk (List.replicate (List.length from0) false)) from ⟨rfl,rfl⟩) (obC (show List.all (List.map zk now_3) (FV.fits (1:Nat))=true from by first | exact zcL _ | rfl | simp [isByteF,FV.fits,FV.size,FV.cells,FV.one,zk]) obN)) ?_
      exact jD (List.take (List.length from0) now_3++List.drop (List.length now_3) (List.replicate (List.length from0) false)) [(22,0)] h
    ·have h:=h.2 hb159
     refine sD kk [] [154] [(217,vB (za.Kind x == (4:Int)))] obN ?_
     refine cD (t:=72) (b:=za.Kind x == (4:Int)) (fun hb173=>?_) (fun hb173=>?_)
     ·have h:=h.1 hb173
      refine sD kk [] [61,217] [(34,vi 0)] obN ?_
      refine bD (id:=5) ?_
      obtain ⟨Inv183,mu184,h0Inv183,hInv183⟩:=h
      refine loD (fun (q:List Bool×Int)=>(fun (out_5:List Bool) (i_7:Int)=>([(4,vS s0),(7,vL zk from0),(10,.ptr 11 0),(11,zm x),(22,oL 4 zk out_5),(34,vi i_7)]:Sta)) q.1 q.2) (fun (q:List Bool×Int)=>Inv183 q.1 q.2) (fun (q:List Bool×Int)=>mu184 q.1 q.2) ((List.replicate (List.length from0) false),0) [] h0Inv183 ?_
      rintro ⟨out_5,i_7⟩ hi
      have h:=hInv183 out_5 i_7 hi
      refine qD ?_
      refine sDE kk [] [] [(235,vB (decide (i_7 < (↑(List.length (List.map ze (za.Kids x))):Int))))] [(235,vB (decide (i_7 < (↑(List.length (za.Kids x)):Int))))] obN ?_
      refine cD (t:=78) (b:=decide (i_7 < (↑(List.length (za.Kids x)):Int))) (fun hb185=>?_) (fun hb185=>?_)
      ·have h:=h.1 hb185
       refine Sem.skip' (by kernel_rfl) Wk.refl ?_
       show Sem _ _ _ _ _
       refine wkD [235] ?_
       refine qD ?_
       refine bD (id:=6) ?_
       obtain ⟨h186,h⟩:=h
       obtain ⟨h187,h⟩:=h
       obtain ⟨r0_37,hc188,h⟩:=h
       obtain ⟨r0_38,hc189,h⟩:=h
       refine rD kk [.e (zD (gd (za.Kids x) i_7)),.c (vL zk r0_37) [],.c (oL 4 zk r0_38) []] [] [(22,oL 4 zk r0_38)] (obC h186 (obC (zL ze (za.Kids x) i_7 _ (zt _) h186 h187) (obC hc188 (obC (Eq.mp (by unfold zaW;(try simp only [List.drop_zero,List.take_length]);first | done | simp only [nm,enq]:zaW out_5 r0_37 r0_38=CallE Tryz.prog 137 [.f (FV.sl (List.take (List.length (List.map zk out_5)) (List.drop (0:Nat) (List.map zk out_5)))),vL zk r0_37] [] (oL 4 zk r0_38) []) hc189) obN)))) ?_
       show Sem _ _ _ _ _
       refine rD kk [] [] [(34,vi (w64 (i_7+1)))] obN ?_
       exact lD (r0_38,(w64 (i_7+1))) [] h
      ·have h:=h.2 hb185
       refine xD (i:=5) ?_
       exact jD out_5 [(22,0)] h
     ·have h:=h.2 hb173
      refine sD kk [] [61,217] [(274,vB (za.Kind x == (5:Int)))] obN ?_
      refine cD (t:=91) (b:=za.Kind x == (5:Int)) (fun hb190=>?_) (fun hb190=>?_)
      ·have h:=h.1 hb190
       refine qD ?_
       obtain ⟨r0_39,hc191,h⟩:=h
       refine sD kk [.c (vi r0_39) []] [274] [(286,vB (r0_39 == 0))] (obC hc191 obN) ?_
       refine cD (t:=95) (b:=r0_39 == 0) (fun hb192=>?_) (fun hb192=>?_)
       ·have h:=h.1 hb192
        refine sDE kk [] [4,7,10,11,286] [(22,.own 4 (List.take (List.length (List.map zk (List.replicate (List.length from0) false))) (List.map zk from0)++List.drop (List.length (List.map zk from0)) (List.map zk (List.replicate (List.length from0) false))))] [(22,oL 4 zk (from0++List.drop (List.length from0) (List.replicate (List.length from0) false)))] (obC (show (0:Nat)=(0:Nat)∧List.length (List.map zk (List.replicate (List.length from0) false))=List.length (List.map zk (List.replicate (List.length from0) false)) from ⟨rfl,rfl⟩) (obC (show List.all (List.map zk from0) (FV.fits (1:Nat))=true from by first | exact zcL _ | rfl | simp [isByteF,FV.fits,FV.size,FV.cells,FV.one,zk]) obN)) ?_
        refine sD kk [] [22] [(19,oL 4 zk (from0++List.drop (List.length from0) (List.replicate (List.length from0) false)))] obN ?_
        refine tD ?_
        obtain he0:=h
        subst res
        exact (endD [(19,0)] (vL zk (from0++List.drop (List.length from0) (List.replicate (List.length from0) false))) []).1
       ·have h:=h.2 hb192
        refine Sem.skip' (by kernel_rfl) Wk.refl ?_
        show Sem _ _ _ _ _
        refine wkD [286] ?_
        refine sD kk [] [] [(37,vL zk from0)] obN ?_
        refine qD ?_
        refine sD kk [] [] [(40,vi 0)] obN ?_
        refine bD (id:=7) ?_
        obtain ⟨Inv199,mu200,h0Inv199,hInv199⟩:=h
        refine loD (fun (q:List Bool×Int)=>(fun (now_4:List Bool) (i_8:Int)=>([(4,vS s0),(7,vL zk from0),(10,.ptr 11 0),(11,zm x),(22,oL 4 zk (List.replicate (List.length from0) false)),(37,vL zk now_4),(40,vi i_8)]:Sta)) q.1 q.2) (fun (q:List Bool×Int)=>Inv199 q.1 q.2) (fun (q:List Bool×Int)=>mu200 q.1 q.2) (from0,0) [] h0Inv199 ?_
        rintro ⟨now_4,i_8⟩ hi
        have h:=hInv199 now_4 i_8 hi
        refine qD ?_
        refine sD kk [] [] [(313,vB (decide (i_8 < za.Lo x)))] obN ?_
        refine cD (t:=104) (b:=decide (i_8 < za.Lo x)) (fun hb201=>?_) (fun hb201=>?_)
        ·have h:=h.1 hb201
         refine Sem.skip' (by kernel_rfl) Wk.refl ?_
         show Sem _ _ _ _ _
         refine wkD [313] ?_
         refine qD ?_
         refine bD (id:=8) ?_
         obtain ⟨h202,h⟩:=h
         obtain ⟨r0_42,hc203,h⟩:=h
         refine rD kk [.e (zD (List.getD (za.Kids x) (0:Nat) default)),.c (vL zk r0_42) []] [] [(37,vL zk r0_42)] (obC (show (0:Int)≤(0:Int) from by first | decide | rfl | trivial) (obC (show (List.map ze (za.Kids x))[(Int.toNat (0:Int):Nat)]?=some (zD (List.getD (za.Kids x) (0:Nat) default)) from by have:=zbh ze (za.Kids x) ((0:Nat)) _ (zt _) h202;simpa only [nm,enq,zt] using this) (obC hc203 obN))) ?_
         show Sem _ _ _ _ _
         refine rD kk [] [] [(40,vi (w64 (i_8+1)))] obN ?_
         exact lD (r0_42,(w64 (i_8+1))) [] h
        ·have h:=h.2 hb201
         refine xD (i:=7) ?_
         show Sem _ _ _ _ _
         refine wkD [40,313] ?_
         refine sDE kk [] [] [(22,.own 4 (List.take (List.length (List.map zk (List.replicate (List.length from0) false))) (List.map zk now_4)++List.drop (List.length (List.map zk now_4)) (List.map zk (List.replicate (List.length from0) false))))] [(22,oL 4 zk (List.take (List.length from0) now_4++List.drop (List.length now_4) (List.replicate (List.length from0) false)))] (obC (show (0:Nat)=(0:Nat)∧List.length (List.map zk (List.replicate (List.length from0) false))=List.length (List.map zk (List.replicate (List.length from0) false)) from ⟨rfl,rfl⟩) (obC (show List.all (List.map zk now_4) (FV.fits (1:Nat))=true from by first | exact zcL _ | rfl | simp [isByteF,FV.fits,FV.size,FV.cells,FV.one,zk]) obN)) ?_
         refine sD kk [] [] [(43,vi (w64 (za.Hi x - za.Lo x)))] obN ?_
         obtain ⟨J205,hJ205,h⟩:=h
         refine sjD (fun (q:Int)=>J205 q) (fun (q:Int)=>(fun (most_2:Int)=>([(4,vS s0),(10,.ptr 11 0),(11,zm x),(22,oL 4 zk (List.take (List.length from0) now_4++List.drop (List.length now_4) (List.replicate (List.length from0) false))),(37,vL zk now_4),(43,vi most_2)]:Sta)) q) ?_ ?_
         ·rintro most_2 hj
          have h:=hJ205 most_2 hj
          obtain ⟨J211,hJ211,h⟩:=h
          refine sjD (fun (q:Int)=>J211 q) (fun (q:Int)=>(fun (most_3:Int)=>([(4,vS s0),(10,.ptr 11 0),(11,zm x),(22,oL 4 zk (List.take (List.length from0) now_4++List.drop (List.length now_4) (List.replicate (List.length from0) false))),(37,vL zk now_4),(43,vi most_3)]:Sta)) q) ?_ ?_
          ·rintro most_3 hj
           have h:=hJ211 most_3 hj
           refine sD kk [] [] [(46,vi 0)] obN ?_
           refine bD (id:=9) ?_
           obtain ⟨Inv224,mu225,h0Inv224,hInv224⟩:=h
           refine loD (fun (q:List Bool×List Bool×Int)=>(fun (out_6:List Bool) (now_5:List Bool) (i_9:Int)=>([(4,vS s0),(10,.ptr 11 0),(11,zm x),(22,oL 4 zk out_6),(37,vL zk now_5),(43,vi most_3),(46,vi i_9)]:Sta)) q.1 q.2.1 q.2.2) (fun (q:List Bool×List Bool×Int)=>Inv224 q.1 q.2.1 q.2.2) (fun (q:List Bool×List Bool×Int)=>mu225 q.1 q.2.1 q.2.2) ((List.take (List.length from0) now_4++List.drop (List.length now_4) (List.replicate (List.length from0) false)),now_4,0) [] h0Inv224 ?_
           rintro ⟨out_6,now_5,i_9⟩ hi
           have h:=hInv224 out_6 now_5 i_9 hi
           refine qD ?_
           refine sD kk [] [] [(430,vB (decide (i_9 < most_3)))] obN ?_
           refine cD (t:=143) (b:=decide (i_9 < most_3)) (fun hb226=>?_) (fun hb226=>?_)
           ·have h:=h.1 hb226
            refine Sem.skip' (by kernel_rfl) Wk.refl ?_
            show Sem _ _ _ _ _
            refine wkD [430] ?_
            refine qD ?_
            refine bD (id:=10) ?_
            obtain ⟨h227,h⟩:=h
            obtain ⟨r0_50,hc228,h⟩:=h
            refine sD kk [.e (zD (List.getD (za.Kids x) (0:Nat) default)),.c (vL zk r0_50) []] [] [(37,vL zk r0_50)] (obC (show (0:Int)≤(0:Int) from by first | decide | rfl | trivial) (obC (show (List.map ze (za.Kids x))[(Int.toNat (0:Int):Nat)]?=some (zD (List.getD (za.Kids x) (0:Nat) default)) from by have:=zbh ze (za.Kids x) ((0:Nat)) _ (zt _) h227;simpa only [nm,enq,zt] using this) (obC hc228 obN))) ?_
            refine qD ?_
            obtain ⟨r0_51,hc229,h⟩:=h
            refine sD kk [.c (vB r0_51) []] [] [(22,vL zk out_6),(466,vB r0_51)] (obC (Eq.mp (by unfold zaD;(try simp only [List.drop_zero,List.take_length]);first | done | simp only [nm,enq]:zaD r0_50 out_6 r0_51=CallE Tryz.prog 139 [vL zk r0_50,.f (FV.sl (List.take (List.length (List.map zk out_6)) (List.drop (0:Nat) (List.map zk out_6))))] [] (vB r0_51) []) hc229) obN) ?_
            refine cD (t:=155) (b:=r0_51) (fun hb230=>?_) (fun hb230=>?_)
            ·have h:=h.1 hb230
             refine xD (i:=9) ?_
             exact jD out_6 [] h
            ·have h:=h.2 hb230
             refine Sem.skip' (by kernel_rfl) Wk.refl ?_
             show Sem _ _ _ _ _
             refine wkD [466] ?_
             obtain ⟨r0_52,hc231,h⟩:=h
             refine rD kk [.c (oL 4 zk r0_52) []] [] [(22,oL 4 zk r0_52)] (obC hc231 obN) ?_
             show Sem _ _ _ _ _
             refine rD kk [] [] [(46,vi (w64 (i_9+1)))] obN ?_
             exact lD (r0_52,r0_50,(w64 (i_9+1))) [] h
           ·have h:=h.2 hb226
            refine xD (i:=9) ?_
            exact jD out_6 [(22,0)] h
          ·rcases Bool.eq_false_or_eq_true (decide (za.Hi x < (0:Int))) with hb232 | hb232
           ·have h:=h.1 hb232
            obtain ⟨h233,h⟩:=h
            obtain ⟨r0_53,hc234,h⟩:=h
            refine sD kk [bT,bT,bT,.e (zD (List.getD (za.Kids x) (0:Nat) default)),bT,bT,.c (vB r0_53) [],bT] [] [(409,vB r0_53)] (obC (gtt hb232) (obC (gtt hb232) (obC (gtt hb232) (obC (show (0:Int)≤(0:Int) from by first | decide | rfl | trivial) (obC (show (List.map ze (za.Kids x))[(Int.toNat (0:Int):Nat)]?=some (zD (List.getD (za.Kids x) (0:Nat) default)) from by have:=zbh ze (za.Kids x) ((0:Nat)) _ (zt _) (h233 hb232);simpa only [nm,enq,zt] using this) (obC (gtt hb232) (obC (gtt hb232) (obC hc234 (obC hb232 obN))))))))) ?_
            refine cD (t:=136) (b:=r0_53) (fun hb235=>?_) (fun hb235=>?_)
            ·have h:=h.1 hb235
             refine rDE kk [] [409] [(43,vi (if true=true then if w64 ((1:Int) - za.Lo x) > (0:Int) then w64 ((1:Int) - za.Lo x) else (0:Int) else if w64 ((1:Int) - za.Lo x) < (0:Int) then w64 ((1:Int) - za.Lo x) else (0:Int)))] [(43,vi (if w64 ((1:Int) - za.Lo x) > (0:Int) then w64 ((1:Int) - za.Lo x) else (0:Int)))] obN ?_
             exact jD (if w64 ((1:Int) - za.Lo x) > (0:Int) then w64 ((1:Int) - za.Lo x) else (0:Int)) [] h
            ·have h:=h.2 hb235
             refine Sem.skip' (by kernel_rfl) Wk.refl ?_
             exact jD most_2 [] h
           ·have h:=h.2 hb232
            refine sD kk [bF,bF,bF,bF,bF,bF] [] [(409,vB false)] (obC (gtf hb232) (obC (gtf hb232) (obC (gtf hb232) (obC (gtf hb232) (obC (gtf hb232) (obC hb232 obN)))))) ?_
            refine cD (t:=136) (b:=false) (fun hb236=>?_) (fun hb236=>?_)
            ·cases hb236
            ·refine Sem.skip' (by kernel_rfl) Wk.refl ?_
             exact jD most_2 [] h
         ·refine sD kk [] [] [(373,vB (decide (za.Hi x < (0:Int))))] obN ?_
          refine cD (t:=124) (b:=decide (za.Hi x < (0:Int))) (fun hb237=>?_) (fun hb237=>?_)
          ·have h:=h.1 hb237
           refine rDE kk [] [7,373] [(43,vi ((↑(List.length (List.map zk from0)):Int)))] [(43,vi ((↑(List.length from0):Int)))] obN ?_
           exact jD ((↑(List.length from0):Int)) [] h
          ·have h:=h.2 hb237
           refine Sem.skip' (by kernel_rfl) Wk.refl ?_
           exact jD (w64 (za.Hi x - za.Lo x)) [] h
      ·have h:=h.2 hb190
       refine Sem.skip' (by kernel_rfl) Wk.refl ?_
       exact jD (List.replicate (List.length from0) false) [(22,0)] h
set_option maxHeartbeats 1000000 in
theorem zcX (x:za) (s0:ByteArray) (at0:Int) (res:(List Int))
 (h:(∃ r0:Bool,zbO x s0 r0∧(((!r0 || (decide (at0 < (0:Int)) || decide (at0 > (↑(ByteArray.size s0):Int))))=true→(res=([])))∧((!r0 || (decide (at0 < (0:Int)) || decide (at0 > (↑(ByteArray.size s0):Int))))=false→((0:Int)≤w64 ((↑(ByteArray.size s0):Int)+1)∧w64 ((↑(ByteArray.size s0):Int)+1)≤w64 ((↑(ByteArray.size s0):Int)+1)∧w64 ((↑(ByteArray.size s0):Int)+1) < (2:Int) ^ (40:Nat)∧(↑(1:Nat):Int) * w64 ((↑(ByteArray.size s0):Int)+1)≤(2:Int) ^ (47:Nat))∧((0:Int)≤at0)∧(Int.toNat at0 < Int.toNat (w64 ((↑(ByteArray.size s0):Int)+1)))∧at0 < ↑(List.length (List.replicate (Int.toNat (w64 ((↑(ByteArray.size s0):Int)+1))) false))∧(∃ r0_1:List Bool,zU x s0 (List.set (List.replicate (Int.toNat (w64 ((↑(ByteArray.size s0):Int)+1))) false) (Int.toNat at0) true) r0_1∧(∃ (Inv25:List Int→Int→Prop) (mu26:List Int→Int→Nat),Inv25 ([]) 0∧(∀ (out_1:List Int) (i:Int),Inv25 out_1 i→(((decide (i < (↑(List.length r0_1):Int)))=true→(∃ J32:List Int→Prop,(∀ (out_3:List Int),J32 out_3→(Inv25 out_3 (w64 (i+1))∧mu26 out_3 (w64 (i+1)) < mu26 out_1 i))∧((0:Int)≤i)∧i < ↑(List.length r0_1)∧(((gd r0_1 i)=true→((List.length out_1+(1:Nat)) * (8:Nat)≤(2:Nat) ^ (47:Nat))∧J32 (out_1++[i]))∧((gd r0_1 i)=false→J32 out_1))))∧((decide (i < (↑(List.length r0_1):Int)))=false→(res=out_1)))))))))):zbf x s0 at0 res:=by
 unfold zbf
 have kk:=cfOk [50] 51
 refine fD (x:=bodyOf Tryz.f96) kk Tryz.func96 ?_
 refine wkS [1,4,7] [(1,zm x),(4,vS s0),(7,vi at0)] (by kernel_rfl) ?_
 refine sD kk [] [1] [(10,.ptr 11 0),(11,zm x)] obN ?_
 refine qD ?_
 obtain ⟨r0,hc0,h⟩:=h
 refine sM [] [(73,vB (!r0 || (decide (at0 < (0:Int)) || decide (at0 > (↑(ByteArray.size s0):Int)))))] ?_ (fun hk0=>?_)
 ·refine cD (t:=24) (b:=!r0 || (decide (at0 < (0:Int)) || decide (at0 > (↑(ByteArray.size s0):Int)))) (fun hb3=>?_) (fun hb3=>?_)
  ·have h:=h.1 hb3
   refine sDE kk [] [4,7,10,11,73] [(19,.own 3 ([]))] [(19,oL 3 zd ([]))] obN ?_
   refine tD ?_
   obtain he0:=h
   subst res
   exact (endD [] (oL 3 zd ([])) []).1
  ·have h:=h.2 hb3
   refine Sem.skip' (by kernel_rfl) Wk.refl ?_
   show Sem _ _ _ _ _
   refine wkD [73] ?_
   obtain ⟨h4,h⟩:=h
   refine sDE kk [] [] [(22,.own 4 (List.replicate (Int.toNat (w64 ((↑(ByteArray.size s0):Int)+1))) (FV.pv (Value.bool false))))] [(22,oL 4 zk (List.replicate (Int.toNat (w64 ((↑(ByteArray.size s0):Int)+1))) false))] (obC h4 obN) ?_
   obtain ⟨h5,h⟩:=h
   obtain ⟨h6,h⟩:=h
   obtain ⟨h7,h⟩:=h
   refine sDE kk [.e (fB (gd (List.replicate (Int.toNat (w64 ((↑(ByteArray.size s0):Int)+1))) false) at0))] [7] [(22,.own 4 (List.set (List.map zk (List.replicate (Int.toNat (w64 ((↑(ByteArray.size s0):Int)+1))) false)) ((0:Nat)+Int.toNat at0) (FV.pv (Value.bool true))))] [(22,oL 4 zk (List.set (List.replicate (Int.toNat (w64 ((↑(ByteArray.size s0):Int)+1))) false) (Int.toNat at0) true))] (obC h5 (obC (show Int.toNat at0 < List.length (List.map zk (List.replicate (Int.toNat (w64 ((↑(ByteArray.size s0):Int)+1))) false)) from by simpa only [nm] using h6) (obC (show (List.map zk (List.replicate (Int.toNat (w64 ((↑(ByteArray.size s0):Int)+1))) false))[((0:Nat)+Int.toNat at0:Nat)]?=some (fB (gd (List.replicate (Int.toNat (w64 ((↑(ByteArray.size s0):Int)+1))) false) at0)) from by have:=zL zk (List.replicate (Int.toNat (w64 ((↑(ByteArray.size s0):Int)+1))) false) at0 _ rfl h5 h7;simpa only [nm,enq,zk] using this) obN))) ?_
   obtain ⟨r0_1,hc8,h⟩:=h
   refine sD kk [.c (vL zk r0_1) []] [4,10,11,22] [(25,vL zk r0_1)] (obC (Eq.mp (by unfold zU;(try simp only [List.drop_zero,List.take_length]);first | done | simp only [nm,enq]:zU x s0 (List.set (List.replicate (Int.toNat (w64 ((↑(ByteArray.size s0):Int)+1))) false) (Int.toNat at0) true) r0_1=CallE Tryz.prog 121 [.agg [vi (za.Kind x),vI .u64 (zb.e0 (za.Set x)),vI .u64 (zb.e1 (za.Set x)),vI .u64 (zb.e2 (za.Set x)),vI .u64 (zb.e3 (za.Set x)),vi (za.Lo x),vi (za.Hi x),vL ze (za.Kids x)],vS s0,.f (FV.sl (List.take (List.length (List.map zk (List.set (List.replicate (Int.toNat (w64 ((↑(ByteArray.size s0):Int)+1))) false) (Int.toNat at0) true))) (List.drop (0:Nat) (List.map zk (List.set (List.replicate (Int.toNat (w64 ((↑(ByteArray.size s0):Int)+1))) false) (Int.toNat at0) true)))))] [] (vL zk r0_1) []) hc8) obN) ?_
   refine sDE kk [] [] [(28,.own 3 ([]))] [(28,oL 3 zd ([]))] obN ?_
   refine qD ?_
   refine sD kk [] [] [(31,vi 0)] obN ?_
   refine bD (id:=0) ?_
   obtain ⟨Inv25,mu26,h0Inv25,hInv25⟩:=h
   refine loD (fun (q:List Int×Int)=>(fun (out_1:List Int) (i:Int)=>([(25,vL zk r0_1),(28,oL 3 zd out_1),(31,vi i)]:Sta)) q.1 q.2) (fun (q:List Int×Int)=>Inv25 q.1 q.2) (fun (q:List Int×Int)=>mu26 q.1 q.2) (([]),0) [] h0Inv25 ?_
   rintro ⟨out_1,i⟩ hi
   have h:=hInv25 out_1 i hi
   refine qD ?_
   refine sDE kk [] [] [(118,vB (decide (i < (↑(List.length (List.map zk r0_1)):Int))))] [(118,vB (decide (i < (↑(List.length r0_1):Int))))] obN ?_
   refine cD (t:=39) (b:=decide (i < (↑(List.length r0_1):Int))) (fun hb27=>?_) (fun hb27=>?_)
   ·have h:=h.1 hb27
    refine Sem.skip' (by kernel_rfl) Wk.refl ?_
    show Sem _ _ _ _ _
    refine wkD [118] ?_
    obtain ⟨J32,hJ32,h⟩:=h
    refine sjD (fun (q:List Int)=>J32 q) (fun (q:List Int)=>(fun (out_3:List Int)=>([(25,vL zk r0_1),(28,oL 3 zd out_3),(31,vi i)]:Sta)) q) ?_ ?_
    ·rintro out_3 hj
     have h:=hJ32 out_3 hj
     refine rD kk [] [] [(31,vi (w64 (i+1)))] obN ?_
     exact lD (out_3,(w64 (i+1))) [] h
    ·refine bD (id:=1) ?_
     obtain ⟨h33,h⟩:=h
     obtain ⟨h34,h⟩:=h
     refine sD kk [.e (fB (gd r0_1 i))] [] [(136,vB (gd r0_1 i))] (obC h33 (obC (zL zk r0_1 i _ rfl h33 h34) obN)) ?_
     refine cD (t:=45) (b:=gd r0_1 i) (fun hb35=>?_) (fun hb35=>?_)
     ·have h:=h.1 hb35
      obtain ⟨h36,h⟩:=h
      refine rDE kk [] [136] [(28,.own 3 (List.map zd out_1++List.take (List.length [FV.pv (Value.int IntKind.i64 i)]) (List.drop (0:Nat) [FV.pv (Value.int IntKind.i64 i)])))] [(28,oL 3 zd (out_1++[i]))] (obC (show (0:Nat)=(0:Nat)∧List.length (List.map zd out_1)=List.length (List.map zd out_1) from ⟨rfl,rfl⟩) (obC (show (List.length (List.map zd out_1)+List.length (List.take (1:Nat) (List.drop (0:Nat) [FV.pv (Value.int IntKind.i64 i)]))) * (8:Nat)≤(2:Nat) ^ (47:Nat) from by simpa only [nm] using h36) (obC (show List.all (List.take (1:Nat) (List.drop (0:Nat) [FV.pv (Value.int IntKind.i64 i)])) (FV.fits (1:Nat))=true from by first | exact zbo _ | rfl | simp [isByteF,FV.fits,FV.size,FV.cells,FV.one,]) obN))) ?_
      exact jD (out_1++[i]) [] h
     ·have h:=h.2 hb35
      refine Sem.skip' (by kernel_rfl) Wk.refl ?_
      exact jD out_1 [] h
   ·have h:=h.2 hb27
    refine xD (i:=0) ?_
    show Sem _ _ _ _ _
    refine wkD [25,31,118] ?_
    refine sD kk [] [28] [(19,oL 3 zd out_1)] obN ?_
    refine tD ?_
    obtain he0:=h
    subst res
    exact (endD [] (oL 3 zd out_1) []).1
 ·rcases Bool.eq_false_or_eq_true (!r0) with hb1 | hb1
  ·refine sD kk [.c (vB r0) [],bF,bF,bT,bF,bF,bF,bF,bT] [] [(73,vB true)] (obC hc0 (obC (gff hb1) (obC (gff hb1) (obC hb1 (oF (oF (oF (oF (oT obN))))))))) ?_
   exact Sem.cast (by try rw [hb1];kernel_rfl) hk0
  ·rcases Bool.eq_false_or_eq_true (decide (at0 < (0:Int))) with hb2 | hb2
   ·refine sD kk [.c (vB r0) [],bT,bT,bF,bF,bF,bF,bF,bT] [] [(73,vB true)] (obC hc0 (obC (gft hb1) (obC (gft hb1) (obC hb1 (obC (gff hb2) (obC (gff hb2) (obC (gff hb2) (obC (gff hb2) (obC hb2 obN))))))))) ?_
    exact Sem.cast (by try rw [hb1];try rw [hb2];kernel_rfl) hk0
   ·refine sD kk [.c (vB r0) [],bT,bT,bF,bT,bT,bT,bT,bF] [] [(73,vB (decide (at0 > (↑(ByteArray.size s0):Int))))] (obC hc0 (obC (gft hb1) (obC (gft hb1) (obC hb1 (obC (gft hb2) (obC (gft hb2) (obC (gft hb2) (obC (gft hb2) (obC hb2 obN))))))))) ?_
    exact Sem.cast (by try rw [hb1];try rw [hb2];kernel_rfl) hk0
set_option maxHeartbeats 1000000 in
theorem zcO (x:za) (s0:ByteArray) (res:Bool)
 (h:(∃ r0:List Int,zbf x s0 0 r0∧((decide ((↑(List.length (List.map zd r0)):Int) > (0:Int)))=true→((0:Int)≤w64 ((↑(List.length r0):Int) - 1)))∧((decide ((↑(List.length (List.map zd r0)):Int) > (0:Int)))=true→(Int.toNat (w64 ((↑(List.length r0):Int) - 1)) < List.length r0))∧((decide ((↑(List.length (List.map zd r0)):Int) > (0:Int)))=true→w64 ((↑(List.length r0):Int) - 1) < ↑(List.length r0))∧(res=(decide ((↑(List.length r0):Int) > (0:Int)) && gd r0 (w64 ((↑(List.length r0):Int) - 1)) == (↑(ByteArray.size s0):Int))))):zam x s0 res:=by
 unfold zam
 have kk:=cfOk [] 23
 refine fD (x:=bodyOf Tryz.f110) kk Tryz.func110 ?_
 refine wkS [1,4] [(1,zm x),(4,vS s0)] (by kernel_rfl) ?_
 refine sD kk [] [1] [(7,.ptr 8 0),(8,zm x)] obN ?_
 obtain ⟨r0,hc0,h⟩:=h
 refine sD kk [.c (oL 3 zd r0) []] [7,8] [(16,oL 3 zd r0)] (obC hc0 obN) ?_
 obtain ⟨h2,h3,h4,h⟩:=h
 refine sM [4,16] [(13,vB (decide ((↑(List.length (List.map zd r0)):Int) > (0:Int)) && gd r0 (w64 ((↑(List.length r0):Int) - 1)) == (↑(ByteArray.size s0):Int)))] ?_ (fun hk0=>?_)
 ·refine tD ?_
  obtain he0:=h
  subst res
  exact (endD [] (vB (decide ((↑(List.length (List.map zd r0)):Int) > (0:Int)) && gd r0 (w64 ((↑(List.length r0):Int) - 1)) == (↑(ByteArray.size s0):Int))) []).1
 ·rcases Bool.eq_false_or_eq_true (decide ((↑(List.length (List.map zd r0)):Int) > (0:Int))) with hb1 | hb1
  ·refine sD kk [bT,bT,bT,bT,bT,bT,.e (fi (gd r0 (w64 ((↑(List.length r0):Int) - 1)))),bT,bT,bT,bT] [4,16] [(13,vB (gd r0 (w64 ((↑(List.length r0):Int) - 1)) == (↑(ByteArray.size s0):Int)))] (obC (gtt hb1) (obC (gtt hb1) (obC (gtt hb1) (obC (gtt hb1) (obC (gtt hb1) (obC (show (0:Int)≤w64 ((↑(List.length (List.map zd r0)):Int) - 1) from by simpa only [nm] using (h2 hb1)) (obC (show Int.toNat (w64 ((↑(List.length (List.map zd r0)):Int) - 1)) < List.length (List.map zd r0) from by simpa only [nm] using (h3 hb1)) (obC (gtt hb1) (obC (show (List.map zd r0)[((0:Nat)+Int.toNat (w64 ((↑(List.length (List.map zd r0)):Int) - 1)):Nat)]?=some (fi (gd r0 (w64 ((↑(List.length r0):Int) - 1)))) from by have:=zL zd r0 (w64 ((↑(List.length r0):Int) - 1)) _ rfl (h2 hb1) (h4 hb1);simpa only [nm,enq,zd] using this) (obC (gtt hb1) (obC (gtt hb1) (obC (gtt hb1) (obC hb1 obN))))))))))))) ?_
   exact Sem.cast (by try rw [hb1];kernel_rfl) hk0
  ·refine sD kk [bF,bF,bF,bF,bF,bF,bF,bF,bF,bF] [4,16] [(13,vB false)] (obC (gtf hb1) (obC (gtf hb1) (obC (gtf hb1) (obC (gtf hb1) (obC (gtf hb1) (obC (gtf hb1) (obC (gtf hb1) (obC (gtf hb1) (obC (gtf hb1) (obC hb1 obN)))))))))) ?_
   exact Sem.cast (by try rw [hb1];kernel_rfl) hk0
set_option maxHeartbeats 1000000 in
theorem zfz (r0:zA) (text:ByteArray) (res:Int)
 (h:(((za.Kind (zA.Trail r0) == 0)=true→(((!ByteArray.toList text == ByteArray.toList { data:=#[] })=true→(∃ r0_1:Bool,zam (zA.Rx r0) text r0_1∧(((r0_1)=true→(res=((↑(ByteArray.size text):Int))))∧((r0_1)=false→(res=0)))))∧((!ByteArray.toList text == ByteArray.toList { data:=#[] })=false→(res=0))))∧((za.Kind (zA.Trail r0) == 0)=false→(∃ (Inv21:Int→Prop) (mu22:Int→Nat),Inv21 ((↑(ByteArray.size text):Int))∧(∀ (h0:Int),Inv21 h0→(((decide (h0 > (0:Int)))=true→((0:Int)≤h0∧Int.toNat h0≤ByteArray.size text)∧(∃ r0_6:Bool,zam (zA.Rx r0) (ByteArray.extract text (0:Nat) (Int.toNat h0)) r0_6∧(((r0_6)=true→((r0_6)=true→((0:Int)≤h0∧Int.toNat h0≤ByteArray.size text))∧(∃ r0_7:Bool,zam (zA.Trail r0) (ByteArray.extract text (Int.toNat h0) (ByteArray.size text)) r0_7∧(((r0_7)=true→(res=h0))∧((r0_7)=false→(Inv21 (w64 (h0 - 1))∧mu22 (w64 (h0 - 1)) < mu22 h0)))))∧((r0_6)=false→(Inv21 (w64 (h0 - 1))∧mu22 (w64 (h0 - 1)) < mu22 h0)))))∧((decide (h0 > (0:Int)))=false→(res=0)))))))):zbA r0 text res:=by
 unfold zbA
 have kk:=cfOk [40] 41
 refine fD (x:=bodyOf Tryz.f74) kk Tryz.func74 ?_
 refine wkS [1,4] [(1,za3 r0),(4,vS text)] (by kernel_rfl) ?_
 refine sD kk [] [1] [(7,.ptr 8 0),(8,za3 r0)] obN ?_
 refine qD ?_
 refine sD kk [] [] [(28,vB (za.Kind (zA.Trail r0) == 0))] obN ?_
 refine cD (t:=9) (b:=za.Kind (zA.Trail r0) == 0) (fun hb0=>?_) (fun hb0=>?_)
 ·have h:=h.1 hb0
  refine qD ?_
  rcases Bool.eq_false_or_eq_true (!ByteArray.toList text == ByteArray.toList { data:=#[] }) with hb1 | hb1
  ·have h:=h.1 hb1
   obtain ⟨r0_1,hc2,h⟩:=h
   refine sD kk [bT,bT,bT,bT,.c (vB r0_1) [],bT] [7,8,28] [(52,vB r0_1)] (obC (gtt hb1) (obC (gtt hb1) (obC (gtt hb1) (obC (gtt hb1) (obC hc2 (obC hb1 obN)))))) ?_
   refine cD (t:=17) (b:=r0_1) (fun hb3=>?_) (fun hb3=>?_)
   ·have h:=h.1 hb3
    refine sD kk [] [4,52] [(13,vi ((↑(ByteArray.size text):Int)))] obN ?_
    refine tD ?_
    obtain he0:=h
    subst res
    exact (endD [] (vi ((↑(ByteArray.size text):Int))) []).1
   ·have h:=h.2 hb3
    refine Sem.skip' (by kernel_rfl) Wk.refl ?_
    show Sem _ _ _ _ _
    refine wkD [4,52] ?_
    refine sD kk [] [] [(13,vi 0)] obN ?_
    refine tD ?_
    obtain he0:=h
    subst res
    exact (endD [] (vi 0) []).1
  ·have h:=h.2 hb1
   refine sD kk [bF,bF,bF,bF,bF] [7,8,28] [(52,vB false)] (obC (gtf hb1) (obC (gtf hb1) (obC (gtf hb1) (obC (gtf hb1) (obC hb1 obN))))) ?_
   refine cD (t:=17) (b:=false) (fun hb4=>?_) (fun hb4=>?_)
   ·cases hb4
   ·refine Sem.skip' (by kernel_rfl) Wk.refl ?_
    show Sem _ _ _ _ _
    refine wkD [4,52] ?_
    refine sD kk [] [] [(13,vi 0)] obN ?_
    refine tD ?_
    obtain he0:=h
    subst res
    exact (endD [] (vi 0) []).1
 ·have h:=h.2 hb0
  refine Sem.skip' (by kernel_rfl) Wk.refl ?_
  show Sem _ _ _ _ _
  refine wkD [28] ?_
  refine qD ?_
  refine sD kk [] [] [(16,vi ((↑(ByteArray.size text):Int)))] obN ?_
  refine bD (id:=0) ?_
  obtain ⟨Inv21,mu22,h0Inv21,hInv21⟩:=h
  refine loD (fun (q:Int)=>(fun (h0:Int)=>([(4,vS text),(7,.ptr 8 0),(8,za3 r0),(16,vi h0)]:Sta)) q) (fun (q:Int)=>Inv21 q) (fun (q:Int)=>mu22 q) ((↑(ByteArray.size text):Int)) [] h0Inv21 ?_
  rintro h0 hi
  have h:=hInv21 h0 hi
  refine qD ?_
  refine sD kk [] [] [(70,vB (decide (h0 > (0:Int))))] obN ?_
  refine cD (t:=23) (b:=decide (h0 > (0:Int))) (fun hb23=>?_) (fun hb23=>?_)
  ·have h:=h.1 hb23
   refine Sem.skip' (by kernel_rfl) Wk.refl ?_
   show Sem _ _ _ _ _
   refine wkD [70] ?_
   refine qD ?_
   refine bD (id:=1) ?_
   obtain ⟨h24,h⟩:=h
   obtain ⟨r0_6,hc25,h⟩:=h
   rcases Bool.eq_false_or_eq_true (r0_6) with hb26 | hb26
   ·have h:=h.1 hb26
    obtain ⟨h27,h⟩:=h
    obtain ⟨r0_7,hc28,h⟩:=h
    refine sD kk [.c (vB r0_6) [],bT,bT,bT,bT,bT,bT,.c (vB r0_7) [],bT] [] [(118,vB r0_7)] (obC (show True∧(0:Int)≤h0∧(0:Nat)≤Int.toNat h0∧Int.toNat h0≤ByteArray.size text from by simpa only [nm] using h24) (obC hc25 (obC (gtt hb26) (obC (gtt hb26) (obC (gtt hb26) (obC (gtt hb26) (obC (gtt hb26) (obC (show (0:Int)≤h0∧True∧Int.toNat h0≤ByteArray.size text∧ByteArray.size text≤ByteArray.size text from by simpa only [nm] using (h27 hb26)) (obC (gtt hb26) (obC hc28 (obC hb26 obN))))))))))) ?_
    refine cD (t:=39) (b:=r0_7) (fun hb29=>?_) (fun hb29=>?_)
    ·have h:=h.1 hb29
     refine sD kk [] [4,7,8,16,118] [(13,vi h0)] obN ?_
     refine tD ?_
     obtain he0:=h
     subst res
     exact (endD [] (vi h0) []).1
    ·have h:=h.2 hb29
     refine Sem.skip' (by kernel_rfl) Wk.refl ?_
     show Sem _ _ _ _ _
     refine wkD [118] ?_
     refine rD kk [] [] [(16,vi (w64 (h0 - 1)))] obN ?_
     exact lD (w64 (h0 - 1)) [] h
   ·have h:=h.2 hb26
    refine sD kk [.c (vB r0_6) [],bF,bF,bF,bF,bF,bF,bF] [] [(118,vB false)] (obC (show True∧(0:Int)≤h0∧(0:Nat)≤Int.toNat h0∧Int.toNat h0≤ByteArray.size text from by simpa only [nm] using h24) (obC hc25 (obC (gtf hb26) (obC (gtf hb26) (obC (gtf hb26) (obC (gtf hb26) (obC (gtf hb26) (obC (gtf hb26) (obC hb26 obN))))))))) ?_
    refine cD (t:=39) (b:=false) (fun hb30=>?_) (fun hb30=>?_)
    ·cases hb30
    ·refine Sem.skip' (by kernel_rfl) Wk.refl ?_
     show Sem _ _ _ _ _
     refine wkD [118] ?_
     refine rD kk [] [] [(16,vi (w64 (h0 - 1)))] obN ?_
     exact lD (w64 (h0 - 1)) [] h
  ·have h:=h.2 hb23
   refine xD (i:=0) ?_
   show Sem _ _ _ _ _
   refine wkD [4,7,8,16,70] ?_
   refine sD kk [] [] [(13,vi 0)] obN ?_
   refine tD ?_
   obtain he0:=h
   subst res
   exact (endD [] (vi 0) []).1
set_option maxHeartbeats 1000000 in
theorem zeP (r0:zA) (text:ByteArray) (res:Int)
 (h:(((decide ((↑(ByteArray.size text):Int) > (10000:Int)))=true→(res=0))∧((decide ((↑(ByteArray.size text):Int) > (10000:Int)))=false→(∃ r0_1:Int,zbA r0 text r0_1∧(res=r0_1))))):zbr r0 text res:=by
 unfold zbr
 have kk:=cfOk [] 11
 refine fD (x:=bodyOf Tryz.f37) kk Tryz.func37 ?_
 refine wkS [1,4] [(1,za3 r0),(4,vS text)] (by kernel_rfl) ?_
 refine sD kk [] [1] [(7,.ptr 8 0),(8,za3 r0)] obN ?_
 refine qD ?_
 refine sD kk [] [] [(22,vB (decide ((↑(ByteArray.size text):Int) > (10000:Int))))] obN ?_
 refine cD (t:=7) (b:=decide ((↑(ByteArray.size text):Int) > (10000:Int))) (fun hb0=>?_) (fun hb0=>?_)
 ·have h:=h.1 hb0
  refine sD kk [] [4,7,8,22] [(13,vi 0)] obN ?_
  refine tD ?_
  obtain he0:=h
  subst res
  exact (endD [] (vi 0) []).1
 ·have h:=h.2 hb0
  refine Sem.skip' (by kernel_rfl) Wk.refl ?_
  show Sem _ _ _ _ _
  refine wkD [22] ?_
  obtain ⟨r0_1,hc1,h⟩:=h
  refine sD kk [.c (vi r0_1) []] [4,7,8] [(13,vi r0_1)] (obC hc1 obN) ?_
  refine tD ?_
  obtain he0:=h
  subst res
  exact (endD [] (vi r0_1) []).1
set_option maxHeartbeats 1000000 in
theorem zfF (x:za) (y:za) (s0:ByteArray) (res:Bool)
 (h:(∃ r0:za,∃ r0_1:Int,zaQ x r0 r0_1∧(∃ r0_2:za,∃ r0_3:Int,zbe x r0_2 r0_3∧(∃ r0_4:Bool,zbg r0 r0_2 r0_4∧(((r0_4)=true→(((r0_1 == r0_3)=true→(∃ r0_5:List Bool,zbM x s0 r0_5∧(∃ r0_6:List Bool,zbs x s0 r0_6∧(∃ r0_7:Bool,zK r0_5 r0_6 r0_7∧(((r0_7)=true→(∃ r0_8:Int,zas ({ Conds:=[],All:=false,Bol:=false,Rx:=x,Trail:=y,Eof:=false,Act:=(0:Int),To:=(0:Int) }) s0 r0_8∧(∃ r0_9:Int,zbr ({ Conds:=[],All:=false,Bol:=false,Rx:=x,Trail:=y,Eof:=false,Act:=(0:Int),To:=(0:Int) }) s0 r0_9∧(res=(r0_8 == r0_9)))))∧((r0_7)=false→(res=false)))))))∧((r0_1 == r0_3)=false→(res=false))))∧((r0_4)=false→(res=false))))))):zaB x y s0 res:=by
 unfold zaB
 have kk:=cfOk [] 51
 refine fD (x:=bodyOf Tryz.f12) kk Tryz.func12 ?_
 refine wkS [1,4,7] [(1,zm x),(4,zm y),(7,vS s0)] (by kernel_rfl) ?_
 refine sD kk [] [1,4] [(10,.ptr 11 0),(11,zm x),(13,.ptr 14 0),(14,zm y)] obN ?_
 obtain ⟨r0,r0_1,hc0,h⟩:=h
 refine sD kk [.c (.tup [zm r0,vi r0_1]) []] [] [(22,.ptr 23 0),(23,zm r0),(25,vi r0_1)] (obC hc0 obN) ?_
 obtain ⟨r0_2,r0_3,hc1,h⟩:=h
 refine sD kk [.c (.tup [zm r0_2,vi r0_3]) []] [] [(28,.ptr 29 0),(29,zm r0_2),(31,vi r0_3)] (obC hc1 obN) ?_
 refine sDE kk [] [13,14] [(34,.ptr 35 0),(35,.agg [.own 3 ([]),vB false,vB false,vi (za.Kind x),vI .u64 (zb.e0 (za.Set x)),vI .u64 (zb.e1 (za.Set x)),vI .u64 (zb.e2 (za.Set x)),vI .u64 (zb.e3 (za.Set x)),vi (za.Lo x),vi (za.Hi x),vL ze (za.Kids x),vi (za.Kind y),vI .u64 (zb.e0 (za.Set y)),vI .u64 (zb.e1 (za.Set y)),vI .u64 (zb.e2 (za.Set y)),vI .u64 (zb.e3 (za.Set y)),vi (za.Lo y),vi (za.Hi y),vL ze (za.Kids y),vB false,vi 0,vi 0])] [(34,.ptr 35 0),(35,.agg [oL 3 zd ([]),vB false,vB false,vi (za.Kind x),vI .u64 (zb.e0 (za.Set x)),vI .u64 (zb.e1 (za.Set x)),vI .u64 (zb.e2 (za.Set x)),vI .u64 (zb.e3 (za.Set x)),vi (za.Lo x),vi (za.Hi x),vL ze (za.Kids x),vi (za.Kind y),vI .u64 (zb.e0 (za.Set y)),vI .u64 (zb.e1 (za.Set y)),vI .u64 (zb.e2 (za.Set y)),vI .u64 (zb.e3 (za.Set y)),vi (za.Lo y),vi (za.Hi y),vL ze (za.Kids y),vB false,vi 0,vi 0])] obN ?_
 refine Sem.weak (Wk.frzs (fz:=[(35,0)])) ?_
 obtain ⟨r0_4,hc2,h⟩:=h
 rcases Bool.eq_false_or_eq_true (r0_4) with hb3 | hb3
 ·have h:=h.1 hb3
  rcases Bool.eq_false_or_eq_true (r0_1 == r0_3) with hb4 | hb4
  ·have h:=h.1 hb4
   obtain ⟨r0_5,hc5,h⟩:=h
   obtain ⟨r0_6,hc6,h⟩:=h
   obtain ⟨r0_7,hc7,h⟩:=h
   rcases Bool.eq_false_or_eq_true (r0_7) with hb8 | hb8
   ·have h:=h.1 hb8
    obtain ⟨r0_8,hc9,h⟩:=h
    obtain ⟨r0_9,hc10,h⟩:=h
    refine sD kk [.c (vB r0_4) [],bT,bT,bT,bT,bT,bT,bT,.c (oL 4 zk r0_5) [],bT,bT,bT,.c (oL 4 zk r0_6) [],bT,.c (vB r0_7) [],bT,bT,bT,bT,.c (vi r0_8) [],bT,bT,bT,.c (vi r0_9) [],bT,bT] [7,10,11,22,23,25,28,29,31,34,35] [(19,vB (r0_8 == r0_9))] (obC hc2 (obC (gtt hb3) (obC (gtt hb3) (obC (gtt hb3) (obC hb3 (obC (gtt hb4) (obC (gtt hb4) (obC (gtt hb4) (obC hc5 (obC (gtt hb4) (obC (gtt hb4) (obC (gtt hb4) (obC hc6 (obC (gtt hb4) (obC (Eq.mp (by unfold zK;(try simp only [List.drop_zero,List.take_length]);first | done | simp only [nm,enq]:zK r0_5 r0_6 r0_7=CallE Tryz.prog 32 [.f (FV.sl (List.take (List.length (List.map zk r0_5)) (List.drop (0:Nat) (List.map zk r0_5)))),.f (FV.sl (List.take (List.length (List.map zk r0_6)) (List.drop (0:Nat) (List.map zk r0_6))))] [] (vB r0_7) []) hc7) (obC hb4 (obC (gtt hb8) (obC (gtt hb8) (obC (gtt hb8) (obC hc9 (obC (gtt hb8) (obC (gtt hb8) (obC (gtt hb8) (obC hc10 (obC (gtt hb8) (obC hb8 obN)))))))))))))))))))))))))) ?_
    refine tD ?_
    obtain he0:=h
    subst res
    exact (endD [] (vB (r0_8 == r0_9)) []).1
   ·have h:=h.2 hb8
    refine sD kk [.c (vB r0_4) [],bT,bT,bT,bT,bT,bT,bT,.c (oL 4 zk r0_5) [],bT,bT,bT,.c (oL 4 zk r0_6) [],bT,.c (vB r0_7) [],bT,bF,bF,bF,bF,bF,bF,bF,bF] [7,10,11,22,23,25,28,29,31,34,35] [(19,vB false)] (obC hc2 (obC (gtt hb3) (obC (gtt hb3) (obC (gtt hb3) (obC hb3 (obC (gtt hb4) (obC (gtt hb4) (obC (gtt hb4) (obC hc5 (obC (gtt hb4) (obC (gtt hb4) (obC (gtt hb4) (obC hc6 (obC (gtt hb4) (obC (Eq.mp (by unfold zK;(try simp only [List.drop_zero,List.take_length]);first | done | simp only [nm,enq]:zK r0_5 r0_6 r0_7=CallE Tryz.prog 32 [.f (FV.sl (List.take (List.length (List.map zk r0_5)) (List.drop (0:Nat) (List.map zk r0_5)))),.f (FV.sl (List.take (List.length (List.map zk r0_6)) (List.drop (0:Nat) (List.map zk r0_6))))] [] (vB r0_7) []) hc7) (obC hb4 (obC (gtf hb8) (obC (gtf hb8) (obC (gtf hb8) (obC (gtf hb8) (obC (gtf hb8) (obC (gtf hb8) (obC (gtf hb8) (obC hb8 obN)))))))))))))))))))))))) ?_
    refine tD ?_
    obtain he0:=h
    subst res
    exact (endD [] (vB false) []).1
  ·have h:=h.2 hb4
   refine sD kk [.c (vB r0_4) [],bT,bT,bT,bT,bF,bF,bF,bF,bF,bF,bF,bF,bF,bF,bF,bF,bF,bF,bF,bF] [7,10,11,22,23,25,28,29,31,34,35] [(19,vB false)] (obC hc2 (obC (gtt hb3) (obC (gtt hb3) (obC (gtt hb3) (obC hb3 (obC (gtf hb4) (obC (gtf hb4) (obC (gtf hb4) (obC (gtf hb4) (obC (gtf hb4) (obC (gtf hb4) (obC (gtf hb4) (obC hb4 (oF (oF (oF (oF (oF (oF (oF (oF obN))))))))))))))))))))) ?_
   refine tD ?_
   obtain he0:=h
   subst res
   exact (endD [] (vB false) []).1
 ·have h:=h.2 hb3
  refine sD kk [.c (vB r0_4) [],bF,bF,bF,bF,bF,bF,bF,bF,bF,bF,bF,bF,bF,bF,bF,bF,bF,bF,bF,bF] [7,10,11,22,23,25,28,29,31,34,35] [(19,vB false)] (obC hc2 (obC (gtf hb3) (obC (gtf hb3) (obC (gtf hb3) (obC hb3 (oF (oF (oF (oF (oF (oF (oF (oF (oF (oF (oF (oF (oF (oF (oF (oF obN))))))))))))))))))))) ?_
  refine tD ?_
  obtain he0:=h
  subst res
  exact (endD [] (vB false) []).1
set_option maxHeartbeats 1000000 in
theorem zdu (l:(List Int)) (m:(List Int)) (t:(List Int)) (res:Bool)
 (h:(∃ r0:za,zaV l r0∧(∃ r0_1:za,zaV m r0_1∧(∃ r0_2:ByteArray,zbC t r0_2∧(∃ r0_3:Bool,zbv r0_3∧(((r0_3)=true→(∃ r0_4:Bool,zaB r0 r0_1 r0_2 r0_4∧(((r0_4)=true→(∃ r0_5:Bool,zaB r0 ({ Kind:=(0:Int),Set:={ e0:=(0:Int),e1:=(0:Int),e2:=(0:Int),e3:=(0:Int) },Lo:=(0:Int),Hi:=(0:Int),Kids:=[] }) r0_2 r0_5∧(res=r0_5)))∧((r0_4)=false→(res=false)))))∧((r0_3)=false→(res=false)))))))):zbw l m t res:=by
 unfold zbw
 have kk:=cfOk [] 29
 refine fD (x:=bodyOf Tryz.f3) kk Tryz.func3 ?_
 refine wkS [1,4,7] [(1,vL zE l),(4,vL zE m),(7,vL zE t)] (by kernel_rfl) ?_
 refine sD kk [] [] [] obN ?_
 obtain ⟨r0,hc0,h⟩:=h
 obtain ⟨r0_1,hc1,h⟩:=h
 obtain ⟨r0_2,hc2,h⟩:=h
 refine sD kk [.c (zm r0) [],.c (zm r0_1) [],.c (vS r0_2) []] [1,4,7] [(22,.ptr 23 0),(23,zm r0),(25,.ptr 26 0),(26,zm r0_1),(28,vS r0_2)] (obC hc0 (obC hc1 (obC hc2 obN))) ?_
 obtain ⟨r0_3,hc3,h⟩:=h
 rcases Bool.eq_false_or_eq_true (r0_3) with hb4 | hb4
 ·have h:=h.1 hb4
  obtain ⟨r0_4,hc5,h⟩:=h
  rcases Bool.eq_false_or_eq_true (r0_4) with hb6 | hb6
  ·have h:=h.1 hb6
   obtain ⟨r0_5,hc7,h⟩:=h
   refine sD kk [.c (vB r0_3) [],bT,bT,bT,bT,.c (vB r0_4) [],bT,bT,bT,bT,bT,.c (vB r0_5) [],bT] [22,23,25,26,28] [(19,vB r0_5)] (obC hc3 (obC (gtt hb4) (obC (gtt hb4) (obC (gtt hb4) (obC (gtt hb4) (obC hc5 (obC hb4 (obC (gtt hb6) (obC (gtt hb6) (obC (gtt hb6) (obC (gtt hb6) (obC (Eq.mp (by unfold zaB;(try simp only [List.drop_zero,List.take_length]);first | done | simp only [nm,enq]:zaB r0 ({ Kind:=(0:Int),Set:={ e0:=(0:Int),e1:=(0:Int),e2:=(0:Int),e3:=(0:Int) },Lo:=(0:Int),Hi:=(0:Int),Kids:=[] }) r0_2 r0_5=CallE Tryz.prog 12 [.agg [vi (za.Kind r0),vI .u64 (zb.e0 (za.Set r0)),vI .u64 (zb.e1 (za.Set r0)),vI .u64 (zb.e2 (za.Set r0)),vI .u64 (zb.e3 (za.Set r0)),vi (za.Lo r0),vi (za.Hi r0),vL ze (za.Kids r0)],.agg [vi 0,vI .u64 0,vI .u64 0,vI .u64 0,vI .u64 0,vi 0,vi 0,.f (FV.sl [])],vS r0_2] [] (vB r0_5) []) hc7) (obC hb6 obN))))))))))))) ?_
   refine tD ?_
   obtain he0:=h
   subst res
   exact (endD [] (vB r0_5) []).1
  ·have h:=h.2 hb6
   refine sD kk [.c (vB r0_3) [],bT,bT,bT,bT,.c (vB r0_4) [],bT,bF,bF,bF,bF,bF] [22,23,25,26,28] [(19,vB false)] (obC hc3 (obC (gtt hb4) (obC (gtt hb4) (obC (gtt hb4) (obC (gtt hb4) (obC hc5 (obC hb4 (obC (gtf hb6) (obC (gtf hb6) (obC (gtf hb6) (obC (gtf hb6) (obC hb6 obN)))))))))))) ?_
   refine tD ?_
   obtain he0:=h
   subst res
   exact (endD [] (vB false) []).1
 ·have h:=h.2 hb4
  refine sD kk [.c (vB r0_3) [],bF,bF,bF,bF,bF,bF,bF,bF,bF,bF] [22,23,25,26,28] [(19,vB false)] (obC hc3 (obC (gtf hb4) (obC (gtf hb4) (obC (gtf hb4) (obC (gtf hb4) (obC hb4 (oF (oF (oF (oF (oF obN))))))))))) ?_
  refine tD ?_
  obtain he0:=h
  subst res
  exact (endD [] (vB false) []).1
end Go.Ev
set_option linter.unusedVariables false
set_option linter.unusedSimpArgs false
namespace Go.Ev
open Go Go.RowKit
variable {P : Program}
def noCE:CEx:=fun _ _ _ _ _=>False
theorem RM.wp_det {G:Sta} {U1 U2:List Up} {T1 T2:List Acc}:∀ (m:RM) (T:List Acc),m.wp noCE G T (fun U' T'=>U'=U1∧T'=T1)→m.wp noCE G T (fun U' T'=>U'=U2∧T'=T2)→U1=U2∧T1=T2
 | .ret U,T,⟨h1,h2⟩,⟨h3,h4⟩=>⟨h1.symm.trans h3,h2.symm.trans h4⟩
 | .fail,T,h,_=>h.elim
 | .ask b o k,T,⟨v,h1,h2,h3⟩,⟨v',g1,g2,g3⟩=>by
   rw [h1] at g1;cases g1
   exact RM.wp_det (k v) _ h3 g3
 | .peek b k,T,⟨v,h1,h2⟩,⟨v',g1,g2⟩=>by
   rw [h1] at g1;cases g1
   exact RM.wp_det (k _) _ h2 g2
 | .call g args outs k,T,⟨r,o,h1,h2⟩,_=>h1.elim
section
variable {CE : CEx} {c : Cfg} {G G' : Sta} {own : Own} {a : Act} {w : World} {ops : Array Oper} {X : Nat → Nat → Bool}
variable {F : Fence} {n : Nat} {Q : Exit → Act → World → Prop}
def Tp (ops:Array Oper):List Ent→Prop
 | []=>True
 | x :: r=>(∀ o,ops[x.i]?=some o→∀ e∈o.after,Region.binds .any e=true→e.on < ops.size∧∀ y∈x :: r,e.on≠y.i)∧Tp ops r
def entOkX (ops:Array Oper) (X:Nat→Nat→Bool):List Ent→Prop
 | []=>True
 | x :: r=>(∀ y∈r,anc ops ops.size x.i y.i=false→X x.i y.i=false→x.ind y)∧entOkX ops X r
theorem Tp.mid:∀ {p:List Ent} {y:Ent} {r:List Ent},Tp ops (p++y :: r)→Tp ops (p++r)
 | [],y,r,h=>h.2
 | x :: p,y,r,h=>by
   refine ⟨fun o ho e he hb=>?_,Tp.mid h.2⟩
   obtain ⟨h1,h2⟩:=h.1 o ho e he hb
   refine ⟨h1,fun z hz=>h2 z ?_⟩
   show z∈(x :: p)++y :: r
   have hz:z∈(x :: p)++r:=hz
   rcases List.mem_append.1 hz with hz | hz
   ·exact List.mem_append_left _ hz
   ·exact List.mem_append_right _ (List.mem_cons_of_mem _ hz)
theorem entOkX.mid:∀ {p:List Ent} {y:Ent} {r:List Ent},entOkX ops X (p++y :: r)→(∀ x∈p,anc ops ops.size x.i y.i=false→X x.i y.i=false→x.ind y)∧entOkX ops X (p++r)
 | [],y,r,h=>⟨fun x hx=>by simp at hx,h.2⟩
 | x :: p,y,r,h=>by
   obtain ⟨h1,h2⟩:=h
   obtain ⟨h3,h4⟩:=entOkX.mid h2
   refine ⟨fun z hz=>?_,fun z hz=>h1 z ?_,h4⟩
   ·rcases List.mem_cons.1 hz with rfl | hz
    ·exact h1 y (by simp)
    ·exact h3 z hz
   ·have hz:z∈p++r:=hz
    show z∈p++y :: r
    rcases List.mem_append.1 hz with hz | hz
    ·exact List.mem_append_left _ hz
    ·exact List.mem_append_right _ (List.mem_cons_of_mem _ hz)
structure Pl (ops:Array Oper) (X:Nat→Nat→Bool) (es:List Ent) (listed:Array Bool):Prop where
 sz:listed.size=ops.size
 cl:Closed ops listed
 ls:∀ i,i < ops.size→(listed.getD i true=false↔i∈es.map (·.i))
 lt:∀ x∈es,x.i < ops.size
 nd:(es.map (·.i)).Nodup
 tp:Tp ops es
 ok:entOkX ops X es
theorem Pl.empty {es:List Ent} {listed:Array Bool} (h:Pl ops X es listed) (hr:Region.ready .any ops listed=[]):es=[]:=by
 cases es with
 | nil=>rfl
 | cons x es=>
   exfalso
   have hx:=h.lt x (List.mem_cons_self ..)
   have:x.i∈Region.ready .any ops listed:=by
    rw [mem_ready]
    refine ⟨(h.ls x.i hx).2 (by simp),ops[x.i],by simp [hx],fun e he hb=>?_⟩
    obtain ⟨h2,h3⟩:=h.tp.1 ops[x.i] (by simp [hx]) e he hb
    cases hle:listed.getD e.on false with
    | true=>rfl
    | false=>
      have:listed.getD e.on true=false:=by
       simp only [Array.getD_eq_getD_getElem?,Array.getElem?_eq_getElem (show e.on < listed.size by rw [h.sz];exact h2),Option.getD_some] at hle ⊢;exact hle
      have:=(h.ls e.on h2).1 this
      obtain ⟨y,hy,e1⟩:=List.mem_map.1 this
      exact absurd e1.symm (h3 y hy)
   rw [hr] at this;cases this
theorem Pl.pick {es:List Ent} {listed:Array Bool} (h:Pl ops X es listed) {i:Nat} (hi:i∈Region.ready .any ops listed) (hX:∀ x∈es,x.i≠i→X x.i i=false) (hrun:Runs CE (stepRM c ops) es G G') :
 ∃ (y:Ent) (es':List Ent),y.i=i∧(stepRM c ops y.i).wp CE G [] (fun U' T'=>U'=y.U∧T'=y.T)∧Runs CE (stepRM c ops) es' (app y.U G) G'∧Pl ops X es' (listed.setIfInBounds i true)∧es'.length+1=es.length∧(∀ z∈es',z∈es)∧(∀ z∈es',z.i≠i)∧∀ z∈es,z.i≠i→z∈es':=by
 obtain ⟨h1,o,ho,hready⟩:=mem_ready.1 hi
 have hilt:i < ops.size:=(Array.getElem?_eq_some_iff.1 ho).1
 have hmem:=(h.ls i hilt).1 h1
 obtain ⟨y,hy,rfl⟩:=List.mem_map.1 hmem
 obtain ⟨p,r,rfl⟩:=List.append_of_mem hy
 obtain ⟨hm1,hm2⟩:=entOkX.mid h.ok
 have hnd:=h.nd
 have hnotin:∀ z∈p++r,z.i≠y.i:=by
  intro z hz e
  rw [List.map_append,List.map_cons,List.nodup_append,List.nodup_cons] at hnd
  rcases List.mem_append.1 hz with hz | hz
  ·exact hnd.2.2 z.i (List.mem_map.2 ⟨z,hz,rfl⟩) y.i (by simp) e
  ·exact hnd.2.1.1 (e▸List.mem_map.2 ⟨z,hz,rfl⟩)
 have hind:∀ x∈p,x.ind y:=by
  intro x hx
  refine hm1 x hx ?_ (hX x (List.mem_append_left _ hx) (hnotin x (List.mem_append_left _ hx)))
  cases ha:anc ops ops.size x.i y.i with
  | false=>rfl
  | true=>
    have hxl:=zf7 h.sz h.cl ops.size x.i y.i ha (fun o' ho' e he hb=>by rw [ho] at ho';cases ho';exact hready e he hb)
    have hxlt:=h.lt x (List.mem_append_left _ hx)
    have:listed.getD x.i true=false:=(h.ls x.i hxlt).2 (by simp [List.mem_map];exact .inl ⟨x,hx,rfl⟩)
    have hsz:=h.sz
    simp only [Array.getD_eq_getD_getElem?,Array.getElem?_eq_getElem (show x.i < listed.size by omega),Option.getD_some] at hxl this
    rw [hxl] at this;cases this
 obtain ⟨r1,r2⟩:=Runs.front hind hrun
 have hsub:(p++r).Sublist (p++y :: r):=List.Sublist.append (List.Sublist.refl _) (List.sublist_cons_self _ _)
 refine ⟨y,p++r,rfl,r1,r2,⟨by simpa using h.sz,?_,?_,fun x hx=>h.lt x (hsub.mem hx),hnd.sublist (hsub.map _),h.tp.mid,hm2⟩,by simp;omega,fun z hz=>hsub.mem hz,hnotin,?_⟩
 ·intro j o' ho' hj e he hb
  have hlst:listed.getD e.on false=true→(listed.setIfInBounds y.i true).getD e.on false=true:=fun h=>getD_set_true h
  by_cases hjy:y.i=j
  ·subst hjy
   rw [ho] at ho';cases ho'
   exact hlst (hready e he hb)
  ·rw [getD_set_ne true hjy] at hj
   exact hlst (h.cl j o' ho' hj e he hb)
 ·intro j hj
  by_cases hjy:y.i=j
  ·subst hjy
   have hsz:=h.sz
   have:(listed.setIfInBounds y.i true).getD y.i true=true:=by
    simp [Array.getD_eq_getD_getElem?,Array.getElem?_setIfInBounds,show y.i < listed.size by omega]
   rw [this]
   simp only [Bool.true_eq_false,false_iff]
   intro hmem
   obtain ⟨z,hz,e⟩:=List.mem_map.1 hmem
   exact hnotin z hz e
  ·rw [getD_set_ne true hjy,h.ls j hj]
   simp only [List.map_append,List.map_cons,List.mem_append,List.mem_cons]
   constructor
   ·rintro (h | h | h)
    ·exact .inl h
    ·exact absurd h.symm hjy
    ·exact .inr h
   ·rintro (h | h)
    ·exact .inl h
    ·exact .inr (.inr h)
 ·intro z hz hzi
  rcases List.mem_append.1 hz with hz | hz
  ·exact List.mem_append_left _ hz
  ·rcases List.mem_cons.1 hz with rfl | hz
   ·exact absurd rfl hzi
   ·exact List.mem_append_right _ hz
theorem Pl.done {es:List Ent} {listed:Array Bool} (he:es=[]) (s:St P c.nt G own a w) (h:Runs CE (stepRM c ops) es G G')
 (hq:∀ own' a' w',St P c.nt G' own' a' w'→Tr own w own' w'→a'.defers=a.defers→Q .normal a' w'):Q .normal a w:=by
 subst he
 have:G=G':=h
 subst this
 exact hq own a w s (Tr.refl _ _) rfl
theorem Pl.end {es:List Ent} {listed:Array Bool} (h:Pl ops X es listed) (he:es=[]):Region.ready .any ops listed=[]:=by
 subst he
 cases hr:Region.ready .any ops listed with
 | nil=>rfl
 | cons i r=>
   have:i∈Region.ready .any ops listed:=by rw [hr];exact List.mem_cons_self ..
   obtain ⟨h1,o,ho,_⟩:=mem_ready.1 this
   have hi:i < ops.size:=(Array.getElem?_eq_some_iff.1 ho).1
   have:=(h.ls i hi).1 h1
   simp at this
theorem runs_one (hc:CfgOk P c) (hip:IpsOk P c) (hCE:∀ g args outs r outs',CE g args outs r outs'→CallE P g args outs r outs') (hF:WideF P F):∀ (fuel:Nat) (es:List Ent) {listed:Array Bool} {G G':Sta} {own:Own} {a:Act} {w:World},
 es.length≤fuel→Pl ops X es listed→(∀ x∈es,∀ y∈es,X x.i y.i=false)→
 St P c.nt G own a w→Runs CE (stepRM c ops) es G G'→(∀ own' a' w',St P c.nt G' own' a' w'→Tr own w own' w'→a'.defers=a.defers→Q .normal a' w')→wpAnyIn F n P .any ops Q fuel listed a w:=by
 intro fuel
 induction fuel with
 | zero=>
   intro es listed G G' own a w hf hp hX s h hq
   have he:es=[]:=List.length_eq_zero_iff.1 (by omega)
   exact ⟨hp.end he,Pl.done (listed:=listed) he s h hq⟩
 | succ fuel ih=>
   intro es listed G G' own a w hf hp hX s h hq
   refine ⟨fun hr=>Pl.done (listed:=listed) (hp.empty hr) s h hq,fun i hi=>?_⟩
   have hi1:=mem_ready.1 hi
   obtain ⟨hi1,oi,hoi,_⟩:=hi1
   have hmem:=(hp.ls i (Array.getElem?_eq_some_iff.1 hoi).1).1 hi1
   obtain ⟨z,hz,ez⟩:=List.mem_map.1 hmem
   obtain ⟨y,es',rfl,r1,r2,hp',hlen,hsub,hne,_⟩:=hp.pick hi (fun x hx _=>ez▸hX x hx z hz) h
   refine zdd hc hip hCE hF s r1 fun own' a' w' s' t' d'=>?_
   exact ih es' (by omega) hp' (fun x hx y hy=>hX x (hsub x hx) y (hsub y hy)) s' r2 fun own2 a2 w2 s2 t2 d2=>hq own2 a2 w2 s2 (t'.trans t2) (d2.trans d')
def xp (A B:Nat) (i j:Nat):Bool:=i == A && j == B
theorem runs_two (hc:CfgOk P c) (hip:IpsOk P c) (hF:WideF P F) {A B:Nat} (hAB:A≠B):∀ (fuel:Nat) (es1 es2:List Ent) {listed:Array Bool} {G G1 G2:Sta} {own:Own} {a:Act} {w:World},
 es1.length≤fuel→Pl ops (xp A B) es1 listed→Pl ops (xp B A) es2 listed→
 St P c.nt G own a w→Runs noCE (stepRM c ops) es1 G G1→Runs noCE (stepRM c ops) es2 G G2→(∀ own' a' w',St P c.nt G1 own' a' w'→Tr own w own' w'→a'.defers=a.defers→Q .normal a' w')→(∀ own' a' w',St P c.nt G2 own' a' w'→Tr own w own' w'→a'.defers=a.defers→Q .normal a' w')→wpAnyIn F n P .any ops Q fuel listed a w:=by
 have hCE:∀ g args outs r outs',noCE g args outs r outs'→CallE P g args outs r outs':=fun _ _ _ _ _ h=>h.elim
 intro fuel
 induction fuel with
 | zero=>
   intro es1 es2 listed G G1 G2 own a w hf hp1 hp2 s h1 h2 hq hq'
   have he:es1=[]:=List.length_eq_zero_iff.1 (by omega)
   exact ⟨hp1.end he,Pl.done (listed:=listed) he s h1 hq⟩
 | succ fuel ih=>
   intro es1 es2 listed G G1 G2 own a w hf hp1 hp2 s h1 h2 hq hq'
   refine ⟨fun hr=>Pl.done (listed:=listed) (hp1.empty hr) s h1 hq,fun i hi=>?_⟩
   by_cases hA:i=A
   ·subst hA
    obtain ⟨y,es',e,r1,r2,hp',hlen,hsub,hne,_⟩:=hp1.pick hi (fun x hx hxi=>by simp only [xp,Bool.and_eq_false_imp,beq_iff_eq];intro e;exact absurd e hxi) h1
    refine e▸zdd hc hip hCE hF s r1 fun own' a' w' s' t' d'=>?_
    rw [e]
    exact runs_one hc hip hCE hF fuel es' (by omega) hp' (fun x hx y hy=>by simp only [xp,Bool.and_eq_false_imp,beq_iff_eq];intro e;exact absurd e (hne x hx)) s' r2 fun own2 a2 w2 s2 t2 d2=>hq own2 a2 w2 s2 (t'.trans t2) (d2.trans d')
   ·by_cases hB:i=B
    ·subst hB
     obtain ⟨y,es',e,r1,r2,hp',hlen,hsub,hne,_⟩:=hp2.pick hi (fun x hx hxi=>by simp only [xp,Bool.and_eq_false_imp,beq_iff_eq];intro e;exact absurd e hxi) h2
     have hl:es2.length=es1.length:=by
      have:(es2.map (·.i)).Perm (es1.map (·.i)):=by
       refine (List.perm_ext_iff_of_nodup hp2.nd hp1.nd).2 fun j=>?_
       constructor
       ·intro hj
        obtain ⟨z,hz,rfl⟩:=List.mem_map.1 hj
        exact (hp1.ls z.i (hp2.lt z hz)).1 ((hp2.ls z.i (hp2.lt z hz)).2 hj)
       ·intro hj
        obtain ⟨z,hz,rfl⟩:=List.mem_map.1 hj
        exact (hp2.ls z.i (hp1.lt z hz)).1 ((hp1.ls z.i (hp1.lt z hz)).2 hj)
      simpa using this.length_eq
     refine e▸zdd hc hip hCE hF s r1 fun own' a' w' s' t' d'=>?_
     rw [e]
     exact runs_one hc hip hCE hF fuel es' (by omega) hp' (fun x hx y hy=>by simp only [xp,Bool.and_eq_false_imp,beq_iff_eq];intro e;exact absurd e (hne x hx)) s' r2 fun own2 a2 w2 s2 t2 d2=>hq' own2 a2 w2 s2 (t'.trans t2) (d2.trans d')
    ·obtain ⟨y1,f1,e1,r1,r2,hp1',hlen,hsub,hne,_⟩:=hp1.pick hi (fun x hx hxi=>by simp only [xp,Bool.and_eq_false_imp,beq_iff_eq];intro _;simpa using hB) h1
     obtain ⟨y2,f2,e2,q1,q2,hp2',hlen2,hsub2,hne2,_⟩:=hp2.pick hi (fun x hx hxi=>by simp only [xp,Bool.and_eq_false_imp,beq_iff_eq];intro _;simpa using hA) h2
     obtain ⟨hU,_⟩:=RM.wp_det _ [] (e1▸r1) (e2▸q1)
     refine e1▸zdd hc hip hCE hF s r1 fun own' a' w' s' t' d'=>?_
     rw [e1]
     exact ih f1 f2 (by omega) hp1' hp2' s' r2 (by rw [hU];exact q2) (fun own2 a2 w2 s2 t2 d2=>hq own2 a2 w2 s2 (t'.trans t2) (d2.trans d')) (fun own2 a2 w2 s2 t2 d2=>hq' own2 a2 w2 s2 (t'.trans t2) (d2.trans d'))
end
end Go.Ev
set_option linter.unusedVariables false
set_option linter.unusedSimpArgs false
namespace Go.Ev
open Go Go.RowKit
variable {P : Program}
section
variable {c : Cfg} {ops : Array Oper}
def evIx (c:Cfg) (ops:Array Oper):List Nat→List Lg→Sta→List Ora→Option (List Prop×List Lg×Sta)
 | [],log,G,q=>match q with
   | []=>some ([],log,G)
   | _=>none
 | i :: r,log,G,q=>match ops[i]? with
   | none=>none
   | some o=>match (guard2 c ops o).ev noCE G [] q with
     | some (obs,q',U,T)=>match evIx c ops r (log++[⟨i,T++Ups.refs U,Ups.writes U⟩]) (app U G) q' with
       | some (obs',log',G')=>some (obs++obs',log',G')
       | none=>none
     | none=>none
theorem evIx_runs:∀ (is:List Nat) {log log':List Lg} {G G':Sta} {q:List Ora} {obs:List Prop},evIx c ops is log G q=some (obs,log',G')→AllP obs→
 ∃ es,es.map (·.i)=is∧Runs noCE (stepRM c ops) es G G'∧log'=log++es.map Ent.lg
 | [],log,log',G,G',q,obs,h,ho=>by
   unfold evIx at h
   split at h
   ·simp only [Option.some.injEq,Prod.mk.injEq] at h;obtain ⟨rfl,rfl,rfl⟩:=h;exact ⟨[],rfl,rfl,by simp⟩
   ·cases h
 | i :: r,log,log',G,G',q,obs,h,ho=>by
   unfold evIx at h
   split at h
   ·cases h
   ·rename_i o hop
    split at h
    ·rename_i obs1 q' U T h1
     split at h
     ·rename_i obs2 log2 G2 h2
      simp only [Option.some.injEq,Prod.mk.injEq] at h
      obtain ⟨rfl,rfl,rfl⟩:=h
      obtain ⟨ho1,ho2⟩:=zds ho
      obtain ⟨es,e1,e2,e3⟩:=evIx_runs r h2 ho2
      refine ⟨⟨i,U,T⟩ :: es,by simp [e1],⟨?_,e2⟩,?_⟩
      ·rw [zfM hop]
       exact le_guard _ _ _ _ (RM2.ev_wp _ h1 ho1 ⟨rfl,rfl⟩)
      ·rw [e3];simp [Ent.lg,Ent.reads]
     ·cases h
    ·cases h
def logOkX (tab:List (List Nat)) (X:Nat→Nat→Bool):List Lg→Bool
 | []=>true
 | x :: r=>r.all (fun y=>ancT tab x.i y.i || (X x.i y.i || lgOk x y)) && logOkX tab X r
theorem zhI {X:Nat→Nat→Bool} {tab:List (List Nat)} (htopo:topo ops=true) (h:ancOk ops tab=true):∀ {es:List Ent},(∀ x∈es,x.i < ops.size)→logOkX tab X (es.map Ent.lg)=true→entOkX ops X es
 | [],_,_=>trivial
 | x :: r,hlt,hes=>by
   simp only [List.map_cons,logOkX,Bool.and_eq_true] at hes
   refine ⟨fun y hy hn hx=>?_,zhI htopo h (fun z hz=>hlt z (List.mem_cons_of_mem _ hz)) hes.2⟩
   have:=List.all_eq_true.1 hes.1 y.lg (List.mem_map.2 ⟨y,hy,rfl⟩)
   simp only [Bool.or_eq_true] at this
   rcases this with h1 | h1 | h1
   ·have hy:=hlt y (List.mem_cons_of_mem _ hy)
    rw [zf8 htopo h ops.size y.i x.i hy hy h1] at hn;cases hn
   ·have h1:X x.i y.i=true:=h1
    rw [h1] at hx;cases hx
   ·exact indB_spec h1
def tpB (ops:Array Oper):List Nat→Bool
 | []=>true
 | i :: r=>(match ops[i]? with
   | none=>false
   | some o=>o.after.toList.all fun e=>!Region.binds .any e || (Nat.blt e.on ops.size && (i :: r).all fun j=>!Nat.beq e.on j)) && tpB ops r
theorem tpB_spec:∀ {es:List Ent},tpB ops (es.map (·.i))=true→Tp ops es
 | [],_=>trivial
 | x :: r,h=>by
   simp only [List.map_cons,tpB,Bool.and_eq_true] at h
   refine ⟨fun o ho e he hb=>?_,tpB_spec h.2⟩
   have h1:=h.1
   rw [ho] at h1
   have h2:=List.all_eq_true.1 h1 e (Array.mem_toList_iff.2 he)
   simp only [hb,Bool.not_true,Bool.false_or,Bool.and_eq_true] at h2
   refine ⟨by have:=h2.1;simpa [Nat.blt_eq] using this,fun y hy e1=>?_⟩
   have h3:=List.all_eq_true.1 h2.2 y.i (by
    rcases List.mem_cons.1 hy with rfl | hy
    ·exact List.mem_cons_self ..
    ·exact List.mem_cons_of_mem _ (List.mem_map.2 ⟨y,hy,rfl⟩))
   rw [e1] at h3;simp at h3
def ndB:List Nat→Bool
 | []=>true
 | i :: r=>r.all (fun j=>!Nat.beq i j) && ndB r
theorem ndB_spec:∀ {l:List Nat},ndB l=true→l.Nodup
 | [],_=>List.nodup_nil
 | i :: r,h=>by
   simp only [ndB,Bool.and_eq_true] at h
   refine List.nodup_cons.2 ⟨fun hm=>?_,ndB_spec h.2⟩
   have:=List.all_eq_true.1 h.1 _ hm
   simp at this
def permB (is:List Nat) (n:Nat):Bool:=ndB is && (is.all (fun i=>Nat.blt i n) && (List.range n).all fun i=>is.any fun j=>Nat.beq i j)
def evOrd (c:Cfg) (x:Code) (A B:Nat) (is:List Nat) (q:List Ora) (G:Sta):Option (List Prop×Sta):=
 match x with
 | .region _ ops true=>match evIx c ops is [] G q with
   | some (obs,log,G')=>match permB is ops.size && (topo ops && (ancOk ops (tabOf ops) && (tpB ops is && logOkX (tabOf ops) (xp A B) log))) with
     | true=>some (obs,G')
     | false=>none
   | none=>none
 | _=>none
theorem evOrd_pl {x:Code} {A B:Nat} {is:List Nat} {q:List Ora} {G G':Sta} {obs:List Prop} {id:Nat} {ops:Array Oper} {d:Bool} (hx:x=.region id ops d) (h:evOrd c x A B is q G=some (obs,G')) (ho:AllP obs) :
 d=true∧∃ es,es.length=ops.size∧Runs noCE (stepRM c ops) es G G'∧Pl ops (xp A B) es (Array.replicate ops.size false):=by
 subst hx
 cases d with
 | false=>cases h
 | true=>
 refine ⟨rfl,?_⟩
 unfold evOrd at h
 dsimp only at h
 split at h
 ·rename_i obs' log G1 hev
  split at h
  ·rename_i hb
   simp only [Option.some.injEq,Prod.mk.injEq] at h
   obtain ⟨rfl,rfl⟩:=h
   simp only [Bool.and_eq_true] at hb
   obtain ⟨hperm,htopo,hanc,htp,hlog⟩:=hb
   simp only [permB,Bool.and_eq_true] at hperm
   obtain ⟨p1,p2,p3⟩:=hperm
   obtain ⟨es,e1,e2,e3⟩:=evIx_runs is hev ho
   have hlt:∀ x∈es,x.i < ops.size:=fun x hx=>by
    have h1:=List.all_eq_true.1 p2 x.i (by rw [← e1];exact List.mem_map.2 ⟨x,hx,rfl⟩)
    simpa [Nat.blt_eq] using h1
   have hnd:(es.map (·.i)).Nodup:=by rw [e1];exact ndB_spec p1
   have hall:∀ i,i < ops.size→i∈es.map (·.i):=fun i hi=>by
    have h1:=List.all_eq_true.1 p3 i (List.mem_range.2 hi)
    obtain ⟨j,hj,hij⟩:=List.any_eq_true.1 h1
    rw [e1,Nat.eq_of_beq_eq_true hij];exact hj
   have hsz:es.length=ops.size:=by
    have:(es.map (·.i)).Perm (List.range ops.size):=by
     refine (List.perm_ext_iff_of_nodup hnd List.nodup_range).2 fun j=>⟨fun hj=>?_,fun hj=>hall j (List.mem_range.1 hj)⟩
     obtain ⟨z,hz,rfl⟩:=List.mem_map.1 hj
     exact List.mem_range.2 (hlt z hz)
    simpa using this.length_eq
   refine ⟨es,hsz,e2,by simp,?_,?_,hlt,hnd,tpB_spec (by rw [e1];exact htp),zhI htopo hanc hlt (by rw [e3,List.nil_append] at hlog;exact hlog)⟩
   ·intro i o ho hl
    have hi:=(Array.getElem?_eq_some_iff.1 ho).1
    simp [Array.getD_eq_getD_getElem?,hi] at hl
   ·intro i hi
    simp [Array.getD_eq_getD_getElem?,hi]
    have:=hall i hi
    simpa using this
  ·cases h
 ·cases h
theorem Sem.region2 (hc:COk P c) {x:Code} {A B:Nat} (hAB:A≠B) {is1 is2:List Nat} {q1 q2:List Ora} {G G1 G2 G':Sta} {obs1 obs2:List Prop} {K:Ex→Sta→Prop} (h1:evOrd c x A B is1 q1 G=some (obs1,G1)) (h2:evOrd c x B A is2 q2 G=some (obs2,G2))
 (ho1:AllP obs1) (ho2:AllP obs2) (hw:Wk P c.nt G1 G') (hw2:Wk P c.nt G2 G') (hk:K .normal G'):Sem P c x G K:=by
 intro own a w F n Q hF s hQ
 have hx:∃ id ops d,x=.region id ops d:=by
  unfold evOrd at h1
  split at h1
  ·exact ⟨_,_,_,rfl⟩
  ·cases h1
 obtain ⟨id,ops,d,hx⟩:=hx
 obtain ⟨hd,es1,l1,r1,p1⟩:=evOrd_pl hx h1 ho1
 obtain ⟨_,es2,l2,r2,p2⟩:=evOrd_pl hx h2 ho2
 subst hd
 subst hx
 have fin:∀ {H:Sta},Wk P c.nt H G'→∀ own' a' w',St P c.nt H own' a' w'→Tr own w own' w'→a'.defers=a.defers→Q .normal a' w':=by
  intro H hw own' a' w' s' t' d'
  obtain ⟨own2,s2,t2⟩:=hw own' a' w' s'
  exact hQ .normal _ own2 a' w' hk s2 (t'.trans t2) (.same d')
 obtain ⟨s1,t1⟩:=s.drawn (w.drawn+1)
 refine wpIn_region_any hc.ro ?_
 exact runs_two hc.cfg hc.ip hF.1 hAB ops.size es1 es2 (by omega) p1 p2 s1 r1 r2 (fun own' a' w' s' t' d'=>fin hw own' a' w' s' (t1.trans t') d') (fun own' a' w' s' t' d'=>fin hw2 own' a' w' s' (t1.trans t') d')
end
def steal (b off:Nat) (G:Sta):Sta:=
 match look G b (some off) with
 | some (.rf sb j 0 n)=>match look G sb (some j) with
   | some (.own E l)=>match Nat.beq (b % 3) 1 with
     | true=>G
     | false=>app [.leaf sb j .bad,.leaf b off (.own E (l.take n))] G
   | _=>G
 | _=>G
theorem Wk.steal {c:Cfg} {G:Sta} (b off:Nat):Wk P c.nt G (Ev.steal b off G):=by
 intro own a w s
 unfold Ev.steal
 split
 ·rename_i sb j n h1
  split
  ·rename_i E l h2
   split
   ·exact ⟨own,s,Tr.refl _ _⟩
   ·rename_i hb
    have hb:b % 3≠1:=fun e=>by rw [e] at hb;simp at hb
    simp only [look,Option.bind_eq_some_iff,Option.filter_eq_some_iff] at h1
    obtain ⟨v,hg,hv,_⟩:=h1
    obtain ⟨k,arr,TT,e1,e2,e3,e4⟩:=s.boxes b v hb hg
    have hoff:off < v.leaves.length:=(List.getElem?_eq_some_iff.1 hv).1
    obtain ⟨u,hu⟩:∃ u,arr[off]?=some u:=⟨arr[off]'(by omega),by simp [show off < arr.size by omega]⟩
    have hr:SlV P G own w sb j 0 n u:=e4 off _ _ hv hu
    obtain ⟨_,hown⟩:=zeD h2 hr
    obtain ⟨r1,s1,K1,K2⟩:=ze4 (c:=c) s hb e1 (show lenOf G b=some v.leaves.length by simp [lenOf,hg]) hoff hown
    rw [zgj e2 hu] at s1 K2
    exact ⟨_,s1,K1.tr.trans K2.tr⟩
  ·exact ⟨own,s,Tr.refl _ _⟩
 ·exact ⟨own,s,Tr.refl _ _⟩
theorem Sem.cfg {c c':Cfg} {x:Code} {G:Sta} {K:Ex→Sta→Prop} (h1:c'.nt=c.nt) (h2:c'.rnd=c.rnd) (h:Sem P c' x G K):Sem P c x G K:=by
 unfold Sem WideC at h ⊢
 rw [h1,h2] at h
 exact h
theorem COk.vs {c:Cfg} (h:COk P c) (vs:Nat→Bool):COk P { c with vs:=vs }:=⟨h.cfg,zfY h.ip rfl rfl,h.ro⟩
def rawOf:Option (List Prop×Sta)→Sta
 | some (_,G)=>G
 | none=>[]
theorem Wk.st {c:Cfg} {G G':Sta} {keep:List Nat} (b off:Nat) (h:Ev.tidy [] keep (Ev.steal b off G)=G'):Wk P c.nt G G':=(Wk.steal b off).trans (Wk.eq h)
end Go.Ev
set_option linter.unusedSimpArgs false
set_option linter.unusedVariables false
namespace Go.Ev
open Go Go.Proofs
set_option maxRecDepth 8000
theorem Wk.of_eq {P:Program} {nt:Nat} {G G':Sta} (h:G=G'):Wk P nt G G':=by rw [h];exact Wk.refl
set_option maxHeartbeats 1000000 in
theorem zd2 (l:(List za)) (res:(List za))
 (h:((0:Int)≤(↑(List.length l):Int)∧(↑(List.length l):Int) < (2:Int) ^ (40:Nat)∧(↑(80:Nat):Int) * (↑(List.length l):Int)≤(2:Int) ^ (47:Nat))∧(zcg l∧(List.length l < 1099511627776∧∃ (Inv7:Nat→List za→Prop),Inv7 0 ([])∧(∀ (i:Nat) (y:za),i < List.length l→l[List.length l - 1 - i]?=some y→∀ (out:List za),Inv7 i out→((List.length out+(1:Nat)) * (80:Nat)≤(2:Nat) ^ (47:Nat))∧((0:Int)≤(↑(List.length out):Int))∧(List.length out < List.length out+(1:Nat))∧List.length out < List.length (out++[{ Kind:=(0:Int),Set:={ e0:=(0:Int),e1:=(0:Int),e2:=(0:Int),e3:=(0:Int) },Lo:=(0:Int),Hi:=(0:Int),Kids:=[] }])∧Inv7 (i+1) (List.set (out++[{ Kind:=(0:Int),Set:={ e0:=(0:Int),e1:=(0:Int),e2:=(0:Int),e3:=(0:Int) },Lo:=(0:Int),Hi:=(0:Int),Kids:=[] }]) (List.length out) y))∧(∀ (out:List za),Inv7 (List.length l) out→(res=out))))):zbc l res:=by
 unfold zbc
 have kk:=cfOk [] 20
 refine fD (x:=bodyOf Tryz.f101) kk Tryz.func101 ?_
 refine wkS [1] [(1,vL ze l)] (by kernel_rfl) ?_
 refine sD kk [] [] [] obN ?_
 obtain ⟨h0,h⟩:=h
 refine sDE kk [] [] [(10,.ptr 11 0),(11,.own 28 ([]))] [(10,.ptr 11 0),(11,oL 28 ze ([]))] (obC (show (0:Int)=(0:Int)∧(0:Int)≤(↑(List.length (List.map ze l)):Int)∧(↑(List.length (List.map ze l)):Int) < (2:Int) ^ (40:Nat)∧(↑(80:Nat):Int) * (↑(List.length (List.map ze l)):Int)≤(2:Int) ^ (47:Nat) from by simpa only [nm] using h0) obN) ?_
 refine qD ?_
 obtain ⟨hc1,h⟩:=h
 refine sD kk [.c (.clo 142 [.fp (fL ze l) 0]) []] [1] [(31,.clo 142 [.fp (fL ze l) 0])] (obC hc1 obN) ?_
 refine bD (id:=0) ?_
 obtain ⟨hl8,Inv7,h0Inv7,hRInv7,hDInv7⟩:=h
 refine Sem.range (α:=za) (σ:=List za) (c:=(cf [] 20)) (by rfl) (tg:=10) (p0:=11) (p1:=12) (by kernel_rfl) (xs:=l) (by kernel_rfl) back_ok_142 (ey:=(fun (y:za)=>(zD y:FV))) (sz:=8) (fun y=>zt y) (fun y=>by simp [FV.fits,FV.size,FV.cells,FV.one,zt]) (by omega) [(10,.ptr 11 0)] [11] (fun (q:List za)=>(fun (out:List za)=>([oL 28 ze out]:List AV)) q) (fun (i:Nat) (q:List za)=>Inv7 i q) ([]) ((wkE (G':=[(10,.ptr 11 0),(11,oL 28 ze ([]))]) [] [10,11] (by kernel_rfl)).trans (Wk.pick [10,11] (by kernel_rfl))) h0Inv7 (by rfl) (fun q=>by rfl) (by rfl) (by decide) (fun q q'=>by rfl) (Nat.le_of_ble_eq_true rfl) (Nat.le_of_ble_eq_true rfl) (by decide) ?_ ?_
 ·rintro i out y hi hy hinv
  have h:=hRInv7 i y hi hy out hinv
  refine Sem.weak (Wk.pick [3,10,34,37] (G':=[(3,oL 28 ze out),(10,.ptr 3 0),(34,vi ((↑(List.length l):Int) - 1 - (↑i:Int))),(37,zm y)]) (by kernel_rfl)) ?_
  show Sem _ (cfr [] 20) (sq1 (sq1 (sq2 (sq1 (sq2 (sq2 (bodyOf Tryz.f101))))))) _ _
  have kr:=cfrOk [] 20
  refine rD kr [] [34,37] [(16,.ptr 17 0),(17,zm y)] obN ?_
  refine ⟨rfl,?_⟩
  show Sem _ (cfr [] 20) (sq2 (sq1 (sq2 (sq1 (sq2 (sq2 (bodyOf Tryz.f101))))))) _ _
  refine bD (id:=1) ?_
  obtain ⟨h9,h⟩:=h
  obtain ⟨h10,h⟩:=h
  obtain ⟨h11,h⟩:=h
  obtain ⟨h12,h⟩:=h
  have kv:=kr.vs fun t=>t == 17
  refine Sem.cfg (c':={ cfr [] 20 with vs:=fun t=>t == 17 }) rfl rfl (Sem.region2 (A:=6) (B:=7) kv (by decide) (is1:=[0,1,2,3,4,5,6,7]) (is2:=[0,1,2,3,4,5,7,6]) (q1:=[.e (zD (List.getD (out++[{ Kind:=(0:Int),Set:={ e0:=(0:Int),e1:=(0:Int),e2:=(0:Int),e3:=(0:Int) },Lo:=(0:Int),Hi:=(0:Int),Kids:=[] }]) (List.length out) default))]) (q2:=[.e (zD (List.getD (out++[{ Kind:=(0:Int),Set:={ e0:=(0:Int),e1:=(0:Int),e2:=(0:Int),e3:=(0:Int) },Lo:=(0:Int),Hi:=(0:Int),Kids:=[] }]) (List.length out) default))])
   (G1:=rawOf (evOrd { cfr [] 20 with vs:=fun t=>t == 17 } (sq1 (sq2 (sq1 (sq2 (sq1 (sq2 (sq2 (bodyOf Tryz.f101)))))))) 6 7 [0,1,2,3,4,5,6,7] [.e (zD (List.getD (out++[{ Kind:=(0:Int),Set:={ e0:=(0:Int),e1:=(0:Int),e2:=(0:Int),e3:=(0:Int) },Lo:=(0:Int),Hi:=(0:Int),Kids:=[] }]) (List.length out) default))] [(3,oL 28 ze out),(10,.ptr 3 0),(16,.ptr 17 0),(17,zm y)])) (G2:=rawOf (evOrd { cfr [] 20 with vs:=fun t=>t == 17 } (sq1 (sq2 (sq1 (sq2 (sq1 (sq2 (sq2 (bodyOf Tryz.f101)))))))) 7 6 [0,1,2,3,4,5,7,6] [.e (zD (List.getD (out++[{ Kind:=(0:Int),Set:={ e0:=(0:Int),e1:=(0:Int),e2:=(0:Int),e3:=(0:Int) },Lo:=(0:Int),Hi:=(0:Int),Kids:=[] }]) (List.length out) default))] [(3,oL 28 ze out),(10,.ptr 3 0),(16,.ptr 17 0),(17,zm y)])) (by kernel_rfl) (by kernel_rfl) (obC (show (0:Nat)=(0:Nat)∧List.length (List.map ze out)=List.length (List.map ze out) from ⟨rfl,rfl⟩) (obC (show (List.length (List.map ze out)+List.length (List.take (1:Nat) (List.drop (0:Nat) [FV.agg [FV.pv (Value.int IntKind.i64 (0)),FV.pv (Value.int IntKind.u64 (0)),FV.pv (Value.int IntKind.u64 (0)),FV.pv (Value.int IntKind.u64 (0)),FV.pv (Value.int IntKind.u64 (0)),FV.pv (Value.int IntKind.i64 (0)),FV.pv (Value.int IntKind.i64 (0)),FV.sl []]]))) * (80:Nat)≤(2:Nat) ^ (47:Nat) from by simpa only [nm] using h9) (obC (show List.all (List.take (1:Nat) (List.drop (0:Nat) [FV.agg [FV.pv (Value.int IntKind.i64 (0)),FV.pv (Value.int IntKind.u64 (0)),FV.pv (Value.int IntKind.u64 (0)),FV.pv (Value.int IntKind.u64 (0)),FV.pv (Value.int IntKind.u64 (0)),FV.pv (Value.int IntKind.i64 (0)),FV.pv (Value.int IntKind.i64 (0)),FV.sl []]])) (FV.fits (8:Nat))=true from by first | decide | rfl | trivial) (obC (show (0:Int)≤(↑(List.length (List.map ze out)):Int) from by simpa only [nm] using h10) (obC (show Int.toNat (↑(List.length (List.map ze out)):Int) < List.length (List.map ze out++List.take (1:Nat) (List.drop (0:Nat) [FV.agg [FV.pv (Value.int IntKind.i64 (0)),FV.pv (Value.int IntKind.u64 (0)),FV.pv (Value.int IntKind.u64 (0)),FV.pv (Value.int IntKind.u64 (0)),FV.pv (Value.int IntKind.u64 (0)),FV.pv (Value.int IntKind.i64 (0)),FV.pv (Value.int IntKind.i64 (0)),FV.sl []]])) from by simpa only [nm] using h11) (obC (show (List.map ze out++List.take (1:Nat) (List.drop (0:Nat) [FV.agg [FV.pv (Value.int IntKind.i64 (0)),FV.pv (Value.int IntKind.u64 (0)),FV.pv (Value.int IntKind.u64 (0)),FV.pv (Value.int IntKind.u64 (0)),FV.pv (Value.int IntKind.u64 (0)),FV.pv (Value.int IntKind.i64 (0)),FV.pv (Value.int IntKind.i64 (0)),FV.sl []]]))[((0:Nat)+Int.toNat (↑(List.length (List.map ze out)):Int):Nat)]?=some (zD (List.getD (out++[{ Kind:=(0:Int),Set:={ e0:=(0:Int),e1:=(0:Int),e2:=(0:Int),e3:=(0:Int) },Lo:=(0:Int),Hi:=(0:Int),Kids:=[] }]) (List.length out) default)) from by have:=zbh ze (out++[{ Kind:=(0:Int),Set:={ e0:=(0:Int),e1:=(0:Int),e2:=(0:Int),e3:=(0:Int) },Lo:=(0:Int),Hi:=(0:Int),Kids:=[] }]) (List.length out) _ (zt _) h12;simpa only [nm,enq,zt] using this) obN)))))) (obC (show (0:Nat)=(0:Nat)∧List.length (List.map ze out)=List.length (List.map ze out) from ⟨rfl,rfl⟩) (obC (show (List.length (List.map ze out)+List.length (List.take (1:Nat) (List.drop (0:Nat) [FV.agg [FV.pv (Value.int IntKind.i64 (0)),FV.pv (Value.int IntKind.u64 (0)),FV.pv (Value.int IntKind.u64 (0)),FV.pv (Value.int IntKind.u64 (0)),FV.pv (Value.int IntKind.u64 (0)),FV.pv (Value.int IntKind.i64 (0)),FV.pv (Value.int IntKind.i64 (0)),FV.sl []]]))) * (80:Nat)≤(2:Nat) ^ (47:Nat) from by simpa only [nm] using h9) (obC (show List.all (List.take (1:Nat) (List.drop (0:Nat) [FV.agg [FV.pv (Value.int IntKind.i64 (0)),FV.pv (Value.int IntKind.u64 (0)),FV.pv (Value.int IntKind.u64 (0)),FV.pv (Value.int IntKind.u64 (0)),FV.pv (Value.int IntKind.u64 (0)),FV.pv (Value.int IntKind.i64 (0)),FV.pv (Value.int IntKind.i64 (0)),FV.sl []]])) (FV.fits (8:Nat))=true from by first | decide | rfl | trivial) (obC (show (0:Int)≤(↑(List.length (List.map ze out)):Int) from by simpa only [nm] using h10) (obC (show Int.toNat (↑(List.length (List.map ze out)):Int) < List.length (List.map ze out++List.take (1:Nat) (List.drop (0:Nat) [FV.agg [FV.pv (Value.int IntKind.i64 (0)),FV.pv (Value.int IntKind.u64 (0)),FV.pv (Value.int IntKind.u64 (0)),FV.pv (Value.int IntKind.u64 (0)),FV.pv (Value.int IntKind.u64 (0)),FV.pv (Value.int IntKind.i64 (0)),FV.pv (Value.int IntKind.i64 (0)),FV.sl []]])) from by simpa only [nm] using h11) (obC (show (List.map ze out++List.take (1:Nat) (List.drop (0:Nat) [FV.agg [FV.pv (Value.int IntKind.i64 (0)),FV.pv (Value.int IntKind.u64 (0)),FV.pv (Value.int IntKind.u64 (0)),FV.pv (Value.int IntKind.u64 (0)),FV.pv (Value.int IntKind.u64 (0)),FV.pv (Value.int IntKind.i64 (0)),FV.pv (Value.int IntKind.i64 (0)),FV.sl []]]))[((0:Nat)+Int.toNat (↑(List.length (List.map ze out)):Int):Nat)]?=some (zD (List.getD (out++[{ Kind:=(0:Int),Set:={ e0:=(0:Int),e1:=(0:Int),e2:=(0:Int),e3:=(0:Int) },Lo:=(0:Int),Hi:=(0:Int),Kids:=[] }]) (List.length out) default)) from by have:=zbh ze (out++[{ Kind:=(0:Int),Set:={ e0:=(0:Int),e1:=(0:Int),e2:=(0:Int),e3:=(0:Int) },Lo:=(0:Int),Hi:=(0:Int),Kids:=[] }]) (List.length out) _ (zt _) h12;simpa only [nm,enq,zt] using this) obN)))))) ((Wk.st (keep:=[3]) 3 0 (G':=[(3,.own 28 (List.take (List.length (List.set (List.map ze out++List.take (List.length [FV.agg [FV.pv (Value.int IntKind.i64 (0)),FV.pv (Value.int IntKind.u64 (0)),FV.pv (Value.int IntKind.u64 (0)),FV.pv (Value.int IntKind.u64 (0)),FV.pv (Value.int IntKind.u64 (0)),FV.pv (Value.int IntKind.i64 (0)),FV.pv (Value.int IntKind.i64 (0)),FV.sl []]]) (List.drop (0:Nat) [FV.agg [FV.pv (Value.int IntKind.i64 (0)),FV.pv (Value.int IntKind.u64 (0)),FV.pv (Value.int IntKind.u64 (0)),FV.pv (Value.int IntKind.u64 (0)),FV.pv (Value.int IntKind.u64 (0)),FV.pv (Value.int IntKind.i64 (0)),FV.pv (Value.int IntKind.i64 (0)),FV.sl []]])) ((0:Nat)+Int.toNat (↑(List.length (List.map ze out)):Int)) (FV.agg [FV.pv (Value.int IntKind.i64 (za.Kind y)),FV.pv (Value.int IntKind.u64 (zb.e0 (za.Set y))),FV.pv (Value.int IntKind.u64 (zb.e1 (za.Set y))),FV.pv (Value.int IntKind.u64 (zb.e2 (za.Set y))),FV.pv (Value.int IntKind.u64 (zb.e3 (za.Set y))),FV.pv (Value.int IntKind.i64 (za.Lo y)),FV.pv (Value.int IntKind.i64 (za.Hi y)),FV.sl (List.map ze (za.Kids y))]))) (List.set (List.map ze out++List.take (List.length [FV.agg [FV.pv (Value.int IntKind.i64 (0)),FV.pv (Value.int IntKind.u64 (0)),FV.pv (Value.int IntKind.u64 (0)),FV.pv (Value.int IntKind.u64 (0)),FV.pv (Value.int IntKind.u64 (0)),FV.pv (Value.int IntKind.i64 (0)),FV.pv (Value.int IntKind.i64 (0)),FV.sl []]]) (List.drop (0:Nat) [FV.agg [FV.pv (Value.int IntKind.i64 (0)),FV.pv (Value.int IntKind.u64 (0)),FV.pv (Value.int IntKind.u64 (0)),FV.pv (Value.int IntKind.u64 (0)),FV.pv (Value.int IntKind.u64 (0)),FV.pv (Value.int IntKind.i64 (0)),FV.pv (Value.int IntKind.i64 (0)),FV.sl []]])) ((0:Nat)+Int.toNat (↑(List.length (List.map ze out)):Int)) (FV.agg [FV.pv (Value.int IntKind.i64 (za.Kind y)),FV.pv (Value.int IntKind.u64 (zb.e0 (za.Set y))),FV.pv (Value.int IntKind.u64 (zb.e1 (za.Set y))),FV.pv (Value.int IntKind.u64 (zb.e2 (za.Set y))),FV.pv (Value.int IntKind.u64 (zb.e3 (za.Set y))),FV.pv (Value.int IntKind.i64 (za.Lo y)),FV.pv (Value.int IntKind.i64 (za.Hi y)),FV.sl (List.map ze (za.Kids y))]))))]) (by kernel_rfl)).trans ?_) ((Wk.st (keep:=[3]) 3 0 (G':=[(3,.own 28 (List.take (List.length (List.map ze out++List.take (List.length [FV.agg [FV.pv (Value.int IntKind.i64 (0)),FV.pv (Value.int IntKind.u64 (0)),FV.pv (Value.int IntKind.u64 (0)),FV.pv (Value.int IntKind.u64 (0)),FV.pv (Value.int IntKind.u64 (0)),FV.pv (Value.int IntKind.i64 (0)),FV.pv (Value.int IntKind.i64 (0)),FV.sl []]]) (List.drop (0:Nat) [FV.agg [FV.pv (Value.int IntKind.i64 (0)),FV.pv (Value.int IntKind.u64 (0)),FV.pv (Value.int IntKind.u64 (0)),FV.pv (Value.int IntKind.u64 (0)),FV.pv (Value.int IntKind.u64 (0)),FV.pv (Value.int IntKind.i64 (0)),FV.pv (Value.int IntKind.i64 (0)),FV.sl []]]))) (List.set (List.map ze out++List.take (List.length [FV.agg [FV.pv (Value.int IntKind.i64 (0)),FV.pv (Value.int IntKind.u64 (0)),FV.pv (Value.int IntKind.u64 (0)),FV.pv (Value.int IntKind.u64 (0)),FV.pv (Value.int IntKind.u64 (0)),FV.pv (Value.int IntKind.i64 (0)),FV.pv (Value.int IntKind.i64 (0)),FV.sl []]]) (List.drop (0:Nat) [FV.agg [FV.pv (Value.int IntKind.i64 (0)),FV.pv (Value.int IntKind.u64 (0)),FV.pv (Value.int IntKind.u64 (0)),FV.pv (Value.int IntKind.u64 (0)),FV.pv (Value.int IntKind.u64 (0)),FV.pv (Value.int IntKind.i64 (0)),FV.pv (Value.int IntKind.i64 (0)),FV.sl []]])) ((0:Nat)+Int.toNat (↑(List.length (List.map ze out)):Int)) (FV.agg [FV.pv (Value.int IntKind.i64 (za.Kind y)),FV.pv (Value.int IntKind.u64 (zb.e0 (za.Set y))),FV.pv (Value.int IntKind.u64 (zb.e1 (za.Set y))),FV.pv (Value.int IntKind.u64 (zb.e2 (za.Set y))),FV.pv (Value.int IntKind.u64 (zb.e3 (za.Set y))),FV.pv (Value.int IntKind.i64 (za.Lo y)),FV.pv (Value.int IntKind.i64 (za.Hi y)),FV.sl (List.map ze (za.Kids y))]))))]) (by kernel_rfl)).trans ?_) (G':=[(3,oL 28 ze (List.set (out++[{ Kind:=(0:Int),Set:={ e0:=(0:Int),e1:=(0:Int),e2:=(0:Int),e3:=(0:Int) },Lo:=(0:Int),Hi:=(0:Int),Kids:=[] }]) (List.length out) y))]) ?_)
  ·refine Wk.of_eq ?_
   rw [List.take_of_length_le (by simp)]
   simp only [nm,enq,zt,List.map_set]
  ·refine Wk.of_eq ?_
   rw [List.take_of_length_le (by simp)]
   simp only [nm,enq,zt,List.map_set]
  exact rndE (wkE [] [3] (by rfl)) (by kernel_rfl) ⟨(List.set (out++[{ Kind:=(0:Int),Set:={ e0:=(0:Int),e1:=(0:Int),e2:=(0:Int),e3:=(0:Int) },Lo:=(0:Int),Hi:=(0:Int),Kids:=[] }]) (List.length out) y),rfl,h⟩
 ·rintro out hinv
  have h:=hDInv7 out hinv
  refine ⟨[(10,.ptr 11 0),(11,oL 28 ze out)],Wk.pick [10,11] (by kernel_rfl),?_⟩
  show Sem _ _ _ _ _
  refine sDE kk [] [10,11] [(7,.f (FV.sl (List.take (List.length (List.map ze out)) (List.drop (0:Nat) (List.map ze out)))))] [(7,vL ze out)] obN ?_
  refine tD ?_
  obtain he0:=h
  subst res
  exact (endD [] (vL ze out) []).1
end Go.Ev
set_option linter.unusedSimpArgs false
set_option linter.unusedVariables false
namespace Go.Ev
open Go Go.Proofs
def orBit (w:Int) (i:Int):Int:=IntKind.u64.wrap (BitVec.ofInt IntKind.u64.bits w ||| BitVec.ofInt IntKind.u64.bits (IntKind.u64.wrap (1 * 2 ^ min i.toNat IntKind.u64.bits))).toNat
def setAdd (s:zb) (i:Int):zb:=
 if i < 64 then { s with e0:=orBit s.e0 i } else if i < 128 then { s with e1:=orBit s.e1 (i - 64) } else if i < 192 then { s with e2:=orBit s.e2 (i - 128) } else { s with e3:=orBit s.e3 (i - 192) }
theorem w64_id0 {n:Int} (h0:-2 ^ 63≤n) (h1:n < 2 ^ 63):w64 n=n:=wrap64 (by omega) (by omega)
theorem quot64 (i:Int) (h0:0≤i) (h1:i < 256):w64 (Int.tdiv i 64)=i / 64∧i.tmod 64=i - 64 * (i / 64)∧0≤i.tmod 64:=by
 rw [Int.tdiv_eq_ediv_of_nonneg h0,Int.tmod_eq_emod_of_nonneg h0]
 exact ⟨w64_id0 (by omega) (by omega),by omega,by omega⟩
theorem zft (s:zb) (i:Int) (h0:0≤i) (h1:i < 256):zbl s i (setAdd s i):=by
 obtain ⟨q,m,hm⟩:=quot64 i h0 h1
 refine zgd s i _ ?_
 rw [q,m]
 refine ⟨by omega,fun h=>⟨fun _=>by omega,?_⟩,fun h=>⟨fun _=>by omega,?_⟩,fun h=>⟨fun _=>by omega,?_⟩,fun h=>⟨fun _=>by omega,?_⟩⟩
 all_goals
  have h:=of_decide_eq_true h
  rw [h]
 ·simp [setAdd,show i < 64 by omega,orBit]
 ·simp [setAdd,show ¬ i < 64 by omega,show i < 128 by omega,orBit]
 ·simp [setAdd,show ¬ i < 64 by omega,show ¬ i < 128 by omega,show i < 192 by omega,orBit]
 ·simp [setAdd,show ¬ i < 64 by omega,show ¬ i < 128 by omega,show ¬ i < 192 by omega,orBit]
def bitOf (w:Int) (i:Int):Bool:=IntKind.u64.wrap (BitVec.ofInt IntKind.u64.bits (w.fdiv (2 ^ min i.toNat IntKind.u64.bits)) &&& BitVec.ofInt IntKind.u64.bits 1).toNat == 1
def setHas (s:zb) (i:Int):Bool:=
 if i < 0 then false else if i < 64 then bitOf s.e0 i else if i < 128 then bitOf s.e1 (i - 64) else if i < 192 then bitOf s.e2 (i - 128) else if i < 256 then bitOf s.e3 (i - 192) else false
theorem has_ok (s:zb) (i:Int):zaw s i (setHas s i):=by
 refine zgf s i _ ⟨fun g=>⟨fun g1=>?_,fun g1=>?_⟩,fun g=>?_⟩
 ·have g:=of_decide_eq_true g
  have g1:=of_decide_eq_true g1
  obtain ⟨q,m,hm⟩:=quot64 i g g1
  rw [q,m]
  refine ⟨by omega,fun h=>⟨fun _ _ _=>by omega,?_⟩,fun h=>⟨fun _ _ _=>by omega,?_⟩,fun h=>⟨fun _ _ _=>by omega,?_⟩,fun h=>⟨fun _ _ _=>by omega,?_⟩⟩
  all_goals
   have h:=of_decide_eq_true h
   rw [h]
  ·simp [setHas,show ¬ i < 0 by omega,show i < 64 by omega,bitOf]
  ·simp [setHas,show ¬ i < 0 by omega,show ¬ i < 64 by omega,show i < 128 by omega,bitOf]
  ·simp [setHas,show ¬ i < 0 by omega,show ¬ i < 64 by omega,show ¬ i < 128 by omega,show i < 192 by omega,bitOf]
  ·simp [setHas,show ¬ i < 0 by omega,show ¬ i < 64 by omega,show ¬ i < 128 by omega,show ¬ i < 192 by omega,show i < 256 by omega,bitOf]
 ·have g:=of_decide_eq_true g
  have g1:=of_decide_eq_false g1
  simp [setHas,show ¬ i < 0 by omega,show ¬ i < 64 by omega,show ¬ i < 128 by omega,show ¬ i < 192 by omega,show ¬ i < 256 by omega]
 ·have g:=of_decide_eq_false g
  simp [setHas,show i < 0 by omega]
end Go.Ev
set_option linter.unusedSimpArgs false
set_option linter.unusedVariables false
namespace Go.Ev
open Go Go.Proofs
theorem zO {x:Int} (h0:-9223372036854775808≤x) (h1:x≤9223372036854775807):w64 x=x:=wrap64 h0 (by omega)
def setTo (p:Int→Bool):Nat→zb
 | 0=>⟨0,0,0,0⟩
 | n+1=>if p n then setAdd (setTo p n) n else setTo p n
def mkSet (p:Int→Bool):zb:=setTo p 256
theorem zgR (lo hi:Int):zaX lo hi (mkSet fun i=>decide (i≥lo) && decide (i≤hi)):=by
 refine zgP _ _ _ ⟨fun e0 e1 e2 e3 b=>∃ n:Nat,n≤256∧b=n∧zb.mk e0 e1 e2 e3=setTo (fun i=>decide (i≥lo) && decide (i≤hi)) n,fun _ _ _ _ b=>(256 - b).toNat,⟨0,by omega,rfl,rfl⟩,?_⟩
 rintro e0 e1 e2 e3 b ⟨n,hn,rfl,hs⟩
 refine ⟨fun hb=>?_,fun hb=>?_⟩
 ·have hb:n < 256:=by have:=of_decide_eq_true hb;omega
  have hw:w64 ((n:Int)+1)=((n+1:Nat):Int):=zO (by omega) (by omega)
  refine ⟨fun a b c d=>zb.mk a b c d=setTo (fun i=>decide (i≥lo) && decide (i≤hi)) (n+1),fun a b c d h=>⟨⟨n+1,by omega,hw,h⟩,by rw [hw];show (256 - _:Int).toNat < (256 - _:Int).toNat;omega⟩,fun ht=>⟨_,zft _ _ (by omega) (by omega),?_⟩,fun ht=>?_⟩
  ·simp only [setTo,ht,if_true,hs]
  ·simp only [setTo,ht,hs];rfl
 ·have hb:n=256:=by have:=of_decide_eq_false hb;omega
  subst hb
  exact hs.symm
theorem setNot_ok (s:zb):zbP s (mkSet fun i=>!setHas s i):=by
 refine zge _ _ ⟨fun e0 e1 e2 e3 b=>∃ n:Nat,n≤256∧b=n∧zb.mk e0 e1 e2 e3=setTo (fun i=>!setHas s i) n,fun _ _ _ _ b=>(256 - b).toNat,⟨0,by omega,rfl,rfl⟩,?_⟩
 rintro e0 e1 e2 e3 b ⟨n,hn,rfl,hs⟩
 refine ⟨fun hb=>?_,fun hb=>?_⟩
 ·have hb:n < 256:=by have:=of_decide_eq_true hb;omega
  have hw:w64 ((n:Int)+1)=((n+1:Nat):Int):=zO (by omega) (by omega)
  refine ⟨fun a b c d=>zb.mk a b c d=setTo (fun i=>!setHas s i) (n+1),fun a b c d h=>⟨⟨n+1,by omega,hw,h⟩,by rw [hw];show (256 - _:Int).toNat < (256 - _:Int).toNat;omega⟩,_,has_ok _ _,fun ht=>⟨_,zft _ _ (by omega) (by omega),?_⟩,fun ht=>?_⟩
  ·simp only [setTo,ht,if_true,hs]
  ·simp only [setTo,ht,hs];rfl
 ·have hb:n=256:=by have:=of_decide_eq_false hb;omega
  subst hb
  exact hs.symm
theorem char3_ok (b:Int):zaC b ⟨2,mkSet fun i=>decide (i≥b) && decide (i≤b),0,0,[]⟩:=by
 exact zfI _ _ ⟨_,zgR _ _,rfl⟩
end Go.Ev
set_option linter.unusedSimpArgs false
set_option linter.unusedVariables false
namespace Go.Ev.Pl
open Go Go.Ev
abbrev SS (l:List Int):Prop:=l.Pairwise (· < ·)
theorem zgh:∀ {a b:List Int},SS a→SS b→(∀ x,x∈a↔x∈b)→a=b
 | [],[],_,_,_=>rfl
 | [],y :: b,_,_,h=>by have:=(h y).2 (List.mem_cons_self ..);simp at this
 | x :: a,[],_,_,h=>by have:=(h x).1 (List.mem_cons_self ..);simp at this
 | x :: a,y :: b,ha,hb,h=>by
   have ha:=List.pairwise_cons.1 ha
   have hb:=List.pairwise_cons.1 hb
   have hxy:x=y:=by
    rcases List.mem_cons.1 ((h x).1 (List.mem_cons_self ..)) with e | e
    ·exact e
    ·rcases List.mem_cons.1 ((h y).2 (List.mem_cons_self ..)) with e' | e'
     ·exact e'.symm
     ·have:=hb.1 x e;have:=ha.1 y e';omega
   subst hxy
   rw [zgh ha.2 hb.2]
   intro z
   constructor
   ·intro hz
    rcases List.mem_cons.1 ((h z).1 (List.mem_cons_of_mem _ hz)) with e | e
    ·subst e;have:=ha.1 z hz;omega
    ·exact e
   ·intro hz
    rcases List.mem_cons.1 ((h z).2 (List.mem_cons_of_mem _ hz)) with e | e
    ·subst e;have:=hb.1 z hz;omega
    ·exact e
def join (a b:List Int):List Int:=compactInts (sortInts (a++b))
theorem upTo_spec (zs:List Int) (hs:zs.Pairwise (·≤·)):∀ m,m≤zs.length→SS (Lib.compactUpTo zs.toArray m)∧∀ x,x∈Lib.compactUpTo zs.toArray m↔x∈zs.take m:=by
 intro m
 induction m with
 | zero=>intro _;simp [Lib.compactUpTo]
 | succ m ih=>
   intro hm
   obtain ⟨h1,h2⟩:=ih (by omega)
   have hg:zs.toArray[m]! = zs[m]'(by omega):=by simp [getElem!_pos,show m < zs.length by omega]
   have ht:∀ x,x∈zs.take (m+1)↔x∈zs.take m∨x=zs[m]'(by omega):=by
    intro x;rw [List.take_succ_eq_append_getElem (by omega),List.mem_append,List.mem_singleton]
   have hle:∀ x∈zs.take m,x≤zs[m]'(by omega):=by
    intro x hx
    obtain ⟨i,hi,rfl⟩:=List.mem_iff_getElem.1 hx
    simp only [List.length_take] at hi
    rw [List.getElem_take]
    exact List.pairwise_iff_getElem.1 hs i m (by omega) (by omega) (by omega)
   rw [Lib.compactUpTo_succ,hg]
   by_cases hk:Lib.keeps zs.toArray m=true
   ·rw [if_pos hk]
    refine ⟨List.pairwise_append.2 ⟨h1,by simp,fun x hx y hy=>?_⟩,fun x=>?_⟩
    ·simp at hy;subst hy
     have hx:=(h2 x).1 hx
     have h3:=hle x hx
     simp only [Lib.keeps,decide_eq_true_eq] at hk
     rcases hk with rfl | hk
     ·simp at hx
     ·have hm0:m≠0:=by rintro rfl;simp at hx
      have hg':zs.toArray[m - 1]! = zs[m - 1]'(by omega):=by simp [getElem!_pos,show m - 1 < zs.length by omega]
      rw [hg,hg'] at hk
      obtain ⟨i,hi,rfl⟩:=List.mem_iff_getElem.1 hx
      simp only [List.length_take] at hi
      rw [List.getElem_take] at h3 ⊢
      have h5:zs[i]'(by omega)≤zs[m - 1]'(by omega):=by
       by_cases e:i=m - 1
       ·subst e;exact Int.le_refl _
       ·exact List.pairwise_iff_getElem.1 hs i (m - 1) (by omega) (by omega) (by omega)
      have h6:zs[m - 1]'(by omega)≤zs[m]'(by omega):=List.pairwise_iff_getElem.1 hs (m - 1) m (by omega) (by omega) (by omega)
      have:zs[m - 1]'(by omega)≠zs[m]'(by omega):=fun e=>hk e.symm
      omega
    ·rw [ht];simp [h2]
   ·rw [if_neg hk]
    refine ⟨by simpa using h1,fun x=>?_⟩
    rw [List.append_nil,ht,h2]
    constructor
    ·exact .inl
    ·rintro (h | rfl)
     ·exact h
     ·simp only [Lib.keeps,decide_eq_true_eq,not_or,Decidable.not_not] at hk
      obtain ⟨hm0,hk⟩:=hk
      have hg':zs.toArray[m - 1]! = zs[m - 1]'(by omega):=by simp [getElem!_pos,show m - 1 < zs.length by omega]
      rw [hg,hg'] at hk
      rw [hk]
      refine List.mem_iff_getElem.2 ⟨m - 1,by simp;omega,by rw [List.getElem_take]⟩
theorem sort_spec (l:List Int):(sortInts l).Pairwise (·≤·)∧∀ x,x∈sortInts l↔x∈l:=by
 refine ⟨?_,fun x=>by simp [sortInts]⟩
 have:=List.pairwise_mergeSort (le:=fun x y:Int=>decide (x≤y)) (fun a b c h1 h2=>by simp at *;omega) (fun a b=>by simp;omega) l
 exact this.imp (by simp)
theorem zbT (a b:List Int):SS (join a b)∧∀ x,x∈join a b↔x∈a∨x∈b:=by
 obtain ⟨h1,h2⟩:=sort_spec (a++b)
 obtain ⟨h3,h4⟩:=upTo_spec _ h1 _ (Nat.le_refl _)
 refine ⟨h3,fun x=>?_⟩
 show x∈Lib.compactUpTo _ _↔_
 rw [h4,List.take_length,h2,List.mem_append]
theorem sort_len (l:List Int):(sortInts l).length=l.length:=by simp [sortInts]
def addL:List Int→List Int→List Int
 | [],b=>b
 | a,[]=>a
 | x :: a,y :: b=>if x < y then x :: addL a (y :: b) else if y < x then y :: addL (x :: a) b else x :: addL a b
 termination_by a b=>a.length+b.length
theorem zcW:∀ (a b:List Int) (x:Int),x∈addL a b↔x∈a∨x∈b
 | [],b,z=>by simp [addL]
 | x :: a,[],z=>by simp [addL]
 | x :: a,y :: b,z=>by
   rw [addL]
   split
   ·rw [List.mem_cons,zcW a (y :: b)];grind
   ·split
    ·rw [List.mem_cons,zcW (x :: a) b];grind
    ·rw [List.mem_cons,zcW a b];grind
 termination_by a b=>a.length+b.length
theorem zhZ:∀ {a b:List Int},SS a→SS b→SS (addL a b)
 | [],b,_,hb=>by rw [addL];exact hb
 | x :: a,[],ha,_=>by rw [addL];exact ha;simp
 | x :: a,y :: b,ha,hb=>by
   have ha':=List.pairwise_cons.1 ha
   have hb':=List.pairwise_cons.1 hb
   rw [addL]
   split
   ·refine List.pairwise_cons.2 ⟨fun z hz=>?_,zhZ ha'.2 hb⟩
    rw [zcW] at hz;grind
   ·split
    ·refine List.pairwise_cons.2 ⟨fun z hz=>?_,zhZ ha hb'.2⟩
     rw [zcW] at hz;grind
    ·refine List.pairwise_cons.2 ⟨fun z hz=>?_,zhZ ha'.2 hb'.2⟩
     rw [zcW] at hz;grind
 termination_by a b=>a.length+b.length
theorem join_eq {a b:List Int} (ha:SS a) (hb:SS b):join a b=addL a b:=
 zgh (zbT a b).1 (zhZ ha hb) fun x=>by rw [(zbT a b).2,zcW]
end Go.Ev.Pl
set_option linter.unusedSimpArgs false
set_option linter.unusedVariables false
namespace Go.Ev.Pl
open Go Go.Ev
theorem zO {x:Int} (h0:-9223372036854775808≤x) (h1:x≤9223372036854775807):w64 x=x:=wrap64 h0 (by omega)
theorem rx_sizeOf {x y:za} (h:y∈x.Kids):SizeOf.sizeOf y < SizeOf.sizeOf x:=by
 cases x with
 | mk k s lo hi kids=>
   have:=List.sizeOf_lt_of_mem h
   simp only [za.mk.sizeOf_spec]
   simp at this
   omega
theorem rxInd {P:za→Prop} (h:∀ x,(∀ y∈x.Kids,P y)→P x) (x:za):P x:=
 h x fun y hy=>rxInd h y
 termination_by SizeOf.sizeOf x
 decreasing_by exact rx_sizeOf hy
mutual
def cata {α:Type} (f:za→List α→α):za→α
 | ⟨k,s,lo,hi,kids⟩=>f ⟨k,s,lo,hi,kids⟩ (cataL f kids)
def cataL {α:Type} (f:za→List α→α):List za→List α
 | []=>[]
 | x :: r=>cata f x :: cataL f r
end
theorem cataL_map {α:Type} (f:za→List α→α):∀ l,cataL f l=l.map (cata f)
 | []=>rfl
 | x :: r=>by rw [cataL,cataL_map f r];rfl
theorem zdr {α:Type} (f:za→List α→α) (x:za):cata f x=f x (x.Kids.map (cata f)):=by
 cases x;rw [cata,cataL_map]
def Wf (x:za):Prop:=cata (α:=Prop) (fun x l=>x.Kids.length < 1099511627776∧∀ p∈l,p) x
theorem zdx (x:za):Wf x↔x.Kids.length < 1099511627776∧∀ y∈x.Kids,Wf y:=by
 show cata (α:=Prop) _ x↔_
 rw [zdr]
 constructor
 ·rintro ⟨h1,h2⟩;exact ⟨h1,fun y hy=>h2 _ (List.mem_map.2 ⟨y,hy,rfl⟩)⟩
 ·rintro ⟨h1,h2⟩
  refine ⟨h1,fun p hp=>?_⟩
  obtain ⟨y,hy,rfl⟩:=List.mem_map.1 hp
  exact h2 y hy
theorem zad {α:Type} [Inhabited α] {l:List α} {i:Nat} (h:i < l.length):gd l (i:Int)=l[i]:=by
 simp [gd,List.getD,h]
def timesN (x:za):Nat:=(max 1 (min 1000 (max x.Lo x.Hi))).toNat
def sizeN:za→Nat:=cata fun x l=>if x.Kind=2 then 1 else if 3≤x.Kind∧x.Kind≤5 then l.sum * (if x.Kind=5 then timesN x else 1) else 0
theorem zb5 (x:za):sizeN x=if x.Kind=2 then 1 else if 3≤x.Kind∧x.Kind≤5 then (x.Kids.map sizeN).sum * (if x.Kind=5 then timesN x else 1) else 0:=zdr _ x
def sizeZ (x:za):Int:=min (sizeN x:Int) (1000000:Int)
theorem ze3 {l:List Nat} {i:Nat} (h:i < l.length):(l.take (i+1)).sum=(l.take i).sum+l[i]:=by
 rw [List.take_succ_eq_append_getElem h,List.sum_append];simp
theorem rxSize_ok:∀ x,Wf x→zdb x (sizeZ x):=by
 refine rxInd fun x ih hw=>?_
 obtain ⟨hl,hk⟩:=(zdx x).1 hw
 refine W_rx_Size x _ ⟨fun h=>?_,fun h=>⟨fun h2=>?_,fun h2=>?_⟩⟩
 ·have h:x.Kind=2:=by simpa using h
  simp [sizeZ,zb5,h];omega
 ·have:x.Kind < 3∨x.Kind > 5:=by simpa using h2
  have h:x.Kind≠2:=by simpa using h
  rw [sizeZ,zb5,if_neg h,if_neg (by omega)];omega
 ·have h:x.Kind≠2:=by simpa using h
  have h2:3≤x.Kind∧x.Kind≤5:=by simp at h2;omega
  have hT:(timesN x:Int)=max 1 (min 1000 (max x.Lo x.Hi)):=by simp only [timesN];omega
  refine ⟨fun n t=>∃ i:Nat,t=i∧i≤x.Kids.length∧n=min (((x.Kids.map sizeN).take i).sum:Int) 1000000,fun n t=>(x.Kids.length - t).toNat,⟨0,rfl,by omega,by simp;omega⟩,?_⟩
  rintro n t ⟨i,rfl,hi,hn⟩
  refine ⟨fun ht=>?_,fun ht=>?_⟩
  ·have ht:i < x.Kids.length:=by simpa using ht
   refine ⟨by omega,by omega,sizeZ x.Kids[i],by rw [zad ht];exact ih _ (List.getElem_mem ht) (hk _ (List.getElem_mem ht)),?_⟩
   have hs:=ze3 (l:=x.Kids.map sizeN) (i:=i) (by simpa using ht)
   rw [List.getElem_map] at hs
   have hz:sizeZ x.Kids[i]=min (sizeN x.Kids[i]:Int) (1000000:Int):=rfl
   have hw1:w64 (n+sizeZ x.Kids[i])=n+sizeZ x.Kids[i]:=zO (by omega) (by omega)
   have hw2:w64 ((i:Int)+1)=((i+1:Nat):Int):=zO (by omega) (by omega)
   rw [hw1,hw2]
   refine ⟨⟨i+1,rfl,by omega,?_⟩,by dsimp only;omega⟩
   rw [hs];simp;omega
  ·have ht:i=x.Kids.length:=by have:¬ i < x.Kids.length:=by simpa using ht
                               omega
   subst ht
   rw [List.take_of_length_le (by simp)] at hn
   refine ⟨fun m=>m=n * (if x.Kind=5 then (timesN x:Int) else 1),fun m hm=>?_,fun h5=>?_,fun h5=>?_⟩
   ·subst hm
    rw [sizeZ,zb5,if_neg h,if_pos h2]
    by_cases h5:x.Kind=5
    ·simp only [if_pos h5]
     have hp:(1:Int)≤timesN x:=by omega
     have hp2:(timesN x:Int)≤1000:=by omega
     generalize (x.Kids.map sizeN).sum=S at hn ⊢
     subst hn
     rw [Int.natCast_mul]
     generalize (timesN x:Int)=T at hp hp2 ⊢
     simp
     rcases Int.le_total (S:Int) 1000000 with hS | hS
     ·rw [Int.min_eq_left hS];omega
     ·rw [Int.min_eq_right hS]
      have h1:(1000000:Int) * 1≤1000000 * T:=Int.mul_le_mul_of_nonneg_left hp (by omega)
      have h2:(1000000:Int) * T≤S * T:=Int.mul_le_mul_of_nonneg_right hS (by omega)
      omega
    ·simp only [if_neg h5];simp;omega
   ·have h5:x.Kind=5:=by simpa using h5
    rw [if_pos h5,hT]
    have:∀ a:Int,0≤a→a≤1000000→w64 (a * max 1 (min 1000 (max x.Lo x.Hi)))=a * max 1 (min 1000 (max x.Lo x.Hi)):=fun a h1 h2=>by
     have e1:0≤a * max 1 (min 1000 (max x.Lo x.Hi)):=Int.mul_nonneg h1 (by omega)
     have e2:a * max 1 (min 1000 (max x.Lo x.Hi))≤1000000 * 1000:=Int.mul_le_mul h2 (by omega) (by omega) (by omega)
     exact zO (by omega) (by omega)
    rw [← this n (by omega) (by omega)]
    congr 1;congr 1
    simp;omega
   ·have h5:x.Kind≠5:=by simpa using h5
    rw [if_neg h5];omega
theorem zfS:∀ x,Wf x→zah x (sizeZ x):=by
 refine rxInd fun x ih hw=>?_
 obtain ⟨hl,hk⟩:=(zdx x).1 hw
 refine zfC x _ ⟨fun h=>?_,fun h=>?_⟩
 ·have h:x.Kind=2:=by simpa using h
  simp [sizeZ,zb5,h];omega
 have h:x.Kind≠2:=by simpa using h
 refine ⟨fun b=>b=decide (3≤x.Kind∧x.Kind≤5),fun b hb=>⟨fun hbt=>?_,fun hbf=>?_⟩,fun h3=>?_,fun h3=>⟨fun h4=>?_,fun h4=>?_⟩⟩
 ·have h2:3≤x.Kind∧x.Kind≤5:=by rw [hbt] at hb;simpa using hb.symm
  have hT:(timesN x:Int)=max 1 (min 1000 (max x.Lo x.Hi)):=by simp only [timesN];omega
  have hp:(1:Int)≤timesN x:=by omega
  have hp2:(timesN x:Int)≤1000:=by omega
  refine ⟨fun n t=>∃ i:Nat,t=i∧i≤x.Kids.length∧n=min (((x.Kids.map sizeN).take i).sum:Int) 1000000,fun n t=>(x.Kids.length - t).toNat,⟨0,rfl,by omega,by simp;omega⟩,?_⟩
  rintro n t ⟨i,rfl,hi,hn⟩
  refine ⟨fun ht=>?_,fun ht=>?_⟩
  ·have ht:i < x.Kids.length:=by simpa using ht
   refine ⟨by omega,by omega,sizeZ x.Kids[i],by rw [zad ht];exact ih _ (List.getElem_mem ht) (hk _ (List.getElem_mem ht)),?_⟩
   have hs:=ze3 (l:=x.Kids.map sizeN) (i:=i) (by simpa using ht)
   rw [List.getElem_map] at hs
   have hz:sizeZ x.Kids[i]=min (sizeN x.Kids[i]:Int) (1000000:Int):=rfl
   have hw1:w64 (n+sizeZ x.Kids[i])=n+sizeZ x.Kids[i]:=zO (by omega) (by omega)
   have hw2:w64 ((i:Int)+1)=((i+1:Nat):Int):=zO (by omega) (by omega)
   rw [hw1,hw2]
   refine ⟨fun hg=>?_,fun hg=>?_⟩
   ·have hg:n+sizeZ x.Kids[i] > 1000000:=by simpa using hg
    have hsum:(x.Kids.map sizeN).sum≥((x.Kids.map sizeN).take (i+1)).sum:=by
     conv=>lhs;rw [← List.take_append_drop (i+1) (x.Kids.map sizeN),List.sum_append]
     omega
    rw [sizeZ,zb5,if_neg h,if_pos h2]
    have:(1000001:Int)≤(((x.Kids.map sizeN).sum * (if x.Kind=5 then timesN x else 1):Nat):Int):=by
     split
     ·have h3:(x.Kids.map sizeN).sum * 1≤(x.Kids.map sizeN).sum * timesN x:=Nat.mul_le_mul_left _ (by omega)
      omega
     ·omega
    omega
   ·have hg:¬ n+sizeZ x.Kids[i] > 1000000:=by simpa using hg
    exact ⟨⟨i+1,rfl,by omega,by rw [hs];simp;omega⟩,by dsimp only;omega⟩
  ·have ht:i=x.Kids.length:=by have:¬ i < x.Kids.length:=by simpa using ht
                               omega
   subst ht
   rw [List.take_of_length_le (by simp)] at hn
   refine ⟨fun m=>m=n * (if x.Kind=5 then (timesN x:Int) else 1),fun m hm=>?_,fun h5=>?_,fun h5=>?_⟩
   ·subst hm
    rw [sizeZ,zb5,if_neg h,if_pos h2]
    by_cases h5:x.Kind=5
    ·simp only [if_pos h5]
     generalize (x.Kids.map sizeN).sum=S at hn ⊢
     subst hn
     rw [Int.natCast_mul]
     generalize (timesN x:Int)=T at hp hp2 ⊢
     simp
     rcases Int.le_total (S:Int) 1000000 with hS | hS
     ·rw [Int.min_eq_left hS];omega
     ·rw [Int.min_eq_right hS]
      have h1:(1000000:Int) * 1≤1000000 * T:=Int.mul_le_mul_of_nonneg_left hp (by omega)
      have h2:(1000000:Int) * T≤S * T:=Int.mul_le_mul_of_nonneg_right hS (by omega)
      omega
    ·simp only [if_neg h5];simp;omega
   ·have h5:x.Kind=5:=by simpa using h5
    rw [if_pos h5,hT]
    have:∀ a:Int,0≤a→a≤1000000→w64 (a * max 1 (min 1000 (max x.Lo x.Hi)))=a * max 1 (min 1000 (max x.Lo x.Hi)):=fun a h1 h2=>by
     have e1:0≤a * max 1 (min 1000 (max x.Lo x.Hi)):=Int.mul_nonneg h1 (by omega)
     have e2:a * max 1 (min 1000 (max x.Lo x.Hi))≤1000000 * 1000:=Int.mul_le_mul h2 (by omega) (by omega) (by omega)
     exact zO (by omega) (by omega)
    rw [← this n (by omega) (by omega)]
    congr 1;congr 1
    simp;omega
   ·have h5:x.Kind≠5:=by simpa using h5
    rw [if_neg h5];omega
 ·have h2:¬ (3≤x.Kind∧x.Kind≤5):=by rw [hbf] at hb;simpa using hb.symm
  rw [sizeZ,zb5,if_neg h,if_neg h2];omega
 ·have h3':x.Kind=3:=by simpa using h3
  simp [h3']
 ·have h4':x.Kind=4:=by simpa using h4
  simp [h4']
 ·have h3':x.Kind≠3:=by simpa using h3
  have h4':x.Kind≠4:=by simpa using h4
  show decide (x.Kind=5)=decide (3≤x.Kind∧x.Kind≤5)
  rw [decide_eq_decide];omega
def nodesZ:za→Int→Int:=cata fun x l most=>l.foldl (fun m g=>if m≥0 then g m else m) (most - 1)
theorem zdQ (x:za) (most:Int):nodesZ x most=x.Kids.foldl (fun m y=>if m≥0 then nodesZ y m else m) (most - 1):=by
 unfold nodesZ
 rw [zdr,List.foldl_map]
theorem nodesZ_le:∀ x most,0≤most→nodesZ x most≤most - 1∧-1≤nodesZ x most:=by
 refine rxInd fun x ih most hm=>?_
 rw [zdQ]
 have key:∀ (l:List za) (m:Int),(∀ y∈l,y∈x.Kids)→-1≤m→(l.foldl (fun m y=>if m≥0 then nodesZ y m else m) m)≤m∧-1≤l.foldl (fun m y=>if m≥0 then nodesZ y m else m) m:=by
  intro l
  induction l with
  | nil=>intro m _ h;exact ⟨Int.le_refl _,h⟩
  | cons y r ih2=>
    intro m hl h
    simp only [List.foldl_cons]
    split
    ·rename_i h0
     obtain ⟨h1,h2⟩:=ih y (hl y (List.mem_cons_self ..)) m h0
     obtain ⟨h3,h4⟩:=ih2 _ (fun z hz=>hl z (List.mem_cons_of_mem _ hz)) h2
     exact ⟨by omega,h4⟩
    ·exact ih2 m (fun z hz=>hl z (List.mem_cons_of_mem _ hz)) h
 exact key x.Kids (most - 1) (fun _ h=>h) (by omega)
theorem zaj {α β:Type} {f:β→α→β} {b:β} {l:List α} {i:Nat} (h:i < l.length):(l.take (i+1)).foldl f b=f ((l.take i).foldl f b) l[i]:=by
 rw [List.take_succ_eq_append_getElem h,List.foldl_append];rfl
theorem nodes_pre {x:za} {most:Int} (hm:0≤most) (i:Nat):-1≤(x.Kids.take i).foldl (fun m y=>if m≥0 then nodesZ y m else m) (most - 1)∧(x.Kids.take i).foldl (fun m y=>if m≥0 then nodesZ y m else m) (most - 1) < most:=by
 induction i with
 | zero=>simp;omega
 | succ i ih=>
   by_cases h:i < x.Kids.length
   ·rw [zaj h]
    split
    ·rename_i h0
     have:=nodesZ_le x.Kids[i] _ h0
     omega
    ·exact ih
   ·rw [List.take_of_length_le (by omega)] at ih ⊢;exact ih
theorem rxNodes_ok:∀ x,Wf x→∀ most,0≤most→most≤1000000→zda x most (nodesZ x most):=by
 refine rxInd fun x ih hw most hm0 hm1=>?_
 obtain ⟨hl,hk⟩:=(zdx x).1 hw
 rw [zdQ]
 have hw0:w64 (most - 1)=most - 1:=zO (by omega) (by omega)
 refine W_rx_nodes x most _ ⟨fun m t=>∃ i:Nat,t=i∧i≤x.Kids.length∧m=(x.Kids.take i).foldl (fun m y=>if m≥0 then nodesZ y m else m) (most - 1),fun m t=>(x.Kids.length - t).toNat,⟨0,rfl,by omega,by rw [hw0];rfl⟩,?_⟩
 rintro m t ⟨i,rfl,hi,hm⟩
 have hb:=nodes_pre (x:=x) hm0 i
 rw [← hm] at hb
 refine ⟨fun ht=>?_,fun ht=>?_⟩
 ·have ht:i < x.Kids.length:=by simpa using ht
  have hw2:w64 ((i:Int)+1)=((i+1:Nat):Int):=zO (by omega) (by omega)
  have hs:=zaj (f:=fun m y=>if m≥0 then nodesZ y m else m) (b:=most - 1) ht
  rw [← hm] at hs
  refine ⟨fun m'=>m'=if m≥0 then nodesZ x.Kids[i] m else m,fun m' hm'=>?_,by omega,by omega,fun hg=>?_,fun hg=>?_⟩
  ·rw [hw2]
   exact ⟨⟨i+1,rfl,by omega,by rw [hs,hm']⟩,by dsimp only;omega⟩
  ·have hg:m≥0:=by simpa using hg
   refine ⟨nodesZ x.Kids[i] m,?_,by rw [if_pos hg]⟩
   rw [zad ht]
   exact ih _ (List.getElem_mem ht) (hk _ (List.getElem_mem ht)) _ hg (by omega)
  ·have hg:¬ m≥0:=by simpa using hg
   rw [if_neg hg]
 ·have ht:i=x.Kids.length:=by have:¬ i < x.Kids.length:=by simpa using ht
                              omega
  subst ht
  rw [hm,List.take_of_length_le (Nat.le_refl _)]
def WfB (x:za):Prop:=cata (α:=Prop) (fun x l=>x.Kids.length < 9223372036854775808∧∀ p∈l,p) x
theorem wfB_eq (x:za):WfB x↔x.Kids.length < 9223372036854775808∧∀ y∈x.Kids,WfB y:=by
 unfold WfB
 rw [zdr]
 simp only [List.mem_map,forall_exists_index,and_imp,forall_apply_eq_imp_iff₂]
theorem wfB_of_wf:∀ x,Wf x→WfB x:=by
 refine rxInd fun x ih hw=>?_
 obtain ⟨hl,hk⟩:=(zdx x).1 hw
 exact (wfB_eq x).2 ⟨by omega,fun y hy=>ih y hy (hk y hy)⟩
theorem refNodesB_ok:∀ x,WfB x→∀ most,0≤most→most≤1000000→zaO x most (nodesZ x most):=by
 refine rxInd fun x ih hw most hm0 hm1=>?_
 obtain ⟨hl,hk⟩:=(wfB_eq x).1 hw
 rw [zdQ]
 have hw0:w64 (most - 1)=most - 1:=zO (by omega) (by omega)
 refine ze0 x most _ ⟨fun m t=>∃ i:Nat,t=i∧i≤x.Kids.length∧m=(x.Kids.take i).foldl (fun m y=>if m≥0 then nodesZ y m else m) (most - 1),fun m t=>(x.Kids.length - t).toNat,⟨0,rfl,by omega,by rw [hw0];rfl⟩,?_⟩
 rintro m t ⟨i,rfl,hi,hm⟩
 have hb:=nodes_pre (x:=x) hm0 i
 rw [← hm] at hb
 have hstay:∀ (l:List za) (m:Int),m < 0→l.foldl (fun m y=>if m≥0 then nodesZ y m else m) m=m:=by
  intro l
  induction l with
  | nil=>intro m _;rfl
  | cons y r ih2=>intro m h;rw [List.foldl_cons,if_neg (by omega)];exact ih2 m h
 refine ⟨fun ht=>?_,fun ht=>?_⟩
 ·simp only [List.length_map,Bool.and_eq_true,decide_eq_true_eq] at ht
  obtain ⟨ht,hg⟩:=ht
  have ht:i < x.Kids.length:=by omega
  have hw2:w64 ((i:Int)+1)=((i+1:Nat):Int):=zO (by omega) (by omega)
  have hs:=zaj (f:=fun m y=>if m≥0 then nodesZ y m else m) (b:=most - 1) ht
  rw [← hm,if_pos hg] at hs
  refine ⟨by omega,by omega,nodesZ x.Kids[i] m,?_,?_⟩
  ·rw [zad ht]
   exact ih _ (List.getElem_mem ht) (hk _ (List.getElem_mem ht)) _ hg (by omega)
  ·rw [hw2]
   exact ⟨⟨i+1,rfl,by omega,hs.symm⟩,by dsimp only;omega⟩
 ·simp only [List.length_map,Bool.and_eq_false_iff,decide_eq_false_iff_not] at ht
  rcases Nat.lt_or_ge i x.Kids.length with hlt | hge
  ·have hneg:m < 0:=by omega
   have e:=List.foldl_append (f:=fun m y=>if m≥0 then nodesZ y m else m) (b:=most - 1) (l:=x.Kids.take i) (l':=x.Kids.drop i)
   rw [List.take_append_drop,← hm,hstay _ _ hneg] at e
   exact e
  ·rw [hm,List.take_of_length_le hge]
theorem refNodes_ok (x:za) (hw:Wf x) (most:Int) (h0:0≤most) (h1:most≤1000000):zaO x most (nodesZ x most):=refNodesB_ok x (wfB_of_wf x hw) most h0 h1
def noSet (s:zb):Bool:=s.e0 == 0 && (s.e1 == 0 && (s.e2 == 0 && (s.e3 == 0 && true)))
def timesB (lo hi:Int):Bool:=decide (0≤lo) && (decide (lo≤20) && (hi == -1 || decide (hi≥max 1 lo) && decide (hi≤20)))
def ownB (x:za):Bool:=
 if x.Kind=5 then noSet x.Set && (decide (x.Kids.length=1) && timesB x.Lo x.Hi)
 else if x.Kind=1 then noSet x.Set && (x.Lo == 0 && x.Hi == 0 && decide (x.Kids.length=0))
 else if x.Kind=2 then !noSet x.Set && (x.Lo == 0 && x.Hi == 0 && decide (x.Kids.length=0))
 else if x.Kind=3∨x.Kind=4 then noSet x.Set && (x.Lo == 0 && x.Hi == 0 && decide (x.Kids.length≥2))
 else false
def oddK (x k:za):Bool:=k.Kind == x.Kind && x.Kind != 5
def rgt:za→Int→Bool:=cata fun x l deep=>decide (deep > 0) && ownB x && (x.Kids.zip l).all fun (k,g)=>!oddK x k && g (deep - 1)
theorem zet (x:za) (deep:Int):rgt x deep=(decide (deep > 0) && ownB x && x.Kids.all fun k=>!oddK x k && rgt k (deep - 1)):=by
 unfold rgt
 rw [zdr]
 congr 1
 rw [List.zip_map_right,List.all_map]
 generalize x.Kids=l
 induction l with
 | nil=>rfl
 | cons y r ih=>simp only [List.zip_cons_cons,List.all_cons,Function.comp] at ih ⊢;rw [ih];rfl
def pat (x:za):zh:={ Kind:=x.Kind,Set:=x.Set,Lo:=x.Lo,Hi:=x.Hi,Kids:=x.Kids }
theorem times_ok (x:zh):zbz x (timesB x.Lo x.Hi):=by
 refine zfw x _ ⟨fun h=>?_,fun h=>?_⟩
 ·simp only [Bool.or_eq_true,decide_eq_true_eq] at h
  simp only [timesB,Bool.and_eq_false_iff,decide_eq_false_iff_not];omega
 ·simp only [Bool.or_eq_false_iff,decide_eq_false_iff_not] at h
  have h1:decide (0≤x.Lo)=true:=by simp;omega
  have h2:decide (x.Lo≤20)=true:=by simp;omega
  simp only [timesB,h1,h2,Bool.true_and]
  congr 2
  have:(if x.Lo > 1 then x.Lo else 1)=max 1 x.Lo:=by omega
  rw [this]
theorem len0 (l:List za):decide (l=[])=(decide ((2:Int)≤(l.length:Int)+2) && (l.length:Int)+2 == 2):=by
 cases l with
 | nil=>rfl
 | cons a r=>
   have:((((a :: r).length:Nat):Int)+2 == 2)=false:=by
    show decide _=false
    simp only [decide_eq_false_iff_not,List.length_cons];omega
   rw [this];simp
theorem own_ok (x:za) (hl:x.Kids.length < 1099511627776):zbX (pat x) (ownB x):=by
 refine zgJ (pat x) _ ⟨fun many=>many=(if x.Kind=1∨x.Kind=2 then (x.Kids.length:Int)+2 else x.Kids.length)∧(x.Kind=1∨x.Kind=2∨x.Kind=3∨x.Kind=4),?_,fun h5=>?_,fun h5=>?_⟩
 ·rintro many ⟨rfl,hk⟩
  show ownB x=((!noSet x.Set) == (x.Kind == 2) && (x.Lo == 0 && (x.Hi == 0 && (decide (_≥2) && (!decide (x.Kind < 3) || _ == 2)))))
  rcases hk with h | h | h | h
  all_goals simp only [ownB,h]
  ·cases noSet x.Set<;>cases hlo:(x.Lo == 0)<;>cases hhi:(x.Hi == 0)<;>simp [len0]
  ·cases noSet x.Set<;>cases hlo:(x.Lo == 0)<;>cases hhi:(x.Hi == 0)<;>simp [len0]
  ·cases noSet x.Set<;>cases hlo:(x.Lo == 0)<;>cases hhi:(x.Hi == 0)<;>simp<;>omega
  ·cases noSet x.Set<;>cases hlo:(x.Lo == 0)<;>cases hhi:(x.Hi == 0)<;>simp<;>omega
 ·have h5:x.Kind=5:=by simpa [pat] using h5
  refine ⟨fun hs=>⟨fun h1=>⟨_,times_ok (pat x),?_⟩,fun h1=>?_⟩,fun hs=>?_⟩
  ·have h1:x.Kids.length=1:=by simp [pat] at h1;omega
   have hs:noSet x.Set=true:=by rw [Bool.not_not] at hs;exact hs
   simp only [ownB,if_pos h5,hs,h1];rfl
  ·have h1:x.Kids.length≠1:=by simp [pat] at h1;omega
   simp [ownB,if_pos h5,h1]
  ·have hs:noSet x.Set=false:=by rw [Bool.not_not] at hs;exact hs
   simp [ownB,if_pos h5,hs]
 ·have h5:x.Kind≠5:=by simpa [pat] using h5
  refine ⟨fun b=>b=decide (x.Kind=1∨x.Kind=2),fun b hb=>⟨fun h=>?_,fun h=>?_⟩,fun h=>?_,fun h=>?_⟩
  ·have h12:x.Kind=1∨x.Kind=2:=by rw [h] at hb;simpa using hb.symm
   refine ⟨?_,by omega⟩
   rw [if_pos h12];exact zO (by show _≤(x.Kids.length:Int)+2;omega) (by show (x.Kids.length:Int)+2≤_;omega)
  ·have h12:¬ (x.Kind=1∨x.Kind=2):=by rw [h] at hb;simpa using hb.symm
   refine ⟨fun b=>b=decide (x.Kind=3∨x.Kind=4),fun b' hb'=>⟨fun h'=>?_,fun h'=>?_⟩,fun h'=>?_,fun h'=>?_⟩
   ·have h34:x.Kind=3∨x.Kind=4:=by rw [h'] at hb';simpa using hb'.symm
    exact ⟨by rw [if_neg h12];rfl,by omega⟩
   ·have h34:¬ (x.Kind=3∨x.Kind=4):=by rw [h'] at hb';simpa using hb'.symm
    simp only [ownB];rw [if_neg h5,if_neg (by omega),if_neg (by omega),if_neg h34]
   ·have:x.Kind=3:=by simpa [pat] using h'
    simp [pat,this]
   ·have:x.Kind≠3:=by simpa [pat] using h'
    simp [pat,this];rfl
  ·have:x.Kind=1:=by simpa [pat] using h
   simp [pat,this]
  ·have:x.Kind≠1:=by simpa [pat] using h
   simp [pat,this];rfl
theorem rxRight_ok:∀ x,Wf x→∀ deep,-1000≤deep→deep≤1000→zaz (pat x) deep (rgt x deep):=by
 refine rxInd fun x ih hw deep hd0 hd1=>?_
 obtain ⟨hl,hk⟩:=(zdx x).1 hw
 have hodd:∀ k∈x.Kids,0 < deep→zbd k (pat x) deep (oddK x k || !rgt k (deep - 1)) (pat x) deep:=by
  intro k hkm hpos
  have hw1:w64 (deep - 1)=deep - 1:=zO (by omega) (by omega)
  have hrec:zaz ({ Kind:=za.Kind k,Set:=za.Set k,Lo:=za.Lo k,Hi:=za.Hi k,Kids:=za.Kids k }) (w64 (deep - 1)) (rgt k (deep - 1)):=by
   rw [hw1];exact ih k hkm (hk k hkm) _ (by omega) (by omega)
  refine zd3 k (pat x) deep _ _ _ ⟨fun h1=>⟨fun h2=>?_,fun h2=>⟨_,hrec,?_,rfl,rfl⟩⟩,fun h1=>⟨_,hrec,?_,rfl,rfl⟩⟩
  ·have h1:(k.Kind == x.Kind)=true:=h1
   have h2:(x.Kind != 5)=true:=h2
   simp [oddK,h1,h2]
  ·have h2:(x.Kind != 5)=false:=h2
   simp [oddK,h2]
  ·have h1:(k.Kind == x.Kind)=false:=h1
   simp [oddK,h1]
 have hall:∀ l:List za,l.length < 1099511627776→(∀ k∈l,k∈x.Kids)→0 < deep→zF l (pat x) deep (l.any fun k=>oddK x k || !rgt k (deep - 1)) (pat x) deep:=by
  intro l hll hlm hpos
  obtain ⟨z,hz,hz2⟩:∃ z:Int,(decide (z≥0)=l.any fun k=>oddK x k || !rgt k (deep - 1))∧zJ l (pat x) deep z (pat x) deep:=by
   have hfind:∀ i:Nat,(∀ (j:Nat) (hj:j < l.length),j < i→(oddK x l[j] || !rgt l[j] (deep - 1))=false)→(i=l.length→(l.any fun k=>oddK x k || !rgt k (deep - 1))=false):=by
    intro i h e
    subst e
    rw [List.any_eq_false]
    intro k hkm
    obtain ⟨j,hj,rfl⟩:=List.mem_iff_getElem.1 hkm
    rw [h j hj hj];simp
   cases hany:l.any fun k=>oddK x k || !rgt k (deep - 1) with
   | false=>
     refine ⟨-1,by simp,?_⟩
     refine zac l (pat x) deep _ _ _ ⟨fun a b c d e f g h o t=>(⟨a,⟨b,c,d,e⟩,f,g,h⟩:zh)=pat x∧o=deep∧∃ i:Nat,t=i∧i≤l.length,fun _ _ _ _ _ _ _ _ _ t=>(l.length - t).toNat,⟨rfl,rfl,0,rfl,by omega⟩,?_⟩
     rintro a b c d e f g h o t ⟨hp,rfl,i,rfl,hi⟩
     refine ⟨fun ht=>?_,fun ht=>⟨rfl,hp.symm,rfl⟩⟩
     have ht:i < l.length:=by simpa using ht
     have hw2:w64 ((i:Int)+1)=((i+1:Nat):Int):=zO (by omega) (by omega)
     refine ⟨by omega,by omega,_,pat x,o,by rw [zad ht,hp];exact hodd l[i] (hlm _ (List.getElem_mem ht)) hpos,fun hb=>?_,fun hb=>?_⟩
     ·rw [List.any_eq_false] at hany
      exact absurd hb (hany _ (List.getElem_mem ht))
     ·rw [hw2]
      exact ⟨⟨rfl,rfl,i+1,rfl,by omega⟩,by dsimp only;omega⟩
   | true=>
     obtain ⟨k0,hk0,hk1⟩:=List.any_eq_true.1 hany
     have hex:∃ i:Nat,∃ hi:i < l.length,(oddK x l[i] || !rgt l[i] (deep - 1))=true∧∀ (j:Nat) (hj:j < i),(oddK x (l[j]'(by omega)) || !rgt (l[j]'(by omega)) (deep - 1))=false:=by
      obtain ⟨j0,hj0,rfl⟩:=List.mem_iff_getElem.1 hk0
      induction j0 using Nat.strongRecOn with
      | _ j0 ihj=>
        by_cases hex:∃ j:Nat,∃ hj:j < j0,(oddK x (l[j]'(by omega)) || !rgt (l[j]'(by omega)) (deep - 1))=true
        ·obtain ⟨j,hj,hj1⟩:=hex
         exact ihj j hj (by omega) (List.getElem_mem _) hj1
        ·refine ⟨j0,hj0,hk1,fun j hj=>?_⟩
         cases hb:(oddK x (l[j]'(by omega)) || !rgt (l[j]'(by omega)) (deep - 1)) with
         | false=>rfl
         | true=>exact absurd ⟨j,hj,hb⟩ hex
     obtain ⟨n,hn,hn1,hn2⟩:=hex
     refine ⟨n,by simp,?_⟩
     refine zac l (pat x) deep _ _ _ ⟨fun a b c d e f g h o t=>(⟨a,⟨b,c,d,e⟩,f,g,h⟩:zh)=pat x∧o=deep∧∃ i:Nat,t=i∧i≤n,fun _ _ _ _ _ _ _ _ _ t=>(l.length - t).toNat,⟨rfl,rfl,0,rfl,by omega⟩,?_⟩
     rintro a b c d e f g h o t ⟨hp,rfl,i,rfl,hi⟩
     refine ⟨fun ht=>?_,fun ht=>?_⟩
     ·have ht:i < l.length:=by simpa using ht
      have hw2:w64 ((i:Int)+1)=((i+1:Nat):Int):=zO (by omega) (by omega)
      refine ⟨by omega,by omega,_,pat x,o,by rw [zad ht,hp];exact hodd l[i] (hlm _ (List.getElem_mem ht)) hpos,fun hb=>⟨?_,rfl,rfl⟩,fun hb=>?_⟩
      ·rcases Nat.lt_or_ge i n with hlt | hge
       ·rw [hn2 i hlt] at hb;cases hb
       ·have:i=n:=by omega
        rw [this]
      ·rcases Nat.lt_or_ge i n with hlt | hge
       ·rw [hw2]
        exact ⟨⟨rfl,rfl,i+1,rfl,by omega⟩,by dsimp only;omega⟩
       ·have:i=n:=by omega
        subst this
        rw [hn1] at hb;cases hb
     ·have:¬ i < l.length:=by simpa using ht
      omega
  refine zaJ l (pat x) deep _ _ _ ⟨z,_,_,hz2,hz.symm,rfl,rfl⟩
 rw [zet]
 refine zfx (pat x) deep _ ⟨fun hd=>⟨_,own_ok x hl,fun ho=>⟨_,_,_,hall x.Kids hl (fun _ h=>h) (by simpa using hd),?_⟩,fun ho=>?_⟩,fun hd=>?_⟩
 ·rw [hd,ho]
  simp only [Bool.true_and]
  rw [List.any_eq_not_all_not,Bool.not_not]
  congr 1
  funext k
  cases oddK x k<;>cases rgt k (deep - 1)<;>rfl
 ·rw [ho];simp
 ·rw [hd];simp
def rightB (x:za):Bool:=rgt x 20 && (decide (sizeZ x≤200) && decide (nodesZ x 1000≥0))
theorem zcC (x:za) (hw:Wf x):zcq x (rightB x):=by
 refine W_rx_Right x _ ⟨_,rxRight_ok x hw 20 (by omega) (by omega),fun h=>⟨_,rxSize_ok x hw,fun h2=>⟨_,rxNodes_ok x hw 1000 (by omega) (by omega),?_⟩,fun h2=>?_⟩,fun h=>?_⟩
 ·rw [rightB,h,h2];rfl
 ·rw [rightB,h2];simp
 ·rw [rightB,h];simp
end Go.Ev.Pl
set_option linter.unusedSimpArgs false
set_option linter.unusedVariables false
namespace Go.Ev.Pl
open Go Go.Ev
theorem noSet_eq (s:zb):(s.e0 == 0 && (s.e1 == 0 && (s.e2 == 0 && (s.e3 == 0 && true))))=noSet s:=rfl
theorem zgW (l:List za):((l.length:Int) == 0)=decide (l.length=0):=by
 show decide _=decide _
 simp only [decide_eq_decide];omega
theorem refRight_ok:∀ x,Wf x→∀ deep,-1000≤deep→deep≤1000→zaM x deep (rgt x deep):=by
 refine rxInd fun x ih hw deep hd0 hd1=>?_
 obtain ⟨hl,hk⟩:=(zdx x).1 hw
 have hw1:w64 (deep - 1)=deep - 1:=zO (by omega) (by omega)
 rw [zet]
 refine zeW x deep _ ⟨fun h=>?_,fun h=>?_⟩
 ·have:¬ deep > 0:=by have:deep < 1:=by simpa using h
                      omega
  simp [this]
 have hd:decide (deep > 0)=true:=by have:¬ deep < 1:=by simpa using h
                                    simp;omega
 have hpos:0 < deep:=by simpa using hd
 rw [hd,Bool.true_and]
 simp only [noSet_eq,Bool.not_not]
 refine ⟨fun h1=>?_,fun h1=>⟨fun h2=>?_,fun h2=>⟨fun h5=>?_,fun h5=>?_⟩⟩⟩
 ·have h1:x.Kind=1:=by simpa using h1
  have:x.Kids.all (fun k=>!oddK x k && rgt k (deep - 1))=true∨¬ x.Kids.length=0:=by
   cases x.Kids with
   | nil=>exact .inl rfl
   | cons a r=>right;simp
  simp only [ownB,h1]
  rcases this with h | h
  ·rw [h,zgW];simp
  ·rw [zgW];simp [h]
 ·have h2:x.Kind=2:=by simpa using h2
  have:x.Kids.all (fun k=>!oddK x k && rgt k (deep - 1))=true∨¬ x.Kids.length=0:=by
   cases x.Kids with
   | nil=>exact .inl rfl
   | cons a r=>right;simp
  simp only [ownB,h2]
  rcases this with h | h
  ·rw [h,zgW];simp
  ·rw [zgW];simp [h]
 ·have h5:x.Kind=5:=by simpa using h5
  have hmax:(if true=true then if x.Lo > 1 then x.Lo else 1 else if x.Lo < 1 then x.Lo else 1)=max 1 x.Lo:=by simp;omega
  have hmax2:(if x.Lo > 1 then x.Lo else 1)=max 1 x.Lo:=by omega
  simp only [eq_self,if_true,hmax2]
  have hown:ownB x=(noSet x.Set && (decide (x.Kids.length=1) && timesB x.Lo x.Hi)):=by simp only [ownB,if_pos h5]
  refine ⟨fun hs=>⟨fun hlo=>⟨fun hlo2=>⟨fun hhi=>⟨fun h1=>⟨fun _ _ _ _ _=>?_,_,ih _ ?_ (hk _ ?_) _ (by omega) (by omega),?_⟩,fun h1=>?_⟩,fun hhi=>?_⟩,fun hlo2=>?_⟩,fun hlo=>?_⟩,fun hs=>?_⟩
  ·have h1':x.Kids.length=1:=by (rw [List.length_map] at h1;have:(x.Kids.length:Int)=1:=by simpa using h1);omega
   omega
  ·have h1':x.Kids.length=1:=by (rw [List.length_map] at h1;have:(x.Kids.length:Int)=1:=by simpa using h1);omega
   match hq:x.Kids,h1' with
   | [a],_=>simp
  ·have h1':x.Kids.length=1:=by (rw [List.length_map] at h1;have:(x.Kids.length:Int)=1:=by simpa using h1);omega
   match hq:x.Kids,h1' with
   | [a],_=>simp
  ·-- the kid's word
   have h1':x.Kids.length=1:=by (rw [List.length_map] at h1;have:(x.Kids.length:Int)=1:=by simpa using h1);omega
   match hq:x.Kids,h1' with
   | [a],_=>
     have ht:timesB x.Lo x.Hi=true:=by
      have a1:decide (0≤x.Lo)=true:=by have:x.Lo≥0:=by simpa using hlo
                                       simp;omega
      simp only [timesB,a1,hlo2,hhi,Bool.true_and]
     rw [hown,hs,hq,ht,hw1]
     have ho:oddK x a=false:=by simp [oddK,h5]
     simp [ho]
  ·have h1':x.Kids.length≠1:=by intro e;rw [List.length_map,e] at h1;simp at h1
   rw [hown];simp [h1']
  ·rw [hown];simp only [timesB];rw [hhi];simp
  ·rw [hown];simp only [timesB];rw [hlo2];simp
  ·have:decide (0≤x.Lo)=false:=by have:¬ x.Lo≥0:=by simpa using hlo
                                  simp;omega
   rw [hown];simp only [timesB];rw [this];simp
  ·rw [hown,hs];simp
 ·have h1:x.Kind≠1:=by simpa using h1
  have h2:x.Kind≠2:=by simpa using h2
  have h5:x.Kind≠5:=by simpa using h5
  have hodd:∀ k,oddK x k=(k.Kind == x.Kind):=fun k=>by simp [oddK,h5]
  refine ⟨fun b=>b=decide (x.Kind=3∨x.Kind=4),fun b hb=>⟨fun hbt=>⟨fun hg=>?_,fun hg=>?_⟩,fun hbf=>?_⟩,fun h3=>?_,fun h3=>?_⟩
  ·have h34:x.Kind=3∨x.Kind=4:=by rw [hbt] at hb;simpa using hb.symm
   have:ownB x=false:=by
    simp only [ownB,if_neg h5,if_neg h1,if_neg h2,if_pos h34]
    simp only [Bool.or_eq_true,decide_eq_true_eq,Bool.not_eq_true',Bool.and_eq_false_iff] at hg ⊢
    rcases hg with hg | hg | hg
    ·exact .inl hg
    ·exact .inr (.inl (hg.imp id id))
    ·right;right;simp;omega
   rw [this];simp
  ·have h34:x.Kind=3∨x.Kind=4:=by rw [hbt] at hb;simpa using hb.symm
   have hown:ownB x=true:=by
    simp only [ownB,if_neg h5,if_neg h1,if_neg h2,if_pos h34]
    simp only [Bool.or_eq_false_iff,decide_eq_false_iff_not,Bool.not_eq_false',Bool.and_eq_true,decide_eq_true_eq] at hg ⊢
    obtain ⟨g1,g2,g3⟩:=hg
    exact ⟨g1,g2,by omega⟩
   rw [hown,Bool.true_and]
   refine ⟨fun t=>∃ i:Nat,t=i∧i≤x.Kids.length∧(x.Kids.take i).all (fun k=>!oddK x k && rgt k (deep - 1))=true,fun t=>(x.Kids.length - t).toNat,⟨0,rfl,by omega,rfl⟩,?_⟩
   rintro t ⟨i,rfl,hi,hall⟩
   refine ⟨fun ht=>?_,fun ht=>?_⟩
   ·have ht:i < x.Kids.length:=by simpa using ht
    have hw2:w64 ((i:Int)+1)=((i+1:Nat):Int):=zO (by omega) (by omega)
    have hm:=List.getElem_mem ht
    have hfail:∀ {b:Bool},(!oddK x x.Kids[i] && rgt x.Kids[i] (deep - 1))=false→(x.Kids.all fun k=>!oddK x k && rgt k (deep - 1))=false:=fun h=>by
     rw [List.all_eq_false];exact ⟨_,hm,by rw [h];simp⟩
    refine ⟨by omega,by omega,fun ho=>?_,fun ho=>⟨fun _=>by omega,fun _=>by omega,_,by rw [zad ht,hw1];exact ih _ hm (hk _ hm) _ (by omega) (by omega),fun hr=>?_,fun hr=>?_⟩⟩
    ·rw [zad ht] at ho
     exact (hfail (b:=true) (by rw [hodd,ho];rfl)).symm▸rfl
    ·have hr:rgt x.Kids[i] (deep - 1)=false:=by simpa using hr
     exact hfail (b:=true) (by rw [hr];simp)
    ·have hr:rgt x.Kids[i] (deep - 1)=true:=by simpa using hr
     rw [zad ht] at ho
     rw [hw2]
     refine ⟨⟨i+1,rfl,by omega,?_⟩,by dsimp only;omega⟩
     rw [List.take_succ_eq_append_getElem ht,List.all_append,hall]
     simp [hodd,ho,hr]
   ·have ht:i=x.Kids.length:=by have:¬ i < x.Kids.length:=by simpa using ht
                                omega
    subst ht
    rw [List.take_of_length_le (Nat.le_refl _)] at hall
    exact hall
  ·have h34:¬ (x.Kind=3∨x.Kind=4):=by rw [hbf] at hb;simpa using hb.symm
   have:ownB x=false:=by simp only [ownB,if_neg h5,if_neg h1,if_neg h2,if_neg h34]
   rw [this];simp
  ·have:x.Kind=3:=by simpa using h3
   simp [this]
  ·have:x.Kind≠3:=by simpa using h3
   simp [this];rfl
theorem zcr (x:za) (hw:Wf x):zaN x (rightB x):=by
 refine zeY x _ ⟨_,refRight_ok x hw 20 (by omega) (by omega),fun h=>⟨_,zfS x hw,fun h2=>⟨_,refNodes_ok x hw 1000 (by omega) (by omega),?_⟩,fun h2=>?_⟩,fun h=>?_⟩
 ·rw [rightB,h,h2];rfl
 ·rw [rightB,h2];simp
 ·rw [rightB,h];simp
def nullB:za→Bool:=cata fun x l=>if x.Kind=1 then true else if x.Kind=3 then l.all id else if x.Kind=4 then l.any id else if x.Kind=5 then decide (x.Lo≤0) || l.all id else false
theorem nullB_eq (x:za):nullB x=if x.Kind=1 then true else if x.Kind=3 then x.Kids.all nullB else if x.Kind=4 then x.Kids.any nullB else if x.Kind=5 then decide (x.Lo≤0) || x.Kids.all nullB else false:=by
 unfold nullB;rw [zdr];simp only [List.all_map,List.any_map];rfl
end Go.Ev.Pl
set_option linter.unusedSimpArgs false
set_option linter.unusedVariables false
namespace Go.Ev.Pl
open Go Go.Ev
structure GA where
 n:Nat
 sets:List zb
 null:Bool
 first:Nat→Bool
 last:Nat→Bool
 follow:Nat→Nat→Bool
def gEmpty:GA:=⟨0,[],true,fun _=>false,fun _=>false,fun _ _=>false⟩
def gNone:GA:=⟨0,[],false,fun _=>false,fun _=>false,fun _ _=>false⟩
def gByte (s:zb):GA:=⟨1,[s],false,fun i=>i == 0,fun i=>i == 0,fun _ _=>false⟩
def blk (n:Nat) (p q:Nat→Nat→Bool) (r:Nat→Nat→Bool) (i j:Nat):Bool:=
 if i < n then (if j < n then p i j else r i (j - n)) else (if j < n then false else q (i - n) (j - n))
def gCat (a b:GA):GA:=
 ⟨a.n+b.n,a.sets++b.sets,a.null && b.null,fun i=>if i < a.n then a.first i else a.null && b.first (i - a.n),
   fun i=>if i < a.n then b.null && a.last i else b.last (i - a.n),blk a.n a.follow b.follow fun i j=>a.last i && b.first j⟩
def gAlt (a b:GA):GA:=
 ⟨a.n+b.n,a.sets++b.sets,a.null || b.null,fun i=>if i < a.n then a.first i else b.first (i - a.n),
   fun i=>if i < a.n then a.last i else b.last (i - a.n),blk a.n a.follow b.follow fun _ _=>false⟩
def gAgain (a:GA):GA:={ a with follow:=fun i j=>a.follow i j || a.last i && a.first j }
def gMaybe (a:GA):GA:={ a with null:=true }
theorem cat_empty_l (a:GA):gCat gEmpty a=a:=by
 cases a;simp [gCat,gEmpty];funext i j;simp [blk]
theorem alt_none_l (a:GA):gAlt gNone a=a:=by
 cases a;simp [gAlt,gNone];funext i j;simp [blk]
theorem cat_assoc (a b c:GA):gCat (gCat a b) c=gCat a (gCat b c):=by
 obtain ⟨an,asx,au,af,al,ao⟩:=a
 obtain ⟨bn,bs,bu,bf,bl,bo⟩:=b
 obtain ⟨cn,cs,cu,cf,cl,co⟩:=c
 simp only [gCat,GA.mk.injEq,List.append_assoc,Nat.add_assoc,true_and,Bool.and_assoc]
 refine ⟨?_,?_,?_⟩
 ·funext i
  have e:i - (an+bn)=i - an - bn:=by omega
  rw [e]
  by_cases h1:i < an
  ·simp [h1,show i < an+bn by omega]
  ·by_cases h2:i < an+bn
   ·simp [h1,h2,show i - an < bn by omega]
   ·simp [h1,h2,show ¬ i - an < bn by omega]
 ·funext i
  have e:i - (an+bn)=i - an - bn:=by omega
  rw [e]
  by_cases h1:i < an
  ·simp only [h1,show i < an+bn by omega,if_true]
   cases bu<;>cases cu<;>simp
  ·by_cases h2:i < an+bn
   ·simp [h1,h2,show i - an < bn by omega]
   ·simp [h1,h2,show ¬ i - an < bn by omega]
 ·funext i j
  simp only [blk]
  have e:i - (an+bn)=i - an - bn:=by omega
  have e':j - (an+bn)=j - an - bn:=by omega
  rw [e,e']
  by_cases h1:i < an<;>by_cases h2:i < an+bn<;>by_cases h3:j < an<;>by_cases h4:j < an+bn
  all_goals first | omega | skip
  ·simp [h1,h2,h3,h4]
  ·simp [h1,h2,h3,h4,show j - an < bn by omega]
  ·simp [h1,h2,h3,h4,show ¬ j - an < bn by omega]
   cases bu<;>simp
  ·simp [h1,h2,h3,h4,show i - an < bn by omega]
  ·simp [h1,h2,h3,h4,show i - an < bn by omega,show j - an < bn by omega]
  ·simp [h1,h2,h3,h4,show i - an < bn by omega,show ¬ j - an < bn by omega]
  ·simp [h1,h2,h3,h4,show ¬ i - an < bn by omega]
  ·simp [h1,h2,h3,h4,show ¬ i - an < bn by omega,show j - an < bn by omega]
  ·simp [h1,h2,h3,h4,show ¬ i - an < bn by omega,show ¬ j - an < bn by omega]
structure Canon (a:GA):Prop where
 sets:a.sets.length=a.n
 first:∀ i,a.n≤i→a.first i=false
 last:∀ i,a.n≤i→a.last i=false
 follow:∀ i j,a.n≤i∨a.n≤j→a.follow i j=false
theorem cat_empty_r {a:GA} (h:Canon a):gCat a gEmpty=a:=by
 obtain ⟨n,sets,null,f,l,fo⟩:=a
 simp only [gCat,gEmpty,GA.mk.injEq,Nat.add_zero,List.append_nil,Bool.and_true,Bool.and_false,true_and]
 refine ⟨?_,?_,?_⟩
 ·funext i;split
  ·rfl
  ·rename_i hi;exact (h.first i (by show n≤i;omega)).symm
 ·funext i;split
  ·rfl
  ·rename_i hi;exact (h.last i (by show n≤i;omega)).symm
 ·funext i j
  simp only [blk]
  split<;>split
  ·rfl
  ·rename_i h1 h2;exact (h.follow i j (by show n≤i∨n≤j;omega)).symm
  ·rename_i h1 h2;exact (h.follow i j (by show n≤i∨n≤j;omega)).symm
  ·rename_i h1 h2;exact (h.follow i j (by show n≤i∨n≤j;omega)).symm
theorem canon_zero {a:GA} (h:Canon a) (hn:a.n=0) (hnull:a.null=true):a=gEmpty:=by
 obtain ⟨n,sets,null,f,l,fo⟩:=a
 simp only at hn hnull;subst hn hnull
 have hs:sets=[]:=List.length_eq_zero_iff.1 h.sets
 subst hs
 simp only [gEmpty,GA.mk.injEq,true_and]
 exact ⟨funext fun i=>h.first i (Nat.zero_le _),funext fun i=>h.last i (Nat.zero_le _),funext fun i=>funext fun j=>h.follow i j (.inl (Nat.zero_le _))⟩
theorem zaI:Canon gEmpty:=⟨rfl,fun _ _=>rfl,fun _ _=>rfl,fun _ _ _=>rfl⟩
theorem zbJ:Canon gNone:=⟨rfl,fun _ _=>rfl,fun _ _=>rfl,fun _ _ _=>rfl⟩
theorem canon_byte (s:zb):Canon (gByte s):=⟨rfl,fun i h=>by simp [gByte] at h ⊢;omega,fun i h=>by simp [gByte] at h ⊢;omega,fun _ _ _=>rfl⟩
theorem zbG {a b:GA} (ha:Canon a) (hb:Canon b):Canon (gCat a b):=by
 refine ⟨by simp [gCat,ha.sets,hb.sets],fun i h=>?_,fun i h=>?_,fun i j h=>?_⟩
 ·simp only [gCat] at h ⊢;rw [if_neg (by omega),hb.first _ (by omega)];simp
 ·simp only [gCat] at h ⊢;rw [if_neg (by omega),hb.last _ (by omega)]
 ·simp only [gCat,blk] at h ⊢
  split<;>split
  ·omega
  ·rw [hb.first _ (by omega)];simp
  ·rfl
  ·exact hb.follow _ _ (by omega)
theorem zdZ {a b:GA} (ha:Canon a) (hb:Canon b):Canon (gAlt a b):=by
 refine ⟨by simp [gAlt,ha.sets,hb.sets],fun i h=>?_,fun i h=>?_,fun i j h=>?_⟩
 ·simp only [gAlt] at h ⊢;rw [if_neg (by omega),hb.first _ (by omega)]
 ·simp only [gAlt] at h ⊢;rw [if_neg (by omega),hb.last _ (by omega)]
 ·simp only [gAlt,blk] at h ⊢
  split<;>split
  ·omega
  ·rfl
  ·rfl
  ·exact hb.follow _ _ (by omega)
theorem zcp {a:GA} (h:Canon a):Canon (gAgain a):=
 ⟨h.sets,h.first,h.last,fun i j hij=>by
   simp only [gAgain] at hij ⊢
   rw [h.follow i j hij]
   rcases hij with hi | hj
   ·rw [h.last i hi];rfl
   ·rw [h.first j hj];simp⟩
theorem zcN {a:GA} (h:Canon a):Canon (gMaybe a):=⟨h.sets,h.first,h.last,h.follow⟩
def iter (f:GA→GA):Nat→GA→GA
 | 0,z=>z
 | k+1,z=>f (iter f k z)
theorem iter_in (f:GA→GA):∀ k z,iter f (k+1) z=iter f k (f z)
 | 0,_=>rfl
 | k+1,z=>by rw [iter,iter_in f k];rfl
def leftp (a:GA) (k:Nat):GA:=iter (fun o=>gCat o a) k gEmpty
theorem leftp_cat (a:GA):∀ k z,gCat (leftp a k) z=iter (gCat a) k z
 | 0,z=>cat_empty_l z
 | k+1,z=>by
   show gCat (gCat (leftp a k) a) z=_
   rw [cat_assoc,leftp_cat a k,← iter_in]
theorem zco {f:GA→GA} (hf:∀ a,Canon a→Canon (f a)):∀ k {z},Canon z→Canon (iter f k z)
 | 0,_,h=>h
 | k+1,_,h=>hf _ (zco hf k h)
def gRep (a:GA) (lo hi:Int):GA:=
 if hi < 0 then iter (gCat a) (max lo 1 - 1).toNat (if lo=0 then gMaybe (gAgain a) else gAgain a)
 else iter (gCat a) lo.toNat (iter (fun o=>gMaybe (gCat a o)) (hi - lo).toNat gEmpty)
theorem canon_rep {a:GA} (h:Canon a) (lo hi:Int):Canon (gRep a lo hi):=by
 unfold gRep
 split
 ·refine zco (fun b hb=>zbG h hb) _ ?_
  split
  ·exact zcN (zcp h)
  ·exact zcp h
 ·exact zco (fun b hb=>zbG h hb) _ (zco (fun b hb=>zcN (zbG h hb)) _ zaI)
def gof:za→GA:=cata fun x l=>
 if x.Kind=2 then gByte x.Set else if x.Kind=3 then l.foldl gCat gEmpty else if x.Kind=4 then l.foldl gAlt gNone
 else if x.Kind=5 then gRep (l.headD gEmpty) x.Lo x.Hi else gEmpty
theorem zch (x:za):gof x=if x.Kind=2 then gByte x.Set else if x.Kind=3 then x.Kids.foldl (fun o y=>gCat o (gof y)) gEmpty else if x.Kind=4 then x.Kids.foldl (fun o y=>gAlt o (gof y)) gNone
 else if x.Kind=5 then gRep ((x.Kids.map gof).headD gEmpty) x.Lo x.Hi else gEmpty:=by
 unfold gof;rw [zdr];simp only [List.foldl_map]
theorem zae:∀ x,Canon (gof x):=by
 refine rxInd fun x ih=>?_
 have key:∀ (f:GA→GA→GA),(∀ a b,Canon a→Canon b→Canon (f a b))→∀ (l:List za) (z:GA),(∀ y∈l,y∈x.Kids)→Canon z→Canon (l.foldl (fun o y=>f o (gof y)) z):=by
  intro f hf l
  induction l with
  | nil=>intro z _ h;exact h
  | cons y r ih2=>intro z hl h;exact ih2 _ (fun a ha=>hl a (List.mem_cons_of_mem _ ha)) (hf _ _ h (ih y (hl y (List.mem_cons_self ..))))
 rw [zch]
 split
 ·exact canon_byte _
 ·split
  ·exact key gCat (fun a b=>zbG) _ _ (fun _ h=>h) zaI
  ·split
   ·exact key gAlt (fun a b=>zdZ) _ _ (fun _ h=>h) zbJ
   ·split
    ·refine canon_rep ?_ _ _
     cases hq:x.Kids with
     | nil=>exact zaI
     | cons y r=>exact ih y (by rw [hq];exact List.mem_cons_self ..)
    ·exact zaI
end Go.Ev.Pl
set_option linter.unusedSimpArgs false
set_option linter.unusedVariables false
namespace Go.Ev.Pl
open Go Go.Ev
def lst (n:Nat) (p:Nat→Bool) (off:Nat):List Int:=((List.range n).filter p).map fun i=>((i+off:Nat):Int)
theorem zax {n:Nat} {p:Nat→Bool} {off:Nat} {x:Int}:x∈lst n p off↔∃ i,i < n∧p i=true∧x=((i+off:Nat):Int):=by
 simp only [lst,List.mem_map,List.mem_filter,List.mem_range]
 constructor
 ·rintro ⟨i,⟨h1,h2⟩,rfl⟩;exact ⟨i,h1,h2,rfl⟩
 ·rintro ⟨i,h1,h2,rfl⟩;exact ⟨i,⟨h1,h2⟩,rfl⟩
theorem zbE (n:Nat) (p:Nat→Bool) (off:Nat):SS (lst n p off):=by
 unfold lst SS
 rw [List.pairwise_map]
 refine List.Pairwise.filter _ ?_
 exact List.pairwise_lt_range.imp fun h=>by omega
theorem zan (n:Nat) (p:Nat→Bool) (off:Nat):(lst n p off).length≤n:=by
 unfold lst
 rw [List.length_map]
 exact Nat.le_trans (List.length_filter_le _ _) (by simp)
theorem lst_congr {n:Nat} {p q:Nat→Bool} {off:Nat} (h:∀ i,i < n→p i=q i):lst n p off=lst n q off:=by
 unfold lst
 rw [List.filter_congr fun i hi=>h i (List.mem_range.1 hi)]
theorem lst_none (n off:Nat):lst n (fun _=>false) off=[]:=by simp [lst]
theorem lst_left {n m:Nat} {p:Nat→Bool} {off:Nat} {q:Nat→Bool} (h1:∀ i,i < n→q i=p i) (h2:∀ i,n≤i→i < n+m→q i=false):lst n p off=lst (n+m) q off:=by
 refine zgh (zbE _ _ _) (zbE _ _ _) fun x=>?_
 rw [zax,zax]
 constructor
 ·rintro ⟨i,hi,hp,rfl⟩;exact ⟨i,by omega,by rw [h1 i hi];exact hp,rfl⟩
 ·rintro ⟨i,hi,hp,rfl⟩
  rcases Nat.lt_or_ge i n with h | h
  ·exact ⟨i,h,by rw [← h1 i h];exact hp,rfl⟩
  ·rw [h2 i h hi] at hp;cases hp
theorem zhk {n m:Nat} {p:Nat→Bool} {off:Nat} {q:Nat→Bool} (h1:∀ i,i < n→q i=false) (h2:∀ i,i < m→q (n+i)=p i):lst m p (off+n)=lst (n+m) q off:=by
 refine zgh (zbE _ _ _) (zbE _ _ _) fun x=>?_
 rw [zax,zax]
 constructor
 ·rintro ⟨i,hi,hp,rfl⟩;exact ⟨n+i,by omega,by rw [h2 i hi];exact hp,by omega⟩
 ·rintro ⟨i,hi,hp,rfl⟩
  rcases Nat.lt_or_ge i n with h | h
  ·rw [h1 i h] at hp;cases hp
  ·exact ⟨i - n,by omega,by rw [← h2 _ (by omega),show n+(i - n)=i by omega];exact hp,by omega⟩
theorem zfc {n m:Nat} {p p':Nat→Bool} {off:Nat} {q:Nat→Bool} {l:List Int} (hs:SS l) (hm:∀ x,x∈l↔x∈lst n p off∨x∈lst m p' (off+n)) (h1:∀ i,i < n→q i=p i) (h2:∀ i,i < m→q (n+i)=p' i):l=lst (n+m) q off:=by
 refine zgh hs (zbE _ _ _) fun x=>?_
 rw [hm,zax,zax,zax]
 constructor
 ·rintro (⟨i,hi,hp,rfl⟩ | ⟨i,hi,hp,rfl⟩)
  ·exact ⟨i,by omega,by rw [h1 i hi];exact hp,rfl⟩
  ·exact ⟨n+i,by omega,by rw [h2 i hi];exact hp,by omega⟩
 ·rintro ⟨i,hi,hp,rfl⟩
  rcases Nat.lt_or_ge i n with h | h
  ·exact .inl ⟨i,h,by rw [← h1 i h];exact hp,rfl⟩
  ·exact .inr ⟨i - n,by omega,by rw [← h2 _ (by omega),show n+(i - n)=i by omega];exact hp,by omega⟩
def flw (g:GA) (off:Nat):List (List Int):=(List.range g.n).map fun i=>lst g.n (g.follow i) off
theorem z8 (g:GA) (off:Nat):(flw g off).length=g.n:=by simp [flw]
theorem zcz (g:GA) (off:Nat) {i:Nat} (h:i < g.n):(flw g off)[i]'(by rw [z8];exact h)=lst g.n (g.follow i) off:=by simp [flw]
theorem flw_ext {g:GA} {off:Nat} {l:List (List Int)} (hl:l.length=g.n) (h:∀ (i:Nat) (hi:i < l.length),l[i]=lst g.n (g.follow i) off):l=flw g off:=by
 apply List.ext_getElem
 ·rw [hl,z8]
 ·intro i h1 h2
  rw [h i h1,zcz g off (by rw [hl] at h1;exact h1)]
def leadF (F:List (List Int)) (fr to:List Int):List (List Int):=F.mapIdx fun i f=>if (i:Int)∈fr then join f to else f
theorem zbF (F:List (List Int)) (fr to:List Int):(leadF F fr to).length=F.length:=by simp [leadF]
theorem zbR (F:List (List Int)) (fr to:List Int) {i:Nat} (h:i < F.length):(leadF F fr to)[i]'(by rw [zbF];exact h)=if (i:Int)∈fr then join F[i] to else F[i]:=by simp [leadF]
theorem lead_cat (F0:List (List Int)) (a b:GA):leadF (F0++flw a F0.length++flw b (F0.length+a.n)) (lst a.n a.last F0.length) (lst b.n b.first (F0.length+a.n))=F0++flw (gCat a b) F0.length:=by
 apply List.ext_getElem
 ·rw [zbF];simp only [List.length_append,z8];simp only [gCat];omega
 ·intro i h1 h2
  rw [zbF] at h1
  rw [zbR _ _ _ h1]
  simp only [List.length_append,z8] at h1
  have hin:(i:Int)∈lst a.n a.last F0.length↔F0.length≤i∧i < F0.length+a.n∧a.last (i - F0.length)=true:=by
   rw [zax]
   constructor
   ·rintro ⟨j,hj,hp,e⟩
    have:i=j+F0.length:=by omega
    subst this
    exact ⟨by omega,by omega,by rw [Nat.add_sub_cancel];exact hp⟩
   ·rintro ⟨q1,q2,q3⟩
    exact ⟨i - F0.length,by omega,q3,by omega⟩
  rcases Nat.lt_or_ge i F0.length with hi | hi
  ·rw [if_neg (by rw [hin];omega),List.getElem_append_left (by simp only [List.length_append,z8];omega),List.getElem_append_left hi,List.getElem_append_left hi]
  ·have hr:(F0++flw (gCat a b) F0.length)[i]'h2=lst (a.n+b.n) ((gCat a b).follow (i - F0.length)) F0.length:=by
    rw [List.getElem_append_right hi,zcz _ _ (by show _ < a.n+b.n;omega)];rfl
   rw [hr]
   rcases Nat.lt_or_ge i (F0.length+a.n) with hi2 | hi2
   ·have hl:(F0++flw a F0.length++flw b (F0.length+a.n))[i]'(by simp only [List.length_append,z8];omega)=lst a.n (a.follow (i - F0.length)) F0.length:=by
     rw [List.getElem_append_left (by simp only [List.length_append,z8];omega),List.getElem_append_right hi,zcz _ _ (by omega)]
    rw [hl]
    by_cases hla:a.last (i - F0.length)=true
    ·rw [if_pos (hin.2 ⟨hi,hi2,hla⟩)]
     obtain ⟨j1,j2⟩:=zbT (lst a.n (a.follow (i - F0.length)) F0.length) (lst b.n b.first (F0.length+a.n))
     refine zfc j1 j2 (fun j hj=>?_) (fun j hj=>?_)
     ·simp only [gCat,blk];rw [if_pos (by omega),if_pos hj]
     ·simp only [gCat,blk];rw [if_pos (by omega),if_neg (by omega),hla,Nat.add_sub_cancel_left];rfl
    ·rw [if_neg (fun h=>hla (hin.1 h).2.2)]
     have hla:a.last (i - F0.length)=false:=by simpa using hla
     refine lst_left (fun j hj=>?_) (fun j h1 h2=>?_)
     ·simp only [gCat,blk];rw [if_pos (by omega),if_pos hj]
     ·simp only [gCat,blk];rw [if_pos (by omega),if_neg (by omega),hla];rfl
   ·rw [if_neg (by rw [hin];omega)]
    have hl:(F0++flw a F0.length++flw b (F0.length+a.n))[i]'(by simp only [List.length_append,z8];omega)=lst b.n (b.follow (i - (F0.length+a.n))) (F0.length+a.n):=by
     rw [List.getElem_append_right (by simp only [List.length_append,z8];omega)]
     simp only [List.length_append,z8]
     rw [zcz _ _ (by omega)]
    rw [hl]
    refine zhk (fun j hj=>?_) (fun j hj=>?_)
    ·simp only [gCat,blk];rw [if_neg (by omega),if_pos hj]
    ·simp only [gCat,blk];rw [if_neg (by omega),if_neg (by omega),show i - F0.length - a.n=i - (F0.length+a.n) by omega,Nat.add_sub_cancel_left]
theorem ziq (F0:List (List Int)) (a:GA):leadF (F0++flw a F0.length) (lst a.n a.last F0.length) (lst a.n a.first F0.length)=F0++flw (gAgain a) F0.length:=by
 apply List.ext_getElem
 ·rw [zbF];simp only [List.length_append,z8];rfl
 ·intro i h1 h2
  rw [zbF] at h1
  rw [zbR _ _ _ h1]
  simp only [List.length_append,z8] at h1
  have hin:(i:Int)∈lst a.n a.last F0.length↔F0.length≤i∧i < F0.length+a.n∧a.last (i - F0.length)=true:=by
   rw [zax]
   constructor
   ·rintro ⟨j,hj,hp,e⟩
    have:i=j+F0.length:=by omega
    subst this
    exact ⟨by omega,by omega,by rw [Nat.add_sub_cancel];exact hp⟩
   ·rintro ⟨q1,q2,q3⟩
    exact ⟨i - F0.length,by omega,q3,by omega⟩
  rcases Nat.lt_or_ge i F0.length with hi | hi
  ·rw [if_neg (by rw [hin];omega),List.getElem_append_left hi,List.getElem_append_left hi]
  ·have hr:(F0++flw (gAgain a) F0.length)[i]'h2=lst a.n ((gAgain a).follow (i - F0.length)) F0.length:=by
    rw [List.getElem_append_right hi,zcz _ _ (by show _ < a.n;omega)];rfl
   have hl:(F0++flw a F0.length)[i]'(by simp only [List.length_append,z8];omega)=lst a.n (a.follow (i - F0.length)) F0.length:=by
    rw [List.getElem_append_right hi,zcz _ _ (by omega)]
   rw [hr,hl]
   by_cases hla:a.last (i - F0.length)=true
   ·rw [if_pos (hin.2 ⟨hi,by omega,hla⟩)]
    obtain ⟨j1,j2⟩:=zbT (lst a.n (a.follow (i - F0.length)) F0.length) (lst a.n a.first F0.length)
    refine zgh j1 (zbE _ _ _) fun x=>?_
    rw [j2,zax,zax,zax]
    simp only [gAgain,hla,Bool.true_and,Bool.or_eq_true]
    constructor
    ·rintro (⟨j,q1,q2,rfl⟩ | ⟨j,q1,q2,rfl⟩)
     ·exact ⟨j,q1,.inl q2,rfl⟩
     ·exact ⟨j,q1,.inr q2,rfl⟩
    ·rintro ⟨j,q1,q2 | q2,rfl⟩
     ·exact .inl ⟨j,q1,q2,rfl⟩
     ·exact .inr ⟨j,q1,q2,rfl⟩
   ·rw [if_neg (fun h=>hla (hin.1 h).2.2)]
    have hla:a.last (i - F0.length)=false:=by simpa using hla
    exact lst_congr fun j hj=>by simp [gAgain,hla]
theorem flw_alt (a b:GA) (off:Nat):flw a off++flw b (off+a.n)=flw (gAlt a b) off:=by
 refine flw_ext (by simp [z8,gAlt]) fun i hi=>?_
 simp only [List.length_append,z8] at hi
 show _=lst (a.n+b.n) _ off
 rcases Nat.lt_or_ge i a.n with h | h
 ·rw [List.getElem_append_left (by rw [z8];exact h),zcz _ _ h]
  refine lst_left (fun j hj=>?_) (fun j h1 h2=>?_)
  ·simp only [gAlt,blk];rw [if_pos h,if_pos hj]
  ·simp only [gAlt,blk];rw [if_pos h,if_neg (by omega)]
 ·rw [List.getElem_append_right (by rw [z8];exact h)]
  simp only [z8]
  rw [zcz _ _ (by omega)]
  refine zhk (fun j hj=>?_) (fun j hj=>?_)
  ·simp only [gAlt,blk];rw [if_neg (by omega),if_pos hj]
  ·simp only [gAlt,blk];rw [if_neg (by omega),if_neg (by omega),Nat.add_sub_cancel_left]
def pc (g:GA) (off:Nat):zg:=⟨lst g.n g.first off,lst g.n g.last off,g.null⟩
theorem zhT (a b:GA) (off:Nat):(if a.null=true then join (lst a.n a.first off) (lst b.n b.first (off+a.n)) else lst a.n a.first off)=lst (a.n+b.n) (gCat a b).first off:=by
 split
 ·rename_i h
  obtain ⟨j1,j2⟩:=zbT (lst a.n a.first off) (lst b.n b.first (off+a.n))
  exact zfc j1 j2 (fun j hj=>by simp only [gCat];rw [if_pos hj]) (fun j hj=>by simp only [gCat];rw [if_neg (by omega),h,Nat.add_sub_cancel_left];rfl)
 ·rename_i h
  have h:a.null=false:=by simpa using h
  exact lst_left (fun j hj=>by simp only [gCat];rw [if_pos hj]) (fun j h1 h2=>by simp only [gCat];rw [if_neg (by omega),h];rfl)
theorem cat_last (a b:GA) (off:Nat):(if b.null=true then join (lst a.n a.last off) (lst b.n b.last (off+a.n)) else lst b.n b.last (off+a.n))=lst (a.n+b.n) (gCat a b).last off:=by
 split
 ·rename_i h
  obtain ⟨j1,j2⟩:=zbT (lst a.n a.last off) (lst b.n b.last (off+a.n))
  exact zfc j1 j2 (fun j hj=>by simp only [gCat];rw [if_pos hj,h];rfl) (fun j hj=>by simp only [gCat];rw [if_neg (by omega),Nat.add_sub_cancel_left])
 ·rename_i h
  have h:b.null=false:=by simpa using h
  exact zhk (fun j hj=>by simp only [gCat];rw [if_pos hj,h];rfl) (fun j hj=>by simp only [gCat];rw [if_neg (by omega),Nat.add_sub_cancel_left])
theorem alt_first (a b:GA) (off:Nat):join (lst a.n a.first off) (lst b.n b.first (off+a.n))=lst (a.n+b.n) (gAlt a b).first off:=by
 obtain ⟨j1,j2⟩:=zbT (lst a.n a.first off) (lst b.n b.first (off+a.n))
 exact zfc j1 j2 (fun j hj=>by simp only [gAlt];rw [if_pos hj]) (fun j hj=>by simp only [gAlt];rw [if_neg (by omega),Nat.add_sub_cancel_left])
theorem alt_last (a b:GA) (off:Nat):join (lst a.n a.last off) (lst b.n b.last (off+a.n))=lst (a.n+b.n) (gAlt a b).last off:=by
 obtain ⟨j1,j2⟩:=zbT (lst a.n a.last off) (lst b.n b.last (off+a.n))
 exact zfc j1 j2 (fun j hj=>by simp only [gAlt];rw [if_pos hj]) (fun j hj=>by simp only [gAlt];rw [if_neg (by omega),Nat.add_sub_cancel_left])
end Go.Ev.Pl
set_option linter.unusedSimpArgs false
set_option linter.unusedVariables false
namespace Go.Ev.Pl
open Go Go.Ev
theorem set_eq {α:Type} {l:List α} {i:Nat} {x:α} {m:List α} (hl:m.length=l.length) (h1:∀ (j:Nat) (h:j < l.length),j≠i→m[j]'(by omega)=l[j]) (h2:∀ h:i < l.length,m[i]'(by omega)=x):l.set i x=m:=by
 apply List.ext_getElem
 ·simp [hl]
 ·intro j a b
  rw [List.getElem_set]
  split
  ·rename_i e;subst e;exact (h2 (by simpa using a)).symm
  ·rename_i e;exact (h1 j (by simpa using a) (fun h=>e h.symm)).symm
theorem zc3 {α:Type} {L:List (List α)} {i:Nat} (h:i < L.length):(L.take (i+1)).flatten=(L.take i).flatten++L[i]:=by
 rw [List.take_succ_eq_append_getElem h,List.flatten_append];simp
theorem zb8 {α:Type} (L:List (List α)) (i:Nat):(L.take i).flatten.length≤L.flatten.length:=by
 conv=>rhs;rw [← List.take_append_drop i L]
 rw [List.flatten_append,List.length_append];omega
theorem concat_ok (L:List (List Int)) (hL:L.length < 1099511627776) (hT:L.flatten.length < 1000000000):zai L L.flatten:=by
 refine zc8 L _ ⟨fun s t=>∃ i:Nat,t=i∧i≤L.length∧s=(L.take i).flatten.length,fun s t=>(L.length - t).toNat,⟨0,rfl,by omega,by simp⟩,?_⟩
 rintro s t ⟨i,rfl,hi,rfl⟩
 have hb:=zb8 L i
 refine ⟨fun ht=>?_,fun ht=>?_⟩
 ·have ht:i < L.length:=by simpa using ht
  have hs:=congrArg List.length (zc3 ht)
  rw [List.length_append] at hs
  have hb2:=zb8 L (i+1)
  have hg:gd L (i:Int)=L[i]:=zad ht
  have hw1:w64 (((L.take i).flatten.length:Int)+(gd L (i:Int)).length)=((L.take (i+1)).flatten.length:Int):=by
   rw [hg,hs];exact (zO (by omega) (by omega)).trans (by omega)
  have hw2:w64 ((i:Int)+1)=((i+1:Nat):Int):=zO (by omega) (by omega)
  rw [hw1,hw2]
  exact ⟨True,fun _=>⟨⟨i+1,rfl,by omega,rfl⟩,by dsimp only;omega⟩,by omega,by omega,fun h=>absurd (of_decide_eq_true h) (by omega),fun _=>trivial⟩
 ·refine ⟨⟨by omega,by omega⟩,fun l t=>∃ i:Nat,t=i∧i≤L.length∧l=(L.take i).flatten,fun l t=>(L.length - t).toNat,⟨0,rfl,by omega,rfl⟩,?_⟩
  rintro l t ⟨j,rfl,hj,rfl⟩
  have hb3:=zb8 L j
  refine ⟨fun ht=>?_,fun ht=>?_⟩
  ·have ht:j < L.length:=by simpa using ht
   have hg:gd L (j:Int)=L[j]:=zad ht
   have hs:=zc3 ht
   have hs2:=congrArg List.length hs
   rw [List.length_append] at hs2
   have hb2:=zb8 L (j+1)
   have hw2:w64 ((j:Int)+1)=((j+1:Nat):Int):=zO (by omega) (by omega)
   rw [hw2,hg]
   exact ⟨by omega,by omega,by omega,⟨j+1,rfl,by omega,hs.symm⟩,by dsimp only;omega⟩
  ·have:j=L.length:=by have:¬ j < L.length:=by simpa using ht
                       omega
   subst this
   rw [List.take_of_length_le (Nat.le_refl _)]
theorem zfX (a b:List Int) (ha:a.length < 100000000) (hb:b.length < 100000000):zag a b (join a b):=by
 have h:=concat_ok [a,b] (by simp) (by simp;omega)
 have e:[a,b].flatten=a++b:=by simp
 rw [e] at h
 exact zgK a b _ ⟨_,h,by simp;omega,sort_len _,by rw [sort_len];simp;omega,rfl⟩
theorem lead_ok (fr to:List Int) (b:zi) (hfr:SS fr) (hin:∀ x∈fr,0≤x∧x < b.follow.length) (hto:to.length < 10000000) (hF:∀ f∈b.follow,f.length < 10000000) (hlen:fr.length < 10000000):zaY fr to b { sets:=b.sets,follow:=leadF b.follow fr to }:=by
 refine zel fr to b _ ⟨fun F t=>∃ i:Nat,t=i∧i≤fr.length∧F=leadF b.follow (fr.take i) to,fun F t=>(fr.length - t).toNat,⟨0,rfl,by omega,by simp [leadF];exact (List.ext_getElem (by simp) (fun j h1 h2=>by simp))⟩,?_⟩
 rintro F t ⟨i,rfl,hi,rfl⟩
 refine ⟨fun ht=>?_,fun ht=>?_⟩
 ·have ht:i < fr.length:=by simpa using ht
  have hg:gd fr (i:Int)=fr[i]:=zad ht
  rw [hg]
  obtain ⟨q0,q1⟩:=hin _ (List.getElem_mem ht)
  obtain ⟨e,he⟩:∃ e:Nat,fr[i]=e:=⟨fr[i].toNat,by omega⟩
  rw [he] at q1 ⊢
  have he2:e < b.follow.length:=by omega
  have hl:(leadF b.follow (fr.take i) to).length=b.follow.length:=zbF _ _ _
  have hnot:∀ j:Nat,(hj:j < b.follow.length)→j=e→¬ ((j:Int)∈fr.take i):=by
   rintro j hj rfl hm
   obtain ⟨k,hk,hk2⟩:=List.mem_iff_getElem.1 hm
   simp only [List.length_take] at hk
   rw [List.getElem_take] at hk2
   have:=List.pairwise_iff_getElem.1 hfr k i (by omega) ht (by omega)
   omega
  have hge:gd (leadF b.follow (fr.take i) to) (e:Int)=b.follow[e]:=by
   rw [zad (by rw [hl];exact he2),zbR _ _ _ he2,if_neg (hnot e he2 rfl)]
  have hw2:w64 ((i:Int)+1)=((i+1:Nat):Int):=zO (by omega) (by omega)
  refine ⟨by omega,by omega,by omega,by rw [hl];omega,by rw [hl];omega,join b.follow[e] to,?_,by omega,by rw [hl];omega,by rw [hl];omega,?_⟩
  ·rw [hge];exact zfX _ _ (by have:=hF _ (List.getElem_mem he2);omega) (by omega)
  ·rw [hw2]
   refine ⟨⟨i+1,rfl,by omega,?_⟩,by dsimp only;omega⟩
   show List.set _ e _=_
   refine set_eq (by rw [zbF,zbF]) (fun j hj hne=>?_) (fun hj=>?_)
   ·rw [hl] at hj
    rw [zbR _ _ _ hj,zbR _ _ _ hj,List.take_succ_eq_append_getElem ht,he]
    have:((j:Int)∈fr.take i++[(e:Int)])↔(j:Int)∈fr.take i:=by
     rw [List.mem_append,List.mem_singleton]
     constructor
     ·rintro (h | h)
      ·exact h
      ·exact absurd (by omega) hne
     ·exact .inl
    simp only [this]
   ·rw [zbR _ _ _ he2,List.take_succ_eq_append_getElem ht,he,if_pos (by simp)]
 ·have:i=fr.length:=by have:¬ i < fr.length:=by simpa using ht
                       omega
  subst this
  rw [List.take_of_length_le (Nat.le_refl _)]
theorem zdV (g:GA) (off:Nat) (h:g.n < 10000000):∀ f∈flw g off,f.length < 10000000:=by
 intro f hf
 simp only [flw,List.mem_map,List.mem_range] at hf
 obtain ⟨i,_,rfl⟩:=hf
 have:=zan g.n (g.follow i) off
 omega
theorem cat_ok (F0:List (List Int)) (S:List zb) (a b:GA) (hF:∀ f∈F0,f.length < 10000000) (hab:a.n+b.n < 1000000) (hF2:F0.length < 1000000) :
 zaK (pc a F0.length) (pc b (F0.length+a.n)) { sets:=S,follow:=F0++flw a F0.length++flw b (F0.length+a.n) } (pc (gCat a b) F0.length) { sets:=S,follow:=F0++flw (gCat a b) F0.length }:=by
 have hla:=zan a.n a.last F0.length
 have hlb:=zan b.n b.first (F0.length+a.n)
 have hlb2:=zan b.n b.last (F0.length+a.n)
 have hla2:=zan a.n a.first F0.length
 have hlead:=lead_ok (lst a.n a.last F0.length) (lst b.n b.first (F0.length+a.n)) { sets:=S,follow:=F0++flw a F0.length++flw b (F0.length+a.n) } (zbE _ _ _) (fun x hx=>by
  obtain ⟨i,hi,_,rfl⟩:=zax.1 hx
  simp only [List.length_append,z8];omega) (by omega) (fun f hf=>by
  rcases List.mem_append.1 hf with hf | hf
  ·rcases List.mem_append.1 hf with hf | hf
   ·exact hF f hf
   ·exact zdV a _ (by omega) f hf
  ·exact zdV b _ (by omega) f hf) (by omega)
 simp only [lead_cat] at hlead
 refine zeO _ _ _ _ _ ⟨_,hlead,fun l=>l=lst (a.n+b.n) (gCat a b).first F0.length,?_,fun hn=>⟨_,zfX _ _ (by show (lst _ _ _).length < _;omega) (by show (lst _ _ _).length < _;omega),?_⟩,fun hn=>?_⟩
 ·rintro l rfl
  refine ⟨fun l=>l=lst (a.n+b.n) (gCat a b).last F0.length,?_,fun hn=>⟨_,zfX _ _ (by show (lst _ _ _).length < _;omega) (by show (lst _ _ _).length < _;omega),?_⟩,fun hn=>?_⟩
  ·rintro l rfl;exact ⟨rfl,rfl⟩
  ·have:=cat_last a b F0.length
   rw [if_pos (show b.null=true from hn)] at this;exact this
  ·have:=cat_last a b F0.length
   rw [if_neg (by show ¬ (b.null=true);have:b.null=false:=hn;simp [this])] at this;exact this
 ·have:=zhT a b F0.length
  rw [if_pos (show a.null=true from hn)] at this;exact this
 ·have:=zhT a b F0.length
  rw [if_neg (by show ¬ (a.null=true);have:a.null=false:=hn;simp [this])] at this;exact this
end Go.Ev.Pl
set_option linter.unusedSimpArgs false
set_option linter.unusedVariables false
namespace Go.Ev.Pl
open Go Go.Ev
def Rgt (x:za):Prop:=∃ d,rgt x d=true
theorem zdf {x:za} (h:Rgt x):ownB x=true∧∀ k∈x.Kids,Rgt k:=by
 obtain ⟨d,h⟩:=h
 rw [zet] at h
 simp only [Bool.and_eq_true,List.all_eq_true] at h
 exact ⟨h.1.2,fun k hk=>⟨d - 1,(h.2 k hk).2⟩⟩
theorem zdP {x:za} (h:ownB x=true) (h5:x.Kind=5):(∃ k,x.Kids=[k])∧0≤x.Lo∧x.Lo≤20∧(x.Hi = -1∨1≤x.Hi∧x.Lo≤x.Hi∧x.Hi≤20):=by
 simp only [ownB,if_pos h5,timesB,Bool.and_eq_true,decide_eq_true_eq,Bool.or_eq_true,beq_iff_eq] at h
 obtain ⟨_,h1,h2,h3,h4⟩:=h
 refine ⟨?_,h2,h3,?_⟩
 ·match hq:x.Kids,h1 with
  | [k],_=>exact ⟨k,rfl⟩
 ·rcases h4 with h4 | ⟨h4,h5⟩
  ·exact .inl h4
  ·exact .inr (by omega)
theorem own_kids {x:za} (h:ownB x=true) (h34:x.Kind=3∨x.Kind=4):2≤x.Kids.length:=by
 simp only [ownB] at h
 rw [if_neg (by omega),if_neg (by omega),if_neg (by omega),if_pos h34] at h
 simp only [Bool.and_eq_true,decide_eq_true_eq] at h
 exact h.2.2
theorem zdj {x:za} (h:ownB x=true):x.Kind=1∨x.Kind=2∨x.Kind=3∨x.Kind=4∨x.Kind=5:=by
 simp only [ownB] at h
 split at h
 ·omega
 ·split at h
  ·omega
  ·split at h
   ·omega
   ·split at h
    ·omega
    ·cases h
theorem zht {f:GA→GA} {a:GA} (hf:∀ o,(f o).n=a.n+o.n):∀ k z,(iter f k z).n=k * a.n+z.n
 | 0,z=>by simp [iter]
 | k+1,z=>by rw [iter,hf,zht hf k,Nat.succ_mul];omega
def cpS (a:GA) (k:Nat):List zb:=(List.replicate k a.sets).flatten
theorem zff {f:GA→GA} {a:GA} (hf:∀ o,(f o).sets=a.sets++o.sets):∀ k z,(iter f k z).sets=cpS a k++z.sets
 | 0,z=>by simp [iter,cpS]
 | k+1,z=>by rw [iter,hf,zff hf k];simp [cpS,List.replicate_succ]
theorem zhs (a:GA):∀ k z,(iter (gCat a) k z).null=(z.null && (decide (k=0) || a.null))
 | 0,z=>by simp [iter]
 | k+1,z=>by
   rw [iter]
   show (a.null && (iter (gCat a) k z).null)=_
   rw [zhs a k z]
   cases a.null<;>cases z.null<;>simp
theorem rep_n (a:GA) {lo hi:Int} (h1:0≤lo) (h2:hi = -1∨1≤hi∧lo≤hi):(gRep a lo hi).n=(max 1 (max lo hi)).toNat * a.n:=by
 unfold gRep
 split
 ·rw [zht (f:=gCat a) (a:=a) (fun _=>rfl)]
  have:(if lo=0 then gMaybe (gAgain a) else gAgain a).n=a.n:=by split<;>rfl
  rw [this,← Nat.succ_mul]
  congr 1
  omega
 ·rw [zht (f:=gCat a) (a:=a) (fun _=>rfl),zht (f:=fun o=>gMaybe (gCat a o)) (a:=a) (fun _=>rfl)]
  show _+(_+0)=_
  rw [Nat.add_zero,← Nat.add_mul]
  congr 1
  omega
theorem rep_sets (a:GA) {lo hi:Int} (h1:0≤lo) (h2:hi = -1∨1≤hi∧lo≤hi):(gRep a lo hi).sets=cpS a (max 1 (max lo hi)).toNat:=by
 have key:∀ j k,cpS a j++cpS a k=cpS a (j+k):=fun j k=>by
  simp only [cpS];rw [← List.flatten_append,List.replicate_append_replicate]
 unfold gRep
 split
 ·rw [zff (f:=gCat a) (a:=a) (fun _=>rfl)]
  have:(if lo=0 then gMaybe (gAgain a) else gAgain a).sets=cpS a 1:=by split<;>simp [cpS,gMaybe,gAgain]
  rw [this,key]
  congr 1
  omega
 ·rw [zff (f:=gCat a) (a:=a) (fun _=>rfl),zff (f:=fun o=>gMaybe (gCat a o)) (a:=a) (fun _=>rfl)]
  show _++(_++[])=_
  rw [List.append_nil,key]
  congr 1
  omega
theorem rep_null (a:GA) {lo hi:Int} (h1:0≤lo) (h2:hi = -1∨1≤hi∧lo≤hi):(gRep a lo hi).null=(decide (lo≤0) || a.null):=by
 unfold gRep
 split
 ·rw [zhs]
  by_cases h:lo=0
  ·subst h;simp [gMaybe,gAgain];left;rfl
  ·have:¬ lo≤0:=by omega
   simp only [if_neg h,gAgain,this,decide_false,Bool.false_or]
   cases a.null<;>simp
 ·rw [zhs]
  have hin:∀ k,(iter (fun o=>gMaybe (gCat a o)) k gEmpty).null=true:=by
   intro k;cases k<;>rfl
  rw [hin,Bool.true_and]
  congr 1
  simp only [decide_eq_decide];omega
theorem zhF {f:GA→GA→GA} (hf:∀ a b,(f a b).n=a.n+b.n):∀ (l:List za) (z:GA),(l.foldl (fun o y=>f o (gof y)) z).n=z.n+(l.map fun y=>(gof y).n).sum
 | [],z=>by simp
 | y :: r,z=>by rw [List.foldl_cons,zhF hf r,hf];simp;omega
theorem zia:∀ x,Rgt x→(gof x).n=sizeN x:=by
 refine rxInd fun x ih hr=>?_
 obtain ⟨ho,hk⟩:=zdf hr
 have hkn:(x.Kids.map fun y=>(gof y).n)=x.Kids.map sizeN:=List.map_congr_left fun y hy=>ih y hy (hk y hy)
 rw [zch,zb5]
 rcases zdj ho with h | h | h | h | h
 ·simp [h,gEmpty]
 ·simp [h,gByte]
 ·simp only [h]
  simp only [show ¬ ((3:Int)=2) by omega,if_false,if_true,show (3:Int)≤3∧(3:Int)≤5 from ⟨by omega,by omega⟩,show ¬ ((3:Int)=5) by omega]
  rw [zhF (f:=gCat) (fun _ _=>rfl),hkn]
  show 0+_=_;simp
 ·simp only [h]
  simp only [show ¬ ((4:Int)=2) by omega,show ¬ ((4:Int)=3) by omega,if_false,if_true,show (3:Int)≤4∧(4:Int)≤5 from ⟨by omega,by omega⟩,show ¬ ((4:Int)=5) by omega]
  rw [zhF (f:=gAlt) (fun _ _=>rfl),hkn]
  show 0+_=_;simp
 ·obtain ⟨⟨k,hq⟩,h1,h2,h3⟩:=zdP ho h
  simp only [h]
  simp only [show ¬ ((5:Int)=2) by omega,show ¬ ((5:Int)=3) by omega,show ¬ ((5:Int)=4) by omega,if_false,if_true,show (3:Int)≤5∧(5:Int)≤5 from ⟨by omega,by omega⟩]
  rw [hq]
  simp only [List.map_cons,List.map_nil,List.headD_cons,List.sum_cons,List.sum_nil,Nat.add_zero]
  rw [rep_n _ h1 (by omega),ih k (by rw [hq];simp) (hk k (by rw [hq];simp)),Nat.mul_comm]
  congr 1
  simp only [timesN];omega
theorem zev:∀ (l:List za) (z:GA),(l.foldl (fun o y=>gCat o (gof y)) z).null=(z.null && l.all fun y=>(gof y).null)
 | [],z=>by simp
 | y :: r,z=>by rw [List.foldl_cons,zev r];simp [gCat,Bool.and_assoc]
theorem zew:∀ (l:List za) (z:GA),(l.foldl (fun o y=>gAlt o (gof y)) z).null=(z.null || l.any fun y=>(gof y).null)
 | [],z=>by simp
 | y :: r,z=>by rw [List.foldl_cons,zew r];simp [gAlt,Bool.or_assoc]
theorem all_congr' {l:List za} {p q:za→Bool} (h:∀ y∈l,p y=q y):l.all p=l.all q:=by
 induction l with
 | nil=>rfl
 | cons y r ih=>simp only [List.all_cons];rw [h y (List.mem_cons_self ..),ih fun z hz=>h z (List.mem_cons_of_mem _ hz)]
theorem any_congr' {l:List za} {p q:za→Bool} (h:∀ y∈l,p y=q y):l.any p=l.any q:=by
 induction l with
 | nil=>rfl
 | cons y r ih=>simp only [List.any_cons];rw [h y (List.mem_cons_self ..),ih fun z hz=>h z (List.mem_cons_of_mem _ hz)]
theorem gof_null:∀ x,Rgt x→(gof x).null=nullB x:=by
 refine rxInd fun x ih hr=>?_
 obtain ⟨ho,hk⟩:=zdf hr
 rw [zch,nullB_eq]
 rcases zdj ho with h | h | h | h | h
 ·simp [h,gEmpty]
 ·simp [h,gByte]
 ·simp only [h]
  simp only [show ¬ ((3:Int)=2) by omega,show ¬ ((3:Int)=1) by omega,if_false,if_true]
  rw [zev,all_congr' fun y hy=>ih y hy (hk y hy)];rfl
 ·simp only [h]
  simp only [show ¬ ((4:Int)=2) by omega,show ¬ ((4:Int)=3) by omega,show ¬ ((4:Int)=1) by omega,if_false,if_true]
  rw [zew,any_congr' fun y hy=>ih y hy (hk y hy)];rfl
 ·obtain ⟨⟨k,hq⟩,h1,h2,h3⟩:=zdP ho h
  simp only [h]
  simp only [show ¬ ((5:Int)=2) by omega,show ¬ ((5:Int)=3) by omega,show ¬ ((5:Int)=4) by omega,show ¬ ((5:Int)=1) by omega,if_false,if_true]
  rw [hq]
  simp only [List.map_cons,List.map_nil,List.headD_cons,List.all_cons,List.all_nil,Bool.and_true]
  rw [rep_null _ h1 (by omega),ih k (by rw [hq];simp) (hk k (by rw [hq];simp))]
theorem zero_null:∀ x,Rgt x→sizeN x=0→nullB x=true:=by
 refine rxInd fun x ih hr h0=>?_
 obtain ⟨ho,hk⟩:=zdf hr
 rw [zb5] at h0
 rw [nullB_eq]
 have hsum:(x.Kids.map sizeN).sum=0→∀ y∈x.Kids,nullB y=true:=fun h y hy=>ih y hy (hk y hy) (by
  have:=List.sum_eq_zero_iff_forall_eq_nat.1 h (sizeN y) (List.mem_map.2 ⟨y,hy,rfl⟩);exact this)
 rcases zdj ho with h | h | h | h | h
 ·simp [h]
 ·simp [h] at h0
 ·simp only [h] at h0 ⊢
  simp at h0
  simp only [show ¬ ((3:Int)=1) by omega,if_false,if_true,List.all_eq_true]
  exact hsum h0
 ·simp only [h] at h0 ⊢
  simp at h0
  have h2:=own_kids ho (.inr h)
  simp only [show ¬ ((4:Int)=1) by omega,show ¬ ((4:Int)=3) by omega,if_false,if_true]
  have hm:x.Kids[0]'(by omega)∈x.Kids:=List.getElem_mem _
  exact List.any_eq_true.2 ⟨_,hm,hsum h0 _ hm⟩
 ·obtain ⟨⟨k,hq⟩,h1,h2,h3⟩:=zdP ho h
  simp only [h] at h0 ⊢
  simp only [show ¬ ((5:Int)=2) by omega,if_false,if_true,show (3:Int)≤5∧(5:Int)≤5 from ⟨by omega,by omega⟩] at h0
  have ht:1≤timesN x:=by simp only [timesN];omega
  have hs:(x.Kids.map sizeN).sum=0:=by
   rcases Nat.mul_eq_zero.1 h0 with h | h
   ·exact h
   ·omega
  simp only [show ¬ ((5:Int)=3) by omega,show ¬ ((5:Int)=4) by omega,show ¬ ((5:Int)=1) by omega,if_false,if_true]
  have:x.Kids.all nullB=true:=List.all_eq_true.2 (hsum hs)
  rw [this];simp
theorem gof_zero {x:za} (hr:Rgt x) (h0:sizeN x=0):gof x=gEmpty:=
 canon_zero (zae x) ((zia x hr).trans h0) ((gof_null x hr).trans (zero_null x hr h0))
end Go.Ev.Pl
set_option linter.unusedSimpArgs false
set_option linter.unusedVariables false
namespace Go.Ev.Pl
open Go Go.Ev
def hF (h:Nat→GA) (m n:Nat):Nat→List (List Int)
 | 0=>[]
 | N+1=>hF h m n N++flw (h N) (m+N * n)
theorem hF_len {h:Nat→GA} {m n:Nat} (hn:∀ j,(h j).n=n):∀ N,(hF h m n N).length=N * n
 | 0=>by simp [hF]
 | N+1=>by rw [hF,List.length_append,hF_len hn N,z8,hn,Nat.succ_mul]
theorem hF_congr {h h':Nat→GA} {m n:Nat}:∀ N,(∀ j,j < N→h j=h' j)→hF h m n N=hF h' m n N
 | 0,_=>rfl
 | N+1,e=>by rw [hF,hF,hF_congr N (fun j hj=>e j (by omega)),e N (by omega)]
theorem zg0 {h:Nat→GA} {m n:Nat} (hs:∀ j,(h j).n < 10000000):∀ N,∀ f∈hF h m n N,f.length < 10000000
 | 0,f,hf=>by simp [hF] at hf
 | N+1,f,hf=>by
   rw [hF,List.mem_append] at hf
   rcases hf with hf | hf
   ·exact zg0 hs N f hf
   ·exact zdV _ _ (hs N) f hf
theorem cpS_succ (a:GA) (k:Nat):cpS a (k+1)=cpS a k++a.sets:=by
 simp only [cpS,List.replicate_succ',List.flatten_append];simp
structure Room (F0:List (List Int)) (S:List zb) (n:Nat):Prop where
 same:S.length=F0.length
 small:∀ f∈F0,f.length < 10000000
 room:F0.length+n < 1000000
def PieceOk (x:za):Prop:=∀ F0 S,Room F0 S (gof x).n→zak x { sets:=S,follow:=F0 } (pc (gof x) F0.length) { sets:=S++(gof x).sets,follow:=F0++flw (gof x) F0.length }
theorem copies_ok {k:za} (hp:PieceOk k) (N:Nat) (hN:N≤1000) (F0:List (List Int)) (S:List zb) (hr:Room F0 S (N * (gof k).n)) :
 zaq k N { sets:=S,follow:=F0 } ((List.range N).map fun i=>pc (gof k) (F0.length+i * (gof k).n)) { sets:=S++cpS (gof k) N,follow:=F0++hF (fun _=>gof k) F0.length (gof k).n N }:=by
 have hc:=zae k
 refine zdB k N _ _ _ ⟨fun s f o t=>∃ i:Nat,t=i∧i≤N∧s=S++cpS (gof k) i∧f=F0++hF (fun _=>gof k) F0.length (gof k).n i∧o=(List.range i).map fun i=>pc (gof k) (F0.length+i * (gof k).n),
  fun _ _ _ t=>(N - t).toNat,⟨0,rfl,by omega,by simp [cpS],by simp [hF],rfl⟩,?_⟩
 rintro s f o t ⟨i,rfl,hi,rfl,rfl,rfl⟩
 refine ⟨fun ht=>?_,fun ht=>?_⟩
 ·have ht:i < N:=by simpa using ht
  have hle:(i+1) * (gof k).n≤N * (gof k).n:=Nat.mul_le_mul_right _ ht
  rw [Nat.add_mul,Nat.one_mul] at hle
  have hlen:(F0++hF (fun _=>gof k) F0.length (gof k).n i).length=F0.length+i * (gof k).n:=by rw [List.length_append,hF_len fun _=>rfl]
  have hroom:=hr.room
  have hsl:∀ j,(cpS (gof k) j).length=j * (gof k).n:=fun j=>by simp [cpS,hc.sets]
  have:=hp (F0++hF (fun _=>gof k) F0.length (gof k).n i) (S++cpS (gof k) i) ⟨by rw [hlen,List.length_append,hr.same,hsl],fun f hf=>by
   rcases List.mem_append.1 hf with hf | hf
   ·exact hr.small f hf
   ·exact zg0 (fun _=>by omega) i f hf,by rw [hlen];omega⟩
  rw [hlen,List.append_assoc,List.append_assoc,← cpS_succ] at this
  have hw2:w64 ((i:Int)+1)=((i+1:Nat):Int):=zO (by omega) (by omega)
  refine ⟨_,_,this,by simp;omega,?_⟩
  rw [hw2]
  exact ⟨⟨i+1,rfl,by omega,rfl,rfl,by rw [List.range_succ,List.map_append];rfl⟩,by dsimp only;omega⟩
 ·have:i=N:=by have:¬ i < N:=by simpa using ht
               omega
  subst this
  exact ⟨rfl,rfl⟩
def fromEnd (h:Nat→GA) (mb:Nat→Bool) (N:Nat):Nat→GA
 | 0=>gEmpty
 | i+1=>let o:=gCat (h (N - 1 - i)) (fromEnd h mb N i);if mb (N - 1 - i)=true then gMaybe o else o
theorem fromEnd_n {h:Nat→GA} {mb:Nat→Bool} {N n:Nat} (hn:∀ j,(h j).n=n):∀ i,(fromEnd h mb N i).n=i * n
 | 0=>by simp [fromEnd,gEmpty]
 | i+1=>by
   simp only [fromEnd]
   have:(gCat (h (N - 1 - i)) (fromEnd h mb N i)).n=(i+1) * n:=by
    show (h (N - 1 - i)).n+(fromEnd h mb N i).n=_
    rw [hn,fromEnd_n hn i,Nat.succ_mul];omega
   split
   ·exact this
   ·exact this
theorem rep_loop {x:za} {h:Nat→GA} {N n:Nat} {F0:List (List Int)} {S S':List zb} (hn:∀ j,(h j).n=n) (hr:Room F0 S (N * n)) (hN:N≤1000) {l:List zg} (hl:l=(List.range N).map fun j=>pc (h j) (F0.length+j * n))
 {res:zg} {fin:zi} (hres:res=pc (fromEnd h (fun j=>decide (x.Hi≥0) && decide ((j:Int)≥x.Lo)) N N) F0.length)
 (hfin:fin={ sets:=S',follow:=F0++flw (fromEnd h (fun j=>decide (x.Hi≥0) && decide ((j:Int)≥x.Lo)) N N) F0.length }) :
 (List.length l < 1099511627776∧∃ (Inv24:Nat→List zb→List (List Int)→List Int→List Int→Bool→Prop),Inv24 0 S' (F0++hF h F0.length n N) [] [] Bool.true∧
   (∀ (i:Nat) (y:zg),i < List.length l→l[List.length l - 1 - i]?=some y→∀ (s:List zb) (f:List (List Int)) (o1 o2:List Int) (o3:Bool),Inv24 i s f o1 o2 o3→
     (∃ r0_6:zg,∃ o_4:zi,zaK y { first:=o1,last:=o2,null:=o3 } { sets:=s,follow:=f } r0_6 o_4∧
       (((decide (x.Hi≥0) && decide ((List.length l:Int) - 1 - i≥x.Lo))=true→(∃ r0_7:zg,zcG r0_6 r0_7∧Inv24 (i+1) o_4.sets o_4.follow r0_7.first r0_7.last r0_7.null))∧
         ((decide (x.Hi≥0) && decide ((List.length l:Int) - 1 - i≥x.Lo))=false→Inv24 (i+1) o_4.sets o_4.follow r0_6.first r0_6.last r0_6.null))))∧
   (∀ (s:List zb) (f:List (List Int)) (o1 o2:List Int) (o3:Bool),Inv24 (List.length l) s f o1 o2 o3→(res={ first:=o1,last:=o2,null:=o3 }∧fin={ sets:=s,follow:=f }))):=by
 have hll:l.length=N:=by rw [hl];simp
 obtain ⟨mb,hmb⟩:∃ mb:Nat→Bool,mb=fun j:Nat=>decide (x.Hi≥0) && decide ((j:Int)≥x.Lo):=⟨_,rfl⟩
 rw [← hmb] at hres hfin
 have hroom:=hr.room
 rw [hll]
 refine ⟨by omega,fun i s f o1 o2 o3=>i≤N∧s=S'∧f=F0++hF h F0.length n (N - i)++flw (fromEnd h mb N i) (F0.length+(N - i) * n)∧(⟨o1,o2,o3⟩:zg)=pc (fromEnd h mb N i) (F0.length+(N - i) * n),⟨by omega,rfl,by simp [fromEnd,flw,gEmpty],rfl⟩,?_,?_⟩
 ·rintro i y hi hy s f o1 o2 o3 ⟨_,rfl,rfl,hp⟩
  have hy:y=pc (h (N - 1 - i)) (F0.length+(N - 1 - i) * n):=by
   rw [hl,List.getElem?_map,List.getElem?_range (by omega)] at hy
   simpa using hy.symm
  have e1:N - i=(N - 1 - i)+1:=by omega
  have hlen:(F0++hF h F0.length n (N - 1 - i)).length=F0.length+(N - 1 - i) * n:=by rw [List.length_append,hF_len hn]
  have hmul:(N - 1 - i) * n+(n+i * n)=N * n:=by
   have:N=(N - 1 - i)+(1+i):=by omega
   conv=>rhs;rw [this,Nat.add_mul,Nat.add_mul,Nat.one_mul]
  have hcat:=cat_ok (F0++hF h F0.length n (N - 1 - i)) s (h (N - 1 - i)) (fromEnd h mb N i) (fun f hf=>by
   rcases List.mem_append.1 hf with hf | hf
   ·exact hr.small f hf
   ·exact zg0 (fun j=>by have:=hn j;omega) _ f hf) (by rw [hn,fromEnd_n hn];omega) (by rw [hlen];omega)
  rw [hlen,hn] at hcat
  have hpos:F0.length+(N - 1 - i) * n+n=F0.length+(N - i) * n:=by rw [e1,Nat.succ_mul];omega
  rw [hpos] at hcat
  have hfl:F0++hF h F0.length n (N - i)=F0++hF h F0.length n (N - 1 - i)++flw (h (N - 1 - i)) (F0.length+(N - 1 - i) * n):=by
   rw [e1,hF,List.append_assoc]
  rw [hfl,hp,hy]
  refine ⟨_,_,hcat,fun hm=>⟨_,W_place_maybe _ _ rfl,?_⟩,fun hm=>?_⟩
  all_goals have hidx:((N:Int) - 1 - i)=((N - 1 - i:Nat):Int):=by omega
  all_goals rw [hidx] at hm
  all_goals have e2:N - (i+1)=N - 1 - i:=by omega
  ·have hf:fromEnd h mb N (i+1)=gMaybe (gCat (h (N - 1 - i)) (fromEnd h mb N i)):=by
    simp only [fromEnd];rw [if_pos];rw [hmb];exact hm
   dsimp only;rw [hf,e2]
   exact ⟨by omega,rfl,rfl,rfl⟩
  ·have hf:fromEnd h mb N (i+1)=gCat (h (N - 1 - i)) (fromEnd h mb N i):=by
    simp only [fromEnd];rw [if_neg];rw [hmb];simpa using hm
   dsimp only;rw [hf,e2]
   exact ⟨by omega,rfl,rfl,rfl⟩
 ·rintro s f o1 o2 o3 ⟨_,rfl,rfl,hp⟩
  rw [Nat.sub_self,Nat.zero_mul,Nat.add_zero] at hp
  refine ⟨by rw [hres,hp],?_⟩
  rw [hfin]
  simp [hF]
end Go.Ev.Pl
set_option linter.unusedSimpArgs false
set_option linter.unusedVariables false
namespace Go.Ev.Pl
open Go Go.Ev
theorem zhE {g z:GA} {h:Nat→GA} {mb:Nat→Bool} {N:Nat} (hz:Canon z) (hN:1≤N) (hh:∀ j,j < N - 1→h j=g) (hl:h (N - 1)=z) (hm:∀ j,mb j=false):∀ i,i < N→fromEnd h mb N (i+1)=iter (gCat g) i z
 | 0,hi=>by
   simp only [fromEnd,hm]
   rw [if_neg (by simp),Nat.sub_zero,hl,cat_empty_r hz];rfl
 | i+1,hi=>by
   have ih:=zhE hz hN hh hl hm i (by omega)
   rw [fromEnd]
   simp only [hm]
   rw [if_neg (by simp),ih,hh _ (by omega)];rfl
theorem zhD {g:GA} {h:Nat→GA} {mb:Nat→Bool} {N L:Nat} (hL:L≤N) (hh:∀ j,h j=g) (hm:∀ j,j < N→mb j=decide (L≤j)):∀ i,i≤N→
 fromEnd h mb N i=iter (gCat g) (i - (N - L)) (iter (fun o=>gMaybe (gCat g o)) (min i (N - L)) gEmpty)
 | 0,_=>by simp [fromEnd,iter]
 | i+1,hi=>by
   have ih:=zhD hL hh hm i (by omega)
   rw [fromEnd]
   simp only [hh,ih]
   rw [hm _ (by omega)]
   by_cases hc:L≤N - 1 - i
   ·rw [if_pos (by simpa using hc),show i - (N - L)=0 by omega,show i+1 - (N - L)=0 by omega,show min i (N - L)=i by omega,show min (i+1) (N - L)=i+1 by omega];rfl
   ·rw [if_neg (by simpa using hc),show i+1 - (N - L)=(i - (N - L))+1 by omega,show min i (N - L)=N - L by omega,show min (i+1) (N - L)=N - L by omega];rfl
theorem flw_again (g:GA) (b:Prop) [Decidable b] (off:Nat):flw (if b then gMaybe (gAgain g) else gAgain g) off=flw (gAgain g) off:=by split<;>rfl
theorem map_range_set {α:Type} {f:Nat→α} {N i:Nat} {v:α} (h:i < N):((List.range N).map f).set i v=(List.range N).map fun j=>if j=i then v else f j:=by
 refine set_eq (by simp) (fun j hj hne=>?_) (fun hj=>?_)
 ·simp only [List.getElem_map,List.getElem_range];rw [if_neg hne]
 ·simp only [List.getElem_map,List.getElem_range,if_true]
theorem rep_ok {x:za} (hr:Rgt x) (h5:x.Kind=5) (hw:Wf x) (hp:∀ k∈x.Kids,PieceOk k) (F0:List (List Int)) (S:List zb) (hroom:Room F0 S (gof x).n) :
 zbq x { sets:=S,follow:=F0 } (pc (gof x) F0.length) { sets:=S++(gof x).sets,follow:=F0++flw (gof x) F0.length }:=by
 obtain ⟨ho,hk⟩:=zdf hr
 obtain ⟨⟨k,hq⟩,h1,h2,h3⟩:=zdP ho h5
 have hkm:k∈x.Kids:=by rw [hq];simp
 have hgn:=zia x hr
 have hgof:gof x=gRep (gof k) x.Lo x.Hi:=by
  rw [zch,h5,hq];simp
 refine zeN x _ _ _ ⟨_,rxSize_ok x hw,fun h0=>?_,fun h0=>?_⟩
 ·have h0:sizeN x=0:=by
   have:sizeZ x=0:=by simpa using h0
   simp only [sizeZ] at this;omega
  rw [gof_zero hr h0]
  exact ⟨rfl,by simp [gEmpty,flw]⟩
 obtain ⟨N,hN⟩:∃ N:Nat,N=(max 1 (max x.Lo x.Hi)).toNat:=⟨_,rfl⟩
 have hN1:1≤N:=by omega
 have hN2:N≤20:=by omega
 have hNi:(N:Int)=max 1 (max x.Lo x.Hi):=by omega
 have hn:(gof x).n=N * (gof k).n:=by rw [hgof,rep_n _ h1 (by omega),hN]
 have hs:(gof x).sets=cpS (gof k) N:=by rw [hgof,rep_sets _ h1 (by omega),hN]
 have hroom2:Room F0 S (N * (gof k).n):=by rw [← hn];exact hroom
 have hcp:=copies_ok (hp k hkm) N (by omega) F0 S hroom2
 have hlen2:F0.length+N * (gof k).n < 1000000:=hroom2.room
 have hcnt:(if (1:Int) > if x.Hi > x.Lo then x.Hi else x.Lo then (1:Int) else if x.Hi > x.Lo then x.Hi else x.Lo)=(N:Int):=by rw [hNi];split<;>omega
 rw [hcnt,hq]
 simp only [List.length_cons,List.length_nil,List.getD_cons_zero]
 refine ⟨by omega,_,_,hcp,?_⟩
 rw [← hs]
 by_cases hneg:x.Hi < 0
 ·-- from some times on
  obtain ⟨z,hz⟩:∃ z:GA,z=if x.Lo=0 then gMaybe (gAgain (gof k)) else gAgain (gof k):=⟨_,rfl⟩
  have hzc:Canon z:=by rw [hz];split;exact zcN (zcp (zae k));exact zcp (zae k)
  have hzn:z.n=(gof k).n:=by rw [hz];split<;>rfl
  obtain ⟨h,hh⟩:∃ h:Nat→GA,h=fun j=>if j=N - 1 then z else gof k:=⟨_,rfl⟩
  have hhn:∀ j,(h j).n=(gof k).n:=fun j=>by rw [hh];dsimp only;split;exact hzn;rfl
  have hfe:fromEnd h (fun j:Nat=>decide (x.Hi≥0) && decide ((j:Int)≥x.Lo)) N N=gof x:=by
   have:=zhE (mb:=fun j:Nat=>decide (x.Hi≥0) && decide ((j:Int)≥x.Lo)) hzc hN1 (h:=h) (g:=gof k) (fun j hj=>by rw [hh];dsimp only;rw [if_neg (by omega)]) (by rw [hh];simp) (fun j=>by simp;omega) (N - 1) (by omega)
   rw [show N - 1+1=N by omega] at this
   rw [this,hgof]
   unfold gRep
   rw [if_pos hneg,← hz]
   congr 1;omega
  obtain ⟨N1,rfl⟩:∃ N1,N=N1+1:=⟨N - 1,by omega⟩
  have hF1:hF h F0.length (gof k).n (N1+1)=hF (fun _=>gof k) F0.length (gof k).n N1++flw (gAgain (gof k)) (F0.length+N1 * (gof k).n):=by
   rw [hF,hF_congr N1 (h':=fun _=>gof k) (fun j hj=>by rw [hh];dsimp only;rw [if_neg (by omega)])]
   congr 1
   rw [hh];dsimp only;rw [if_pos (by omega),hz,flw_again]
  refine ⟨fun s f l=>s=S++(gof x).sets∧f=F0++hF h F0.length (gof k).n (N1+1)∧l=(List.range (N1+1)).map fun j=>pc (h j) (F0.length+j * (gof k).n),?_,fun _=>?_,fun hc=>absurd (of_decide_eq_false hc) (by omega)⟩
  ·rintro s f l ⟨rfl,rfl,hl⟩
   exact ⟨zeA l,rep_loop (x:=x) (h:=h) (N:=N1+1) (S:=S) hhn hroom2 (by omega) hl (by rw [hfe]) (by rw [hfe])⟩
  ·have hwl:w64 ((((List.range (N1+1)).map fun i=>pc (gof k) (F0.length+i * (gof k).n)).length:Int) - 1)=(N1:Int):=by
    rw [List.length_map,List.length_range];exact (zO (by omega) (by omega)).trans (by omega)
   have hgl:gd ((List.range (N1+1)).map fun i=>pc (gof k) (F0.length+i * (gof k).n)) (N1:Int)=pc (gof k) (F0.length+N1 * (gof k).n):=by
    rw [zad (by simp)];simp
   rw [hwl,hgl]
   have hlen:(F0++hF (fun _=>gof k) F0.length (gof k).n N1).length=F0.length+N1 * (gof k).n:=by rw [List.length_append,hF_len fun _=>rfl]
   have hmul:(N1+1) * (gof k).n=N1 * (gof k).n+(gof k).n:=Nat.succ_mul _ _
   have hla:=zan (gof k).n (gof k).last (F0.length+N1 * (gof k).n)
   have hlf:=zan (gof k).n (gof k).first (F0.length+N1 * (gof k).n)
   have hlead:=lead_ok (lst (gof k).n (gof k).last (F0.length+N1 * (gof k).n)) (lst (gof k).n (gof k).first (F0.length+N1 * (gof k).n)) { sets:=S++(gof x).sets,follow:=F0++hF (fun _=>gof k) F0.length (gof k).n (N1+1) } (zbE _ _ _) (fun y hy=>by
    obtain ⟨i,hi,_,rfl⟩:=zax.1 hy
    simp only [List.length_append,hF_len fun _=>rfl];omega) (by omega) (fun f hf=>by
    rcases List.mem_append.1 hf with hf | hf
    ·exact hroom.small f hf
    ·exact zg0 (fun _=>by omega) _ f hf) (by omega)
   have hag:=ziq (F0++hF (fun _=>gof k) F0.length (gof k).n N1) (gof k)
   rw [hlen,List.append_assoc,List.append_assoc] at hag
   have hag2:leadF (F0++hF (fun _=>gof k) F0.length (gof k).n (N1+1)) (lst (gof k).n (gof k).last (F0.length+N1 * (gof k).n)) (lst (gof k).n (gof k).first (F0.length+N1 * (gof k).n))=F0++hF h F0.length (gof k).n (N1+1):=by
    rw [hF1];exact hag
   simp only [hag2] at hlead
   have hset:∀ b:Bool,b=z.null→List.set ((List.range (N1+1)).map fun i=>pc (gof k) (F0.length+i * (gof k).n)) (Int.toNat (N1:Int)) { first:=(pc (gof k) (F0.length+N1 * (gof k).n)).first,last:=(pc (gof k) (F0.length+N1 * (gof k).n)).last,null:=b }=(List.range (N1+1)).map fun j=>pc (h j) (F0.length+j * (gof k).n):=by
    intro b hb
    rw [Int.toNat_natCast,map_range_set (by omega)]
    refine List.map_congr_left fun j hj=>?_
    rw [hh];dsimp only
    by_cases e:j=N1
    ·subst e
     rw [if_pos rfl,if_pos (by omega)]
     have e1:z.first=(gof k).first:=by rw [hz];split<;>rfl
     have e2:z.last=(gof k).last:=by rw [hz];split<;>rfl
     rw [hb]
     simp only [pc,hzn,e1,e2]
    ·rw [if_neg e,if_neg (by omega)]
   have hll:((List.range (N1+1)).map fun i=>pc (gof k) (F0.length+i * (gof k).n)).length=N1+1:=by simp
   rw [hll]
   refine ⟨by omega,by omega,by omega,by omega,_,hlead,by omega,fun hn=>⟨fun _=>by omega,rfl,rfl,hset _ ?_⟩,fun hn=>⟨fun _=>by omega,rfl,rfl,hset _ ?_⟩⟩
   ·have hn:(gof k).null=true:=hn
    rw [hz];split<;>simp [gMaybe,gAgain,hn]
   ·have hn:(gof k).null=false:=hn
    rw [hz]
    by_cases e:x.Lo=0
    ·rw [if_pos e,e];rfl
    ·rw [if_neg e]
     show (x.Lo == 0)=(gof k).null
     rw [hn];simpa using e
 ·-- from some times to others
  have hhi:1≤x.Hi∧x.Lo≤x.Hi:=by omega
  have hfe:fromEnd (fun _=>gof k) (fun j:Nat=>decide (x.Hi≥0) && decide ((j:Int)≥x.Lo)) N N=gof x:=by
   have:=zhD (h:=fun _=>gof k) (g:=gof k) (mb:=fun j:Nat=>decide (x.Hi≥0) && decide ((j:Int)≥x.Lo)) (N:=N) (L:=x.Lo.toNat) (by omega) (fun _=>rfl) (fun j hj=>by
    have:decide (x.Hi≥0)=true:=by simp;omega
    simp only [this,Bool.true_and,decide_eq_decide];omega) N (Nat.le_refl _)
   rw [this,hgof]
   unfold gRep
   rw [if_neg hneg]
   congr 1
   ·omega
   ·congr 1;omega
  refine ⟨fun s f l=>s=S++(gof x).sets∧f=F0++hF (fun _=>gof k) F0.length (gof k).n N∧l=(List.range N).map fun j=>pc (gof k) (F0.length+j * (gof k).n),?_,fun hc=>absurd (of_decide_eq_true hc) hneg,fun _=>⟨rfl,rfl,rfl⟩⟩
  rintro s f l ⟨rfl,rfl,hl⟩
  exact ⟨zeA l,rep_loop (x:=x) (h:=fun _=>gof k) (N:=N) (S:=S) (fun _=>rfl) hroom2 (by omega) hl (by rw [hfe]) (by rw [hfe])⟩
end Go.Ev.Pl
set_option linter.unusedSimpArgs false
set_option linter.unusedVariables false
namespace Go.Ev.Pl
open Go Go.Ev
theorem pc_first (g:GA) (off:Nat):(pc g off).first=lst g.n g.first off:=rfl
theorem pc_last (g:GA) (off:Nat):(pc g off).last=lst g.n g.last off:=rfl
theorem pc_null (g:GA) (off:Nat):(pc g off).null=g.null:=rfl
theorem pre_n {f:GA→GA→GA} (hf:∀ a b,(f a b).n=a.n+b.n) {z:GA} (hz:z.n=0) {l:List za} {i:Nat} (h:i < l.length) :
 ((l.take i).foldl (fun o y=>f o (gof y)) z).n+(gof l[i]).n≤(l.foldl (fun o y=>f o (gof y)) z).n:=by
 have e:=zhF hf (l.take (i+1)) z
 rw [zaj h,hf] at e
 rw [e,zhF hf]
 have:(l.map fun y=>(gof y).n).sum=((l.take (i+1)).map fun y=>(gof y).n).sum+((l.drop (i+1)).map fun y=>(gof y).n).sum:=by
  rw [← List.sum_append,← List.map_append,List.take_append_drop]
 omega
theorem piece_ok:∀ x,Wf x→Rgt x→PieceOk x:=by
 refine rxInd fun x ih hw hr=>?_
 obtain ⟨hl,hkw⟩:=(zdx x).1 hw
 obtain ⟨ho,hk⟩:=zdf hr
 intro F0 S hroom
 have hrm:=hroom.room
 refine zd5 x _ _ _ ⟨fun h=>?_,fun h2=>⟨fun h=>?_,fun h3=>⟨fun h=>?_,fun h4=>⟨fun h=>?_,fun h5=>?_⟩⟩⟩⟩
 ·have h:x.Kind=2:=by simpa using h
  have hg:gof x=gByte x.Set:=by rw [zch,if_pos h]
  rw [hg] at hrm ⊢
  have hrm:F0.length+1 < 1000000:=hrm
  refine ⟨_,_,zd4 _ _ _ _ ⟨?_,?_,rfl,rfl⟩,?_,?_⟩
  ·have:=hroom.same;simp only;omega
  ·simp only;omega
  ·have:lst 1 (fun i=>i == 0) F0.length=[(S.length:Int)]:=by
    rw [hroom.same];simp [lst,List.range_succ]
   simp only [pc,gByte,this]
  ·rfl
 ·have h:x.Kind=3:=by simpa using h
  have hg:gof x=x.Kids.foldl (fun o y=>gCat o (gof y)) gEmpty:=by rw [zch];simp [h]
  refine ⟨fun s f a b c t=>∃ i:Nat,t=i∧i≤x.Kids.length∧s=S++((x.Kids.take i).foldl (fun o y=>gCat o (gof y)) gEmpty).sets∧f=F0++flw ((x.Kids.take i).foldl (fun o y=>gCat o (gof y)) gEmpty) F0.length∧(⟨a,b,c⟩:zg)=pc ((x.Kids.take i).foldl (fun o y=>gCat o (gof y)) gEmpty) F0.length,
   fun _ _ _ _ _ t=>(x.Kids.length - t).toNat,⟨0,rfl,by omega,by simp [gEmpty],by simp [gEmpty,flw],rfl⟩,?_⟩
  rintro s f a b c t ⟨i,rfl,hi,rfl,rfl,hp⟩
  refine ⟨fun ht=>?_,fun ht=>?_⟩
  ·have ht:i < x.Kids.length:=by simpa using ht
   have hm:=List.getElem_mem ht
   obtain ⟨o,ho'⟩:∃ o,o=(x.Kids.take i).foldl (fun o y=>gCat o (gof y)) gEmpty:=⟨_,rfl⟩
   have hn:=pre_n (f:=gCat) (fun _ _=>rfl) (z:=gEmpty) rfl ht
   rw [← hg,← ho'] at hn
   have hsucc:=zaj (f:=fun o y=>gCat o (gof y)) (b:=gEmpty) ht
   rw [← ho'] at hsucc hp ⊢
   have hoc:Canon o:=by
    rw [ho']
    have:∀ (l:List za) (z:GA),Canon z→Canon (l.foldl (fun o y=>gCat o (gof y)) z):=by
     intro l
     induction l with
     | nil=>intro z h;exact h
     | cons y r ih2=>intro z h;exact ih2 _ (zbG h (zae y))
    exact this _ _ zaI
   have hlen:(F0++flw o F0.length).length=F0.length+o.n:=by rw [List.length_append,z8]
   have hpk:=ih _ hm (hkw _ hm) (hk _ hm) (F0++flw o F0.length) (S++o.sets) ⟨by rw [hlen,List.length_append,hroom.same,hoc.sets],fun f hf=>by
    rcases List.mem_append.1 hf with hf | hf
    ·exact hroom.small f hf
    ·exact zdV _ _ (by omega) f hf,by rw [hlen];omega⟩
   rw [hlen] at hpk
   have hcat:=cat_ok F0 ((S++o.sets)++(gof x.Kids[i]).sets) o (gof x.Kids[i]) hroom.small (by omega) (by omega)
   have hw2:w64 ((i:Int)+1)=((i+1:Nat):Int):=zO (by omega) (by omega)
   rw [zad ht,hp]
   refine ⟨by omega,by omega,_,_,hpk,_,_,hcat,?_⟩
   rw [hw2]
   exact ⟨⟨i+1,rfl,by omega,by rw [hsucc];simp [gCat],by rw [hsucc],by rw [hsucc]⟩,by dsimp only;omega⟩
  ·have:i=x.Kids.length:=by have:¬ i < x.Kids.length:=by simpa using ht
                            omega
   subst this
   rw [List.take_of_length_le (Nat.le_refl _),← hg] at hp ⊢
   exact ⟨hp.symm,rfl⟩
 ·have h:x.Kind=4:=by simpa using h
  have hg:gof x=x.Kids.foldl (fun o y=>gAlt o (gof y)) gNone:=by rw [zch];simp [h]
  refine ⟨fun s f a b c t=>∃ i:Nat,t=i∧i≤x.Kids.length∧s=S++((x.Kids.take i).foldl (fun o y=>gAlt o (gof y)) gNone).sets∧f=F0++flw ((x.Kids.take i).foldl (fun o y=>gAlt o (gof y)) gNone) F0.length∧(⟨a,b,c⟩:zg)=pc ((x.Kids.take i).foldl (fun o y=>gAlt o (gof y)) gNone) F0.length,
   fun _ _ _ _ _ t=>(x.Kids.length - t).toNat,⟨0,rfl,by omega,by simp [gNone],by simp [gNone,flw],rfl⟩,?_⟩
  rintro s f a b c t ⟨i,rfl,hi,rfl,rfl,hp⟩
  refine ⟨fun ht=>?_,fun ht=>?_⟩
  ·have ht:i < x.Kids.length:=by simpa using ht
   have hm:=List.getElem_mem ht
   obtain ⟨o,ho'⟩:∃ o,o=(x.Kids.take i).foldl (fun o y=>gAlt o (gof y)) gNone:=⟨_,rfl⟩
   have hn:=pre_n (f:=gAlt) (fun _ _=>rfl) (z:=gNone) rfl ht
   rw [← hg,← ho'] at hn
   have hsucc:=zaj (f:=fun o y=>gAlt o (gof y)) (b:=gNone) ht
   rw [← ho'] at hsucc hp ⊢
   have hoc:Canon o:=by
    rw [ho']
    have:∀ (l:List za) (z:GA),Canon z→Canon (l.foldl (fun o y=>gAlt o (gof y)) z):=by
     intro l
     induction l with
     | nil=>intro z h;exact h
     | cons y r ih2=>intro z h;exact ih2 _ (zdZ h (zae y))
    exact this _ _ zbJ
   have hlen:(F0++flw o F0.length).length=F0.length+o.n:=by rw [List.length_append,z8]
   have hpk:=ih _ hm (hkw _ hm) (hk _ hm) (F0++flw o F0.length) (S++o.sets) ⟨by rw [hlen,List.length_append,hroom.same,hoc.sets],fun f hf=>by
    rcases List.mem_append.1 hf with hf | hf
    ·exact hroom.small f hf
    ·exact zdV _ _ (by omega) f hf,by rw [hlen];omega⟩
   rw [hlen] at hpk
   have hw2:w64 ((i:Int)+1)=((i+1:Nat):Int):=zO (by omega) (by omega)
   rw [zad ht]
   have hpa:a=lst o.n o.first F0.length:=congrArg zg.first hp
   have hpb:b=lst o.n o.last F0.length:=congrArg zg.last hp
   have hpc:c=o.null:=congrArg zg.null hp
   have l1:=zan o.n o.first F0.length
   have l2:=zan o.n o.last F0.length
   have l3:=zan (gof x.Kids[i]).n (gof x.Kids[i]).first (F0.length+o.n)
   have l4:=zan (gof x.Kids[i]).n (gof x.Kids[i]).last (F0.length+o.n)
   refine ⟨by omega,by omega,_,_,hpk,_,zfX _ _ (by rw [hpa];omega) (by rw [pc_first];omega),_,zfX _ _ (by rw [hpb];omega) (by rw [pc_last];omega),?_⟩
   rw [hw2]
   refine ⟨⟨i+1,rfl,by omega,by rw [hsucc];simp [gAlt],?_,?_⟩,by dsimp only;omega⟩
   ·rw [hsucc,← flw_alt,← List.append_assoc]
   ·rw [hsucc,hpa,hpb,hpc,pc_first,pc_last,pc_null,alt_first,alt_last];rfl
  ·have:i=x.Kids.length:=by have:¬ i < x.Kids.length:=by simpa using ht
                            omega
   subst this
   rw [List.take_of_length_le (Nat.le_refl _),← hg] at hp ⊢
   exact ⟨hp.symm,rfl⟩
 ·have h:x.Kind=5:=by simpa using h
  exact ⟨_,_,rep_ok hr h hw (fun k hkm=>ih k hkm (hkw k hkm) (hk k hkm)) F0 S hroom,rfl,rfl⟩
 ·have h1:x.Kind=1:=by
   simp only [beq_eq_false_iff_ne,ne_eq] at h2 h3 h4 h5
   have:=zdj ho;omega
  have hg:gof x=gEmpty:=by rw [zch];simp [h1]
  rw [hg]
  exact ⟨rfl,by simp [gEmpty,flw]⟩
def plc (g:GA):zc:=⟨g.sets,lst g.n g.first 0,lst g.n g.last 0,flw g 0,g.null⟩
def noPl:zc:=⟨[],[],[],[],false⟩
theorem zbI {x:za} (h:rightB x=true):Rgt x∧sizeN x≤200:=by
 simp only [rightB,Bool.and_eq_true,decide_eq_true_eq] at h
 refine ⟨⟨20,h.1⟩,?_⟩
 have:=h.2.1
 simp only [sizeZ] at this;omega
theorem placeOf_ok (x:za) (hw:Wf x):zeh x (if rightB x=true then plc (gof x) else noPl) (if rightB x=true then 0 else 1):=by
 refine W_place_Of x _ _ ⟨_,zcC x hw,fun h=>?_,fun h=>?_⟩
 ·have h:rightB x=false:=by simpa using h
  rw [h];exact ⟨rfl,rfl⟩
 ·have h:rightB x=true:=by simpa using h
  obtain ⟨hr,hs⟩:=zbI h
  have hn:=zia x hr
  have:=piece_ok x hw hr [] [] ⟨rfl,fun f hf=>by simp at hf,by simp;omega⟩
  refine ⟨_,_,this,?_,?_⟩
  ·rw [if_pos h];simp [plc,pc]
  ·rw [if_pos h]
end Go.Ev.Pl
