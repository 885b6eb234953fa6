import Derived.Test.YtkeiahjelpjegaaA03
import Derived.Lib.RowBridge
set_option linter.unusedSimpArgs false
set_option linter.unusedVariables false
namespace Go.Ev
open Go Go.Proofs
set_option maxRecDepth 8000
set_option maxHeartbeats 1000000 in
theorem W_hecklelaw15_char (b:Int) (res:api_Rx)
 (h:(∃ r0:arr4_uint64,C_heckleref01_Of b b r0∧(res=({ Kind:=(2:Int),Set:=r0,Lo:=(0:Int),Hi:=(0:Int),Kids:=[] })))):C_hecklelaw15_char b res:=by
 unfold C_hecklelaw15_char
 have kk:=cfOk [] 7
 refine fD (x:=bodyOf Try.f34) kk Try.func34 ?_
 refine wkS [1] [(1,vi b)] (by kernel_rfl) ?_
 refine sDE kk [] [] [(7,.ptr 8 0),(8,.agg [vi 0,vI .u64 0,vI .u64 0,vI .u64 0,vI .u64 0,vi 0,vi 0,.own 36 ([])])] [(7,.ptr 8 0),(8,.agg [vi 0,vI .u64 0,vI .u64 0,vI .u64 0,vI .u64 0,vi 0,vi 0,oL 36 enc_api_Rx ([])])] obN ?_
 obtain ⟨r0,hc0,h⟩:=h
 refine sDE kk [.c (av_arr4_uint64 r0) []] [1] [(8,.agg [vi 2,vI .u64 (arr4_uint64.e0 r0),vI .u64 (arr4_uint64.e1 r0),vI .u64 (arr4_uint64.e2 r0),vI .u64 (arr4_uint64.e3 r0),vi 0,vi 0,.own 36 ([])])] [(8,.agg [vi 2,vI .u64 (arr4_uint64.e0 r0),vI .u64 (arr4_uint64.e1 r0),vI .u64 (arr4_uint64.e2 r0),vI .u64 (arr4_uint64.e3 r0),vi 0,vi 0,oL 36 enc_api_Rx ([])])] (obC hc0 obN) ?_
 refine tD ?_
 obtain he0:=h
 subst res
 exact (endD [] (.agg [vi 2,vI .u64 (arr4_uint64.e0 r0),vI .u64 (arr4_uint64.e1 r0),vI .u64 (arr4_uint64.e2 r0),vI .u64 (arr4_uint64.e3 r0),vi 0,vi 0,oL 36 enc_api_Rx ([])]) []).1
set_option maxHeartbeats 1000000 in
theorem W_split_Reverse (x:api_Rx) (res:api_Rx) (res_1:Int)
 (h:(∃ r0:Bool,C_rx_Right x r0∧(((!r0)=true→(res=({ Kind:=(0:Int),Set:={ e0:=(0:Int),e1:=(0:Int),e2:=(0:Int),e3:=(0:Int) },Lo:=(0:Int),Hi:=(0:Int),Kids:=[] })∧res_1=1))∧((!r0)=false→(∃ r0_1:api_Rx,C_split_reverse x r0_1∧(res=r0_1∧res_1=0)))))):C_split_Reverse x res res_1:=by
 unfold C_split_Reverse
 have kk:=cfOk [] 10
 refine fD (x:=bodyOf Try.f14) kk Try.func14 ?_
 refine wkS [1] [(1,av_api_Rx x)] (by kernel_rfl) ?_
 refine sDE kk [] [1] [(4,.ptr 5 0),(5,av_api_Rx x),(7,.ptr 8 0),(8,.agg [vi 0,vI .u64 0,vI .u64 0,vI .u64 0,vI .u64 0,vi 0,vi 0,.own 36 ([])])] [(4,.ptr 5 0),(5,av_api_Rx x),(7,.ptr 8 0),(8,.agg [vi 0,vI .u64 0,vI .u64 0,vI .u64 0,vI .u64 0,vi 0,vi 0,oL 36 enc_api_Rx ([])])] obN ?_
 refine qD ?_
 obtain ⟨r0,hc0,h⟩:=h
 refine sD kk [.c (vB r0) []] [] [(19,vB (!r0))] (obC hc0 obN) ?_
 refine cD (t:=6) (b:=!r0) (fun hb1=>?_) (fun hb1=>?_)
 ·have h:=h.1 hb1
  refine sDE kk [] [4,5,19] [(8,.agg [vi 0,vI .u64 0,vI .u64 0,vI .u64 0,vI .u64 0,vi 0,vi 0,.own 36 ([])]),(10,vi 1)] [(8,.agg [vi 0,vI .u64 0,vI .u64 0,vI .u64 0,vI .u64 0,vi 0,vi 0,oL 36 enc_api_Rx ([])]),(10,vi 1)] obN ?_
  refine tD ?_
  obtain ⟨he0,he1⟩:=h
  subst res res_1
  exact (endD [] (.tup [.agg [vi 0,vI .u64 0,vI .u64 0,vI .u64 0,vI .u64 0,vi 0,vi 0,.f (FV.sl (List.take (List.length (List.map enc_api_Rx [])) (List.drop (0:Nat) (List.map enc_api_Rx []))))],vi 1]) []).1
 ·have h:=h.2 hb1
  refine Sem.skip' (by kernel_rfl) Wk.refl ?_
  show Sem _ _ _ _ _
  refine wkD [19] ?_
  obtain ⟨r0_1,hc2,h⟩:=h
  refine sD kk [.c (av_api_Rx r0_1) []] [4,5] [(8,av_api_Rx r0_1),(10,vi 0)] (obC hc2 obN) ?_
  refine tD ?_
  obtain ⟨he0,he1⟩:=h
  subst res res_1
  exact (endD [] (.tup [av_api_Rx r0_1,vi 0]) []).1
set_option maxHeartbeats 1000000 in
theorem W_heckleref01_Runs (a:arr4_uint64) (res:(List arr2_int))
 (h:(∃ (Inv32:List arr2_int→Int→Prop) (mu33:List arr2_int→Int→Nat),Inv32 ([]) 0∧(∀ (out_1:List arr2_int) (i:Int),Inv32 out_1 i→(((decide (i < (256:Int)))=true→(∃ J46:List arr2_int→Prop,(∀ (out_3:List arr2_int),J46 out_3→(Inv32 out_3 (w64 (i+1))∧mu33 out_3 (w64 (i+1)) < mu33 out_1 i))∧(∃ r0_8:Bool,C_heckleref01_Has a i r0_8∧(((!r0_8)=true→J46 out_1)∧((!r0_8)=false→(((decide (i > (0:Int)))=true→(∃ r0_9:Bool,C_heckleref01_Has a (w64 (i - 1)) r0_9∧(((r0_9)=true→((0:Int)≤w64 ((↑(List.length out_1):Int) - 1))∧(Int.toNat (w64 ((↑(List.length out_1):Int) - 1)) < List.length out_1)∧w64 ((↑(List.length out_1):Int) - 1) < ↑(List.length out_1)∧J46 (List.set out_1 (Int.toNat (w64 ((↑(List.length out_1):Int) - 1))) { e0:=arr2_int.e0 (gd out_1 (w64 ((↑(List.length out_1):Int) - 1))),e1:=i }))∧((r0_9)=false→((List.length out_1+(1:Nat)) * (16:Nat)≤(2:Nat) ^ (47:Nat))∧J46 (out_1++[{ e0:=i,e1:=i }])))))∧((decide (i > (0:Int)))=false→((List.length out_1+(1:Nat)) * (16:Nat)≤(2:Nat) ^ (47:Nat))∧J46 (out_1++[{ e0:=i,e1:=i }]))))))))∧((decide (i < (256:Int)))=false→(res=out_1)))))):C_heckleref01_Runs a res:=by
 unfold C_heckleref01_Runs
 have kk:=cfOk [34] 35
 refine fD (x:=bodyOf Try.f98) kk Try.func98 ?_
 refine wkS [1] [(1,av_arr4_uint64 a)] (by kernel_rfl) ?_
 refine sD kk [] [1] [(4,.ptr 5 0),(5,av_arr4_uint64 a)] obN ?_
 refine sDE kk [] [] [(10,.own 145 ([]))] [(10,oL 145 enc_arr2_int ([]))] obN ?_
 refine qD ?_
 refine sD kk [] [] [(13,vi 0)] obN ?_
 refine bD (id:=0) ?_
 obtain ⟨Inv32,mu33,h0Inv32,hInv32⟩:=h
 refine loD (fun (q:List arr2_int×Int)=>(fun (out_1:List arr2_int) (i:Int)=>([(4,.ptr 5 0),(5,av_arr4_uint64 a),(10,oL 145 enc_arr2_int out_1),(13,vi i)]:Sta)) q.1 q.2) (fun (q:List arr2_int×Int)=>Inv32 q.1 q.2) (fun (q:List arr2_int×Int)=>mu33 q.1 q.2) (([]),0) [] h0Inv32 ?_
 rintro ⟨out_1,i⟩ hi
 have h:=hInv32 out_1 i hi
 refine qD ?_
 refine sD kk [] [] [(19,vB (decide (i < (256:Int))))] obN ?_
 refine cD (t:=6) (b:=decide (i < (256:Int))) (fun hb34=>?_) (fun hb34=>?_)
 ·have h:=h.1 hb34
  refine Sem.skip' (by kernel_rfl) Wk.refl ?_
  show Sem _ _ _ _ _
  refine wkD [19] ?_
  obtain ⟨J46,hJ46,h⟩:=h
  refine sjD (fun (q:List arr2_int)=>J46 q) (fun (q:List arr2_int)=>(fun (out_3:List arr2_int)=>([(4,.ptr 5 0),(5,av_arr4_uint64 a),(10,oL 145 enc_arr2_int out_3),(13,vi i)]:Sta)) q) ?_ ?_
  ·rintro out_3 hj
   have h:=hJ46 out_3 hj
   refine rD kk [] [] [(13,vi (w64 (i+1)))] obN ?_
   exact lD (out_3,(w64 (i+1))) [] h
  ·refine bD (id:=1) ?_
   refine qD ?_
   obtain ⟨r0_8,hc47,h⟩:=h
   refine sD kk [.c (vB r0_8) []] [] [(37,vB (!r0_8))] (obC hc47 obN) ?_
   refine cD (t:=12) (b:=!r0_8) (fun hb48=>?_) (fun hb48=>?_)
   ·have h:=h.1 hb48
    refine xD (i:=1) ?_
    exact jD out_1 [] h
   ·have h:=h.2 hb48
    refine Sem.skip' (by kernel_rfl) Wk.refl ?_
    show Sem _ _ _ _ _
    refine wkD [37] ?_
    refine qD ?_
    rcases Bool.eq_false_or_eq_true (decide (i > (0:Int))) with hb49 | hb49
    ·have h:=h.1 hb49
     obtain ⟨r0_9,hc50,h⟩:=h
     refine sD kk [.b true,.b true,.b true,.b true,.c (vB r0_9) [],.b true] [] [(61,vB r0_9)] (obC (gtt hb49) (obC (gtt hb49) (obC (gtt hb49) (obC (gtt hb49) (obC hc50 (obC hb49 obN)))))) ?_
     refine cD (t:=20) (b:=r0_9) (fun hb51=>?_) (fun hb51=>?_)
     ·have h:=h.1 hb51
      obtain ⟨h52,h⟩:=h
      obtain ⟨h53,h⟩:=h
      obtain ⟨h54,h⟩:=h
      refine sDE kk [.e (fv_arr2_int (gd out_1 (w64 ((↑(List.length out_1):Int) - 1))))] [61] [(10,.own 145 (List.set (List.map enc_arr2_int out_1) ((0:Nat)+Int.toNat (w64 ((↑(List.length (List.map enc_arr2_int out_1)):Int) - 1))) (FV.agg [FV.pv (Value.int IntKind.i64 (arr2_int.e0 (gd out_1 (w64 ((↑(List.length out_1):Int) - 1))))),FV.pv (Value.int IntKind.i64 i)])))] [(10,oL 145 enc_arr2_int (List.set out_1 (Int.toNat (w64 ((↑(List.length out_1):Int) - 1))) { e0:=arr2_int.e0 (gd out_1 (w64 ((↑(List.length out_1):Int) - 1))),e1:=i }))] (obC (show (0:Int)≤w64 ((↑(List.length (List.map enc_arr2_int out_1)):Int) - 1) from by simpa only [nm] using h52) (obC (show Int.toNat (w64 ((↑(List.length (List.map enc_arr2_int out_1)):Int) - 1)) < List.length (List.map enc_arr2_int out_1) from by simpa only [nm] using h53) (obC (show (List.map enc_arr2_int out_1)[((0:Nat)+Int.toNat (w64 ((↑(List.length (List.map enc_arr2_int out_1)):Int) - 1)):Nat)]?=some (fv_arr2_int (gd out_1 (w64 ((↑(List.length out_1):Int) - 1)))) from by have:=idx_ok enc_arr2_int out_1 (w64 ((↑(List.length out_1):Int) - 1)) _ (enc_arr2_int_eq _) h52 h54;simpa only [nm,enq,enc_arr2_int_eq] using this) obN))) ?_
      refine xD (i:=1) ?_
      exact jD (List.set out_1 (Int.toNat (w64 ((↑(List.length out_1):Int) - 1))) { e0:=arr2_int.e0 (gd out_1 (w64 ((↑(List.length out_1):Int) - 1))),e1:=i }) [] h
     ·have h:=h.2 hb51
      refine Sem.skip' (by kernel_rfl) Wk.refl ?_
      show Sem _ _ _ _ _
      refine wkD [61] ?_
      obtain ⟨h55,h⟩:=h
      refine rDE kk [] [] [(10,.own 145 (List.map enc_arr2_int out_1++List.take (List.length [FV.agg [FV.pv (Value.int IntKind.i64 i),FV.pv (Value.int IntKind.i64 i)]]) (List.drop (0:Nat) [FV.agg [FV.pv (Value.int IntKind.i64 i),FV.pv (Value.int IntKind.i64 i)]])))] [(10,oL 145 enc_arr2_int (out_1++[{ e0:=i,e1:=i }]))] (obC (show (0:Nat)=(0:Nat)∧List.length (List.map enc_arr2_int out_1)=List.length (List.map enc_arr2_int out_1) from by first | decide | rfl | trivial | (simp only [nm]<;>first | decide | rfl | omega)) (obC (show (List.length (List.map enc_arr2_int out_1)+List.length (List.take (1:Nat) (List.drop (0:Nat) [FV.agg [FV.pv (Value.int IntKind.i64 i),FV.pv (Value.int IntKind.i64 i)]]))) * (16:Nat)≤(2:Nat) ^ (47:Nat) from by simpa only [nm] using h55) (obC (show List.all (List.take (1:Nat) (List.drop (0:Nat) [FV.agg [FV.pv (Value.int IntKind.i64 i),FV.pv (Value.int IntKind.i64 i)]])) (FV.fits (2:Nat))=true from by first | exact fits_i64 _ | rfl | simp [isByteF,FV.fits,FV.size,FV.cells,FV.one,]) obN))) ?_
      exact jD (out_1++[{ e0:=i,e1:=i }]) [] h
    ·have h:=h.2 hb49
     refine sD kk [.b false,.b false,.b false,.b false,.b false] [] [(61,vB false)] (obC (gtf hb49) (obC (gtf hb49) (obC (gtf hb49) (obC (gtf hb49) (obC hb49 obN))))) ?_
     refine cD (t:=20) (b:=false) (fun hb56=>?_) (fun hb56=>?_)
     ·cases hb56
     ·refine Sem.skip' (by kernel_rfl) Wk.refl ?_
      show Sem _ _ _ _ _
      refine wkD [61] ?_
      obtain ⟨h57,h⟩:=h
      refine rDE kk [] [] [(10,.own 145 (List.map enc_arr2_int out_1++List.take (List.length [FV.agg [FV.pv (Value.int IntKind.i64 i),FV.pv (Value.int IntKind.i64 i)]]) (List.drop (0:Nat) [FV.agg [FV.pv (Value.int IntKind.i64 i),FV.pv (Value.int IntKind.i64 i)]])))] [(10,oL 145 enc_arr2_int (out_1++[{ e0:=i,e1:=i }]))] (obC (show (0:Nat)=(0:Nat)∧List.length (List.map enc_arr2_int out_1)=List.length (List.map enc_arr2_int out_1) from by first | decide | rfl | trivial | (simp only [nm]<;>first | decide | rfl | omega)) (obC (show (List.length (List.map enc_arr2_int out_1)+List.length (List.take (1:Nat) (List.drop (0:Nat) [FV.agg [FV.pv (Value.int IntKind.i64 i),FV.pv (Value.int IntKind.i64 i)]]))) * (16:Nat)≤(2:Nat) ^ (47:Nat) from by simpa only [nm] using h57) (obC (show List.all (List.take (1:Nat) (List.drop (0:Nat) [FV.agg [FV.pv (Value.int IntKind.i64 i),FV.pv (Value.int IntKind.i64 i)]])) (FV.fits (2:Nat))=true from by first | exact fits_i64 _ | rfl | simp [isByteF,FV.fits,FV.size,FV.cells,FV.one,]) obN))) ?_
      exact jD (out_1++[{ e0:=i,e1:=i }]) [] h
 ·have h:=h.2 hb34
  refine xD (i:=0) ?_
  show Sem _ _ _ _ _
  refine wkD [4,5,13,19] ?_
  refine sD kk [] [10] [(7,oL 145 enc_arr2_int out_1)] obN ?_
  refine tD ?_
  obtain he0:=h
  subst res
  exact (endD [] (oL 145 enc_arr2_int out_1) []).1
set_option maxHeartbeats 1000000 in
theorem W_heckleref03_Plain (b:Int) (res:Bool)
 (h:(res=(bif decide (b≥(97:Int)) then decide (b≤(122:Int)) || bif decide (b≥(65:Int)) then decide (b≤(90:Int)) || decide (b≥(48:Int)) && decide (b≤(57:Int)) else decide (b≥(48:Int)) && decide (b≤(57:Int)) else bif decide (b≥(65:Int)) then decide (b≤(90:Int)) || decide (b≥(48:Int)) && decide (b≤(57:Int)) else decide (b≥(48:Int)) && decide (b≤(57:Int))))):C_heckleref03_Plain b res:=by
 unfold C_heckleref03_Plain
 have kk:=cfOk [] 25
 refine fD (x:=bodyOf Try.f118) kk Try.func118 ?_
 refine wkS [1] [(1,vi b)] (by kernel_rfl) ?_
 refine sD kk [] [] [] obN ?_
 refine sM [1] [(7,vB (bif decide (b≥(97:Int)) then decide (b≤(122:Int)) || bif decide (b≥(65:Int)) then decide (b≤(90:Int)) || decide (b≥(48:Int)) && decide (b≤(57:Int)) else decide (b≥(48:Int)) && decide (b≤(57:Int)) else bif decide (b≥(65:Int)) then decide (b≤(90:Int)) || decide (b≥(48:Int)) && decide (b≤(57:Int)) else decide (b≥(48:Int)) && decide (b≤(57:Int))))] ?_ (fun hk0=>?_)
 ·refine tD ?_
  obtain he0:=h
  subst res
  exact (endD [] (vB (bif decide (b≥(97:Int)) then decide (b≤(122:Int)) || bif decide (b≥(65:Int)) then decide (b≤(90:Int)) || decide (b≥(48:Int)) && decide (b≤(57:Int)) else decide (b≥(48:Int)) && decide (b≤(57:Int)) else bif decide (b≥(65:Int)) then decide (b≤(90:Int)) || decide (b≥(48:Int)) && decide (b≤(57:Int)) else decide (b≥(48:Int)) && decide (b≤(57:Int)))) []).1
 ·rcases Bool.eq_false_or_eq_true (decide (b≥(97:Int))) with hb0 | hb0
  ·rcases Bool.eq_false_or_eq_true (decide (b≤(122:Int))) with hb1 | hb1
   ·refine sD kk [.b true,.b true,.b true,.b false,.b false,.b false,.b false,.b true,.b false,.b false,.b false,.b false,.b true] [1] [(7,vB true)] (obC (gtt hb0) (obC (gtt hb0) (obC hb0 (obC (gff hb1) (obC (gff hb1) (obC (gff hb1) (obC (gff hb1) (obC hb1 (obC (rfl:false=false) (obC (rfl:false=false) (obC (rfl:false=false) (obC (rfl:false=false) (obC (rfl:true=true) obN))))))))))))) ?_
    exact Sem.cast (by try rw [hb0];try rw [hb1];kernel_rfl) hk0
   ·rcases Bool.eq_false_or_eq_true (decide (b≥(65:Int))) with hb2 | hb2
    ·rcases Bool.eq_false_or_eq_true (decide (b≤(90:Int))) with hb3 | hb3
     ·refine sD kk [.b true,.b true,.b true,.b true,.b true,.b true,.b true,.b true,.b true,.b true,.b false,.b false,.b false,.b false,.b false,.b true] [1] [(7,vB true)] (obC (gtt hb0) (obC (gtt hb0) (obC hb0 (obC (gft hb1) (obC (gft hb1) (obC (gft hb1) (obC (gtt hb2) (obC (gtt hb2) (obC (gft hb1) (obC hb2 (obC hb1 (obC (gff hb3) (obC (gff hb3) (obC (gff hb3) (obC (gff hb3) (obC hb3 obN)))))))))))))))) ?_
      exact Sem.cast (by try rw [hb0];try rw [hb1];try rw [hb2];try rw [hb3];kernel_rfl) hk0
     ·rcases Bool.eq_false_or_eq_true (decide (b≥(48:Int))) with hb4 | hb4
      ·refine sD kk [.b true,.b true,.b true,.b true,.b true,.b true,.b true,.b true,.b true,.b true,.b false,.b true,.b true,.b true,.b true,.b true,.b true,.b true,.b false] [1] [(7,vB (decide (b≤(57:Int))))] (obC (gtt hb0) (obC (gtt hb0) (obC hb0 (obC (gft hb1) (obC (gft hb1) (obC (gft hb1) (obC (gtt hb2) (obC (gtt hb2) (obC (gft hb1) (obC hb2 (obC hb1 (obC (gft hb3) (obC (gft hb3) (obC (gft hb3) (obC (gtt hb4) (obC (gtt hb4) (obC (gft hb3) (obC hb4 (obC hb3 obN))))))))))))))))))) ?_
       exact Sem.cast (by try rw [hb0];try rw [hb1];try rw [hb2];try rw [hb3];try rw [hb4];kernel_rfl) hk0
      ·refine sD kk [.b true,.b true,.b true,.b true,.b true,.b true,.b true,.b true,.b true,.b true,.b false,.b true,.b true,.b true,.b false,.b false,.b true,.b false,.b false] [1] [(7,vB false)] (obC (gtt hb0) (obC (gtt hb0) (obC hb0 (obC (gft hb1) (obC (gft hb1) (obC (gft hb1) (obC (gtt hb2) (obC (gtt hb2) (obC (gft hb1) (obC hb2 (obC hb1 (obC (gft hb3) (obC (gft hb3) (obC (gft hb3) (obC (gtf hb4) (obC (gtf hb4) (obC (gft hb3) (obC hb4 (obC hb3 obN))))))))))))))))))) ?_
       exact Sem.cast (by try rw [hb0];try rw [hb1];try rw [hb2];try rw [hb3];try rw [hb4];kernel_rfl) hk0
    ·rcases Bool.eq_false_or_eq_true (decide (b≥(48:Int))) with hb5 | hb5
     ·refine sD kk [.b true,.b true,.b true,.b true,.b true,.b true,.b false,.b false,.b true,.b false,.b false,.b true,.b true,.b true,.b true,.b true,.b true,.b true,.b false] [1] [(7,vB (decide (b≤(57:Int))))] (obC (gtt hb0) (obC (gtt hb0) (obC hb0 (obC (gft hb1) (obC (gft hb1) (obC (gft hb1) (obC (gtf hb2) (obC (gtf hb2) (obC (gft hb1) (obC hb2 (obC hb1 (obC (rfl:true=true) (obC (rfl:true=true) (obC (rfl:true=true) (obC (gtt hb5) (obC (gtt hb5) (obC (rfl:true=true) (obC hb5 (obC (rfl:false=false) obN))))))))))))))))))) ?_
      exact Sem.cast (by try rw [hb0];try rw [hb1];try rw [hb2];try rw [hb5];kernel_rfl) hk0
     ·refine sD kk [.b true,.b true,.b true,.b true,.b true,.b true,.b false,.b false,.b true,.b false,.b false,.b true,.b true,.b true,.b false,.b false,.b true,.b false,.b false] [1] [(7,vB false)] (obC (gtt hb0) (obC (gtt hb0) (obC hb0 (obC (gft hb1) (obC (gft hb1) (obC (gft hb1) (obC (gtf hb2) (obC (gtf hb2) (obC (gft hb1) (obC hb2 (obC hb1 (obC (rfl:true=true) (obC (rfl:true=true) (obC (rfl:true=true) (obC (gtf hb5) (obC (gtf hb5) (obC (rfl:true=true) (obC hb5 (obC (rfl:false=false) obN))))))))))))))))))) ?_
      exact Sem.cast (by try rw [hb0];try rw [hb1];try rw [hb2];try rw [hb5];kernel_rfl) hk0
  ·rcases Bool.eq_false_or_eq_true (decide (b≥(65:Int))) with hb6 | hb6
   ·rcases Bool.eq_false_or_eq_true (decide (b≤(90:Int))) with hb7 | hb7
    ·refine sD kk [.b false,.b false,.b false,.b true,.b true,.b true,.b true,.b true,.b true,.b true,.b false,.b false,.b false,.b false,.b false,.b true] [1] [(7,vB true)] (obC (gtf hb0) (obC (gtf hb0) (obC hb0 (obC (rfl:true=true) (obC (rfl:true=true) (obC (rfl:true=true) (obC (gtt hb6) (obC (gtt hb6) (obC (rfl:true=true) (obC hb6 (obC (rfl:false=false) (obC (gff hb7) (obC (gff hb7) (obC (gff hb7) (obC (gff hb7) (obC hb7 obN)))))))))))))))) ?_
     exact Sem.cast (by try rw [hb0];try rw [hb6];try rw [hb7];kernel_rfl) hk0
    ·rcases Bool.eq_false_or_eq_true (decide (b≥(48:Int))) with hb8 | hb8
     ·refine sD kk [.b false,.b false,.b false,.b true,.b true,.b true,.b true,.b true,.b true,.b true,.b false,.b true,.b true,.b true,.b true,.b true,.b true,.b true,.b false] [1] [(7,vB (decide (b≤(57:Int))))] (obC (gtf hb0) (obC (gtf hb0) (obC hb0 (obC (rfl:true=true) (obC (rfl:true=true) (obC (rfl:true=true) (obC (gtt hb6) (obC (gtt hb6) (obC (rfl:true=true) (obC hb6 (obC (rfl:false=false) (obC (gft hb7) (obC (gft hb7) (obC (gft hb7) (obC (gtt hb8) (obC (gtt hb8) (obC (gft hb7) (obC hb8 (obC hb7 obN))))))))))))))))))) ?_
      exact Sem.cast (by try rw [hb0];try rw [hb6];try rw [hb7];try rw [hb8];kernel_rfl) hk0
     ·refine sD kk [.b false,.b false,.b false,.b true,.b true,.b true,.b true,.b true,.b true,.b true,.b false,.b true,.b true,.b true,.b false,.b false,.b true,.b false,.b false] [1] [(7,vB false)] (obC (gtf hb0) (obC (gtf hb0) (obC hb0 (obC (rfl:true=true) (obC (rfl:true=true) (obC (rfl:true=true) (obC (gtt hb6) (obC (gtt hb6) (obC (rfl:true=true) (obC hb6 (obC (rfl:false=false) (obC (gft hb7) (obC (gft hb7) (obC (gft hb7) (obC (gtf hb8) (obC (gtf hb8) (obC (gft hb7) (obC hb8 (obC hb7 obN))))))))))))))))))) ?_
      exact Sem.cast (by try rw [hb0];try rw [hb6];try rw [hb7];try rw [hb8];kernel_rfl) hk0
   ·rcases Bool.eq_false_or_eq_true (decide (b≥(48:Int))) with hb9 | hb9
    ·refine sD kk [.b false,.b false,.b false,.b true,.b true,.b true,.b false,.b false,.b true,.b false,.b false,.b true,.b true,.b true,.b true,.b true,.b true,.b true,.b false] [1] [(7,vB (decide (b≤(57:Int))))] (obC (gtf hb0) (obC (gtf hb0) (obC hb0 (obC (rfl:true=true) (obC (rfl:true=true) (obC (rfl:true=true) (obC (gtf hb6) (obC (gtf hb6) (obC (rfl:true=true) (obC hb6 (obC (rfl:false=false) (obC (rfl:true=true) (obC (rfl:true=true) (obC (rfl:true=true) (obC (gtt hb9) (obC (gtt hb9) (obC (rfl:true=true) (obC hb9 (obC (rfl:false=false) obN))))))))))))))))))) ?_
     exact Sem.cast (by try rw [hb0];try rw [hb6];try rw [hb9];kernel_rfl) hk0
    ·refine sD kk [.b false,.b false,.b false,.b true,.b true,.b true,.b false,.b false,.b true,.b false,.b false,.b true,.b true,.b true,.b false,.b false,.b true,.b false,.b false] [1] [(7,vB false)] (obC (gtf hb0) (obC (gtf hb0) (obC hb0 (obC (rfl:true=true) (obC (rfl:true=true) (obC (rfl:true=true) (obC (gtf hb6) (obC (gtf hb6) (obC (rfl:true=true) (obC hb6 (obC (rfl:false=false) (obC (rfl:true=true) (obC (rfl:true=true) (obC (rfl:true=true) (obC (gtf hb9) (obC (gtf hb9) (obC (rfl:true=true) (obC hb9 (obC (rfl:false=false) obN))))))))))))))))))) ?_
     exact Sem.cast (by try rw [hb0];try rw [hb6];try rw [hb9];kernel_rfl) hk0
set_option maxHeartbeats 1000000 in
theorem W_heckleref03_char (b:Int) (res:ByteArray)
 (h:(∃ r0:Bool,C_heckleref03_Plain b r0∧(((r0)=true→(res=(bytesT (List.take (1:Nat) (List.drop (0:Nat) [FV.pv (Value.int IntKind.u8 (IntKind.wrap IntKind.u8 b))])))))∧((r0)=false→((0:Int)≤w64 (Int.tdiv b (16:Int)))∧w64 (Int.tdiv b (16:Int)) < ↑(ByteArray.size ({ data:=#[(48:UInt8),(49:UInt8),(50:UInt8),(51:UInt8),(52:UInt8),(53:UInt8),(54:UInt8),(55:UInt8),(56:UInt8),(57:UInt8),(97:UInt8),(98:UInt8),(99:UInt8),(100:UInt8),(101:UInt8),(102:UInt8)] }))∧((0:Int)≤Int.tmod b (16:Int))∧Int.tmod b (16:Int) < ↑(ByteArray.size ({ data:=#[(48:UInt8),(49:UInt8),(50:UInt8),(51:UInt8),(52:UInt8),(53:UInt8),(54:UInt8),(55:UInt8),(56:UInt8),(57:UInt8),(97:UInt8),(98:UInt8),(99:UInt8),(100:UInt8),(101:UInt8),(102:UInt8)] }))∧((↑(ByteArray.size { data:=#[(92:UInt8),(120:UInt8)] }+ByteArray.size (bytesT [FV.pv (Value.int IntKind.u8 (↑(UInt8.toNat (byteAt { data:=#[(48:UInt8),(49:UInt8),(50:UInt8),(51:UInt8),(52:UInt8),(53:UInt8),(54:UInt8),(55:UInt8),(56:UInt8),(57:UInt8),(97:UInt8),(98:UInt8),(99:UInt8),(100:UInt8),(101:UInt8),(102:UInt8)] } (w64 (Int.tdiv b (16:Int))))):Int)),FV.pv (Value.int IntKind.u8 (↑(UInt8.toNat (byteAt { data:=#[(48:UInt8),(49:UInt8),(50:UInt8),(51:UInt8),(52:UInt8),(53:UInt8),(54:UInt8),(55:UInt8),(56:UInt8),(57:UInt8),(97:UInt8),(98:UInt8),(99:UInt8),(100:UInt8),(101:UInt8),(102:UInt8)] } (Int.tmod b (16:Int)))):Int))])):Int)≤IntKind.max IntKind.i64)∧(res=({ data:=#[(92:UInt8),(120:UInt8)] }++bytesT (List.take (2:Nat) (List.drop (0:Nat) [FV.pv (Value.int IntKind.u8 (↑(UInt8.toNat (byteAt { data:=#[(48:UInt8),(49:UInt8),(50:UInt8),(51:UInt8),(52:UInt8),(53:UInt8),(54:UInt8),(55:UInt8),(56:UInt8),(57:UInt8),(97:UInt8),(98:UInt8),(99:UInt8),(100:UInt8),(101:UInt8),(102:UInt8)] } (w64 (Int.tdiv b (16:Int))))):Int)),FV.pv (Value.int IntKind.u8 (↑(UInt8.toNat (byteAt { data:=#[(48:UInt8),(49:UInt8),(50:UInt8),(51:UInt8),(52:UInt8),(53:UInt8),(54:UInt8),(55:UInt8),(56:UInt8),(57:UInt8),(97:UInt8),(98:UInt8),(99:UInt8),(100:UInt8),(101:UInt8),(102:UInt8)] } (Int.tmod b (16:Int)))):Int))])))))))):C_heckleref03_char b res:=by
 unfold C_heckleref03_char
 have kk:=cfOk [] 18
 refine fD (x:=bodyOf Try.f99) kk Try.func99 ?_
 refine wkS [1] [(1,vi b)] (by kernel_rfl) ?_
 refine sD kk [] [] [] obN ?_
 refine qD ?_
 obtain ⟨r0,hc0,h⟩:=h
 refine sD kk [.c (vB r0) []] [] [(13,vB r0)] (obC hc0 obN) ?_
 refine cD (t:=4) (b:=r0) (fun hb1=>?_) (fun hb1=>?_)
 ·have h:=h.1 hb1
  refine sD kk [] [1,13] [(7,vS (bytesT (List.take (1:Nat) (List.drop (0:Nat) [FV.pv (Value.int IntKind.u8 (IntKind.wrap IntKind.u8 b))]))))] (obC (show List.all (List.take (1:Nat) (List.drop (0:Nat) [FV.pv (Value.int IntKind.u8 (IntKind.wrap IntKind.u8 b))])) isByteF=true from by first | exact fits_u8 _ | rfl | simp [isByteF,FV.fits,FV.size,FV.cells,FV.one,]) obN) ?_
  refine tD ?_
  obtain he0:=h
  subst res
  exact (endD [] (vS (bytesT (List.take (1:Nat) (List.drop (0:Nat) [FV.pv (Value.int IntKind.u8 (IntKind.wrap IntKind.u8 b))])))) []).1
 ·have h:=h.2 hb1
  refine Sem.skip' (by kernel_rfl) Wk.refl ?_
  show Sem _ _ _ _ _
  refine wkD [13] ?_
  obtain ⟨h2,h⟩:=h
  obtain ⟨h3,h⟩:=h
  obtain ⟨h4,h⟩:=h
  obtain ⟨h5,h⟩:=h
  obtain ⟨h6,h⟩:=h
  refine sD kk [.y (byteAt ({ data:=#[(48:UInt8),(49:UInt8),(50:UInt8),(51:UInt8),(52:UInt8),(53:UInt8),(54:UInt8),(55:UInt8),(56:UInt8),(57:UInt8),(97:UInt8),(98:UInt8),(99:UInt8),(100:UInt8),(101:UInt8),(102:UInt8)] }) (w64 (Int.tdiv b (16:Int)))),.y (byteAt ({ data:=#[(48:UInt8),(49:UInt8),(50:UInt8),(51:UInt8),(52:UInt8),(53:UInt8),(54:UInt8),(55:UInt8),(56:UInt8),(57:UInt8),(97:UInt8),(98:UInt8),(99:UInt8),(100:UInt8),(101:UInt8),(102:UInt8)] }) (Int.tmod b (16:Int)))] [1] [(7,vS ({ data:=#[(92:UInt8),(120:UInt8)] }++bytesT (List.take (2:Nat) (List.drop (0:Nat) [FV.pv (Value.int IntKind.u8 (↑(UInt8.toNat (byteAt { data:=#[(48:UInt8),(49:UInt8),(50:UInt8),(51:UInt8),(52:UInt8),(53:UInt8),(54:UInt8),(55:UInt8),(56:UInt8),(57:UInt8),(97:UInt8),(98:UInt8),(99:UInt8),(100:UInt8),(101:UInt8),(102:UInt8)] } (w64 (Int.tdiv b (16:Int))))):Int)),FV.pv (Value.int IntKind.u8 (↑(UInt8.toNat (byteAt { data:=#[(48:UInt8),(49:UInt8),(50:UInt8),(51:UInt8),(52:UInt8),(53:UInt8),(54:UInt8),(55:UInt8),(56:UInt8),(57:UInt8),(97:UInt8),(98:UInt8),(99:UInt8),(100:UInt8),(101:UInt8),(102:UInt8)] } (Int.tmod b (16:Int)))):Int))]))))] (obC (show (16:Int)≠(0:Int) from by first | decide | rfl | trivial | (simp only [nm]<;>first | decide | rfl | omega)) (obC h2 (obC (byte_ok ({ data:=#[(48:UInt8),(49:UInt8),(50:UInt8),(51:UInt8),(52:UInt8),(53:UInt8),(54:UInt8),(55:UInt8),(56:UInt8),(57:UInt8),(97:UInt8),(98:UInt8),(99:UInt8),(100:UInt8),(101:UInt8),(102:UInt8)] }) (w64 (Int.tdiv b (16:Int))) h2 h3) (obC (show (16:Int)≠(0:Int) from by first | decide | rfl | trivial | (simp only [nm]<;>first | decide | rfl | omega)) (obC h4 (obC (byte_ok ({ data:=#[(48:UInt8),(49:UInt8),(50:UInt8),(51:UInt8),(52:UInt8),(53:UInt8),(54:UInt8),(55:UInt8),(56:UInt8),(57:UInt8),(97:UInt8),(98:UInt8),(99:UInt8),(100:UInt8),(101:UInt8),(102:UInt8)] }) (Int.tmod b (16:Int)) h4 h5) (obC (show List.all (List.take (2:Nat) (List.drop (0:Nat) [FV.pv (Value.int IntKind.u8 (↑(UInt8.toNat (byteAt { data:=#[(48:UInt8),(49:UInt8),(50:UInt8),(51:UInt8),(52:UInt8),(53:UInt8),(54:UInt8),(55:UInt8),(56:UInt8),(57:UInt8),(97:UInt8),(98:UInt8),(99:UInt8),(100:UInt8),(101:UInt8),(102:UInt8)] } (w64 (Int.tdiv b (16:Int))))):Int)),FV.pv (Value.int IntKind.u8 (↑(UInt8.toNat (byteAt { data:=#[(48:UInt8),(49:UInt8),(50:UInt8),(51:UInt8),(52:UInt8),(53:UInt8),(54:UInt8),(55:UInt8),(56:UInt8),(57:UInt8),(97:UInt8),(98:UInt8),(99:UInt8),(100:UInt8),(101:UInt8),(102:UInt8)] } (Int.tmod b (16:Int)))):Int))])) isByteF=true from by first | exact fits_u8 _ | rfl | simp [isByteF,FV.fits,FV.size,FV.cells,FV.one,]) (obC (show (↑(ByteArray.size { data:=#[(92:UInt8),(120:UInt8)] }+ByteArray.size (bytesT (List.take (2:Nat) (List.drop (0:Nat) [FV.pv (Value.int IntKind.u8 (↑(UInt8.toNat (byteAt { data:=#[(48:UInt8),(49:UInt8),(50:UInt8),(51:UInt8),(52:UInt8),(53:UInt8),(54:UInt8),(55:UInt8),(56:UInt8),(57:UInt8),(97:UInt8),(98:UInt8),(99:UInt8),(100:UInt8),(101:UInt8),(102:UInt8)] } (w64 (Int.tdiv b (16:Int))))):Int)),FV.pv (Value.int IntKind.u8 (↑(UInt8.toNat (byteAt { data:=#[(48:UInt8),(49:UInt8),(50:UInt8),(51:UInt8),(52:UInt8),(53:UInt8),(54:UInt8),(55:UInt8),(56:UInt8),(57:UInt8),(97:UInt8),(98:UInt8),(99:UInt8),(100:UInt8),(101:UInt8),(102:UInt8)] } (Int.tmod b (16:Int)))):Int))])))):Int)≤IntKind.max IntKind.i64 from by simpa only [nm] using h6) obN)))))))) ?_
  refine tD ?_
  obtain he0:=h
  subst res
  exact (endD [] (vS ({ data:=#[(92:UInt8),(120:UInt8)] }++bytesT (List.take (2:Nat) (List.drop (0:Nat) [FV.pv (Value.int IntKind.u8 (↑(UInt8.toNat (byteAt { data:=#[(48:UInt8),(49:UInt8),(50:UInt8),(51:UInt8),(52:UInt8),(53:UInt8),(54:UInt8),(55:UInt8),(56:UInt8),(57:UInt8),(97:UInt8),(98:UInt8),(99:UInt8),(100:UInt8),(101:UInt8),(102:UInt8)] } (w64 (Int.tdiv b (16:Int))))):Int)),FV.pv (Value.int IntKind.u8 (↑(UInt8.toNat (byteAt { data:=#[(48:UInt8),(49:UInt8),(50:UInt8),(51:UInt8),(52:UInt8),(53:UInt8),(54:UInt8),(55:UInt8),(56:UInt8),(57:UInt8),(97:UInt8),(98:UInt8),(99:UInt8),(100:UInt8),(101:UInt8),(102:UInt8)] } (Int.tmod b (16:Int)))):Int))])))) []).1
set_option maxHeartbeats 1000000 in
theorem W_heckleref03_bytes (s0:arr4_uint64) (res:ByteArray)
 (h:(∃ r0:List arr2_int,C_heckleref01_Runs s0 r0∧(((↑(List.length (List.map enc_arr2_int r0)):Int) == 1)=true→((0:Nat) < List.length r0))∧(((↑(List.length (List.map enc_arr2_int r0)):Int) == 1)=true→(0:Nat) < List.length r0)∧(((↑(List.length (List.map enc_arr2_int r0)):Int) == 1)=true→((0:Nat) < List.length r0))∧(((↑(List.length (List.map enc_arr2_int r0)):Int) == 1)=true→(0:Nat) < List.length r0)∧((((↑(List.length (List.map enc_arr2_int r0)):Int) == 1 && arr2_int.e0 (List.getD r0 (0:Nat) default) == arr2_int.e1 (List.getD r0 (0:Nat) default))=true→((0:Nat) < List.length r0)∧(0:Nat) < List.length r0∧(∃ r0_1:ByteArray,C_heckleref03_char (arr2_int.e0 (List.getD r0 (0:Nat) default)) r0_1∧(res=r0_1)))∧(((↑(List.length (List.map enc_arr2_int r0)):Int) == 1 && arr2_int.e0 (List.getD r0 (0:Nat) default) == arr2_int.e1 (List.getD r0 (0:Nat) default))=false→(∃ (Inv78:ByteArray→Int→Prop) (mu79:ByteArray→Int→Nat),Inv78 ({ data:=#[(91:UInt8)] }) 0∧(∀ (out_1:ByteArray) (i:Int),Inv78 out_1 i→(((decide (i < (↑(List.length r0):Int)))=true→(∃ J99:ByteArray→Prop,(∀ (out_3:ByteArray),J99 out_3→(Inv78 out_3 (w64 (i+1))∧mu79 out_3 (w64 (i+1)) < mu79 out_1 i))∧((0:Int)≤i)∧(Int.toNat i < List.length r0)∧i < ↑(List.length r0)∧(∃ r0_12:ByteArray,C_heckleref03_char (arr2_int.e0 (gd r0 i)) r0_12∧((↑(ByteArray.size out_1+ByteArray.size r0_12):Int)≤IntKind.max IntKind.i64)∧((0:Int)≤i)∧(Int.toNat i < List.length r0)∧i < ↑(List.length r0)∧((0:Int)≤i)∧(Int.toNat i < List.length r0)∧i < ↑(List.length r0)∧(((decide (arr2_int.e1 (gd r0 i) > arr2_int.e0 (gd r0 i)))=true→((↑(ByteArray.size (out_1++r0_12)+ByteArray.size { data:=#[(45:UInt8)] }):Int)≤IntKind.max IntKind.i64)∧((0:Int)≤i)∧(Int.toNat i < List.length r0)∧i < ↑(List.length r0)∧(∃ r0_13:ByteArray,C_heckleref03_char (arr2_int.e1 (gd r0 i)) r0_13∧((↑(ByteArray.size (out_1++r0_12++{ data:=#[(45:UInt8)] })+ByteArray.size r0_13):Int)≤IntKind.max IntKind.i64)∧J99 (out_1++r0_12++{ data:=#[(45:UInt8)] }++r0_13)))∧((decide (arr2_int.e1 (gd r0 i) > arr2_int.e0 (gd r0 i)))=false→J99 (out_1++r0_12))))))∧((decide (i < (↑(List.length r0):Int)))=false→((↑(ByteArray.size out_1+ByteArray.size { data:=#[(93:UInt8)] }):Int)≤IntKind.max IntKind.i64)∧(res=(out_1++{ data:=#[(93:UInt8)] })))))))))):C_heckleref03_bytes s0 res:=by
 unfold C_heckleref03_bytes
 have kk:=cfOk [] 63
 refine fD (x:=bodyOf Try.f68) kk Try.func68 ?_
 refine wkS [1] [(1,av_arr4_uint64 s0)] (by kernel_rfl) ?_
 refine sD kk [] [1] [(4,.ptr 5 0),(5,av_arr4_uint64 s0)] obN ?_
 obtain ⟨r0,hc0,h⟩:=h
 refine sD kk [.c (oL 145 enc_arr2_int r0) []] [4,5] [(10,oL 145 enc_arr2_int r0)] (obC hc0 obN) ?_
 refine qD ?_
 obtain ⟨h2,h3,h4,h5,h⟩:=h
 refine sM [] [(64,vB ((↑(List.length (List.map enc_arr2_int r0)):Int) == 1 && arr2_int.e0 (List.getD r0 (0:Nat) default) == arr2_int.e1 (List.getD r0 (0:Nat) default)))] ?_ (fun hk0=>?_)
 ·refine cD (t:=21) (b:=(↑(List.length (List.map enc_arr2_int r0)):Int) == 1 && arr2_int.e0 (List.getD r0 (0:Nat) default) == arr2_int.e1 (List.getD r0 (0:Nat) default)) (fun hb6=>?_) (fun hb6=>?_)
  ·have h:=h.1 hb6
   obtain ⟨h7,h⟩:=h
   obtain ⟨h8,h⟩:=h
   obtain ⟨r0_1,hc9,h⟩:=h
   refine sD kk [.e (fv_arr2_int (List.getD r0 (0:Nat) default)),.c (vS r0_1) []] [10,64] [(7,vS r0_1)] (obC (show (0:Int)≤(0:Int) from by first | decide | rfl | trivial | (simp only [nm]<;>first | decide | rfl | omega)) (obC (show Int.toNat (0:Int) < List.length (List.map enc_arr2_int r0) from by simpa only [nm] using h7) (obC (idx_ok' enc_arr2_int r0 ((0:Nat)) _ (enc_arr2_int_eq _) h8) (obC hc9 obN)))) ?_
   refine tD ?_
   obtain he0:=h
   subst res
   exact (endD [] (vS r0_1) []).1
  ·have h:=h.2 hb6
   refine Sem.skip' (by kernel_rfl) Wk.refl ?_
   show Sem _ _ _ _ _
   refine wkD [64] ?_
   refine sD kk [] [] [(13,vS ({ data:=#[(91:UInt8)] }))] obN ?_
   refine qD ?_
   refine sD kk [] [] [(16,vi 0)] obN ?_
   refine bD (id:=0) ?_
   obtain ⟨Inv78,mu79,h0Inv78,hInv78⟩:=h
   refine loD (fun (q:ByteArray×Int)=>(fun (out_1:ByteArray) (i:Int)=>([(10,oL 145 enc_arr2_int r0),(13,vS out_1),(16,vi i)]:Sta)) q.1 q.2) (fun (q:ByteArray×Int)=>Inv78 q.1 q.2) (fun (q:ByteArray×Int)=>mu79 q.1 q.2) (({ data:=#[(91:UInt8)] }),0) [] h0Inv78 ?_
   rintro ⟨out_1,i⟩ hi
   have h:=hInv78 out_1 i hi
   refine qD ?_
   refine sDE kk [] [] [(91,vB (decide (i < (↑(List.length (List.map enc_arr2_int r0)):Int))))] [(91,vB (decide (i < (↑(List.length r0):Int))))] obN ?_
   refine cD (t:=30) (b:=decide (i < (↑(List.length r0):Int))) (fun hb80=>?_) (fun hb80=>?_)
   ·have h:=h.1 hb80
    refine Sem.skip' (by kernel_rfl) Wk.refl ?_
    show Sem _ _ _ _ _
    refine wkD [91] ?_
    obtain ⟨J99,hJ99,h⟩:=h
    refine sjD (fun (q:ByteArray)=>J99 q) (fun (q:ByteArray)=>(fun (out_3:ByteArray)=>([(10,oL 145 enc_arr2_int r0),(13,vS out_3),(16,vi i)]:Sta)) q) ?_ ?_
    ·rintro out_3 hj
     have h:=hJ99 out_3 hj
     refine rD kk [] [] [(16,vi (w64 (i+1)))] obN ?_
     exact lD (out_3,(w64 (i+1))) [] h
    ·refine bD (id:=1) ?_
     obtain ⟨h100,h⟩:=h
     obtain ⟨h101,h⟩:=h
     obtain ⟨h102,h⟩:=h
     obtain ⟨r0_12,hc103,h⟩:=h
     obtain ⟨h104,h⟩:=h
     refine sD kk [.e (fv_arr2_int (gd r0 i)),.c (vS r0_12) []] [] [(13,vS (out_1++r0_12))] (obC h100 (obC (show Int.toNat i < List.length (List.map enc_arr2_int r0) from by simpa only [nm] using h101) (obC (show (List.map enc_arr2_int r0)[((0:Nat)+Int.toNat i:Nat)]?=some (fv_arr2_int (gd r0 i)) from by have:=idx_ok enc_arr2_int r0 i _ (enc_arr2_int_eq _) h100 h102;simpa only [nm,enq,enc_arr2_int_eq] using this) (obC hc103 (obC h104 obN))))) ?_
     obtain ⟨h105,h⟩:=h
     obtain ⟨h106,h⟩:=h
     obtain ⟨h107,h⟩:=h
     obtain ⟨h108,h⟩:=h
     obtain ⟨h109,h⟩:=h
     obtain ⟨h110,h⟩:=h
     refine sD kk [.e (fv_arr2_int (gd r0 i)),.e (fv_arr2_int (gd r0 i))] [] [(154,vB (decide (arr2_int.e1 (gd r0 i) > arr2_int.e0 (gd r0 i))))] (obC h105 (obC (show Int.toNat i < List.length (List.map enc_arr2_int r0) from by simpa only [nm] using h106) (obC (show (List.map enc_arr2_int r0)[((0:Nat)+Int.toNat i:Nat)]?=some (fv_arr2_int (gd r0 i)) from by have:=idx_ok enc_arr2_int r0 i _ (enc_arr2_int_eq _) h105 h107;simpa only [nm,enq,enc_arr2_int_eq] using this) (obC h108 (obC (show Int.toNat i < List.length (List.map enc_arr2_int r0) from by simpa only [nm] using h109) (obC (show (List.map enc_arr2_int r0)[((0:Nat)+Int.toNat i:Nat)]?=some (fv_arr2_int (gd r0 i)) from by have:=idx_ok enc_arr2_int r0 i _ (enc_arr2_int_eq _) h108 h110;simpa only [nm,enq,enc_arr2_int_eq] using this) obN)))))) ?_
     refine cD (t:=51) (b:=decide (arr2_int.e1 (gd r0 i) > arr2_int.e0 (gd r0 i))) (fun hb111=>?_) (fun hb111=>?_)
     ·have h:=h.1 hb111
      obtain ⟨h112,h⟩:=h
      obtain ⟨h113,h⟩:=h
      obtain ⟨h114,h⟩:=h
      obtain ⟨h115,h⟩:=h
      obtain ⟨r0_13,hc116,h⟩:=h
      obtain ⟨h117,h⟩:=h
      refine rD kk [.e (fv_arr2_int (gd r0 i)),.c (vS r0_13) []] [154] [(13,vS (out_1++r0_12++{ data:=#[(45:UInt8)] }++r0_13))] (obC h112 (obC h113 (obC (show Int.toNat i < List.length (List.map enc_arr2_int r0) from by simpa only [nm] using h114) (obC (show (List.map enc_arr2_int r0)[((0:Nat)+Int.toNat i:Nat)]?=some (fv_arr2_int (gd r0 i)) from by have:=idx_ok enc_arr2_int r0 i _ (enc_arr2_int_eq _) h113 h115;simpa only [nm,enq,enc_arr2_int_eq] using this) (obC hc116 (obC h117 obN)))))) ?_
      exact jD (out_1++r0_12++{ data:=#[(45:UInt8)] }++r0_13) [] h
     ·have h:=h.2 hb111
      refine Sem.skip' (by kernel_rfl) Wk.refl ?_
      exact jD (out_1++r0_12) [] h
   ·have h:=h.2 hb80
    refine xD (i:=0) ?_
    show Sem _ _ _ _ _
    refine wkD [10,16,91] ?_
    obtain ⟨h118,h⟩:=h
    refine sD kk [] [13] [(7,vS (out_1++{ data:=#[(93:UInt8)] }))] (obC h118 obN) ?_
    refine tD ?_
    obtain he0:=h
    subst res
    exact (endD [] (vS (out_1++{ data:=#[(93:UInt8)] })) []).1
 ·rcases Bool.eq_false_or_eq_true ((↑(List.length (List.map enc_arr2_int r0)):Int) == 1) with hb1 | hb1
  ·refine sD kk [.b true,.b true,.b true,.b true,.e (fv_arr2_int (List.getD r0 (0:Nat) default)),.b true,.b true,.b true,.b true,.e (fv_arr2_int (List.getD r0 (0:Nat) default)),.b true,.b true] [] [(64,vB (arr2_int.e0 (List.getD r0 (0:Nat) default) == arr2_int.e1 (List.getD r0 (0:Nat) default)))] (obC (gtt hb1) (obC (gtt hb1) (obC (show (0:Int)≤(0:Int) from by first | decide | rfl | trivial | (simp only [nm]<;>first | decide | rfl | omega)) (obC (show Int.toNat (0:Int) < List.length (List.map enc_arr2_int r0) from by simpa only [nm] using (h2 hb1)) (obC (gtt hb1) (obC (gtt hb1) (obC (idx_ok' enc_arr2_int r0 ((0:Nat)) _ (enc_arr2_int_eq _) (h3 hb1)) (obC (gtt hb1) (obC (gtt hb1) (obC (show (0:Int)≤(0:Int) from by first | decide | rfl | trivial | (simp only [nm]<;>first | decide | rfl | omega)) (obC (show Int.toNat (0:Int) < List.length (List.map enc_arr2_int r0) from by simpa only [nm] using (h4 hb1)) (obC (gtt hb1) (obC (gtt hb1) (obC (idx_ok' enc_arr2_int r0 ((0:Nat)) _ (enc_arr2_int_eq _) (h5 hb1)) (obC (gtt hb1) (obC hb1 obN)))))))))))))))) ?_
   exact Sem.cast (by try rw [hb1];kernel_rfl) hk0
  ·refine sD kk [.b false,.b false,.b false,.b false,.b false,.b false,.b false,.b false,.b false,.b false] [] [(64,vB false)] (obC (gtf hb1) (obC (gtf hb1) (obC (gtf hb1) (obC (gtf hb1) (obC (gtf hb1) (obC (gtf hb1) (obC (gtf hb1) (obC (gtf hb1) (obC (gtf hb1) (obC hb1 obN)))))))))) ?_
   exact Sem.cast (by try rw [hb1];kernel_rfl) hk0
set_option maxHeartbeats 1000000 in
theorem W_heckleref03_in (x:api_Rx) (alone:Bool) (res:ByteArray)
 (h:(((alone)=true→(∃ r0:ByteArray,C_heckleref03_Text x r0∧((↑(ByteArray.size { data:=#[(40:UInt8)] }+ByteArray.size r0):Int)≤IntKind.max IntKind.i64)∧((↑(ByteArray.size ({ data:=#[(40:UInt8)] }++r0)+ByteArray.size { data:=#[(41:UInt8)] }):Int)≤IntKind.max IntKind.i64)∧(res=({ data:=#[(40:UInt8)] }++r0++{ data:=#[(41:UInt8)] }))))∧((alone)=false→(∃ r0_1:ByteArray,C_heckleref03_Text x r0_1∧(res=r0_1))))):C_heckleref03_in x alone res:=by
 unfold C_heckleref03_in
 have kk:=cfOk [] 12
 refine fD (x:=bodyOf Try.f69) kk Try.func69 ?_
 refine wkS [1,4] [(1,av_api_Rx x),(4,vB alone)] (by kernel_rfl) ?_
 refine sD kk [] [1] [(7,.ptr 8 0),(8,av_api_Rx x)] obN ?_
 refine qD ?_
 refine sD kk [] [4] [(16,vB alone)] obN ?_
 refine cD (t:=5) (b:=alone) (fun hb0=>?_) (fun hb0=>?_)
 ·have h:=h.1 hb0
  obtain ⟨r0,hc1,h⟩:=h
  obtain ⟨h2,h⟩:=h
  obtain ⟨h3,h⟩:=h
  refine sD kk [.c (vS r0) []] [7,8,16] [(13,vS ({ data:=#[(40:UInt8)] }++r0++{ data:=#[(41:UInt8)] }))] (obC hc1 (obC h2 (obC h3 obN))) ?_
  refine tD ?_
  obtain he0:=h
  subst res
  exact (endD [] (vS ({ data:=#[(40:UInt8)] }++r0++{ data:=#[(41:UInt8)] })) []).1
 ·have h:=h.2 hb0
  refine Sem.skip' (by kernel_rfl) Wk.refl ?_
  show Sem _ _ _ _ _
  refine wkD [16] ?_
  obtain ⟨r0_1,hc4,h⟩:=h
  refine sD kk [.c (vS r0_1) []] [7,8] [(13,vS r0_1)] (obC hc4 obN) ?_
  refine tD ?_
  obtain he0:=h
  subst res
  exact (endD [] (vS r0_1) []).1
set_option maxHeartbeats 1000000 in
theorem W_heckleref03_Digits (n:Int) (res:ByteArray)
 (h:(((decide (n < (10:Int)))=true→(res=(bytesT (List.take (1:Nat) (List.drop (0:Nat) [FV.pv (Value.int IntKind.u8 (IntKind.wrap IntKind.u8 (w64 ((48:Int)+Int.tmod n (10:Int)))))])))))∧((decide (n < (10:Int)))=false→(∃ r0:ByteArray,C_heckleref03_Digits (w64 (Int.tdiv n (10:Int))) r0∧((↑(ByteArray.size r0+ByteArray.size (bytesT [FV.pv (Value.int IntKind.u8 (IntKind.wrap IntKind.u8 (w64 ((48:Int)+Int.tmod n (10:Int)))))])):Int)≤IntKind.max IntKind.i64)∧(res=(r0++bytesT (List.take (1:Nat) (List.drop (0:Nat) [FV.pv (Value.int IntKind.u8 (IntKind.wrap IntKind.u8 (w64 ((48:Int)+Int.tmod n (10:Int)))))])))))))):C_heckleref03_Digits n res:=by
 unfold C_heckleref03_Digits
 have kk:=cfOk [12] 18
 refine fD (x:=bodyOf Try.f70) kk Try.func70 ?_
 refine wkS [1] [(1,vi n)] (by kernel_rfl) ?_
 refine sD kk [] [] [] obN ?_
 refine sD kk [] [] [(10,vS (bytesT (List.take (1:Nat) (List.drop (0:Nat) [FV.pv (Value.int IntKind.u8 (IntKind.wrap IntKind.u8 (w64 ((48:Int)+Int.tmod n (10:Int)))))]))))] (obC (show (10:Int)≠(0:Int) from by first | decide | rfl | trivial | (simp only [nm]<;>first | decide | rfl | omega)) (obC (show List.all (List.take (1:Nat) (List.drop (0:Nat) [FV.pv (Value.int IntKind.u8 (IntKind.wrap IntKind.u8 (w64 ((48:Int)+Int.tmod n (10:Int)))))])) isByteF=true from by first | exact fits_u8 _ | rfl | simp [isByteF,FV.fits,FV.size,FV.cells,FV.one,]) obN)) ?_
 refine qD ?_
 refine sD kk [] [] [(34,vB (decide (n < (10:Int))))] obN ?_
 refine cD (t:=11) (b:=decide (n < (10:Int))) (fun hb0=>?_) (fun hb0=>?_)
 ·have h:=h.1 hb0
  refine sD kk [] [1,10,34] [(7,vS (bytesT (List.take (1:Nat) (List.drop (0:Nat) [FV.pv (Value.int IntKind.u8 (IntKind.wrap IntKind.u8 (w64 ((48:Int)+Int.tmod n (10:Int)))))]))))] obN ?_
  refine tD ?_
  obtain he0:=h
  subst res
  exact (endD [] (vS (bytesT (List.take (1:Nat) (List.drop (0:Nat) [FV.pv (Value.int IntKind.u8 (IntKind.wrap IntKind.u8 (w64 ((48:Int)+Int.tmod n (10:Int)))))])))) []).1
 ·have h:=h.2 hb0
  refine Sem.skip' (by kernel_rfl) Wk.refl ?_
  show Sem _ _ _ _ _
  refine wkD [34] ?_
  obtain ⟨r0,hc1,h⟩:=h
  obtain ⟨h2,h⟩:=h
  refine sD kk [.c (vS r0) []] [1,10] [(7,vS (r0++bytesT (List.take (1:Nat) (List.drop (0:Nat) [FV.pv (Value.int IntKind.u8 (IntKind.wrap IntKind.u8 (w64 ((48:Int)+Int.tmod n (10:Int)))))]))))] (obC (show (10:Int)≠(0:Int) from by first | decide | rfl | trivial | (simp only [nm]<;>first | decide | rfl | omega)) (obC hc1 (obC (show (↑(ByteArray.size r0+ByteArray.size (bytesT (List.take (1:Nat) (List.drop (0:Nat) [FV.pv (Value.int IntKind.u8 (IntKind.wrap IntKind.u8 (w64 ((48:Int)+Int.tmod n (10:Int)))))])))):Int)≤IntKind.max IntKind.i64 from by simpa only [nm] using h2) obN))) ?_
  refine tD ?_
  obtain he0:=h
  subst res
  exact (endD [] (vS (r0++bytesT (List.take (1:Nat) (List.drop (0:Nat) [FV.pv (Value.int IntKind.u8 (IntKind.wrap IntKind.u8 (w64 ((48:Int)+Int.tmod n (10:Int)))))])))) []).1
set_option maxHeartbeats 1000000 in
theorem W_heckleref03_Text (x:api_Rx) (res:ByteArray)
 (h:(((api_Rx.Kind x == 1)=true→(res=({ data:=#[(40:UInt8),(41:UInt8)] })))∧((api_Rx.Kind x == 1)=false→(((api_Rx.Kind x == (2:Int))=true→(∃ r0:ByteArray,C_heckleref03_bytes (api_Rx.Set x) r0∧(res=r0)))∧((api_Rx.Kind x == (2:Int))=false→(((api_Rx.Kind x == (5:Int))=true→(0:Nat) < List.length (api_Rx.Kids x)∧(0:Nat) < List.length (api_Rx.Kids x)∧(∃ r0_1:ByteArray,C_heckleref03_in (List.getD (api_Rx.Kids x) (0:Nat) default) (decide (api_Rx.Kind (List.getD (api_Rx.Kids x) (0:Nat) default)≥(3:Int))) r0_1∧((↑(ByteArray.size r0_1+ByteArray.size { data:=#[(123:UInt8)] }):Int)≤IntKind.max IntKind.i64)∧(∃ r0_2:ByteArray,C_heckleref03_Digits (api_Rx.Lo x) r0_2∧((↑(ByteArray.size (r0_1++{ data:=#[(123:UInt8)] })+ByteArray.size r0_2):Int)≤IntKind.max IntKind.i64)∧((↑(ByteArray.size (r0_1++{ data:=#[(123:UInt8)] }++r0_2)+ByteArray.size { data:=#[(44:UInt8)] }):Int)≤IntKind.max IntKind.i64)∧(∃ J14:ByteArray→Prop,(∀ (s0:ByteArray),J14 s0→((↑(ByteArray.size s0+ByteArray.size { data:=#[(125:UInt8)] }):Int)≤IntKind.max IntKind.i64)∧(res=(s0++{ data:=#[(125:UInt8)] })))∧(((decide (api_Rx.Hi x≥(0:Int)))=true→(∃ r0_4:ByteArray,C_heckleref03_Digits (api_Rx.Hi x) r0_4∧((↑(ByteArray.size (r0_1++{ data:=#[(123:UInt8)] }++r0_2++{ data:=#[(44:UInt8)] })+ByteArray.size r0_4):Int)≤IntKind.max IntKind.i64)∧J14 (r0_1++{ data:=#[(123:UInt8)] }++r0_2++{ data:=#[(44:UInt8)] }++r0_4)))∧((decide (api_Rx.Hi x≥(0:Int)))=false→J14 (r0_1++{ data:=#[(123:UInt8)] }++r0_2++{ data:=#[(44:UInt8)] })))))))∧((api_Rx.Kind x == (5:Int))=false→(∃ (Inv47:ByteArray→Int→Prop) (mu48:ByteArray→Int→Nat),Inv47 ({ data:=#[] }) 0∧(∀ (s0_1:ByteArray) (i:Int),Inv47 s0_1 i→(((decide (i < (↑(List.length (api_Rx.Kids x)):Int)))=true→(∃ J53:ByteArray→Prop,(∀ (s0_3:ByteArray),J53 s0_3→((0:Int)≤i)∧i < ↑(List.length (api_Rx.Kids x))∧(((api_Rx.Kind x == (3:Int))=true→((api_Rx.Kind x == (3:Int))=true→((0:Int)≤i))∧((api_Rx.Kind x == (3:Int))=true→i < ↑(List.length (api_Rx.Kids x)))∧(∃ r0_9:ByteArray,C_heckleref03_in (gd (api_Rx.Kids x) i) (api_Rx.Kind (gd (api_Rx.Kids x) i) == (4:Int)) r0_9∧((api_Rx.Kind x == (3:Int))=true→((↑(ByteArray.size s0_3+ByteArray.size r0_9):Int)≤IntKind.max IntKind.i64))∧(Inv47 (s0_3++r0_9) (w64 (i+1))∧mu48 (s0_3++r0_9) (w64 (i+1)) < mu48 s0_1 i)))∧((api_Rx.Kind x == (3:Int))=false→(∃ r0_10:ByteArray,C_heckleref03_in (gd (api_Rx.Kids x) i) false r0_10∧((api_Rx.Kind x == (3:Int))=false→((↑(ByteArray.size s0_3+ByteArray.size r0_10):Int)≤IntKind.max IntKind.i64))∧(Inv47 (s0_3++r0_10) (w64 (i+1))∧mu48 (s0_3++r0_10) (w64 (i+1)) < mu48 s0_1 i)))))∧(((decide (i > (0:Int)) && api_Rx.Kind x == (4:Int))=true→((↑(ByteArray.size s0_1+ByteArray.size { data:=#[(124:UInt8)] }):Int)≤IntKind.max IntKind.i64)∧J53 (s0_1++{ data:=#[(124:UInt8)] }))∧((decide (i > (0:Int)) && api_Rx.Kind x == (4:Int))=false→J53 s0_1))))∧((decide (i < (↑(List.length (api_Rx.Kids x)):Int)))=false→(res=s0_1)))))))))))):C_heckleref03_Text x res:=by
 unfold C_heckleref03_Text
 have kk:=cfOk [80] 81
 refine fD (x:=bodyOf Try.f35) kk Try.func35 ?_
 refine wkS [1] [(1,av_api_Rx x)] (by kernel_rfl) ?_
 refine sD kk [] [1] [(4,.ptr 5 0),(5,av_api_Rx x)] obN ?_
 refine qD ?_
 refine sD kk [] [] [(22,vi (api_Rx.Kind x))] obN ?_
 refine bD (id:=0) ?_
 refine sD kk [] [] [(25,vB (api_Rx.Kind x == 1))] obN ?_
 refine cD (t:=8) (b:=api_Rx.Kind x == 1) (fun hb0=>?_) (fun hb0=>?_)
 ·have h:=h.1 hb0
  refine sD kk [] [4,5,22,25] [(7,vS ({ data:=#[(40:UInt8),(41:UInt8)] }))] obN ?_
  refine tD ?_
  obtain he0:=h
  subst res
  exact (endD [] (vS ({ data:=#[(40:UInt8),(41:UInt8)] })) []).1
 ·have h:=h.2 hb0
  refine sD kk [] [25] [(31,vB (api_Rx.Kind x == (2:Int)))] obN ?_
  refine cD (t:=10) (b:=api_Rx.Kind x == (2:Int)) (fun hb1=>?_) (fun hb1=>?_)
  ·have h:=h.1 hb1
   obtain ⟨r0,hc2,h⟩:=h
   refine sD kk [.c (vS r0) []] [4,5,22,31] [(7,vS r0)] (obC hc2 obN) ?_
   refine tD ?_
   obtain he0:=h
   subst res
   exact (endD [] (vS r0) []).1
  ·have h:=h.2 hb1
   refine sD kk [] [22,31] [(46,vB (api_Rx.Kind x == (5:Int)))] obN ?_
   refine cD (t:=15) (b:=api_Rx.Kind x == (5:Int)) (fun hb3=>?_) (fun hb3=>?_)
   ·have h:=h.1 hb3
    obtain ⟨h4,h⟩:=h
    obtain ⟨h5,h⟩:=h
    obtain ⟨r0_1,hc6,h⟩:=h
    obtain ⟨h7,h⟩:=h
    obtain ⟨r0_2,hc8,h⟩:=h
    obtain ⟨h9,h⟩:=h
    obtain ⟨h10,h⟩:=h
    refine sD kk [.e (fv_api_Rx (List.getD (api_Rx.Kids x) (0:Nat) default)),.e (fv_api_Rx (List.getD (api_Rx.Kids x) (0:Nat) default)),.c (vS r0_1) [],.c (vS r0_2) []] [46] [(10,vS (r0_1++{ data:=#[(123:UInt8)] }++r0_2++{ data:=#[(44:UInt8)] }))] (obC (show (0:Int)≤(0:Int) from by first | decide | rfl | trivial | (simp only [nm]<;>first | decide | rfl | omega)) (obC (show (List.map enc_api_Rx (api_Rx.Kids x))[(Int.toNat (0:Int):Nat)]?=some (fv_api_Rx (List.getD (api_Rx.Kids x) (0:Nat) default)) from by have:=idx_ok' enc_api_Rx (api_Rx.Kids x) ((0:Nat)) _ (enc_api_Rx_eq _) h4;simpa only [nm,enq,enc_api_Rx_eq] using this) (obC (show (0:Int)≤(0:Int) from by first | decide | rfl | trivial | (simp only [nm]<;>first | decide | rfl | omega)) (obC (show (List.map enc_api_Rx (api_Rx.Kids x))[(Int.toNat (0:Int):Nat)]?=some (fv_api_Rx (List.getD (api_Rx.Kids x) (0:Nat) default)) from by have:=idx_ok' enc_api_Rx (api_Rx.Kids x) ((0:Nat)) _ (enc_api_Rx_eq _) h5;simpa only [nm,enq,enc_api_Rx_eq] using this) (obC hc6 (obC h7 (obC hc8 (obC h9 (obC h10 obN))))))))) ?_
    obtain ⟨J14,hJ14,h⟩:=h
    refine sjD (fun (q:ByteArray)=>J14 q) (fun (q:ByteArray)=>(fun (s0:ByteArray)=>([(10,vS s0)]:Sta)) q) ?_ ?_
    ·rintro s0 hj
     have h:=hJ14 s0 hj
     obtain ⟨h15,h⟩:=h
     refine sD kk [] [10] [(7,vS (s0++{ data:=#[(125:UInt8)] }))] (obC h15 obN) ?_
     refine tD ?_
     obtain he0:=h
     subst res
     exact (endD [] (vS (s0++{ data:=#[(125:UInt8)] })) []).1
    ·refine sD kk [] [] [(109,vB (decide (api_Rx.Hi x≥(0:Int))))] obN ?_
     refine cD (t:=36) (b:=decide (api_Rx.Hi x≥(0:Int))) (fun hb16=>?_) (fun hb16=>?_)
     ·have h:=h.1 hb16
      obtain ⟨r0_4,hc17,h⟩:=h
      obtain ⟨h18,h⟩:=h
      refine rD kk [.c (vS r0_4) []] [4,5,109] [(10,vS (r0_1++{ data:=#[(123:UInt8)] }++r0_2++{ data:=#[(44:UInt8)] }++r0_4))] (obC hc17 (obC h18 obN)) ?_
      exact jD (r0_1++{ data:=#[(123:UInt8)] }++r0_2++{ data:=#[(44:UInt8)] }++r0_4) [] h
     ·have h:=h.2 hb16
      refine Sem.skip' (by kernel_rfl) Wk.refl ?_
      exact jD (r0_1++{ data:=#[(123:UInt8)] }++r0_2++{ data:=#[(44:UInt8)] }) [] h
   ·have h:=h.2 hb3
    refine Sem.skip' (by kernel_rfl) Wk.refl ?_
    show Sem _ _ _ _ _
    refine wkD [46] ?_
    refine sD kk [] [] [(13,vS ({ data:=#[] }))] obN ?_
    refine qD ?_
    refine sD kk [] [] [(16,vi 0)] obN ?_
    refine bD (id:=1) ?_
    obtain ⟨Inv47,mu48,h0Inv47,hInv47⟩:=h
    refine loD (fun (q:ByteArray×Int)=>(fun (s0_1:ByteArray) (i:Int)=>([(4,.ptr 5 0),(5,av_api_Rx x),(13,vS s0_1),(16,vi i)]:Sta)) q.1 q.2) (fun (q:ByteArray×Int)=>Inv47 q.1 q.2) (fun (q:ByteArray×Int)=>mu48 q.1 q.2) (({ data:=#[] }),0) [] h0Inv47 ?_
    rintro ⟨s0_1,i⟩ hi
    have h:=hInv47 s0_1 i hi
    refine qD ?_
    refine sDE kk [] [] [(145,vB (decide (i < (↑(List.length (List.map enc_api_Rx (api_Rx.Kids x))):Int))))] [(145,vB (decide (i < (↑(List.length (api_Rx.Kids x)):Int))))] obN ?_
    refine cD (t:=48) (b:=decide (i < (↑(List.length (api_Rx.Kids x)):Int))) (fun hb49=>?_) (fun hb49=>?_)
    ·have h:=h.1 hb49
     refine Sem.skip' (by kernel_rfl) Wk.refl ?_
     show Sem _ _ _ _ _
     refine wkD [145] ?_
     refine qD ?_
     refine bD (id:=2) ?_
     obtain ⟨J53,hJ53,h⟩:=h
     refine sjD (fun (q:ByteArray)=>J53 q) (fun (q:ByteArray)=>(fun (s0_3:ByteArray)=>([(4,.ptr 5 0),(5,av_api_Rx x),(13,vS s0_3),(16,vi i)]:Sta)) q) ?_ ?_
     ·rintro s0_3 hj
      have h:=hJ53 s0_3 hj
      obtain ⟨h54,h⟩:=h
      obtain ⟨h55,h⟩:=h
      rcases Bool.eq_false_or_eq_true (api_Rx.Kind x == (3:Int)) with hb56 | hb56
      ·have h:=h.1 hb56
       obtain ⟨h57,h⟩:=h
       obtain ⟨h58,h⟩:=h
       obtain ⟨r0_9,hc59,h⟩:=h
       obtain ⟨h60,h⟩:=h
       refine rD kk [.e (fv_api_Rx (gd (api_Rx.Kids x) i)),.b true,.b true,.b true,.b true,.e (fv_api_Rx (gd (api_Rx.Kids x) i)),.b true,.b true,.b true,.b true,.c (vS r0_9) []] [] [(13,vS (s0_3++r0_9))] (obC h54 (obC (idx_ok enc_api_Rx (api_Rx.Kids x) i _ (enc_api_Rx_eq _) h54 h55) (obC (gtt hb56) (obC (gtt hb56) (obC (gtt hb56) (obC (gtt hb56) (obC (h57 hb56) (obC (idx_ok enc_api_Rx (api_Rx.Kids x) i _ (enc_api_Rx_eq _) (h57 hb56) (h58 hb56)) (obC (gtt hb56) (obC (gtt hb56) (obC (gtt hb56) (obC hb56 (obC hc59 (obC (h60 hb56) obN)))))))))))))) ?_
       show Sem _ _ _ _ _
       refine rD kk [] [] [(16,vi (w64 (i+1)))] obN ?_
       exact lD ((s0_3++r0_9),(w64 (i+1))) [] h
      ·have h:=h.2 hb56
       obtain ⟨r0_10,hc61,h⟩:=h
       obtain ⟨h62,h⟩:=h
       refine rD kk [.e (fv_api_Rx (gd (api_Rx.Kids x) i)),.b false,.b false,.b false,.b false,.b false,.b false,.b false,.b false,.c (vS r0_10) []] [] [(13,vS (s0_3++r0_10))] (obC h54 (obC (idx_ok enc_api_Rx (api_Rx.Kids x) i _ (enc_api_Rx_eq _) h54 h55) (obC (gtf hb56) (obC (gtf hb56) (obC (gtf hb56) (obC (gtf hb56) (obC (gtf hb56) (obC (gtf hb56) (obC (gtf hb56) (obC hb56 (obC hc61 (obC (h62 hb56) obN)))))))))))) ?_
       show Sem _ _ _ _ _
       refine rD kk [] [] [(16,vi (w64 (i+1)))] obN ?_
       exact lD ((s0_3++r0_10),(w64 (i+1))) [] h
     ·refine sM [] [(172,vB (decide (i > (0:Int)) && api_Rx.Kind x == (4:Int)))] ?_ (fun hk0=>?_)
      ·refine cD (t:=57) (b:=decide (i > (0:Int)) && api_Rx.Kind x == (4:Int)) (fun hb64=>?_) (fun hb64=>?_)
       ·have h:=h.1 hb64
        obtain ⟨h65,h⟩:=h
        refine rD kk [] [172] [(13,vS (s0_1++{ data:=#[(124:UInt8)] }))] (obC h65 obN) ?_
        exact jD (s0_1++{ data:=#[(124:UInt8)] }) [] h
       ·have h:=h.2 hb64
        refine Sem.skip' (by kernel_rfl) Wk.refl ?_
        exact jD s0_1 [] h
      ·rcases Bool.eq_false_or_eq_true (decide (i > (0:Int))) with hb63 | hb63
       ·refine sD kk [.b true,.b true,.b true,.b true] [] [(172,vB (api_Rx.Kind x == (4:Int)))] (obC (gtt hb63) (obC (gtt hb63) (obC (gtt hb63) (obC hb63 obN)))) ?_
        exact Sem.cast (by try rw [hb63];kernel_rfl) hk0
       ·refine sD kk [.b false,.b false,.b false,.b false] [] [(172,vB false)] (obC (gtf hb63) (obC (gtf hb63) (obC (gtf hb63) (obC hb63 obN)))) ?_
        exact Sem.cast (by try rw [hb63];kernel_rfl) hk0
    ·have h:=h.2 hb49
     refine xD (i:=1) ?_
     show Sem _ _ _ _ _
     refine wkD [4,5,16,145] ?_
     refine sD kk [] [13] [(7,vS s0_1)] obN ?_
     refine tD ?_
     obtain he0:=h
     subst res
     exact (endD [] (vS s0_1) []).1
set_option maxHeartbeats 1000000 in
theorem W_heckleref15_Bools (a:(List Bool)) (b:(List Bool)) (res:Bool)
 (h:((((↑(List.length a):Int) != (↑(List.length b):Int))=true→(res=false))∧(((↑(List.length a):Int) != (↑(List.length b):Int))=false→(∃ (Inv11:Int→Prop) (mu12:Int→Nat),Inv11 0∧(∀ (i:Int),Inv11 i→(((decide (i < (↑(List.length a):Int)))=true→((0:Int)≤i)∧i < ↑(List.length a)∧((0:Int)≤i)∧i < ↑(List.length b)∧(((!gd a i == gd b i)=true→(res=false))∧((!gd a i == gd b i)=false→(Inv11 (w64 (i+1))∧mu12 (w64 (i+1)) < mu12 i))))∧((decide (i < (↑(List.length a):Int)))=false→(res=true)))))))):C_heckleref15_Bools a b res:=by
 unfold C_heckleref15_Bools
 have kk:=cfOk [] 26
 refine fD (x:=bodyOf Try.f36) kk Try.func36 ?_
 refine wkS [1,4] [(1,vL enc_bool a),(4,vL enc_bool b)] (by kernel_rfl) ?_
 refine sD kk [] [] [] obN ?_
 refine qD ?_
 refine sDE kk [] [] [(31,vB ((↑(List.length (List.map enc_bool a)):Int) != (↑(List.length (List.map enc_bool b)):Int)))] [(31,vB ((↑(List.length a):Int) != (↑(List.length b):Int)))] obN ?_
 refine cD (t:=10) (b:=(↑(List.length a):Int) != (↑(List.length b):Int)) (fun hb0=>?_) (fun hb0=>?_)
 ·have h:=h.1 hb0
  refine sD kk [] [1,4,31] [(13,vB false)] obN ?_
  refine tD ?_
  obtain he0:=h
  subst res
  exact (endD [] (vB false) []).1
 ·have h:=h.2 hb0
  refine Sem.skip' (by kernel_rfl) Wk.refl ?_
  show Sem _ _ _ _ _
  refine wkD [31] ?_
  refine qD ?_
  refine sD kk [] [] [(16,vi 0)] obN ?_
  refine bD (id:=0) ?_
  obtain ⟨Inv11,mu12,h0Inv11,hInv11⟩:=h
  refine loD (fun (q:Int)=>(fun (i:Int)=>([(1,vL enc_bool a),(4,vL enc_bool b),(16,vi i)]:Sta)) q) (fun (q:Int)=>Inv11 q) (fun (q:Int)=>mu12 q) 0 [] h0Inv11 ?_
  rintro i hi
  have h:=hInv11 i hi
  refine qD ?_
  refine sDE kk [] [] [(43,vB (decide (i < (↑(List.length (List.map enc_bool a)):Int))))] [(43,vB (decide (i < (↑(List.length a):Int))))] obN ?_
  refine cD (t:=14) (b:=decide (i < (↑(List.length a):Int))) (fun hb13=>?_) (fun hb13=>?_)
  ·have h:=h.1 hb13
   refine Sem.skip' (by kernel_rfl) Wk.refl ?_
   show Sem _ _ _ _ _
   refine wkD [43] ?_
   refine qD ?_
   refine bD (id:=1) ?_
   obtain ⟨h14,h⟩:=h
   obtain ⟨h15,h⟩:=h
   obtain ⟨h16,h⟩:=h
   obtain ⟨h17,h⟩:=h
   refine sD kk [.e (fB (gd a i)),.e (fB (gd b i))] [] [(76,vB (!gd a i == gd b i))] (obC h14 (obC (idx_ok enc_bool a i _ rfl h14 h15) (obC h16 (obC (idx_ok enc_bool b i _ rfl h16 h17) obN)))) ?_
   refine cD (t:=25) (b:=!gd a i == gd b i) (fun hb18=>?_) (fun hb18=>?_)
   ·have h:=h.1 hb18
    refine sD kk [] [1,4,16,76] [(13,vB false)] obN ?_
    refine tD ?_
    obtain he0:=h
    subst res
    exact (endD [] (vB false) []).1
   ·have h:=h.2 hb18
    refine Sem.skip' (by kernel_rfl) Wk.refl ?_
    show Sem _ _ _ _ _
    refine wkD [76] ?_
    refine rD kk [] [] [(16,vi (w64 (i+1)))] obN ?_
    exact lD (w64 (i+1)) [] h
  ·have h:=h.2 hb13
   refine xD (i:=0) ?_
   show Sem _ _ _ _ _
   refine wkD [1,4,16,43] ?_
   refine sD kk [] [] [(13,vB true)] obN ?_
   refine tD ?_
   obtain he0:=h
   subst res
   exact (endD [] (vB true) []).1
set_option maxHeartbeats 1000000 in
theorem W_hecklelaw15_awake (res:Bool)
 (h:(∃ r0:api_Rx,C_hecklelaw15_char ((97:Int)) r0∧(∃ r0_1:api_Rx,C_hecklelaw15_char ((98:Int)) r0_1∧(∃ r0_2:api_Rx,∃ r0_3:Int,C_split_Reverse ({ Kind:=(3:Int),Set:={ e0:=(0:Int),e1:=(0:Int),e2:=(0:Int),e3:=(0:Int) },Lo:=(0:Int),Hi:=(0:Int),Kids:=[r0,{ Kind:=(5:Int),Set:={ e0:=(0:Int),e1:=(0:Int),e2:=(0:Int),e3:=(0:Int) },Lo:=(0:Int),Hi:=(-1:Int),Kids:=[r0_1] }] }) r0_2 r0_3∧(∃ r0_4:api_Rx,∃ r0_5:Int,C_split_Reverse ({ Kind:=(0:Int),Set:={ e0:=(0:Int),e1:=(0:Int),e2:=(0:Int),e3:=(0:Int) },Lo:=(0:Int),Hi:=(0:Int),Kids:=[] }) r0_4 r0_5∧(∃ r0_6:List Bool,C_split_Ahead ({ Kind:=(3:Int),Set:={ e0:=(0:Int),e1:=(0:Int),e2:=(0:Int),e3:=(0:Int) },Lo:=(0:Int),Hi:=(0:Int),Kids:=[r0,{ Kind:=(5:Int),Set:={ e0:=(0:Int),e1:=(0:Int),e2:=(0:Int),e3:=(0:Int) },Lo:=(0:Int),Hi:=(-1:Int),Kids:=[r0_1] }] }) ({ data:=#[(97:UInt8),(98:UInt8),(98:UInt8)] }) r0_6∧(((r0_3 == 0)=true→(∃ r0_7:ByteArray,C_heckleref03_Text r0_2 r0_7∧(((ByteArray.toList r0_7 == ByteArray.toList { data:=#[(98:UInt8),(123:UInt8),(48:UInt8),(44:UInt8),(125:UInt8),(97:UInt8)] })=true→(((r0_5 == 1)=true→(∃ r0_8:Bool,C_heckleref15_Bools r0_6 ([false,true,true,true]) r0_8∧(((r0_8)=true→(∃ r0_9:api_Rx,C_hecklelaw15_char ((98:Int)) r0_9∧(∃ r0_10:Int,C_split_Split ({ Conds:=[],All:=false,Bol:=false,Rx:={ Kind:=(3:Int),Set:={ e0:=(0:Int),e1:=(0:Int),e2:=(0:Int),e3:=(0:Int) },Lo:=(0:Int),Hi:=(0:Int),Kids:=[r0,{ Kind:=(5:Int),Set:={ e0:=(0:Int),e1:=(0:Int),e2:=(0:Int),e3:=(0:Int) },Lo:=(0:Int),Hi:=(-1:Int),Kids:=[r0_1] }] },Trail:=r0_9,Eof:=false,Act:=(0:Int),To:=(0:Int) }) ({ data:=#[(97:UInt8),(98:UInt8),(98:UInt8)] }) r0_10∧(((r0_10 == (2:Int))=true→(∃ r0_11:Int,C_split_Split ({ Conds:=[],All:=false,Bol:=false,Rx:={ Kind:=(3:Int),Set:={ e0:=(0:Int),e1:=(0:Int),e2:=(0:Int),e3:=(0:Int) },Lo:=(0:Int),Hi:=(0:Int),Kids:=[r0,{ Kind:=(5:Int),Set:={ e0:=(0:Int),e1:=(0:Int),e2:=(0:Int),e3:=(0:Int) },Lo:=(0:Int),Hi:=(-1:Int),Kids:=[r0_1] }] },Trail:={ Kind:=(0:Int),Set:={ e0:=(0:Int),e1:=(0:Int),e2:=(0:Int),e3:=(0:Int) },Lo:=(0:Int),Hi:=(0:Int),Kids:=[] },Eof:=false,Act:=(0:Int),To:=(0:Int) }) ({ data:=#[(97:UInt8),(98:UInt8),(98:UInt8)] }) r0_11∧(res=(r0_11 == (3:Int)))))∧((r0_10 == (2:Int))=false→(res=false))))))∧((r0_8)=false→(res=false)))))∧((r0_5 == 1)=false→(res=false))))∧((ByteArray.toList r0_7 == ByteArray.toList { data:=#[(98:UInt8),(123:UInt8),(48:UInt8),(44:UInt8),(125:UInt8),(97:UInt8)] })=false→(res=false)))))∧((r0_3 == 0)=false→(res=false))))))))):C_hecklelaw15_awake res:=by
 unfold C_hecklelaw15_awake
 have kk:=cfOk [] 54
 refine fD (x:=bodyOf Try.f12) kk Try.func12 ?_
 refine wkS [] [] (by kernel_rfl) ?_
 refine sD kk [] [] [] obN ?_
 obtain ⟨r0,hc0,h⟩:=h
 obtain ⟨r0_1,hc1,h⟩:=h
 refine sDE kk [.c (ao_api_Rx r0) [],.c (ao_api_Rx r0_1) []] [] [(4,.ptr 5 0),(5,.agg [vi 3,vI .u64 0,vI .u64 0,vI .u64 0,vI .u64 0,vi 0,vi 0,.f (FV.sl (List.take (List.length [FV.agg [FV.pv (Value.int IntKind.i64 (api_Rx.Kind r0)),FV.pv (Value.int IntKind.u64 (arr4_uint64.e0 (api_Rx.Set r0))),FV.pv (Value.int IntKind.u64 (arr4_uint64.e1 (api_Rx.Set r0))),FV.pv (Value.int IntKind.u64 (arr4_uint64.e2 (api_Rx.Set r0))),FV.pv (Value.int IntKind.u64 (arr4_uint64.e3 (api_Rx.Set r0))),FV.pv (Value.int IntKind.i64 (api_Rx.Lo r0)),FV.pv (Value.int IntKind.i64 (api_Rx.Hi r0)),FV.sl (List.take (List.length (List.map enc_api_Rx (api_Rx.Kids r0))) (List.drop (0:Nat) (List.map enc_api_Rx (api_Rx.Kids r0))))],FV.agg [FV.pv (Value.int IntKind.i64 (5)),FV.pv (Value.int IntKind.u64 (0)),FV.pv (Value.int IntKind.u64 (0)),FV.pv (Value.int IntKind.u64 (0)),FV.pv (Value.int IntKind.u64 (0)),FV.pv (Value.int IntKind.i64 (0)),FV.pv (Value.int IntKind.i64 (-1)),FV.sl (List.take (List.length [FV.agg [FV.pv (Value.int IntKind.i64 (api_Rx.Kind r0_1)),FV.pv (Value.int IntKind.u64 (arr4_uint64.e0 (api_Rx.Set r0_1))),FV.pv (Value.int IntKind.u64 (arr4_uint64.e1 (api_Rx.Set r0_1))),FV.pv (Value.int IntKind.u64 (arr4_uint64.e2 (api_Rx.Set r0_1))),FV.pv (Value.int IntKind.u64 (arr4_uint64.e3 (api_Rx.Set r0_1))),FV.pv (Value.int IntKind.i64 (api_Rx.Lo r0_1)),FV.pv (Value.int IntKind.i64 (api_Rx.Hi r0_1)),FV.sl (List.take (List.length (List.map enc_api_Rx (api_Rx.Kids r0_1))) (List.drop (0:Nat) (List.map enc_api_Rx (api_Rx.Kids r0_1))))]]) (List.drop (0:Nat) [FV.agg [FV.pv (Value.int IntKind.i64 (api_Rx.Kind r0_1)),FV.pv (Value.int IntKind.u64 (arr4_uint64.e0 (api_Rx.Set r0_1))),FV.pv (Value.int IntKind.u64 (arr4_uint64.e1 (api_Rx.Set r0_1))),FV.pv (Value.int IntKind.u64 (arr4_uint64.e2 (api_Rx.Set r0_1))),FV.pv (Value.int IntKind.u64 (arr4_uint64.e3 (api_Rx.Set r0_1))),FV.pv (Value.int IntKind.i64 (api_Rx.Lo r0_1)),FV.pv (Value.int IntKind.i64 (api_Rx.Hi r0_1)),FV.sl (List.take (List.length (List.map enc_api_Rx (api_Rx.Kids r0_1))) (List.drop (0:Nat) (List.map enc_api_Rx (api_Rx.Kids r0_1))))]]))]]) (List.drop (0:Nat) [FV.agg [FV.pv (Value.int IntKind.i64 (api_Rx.Kind r0)),FV.pv (Value.int IntKind.u64 (arr4_uint64.e0 (api_Rx.Set r0))),FV.pv (Value.int IntKind.u64 (arr4_uint64.e1 (api_Rx.Set r0))),FV.pv (Value.int IntKind.u64 (arr4_uint64.e2 (api_Rx.Set r0))),FV.pv (Value.int IntKind.u64 (arr4_uint64.e3 (api_Rx.Set r0))),FV.pv (Value.int IntKind.i64 (api_Rx.Lo r0)),FV.pv (Value.int IntKind.i64 (api_Rx.Hi r0)),FV.sl (List.take (List.length (List.map enc_api_Rx (api_Rx.Kids r0))) (List.drop (0:Nat) (List.map enc_api_Rx (api_Rx.Kids r0))))],FV.agg [FV.pv (Value.int IntKind.i64 (5)),FV.pv (Value.int IntKind.u64 (0)),FV.pv (Value.int IntKind.u64 (0)),FV.pv (Value.int IntKind.u64 (0)),FV.pv (Value.int IntKind.u64 (0)),FV.pv (Value.int IntKind.i64 (0)),FV.pv (Value.int IntKind.i64 (-1)),FV.sl (List.take (List.length [FV.agg [FV.pv (Value.int IntKind.i64 (api_Rx.Kind r0_1)),FV.pv (Value.int IntKind.u64 (arr4_uint64.e0 (api_Rx.Set r0_1))),FV.pv (Value.int IntKind.u64 (arr4_uint64.e1 (api_Rx.Set r0_1))),FV.pv (Value.int IntKind.u64 (arr4_uint64.e2 (api_Rx.Set r0_1))),FV.pv (Value.int IntKind.u64 (arr4_uint64.e3 (api_Rx.Set r0_1))),FV.pv (Value.int IntKind.i64 (api_Rx.Lo r0_1)),FV.pv (Value.int IntKind.i64 (api_Rx.Hi r0_1)),FV.sl (List.take (List.length (List.map enc_api_Rx (api_Rx.Kids r0_1))) (List.drop (0:Nat) (List.map enc_api_Rx (api_Rx.Kids r0_1))))]]) (List.drop (0:Nat) [FV.agg [FV.pv (Value.int IntKind.i64 (api_Rx.Kind r0_1)),FV.pv (Value.int IntKind.u64 (arr4_uint64.e0 (api_Rx.Set r0_1))),FV.pv (Value.int IntKind.u64 (arr4_uint64.e1 (api_Rx.Set r0_1))),FV.pv (Value.int IntKind.u64 (arr4_uint64.e2 (api_Rx.Set r0_1))),FV.pv (Value.int IntKind.u64 (arr4_uint64.e3 (api_Rx.Set r0_1))),FV.pv (Value.int IntKind.i64 (api_Rx.Lo r0_1)),FV.pv (Value.int IntKind.i64 (api_Rx.Hi r0_1)),FV.sl (List.take (List.length (List.map enc_api_Rx (api_Rx.Kids r0_1))) (List.drop (0:Nat) (List.map enc_api_Rx (api_Rx.Kids r0_1))))]]))]])))])] [(4,.ptr 5 0),(5,.agg [vi 3,vI .u64 0,vI .u64 0,vI .u64 0,vI .u64 0,vi 0,vi 0,vL enc_api_Rx ([r0,{ Kind:=(5:Int),Set:={ e0:=(0:Int),e1:=(0:Int),e2:=(0:Int),e3:=(0:Int) },Lo:=(0:Int),Hi:=(-1:Int),Kids:=[r0_1] }])])] (obC hc0 (obC hc1 obN)) ?_
 obtain ⟨r0_2,r0_3,hc2,h⟩:=h
 refine sD kk [.c (.tup [av_api_Rx r0_2,vi r0_3]) []] [] [(7,.ptr 8 0),(8,av_api_Rx r0_2),(10,vi r0_3)] (obC hc2 obN) ?_
 obtain ⟨r0_4,r0_5,hc3,h⟩:=h
 refine sD kk [.c (.tup [av_api_Rx r0_4,vi r0_5]) []] [] [(16,vi r0_5)] (obC (Eq.mp (by unfold C_split_Reverse;(try simp only [List.drop_zero,List.take_length]);first | done | simp only [nm,enq]:C_split_Reverse ({ Kind:=(0:Int),Set:={ e0:=(0:Int),e1:=(0:Int),e2:=(0:Int),e3:=(0:Int) },Lo:=(0:Int),Hi:=(0:Int),Kids:=[] }) r0_4 r0_5=CallE Try.prog 14 [.agg [vi 0,vI .u64 0,vI .u64 0,vI .u64 0,vI .u64 0,vi 0,vi 0,.f (FV.sl [])]] [] (.tup [av_api_Rx r0_4,vi r0_5]) []) hc3) obN) ?_
 obtain ⟨r0_6,hc4,h⟩:=h
 refine sD kk [.c (oL 4 enc_bool r0_6) []] [] [(19,oL 4 enc_bool r0_6)] (obC hc4 obN) ?_
 rcases Bool.eq_false_or_eq_true (r0_3 == 0) with hb5 | hb5
 ·have h:=h.1 hb5
  obtain ⟨r0_7,hc6,h⟩:=h
  rcases Bool.eq_false_or_eq_true (ByteArray.toList r0_7 == ByteArray.toList { data:=#[(98:UInt8),(123:UInt8),(48:UInt8),(44:UInt8),(125:UInt8),(97:UInt8)] }) with hb7 | hb7
  ·have h:=h.1 hb7
   rcases Bool.eq_false_or_eq_true (r0_5 == 1) with hb8 | hb8
   ·have h:=h.1 hb8
    obtain ⟨r0_8,hc9,h⟩:=h
    rcases Bool.eq_false_or_eq_true (r0_8) with hb10 | hb10
    ·have h:=h.1 hb10
     obtain ⟨r0_9,hc11,h⟩:=h
     obtain ⟨r0_10,hc12,h⟩:=h
     rcases Bool.eq_false_or_eq_true (r0_10 == (2:Int)) with hb13 | hb13
     ·have h:=h.1 hb13
      obtain ⟨r0_11,hc14,h⟩:=h
      refine sD kk [.b true,.b true,.c (vS r0_7) [],.b true,.b true,.b true,.b true,.b true,.b true,.b true,.b true,.c (vB r0_8) [],.b true,.b true,.b true,.c (ao_api_Rx r0_9) [],.b true,.b true,.c (vi r0_10) [],.b true,.b true,.b true,.b true,.b true,.c (vi r0_11) [],.b true,.b true] [4,5,7,8,10,16,19] [(1,vB (r0_11 == (3:Int)))] (obC (gtt hb5) (obC (gtt hb5) (obC hc6 (obC (gtt hb5) (obC hb5 (obC (gtt hb7) (obC (gtt hb7) (obC hb7 (obC (gtt hb8) (obC (gtt hb8) (obC (gtt hb8) (obC (Eq.mp (by unfold C_heckleref15_Bools;(try simp only [List.drop_zero,List.take_length]);first | done | simp only [nm,enq]:C_heckleref15_Bools r0_6 ([false,true,true,true]) r0_8=CallE Try.prog 36 [.f (FV.sl (List.take (List.length (List.map enc_bool r0_6)) (List.drop (0:Nat) (List.map enc_bool r0_6)))),.f (FV.sl (List.take (List.length [FV.pv (Value.bool false),FV.pv (Value.bool true),FV.pv (Value.bool true),FV.pv (Value.bool true)]) (List.drop (0:Nat) [FV.pv (Value.bool false),FV.pv (Value.bool true),FV.pv (Value.bool true),FV.pv (Value.bool true)])))] [] (vB r0_8) []) hc9) (obC hb8 (obC (gtt hb10) (obC (gtt hb10) (obC hc11 (obC (gtt hb10) (obC (gtt hb10) (obC (Eq.mp (by unfold C_split_Split;(try simp only [List.drop_zero,List.take_length]);first | done | simp only [nm,enq]:C_split_Split ({ Conds:=[],All:=false,Bol:=false,Rx:={ Kind:=(3:Int),Set:={ e0:=(0:Int),e1:=(0:Int),e2:=(0:Int),e3:=(0:Int) },Lo:=(0:Int),Hi:=(0:Int),Kids:=[r0,{ Kind:=(5:Int),Set:={ e0:=(0:Int),e1:=(0:Int),e2:=(0:Int),e3:=(0:Int) },Lo:=(0:Int),Hi:=(-1:Int),Kids:=[r0_1] }] },Trail:=r0_9,Eof:=false,Act:=(0:Int),To:=(0:Int) }) ({ data:=#[(97:UInt8),(98:UInt8),(98:UInt8)] }) r0_10=CallE Try.prog 10 [.agg [.f (FV.sl []),vB false,vB false,vi 3,vI .u64 0,vI .u64 0,vI .u64 0,vI .u64 0,vi 0,vi 0,vL enc_api_Rx ([r0,{ Kind:=(5:Int),Set:={ e0:=(0:Int),e1:=(0:Int),e2:=(0:Int),e3:=(0:Int) },Lo:=(0:Int),Hi:=(-1:Int),Kids:=[r0_1] }]),vi (api_Rx.Kind r0_9),vI .u64 (arr4_uint64.e0 (api_Rx.Set r0_9)),vI .u64 (arr4_uint64.e1 (api_Rx.Set r0_9)),vI .u64 (arr4_uint64.e2 (api_Rx.Set r0_9)),vI .u64 (arr4_uint64.e3 (api_Rx.Set r0_9)),vi (api_Rx.Lo r0_9),vi (api_Rx.Hi r0_9),.f (FV.sl (List.take (List.length (List.map enc_api_Rx (api_Rx.Kids r0_9))) (List.drop (0:Nat) (List.map enc_api_Rx (api_Rx.Kids r0_9))))),vB false,vi 0,vi 0],vS ({ data:=#[(97:UInt8),(98:UInt8),(98:UInt8)] })] [] (vi r0_10) []) hc12) (obC (gtt hb10) (obC hb10 (obC (gtt hb13) (obC (gtt hb13) (obC (gtt hb13) (obC (Eq.mp (by unfold C_split_Split;(try simp only [List.drop_zero,List.take_length]);first | done | simp only [nm,enq]:C_split_Split ({ Conds:=[],All:=false,Bol:=false,Rx:={ Kind:=(3:Int),Set:={ e0:=(0:Int),e1:=(0:Int),e2:=(0:Int),e3:=(0:Int) },Lo:=(0:Int),Hi:=(0:Int),Kids:=[r0,{ Kind:=(5:Int),Set:={ e0:=(0:Int),e1:=(0:Int),e2:=(0:Int),e3:=(0:Int) },Lo:=(0:Int),Hi:=(-1:Int),Kids:=[r0_1] }] },Trail:={ Kind:=(0:Int),Set:={ e0:=(0:Int),e1:=(0:Int),e2:=(0:Int),e3:=(0:Int) },Lo:=(0:Int),Hi:=(0:Int),Kids:=[] },Eof:=false,Act:=(0:Int),To:=(0:Int) }) ({ data:=#[(97:UInt8),(98:UInt8),(98:UInt8)] }) r0_11=CallE Try.prog 10 [.agg [.f (FV.sl []),vB false,vB false,vi 3,vI .u64 0,vI .u64 0,vI .u64 0,vI .u64 0,vi 0,vi 0,vL enc_api_Rx ([r0,{ Kind:=(5:Int),Set:={ e0:=(0:Int),e1:=(0:Int),e2:=(0:Int),e3:=(0:Int) },Lo:=(0:Int),Hi:=(-1:Int),Kids:=[r0_1] }]),vi 0,vI .u64 0,vI .u64 0,vI .u64 0,vI .u64 0,vi 0,vi 0,.f (FV.sl []),vB false,vi 0,vi 0],vS ({ data:=#[(97:UInt8),(98:UInt8),(98:UInt8)] })] [] (vi r0_11) []) hc14) (obC (gtt hb13) (obC hb13 obN))))))))))))))))))))))))))) ?_
      refine tD ?_
      obtain he0:=h
      subst res
      exact (endD [] (vB (r0_11 == (3:Int))) []).1
     ·have h:=h.2 hb13
      refine sD kk [.b true,.b true,.c (vS r0_7) [],.b true,.b true,.b true,.b true,.b true,.b true,.b true,.b true,.c (vB r0_8) [],.b true,.b true,.b true,.c (ao_api_Rx r0_9) [],.b true,.b true,.c (vi r0_10) [],.b true,.b true,.b false,.b false,.b false,.b false,.b false] [4,5,7,8,10,16,19] [(1,vB false)] (obC (gtt hb5) (obC (gtt hb5) (obC hc6 (obC (gtt hb5) (obC hb5 (obC (gtt hb7) (obC (gtt hb7) (obC hb7 (obC (gtt hb8) (obC (gtt hb8) (obC (gtt hb8) (obC (Eq.mp (by unfold C_heckleref15_Bools;(try simp only [List.drop_zero,List.take_length]);first | done | simp only [nm,enq]:C_heckleref15_Bools r0_6 ([false,true,true,true]) r0_8=CallE Try.prog 36 [.f (FV.sl (List.take (List.length (List.map enc_bool r0_6)) (List.drop (0:Nat) (List.map enc_bool r0_6)))),.f (FV.sl (List.take (List.length [FV.pv (Value.bool false),FV.pv (Value.bool true),FV.pv (Value.bool true),FV.pv (Value.bool true)]) (List.drop (0:Nat) [FV.pv (Value.bool false),FV.pv (Value.bool true),FV.pv (Value.bool true),FV.pv (Value.bool true)])))] [] (vB r0_8) []) hc9) (obC hb8 (obC (gtt hb10) (obC (gtt hb10) (obC hc11 (obC (gtt hb10) (obC (gtt hb10) (obC (Eq.mp (by unfold C_split_Split;(try simp only [List.drop_zero,List.take_length]);first | done | simp only [nm,enq]:C_split_Split ({ Conds:=[],All:=false,Bol:=false,Rx:={ Kind:=(3:Int),Set:={ e0:=(0:Int),e1:=(0:Int),e2:=(0:Int),e3:=(0:Int) },Lo:=(0:Int),Hi:=(0:Int),Kids:=[r0,{ Kind:=(5:Int),Set:={ e0:=(0:Int),e1:=(0:Int),e2:=(0:Int),e3:=(0:Int) },Lo:=(0:Int),Hi:=(-1:Int),Kids:=[r0_1] }] },Trail:=r0_9,Eof:=false,Act:=(0:Int),To:=(0:Int) }) ({ data:=#[(97:UInt8),(98:UInt8),(98:UInt8)] }) r0_10=CallE Try.prog 10 [.agg [.f (FV.sl []),vB false,vB false,vi 3,vI .u64 0,vI .u64 0,vI .u64 0,vI .u64 0,vi 0,vi 0,vL enc_api_Rx ([r0,{ Kind:=(5:Int),Set:={ e0:=(0:Int),e1:=(0:Int),e2:=(0:Int),e3:=(0:Int) },Lo:=(0:Int),Hi:=(-1:Int),Kids:=[r0_1] }]),vi (api_Rx.Kind r0_9),vI .u64 (arr4_uint64.e0 (api_Rx.Set r0_9)),vI .u64 (arr4_uint64.e1 (api_Rx.Set r0_9)),vI .u64 (arr4_uint64.e2 (api_Rx.Set r0_9)),vI .u64 (arr4_uint64.e3 (api_Rx.Set r0_9)),vi (api_Rx.Lo r0_9),vi (api_Rx.Hi r0_9),.f (FV.sl (List.take (List.length (List.map enc_api_Rx (api_Rx.Kids r0_9))) (List.drop (0:Nat) (List.map enc_api_Rx (api_Rx.Kids r0_9))))),vB false,vi 0,vi 0],vS ({ data:=#[(97:UInt8),(98:UInt8),(98:UInt8)] })] [] (vi r0_10) []) hc12) (obC (gtt hb10) (obC hb10 (obC (gtf hb13) (obC (gtf hb13) (obC (gtf hb13) (obC (gtf hb13) (obC hb13 obN)))))))))))))))))))))))))) ?_
      refine tD ?_
      obtain he0:=h
      subst res
      exact (endD [] (vB false) []).1
    ·have h:=h.2 hb10
     refine sD kk [.b true,.b true,.c (vS r0_7) [],.b true,.b true,.b true,.b true,.b true,.b true,.b true,.b true,.c (vB r0_8) [],.b true,.b false,.b false,.b false,.b false,.b false,.b false,.b false,.b false,.b false,.b false,.b false] [4,5,7,8,10,16,19] [(1,vB false)] (obC (gtt hb5) (obC (gtt hb5) (obC hc6 (obC (gtt hb5) (obC hb5 (obC (gtt hb7) (obC (gtt hb7) (obC hb7 (obC (gtt hb8) (obC (gtt hb8) (obC (gtt hb8) (obC (Eq.mp (by unfold C_heckleref15_Bools;(try simp only [List.drop_zero,List.take_length]);first | done | simp only [nm,enq]:C_heckleref15_Bools r0_6 ([false,true,true,true]) r0_8=CallE Try.prog 36 [.f (FV.sl (List.take (List.length (List.map enc_bool r0_6)) (List.drop (0:Nat) (List.map enc_bool r0_6)))),.f (FV.sl (List.take (List.length [FV.pv (Value.bool false),FV.pv (Value.bool true),FV.pv (Value.bool true),FV.pv (Value.bool true)]) (List.drop (0:Nat) [FV.pv (Value.bool false),FV.pv (Value.bool true),FV.pv (Value.bool true),FV.pv (Value.bool true)])))] [] (vB r0_8) []) hc9) (obC hb8 (obC (gtf hb10) (obC (gtf hb10) (obC (gtf hb10) (obC (gtf hb10) (obC (gtf hb10) (obC hb10 (obC (rfl:false=false) (obC (rfl:false=false) (obC (rfl:false=false) (obC (rfl:false=false) (obC (rfl:false=false) obN)))))))))))))))))))))))) ?_
     refine tD ?_
     obtain he0:=h
     subst res
     exact (endD [] (vB false) []).1
   ·have h:=h.2 hb8
    refine sD kk [.b true,.b true,.c (vS r0_7) [],.b true,.b true,.b true,.b true,.b true,.b false,.b false,.b false,.b false,.b false,.b false,.b false,.b false,.b false,.b false,.b false,.b false,.b false,.b false,.b false] [4,5,7,8,10,16,19] [(1,vB false)] (obC (gtt hb5) (obC (gtt hb5) (obC hc6 (obC (gtt hb5) (obC hb5 (obC (gtt hb7) (obC (gtt hb7) (obC hb7 (obC (gtf hb8) (obC (gtf hb8) (obC (gtf hb8) (obC hb8 (obC (rfl:false=false) (obC (rfl:false=false) (obC (rfl:false=false) (obC (rfl:false=false) (obC (rfl:false=false) (obC (rfl:false=false) (obC (rfl:false=false) (obC (rfl:false=false) (obC (rfl:false=false) (obC (rfl:false=false) (obC (rfl:false=false) obN))))))))))))))))))))))) ?_
    refine tD ?_
    obtain he0:=h
    subst res
    exact (endD [] (vB false) []).1
  ·have h:=h.2 hb7
   refine sD kk [.b true,.b true,.c (vS r0_7) [],.b true,.b true,.b false,.b false,.b false,.b false,.b false,.b false,.b false,.b false,.b false,.b false,.b false,.b false,.b false,.b false,.b false,.b false,.b false,.b false] [4,5,7,8,10,16,19] [(1,vB false)] (obC (gtt hb5) (obC (gtt hb5) (obC hc6 (obC (gtt hb5) (obC hb5 (obC (gtf hb7) (obC (gtf hb7) (obC hb7 (obC (rfl:false=false) (obC (rfl:false=false) (obC (rfl:false=false) (obC (rfl:false=false) (obC (rfl:false=false) (obC (rfl:false=false) (obC (rfl:false=false) (obC (rfl:false=false) (obC (rfl:false=false) (obC (rfl:false=false) (obC (rfl:false=false) (obC (rfl:false=false) (obC (rfl:false=false) (obC (rfl:false=false) (obC (rfl:false=false) obN))))))))))))))))))))))) ?_
   refine tD ?_
   obtain he0:=h
   subst res
   exact (endD [] (vB false) []).1
 ·have h:=h.2 hb5
  refine sD kk [.b false,.b false,.b false,.b false,.b false,.b false,.b false,.b false,.b false,.b false,.b false,.b false,.b false,.b false,.b false,.b false,.b false,.b false,.b false,.b false,.b false,.b false] [4,5,7,8,10,16,19] [(1,vB false)] (obC (gtf hb5) (obC (gtf hb5) (obC (gtf hb5) (obC hb5 (obC (rfl:false=false) (obC (rfl:false=false) (obC (rfl:false=false) (obC (rfl:false=false) (obC (rfl:false=false) (obC (rfl:false=false) (obC (rfl:false=false) (obC (rfl:false=false) (obC (rfl:false=false) (obC (rfl:false=false) (obC (rfl:false=false) (obC (rfl:false=false) (obC (rfl:false=false) (obC (rfl:false=false) (obC (rfl:false=false) (obC (rfl:false=false) (obC (rfl:false=false) (obC (rfl:false=false) obN)))))))))))))))))))))) ?_
  refine tD ?_
  obtain he0:=h
  subst res
  exact (endD [] (vB false) []).1
set_option maxHeartbeats 1000000 in
theorem W_hecklelaw03_Made (l:(List Int)) (res:api_Rx)
 (h:(∃ J2:List Int→Prop,(∀ (l_1:List Int),J2 l_1→(∃ r0:api_Rx,∃ o:hecklelaw03_Maker,C_hecklelaw03_Maker_Rx 4 ({ L:=l_1,At:=(0:Int) }) r0 o∧(∃ r0_1:Int,C_heckleref03_Size r0 r0_1∧(((decide (r0_1 > (40:Int)))=true→(∃ r0_2:api_Rx,C_hecklelaw03_char ((97:Int)) r0_2∧(res=r0_2)))∧((decide (r0_1 > (40:Int)))=false→(res=r0))))))∧(((decide ((↑(List.length l):Int) > (30:Int)))=true→((0:Int)≤(30:Int)∧Int.toNat (30:Int)≤List.length l∧List.all (List.map enc_u8 l) (FV.fits (1:Nat))=true)∧J2 (List.take (Int.toNat (30:Int)) l))∧((decide ((↑(List.length l):Int) > (30:Int)))=false→J2 l)))):C_hecklelaw03_Made l res:=by
 unfold C_hecklelaw03_Made
 have kk:=cfOk [19] 20
 refine fD (x:=bodyOf Try.f13) kk Try.func13 ?_
 refine wkS [1] [(1,vL enc_u8 l)] (by kernel_rfl) ?_
 refine sDE kk [] [] [(7,.ptr 8 0),(8,.agg [vi 0,vI .u64 0,vI .u64 0,vI .u64 0,vI .u64 0,vi 0,vi 0,.own 36 ([])])] [(7,.ptr 8 0),(8,.agg [vi 0,vI .u64 0,vI .u64 0,vI .u64 0,vI .u64 0,vi 0,vi 0,oL 36 enc_api_Rx ([])])] obN ?_
 obtain ⟨J2,hJ2,h⟩:=h
 refine sjD (fun (q:List Int)=>J2 q) (fun (q:List Int)=>(fun (l_1:List Int)=>([(1,vL enc_u8 l_1),(7,.ptr 8 0),(8,.agg [vi 0,vI .u64 0,vI .u64 0,vI .u64 0,vI .u64 0,vi 0,vi 0,oL 36 enc_api_Rx ([])])]:Sta)) q) ?_ ?_
 ·rintro l_1 hj
  have h:=hJ2 l_1 hj
  refine sD kk [] [1] [(10,.ptr 38 0),(38,.agg [vL enc_u8 l_1,vi 0])] obN ?_
  obtain ⟨r0,o,hc3,h⟩:=h
  refine sD kk [.c (ao_api_Rx r0) [av_hecklelaw03_Maker o]] [10,38] [(13,.ptr 14 0),(14,ao_api_Rx r0)] (obC hc3 obN) ?_
  refine qD ?_
  obtain ⟨r0_1,hc4,h⟩:=h
  refine sD kk [.c (vi r0_1) []] [] [(14,av_api_Rx r0),(52,vB (decide (r0_1 > (40:Int))))] (obC (Eq.mp (by unfold C_heckleref03_Size;(try simp only [List.drop_zero,List.take_length]);first | done | simp only [nm,enq]:C_heckleref03_Size r0 r0_1=CallE Try.prog 26 [.agg [vi (api_Rx.Kind r0),vI .u64 (arr4_uint64.e0 (api_Rx.Set r0)),vI .u64 (arr4_uint64.e1 (api_Rx.Set r0)),vI .u64 (arr4_uint64.e2 (api_Rx.Set r0)),vI .u64 (arr4_uint64.e3 (api_Rx.Set r0)),vi (api_Rx.Lo r0),vi (api_Rx.Hi r0),.f (FV.sl (List.take (List.length (List.map enc_api_Rx (api_Rx.Kids r0))) (List.drop (0:Nat) (List.map enc_api_Rx (api_Rx.Kids r0)))))]] [] (vi r0_1) []) hc4) obN) ?_
  refine cD (t:=17) (b:=decide (r0_1 > (40:Int))) (fun hb5=>?_) (fun hb5=>?_)
  ·have h:=h.1 hb5
   obtain ⟨r0_2,hc6,h⟩:=h
   refine sD kk [.c (ao_api_Rx r0_2) []] [13,14,52] [(8,ao_api_Rx r0_2)] (obC hc6 obN) ?_
   refine tD ?_
   obtain he0:=h
   subst res
   exact (endD [(8,7)] (av_api_Rx r0_2) []).1
  ·have h:=h.2 hb5
   refine Sem.skip' (by kernel_rfl) Wk.refl ?_
   show Sem _ _ _ _ _
   refine wkD [52] ?_
   refine sD kk [] [13,14] [(8,av_api_Rx r0)] obN ?_
   refine tD ?_
   obtain he0:=h
   subst res
   exact (endD [] (av_api_Rx r0) []).1
 ·refine sDE kk [] [] [(22,vB (decide ((↑(List.length (List.map enc_u8 l)):Int) > (30:Int))))] [(22,vB (decide ((↑(List.length l):Int) > (30:Int))))] obN ?_
  refine cD (t:=7) (b:=decide ((↑(List.length l):Int) > (30:Int))) (fun hb7=>?_) (fun hb7=>?_)
  ·have h:=h.1 hb7
   obtain ⟨h8,h⟩:=h
   refine rDE kk [] [22] [(1,.f (FV.sl (List.take (Int.toNat (30:Int) - (0:Nat)) (List.drop (0:Nat) (List.map enc_u8 l)))))] [(1,vL enc_u8 (List.take (Int.toNat (30:Int)) l))] (obC (show True∧(0:Int)≤(30:Int)∧(0:Nat)≤Int.toNat (30:Int)∧Int.toNat (30:Int)≤List.length (List.map enc_u8 l)∧List.all (List.map enc_u8 l) (FV.fits (1:Nat))=true from by simpa only [nm] using h8) obN) ?_
   exact jD (List.take (Int.toNat (30:Int)) l) [] h
  ·have h:=h.2 hb7
   refine Sem.skip' (by kernel_rfl) Wk.refl ?_
   exact jD l [] h
set_option maxHeartbeats 1000000 in
theorem W_hecklelaw15_turned (s0:ByteArray) (res:ByteArray)
 (h:(∃ (Inv6:ByteArray→Int→Prop) (mu7:ByteArray→Int→Nat),Inv6 ({ data:=#[] }) 0∧(∀ (t:ByteArray) (i:Int),Inv6 t i→(((decide (i < (↑(ByteArray.size s0):Int)))=true→((0:Int)≤i∧(0:Int)≤w64 (i+1)∧Int.toNat i≤Int.toNat (w64 (i+1))∧Int.toNat (w64 (i+1))≤ByteArray.size s0)∧((↑(ByteArray.size (ByteArray.extract s0 (Int.toNat i) (Int.toNat (w64 (i+1))))+ByteArray.size t):Int)≤IntKind.max IntKind.i64)∧(Inv6 (ByteArray.extract s0 (Int.toNat i) (Int.toNat (w64 (i+1)))++t) (w64 (i+1))∧mu7 (ByteArray.extract s0 (Int.toNat i) (Int.toNat (w64 (i+1)))++t) (w64 (i+1)) < mu7 t i))∧((decide (i < (↑(ByteArray.size s0):Int)))=false→(res=t)))))):C_hecklelaw15_turned s0 res:=by
 unfold C_hecklelaw15_turned
 have kk:=cfOk [18] 19
 refine fD (x:=bodyOf Try.f18) kk Try.func18 ?_
 refine wkS [1] [(1,vS s0)] (by kernel_rfl) ?_
 refine sD kk [] [] [] obN ?_
 refine sD kk [] [] [(10,vS ({ data:=#[] }))] obN ?_
 refine qD ?_
 refine sD kk [] [] [(13,vi 0)] obN ?_
 refine bD (id:=0) ?_
 obtain ⟨Inv6,mu7,h0Inv6,hInv6⟩:=h
 refine loD (fun (q:ByteArray×Int)=>(fun (t:ByteArray) (i:Int)=>([(1,vS s0),(10,vS t),(13,vi i)]:Sta)) q.1 q.2) (fun (q:ByteArray×Int)=>Inv6 q.1 q.2) (fun (q:ByteArray×Int)=>mu7 q.1 q.2) (({ data:=#[] }),0) [] h0Inv6 ?_
 rintro ⟨t,i⟩ hi
 have h:=hInv6 t i hi
 refine qD ?_
 refine sD kk [] [] [(25,vB (decide (i < (↑(ByteArray.size s0):Int))))] obN ?_
 refine cD (t:=8) (b:=decide (i < (↑(ByteArray.size s0):Int))) (fun hb8=>?_) (fun hb8=>?_)
 ·have h:=h.1 hb8
  refine Sem.skip' (by kernel_rfl) Wk.refl ?_
  show Sem _ _ _ _ _
  refine wkD [25] ?_
  refine qD ?_
  refine bD (id:=1) ?_
  obtain ⟨h9,h⟩:=h
  obtain ⟨h10,h⟩:=h
  refine rD kk [] [] [(10,vS (ByteArray.extract s0 (Int.toNat i) (Int.toNat (w64 (i+1)))++t))] (obC h9 (obC h10 obN)) ?_
  show Sem _ _ _ _ _
  refine rD kk [] [] [(13,vi (w64 (i+1)))] obN ?_
  exact lD ((ByteArray.extract s0 (Int.toNat i) (Int.toNat (w64 (i+1)))++t),(w64 (i+1))) [] h
 ·have h:=h.2 hb8
  refine xD (i:=0) ?_
  show Sem _ _ _ _ _
  refine wkD [1,13,25] ?_
  refine sD kk [] [10] [(7,vS t)] obN ?_
  refine tD ?_
  obtain he0:=h
  subst res
  exact (endD [] (vS t) []).1
set_option maxHeartbeats 1000000 in
theorem W_hecklelaw15_SplitPlace (l:(List Int)) (m:(List Int)) (t:(List Int)) (res:Bool)
 (h:(∃ r0:Bool,C_hecklelaw15_awake r0∧(((!r0)=true→(res=false))∧((!r0)=false→(∃ r0_1:api_Rx,C_hecklelaw03_Made l r0_1∧(∃ r0_2:api_Rx,C_hecklelaw03_Made m r0_2∧(∃ r0_3:ByteArray,C_hecklelaw05_Text t r0_3∧(∃ r0_4:api_Rx,∃ r0_5:Int,C_split_Reverse r0_2 r0_4 r0_5∧(∃ r0_6:List Bool,C_split_Ahead r0_1 r0_3 r0_6∧(∃ r0_7:ByteArray,C_hecklelaw15_turned r0_3 r0_7∧(∃ r0_8:List Bool,C_split_Ahead r0_4 r0_7 r0_8∧(((r0_5 != (0:Int) || ((↑(List.length (List.map enc_bool r0_6)):Int) != w64 ((↑(ByteArray.size r0_3):Int)+1) || (↑(List.length r0_8):Int) != w64 ((↑(ByteArray.size r0_3):Int)+1)))=true→(res=false))∧((r0_5 != (0:Int) || ((↑(List.length (List.map enc_bool r0_6)):Int) != w64 ((↑(ByteArray.size r0_3):Int)+1) || (↑(List.length r0_8):Int) != w64 ((↑(ByteArray.size r0_3):Int)+1)))=false→(∃ (Inv46:Int→Int→Prop) (mu47:Int→Int→Nat),Inv46 0 1∧(∀ (want_1:Int) (h0:Int),Inv46 want_1 h0→(((decide (h0≤(↑(ByteArray.size r0_3):Int)))=true→(∃ J57:Int→Prop,(∀ (want_3:Int),J57 want_3→(Inv46 want_3 (w64 (h0+1))∧mu47 want_3 (w64 (h0+1)) < mu47 want_1 h0))∧((0:Int)≤h0)∧(Int.toNat h0 < List.length r0_6)∧h0 < ↑(List.length r0_6)∧((gd r0_6 h0)=true→((0:Int)≤w64 ((↑(ByteArray.size r0_3):Int) - h0)))∧((gd r0_6 h0)=true→(Int.toNat (w64 ((↑(ByteArray.size r0_3):Int) - h0)) < List.length r0_8))∧((gd r0_6 h0)=true→w64 ((↑(ByteArray.size r0_3):Int) - h0) < ↑(List.length r0_8))∧(((gd r0_6 h0 && gd r0_8 (w64 ((↑(ByteArray.size r0_3):Int) - h0)))=true→J57 h0)∧((gd r0_6 h0 && gd r0_8 (w64 ((↑(ByteArray.size r0_3):Int) - h0)))=false→J57 want_1))))∧((decide (h0≤(↑(ByteArray.size r0_3):Int)))=false→(((r0)=true→(∃ r0_9:Int,C_split_Split ({ Conds:=[],All:=false,Bol:=false,Rx:=r0_1,Trail:=r0_2,Eof:=false,Act:=(0:Int),To:=(0:Int) }) r0_3 r0_9∧(res=(r0_9 == want_1))))∧((r0)=false→(res=false)))))))))))))))))))):C_hecklelaw15_SplitPlace l m t res:=by
 unfold C_hecklelaw15_SplitPlace
 have kk:=cfOk [] 85
 refine fD (x:=bodyOf Try.f5) kk Try.func5 ?_
 refine wkS [1,4,7] [(1,vL enc_u8 l),(4,vL enc_u8 m),(7,vL enc_u8 t)] (by kernel_rfl) ?_
 refine sD kk [] [] [] obN ?_
 obtain ⟨r0,hc0,h⟩:=h
 refine sD kk [.c (vB r0) []] [] [(22,vB r0)] (obC hc0 obN) ?_
 refine qD ?_
 refine sD kk [] [] [(61,vB (!r0))] obN ?_
 refine cD (t:=20) (b:=!r0) (fun hb1=>?_) (fun hb1=>?_)
 ·have h:=h.1 hb1
  refine sD kk [] [1,4,7,22,61] [(19,vB false)] obN ?_
  refine tD ?_
  obtain he0:=h
  subst res
  exact (endD [] (vB false) []).1
 ·have h:=h.2 hb1
  refine Sem.skip' (by kernel_rfl) Wk.refl ?_
  show Sem _ _ _ _ _
  refine wkD [61] ?_
  obtain ⟨r0_1,hc2,h⟩:=h
  obtain ⟨r0_2,hc3,h⟩:=h
  obtain ⟨r0_3,hc4,h⟩:=h
  refine sD kk [.c (av_api_Rx r0_1) [],.c (av_api_Rx r0_2) [],.c (vS r0_3) []] [1,4,7] [(25,.ptr 26 0),(26,av_api_Rx r0_1),(28,.ptr 29 0),(29,av_api_Rx r0_2),(31,vS r0_3)] (obC hc2 (obC hc3 (obC hc4 obN))) ?_
  obtain ⟨r0_4,r0_5,hc5,h⟩:=h
  refine sD kk [.c (.tup [av_api_Rx r0_4,vi r0_5]) []] [] [(34,.ptr 35 0),(35,av_api_Rx r0_4),(37,vi r0_5)] (obC hc5 obN) ?_
  obtain ⟨r0_6,hc6,h⟩:=h
  obtain ⟨r0_7,hc7,h⟩:=h
  obtain ⟨r0_8,hc8,h⟩:=h
  refine sD kk [.c (oL 4 enc_bool r0_6) [],.c (vS r0_7) [],.c (oL 4 enc_bool r0_8) []] [34,35] [(40,oL 4 enc_bool r0_6),(43,oL 4 enc_bool r0_8)] (obC hc6 (obC hc7 (obC hc8 obN))) ?_
  refine sD kk [] [] [(46,vi ((↑(ByteArray.size r0_3):Int)))] obN ?_
  refine qD ?_
  refine sM [37] [(169,vB (r0_5 != (0:Int) || ((↑(List.length (List.map enc_bool r0_6)):Int) != w64 ((↑(ByteArray.size r0_3):Int)+1) || (↑(List.length r0_8):Int) != w64 ((↑(ByteArray.size r0_3):Int)+1))))] ?_ (fun hk0=>?_)
  ·refine cD (t:=56) (b:=r0_5 != (0:Int) || ((↑(List.length (List.map enc_bool r0_6)):Int) != w64 ((↑(ByteArray.size r0_3):Int)+1) || (↑(List.length r0_8):Int) != w64 ((↑(ByteArray.size r0_3):Int)+1))) (fun hb11=>?_) (fun hb11=>?_)
   ·have h:=h.1 hb11
    refine sD kk [] [22,25,26,28,29,31,40,43,46,169] [(19,vB false)] obN ?_
    refine tD ?_
    obtain he0:=h
    subst res
    exact (endD [] (vB false) []).1
   ·have h:=h.2 hb11
    refine Sem.skip' (by kernel_rfl) Wk.refl ?_
    show Sem _ _ _ _ _
    refine wkD [169] ?_
    refine sD kk [] [] [(49,vi 0)] obN ?_
    refine qD ?_
    refine sD kk [] [] [(52,vi 1)] obN ?_
    refine bD (id:=0) ?_
    obtain ⟨Inv46,mu47,h0Inv46,hInv46⟩:=h
    refine loD (fun (q:Int×Int)=>(fun (want_1:Int) (h0:Int)=>([(22,vB r0),(25,.ptr 26 0),(26,av_api_Rx r0_1),(28,.ptr 29 0),(29,av_api_Rx r0_2),(31,vS r0_3),(40,oL 4 enc_bool r0_6),(43,oL 4 enc_bool r0_8),(46,vi ((↑(ByteArray.size r0_3):Int))),(49,vi want_1),(52,vi h0)]:Sta)) q.1 q.2) (fun (q:Int×Int)=>Inv46 q.1 q.2) (fun (q:Int×Int)=>mu47 q.1 q.2) (0,1) [] h0Inv46 ?_
    rintro ⟨want_1,h0⟩ hi
    have h:=hInv46 want_1 h0 hi
    refine qD ?_
    refine sD kk [] [] [(178,vB (decide (h0≤(↑(ByteArray.size r0_3):Int))))] obN ?_
    refine cD (t:=59) (b:=decide (h0≤(↑(ByteArray.size r0_3):Int))) (fun hb48=>?_) (fun hb48=>?_)
    ·have h:=h.1 hb48
     refine Sem.skip' (by kernel_rfl) Wk.refl ?_
     show Sem _ _ _ _ _
     refine wkD [178] ?_
     obtain ⟨J57,hJ57,h⟩:=h
     refine sjD (fun (q:Int)=>J57 q) (fun (q:Int)=>(fun (want_3:Int)=>([(22,vB r0),(25,.ptr 26 0),(26,av_api_Rx r0_1),(28,.ptr 29 0),(29,av_api_Rx r0_2),(31,vS r0_3),(40,oL 4 enc_bool r0_6),(43,oL 4 enc_bool r0_8),(46,vi ((↑(ByteArray.size r0_3):Int))),(49,vi want_3),(52,vi h0)]:Sta)) q) ?_ ?_
     ·rintro want_3 hj
      have h:=hJ57 want_3 hj
      refine rD kk [] [] [(52,vi (w64 (h0+1)))] obN ?_
      exact lD (want_3,(w64 (h0+1))) [] h
     ·refine bD (id:=1) ?_
      obtain ⟨h58,h⟩:=h
      obtain ⟨h59,h⟩:=h
      obtain ⟨h60,h⟩:=h
      obtain ⟨h62,h63,h64,h⟩:=h
      refine sM [] [(220,vB (gd r0_6 h0 && gd r0_8 (w64 ((↑(ByteArray.size r0_3):Int) - h0))))] ?_ (fun hk0=>?_)
      ·refine cD (t:=73) (b:=gd r0_6 h0 && gd r0_8 (w64 ((↑(ByteArray.size r0_3):Int) - h0))) (fun hb65=>?_) (fun hb65=>?_)
       ·have h:=h.1 hb65
        refine rD kk [] [220] [(49,vi h0)] obN ?_
        exact jD h0 [] h
       ·have h:=h.2 hb65
        refine Sem.skip' (by kernel_rfl) Wk.refl ?_
        exact jD want_1 [] h
      ·rcases Bool.eq_false_or_eq_true (gd r0_6 h0) with hb61 | hb61
       ·refine sD kk [.e (fB (gd r0_6 h0)),.b true,.b true,.b true,.b true,.b true,.b true,.e (fB (gd r0_8 (w64 ((↑(ByteArray.size r0_3):Int) - h0)))),.b true] [] [(220,vB (gd r0_8 (w64 ((↑(ByteArray.size r0_3):Int) - h0))))] (obC h58 (obC (show Int.toNat h0 < List.length (List.map enc_bool r0_6) from by simpa only [nm] using h59) (obC (show (List.map enc_bool r0_6)[((0:Nat)+Int.toNat h0:Nat)]?=some (fB (gd r0_6 h0)) from by have:=idx_ok enc_bool r0_6 h0 _ rfl h58 h60;simpa only [nm,enq,enc_bool] using this) (obC (gtt hb61) (obC (gtt hb61) (obC (gtt hb61) (obC (gtt hb61) (obC (gtt hb61) (obC (h62 hb61) (obC (show Int.toNat (w64 ((↑(ByteArray.size r0_3):Int) - h0)) < List.length (List.map enc_bool r0_8) from by simpa only [nm] using (h63 hb61)) (obC (gtt hb61) (obC (show (List.map enc_bool r0_8)[((0:Nat)+Int.toNat (w64 ((↑(ByteArray.size r0_3):Int) - h0)):Nat)]?=some (fB (gd r0_8 (w64 ((↑(ByteArray.size r0_3):Int) - h0)))) from by have:=idx_ok enc_bool r0_8 (w64 ((↑(ByteArray.size r0_3):Int) - h0)) _ rfl (h62 hb61) (h64 hb61);simpa only [nm,enq,enc_bool] using this) (obC hb61 obN))))))))))))) ?_
        exact Sem.cast (by try rw [hb61];kernel_rfl) hk0
       ·refine sD kk [.e (fB (gd r0_6 h0)),.b false,.b false,.b false,.b false,.b false,.b false,.b false] [] [(220,vB false)] (obC h58 (obC (show Int.toNat h0 < List.length (List.map enc_bool r0_6) from by simpa only [nm] using h59) (obC (show (List.map enc_bool r0_6)[((0:Nat)+Int.toNat h0:Nat)]?=some (fB (gd r0_6 h0)) from by have:=idx_ok enc_bool r0_6 h0 _ rfl h58 h60;simpa only [nm,enq,enc_bool] using this) (obC (gtf hb61) (obC (gtf hb61) (obC (gtf hb61) (obC (gtf hb61) (obC (gtf hb61) (obC (gtf hb61) (obC hb61 obN)))))))))) ?_
        exact Sem.cast (by try rw [hb61];kernel_rfl) hk0
    ·have h:=h.2 hb48
     refine xD (i:=0) ?_
     show Sem _ _ _ _ _
     refine wkD [40,43,46,52,178] ?_
     rcases Bool.eq_false_or_eq_true (r0) with hb66 | hb66
     ·have h:=h.1 hb66
      obtain ⟨r0_9,hc67,h⟩:=h
      refine sD kk [.b true,.b true,.b true,.b true,.b true,.c (vi r0_9) [],.b true,.b true,.b true] [22,25,26,28,29,31,49] [(19,vB (r0_9 == want_1))] (obC (gtt hb66) (obC (gtt hb66) (obC (gtt hb66) (obC (gtt hb66) (obC (gtt hb66) (obC (Eq.mp (by unfold C_split_Split;(try simp only [List.drop_zero,List.take_length]);first | done | simp only [nm,enq]:C_split_Split ({ Conds:=[],All:=false,Bol:=false,Rx:=r0_1,Trail:=r0_2,Eof:=false,Act:=(0:Int),To:=(0:Int) }) r0_3 r0_9=CallE Try.prog 10 [.agg [.f (FV.sl []),vB false,vB false,vi (api_Rx.Kind r0_1),vI .u64 (arr4_uint64.e0 (api_Rx.Set r0_1)),vI .u64 (arr4_uint64.e1 (api_Rx.Set r0_1)),vI .u64 (arr4_uint64.e2 (api_Rx.Set r0_1)),vI .u64 (arr4_uint64.e3 (api_Rx.Set r0_1)),vi (api_Rx.Lo r0_1),vi (api_Rx.Hi r0_1),vL enc_api_Rx (api_Rx.Kids r0_1),vi (api_Rx.Kind r0_2),vI .u64 (arr4_uint64.e0 (api_Rx.Set r0_2)),vI .u64 (arr4_uint64.e1 (api_Rx.Set r0_2)),vI .u64 (arr4_uint64.e2 (api_Rx.Set r0_2)),vI .u64 (arr4_uint64.e3 (api_Rx.Set r0_2)),vi (api_Rx.Lo r0_2),vi (api_Rx.Hi r0_2),vL enc_api_Rx (api_Rx.Kids r0_2),vB false,vi 0,vi 0],vS r0_3] [] (vi r0_9) []) hc67) (obC (gtt hb66) (obC (gtt hb66) (obC hb66 obN))))))))) ?_
      refine tD ?_
      obtain he0:=h
      subst res
      exact (endD [] (vB (r0_9 == want_1)) []).1
     ·have h:=h.2 hb66
      refine sD kk [.b false,.b false,.b false,.b false,.b false,.b false,.b false,.b false] [22,25,26,28,29,31,49] [(19,vB false)] (obC (gtf hb66) (obC (gtf hb66) (obC (gtf hb66) (obC (gtf hb66) (obC (gtf hb66) (obC (gtf hb66) (obC (gtf hb66) (obC hb66 obN)))))))) ?_
      refine tD ?_
      obtain he0:=h
      subst res
      exact (endD [] (vB false) []).1
  ·rcases Bool.eq_false_or_eq_true (r0_5 != (0:Int)) with hb9 | hb9
   ·refine sD kk [.b false,.b false,.b false,.b false,.b false,.b true,.b false,.b false,.b false,.b false,.b false,.b true] [37] [(169,vB true)] (obC (gff hb9) (obC (gff hb9) (obC (gff hb9) (obC (gff hb9) (obC (gff hb9) (obC hb9 (obC (rfl:false=false) (obC (rfl:false=false) (obC (rfl:false=false) (obC (rfl:false=false) (obC (rfl:false=false) (obC (rfl:true=true) obN)))))))))))) ?_
    exact Sem.cast (by try rw [hb9];kernel_rfl) hk0
   ·rcases Bool.eq_false_or_eq_true ((↑(List.length (List.map enc_bool r0_6)):Int) != w64 ((↑(ByteArray.size r0_3):Int)+1)) with hb10 | hb10
    ·refine sD kk [.b true,.b true,.b true,.b true,.b true,.b false,.b false,.b false,.b false,.b false,.b false,.b true] [37] [(169,vB true)] (obC (gft hb9) (obC (gft hb9) (obC (gft hb9) (obC (gft hb9) (obC (gft hb9) (obC hb9 (obC (gff hb10) (obC (gff hb10) (obC (gff hb10) (obC (gff hb10) (obC (gff hb10) (obC hb10 obN)))))))))))) ?_
     exact Sem.cast (by try rw [hb9];try rw [hb10];kernel_rfl) hk0
    ·refine sDE kk [.b true,.b true,.b true,.b true,.b true,.b false,.b true,.b true,.b true,.b true,.b true,.b false] [37] [(169,vB ((↑(List.length (List.map enc_bool r0_8)):Int) != w64 ((↑(ByteArray.size r0_3):Int)+1)))] [(169,vB ((↑(List.length r0_8):Int) != w64 ((↑(ByteArray.size r0_3):Int)+1)))] (obC (gft hb9) (obC (gft hb9) (obC (gft hb9) (obC (gft hb9) (obC (gft hb9) (obC hb9 (obC (gft hb10) (obC (gft hb10) (obC (gft hb10) (obC (gft hb10) (obC (gft hb10) (obC hb10 obN)))))))))))) ?_
     exact Sem.cast (by try rw [hb9];try rw [hb10];kernel_rfl) hk0
end Go.Ev
set_option linter.unusedVariables false
set_option linter.unusedSimpArgs false
namespace Go.Ev
open Go Go.RowKit
variable {P : Program}
def noCE:CEx:=fun _ _ _ _ _=>False
theorem RM.wp_det {G:Sta} {U1 U2:List Up} {T1 T2:List Acc}:∀ (m:RM) (T:List Acc),m.wp noCE G T (fun U' T'=>U'=U1∧T'=T1)→m.wp noCE G T (fun U' T'=>U'=U2∧T'=T2)→U1=U2∧T1=T2
 | .ret U,T,⟨h1,h2⟩,⟨h3,h4⟩=>⟨h1.symm.trans h3,h2.symm.trans h4⟩
 | .fail,T,h,_=>h.elim
 | .ask b o k,T,⟨v,h1,h2,h3⟩,⟨v',g1,g2,g3⟩=>by
   rw [h1] at g1;cases g1
   exact RM.wp_det (k v) _ h3 g3
 | .peek b k,T,⟨v,h1,h2⟩,⟨v',g1,g2⟩=>by
   rw [h1] at g1;cases g1
   exact RM.wp_det (k _) _ h2 g2
 | .call g args outs k,T,⟨r,o,h1,h2⟩,_=>h1.elim
section
variable {CE : CEx} {c : Cfg} {G G' : Sta} {own : Own} {a : Act} {w : World} {ops : Array Oper} {X : Nat → Nat → Bool}
variable {F : Fence} {n : Nat} {Q : Exit → Act → World → Prop}
def Tp (ops:Array Oper):List Ent→Prop
 | []=>True
 | x :: r=>(∀ o,ops[x.i]?=some o→∀ e∈o.after,Region.binds .any e=true→e.on < ops.size∧∀ y∈x :: r,e.on≠y.i)∧Tp ops r
def entOkX (ops:Array Oper) (X:Nat→Nat→Bool):List Ent→Prop
 | []=>True
 | x :: r=>(∀ y∈r,anc ops ops.size x.i y.i=false→X x.i y.i=false→x.ind y)∧entOkX ops X r
theorem Tp.mid:∀ {p:List Ent} {y:Ent} {r:List Ent},Tp ops (p++y :: r)→Tp ops (p++r)
 | [],y,r,h=>h.2
 | x :: p,y,r,h=>by
   refine ⟨fun o ho e he hb=>?_,Tp.mid h.2⟩
   obtain ⟨h1,h2⟩:=h.1 o ho e he hb
   refine ⟨h1,fun z hz=>h2 z ?_⟩
   show z∈(x :: p)++y :: r
   have hz:z∈(x :: p)++r:=hz
   rcases List.mem_append.1 hz with hz | hz
   ·exact List.mem_append_left _ hz
   ·exact List.mem_append_right _ (List.mem_cons_of_mem _ hz)
theorem entOkX.mid:∀ {p:List Ent} {y:Ent} {r:List Ent},entOkX ops X (p++y :: r)→(∀ x∈p,anc ops ops.size x.i y.i=false→X x.i y.i=false→x.ind y)∧entOkX ops X (p++r)
 | [],y,r,h=>⟨fun x hx=>by simp at hx,h.2⟩
 | x :: p,y,r,h=>by
   obtain ⟨h1,h2⟩:=h
   obtain ⟨h3,h4⟩:=entOkX.mid h2
   refine ⟨fun z hz=>?_,fun z hz=>h1 z ?_,h4⟩
   ·rcases List.mem_cons.1 hz with rfl | hz
    ·exact h1 y (by simp)
    ·exact h3 z hz
   ·have hz:z∈p++r:=hz
    show z∈p++y :: r
    rcases List.mem_append.1 hz with hz | hz
    ·exact List.mem_append_left _ hz
    ·exact List.mem_append_right _ (List.mem_cons_of_mem _ hz)
structure Pl (ops:Array Oper) (X:Nat→Nat→Bool) (es:List Ent) (listed:Array Bool):Prop where
 sz:listed.size=ops.size
 cl:Closed ops listed
 ls:∀ i,i < ops.size→(listed.getD i true=false↔i∈es.map (·.i))
 lt:∀ x∈es,x.i < ops.size
 nd:(es.map (·.i)).Nodup
 tp:Tp ops es
 ok:entOkX ops X es
theorem Pl.empty {es:List Ent} {listed:Array Bool} (h:Pl ops X es listed) (hr:Region.ready .any ops listed=[]):es=[]:=by
 cases es with
 | nil=>rfl
 | cons x es=>
   exfalso
   have hx:=h.lt x (List.mem_cons_self ..)
   have:x.i∈Region.ready .any ops listed:=by
    rw [mem_ready]
    refine ⟨(h.ls x.i hx).2 (by simp),ops[x.i],by simp [hx],fun e he hb=>?_⟩
    obtain ⟨h2,h3⟩:=h.tp.1 ops[x.i] (by simp [hx]) e he hb
    cases hle:listed.getD e.on false with
    | true=>rfl
    | false=>
      have:listed.getD e.on true=false:=by
       simp only [Array.getD_eq_getD_getElem?,Array.getElem?_eq_getElem (show e.on < listed.size by rw [h.sz];exact h2),Option.getD_some] at hle ⊢;exact hle
      have:=(h.ls e.on h2).1 this
      obtain ⟨y,hy,e1⟩:=List.mem_map.1 this
      exact absurd e1.symm (h3 y hy)
   rw [hr] at this;cases this
theorem Pl.pick {es:List Ent} {listed:Array Bool} (h:Pl ops X es listed) {i:Nat} (hi:i∈Region.ready .any ops listed) (hX:∀ x∈es,x.i≠i→X x.i i=false) (hrun:Runs CE (stepRM c ops) es G G') :
 ∃ (y:Ent) (es':List Ent),y.i=i∧(stepRM c ops y.i).wp CE G [] (fun U' T'=>U'=y.U∧T'=y.T)∧Runs CE (stepRM c ops) es' (app y.U G) G'∧Pl ops X es' (listed.setIfInBounds i true)∧es'.length+1=es.length∧(∀ z∈es',z∈es)∧(∀ z∈es',z.i≠i)∧∀ z∈es,z.i≠i→z∈es':=by
 obtain ⟨h1,o,ho,hready⟩:=mem_ready.1 hi
 have hilt:i < ops.size:=(Array.getElem?_eq_some_iff.1 ho).1
 have hmem:=(h.ls i hilt).1 h1
 obtain ⟨y,hy,rfl⟩:=List.mem_map.1 hmem
 obtain ⟨p,r,rfl⟩:=List.append_of_mem hy
 obtain ⟨hm1,hm2⟩:=entOkX.mid h.ok
 have hnd:=h.nd
 have hnotin:∀ z∈p++r,z.i≠y.i:=by
  intro z hz e
  rw [List.map_append,List.map_cons,List.nodup_append,List.nodup_cons] at hnd
  rcases List.mem_append.1 hz with hz | hz
  ·exact hnd.2.2 z.i (List.mem_map.2 ⟨z,hz,rfl⟩) y.i (by simp) e
  ·exact hnd.2.1.1 (e▸List.mem_map.2 ⟨z,hz,rfl⟩)
 have hind:∀ x∈p,x.ind y:=by
  intro x hx
  refine hm1 x hx ?_ (hX x (List.mem_append_left _ hx) (hnotin x (List.mem_append_left _ hx)))
  cases ha:anc ops ops.size x.i y.i with
  | false=>rfl
  | true=>
    have hxl:=anc_listed h.sz h.cl ops.size x.i y.i ha (fun o' ho' e he hb=>by rw [ho] at ho';cases ho';exact hready e he hb)
    have hxlt:=h.lt x (List.mem_append_left _ hx)
    have:listed.getD x.i true=false:=(h.ls x.i hxlt).2 (by simp [List.mem_map];exact .inl ⟨x,hx,rfl⟩)
    have hsz:=h.sz
    simp only [Array.getD_eq_getD_getElem?,Array.getElem?_eq_getElem (show x.i < listed.size by omega),Option.getD_some] at hxl this
    rw [hxl] at this;cases this
 obtain ⟨r1,r2⟩:=Runs.front hind hrun
 have hsub:(p++r).Sublist (p++y :: r):=List.Sublist.append (List.Sublist.refl _) (List.sublist_cons_self _ _)
 refine ⟨y,p++r,rfl,r1,r2,⟨by simpa using h.sz,?_,?_,fun x hx=>h.lt x (hsub.mem hx),hnd.sublist (hsub.map _),h.tp.mid,hm2⟩,by simp;omega,fun z hz=>hsub.mem hz,hnotin,?_⟩
 ·intro j o' ho' hj e he hb
  have hlst:listed.getD e.on false=true→(listed.setIfInBounds y.i true).getD e.on false=true:=fun h=>getD_set_true h
  by_cases hjy:y.i=j
  ·subst hjy
   rw [ho] at ho';cases ho'
   exact hlst (hready e he hb)
  ·rw [getD_set_ne true hjy] at hj
   exact hlst (h.cl j o' ho' hj e he hb)
 ·intro j hj
  by_cases hjy:y.i=j
  ·subst hjy
   have hsz:=h.sz
   have:(listed.setIfInBounds y.i true).getD y.i true=true:=by
    simp [Array.getD_eq_getD_getElem?,Array.getElem?_setIfInBounds,show y.i < listed.size by omega]
   rw [this]
   simp only [Bool.true_eq_false,false_iff]
   intro hmem
   obtain ⟨z,hz,e⟩:=List.mem_map.1 hmem
   exact hnotin z hz e
  ·rw [getD_set_ne true hjy,h.ls j hj]
   simp only [List.map_append,List.map_cons,List.mem_append,List.mem_cons]
   constructor
   ·rintro (h | h | h)
    ·exact .inl h
    ·exact absurd h.symm hjy
    ·exact .inr h
   ·rintro (h | h)
    ·exact .inl h
    ·exact .inr (.inr h)
 ·intro z hz hzi
  rcases List.mem_append.1 hz with hz | hz
  ·exact List.mem_append_left _ hz
  ·rcases List.mem_cons.1 hz with rfl | hz
   ·exact absurd rfl hzi
   ·exact List.mem_append_right _ hz
theorem Pl.done {es:List Ent} {listed:Array Bool} (he:es=[]) (s:St P c.nt G own a w) (h:Runs CE (stepRM c ops) es G G')
 (hq:∀ own' a' w',St P c.nt G' own' a' w'→Tr own w own' w'→a'.defers=a.defers→Q .normal a' w'):Q .normal a w:=by
 subst he
 have:G=G':=h
 subst this
 exact hq own a w s (Tr.refl _ _) rfl
theorem Pl.end {es:List Ent} {listed:Array Bool} (h:Pl ops X es listed) (he:es=[]):Region.ready .any ops listed=[]:=by
 subst he
 cases hr:Region.ready .any ops listed with
 | nil=>rfl
 | cons i r=>
   have:i∈Region.ready .any ops listed:=by rw [hr];exact List.mem_cons_self ..
   obtain ⟨h1,o,ho,_⟩:=mem_ready.1 this
   have hi:i < ops.size:=(Array.getElem?_eq_some_iff.1 ho).1
   have:=(h.ls i hi).1 h1
   simp at this
theorem runs_one (hc:CfgOk P c) (hip:IpsOk P c) (hCE:∀ g args outs r outs',CE g args outs r outs'→CallE P g args outs r outs') (hF:WideF P F):∀ (fuel:Nat) (es:List Ent) {listed:Array Bool} {G G':Sta} {own:Own} {a:Act} {w:World},
 es.length≤fuel→Pl ops X es listed→(∀ x∈es,∀ y∈es,X x.i y.i=false)→
 St P c.nt G own a w→Runs CE (stepRM c ops) es G G'→(∀ own' a' w',St P c.nt G' own' a' w'→Tr own w own' w'→a'.defers=a.defers→Q .normal a' w')→wpAnyIn F n P .any ops Q fuel listed a w:=by
 intro fuel
 induction fuel with
 | zero=>
   intro es listed G G' own a w hf hp hX s h hq
   have he:es=[]:=List.length_eq_zero_iff.1 (by omega)
   exact ⟨hp.end he,Pl.done (listed:=listed) he s h hq⟩
 | succ fuel ih=>
   intro es listed G G' own a w hf hp hX s h hq
   refine ⟨fun hr=>Pl.done (listed:=listed) (hp.empty hr) s h hq,fun i hi=>?_⟩
   have hi1:=mem_ready.1 hi
   obtain ⟨hi1,oi,hoi,_⟩:=hi1
   have hmem:=(hp.ls i (Array.getElem?_eq_some_iff.1 hoi).1).1 hi1
   obtain ⟨z,hz,ez⟩:=List.mem_map.1 hmem
   obtain ⟨y,es',rfl,r1,r2,hp',hlen,hsub,hne,_⟩:=hp.pick hi (fun x hx _=>ez▸hX x hx z hz) h
   refine step_ent hc hip hCE hF s r1 fun own' a' w' s' t' d'=>?_
   exact ih es' (by omega) hp' (fun x hx y hy=>hX x (hsub x hx) y (hsub y hy)) s' r2 fun own2 a2 w2 s2 t2 d2=>hq own2 a2 w2 s2 (t'.trans t2) (d2.trans d')
def xp (A B:Nat) (i j:Nat):Bool:=i == A && j == B
theorem runs_two (hc:CfgOk P c) (hip:IpsOk P c) (hF:WideF P F) {A B:Nat} (hAB:A≠B):∀ (fuel:Nat) (es1 es2:List Ent) {listed:Array Bool} {G G1 G2:Sta} {own:Own} {a:Act} {w:World},
 es1.length≤fuel→Pl ops (xp A B) es1 listed→Pl ops (xp B A) es2 listed→
 St P c.nt G own a w→Runs noCE (stepRM c ops) es1 G G1→Runs noCE (stepRM c ops) es2 G G2→(∀ own' a' w',St P c.nt G1 own' a' w'→Tr own w own' w'→a'.defers=a.defers→Q .normal a' w')→(∀ own' a' w',St P c.nt G2 own' a' w'→Tr own w own' w'→a'.defers=a.defers→Q .normal a' w')→wpAnyIn F n P .any ops Q fuel listed a w:=by
 have hCE:∀ g args outs r outs',noCE g args outs r outs'→CallE P g args outs r outs':=fun _ _ _ _ _ h=>h.elim
 intro fuel
 induction fuel with
 | zero=>
   intro es1 es2 listed G G1 G2 own a w hf hp1 hp2 s h1 h2 hq hq'
   have he:es1=[]:=List.length_eq_zero_iff.1 (by omega)
   exact ⟨hp1.end he,Pl.done (listed:=listed) he s h1 hq⟩
 | succ fuel ih=>
   intro es1 es2 listed G G1 G2 own a w hf hp1 hp2 s h1 h2 hq hq'
   refine ⟨fun hr=>Pl.done (listed:=listed) (hp1.empty hr) s h1 hq,fun i hi=>?_⟩
   by_cases hA:i=A
   ·subst hA
    obtain ⟨y,es',e,r1,r2,hp',hlen,hsub,hne,_⟩:=hp1.pick hi (fun x hx hxi=>by simp only [xp,Bool.and_eq_false_imp,beq_iff_eq];intro e;exact absurd e hxi) h1
    refine e▸step_ent hc hip hCE hF s r1 fun own' a' w' s' t' d'=>?_
    rw [e]
    exact runs_one hc hip hCE hF fuel es' (by omega) hp' (fun x hx y hy=>by simp only [xp,Bool.and_eq_false_imp,beq_iff_eq];intro e;exact absurd e (hne x hx)) s' r2 fun own2 a2 w2 s2 t2 d2=>hq own2 a2 w2 s2 (t'.trans t2) (d2.trans d')
   ·by_cases hB:i=B
    ·subst hB
     obtain ⟨y,es',e,r1,r2,hp',hlen,hsub,hne,_⟩:=hp2.pick hi (fun x hx hxi=>by simp only [xp,Bool.and_eq_false_imp,beq_iff_eq];intro e;exact absurd e hxi) h2
     have hl:es2.length=es1.length:=by
      have:(es2.map (·.i)).Perm (es1.map (·.i)):=by
       refine (List.perm_ext_iff_of_nodup hp2.nd hp1.nd).2 fun j=>?_
       constructor
       ·intro hj
        obtain ⟨z,hz,rfl⟩:=List.mem_map.1 hj
        exact (hp1.ls z.i (hp2.lt z hz)).1 ((hp2.ls z.i (hp2.lt z hz)).2 hj)
       ·intro hj
        obtain ⟨z,hz,rfl⟩:=List.mem_map.1 hj
        exact (hp2.ls z.i (hp1.lt z hz)).1 ((hp1.ls z.i (hp1.lt z hz)).2 hj)
      simpa using this.length_eq
     refine e▸step_ent hc hip hCE hF s r1 fun own' a' w' s' t' d'=>?_
     rw [e]
     exact runs_one hc hip hCE hF fuel es' (by omega) hp' (fun x hx y hy=>by simp only [xp,Bool.and_eq_false_imp,beq_iff_eq];intro e;exact absurd e (hne x hx)) s' r2 fun own2 a2 w2 s2 t2 d2=>hq' own2 a2 w2 s2 (t'.trans t2) (d2.trans d')
    ·obtain ⟨y1,f1,e1,r1,r2,hp1',hlen,hsub,hne,_⟩:=hp1.pick hi (fun x hx hxi=>by simp only [xp,Bool.and_eq_false_imp,beq_iff_eq];intro _;simpa using hB) h1
     obtain ⟨y2,f2,e2,q1,q2,hp2',hlen2,hsub2,hne2,_⟩:=hp2.pick hi (fun x hx hxi=>by simp only [xp,Bool.and_eq_false_imp,beq_iff_eq];intro _;simpa using hA) h2
     obtain ⟨hU,_⟩:=RM.wp_det _ [] (e1▸r1) (e2▸q1)
     refine e1▸step_ent hc hip hCE hF s r1 fun own' a' w' s' t' d'=>?_
     rw [e1]
     exact ih f1 f2 (by omega) hp1' hp2' s' r2 (by rw [hU];exact q2) (fun own2 a2 w2 s2 t2 d2=>hq own2 a2 w2 s2 (t'.trans t2) (d2.trans d')) (fun own2 a2 w2 s2 t2 d2=>hq' own2 a2 w2 s2 (t'.trans t2) (d2.trans d'))
end
end Go.Ev
set_option linter.unusedVariables false
set_option linter.unusedSimpArgs false
namespace Go.Ev
open Go Go.RowKit
variable {P : Program}
section
variable {c : Cfg} {ops : Array Oper}
def evIx (c:Cfg) (ops:Array Oper):List Nat→List Lg→Sta→List Ora→Option (List Prop×List Lg×Sta)
 | [],log,G,q=>match q with
   | []=>some ([],log,G)
   | _=>none
 | i :: r,log,G,q=>match ops[i]? with
   | none=>none
   | some o=>match (guard2 c ops o).ev noCE G [] q with
     | some (obs,q',U,T)=>match evIx c ops r (log++[⟨i,T++Ups.refs U,Ups.writes U⟩]) (app U G) q' with
       | some (obs',log',G')=>some (obs++obs',log',G')
       | none=>none
     | none=>none
theorem evIx_runs:∀ (is:List Nat) {log log':List Lg} {G G':Sta} {q:List Ora} {obs:List Prop},evIx c ops is log G q=some (obs,log',G')→AllP obs→
 ∃ es,es.map (·.i)=is∧Runs noCE (stepRM c ops) es G G'∧log'=log++es.map Ent.lg
 | [],log,log',G,G',q,obs,h,ho=>by
   unfold evIx at h
   split at h
   ·simp only [Option.some.injEq,Prod.mk.injEq] at h;obtain ⟨rfl,rfl,rfl⟩:=h;exact ⟨[],rfl,rfl,by simp⟩
   ·cases h
 | i :: r,log,log',G,G',q,obs,h,ho=>by
   unfold evIx at h
   split at h
   ·cases h
   ·rename_i o hop
    split at h
    ·rename_i obs1 q' U T h1
     split at h
     ·rename_i obs2 log2 G2 h2
      simp only [Option.some.injEq,Prod.mk.injEq] at h
      obtain ⟨rfl,rfl,rfl⟩:=h
      obtain ⟨ho1,ho2⟩:=allP_append ho
      obtain ⟨es,e1,e2,e3⟩:=evIx_runs r h2 ho2
      refine ⟨⟨i,U,T⟩ :: es,by simp [e1],⟨?_,e2⟩,?_⟩
      ·rw [step_guard hop]
       exact le_guard _ _ _ _ (RM2.ev_wp _ h1 ho1 ⟨rfl,rfl⟩)
      ·rw [e3];simp [Ent.lg,Ent.reads]
     ·cases h
    ·cases h
def logOkX (tab:List (List Nat)) (X:Nat→Nat→Bool):List Lg→Bool
 | []=>true
 | x :: r=>r.all (fun y=>ancT tab x.i y.i || (X x.i y.i || lgOk x y)) && logOkX tab X r
theorem entOkX_spec {X:Nat→Nat→Bool} {tab:List (List Nat)} (htopo:topo ops=true) (h:ancOk ops tab=true):∀ {es:List Ent},(∀ x∈es,x.i < ops.size)→logOkX tab X (es.map Ent.lg)=true→entOkX ops X es
 | [],_,_=>trivial
 | x :: r,hlt,hes=>by
   simp only [List.map_cons,logOkX,Bool.and_eq_true] at hes
   refine ⟨fun y hy hn hx=>?_,entOkX_spec htopo h (fun z hz=>hlt z (List.mem_cons_of_mem _ hz)) hes.2⟩
   have:=List.all_eq_true.1 hes.1 y.lg (List.mem_map.2 ⟨y,hy,rfl⟩)
   simp only [Bool.or_eq_true] at this
   rcases this with h1 | h1 | h1
   ·have hy:=hlt y (List.mem_cons_of_mem _ hy)
    rw [ancOk_spec htopo h ops.size y.i x.i hy hy h1] at hn;cases hn
   ·have h1:X x.i y.i=true:=h1
    rw [h1] at hx;cases hx
   ·exact indB_spec h1
def tpB (ops:Array Oper):List Nat→Bool
 | []=>true
 | i :: r=>(match ops[i]? with
   | none=>false
   | some o=>o.after.toList.all fun e=>!Region.binds .any e || (Nat.blt e.on ops.size && (i :: r).all fun j=>!Nat.beq e.on j)) && tpB ops r
theorem tpB_spec:∀ {es:List Ent},tpB ops (es.map (·.i))=true→Tp ops es
 | [],_=>trivial
 | x :: r,h=>by
   simp only [List.map_cons,tpB,Bool.and_eq_true] at h
   refine ⟨fun o ho e he hb=>?_,tpB_spec h.2⟩
   have h1:=h.1
   rw [ho] at h1
   have h2:=List.all_eq_true.1 h1 e (Array.mem_toList_iff.2 he)
   simp only [hb,Bool.not_true,Bool.false_or,Bool.and_eq_true] at h2
   refine ⟨by have:=h2.1;simpa [Nat.blt_eq] using this,fun y hy e1=>?_⟩
   have h3:=List.all_eq_true.1 h2.2 y.i (by
    rcases List.mem_cons.1 hy with rfl | hy
    ·exact List.mem_cons_self ..
    ·exact List.mem_cons_of_mem _ (List.mem_map.2 ⟨y,hy,rfl⟩))
   rw [e1] at h3;simp at h3
def ndB:List Nat→Bool
 | []=>true
 | i :: r=>r.all (fun j=>!Nat.beq i j) && ndB r
theorem ndB_spec:∀ {l:List Nat},ndB l=true→l.Nodup
 | [],_=>List.nodup_nil
 | i :: r,h=>by
   simp only [ndB,Bool.and_eq_true] at h
   refine List.nodup_cons.2 ⟨fun hm=>?_,ndB_spec h.2⟩
   have:=List.all_eq_true.1 h.1 _ hm
   simp at this
def permB (is:List Nat) (n:Nat):Bool:=ndB is && (is.all (fun i=>Nat.blt i n) && (List.range n).all fun i=>is.any fun j=>Nat.beq i j)
def evOrd (c:Cfg) (x:Code) (A B:Nat) (is:List Nat) (q:List Ora) (G:Sta):Option (List Prop×Sta):=
 match x with
 | .region _ ops true=>match evIx c ops is [] G q with
   | some (obs,log,G')=>match permB is ops.size && (topo ops && (ancOk ops (tabOf ops) && (tpB ops is && logOkX (tabOf ops) (xp A B) log))) with
     | true=>some (obs,G')
     | false=>none
   | none=>none
 | _=>none
theorem evOrd_pl {x:Code} {A B:Nat} {is:List Nat} {q:List Ora} {G G':Sta} {obs:List Prop} {id:Nat} {ops:Array Oper} {d:Bool} (hx:x=.region id ops d) (h:evOrd c x A B is q G=some (obs,G')) (ho:AllP obs) :
 d=true∧∃ es,es.length=ops.size∧Runs noCE (stepRM c ops) es G G'∧Pl ops (xp A B) es (Array.replicate ops.size false):=by
 subst hx
 cases d with
 | false=>cases h
 | true=>
 refine ⟨rfl,?_⟩
 unfold evOrd at h
 dsimp only at h
 split at h
 ·rename_i obs' log G1 hev
  split at h
  ·rename_i hb
   simp only [Option.some.injEq,Prod.mk.injEq] at h
   obtain ⟨rfl,rfl⟩:=h
   simp only [Bool.and_eq_true] at hb
   obtain ⟨hperm,htopo,hanc,htp,hlog⟩:=hb
   simp only [permB,Bool.and_eq_true] at hperm
   obtain ⟨p1,p2,p3⟩:=hperm
   obtain ⟨es,e1,e2,e3⟩:=evIx_runs is hev ho
   have hlt:∀ x∈es,x.i < ops.size:=fun x hx=>by
    have h1:=List.all_eq_true.1 p2 x.i (by rw [← e1];exact List.mem_map.2 ⟨x,hx,rfl⟩)
    simpa [Nat.blt_eq] using h1
   have hnd:(es.map (·.i)).Nodup:=by rw [e1];exact ndB_spec p1
   have hall:∀ i,i < ops.size→i∈es.map (·.i):=fun i hi=>by
    have h1:=List.all_eq_true.1 p3 i (List.mem_range.2 hi)
    obtain ⟨j,hj,hij⟩:=List.any_eq_true.1 h1
    rw [e1,Nat.eq_of_beq_eq_true hij];exact hj
   have hsz:es.length=ops.size:=by
    have:(es.map (·.i)).Perm (List.range ops.size):=by
     refine (List.perm_ext_iff_of_nodup hnd List.nodup_range).2 fun j=>⟨fun hj=>?_,fun hj=>hall j (List.mem_range.1 hj)⟩
     obtain ⟨z,hz,rfl⟩:=List.mem_map.1 hj
     exact List.mem_range.2 (hlt z hz)
    simpa using this.length_eq
   refine ⟨es,hsz,e2,by simp,?_,?_,hlt,hnd,tpB_spec (by rw [e1];exact htp),entOkX_spec htopo hanc hlt (by rw [e3,List.nil_append] at hlog;exact hlog)⟩
   ·intro i o ho hl
    have hi:=(Array.getElem?_eq_some_iff.1 ho).1
    simp [Array.getD_eq_getD_getElem?,hi] at hl
   ·intro i hi
    simp [Array.getD_eq_getD_getElem?,hi]
    have:=hall i hi
    simpa using this
  ·cases h
 ·cases h
theorem Sem.region2 (hc:COk P c) {x:Code} {A B:Nat} (hAB:A≠B) {is1 is2:List Nat} {q1 q2:List Ora} {G G1 G2 G':Sta} {obs1 obs2:List Prop} {K:Ex→Sta→Prop} (h1:evOrd c x A B is1 q1 G=some (obs1,G1)) (h2:evOrd c x B A is2 q2 G=some (obs2,G2))
 (ho1:AllP obs1) (ho2:AllP obs2) (hw:Wk P c.nt G1 G') (hw2:Wk P c.nt G2 G') (hk:K .normal G'):Sem P c x G K:=by
 intro own a w F n Q hF s hQ
 have hx:∃ id ops d,x=.region id ops d:=by
  unfold evOrd at h1
  split at h1
  ·exact ⟨_,_,_,rfl⟩
  ·cases h1
 obtain ⟨id,ops,d,hx⟩:=hx
 obtain ⟨hd,es1,l1,r1,p1⟩:=evOrd_pl hx h1 ho1
 obtain ⟨_,es2,l2,r2,p2⟩:=evOrd_pl hx h2 ho2
 subst hd
 subst hx
 have fin:∀ {H:Sta},Wk P c.nt H G'→∀ own' a' w',St P c.nt H own' a' w'→Tr own w own' w'→a'.defers=a.defers→Q .normal a' w':=by
  intro H hw own' a' w' s' t' d'
  obtain ⟨own2,s2,t2⟩:=hw own' a' w' s'
  exact hQ .normal _ own2 a' w' hk s2 (t'.trans t2) (.same d')
 obtain ⟨s1,t1⟩:=s.drawn (w.drawn+1)
 refine wpIn_region_any hc.ro ?_
 exact runs_two hc.cfg hc.ip hF.1 hAB ops.size es1 es2 (by omega) p1 p2 s1 r1 r2 (fun own' a' w' s' t' d'=>fin hw own' a' w' s' (t1.trans t') d') (fun own' a' w' s' t' d'=>fin hw2 own' a' w' s' (t1.trans t') d')
end
def steal (b off:Nat) (G:Sta):Sta:=
 match look G b (some off) with
 | some (.rf sb j 0 n)=>match look G sb (some j) with
   | some (.own E l)=>match Nat.beq (b % 3) 1 with
     | true=>G
     | false=>app [.leaf sb j .bad,.leaf b off (.own E (l.take n))] G
   | _=>G
 | _=>G
theorem Wk.steal {c:Cfg} {G:Sta} (b off:Nat):Wk P c.nt G (Ev.steal b off G):=by
 intro own a w s
 unfold Ev.steal
 split
 ·rename_i sb j n h1
  split
  ·rename_i E l h2
   split
   ·exact ⟨own,s,Tr.refl _ _⟩
   ·rename_i hb
    have hb:b % 3≠1:=fun e=>by rw [e] at hb;simp at hb
    simp only [look,Option.bind_eq_some_iff,Option.filter_eq_some_iff] at h1
    obtain ⟨v,hg,hv,_⟩:=h1
    obtain ⟨k,arr,TT,e1,e2,e3,e4⟩:=s.boxes b v hb hg
    have hoff:off < v.leaves.length:=(List.getElem?_eq_some_iff.1 hv).1
    obtain ⟨u,hu⟩:∃ u,arr[off]?=some u:=⟨arr[off]'(by omega),by simp [show off < arr.size by omega]⟩
    have hr:SlV P G own w sb j 0 n u:=e4 off _ _ hv hu
    obtain ⟨_,hown⟩:=slv_own h2 hr
    obtain ⟨r1,s1,K1,K2⟩:=store_own (c:=c) s hb e1 (show lenOf G b=some v.leaves.length by simp [lenOf,hg]) hoff hown
    rw [setCell_self e2 hu] at s1 K2
    exact ⟨_,s1,K1.tr.trans K2.tr⟩
  ·exact ⟨own,s,Tr.refl _ _⟩
 ·exact ⟨own,s,Tr.refl _ _⟩
theorem Sem.cfg {c c':Cfg} {x:Code} {G:Sta} {K:Ex→Sta→Prop} (h1:c'.nt=c.nt) (h2:c'.rnd=c.rnd) (h:Sem P c' x G K):Sem P c x G K:=by
 unfold Sem WideC at h ⊢
 rw [h1,h2] at h
 exact h
theorem COk.vs {c:Cfg} (h:COk P c) (vs:Nat→Bool):COk P { c with vs:=vs }:=⟨h.cfg,ipsOk_same h.ip rfl rfl,h.ro⟩
def rawOf:Option (List Prop×Sta)→Sta
 | some (_,G)=>G
 | none=>[]
theorem Wk.st {c:Cfg} {G G':Sta} {keep:List Nat} (b off:Nat) (h:Ev.tidy [] keep (Ev.steal b off G)=G'):Wk P c.nt G G':=(Wk.steal b off).trans (Wk.eq h)
end Go.Ev
set_option linter.unusedSimpArgs false
set_option linter.unusedVariables false
namespace Go.Ev
open Go Go.Proofs
set_option maxRecDepth 8000
theorem Wk.of_eq {P:Program} {nt:Nat} {G G':Sta} (h:G=G'):Wk P nt G G':=by rw [h];exact Wk.refl
set_option maxHeartbeats 1000000 in
theorem W_split_turned_api_Rx (l:(List api_Rx)) (res:(List api_Rx))
 (h:((0:Int)≤(↑(List.length l):Int)∧(↑(List.length l):Int) < (2:Int) ^ (40:Nat)∧(↑(80:Nat):Int) * (↑(List.length l):Int)≤(2:Int) ^ (47:Nat))∧(C_slices_Backward__api_Rx_api_Rx l∧(List.length l < 1099511627776∧∃ (Inv7:Nat→List api_Rx→Prop),Inv7 0 ([])∧(∀ (i:Nat) (y:api_Rx),i < List.length l→l[List.length l - 1 - i]?=some y→∀ (out:List api_Rx),Inv7 i out→((List.length out+(1:Nat)) * (80:Nat)≤(2:Nat) ^ (47:Nat))∧((0:Int)≤(↑(List.length out):Int))∧(List.length out < List.length out+(1:Nat))∧List.length out < List.length (out++[{ Kind:=(0:Int),Set:={ e0:=(0:Int),e1:=(0:Int),e2:=(0:Int),e3:=(0:Int) },Lo:=(0:Int),Hi:=(0:Int),Kids:=[] }])∧Inv7 (i+1) (List.set (out++[{ Kind:=(0:Int),Set:={ e0:=(0:Int),e1:=(0:Int),e2:=(0:Int),e3:=(0:Int) },Lo:=(0:Int),Hi:=(0:Int),Kids:=[] }]) (List.length out) y))∧(∀ (out:List api_Rx),Inv7 (List.length l) out→(res=out))))):C_split_turned_api_Rx l res:=by
 unfold C_split_turned_api_Rx
 have kk:=cfOk [] 20
 refine fD (x:=bodyOf Try.f65) kk Try.func65 ?_
 refine wkS [1] [(1,vL enc_api_Rx l)] (by kernel_rfl) ?_
 refine sD kk [] [] [] obN ?_
 obtain ⟨h0,h⟩:=h
 refine sDE kk [] [] [(10,.ptr 11 0),(11,.own 36 ([]))] [(10,.ptr 11 0),(11,oL 36 enc_api_Rx ([]))] (obC (show (0:Int)=(0:Int)∧(0:Int)≤(↑(List.length (List.map enc_api_Rx l)):Int)∧(↑(List.length (List.map enc_api_Rx l)):Int) < (2:Int) ^ (40:Nat)∧(↑(80:Nat):Int) * (↑(List.length (List.map enc_api_Rx l)):Int)≤(2:Int) ^ (47:Nat) from by simpa only [nm] using h0) obN) ?_
 refine qD ?_
 obtain ⟨hc1,h⟩:=h
 refine sD kk [.c (.clo 117 [.fp (fL enc_api_Rx l) 0]) []] [1] [(31,.clo 117 [.fp (fL enc_api_Rx l) 0])] (obC hc1 obN) ?_
 refine bD (id:=0) ?_
 obtain ⟨hl8,Inv7,h0Inv7,hRInv7,hDInv7⟩:=h
 refine Sem.range (α:=api_Rx) (σ:=List api_Rx) (c:=(cf [] 20)) (by rfl) (tg:=10) (p0:=11) (p1:=12) (by kernel_rfl) (xs:=l) (by kernel_rfl) back_ok_117 (ey:=(fun (y:api_Rx)=>(fv_api_Rx y:FV))) (sz:=8) (fun y=>enc_api_Rx_eq y) (fun y=>by simp [FV.fits,FV.size,FV.cells,FV.one,enc_api_Rx_eq]) (by omega) [(10,.ptr 11 0)] [11] (fun (q:List api_Rx)=>(fun (out:List api_Rx)=>([oL 36 enc_api_Rx out]:List AV)) q) (fun (i:Nat) (q:List api_Rx)=>Inv7 i q) ([]) ((wkE (G':=[(10,.ptr 11 0),(11,oL 36 enc_api_Rx ([]))]) [] [10,11] (by kernel_rfl)).trans (Wk.pick [10,11] (by kernel_rfl))) h0Inv7 (by rfl) (fun q=>by rfl) (by rfl) (by decide) (fun q q'=>by rfl) (Nat.le_of_ble_eq_true rfl) (Nat.le_of_ble_eq_true rfl) (by decide) ?_ ?_
 ·rintro i out y hi hy hinv
  have h:=hRInv7 i y hi hy out hinv
  refine Sem.weak (Wk.pick [3,10,34,37] (G':=[(3,oL 36 enc_api_Rx out),(10,.ptr 3 0),(34,vi ((↑(List.length l):Int) - 1 - (↑i:Int))),(37,av_api_Rx y)]) (by kernel_rfl)) ?_
  show Sem _ (cfr [] 20) (sq1 (sq1 (sq2 (sq1 (sq2 (sq2 (bodyOf Try.f65))))))) _ _
  have kr:=cfrOk [] 20
  refine rD kr [] [34,37] [(16,.ptr 17 0),(17,av_api_Rx y)] obN ?_
  refine ⟨rfl,?_⟩
  show Sem _ (cfr [] 20) (sq2 (sq1 (sq2 (sq1 (sq2 (sq2 (bodyOf Try.f65))))))) _ _
  refine bD (id:=1) ?_
  obtain ⟨h9,h⟩:=h
  obtain ⟨h10,h⟩:=h
  obtain ⟨h11,h⟩:=h
  obtain ⟨h12,h⟩:=h
  have kv:=kr.vs fun t=>t == 17
  refine Sem.cfg (c':={ cfr [] 20 with vs:=fun t=>t == 17 }) rfl rfl (Sem.region2 (A:=6) (B:=7) kv (by decide) (is1:=[0,1,2,3,4,5,6,7]) (is2:=[0,1,2,3,4,5,7,6]) (q1:=[.e (fv_api_Rx (List.getD (out++[{ Kind:=(0:Int),Set:={ e0:=(0:Int),e1:=(0:Int),e2:=(0:Int),e3:=(0:Int) },Lo:=(0:Int),Hi:=(0:Int),Kids:=[] }]) (List.length out) default))]) (q2:=[.e (fv_api_Rx (List.getD (out++[{ Kind:=(0:Int),Set:={ e0:=(0:Int),e1:=(0:Int),e2:=(0:Int),e3:=(0:Int) },Lo:=(0:Int),Hi:=(0:Int),Kids:=[] }]) (List.length out) default))])
   (G1:=rawOf (evOrd { cfr [] 20 with vs:=fun t=>t == 17 } (sq1 (sq2 (sq1 (sq2 (sq1 (sq2 (sq2 (bodyOf Try.f65)))))))) 6 7 [0,1,2,3,4,5,6,7] [.e (fv_api_Rx (List.getD (out++[{ Kind:=(0:Int),Set:={ e0:=(0:Int),e1:=(0:Int),e2:=(0:Int),e3:=(0:Int) },Lo:=(0:Int),Hi:=(0:Int),Kids:=[] }]) (List.length out) default))] [(3,oL 36 enc_api_Rx out),(10,.ptr 3 0),(16,.ptr 17 0),(17,av_api_Rx y)])) (G2:=rawOf (evOrd { cfr [] 20 with vs:=fun t=>t == 17 } (sq1 (sq2 (sq1 (sq2 (sq1 (sq2 (sq2 (bodyOf Try.f65)))))))) 7 6 [0,1,2,3,4,5,7,6] [.e (fv_api_Rx (List.getD (out++[{ Kind:=(0:Int),Set:={ e0:=(0:Int),e1:=(0:Int),e2:=(0:Int),e3:=(0:Int) },Lo:=(0:Int),Hi:=(0:Int),Kids:=[] }]) (List.length out) default))] [(3,oL 36 enc_api_Rx out),(10,.ptr 3 0),(16,.ptr 17 0),(17,av_api_Rx y)])) (by kernel_rfl) (by kernel_rfl) (obC (show (0:Nat)=(0:Nat)∧List.length (List.map enc_api_Rx out)=List.length (List.map enc_api_Rx out) from by first | decide | rfl | trivial | (simp only [nm]<;>first | decide | rfl | omega)) (obC (show (List.length (List.map enc_api_Rx out)+List.length (List.take (1:Nat) (List.drop (0:Nat) [FV.agg [FV.pv (Value.int IntKind.i64 (0)),FV.pv (Value.int IntKind.u64 (0)),FV.pv (Value.int IntKind.u64 (0)),FV.pv (Value.int IntKind.u64 (0)),FV.pv (Value.int IntKind.u64 (0)),FV.pv (Value.int IntKind.i64 (0)),FV.pv (Value.int IntKind.i64 (0)),FV.sl []]]))) * (80:Nat)≤(2:Nat) ^ (47:Nat) from by simpa only [nm] using h9) (obC (show List.all (List.take (1:Nat) (List.drop (0:Nat) [FV.agg [FV.pv (Value.int IntKind.i64 (0)),FV.pv (Value.int IntKind.u64 (0)),FV.pv (Value.int IntKind.u64 (0)),FV.pv (Value.int IntKind.u64 (0)),FV.pv (Value.int IntKind.u64 (0)),FV.pv (Value.int IntKind.i64 (0)),FV.pv (Value.int IntKind.i64 (0)),FV.sl []]])) (FV.fits (8:Nat))=true from by first | decide | rfl | trivial | (simp only [nm]<;>first | decide | rfl | omega)) (obC (show (0:Int)≤(↑(List.length (List.map enc_api_Rx out)):Int) from by simpa only [nm] using h10) (obC (show Int.toNat (↑(List.length (List.map enc_api_Rx out)):Int) < List.length (List.map enc_api_Rx out++List.take (1:Nat) (List.drop (0:Nat) [FV.agg [FV.pv (Value.int IntKind.i64 (0)),FV.pv (Value.int IntKind.u64 (0)),FV.pv (Value.int IntKind.u64 (0)),FV.pv (Value.int IntKind.u64 (0)),FV.pv (Value.int IntKind.u64 (0)),FV.pv (Value.int IntKind.i64 (0)),FV.pv (Value.int IntKind.i64 (0)),FV.sl []]])) from by simpa only [nm] using h11) (obC (show (List.map enc_api_Rx out++List.take (1:Nat) (List.drop (0:Nat) [FV.agg [FV.pv (Value.int IntKind.i64 (0)),FV.pv (Value.int IntKind.u64 (0)),FV.pv (Value.int IntKind.u64 (0)),FV.pv (Value.int IntKind.u64 (0)),FV.pv (Value.int IntKind.u64 (0)),FV.pv (Value.int IntKind.i64 (0)),FV.pv (Value.int IntKind.i64 (0)),FV.sl []]]))[((0:Nat)+Int.toNat (↑(List.length (List.map enc_api_Rx out)):Int):Nat)]?=some (fv_api_Rx (List.getD (out++[{ Kind:=(0:Int),Set:={ e0:=(0:Int),e1:=(0:Int),e2:=(0:Int),e3:=(0:Int) },Lo:=(0:Int),Hi:=(0:Int),Kids:=[] }]) (List.length out) default)) from by have:=idx_ok' enc_api_Rx (out++[{ Kind:=(0:Int),Set:={ e0:=(0:Int),e1:=(0:Int),e2:=(0:Int),e3:=(0:Int) },Lo:=(0:Int),Hi:=(0:Int),Kids:=[] }]) (List.length out) _ (enc_api_Rx_eq _) h12;simpa only [nm,enq,enc_api_Rx_eq] using this) obN)))))) (obC (show (0:Nat)=(0:Nat)∧List.length (List.map enc_api_Rx out)=List.length (List.map enc_api_Rx out) from by first | decide | rfl | trivial | (simp only [nm]<;>first | decide | rfl | omega)) (obC (show (List.length (List.map enc_api_Rx out)+List.length (List.take (1:Nat) (List.drop (0:Nat) [FV.agg [FV.pv (Value.int IntKind.i64 (0)),FV.pv (Value.int IntKind.u64 (0)),FV.pv (Value.int IntKind.u64 (0)),FV.pv (Value.int IntKind.u64 (0)),FV.pv (Value.int IntKind.u64 (0)),FV.pv (Value.int IntKind.i64 (0)),FV.pv (Value.int IntKind.i64 (0)),FV.sl []]]))) * (80:Nat)≤(2:Nat) ^ (47:Nat) from by simpa only [nm] using h9) (obC (show List.all (List.take (1:Nat) (List.drop (0:Nat) [FV.agg [FV.pv (Value.int IntKind.i64 (0)),FV.pv (Value.int IntKind.u64 (0)),FV.pv (Value.int IntKind.u64 (0)),FV.pv (Value.int IntKind.u64 (0)),FV.pv (Value.int IntKind.u64 (0)),FV.pv (Value.int IntKind.i64 (0)),FV.pv (Value.int IntKind.i64 (0)),FV.sl []]])) (FV.fits (8:Nat))=true from by first | decide | rfl | trivial | (simp only [nm]<;>first | decide | rfl | omega)) (obC (show (0:Int)≤(↑(List.length (List.map enc_api_Rx out)):Int) from by simpa only [nm] using h10) (obC (show Int.toNat (↑(List.length (List.map enc_api_Rx out)):Int) < List.length (List.map enc_api_Rx out++List.take (1:Nat) (List.drop (0:Nat) [FV.agg [FV.pv (Value.int IntKind.i64 (0)),FV.pv (Value.int IntKind.u64 (0)),FV.pv (Value.int IntKind.u64 (0)),FV.pv (Value.int IntKind.u64 (0)),FV.pv (Value.int IntKind.u64 (0)),FV.pv (Value.int IntKind.i64 (0)),FV.pv (Value.int IntKind.i64 (0)),FV.sl []]])) from by simpa only [nm] using h11) (obC (show (List.map enc_api_Rx out++List.take (1:Nat) (List.drop (0:Nat) [FV.agg [FV.pv (Value.int IntKind.i64 (0)),FV.pv (Value.int IntKind.u64 (0)),FV.pv (Value.int IntKind.u64 (0)),FV.pv (Value.int IntKind.u64 (0)),FV.pv (Value.int IntKind.u64 (0)),FV.pv (Value.int IntKind.i64 (0)),FV.pv (Value.int IntKind.i64 (0)),FV.sl []]]))[((0:Nat)+Int.toNat (↑(List.length (List.map enc_api_Rx out)):Int):Nat)]?=some (fv_api_Rx (List.getD (out++[{ Kind:=(0:Int),Set:={ e0:=(0:Int),e1:=(0:Int),e2:=(0:Int),e3:=(0:Int) },Lo:=(0:Int),Hi:=(0:Int),Kids:=[] }]) (List.length out) default)) from by have:=idx_ok' enc_api_Rx (out++[{ Kind:=(0:Int),Set:={ e0:=(0:Int),e1:=(0:Int),e2:=(0:Int),e3:=(0:Int) },Lo:=(0:Int),Hi:=(0:Int),Kids:=[] }]) (List.length out) _ (enc_api_Rx_eq _) h12;simpa only [nm,enq,enc_api_Rx_eq] using this) obN)))))) ((Wk.st (keep:=[3]) 3 0 (G':=[(3,.own 36 (List.take (List.length (List.set (List.map enc_api_Rx out++List.take (List.length [FV.agg [FV.pv (Value.int IntKind.i64 (0)),FV.pv (Value.int IntKind.u64 (0)),FV.pv (Value.int IntKind.u64 (0)),FV.pv (Value.int IntKind.u64 (0)),FV.pv (Value.int IntKind.u64 (0)),FV.pv (Value.int IntKind.i64 (0)),FV.pv (Value.int IntKind.i64 (0)),FV.sl []]]) (List.drop (0:Nat) [FV.agg [FV.pv (Value.int IntKind.i64 (0)),FV.pv (Value.int IntKind.u64 (0)),FV.pv (Value.int IntKind.u64 (0)),FV.pv (Value.int IntKind.u64 (0)),FV.pv (Value.int IntKind.u64 (0)),FV.pv (Value.int IntKind.i64 (0)),FV.pv (Value.int IntKind.i64 (0)),FV.sl []]])) ((0:Nat)+Int.toNat (↑(List.length (List.map enc_api_Rx out)):Int)) (FV.agg [FV.pv (Value.int IntKind.i64 (api_Rx.Kind y)),FV.pv (Value.int IntKind.u64 (arr4_uint64.e0 (api_Rx.Set y))),FV.pv (Value.int IntKind.u64 (arr4_uint64.e1 (api_Rx.Set y))),FV.pv (Value.int IntKind.u64 (arr4_uint64.e2 (api_Rx.Set y))),FV.pv (Value.int IntKind.u64 (arr4_uint64.e3 (api_Rx.Set y))),FV.pv (Value.int IntKind.i64 (api_Rx.Lo y)),FV.pv (Value.int IntKind.i64 (api_Rx.Hi y)),FV.sl (List.map enc_api_Rx (api_Rx.Kids y))]))) (List.set (List.map enc_api_Rx out++List.take (List.length [FV.agg [FV.pv (Value.int IntKind.i64 (0)),FV.pv (Value.int IntKind.u64 (0)),FV.pv (Value.int IntKind.u64 (0)),FV.pv (Value.int IntKind.u64 (0)),FV.pv (Value.int IntKind.u64 (0)),FV.pv (Value.int IntKind.i64 (0)),FV.pv (Value.int IntKind.i64 (0)),FV.sl []]]) (List.drop (0:Nat) [FV.agg [FV.pv (Value.int IntKind.i64 (0)),FV.pv (Value.int IntKind.u64 (0)),FV.pv (Value.int IntKind.u64 (0)),FV.pv (Value.int IntKind.u64 (0)),FV.pv (Value.int IntKind.u64 (0)),FV.pv (Value.int IntKind.i64 (0)),FV.pv (Value.int IntKind.i64 (0)),FV.sl []]])) ((0:Nat)+Int.toNat (↑(List.length (List.map enc_api_Rx out)):Int)) (FV.agg [FV.pv (Value.int IntKind.i64 (api_Rx.Kind y)),FV.pv (Value.int IntKind.u64 (arr4_uint64.e0 (api_Rx.Set y))),FV.pv (Value.int IntKind.u64 (arr4_uint64.e1 (api_Rx.Set y))),FV.pv (Value.int IntKind.u64 (arr4_uint64.e2 (api_Rx.Set y))),FV.pv (Value.int IntKind.u64 (arr4_uint64.e3 (api_Rx.Set y))),FV.pv (Value.int IntKind.i64 (api_Rx.Lo y)),FV.pv (Value.int IntKind.i64 (api_Rx.Hi y)),FV.sl (List.map enc_api_Rx (api_Rx.Kids y))]))))]) (by kernel_rfl)).trans ?_) ((Wk.st (keep:=[3]) 3 0 (G':=[(3,.own 36 (List.take (List.length (List.map enc_api_Rx out++List.take (List.length [FV.agg [FV.pv (Value.int IntKind.i64 (0)),FV.pv (Value.int IntKind.u64 (0)),FV.pv (Value.int IntKind.u64 (0)),FV.pv (Value.int IntKind.u64 (0)),FV.pv (Value.int IntKind.u64 (0)),FV.pv (Value.int IntKind.i64 (0)),FV.pv (Value.int IntKind.i64 (0)),FV.sl []]]) (List.drop (0:Nat) [FV.agg [FV.pv (Value.int IntKind.i64 (0)),FV.pv (Value.int IntKind.u64 (0)),FV.pv (Value.int IntKind.u64 (0)),FV.pv (Value.int IntKind.u64 (0)),FV.pv (Value.int IntKind.u64 (0)),FV.pv (Value.int IntKind.i64 (0)),FV.pv (Value.int IntKind.i64 (0)),FV.sl []]]))) (List.set (List.map enc_api_Rx out++List.take (List.length [FV.agg [FV.pv (Value.int IntKind.i64 (0)),FV.pv (Value.int IntKind.u64 (0)),FV.pv (Value.int IntKind.u64 (0)),FV.pv (Value.int IntKind.u64 (0)),FV.pv (Value.int IntKind.u64 (0)),FV.pv (Value.int IntKind.i64 (0)),FV.pv (Value.int IntKind.i64 (0)),FV.sl []]]) (List.drop (0:Nat) [FV.agg [FV.pv (Value.int IntKind.i64 (0)),FV.pv (Value.int IntKind.u64 (0)),FV.pv (Value.int IntKind.u64 (0)),FV.pv (Value.int IntKind.u64 (0)),FV.pv (Value.int IntKind.u64 (0)),FV.pv (Value.int IntKind.i64 (0)),FV.pv (Value.int IntKind.i64 (0)),FV.sl []]])) ((0:Nat)+Int.toNat (↑(List.length (List.map enc_api_Rx out)):Int)) (FV.agg [FV.pv (Value.int IntKind.i64 (api_Rx.Kind y)),FV.pv (Value.int IntKind.u64 (arr4_uint64.e0 (api_Rx.Set y))),FV.pv (Value.int IntKind.u64 (arr4_uint64.e1 (api_Rx.Set y))),FV.pv (Value.int IntKind.u64 (arr4_uint64.e2 (api_Rx.Set y))),FV.pv (Value.int IntKind.u64 (arr4_uint64.e3 (api_Rx.Set y))),FV.pv (Value.int IntKind.i64 (api_Rx.Lo y)),FV.pv (Value.int IntKind.i64 (api_Rx.Hi y)),FV.sl (List.map enc_api_Rx (api_Rx.Kids y))]))))]) (by kernel_rfl)).trans ?_) (G':=[(3,oL 36 enc_api_Rx (List.set (out++[{ Kind:=(0:Int),Set:={ e0:=(0:Int),e1:=(0:Int),e2:=(0:Int),e3:=(0:Int) },Lo:=(0:Int),Hi:=(0:Int),Kids:=[] }]) (List.length out) y))]) ?_)
  ·refine Wk.of_eq ?_
   rw [List.take_of_length_le (by simp)]
   simp only [nm,enq,enc_api_Rx_eq,List.map_set]
  ·refine Wk.of_eq ?_
   rw [List.take_of_length_le (by simp)]
   simp only [nm,enq,enc_api_Rx_eq,List.map_set]
  exact rndE (wkE [] [3] (by rfl)) (by kernel_rfl) ⟨(List.set (out++[{ Kind:=(0:Int),Set:={ e0:=(0:Int),e1:=(0:Int),e2:=(0:Int),e3:=(0:Int) },Lo:=(0:Int),Hi:=(0:Int),Kids:=[] }]) (List.length out) y),rfl,h⟩
 ·rintro out hinv
  have h:=hDInv7 out hinv
  refine ⟨[(10,.ptr 11 0),(11,oL 36 enc_api_Rx out)],Wk.pick [10,11] (by kernel_rfl),?_⟩
  show Sem _ _ _ _ _
  refine sDE kk [] [10,11] [(7,.f (FV.sl (List.take (List.length (List.map enc_api_Rx out)) (List.drop (0:Nat) (List.map enc_api_Rx out)))))] [(7,vL enc_api_Rx out)] obN ?_
  refine tD ?_
  obtain he0:=h
  subst res
  exact (endD [] (vL enc_api_Rx out) []).1
end Go.Ev
set_option linter.unusedSimpArgs false
set_option linter.unusedVariables false
namespace Go.Ev
open Go Go.Proofs
def orBit (w:Int) (i:Int):Int:=IntKind.u64.wrap (BitVec.ofInt IntKind.u64.bits w ||| BitVec.ofInt IntKind.u64.bits (IntKind.u64.wrap (1 * 2 ^ min i.toNat IntKind.u64.bits))).toNat
def setAdd (s:arr4_uint64) (i:Int):arr4_uint64:=
 if i < 64 then { s with e0:=orBit s.e0 i } else if i < 128 then { s with e1:=orBit s.e1 (i - 64) } else if i < 192 then { s with e2:=orBit s.e2 (i - 128) } else { s with e3:=orBit s.e3 (i - 192) }
theorem w64_id0 {n:Int} (h0:-2 ^ 63≤n) (h1:n < 2 ^ 63):w64 n=n:=wrap64 (by omega) (by omega)
theorem quot64 (i:Int) (h0:0≤i) (h1:i < 256):w64 (Int.tdiv i 64)=i / 64∧i.tmod 64=i - 64 * (i / 64)∧0≤i.tmod 64:=by
 rw [Int.tdiv_eq_ediv_of_nonneg h0,Int.tmod_eq_emod_of_nonneg h0]
 exact ⟨w64_id0 (by omega) (by omega),by omega,by omega⟩
theorem add_ok (s:arr4_uint64) (i:Int) (h0:0≤i) (h1:i < 256):C_heckleref01_add s i (setAdd s i):=by
 obtain ⟨q,m,hm⟩:=quot64 i h0 h1
 refine W_heckleref01_add s i _ ?_
 rw [q,m]
 refine ⟨by omega,fun h=>⟨fun _=>by omega,?_⟩,fun h=>⟨fun _=>by omega,?_⟩,fun h=>⟨fun _=>by omega,?_⟩,fun h=>⟨fun _=>by omega,?_⟩⟩
 all_goals
  have h:=of_decide_eq_true h
  rw [h]
 ·simp [setAdd,show i < 64 by omega,orBit]
 ·simp [setAdd,show ¬ i < 64 by omega,show i < 128 by omega,orBit]
 ·simp [setAdd,show ¬ i < 64 by omega,show ¬ i < 128 by omega,show i < 192 by omega,orBit]
 ·simp [setAdd,show ¬ i < 64 by omega,show ¬ i < 128 by omega,show ¬ i < 192 by omega,orBit]
def bitOf (w:Int) (i:Int):Bool:=IntKind.u64.wrap (BitVec.ofInt IntKind.u64.bits (w.fdiv (2 ^ min i.toNat IntKind.u64.bits)) &&& BitVec.ofInt IntKind.u64.bits 1).toNat == 1
def setHas (s:arr4_uint64) (i:Int):Bool:=
 if i < 0 then false else if i < 64 then bitOf s.e0 i else if i < 128 then bitOf s.e1 (i - 64) else if i < 192 then bitOf s.e2 (i - 128) else if i < 256 then bitOf s.e3 (i - 192) else false
theorem has_ok (s:arr4_uint64) (i:Int):C_heckleref01_Has s i (setHas s i):=by
 refine W_heckleref01_Has s i _ ⟨fun g=>⟨fun g1=>?_,fun g1=>?_⟩,fun g=>?_⟩
 ·have g:=of_decide_eq_true g
  have g1:=of_decide_eq_true g1
  obtain ⟨q,m,hm⟩:=quot64 i g g1
  rw [q,m]
  refine ⟨by omega,fun h=>⟨fun _ _ _=>by omega,?_⟩,fun h=>⟨fun _ _ _=>by omega,?_⟩,fun h=>⟨fun _ _ _=>by omega,?_⟩,fun h=>⟨fun _ _ _=>by omega,?_⟩⟩
  all_goals
   have h:=of_decide_eq_true h
   rw [h]
  ·simp [setHas,show ¬ i < 0 by omega,show i < 64 by omega,bitOf]
  ·simp [setHas,show ¬ i < 0 by omega,show ¬ i < 64 by omega,show i < 128 by omega,bitOf]
  ·simp [setHas,show ¬ i < 0 by omega,show ¬ i < 64 by omega,show ¬ i < 128 by omega,show i < 192 by omega,bitOf]
  ·simp [setHas,show ¬ i < 0 by omega,show ¬ i < 64 by omega,show ¬ i < 128 by omega,show ¬ i < 192 by omega,show i < 256 by omega,bitOf]
 ·have g:=of_decide_eq_true g
  have g1:=of_decide_eq_false g1
  simp [setHas,show ¬ i < 0 by omega,show ¬ i < 64 by omega,show ¬ i < 128 by omega,show ¬ i < 192 by omega,show ¬ i < 256 by omega]
 ·have g:=of_decide_eq_false g
  simp [setHas,show i < 0 by omega]
end Go.Ev
set_option linter.unusedSimpArgs false
set_option linter.unusedVariables false
namespace Go.Ev
open Go Go.Proofs
theorem w64_id {x:Int} (h0:-9223372036854775808≤x) (h1:x≤9223372036854775807):w64 x=x:=wrap64 h0 (by omega)
def setTo (p:Int→Bool):Nat→arr4_uint64
 | 0=>⟨0,0,0,0⟩
 | n+1=>if p n then setAdd (setTo p n) n else setTo p n
def mkSet (p:Int→Bool):arr4_uint64:=setTo p 256
theorem setOf_ok (lo hi:Int):C_heckleref01_Of lo hi (mkSet fun i=>decide (i≥lo) && decide (i≤hi)):=by
 refine W_heckleref01_Of _ _ _ ⟨fun e0 e1 e2 e3 b=>∃ n:Nat,n≤256∧b=n∧arr4_uint64.mk e0 e1 e2 e3=setTo (fun i=>decide (i≥lo) && decide (i≤hi)) n,fun _ _ _ _ b=>(256 - b).toNat,⟨0,by omega,rfl,rfl⟩,?_⟩
 rintro e0 e1 e2 e3 b ⟨n,hn,rfl,hs⟩
 refine ⟨fun hb=>?_,fun hb=>?_⟩
 ·have hb:n < 256:=by have:=of_decide_eq_true hb;omega
  have hw:w64 ((n:Int)+1)=((n+1:Nat):Int):=w64_id (by omega) (by omega)
  refine ⟨fun a b c d=>arr4_uint64.mk a b c d=setTo (fun i=>decide (i≥lo) && decide (i≤hi)) (n+1),fun a b c d h=>⟨⟨n+1,by omega,hw,h⟩,by rw [hw];show (256 - _:Int).toNat < (256 - _:Int).toNat;omega⟩,fun ht=>⟨_,add_ok _ _ (by omega) (by omega),?_⟩,fun ht=>?_⟩
  ·simp only [setTo,ht,if_true,hs]
  ·simp only [setTo,ht,hs];rfl
 ·have hb:n=256:=by have:=of_decide_eq_false hb;omega
  subst hb
  exact hs.symm
theorem setNot_ok (s:arr4_uint64):C_heckleref01_Not s (mkSet fun i=>!setHas s i):=by
 refine W_heckleref01_Not _ _ ⟨fun e0 e1 e2 e3 b=>∃ n:Nat,n≤256∧b=n∧arr4_uint64.mk e0 e1 e2 e3=setTo (fun i=>!setHas s i) n,fun _ _ _ _ b=>(256 - b).toNat,⟨0,by omega,rfl,rfl⟩,?_⟩
 rintro e0 e1 e2 e3 b ⟨n,hn,rfl,hs⟩
 refine ⟨fun hb=>?_,fun hb=>?_⟩
 ·have hb:n < 256:=by have:=of_decide_eq_true hb;omega
  have hw:w64 ((n:Int)+1)=((n+1:Nat):Int):=w64_id (by omega) (by omega)
  refine ⟨fun a b c d=>arr4_uint64.mk a b c d=setTo (fun i=>!setHas s i) (n+1),fun a b c d h=>⟨⟨n+1,by omega,hw,h⟩,by rw [hw];show (256 - _:Int).toNat < (256 - _:Int).toNat;omega⟩,_,has_ok _ _,fun ht=>⟨_,add_ok _ _ (by omega) (by omega),?_⟩,fun ht=>?_⟩
  ·simp only [setTo,ht,if_true,hs]
  ·simp only [setTo,ht,hs];rfl
 ·have hb:n=256:=by have:=of_decide_eq_false hb;omega
  subst hb
  exact hs.symm
theorem char3_ok (b:Int):C_hecklelaw03_char b ⟨2,mkSet fun i=>decide (i≥b) && decide (i≤b),0,0,[]⟩:=by
 exact W_hecklelaw03_char _ _ ⟨_,setOf_ok _ _,rfl⟩
end Go.Ev
set_option linter.unusedSimpArgs false
set_option linter.unusedVariables false
namespace Go.Ev.Pl
open Go Go.Ev
abbrev SS (l:List Int):Prop:=l.Pairwise (· < ·)
theorem ss_ext:∀ {a b:List Int},SS a→SS b→(∀ x,x∈a↔x∈b)→a=b
 | [],[],_,_,_=>rfl
 | [],y :: b,_,_,h=>by have:=(h y).2 (List.mem_cons_self ..);simp at this
 | x :: a,[],_,_,h=>by have:=(h x).1 (List.mem_cons_self ..);simp at this
 | x :: a,y :: b,ha,hb,h=>by
   have ha:=List.pairwise_cons.1 ha
   have hb:=List.pairwise_cons.1 hb
   have hxy:x=y:=by
    rcases List.mem_cons.1 ((h x).1 (List.mem_cons_self ..)) with e | e
    ·exact e
    ·rcases List.mem_cons.1 ((h y).2 (List.mem_cons_self ..)) with e' | e'
     ·exact e'.symm
     ·have:=hb.1 x e;have:=ha.1 y e';omega
   subst hxy
   rw [ss_ext ha.2 hb.2]
   intro z
   constructor
   ·intro hz
    rcases List.mem_cons.1 ((h z).1 (List.mem_cons_of_mem _ hz)) with e | e
    ·subst e;have:=ha.1 z hz;omega
    ·exact e
   ·intro hz
    rcases List.mem_cons.1 ((h z).2 (List.mem_cons_of_mem _ hz)) with e | e
    ·subst e;have:=hb.1 z hz;omega
    ·exact e
def join (a b:List Int):List Int:=compactInts (sortInts (a++b))
theorem upTo_spec (zs:List Int) (hs:zs.Pairwise (·≤·)):∀ m,m≤zs.length→SS (Lib.compactUpTo zs.toArray m)∧∀ x,x∈Lib.compactUpTo zs.toArray m↔x∈zs.take m:=by
 intro m
 induction m with
 | zero=>intro _;simp [Lib.compactUpTo]
 | succ m ih=>
   intro hm
   obtain ⟨h1,h2⟩:=ih (by omega)
   have hg:zs.toArray[m]! = zs[m]'(by omega):=by simp [getElem!_pos,show m < zs.length by omega]
   have ht:∀ x,x∈zs.take (m+1)↔x∈zs.take m∨x=zs[m]'(by omega):=by
    intro x;rw [List.take_succ_eq_append_getElem (by omega),List.mem_append,List.mem_singleton]
   have hle:∀ x∈zs.take m,x≤zs[m]'(by omega):=by
    intro x hx
    obtain ⟨i,hi,rfl⟩:=List.mem_iff_getElem.1 hx
    simp only [List.length_take] at hi
    rw [List.getElem_take]
    exact List.pairwise_iff_getElem.1 hs i m (by omega) (by omega) (by omega)
   rw [Lib.compactUpTo_succ,hg]
   by_cases hk:Lib.keeps zs.toArray m=true
   ·rw [if_pos hk]
    refine ⟨List.pairwise_append.2 ⟨h1,by simp,fun x hx y hy=>?_⟩,fun x=>?_⟩
    ·simp at hy;subst hy
     have hx:=(h2 x).1 hx
     have h3:=hle x hx
     simp only [Lib.keeps,decide_eq_true_eq] at hk
     rcases hk with rfl | hk
     ·simp at hx
     ·have hm0:m≠0:=by rintro rfl;simp at hx
      have hg':zs.toArray[m - 1]! = zs[m - 1]'(by omega):=by simp [getElem!_pos,show m - 1 < zs.length by omega]
      rw [hg,hg'] at hk
      obtain ⟨i,hi,rfl⟩:=List.mem_iff_getElem.1 hx
      simp only [List.length_take] at hi
      rw [List.getElem_take] at h3 ⊢
      have h5:zs[i]'(by omega)≤zs[m - 1]'(by omega):=by
       by_cases e:i=m - 1
       ·subst e;exact Int.le_refl _
       ·exact List.pairwise_iff_getElem.1 hs i (m - 1) (by omega) (by omega) (by omega)
      have h6:zs[m - 1]'(by omega)≤zs[m]'(by omega):=List.pairwise_iff_getElem.1 hs (m - 1) m (by omega) (by omega) (by omega)
      have:zs[m - 1]'(by omega)≠zs[m]'(by omega):=fun e=>hk e.symm
      omega
    ·rw [ht];simp [h2]
   ·rw [if_neg hk]
    refine ⟨by simpa using h1,fun x=>?_⟩
    rw [List.append_nil,ht,h2]
    constructor
    ·exact .inl
    ·rintro (h | rfl)
     ·exact h
     ·simp only [Lib.keeps,decide_eq_true_eq,not_or,Decidable.not_not] at hk
      obtain ⟨hm0,hk⟩:=hk
      have hg':zs.toArray[m - 1]! = zs[m - 1]'(by omega):=by simp [getElem!_pos,show m - 1 < zs.length by omega]
      rw [hg,hg'] at hk
      rw [hk]
      refine List.mem_iff_getElem.2 ⟨m - 1,by simp;omega,by rw [List.getElem_take]⟩
theorem sort_spec (l:List Int):(sortInts l).Pairwise (·≤·)∧∀ x,x∈sortInts l↔x∈l:=by
 refine ⟨?_,fun x=>by simp [sortInts]⟩
 have:=List.pairwise_mergeSort (le:=fun x y:Int=>decide (x≤y)) (fun a b c h1 h2=>by simp at *;omega) (fun a b=>by simp;omega) l
 exact this.imp (by simp)
theorem join_spec (a b:List Int):SS (join a b)∧∀ x,x∈join a b↔x∈a∨x∈b:=by
 obtain ⟨h1,h2⟩:=sort_spec (a++b)
 obtain ⟨h3,h4⟩:=upTo_spec _ h1 _ (Nat.le_refl _)
 refine ⟨h3,fun x=>?_⟩
 show x∈Lib.compactUpTo _ _↔_
 rw [h4,List.take_length,h2,List.mem_append]
theorem sort_len (l:List Int):(sortInts l).length=l.length:=by simp [sortInts]
end Go.Ev.Pl
set_option linter.unusedSimpArgs false
set_option linter.unusedVariables false
namespace Go.Ev.Pl
open Go Go.Ev
theorem w64_id {x:Int} (h0:-9223372036854775808≤x) (h1:x≤9223372036854775807):w64 x=x:=wrap64 h0 (by omega)
theorem rx_sizeOf {x y:api_Rx} (h:y∈x.Kids):SizeOf.sizeOf y < SizeOf.sizeOf x:=by
 cases x with
 | mk k s lo hi kids=>
   have:=List.sizeOf_lt_of_mem h
   simp only [api_Rx.mk.sizeOf_spec]
   simp at this
   omega
theorem rxInd {P:api_Rx→Prop} (h:∀ x,(∀ y∈x.Kids,P y)→P x) (x:api_Rx):P x:=
 h x fun y hy=>rxInd h y
 termination_by SizeOf.sizeOf x
 decreasing_by exact rx_sizeOf hy
mutual
def cata {α:Type} (f:api_Rx→List α→α):api_Rx→α
 | ⟨k,s,lo,hi,kids⟩=>f ⟨k,s,lo,hi,kids⟩ (cataL f kids)
def cataL {α:Type} (f:api_Rx→List α→α):List api_Rx→List α
 | []=>[]
 | x :: r=>cata f x :: cataL f r
end
theorem cataL_map {α:Type} (f:api_Rx→List α→α):∀ l,cataL f l=l.map (cata f)
 | []=>rfl
 | x :: r=>by rw [cataL,cataL_map f r];rfl
theorem cata_eq {α:Type} (f:api_Rx→List α→α) (x:api_Rx):cata f x=f x (x.Kids.map (cata f)):=by
 cases x;rw [cata,cataL_map]
def Wf (x:api_Rx):Prop:=cata (α:=Prop) (fun x l=>x.Kids.length < 1099511627776∧∀ p∈l,p) x
theorem wf_eq (x:api_Rx):Wf x↔x.Kids.length < 1099511627776∧∀ y∈x.Kids,Wf y:=by
 show cata (α:=Prop) _ x↔_
 rw [cata_eq]
 constructor
 ·rintro ⟨h1,h2⟩;exact ⟨h1,fun y hy=>h2 _ (List.mem_map.2 ⟨y,hy,rfl⟩)⟩
 ·rintro ⟨h1,h2⟩
  refine ⟨h1,fun p hp=>?_⟩
  obtain ⟨y,hy,rfl⟩:=List.mem_map.1 hp
  exact h2 y hy
theorem gd_nat {α:Type} [Inhabited α] {l:List α} {i:Nat} (h:i < l.length):gd l (i:Int)=l[i]:=by
 simp [gd,List.getD,h]
def timesN (x:api_Rx):Nat:=(max 1 (min 1000 (max x.Lo x.Hi))).toNat
def sizeN:api_Rx→Nat:=cata fun x l=>if x.Kind=2 then 1 else if 3≤x.Kind∧x.Kind≤5 then l.sum * (if x.Kind=5 then timesN x else 1) else 0
theorem sizeN_eq (x:api_Rx):sizeN x=if x.Kind=2 then 1 else if 3≤x.Kind∧x.Kind≤5 then (x.Kids.map sizeN).sum * (if x.Kind=5 then timesN x else 1) else 0:=cata_eq _ x
def sizeZ (x:api_Rx):Int:=min (sizeN x:Int) (1000000:Int)
theorem sum_take_succ {l:List Nat} {i:Nat} (h:i < l.length):(l.take (i+1)).sum=(l.take i).sum+l[i]:=by
 rw [List.take_succ_eq_append_getElem h,List.sum_append];simp
theorem rxSize_ok:∀ x,Wf x→C_rx_Size x (sizeZ x):=by
 refine rxInd fun x ih hw=>?_
 obtain ⟨hl,hk⟩:=(wf_eq x).1 hw
 refine W_rx_Size x _ ⟨fun h=>?_,fun h=>⟨fun h2=>?_,fun h2=>?_⟩⟩
 ·have h:x.Kind=2:=by simpa using h
  simp [sizeZ,sizeN_eq,h];omega
 ·have:x.Kind < 3∨x.Kind > 5:=by simpa using h2
  have h:x.Kind≠2:=by simpa using h
  rw [sizeZ,sizeN_eq,if_neg h,if_neg (by omega)];omega
 ·have h:x.Kind≠2:=by simpa using h
  have h2:3≤x.Kind∧x.Kind≤5:=by simp at h2;omega
  have hT:(timesN x:Int)=max 1 (min 1000 (max x.Lo x.Hi)):=by simp only [timesN];omega
  refine ⟨fun n t=>∃ i:Nat,t=i∧i≤x.Kids.length∧n=min (((x.Kids.map sizeN).take i).sum:Int) 1000000,fun n t=>(x.Kids.length - t).toNat,⟨0,rfl,by omega,by simp;omega⟩,?_⟩
  rintro n t ⟨i,rfl,hi,hn⟩
  refine ⟨fun ht=>?_,fun ht=>?_⟩
  ·have ht:i < x.Kids.length:=by simpa using ht
   refine ⟨by omega,by omega,sizeZ x.Kids[i],by rw [gd_nat ht];exact ih _ (List.getElem_mem ht) (hk _ (List.getElem_mem ht)),?_⟩
   have hs:=sum_take_succ (l:=x.Kids.map sizeN) (i:=i) (by simpa using ht)
   rw [List.getElem_map] at hs
   have hz:sizeZ x.Kids[i]=min (sizeN x.Kids[i]:Int) (1000000:Int):=rfl
   have hw1:w64 (n+sizeZ x.Kids[i])=n+sizeZ x.Kids[i]:=w64_id (by omega) (by omega)
   have hw2:w64 ((i:Int)+1)=((i+1:Nat):Int):=w64_id (by omega) (by omega)
   rw [hw1,hw2]
   refine ⟨⟨i+1,rfl,by omega,?_⟩,by dsimp only;omega⟩
   rw [hs];simp;omega
  ·have ht:i=x.Kids.length:=by have:¬ i < x.Kids.length:=by simpa using ht
                               omega
   subst ht
   rw [List.take_of_length_le (by simp)] at hn
   refine ⟨fun m=>m=n * (if x.Kind=5 then (timesN x:Int) else 1),fun m hm=>?_,fun h5=>?_,fun h5=>?_⟩
   ·subst hm
    rw [sizeZ,sizeN_eq,if_neg h,if_pos h2]
    by_cases h5:x.Kind=5
    ·simp only [if_pos h5]
     have hp:(1:Int)≤timesN x:=by omega
     have hp2:(timesN x:Int)≤1000:=by omega
     generalize (x.Kids.map sizeN).sum=S at hn ⊢
     subst hn
     rw [Int.natCast_mul]
     generalize (timesN x:Int)=T at hp hp2 ⊢
     simp
     rcases Int.le_total (S:Int) 1000000 with hS | hS
     ·rw [Int.min_eq_left hS];omega
     ·rw [Int.min_eq_right hS]
      have h1:(1000000:Int) * 1≤1000000 * T:=Int.mul_le_mul_of_nonneg_left hp (by omega)
      have h2:(1000000:Int) * T≤S * T:=Int.mul_le_mul_of_nonneg_right hS (by omega)
      omega
    ·simp only [if_neg h5];simp;omega
   ·have h5:x.Kind=5:=by simpa using h5
    rw [if_pos h5,hT]
    have:∀ a:Int,0≤a→a≤1000000→w64 (a * max 1 (min 1000 (max x.Lo x.Hi)))=a * max 1 (min 1000 (max x.Lo x.Hi)):=fun a h1 h2=>by
     have e1:0≤a * max 1 (min 1000 (max x.Lo x.Hi)):=Int.mul_nonneg h1 (by omega)
     have e2:a * max 1 (min 1000 (max x.Lo x.Hi))≤1000000 * 1000:=Int.mul_le_mul h2 (by omega) (by omega) (by omega)
     exact w64_id (by omega) (by omega)
    rw [← this n (by omega) (by omega)]
    congr 1;congr 1
    simp;omega
   ·have h5:x.Kind≠5:=by simpa using h5
    rw [if_neg h5];omega
theorem refSize_ok:∀ x,Wf x→C_heckleref03_Size x (sizeZ x):=by
 refine rxInd fun x ih hw=>?_
 obtain ⟨hl,hk⟩:=(wf_eq x).1 hw
 refine W_heckleref03_Size x _ ⟨fun h=>?_,fun h=>?_⟩
 ·have h:x.Kind=2:=by simpa using h
  simp [sizeZ,sizeN_eq,h];omega
 have h:x.Kind≠2:=by simpa using h
 refine ⟨fun b=>b=decide (3≤x.Kind∧x.Kind≤5),fun b hb=>⟨fun hbt=>?_,fun hbf=>?_⟩,fun h3=>?_,fun h3=>⟨fun h4=>?_,fun h4=>?_⟩⟩
 ·have h2:3≤x.Kind∧x.Kind≤5:=by rw [hbt] at hb;simpa using hb.symm
  have hT:(timesN x:Int)=max 1 (min 1000 (max x.Lo x.Hi)):=by simp only [timesN];omega
  have hp:(1:Int)≤timesN x:=by omega
  have hp2:(timesN x:Int)≤1000:=by omega
  refine ⟨fun n t=>∃ i:Nat,t=i∧i≤x.Kids.length∧n=min (((x.Kids.map sizeN).take i).sum:Int) 1000000,fun n t=>(x.Kids.length - t).toNat,⟨0,rfl,by omega,by simp;omega⟩,?_⟩
  rintro n t ⟨i,rfl,hi,hn⟩
  refine ⟨fun ht=>?_,fun ht=>?_⟩
  ·have ht:i < x.Kids.length:=by simpa using ht
   refine ⟨by omega,by omega,sizeZ x.Kids[i],by rw [gd_nat ht];exact ih _ (List.getElem_mem ht) (hk _ (List.getElem_mem ht)),?_⟩
   have hs:=sum_take_succ (l:=x.Kids.map sizeN) (i:=i) (by simpa using ht)
   rw [List.getElem_map] at hs
   have hz:sizeZ x.Kids[i]=min (sizeN x.Kids[i]:Int) (1000000:Int):=rfl
   have hw1:w64 (n+sizeZ x.Kids[i])=n+sizeZ x.Kids[i]:=w64_id (by omega) (by omega)
   have hw2:w64 ((i:Int)+1)=((i+1:Nat):Int):=w64_id (by omega) (by omega)
   rw [hw1,hw2]
   refine ⟨fun hg=>?_,fun hg=>?_⟩
   ·have hg:n+sizeZ x.Kids[i] > 1000000:=by simpa using hg
    have hsum:(x.Kids.map sizeN).sum≥((x.Kids.map sizeN).take (i+1)).sum:=by
     conv=>lhs;rw [← List.take_append_drop (i+1) (x.Kids.map sizeN),List.sum_append]
     omega
    rw [sizeZ,sizeN_eq,if_neg h,if_pos h2]
    have:(1000001:Int)≤(((x.Kids.map sizeN).sum * (if x.Kind=5 then timesN x else 1):Nat):Int):=by
     split
     ·have h3:(x.Kids.map sizeN).sum * 1≤(x.Kids.map sizeN).sum * timesN x:=Nat.mul_le_mul_left _ (by omega)
      omega
     ·omega
    omega
   ·have hg:¬ n+sizeZ x.Kids[i] > 1000000:=by simpa using hg
    exact ⟨⟨i+1,rfl,by omega,by rw [hs];simp;omega⟩,by dsimp only;omega⟩
  ·have ht:i=x.Kids.length:=by have:¬ i < x.Kids.length:=by simpa using ht
                               omega
   subst ht
   rw [List.take_of_length_le (by simp)] at hn
   refine ⟨fun m=>m=n * (if x.Kind=5 then (timesN x:Int) else 1),fun m hm=>?_,fun h5=>?_,fun h5=>?_⟩
   ·subst hm
    rw [sizeZ,sizeN_eq,if_neg h,if_pos h2]
    by_cases h5:x.Kind=5
    ·simp only [if_pos h5]
     generalize (x.Kids.map sizeN).sum=S at hn ⊢
     subst hn
     rw [Int.natCast_mul]
     generalize (timesN x:Int)=T at hp hp2 ⊢
     simp
     rcases Int.le_total (S:Int) 1000000 with hS | hS
     ·rw [Int.min_eq_left hS];omega
     ·rw [Int.min_eq_right hS]
      have h1:(1000000:Int) * 1≤1000000 * T:=Int.mul_le_mul_of_nonneg_left hp (by omega)
      have h2:(1000000:Int) * T≤S * T:=Int.mul_le_mul_of_nonneg_right hS (by omega)
      omega
    ·simp only [if_neg h5];simp;omega
   ·have h5:x.Kind=5:=by simpa using h5
    rw [if_pos h5,hT]
    have:∀ a:Int,0≤a→a≤1000000→w64 (a * max 1 (min 1000 (max x.Lo x.Hi)))=a * max 1 (min 1000 (max x.Lo x.Hi)):=fun a h1 h2=>by
     have e1:0≤a * max 1 (min 1000 (max x.Lo x.Hi)):=Int.mul_nonneg h1 (by omega)
     have e2:a * max 1 (min 1000 (max x.Lo x.Hi))≤1000000 * 1000:=Int.mul_le_mul h2 (by omega) (by omega) (by omega)
     exact w64_id (by omega) (by omega)
    rw [← this n (by omega) (by omega)]
    congr 1;congr 1
    simp;omega
   ·have h5:x.Kind≠5:=by simpa using h5
    rw [if_neg h5];omega
 ·have h2:¬ (3≤x.Kind∧x.Kind≤5):=by rw [hbf] at hb;simpa using hb.symm
  rw [sizeZ,sizeN_eq,if_neg h,if_neg h2];omega
 ·have h3':x.Kind=3:=by simpa using h3
  simp [h3']
 ·have h4':x.Kind=4:=by simpa using h4
  simp [h4']
 ·have h3':x.Kind≠3:=by simpa using h3
  have h4':x.Kind≠4:=by simpa using h4
  show decide (x.Kind=5)=decide (3≤x.Kind∧x.Kind≤5)
  rw [decide_eq_decide];omega
def nodesZ:api_Rx→Int→Int:=cata fun x l most=>l.foldl (fun m g=>if m≥0 then g m else m) (most - 1)
theorem nodesZ_eq (x:api_Rx) (most:Int):nodesZ x most=x.Kids.foldl (fun m y=>if m≥0 then nodesZ y m else m) (most - 1):=by
 unfold nodesZ
 rw [cata_eq,List.foldl_map]
theorem nodesZ_le:∀ x most,0≤most→nodesZ x most≤most - 1∧-1≤nodesZ x most:=by
 refine rxInd fun x ih most hm=>?_
 rw [nodesZ_eq]
 have key:∀ (l:List api_Rx) (m:Int),(∀ y∈l,y∈x.Kids)→-1≤m→(l.foldl (fun m y=>if m≥0 then nodesZ y m else m) m)≤m∧-1≤l.foldl (fun m y=>if m≥0 then nodesZ y m else m) m:=by
  intro l
  induction l with
  | nil=>intro m _ h;exact ⟨Int.le_refl _,h⟩
  | cons y r ih2=>
    intro m hl h
    simp only [List.foldl_cons]
    split
    ·rename_i h0
     obtain ⟨h1,h2⟩:=ih y (hl y (List.mem_cons_self ..)) m h0
     obtain ⟨h3,h4⟩:=ih2 _ (fun z hz=>hl z (List.mem_cons_of_mem _ hz)) h2
     exact ⟨by omega,h4⟩
    ·exact ih2 m (fun z hz=>hl z (List.mem_cons_of_mem _ hz)) h
 exact key x.Kids (most - 1) (fun _ h=>h) (by omega)
theorem foldl_take_succ {α β:Type} {f:β→α→β} {b:β} {l:List α} {i:Nat} (h:i < l.length):(l.take (i+1)).foldl f b=f ((l.take i).foldl f b) l[i]:=by
 rw [List.take_succ_eq_append_getElem h,List.foldl_append];rfl
theorem nodes_pre {x:api_Rx} {most:Int} (hm:0≤most) (i:Nat):-1≤(x.Kids.take i).foldl (fun m y=>if m≥0 then nodesZ y m else m) (most - 1)∧(x.Kids.take i).foldl (fun m y=>if m≥0 then nodesZ y m else m) (most - 1) < most:=by
 induction i with
 | zero=>simp;omega
 | succ i ih=>
   by_cases h:i < x.Kids.length
   ·rw [foldl_take_succ h]
    split
    ·rename_i h0
     have:=nodesZ_le x.Kids[i] _ h0
     omega
    ·exact ih
   ·rw [List.take_of_length_le (by omega)] at ih ⊢;exact ih
theorem rxNodes_ok:∀ x,Wf x→∀ most,0≤most→most≤1000000→C_rx_nodes x most (nodesZ x most):=by
 refine rxInd fun x ih hw most hm0 hm1=>?_
 obtain ⟨hl,hk⟩:=(wf_eq x).1 hw
 rw [nodesZ_eq]
 have hw0:w64 (most - 1)=most - 1:=w64_id (by omega) (by omega)
 refine W_rx_nodes x most _ ⟨fun m t=>∃ i:Nat,t=i∧i≤x.Kids.length∧m=(x.Kids.take i).foldl (fun m y=>if m≥0 then nodesZ y m else m) (most - 1),fun m t=>(x.Kids.length - t).toNat,⟨0,rfl,by omega,by rw [hw0];rfl⟩,?_⟩
 rintro m t ⟨i,rfl,hi,hm⟩
 have hb:=nodes_pre (x:=x) hm0 i
 rw [← hm] at hb
 refine ⟨fun ht=>?_,fun ht=>?_⟩
 ·have ht:i < x.Kids.length:=by simpa using ht
  have hw2:w64 ((i:Int)+1)=((i+1:Nat):Int):=w64_id (by omega) (by omega)
  have hs:=foldl_take_succ (f:=fun m y=>if m≥0 then nodesZ y m else m) (b:=most - 1) ht
  rw [← hm] at hs
  refine ⟨fun m'=>m'=if m≥0 then nodesZ x.Kids[i] m else m,fun m' hm'=>?_,by omega,by omega,fun hg=>?_,fun hg=>?_⟩
  ·rw [hw2]
   exact ⟨⟨i+1,rfl,by omega,by rw [hs,hm']⟩,by dsimp only;omega⟩
  ·have hg:m≥0:=by simpa using hg
   refine ⟨nodesZ x.Kids[i] m,?_,by rw [if_pos hg]⟩
   rw [gd_nat ht]
   exact ih _ (List.getElem_mem ht) (hk _ (List.getElem_mem ht)) _ hg (by omega)
  ·have hg:¬ m≥0:=by simpa using hg
   rw [if_neg hg]
 ·have ht:i=x.Kids.length:=by have:¬ i < x.Kids.length:=by simpa using ht
                              omega
  subst ht
  rw [hm,List.take_of_length_le (Nat.le_refl _)]
def noSet (s:arr4_uint64):Bool:=s.e0 == 0 && (s.e1 == 0 && (s.e2 == 0 && (s.e3 == 0 && true)))
def timesB (lo hi:Int):Bool:=decide (0≤lo) && (decide (lo≤20) && (hi == -1 || decide (hi≥max 1 lo) && decide (hi≤20)))
def ownB (x:api_Rx):Bool:=
 if x.Kind=5 then noSet x.Set && (decide (x.Kids.length=1) && timesB x.Lo x.Hi)
 else if x.Kind=1 then noSet x.Set && (x.Lo == 0 && x.Hi == 0 && decide (x.Kids.length=0))
 else if x.Kind=2 then !noSet x.Set && (x.Lo == 0 && x.Hi == 0 && decide (x.Kids.length=0))
 else if x.Kind=3∨x.Kind=4 then noSet x.Set && (x.Lo == 0 && x.Hi == 0 && decide (x.Kids.length≥2))
 else false
def oddK (x k:api_Rx):Bool:=k.Kind == x.Kind && x.Kind != 5
def rgt:api_Rx→Int→Bool:=cata fun x l deep=>decide (deep > 0) && ownB x && (x.Kids.zip l).all fun (k,g)=>!oddK x k && g (deep - 1)
theorem rgt_eq (x:api_Rx) (deep:Int):rgt x deep=(decide (deep > 0) && ownB x && x.Kids.all fun k=>!oddK x k && rgt k (deep - 1)):=by
 unfold rgt
 rw [cata_eq]
 congr 1
 rw [List.zip_map_right,List.all_map]
 generalize x.Kids=l
 induction l with
 | nil=>rfl
 | cons y r ih=>simp only [List.zip_cons_cons,List.all_cons,Function.comp] at ih ⊢;rw [ih];rfl
def pat (x:api_Rx):rx_pattern:={ Kind:=x.Kind,Set:=x.Set,Lo:=x.Lo,Hi:=x.Hi,Kids:=x.Kids }
theorem times_ok (x:rx_pattern):C_rx_pattern_times x (timesB x.Lo x.Hi):=by
 refine W_rx_pattern_times x _ ⟨fun h=>?_,fun h=>?_⟩
 ·simp only [Bool.or_eq_true,decide_eq_true_eq] at h
  simp only [timesB,Bool.and_eq_false_iff,decide_eq_false_iff_not];omega
 ·simp only [Bool.or_eq_false_iff,decide_eq_false_iff_not] at h
  have h1:decide (0≤x.Lo)=true:=by simp;omega
  have h2:decide (x.Lo≤20)=true:=by simp;omega
  simp only [timesB,h1,h2,Bool.true_and]
  congr 2
  have:(if x.Lo > 1 then x.Lo else 1)=max 1 x.Lo:=by omega
  rw [this]
theorem len0 (l:List api_Rx):decide (l=[])=(decide ((2:Int)≤(l.length:Int)+2) && (l.length:Int)+2 == 2):=by
 cases l with
 | nil=>rfl
 | cons a r=>
   have:((((a :: r).length:Nat):Int)+2 == 2)=false:=by
    show decide _=false
    simp only [decide_eq_false_iff_not,List.length_cons];omega
   rw [this];simp
theorem own_ok (x:api_Rx) (hl:x.Kids.length < 1099511627776):C_rx_pattern_own (pat x) (ownB x):=by
 refine W_rx_pattern_own (pat x) _ ⟨fun many=>many=(if x.Kind=1∨x.Kind=2 then (x.Kids.length:Int)+2 else x.Kids.length)∧(x.Kind=1∨x.Kind=2∨x.Kind=3∨x.Kind=4),?_,fun h5=>?_,fun h5=>?_⟩
 ·rintro many ⟨rfl,hk⟩
  show ownB x=((!noSet x.Set) == (x.Kind == 2) && (x.Lo == 0 && (x.Hi == 0 && (decide (_≥2) && (!decide (x.Kind < 3) || _ == 2)))))
  rcases hk with h | h | h | h
  all_goals simp only [ownB,h]
  ·cases noSet x.Set<;>cases hlo:(x.Lo == 0)<;>cases hhi:(x.Hi == 0)<;>simp [len0]
  ·cases noSet x.Set<;>cases hlo:(x.Lo == 0)<;>cases hhi:(x.Hi == 0)<;>simp [len0]
  ·cases noSet x.Set<;>cases hlo:(x.Lo == 0)<;>cases hhi:(x.Hi == 0)<;>simp<;>omega
  ·cases noSet x.Set<;>cases hlo:(x.Lo == 0)<;>cases hhi:(x.Hi == 0)<;>simp<;>omega
 ·have h5:x.Kind=5:=by simpa [pat] using h5
  refine ⟨fun hs=>⟨fun h1=>⟨_,times_ok (pat x),?_⟩,fun h1=>?_⟩,fun hs=>?_⟩
  ·have h1:x.Kids.length=1:=by simp [pat] at h1;omega
   have hs:noSet x.Set=true:=by rw [Bool.not_not] at hs;exact hs
   simp only [ownB,if_pos h5,hs,h1];rfl
  ·have h1:x.Kids.length≠1:=by simp [pat] at h1;omega
   simp [ownB,if_pos h5,h1]
  ·have hs:noSet x.Set=false:=by rw [Bool.not_not] at hs;exact hs
   simp [ownB,if_pos h5,hs]
 ·have h5:x.Kind≠5:=by simpa [pat] using h5
  refine ⟨fun b=>b=decide (x.Kind=1∨x.Kind=2),fun b hb=>⟨fun h=>?_,fun h=>?_⟩,fun h=>?_,fun h=>?_⟩
  ·have h12:x.Kind=1∨x.Kind=2:=by rw [h] at hb;simpa using hb.symm
   refine ⟨?_,by omega⟩
   rw [if_pos h12];exact w64_id (by show _≤(x.Kids.length:Int)+2;omega) (by show (x.Kids.length:Int)+2≤_;omega)
  ·have h12:¬ (x.Kind=1∨x.Kind=2):=by rw [h] at hb;simpa using hb.symm
   refine ⟨fun b=>b=decide (x.Kind=3∨x.Kind=4),fun b' hb'=>⟨fun h'=>?_,fun h'=>?_⟩,fun h'=>?_,fun h'=>?_⟩
   ·have h34:x.Kind=3∨x.Kind=4:=by rw [h'] at hb';simpa using hb'.symm
    exact ⟨by rw [if_neg h12];rfl,by omega⟩
   ·have h34:¬ (x.Kind=3∨x.Kind=4):=by rw [h'] at hb';simpa using hb'.symm
    simp only [ownB];rw [if_neg h5,if_neg (by omega),if_neg (by omega),if_neg h34]
   ·have:x.Kind=3:=by simpa [pat] using h'
    simp [pat,this]
   ·have:x.Kind≠3:=by simpa [pat] using h'
    simp [pat,this];rfl
  ·have:x.Kind=1:=by simpa [pat] using h
   simp [pat,this]
  ·have:x.Kind≠1:=by simpa [pat] using h
   simp [pat,this];rfl
theorem rxRight_ok:∀ x,Wf x→∀ deep,-1000≤deep→deep≤1000→C_rx_pattern_right (pat x) deep (rgt x deep):=by
 refine rxInd fun x ih hw deep hd0 hd1=>?_
 obtain ⟨hl,hk⟩:=(wf_eq x).1 hw
 have hodd:∀ k∈x.Kids,0 < deep→C_rx_pattern_right_L1 k (pat x) deep (oddK x k || !rgt k (deep - 1)) (pat x) deep:=by
  intro k hkm hpos
  have hw1:w64 (deep - 1)=deep - 1:=w64_id (by omega) (by omega)
  have hrec:C_rx_pattern_right ({ Kind:=api_Rx.Kind k,Set:=api_Rx.Set k,Lo:=api_Rx.Lo k,Hi:=api_Rx.Hi k,Kids:=api_Rx.Kids k }) (w64 (deep - 1)) (rgt k (deep - 1)):=by
   rw [hw1];exact ih k hkm (hk k hkm) _ (by omega) (by omega)
  refine W_rx_pattern_right_L1 k (pat x) deep _ _ _ ⟨fun h1=>⟨fun h2=>?_,fun h2=>⟨_,hrec,?_,rfl,rfl⟩⟩,fun h1=>⟨_,hrec,?_,rfl,rfl⟩⟩
  ·have h1:(k.Kind == x.Kind)=true:=h1
   have h2:(x.Kind != 5)=true:=h2
   simp [oddK,h1,h2]
  ·have h2:(x.Kind != 5)=false:=h2
   simp [oddK,h2]
  ·have h1:(k.Kind == x.Kind)=false:=h1
   simp [oddK,h1]
 have hall:∀ l:List api_Rx,l.length < 1099511627776→(∀ k∈l,k∈x.Kids)→0 < deep→C_slices_ContainsFunc__api_Rx_api_Rx_at_rx_pattern_right_L1 l (pat x) deep (l.any fun k=>oddK x k || !rgt k (deep - 1)) (pat x) deep:=by
  intro l hll hlm hpos
  obtain ⟨z,hz,hz2⟩:∃ z:Int,(decide (z≥0)=l.any fun k=>oddK x k || !rgt k (deep - 1))∧C_slices_IndexFunc__api_Rx_api_Rx_at_rx_pattern_right_L1 l (pat x) deep z (pat x) deep:=by
   have hfind:∀ i:Nat,(∀ (j:Nat) (hj:j < l.length),j < i→(oddK x l[j] || !rgt l[j] (deep - 1))=false)→(i=l.length→(l.any fun k=>oddK x k || !rgt k (deep - 1))=false):=by
    intro i h e
    subst e
    rw [List.any_eq_false]
    intro k hkm
    obtain ⟨j,hj,rfl⟩:=List.mem_iff_getElem.1 hkm
    rw [h j hj hj];simp
   cases hany:l.any fun k=>oddK x k || !rgt k (deep - 1) with
   | false=>
     refine ⟨-1,by simp,?_⟩
     refine W_slices_IndexFunc__api_Rx_api_Rx_at_rx_pattern_right_L1 l (pat x) deep _ _ _ ⟨fun a b c d e f g h o t=>(⟨a,⟨b,c,d,e⟩,f,g,h⟩:rx_pattern)=pat x∧o=deep∧∃ i:Nat,t=i∧i≤l.length,fun _ _ _ _ _ _ _ _ _ t=>(l.length - t).toNat,⟨rfl,rfl,0,rfl,by omega⟩,?_⟩
     rintro a b c d e f g h o t ⟨hp,rfl,i,rfl,hi⟩
     refine ⟨fun ht=>?_,fun ht=>⟨rfl,hp.symm,rfl⟩⟩
     have ht:i < l.length:=by simpa using ht
     have hw2:w64 ((i:Int)+1)=((i+1:Nat):Int):=w64_id (by omega) (by omega)
     refine ⟨by omega,by omega,_,pat x,o,by rw [gd_nat ht,hp];exact hodd l[i] (hlm _ (List.getElem_mem ht)) hpos,fun hb=>?_,fun hb=>?_⟩
     ·rw [List.any_eq_false] at hany
      exact absurd hb (hany _ (List.getElem_mem ht))
     ·rw [hw2]
      exact ⟨⟨rfl,rfl,i+1,rfl,by omega⟩,by dsimp only;omega⟩
   | true=>
     obtain ⟨k0,hk0,hk1⟩:=List.any_eq_true.1 hany
     have hex:∃ i:Nat,∃ hi:i < l.length,(oddK x l[i] || !rgt l[i] (deep - 1))=true∧∀ (j:Nat) (hj:j < i),(oddK x (l[j]'(by omega)) || !rgt (l[j]'(by omega)) (deep - 1))=false:=by
      obtain ⟨j0,hj0,rfl⟩:=List.mem_iff_getElem.1 hk0
      induction j0 using Nat.strongRecOn with
      | _ j0 ihj=>
        by_cases hex:∃ j:Nat,∃ hj:j < j0,(oddK x (l[j]'(by omega)) || !rgt (l[j]'(by omega)) (deep - 1))=true
        ·obtain ⟨j,hj,hj1⟩:=hex
         exact ihj j hj (by omega) (List.getElem_mem _) hj1
        ·refine ⟨j0,hj0,hk1,fun j hj=>?_⟩
         cases hb:(oddK x (l[j]'(by omega)) || !rgt (l[j]'(by omega)) (deep - 1)) with
         | false=>rfl
         | true=>exact absurd ⟨j,hj,hb⟩ hex
     obtain ⟨n,hn,hn1,hn2⟩:=hex
     refine ⟨n,by simp,?_⟩
     refine W_slices_IndexFunc__api_Rx_api_Rx_at_rx_pattern_right_L1 l (pat x) deep _ _ _ ⟨fun a b c d e f g h o t=>(⟨a,⟨b,c,d,e⟩,f,g,h⟩:rx_pattern)=pat x∧o=deep∧∃ i:Nat,t=i∧i≤n,fun _ _ _ _ _ _ _ _ _ t=>(l.length - t).toNat,⟨rfl,rfl,0,rfl,by omega⟩,?_⟩
     rintro a b c d e f g h o t ⟨hp,rfl,i,rfl,hi⟩
     refine ⟨fun ht=>?_,fun ht=>?_⟩
     ·have ht:i < l.length:=by simpa using ht
      have hw2:w64 ((i:Int)+1)=((i+1:Nat):Int):=w64_id (by omega) (by omega)
      refine ⟨by omega,by omega,_,pat x,o,by rw [gd_nat ht,hp];exact hodd l[i] (hlm _ (List.getElem_mem ht)) hpos,fun hb=>⟨?_,rfl,rfl⟩,fun hb=>?_⟩
      ·rcases Nat.lt_or_ge i n with hlt | hge
       ·rw [hn2 i hlt] at hb;cases hb
       ·have:i=n:=by omega
        rw [this]
      ·rcases Nat.lt_or_ge i n with hlt | hge
       ·rw [hw2]
        exact ⟨⟨rfl,rfl,i+1,rfl,by omega⟩,by dsimp only;omega⟩
       ·have:i=n:=by omega
        subst this
        rw [hn1] at hb;cases hb
     ·have:¬ i < l.length:=by simpa using ht
      omega
  refine W_slices_ContainsFunc__api_Rx_api_Rx_at_rx_pattern_right_L1 l (pat x) deep _ _ _ ⟨z,_,_,hz2,hz.symm,rfl,rfl⟩
 rw [rgt_eq]
 refine W_rx_pattern_right (pat x) deep _ ⟨fun hd=>⟨_,own_ok x hl,fun ho=>⟨_,_,_,hall x.Kids hl (fun _ h=>h) (by simpa using hd),?_⟩,fun ho=>?_⟩,fun hd=>?_⟩
 ·rw [hd,ho]
  simp only [Bool.true_and]
  rw [List.any_eq_not_all_not,Bool.not_not]
  congr 1
  funext k
  cases oddK x k<;>cases rgt k (deep - 1)<;>rfl
 ·rw [ho];simp
 ·rw [hd];simp
def rightB (x:api_Rx):Bool:=rgt x 20 && (decide (sizeZ x≤200) && decide (nodesZ x 1000≥0))
theorem rxRightAll_ok (x:api_Rx) (hw:Wf x):C_rx_Right x (rightB x):=by
 refine W_rx_Right x _ ⟨_,rxRight_ok x hw 20 (by omega) (by omega),fun h=>⟨_,rxSize_ok x hw,fun h2=>⟨_,rxNodes_ok x hw 1000 (by omega) (by omega),?_⟩,fun h2=>?_⟩,fun h=>?_⟩
 ·rw [rightB,h,h2];rfl
 ·rw [rightB,h2];simp
 ·rw [rightB,h];simp
end Go.Ev.Pl
set_option linter.unusedSimpArgs false
set_option linter.unusedVariables false
namespace Go.Ev.Pl
open Go Go.Ev
def nullB:api_Rx→Bool:=cata fun x l=>if x.Kind=1 then true else if x.Kind=3 then l.all id else if x.Kind=4 then l.any id else if x.Kind=5 then decide (x.Lo≤0) || l.all id else false
theorem nullB_eq (x:api_Rx):nullB x=if x.Kind=1 then true else if x.Kind=3 then x.Kids.all nullB else if x.Kind=4 then x.Kids.any nullB else if x.Kind=5 then decide (x.Lo≤0) || x.Kids.all nullB else false:=by
 unfold nullB;rw [cata_eq];simp only [List.all_map,List.any_map];rfl
end Go.Ev.Pl
set_option linter.unusedSimpArgs false
set_option linter.unusedVariables false
namespace Go.Ev.Pl
open Go Go.Ev
structure GA where
 n:Nat
 sets:List arr4_uint64
 null:Bool
 first:Nat→Bool
 last:Nat→Bool
 follow:Nat→Nat→Bool
def gEmpty:GA:=⟨0,[],true,fun _=>false,fun _=>false,fun _ _=>false⟩
def gNone:GA:=⟨0,[],false,fun _=>false,fun _=>false,fun _ _=>false⟩
def gByte (s:arr4_uint64):GA:=⟨1,[s],false,fun i=>i == 0,fun i=>i == 0,fun _ _=>false⟩
def blk (n:Nat) (p q:Nat→Nat→Bool) (r:Nat→Nat→Bool) (i j:Nat):Bool:=
 if i < n then (if j < n then p i j else r i (j - n)) else (if j < n then false else q (i - n) (j - n))
def gCat (a b:GA):GA:=
 ⟨a.n+b.n,a.sets++b.sets,a.null && b.null,fun i=>if i < a.n then a.first i else a.null && b.first (i - a.n),
   fun i=>if i < a.n then b.null && a.last i else b.last (i - a.n),blk a.n a.follow b.follow fun i j=>a.last i && b.first j⟩
def gAlt (a b:GA):GA:=
 ⟨a.n+b.n,a.sets++b.sets,a.null || b.null,fun i=>if i < a.n then a.first i else b.first (i - a.n),
   fun i=>if i < a.n then a.last i else b.last (i - a.n),blk a.n a.follow b.follow fun _ _=>false⟩
def gAgain (a:GA):GA:={ a with follow:=fun i j=>a.follow i j || a.last i && a.first j }
def gMaybe (a:GA):GA:={ a with null:=true }
structure Canon (a:GA):Prop where
 sets:a.sets.length=a.n
 first:∀ i,a.n≤i→a.first i=false
 last:∀ i,a.n≤i→a.last i=false
 follow:∀ i j,a.n≤i∨a.n≤j→a.follow i j=false
theorem cat_empty_r {a:GA} (h:Canon a):gCat a gEmpty=a:=by
 obtain ⟨n,sets,null,f,l,fo⟩:=a
 simp only [gCat,gEmpty,GA.mk.injEq,Nat.add_zero,List.append_nil,Bool.and_true,Bool.and_false,true_and]
 refine ⟨?_,?_,?_⟩
 ·funext i;split
  ·rfl
  ·rename_i hi;exact (h.first i (by show n≤i;omega)).symm
 ·funext i;split
  ·rfl
  ·rename_i hi;exact (h.last i (by show n≤i;omega)).symm
 ·funext i j
  simp only [blk]
  split<;>split
  ·rfl
  ·rename_i h1 h2;exact (h.follow i j (by show n≤i∨n≤j;omega)).symm
  ·rename_i h1 h2;exact (h.follow i j (by show n≤i∨n≤j;omega)).symm
  ·rename_i h1 h2;exact (h.follow i j (by show n≤i∨n≤j;omega)).symm
theorem canon_zero {a:GA} (h:Canon a) (hn:a.n=0) (hnull:a.null=true):a=gEmpty:=by
 obtain ⟨n,sets,null,f,l,fo⟩:=a
 simp only at hn hnull;subst hn hnull
 have hs:sets=[]:=List.length_eq_zero_iff.1 h.sets
 subst hs
 simp only [gEmpty,GA.mk.injEq,true_and]
 exact ⟨funext fun i=>h.first i (Nat.zero_le _),funext fun i=>h.last i (Nat.zero_le _),funext fun i=>funext fun j=>h.follow i j (.inl (Nat.zero_le _))⟩
theorem canon_empty:Canon gEmpty:=⟨rfl,fun _ _=>rfl,fun _ _=>rfl,fun _ _ _=>rfl⟩
theorem canon_none:Canon gNone:=⟨rfl,fun _ _=>rfl,fun _ _=>rfl,fun _ _ _=>rfl⟩
theorem canon_byte (s:arr4_uint64):Canon (gByte s):=⟨rfl,fun i h=>by simp [gByte] at h ⊢;omega,fun i h=>by simp [gByte] at h ⊢;omega,fun _ _ _=>rfl⟩
theorem canon_cat {a b:GA} (ha:Canon a) (hb:Canon b):Canon (gCat a b):=by
 refine ⟨by simp [gCat,ha.sets,hb.sets],fun i h=>?_,fun i h=>?_,fun i j h=>?_⟩
 ·simp only [gCat] at h ⊢;rw [if_neg (by omega),hb.first _ (by omega)];simp
 ·simp only [gCat] at h ⊢;rw [if_neg (by omega),hb.last _ (by omega)]
 ·simp only [gCat,blk] at h ⊢
  split<;>split
  ·omega
  ·rw [hb.first _ (by omega)];simp
  ·rfl
  ·exact hb.follow _ _ (by omega)
theorem canon_alt {a b:GA} (ha:Canon a) (hb:Canon b):Canon (gAlt a b):=by
 refine ⟨by simp [gAlt,ha.sets,hb.sets],fun i h=>?_,fun i h=>?_,fun i j h=>?_⟩
 ·simp only [gAlt] at h ⊢;rw [if_neg (by omega),hb.first _ (by omega)]
 ·simp only [gAlt] at h ⊢;rw [if_neg (by omega),hb.last _ (by omega)]
 ·simp only [gAlt,blk] at h ⊢
  split<;>split
  ·omega
  ·rfl
  ·rfl
  ·exact hb.follow _ _ (by omega)
theorem canon_again {a:GA} (h:Canon a):Canon (gAgain a):=
 ⟨h.sets,h.first,h.last,fun i j hij=>by
   simp only [gAgain] at hij ⊢
   rw [h.follow i j hij]
   rcases hij with hi | hj
   ·rw [h.last i hi];rfl
   ·rw [h.first j hj];simp⟩
theorem canon_maybe {a:GA} (h:Canon a):Canon (gMaybe a):=⟨h.sets,h.first,h.last,h.follow⟩
def iter (f:GA→GA):Nat→GA→GA
 | 0,z=>z
 | k+1,z=>f (iter f k z)
theorem canon_iter {f:GA→GA} (hf:∀ a,Canon a→Canon (f a)):∀ k {z},Canon z→Canon (iter f k z)
 | 0,_,h=>h
 | k+1,_,h=>hf _ (canon_iter hf k h)
def gRep (a:GA) (lo hi:Int):GA:=
 if hi < 0 then iter (gCat a) (max lo 1 - 1).toNat (if lo=0 then gMaybe (gAgain a) else gAgain a)
 else iter (gCat a) lo.toNat (iter (fun o=>gMaybe (gCat a o)) (hi - lo).toNat gEmpty)
theorem canon_rep {a:GA} (h:Canon a) (lo hi:Int):Canon (gRep a lo hi):=by
 unfold gRep
 split
 ·refine canon_iter (fun b hb=>canon_cat h hb) _ ?_
  split
  ·exact canon_maybe (canon_again h)
  ·exact canon_again h
 ·exact canon_iter (fun b hb=>canon_cat h hb) _ (canon_iter (fun b hb=>canon_maybe (canon_cat h hb)) _ canon_empty)
def gof:api_Rx→GA:=cata fun x l=>
 if x.Kind=2 then gByte x.Set else if x.Kind=3 then l.foldl gCat gEmpty else if x.Kind=4 then l.foldl gAlt gNone
 else if x.Kind=5 then gRep (l.headD gEmpty) x.Lo x.Hi else gEmpty
theorem gof_eq (x:api_Rx):gof x=if x.Kind=2 then gByte x.Set else if x.Kind=3 then x.Kids.foldl (fun o y=>gCat o (gof y)) gEmpty else if x.Kind=4 then x.Kids.foldl (fun o y=>gAlt o (gof y)) gNone
 else if x.Kind=5 then gRep ((x.Kids.map gof).headD gEmpty) x.Lo x.Hi else gEmpty:=by
 unfold gof;rw [cata_eq];simp only [List.foldl_map]
theorem canon_gof:∀ x,Canon (gof x):=by
 refine rxInd fun x ih=>?_
 have key:∀ (f:GA→GA→GA),(∀ a b,Canon a→Canon b→Canon (f a b))→∀ (l:List api_Rx) (z:GA),(∀ y∈l,y∈x.Kids)→Canon z→Canon (l.foldl (fun o y=>f o (gof y)) z):=by
  intro f hf l
  induction l with
  | nil=>intro z _ h;exact h
  | cons y r ih2=>intro z hl h;exact ih2 _ (fun a ha=>hl a (List.mem_cons_of_mem _ ha)) (hf _ _ h (ih y (hl y (List.mem_cons_self ..))))
 rw [gof_eq]
 split
 ·exact canon_byte _
 ·split
  ·exact key gCat (fun a b=>canon_cat) _ _ (fun _ h=>h) canon_empty
  ·split
   ·exact key gAlt (fun a b=>canon_alt) _ _ (fun _ h=>h) canon_none
   ·split
    ·refine canon_rep ?_ _ _
     cases hq:x.Kids with
     | nil=>exact canon_empty
     | cons y r=>exact ih y (by rw [hq];exact List.mem_cons_self ..)
    ·exact canon_empty
end Go.Ev.Pl
set_option linter.unusedSimpArgs false
set_option linter.unusedVariables false
namespace Go.Ev.Pl
open Go Go.Ev
def lst (n:Nat) (p:Nat→Bool) (off:Nat):List Int:=((List.range n).filter p).map fun i=>((i+off:Nat):Int)
theorem lst_mem {n:Nat} {p:Nat→Bool} {off:Nat} {x:Int}:x∈lst n p off↔∃ i,i < n∧p i=true∧x=((i+off:Nat):Int):=by
 simp only [lst,List.mem_map,List.mem_filter,List.mem_range]
 constructor
 ·rintro ⟨i,⟨h1,h2⟩,rfl⟩;exact ⟨i,h1,h2,rfl⟩
 ·rintro ⟨i,h1,h2,rfl⟩;exact ⟨i,⟨h1,h2⟩,rfl⟩
theorem lst_ss (n:Nat) (p:Nat→Bool) (off:Nat):SS (lst n p off):=by
 unfold lst SS
 rw [List.pairwise_map]
 refine List.Pairwise.filter _ ?_
 exact List.pairwise_lt_range.imp fun h=>by omega
theorem lst_len (n:Nat) (p:Nat→Bool) (off:Nat):(lst n p off).length≤n:=by
 unfold lst
 rw [List.length_map]
 exact Nat.le_trans (List.length_filter_le _ _) (by simp)
theorem lst_congr {n:Nat} {p q:Nat→Bool} {off:Nat} (h:∀ i,i < n→p i=q i):lst n p off=lst n q off:=by
 unfold lst
 rw [List.filter_congr fun i hi=>h i (List.mem_range.1 hi)]
theorem lst_left {n m:Nat} {p:Nat→Bool} {off:Nat} {q:Nat→Bool} (h1:∀ i,i < n→q i=p i) (h2:∀ i,n≤i→i < n+m→q i=false):lst n p off=lst (n+m) q off:=by
 refine ss_ext (lst_ss _ _ _) (lst_ss _ _ _) fun x=>?_
 rw [lst_mem,lst_mem]
 constructor
 ·rintro ⟨i,hi,hp,rfl⟩;exact ⟨i,by omega,by rw [h1 i hi];exact hp,rfl⟩
 ·rintro ⟨i,hi,hp,rfl⟩
  rcases Nat.lt_or_ge i n with h | h
  ·exact ⟨i,h,by rw [← h1 i h];exact hp,rfl⟩
  ·rw [h2 i h hi] at hp;cases hp
theorem lst_right {n m:Nat} {p:Nat→Bool} {off:Nat} {q:Nat→Bool} (h1:∀ i,i < n→q i=false) (h2:∀ i,i < m→q (n+i)=p i):lst m p (off+n)=lst (n+m) q off:=by
 refine ss_ext (lst_ss _ _ _) (lst_ss _ _ _) fun x=>?_
 rw [lst_mem,lst_mem]
 constructor
 ·rintro ⟨i,hi,hp,rfl⟩;exact ⟨n+i,by omega,by rw [h2 i hi];exact hp,by omega⟩
 ·rintro ⟨i,hi,hp,rfl⟩
  rcases Nat.lt_or_ge i n with h | h
  ·rw [h1 i h] at hp;cases hp
  ·exact ⟨i - n,by omega,by rw [← h2 _ (by omega),show n+(i - n)=i by omega];exact hp,by omega⟩
theorem lst_both {n m:Nat} {p p':Nat→Bool} {off:Nat} {q:Nat→Bool} {l:List Int} (hs:SS l) (hm:∀ x,x∈l↔x∈lst n p off∨x∈lst m p' (off+n)) (h1:∀ i,i < n→q i=p i) (h2:∀ i,i < m→q (n+i)=p' i):l=lst (n+m) q off:=by
 refine ss_ext hs (lst_ss _ _ _) fun x=>?_
 rw [hm,lst_mem,lst_mem,lst_mem]
 constructor
 ·rintro (⟨i,hi,hp,rfl⟩ | ⟨i,hi,hp,rfl⟩)
  ·exact ⟨i,by omega,by rw [h1 i hi];exact hp,rfl⟩
  ·exact ⟨n+i,by omega,by rw [h2 i hi];exact hp,by omega⟩
 ·rintro ⟨i,hi,hp,rfl⟩
  rcases Nat.lt_or_ge i n with h | h
  ·exact .inl ⟨i,h,by rw [← h1 i h];exact hp,rfl⟩
  ·exact .inr ⟨i - n,by omega,by rw [← h2 _ (by omega),show n+(i - n)=i by omega];exact hp,by omega⟩
def flw (g:GA) (off:Nat):List (List Int):=(List.range g.n).map fun i=>lst g.n (g.follow i) off
theorem flw_len (g:GA) (off:Nat):(flw g off).length=g.n:=by simp [flw]
theorem flw_get (g:GA) (off:Nat) {i:Nat} (h:i < g.n):(flw g off)[i]'(by rw [flw_len];exact h)=lst g.n (g.follow i) off:=by simp [flw]
theorem flw_ext {g:GA} {off:Nat} {l:List (List Int)} (hl:l.length=g.n) (h:∀ (i:Nat) (hi:i < l.length),l[i]=lst g.n (g.follow i) off):l=flw g off:=by
 apply List.ext_getElem
 ·rw [hl,flw_len]
 ·intro i h1 h2
  rw [h i h1,flw_get g off (by rw [hl] at h1;exact h1)]
def leadF (F:List (List Int)) (fr to:List Int):List (List Int):=F.mapIdx fun i f=>if (i:Int)∈fr then join f to else f
theorem leadF_len (F:List (List Int)) (fr to:List Int):(leadF F fr to).length=F.length:=by simp [leadF]
theorem leadF_get (F:List (List Int)) (fr to:List Int) {i:Nat} (h:i < F.length):(leadF F fr to)[i]'(by rw [leadF_len];exact h)=if (i:Int)∈fr then join F[i] to else F[i]:=by simp [leadF]
theorem lead_cat (F0:List (List Int)) (a b:GA):leadF (F0++flw a F0.length++flw b (F0.length+a.n)) (lst a.n a.last F0.length) (lst b.n b.first (F0.length+a.n))=F0++flw (gCat a b) F0.length:=by
 apply List.ext_getElem
 ·rw [leadF_len];simp only [List.length_append,flw_len];simp only [gCat];omega
 ·intro i h1 h2
  rw [leadF_len] at h1
  rw [leadF_get _ _ _ h1]
  simp only [List.length_append,flw_len] at h1
  have hin:(i:Int)∈lst a.n a.last F0.length↔F0.length≤i∧i < F0.length+a.n∧a.last (i - F0.length)=true:=by
   rw [lst_mem]
   constructor
   ·rintro ⟨j,hj,hp,e⟩
    have:i=j+F0.length:=by omega
    subst this
    exact ⟨by omega,by omega,by rw [Nat.add_sub_cancel];exact hp⟩
   ·rintro ⟨q1,q2,q3⟩
    exact ⟨i - F0.length,by omega,q3,by omega⟩
  rcases Nat.lt_or_ge i F0.length with hi | hi
  ·rw [if_neg (by rw [hin];omega),List.getElem_append_left (by simp only [List.length_append,flw_len];omega),List.getElem_append_left hi,List.getElem_append_left hi]
  ·have hr:(F0++flw (gCat a b) F0.length)[i]'h2=lst (a.n+b.n) ((gCat a b).follow (i - F0.length)) F0.length:=by
    rw [List.getElem_append_right hi,flw_get _ _ (by show _ < a.n+b.n;omega)];rfl
   rw [hr]
   rcases Nat.lt_or_ge i (F0.length+a.n) with hi2 | hi2
   ·have hl:(F0++flw a F0.length++flw b (F0.length+a.n))[i]'(by simp only [List.length_append,flw_len];omega)=lst a.n (a.follow (i - F0.length)) F0.length:=by
     rw [List.getElem_append_left (by simp only [List.length_append,flw_len];omega),List.getElem_append_right hi,flw_get _ _ (by omega)]
    rw [hl]
    by_cases hla:a.last (i - F0.length)=true
    ·rw [if_pos (hin.2 ⟨hi,hi2,hla⟩)]
     obtain ⟨j1,j2⟩:=join_spec (lst a.n (a.follow (i - F0.length)) F0.length) (lst b.n b.first (F0.length+a.n))
     refine lst_both j1 j2 (fun j hj=>?_) (fun j hj=>?_)
     ·simp only [gCat,blk];rw [if_pos (by omega),if_pos hj]
     ·simp only [gCat,blk];rw [if_pos (by omega),if_neg (by omega),hla,Nat.add_sub_cancel_left];rfl
    ·rw [if_neg (fun h=>hla (hin.1 h).2.2)]
     have hla:a.last (i - F0.length)=false:=by simpa using hla
     refine lst_left (fun j hj=>?_) (fun j h1 h2=>?_)
     ·simp only [gCat,blk];rw [if_pos (by omega),if_pos hj]
     ·simp only [gCat,blk];rw [if_pos (by omega),if_neg (by omega),hla];rfl
   ·rw [if_neg (by rw [hin];omega)]
    have hl:(F0++flw a F0.length++flw b (F0.length+a.n))[i]'(by simp only [List.length_append,flw_len];omega)=lst b.n (b.follow (i - (F0.length+a.n))) (F0.length+a.n):=by
     rw [List.getElem_append_right (by simp only [List.length_append,flw_len];omega)]
     simp only [List.length_append,flw_len]
     rw [flw_get _ _ (by omega)]
    rw [hl]
    refine lst_right (fun j hj=>?_) (fun j hj=>?_)
    ·simp only [gCat,blk];rw [if_neg (by omega),if_pos hj]
    ·simp only [gCat,blk];rw [if_neg (by omega),if_neg (by omega),show i - F0.length - a.n=i - (F0.length+a.n) by omega,Nat.add_sub_cancel_left]
theorem lead_again (F0:List (List Int)) (a:GA):leadF (F0++flw a F0.length) (lst a.n a.last F0.length) (lst a.n a.first F0.length)=F0++flw (gAgain a) F0.length:=by
 apply List.ext_getElem
 ·rw [leadF_len];simp only [List.length_append,flw_len];rfl
 ·intro i h1 h2
  rw [leadF_len] at h1
  rw [leadF_get _ _ _ h1]
  simp only [List.length_append,flw_len] at h1
  have hin:(i:Int)∈lst a.n a.last F0.length↔F0.length≤i∧i < F0.length+a.n∧a.last (i - F0.length)=true:=by
   rw [lst_mem]
   constructor
   ·rintro ⟨j,hj,hp,e⟩
    have:i=j+F0.length:=by omega
    subst this
    exact ⟨by omega,by omega,by rw [Nat.add_sub_cancel];exact hp⟩
   ·rintro ⟨q1,q2,q3⟩
    exact ⟨i - F0.length,by omega,q3,by omega⟩
  rcases Nat.lt_or_ge i F0.length with hi | hi
  ·rw [if_neg (by rw [hin];omega),List.getElem_append_left hi,List.getElem_append_left hi]
  ·have hr:(F0++flw (gAgain a) F0.length)[i]'h2=lst a.n ((gAgain a).follow (i - F0.length)) F0.length:=by
    rw [List.getElem_append_right hi,flw_get _ _ (by show _ < a.n;omega)];rfl
   have hl:(F0++flw a F0.length)[i]'(by simp only [List.length_append,flw_len];omega)=lst a.n (a.follow (i - F0.length)) F0.length:=by
    rw [List.getElem_append_right hi,flw_get _ _ (by omega)]
   rw [hr,hl]
   by_cases hla:a.last (i - F0.length)=true
   ·rw [if_pos (hin.2 ⟨hi,by omega,hla⟩)]
    obtain ⟨j1,j2⟩:=join_spec (lst a.n (a.follow (i - F0.length)) F0.length) (lst a.n a.first F0.length)
    refine ss_ext j1 (lst_ss _ _ _) fun x=>?_
    rw [j2,lst_mem,lst_mem,lst_mem]
    simp only [gAgain,hla,Bool.true_and,Bool.or_eq_true]
    constructor
    ·rintro (⟨j,q1,q2,rfl⟩ | ⟨j,q1,q2,rfl⟩)
     ·exact ⟨j,q1,.inl q2,rfl⟩
     ·exact ⟨j,q1,.inr q2,rfl⟩
    ·rintro ⟨j,q1,q2 | q2,rfl⟩
     ·exact .inl ⟨j,q1,q2,rfl⟩
     ·exact .inr ⟨j,q1,q2,rfl⟩
   ·rw [if_neg (fun h=>hla (hin.1 h).2.2)]
    have hla:a.last (i - F0.length)=false:=by simpa using hla
    exact lst_congr fun j hj=>by simp [gAgain,hla]
theorem flw_alt (a b:GA) (off:Nat):flw a off++flw b (off+a.n)=flw (gAlt a b) off:=by
 refine flw_ext (by simp [flw_len,gAlt]) fun i hi=>?_
 simp only [List.length_append,flw_len] at hi
 show _=lst (a.n+b.n) _ off
 rcases Nat.lt_or_ge i a.n with h | h
 ·rw [List.getElem_append_left (by rw [flw_len];exact h),flw_get _ _ h]
  refine lst_left (fun j hj=>?_) (fun j h1 h2=>?_)
  ·simp only [gAlt,blk];rw [if_pos h,if_pos hj]
  ·simp only [gAlt,blk];rw [if_pos h,if_neg (by omega)]
 ·rw [List.getElem_append_right (by rw [flw_len];exact h)]
  simp only [flw_len]
  rw [flw_get _ _ (by omega)]
  refine lst_right (fun j hj=>?_) (fun j hj=>?_)
  ·simp only [gAlt,blk];rw [if_neg (by omega),if_pos hj]
  ·simp only [gAlt,blk];rw [if_neg (by omega),if_neg (by omega),Nat.add_sub_cancel_left]
def pc (g:GA) (off:Nat):place_piece:=⟨lst g.n g.first off,lst g.n g.last off,g.null⟩
theorem cat_first (a b:GA) (off:Nat):(if a.null=true then join (lst a.n a.first off) (lst b.n b.first (off+a.n)) else lst a.n a.first off)=lst (a.n+b.n) (gCat a b).first off:=by
 split
 ·rename_i h
  obtain ⟨j1,j2⟩:=join_spec (lst a.n a.first off) (lst b.n b.first (off+a.n))
  exact lst_both j1 j2 (fun j hj=>by simp only [gCat];rw [if_pos hj]) (fun j hj=>by simp only [gCat];rw [if_neg (by omega),h,Nat.add_sub_cancel_left];rfl)
 ·rename_i h
  have h:a.null=false:=by simpa using h
  exact lst_left (fun j hj=>by simp only [gCat];rw [if_pos hj]) (fun j h1 h2=>by simp only [gCat];rw [if_neg (by omega),h];rfl)
theorem cat_last (a b:GA) (off:Nat):(if b.null=true then join (lst a.n a.last off) (lst b.n b.last (off+a.n)) else lst b.n b.last (off+a.n))=lst (a.n+b.n) (gCat a b).last off:=by
 split
 ·rename_i h
  obtain ⟨j1,j2⟩:=join_spec (lst a.n a.last off) (lst b.n b.last (off+a.n))
  exact lst_both j1 j2 (fun j hj=>by simp only [gCat];rw [if_pos hj,h];rfl) (fun j hj=>by simp only [gCat];rw [if_neg (by omega),Nat.add_sub_cancel_left])
 ·rename_i h
  have h:b.null=false:=by simpa using h
  exact lst_right (fun j hj=>by simp only [gCat];rw [if_pos hj,h];rfl) (fun j hj=>by simp only [gCat];rw [if_neg (by omega),Nat.add_sub_cancel_left])
theorem alt_first (a b:GA) (off:Nat):join (lst a.n a.first off) (lst b.n b.first (off+a.n))=lst (a.n+b.n) (gAlt a b).first off:=by
 obtain ⟨j1,j2⟩:=join_spec (lst a.n a.first off) (lst b.n b.first (off+a.n))
 exact lst_both j1 j2 (fun j hj=>by simp only [gAlt];rw [if_pos hj]) (fun j hj=>by simp only [gAlt];rw [if_neg (by omega),Nat.add_sub_cancel_left])
theorem alt_last (a b:GA) (off:Nat):join (lst a.n a.last off) (lst b.n b.last (off+a.n))=lst (a.n+b.n) (gAlt a b).last off:=by
 obtain ⟨j1,j2⟩:=join_spec (lst a.n a.last off) (lst b.n b.last (off+a.n))
 exact lst_both j1 j2 (fun j hj=>by simp only [gAlt];rw [if_pos hj]) (fun j hj=>by simp only [gAlt];rw [if_neg (by omega),Nat.add_sub_cancel_left])
end Go.Ev.Pl
set_option linter.unusedSimpArgs false
set_option linter.unusedVariables false
namespace Go.Ev.Pl
open Go Go.Ev
theorem set_eq {α:Type} {l:List α} {i:Nat} {x:α} {m:List α} (hl:m.length=l.length) (h1:∀ (j:Nat) (h:j < l.length),j≠i→m[j]'(by omega)=l[j]) (h2:∀ h:i < l.length,m[i]'(by omega)=x):l.set i x=m:=by
 apply List.ext_getElem
 ·simp [hl]
 ·intro j a b
  rw [List.getElem_set]
  split
  ·rename_i e;subst e;exact (h2 (by simpa using a)).symm
  ·rename_i e;exact (h1 j (by simpa using a) (fun h=>e h.symm)).symm
theorem flatten_take_succ {α:Type} {L:List (List α)} {i:Nat} (h:i < L.length):(L.take (i+1)).flatten=(L.take i).flatten++L[i]:=by
 rw [List.take_succ_eq_append_getElem h,List.flatten_append];simp
theorem flatten_take_le {α:Type} (L:List (List α)) (i:Nat):(L.take i).flatten.length≤L.flatten.length:=by
 conv=>rhs;rw [← List.take_append_drop i L]
 rw [List.flatten_append,List.length_append];omega
theorem concat_ok (L:List (List Int)) (hL:L.length < 1099511627776) (hT:L.flatten.length < 1000000000):C_slices_Concat__int_int L L.flatten:=by
 refine W_slices_Concat__int_int L _ ⟨fun s t=>∃ i:Nat,t=i∧i≤L.length∧s=(L.take i).flatten.length,fun s t=>(L.length - t).toNat,⟨0,rfl,by omega,by simp⟩,?_⟩
 rintro s t ⟨i,rfl,hi,rfl⟩
 have hb:=flatten_take_le L i
 refine ⟨fun ht=>?_,fun ht=>?_⟩
 ·have ht:i < L.length:=by simpa using ht
  have hs:=congrArg List.length (flatten_take_succ ht)
  rw [List.length_append] at hs
  have hb2:=flatten_take_le L (i+1)
  have hg:gd L (i:Int)=L[i]:=gd_nat ht
  have hw1:w64 (((L.take i).flatten.length:Int)+(gd L (i:Int)).length)=((L.take (i+1)).flatten.length:Int):=by
   rw [hg,hs];exact (w64_id (by omega) (by omega)).trans (by omega)
  have hw2:w64 ((i:Int)+1)=((i+1:Nat):Int):=w64_id (by omega) (by omega)
  rw [hw1,hw2]
  exact ⟨True,fun _=>⟨⟨i+1,rfl,by omega,rfl⟩,by dsimp only;omega⟩,by omega,by omega,fun h=>absurd (of_decide_eq_true h) (by omega),fun _=>trivial⟩
 ·refine ⟨⟨by omega,by omega⟩,fun l t=>∃ i:Nat,t=i∧i≤L.length∧l=(L.take i).flatten,fun l t=>(L.length - t).toNat,⟨0,rfl,by omega,rfl⟩,?_⟩
  rintro l t ⟨j,rfl,hj,rfl⟩
  have hb3:=flatten_take_le L j
  refine ⟨fun ht=>?_,fun ht=>?_⟩
  ·have ht:j < L.length:=by simpa using ht
   have hg:gd L (j:Int)=L[j]:=gd_nat ht
   have hs:=flatten_take_succ ht
   have hs2:=congrArg List.length hs
   rw [List.length_append] at hs2
   have hb2:=flatten_take_le L (j+1)
   have hw2:w64 ((j:Int)+1)=((j+1:Nat):Int):=w64_id (by omega) (by omega)
   rw [hw2,hg]
   exact ⟨by omega,by omega,by omega,⟨j+1,rfl,by omega,hs.symm⟩,by dsimp only;omega⟩
  ·have:j=L.length:=by have:¬ j < L.length:=by simpa using ht
                       omega
   subst this
   rw [List.take_of_length_le (Nat.le_refl _)]
theorem join_ok (a b:List Int) (ha:a.length < 100000000) (hb:b.length < 100000000):C_place_Join_int a b (join a b):=by
 have h:=concat_ok [a,b] (by simp) (by simp;omega)
 have e:[a,b].flatten=a++b:=by simp
 rw [e] at h
 exact W_place_Join_int a b _ ⟨_,h,by simp;omega,sort_len _,by rw [sort_len];simp;omega,rfl⟩
theorem lead_ok (fr to:List Int) (b:place_builder) (hfr:SS fr) (hin:∀ x∈fr,0≤x∧x < b.follow.length) (hto:to.length < 10000000) (hF:∀ f∈b.follow,f.length < 10000000) (hlen:fr.length < 10000000):C_place_builder_lead fr to b { sets:=b.sets,follow:=leadF b.follow fr to }:=by
 refine W_place_builder_lead fr to b _ ⟨fun F t=>∃ i:Nat,t=i∧i≤fr.length∧F=leadF b.follow (fr.take i) to,fun F t=>(fr.length - t).toNat,⟨0,rfl,by omega,by simp [leadF];exact (List.ext_getElem (by simp) (fun j h1 h2=>by simp))⟩,?_⟩
 rintro F t ⟨i,rfl,hi,rfl⟩
 refine ⟨fun ht=>?_,fun ht=>?_⟩
 ·have ht:i < fr.length:=by simpa using ht
  have hg:gd fr (i:Int)=fr[i]:=gd_nat ht
  rw [hg]
  obtain ⟨q0,q1⟩:=hin _ (List.getElem_mem ht)
  obtain ⟨e,he⟩:∃ e:Nat,fr[i]=e:=⟨fr[i].toNat,by omega⟩
  rw [he] at q1 ⊢
  have he2:e < b.follow.length:=by omega
  have hl:(leadF b.follow (fr.take i) to).length=b.follow.length:=leadF_len _ _ _
  have hnot:∀ j:Nat,(hj:j < b.follow.length)→j=e→¬ ((j:Int)∈fr.take i):=by
   rintro j hj rfl hm
   obtain ⟨k,hk,hk2⟩:=List.mem_iff_getElem.1 hm
   simp only [List.length_take] at hk
   rw [List.getElem_take] at hk2
   have:=List.pairwise_iff_getElem.1 hfr k i (by omega) ht (by omega)
   omega
  have hge:gd (leadF b.follow (fr.take i) to) (e:Int)=b.follow[e]:=by
   rw [gd_nat (by rw [hl];exact he2),leadF_get _ _ _ he2,if_neg (hnot e he2 rfl)]
  have hw2:w64 ((i:Int)+1)=((i+1:Nat):Int):=w64_id (by omega) (by omega)
  refine ⟨by omega,by omega,by omega,by rw [hl];omega,by rw [hl];omega,join b.follow[e] to,?_,by omega,by rw [hl];omega,by rw [hl];omega,?_⟩
  ·rw [hge];exact join_ok _ _ (by have:=hF _ (List.getElem_mem he2);omega) (by omega)
  ·rw [hw2]
   refine ⟨⟨i+1,rfl,by omega,?_⟩,by dsimp only;omega⟩
   show List.set _ e _=_
   refine set_eq (by rw [leadF_len,leadF_len]) (fun j hj hne=>?_) (fun hj=>?_)
   ·rw [hl] at hj
    rw [leadF_get _ _ _ hj,leadF_get _ _ _ hj,List.take_succ_eq_append_getElem ht,he]
    have:((j:Int)∈fr.take i++[(e:Int)])↔(j:Int)∈fr.take i:=by
     rw [List.mem_append,List.mem_singleton]
     constructor
     ·rintro (h | h)
      ·exact h
      ·exact absurd (by omega) hne
     ·exact .inl
    simp only [this]
   ·rw [leadF_get _ _ _ he2,List.take_succ_eq_append_getElem ht,he,if_pos (by simp)]
 ·have:i=fr.length:=by have:¬ i < fr.length:=by simpa using ht
                       omega
  subst this
  rw [List.take_of_length_le (Nat.le_refl _)]
theorem flw_small (g:GA) (off:Nat) (h:g.n < 10000000):∀ f∈flw g off,f.length < 10000000:=by
 intro f hf
 simp only [flw,List.mem_map,List.mem_range] at hf
 obtain ⟨i,_,rfl⟩:=hf
 have:=lst_len g.n (g.follow i) off
 omega
theorem cat_ok (F0:List (List Int)) (S:List arr4_uint64) (a b:GA) (hF:∀ f∈F0,f.length < 10000000) (hab:a.n+b.n < 1000000) (hF2:F0.length < 1000000) :
 C_place_builder_cat (pc a F0.length) (pc b (F0.length+a.n)) { sets:=S,follow:=F0++flw a F0.length++flw b (F0.length+a.n) } (pc (gCat a b) F0.length) { sets:=S,follow:=F0++flw (gCat a b) F0.length }:=by
 have hla:=lst_len a.n a.last F0.length
 have hlb:=lst_len b.n b.first (F0.length+a.n)
 have hlb2:=lst_len b.n b.last (F0.length+a.n)
 have hla2:=lst_len a.n a.first F0.length
 have hlead:=lead_ok (lst a.n a.last F0.length) (lst b.n b.first (F0.length+a.n)) { sets:=S,follow:=F0++flw a F0.length++flw b (F0.length+a.n) } (lst_ss _ _ _) (fun x hx=>by
  obtain ⟨i,hi,_,rfl⟩:=lst_mem.1 hx
  simp only [List.length_append,flw_len];omega) (by omega) (fun f hf=>by
  rcases List.mem_append.1 hf with hf | hf
  ·rcases List.mem_append.1 hf with hf | hf
   ·exact hF f hf
   ·exact flw_small a _ (by omega) f hf
  ·exact flw_small b _ (by omega) f hf) (by omega)
 simp only [lead_cat] at hlead
 refine W_place_builder_cat _ _ _ _ _ ⟨_,hlead,fun l=>l=lst (a.n+b.n) (gCat a b).first F0.length,?_,fun hn=>⟨_,join_ok _ _ (by show (lst _ _ _).length < _;omega) (by show (lst _ _ _).length < _;omega),?_⟩,fun hn=>?_⟩
 ·rintro l rfl
  refine ⟨fun l=>l=lst (a.n+b.n) (gCat a b).last F0.length,?_,fun hn=>⟨_,join_ok _ _ (by show (lst _ _ _).length < _;omega) (by show (lst _ _ _).length < _;omega),?_⟩,fun hn=>?_⟩
  ·rintro l rfl;exact ⟨rfl,rfl⟩
  ·have:=cat_last a b F0.length
   rw [if_pos (show b.null=true from hn)] at this;exact this
  ·have:=cat_last a b F0.length
   rw [if_neg (by show ¬ (b.null=true);have:b.null=false:=hn;simp [this])] at this;exact this
 ·have:=cat_first a b F0.length
  rw [if_pos (show a.null=true from hn)] at this;exact this
 ·have:=cat_first a b F0.length
  rw [if_neg (by show ¬ (a.null=true);have:a.null=false:=hn;simp [this])] at this;exact this
end Go.Ev.Pl
set_option linter.unusedSimpArgs false
set_option linter.unusedVariables false
namespace Go.Ev.Pl
open Go Go.Ev
def Rgt (x:api_Rx):Prop:=∃ d,rgt x d=true
theorem rgt_own {x:api_Rx} (h:Rgt x):ownB x=true∧∀ k∈x.Kids,Rgt k:=by
 obtain ⟨d,h⟩:=h
 rw [rgt_eq] at h
 simp only [Bool.and_eq_true,List.all_eq_true] at h
 exact ⟨h.1.2,fun k hk=>⟨d - 1,(h.2 k hk).2⟩⟩
theorem own_rep {x:api_Rx} (h:ownB x=true) (h5:x.Kind=5):(∃ k,x.Kids=[k])∧0≤x.Lo∧x.Lo≤20∧(x.Hi = -1∨1≤x.Hi∧x.Lo≤x.Hi∧x.Hi≤20):=by
 simp only [ownB,if_pos h5,timesB,Bool.and_eq_true,decide_eq_true_eq,Bool.or_eq_true,beq_iff_eq] at h
 obtain ⟨_,h1,h2,h3,h4⟩:=h
 refine ⟨?_,h2,h3,?_⟩
 ·match hq:x.Kids,h1 with
  | [k],_=>exact ⟨k,rfl⟩
 ·rcases h4 with h4 | ⟨h4,h5⟩
  ·exact .inl h4
  ·exact .inr (by omega)
theorem own_kids {x:api_Rx} (h:ownB x=true) (h34:x.Kind=3∨x.Kind=4):2≤x.Kids.length:=by
 simp only [ownB] at h
 rw [if_neg (by omega),if_neg (by omega),if_neg (by omega),if_pos h34] at h
 simp only [Bool.and_eq_true,decide_eq_true_eq] at h
 exact h.2.2
theorem own_kind {x:api_Rx} (h:ownB x=true):x.Kind=1∨x.Kind=2∨x.Kind=3∨x.Kind=4∨x.Kind=5:=by
 simp only [ownB] at h
 split at h
 ·omega
 ·split at h
  ·omega
  ·split at h
   ·omega
   ·split at h
    ·omega
    ·cases h
theorem iter_n {f:GA→GA} {a:GA} (hf:∀ o,(f o).n=a.n+o.n):∀ k z,(iter f k z).n=k * a.n+z.n
 | 0,z=>by simp [iter]
 | k+1,z=>by rw [iter,hf,iter_n hf k,Nat.succ_mul];omega
def cpS (a:GA) (k:Nat):List arr4_uint64:=(List.replicate k a.sets).flatten
theorem iter_sets {f:GA→GA} {a:GA} (hf:∀ o,(f o).sets=a.sets++o.sets):∀ k z,(iter f k z).sets=cpS a k++z.sets
 | 0,z=>by simp [iter,cpS]
 | k+1,z=>by rw [iter,hf,iter_sets hf k];simp [cpS,List.replicate_succ]
theorem iter_null (a:GA):∀ k z,(iter (gCat a) k z).null=(z.null && (decide (k=0) || a.null))
 | 0,z=>by simp [iter]
 | k+1,z=>by
   rw [iter]
   show (a.null && (iter (gCat a) k z).null)=_
   rw [iter_null a k z]
   cases a.null<;>cases z.null<;>simp
theorem rep_n (a:GA) {lo hi:Int} (h1:0≤lo) (h2:hi = -1∨1≤hi∧lo≤hi):(gRep a lo hi).n=(max 1 (max lo hi)).toNat * a.n:=by
 unfold gRep
 split
 ·rw [iter_n (f:=gCat a) (a:=a) (fun _=>rfl)]
  have:(if lo=0 then gMaybe (gAgain a) else gAgain a).n=a.n:=by split<;>rfl
  rw [this,← Nat.succ_mul]
  congr 1
  omega
 ·rw [iter_n (f:=gCat a) (a:=a) (fun _=>rfl),iter_n (f:=fun o=>gMaybe (gCat a o)) (a:=a) (fun _=>rfl)]
  show _+(_+0)=_
  rw [Nat.add_zero,← Nat.add_mul]
  congr 1
  omega
theorem rep_sets (a:GA) {lo hi:Int} (h1:0≤lo) (h2:hi = -1∨1≤hi∧lo≤hi):(gRep a lo hi).sets=cpS a (max 1 (max lo hi)).toNat:=by
 have key:∀ j k,cpS a j++cpS a k=cpS a (j+k):=fun j k=>by
  simp only [cpS];rw [← List.flatten_append,List.replicate_append_replicate]
 unfold gRep
 split
 ·rw [iter_sets (f:=gCat a) (a:=a) (fun _=>rfl)]
  have:(if lo=0 then gMaybe (gAgain a) else gAgain a).sets=cpS a 1:=by split<;>simp [cpS,gMaybe,gAgain]
  rw [this,key]
  congr 1
  omega
 ·rw [iter_sets (f:=gCat a) (a:=a) (fun _=>rfl),iter_sets (f:=fun o=>gMaybe (gCat a o)) (a:=a) (fun _=>rfl)]
  show _++(_++[])=_
  rw [List.append_nil,key]
  congr 1
  omega
theorem rep_null (a:GA) {lo hi:Int} (h1:0≤lo) (h2:hi = -1∨1≤hi∧lo≤hi):(gRep a lo hi).null=(decide (lo≤0) || a.null):=by
 unfold gRep
 split
 ·rw [iter_null]
  by_cases h:lo=0
  ·subst h;simp [gMaybe,gAgain];left;rfl
  ·have:¬ lo≤0:=by omega
   simp only [if_neg h,gAgain,this,decide_false,Bool.false_or]
   cases a.null<;>simp
 ·rw [iter_null]
  have hin:∀ k,(iter (fun o=>gMaybe (gCat a o)) k gEmpty).null=true:=by
   intro k;cases k<;>rfl
  rw [hin,Bool.true_and]
  congr 1
  simp only [decide_eq_decide];omega
theorem foldl_n {f:GA→GA→GA} (hf:∀ a b,(f a b).n=a.n+b.n):∀ (l:List api_Rx) (z:GA),(l.foldl (fun o y=>f o (gof y)) z).n=z.n+(l.map fun y=>(gof y).n).sum
 | [],z=>by simp
 | y :: r,z=>by rw [List.foldl_cons,foldl_n hf r,hf];simp;omega
theorem gof_n:∀ x,Rgt x→(gof x).n=sizeN x:=by
 refine rxInd fun x ih hr=>?_
 obtain ⟨ho,hk⟩:=rgt_own hr
 have hkn:(x.Kids.map fun y=>(gof y).n)=x.Kids.map sizeN:=List.map_congr_left fun y hy=>ih y hy (hk y hy)
 rw [gof_eq,sizeN_eq]
 rcases own_kind ho with h | h | h | h | h
 ·simp [h,gEmpty]
 ·simp [h,gByte]
 ·simp only [h]
  simp only [show ¬ ((3:Int)=2) by omega,if_false,if_true,show (3:Int)≤3∧(3:Int)≤5 from ⟨by omega,by omega⟩,show ¬ ((3:Int)=5) by omega]
  rw [foldl_n (f:=gCat) (fun _ _=>rfl),hkn]
  show 0+_=_;simp
 ·simp only [h]
  simp only [show ¬ ((4:Int)=2) by omega,show ¬ ((4:Int)=3) by omega,if_false,if_true,show (3:Int)≤4∧(4:Int)≤5 from ⟨by omega,by omega⟩,show ¬ ((4:Int)=5) by omega]
  rw [foldl_n (f:=gAlt) (fun _ _=>rfl),hkn]
  show 0+_=_;simp
 ·obtain ⟨⟨k,hq⟩,h1,h2,h3⟩:=own_rep ho h
  simp only [h]
  simp only [show ¬ ((5:Int)=2) by omega,show ¬ ((5:Int)=3) by omega,show ¬ ((5:Int)=4) by omega,if_false,if_true,show (3:Int)≤5∧(5:Int)≤5 from ⟨by omega,by omega⟩]
  rw [hq]
  simp only [List.map_cons,List.map_nil,List.headD_cons,List.sum_cons,List.sum_nil,Nat.add_zero]
  rw [rep_n _ h1 (by omega),ih k (by rw [hq];simp) (hk k (by rw [hq];simp)),Nat.mul_comm]
  congr 1
  simp only [timesN];omega
theorem foldl_null_cat:∀ (l:List api_Rx) (z:GA),(l.foldl (fun o y=>gCat o (gof y)) z).null=(z.null && l.all fun y=>(gof y).null)
 | [],z=>by simp
 | y :: r,z=>by rw [List.foldl_cons,foldl_null_cat r];simp [gCat,Bool.and_assoc]
theorem foldl_null_alt:∀ (l:List api_Rx) (z:GA),(l.foldl (fun o y=>gAlt o (gof y)) z).null=(z.null || l.any fun y=>(gof y).null)
 | [],z=>by simp
 | y :: r,z=>by rw [List.foldl_cons,foldl_null_alt r];simp [gAlt,Bool.or_assoc]
theorem all_congr' {l:List api_Rx} {p q:api_Rx→Bool} (h:∀ y∈l,p y=q y):l.all p=l.all q:=by
 induction l with
 | nil=>rfl
 | cons y r ih=>simp only [List.all_cons];rw [h y (List.mem_cons_self ..),ih fun z hz=>h z (List.mem_cons_of_mem _ hz)]
theorem any_congr' {l:List api_Rx} {p q:api_Rx→Bool} (h:∀ y∈l,p y=q y):l.any p=l.any q:=by
 induction l with
 | nil=>rfl
 | cons y r ih=>simp only [List.any_cons];rw [h y (List.mem_cons_self ..),ih fun z hz=>h z (List.mem_cons_of_mem _ hz)]
theorem gof_null:∀ x,Rgt x→(gof x).null=nullB x:=by
 refine rxInd fun x ih hr=>?_
 obtain ⟨ho,hk⟩:=rgt_own hr
 rw [gof_eq,nullB_eq]
 rcases own_kind ho with h | h | h | h | h
 ·simp [h,gEmpty]
 ·simp [h,gByte]
 ·simp only [h]
  simp only [show ¬ ((3:Int)=2) by omega,show ¬ ((3:Int)=1) by omega,if_false,if_true]
  rw [foldl_null_cat,all_congr' fun y hy=>ih y hy (hk y hy)];rfl
 ·simp only [h]
  simp only [show ¬ ((4:Int)=2) by omega,show ¬ ((4:Int)=3) by omega,show ¬ ((4:Int)=1) by omega,if_false,if_true]
  rw [foldl_null_alt,any_congr' fun y hy=>ih y hy (hk y hy)];rfl
 ·obtain ⟨⟨k,hq⟩,h1,h2,h3⟩:=own_rep ho h
  simp only [h]
  simp only [show ¬ ((5:Int)=2) by omega,show ¬ ((5:Int)=3) by omega,show ¬ ((5:Int)=4) by omega,show ¬ ((5:Int)=1) by omega,if_false,if_true]
  rw [hq]
  simp only [List.map_cons,List.map_nil,List.headD_cons,List.all_cons,List.all_nil,Bool.and_true]
  rw [rep_null _ h1 (by omega),ih k (by rw [hq];simp) (hk k (by rw [hq];simp))]
theorem zero_null:∀ x,Rgt x→sizeN x=0→nullB x=true:=by
 refine rxInd fun x ih hr h0=>?_
 obtain ⟨ho,hk⟩:=rgt_own hr
 rw [sizeN_eq] at h0
 rw [nullB_eq]
 have hsum:(x.Kids.map sizeN).sum=0→∀ y∈x.Kids,nullB y=true:=fun h y hy=>ih y hy (hk y hy) (by
  have:=List.sum_eq_zero_iff_forall_eq_nat.1 h (sizeN y) (List.mem_map.2 ⟨y,hy,rfl⟩);exact this)
 rcases own_kind ho with h | h | h | h | h
 ·simp [h]
 ·simp [h] at h0
 ·simp only [h] at h0 ⊢
  simp at h0
  simp only [show ¬ ((3:Int)=1) by omega,if_false,if_true,List.all_eq_true]
  exact hsum h0
 ·simp only [h] at h0 ⊢
  simp at h0
  have h2:=own_kids ho (.inr h)
  simp only [show ¬ ((4:Int)=1) by omega,show ¬ ((4:Int)=3) by omega,if_false,if_true]
  have hm:x.Kids[0]'(by omega)∈x.Kids:=List.getElem_mem _
  exact List.any_eq_true.2 ⟨_,hm,hsum h0 _ hm⟩
 ·obtain ⟨⟨k,hq⟩,h1,h2,h3⟩:=own_rep ho h
  simp only [h] at h0 ⊢
  simp only [show ¬ ((5:Int)=2) by omega,if_false,if_true,show (3:Int)≤5∧(5:Int)≤5 from ⟨by omega,by omega⟩] at h0
  have ht:1≤timesN x:=by simp only [timesN];omega
  have hs:(x.Kids.map sizeN).sum=0:=by
   rcases Nat.mul_eq_zero.1 h0 with h | h
   ·exact h
   ·omega
  simp only [show ¬ ((5:Int)=3) by omega,show ¬ ((5:Int)=4) by omega,show ¬ ((5:Int)=1) by omega,if_false,if_true]
  have:x.Kids.all nullB=true:=List.all_eq_true.2 (hsum hs)
  rw [this];simp
theorem gof_zero {x:api_Rx} (hr:Rgt x) (h0:sizeN x=0):gof x=gEmpty:=
 canon_zero (canon_gof x) ((gof_n x hr).trans h0) ((gof_null x hr).trans (zero_null x hr h0))
end Go.Ev.Pl
set_option linter.unusedSimpArgs false
set_option linter.unusedVariables false
namespace Go.Ev.Pl
open Go Go.Ev
def hF (h:Nat→GA) (m n:Nat):Nat→List (List Int)
 | 0=>[]
 | N+1=>hF h m n N++flw (h N) (m+N * n)
theorem hF_len {h:Nat→GA} {m n:Nat} (hn:∀ j,(h j).n=n):∀ N,(hF h m n N).length=N * n
 | 0=>by simp [hF]
 | N+1=>by rw [hF,List.length_append,hF_len hn N,flw_len,hn,Nat.succ_mul]
theorem hF_congr {h h':Nat→GA} {m n:Nat}:∀ N,(∀ j,j < N→h j=h' j)→hF h m n N=hF h' m n N
 | 0,_=>rfl
 | N+1,e=>by rw [hF,hF,hF_congr N (fun j hj=>e j (by omega)),e N (by omega)]
theorem hF_small {h:Nat→GA} {m n:Nat} (hs:∀ j,(h j).n < 10000000):∀ N,∀ f∈hF h m n N,f.length < 10000000
 | 0,f,hf=>by simp [hF] at hf
 | N+1,f,hf=>by
   rw [hF,List.mem_append] at hf
   rcases hf with hf | hf
   ·exact hF_small hs N f hf
   ·exact flw_small _ _ (hs N) f hf
theorem cpS_succ (a:GA) (k:Nat):cpS a (k+1)=cpS a k++a.sets:=by
 simp only [cpS,List.replicate_succ',List.flatten_append];simp
structure Room (F0:List (List Int)) (S:List arr4_uint64) (n:Nat):Prop where
 same:S.length=F0.length
 small:∀ f∈F0,f.length < 10000000
 room:F0.length+n < 1000000
def PieceOk (x:api_Rx):Prop:=∀ F0 S,Room F0 S (gof x).n→C_place_builder_piece x { sets:=S,follow:=F0 } (pc (gof x) F0.length) { sets:=S++(gof x).sets,follow:=F0++flw (gof x) F0.length }
theorem copies_ok {k:api_Rx} (hp:PieceOk k) (N:Nat) (hN:N≤1000) (F0:List (List Int)) (S:List arr4_uint64) (hr:Room F0 S (N * (gof k).n)) :
 C_place_builder_copies k N { sets:=S,follow:=F0 } ((List.range N).map fun i=>pc (gof k) (F0.length+i * (gof k).n)) { sets:=S++cpS (gof k) N,follow:=F0++hF (fun _=>gof k) F0.length (gof k).n N }:=by
 have hc:=canon_gof k
 refine W_place_builder_copies k N _ _ _ ⟨fun s f o t=>∃ i:Nat,t=i∧i≤N∧s=S++cpS (gof k) i∧f=F0++hF (fun _=>gof k) F0.length (gof k).n i∧o=(List.range i).map fun i=>pc (gof k) (F0.length+i * (gof k).n),
  fun _ _ _ t=>(N - t).toNat,⟨0,rfl,by omega,by simp [cpS],by simp [hF],rfl⟩,?_⟩
 rintro s f o t ⟨i,rfl,hi,rfl,rfl,rfl⟩
 refine ⟨fun ht=>?_,fun ht=>?_⟩
 ·have ht:i < N:=by simpa using ht
  have hle:(i+1) * (gof k).n≤N * (gof k).n:=Nat.mul_le_mul_right _ ht
  rw [Nat.add_mul,Nat.one_mul] at hle
  have hlen:(F0++hF (fun _=>gof k) F0.length (gof k).n i).length=F0.length+i * (gof k).n:=by rw [List.length_append,hF_len fun _=>rfl]
  have hroom:=hr.room
  have hsl:∀ j,(cpS (gof k) j).length=j * (gof k).n:=fun j=>by simp [cpS,hc.sets]
  have:=hp (F0++hF (fun _=>gof k) F0.length (gof k).n i) (S++cpS (gof k) i) ⟨by rw [hlen,List.length_append,hr.same,hsl],fun f hf=>by
   rcases List.mem_append.1 hf with hf | hf
   ·exact hr.small f hf
   ·exact hF_small (fun _=>by omega) i f hf,by rw [hlen];omega⟩
  rw [hlen,List.append_assoc,List.append_assoc,← cpS_succ] at this
  have hw2:w64 ((i:Int)+1)=((i+1:Nat):Int):=w64_id (by omega) (by omega)
  refine ⟨_,_,this,by simp;omega,?_⟩
  rw [hw2]
  exact ⟨⟨i+1,rfl,by omega,rfl,rfl,by rw [List.range_succ,List.map_append];rfl⟩,by dsimp only;omega⟩
 ·have:i=N:=by have:¬ i < N:=by simpa using ht
               omega
  subst this
  exact ⟨rfl,rfl⟩
def fromEnd (h:Nat→GA) (mb:Nat→Bool) (N:Nat):Nat→GA
 | 0=>gEmpty
 | i+1=>let o:=gCat (h (N - 1 - i)) (fromEnd h mb N i);if mb (N - 1 - i)=true then gMaybe o else o
theorem fromEnd_n {h:Nat→GA} {mb:Nat→Bool} {N n:Nat} (hn:∀ j,(h j).n=n):∀ i,(fromEnd h mb N i).n=i * n
 | 0=>by simp [fromEnd,gEmpty]
 | i+1=>by
   simp only [fromEnd]
   have:(gCat (h (N - 1 - i)) (fromEnd h mb N i)).n=(i+1) * n:=by
    show (h (N - 1 - i)).n+(fromEnd h mb N i).n=_
    rw [hn,fromEnd_n hn i,Nat.succ_mul];omega
   split
   ·exact this
   ·exact this
theorem rep_loop {x:api_Rx} {h:Nat→GA} {N n:Nat} {F0:List (List Int)} {S S':List arr4_uint64} (hn:∀ j,(h j).n=n) (hr:Room F0 S (N * n)) (hN:N≤1000) {l:List place_piece} (hl:l=(List.range N).map fun j=>pc (h j) (F0.length+j * n))
 {res:place_piece} {fin:place_builder} (hres:res=pc (fromEnd h (fun j=>decide (x.Hi≥0) && decide ((j:Int)≥x.Lo)) N N) F0.length)
 (hfin:fin={ sets:=S',follow:=F0++flw (fromEnd h (fun j=>decide (x.Hi≥0) && decide ((j:Int)≥x.Lo)) N N) F0.length }) :
 (List.length l < 1099511627776∧∃ (Inv24:Nat→List arr4_uint64→List (List Int)→List Int→List Int→Bool→Prop),Inv24 0 S' (F0++hF h F0.length n N) [] [] Bool.true∧
   (∀ (i:Nat) (y:place_piece),i < List.length l→l[List.length l - 1 - i]?=some y→∀ (s:List arr4_uint64) (f:List (List Int)) (o1 o2:List Int) (o3:Bool),Inv24 i s f o1 o2 o3→
     (∃ r0_6:place_piece,∃ o_4:place_builder,C_place_builder_cat y { first:=o1,last:=o2,null:=o3 } { sets:=s,follow:=f } r0_6 o_4∧
       (((decide (x.Hi≥0) && decide ((List.length l:Int) - 1 - i≥x.Lo))=true→(∃ r0_7:place_piece,C_place_maybe r0_6 r0_7∧Inv24 (i+1) o_4.sets o_4.follow r0_7.first r0_7.last r0_7.null))∧
         ((decide (x.Hi≥0) && decide ((List.length l:Int) - 1 - i≥x.Lo))=false→Inv24 (i+1) o_4.sets o_4.follow r0_6.first r0_6.last r0_6.null))))∧
   (∀ (s:List arr4_uint64) (f:List (List Int)) (o1 o2:List Int) (o3:Bool),Inv24 (List.length l) s f o1 o2 o3→(res={ first:=o1,last:=o2,null:=o3 }∧fin={ sets:=s,follow:=f }))):=by
 have hll:l.length=N:=by rw [hl];simp
 obtain ⟨mb,hmb⟩:∃ mb:Nat→Bool,mb=fun j:Nat=>decide (x.Hi≥0) && decide ((j:Int)≥x.Lo):=⟨_,rfl⟩
 rw [← hmb] at hres hfin
 have hroom:=hr.room
 rw [hll]
 refine ⟨by omega,fun i s f o1 o2 o3=>i≤N∧s=S'∧f=F0++hF h F0.length n (N - i)++flw (fromEnd h mb N i) (F0.length+(N - i) * n)∧(⟨o1,o2,o3⟩:place_piece)=pc (fromEnd h mb N i) (F0.length+(N - i) * n),⟨by omega,rfl,by simp [fromEnd,flw,gEmpty],rfl⟩,?_,?_⟩
 ·rintro i y hi hy s f o1 o2 o3 ⟨_,rfl,rfl,hp⟩
  have hy:y=pc (h (N - 1 - i)) (F0.length+(N - 1 - i) * n):=by
   rw [hl,List.getElem?_map,List.getElem?_range (by omega)] at hy
   simpa using hy.symm
  have e1:N - i=(N - 1 - i)+1:=by omega
  have hlen:(F0++hF h F0.length n (N - 1 - i)).length=F0.length+(N - 1 - i) * n:=by rw [List.length_append,hF_len hn]
  have hmul:(N - 1 - i) * n+(n+i * n)=N * n:=by
   have:N=(N - 1 - i)+(1+i):=by omega
   conv=>rhs;rw [this,Nat.add_mul,Nat.add_mul,Nat.one_mul]
  have hcat:=cat_ok (F0++hF h F0.length n (N - 1 - i)) s (h (N - 1 - i)) (fromEnd h mb N i) (fun f hf=>by
   rcases List.mem_append.1 hf with hf | hf
   ·exact hr.small f hf
   ·exact hF_small (fun j=>by have:=hn j;omega) _ f hf) (by rw [hn,fromEnd_n hn];omega) (by rw [hlen];omega)
  rw [hlen,hn] at hcat
  have hpos:F0.length+(N - 1 - i) * n+n=F0.length+(N - i) * n:=by rw [e1,Nat.succ_mul];omega
  rw [hpos] at hcat
  have hfl:F0++hF h F0.length n (N - i)=F0++hF h F0.length n (N - 1 - i)++flw (h (N - 1 - i)) (F0.length+(N - 1 - i) * n):=by
   rw [e1,hF,List.append_assoc]
  rw [hfl,hp,hy]
  refine ⟨_,_,hcat,fun hm=>⟨_,W_place_maybe _ _ rfl,?_⟩,fun hm=>?_⟩
  all_goals have hidx:((N:Int) - 1 - i)=((N - 1 - i:Nat):Int):=by omega
  all_goals rw [hidx] at hm
  all_goals have e2:N - (i+1)=N - 1 - i:=by omega
  ·have hf:fromEnd h mb N (i+1)=gMaybe (gCat (h (N - 1 - i)) (fromEnd h mb N i)):=by
    simp only [fromEnd];rw [if_pos];rw [hmb];exact hm
   dsimp only;rw [hf,e2]
   exact ⟨by omega,rfl,rfl,rfl⟩
  ·have hf:fromEnd h mb N (i+1)=gCat (h (N - 1 - i)) (fromEnd h mb N i):=by
    simp only [fromEnd];rw [if_neg];rw [hmb];simpa using hm
   dsimp only;rw [hf,e2]
   exact ⟨by omega,rfl,rfl,rfl⟩
 ·rintro s f o1 o2 o3 ⟨_,rfl,rfl,hp⟩
  rw [Nat.sub_self,Nat.zero_mul,Nat.add_zero] at hp
  refine ⟨by rw [hres,hp],?_⟩
  rw [hfin]
  simp [hF]
end Go.Ev.Pl
set_option linter.unusedSimpArgs false
set_option linter.unusedVariables false
namespace Go.Ev.Pl
open Go Go.Ev
theorem fromEnd_neg {g z:GA} {h:Nat→GA} {mb:Nat→Bool} {N:Nat} (hz:Canon z) (hN:1≤N) (hh:∀ j,j < N - 1→h j=g) (hl:h (N - 1)=z) (hm:∀ j,mb j=false):∀ i,i < N→fromEnd h mb N (i+1)=iter (gCat g) i z
 | 0,hi=>by
   simp only [fromEnd,hm]
   rw [if_neg (by simp),Nat.sub_zero,hl,cat_empty_r hz];rfl
 | i+1,hi=>by
   have ih:=fromEnd_neg hz hN hh hl hm i (by omega)
   rw [fromEnd]
   simp only [hm]
   rw [if_neg (by simp),ih,hh _ (by omega)];rfl
theorem fromEnd_pos {g:GA} {h:Nat→GA} {mb:Nat→Bool} {N L:Nat} (hL:L≤N) (hh:∀ j,h j=g) (hm:∀ j,j < N→mb j=decide (L≤j)):∀ i,i≤N→
 fromEnd h mb N i=iter (gCat g) (i - (N - L)) (iter (fun o=>gMaybe (gCat g o)) (min i (N - L)) gEmpty)
 | 0,_=>by simp [fromEnd,iter]
 | i+1,hi=>by
   have ih:=fromEnd_pos hL hh hm i (by omega)
   rw [fromEnd]
   simp only [hh,ih]
   rw [hm _ (by omega)]
   by_cases hc:L≤N - 1 - i
   ·rw [if_pos (by simpa using hc),show i - (N - L)=0 by omega,show i+1 - (N - L)=0 by omega,show min i (N - L)=i by omega,show min (i+1) (N - L)=i+1 by omega];rfl
   ·rw [if_neg (by simpa using hc),show i+1 - (N - L)=(i - (N - L))+1 by omega,show min i (N - L)=N - L by omega,show min (i+1) (N - L)=N - L by omega];rfl
theorem flw_again (g:GA) (b:Prop) [Decidable b] (off:Nat):flw (if b then gMaybe (gAgain g) else gAgain g) off=flw (gAgain g) off:=by split<;>rfl
theorem map_range_set {α:Type} {f:Nat→α} {N i:Nat} {v:α} (h:i < N):((List.range N).map f).set i v=(List.range N).map fun j=>if j=i then v else f j:=by
 refine set_eq (by simp) (fun j hj hne=>?_) (fun hj=>?_)
 ·simp only [List.getElem_map,List.getElem_range];rw [if_neg hne]
 ·simp only [List.getElem_map,List.getElem_range,if_true]
theorem rep_ok {x:api_Rx} (hr:Rgt x) (h5:x.Kind=5) (hw:Wf x) (hp:∀ k∈x.Kids,PieceOk k) (F0:List (List Int)) (S:List arr4_uint64) (hroom:Room F0 S (gof x).n) :
 C_place_builder_rep x { sets:=S,follow:=F0 } (pc (gof x) F0.length) { sets:=S++(gof x).sets,follow:=F0++flw (gof x) F0.length }:=by
 obtain ⟨ho,hk⟩:=rgt_own hr
 obtain ⟨⟨k,hq⟩,h1,h2,h3⟩:=own_rep ho h5
 have hkm:k∈x.Kids:=by rw [hq];simp
 have hgn:=gof_n x hr
 have hgof:gof x=gRep (gof k) x.Lo x.Hi:=by
  rw [gof_eq,h5,hq];simp
 refine W_place_builder_rep x _ _ _ ⟨_,rxSize_ok x hw,fun h0=>?_,fun h0=>?_⟩
 ·have h0:sizeN x=0:=by
   have:sizeZ x=0:=by simpa using h0
   simp only [sizeZ] at this;omega
  rw [gof_zero hr h0]
  exact ⟨rfl,by simp [gEmpty,flw]⟩
 obtain ⟨N,hN⟩:∃ N:Nat,N=(max 1 (max x.Lo x.Hi)).toNat:=⟨_,rfl⟩
 have hN1:1≤N:=by omega
 have hN2:N≤20:=by omega
 have hNi:(N:Int)=max 1 (max x.Lo x.Hi):=by omega
 have hn:(gof x).n=N * (gof k).n:=by rw [hgof,rep_n _ h1 (by omega),hN]
 have hs:(gof x).sets=cpS (gof k) N:=by rw [hgof,rep_sets _ h1 (by omega),hN]
 have hroom2:Room F0 S (N * (gof k).n):=by rw [← hn];exact hroom
 have hcp:=copies_ok (hp k hkm) N (by omega) F0 S hroom2
 have hlen2:F0.length+N * (gof k).n < 1000000:=hroom2.room
 have hcnt:(if (1:Int) > if x.Hi > x.Lo then x.Hi else x.Lo then (1:Int) else if x.Hi > x.Lo then x.Hi else x.Lo)=(N:Int):=by rw [hNi];split<;>omega
 rw [hcnt,hq]
 simp only [List.length_cons,List.length_nil,List.getD_cons_zero]
 refine ⟨by omega,_,_,hcp,?_⟩
 rw [← hs]
 by_cases hneg:x.Hi < 0
 ·-- from some times on
  obtain ⟨z,hz⟩:∃ z:GA,z=if x.Lo=0 then gMaybe (gAgain (gof k)) else gAgain (gof k):=⟨_,rfl⟩
  have hzc:Canon z:=by rw [hz];split;exact canon_maybe (canon_again (canon_gof k));exact canon_again (canon_gof k)
  have hzn:z.n=(gof k).n:=by rw [hz];split<;>rfl
  obtain ⟨h,hh⟩:∃ h:Nat→GA,h=fun j=>if j=N - 1 then z else gof k:=⟨_,rfl⟩
  have hhn:∀ j,(h j).n=(gof k).n:=fun j=>by rw [hh];dsimp only;split;exact hzn;rfl
  have hfe:fromEnd h (fun j:Nat=>decide (x.Hi≥0) && decide ((j:Int)≥x.Lo)) N N=gof x:=by
   have:=fromEnd_neg (mb:=fun j:Nat=>decide (x.Hi≥0) && decide ((j:Int)≥x.Lo)) hzc hN1 (h:=h) (g:=gof k) (fun j hj=>by rw [hh];dsimp only;rw [if_neg (by omega)]) (by rw [hh];simp) (fun j=>by simp;omega) (N - 1) (by omega)
   rw [show N - 1+1=N by omega] at this
   rw [this,hgof]
   unfold gRep
   rw [if_pos hneg,← hz]
   congr 1;omega
  obtain ⟨N1,rfl⟩:∃ N1,N=N1+1:=⟨N - 1,by omega⟩
  have hF1:hF h F0.length (gof k).n (N1+1)=hF (fun _=>gof k) F0.length (gof k).n N1++flw (gAgain (gof k)) (F0.length+N1 * (gof k).n):=by
   rw [hF,hF_congr N1 (h':=fun _=>gof k) (fun j hj=>by rw [hh];dsimp only;rw [if_neg (by omega)])]
   congr 1
   rw [hh];dsimp only;rw [if_pos (by omega),hz,flw_again]
  refine ⟨fun s f l=>s=S++(gof x).sets∧f=F0++hF h F0.length (gof k).n (N1+1)∧l=(List.range (N1+1)).map fun j=>pc (h j) (F0.length+j * (gof k).n),?_,fun _=>?_,fun hc=>absurd (of_decide_eq_false hc) (by omega)⟩
  ·rintro s f l ⟨rfl,rfl,hl⟩
   exact ⟨backward_121 l,rep_loop (x:=x) (h:=h) (N:=N1+1) (S:=S) hhn hroom2 (by omega) hl (by rw [hfe]) (by rw [hfe])⟩
  ·have hwl:w64 ((((List.range (N1+1)).map fun i=>pc (gof k) (F0.length+i * (gof k).n)).length:Int) - 1)=(N1:Int):=by
    rw [List.length_map,List.length_range];exact (w64_id (by omega) (by omega)).trans (by omega)
   have hgl:gd ((List.range (N1+1)).map fun i=>pc (gof k) (F0.length+i * (gof k).n)) (N1:Int)=pc (gof k) (F0.length+N1 * (gof k).n):=by
    rw [gd_nat (by simp)];simp
   rw [hwl,hgl]
   have hlen:(F0++hF (fun _=>gof k) F0.length (gof k).n N1).length=F0.length+N1 * (gof k).n:=by rw [List.length_append,hF_len fun _=>rfl]
   have hmul:(N1+1) * (gof k).n=N1 * (gof k).n+(gof k).n:=Nat.succ_mul _ _
   have hla:=lst_len (gof k).n (gof k).last (F0.length+N1 * (gof k).n)
   have hlf:=lst_len (gof k).n (gof k).first (F0.length+N1 * (gof k).n)
   have hlead:=lead_ok (lst (gof k).n (gof k).last (F0.length+N1 * (gof k).n)) (lst (gof k).n (gof k).first (F0.length+N1 * (gof k).n)) { sets:=S++(gof x).sets,follow:=F0++hF (fun _=>gof k) F0.length (gof k).n (N1+1) } (lst_ss _ _ _) (fun y hy=>by
    obtain ⟨i,hi,_,rfl⟩:=lst_mem.1 hy
    simp only [List.length_append,hF_len fun _=>rfl];omega) (by omega) (fun f hf=>by
    rcases List.mem_append.1 hf with hf | hf
    ·exact hroom.small f hf
    ·exact hF_small (fun _=>by omega) _ f hf) (by omega)
   have hag:=lead_again (F0++hF (fun _=>gof k) F0.length (gof k).n N1) (gof k)
   rw [hlen,List.append_assoc,List.append_assoc] at hag
   have hag2:leadF (F0++hF (fun _=>gof k) F0.length (gof k).n (N1+1)) (lst (gof k).n (gof k).last (F0.length+N1 * (gof k).n)) (lst (gof k).n (gof k).first (F0.length+N1 * (gof k).n))=F0++hF h F0.length (gof k).n (N1+1):=by
    rw [hF1];exact hag
   simp only [hag2] at hlead
   have hset:∀ b:Bool,b=z.null→List.set ((List.range (N1+1)).map fun i=>pc (gof k) (F0.length+i * (gof k).n)) (Int.toNat (N1:Int)) { first:=(pc (gof k) (F0.length+N1 * (gof k).n)).first,last:=(pc (gof k) (F0.length+N1 * (gof k).n)).last,null:=b }=(List.range (N1+1)).map fun j=>pc (h j) (F0.length+j * (gof k).n):=by
    intro b hb
    rw [Int.toNat_natCast,map_range_set (by omega)]
    refine List.map_congr_left fun j hj=>?_
    rw [hh];dsimp only
    by_cases e:j=N1
    ·subst e
     rw [if_pos rfl,if_pos (by omega)]
     have e1:z.first=(gof k).first:=by rw [hz];split<;>rfl
     have e2:z.last=(gof k).last:=by rw [hz];split<;>rfl
     rw [hb]
     simp only [pc,hzn,e1,e2]
    ·rw [if_neg e,if_neg (by omega)]
   have hll:((List.range (N1+1)).map fun i=>pc (gof k) (F0.length+i * (gof k).n)).length=N1+1:=by simp
   rw [hll]
   refine ⟨by omega,by omega,by omega,by omega,_,hlead,by omega,fun hn=>⟨fun _=>by omega,rfl,rfl,hset _ ?_⟩,fun hn=>⟨fun _=>by omega,rfl,rfl,hset _ ?_⟩⟩
   ·have hn:(gof k).null=true:=hn
    rw [hz];split<;>simp [gMaybe,gAgain,hn]
   ·have hn:(gof k).null=false:=hn
    rw [hz]
    by_cases e:x.Lo=0
    ·rw [if_pos e,e];rfl
    ·rw [if_neg e]
     show (x.Lo == 0)=(gof k).null
     rw [hn];simpa using e
 ·-- from some times to others
  have hhi:1≤x.Hi∧x.Lo≤x.Hi:=by omega
  have hfe:fromEnd (fun _=>gof k) (fun j:Nat=>decide (x.Hi≥0) && decide ((j:Int)≥x.Lo)) N N=gof x:=by
   have:=fromEnd_pos (h:=fun _=>gof k) (g:=gof k) (mb:=fun j:Nat=>decide (x.Hi≥0) && decide ((j:Int)≥x.Lo)) (N:=N) (L:=x.Lo.toNat) (by omega) (fun _=>rfl) (fun j hj=>by
    have:decide (x.Hi≥0)=true:=by simp;omega
    simp only [this,Bool.true_and,decide_eq_decide];omega) N (Nat.le_refl _)
   rw [this,hgof]
   unfold gRep
   rw [if_neg hneg]
   congr 1
   ·omega
   ·congr 1;omega
  refine ⟨fun s f l=>s=S++(gof x).sets∧f=F0++hF (fun _=>gof k) F0.length (gof k).n N∧l=(List.range N).map fun j=>pc (gof k) (F0.length+j * (gof k).n),?_,fun hc=>absurd (of_decide_eq_true hc) hneg,fun _=>⟨rfl,rfl,rfl⟩⟩
  rintro s f l ⟨rfl,rfl,hl⟩
  exact ⟨backward_121 l,rep_loop (x:=x) (h:=fun _=>gof k) (N:=N) (S:=S) (fun _=>rfl) hroom2 (by omega) hl (by rw [hfe]) (by rw [hfe])⟩
end Go.Ev.Pl
set_option linter.unusedSimpArgs false
set_option linter.unusedVariables false
namespace Go.Ev.Pl
open Go Go.Ev
theorem pc_first (g:GA) (off:Nat):(pc g off).first=lst g.n g.first off:=rfl
theorem pc_last (g:GA) (off:Nat):(pc g off).last=lst g.n g.last off:=rfl
theorem pc_null (g:GA) (off:Nat):(pc g off).null=g.null:=rfl
theorem pre_n {f:GA→GA→GA} (hf:∀ a b,(f a b).n=a.n+b.n) {z:GA} (hz:z.n=0) {l:List api_Rx} {i:Nat} (h:i < l.length) :
 ((l.take i).foldl (fun o y=>f o (gof y)) z).n+(gof l[i]).n≤(l.foldl (fun o y=>f o (gof y)) z).n:=by
 have e:=foldl_n hf (l.take (i+1)) z
 rw [foldl_take_succ h,hf] at e
 rw [e,foldl_n hf]
 have:(l.map fun y=>(gof y).n).sum=((l.take (i+1)).map fun y=>(gof y).n).sum+((l.drop (i+1)).map fun y=>(gof y).n).sum:=by
  rw [← List.sum_append,← List.map_append,List.take_append_drop]
 omega
theorem piece_ok:∀ x,Wf x→Rgt x→PieceOk x:=by
 refine rxInd fun x ih hw hr=>?_
 obtain ⟨hl,hkw⟩:=(wf_eq x).1 hw
 obtain ⟨ho,hk⟩:=rgt_own hr
 intro F0 S hroom
 have hrm:=hroom.room
 refine W_place_builder_piece x _ _ _ ⟨fun h=>?_,fun h2=>⟨fun h=>?_,fun h3=>⟨fun h=>?_,fun h4=>⟨fun h=>?_,fun h5=>?_⟩⟩⟩⟩
 ·have h:x.Kind=2:=by simpa using h
  have hg:gof x=gByte x.Set:=by rw [gof_eq,if_pos h]
  rw [hg] at hrm ⊢
  have hrm:F0.length+1 < 1000000:=hrm
  refine ⟨_,_,W_place_builder_place _ _ _ _ ⟨?_,?_,rfl,rfl⟩,?_,?_⟩
  ·have:=hroom.same;simp only;omega
  ·simp only;omega
  ·have:lst 1 (fun i=>i == 0) F0.length=[(S.length:Int)]:=by
    rw [hroom.same];simp [lst,List.range_succ]
   simp only [pc,gByte,this]
  ·rfl
 ·have h:x.Kind=3:=by simpa using h
  have hg:gof x=x.Kids.foldl (fun o y=>gCat o (gof y)) gEmpty:=by rw [gof_eq];simp [h]
  refine ⟨fun s f a b c t=>∃ i:Nat,t=i∧i≤x.Kids.length∧s=S++((x.Kids.take i).foldl (fun o y=>gCat o (gof y)) gEmpty).sets∧f=F0++flw ((x.Kids.take i).foldl (fun o y=>gCat o (gof y)) gEmpty) F0.length∧(⟨a,b,c⟩:place_piece)=pc ((x.Kids.take i).foldl (fun o y=>gCat o (gof y)) gEmpty) F0.length,
   fun _ _ _ _ _ t=>(x.Kids.length - t).toNat,⟨0,rfl,by omega,by simp [gEmpty],by simp [gEmpty,flw],rfl⟩,?_⟩
  rintro s f a b c t ⟨i,rfl,hi,rfl,rfl,hp⟩
  refine ⟨fun ht=>?_,fun ht=>?_⟩
  ·have ht:i < x.Kids.length:=by simpa using ht
   have hm:=List.getElem_mem ht
   obtain ⟨o,ho'⟩:∃ o,o=(x.Kids.take i).foldl (fun o y=>gCat o (gof y)) gEmpty:=⟨_,rfl⟩
   have hn:=pre_n (f:=gCat) (fun _ _=>rfl) (z:=gEmpty) rfl ht
   rw [← hg,← ho'] at hn
   have hsucc:=foldl_take_succ (f:=fun o y=>gCat o (gof y)) (b:=gEmpty) ht
   rw [← ho'] at hsucc hp ⊢
   have hoc:Canon o:=by
    rw [ho']
    have:∀ (l:List api_Rx) (z:GA),Canon z→Canon (l.foldl (fun o y=>gCat o (gof y)) z):=by
     intro l
     induction l with
     | nil=>intro z h;exact h
     | cons y r ih2=>intro z h;exact ih2 _ (canon_cat h (canon_gof y))
    exact this _ _ canon_empty
   have hlen:(F0++flw o F0.length).length=F0.length+o.n:=by rw [List.length_append,flw_len]
   have hpk:=ih _ hm (hkw _ hm) (hk _ hm) (F0++flw o F0.length) (S++o.sets) ⟨by rw [hlen,List.length_append,hroom.same,hoc.sets],fun f hf=>by
    rcases List.mem_append.1 hf with hf | hf
    ·exact hroom.small f hf
    ·exact flw_small _ _ (by omega) f hf,by rw [hlen];omega⟩
   rw [hlen] at hpk
   have hcat:=cat_ok F0 ((S++o.sets)++(gof x.Kids[i]).sets) o (gof x.Kids[i]) hroom.small (by omega) (by omega)
   have hw2:w64 ((i:Int)+1)=((i+1:Nat):Int):=w64_id (by omega) (by omega)
   rw [gd_nat ht,hp]
   refine ⟨by omega,by omega,_,_,hpk,_,_,hcat,?_⟩
   rw [hw2]
   exact ⟨⟨i+1,rfl,by omega,by rw [hsucc];simp [gCat],by rw [hsucc],by rw [hsucc]⟩,by dsimp only;omega⟩
  ·have:i=x.Kids.length:=by have:¬ i < x.Kids.length:=by simpa using ht
                            omega
   subst this
   rw [List.take_of_length_le (Nat.le_refl _),← hg] at hp ⊢
   exact ⟨hp.symm,rfl⟩
 ·have h:x.Kind=4:=by simpa using h
  have hg:gof x=x.Kids.foldl (fun o y=>gAlt o (gof y)) gNone:=by rw [gof_eq];simp [h]
  refine ⟨fun s f a b c t=>∃ i:Nat,t=i∧i≤x.Kids.length∧s=S++((x.Kids.take i).foldl (fun o y=>gAlt o (gof y)) gNone).sets∧f=F0++flw ((x.Kids.take i).foldl (fun o y=>gAlt o (gof y)) gNone) F0.length∧(⟨a,b,c⟩:place_piece)=pc ((x.Kids.take i).foldl (fun o y=>gAlt o (gof y)) gNone) F0.length,
   fun _ _ _ _ _ t=>(x.Kids.length - t).toNat,⟨0,rfl,by omega,by simp [gNone],by simp [gNone,flw],rfl⟩,?_⟩
  rintro s f a b c t ⟨i,rfl,hi,rfl,rfl,hp⟩
  refine ⟨fun ht=>?_,fun ht=>?_⟩
  ·have ht:i < x.Kids.length:=by simpa using ht
   have hm:=List.getElem_mem ht
   obtain ⟨o,ho'⟩:∃ o,o=(x.Kids.take i).foldl (fun o y=>gAlt o (gof y)) gNone:=⟨_,rfl⟩
   have hn:=pre_n (f:=gAlt) (fun _ _=>rfl) (z:=gNone) rfl ht
   rw [← hg,← ho'] at hn
   have hsucc:=foldl_take_succ (f:=fun o y=>gAlt o (gof y)) (b:=gNone) ht
   rw [← ho'] at hsucc hp ⊢
   have hoc:Canon o:=by
    rw [ho']
    have:∀ (l:List api_Rx) (z:GA),Canon z→Canon (l.foldl (fun o y=>gAlt o (gof y)) z):=by
     intro l
     induction l with
     | nil=>intro z h;exact h
     | cons y r ih2=>intro z h;exact ih2 _ (canon_alt h (canon_gof y))
    exact this _ _ canon_none
   have hlen:(F0++flw o F0.length).length=F0.length+o.n:=by rw [List.length_append,flw_len]
   have hpk:=ih _ hm (hkw _ hm) (hk _ hm) (F0++flw o F0.length) (S++o.sets) ⟨by rw [hlen,List.length_append,hroom.same,hoc.sets],fun f hf=>by
    rcases List.mem_append.1 hf with hf | hf
    ·exact hroom.small f hf
    ·exact flw_small _ _ (by omega) f hf,by rw [hlen];omega⟩
   rw [hlen] at hpk
   have hw2:w64 ((i:Int)+1)=((i+1:Nat):Int):=w64_id (by omega) (by omega)
   rw [gd_nat ht]
   have hpa:a=lst o.n o.first F0.length:=congrArg place_piece.first hp
   have hpb:b=lst o.n o.last F0.length:=congrArg place_piece.last hp
   have hpc:c=o.null:=congrArg place_piece.null hp
   have l1:=lst_len o.n o.first F0.length
   have l2:=lst_len o.n o.last F0.length
   have l3:=lst_len (gof x.Kids[i]).n (gof x.Kids[i]).first (F0.length+o.n)
   have l4:=lst_len (gof x.Kids[i]).n (gof x.Kids[i]).last (F0.length+o.n)
   refine ⟨by omega,by omega,_,_,hpk,_,join_ok _ _ (by rw [hpa];omega) (by rw [pc_first];omega),_,join_ok _ _ (by rw [hpb];omega) (by rw [pc_last];omega),?_⟩
   rw [hw2]
   refine ⟨⟨i+1,rfl,by omega,by rw [hsucc];simp [gAlt],?_,?_⟩,by dsimp only;omega⟩
   ·rw [hsucc,← flw_alt,← List.append_assoc]
   ·rw [hsucc,hpa,hpb,hpc,pc_first,pc_last,pc_null,alt_first,alt_last];rfl
  ·have:i=x.Kids.length:=by have:¬ i < x.Kids.length:=by simpa using ht
                            omega
   subst this
   rw [List.take_of_length_le (Nat.le_refl _),← hg] at hp ⊢
   exact ⟨hp.symm,rfl⟩
 ·have h:x.Kind=5:=by simpa using h
  exact ⟨_,_,rep_ok hr h hw (fun k hkm=>ih k hkm (hkw k hkm) (hk k hkm)) F0 S hroom,rfl,rfl⟩
 ·have h1:x.Kind=1:=by
   simp only [beq_eq_false_iff_ne,ne_eq] at h2 h3 h4 h5
   have:=own_kind ho;omega
  have hg:gof x=gEmpty:=by rw [gof_eq];simp [h1]
  rw [hg]
  exact ⟨rfl,by simp [gEmpty,flw]⟩
def plc (g:GA):api_Places:=⟨g.sets,lst g.n g.first 0,lst g.n g.last 0,flw g 0,g.null⟩
def noPl:api_Places:=⟨[],[],[],[],false⟩
theorem size_of_right {x:api_Rx} (h:rightB x=true):Rgt x∧sizeN x≤200:=by
 simp only [rightB,Bool.and_eq_true,decide_eq_true_eq] at h
 refine ⟨⟨20,h.1⟩,?_⟩
 have:=h.2.1
 simp only [sizeZ] at this;omega
theorem placeOf_ok (x:api_Rx) (hw:Wf x):C_place_Of x (if rightB x=true then plc (gof x) else noPl) (if rightB x=true then 0 else 1):=by
 refine W_place_Of x _ _ ⟨_,rxRightAll_ok x hw,fun h=>?_,fun h=>?_⟩
 ·have h:rightB x=false:=by simpa using h
  rw [h];exact ⟨rfl,rfl⟩
 ·have h:rightB x=true:=by simpa using h
  obtain ⟨hr,hs⟩:=size_of_right h
  have hn:=gof_n x hr
  have:=piece_ok x hw hr [] [] ⟨rfl,fun f hf=>by simp at hf,by simp;omega⟩
  refine ⟨_,_,this,?_,?_⟩
  ·rw [if_pos h];simp [plc,pc]
  ·rw [if_pos h]
end Go.Ev.Pl
set_option linter.unusedSimpArgs false
set_option linter.unusedVariables false
namespace Go.Ev.Pl
open Go Go.Ev
def setOf (lo hi:Int):arr4_uint64:=mkSet fun i=>decide (i≥lo) && decide (i≤hi)
theorem noset_97:noSet (setOf 97 97)=false:=by kernel_rfl
theorem noset_98:noSet (setOf 98 98)=false:=by kernel_rfl
theorem noset_99:noSet (setOf 99 99)=false:=by kernel_rfl
theorem noset_10:noSet (setOf 10 10)=false:=by kernel_rfl
theorem noset_45:noSet (setOf 45 45)=false:=by kernel_rfl
theorem noset_90:noSet (setOf 90 90)=false:=by kernel_rfl
theorem noset_0:noSet (setOf 0 0)=false:=by kernel_rfl
theorem noset_255:noSet (setOf 255 255)=false:=by kernel_rfl
theorem noset_48:noSet (setOf 48 48)=false:=by kernel_rfl
theorem noset_ac:noSet (setOf 97 99)=false:=by kernel_rfl
theorem noset_not:noSet (mkSet fun i=>!setHas (setOf 97 97) i)=false:=by kernel_rfl
def zset:arr4_uint64:=⟨0,0,0,0⟩
def chr (b:Int):api_Rx:=⟨2,setOf b b,0,0,[]⟩
theorem wf_leaf (k:Int) (s:arr4_uint64) (lo hi:Int):Wf ⟨k,s,lo,hi,[]⟩:=(wf_eq _).2 ⟨by simp,fun y hy=>by simp at hy⟩
end Go.Ev.Pl
set_option linter.unusedSimpArgs false
set_option linter.unusedVariables false
namespace Go.Ev.Pl
open Go Go.Ev
def cnt:api_Rx→Nat:=cata fun _ l=>1+l.sum
theorem cnt_eq (x:api_Rx):cnt x=1+(x.Kids.map cnt).sum:=cata_eq _ x
theorem len_le_cnt:∀ l:List api_Rx,l.length≤(l.map cnt).sum
 | []=>Nat.le_refl _
 | x :: r=>by have:=len_le_cnt r;have:=cnt_eq x;simp;omega
theorem sum_mem_le {l:List api_Rx} {y:api_Rx} (h:y∈l):cnt y≤(l.map cnt).sum:=by
 induction l with
 | nil=>simp at h
 | cons x r ih=>
   rcases List.mem_cons.1 h with rfl | h
   ·simp
   ·have:=ih h;simp;omega
theorem wf_of_cnt:∀ x,cnt x < 1000000→Wf x:=by
 refine rxInd fun x ih h=>?_
 rw [cnt_eq] at h
 have:=len_le_cnt x.Kids
 exact (wf_eq x).2 ⟨by omega,fun y hy=>ih y hy (by have:=sum_mem_le hy;omega)⟩
theorem nodesZ_cnt:∀ x (most:Int),(cnt x:Int)≤most→nodesZ x most=most - cnt x:=by
 refine rxInd fun x ih most hm=>?_
 rw [nodesZ_eq]
 rw [cnt_eq] at hm ⊢
 have key:∀ (l:List api_Rx) (m:Int),(∀ y∈l,y∈x.Kids)→(((l.map cnt).sum:Nat):Int)≤m→l.foldl (fun m y=>if m≥0 then nodesZ y m else m) m=m - (((l.map cnt).sum:Nat):Int):=by
  intro l
  induction l with
  | nil=>intro m _ _;simp
  | cons y r ih2=>
    intro m hl h
    simp only [List.map_cons,List.sum_cons] at h ⊢
    rw [List.foldl_cons,if_pos (by omega),ih y (hl y (List.mem_cons_self ..)) m (by omega),ih2 _ (fun z hz=>hl z (List.mem_cons_of_mem _ hz)) (by omega)]
    omega
 rw [key x.Kids (most - 1) (fun _ h=>h) (by omega)]
 omega
theorem rgt_mono:∀ x (d:Int),rgt x d=true→∀ d',d≤d'→rgt x d'=true:=by
 refine rxInd fun x ih d h d' hd=>?_
 rw [rgt_eq] at h ⊢
 simp only [Bool.and_eq_true,decide_eq_true_eq,List.all_eq_true,Bool.not_eq_true'] at h ⊢
 exact ⟨⟨by omega,h.1.2⟩,fun k hk=>⟨(h.2 k hk).1,ih k hk _ (h.2 k hk).2 _ (by omega)⟩⟩
theorem rgt_leaf {s:arr4_uint64} (h:noSet s=false):rgt ⟨2,s,0,0,[]⟩ 1=true:=by
 rw [rgt_eq];simp [ownB,h]
theorem rgt_empty:rgt ⟨1,zset,0,0,[]⟩ 1=true:=by kernel_rfl
def Bytes (l:List Int):Prop:=∀ b∈l,0≤b∧b≤255
structure MOk (m:hecklelaw03_Maker):Prop where
 bytes:Bytes m.L
 len:m.L.length≤1000
 at0:0≤m.At
theorem pick_ok (n:Int) (m:hecklelaw03_Maker) (hn:1≤n) (hm:MOk m) (ha:m.At < 1000000):∃ r,0≤r∧r < n∧C_hecklelaw03_Maker_Pick n m r { L:=m.L,At:=m.At+1 }:=by
 have h0:=hm.at0
 have hl:=hm.len
 have hw1:w64 (m.At+1)=m.At+1:=w64_id (by omega) (by omega)
 have hw2:w64 (m.At+1 - 1)=m.At:=(w64_id (by omega) (by omega)).trans (by omega)
 by_cases hg:m.At+1 > m.L.length
 ·refine ⟨0,by omega,by omega,W_hecklelaw03_Maker_Pick n m _ _ ?_⟩
  rw [hw1]
  exact ⟨fun _=>⟨rfl,rfl⟩,fun h=>absurd hg (by simpa using h)⟩
 ·have hi:m.At.toNat < m.L.length:=by omega
  have he:gd m.L m.At=m.L[m.At.toNat]:=by simp [gd,List.getD,hi]
  obtain ⟨b0,b1⟩:=hm.bytes _ (List.getElem_mem hi)
  have hw3:w64 (gd m.L m.At)=gd m.L m.At:=by rw [he];exact w64_id (by omega) (by omega)
  refine ⟨Int.tmod (gd m.L m.At) n,?_,?_,W_hecklelaw03_Maker_Pick n m _ _ ?_⟩
  ·rw [he,Int.tmod_eq_emod_of_nonneg b0];exact Int.emod_nonneg _ (by omega)
  ·rw [he,Int.tmod_eq_emod_of_nonneg b0];exact Int.emod_lt_of_pos _ (by omega)
  ·rw [hw1,hw2,hw3]
   exact ⟨fun h=>absurd (by simpa using h) hg,fun _=>⟨by omega,by omega,by omega,rfl,rfl⟩⟩
theorem chr_ok (b:Int):C_hecklelaw03_char b (chr b):=char3_ok b
theorem rgt_chr {b:Int} (h:noSet (setOf b b)=false):rgt (chr b) 1=true:=rgt_leaf h
structure Good (d:Nat) (r:api_Rx):Prop where
 right:rgt r ((d:Int)+1)=true
 small:cnt r≤2 ^ (d+1) - 1
theorem cnt_leaf (k:Int) (s:arr4_uint64) (lo hi:Int):cnt ⟨k,s,lo,hi,[]⟩=1:=by rw [cnt_eq];rfl
theorem leaf_ok (m:hecklelaw03_Maker) (hm:MOk m) (ha:m.At < 900000):∃ r o,C_hecklelaw03_Maker_leaf m r o∧Good 0 r∧o.L=m.L∧m.At≤o.At∧o.At≤m.At+2:=by
 obtain ⟨r0,p0,p1,hp⟩:=pick_ok 8 m (by omega) hm (by omega)
 have hm1:MOk { L:=m.L,At:=m.At+1 }:=⟨hm.bytes,hm.len,by have:=hm.at0;simp only;omega⟩
 have good:∀ {r:api_Rx},rgt r 1=true→cnt r=1→Good 0 r:=fun h1 h2=>⟨by simpa using h1,by omega⟩
 by_cases h0:r0=0
 ·subst h0
  exact ⟨_,_,W_hecklelaw03_Maker_leaf m _ _ ⟨_,_,hp,fun _=>⟨rfl,rfl⟩,fun h=>by simp at h⟩,good rgt_empty (cnt_leaf _ _ _ _),rfl,by simp only;omega,by simp only;omega⟩
 by_cases h1:r0=1
 ·subst h1
  exact ⟨_,_,W_hecklelaw03_Maker_leaf m _ _ ⟨_,_,hp,fun h=>by simp at h,fun _=>⟨fun _=>⟨_,setOf_ok 97 99,rfl,rfl⟩,fun h=>by simp at h⟩⟩,good (rgt_leaf noset_ac) (cnt_leaf _ _ _ _),rfl,by simp only;omega,by simp only;omega⟩
 by_cases h2:r0=2
 ·subst h2
  exact ⟨_,_,W_hecklelaw03_Maker_leaf m _ _ ⟨_,_,hp,fun h=>by simp at h,fun _=>⟨fun h=>by simp at h,fun _=>⟨fun _=>⟨_,setOf_ok 97 97,_,setNot_ok _,rfl,rfl⟩,fun h=>by simp at h⟩⟩⟩,good (rgt_leaf noset_not) (cnt_leaf _ _ _ _),rfl,by simp only;omega,by simp only;omega⟩
 by_cases h3:r0=3
 ·subst h3
  obtain ⟨r1,q0,q1,hq⟩:=pick_ok 6 _ (by omega) hm1 (by simp only;omega)
  have hr:r1=0∨r1=1∨r1=2∨r1=3∨r1=4∨r1=5:=by omega
  have hs:noSet (setOf (gd [10,45,90,0,255,48] r1) (gd [10,45,90,0,255,48] r1))=false:=by
   rcases hr with rfl | rfl | rfl | rfl | rfl | rfl
   ·exact noset_10
   ·exact noset_45
   ·exact noset_90
   ·exact noset_0
   ·exact noset_255
   ·exact noset_48
  exact ⟨_,_,W_hecklelaw03_Maker_leaf m _ _ ⟨_,_,hp,fun h=>by simp at h,fun _=>⟨fun h=>by simp at h,fun _=>⟨fun h=>by simp at h,fun _=>⟨fun _=>⟨_,_,hq,q0,by omega,by simp;omega,_,chr_ok _,rfl,rfl⟩,fun h=>by simp at h⟩⟩⟩⟩,good (rgt_chr hs) (cnt_leaf _ _ _ _),rfl,by simp only;omega,by simp only;omega⟩
 obtain ⟨r1,q0,q1,hq⟩:=pick_ok 3 _ (by omega) hm1 (by simp only;omega)
 have hr:r1=0∨r1=1∨r1=2:=by omega
 have hs:noSet (setOf (w64 (97+r1)) (w64 (97+r1)))=false:=by
  rcases hr with rfl | rfl | rfl
  ·exact noset_97
  ·exact noset_98
  ·exact noset_99
 exact ⟨_,_,W_hecklelaw03_Maker_leaf m _ _ ⟨_,_,hp,fun h=>absurd (by simpa using h) h0,fun _=>⟨fun h=>absurd (by simpa using h) h1,fun _=>⟨fun h=>absurd (by simpa using h) h2,fun _=>⟨fun h=>absurd (by simpa using h) h3,fun _=>⟨_,_,hq,_,chr_ok _,rfl,rfl⟩⟩⟩⟩⟩,good (rgt_chr hs) (cnt_leaf _ _ _ _),rfl,by simp only;omega,by simp only;omega⟩
def jk (kind:Int) (r:api_Rx):List api_Rx:=if r.Kind=kind then r.Kids else [r]
theorem joined_ok (kind:Int) (r1 r2:api_Rx) (h1:r1.Kids.length < 1000000) (h2:r2.Kids.length < 1000000):C_hecklelaw03_joined kind [r1,r2] ⟨kind,zset,0,0,jk kind r1++jk kind r2⟩:=by
 have hjl:∀ r:api_Rx,r.Kids.length < 1000000→(jk kind r).length < 1000000:=fun r h=>by unfold jk;split;exact h;simp
 have hj1:=hjl r1 h1
 have hj2:=hjl r2 h2
 refine W_hecklelaw03_joined kind _ _ ⟨fun k t=>(t=0∧k=[])∨(t=1∧k=jk kind r1)∨(t=2∧k=jk kind r1++jk kind r2),fun _ t=>(2 - t).toNat,.inl ⟨rfl,rfl⟩,?_⟩
 rintro k t (⟨rfl,rfl⟩ | ⟨rfl,rfl⟩ | ⟨rfl,rfl⟩)
 ·refine ⟨fun _=>⟨fun k'=>k'=jk kind r1,?_,by omega,by simp,fun h=>⟨by omega,by simp,?_,?_⟩,fun h=>⟨by omega,by simp,by simp,?_⟩⟩,fun h=>by simp at h⟩
  ·rintro k' rfl;exact ⟨.inr (.inl ⟨rfl,rfl⟩),by show Int.toNat (2 - 1) < Int.toNat (2 - 0);decide⟩
  ·have:gd [r1,r2] 0=r1:=rfl
   rw [this];simp;omega
  ·have:gd [r1,r2] 0=r1:=rfl
   rw [this] at h ⊢
   have h:r1.Kind=kind:=by simpa using h
   simp [jk,h]
  ·have:gd [r1,r2] 0=r1:=rfl
   rw [this] at h ⊢
   have h:r1.Kind≠kind:=by simpa using h
   simp [jk,h]
 ·refine ⟨fun _=>⟨fun k'=>k'=jk kind r1++jk kind r2,?_,by omega,by simp,fun h=>⟨by omega,by simp,?_,?_⟩,fun h=>⟨by omega,by simp,?_,?_⟩⟩,fun h=>by simp at h⟩
  ·rintro k' rfl;exact ⟨.inr (.inr ⟨rfl,rfl⟩),by show Int.toNat (2 - 2) < Int.toNat (2 - 1);decide⟩
  ·have:gd [r1,r2] 1=r2:=rfl
   rw [this];omega
  ·have:gd [r1,r2] 1=r2:=rfl
   rw [this] at h ⊢
   have h:r2.Kind=kind:=by simpa using h
   simp [jk,h]
  ·omega
  ·have:gd [r1,r2] 1=r2:=rfl
   rw [this] at h ⊢
   have h:r2.Kind≠kind:=by simpa using h
   simp [jk,h]
 ·exact ⟨fun h=>by simp at h,fun _=>rfl⟩
theorem joined_good {kind:Int} (hk:kind=3∨kind=4) {d:Nat} {r1 r2:api_Rx} (h1:Good d r1) (h2:Good d r2):Good (d+1) ⟨kind,zset,0,0,jk kind r1++jk kind r2⟩:=by
 have key:∀ r,Good d r→1≤(jk kind r).length∧((jk kind r).map cnt).sum≤cnt r∧∀ k∈jk kind r,k.Kind≠kind∧rgt k ((d:Int)+1)=true:=by
  intro r h
  have hr:=h.right
  by_cases e:r.Kind=kind
  ·rw [rgt_eq] at hr
   simp only [Bool.and_eq_true,decide_eq_true_eq,List.all_eq_true,Bool.not_eq_true'] at hr
   have:=own_kids hr.1.2 (by omega)
   simp only [jk,if_pos e]
   refine ⟨by omega,by rw [cnt_eq];omega,fun k hkm=>?_⟩
   obtain ⟨q1,q2⟩:=hr.2 k hkm
   refine ⟨fun e2=>?_,rgt_mono _ _ q2 _ (by omega)⟩
   simp only [oddK,e2,e] at q1
   rcases hk with rfl | rfl<;>simp at q1
  ·simp only [jk,if_neg e]
   exact ⟨by simp,by simp,fun k hkm=>by simp at hkm;subst hkm;exact ⟨e,hr⟩⟩
 obtain ⟨a1,a2,a3⟩:=key r1 h1
 obtain ⟨b1,b2,b3⟩:=key r2 h2
 constructor
 ·rw [rgt_eq]
  simp only [Bool.and_eq_true,decide_eq_true_eq,List.all_eq_true,Bool.not_eq_true']
  refine ⟨⟨by omega,?_⟩,fun k hkm=>?_⟩
  ·have hz:noSet zset=true:=rfl
   simp only [ownB]
   rw [if_neg (by omega),if_neg (by omega),if_neg (by omega),if_pos hk,hz]
   simp;omega
  ·have:k.Kind≠kind∧rgt k ((d:Int)+1)=true:=by
    rcases List.mem_append.1 hkm with h | h
    ·exact a3 k h
    ·exact b3 k h
   refine ⟨by simp [oddK,this.1],?_⟩
   have e:(((d+1:Nat):Int)+1 - 1)=(d:Int)+1:=by omega
   rw [e];exact this.2
 ·rw [cnt_eq]
  simp only [List.map_append,List.sum_append]
  have:=h1.small
  have:=h2.small
  have e:2 ^ (d+1+1)=2 ^ (d+1)+2 ^ (d+1):=by rw [Nat.pow_succ];omega
  have:1≤2 ^ (d+1):=Nat.one_le_two_pow
  omega
theorem good_mono {d d':Nat} {r:api_Rx} (h:Good d r) (hd:d≤d'):Good d' r:=by
 refine ⟨rgt_mono _ _ h.right _ (by omega),?_⟩
 have:=h.small
 have:2 ^ (d+1)≤2 ^ (d'+1):=Nat.pow_le_pow_right (by omega) (by omega)
 omega
theorem good_len {d:Nat} {r:api_Rx} (h:Good d r) (hd:d≤10):r.Kids.length < 1000000∧Wf r:=by
 have hs:=h.small
 have:2 ^ (d+1)≤2 ^ 11:=Nat.pow_le_pow_right (by omega) (by omega)
 have e:=cnt_eq r
 have:=len_le_cnt r.Kids
 exact ⟨by omega,wf_of_cnt r (by omega)⟩
theorem mk_ok:∀ (d:Nat),d≤5→∀ (deep:Int),deep≤d→-10≤deep→∀ m,MOk m→m.At+10 * 3 ^ d < 100000→∃ r o,C_hecklelaw03_Maker_Rx deep m r o∧Good d r∧o.L=m.L∧m.At≤o.At∧o.At≤m.At+10 * 3 ^ d:=by
 intro d
 induction d using Nat.strongRecOn with
 | _ d ih=>
 intro hd5 deep hdd hd0 m hm hat
 have h30:(1:Int)≤3 ^ d:=by exact_mod_cast Nat.one_le_pow d 3 (by omega)
 have hm0:=hm.at0
 obtain ⟨k,p0,p1,hp⟩:=pick_ok 8 m (by omega) hm (by omega)
 have hm1:MOk { L:=m.L,At:=m.At+1 }:=⟨hm.bytes,hm.len,by simp only;omega⟩
 by_cases hleaf:(decide (deep < 1) || (decide (k < 2) || decide (m.At+1≥(m.L.length:Int))))=true
 ·obtain ⟨r,o,c1,c2,c3,c4,c5⟩:=leaf_ok _ hm1 (by simp only;omega)
  exact ⟨r,o,W_hecklelaw03_Maker_Rx deep m _ _ ⟨_,_,hp,fun _=>⟨_,_,c1,rfl,rfl⟩,fun h=>(by rw [hleaf] at h;cases h)⟩,good_mono c2 (by omega),c3,by simp only at c4;omega,by simp only at c5;omega⟩
 have hleaf:(decide (deep < 1) || (decide (k < 2) || decide (m.At+1≥(m.L.length:Int))))=false:=by simpa using hleaf
 have hdp:1≤deep:=by simp only [Bool.or_eq_false_iff,decide_eq_false_iff_not] at hleaf;omega
 obtain ⟨e,rfl⟩:∃ e,d=e+1:=⟨d - 1,by omega⟩
 have h3:(3:Int) ^ (e+1)=3 * 3 ^ e:=by rw [Int.pow_succ];omega
 have h3e:(1:Int)≤3 ^ e:=by exact_mod_cast Nat.one_le_pow e 3 (by omega)
 have hw1:w64 (deep - 1)=deep - 1:=w64_id (by omega) (by omega)
 have hw2:w64 (deep - 2)=deep - 2:=w64_id (by omega) (by omega)
 by_cases hk5:k < 5
 ·obtain ⟨r1,o1,c1,g1,l1,u1,v1⟩:=ih e (by omega) (by omega) (deep - 1) (by omega) (by omega) _ hm1 (by simp only;omega)
  simp only at l1 u1 v1
  obtain ⟨r2,o2,c2,g2,l2,u2,v2⟩:=ih e (by omega) (by omega) (deep - 1) (by omega) (by omega) o1 ⟨by rw [l1];exact hm.bytes,by rw [l1];exact hm.len,by omega⟩ (by omega)
  refine ⟨_,o2,W_hecklelaw03_Maker_Rx deep m _ _ ⟨_,_,hp,fun h=>(by rw [hleaf] at h;cases h),fun _=>⟨fun _=>⟨_,_,by rw [hw1];exact c1,_,_,by rw [hw1];exact c2,_,joined_ok 3 r1 r2 (good_len g1 (by omega)).1 (good_len g2 (by omega)).1,rfl,rfl⟩,fun h=>absurd hk5 (by simpa using h)⟩⟩,joined_good (.inl rfl) g1 g2,by rw [l2,l1],by omega,by omega⟩
 by_cases hk5':k=5
 ·obtain ⟨r1,o1,c1,g1,l1,u1,v1⟩:=ih e (by omega) (by omega) (deep - 1) (by omega) (by omega) _ hm1 (by simp only;omega)
  simp only at l1 u1 v1
  obtain ⟨r2,o2,c2,g2,l2,u2,v2⟩:=ih e (by omega) (by omega) (deep - 1) (by omega) (by omega) o1 ⟨by rw [l1];exact hm.bytes,by rw [l1];exact hm.len,by omega⟩ (by omega)
  refine ⟨_,o2,W_hecklelaw03_Maker_Rx deep m _ _ ⟨_,_,hp,fun h=>(by rw [hleaf] at h;cases h),fun _=>⟨fun h=>absurd (by simpa using h) hk5,fun _=>⟨fun _=>⟨_,_,by rw [hw1];exact c1,_,_,by rw [hw1];exact c2,_,joined_ok 4 r1 r2 (good_len g1 (by omega)).1 (good_len g2 (by omega)).1,rfl,rfl⟩,fun h=>absurd hk5' (by simpa using h)⟩⟩⟩,joined_good (.inr rfl) g1 g2,by rw [l2,l1],by omega,by omega⟩
 obtain ⟨lo,q0,q1,hq⟩:=pick_ok 3 _ (by omega) hm1 (by simp only;omega)
 simp only at hq
 have hm2:MOk { L:=m.L,At:=m.At+1+1 }:=⟨hm.bytes,hm.len,by simp only;omega⟩
 obtain ⟨st,s0,s1,hs⟩:=pick_ok 2 _ (by omega) hm2 (by simp only;omega)
 simp only at hs
 have hm3:MOk { L:=m.L,At:=m.At+1+1+1 }:=⟨hm.bytes,hm.len,by simp only;omega⟩
 obtain ⟨more,t0,t1,ht⟩:=pick_ok 2 _ (by omega) hm3 (by simp only;omega)
 simp only at ht
 have kid:∀ a:Int,m.At+1≤a→a≤m.At+4→∃ r o,C_hecklelaw03_Maker_Rx (deep - 2) { L:=m.L,At:=a } r o∧Good e r∧o.L=m.L∧m.At≤o.At∧o.At≤m.At+10 * 3 ^ (e+1):=by
  intro a ha1 ha2
  obtain ⟨r,o,c,g,l,u,v⟩:=ih e (by omega) (by omega) (deep - 2) (by omega) (by omega) { L:=m.L,At:=a } ⟨hm.bytes,hm.len,by simp only;omega⟩ (by simp only;omega)
  simp only at l u v
  exact ⟨r,o,c,g,l,by omega,by omega⟩
 have good:∀ {r:api_Rx} {hi:Int},Good e r→timesB lo hi=true→Good (e+1) ⟨5,zset,lo,hi,[r]⟩:=by
  intro r hi g htm
  constructor
  ·rw [rgt_eq]
   have hz:noSet zset=true:=rfl
   have e1:(((e+1:Nat):Int)+1 - 1)=(e:Int)+1:=by omega
   have e2:decide ((((e+1:Nat):Int)+1) > 0)=true:=by simp;omega
   rw [e1,e2]
   simp [ownB,hz,htm,oddK,g.right]
  ·rw [cnt_eq]
   have:=g.small
   have epow:2 ^ (e+1+1)=2 ^ (e+1)+2 ^ (e+1):=by rw [Nat.pow_succ];omega
   have:1≤2 ^ (e+1):=Nat.one_le_two_pow
   simp;omega
 have hwhi:w64 ((if lo > 1 then lo else 1)+more)=(if lo > 1 then lo else 1)+more:=by
  split<;>exact w64_id (by omega) (by omega)
 have fin:∀ (a hi:Int),m.At+1≤a→a≤m.At+4→timesB lo hi=true→((st=1∧a=m.At+4∧hi=(if lo > 1 then lo else 1)+more)∨(st≠1∧a=m.At+3∧hi = -1))→
  ∃ r o,C_hecklelaw03_Maker_Rx deep m r o∧Good (e+1) r∧o.L=m.L∧m.At≤o.At∧o.At≤m.At+10 * 3 ^ (e+1):=by
  intro a hi ha1 ha2 htm hcase
  obtain ⟨r,o,c,g,l,u,v⟩:=kid a ha1 ha2
  refine ⟨_,o,W_hecklelaw03_Maker_Rx deep m _ _ ⟨_,_,hp,fun h=>(by rw [hleaf] at h;cases h),fun _=>⟨fun h=>absurd (by simpa using h) hk5,fun _=>⟨fun h=>absurd (by simpa using h) hk5',fun _=>⟨_,_,hq,fun L A H=>L=m.L∧A=a∧H=hi,?_,_,_,hs,fun h1=>?_,fun h1=>?_⟩⟩⟩⟩,good g htm,l,u,v⟩
  ·rintro L A H ⟨rfl,rfl,rfl⟩
   exact ⟨_,_,by rw [hw2];exact c,rfl,rfl⟩
  ·have h1:st=1:=by simpa using h1
   rcases hcase with ⟨_,rfl,rfl⟩ | ⟨h2,_⟩
   ·exact ⟨_,_,ht,rfl,by simp only;omega,hwhi⟩
   ·exact absurd h1 h2
  ·have h1:st≠1:=by simpa using h1
   rcases hcase with ⟨h2,_⟩ | ⟨_,rfl,rfl⟩
   ·exact absurd h2 h1
   ·exact ⟨rfl,by simp only;omega,rfl⟩
 by_cases h1:st=1
 ·refine fin (m.At+4) ((if lo > 1 then lo else 1)+more) (by omega) (by omega) ?_ (.inl ⟨h1,rfl,rfl⟩)
  simp only [timesB,Bool.and_eq_true,decide_eq_true_eq,Bool.or_eq_true]
  refine ⟨by omega,by omega,.inr ⟨?_,?_⟩⟩<;>split<;>omega
 ·refine fin (m.At+3) (-1) (by omega) (by omega) ?_ (.inr ⟨h1,rfl,rfl⟩)
  simp only [timesB,Bool.and_eq_true,decide_eq_true_eq,Bool.or_eq_true]
  exact ⟨by omega,by omega,.inl (by simp)⟩
structure Fit (x:api_Rx):Prop where
 wf:Wf x
 right:rightB x=true
 size:sizeN x≤40
theorem fit_chr:Fit (chr 97):=⟨wf_leaf _ _ _ _,by kernel_rfl,by show sizeN (chr 97)≤40;rw [show sizeN (chr 97)=1 from by kernel_rfl];omega⟩
theorem made_ok (l:List Int) (hb:Bytes l):∃ x,C_hecklelaw03_Made l x∧Fit x:=by
 have main:∀ l1:List Int,Bytes l1→l1.length≤30→∃ r o,C_hecklelaw03_Maker_Rx 4 { L:=l1,At:=0 } r o∧Good 4 r:=by
  intro l1 h1 h2
  obtain ⟨r,o,c,g,_⟩:=mk_ok 4 (by omega) 4 (by omega) (by omega) { L:=l1,At:=0 } ⟨h1,by simp only;omega,by simp⟩ (by simp)
  exact ⟨r,o,c,g⟩
 obtain ⟨l1,hl1⟩:∃ l1,l1=if l.length > 30 then l.take 30 else l:=⟨_,rfl⟩
 have hb1:Bytes l1:=by
  rw [hl1];split
  ·exact fun b hb'=>hb b (List.mem_of_mem_take hb')
  ·exact hb
 have hle:l1.length≤30:=by
  rw [hl1];split
  ·simp;omega
  ·omega
 obtain ⟨r,o,c,g⟩:=main l1 hb1 hle
 have hw:=(good_len g (by omega)).2
 have made:∀ x,(sizeZ r > 40→x=chr 97)→(¬ sizeZ r > 40→x=r)→C_hecklelaw03_Made l x:=by
  intro x h1 h2
  refine W_hecklelaw03_Made l x ⟨fun l2=>l2=l1,?_,fun h=>⟨⟨by omega,?_,?_⟩,?_⟩,fun h=>?_⟩
  ·rintro l2 rfl
   refine ⟨r,o,c,_,refSize_ok r hw,fun h=>⟨_,chr_ok 97,h1 (by simpa using h)⟩,fun h=>h2 (by simpa using h)⟩
  ·have:l.length > 30:=by have:(l.length:Int) > 30:=by simpa using h
                          omega
   show 30≤_;omega
  ·exact fits_u8 l
  ·have:l.length > 30:=by have:(l.length:Int) > 30:=by simpa using h
                          omega
   rw [hl1,if_pos this];rfl
  ·have:¬ l.length > 30:=by have:¬ (l.length:Int) > 30:=by simpa using h
                            omega
   rw [hl1,if_neg this]
 by_cases hs:sizeZ r > 40
 ·exact ⟨chr 97,made _ (fun _=>rfl) (fun h=>absurd hs h),fit_chr⟩
 ·refine ⟨r,made _ (fun h=>absurd h hs) (fun _=>rfl),hw,?_,?_⟩
  ·have h1:=rgt_mono r _ g.right 20 (by omega)
   have h2:sizeZ r≤200:=by omega
   have hsm:=g.small
   have h3:=nodesZ_cnt r 1000 (by have:cnt r≤31:=hsm;omega)
   have h4:nodesZ r 1000≥0:=by have:cnt r≤31:=hsm;omega
   simp [rightB,h1,h2,h4]
  ·simp only [sizeZ] at hs;omega
end Go.Ev.Pl
set_option linter.unusedSimpArgs false
set_option linter.unusedVariables false
namespace Go.Ev.Pl
open Go Go.Ev
section
variable (N : Nat) (B : Nat → Int)
def hdS (sets:List arr4_uint64) (p i:Nat):Prop:=i < N∧∃ s,sets[p]?=some s∧setHas s (B i)=true
inductive Pth (sets:List arr4_uint64) (last:Nat→Bool) (fo:Nat→Nat→Bool):Nat→Nat→Nat→Prop where
 | last {p i:Nat} (h:hdS N B sets p i) (hl:last p=true):Pth sets last fo p i (i+1)
 | step {p q i j:Nat} (h:hdS N B sets p i) (hf:fo p q=true) (hp:Pth sets last fo q (i+1) j):Pth sets last fo p i j
def one (g:GA) (i j:Nat):Prop:=∃ p,g.first p=true∧Pth N B g.sets g.last g.follow p i j
def acc (g:GA) (i j:Nat):Prop:=(g.null=true∧i=j)∨one N B g i j
variable {N B}
theorem pth_lt {sets:List arr4_uint64} {last:Nat→Bool} {fo:Nat→Nat→Bool} {p i j:Nat} (h:Pth N B sets last fo p i j):i < j∧j≤N:=by
 induction h with
 | last h _=>exact ⟨by omega,h.1⟩
 | step h _ _ ih=>omega
theorem acc_le {g:GA} {i j:Nat} (h:acc N B g i j) (hi:i≤N):i≤j∧j≤N:=by
 rcases h with ⟨_,rfl⟩ | ⟨p,_,h⟩
 ·exact ⟨Nat.le_refl _,hi⟩
 ·have:=pth_lt h;omega
theorem pth_map {sets sets':List arr4_uint64} {last last':Nat→Bool} {fo fo':Nat→Nat→Bool} (I:Nat→Prop) (f:Nat→Nat) (hI:∀ p q i,I p→hdS N B sets p i→fo p q=true→I q)
 (h1:∀ p i,I p→hdS N B sets p i→hdS N B sets' (f p) i) (h2:∀ p i,I p→hdS N B sets p i→last p=true→last' (f p)=true)
 (h3:∀ p q i,I p→hdS N B sets p i→fo p q=true→fo' (f p) (f q)=true) {p i j:Nat} (h:Pth N B sets last fo p i j):I p→Pth N B sets' last' fo' (f p) i j:=by
 induction h with
 | last h hl=>exact fun hp=>.last (h1 _ _ hp h) (h2 _ _ hp h hl)
 | step h hf _ ih=>exact fun hp=>.step (h1 _ _ hp h) (h3 _ _ _ hp h hf) (ih (hI _ _ _ hp h hf))
theorem hd_lt {sets:List arr4_uint64} {p i:Nat} (h:hdS N B sets p i):p < sets.length:=by
 obtain ⟨_,s,hs,_⟩:=h;exact (List.getElem?_eq_some_iff.1 hs).1
theorem hd_left {s t:List arr4_uint64} {p i:Nat} (hp:p < s.length):hdS N B (s++t) p i↔hdS N B s p i:=by
 unfold hdS;rw [List.getElem?_append_left hp]
theorem hd_right {s t:List arr4_uint64} {p i:Nat}:hdS N B (s++t) (s.length+p) i↔hdS N B t p i:=by
 unfold hdS;rw [List.getElem?_append_right (by omega),show s.length+p - s.length=p by omega]
variable {a b : GA}
theorem cat_right (ha:Canon a) {p i j:Nat}:Pth N B (gCat a b).sets (gCat a b).last (gCat a b).follow (a.n+p) i j↔Pth N B b.sets b.last b.follow p i j:=by
 constructor
 ·intro h
  have:=pth_map (sets':=b.sets) (last':=b.last) (fo':=b.follow) (fun q=>a.n≤q) (fun q=>q - a.n) ?_ ?_ ?_ ?_ h (by omega)
  ·rwa [show a.n+p - a.n=p by omega] at this
  ·intro p q i hp _ hf
   simp only [gCat,blk] at hf
   rw [if_neg (by omega)] at hf
   by_cases hq:q < a.n
   ·rw [if_pos hq] at hf;cases hf
   ·omega
  ·intro p i hp hd
   have hd:hdS N B (a.sets++b.sets) p i:=hd
   rw [show p=a.sets.length+(p - a.n) by rw [ha.sets];omega] at hd
   exact hd_right.1 hd
  ·intro p i hp _ hl
   simp only [gCat] at hl
   rwa [if_neg (by omega)] at hl
  ·intro p q i hp _ hf
   simp only [gCat,blk] at hf
   rw [if_neg (by omega)] at hf
   by_cases hq:q < a.n
   ·rw [if_pos hq] at hf;cases hf
   ·rwa [if_neg hq] at hf
 ·intro h
  refine pth_map (fun _=>True) (fun q=>a.n+q) (fun _ _ _ _ _ _=>trivial) ?_ ?_ ?_ h trivial
  ·intro p i _ hd
   show hdS N B (a.sets++b.sets) (a.n+p) i
   rw [← ha.sets];exact hd_right.2 hd
  ·intro p i _ _ hl
   simp only [gCat];rwa [if_neg (by omega),show a.n+p - a.n=p by omega]
  ·intro p q i _ _ hf
   simp only [gCat,blk];rwa [if_neg (by omega),if_neg (by omega),show a.n+p - a.n=p by omega,show a.n+q - a.n=q by omega]
theorem cat_left (ha:Canon a) {p i j:Nat} (hp:p < a.n):Pth N B (gCat a b).sets (gCat a b).last (gCat a b).follow p i j↔
 (b.null=true∧Pth N B a.sets a.last a.follow p i j)∨∃ k,Pth N B a.sets a.last a.follow p i k∧one N B b k j:=by
 constructor
 ·intro h
  generalize hs:(gCat a b).sets=sets at h
  generalize hl:(gCat a b).last=last at h
  generalize hf:(gCat a b).follow=fo at h
  induction h with
  | last h hl'=>
    subst hs hl
    have hd:=(hd_left (t:=b.sets) (by rw [ha.sets];exact hp)).1 h
    simp only [gCat,if_pos hp,Bool.and_eq_true] at hl'
    exact .inl ⟨hl'.1,.last hd hl'.2⟩
  | @step p q i j h hf' hq ih=>
    have hd:=(hd_left (t:=b.sets) (by rw [ha.sets];exact hp)).1 (by rw [← hs] at h;exact h)
    have hf2:=hf'
    rw [← hf] at hf2
    simp only [gCat,blk,if_pos hp] at hf2
    by_cases hqn:q < a.n
    ·rw [if_pos hqn] at hf2
     rcases ih hqn with ⟨h1,h2⟩ | ⟨k,h1,h2⟩
     ·exact .inl ⟨h1,.step hd hf2 h2⟩
     ·exact .inr ⟨k,.step hd hf2 h1,h2⟩
    ·rw [if_neg hqn,Bool.and_eq_true] at hf2
     rw [← hs,← hl,← hf,show q=a.n+(q - a.n) by omega,cat_right ha] at hq
     exact .inr ⟨i+1,.last hd hf2.1,q - a.n,hf2.2,hq⟩
 ·rintro (⟨hn,h⟩ | ⟨k,h,q,hq,h2⟩)
  ·refine pth_map (fun q=>True) (fun q=>q) (fun _ _ _ _ _ _=>trivial) ?_ ?_ ?_ h trivial
   ·exact fun p i _ hd=>(hd_left (hd_lt hd)).2 hd
   ·intro p i _ hd hl
    have:=hd_lt hd
    rw [ha.sets] at this
    simp only [gCat,if_pos this,hn,hl];rfl
   ·intro p q i _ hd hf
    have:=hd_lt hd
    rw [ha.sets] at this
    have hqn:q < a.n:=by
     rcases Nat.lt_or_ge q a.n with h | h
     ·exact h
     ·rw [ha.follow p q (.inr h)] at hf;cases hf
    simp only [gCat,blk,if_pos this,if_pos hqn,hf]
  ·induction h with
   | last h hl=>
     have hd:=(hd_left (t:=b.sets) (hd_lt h)).2 h
     refine .step (q:=a.n+q) hd ?_ ((cat_right ha).2 h2)
     simp only [gCat,blk,if_pos hp]
     rw [if_neg (by omega),show a.n+q - a.n=q by omega,hl,hq];rfl
   | @step p q' i j h hf hp' ih=>
     have hd:=(hd_left (t:=b.sets) (hd_lt h)).2 h
     have hqn:q' < a.n:=by
      rcases Nat.lt_or_ge q' a.n with h | h
      ·exact h
      ·rw [ha.follow p q' (.inr h)] at hf;cases hf
     refine .step (q:=q') hd ?_ (ih hqn h2)
     simp only [gCat,blk,if_pos hp,if_pos hqn,hf]
theorem first_lt (ha:Canon a) {p:Nat} (h:a.first p=true):p < a.n:=by
 rcases Nat.lt_or_ge p a.n with h1 | h1
 ·exact h1
 ·rw [ha.first p h1] at h;cases h
theorem acc_cat (ha:Canon a) {i j:Nat}:acc N B (gCat a b) i j↔∃ k,acc N B a i k∧acc N B b k j:=by
 constructor
 ·rintro (⟨hn,rfl⟩ | ⟨p,hf,h⟩)
  ·simp only [gCat,Bool.and_eq_true] at hn
   exact ⟨i,.inl ⟨hn.1,rfl⟩,.inl ⟨hn.2,rfl⟩⟩
  ·by_cases hp:p < a.n
   ·simp only [gCat,if_pos hp] at hf
    rcases (cat_left ha hp).1 h with ⟨h1,h2⟩ | ⟨k,h1,h2⟩
    ·exact ⟨j,.inr ⟨p,hf,h2⟩,.inl ⟨h1,rfl⟩⟩
    ·exact ⟨k,.inr ⟨p,hf,h1⟩,.inr h2⟩
   ·simp only [gCat,if_neg hp,Bool.and_eq_true] at hf
    rw [show p=a.n+(p - a.n) by omega,cat_right ha] at h
    exact ⟨i,.inl ⟨hf.1,rfl⟩,.inr ⟨_,hf.2,h⟩⟩
 ·rintro ⟨k,(⟨h1,rfl⟩ | ⟨p,h1,h2⟩),(⟨h3,rfl⟩ | ⟨q,h3,h4⟩)⟩
  ·exact .inl ⟨by simp only [gCat,h1,h3];rfl,rfl⟩
  ·refine .inr ⟨a.n+q,?_,(cat_right ha).2 h4⟩
   simp only [gCat];rw [if_neg (by omega),show a.n+q - a.n=q by omega,h1,h3];rfl
  ·have hp:=first_lt ha h1
   exact .inr ⟨p,by simp only [gCat,if_pos hp,h1],(cat_left ha hp).2 (.inl ⟨h3,h2⟩)⟩
  ·have hp:=first_lt ha h1
   exact .inr ⟨p,by simp only [gCat,if_pos hp,h1],(cat_left ha hp).2 (.inr ⟨k,h2,q,h3,h4⟩)⟩
theorem alt_left (ha:Canon a) {p i j:Nat} (hp:p < a.n):Pth N B (gAlt a b).sets (gAlt a b).last (gAlt a b).follow p i j↔Pth N B a.sets a.last a.follow p i j:=by
 constructor
 ·intro h
  refine pth_map (fun q=>q < a.n) (fun q=>q) ?_ ?_ ?_ ?_ h hp
  ·intro p q i hp _ hf
   simp only [gAlt,blk,if_pos hp] at hf
   by_cases hq:q < a.n
   ·exact hq
   ·rw [if_neg hq] at hf;cases hf
  ·exact fun p i hp hd=>(hd_left (t:=b.sets) (by rw [ha.sets];exact hp)).1 hd
  ·intro p i hp _ hl;simpa only [gAlt,if_pos hp] using hl
  ·intro p q i hp _ hf
   simp only [gAlt,blk,if_pos hp] at hf
   by_cases hq:q < a.n
   ·rwa [if_pos hq] at hf
   ·rw [if_neg hq] at hf;cases hf
 ·intro h
  refine pth_map (fun q=>True) (fun q=>q) (fun _ _ _ _ _ _=>trivial) ?_ ?_ ?_ h trivial
  ·exact fun p i _ hd=>(hd_left (hd_lt hd)).2 hd
  ·intro p i _ hd hl
   have:=hd_lt hd
   rw [ha.sets] at this
   simp only [gAlt,if_pos this,hl]
  ·intro p q i _ hd hf
   have:=hd_lt hd
   rw [ha.sets] at this
   have hqn:q < a.n:=by
    rcases Nat.lt_or_ge q a.n with h | h
    ·exact h
    ·rw [ha.follow p q (.inr h)] at hf;cases hf
   simp only [gAlt,blk,if_pos this,if_pos hqn,hf]
theorem alt_right (ha:Canon a) {p i j:Nat}:Pth N B (gAlt a b).sets (gAlt a b).last (gAlt a b).follow (a.n+p) i j↔Pth N B b.sets b.last b.follow p i j:=by
 constructor
 ·intro h
  have:=pth_map (sets':=b.sets) (last':=b.last) (fo':=b.follow) (fun q=>a.n≤q) (fun q=>q - a.n) ?_ ?_ ?_ ?_ h (by omega)
  ·rwa [show a.n+p - a.n=p by omega] at this
  ·intro p q i hp _ hf
   simp only [gAlt,blk] at hf
   rw [if_neg (by omega)] at hf
   by_cases hq:q < a.n
   ·rw [if_pos hq] at hf;cases hf
   ·omega
  ·intro p i hp hd
   have hd:hdS N B (a.sets++b.sets) p i:=hd
   rw [show p=a.sets.length+(p - a.n) by rw [ha.sets];omega] at hd
   exact hd_right.1 hd
  ·intro p i hp _ hl
   simp only [gAlt] at hl
   rwa [if_neg (by omega)] at hl
  ·intro p q i hp _ hf
   simp only [gAlt,blk] at hf
   rw [if_neg (by omega)] at hf
   by_cases hq:q < a.n
   ·rw [if_pos hq] at hf;cases hf
   ·rwa [if_neg hq] at hf
 ·intro h
  refine pth_map (fun _=>True) (fun q=>a.n+q) (fun _ _ _ _ _ _=>trivial) ?_ ?_ ?_ h trivial
  ·intro p i _ hd
   show hdS N B (a.sets++b.sets) (a.n+p) i
   rw [← ha.sets];exact hd_right.2 hd
  ·intro p i _ _ hl
   simp only [gAlt];rwa [if_neg (by omega),show a.n+p - a.n=p by omega]
  ·intro p q i _ _ hf
   simp only [gAlt,blk];rwa [if_neg (by omega),if_neg (by omega),show a.n+p - a.n=p by omega,show a.n+q - a.n=q by omega]
theorem acc_alt (ha:Canon a) {i j:Nat}:acc N B (gAlt a b) i j↔acc N B a i j∨acc N B b i j:=by
 constructor
 ·rintro (⟨hn,rfl⟩ | ⟨p,hf,h⟩)
  ·simp only [gAlt,Bool.or_eq_true] at hn
   exact hn.imp (fun h=>.inl ⟨h,rfl⟩) fun h=>.inl ⟨h,rfl⟩
  ·by_cases hp:p < a.n
   ·simp only [gAlt,if_pos hp] at hf
    exact .inl (.inr ⟨p,hf,(alt_left ha hp).1 h⟩)
   ·simp only [gAlt,if_neg hp] at hf
    rw [show p=a.n+(p - a.n) by omega,alt_right ha] at h
    exact .inr (.inr ⟨_,hf,h⟩)
 ·rintro ((⟨h1,rfl⟩ | ⟨p,h1,h2⟩) | (⟨h1,rfl⟩ | ⟨q,h3,h4⟩))
  ·exact .inl ⟨by simp only [gAlt,h1];rfl,rfl⟩
  ·have hp:=first_lt ha h1
   exact .inr ⟨p,by simp only [gAlt,if_pos hp,h1],(alt_left ha hp).2 h2⟩
  ·exact .inl ⟨by simp only [gAlt,h1];simp,rfl⟩
  ·refine .inr ⟨a.n+q,?_,(alt_right ha).2 h4⟩
   simp only [gAlt];rw [if_neg (by omega),show a.n+q - a.n=q by omega,h3]
def pow (R:Nat→Nat→Prop):Nat→Nat→Nat→Prop
 | 0,i,j=>i=j
 | m+1,i,j=>∃ k,pow R m i k∧R k j
theorem pow_add {R:Nat→Nat→Prop} {m:Nat}:∀ {q i j:Nat},pow R (m+q) i j↔∃ k,pow R m i k∧pow R q k j
 | 0,i,j=>⟨fun h=>⟨j,h,rfl⟩,fun ⟨k,h,e⟩=>by cases e;exact h⟩
 | q+1,i,j=>by
   show (∃ k,pow R (m+q) i k∧R k j)↔_
   constructor
   ·rintro ⟨k,h1,h2⟩
    obtain ⟨l,h3,h4⟩:=pow_add.1 h1
    exact ⟨l,h3,k,h4,h2⟩
   ·rintro ⟨l,h3,k,h4,h2⟩
    exact ⟨k,pow_add.2 ⟨l,h3,h4⟩,h2⟩
theorem pow_one {R:Nat→Nat→Prop} {i j:Nat}:pow R 1 i j↔R i j:=⟨fun ⟨k,e,h⟩=>by cases e;exact h,fun h=>⟨i,rfl,h⟩⟩
theorem pow_front {R:Nat→Nat→Prop} {m i j:Nat}:pow R (m+1) i j↔∃ k,R i k∧pow R m k j:=by
 rw [Nat.add_comm,pow_add]
 exact ⟨fun ⟨k,h1,h2⟩=>⟨k,pow_one.1 h1,h2⟩,fun ⟨k,h1,h2⟩=>⟨k,pow_one.2 h1,h2⟩⟩
theorem acc_empty {i j:Nat}:acc N B gEmpty i j↔i=j:=by
 constructor
 ·rintro (⟨_,h⟩ | ⟨p,h,_⟩)
  ·exact h
  ·cases h
 ·exact fun h=>.inl ⟨rfl,h⟩
theorem acc_none {i j:Nat}:¬ acc N B gNone i j:=fun h=>by
 rcases h with ⟨h,_⟩ | ⟨p,h,_⟩<;>cases h
theorem acc_byte {s:arr4_uint64} {i j:Nat}:acc N B (gByte s) i j↔i < N∧setHas s (B i)=true∧j=i+1:=by
 constructor
 ·rintro (⟨h,_⟩ | ⟨p,h,h2⟩)
  ·cases h
  ·simp only [gByte,beq_iff_eq] at h
   subst h
   cases h2 with
   | last h hl=>
     obtain ⟨h1,s',h2,h3⟩:=h
     simp only [gByte,List.getElem?_cons_zero,Option.some.injEq] at h2
     subst h2
     exact ⟨h1,h3,rfl⟩
   | step h hf _=>cases hf
 ·rintro ⟨h1,h2,rfl⟩
  exact .inr ⟨0,rfl,.last ⟨h1,s,rfl,h2⟩ rfl⟩
theorem acc_maybe {i j:Nat}:acc N B (gMaybe a) i j↔i=j∨acc N B a i j:=by
 constructor
 ·rintro (⟨_,h⟩ | h)
  ·exact .inl h
  ·exact .inr (.inr h)
 ·rintro (h | ⟨_,h⟩ | h)
  ·exact .inl ⟨rfl,h⟩
  ·exact .inl ⟨rfl,h⟩
  ·exact .inr h
theorem acc_again {i j:Nat}:acc N B (gAgain a) i j↔∃ m,pow (acc N B a) (m+1) i j:=by
 constructor
 ·rintro (⟨hn,rfl⟩ | ⟨p,hp,h⟩)
  ·exact ⟨0,pow_one.2 (.inl ⟨hn,rfl⟩)⟩
  ·have key:∀ {p i j:Nat},Pth N B a.sets a.last (gAgain a).follow p i j→∃ k m,Pth N B a.sets a.last a.follow p i k∧pow (acc N B a) m k j:=by
    intro p i j h
    induction h with
    | last h hl=>exact ⟨_,0,.last h hl,rfl⟩
    | @step p q i j h hf hq ih=>
      obtain ⟨k,m,h1,h2⟩:=ih
      simp only [gAgain,Bool.or_eq_true,Bool.and_eq_true] at hf
      rcases hf with hf | ⟨hl,hq⟩
      ·exact ⟨k,m,.step h hf h1,h2⟩
      ·exact ⟨i+1,m+1,.last h hl,pow_front.2 ⟨k,.inr ⟨q,hq,h1⟩,h2⟩⟩
   obtain ⟨k,m,h1,h2⟩:=key h
   exact ⟨m,pow_front.2 ⟨k,.inr ⟨p,hp,h1⟩,h2⟩⟩
 ·rintro ⟨m,h⟩
  have mono:∀ {p i j:Nat},Pth N B a.sets a.last a.follow p i j→Pth N B a.sets a.last (gAgain a).follow p i j:=by
   intro p i j h
   exact pth_map (fun _=>True) (fun q=>q) (fun _ _ _ _ _ _=>trivial) (fun _ _ _ h=>h) (fun _ _ _ _ h=>h) (fun p q i _ _ hf=>by simp only [gAgain,hf];rfl) h trivial
  have glue:∀ {p i k q j:Nat},Pth N B a.sets a.last a.follow p i k→a.first q=true→Pth N B a.sets a.last (gAgain a).follow q k j→Pth N B a.sets a.last (gAgain a).follow p i j:=by
   intro p i k q j h hq h2
   induction h with
   | last h hl=>exact .step h (by simp only [gAgain,hl,hq];simp) h2
   | step h hf _ ih=>exact .step h (by simp only [gAgain,hf];rfl) (ih h2)
  induction m generalizing i with
  | zero=>
    rcases pow_one.1 h with ⟨hn,rfl⟩ | ⟨p,hp,h⟩
    ·exact .inl ⟨hn,rfl⟩
    ·exact .inr ⟨p,hp,mono h⟩
  | succ m ih=>
    obtain ⟨k,h1,h2⟩:=pow_front.1 h
    have h2:=ih h2
    rcases h1 with ⟨hn,rfl⟩ | ⟨p,hp,h1⟩
    ·exact h2
    ·rcases h2 with ⟨hn,rfl⟩ | ⟨q,hq,h2⟩
     ·exact .inr ⟨p,hp,mono h1⟩
     ·exact .inr ⟨p,hp,glue h1 hq h2⟩
theorem acc_iter (ha:Canon a) {z:GA}:∀ {k i j:Nat},acc N B (iter (gCat a) k z) i j↔∃ l,pow (acc N B a) k i l∧acc N B z l j
 | 0,i,j=>⟨fun h=>⟨i,rfl,h⟩,fun ⟨l,e,h⟩=>by cases e;exact h⟩
 | k+1,i,j=>by
   rw [iter,acc_cat ha]
   constructor
   ·rintro ⟨m,h1,h2⟩
    obtain ⟨l,h3,h4⟩:=(acc_iter ha).1 h2
    exact ⟨l,pow_front.2 ⟨m,h1,h3⟩,h4⟩
   ·rintro ⟨l,h1,h2⟩
    obtain ⟨m,h3,h4⟩:=pow_front.1 h1
    exact ⟨m,h3,(acc_iter ha).2 ⟨l,h4,h2⟩⟩
theorem acc_upto (ha:Canon a):∀ {k i j:Nat},acc N B (iter (fun o=>gMaybe (gCat a o)) k gEmpty) i j↔∃ m,m≤k∧pow (acc N B a) m i j
 | 0,i,j=>by
   rw [iter,acc_empty]
   constructor
   ·exact fun h=>⟨0,Nat.le_refl _,h⟩
   ·rintro ⟨m,h,e⟩
    have hm:m=0:=by omega
    subst hm
    exact e
 | k+1,i,j=>by
   rw [iter,acc_maybe,acc_cat ha]
   constructor
   ·rintro (h | ⟨l,h1,h2⟩)
    ·exact ⟨0,by omega,h⟩
    ·obtain ⟨m,h3,h4⟩:=(acc_upto ha).1 h2
     exact ⟨m+1,by omega,pow_front.2 ⟨l,h1,h4⟩⟩
   ·rintro ⟨m,h1,h2⟩
    cases m with
    | zero=>exact .inl h2
    | succ m=>
      obtain ⟨l,h3,h4⟩:=pow_front.1 h2
      exact .inr ⟨l,h3,(acc_upto ha).2 ⟨m,by omega,h4⟩⟩
theorem acc_rep (ha:Canon a) {lo hi:Int} (h0:0≤lo) (h1:hi = -1∨1≤hi∧lo≤hi) {i j:Nat}:acc N B (gRep a lo hi) i j↔∃ q,(hi < 0∨lo+(q:Nat)≤hi)∧pow (acc N B a) (lo.toNat+q) i j:=by
 unfold gRep
 split
 ·rename_i hh
  rw [acc_iter ha]
  by_cases hl:lo=0
  ·subst hl
   rw [show (max (0:Int) 1 - 1).toNat=0 from rfl]
   simp only [if_true]
   constructor
   ·rintro ⟨l,e,h⟩
    cases e
    rcases acc_maybe.1 h with e | h
    ·exact ⟨0,.inl hh,e⟩
    ·obtain ⟨m,h⟩:=acc_again.1 h
     refine ⟨m+1,.inl hh,?_⟩
     rw [show (0:Int).toNat=0 from rfl,Nat.zero_add];exact h
   ·rintro ⟨q,_,h⟩
    rw [show (0:Int).toNat=0 from rfl,Nat.zero_add] at h
    refine ⟨i,rfl,acc_maybe.2 ?_⟩
    cases q with
    | zero=>exact .inl h
    | succ q=>exact .inr (acc_again.2 ⟨q,h⟩)
  ·rw [if_neg hl]
   obtain ⟨n,hn⟩:∃ n:Nat,lo=((n+1:Nat):Int):=⟨(lo - 1).toNat,by omega⟩
   subst hn
   rw [show (max (((n+1:Nat):Int)) 1 - 1).toNat=n by omega]
   have e2:((n+1:Nat):Int).toNat=n+1:=by omega
   rw [e2]
   constructor
   ·rintro ⟨l,h2,h3⟩
    obtain ⟨m,h4⟩:=acc_again.1 h3
    refine ⟨m,.inl hh,?_⟩
    rw [show n+1+m=n+(m+1) by omega]
    exact pow_add.2 ⟨l,h2,h4⟩
   ·rintro ⟨q,_,h⟩
    rw [show n+1+q=n+(q+1) by omega] at h
    obtain ⟨l,h2,h3⟩:=pow_add.1 h
    exact ⟨l,h2,acc_again.2 ⟨q,h3⟩⟩
 ·rename_i hh
  rw [acc_iter ha]
  constructor
  ·rintro ⟨l,h2,h3⟩
   obtain ⟨m,h4,h5⟩:=(acc_upto ha).1 h3
   exact ⟨m,.inr (by omega),pow_add.2 ⟨l,h2,h5⟩⟩
  ·rintro ⟨q,h2,h3⟩
   obtain ⟨l,h4,h5⟩:=pow_add.1 h3
   exact ⟨l,h4,(acc_upto ha).2 ⟨q,by omega,h5⟩⟩
end
end Go.Ev.Pl
set_option linter.unusedSimpArgs false
set_option linter.unusedVariables false
namespace Go.Ev.Pl
open Go Go.Ev
end Go.Ev.Pl
set_option linter.unusedSimpArgs false
set_option linter.unusedVariables false
namespace Go.Ev.Pl
open Go Go.Ev
def bt (s:ByteArray) (i:Nat):Int:=w64 (((byteAt s (i:Int)).toNat:Nat):Int)
theorem gof_k1 {x:api_Rx} (h:x.Kind=1):gof x=gEmpty:=by
 rw [gof_eq,if_neg (by omega),if_neg (by omega),if_neg (by omega),if_neg (by omega)]
theorem gof_k2 {x:api_Rx} (h:x.Kind=2):gof x=gByte x.Set:=by rw [gof_eq,if_pos h]
theorem gof_k3 {x:api_Rx} (h:x.Kind=3):gof x=x.Kids.foldl (fun o y=>gCat o (gof y)) gEmpty:=by rw [gof_eq,if_neg (by omega),if_pos h]
theorem gof_k4 {x:api_Rx} (h:x.Kind=4):gof x=x.Kids.foldl (fun o y=>gAlt o (gof y)) gNone:=by rw [gof_eq,if_neg (by omega),if_neg (by omega),if_pos h]
theorem gof_k5 {x k:api_Rx} (h:x.Kind=5) (hk:x.Kids=[k]):gof x=gRep (gof k) x.Lo x.Hi:=by
 rw [gof_eq,if_neg (by omega),if_neg (by omega),if_neg (by omega),if_pos h,hk];rfl
end Go.Ev.Pl
set_option linter.unusedSimpArgs false
set_option linter.unusedVariables false
namespace Go.Ev.Pl
open Go Go.Ev
noncomputable def accB (s:ByteArray) (g:GA) (j:Nat):Bool:=@decide (acc s.size (bt s) g 0 j) (Classical.propDecidable _)
theorem accB_iff {s:ByteArray} {g:GA} {j:Nat}:accB s g j=true↔acc s.size (bt s) g 0 j:=by simp [accB]
abbrev alph:ByteArray:={ data:=#[(97:UInt8),(97:UInt8),(98:UInt8),(98:UInt8),(99:UInt8),(99:UInt8),(45:UInt8),(90:UInt8),(10:UInt8),(48:UInt8),(0:UInt8),(255:UInt8)] }
def txt (l:List Int):Nat→ByteArray
 | 0=>{ data:=#[] }
 | n+1=>txt l n++ByteArray.extract alph (Int.toNat (Int.tmod (w64 (gd l n)) 12)) (Int.toNat (w64 (Int.tmod (w64 (gd l n)) 12+1)))
theorem text_ok (l:List Int) (hb:Bytes l):∃ s,C_hecklelaw05_Text l s∧s.size≤12:=by
 have hal:alph.size=12:=by rfl
 have one:∀ i,i < l.length→0≤Int.tmod (w64 (gd l (i:Int))) 12∧w64 (Int.tmod (w64 (gd l (i:Int))) 12+1)=Int.tmod (w64 (gd l (i:Int))) 12+1∧Int.tmod (w64 (gd l (i:Int))) 12 < 12:=by
  intro i hi
  obtain ⟨h0,h1⟩:=hb _ (List.getElem_mem hi)
  rw [gd_nat hi,w64_id (by omega) (by omega)]
  have h2:=Int.tmod_nonneg (a:=l[i]) 12 h0
  have h3:=Int.tmod_lt_of_pos l[i] (show (0:Int) < 12 by omega)
  exact ⟨h2,w64_id (by omega) (by omega),h3⟩
 have hsz:∀ n,n≤l.length→(txt l n).size=n:=by
  intro n
  induction n with
  | zero=>intro _;rfl
  | succ n ih=>
    intro hn
    obtain ⟨h1,h2,h3⟩:=one n (by omega)
    rw [txt,ByteArray.size_append,ih (by omega),ByteArray.size_extract,h2,hal]
    omega
 refine ⟨txt l (min 12 l.length),?_,by rw [hsz _ (Nat.min_le_right _ _)];exact Nat.min_le_left _ _⟩
 refine W_hecklelaw05_Text l _ ⟨fun s t=>∃ i:Nat,t=i∧i≤min 12 l.length∧s=txt l i,fun _ t=>(12 - t).toNat,⟨0,rfl,by omega,rfl⟩,?_⟩
 rintro s t ⟨i,rfl,hi,rfl⟩
 rw [List.length_map]
 refine ⟨fun ht=>?_,fun ht=>?_⟩
 ·simp only [Bool.and_eq_true,decide_eq_true_eq] at ht
  have hil:i < l.length:=by omega
  obtain ⟨h1,h2,h3⟩:=one i hil
  have hw2:w64 ((i:Int)+1)=((i+1:Nat):Int):=w64_id (by omega) (by omega)
  refine ⟨by omega,by omega,by omega,by omega,⟨h1,by rw [h2];omega,by rw [h2];omega,?_⟩,?_,?_,?_⟩
  ·rw [h2];show _≤12;omega
  ·rw [hsz i (by omega),show ByteArray.size (ByteArray.extract _ _ _)=_ from ByteArray.size_extract,h2,show IntKind.max IntKind.i64=9223372036854775807 by decide]
   show (((i+(min _ 12 - _):Nat)):Int)≤_
   omega
  ·rw [hw2];exact ⟨i+1,rfl,by omega,rfl⟩
  ·rw [hw2];first | omega | (dsimp only;omega)
 ·simp only [Bool.and_eq_false_iff,decide_eq_false_iff_not] at ht
  have:i=min 12 l.length:=by omega
  rw [this]
end Go.Ev.Pl
set_option linter.unusedSimpArgs false
set_option linter.unusedVariables false
namespace Go.Ev.Pl
open Go Go.Ev
def rev:api_Rx→api_Rx:=cata fun x l=>{ x with Kids:=if x.Kind=3 then l.reverse else l }
theorem bytes_of {w:World} {a:Option Addr} {len cap:Nat} {zs:List Int}
 (h:(a=none∧len=0∧cap=0∧zs=[])∨∃ x,a=some x∧len≤cap∧cap≤maxLen∧zs.length=cap∧(∀ i,i < zs.length→w.cell? (x.add i)=some (.int .u8 (zs.getD i 0)))∧∀ n∈zs,(Lit.int .u8 n).wf=true):Bytes (zs.take len):=by
 intro b hb
 have hb:=List.mem_of_mem_take hb
 rcases h with ⟨_,_,_,rfl⟩ | ⟨_,_,_,_,_,_,h⟩
 ·simp at hb
 ·have:=h b hb
  simp only [Lit.wf,Bool.and_eq_true,decide_eq_true_eq] at this
  have e1:IntKind.u8.min=0:=by decide
  have e2:IntKind.u8.max=255:=by decide
  rw [e1,e2] at this
  exact this
theorem rev_eq (x:api_Rx):rev x={ x with Kids:=if x.Kind=3 then (x.Kids.map rev).reverse else x.Kids.map rev }:=cata_eq _ x
theorem rev_kind (x:api_Rx):(rev x).Kind=x.Kind:=by rw [rev_eq]
theorem rev_kids (x:api_Rx):(rev x).Kids=if x.Kind=3 then (x.Kids.map rev).reverse else x.Kids.map rev:=by rw [rev_eq]
section
variable {N : Nat} {B : Nat → Int}
def chn (N:Nat) (B:Nat→Int):List api_Rx→Nat→Nat→Prop
 | [],i,j=>i=j
 | y :: r,i,j=>∃ k,acc N B (gof y) i k∧chn N B r k j
theorem chn_append:∀ {a b:List api_Rx} {i j:Nat},chn N B (a++b) i j↔∃ k,chn N B a i k∧chn N B b k j
 | [],b,i,j=>⟨fun h=>⟨i,rfl,h⟩,fun ⟨k,e,h⟩=>(by cases e;exact h)⟩
 | y :: a,b,i,j=>by
   simp only [List.cons_append,chn]
   constructor
   ·rintro ⟨k,h1,h2⟩
    obtain ⟨l,h3,h4⟩:=chn_append.1 h2
    exact ⟨l,⟨k,h1,h3⟩,h4⟩
   ·rintro ⟨l,⟨k,h1,h3⟩,h4⟩
    exact ⟨k,h1,chn_append.2 ⟨l,h3,h4⟩⟩
theorem acc_catF:∀ (l:List api_Rx) {z:GA} {i j:Nat},Canon z→(acc N B (l.foldl (fun o y=>gCat o (gof y)) z) i j↔∃ k,acc N B z i k∧chn N B l k j)
 | [],z,i,j,_=>⟨fun h=>⟨j,h,rfl⟩,fun ⟨k,h,e⟩=>(by cases e;exact h)⟩
 | y :: r,z,i,j,hz=>by
   rw [List.foldl_cons,acc_catF r (canon_cat hz (canon_gof y))]
   constructor
   ·rintro ⟨k,h1,h2⟩
    obtain ⟨m,h3,h4⟩:=(acc_cat hz).1 h1
    exact ⟨m,h3,k,h4,h2⟩
   ·rintro ⟨m,h3,k,h4,h2⟩
    exact ⟨k,(acc_cat hz).2 ⟨m,h3,h4⟩,h2⟩
theorem acc_altF:∀ (l:List api_Rx) {z:GA} {i j:Nat},Canon z→(acc N B (l.foldl (fun o y=>gAlt o (gof y)) z) i j↔acc N B z i j∨∃ y,y∈l∧acc N B (gof y) i j)
 | [],z,i,j,_=>by simp
 | y :: r,z,i,j,hz=>by
   rw [List.foldl_cons,acc_altF r (canon_alt hz (canon_gof y)),acc_alt hz]
   simp only [List.mem_cons]
   constructor
   ·rintro ((h | h) | ⟨a,h1,h2⟩)
    ·exact .inl h
    ·exact .inr ⟨y,.inl rfl,h⟩
    ·exact .inr ⟨a,.inr h1,h2⟩
   ·rintro (h | ⟨a,rfl | h1,h2⟩)
    ·exact .inl (.inl h)
    ·exact .inl (.inr h2)
    ·exact .inr ⟨a,h1,h2⟩
abbrev bkw (N:Nat) (B:Nat→Int) (i:Nat):Int:=B (N - 1 - i)
theorem chn_le:∀ {l:List api_Rx} {i j:Nat},chn N B l i j→i≤N→j≤N
 | [],i,j,h,hi=>by cases h;exact hi
 | y :: r,i,j,⟨k,h1,h2⟩,hi=>chn_le h2 (acc_le h1 hi).2
theorem chn_rev:∀ {l:List api_Rx} {i j:Nat},(∀ y,y∈l→∀ i j,i≤N→j≤N→(acc N (bkw N B) (gof (rev y)) i j↔acc N B (gof y) (N - j) (N - i)))→i≤N→j≤N→
 (chn N (bkw N B) (l.map rev).reverse i j↔chn N B l (N - j) (N - i))
 | [],i,j,_,hi,hj=>by
   show i=j↔N - j=N - i
   omega
 | y :: r,i,j,hy,hi,hj=>by
   rw [List.map_cons,List.reverse_cons,chn_append]
   have hr:=fun i j=>chn_rev (l:=r) (i:=i) (j:=j) fun z hz=>hy z (List.mem_cons_of_mem _ hz)
   constructor
   ·rintro ⟨k,h1,k2,h2,e⟩
    cases e
    have hk:=chn_le h1 hi
    exact ⟨N - k,(hy y (List.mem_cons_self ..) k j hk hj).1 h2,(hr i k hi hk).1 h1⟩
   ·rintro ⟨m,h1,h2⟩
    have hm:=(acc_le h1 (by omega)).2
    have e:N - (N - m)=m:=by omega
    refine ⟨N - m,(hr i (N - m) hi (by omega)).2 (by rw [e];exact h2),j,(hy y (List.mem_cons_self ..) (N - m) j (by omega) hj).2 (by rw [e];exact h1),rfl⟩
theorem pow_rev {R R':Nat→Nat→Prop} (hR:∀ i j,i≤N→j≤N→(R' i j↔R (N - j) (N - i))) (hle:∀ i j,R' i j→i≤N→j≤N) (hle2:∀ i j,R i j→i≤N→j≤N):∀ {m i j:Nat},i≤N→j≤N→(pow R' m i j↔pow R m (N - j) (N - i))
 | 0,i,j,hi,hj=>by
   show i=j↔N - j=N - i
   omega
 | m+1,i,j,hi,hj=>by
   rw [pow_front]
   show (∃ k,R' i k∧pow R' m k j)↔∃ k,pow R m (N - j) k∧R k (N - i)
   constructor
   ·rintro ⟨k,h1,h2⟩
    have hk:=hle _ _ h1 hi
    exact ⟨N - k,(pow_rev hR hle hle2 hk hj).1 h2,(hR i k hi hk).1 h1⟩
   ·rintro ⟨k,h1,h2⟩
    have hk:k≤N:=by
     have:∀ {m i j:Nat},pow R m i j→i≤N→j≤N:=by
      intro m
      induction m with
      | zero=>intro i j h hi;cases h;exact hi
      | succ m ih=>rintro i j ⟨k,h1,h2⟩ hi;exact hle2 _ _ h2 (ih h1 hi)
     exact this h1 (by omega)
    have e:N - (N - k)=k:=by omega
    exact ⟨N - k,(hR i (N - k) hi (by omega)).2 (by rw [e];exact h2),(pow_rev hR hle hle2 (by omega) hj).2 (by rw [e];exact h1)⟩
theorem acc_rev:∀ x,Rgt x→∀ i j,i≤N→j≤N→(acc N (bkw N B) (gof (rev x)) i j↔acc N B (gof x) (N - j) (N - i)):=by
 refine rxInd fun x ih hr i j hi hj=>?_
 obtain ⟨ho,hk⟩:=rgt_own hr
 have hall:∀ y,y∈x.Kids→∀ i j,i≤N→j≤N→(acc N (bkw N B) (gof (rev y)) i j↔acc N B (gof y) (N - j) (N - i)):=fun y hy=>ih y hy (hk y hy)
 rcases own_kind ho with h | h | h | h | h
 ·rw [gof_k1 h,gof_k1 (by rw [rev_kind];exact h),acc_empty,acc_empty];omega
 ·rw [gof_k2 h,gof_k2 (by rw [rev_kind];exact h),acc_byte,acc_byte]
  have:(rev x).Set=x.Set:=by rw [rev_eq]
  rw [this]
  constructor
  ·rintro ⟨h1,h2,rfl⟩
   refine ⟨by omega,?_,by omega⟩
   rw [show N - (i+1)=N - 1 - i by omega];exact h2
  ·rintro ⟨h1,h2,h3⟩
   refine ⟨by omega,?_,by omega⟩
   show setHas x.Set (B (N - 1 - i))=true
   rw [show N - 1 - i=N - j by omega];exact h2
 ·rw [gof_k3 h,gof_k3 (by rw [rev_kind];exact h),acc_catF _ canon_empty,acc_catF _ canon_empty,rev_kids,if_pos h]
  constructor
  ·rintro ⟨k,h1,h2⟩
   cases acc_empty.1 h1
   exact ⟨_,acc_empty.2 rfl,(chn_rev hall hi hj).1 h2⟩
  ·rintro ⟨k,h1,h2⟩
   cases acc_empty.1 h1
   exact ⟨_,acc_empty.2 rfl,(chn_rev hall hi hj).2 h2⟩
 ·rw [gof_k4 h,gof_k4 (by rw [rev_kind];exact h),acc_altF _ canon_none,acc_altF _ canon_none,rev_kids,if_neg (by omega)]
  constructor
  ·rintro (h1 | ⟨y,hy,h1⟩)
   ·exact absurd h1 acc_none
   ·obtain ⟨z,hz,rfl⟩:=List.mem_map.1 hy
    exact .inr ⟨z,hz,(hall z hz i j hi hj).1 h1⟩
  ·rintro (h1 | ⟨y,hy,h1⟩)
   ·exact absurd h1 acc_none
   ·exact .inr ⟨rev y,List.mem_map.2 ⟨y,hy,rfl⟩,(hall y hy i j hi hj).2 h1⟩
 ·obtain ⟨⟨k,hkk⟩,hlo0,_,hhi⟩:=own_rep ho h
  have hhi':x.Hi = -1∨1≤x.Hi∧x.Lo≤x.Hi:=hhi.imp id fun h=>⟨h.1,h.2.1⟩
  have hkm:k∈x.Kids:=by rw [hkk];exact List.mem_cons_self ..
  have e1:(rev x).Lo=x.Lo:=by rw [rev_eq]
  have e2:(rev x).Hi=x.Hi:=by rw [rev_eq]
  rw [gof_k5 h hkk,gof_k5 (k:=rev k) (by rw [rev_kind];exact h) (by rw [rev_kids,if_neg (by omega),hkk];rfl),e1,e2,acc_rep (canon_gof _) hlo0 hhi',acc_rep (canon_gof _) hlo0 hhi']
  constructor
  ·rintro ⟨q,h1,h2⟩
   exact ⟨q,h1,(pow_rev (hall k hkm) (fun i j h hi=>(acc_le h hi).2) (fun i j h hi=>(acc_le h hi).2) hi hj).1 h2⟩
  ·rintro ⟨q,h1,h2⟩
   exact ⟨q,h1,(pow_rev (hall k hkm) (fun i j h hi=>(acc_le h hi).2) (fun i j h hi=>(acc_le h hi).2) hi hj).2 h2⟩
end
end Go.Ev.Pl
set_option linter.unusedSimpArgs false
set_option linter.unusedVariables false
namespace Go.Ev.Pl
open Go Go.Ev
theorem turnedByte_ok (l:List Int) (hl:l.length < 100000):C_split_turned_byte l l.reverse:=by
 refine W_split_turned_byte l _ ⟨⟨by omega,by omega,by omega,by omega⟩,backward_66 l,by omega,fun i out=>out=l.reverse.take i,by simp,?_,?_⟩
 ·rintro i y hi hy out rfl
  have hlt:(l.reverse.take i).length=i:=by rw [List.length_take,List.length_reverse];omega
  refine ⟨by omega,?_⟩
  show _=List.take (i+1) l.reverse
  rw [List.take_succ_eq_append_getElem (by rw [List.length_reverse];exact hi)]
  congr 2
  rw [List.getElem_reverse]
  rw [List.getElem?_eq_getElem (by omega)] at hy
  exact (Option.some.inj hy).symm
 ·rintro out rfl
  rw [List.take_of_length_le (by simp)]
theorem index_ok (l:List Int) (v:Int) (hl:l.length < 1000000):∃ r,C_slices_Index__int_int l v r∧(r≥0↔v∈l):=by
 by_cases hv:v∈l
 ·obtain ⟨n,hn,hnv,hmin⟩:∃ n,n < l.length∧l[n]?=some v∧∀ m,m < n→l[m]?≠some v:=by
   have hex:∃ n,l[n]?=some v:=List.mem_iff_getElem?.1 hv
   induction l with
   | nil=>simp at hv
   | cons x l ih=>
     by_cases hx:x=v
     ·exact ⟨0,by simp,by simp [hx],fun m hm=>by omega⟩
     ·have hv':v∈l:=by
       rcases List.mem_cons.1 hv with e | e
       ·exact absurd e.symm hx
       ·exact e
      obtain ⟨n,h1,h2,h3⟩:=ih (by simp at hl;omega) hv' (List.mem_iff_getElem?.1 hv')
      refine ⟨n+1,by simp;omega,by simpa using h2,fun m hm=>?_⟩
      cases m with
      | zero=>simp [hx]
      | succ m=>simpa using h3 m (by omega)
  refine ⟨n,?_,⟨fun _=>hv,fun _=>by omega⟩⟩
  refine W_slices_Index__int_int l v _ ⟨fun t=>∃ i:Nat,t=i∧i≤n,fun t=>(l.length - t).toNat,⟨0,rfl,by omega⟩,?_⟩
  rintro t ⟨i,rfl,hi⟩
  have hw2:w64 ((i:Int)+1)=((i+1:Nat):Int):=w64_id (by omega) (by omega)
  have hil:i < l.length:=by omega
  refine ⟨fun ht=>⟨by omega,by omega,fun he=>?_,fun he=>?_⟩,fun ht=>?_⟩
  ·rw [gd_nat hil,beq_iff_eq] at he
   by_cases hin:i=n
   ·subst hin;rfl
   ·exact absurd (by rw [List.getElem?_eq_getElem hil,he]) (hmin i (by omega))
  ·rw [gd_nat hil,beq_eq_false_iff_ne] at he
   have hin:i≠n:=fun e=>by
    subst e
    rw [List.getElem?_eq_getElem hil] at hnv
    exact he (Option.some.inj hnv).symm
   rw [hw2]
   exact ⟨⟨i+1,rfl,by omega⟩,by first | omega | (dsimp only;omega)⟩
  ·have:=of_decide_eq_false ht;omega
 ·refine ⟨-1,?_,⟨fun h=>by omega,fun h=>absurd h hv⟩⟩
  refine W_slices_Index__int_int l v _ ⟨fun t=>∃ i:Nat,t=i∧i≤l.length,fun t=>(l.length - t).toNat,⟨0,rfl,by omega⟩,?_⟩
  rintro t ⟨i,rfl,hi⟩
  refine ⟨fun ht=>?_,fun ht=>rfl⟩
  have hil:i < l.length:=by have:=of_decide_eq_true ht;omega
  have hw2:w64 ((i:Int)+1)=((i+1:Nat):Int):=w64_id (by omega) (by omega)
  refine ⟨by omega,by omega,fun he=>?_,fun he=>?_⟩
  ·rw [gd_nat hil,beq_iff_eq] at he
   exact absurd (he▸List.getElem_mem hil) hv
  ·rw [hw2]
   exact ⟨⟨i+1,rfl,by omega⟩,by first | omega | (dsimp only;omega)⟩
theorem contains_ok (l:List Int) (v:Int) (hl:l.length < 1000000) (b:Bool) (hb:b=true↔v∈l):C_slices_Contains__int_int l v b:=by
 obtain ⟨r,h1,h2⟩:=index_ok l v hl
 refine W_slices_Contains__int_int l v _ ⟨r,h1,?_⟩
 rw [Bool.eq_iff_iff,hb,decide_eq_true_eq,h2]
end Go.Ev.Pl
set_option linter.unusedSimpArgs false
set_option linter.unusedVariables false
namespace Go.Ev
open Go Go.Proofs
def bitOf2 (w:Int) (i:Int):Bool:=!(IntKind.u64.wrap (BitVec.ofInt IntKind.u64.bits w &&& BitVec.ofInt IntKind.u64.bits (IntKind.u64.wrap (1 * 2 ^ min i.toNat IntKind.u64.bits))).toNat == 0)
def setHas2 (s:arr4_uint64) (i:Int):Bool:=
 if i < 0 then false else if i < 64 then bitOf2 s.e0 i else if i < 128 then bitOf2 s.e1 (i - 64) else if i < 192 then bitOf2 s.e2 (i - 128) else if i < 256 then bitOf2 s.e3 (i - 192) else false
theorem has2_ok (s:arr4_uint64) (i:Int):C_set_Has s i (setHas2 s i):=by
 refine W_set_Has s i _ ⟨fun g=>⟨fun g1=>?_,fun g1=>?_⟩,fun g=>?_⟩
 ·have g:=of_decide_eq_true g
  have g1:=of_decide_eq_true g1
  obtain ⟨q,m,hm⟩:=quot64 i g g1
  rw [q,m]
  refine ⟨by omega,fun h=>⟨fun _ _ _=>by omega,?_⟩,fun h=>⟨fun _ _ _=>by omega,?_⟩,fun h=>⟨fun _ _ _=>by omega,?_⟩,fun h=>⟨fun _ _ _=>by omega,?_⟩⟩
  all_goals
   have h:=of_decide_eq_true h
   rw [h]
  ·simp [setHas2,show ¬ i < 0 by omega,show i < 64 by omega,bitOf2,bne]
  ·simp [setHas2,show ¬ i < 0 by omega,show ¬ i < 64 by omega,show i < 128 by omega,bitOf2,bne]
  ·simp [setHas2,show ¬ i < 0 by omega,show ¬ i < 64 by omega,show ¬ i < 128 by omega,show i < 192 by omega,bitOf2,bne]
  ·simp [setHas2,show ¬ i < 0 by omega,show ¬ i < 64 by omega,show ¬ i < 128 by omega,show ¬ i < 192 by omega,show i < 256 by omega,bitOf2,bne]
 ·have g:=of_decide_eq_true g
  have g1:=of_decide_eq_false g1
  simp [setHas2,show ¬ i < 0 by omega,show ¬ i < 64 by omega,show ¬ i < 128 by omega,show ¬ i < 192 by omega,show ¬ i < 256 by omega]
 ·have g:=of_decide_eq_false g
  simp [setHas2,show i < 0 by omega]
end Go.Ev
set_option linter.unusedSimpArgs false
set_option linter.unusedVariables false
namespace Go.Ev.Pl
open Go Go.Ev
theorem wrapu (n:Int):IntKind.u64.wrap n=n % 2 ^ 64:=by
 simp [IntKind.wrap,IntKind.bits,IntKind.signed]
theorem and_pow (V k:Nat):V &&& 2 ^ k=(V / 2 ^ k % 2) * 2 ^ k:=by
 have hb:V.testBit k=decide (V / 2 ^ k % 2=1):=Nat.testBit_eq_decide_div_mod_eq
 have hlt:V / 2 ^ k % 2 < 2:=Nat.mod_lt _ (by omega)
 by_cases h:V / 2 ^ k % 2=1
 ·rw [h,Nat.one_mul]
  refine Nat.eq_of_testBit_eq fun j=>?_
  rw [Nat.testBit_and,Nat.testBit_two_pow]
  by_cases hj:k=j
  ·subst hj;rw [hb];simp [h]
  ·simp [hj]
 ·rw [show V / 2 ^ k % 2=0 by omega,Nat.zero_mul]
  refine Nat.eq_of_testBit_eq fun j=>?_
  rw [Nat.testBit_and,Nat.testBit_two_pow,Nat.zero_testBit]
  by_cases hj:k=j
  ·subst hj;rw [hb];simp [h]
  ·simp [hj]
theorem bit_eq (w i:Int) (h0:0≤i) (h1:i < 64):bitOf2 w i=bitOf w i:=by
 obtain ⟨k,rfl⟩:∃ k:Nat,i=k:=⟨i.toNat,by omega⟩
 have hk:k < 64:=by omega
 have hmin:min ((k:Int)).toNat IntKind.u64.bits=k:=by simp [IntKind.bits];omega
 have hb:IntKind.u64.bits=64:=rfl
 unfold bitOf2 bitOf
 rw [hmin,hb]
 simp only [wrapu,BitVec.toNat_and,BitVec.toNat_ofInt]
 obtain ⟨V,hV⟩:∃ V:Nat,w % 2 ^ 64=V:=⟨(w % 2 ^ 64).toNat,by omega⟩
 have e0:((2 ^ 64:Nat):Int)=2 ^ 64:=by norm_cast
 have h2k:(2:Int) ^ k=((2 ^ k:Nat):Int):=by norm_cast
 have hkk:2 ^ k < 2 ^ 64:=Nat.pow_lt_pow_right (by omega) hk
 have hkp:0 < 2 ^ k:=Nat.pow_pos (by omega)
 have hVlt:V < 2 ^ 64:=by omega
 have e1:(1 * 2 ^ k % 2 ^ 64 % ((2 ^ 64:Nat):Int)).toNat=2 ^ k:=by
  rw [e0,Int.one_mul,h2k];omega
 have e2:((1:Int) % ((2 ^ 64:Nat):Int)).toNat=1:=by rw [e0];rfl
 rw [e1,e2,e0,hV,Int.toNat_natCast,and_pow,Nat.and_one_is_mod]
 have hw:w=V+2 ^ 64 * (w / 2 ^ 64):=by have:=Int.emod_add_mul_ediv w (2 ^ 64);omega
 have hsplit:(2:Int) ^ 64=2 ^ k * (2 * 2 ^ (63 - k)):=by
  rw [← Int.mul_assoc,← Int.pow_succ,← Int.pow_add];congr 1;omega
 have hdiv:w.fdiv (2 ^ k)=((V / 2 ^ k:Nat):Int)+2 * (2 ^ (63 - k) * (w / 2 ^ 64)):=by
  rw [Int.fdiv_eq_ediv_of_nonneg _ (by rw [h2k];omega)]
  have:w=V+2 ^ k * (2 * (2 ^ (63 - k) * (w / 2 ^ 64))):=by
   rw [← Int.mul_assoc,← Int.mul_assoc,Int.mul_assoc (2 ^ k) 2,← hsplit];exact hw
  conv=>lhs;rw [this]
  rw [Int.add_mul_ediv_left _ _ (by rw [h2k];omega),h2k]
  norm_cast
 have hmod:(w.fdiv (2 ^ k) % 2 ^ 64).toNat % 2=V / 2 ^ k % 2:=by
  rw [hdiv]
  generalize 2 ^ (63 - k) * (w / 2 ^ 64)=Z
  omega
 rw [hmod]
 have:V / 2 ^ k % 2 < 2:=Nat.mod_lt _ (by omega)
 by_cases hbit:V / 2 ^ k % 2=1
 ·rw [hbit];simp;omega
 ·have:V / 2 ^ k % 2=0:=by omega
  rw [this];simp
theorem has2_eq (s:arr4_uint64) (i:Int):setHas2 s i=setHas s i:=by
 unfold setHas2 setHas
 split
 ·rfl
 ·split
  ·exact bit_eq _ _ (by omega) (by omega)
  ·split
   ·exact bit_eq _ _ (by omega) (by omega)
   ·split
    ·exact bit_eq _ _ (by omega) (by omega)
    ·split
     ·exact bit_eq _ _ (by omega) (by omega)
     ·rfl
theorem setHas_ok (s:arr4_uint64) (i:Int):C_set_Has s i (setHas s i):=by rw [← has2_eq];exact has2_ok s i
end Go.Ev.Pl
set_option linter.unusedSimpArgs false
set_option linter.unusedVariables false
namespace Go.Ev.Pl
open Go Go.Ev
theorem aheadL1_ok (p:api_Places) (s:ByteArray) (k i:Nat) (hk:k < p.Sets.length) (hi:i < s.size):C_split_ahead_L1 (k:Int) p s (i:Int) (setHas p.Sets[k] (bt s i)) p s (i:Int):=by
 refine W_split_ahead_L1 _ _ _ _ _ _ _ _ ⟨by omega,by omega,by omega,by omega,_,setHas_ok _ _,?_,rfl,rfl,rfl⟩
 rw [gd_nat hk];rfl
theorem boolsRefl_ok (a:List Bool) (ha:a.length < 1000000):C_heckleref15_Bools a a true:=by
 refine W_heckleref15_Bools a a _ ⟨fun h=>by simp at h,fun _=>⟨fun t=>∃ i:Nat,t=i∧i≤a.length,fun t=>(a.length - t).toNat,⟨0,rfl,by omega⟩,?_⟩⟩
 rintro t ⟨i,rfl,hi⟩
 refine ⟨fun ht=>?_,fun ht=>rfl⟩
 have ht:i < a.length:=by have:=of_decide_eq_true ht;omega
 have hw2:w64 ((i:Int)+1)=((i+1:Nat):Int):=w64_id (by omega) (by omega)
 rw [hw2]
 refine ⟨by omega,by omega,by omega,by omega,fun h=>?_,fun _=>⟨⟨i+1,rfl,by omega⟩,by first | omega | (dsimp only;omega)⟩⟩
 cases hg:gd a (i:Int)<;>rw [hg] at h<;>simp at h
end Go.Ev.Pl
set_option linter.unusedSimpArgs false
set_option linter.unusedVariables false
namespace Go.Ev.Pl
open Go Go.Ev
section
variable {N M h : Nat} {B B' : Nat → Int}
theorem hdS_sub (hM:h+M≤N) (hB:∀ i,i < M→B' i=B (h+i)) {sets:List arr4_uint64} {p i:Nat}:hdS M B' sets p i↔i < M∧hdS N B sets p (h+i):=by
 constructor
 ·rintro ⟨h1,s,h2,h3⟩
  exact ⟨h1,by omega,s,h2,by rw [← hB i h1];exact h3⟩
 ·rintro ⟨h1,_,s,h2,h3⟩
  exact ⟨h1,s,h2,by rw [hB i h1];exact h3⟩
theorem pth_sub1 (hM:h+M≤N) (hB:∀ i,i < M→B' i=B (h+i)) {sets:List arr4_uint64} {last:Nat→Bool} {fo:Nat→Nat→Bool} {p i j:Nat} (hp:Pth M B' sets last fo p i j):Pth N B sets last fo p (h+i) (h+j):=by
 induction hp with
 | last h1 hl=>exact .last ((hdS_sub hM hB).1 h1).2 hl
 | step h1 hf _ ih=>exact .step ((hdS_sub hM hB).1 h1).2 hf ih
theorem pth_sub2 (hM:h+M≤N) (hB:∀ i,i < M→B' i=B (h+i)) {sets:List arr4_uint64} {last:Nat→Bool} {fo:Nat→Nat→Bool} {p a b:Nat} (hp:Pth N B sets last fo p a b):∀ i j,a=h+i→b=h+j→j≤M→Pth M B' sets last fo p i j:=by
 induction hp with
 | last h1 hl=>
   intro i j e1 e2 hj
   obtain rfl:j=i+1:=by omega
   exact .last ((hdS_sub hM hB).2 ⟨by omega,by rw [← e1];exact h1⟩) hl
 | step h1 hf hp ih=>
   intro i j e1 e2 hj
   have:=pth_lt hp
   exact .step ((hdS_sub hM hB).2 ⟨by omega,by rw [← e1];exact h1⟩) hf (ih (i+1) j (by omega) e2 hj)
theorem acc_sub (hM:h+M≤N) (hB:∀ i,i < M→B' i=B (h+i)) {g:GA} {i j:Nat} (hj:j≤M):acc M B' g i j↔acc N B g (h+i) (h+j):=by
 constructor
 ·rintro (⟨h1,rfl⟩ | ⟨p,h1,h2⟩)
  ·exact .inl ⟨h1,rfl⟩
  ·exact .inr ⟨p,h1,pth_sub1 hM hB h2⟩
 ·rintro (⟨h1,e⟩ | ⟨p,h1,h2⟩)
  ·exact .inl ⟨h1,by omega⟩
  ·exact .inr ⟨p,h1,pth_sub2 hM hB h2 _ _ rfl rfl hj⟩
def Rch (N:Nat) (B:Nat→Int) (g:GA):Nat→Nat→Prop
 | 0,p=>g.first p=true
 | m+1,q=>∃ p,Rch N B g m p∧hdS N B g.sets p m∧g.follow p q=true
theorem rch_acc {g:GA} {j:Nat}:∀ {m:Nat},m < j→(acc N B g 0 j↔∃ p,Rch N B g m p∧Pth N B g.sets g.last g.follow p m j)
 | 0,h=>by
   constructor
   ·rintro (⟨_,e⟩ | h)
    ·omega
    ·exact h
   ·exact fun h=>.inr h
 | m+1,h=>by
   rw [rch_acc (show m < j by omega)]
   constructor
   ·rintro ⟨p,h1,h2⟩
    cases h2 with
    | last=>omega
    | step hd hf hp=>exact ⟨_,⟨p,h1,hd,hf⟩,hp⟩
   ·rintro ⟨q,⟨p,h1,hd,hf⟩,hp⟩
    exact ⟨p,h1,.step hd hf hp⟩
theorem rch_last {g:GA} {m:Nat}:acc N B g 0 (m+1)↔∃ p,Rch N B g m p∧hdS N B g.sets p m∧g.last p=true:=by
 rw [rch_acc (Nat.lt_succ_self m)]
 constructor
 ·rintro ⟨p,h1,h2⟩
  cases h2 with
  | last hd hl=>exact ⟨p,h1,hd,hl⟩
  | step hd hf hp=>have:=pth_lt hp;omega
 ·rintro ⟨p,h1,hd,hl⟩
  exact ⟨p,h1,.last hd hl⟩
theorem acc_zero {g:GA}:acc N B g 0 0↔g.null=true:=by
 constructor
 ·rintro (⟨h,_⟩ | ⟨p,_,h⟩)
  ·exact h
  ·have:=pth_lt h;omega
 ·exact fun h=>.inl ⟨h,rfl⟩
end
noncomputable def ahd (x:api_Rx) (s:ByteArray):List Bool:=(List.range (s.size+1)).map (accB s (gof x))
theorem ahd_len (x:api_Rx) (s:ByteArray):(ahd x s).length=s.size+1:=by simp [ahd]
theorem ahd_get (x:api_Rx) (s:ByteArray) {i:Nat} (h:i < s.size+1):gd (ahd x s) (i:Int)=accB s (gof x) i:=by
 simp [gd,ahd,h]
end Go.Ev.Pl
