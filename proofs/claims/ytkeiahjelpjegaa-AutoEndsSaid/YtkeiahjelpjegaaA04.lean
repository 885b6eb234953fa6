import Derived.Test.YtkeiahjelpjegaaA03
set_option linter.unusedSimpArgs false
set_option linter.unusedVariables false
namespace Go.Ev
open Go Go.Proofs
set_option maxRecDepth 8000
set_option maxHeartbeats 1000000 in
theorem W_hecklelaw06_Made (l:(List Int)) (plain:Bool) (res:api_Spec)
 (h:(∃ J2:List Int→Prop,(∀ (l_1:List Int),J2 l_1→(∃ r0:Int,∃ o:hecklelaw03_Maker,C_hecklelaw03_Maker_Pick 3 ({ L:=l_1,At:=(0:Int) }) r0 o∧(∃ r0_1:Int,∃ o_1:hecklelaw03_Maker,C_hecklelaw03_Maker_Pick 2 o r0_1 o_1∧((0:Int)≤w64 ((1:Int)+r0)∧Int.toNat (w64 ((1:Int)+r0))≤(3:Nat))∧(∃ r0_2:Int,∃ o_2:hecklelaw03_Maker,C_hecklelaw03_Maker_Pick 3 o_1 r0_2 o_2∧(∃ r0_3:Int,∃ o_3:hecklelaw03_Maker,C_hecklelaw03_Maker_Pick 4 o_2 r0_3 o_3∧(∃ (Inv13:List api_Rule→Int→List Int→Int→Prop) (mu14:List api_Rule→Int→List Int→Int→Nat),Inv13 ([]) (w64 ((1:Int)+r0_3)) (hecklelaw03_Maker.L o_3) (hecklelaw03_Maker.At o_3)∧(∀ (s_Rules:List api_Rule) (i:Int) (t32_L:List Int) (t32_At:Int),Inv13 s_Rules i t32_L t32_At→(((decide (i > (0:Int)))=true→(∃ r0_6:api_Rule,∃ o_6:hecklelaw03_Maker,C_hecklelaw06_rule (w64 ((1:Int)+r0)) plain ({ L:=t32_L,At:=t32_At }) r0_6 o_6∧((List.length s_Rules+(1:Nat)) * (216:Nat)≤(2:Nat) ^ (47:Nat))∧(Inv13 (s_Rules++[r0_6]) (w64 (i - 1)) (hecklelaw03_Maker.L o_6) (hecklelaw03_Maker.At o_6)∧mu14 (s_Rules++[r0_6]) (w64 (i - 1)) (hecklelaw03_Maker.L o_6) (hecklelaw03_Maker.At o_6) < mu14 s_Rules i t32_L t32_At)))∧((decide (i > (0:Int)))=false→(res=({ Conds:=List.take (Int.toNat (w64 ((1:Int)+r0))) [{ Name:={ data:=#[(73:UInt8),(78:UInt8),(73:UInt8),(84:UInt8),(73:UInt8),(65:UInt8),(76:UInt8)] },Exclusive:=false },{ Name:={ data:=#[(66:UInt8)] },Exclusive:=r0_1 == 1 },{ Name:={ data:=#[(67:UInt8),(95:UInt8),(49:UInt8)] },Exclusive:=false }],Default:=decide (r0_2 > (0:Int)),Rules:=s_Rules })))))))))))∧(((decide ((↑(List.length l):Int) > (60:Int)))=true→((0:Int)≤(60:Int)∧Int.toNat (60:Int)≤List.length l∧List.all (List.map enc_u8 l) (FV.fits (1:Nat))=true)∧J2 (List.take (Int.toNat (60:Int)) l))∧((decide ((↑(List.length l):Int) > (60:Int)))=false→J2 l)))):C_hecklelaw06_Made l plain res:=by
 unfold C_hecklelaw06_Made
 have kk:=cfOk [49] 50
 refine fD (x:=bodyOf Try.f8) kk Try.func8 ?_
 refine wkS [1,4] [(1,vL enc_u8 l),(4,vB plain)] (by kernel_rfl) ?_
 refine sDE kk [] [] [(13,.ptr 26 0),(26,.agg [.own 69 ([]),vB false,.own 38 ([])])] [(13,.ptr 26 0),(26,.agg [oL 69 enc_api_Cond ([]),vB false,oL 38 enc_api_Rule ([])])] obN ?_
 obtain ⟨J2,hJ2,h⟩:=h
 refine sjD (fun (q:List Int)=>J2 q) (fun (q:List Int)=>(fun (l_1:List Int)=>([(1,vL enc_u8 l_1),(4,vB plain),(13,.ptr 26 0),(26,.agg [oL 69 enc_api_Cond ([]),vB false,oL 38 enc_api_Rule ([])])]:Sta)) q) ?_ ?_
 ·rintro l_1 hj
  have h:=hJ2 l_1 hj
  refine sD kk [] [1] [(16,.ptr 98 0),(98,.agg [vL enc_u8 l_1,vi 0])] obN ?_
  obtain ⟨r0,o,hc3,h⟩:=h
  refine sD kk [.c (vi r0) [av_hecklelaw03_Maker o]] [] [(19,vi (w64 ((1:Int)+r0))),(98,av_hecklelaw03_Maker o)] (obC hc3 obN) ?_
  obtain ⟨r0_1,o_1,hc4,h⟩:=h
  obtain ⟨h5,h⟩:=h
  obtain ⟨r0_2,o_2,hc6,h⟩:=h
  refine sDE kk [.c (vi r0_1) [av_hecklelaw03_Maker o_1],.c (vi r0_2) [av_hecklelaw03_Maker o_2]] [] [(22,.ptr 44 0),(44,.agg [.f (FV.sl (List.take (Int.toNat (w64 ((1:Int)+r0))) (List.drop (0:Nat) [FV.agg [FV.pv (Value.string { data:=#[(73:UInt8),(78:UInt8),(73:UInt8),(84:UInt8),(73:UInt8),(65:UInt8),(76:UInt8)] }),FV.pv (Value.bool false)],FV.agg [FV.pv (Value.string { data:=#[(66:UInt8)] }),FV.pv (Value.bool (r0_1 == 1))],FV.agg [FV.pv (Value.string { data:=#[(67:UInt8),(95:UInt8),(49:UInt8)] }),FV.pv (Value.bool false)]]))),vB (decide (r0_2 > (0:Int))),.own 38 ([])]),(98,av_hecklelaw03_Maker o_2)] [(22,.ptr 44 0),(44,.agg [vL enc_api_Cond (List.take (Int.toNat (w64 ((1:Int)+r0))) [{ Name:={ data:=#[(73:UInt8),(78:UInt8),(73:UInt8),(84:UInt8),(73:UInt8),(65:UInt8),(76:UInt8)] },Exclusive:=false },{ Name:={ data:=#[(66:UInt8)] },Exclusive:=r0_1 == 1 },{ Name:={ data:=#[(67:UInt8),(95:UInt8),(49:UInt8)] },Exclusive:=false }]),vB (decide (r0_2 > (0:Int))),oL 38 enc_api_Rule ([])]),(98,av_hecklelaw03_Maker o_2)] (obC hc4 (obC (show True∧(0:Int)≤w64 ((1:Int)+r0)∧(0:Nat)=(0:Nat)∧Int.toNat (w64 ((1:Int)+r0))≤(3:Nat) from by simpa only [nm] using h5) (obC hc6 obN))) ?_
  refine qD ?_
  obtain ⟨r0_3,o_3,hc7,h⟩:=h
  refine sD kk [.c (vi r0_3) [av_hecklelaw03_Maker o_3]] [] [(25,vi (w64 ((1:Int)+r0_3))),(98,av_hecklelaw03_Maker o_3)] (obC hc7 obN) ?_
  refine bD (id:=0) ?_
  obtain ⟨Inv13,mu14,h0Inv13,hInv13⟩:=h
  refine loD (fun (q:List api_Rule×Int×List Int×Int)=>(fun (s_Rules:List api_Rule) (i:Int) (t32_L:List Int) (t32_At:Int)=>([(4,vB plain),(13,.ptr 26 0),(16,.ptr 98 0),(19,vi (w64 ((1:Int)+r0))),(22,.ptr 44 0),(25,vi i),(26,.agg [oL 69 enc_api_Cond ([]),vB false,oL 38 enc_api_Rule ([])]),(44,.agg [vL enc_api_Cond (List.take (Int.toNat (w64 ((1:Int)+r0))) [{ Name:={ data:=#[(73:UInt8),(78:UInt8),(73:UInt8),(84:UInt8),(73:UInt8),(65:UInt8),(76:UInt8)] },Exclusive:=false },{ Name:={ data:=#[(66:UInt8)] },Exclusive:=r0_1 == 1 },{ Name:={ data:=#[(67:UInt8),(95:UInt8),(49:UInt8)] },Exclusive:=false }]),vB (decide (r0_2 > (0:Int))),oL 38 enc_api_Rule s_Rules]),(98,.agg [vL enc_u8 t32_L,vi t32_At])]:Sta)) q.1 q.2.1 q.2.2.1 q.2.2.2) (fun (q:List api_Rule×Int×List Int×Int)=>Inv13 q.1 q.2.1 q.2.2.1 q.2.2.2) (fun (q:List api_Rule×Int×List Int×Int)=>mu14 q.1 q.2.1 q.2.2.1 q.2.2.2) (([]),(w64 ((1:Int)+r0_3)),(hecklelaw03_Maker.L o_3),(hecklelaw03_Maker.At o_3)) [] h0Inv13 ?_
  rintro ⟨s_Rules,i,t32_L,t32_At⟩ hi
  have h:=hInv13 s_Rules i t32_L t32_At hi
  refine qD ?_
  refine sD kk [] [] [(112,vB (decide (i > (0:Int))))] obN ?_
  refine cD (t:=37) (b:=decide (i > (0:Int))) (fun hb15=>?_) (fun hb15=>?_)
  ·have h:=h.1 hb15
   refine Sem.skip' (by kernel_rfl) Wk.refl ?_
   show Sem _ _ _ _ _
   refine wkD [112] ?_
   refine qD ?_
   refine bD (id:=1) ?_
   obtain ⟨r0_6,o_6,hc16,h⟩:=h
   obtain ⟨h17,h⟩:=h
   refine rDE kk [.c (.agg [oL 3 enc_i64 (api_Rule.Conds r0_6),vB (api_Rule.All r0_6),vB (api_Rule.Bol r0_6),vi (api_Rx.Kind (api_Rule.Rx r0_6)),vI .u64 (arr4_uint64.e0 (api_Rx.Set (api_Rule.Rx r0_6))),vI .u64 (arr4_uint64.e1 (api_Rx.Set (api_Rule.Rx r0_6))),vI .u64 (arr4_uint64.e2 (api_Rx.Set (api_Rule.Rx r0_6))),vI .u64 (arr4_uint64.e3 (api_Rx.Set (api_Rule.Rx r0_6))),vi (api_Rx.Lo (api_Rule.Rx r0_6)),vi (api_Rx.Hi (api_Rule.Rx r0_6)),vL enc_api_Rx (api_Rx.Kids (api_Rule.Rx r0_6)),vi (api_Rx.Kind (api_Rule.Trail r0_6)),vI .u64 (arr4_uint64.e0 (api_Rx.Set (api_Rule.Trail r0_6))),vI .u64 (arr4_uint64.e1 (api_Rx.Set (api_Rule.Trail r0_6))),vI .u64 (arr4_uint64.e2 (api_Rx.Set (api_Rule.Trail r0_6))),vI .u64 (arr4_uint64.e3 (api_Rx.Set (api_Rule.Trail r0_6))),vi (api_Rx.Lo (api_Rule.Trail r0_6)),vi (api_Rx.Hi (api_Rule.Trail r0_6)),vL enc_api_Rx (api_Rx.Kids (api_Rule.Trail r0_6)),vB (api_Rule.Eof r0_6),vi (api_Rule.Act r0_6),vi (api_Rule.To r0_6)]) [av_hecklelaw03_Maker o_6]] [] [(44,.agg [vL enc_api_Cond (List.take (Int.toNat (w64 ((1:Int)+r0))) [{ Name:={ data:=#[(73:UInt8),(78:UInt8),(73:UInt8),(84:UInt8),(73:UInt8),(65:UInt8),(76:UInt8)] },Exclusive:=false },{ Name:={ data:=#[(66:UInt8)] },Exclusive:=r0_1 == 1 },{ Name:={ data:=#[(67:UInt8),(95:UInt8),(49:UInt8)] },Exclusive:=false }]),vB (decide (r0_2 > (0:Int))),.own 38 (List.map enc_api_Rule s_Rules++List.take (List.length [FV.agg [FV.sl (List.take (List.length (List.map enc_i64 (api_Rule.Conds r0_6))) (List.drop (0:Nat) (List.map enc_i64 (api_Rule.Conds r0_6)))),FV.pv (Value.bool (api_Rule.All r0_6)),FV.pv (Value.bool (api_Rule.Bol r0_6)),FV.pv (Value.int IntKind.i64 (api_Rx.Kind (api_Rule.Rx r0_6))),FV.pv (Value.int IntKind.u64 (arr4_uint64.e0 (api_Rx.Set (api_Rule.Rx r0_6)))),FV.pv (Value.int IntKind.u64 (arr4_uint64.e1 (api_Rx.Set (api_Rule.Rx r0_6)))),FV.pv (Value.int IntKind.u64 (arr4_uint64.e2 (api_Rx.Set (api_Rule.Rx r0_6)))),FV.pv (Value.int IntKind.u64 (arr4_uint64.e3 (api_Rx.Set (api_Rule.Rx r0_6)))),FV.pv (Value.int IntKind.i64 (api_Rx.Lo (api_Rule.Rx r0_6))),FV.pv (Value.int IntKind.i64 (api_Rx.Hi (api_Rule.Rx r0_6))),FV.sl (List.map enc_api_Rx (api_Rx.Kids (api_Rule.Rx r0_6))),FV.pv (Value.int IntKind.i64 (api_Rx.Kind (api_Rule.Trail r0_6))),FV.pv (Value.int IntKind.u64 (arr4_uint64.e0 (api_Rx.Set (api_Rule.Trail r0_6)))),FV.pv (Value.int IntKind.u64 (arr4_uint64.e1 (api_Rx.Set (api_Rule.Trail r0_6)))),FV.pv (Value.int IntKind.u64 (arr4_uint64.e2 (api_Rx.Set (api_Rule.Trail r0_6)))),FV.pv (Value.int IntKind.u64 (arr4_uint64.e3 (api_Rx.Set (api_Rule.Trail r0_6)))),FV.pv (Value.int IntKind.i64 (api_Rx.Lo (api_Rule.Trail r0_6))),FV.pv (Value.int IntKind.i64 (api_Rx.Hi (api_Rule.Trail r0_6))),FV.sl (List.map enc_api_Rx (api_Rx.Kids (api_Rule.Trail r0_6))),FV.pv (Value.bool (api_Rule.Eof r0_6)),FV.pv (Value.int IntKind.i64 (api_Rule.Act r0_6)),FV.pv (Value.int IntKind.i64 (api_Rule.To r0_6))]]) (List.drop (0:Nat) [FV.agg [FV.sl (List.take (List.length (List.map enc_i64 (api_Rule.Conds r0_6))) (List.drop (0:Nat) (List.map enc_i64 (api_Rule.Conds r0_6)))),FV.pv (Value.bool (api_Rule.All r0_6)),FV.pv (Value.bool (api_Rule.Bol r0_6)),FV.pv (Value.int IntKind.i64 (api_Rx.Kind (api_Rule.Rx r0_6))),FV.pv (Value.int IntKind.u64 (arr4_uint64.e0 (api_Rx.Set (api_Rule.Rx r0_6)))),FV.pv (Value.int IntKind.u64 (arr4_uint64.e1 (api_Rx.Set (api_Rule.Rx r0_6)))),FV.pv (Value.int IntKind.u64 (arr4_uint64.e2 (api_Rx.Set (api_Rule.Rx r0_6)))),FV.pv (Value.int IntKind.u64 (arr4_uint64.e3 (api_Rx.Set (api_Rule.Rx r0_6)))),FV.pv (Value.int IntKind.i64 (api_Rx.Lo (api_Rule.Rx r0_6))),FV.pv (Value.int IntKind.i64 (api_Rx.Hi (api_Rule.Rx r0_6))),FV.sl (List.map enc_api_Rx (api_Rx.Kids (api_Rule.Rx r0_6))),FV.pv (Value.int IntKind.i64 (api_Rx.Kind (api_Rule.Trail r0_6))),FV.pv (Value.int IntKind.u64 (arr4_uint64.e0 (api_Rx.Set (api_Rule.Trail r0_6)))),FV.pv (Value.int IntKind.u64 (arr4_uint64.e1 (api_Rx.Set (api_Rule.Trail r0_6)))),FV.pv (Value.int IntKind.u64 (arr4_uint64.e2 (api_Rx.Set (api_Rule.Trail r0_6)))),FV.pv (Value.int IntKind.u64 (arr4_uint64.e3 (api_Rx.Set (api_Rule.Trail r0_6)))),FV.pv (Value.int IntKind.i64 (api_Rx.Lo (api_Rule.Trail r0_6))),FV.pv (Value.int IntKind.i64 (api_Rx.Hi (api_Rule.Trail r0_6))),FV.sl (List.map enc_api_Rx (api_Rx.Kids (api_Rule.Trail r0_6))),FV.pv (Value.bool (api_Rule.Eof r0_6)),FV.pv (Value.int IntKind.i64 (api_Rule.Act r0_6)),FV.pv (Value.int IntKind.i64 (api_Rule.To r0_6))]]))]),(98,av_hecklelaw03_Maker o_6)] [(44,.agg [vL enc_api_Cond (List.take (Int.toNat (w64 ((1:Int)+r0))) [{ Name:={ data:=#[(73:UInt8),(78:UInt8),(73:UInt8),(84:UInt8),(73:UInt8),(65:UInt8),(76:UInt8)] },Exclusive:=false },{ Name:={ data:=#[(66:UInt8)] },Exclusive:=r0_1 == 1 },{ Name:={ data:=#[(67:UInt8),(95:UInt8),(49:UInt8)] },Exclusive:=false }]),vB (decide (r0_2 > (0:Int))),oL 38 enc_api_Rule (s_Rules++[r0_6])]),(98,av_hecklelaw03_Maker o_6)] (obC hc16 (obC (show (0:Nat)=(0:Nat)∧List.length (List.map enc_api_Rule s_Rules)=List.length (List.map enc_api_Rule s_Rules) from ⟨rfl,rfl⟩) (obC (show (List.length (List.map enc_api_Rule s_Rules)+List.length (List.take (1:Nat) (List.drop (0:Nat) [FV.agg [FV.sl (List.take (List.length (List.map enc_i64 (api_Rule.Conds r0_6))) (List.drop (0:Nat) (List.map enc_i64 (api_Rule.Conds r0_6)))),FV.pv (Value.bool (api_Rule.All r0_6)),FV.pv (Value.bool (api_Rule.Bol r0_6)),FV.pv (Value.int IntKind.i64 (api_Rx.Kind (api_Rule.Rx r0_6))),FV.pv (Value.int IntKind.u64 (arr4_uint64.e0 (api_Rx.Set (api_Rule.Rx r0_6)))),FV.pv (Value.int IntKind.u64 (arr4_uint64.e1 (api_Rx.Set (api_Rule.Rx r0_6)))),FV.pv (Value.int IntKind.u64 (arr4_uint64.e2 (api_Rx.Set (api_Rule.Rx r0_6)))),FV.pv (Value.int IntKind.u64 (arr4_uint64.e3 (api_Rx.Set (api_Rule.Rx r0_6)))),FV.pv (Value.int IntKind.i64 (api_Rx.Lo (api_Rule.Rx r0_6))),FV.pv (Value.int IntKind.i64 (api_Rx.Hi (api_Rule.Rx r0_6))),FV.sl (List.map enc_api_Rx (api_Rx.Kids (api_Rule.Rx r0_6))),FV.pv (Value.int IntKind.i64 (api_Rx.Kind (api_Rule.Trail r0_6))),FV.pv (Value.int IntKind.u64 (arr4_uint64.e0 (api_Rx.Set (api_Rule.Trail r0_6)))),FV.pv (Value.int IntKind.u64 (arr4_uint64.e1 (api_Rx.Set (api_Rule.Trail r0_6)))),FV.pv (Value.int IntKind.u64 (arr4_uint64.e2 (api_Rx.Set (api_Rule.Trail r0_6)))),FV.pv (Value.int IntKind.u64 (arr4_uint64.e3 (api_Rx.Set (api_Rule.Trail r0_6)))),FV.pv (Value.int IntKind.i64 (api_Rx.Lo (api_Rule.Trail r0_6))),FV.pv (Value.int IntKind.i64 (api_Rx.Hi (api_Rule.Trail r0_6))),FV.sl (List.map enc_api_Rx (api_Rx.Kids (api_Rule.Trail r0_6))),FV.pv (Value.bool (api_Rule.Eof r0_6)),FV.pv (Value.int IntKind.i64 (api_Rule.Act r0_6)),FV.pv (Value.int IntKind.i64 (api_Rule.To r0_6))]]))) * (216:Nat)≤(2:Nat) ^ (47:Nat) from by simpa only [nm] using h17) (obC (show List.all (List.take (1:Nat) (List.drop (0:Nat) [FV.agg [FV.sl (List.take (List.length (List.map enc_i64 (api_Rule.Conds r0_6))) (List.drop (0:Nat) (List.map enc_i64 (api_Rule.Conds r0_6)))),FV.pv (Value.bool (api_Rule.All r0_6)),FV.pv (Value.bool (api_Rule.Bol r0_6)),FV.pv (Value.int IntKind.i64 (api_Rx.Kind (api_Rule.Rx r0_6))),FV.pv (Value.int IntKind.u64 (arr4_uint64.e0 (api_Rx.Set (api_Rule.Rx r0_6)))),FV.pv (Value.int IntKind.u64 (arr4_uint64.e1 (api_Rx.Set (api_Rule.Rx r0_6)))),FV.pv (Value.int IntKind.u64 (arr4_uint64.e2 (api_Rx.Set (api_Rule.Rx r0_6)))),FV.pv (Value.int IntKind.u64 (arr4_uint64.e3 (api_Rx.Set (api_Rule.Rx r0_6)))),FV.pv (Value.int IntKind.i64 (api_Rx.Lo (api_Rule.Rx r0_6))),FV.pv (Value.int IntKind.i64 (api_Rx.Hi (api_Rule.Rx r0_6))),FV.sl (List.map enc_api_Rx (api_Rx.Kids (api_Rule.Rx r0_6))),FV.pv (Value.int IntKind.i64 (api_Rx.Kind (api_Rule.Trail r0_6))),FV.pv (Value.int IntKind.u64 (arr4_uint64.e0 (api_Rx.Set (api_Rule.Trail r0_6)))),FV.pv (Value.int IntKind.u64 (arr4_uint64.e1 (api_Rx.Set (api_Rule.Trail r0_6)))),FV.pv (Value.int IntKind.u64 (arr4_uint64.e2 (api_Rx.Set (api_Rule.Trail r0_6)))),FV.pv (Value.int IntKind.u64 (arr4_uint64.e3 (api_Rx.Set (api_Rule.Trail r0_6)))),FV.pv (Value.int IntKind.i64 (api_Rx.Lo (api_Rule.Trail r0_6))),FV.pv (Value.int IntKind.i64 (api_Rx.Hi (api_Rule.Trail r0_6))),FV.sl (List.map enc_api_Rx (api_Rx.Kids (api_Rule.Trail r0_6))),FV.pv (Value.bool (api_Rule.Eof r0_6)),FV.pv (Value.int IntKind.i64 (api_Rule.Act r0_6)),FV.pv (Value.int IntKind.i64 (api_Rule.To r0_6))]])) (FV.fits (22:Nat))=true from by first | exact fits_i64 _ | exact keysenc_i64 _ | rfl | simp [isByteF,FV.fits,FV.size,FV.cells,FV.one,enc_api_Rx_eq,enc_i64]) obN)))) ?_
   show Sem _ _ _ _ _
   refine rD kk [] [] [(25,vi (w64 (i - 1)))] obN ?_
   exact lD ((s_Rules++[r0_6]),(w64 (i - 1)),(hecklelaw03_Maker.L o_6),(hecklelaw03_Maker.At o_6)) [] h
  ·have h:=h.2 hb15
   refine xD (i:=0) ?_
   show Sem _ _ _ _ _
   refine wkD [4,16,19,25,98,112] ?_
   refine sD kk [] [22,44] [(26,.agg [vL enc_api_Cond (List.take (Int.toNat (w64 ((1:Int)+r0))) [{ Name:={ data:=#[(73:UInt8),(78:UInt8),(73:UInt8),(84:UInt8),(73:UInt8),(65:UInt8),(76:UInt8)] },Exclusive:=false },{ Name:={ data:=#[(66:UInt8)] },Exclusive:=r0_1 == 1 },{ Name:={ data:=#[(67:UInt8),(95:UInt8),(49:UInt8)] },Exclusive:=false }]),vB (decide (r0_2 > (0:Int))),oL 38 enc_api_Rule s_Rules])] (obC (show (0:Nat)=(0:Nat)∧List.length (List.map enc_api_Rule s_Rules)=List.length (List.map enc_api_Rule s_Rules) from ⟨rfl,rfl⟩) obN) ?_
   refine tD ?_
   obtain he0:=h
   subst res
   exact (endD [] (.agg [vL enc_api_Cond (List.take (Int.toNat (w64 ((1:Int)+r0))) [{ Name:={ data:=#[(73:UInt8),(78:UInt8),(73:UInt8),(84:UInt8),(73:UInt8),(65:UInt8),(76:UInt8)] },Exclusive:=false },{ Name:={ data:=#[(66:UInt8)] },Exclusive:=r0_1 == 1 },{ Name:={ data:=#[(67:UInt8),(95:UInt8),(49:UInt8)] },Exclusive:=false }]),vB (decide (r0_2 > (0:Int))),oL 38 enc_api_Rule s_Rules]) []).1
 ·refine sDE kk [] [] [(34,vB (decide ((↑(List.length (List.map enc_u8 l)):Int) > (60:Int))))] [(34,vB (decide ((↑(List.length l):Int) > (60:Int))))] obN ?_
  refine cD (t:=11) (b:=decide ((↑(List.length l):Int) > (60:Int))) (fun hb18=>?_) (fun hb18=>?_)
  ·have h:=h.1 hb18
   obtain ⟨h19,h⟩:=h
   refine rDE kk [] [34] [(1,.f (FV.sl (List.take (Int.toNat (60:Int) - (0:Nat)) (List.drop (0:Nat) (List.map enc_u8 l)))))] [(1,vL enc_u8 (List.take (Int.toNat (60:Int)) l))] (obC (show True∧(0:Int)≤(60:Int)∧(0:Nat)≤Int.toNat (60:Int)∧Int.toNat (60:Int)≤List.length (List.map enc_u8 l)∧List.all (List.map enc_u8 l) (FV.fits (1:Nat))=true from by simpa only [nm] using h19) obN) ?_
   exact jD (List.take (Int.toNat (60:Int)) l) [] h
  ·have h:=h.2 hb18
   refine Sem.skip' (by kernel_rfl) Wk.refl ?_
   exact jD l [] h
set_option maxHeartbeats 1000000 in
theorem W_spec_rule_holds (r0:spec_rule) (conds:Int) (res:Bool)
 (h:(∃ (Inv14:Int→Prop) (mu15:Int→Nat),Inv14 0∧(∀ (t10:Int),Inv14 t10→(((decide (t10 < (↑(List.length (spec_rule.Conds r0)):Int)))=true→((0:Int)≤t10)∧t10 < ↑(List.length (spec_rule.Conds r0))∧((decide (gd (spec_rule.Conds r0) t10 < (0:Int)))=false→((decide (gd (spec_rule.Conds r0) t10≥conds))=false→((decide (t10 > (0:Int)))=true→((0:Int)≤w64 (t10 - 1)))))∧((decide (gd (spec_rule.Conds r0) t10 < (0:Int)))=false→((decide (gd (spec_rule.Conds r0) t10≥conds))=false→((decide (t10 > (0:Int)))=true→w64 (t10 - 1) < ↑(List.length (spec_rule.Conds r0)))))∧(((decide (gd (spec_rule.Conds r0) t10 < (0:Int)) || (decide (gd (spec_rule.Conds r0) t10≥conds) || decide (t10 > (0:Int)) && decide (gd (spec_rule.Conds r0) t10≤gd (spec_rule.Conds r0) (w64 (t10 - 1)))))=true→(res=false))∧((decide (gd (spec_rule.Conds r0) t10 < (0:Int)) || (decide (gd (spec_rule.Conds r0) t10≥conds) || decide (t10 > (0:Int)) && decide (gd (spec_rule.Conds r0) t10≤gd (spec_rule.Conds r0) (w64 (t10 - 1)))))=false→(Inv14 (w64 (t10+1))∧mu15 (w64 (t10+1)) < mu15 t10))))∧((decide (t10 < (↑(List.length (spec_rule.Conds r0)):Int)))=false→(res=(!spec_rule.All r0 || (↑(List.length (spec_rule.Conds r0)):Int) == 0))))))):C_spec_rule_holds r0 conds res:=by
 unfold C_spec_rule_holds
 have kk:=cfOk [] 46
 refine fD (x:=bodyOf Try.f82) kk Try.func82 ?_
 refine wkS [1,4] [(1,av_spec_rule r0),(4,vi conds)] (by kernel_rfl) ?_
 refine sD kk [] [1] [(7,.ptr 14 0),(14,av_spec_rule r0)] obN ?_
 refine qD ?_
 refine sDE kk [] [] [(25,vL enc_i64 (spec_rule.Conds r0)),(28,vi ((↑(List.length (List.map enc_i64 (spec_rule.Conds r0))):Int))),(31,vi 0)] [(25,vL enc_i64 (spec_rule.Conds r0)),(28,vi ((↑(List.length (spec_rule.Conds r0)):Int))),(31,vi 0)] obN ?_
 refine bD (id:=0) ?_
 obtain ⟨Inv14,mu15,h0Inv14,hInv14⟩:=h
 refine loD (fun (q:Int)=>(fun (t10:Int)=>([(4,vi conds),(7,.ptr 14 0),(14,av_spec_rule r0),(25,vL enc_i64 (spec_rule.Conds r0)),(28,vi ((↑(List.length (spec_rule.Conds r0)):Int))),(31,vi t10)]:Sta)) q) (fun (q:Int)=>Inv14 q) (fun (q:Int)=>mu15 q) 0 [] h0Inv14 ?_
 rintro t10 hi
 have h:=hInv14 t10 hi
 refine sD kk [] [] [(34,vB (decide (t10 < (↑(List.length (spec_rule.Conds r0)):Int))))] obN ?_
 refine qD ?_
 refine cD (t:=11) (b:=decide (t10 < (↑(List.length (spec_rule.Conds r0)):Int))) (fun hb16=>?_) (fun hb16=>?_)
 ·have h:=h.1 hb16
  refine Sem.skip' (by kernel_rfl) Wk.refl ?_
  show Sem _ _ _ _ _
  refine wkD [34] ?_
  refine qD ?_
  refine bD (id:=1) ?_
  obtain ⟨h17,h⟩:=h
  obtain ⟨h18,h⟩:=h
  refine sD kk [.e (fi (gd (spec_rule.Conds r0) t10))] [] [(16,vi t10),(19,vi (gd (spec_rule.Conds r0) t10))] (obC h17 (obC (idx_ok enc_i64 (spec_rule.Conds r0) t10 _ rfl h17 h18) obN)) ?_
  obtain ⟨h22,h23,h⟩:=h
  refine sM [16,19] [(106,vB (decide (gd (spec_rule.Conds r0) t10 < (0:Int)) || (decide (gd (spec_rule.Conds r0) t10≥conds) || decide (t10 > (0:Int)) && decide (gd (spec_rule.Conds r0) t10≤gd (spec_rule.Conds r0) (w64 (t10 - 1))))))] ?_ (fun hk0=>?_)
  ·refine cD (t:=35) (b:=decide (gd (spec_rule.Conds r0) t10 < (0:Int)) || (decide (gd (spec_rule.Conds r0) t10≥conds) || decide (t10 > (0:Int)) && decide (gd (spec_rule.Conds r0) t10≤gd (spec_rule.Conds r0) (w64 (t10 - 1))))) (fun hb24=>?_) (fun hb24=>?_)
   ·have h:=h.1 hb24
    refine sD kk [] [4,7,14,25,28,31,106] [(13,vB false)] obN ?_
    refine tD ?_
    obtain he0:=h
    subst res
    exact (endD [] (vB false) []).1
   ·have h:=h.2 hb24
    refine Sem.skip' (by kernel_rfl) Wk.refl ?_
    show Sem _ _ _ _ _
    refine wkD [106] ?_
    refine rD kk [] [] [(31,vi (w64 (t10+1)))] obN ?_
    exact lD (w64 (t10+1)) [] h
  ·rcases Bool.eq_false_or_eq_true (decide (gd (spec_rule.Conds r0) t10 < (0:Int))) with hb19 | hb19
   ·refine sD kk [bF,bF,bF,bT,bF,bF,bF,bF,bT] [16,19] [(106,vB true)] (obC (gff hb19) (obC (gff hb19) (obC (gff hb19) (obC hb19 (oF (oF (oF (oF (oT obN))))))))) ?_
    exact Sem.cast (by try rw [hb19];kernel_rfl) hk0
   ·rcases Bool.eq_false_or_eq_true (decide (gd (spec_rule.Conds r0) t10≥conds)) with hb20 | hb20
    ·refine sD kk [bT,bT,bT,bF,bF,bF,bF,bF,bT] [16,19] [(106,vB true)] (obC (gft hb19) (obC (gft hb19) (obC (gft hb19) (obC hb19 (obC (gff hb20) (obC (gff hb20) (obC (gff hb20) (obC (gff hb20) (obC hb20 obN))))))))) ?_
     exact Sem.cast (by try rw [hb19];try rw [hb20];kernel_rfl) hk0
    ·rcases Bool.eq_false_or_eq_true (decide (t10 > (0:Int))) with hb21 | hb21
     ·refine sD kk [bT,bT,bT,bF,bT,bT,bT,bT,bT,bT,bT,bT,bT,.e (fi (gd (spec_rule.Conds r0) (w64 (t10 - 1)))),bT,bT,bT,bT,bF] [16,19] [(106,vB (decide (gd (spec_rule.Conds r0) t10≤gd (spec_rule.Conds r0) (w64 (t10 - 1)))))] (obC (gft hb19) (obC (gft hb19) (obC (gft hb19) (obC hb19 (obC (gft hb20) (obC (gft hb20) (obC (gft hb20) (obC (gtt hb21) (obC (gtt hb21) (obC (gtt hb21) (obC (gtt hb21) (obC (gtt hb21) (obC (gtt hb21) (obC (((h22 hb19) hb20) hb21) (obC (idx_ok enc_i64 (spec_rule.Conds r0) (w64 (t10 - 1)) _ rfl (((h22 hb19) hb20) hb21) (((h23 hb19) hb20) hb21)) (obC (gtt hb21) (obC (gtt hb21) (obC (gft hb20) (obC hb21 (obC hb20 obN)))))))))))))))))))) ?_
      exact Sem.cast (by try rw [hb19];try rw [hb20];try rw [hb21];kernel_rfl) hk0
     ·refine sD kk [bT,bT,bT,bF,bT,bT,bT,bF,bF,bF,bF,bF,bF,bF,bF,bT,bF,bF] [16,19] [(106,vB false)] (obC (gft hb19) (obC (gft hb19) (obC (gft hb19) (obC hb19 (obC (gft hb20) (obC (gft hb20) (obC (gft hb20) (obC (gtf hb21) (obC (gtf hb21) (obC (gtf hb21) (obC (gtf hb21) (obC (gtf hb21) (obC (gtf hb21) (obC (gtf hb21) (obC (gtf hb21) (obC (gft hb20) (obC hb21 (obC hb20 obN)))))))))))))))))) ?_
      exact Sem.cast (by try rw [hb19];try rw [hb20];try rw [hb21];kernel_rfl) hk0
 ·have h:=h.2 hb16
  refine xD (i:=0) ?_
  show Sem _ _ _ _ _
  refine wkD [4,25,28,31,34] ?_
  refine sM [7,14] [(13,vB (!spec_rule.All r0 || (↑(List.length (spec_rule.Conds r0)):Int) == 0))] ?_ (fun hk0=>?_)
  ·refine tD ?_
   obtain he0:=h
   subst res
   exact (endD [] (vB (!spec_rule.All r0 || (↑(List.length (spec_rule.Conds r0)):Int) == 0)) []).1
  ·rcases Bool.eq_false_or_eq_true (!spec_rule.All r0) with hb25 | hb25
   ·refine sD kk [bF,bF,bF,bF,bT] [7,14] [(13,vB true)] (obC (gff hb25) (obC (gff hb25) (obC (gff hb25) (obC (gff hb25) (obC hb25 obN))))) ?_
    exact Sem.cast (by try rw [hb25];kernel_rfl) hk0
   ·refine sDE kk [bT,bT,bT,bT,bF] [7,14] [(13,vB ((↑(List.length (List.map enc_i64 (spec_rule.Conds r0))):Int) == 0))] [(13,vB ((↑(List.length (spec_rule.Conds r0)):Int) == 0))] (obC (gft hb25) (obC (gft hb25) (obC (gft hb25) (obC (gft hb25) (obC hb25 obN))))) ?_
    exact Sem.cast (by try rw [hb25];kernel_rfl) hk0
set_option maxHeartbeats 1000000 in
theorem W_spec_rule_does (r0:spec_rule) (conds:Int) (res:Bool)
 (h:(((spec_rule.Act r0 == (3:Int))=true→(res=(decide (spec_rule.To r0≥(0:Int)) && decide (spec_rule.To r0 < conds))))∧((spec_rule.Act r0 == (3:Int))=false→(res=(bif spec_rule.Act r0 == 1 then spec_rule.To r0 == 0 else spec_rule.Act r0 == (2:Int) && spec_rule.To r0 == 0))))):C_spec_rule_does r0 conds res:=by
 unfold C_spec_rule_does
 have kk:=cfOk [] 30
 refine fD (x:=bodyOf Try.f83) kk Try.func83 ?_
 refine wkS [1,4] [(1,av_spec_rule r0),(4,vi conds)] (by kernel_rfl) ?_
 refine sD kk [] [1] [(7,.ptr 14 0),(14,av_spec_rule r0)] obN ?_
 refine qD ?_
 refine sD kk [] [] [(22,vB (spec_rule.Act r0 == (3:Int)))] obN ?_
 refine cD (t:=7) (b:=spec_rule.Act r0 == (3:Int)) (fun hb0=>?_) (fun hb0=>?_)
 ·have h:=h.1 hb0
  refine sM [4,7,14,22] [(13,vB (decide (spec_rule.To r0≥(0:Int)) && decide (spec_rule.To r0 < conds)))] ?_ (fun hk0=>?_)
  ·refine tD ?_
   obtain he0:=h
   subst res
   exact (endD [] (vB (decide (spec_rule.To r0≥(0:Int)) && decide (spec_rule.To r0 < conds))) []).1
  ·rcases Bool.eq_false_or_eq_true (decide (spec_rule.To r0≥(0:Int))) with hb1 | hb1
   ·refine sD kk [bT,bT,bT,bT,bT] [4,7,14,22] [(13,vB (decide (spec_rule.To r0 < conds)))] (obC (gtt hb1) (obC (gtt hb1) (obC (gtt hb1) (obC (gtt hb1) (obC hb1 obN))))) ?_
    exact Sem.cast (by try rw [hb1];kernel_rfl) hk0
   ·refine sD kk [bF,bF,bF,bF,bF] [4,7,14,22] [(13,vB false)] (obC (gtf hb1) (obC (gtf hb1) (obC (gtf hb1) (obC (gtf hb1) (obC hb1 obN))))) ?_
    exact Sem.cast (by try rw [hb1];kernel_rfl) hk0
 ·have h:=h.2 hb0
  refine Sem.skip' (by kernel_rfl) Wk.refl ?_
  show Sem _ _ _ _ _
  refine wkD [4,22] ?_
  refine sM [7,14] [(13,vB (bif spec_rule.Act r0 == 1 then spec_rule.To r0 == 0 else spec_rule.Act r0 == (2:Int) && spec_rule.To r0 == 0))] ?_ (fun hk0=>?_)
  ·refine tD ?_
   obtain he0:=h
   subst res
   exact (endD [] (vB (bif spec_rule.Act r0 == 1 then spec_rule.To r0 == 0 else spec_rule.Act r0 == (2:Int) && spec_rule.To r0 == 0)) []).1
  ·rcases Bool.eq_false_or_eq_true (spec_rule.Act r0 == 1) with hb2 | hb2
   ·refine sD kk [bF,bF,bF,bT,bT,bT,bT,bT] [7,14] [(13,vB (spec_rule.To r0 == 0))] (obC (gff hb2) (obC (gff hb2) (obC (gff hb2) (obC hb2 (oT (oT (oT (oT obN)))))))) ?_
    exact Sem.cast (by try rw [hb2];kernel_rfl) hk0
   ·rcases Bool.eq_false_or_eq_true (spec_rule.Act r0 == (2:Int)) with hb3 | hb3
    ·refine sD kk [bT,bT,bT,bF,bT,bT,bT,bT] [7,14] [(13,vB (spec_rule.To r0 == 0))] (obC (gft hb2) (obC (gft hb2) (obC (gft hb2) (obC hb2 (obC (gtt hb3) (obC (gtt hb3) (obC (gtt hb3) (obC hb3 obN)))))))) ?_
     exact Sem.cast (by try rw [hb2];try rw [hb3];kernel_rfl) hk0
    ·refine sD kk [bT,bT,bT,bF,bF,bF,bF,bF] [7,14] [(13,vB false)] (obC (gft hb2) (obC (gft hb2) (obC (gft hb2) (obC hb2 (obC (gtf hb3) (obC (gtf hb3) (obC (gtf hb3) (obC hb3 obN)))))))) ?_
     exact Sem.cast (by try rw [hb2];try rw [hb3];kernel_rfl) hk0
set_option maxHeartbeats 1000000 in
theorem W_spec_none (x:api_Rx) (res:Bool)
 (h:(res=(api_Rx.Kind x == 0 && (arr4_uint64.e0 (api_Rx.Set x) == 0 && (arr4_uint64.e1 (api_Rx.Set x) == 0 && (arr4_uint64.e2 (api_Rx.Set x) == 0 && (arr4_uint64.e3 (api_Rx.Set x) == 0 && true))) && (api_Rx.Lo x == 0 && (api_Rx.Hi x == 0 && (↑(List.length (api_Rx.Kids x)):Int) == 0)))))):C_spec_none x res:=by
 unfold C_spec_none
 have kk:=cfOk [] 28
 refine fD (x:=bodyOf Try.f107) kk Try.func107 ?_
 refine wkS [1] [(1,av_api_Rx x)] (by kernel_rfl) ?_
 refine sD kk [] [1] [(4,.ptr 8 0),(8,av_api_Rx x)] obN ?_
 refine sM [4,8] [(7,vB (api_Rx.Kind x == 0 && (arr4_uint64.e0 (api_Rx.Set x) == 0 && (arr4_uint64.e1 (api_Rx.Set x) == 0 && (arr4_uint64.e2 (api_Rx.Set x) == 0 && (arr4_uint64.e3 (api_Rx.Set x) == 0 && true))) && (api_Rx.Lo x == 0 && (api_Rx.Hi x == 0 && (↑(List.length (api_Rx.Kids x)):Int) == 0)))))] ?_ (fun hk0=>?_)
 ·refine tD ?_
  obtain he0:=h
  subst res
  exact (endD [] (vB (api_Rx.Kind x == 0 && (arr4_uint64.e0 (api_Rx.Set x) == 0 && (arr4_uint64.e1 (api_Rx.Set x) == 0 && (arr4_uint64.e2 (api_Rx.Set x) == 0 && (arr4_uint64.e3 (api_Rx.Set x) == 0 && true))) && (api_Rx.Lo x == 0 && (api_Rx.Hi x == 0 && (↑(List.length (api_Rx.Kids x)):Int) == 0))))) []).1
 ·rcases Bool.eq_false_or_eq_true (api_Rx.Kind x == 0) with hb0 | hb0
  ·rcases Bool.eq_false_or_eq_true (arr4_uint64.e0 (api_Rx.Set x) == 0 && (arr4_uint64.e1 (api_Rx.Set x) == 0 && (arr4_uint64.e2 (api_Rx.Set x) == 0 && (arr4_uint64.e3 (api_Rx.Set x) == 0 && true)))) with hb1 | hb1
   ·rcases Bool.eq_false_or_eq_true (api_Rx.Lo x == 0) with hb2 | hb2
    ·rcases Bool.eq_false_or_eq_true (api_Rx.Hi x == 0) with hb3 | hb3
     ·refine sDE kk [bT,bT,bT,bT,bT,bT,bT,bT,bT,bT,bT,bT,bT,bT,bT,bT,bT,bT] [4,8] [(7,vB ((↑(List.length (List.map enc_api_Rx (api_Rx.Kids x))):Int) == 0))] [(7,vB ((↑(List.length (api_Rx.Kids x)):Int) == 0))] (obC (gtt hb0) (obC (gtt hb0) (obC (gtt hb0) (obC (gtt hb0) (obC hb0 (obC (gtt hb1) (obC (gtt hb1) (obC (gtt hb1) (obC hb1 (obC (gtt hb2) (obC (gtt hb2) (obC (gtt hb2) (obC hb2 (obC (gtt hb3) (obC (gtt hb3) (obC (gtt hb3) (obC (gtt hb3) (obC hb3 obN)))))))))))))))))) ?_
      exact Sem.cast (by try rw [hb0];try rw [hb1];try rw [hb2];try rw [hb3];kernel_rfl) hk0
     ·refine sD kk [bT,bT,bT,bT,bT,bT,bT,bT,bT,bT,bT,bT,bT,bF,bF,bF,bF,bF] [4,8] [(7,vB false)] (obC (gtt hb0) (obC (gtt hb0) (obC (gtt hb0) (obC (gtt hb0) (obC hb0 (obC (gtt hb1) (obC (gtt hb1) (obC (gtt hb1) (obC hb1 (obC (gtt hb2) (obC (gtt hb2) (obC (gtt hb2) (obC hb2 (obC (gtf hb3) (obC (gtf hb3) (obC (gtf hb3) (obC (gtf hb3) (obC hb3 obN)))))))))))))))))) ?_
      exact Sem.cast (by try rw [hb0];try rw [hb1];try rw [hb2];try rw [hb3];kernel_rfl) hk0
    ·refine sD kk [bT,bT,bT,bT,bT,bT,bT,bT,bT,bF,bF,bF,bF,bF,bF,bF,bF,bF] [4,8] [(7,vB false)] (obC (gtt hb0) (obC (gtt hb0) (obC (gtt hb0) (obC (gtt hb0) (obC hb0 (obC (gtt hb1) (obC (gtt hb1) (obC (gtt hb1) (obC hb1 (obC (gtf hb2) (obC (gtf hb2) (obC (gtf hb2) (obC hb2 (oF (oF (oF (oF (oF obN)))))))))))))))))) ?_
     exact Sem.cast (by try rw [hb0];try rw [hb1];try rw [hb2];kernel_rfl) hk0
   ·refine sD kk [bT,bT,bT,bT,bT,bF,bF,bF,bF,bF,bF,bF,bF,bF,bF,bF,bF,bF] [4,8] [(7,vB false)] (obC (gtt hb0) (obC (gtt hb0) (obC (gtt hb0) (obC (gtt hb0) (obC hb0 (obC (gtf hb1) (obC (gtf hb1) (obC (gtf hb1) (obC hb1 (oF (oF (oF (oF (oF (oF (oF (oF (oF obN)))))))))))))))))) ?_
    exact Sem.cast (by try rw [hb0];try rw [hb1];kernel_rfl) hk0
  ·refine sD kk [bF,bF,bF,bF,bF,bF,bF,bF,bF,bF,bF,bF,bF,bF,bF,bF,bF,bF] [4,8] [(7,vB false)] (obC (gtf hb0) (obC (gtf hb0) (obC (gtf hb0) (obC (gtf hb0) (obC hb0 (oF (oF (oF (oF (oF (oF (oF (oF (oF (oF (oF (oF (oF obN)))))))))))))))))) ?_
   exact Sem.cast (by try rw [hb0];kernel_rfl) hk0
set_option maxHeartbeats 1000000 in
theorem W_rx_pattern_times (x:rx_pattern) (res:Bool)
 (h:(((decide (rx_pattern.Lo x < (0:Int)) || decide (rx_pattern.Lo x > (20:Int)))=true→(res=false))∧((decide (rx_pattern.Lo x < (0:Int)) || decide (rx_pattern.Lo x > (20:Int)))=false→(res=(rx_pattern.Hi x == (-1:Int) || decide (rx_pattern.Hi x≥if rx_pattern.Lo x > (1:Int) then rx_pattern.Lo x else (1:Int)) && decide (rx_pattern.Hi x≤(20:Int))))))):C_rx_pattern_times x res:=by
 unfold C_rx_pattern_times
 have kk:=cfOk [] 27
 refine fD (x:=bodyOf Try.f110) kk Try.func110 ?_
 refine wkS [1] [(1,av_rx_pattern x)] (by kernel_rfl) ?_
 refine sD kk [] [1] [(4,.ptr 8 0),(8,av_rx_pattern x)] obN ?_
 refine qD ?_
 refine sM [] [(31,vB (decide (rx_pattern.Lo x < (0:Int)) || decide (rx_pattern.Lo x > (20:Int))))] ?_ (fun hk0=>?_)
 ·refine cD (t:=10) (b:=decide (rx_pattern.Lo x < (0:Int)) || decide (rx_pattern.Lo x > (20:Int))) (fun hb1=>?_) (fun hb1=>?_)
  ·have h:=h.1 hb1
   refine sD kk [] [4,8,31] [(7,vB false)] obN ?_
   refine tD ?_
   obtain he0:=h
   subst res
   exact (endD [] (vB false) []).1
  ·have h:=h.2 hb1
   refine Sem.skip' (by kernel_rfl) Wk.refl ?_
   show Sem _ _ _ _ _
   refine wkD [31] ?_
   refine sM [4,8] [(7,vB (rx_pattern.Hi x == (-1:Int) || decide (rx_pattern.Hi x≥if true=true then if rx_pattern.Lo x > (1:Int) then rx_pattern.Lo x else (1:Int) else if rx_pattern.Lo x < (1:Int) then rx_pattern.Lo x else (1:Int)) && decide (rx_pattern.Hi x≤(20:Int))))] ?_ (fun hk0=>?_)
   ·refine tD ?_
    obtain he0:=h
    subst res
    exact (endD [] (vB (rx_pattern.Hi x == (-1:Int) || decide (rx_pattern.Hi x≥if true=true then if rx_pattern.Lo x > (1:Int) then rx_pattern.Lo x else (1:Int) else if rx_pattern.Lo x < (1:Int) then rx_pattern.Lo x else (1:Int)) && decide (rx_pattern.Hi x≤(20:Int)))) []).1
   ·rcases Bool.eq_false_or_eq_true (rx_pattern.Hi x == (-1:Int)) with hb2 | hb2
    ·refine sD kk [bF,bF,bF,bF,bF,bF,bF,bF,bT] [4,8] [(7,vB true)] (obC (gff hb2) (obC (gff hb2) (obC (gff hb2) (obC (gff hb2) (obC (gff hb2) (obC (gff hb2) (obC (gff hb2) (obC (gff hb2) (obC hb2 obN))))))))) ?_
     exact Sem.cast (by try rw [hb2];kernel_rfl) hk0
    ·rcases Bool.eq_false_or_eq_true (decide (rx_pattern.Hi x≥if true=true then if rx_pattern.Lo x > (1:Int) then rx_pattern.Lo x else (1:Int) else if rx_pattern.Lo x < (1:Int) then rx_pattern.Lo x else (1:Int))) with hb3 | hb3
     ·refine sD kk [bT,bT,bT,bT,bT,bT,bT,bT,bT,bT,bT,bT,bF] [4,8] [(7,vB (decide (rx_pattern.Hi x≤(20:Int))))] (obC (gft hb2) (obC (gft hb2) (obC (gft hb2) (obC (gft hb2) (obC (gft hb2) (obC (gft hb2) (obC (gft hb2) (obC (gtt hb3) (obC (gtt hb3) (obC (gtt hb3) (obC (gft hb2) (obC hb3 (obC hb2 obN))))))))))))) ?_
      exact Sem.cast (by try rw [hb2];try rw [hb3];kernel_rfl) hk0
     ·refine sD kk [bT,bT,bT,bT,bT,bT,bT,bF,bF,bF,bT,bF,bF] [4,8] [(7,vB false)] (obC (gft hb2) (obC (gft hb2) (obC (gft hb2) (obC (gft hb2) (obC (gft hb2) (obC (gft hb2) (obC (gft hb2) (obC (gtf hb3) (obC (gtf hb3) (obC (gtf hb3) (obC (gft hb2) (obC hb3 (obC hb2 obN))))))))))))) ?_
      exact Sem.cast (by try rw [hb2];try rw [hb3];kernel_rfl) hk0
 ·rcases Bool.eq_false_or_eq_true (decide (rx_pattern.Lo x < (0:Int))) with hb0 | hb0
  ·refine sD kk [bF,bF,bF,bT] [] [(31,vB true)] (obC (gff hb0) (obC (gff hb0) (obC (gff hb0) (obC hb0 obN)))) ?_
   exact Sem.cast (by try rw [hb0];kernel_rfl) hk0
  ·refine sD kk [bT,bT,bT,bF] [] [(31,vB (decide (rx_pattern.Lo x > (20:Int))))] (obC (gft hb0) (obC (gft hb0) (obC (gft hb0) (obC hb0 obN)))) ?_
   exact Sem.cast (by try rw [hb0];kernel_rfl) hk0
set_option maxHeartbeats 1000000 in
theorem W_rx_pattern_own (x:rx_pattern) (res:Bool)
 (h:(∃ J12:Int→Prop,(∀ (many:Int),J12 many→(res=((!(arr4_uint64.e0 (rx_pattern.Set x) == 0 && (arr4_uint64.e1 (rx_pattern.Set x) == 0 && (arr4_uint64.e2 (rx_pattern.Set x) == 0 && (arr4_uint64.e3 (rx_pattern.Set x) == 0 && true))))) == (rx_pattern.Kind x == (2:Int)) && (rx_pattern.Lo x == 0 && (rx_pattern.Hi x == 0 && (decide (many≥(2:Int)) && (!decide (rx_pattern.Kind x < (3:Int)) || many == (2:Int))))))))∧(((rx_pattern.Kind x == (5:Int))=true→(((!!(arr4_uint64.e0 (rx_pattern.Set x) == 0 && (arr4_uint64.e1 (rx_pattern.Set x) == 0 && (arr4_uint64.e2 (rx_pattern.Set x) == 0 && (arr4_uint64.e3 (rx_pattern.Set x) == 0 && true)))))=true→((((↑(List.length (rx_pattern.Kids x)):Int) == 1)=true→(∃ r0_1:Bool,C_rx_pattern_times x r0_1∧(res=r0_1)))∧(((↑(List.length (rx_pattern.Kids x)):Int) == 1)=false→(res=false))))∧((!!(arr4_uint64.e0 (rx_pattern.Set x) == 0 && (arr4_uint64.e1 (rx_pattern.Set x) == 0 && (arr4_uint64.e2 (rx_pattern.Set x) == 0 && (arr4_uint64.e3 (rx_pattern.Set x) == 0 && true)))))=false→(res=false))))∧((rx_pattern.Kind x == (5:Int))=false→(∃ J23:Bool→Prop,(∀ (t17_1:Bool),J23 t17_1→(((t17_1)=true→J12 (w64 ((↑(List.length (rx_pattern.Kids x)):Int)+2)))∧((t17_1)=false→(∃ J26:Bool→Prop,(∀ (t20_1:Bool),J26 t20_1→(((t20_1)=true→J12 ((↑(List.length (rx_pattern.Kids x)):Int)))∧((t20_1)=false→(res=false))))∧(((rx_pattern.Kind x == (3:Int))=true→J26 (rx_pattern.Kind x == (3:Int)))∧((rx_pattern.Kind x == (3:Int))=false→J26 (rx_pattern.Kind x == (4:Int))))))))∧(((rx_pattern.Kind x == 1)=true→J23 (rx_pattern.Kind x == 1))∧((rx_pattern.Kind x == 1)=false→J23 (rx_pattern.Kind x == (2:Int))))))))):C_rx_pattern_own x res:=by
 unfold C_rx_pattern_own
 have kk:=cfOk [] 65
 refine fD (x:=bodyOf Try.f89) kk Try.func89 ?_
 refine wkS [1] [(1,av_rx_pattern x)] (by kernel_rfl) ?_
 refine sD kk [] [1] [(4,.ptr 8 0),(8,av_rx_pattern x)] obN ?_
 refine sDE kk [] [] [(10,vB (!(arr4_uint64.e0 (rx_pattern.Set x) == 0 && (arr4_uint64.e1 (rx_pattern.Set x) == 0 && (arr4_uint64.e2 (rx_pattern.Set x) == 0 && (arr4_uint64.e3 (rx_pattern.Set x) == 0 && true)))))),(13,vi ((↑(List.length (List.map enc_api_Rx (rx_pattern.Kids x))):Int)))] [(10,vB (!(arr4_uint64.e0 (rx_pattern.Set x) == 0 && (arr4_uint64.e1 (rx_pattern.Set x) == 0 && (arr4_uint64.e2 (rx_pattern.Set x) == 0 && (arr4_uint64.e3 (rx_pattern.Set x) == 0 && true)))))),(13,vi ((↑(List.length (rx_pattern.Kids x)):Int)))] obN ?_
 refine qD ?_
 refine sD kk [] [] [(43,vi (rx_pattern.Kind x))] obN ?_
 refine bD (id:=0) ?_
 obtain ⟨J12,hJ12,h⟩:=h
 refine sjD (fun (q:Int)=>J12 q) (fun (q:Int)=>(fun (many:Int)=>([(4,.ptr 8 0),(8,av_rx_pattern x),(10,vB (!(arr4_uint64.e0 (rx_pattern.Set x) == 0 && (arr4_uint64.e1 (rx_pattern.Set x) == 0 && (arr4_uint64.e2 (rx_pattern.Set x) == 0 && (arr4_uint64.e3 (rx_pattern.Set x) == 0 && true)))))),(13,vi many)]:Sta)) q) ?_ ?_
 ·rintro many hj
  have h:=hJ12 many hj
  refine qD ?_
  refine sD kk [] [] [(16,vB (decide (rx_pattern.Kind x < (3:Int))))] obN ?_
  refine sM [4,8,10,13,16] [(7,vB ((!(arr4_uint64.e0 (rx_pattern.Set x) == 0 && (arr4_uint64.e1 (rx_pattern.Set x) == 0 && (arr4_uint64.e2 (rx_pattern.Set x) == 0 && (arr4_uint64.e3 (rx_pattern.Set x) == 0 && true))))) == (rx_pattern.Kind x == (2:Int)) && (rx_pattern.Lo x == 0 && (rx_pattern.Hi x == 0 && (decide (many≥(2:Int)) && (!decide (rx_pattern.Kind x < (3:Int)) || many == (2:Int)))))))] ?_ (fun hk0=>?_)
  ·refine tD ?_
   obtain he0:=h
   subst res
   exact (endD [] (vB ((!(arr4_uint64.e0 (rx_pattern.Set x) == 0 && (arr4_uint64.e1 (rx_pattern.Set x) == 0 && (arr4_uint64.e2 (rx_pattern.Set x) == 0 && (arr4_uint64.e3 (rx_pattern.Set x) == 0 && true))))) == (rx_pattern.Kind x == (2:Int)) && (rx_pattern.Lo x == 0 && (rx_pattern.Hi x == 0 && (decide (many≥(2:Int)) && (!decide (rx_pattern.Kind x < (3:Int)) || many == (2:Int))))))) []).1
  ·rcases Bool.eq_false_or_eq_true ((!(arr4_uint64.e0 (rx_pattern.Set x) == 0 && (arr4_uint64.e1 (rx_pattern.Set x) == 0 && (arr4_uint64.e2 (rx_pattern.Set x) == 0 && (arr4_uint64.e3 (rx_pattern.Set x) == 0 && true))))) == (rx_pattern.Kind x == (2:Int))) with hb13 | hb13
   ·rcases Bool.eq_false_or_eq_true (rx_pattern.Lo x == 0) with hb14 | hb14
    ·rcases Bool.eq_false_or_eq_true (rx_pattern.Hi x == 0) with hb15 | hb15
     ·rcases Bool.eq_false_or_eq_true (decide (many≥(2:Int))) with hb16 | hb16
      ·rcases Bool.eq_false_or_eq_true (!decide (rx_pattern.Kind x < (3:Int))) with hb17 | hb17
       ·refine sD kk [bT,bT,bT,bT,bT,bT,bT,bT,bT,bT,bT,bT,bT,bT,bF,bF,bT,bT,bT] [4,8,10,13,16] [(7,vB true)] (obC (gtt hb13) (obC (gtt hb13) (obC (gtt hb13) (obC hb13 (obC (gtt hb14) (obC (gtt hb14) (obC (gtt hb14) (obC hb14 (obC (gtt hb15) (obC (gtt hb15) (obC hb15 (obC (gtt hb16) (obC (gtt hb16) (obC (gtt hb16) (obC (gff hb17) (obC (gff hb17) (obC (gtt hb16) (obC hb17 (obC hb16 obN))))))))))))))))))) ?_
        exact Sem.cast (by try rw [hb13];try rw [hb14];try rw [hb15];try rw [hb16];try rw [hb17];kernel_rfl) hk0
       ·refine sD kk [bT,bT,bT,bT,bT,bT,bT,bT,bT,bT,bT,bT,bT,bT,bT,bT,bT,bF,bT] [4,8,10,13,16] [(7,vB (many == (2:Int)))] (obC (gtt hb13) (obC (gtt hb13) (obC (gtt hb13) (obC hb13 (obC (gtt hb14) (obC (gtt hb14) (obC (gtt hb14) (obC hb14 (obC (gtt hb15) (obC (gtt hb15) (obC hb15 (obC (gtt hb16) (obC (gtt hb16) (obC (gtt hb16) (obC (gft hb17) (obC (gft hb17) (obC (gtt hb16) (obC hb17 (obC hb16 obN))))))))))))))))))) ?_
        exact Sem.cast (by try rw [hb13];try rw [hb14];try rw [hb15];try rw [hb16];try rw [hb17];kernel_rfl) hk0
      ·refine sD kk [bT,bT,bT,bT,bT,bT,bT,bT,bT,bT,bT,bF,bF,bF,bF,bF] [4,8,10,13,16] [(7,vB false)] (obC (gtt hb13) (obC (gtt hb13) (obC (gtt hb13) (obC hb13 (obC (gtt hb14) (obC (gtt hb14) (obC (gtt hb14) (obC hb14 (obC (gtt hb15) (obC (gtt hb15) (obC hb15 (obC (gtf hb16) (obC (gtf hb16) (obC (gtf hb16) (obC (gtf hb16) (obC hb16 obN)))))))))))))))) ?_
       exact Sem.cast (by try rw [hb13];try rw [hb14];try rw [hb15];try rw [hb16];kernel_rfl) hk0
     ·refine sD kk [bT,bT,bT,bT,bT,bT,bT,bT,bF,bF,bF,bF,bF,bF,bF,bF] [4,8,10,13,16] [(7,vB false)] (obC (gtt hb13) (obC (gtt hb13) (obC (gtt hb13) (obC hb13 (obC (gtt hb14) (obC (gtt hb14) (obC (gtt hb14) (obC hb14 (obC (gtf hb15) (obC (gtf hb15) (obC hb15 (oF (oF (oF (oF (oF obN)))))))))))))))) ?_
      exact Sem.cast (by try rw [hb13];try rw [hb14];try rw [hb15];kernel_rfl) hk0
    ·refine sD kk [bT,bT,bT,bT,bF,bF,bF,bF,bF,bF,bF,bF,bF,bF,bF,bF] [4,8,10,13,16] [(7,vB false)] (obC (gtt hb13) (obC (gtt hb13) (obC (gtt hb13) (obC hb13 (obC (gtf hb14) (obC (gtf hb14) (obC (gtf hb14) (obC hb14 (oF (oF (oF (oF (oF (oF (oF (oF obN)))))))))))))))) ?_
     exact Sem.cast (by try rw [hb13];try rw [hb14];kernel_rfl) hk0
   ·refine sD kk [bF,bF,bF,bF,bF,bF,bF,bF,bF,bF,bF,bF,bF,bF,bF,bF] [4,8,10,13,16] [(7,vB false)] (obC (gtf hb13) (obC (gtf hb13) (obC (gtf hb13) (obC hb13 (oF (oF (oF (oF (oF (oF (oF (oF (oF (oF (oF (oF obN)))))))))))))))) ?_
    exact Sem.cast (by try rw [hb13];kernel_rfl) hk0
 ·refine bD (id:=3) ?_
  refine qD ?_
  refine bD (id:=2) ?_
  refine qD ?_
  refine bD (id:=1) ?_
  refine qD ?_
  refine qD ?_
  refine sD kk [] [] [(46,vB (rx_pattern.Kind x == (5:Int)))] obN ?_
  refine cD (t:=15) (b:=rx_pattern.Kind x == (5:Int)) (fun hb18=>?_) (fun hb18=>?_)
  ·have h:=h.1 hb18
   refine xD (i:=1) ?_
   show Sem _ _ _ _ _
   refine wkD [43,46] ?_
   refine qD ?_
   rcases Bool.eq_false_or_eq_true (!!(arr4_uint64.e0 (rx_pattern.Set x) == 0 && (arr4_uint64.e1 (rx_pattern.Set x) == 0 && (arr4_uint64.e2 (rx_pattern.Set x) == 0 && (arr4_uint64.e3 (rx_pattern.Set x) == 0 && true))))) with hb19 | hb19
   ·have h:=h.1 hb19
    rcases Bool.eq_false_or_eq_true ((↑(List.length (rx_pattern.Kids x)):Int) == 1) with hb20 | hb20
    ·have h:=h.1 hb20
     obtain ⟨r0_1,hc21,h⟩:=h
     refine sD kk [bT,bT,bT,bT,bT,.c (vB r0_1) [],bT] [4,8,10,13] [(7,vB r0_1)] (obC (gtt hb19) (obC (gtt hb19) (obC hb19 (obC (gtt hb20) (obC (gtt hb20) (obC hc21 (obC hb20 obN))))))) ?_
     refine tD ?_
     obtain he0:=h
     subst res
     exact (endD [] (vB r0_1) []).1
    ·have h:=h.2 hb20
     refine sD kk [bT,bT,bT,bF,bF,bF] [4,8,10,13] [(7,vB false)] (obC (gtt hb19) (obC (gtt hb19) (obC hb19 (obC (gtf hb20) (obC (gtf hb20) (obC hb20 obN)))))) ?_
     refine tD ?_
     obtain he0:=h
     subst res
     exact (endD [] (vB false) []).1
   ·have h:=h.2 hb19
    refine sD kk [bF,bF,bF,bF,bF,bF] [4,8,10,13] [(7,vB false)] (obC (gtf hb19) (obC (gtf hb19) (obC hb19 (oF (oF (oF obN)))))) ?_
    refine tD ?_
    obtain he0:=h
    subst res
    exact (endD [] (vB false) []).1
  ·have h:=h.2 hb18
   refine Sem.skip' (by kernel_rfl) Wk.refl ?_
   show Sem _ _ _ _ _
   refine wkD [46] ?_
   refine qD ?_
   obtain ⟨J23,hJ23,h⟩:=h
   refine sjD (fun (q:Bool)=>J23 q) (fun (q:Bool)=>(fun (t17_1:Bool)=>([(4,.ptr 8 0),(8,av_rx_pattern x),(10,vB (!(arr4_uint64.e0 (rx_pattern.Set x) == 0 && (arr4_uint64.e1 (rx_pattern.Set x) == 0 && (arr4_uint64.e2 (rx_pattern.Set x) == 0 && (arr4_uint64.e3 (rx_pattern.Set x) == 0 && true)))))),(13,vi ((↑(List.length (rx_pattern.Kids x)):Int))),(43,vi (rx_pattern.Kind x)),(52,vB t17_1)]:Sta)) q) ?_ ?_
   ·rintro t17_1 hj
    have h:=hJ23 t17_1 hj
    refine cD (t:=17) (b:=t17_1) (fun hb24=>?_) (fun hb24=>?_)
    ·have h:=h.1 hb24
     refine xD (i:=2) ?_
     show Sem _ _ _ _ _
     refine wkD [43,52] ?_
     refine rD kk [] [] [(13,vi (w64 ((↑(List.length (rx_pattern.Kids x)):Int)+2)))] obN ?_
     exact jD (w64 ((↑(List.length (rx_pattern.Kids x)):Int)+2)) [] h
    ·have h:=h.2 hb24
     refine Sem.skip' (by kernel_rfl) Wk.refl ?_
     show Sem _ _ _ _ _
     refine wkD [52] ?_
     obtain ⟨J26,hJ26,h⟩:=h
     refine sjD (fun (q:Bool)=>J26 q) (fun (q:Bool)=>(fun (t20_1:Bool)=>([(4,.ptr 8 0),(8,av_rx_pattern x),(10,vB (!(arr4_uint64.e0 (rx_pattern.Set x) == 0 && (arr4_uint64.e1 (rx_pattern.Set x) == 0 && (arr4_uint64.e2 (rx_pattern.Set x) == 0 && (arr4_uint64.e3 (rx_pattern.Set x) == 0 && true)))))),(13,vi ((↑(List.length (rx_pattern.Kids x)):Int))),(61,vB t20_1)]:Sta)) q) ?_ ?_
     ·rintro t20_1 hj
      have h:=hJ26 t20_1 hj
      refine cD (t:=20) (b:=t20_1) (fun hb27=>?_) (fun hb27=>?_)
      ·have h:=h.1 hb27
       refine xD (i:=3) ?_
       exact jD ((↑(List.length (rx_pattern.Kids x)):Int)) [] h
      ·have h:=h.2 hb27
       refine Sem.skip' (by kernel_rfl) Wk.refl ?_
       show Sem _ _ _ _ _
       refine wkD [4,8,10,13,61] ?_
       refine xD (i:=0) ?_
       show Sem _ _ _ _ _
       refine sD kk [] [] [(7,vB false)] obN ?_
       refine tD ?_
       obtain he0:=h
       subst res
       exact (endD [] (vB false) []).1
     ·refine sD kk [] [] [(61,vB (rx_pattern.Kind x == (3:Int)))] obN ?_
      refine cD (t:=20) (b:=rx_pattern.Kind x == (3:Int)) (fun hb28=>?_) (fun hb28=>?_)
      ·have h:=h.1 hb28
       refine Sem.skip' (by kernel_rfl) Wk.refl ?_
       exact jD (rx_pattern.Kind x == (3:Int)) [] h
      ·have h:=h.2 hb28
       refine rD kk [] [43] [(61,vB (rx_pattern.Kind x == (4:Int)))] obN ?_
       exact jD (rx_pattern.Kind x == (4:Int)) [] h
   ·refine sD kk [] [] [(52,vB (rx_pattern.Kind x == 1))] obN ?_
    refine cD (t:=17) (b:=rx_pattern.Kind x == 1) (fun hb29=>?_) (fun hb29=>?_)
    ·have h:=h.1 hb29
     refine Sem.skip' (by kernel_rfl) Wk.refl ?_
     exact jD (rx_pattern.Kind x == 1) [] h
    ·have h:=h.2 hb29
     refine rD kk [] [] [(52,vB (rx_pattern.Kind x == (2:Int)))] obN ?_
     exact jD (rx_pattern.Kind x == (2:Int)) [] h
set_option maxHeartbeats 1000000 in
theorem W_rx_pattern_right_L1 (k:api_Rx) (v:rx_pattern) (v_1:Int) (res:Bool) (fin:rx_pattern) (fin_1:Int)
 (h:(((api_Rx.Kind k == rx_pattern.Kind v)=true→(((rx_pattern.Kind v != (5:Int))=true→(res=true∧fin=v∧fin_1=v_1))∧((rx_pattern.Kind v != (5:Int))=false→(∃ r0:Bool,C_rx_pattern_right ({ Kind:=api_Rx.Kind k,Set:=api_Rx.Set k,Lo:=api_Rx.Lo k,Hi:=api_Rx.Hi k,Kids:=api_Rx.Kids k }) (w64 (v_1 - 1)) r0∧(res=(!r0)∧fin=v∧fin_1=v_1)))))∧((api_Rx.Kind k == rx_pattern.Kind v)=false→(∃ r0_1:Bool,C_rx_pattern_right ({ Kind:=api_Rx.Kind k,Set:=api_Rx.Set k,Lo:=api_Rx.Lo k,Hi:=api_Rx.Hi k,Kids:=api_Rx.Kids k }) (w64 (v_1 - 1)) r0_1∧(res=(!r0_1)∧fin=v∧fin_1=v_1))))):C_rx_pattern_right_L1 k v v_1 res fin fin_1:=by
 unfold C_rx_pattern_right_L1
 have kk:=cfOk [] 22
 refine fD (x:=bodyOf Try.f88) kk Try.func88 ?_
 refine wkS [1,3,4,6,7] [(1,av_api_Rx k),(3,av_rx_pattern v),(4,.ptr 3 0),(6,vi v_1),(7,.ptr 6 0)] (by kernel_rfl) ?_
 refine sD kk [] [1] [(10,.ptr 20 0),(20,av_api_Rx k)] obN ?_
 rcases Bool.eq_false_or_eq_true (api_Rx.Kind k == rx_pattern.Kind v) with hb0 | hb0
 ·have h:=h.1 hb0
  rcases Bool.eq_false_or_eq_true (rx_pattern.Kind v != (5:Int)) with hb1 | hb1
  ·have h:=h.1 hb1
   refine sD kk [bT,bT,bT,bT,bF,bF,bF,bF,bF,bT] [4,7,10,20] [(13,vB true)] (obC (gtt hb0) (obC (gtt hb0) (obC (gtt hb0) (obC hb0 (obC (gff hb1) (obC (gff hb1) (obC (gff hb1) (obC (gff hb1) (obC (gff hb1) (obC hb1 obN)))))))))) ?_
   refine tD ?_
   obtain ⟨he0,he1,he2⟩:=h
   subst res fin fin_1
   exact (endD [] (vB true) [av_rx_pattern v,vi v_1]).1
  ·have h:=h.2 hb1
   obtain ⟨r0,hc2,h⟩:=h
   refine sD kk [bT,bT,bT,bT,bT,bT,bT,bT,.c (vB r0) [],bT,bF] [4,7,10,20] [(13,vB (!r0))] (obC (gtt hb0) (obC (gtt hb0) (obC (gtt hb0) (obC hb0 (obC (gft hb1) (obC (gft hb1) (obC (gft hb1) (obC (gft hb1) (obC hc2 (obC (gft hb1) (obC hb1 obN))))))))))) ?_
   refine tD ?_
   obtain ⟨he0,he1,he2⟩:=h
   subst res fin fin_1
   exact (endD [] (vB (!r0)) [av_rx_pattern v,vi v_1]).1
 ·have h:=h.2 hb0
  obtain ⟨r0_1,hc3,h⟩:=h
  refine sD kk [bF,bF,bF,bF,bT,bT,bT,bT,.c (vB r0_1) [],bT,bF] [4,7,10,20] [(13,vB (!r0_1))] (obC (gtf hb0) (obC (gtf hb0) (obC (gtf hb0) (obC hb0 (oT (oT (oT (oT (obC hc3 (oT (oF obN))))))))))) ?_
  refine tD ?_
  obtain ⟨he0,he1,he2⟩:=h
  subst res fin fin_1
  exact (endD [] (vB (!r0_1)) [av_rx_pattern v,vi v_1]).1
set_option maxHeartbeats 1000000 in
theorem W_slices_IndexFunc__api_Rx_api_Rx_at_rx_pattern_right_L1 (s0:(List api_Rx)) (cap:rx_pattern) (cap_1:Int) (res:Int) (fin:rx_pattern) (fin_1:Int)
 (h:(∃ (Inv9:Int→Int→Int→Int→Int→Int→Int→List api_Rx→Int→Int→Prop) (mu10:Int→Int→Int→Int→Int→Int→Int→List api_Rx→Int→Int→Nat),Inv9 (rx_pattern.Kind cap) (arr4_uint64.e0 (rx_pattern.Set cap)) (arr4_uint64.e1 (rx_pattern.Set cap)) (arr4_uint64.e2 (rx_pattern.Set cap)) (arr4_uint64.e3 (rx_pattern.Set cap)) (rx_pattern.Lo cap) (rx_pattern.Hi cap) (rx_pattern.Kids cap) cap_1 0∧(∀ (o0_Kind:Int) (o0_Set_e0:Int) (o0_Set_e1:Int) (o0_Set_e2:Int) (o0_Set_e3:Int) (o0_Lo:Int) (o0_Hi:Int) (o0_Kids:List api_Rx) (o1:Int) (t8:Int),Inv9 o0_Kind o0_Set_e0 o0_Set_e1 o0_Set_e2 o0_Set_e3 o0_Lo o0_Hi o0_Kids o1 t8→(((decide (t8 < (↑(List.length s0):Int)))=true→((0:Int)≤t8)∧t8 < ↑(List.length s0)∧(∃ r0_2:Bool,∃ o_4:rx_pattern,∃ o_5:Int,C_rx_pattern_right_L1 (gd s0 t8) ({ Kind:=o0_Kind,Set:={ e0:=o0_Set_e0,e1:=o0_Set_e1,e2:=o0_Set_e2,e3:=o0_Set_e3 },Lo:=o0_Lo,Hi:=o0_Hi,Kids:=o0_Kids }) o1 r0_2 o_4 o_5∧(((r0_2)=true→(res=t8∧fin=o_4∧fin_1=o_5))∧((r0_2)=false→(Inv9 (rx_pattern.Kind o_4) (arr4_uint64.e0 (rx_pattern.Set o_4)) (arr4_uint64.e1 (rx_pattern.Set o_4)) (arr4_uint64.e2 (rx_pattern.Set o_4)) (arr4_uint64.e3 (rx_pattern.Set o_4)) (rx_pattern.Lo o_4) (rx_pattern.Hi o_4) (rx_pattern.Kids o_4) o_5 (w64 (t8+1))∧mu10 (rx_pattern.Kind o_4) (arr4_uint64.e0 (rx_pattern.Set o_4)) (arr4_uint64.e1 (rx_pattern.Set o_4)) (arr4_uint64.e2 (rx_pattern.Set o_4)) (arr4_uint64.e3 (rx_pattern.Set o_4)) (rx_pattern.Lo o_4) (rx_pattern.Hi o_4) (rx_pattern.Kids o_4) o_5 (w64 (t8+1)) < mu10 o0_Kind o0_Set_e0 o0_Set_e1 o0_Set_e2 o0_Set_e3 o0_Lo o0_Hi o0_Kids o1 t8)))))∧((decide (t8 < (↑(List.length s0):Int)))=false→(res=(-1)∧fin=({ Kind:=o0_Kind,Set:={ e0:=o0_Set_e0,e1:=o0_Set_e1,e2:=o0_Set_e2,e3:=o0_Set_e3 },Lo:=o0_Lo,Hi:=o0_Hi,Kids:=o0_Kids })∧fin_1=o1)))))):C_slices_IndexFunc__api_Rx_api_Rx_at_rx_pattern_right_L1 s0 cap cap_1 res fin fin_1:=by
 unfold C_slices_IndexFunc__api_Rx_api_Rx_at_rx_pattern_right_L1
 have kk:=cfOk [17] 19
 refine fD (x:=bodyOf Try.f111) kk Try.func111 ?_
 refine wkS [1,3,4,6] [(1,vL enc_api_Rx s0),(3,av_rx_pattern cap),(4,.clo 88 [.ptr 3 0,.ptr 6 0]),(6,vi cap_1)] (by kernel_rfl) ?_
 refine sD kk [] [] [] obN ?_
 refine qD ?_
 refine sDE kk [] [] [(22,vi ((↑(List.length (List.map enc_api_Rx s0)):Int))),(25,vi 0)] [(22,vi ((↑(List.length s0):Int))),(25,vi 0)] obN ?_
 refine bD (id:=0) ?_
 obtain ⟨Inv9,mu10,h0Inv9,hInv9⟩:=h
 refine loD (fun (q:Int×Int×Int×Int×Int×Int×Int×List api_Rx×Int×Int)=>(fun (o0_Kind:Int) (o0_Set_e0:Int) (o0_Set_e1:Int) (o0_Set_e2:Int) (o0_Set_e3:Int) (o0_Lo:Int) (o0_Hi:Int) (o0_Kids:List api_Rx) (o1:Int) (t8:Int)=>([(1,vL enc_api_Rx s0),(3,.agg [vi o0_Kind,vI .u64 o0_Set_e0,vI .u64 o0_Set_e1,vI .u64 o0_Set_e2,vI .u64 o0_Set_e3,vi o0_Lo,vi o0_Hi,vL enc_api_Rx o0_Kids]),(4,.clo 88 [.ptr 3 0,.ptr 6 0]),(6,vi o1),(22,vi ((↑(List.length s0):Int))),(25,vi t8)]:Sta)) q.1 q.2.1 q.2.2.1 q.2.2.2.1 q.2.2.2.2.1 q.2.2.2.2.2.1 q.2.2.2.2.2.2.1 q.2.2.2.2.2.2.2.1 q.2.2.2.2.2.2.2.2.1 q.2.2.2.2.2.2.2.2.2) (fun (q:Int×Int×Int×Int×Int×Int×Int×List api_Rx×Int×Int)=>Inv9 q.1 q.2.1 q.2.2.1 q.2.2.2.1 q.2.2.2.2.1 q.2.2.2.2.2.1 q.2.2.2.2.2.2.1 q.2.2.2.2.2.2.2.1 q.2.2.2.2.2.2.2.2.1 q.2.2.2.2.2.2.2.2.2) (fun (q:Int×Int×Int×Int×Int×Int×Int×List api_Rx×Int×Int)=>mu10 q.1 q.2.1 q.2.2.1 q.2.2.2.1 q.2.2.2.2.1 q.2.2.2.2.2.1 q.2.2.2.2.2.2.1 q.2.2.2.2.2.2.2.1 q.2.2.2.2.2.2.2.2.1 q.2.2.2.2.2.2.2.2.2) ((rx_pattern.Kind cap),(arr4_uint64.e0 (rx_pattern.Set cap)),(arr4_uint64.e1 (rx_pattern.Set cap)),(arr4_uint64.e2 (rx_pattern.Set cap)),(arr4_uint64.e3 (rx_pattern.Set cap)),(rx_pattern.Lo cap),(rx_pattern.Hi cap),(rx_pattern.Kids cap),cap_1,0) [] h0Inv9 ?_
 rintro ⟨o0_Kind,o0_Set_e0,o0_Set_e1,o0_Set_e2,o0_Set_e3,o0_Lo,o0_Hi,o0_Kids,o1,t8⟩ hi
 have h:=hInv9 o0_Kind o0_Set_e0 o0_Set_e1 o0_Set_e2 o0_Set_e3 o0_Lo o0_Hi o0_Kids o1 t8 hi
 refine sD kk [] [] [(28,vB (decide (t8 < (↑(List.length s0):Int))))] obN ?_
 refine qD ?_
 refine cD (t:=9) (b:=decide (t8 < (↑(List.length s0):Int))) (fun hb11=>?_) (fun hb11=>?_)
 ·have h:=h.1 hb11
  refine Sem.skip' (by kernel_rfl) Wk.refl ?_
  show Sem _ _ _ _ _
  refine wkD [28] ?_
  refine qD ?_
  refine bD (id:=1) ?_
  refine sD kk [] [] [(16,vi t8)] obN ?_
  obtain ⟨h12,h⟩:=h
  obtain ⟨h13,h⟩:=h
  obtain ⟨r0_2,o_4,o_5,hc14,h⟩:=h
  refine sD kk [.e (fv_api_Rx (gd s0 t8)),.c (vB r0_2) [av_rx_pattern o_4,vi o_5]] [] [(3,av_rx_pattern o_4),(6,vi o_5),(49,vB r0_2)] (obC h12 (obC (idx_ok enc_api_Rx s0 t8 _ (enc_api_Rx_eq _) h12 h13) (obC hc14 obN))) ?_
  refine cD (t:=16) (b:=r0_2) (fun hb15=>?_) (fun hb15=>?_)
  ·have h:=h.1 hb15
   refine sD kk [] [1,4,16,22,25,49] [(13,vi t8)] obN ?_
   refine tD ?_
   obtain ⟨he0,he1,he2⟩:=h
   subst res fin fin_1
   exact (endD [] (vi t8) [av_rx_pattern o_4,vi o_5]).1
  ·have h:=h.2 hb15
   refine Sem.skip' (by kernel_rfl) Wk.refl ?_
   show Sem _ _ _ _ _
   refine wkD [16,49] ?_
   refine rD kk [] [] [(25,vi (w64 (t8+1)))] obN ?_
   exact lD ((rx_pattern.Kind o_4),(arr4_uint64.e0 (rx_pattern.Set o_4)),(arr4_uint64.e1 (rx_pattern.Set o_4)),(arr4_uint64.e2 (rx_pattern.Set o_4)),(arr4_uint64.e3 (rx_pattern.Set o_4)),(rx_pattern.Lo o_4),(rx_pattern.Hi o_4),(rx_pattern.Kids o_4),o_5,(w64 (t8+1))) [] h
 ·have h:=h.2 hb11
  refine xD (i:=0) ?_
  show Sem _ _ _ _ _
  refine wkD [1,4,22,25,28] ?_
  refine sD kk [] [] [(13,vi (-1))] obN ?_
  refine tD ?_
  obtain ⟨he0,he1,he2⟩:=h
  subst res fin fin_1
  exact (endD [] (vi (-1)) [.agg [vi o0_Kind,vI .u64 o0_Set_e0,vI .u64 o0_Set_e1,vI .u64 o0_Set_e2,vI .u64 o0_Set_e3,vi o0_Lo,vi o0_Hi,vL enc_api_Rx o0_Kids],vi o1]).1
set_option maxHeartbeats 1000000 in
theorem W_slices_ContainsFunc__api_Rx_api_Rx_at_rx_pattern_right_L1 (s0:(List api_Rx)) (cap:rx_pattern) (cap_1:Int) (res:Bool) (fin:rx_pattern) (fin_1:Int)
 (h:(∃ r0:Int,∃ o:rx_pattern,∃ o_1:Int,C_slices_IndexFunc__api_Rx_api_Rx_at_rx_pattern_right_L1 s0 cap cap_1 r0 o o_1∧(res=(decide (r0≥(0:Int)))∧fin=o∧fin_1=o_1))):C_slices_ContainsFunc__api_Rx_api_Rx_at_rx_pattern_right_L1 s0 cap cap_1 res fin fin_1:=by
 unfold C_slices_ContainsFunc__api_Rx_api_Rx_at_rx_pattern_right_L1
 have kk:=cfOk [] 9
 refine fD (x:=bodyOf Try.f90) kk Try.func90 ?_
 refine wkS [1,3,4,6] [(1,vL enc_api_Rx s0),(3,av_rx_pattern cap),(4,.clo 88 [.ptr 3 0,.ptr 6 0]),(6,vi cap_1)] (by kernel_rfl) ?_
 refine sD kk [] [] [] obN ?_
 obtain ⟨r0,o,o_1,hc0,h⟩:=h
 refine sD kk [.c (vi r0) [av_rx_pattern o,vi o_1]] [1,4] [(3,av_rx_pattern o),(6,vi o_1),(13,vB (decide (r0≥(0:Int))))] (obC hc0 obN) ?_
 refine tD ?_
 obtain ⟨he0,he1,he2⟩:=h
 subst res fin fin_1
 exact (endD [] (vB (decide (r0≥(0:Int)))) [av_rx_pattern o,vi o_1]).1
set_option maxHeartbeats 1000000 in
theorem W_rx_pattern_right (x:rx_pattern) (deep:Int) (res:Bool)
 (h:(((decide (deep > (0:Int)))=true→(∃ r0:Bool,C_rx_pattern_own x r0∧(((r0)=true→(∃ r0_1:Bool,∃ o:rx_pattern,∃ o_1:Int,C_slices_ContainsFunc__api_Rx_api_Rx_at_rx_pattern_right_L1 (rx_pattern.Kids x) x deep r0_1 o o_1∧(res=(!r0_1))))∧((r0)=false→(res=false)))))∧((decide (deep > (0:Int)))=false→(res=false)))):C_rx_pattern_right x deep res:=by
 unfold C_rx_pattern_right
 have kk:=cfOk [] 20
 refine fD (x:=bodyOf Try.f57) kk Try.func57 ?_
 refine wkS [1,4] [(1,av_rx_pattern x),(4,vi deep)] (by kernel_rfl) ?_
 refine sD kk [] [1,4] [(7,.ptr 14 0),(10,.ptr 20 0),(14,av_rx_pattern x),(20,vi deep)] obN ?_
 refine sD kk [] [] [(16,.clo 88 [.ptr 14 0,.ptr 20 0])] obN ?_
 rcases Bool.eq_false_or_eq_true (decide (deep > (0:Int))) with hb0 | hb0
 ·have h:=h.1 hb0
  obtain ⟨r0,hc1,h⟩:=h
  rcases Bool.eq_false_or_eq_true (r0) with hb2 | hb2
  ·have h:=h.1 hb2
   obtain ⟨r0_1,o,o_1,hc3,h⟩:=h
   refine sD kk [bT,bT,.c (vB r0) [],bT,bT,bT,bT,bT,.c (vB r0_1) [av_rx_pattern o,vi o_1],bT,bT] [7,10,14,16,20] [(13,vB (!r0_1))] (obC (gtt hb0) (obC (gtt hb0) (obC hc1 (obC hb0 (obC (gtt hb2) (obC (gtt hb2) (obC (gtt hb2) (obC (gtt hb2) (obC hc3 (obC (gtt hb2) (obC hb2 obN))))))))))) ?_
   refine tD ?_
   obtain he0:=h
   subst res
   exact (endD [] (vB (!r0_1)) []).1
  ·have h:=h.2 hb2
   refine sD kk [bT,bT,.c (vB r0) [],bT,bF,bF,bF,bF,bF,bF] [7,10,14,16,20] [(13,vB false)] (obC (gtt hb0) (obC (gtt hb0) (obC hc1 (obC hb0 (obC (gtf hb2) (obC (gtf hb2) (obC (gtf hb2) (obC (gtf hb2) (obC (gtf hb2) (obC hb2 obN)))))))))) ?_
   refine tD ?_
   obtain he0:=h
   subst res
   exact (endD [] (vB false) []).1
 ·have h:=h.2 hb0
  refine sD kk [bF,bF,bF,bF,bF,bF,bF,bF,bF] [7,10,14,16,20] [(13,vB false)] (obC (gtf hb0) (obC (gtf hb0) (obC hb0 (oF (oF (oF (oF (oF (oF obN))))))))) ?_
  refine tD ?_
  obtain he0:=h
  subst res
  exact (endD [] (vB false) []).1
end Go.Ev
set_option linter.unusedSimpArgs false
set_option linter.unusedVariables false
namespace Go.Ev
open Go Go.Proofs
set_option maxRecDepth 8000
set_option maxHeartbeats 1000000 in
theorem W_rx_Size (x:api_Rx) (res:Int)
 (h:(((api_Rx.Kind x == (2:Int))=true→(res=1))∧((api_Rx.Kind x == (2:Int))=false→(((decide (api_Rx.Kind x < (3:Int)) || decide (api_Rx.Kind x > (5:Int)))=true→(res=0))∧((decide (api_Rx.Kind x < (3:Int)) || decide (api_Rx.Kind x > (5:Int)))=false→(∃ (Inv10:Int→Int→Prop) (mu11:Int→Int→Nat),Inv10 0 0∧(∀ (n:Int) (t19:Int),Inv10 n t19→(((decide (t19 < (↑(List.length (api_Rx.Kids x)):Int)))=true→((0:Int)≤t19)∧t19 < ↑(List.length (api_Rx.Kids x))∧(∃ r0_2:Int,C_rx_Size (gd (api_Rx.Kids x) t19) r0_2∧(Inv10 (if false=true then if (1000000:Int) > w64 (n+r0_2) then (1000000:Int) else w64 (n+r0_2) else if (1000000:Int) < w64 (n+r0_2) then (1000000:Int) else w64 (n+r0_2)) (w64 (t19+1))∧mu11 (if false=true then if (1000000:Int) > w64 (n+r0_2) then (1000000:Int) else w64 (n+r0_2) else if (1000000:Int) < w64 (n+r0_2) then (1000000:Int) else w64 (n+r0_2)) (w64 (t19+1)) < mu11 n t19)))∧((decide (t19 < (↑(List.length (api_Rx.Kids x)):Int)))=false→(∃ J17:Int→Prop,(∀ (n_1:Int),J17 n_1→(res=(if false=true then if (1000000:Int) > n_1 then (1000000:Int) else n_1 else if (1000000:Int) < n_1 then (1000000:Int) else n_1)))∧(((api_Rx.Kind x == (5:Int))=true→J17 (w64 (n * if (if false=true then if (if api_Rx.Hi x > api_Rx.Lo x then api_Rx.Hi x else api_Rx.Lo x) > (1000:Int) then if api_Rx.Hi x > api_Rx.Lo x then api_Rx.Hi x else api_Rx.Lo x else (1000:Int) else if (if api_Rx.Hi x > api_Rx.Lo x then api_Rx.Hi x else api_Rx.Lo x) < (1000:Int) then if api_Rx.Hi x > api_Rx.Lo x then api_Rx.Hi x else api_Rx.Lo x else (1000:Int)) > (1:Int) then if false=true then if (if api_Rx.Hi x > api_Rx.Lo x then api_Rx.Hi x else api_Rx.Lo x) > (1000:Int) then if api_Rx.Hi x > api_Rx.Lo x then api_Rx.Hi x else api_Rx.Lo x else (1000:Int) else if (if api_Rx.Hi x > api_Rx.Lo x then api_Rx.Hi x else api_Rx.Lo x) < (1000:Int) then if api_Rx.Hi x > api_Rx.Lo x then api_Rx.Hi x else api_Rx.Lo x else (1000:Int) else (1:Int))))∧((api_Rx.Kind x == (5:Int))=false→J17 n)))))))))))):C_rx_Size x res:=by
 unfold C_rx_Size
 have kk:=cfOk [] 43
 refine fD (x:=bodyOf Try.f58) kk Try.func58 ?_
 refine wkS [1] [(1,av_api_Rx x)] (by kernel_rfl) ?_
 refine sD kk [] [1] [(4,.ptr 8 0),(7,vi 0),(8,av_api_Rx x)] obN ?_
 refine qD ?_
 refine sD kk [] [] [(22,vB (api_Rx.Kind x == (2:Int)))] obN ?_
 refine cD (t:=7) (b:=api_Rx.Kind x == (2:Int)) (fun hb0=>?_) (fun hb0=>?_)
 ·have h:=h.1 hb0
  refine sD kk [] [4,8,22] [(7,vi 1)] obN ?_
  refine tD ?_
  obtain he0:=h
  subst res
  exact (endD [] (vi 1) []).1
 ·have h:=h.2 hb0
  refine Sem.skip' (by kernel_rfl) Wk.refl ?_
  show Sem _ _ _ _ _
  refine wkD [22] ?_
  refine qD ?_
  refine sM [] [(46,vB (decide (api_Rx.Kind x < (3:Int)) || decide (api_Rx.Kind x > (5:Int))))] ?_ (fun hk0=>?_)
  ·refine cD (t:=15) (b:=decide (api_Rx.Kind x < (3:Int)) || decide (api_Rx.Kind x > (5:Int))) (fun hb2=>?_) (fun hb2=>?_)
   ·have h:=h.1 hb2
    refine sD kk [] [4,8,46] [] obN ?_
    refine tD ?_
    obtain he0:=h
    subst res
    exact (endD [] (vi 0) []).1
   ·have h:=h.2 hb2
    refine Sem.skip' (by kernel_rfl) Wk.refl ?_
    show Sem _ _ _ _ _
    refine wkD [46] ?_
    refine qD ?_
    refine sDE kk [] [] [(52,vL enc_api_Rx (api_Rx.Kids x)),(55,vi ((↑(List.length (List.map enc_api_Rx (api_Rx.Kids x))):Int))),(58,vi 0)] [(52,vL enc_api_Rx (api_Rx.Kids x)),(55,vi ((↑(List.length (api_Rx.Kids x)):Int))),(58,vi 0)] obN ?_
    refine bD (id:=0) ?_
    obtain ⟨Inv10,mu11,h0Inv10,hInv10⟩:=h
    refine loD (fun (q:Int×Int)=>(fun (n:Int) (t19:Int)=>([(4,.ptr 8 0),(7,vi n),(8,av_api_Rx x),(52,vL enc_api_Rx (api_Rx.Kids x)),(55,vi ((↑(List.length (api_Rx.Kids x)):Int))),(58,vi t19)]:Sta)) q.1 q.2) (fun (q:Int×Int)=>Inv10 q.1 q.2) (fun (q:Int×Int)=>mu11 q.1 q.2) (0,0) [] h0Inv10 ?_
    rintro ⟨n,t19⟩ hi
    have h:=hInv10 n t19 hi
    refine sD kk [] [] [(61,vB (decide (t19 < (↑(List.length (api_Rx.Kids x)):Int))))] obN ?_
    refine qD ?_
    refine cD (t:=20) (b:=decide (t19 < (↑(List.length (api_Rx.Kids x)):Int))) (fun hb12=>?_) (fun hb12=>?_)
    ·have h:=h.1 hb12
     refine Sem.skip' (by kernel_rfl) Wk.refl ?_
     show Sem _ _ _ _ _
     refine wkD [61] ?_
     refine qD ?_
     refine bD (id:=1) ?_
     obtain ⟨h13,h⟩:=h
     obtain ⟨h14,h⟩:=h
     refine sD kk [.e (fv_api_Rx (gd (api_Rx.Kids x) t19))] [] [(13,.ptr 26 0),(26,av_api_Rx (gd (api_Rx.Kids x) t19))] (obC h13 (obC (idx_ok enc_api_Rx (api_Rx.Kids x) t19 _ (enc_api_Rx_eq _) h13 h14) obN)) ?_
     obtain ⟨r0_2,hc15,h⟩:=h
     refine rD kk [.c (vi r0_2) []] [13,26] [(7,vi (if false=true then if (1000000:Int) > w64 (n+r0_2) then (1000000:Int) else w64 (n+r0_2) else if (1000000:Int) < w64 (n+r0_2) then (1000000:Int) else w64 (n+r0_2)))] (obC hc15 obN) ?_
     show Sem _ _ _ _ _
     refine rD kk [] [] [(58,vi (w64 (t19+1)))] obN ?_
     exact lD ((if false=true then if (1000000:Int) > w64 (n+r0_2) then (1000000:Int) else w64 (n+r0_2) else if (1000000:Int) < w64 (n+r0_2) then (1000000:Int) else w64 (n+r0_2)),(w64 (t19+1))) [] h
    ·have h:=h.2 hb12
     refine xD (i:=0) ?_
     show Sem _ _ _ _ _
     refine wkD [52,55,58,61] ?_
     obtain ⟨J17,hJ17,h⟩:=h
     refine sjD (fun (q:Int)=>J17 q) (fun (q:Int)=>(fun (n_1:Int)=>([(7,vi n_1)]:Sta)) q) ?_ ?_
     ·rintro n_1 hj
      have h:=hJ17 n_1 hj
      refine sD kk [] [] [(7,vi (if false=true then if (1000000:Int) > n_1 then (1000000:Int) else n_1 else if (1000000:Int) < n_1 then (1000000:Int) else n_1))] obN ?_
      refine tD ?_
      obtain he0:=h
      subst res
      exact (endD [] (vi (if false=true then if (1000000:Int) > n_1 then (1000000:Int) else n_1 else if (1000000:Int) < n_1 then (1000000:Int) else n_1)) []).1
     ·refine sD kk [] [] [(94,vB (api_Rx.Kind x == (5:Int)))] obN ?_
      refine cD (t:=31) (b:=api_Rx.Kind x == (5:Int)) (fun hb18=>?_) (fun hb18=>?_)
      ·have h:=h.1 hb18
       refine rDE kk [] [4,8,94] [(7,vi (w64 (n * if true=true then if (if false=true then if (if true=true then if api_Rx.Hi x > api_Rx.Lo x then api_Rx.Hi x else api_Rx.Lo x else if api_Rx.Hi x < api_Rx.Lo x then api_Rx.Hi x else api_Rx.Lo x) > (1000:Int) then if true=true then if api_Rx.Hi x > api_Rx.Lo x then api_Rx.Hi x else api_Rx.Lo x else if api_Rx.Hi x < api_Rx.Lo x then api_Rx.Hi x else api_Rx.Lo x else (1000:Int) else if (if true=true then if api_Rx.Hi x > api_Rx.Lo x then api_Rx.Hi x else api_Rx.Lo x else if api_Rx.Hi x < api_Rx.Lo x then api_Rx.Hi x else api_Rx.Lo x) < (1000:Int) then if true=true then if api_Rx.Hi x > api_Rx.Lo x then api_Rx.Hi x else api_Rx.Lo x else if api_Rx.Hi x < api_Rx.Lo x then api_Rx.Hi x else api_Rx.Lo x else (1000:Int)) > (1:Int) then if false=true then if (if true=true then if api_Rx.Hi x > api_Rx.Lo x then api_Rx.Hi x else api_Rx.Lo x else if api_Rx.Hi x < api_Rx.Lo x then api_Rx.Hi x else api_Rx.Lo x) > (1000:Int) then if true=true then if api_Rx.Hi x > api_Rx.Lo x then api_Rx.Hi x else api_Rx.Lo x else if api_Rx.Hi x < api_Rx.Lo x then api_Rx.Hi x else api_Rx.Lo x else (1000:Int) else if (if true=true then if api_Rx.Hi x > api_Rx.Lo x then api_Rx.Hi x else api_Rx.Lo x else if api_Rx.Hi x < api_Rx.Lo x then api_Rx.Hi x else api_Rx.Lo x) < (1000:Int) then if true=true then if api_Rx.Hi x > api_Rx.Lo x then api_Rx.Hi x else api_Rx.Lo x else if api_Rx.Hi x < api_Rx.Lo x then api_Rx.Hi x else api_Rx.Lo x else (1000:Int) else (1:Int) else if (if false=true then if (if true=true then if api_Rx.Hi x > api_Rx.Lo x then api_Rx.Hi x else api_Rx.Lo x else if api_Rx.Hi x < api_Rx.Lo x then api_Rx.Hi x else api_Rx.Lo x) > (1000:Int) then if true=true then if api_Rx.Hi x > api_Rx.Lo x then api_Rx.Hi x else api_Rx.Lo x else if api_Rx.Hi x < api_Rx.Lo x then api_Rx.Hi x else api_Rx.Lo x else (1000:Int) else if (if true=true then if api_Rx.Hi x > api_Rx.Lo x then api_Rx.Hi x else api_Rx.Lo x else if api_Rx.Hi x < api_Rx.Lo x then api_Rx.Hi x else api_Rx.Lo x) < (1000:Int) then if true=true then if api_Rx.Hi x > api_Rx.Lo x then api_Rx.Hi x else api_Rx.Lo x else if api_Rx.Hi x < api_Rx.Lo x then api_Rx.Hi x else api_Rx.Lo x else (1000:Int)) < (1:Int) then if false=true then if (if true=true then if api_Rx.Hi x > api_Rx.Lo x then api_Rx.Hi x else api_Rx.Lo x else if api_Rx.Hi x < api_Rx.Lo x then api_Rx.Hi x else api_Rx.Lo x) > (1000:Int) then if true=true then if api_Rx.Hi x > api_Rx.Lo x then api_Rx.Hi x else api_Rx.Lo x else if api_Rx.Hi x < api_Rx.Lo x then api_Rx.Hi x else api_Rx.Lo x else (1000:Int) else if (if true=true then if api_Rx.Hi x > api_Rx.Lo x then api_Rx.Hi x else api_Rx.Lo x else if api_Rx.Hi x < api_Rx.Lo x then api_Rx.Hi x else api_Rx.Lo x) < (1000:Int) then if true=true then if api_Rx.Hi x > api_Rx.Lo x then api_Rx.Hi x else api_Rx.Lo x else if api_Rx.Hi x < api_Rx.Lo x then api_Rx.Hi x else api_Rx.Lo x else (1000:Int) else (1:Int))))] [(7,vi (w64 (n * if (if false=true then if (if api_Rx.Hi x > api_Rx.Lo x then api_Rx.Hi x else api_Rx.Lo x) > (1000:Int) then if api_Rx.Hi x > api_Rx.Lo x then api_Rx.Hi x else api_Rx.Lo x else (1000:Int) else if (if api_Rx.Hi x > api_Rx.Lo x then api_Rx.Hi x else api_Rx.Lo x) < (1000:Int) then if api_Rx.Hi x > api_Rx.Lo x then api_Rx.Hi x else api_Rx.Lo x else (1000:Int)) > (1:Int) then if false=true then if (if api_Rx.Hi x > api_Rx.Lo x then api_Rx.Hi x else api_Rx.Lo x) > (1000:Int) then if api_Rx.Hi x > api_Rx.Lo x then api_Rx.Hi x else api_Rx.Lo x else (1000:Int) else if (if api_Rx.Hi x > api_Rx.Lo x then api_Rx.Hi x else api_Rx.Lo x) < (1000:Int) then if api_Rx.Hi x > api_Rx.Lo x then api_Rx.Hi x else api_Rx.Lo x else (1000:Int) else (1:Int))))] obN ?_
       exact jD (w64 (n * if (if false=true then if (if api_Rx.Hi x > api_Rx.Lo x then api_Rx.Hi x else api_Rx.Lo x) > (1000:Int) then if api_Rx.Hi x > api_Rx.Lo x then api_Rx.Hi x else api_Rx.Lo x else (1000:Int) else if (if api_Rx.Hi x > api_Rx.Lo x then api_Rx.Hi x else api_Rx.Lo x) < (1000:Int) then if api_Rx.Hi x > api_Rx.Lo x then api_Rx.Hi x else api_Rx.Lo x else (1000:Int)) > (1:Int) then if false=true then if (if api_Rx.Hi x > api_Rx.Lo x then api_Rx.Hi x else api_Rx.Lo x) > (1000:Int) then if api_Rx.Hi x > api_Rx.Lo x then api_Rx.Hi x else api_Rx.Lo x else (1000:Int) else if (if api_Rx.Hi x > api_Rx.Lo x then api_Rx.Hi x else api_Rx.Lo x) < (1000:Int) then if api_Rx.Hi x > api_Rx.Lo x then api_Rx.Hi x else api_Rx.Lo x else (1000:Int) else (1:Int))) [] h
      ·have h:=h.2 hb18
       refine Sem.skip' (by kernel_rfl) Wk.refl ?_
       exact jD n [] h
  ·rcases Bool.eq_false_or_eq_true (decide (api_Rx.Kind x < (3:Int))) with hb1 | hb1
   ·refine sD kk [bF,bF,bF,bT] [] [(46,vB true)] (obC (gff hb1) (obC (gff hb1) (obC (gff hb1) (obC hb1 obN)))) ?_
    exact Sem.cast (by try rw [hb1];kernel_rfl) hk0
   ·refine sD kk [bT,bT,bT,bF] [] [(46,vB (decide (api_Rx.Kind x > (5:Int))))] (obC (gft hb1) (obC (gft hb1) (obC (gft hb1) (obC hb1 obN)))) ?_
    exact Sem.cast (by try rw [hb1];kernel_rfl) hk0
set_option maxHeartbeats 1000000 in
theorem W_rx_nodes (x:api_Rx) (most:Int) (res:Int)
 (h:(∃ (Inv18:Int→Int→Prop) (mu19:Int→Int→Nat),Inv18 (w64 (most - 1)) 0∧(∀ (most_2:Int) (t12:Int),Inv18 most_2 t12→(((decide (t12 < (↑(List.length (api_Rx.Kids x)):Int)))=true→(∃ J25:Int→Prop,(∀ (most_4:Int),J25 most_4→(Inv18 most_4 (w64 (t12+1))∧mu19 most_4 (w64 (t12+1)) < mu19 most_2 t12))∧((0:Int)≤t12)∧t12 < ↑(List.length (api_Rx.Kids x))∧(((decide (most_2≥(0:Int)))=true→(∃ r0_5:Int,C_rx_nodes (gd (api_Rx.Kids x) t12) most_2 r0_5∧J25 r0_5))∧((decide (most_2≥(0:Int)))=false→J25 most_2))))∧((decide (t12 < (↑(List.length (api_Rx.Kids x)):Int)))=false→(res=most_2)))))):C_rx_nodes x most res:=by
 unfold C_rx_nodes
 have kk:=cfOk [22] 23
 refine fD (x:=bodyOf Try.f59) kk Try.func59 ?_
 refine wkS [1,4] [(1,av_api_Rx x),(4,vi most)] (by kernel_rfl) ?_
 refine sD kk [] [1] [(7,.ptr 14 0),(14,av_api_Rx x)] obN ?_
 refine sD kk [] [] [(4,vi (w64 (most - 1)))] obN ?_
 refine qD ?_
 refine sDE kk [] [7,14] [(31,vL enc_api_Rx (api_Rx.Kids x)),(34,vi ((↑(List.length (List.map enc_api_Rx (api_Rx.Kids x))):Int))),(37,vi 0)] [(31,vL enc_api_Rx (api_Rx.Kids x)),(34,vi ((↑(List.length (api_Rx.Kids x)):Int))),(37,vi 0)] obN ?_
 refine bD (id:=0) ?_
 obtain ⟨Inv18,mu19,h0Inv18,hInv18⟩:=h
 refine loD (fun (q:Int×Int)=>(fun (most_2:Int) (t12:Int)=>([(4,vi most_2),(31,vL enc_api_Rx (api_Rx.Kids x)),(34,vi ((↑(List.length (api_Rx.Kids x)):Int))),(37,vi t12)]:Sta)) q.1 q.2) (fun (q:Int×Int)=>Inv18 q.1 q.2) (fun (q:Int×Int)=>mu19 q.1 q.2) ((w64 (most - 1)),0) [] h0Inv18 ?_
 rintro ⟨most_2,t12⟩ hi
 have h:=hInv18 most_2 t12 hi
 refine sD kk [] [] [(40,vB (decide (t12 < (↑(List.length (api_Rx.Kids x)):Int))))] obN ?_
 refine qD ?_
 refine cD (t:=13) (b:=decide (t12 < (↑(List.length (api_Rx.Kids x)):Int))) (fun hb20=>?_) (fun hb20=>?_)
 ·have h:=h.1 hb20
  refine Sem.skip' (by kernel_rfl) Wk.refl ?_
  show Sem _ _ _ _ _
  refine wkD [40] ?_
  obtain ⟨J25,hJ25,h⟩:=h
  refine sjD (fun (q:Int)=>J25 q) (fun (q:Int)=>(fun (most_4:Int)=>([(4,vi most_4),(31,vL enc_api_Rx (api_Rx.Kids x)),(34,vi ((↑(List.length (api_Rx.Kids x)):Int))),(37,vi t12)]:Sta)) q) ?_ ?_
  ·rintro most_4 hj
   have h:=hJ25 most_4 hj
   refine rD kk [] [] [(37,vi (w64 (t12+1)))] obN ?_
   exact lD (most_4,(w64 (t12+1))) [] h
  ·refine bD (id:=1) ?_
   obtain ⟨h26,h⟩:=h
   obtain ⟨h27,h⟩:=h
   refine sD kk [.e (fv_api_Rx (gd (api_Rx.Kids x) t12))] [] [(19,.ptr 38 0),(38,av_api_Rx (gd (api_Rx.Kids x) t12))] (obC h26 (obC (idx_ok enc_api_Rx (api_Rx.Kids x) t12 _ (enc_api_Rx_eq _) h26 h27) obN)) ?_
   refine sD kk [] [] [(52,vB (decide (most_2≥(0:Int))))] obN ?_
   refine cD (t:=17) (b:=decide (most_2≥(0:Int))) (fun hb28=>?_) (fun hb28=>?_)
   ·have h:=h.1 hb28
    obtain ⟨r0_5,hc29,h⟩:=h
    refine rD kk [.c (vi r0_5) []] [19,38,52] [(4,vi r0_5)] (obC hc29 obN) ?_
    exact jD r0_5 [] h
   ·have h:=h.2 hb28
    refine Sem.skip' (by kernel_rfl) Wk.refl ?_
    exact jD most_2 [] h
 ·have h:=h.2 hb20
  refine xD (i:=0) ?_
  show Sem _ _ _ _ _
  refine wkD [31,34,37,40] ?_
  refine sD kk [] [4] [(13,vi most_2)] obN ?_
  refine tD ?_
  obtain he0:=h
  subst res
  exact (endD [] (vi most_2) []).1
set_option maxHeartbeats 1000000 in
theorem W_rx_Right (x:api_Rx) (res:Bool)
 (h:(∃ r0:Bool,C_rx_pattern_right ({ Kind:=api_Rx.Kind x,Set:=api_Rx.Set x,Lo:=api_Rx.Lo x,Hi:=api_Rx.Hi x,Kids:=api_Rx.Kids x }) 20 r0∧(((r0)=true→(∃ r0_1:Int,C_rx_Size x r0_1∧(((decide (r0_1≤(200:Int)))=true→(∃ r0_2:Int,C_rx_nodes x ((1000:Int)) r0_2∧(res=(decide (r0_2≥(0:Int))))))∧((decide (r0_1≤(200:Int)))=false→(res=false)))))∧((r0)=false→(res=false))))):C_rx_Right x res:=by
 unfold C_rx_Right
 have kk:=cfOk [] 15
 refine fD (x:=bodyOf Try.f29) kk Try.func29 ?_
 refine wkS [1] [(1,av_api_Rx x)] (by kernel_rfl) ?_
 refine sD kk [] [1] [(4,.ptr 8 0),(8,av_api_Rx x)] obN ?_
 obtain ⟨r0,hc0,h⟩:=h
 rcases Bool.eq_false_or_eq_true (r0) with hb1 | hb1
 ·have h:=h.1 hb1
  obtain ⟨r0_1,hc2,h⟩:=h
  rcases Bool.eq_false_or_eq_true (decide (r0_1≤(200:Int))) with hb3 | hb3
  ·have h:=h.1 hb3
   obtain ⟨r0_2,hc4,h⟩:=h
   refine sD kk [.c (vB r0) [],bT,bT,.c (vi r0_1) [],bT,bT,bT,bT,.c (vi r0_2) [],bT,bT] [4,8] [(7,vB (decide (r0_2≥(0:Int))))] (obC hc0 (obC (gtt hb1) (obC (gtt hb1) (obC hc2 (obC (gtt hb1) (obC hb1 (obC (gtt hb3) (obC (gtt hb3) (obC hc4 (obC (gtt hb3) (obC hb3 obN))))))))))) ?_
   refine tD ?_
   obtain he0:=h
   subst res
   exact (endD [] (vB (decide (r0_2≥(0:Int)))) []).1
  ·have h:=h.2 hb3
   refine sD kk [.c (vB r0) [],bT,bT,.c (vi r0_1) [],bT,bT,bF,bF,bF,bF] [4,8] [(7,vB false)] (obC hc0 (obC (gtt hb1) (obC (gtt hb1) (obC hc2 (obC (gtt hb1) (obC hb1 (obC (gtf hb3) (obC (gtf hb3) (obC (gtf hb3) (obC hb3 obN)))))))))) ?_
   refine tD ?_
   obtain he0:=h
   subst res
   exact (endD [] (vB false) []).1
 ·have h:=h.2 hb1
  refine sD kk [.c (vB r0) [],bF,bF,bF,bF,bF,bF,bF,bF] [4,8] [(7,vB false)] (obC hc0 (obC (gtf hb1) (obC (gtf hb1) (obC (gtf hb1) (obC hb1 (oF (oF (oF (oF obN))))))))) ?_
  refine tD ?_
  obtain he0:=h
  subst res
  exact (endD [] (vB false) []).1
set_option maxHeartbeats 1000000 in
theorem W_spec_rule_matches (r0:spec_rule) (res:Bool)
 (h:(((spec_rule.Eof r0)=true→(((!spec_rule.Bol r0)=true→(∃ r0_1:Bool,C_spec_none (spec_rule.Rx r0) r0_1∧(((r0_1)=true→(∃ r0_2:Bool,C_spec_none (spec_rule.Trail r0) r0_2∧(res=r0_2)))∧((r0_1)=false→(res=false)))))∧((!spec_rule.Bol r0)=false→(res=false))))∧((spec_rule.Eof r0)=false→(∃ r0_3:Bool,C_rx_Right (spec_rule.Rx r0) r0_3∧(((r0_3)=true→(∃ r0_4:Bool,C_spec_none (spec_rule.Trail r0) r0_4∧(((r0_4)=true→(res=true))∧((r0_4)=false→(∃ r0_5:Bool,C_rx_Right (spec_rule.Trail r0) r0_5∧(res=r0_5))))))∧((r0_3)=false→(res=false))))))):C_spec_rule_matches r0 res:=by
 unfold C_spec_rule_matches
 have kk:=cfOk [] 31
 refine fD (x:=bodyOf Try.f84) kk Try.func84 ?_
 refine wkS [1] [(1,av_spec_rule r0)] (by kernel_rfl) ?_
 refine sD kk [] [1] [(4,.ptr 8 0),(8,av_spec_rule r0)] obN ?_
 refine qD ?_
 refine sD kk [] [] [(13,vB (spec_rule.Eof r0))] obN ?_
 refine cD (t:=4) (b:=spec_rule.Eof r0) (fun hb0=>?_) (fun hb0=>?_)
 ·have h:=h.1 hb0
  rcases Bool.eq_false_or_eq_true (!spec_rule.Bol r0) with hb1 | hb1
  ·have h:=h.1 hb1
   obtain ⟨r0_1,hc2,h⟩:=h
   rcases Bool.eq_false_or_eq_true (r0_1) with hb3 | hb3
   ·have h:=h.1 hb3
    obtain ⟨r0_2,hc4,h⟩:=h
    refine sD kk [bT,bT,bT,.c (vB r0_1) [],bT,bT,bT,bT,.c (vB r0_2) [],bT] [4,8,13] [(7,vB r0_2)] (obC (gtt hb1) (obC (gtt hb1) (obC (gtt hb1) (obC hc2 (obC hb1 (obC (gtt hb3) (obC (gtt hb3) (obC (gtt hb3) (obC hc4 (obC hb3 obN)))))))))) ?_
    refine tD ?_
    obtain he0:=h
    subst res
    exact (endD [] (vB r0_2) []).1
   ·have h:=h.2 hb3
    refine sD kk [bT,bT,bT,.c (vB r0_1) [],bT,bF,bF,bF,bF] [4,8,13] [(7,vB false)] (obC (gtt hb1) (obC (gtt hb1) (obC (gtt hb1) (obC hc2 (obC hb1 (obC (gtf hb3) (obC (gtf hb3) (obC (gtf hb3) (obC hb3 obN))))))))) ?_
    refine tD ?_
    obtain he0:=h
    subst res
    exact (endD [] (vB false) []).1
  ·have h:=h.2 hb1
   refine sD kk [bF,bF,bF,bF,bF,bF,bF,bF] [4,8,13] [(7,vB false)] (obC (gtf hb1) (obC (gtf hb1) (obC (gtf hb1) (obC hb1 (oF (oF (oF (oF obN)))))))) ?_
   refine tD ?_
   obtain he0:=h
   subst res
   exact (endD [] (vB false) []).1
 ·have h:=h.2 hb0
  refine Sem.skip' (by kernel_rfl) Wk.refl ?_
  show Sem _ _ _ _ _
  refine wkD [13] ?_
  obtain ⟨r0_3,hc5,h⟩:=h
  rcases Bool.eq_false_or_eq_true (r0_3) with hb6 | hb6
  ·have h:=h.1 hb6
   obtain ⟨r0_4,hc7,h⟩:=h
   rcases Bool.eq_false_or_eq_true (r0_4) with hb8 | hb8
   ·have h:=h.1 hb8
    refine sD kk [.c (vB r0_3) [],bT,bT,bT,.c (vB r0_4) [],bT,bF,bF,bF,bT,bT,bT] [4,8] [(7,vB true)] (obC hc5 (obC (gtt hb6) (obC (gtt hb6) (obC (gtt hb6) (obC hc7 (obC (gtt hb6) (obC (gff hb8) (obC (gff hb8) (obC (gff hb8) (obC (gtt hb6) (obC hb8 (obC hb6 obN)))))))))))) ?_
    refine tD ?_
    obtain he0:=h
    subst res
    exact (endD [] (vB true) []).1
   ·have h:=h.2 hb8
    obtain ⟨r0_5,hc9,h⟩:=h
    refine sD kk [.c (vB r0_3) [],bT,bT,bT,.c (vB r0_4) [],bT,bT,bT,bT,.c (vB r0_5) [],bT,bF,bT] [4,8] [(7,vB r0_5)] (obC hc5 (obC (gtt hb6) (obC (gtt hb6) (obC (gtt hb6) (obC hc7 (obC (gtt hb6) (obC (gft hb8) (obC (gft hb8) (obC (gft hb8) (obC hc9 (obC (gtt hb6) (obC hb8 (obC hb6 obN))))))))))))) ?_
    refine tD ?_
    obtain he0:=h
    subst res
    exact (endD [] (vB r0_5) []).1
  ·have h:=h.2 hb6
   refine sD kk [.c (vB r0_3) [],bF,bF,bF,bF,bF,bF] [4,8] [(7,vB false)] (obC hc5 (obC (gtf hb6) (obC (gtf hb6) (obC (gtf hb6) (obC (gtf hb6) (obC (gtf hb6) (obC hb6 obN))))))) ?_
   refine tD ?_
   obtain he0:=h
   subst res
   exact (endD [] (vB false) []).1
set_option maxHeartbeats 1000000 in
theorem W_spec_Right_L1 (r0:api_Rule) (v:Int) (res:Bool) (fin:Int)
 (h:(∃ r0_1:Bool,C_spec_rule_holds ({ Conds:=api_Rule.Conds r0,All:=api_Rule.All r0,Bol:=api_Rule.Bol r0,Rx:=api_Rule.Rx r0,Trail:=api_Rule.Trail r0,Eof:=api_Rule.Eof r0,Act:=api_Rule.Act r0,To:=api_Rule.To r0 }) v r0_1∧(((!r0_1)=true→(res=true∧fin=v))∧((!r0_1)=false→(∃ r0_2:Bool,C_spec_rule_does ({ Conds:=api_Rule.Conds r0,All:=api_Rule.All r0,Bol:=api_Rule.Bol r0,Rx:=api_Rule.Rx r0,Trail:=api_Rule.Trail r0,Eof:=api_Rule.Eof r0,Act:=api_Rule.Act r0,To:=api_Rule.To r0 }) v r0_2∧(((!r0_2)=true→(res=true∧fin=v))∧((!r0_2)=false→(∃ r0_3:Bool,C_spec_rule_matches ({ Conds:=api_Rule.Conds r0,All:=api_Rule.All r0,Bol:=api_Rule.Bol r0,Rx:=api_Rule.Rx r0,Trail:=api_Rule.Trail r0,Eof:=api_Rule.Eof r0,Act:=api_Rule.Act r0,To:=api_Rule.To r0 }) r0_3∧(res=(!r0_3)∧fin=v))))))))):C_spec_Right_L1 r0 v res fin:=by
 unfold C_spec_Right_L1
 have kk:=cfOk [] 19
 refine fD (x:=bodyOf Try.f81) kk Try.func81 ?_
 refine wkS [1,3,4] [(1,av_api_Rule r0),(3,vi v),(4,.ptr 3 0)] (by kernel_rfl) ?_
 refine sD kk [] [1] [(7,.ptr 14 0),(14,av_api_Rule r0)] obN ?_
 obtain ⟨r0_1,hc0,h⟩:=h
 rcases Bool.eq_false_or_eq_true (!r0_1) with hb1 | hb1
 ·have h:=h.1 hb1
  refine sD kk [.c (vB r0_1) [],bF,bF,bF,bF,bT,bF,bF,bF,bT] [4,7,14] [(10,vB true)] (obC hc0 (obC (gff hb1) (obC (gff hb1) (obC (gff hb1) (obC (gff hb1) (obC hb1 (oF (oF (oF (oT obN)))))))))) ?_
  refine tD ?_
  obtain ⟨he0,he1⟩:=h
  subst res fin
  exact (endD [] (vB true) [vi v]).1
 ·have h:=h.2 hb1
  obtain ⟨r0_2,hc2,h⟩:=h
  rcases Bool.eq_false_or_eq_true (!r0_2) with hb3 | hb3
  ·have h:=h.1 hb3
   refine sD kk [.c (vB r0_1) [],bT,bT,bT,.c (vB r0_2) [],bT,bF,bF,bF,bF,bT] [4,7,14] [(10,vB true)] (obC hc0 (obC (gft hb1) (obC (gft hb1) (obC (gft hb1) (obC hc2 (obC (gft hb1) (obC hb1 (obC (gff hb3) (obC (gff hb3) (obC (gff hb3) (obC hb3 obN))))))))))) ?_
   refine tD ?_
   obtain ⟨he0,he1⟩:=h
   subst res fin
   exact (endD [] (vB true) [vi v]).1
  ·have h:=h.2 hb3
   obtain ⟨r0_3,hc4,h⟩:=h
   refine sD kk [.c (vB r0_1) [],bT,bT,bT,.c (vB r0_2) [],bT,bF,bT,bT,.c (vB r0_3) [],bT,bF] [4,7,14] [(10,vB (!r0_3))] (obC hc0 (obC (gft hb1) (obC (gft hb1) (obC (gft hb1) (obC hc2 (obC (gft hb1) (obC hb1 (obC (gft hb3) (obC (gft hb3) (obC hc4 (obC (gft hb3) (obC hb3 obN)))))))))))) ?_
   refine tD ?_
   obtain ⟨he0,he1⟩:=h
   subst res fin
   exact (endD [] (vB (!r0_3)) [vi v]).1
set_option maxHeartbeats 1000000 in
theorem W_slices_IndexFunc__api_Rule_api_Rule_at_spec_Right_L1 (s0:(List api_Rule)) (cap:Int) (res:Int) (fin:Int)
 (h:(∃ (Inv9:Int→Int→Prop) (mu10:Int→Int→Nat),Inv9 cap 0∧(∀ (o0:Int) (t8:Int),Inv9 o0 t8→(((decide (t8 < (↑(List.length s0):Int)))=true→((0:Int)≤t8)∧t8 < ↑(List.length s0)∧(∃ r0_2:Bool,∃ o_2:Int,C_spec_Right_L1 (gd s0 t8) o0 r0_2 o_2∧(((r0_2)=true→(res=t8∧fin=o_2))∧((r0_2)=false→(Inv9 o_2 (w64 (t8+1))∧mu10 o_2 (w64 (t8+1)) < mu10 o0 t8)))))∧((decide (t8 < (↑(List.length s0):Int)))=false→(res=(-1)∧fin=o0)))))):C_slices_IndexFunc__api_Rule_api_Rule_at_spec_Right_L1 s0 cap res fin:=by
 unfold C_slices_IndexFunc__api_Rule_api_Rule_at_spec_Right_L1
 have kk:=cfOk [17] 19
 refine fD (x:=bodyOf Try.f108) kk Try.func108 ?_
 refine wkS [1,3,4] [(1,vL enc_api_Rule s0),(3,vi cap),(4,.clo 81 [.ptr 3 0])] (by kernel_rfl) ?_
 refine sD kk [] [] [] obN ?_
 refine qD ?_
 refine sDE kk [] [] [(22,vi ((↑(List.length (List.map enc_api_Rule s0)):Int))),(25,vi 0)] [(22,vi ((↑(List.length s0):Int))),(25,vi 0)] obN ?_
 refine bD (id:=0) ?_
 obtain ⟨Inv9,mu10,h0Inv9,hInv9⟩:=h
 refine loD (fun (q:Int×Int)=>(fun (o0:Int) (t8:Int)=>([(1,vL enc_api_Rule s0),(3,vi o0),(4,.clo 81 [.ptr 3 0]),(22,vi ((↑(List.length s0):Int))),(25,vi t8)]:Sta)) q.1 q.2) (fun (q:Int×Int)=>Inv9 q.1 q.2) (fun (q:Int×Int)=>mu10 q.1 q.2) (cap,0) [] h0Inv9 ?_
 rintro ⟨o0,t8⟩ hi
 have h:=hInv9 o0 t8 hi
 refine sD kk [] [] [(28,vB (decide (t8 < (↑(List.length s0):Int))))] obN ?_
 refine qD ?_
 refine cD (t:=9) (b:=decide (t8 < (↑(List.length s0):Int))) (fun hb11=>?_) (fun hb11=>?_)
 ·have h:=h.1 hb11
  refine Sem.skip' (by kernel_rfl) Wk.refl ?_
  show Sem _ _ _ _ _
  refine wkD [28] ?_
  refine qD ?_
  refine bD (id:=1) ?_
  refine sD kk [] [] [(16,vi t8)] obN ?_
  obtain ⟨h12,h⟩:=h
  obtain ⟨h13,h⟩:=h
  obtain ⟨r0_2,o_2,hc14,h⟩:=h
  refine sD kk [.e (fv_api_Rule (gd s0 t8)),.c (vB r0_2) [vi o_2]] [] [(3,vi o_2),(49,vB r0_2)] (obC h12 (obC (idx_ok enc_api_Rule s0 t8 _ (enc_api_Rule_eq _) h12 h13) (obC hc14 obN))) ?_
  refine cD (t:=16) (b:=r0_2) (fun hb15=>?_) (fun hb15=>?_)
  ·have h:=h.1 hb15
   refine sD kk [] [1,4,16,22,25,49] [(13,vi t8)] obN ?_
   refine tD ?_
   obtain ⟨he0,he1⟩:=h
   subst res fin
   exact (endD [] (vi t8) [vi o_2]).1
  ·have h:=h.2 hb15
   refine Sem.skip' (by kernel_rfl) Wk.refl ?_
   show Sem _ _ _ _ _
   refine wkD [16,49] ?_
   refine rD kk [] [] [(25,vi (w64 (t8+1)))] obN ?_
   exact lD (o_2,(w64 (t8+1))) [] h
 ·have h:=h.2 hb11
  refine xD (i:=0) ?_
  show Sem _ _ _ _ _
  refine wkD [1,4,22,25,28] ?_
  refine sD kk [] [] [(13,vi (-1))] obN ?_
  refine tD ?_
  obtain ⟨he0,he1⟩:=h
  subst res fin
  exact (endD [] (vi (-1)) [vi o0]).1
set_option maxHeartbeats 1000000 in
theorem W_slices_ContainsFunc__api_Rule_api_Rule_at_spec_Right_L1 (s0:(List api_Rule)) (cap:Int) (res:Bool) (fin:Int)
 (h:(∃ r0:Int,∃ o:Int,C_slices_IndexFunc__api_Rule_api_Rule_at_spec_Right_L1 s0 cap r0 o∧(res=(decide (r0≥(0:Int)))∧fin=o))):C_slices_ContainsFunc__api_Rule_api_Rule_at_spec_Right_L1 s0 cap res fin:=by
 unfold C_slices_ContainsFunc__api_Rule_api_Rule_at_spec_Right_L1
 have kk:=cfOk [] 9
 refine fD (x:=bodyOf Try.f85) kk Try.func85 ?_
 refine wkS [1,3,4] [(1,vL enc_api_Rule s0),(3,vi cap),(4,.clo 81 [.ptr 3 0])] (by kernel_rfl) ?_
 refine sD kk [] [] [] obN ?_
 obtain ⟨r0,o,hc0,h⟩:=h
 refine sD kk [.c (vi r0) [vi o]] [1,4] [(3,vi o),(13,vB (decide (r0≥(0:Int))))] (obC hc0 obN) ?_
 refine tD ?_
 obtain ⟨he0,he1⟩:=h
 subst res fin
 exact (endD [] (vB (decide (r0≥(0:Int)))) [vi o]).1
set_option maxHeartbeats 1000000 in
theorem W_spec_Right (s0:api_Spec) (res:Bool)
 (h:((decide ((↑(List.length (List.map enc_api_Cond (api_Spec.Conds s0))):Int) < (1:Int)))=false→((decide ((↑(List.length (List.map enc_api_Cond (api_Spec.Conds s0))):Int) > (8:Int)))=false→((decide ((↑(List.length (List.map enc_api_Rule (api_Spec.Rules s0))):Int) > (40:Int)))=false→(0:Nat) < List.length (api_Spec.Conds s0))))∧(((decide ((↑(List.length (List.map enc_api_Cond (api_Spec.Conds s0))):Int) < (1:Int)) || (decide ((↑(List.length (List.map enc_api_Cond (api_Spec.Conds s0))):Int) > (8:Int)) || (decide ((↑(List.length (List.map enc_api_Rule (api_Spec.Rules s0))):Int) > (40:Int)) || !(ByteArray.toList (api_Cond.Name (List.getD (api_Spec.Conds s0) (0:Nat) default)) == ByteArray.toList { data:=#[(73:UInt8),(78:UInt8),(73:UInt8),(84:UInt8),(73:UInt8),(65:UInt8),(76:UInt8)] } && (api_Cond.Exclusive (List.getD (api_Spec.Conds s0) (0:Nat) default) == false && true)))))=true→(res=false))∧((decide ((↑(List.length (List.map enc_api_Cond (api_Spec.Conds s0))):Int) < (1:Int)) || (decide ((↑(List.length (List.map enc_api_Cond (api_Spec.Conds s0))):Int) > (8:Int)) || (decide ((↑(List.length (List.map enc_api_Rule (api_Spec.Rules s0))):Int) > (40:Int)) || !(ByteArray.toList (api_Cond.Name (List.getD (api_Spec.Conds s0) (0:Nat) default)) == ByteArray.toList { data:=#[(73:UInt8),(78:UInt8),(73:UInt8),(84:UInt8),(73:UInt8),(65:UInt8),(76:UInt8)] } && (api_Cond.Exclusive (List.getD (api_Spec.Conds s0) (0:Nat) default) == false && true)))))=false→(∃ (Inv14:List ByteArray→Int→Prop) (mu15:List ByteArray→Int→Nat),Inv14 ([]) 0∧(∀ (t65:List ByteArray) (t36:Int),Inv14 t65 t36→(((decide (t36 < (↑(List.length (api_Spec.Conds s0)):Int)))=true→((0:Int)≤t36)∧t36 < ↑(List.length (api_Spec.Conds s0))∧(∃ r0_2:Bool,C_read_Name (api_Cond.Name (gd (api_Spec.Conds s0) t36)) r0_2∧(((!r0_2)=true→(res=false))∧((!r0_2)=false→(Inv14 (sput (api_Cond.Name (gd (api_Spec.Conds s0) t36)) t65) (w64 (t36+1))∧mu15 (sput (api_Cond.Name (gd (api_Spec.Conds s0) t36)) t65) (w64 (t36+1)) < mu15 t65 t36)))))∧((decide (t36 < (↑(List.length (api_Spec.Conds s0)):Int)))=false→((((↑(List.length (List.map encm_string_set t65)):Int) == (↑(List.length (api_Spec.Conds s0)):Int))=true→(∃ r0_3:Bool,∃ o:Int,C_slices_ContainsFunc__api_Rule_api_Rule_at_spec_Right_L1 (api_Spec.Rules s0) ((↑(List.length (api_Spec.Conds s0)):Int)) r0_3 o∧(res=(!r0_3))))∧(((↑(List.length (List.map encm_string_set t65)):Int) == (↑(List.length (api_Spec.Conds s0)):Int))=false→(res=false)))))))))):C_spec_Right s0 res:=by
 unfold C_spec_Right
 have kk:=cfOk [] 64
 refine fD (x:=bodyOf Try.f53) kk Try.func53 ?_
 refine wkS [1] [(1,av_api_Spec s0)] (by kernel_rfl) ?_
 refine sD kk [] [1] [(4,.ptr 8 0),(8,av_api_Spec s0)] obN ?_
 refine qD ?_
 obtain ⟨h3,h⟩:=h
 refine sM [] [(94,vB (decide ((↑(List.length (List.map enc_api_Cond (api_Spec.Conds s0))):Int) < (1:Int)) || (decide ((↑(List.length (List.map enc_api_Cond (api_Spec.Conds s0))):Int) > (8:Int)) || (decide ((↑(List.length (List.map enc_api_Rule (api_Spec.Rules s0))):Int) > (40:Int)) || !(ByteArray.toList (api_Cond.Name (List.getD (api_Spec.Conds s0) (0:Nat) default)) == ByteArray.toList { data:=#[(73:UInt8),(78:UInt8),(73:UInt8),(84:UInt8),(73:UInt8),(65:UInt8),(76:UInt8)] } && (api_Cond.Exclusive (List.getD (api_Spec.Conds s0) (0:Nat) default) == false && true))))))] ?_ (fun hk0=>?_)
 ·refine cD (t:=31) (b:=decide ((↑(List.length (List.map enc_api_Cond (api_Spec.Conds s0))):Int) < (1:Int)) || (decide ((↑(List.length (List.map enc_api_Cond (api_Spec.Conds s0))):Int) > (8:Int)) || (decide ((↑(List.length (List.map enc_api_Rule (api_Spec.Rules s0))):Int) > (40:Int)) || !(ByteArray.toList (api_Cond.Name (List.getD (api_Spec.Conds s0) (0:Nat) default)) == ByteArray.toList { data:=#[(73:UInt8),(78:UInt8),(73:UInt8),(84:UInt8),(73:UInt8),(65:UInt8),(76:UInt8)] } && (api_Cond.Exclusive (List.getD (api_Spec.Conds s0) (0:Nat) default) == false && true))))) (fun hb4=>?_) (fun hb4=>?_)
  ·have h:=h.1 hb4
   refine sD kk [] [4,8,94] [(7,vB false)] obN ?_
   refine tD ?_
   obtain he0:=h
   subst res
   exact (endD [] (vB false) []).1
  ·have h:=h.2 hb4
   refine Sem.skip' (by kernel_rfl) Wk.refl ?_
   show Sem _ _ _ _ _
   refine wkD [94] ?_
   refine sDE kk [] [] [(10,.ptr 197 0),(197,.f (FV.sl []))] [(10,.ptr 197 0),(197,vL encm_string_set ([]))] obN ?_
   refine qD ?_
   refine sDE kk [] [] [(103,vL enc_api_Cond (api_Spec.Conds s0)),(106,vi ((↑(List.length (List.map enc_api_Cond (api_Spec.Conds s0))):Int))),(109,vi 0)] [(103,vL enc_api_Cond (api_Spec.Conds s0)),(106,vi ((↑(List.length (api_Spec.Conds s0)):Int))),(109,vi 0)] obN ?_
   refine bD (id:=0) ?_
   obtain ⟨Inv14,mu15,h0Inv14,hInv14⟩:=h
   refine loD (fun (q:List ByteArray×Int)=>(fun (t65:List ByteArray) (t36:Int)=>([(4,.ptr 8 0),(8,av_api_Spec s0),(10,.ptr 197 0),(103,vL enc_api_Cond (api_Spec.Conds s0)),(106,vi ((↑(List.length (api_Spec.Conds s0)):Int))),(109,vi t36),(197,vL encm_string_set t65)]:Sta)) q.1 q.2) (fun (q:List ByteArray×Int)=>Inv14 q.1 q.2) (fun (q:List ByteArray×Int)=>mu15 q.1 q.2) (([]),0) [] h0Inv14 ?_
   rintro ⟨t65,t36⟩ hi
   have h:=hInv14 t65 t36 hi
   refine sD kk [] [] [(112,vB (decide (t36 < (↑(List.length (api_Spec.Conds s0)):Int))))] obN ?_
   refine qD ?_
   refine cD (t:=37) (b:=decide (t36 < (↑(List.length (api_Spec.Conds s0)):Int))) (fun hb16=>?_) (fun hb16=>?_)
   ·have h:=h.1 hb16
    refine Sem.skip' (by kernel_rfl) Wk.refl ?_
    show Sem _ _ _ _ _
    refine wkD [112] ?_
    refine qD ?_
    refine bD (id:=1) ?_
    obtain ⟨h17,h⟩:=h
    obtain ⟨h18,h⟩:=h
    refine sD kk [.e (fv_api_Cond (gd (api_Spec.Conds s0) t36))] [] [(16,.ptr 32 0),(32,av_api_Cond (gd (api_Spec.Conds s0) t36))] (obC h17 (obC (idx_ok enc_api_Cond (api_Spec.Conds s0) t36 _ (enc_api_Cond_eq _) h17 h18) obN)) ?_
    refine qD ?_
    obtain ⟨r0_2,hc19,h⟩:=h
    refine sD kk [.c (vB r0_2) []] [] [(130,vB (!r0_2))] (obC hc19 obN) ?_
    refine cD (t:=43) (b:=!r0_2) (fun hb20=>?_) (fun hb20=>?_)
    ·have h:=h.1 hb20
     refine sD kk [] [4,8,10,16,32,103,106,109,130,197] [(7,vB false)] obN ?_
     refine tD ?_
     obtain he0:=h
     subst res
     exact (endD [] (vB false) []).1
    ·have h:=h.2 hb20
     refine Sem.skip' (by kernel_rfl) Wk.refl ?_
     show Sem _ _ _ _ _
     refine wkD [130] ?_
     refine rDE kk [] [16,32] [(197,.f (FV.sl (putE (Value.string (api_Cond.Name (gd (api_Spec.Conds s0) t36))) (FV.agg []) (List.map encm_string_set t65))))] [(197,vL encm_string_set (sput (api_Cond.Name (gd (api_Spec.Conds s0) t36)) t65))] (obC (show List.all (List.map encm_string_set t65) (keyIs (TI.desc { desc:=TypeInfo.desc Proofs.Try.t9,size:=(1:Nat),bytes:=(16:Nat),zero:=Option.some (AV.f (FV.pv (Value.string { data:=#[] }))) }))=true from by first | exact fitsm_string_set _ | exact keysencm_string_set _ | rfl | simp [isByteF,FV.fits,FV.size,FV.cells,FV.one,]) obN) ?_
     show Sem _ _ _ _ _
     refine rD kk [] [] [(109,vi (w64 (t36+1)))] obN ?_
     exact lD ((sput (api_Cond.Name (gd (api_Spec.Conds s0) t36)) t65),(w64 (t36+1))) [] h
   ·have h:=h.2 hb16
    refine xD (i:=0) ?_
    show Sem _ _ _ _ _
    refine wkD [103,106,109,112] ?_
    refine sDE kk [] [] [(19,.ptr 38 0),(38,vi ((↑(List.length (List.map enc_api_Cond (api_Spec.Conds s0))):Int)))] [(19,.ptr 38 0),(38,vi ((↑(List.length (api_Spec.Conds s0)):Int)))] obN ?_
    refine sD kk [] [] [(22,.clo 81 [.ptr 38 0])] obN ?_
    rcases Bool.eq_false_or_eq_true ((↑(List.length (List.map encm_string_set t65)):Int) == (↑(List.length (api_Spec.Conds s0)):Int)) with hb21 | hb21
    ·have h:=h.1 hb21
     obtain ⟨r0_3,o,hc22,h⟩:=h
     refine sD kk [bT,bT,bT,bT,.c (vB r0_3) [vi o],bT,bT] [4,8,10,19,22,38,197] [(7,vB (!r0_3))] (obC (gtt hb21) (obC (gtt hb21) (obC (gtt hb21) (obC (gtt hb21) (obC hc22 (obC (gtt hb21) (obC hb21 obN))))))) ?_
     refine tD ?_
     obtain he0:=h
     subst res
     exact (endD [] (vB (!r0_3)) []).1
    ·have h:=h.2 hb21
     refine sD kk [bF,bF,bF,bF,bF,bF] [4,8,10,19,22,38,197] [(7,vB false)] (obC (gtf hb21) (obC (gtf hb21) (obC (gtf hb21) (obC (gtf hb21) (obC (gtf hb21) (obC hb21 obN)))))) ?_
     refine tD ?_
     obtain he0:=h
     subst res
     exact (endD [] (vB false) []).1
 ·rcases Bool.eq_false_or_eq_true (decide ((↑(List.length (List.map enc_api_Cond (api_Spec.Conds s0))):Int) < (1:Int))) with hb0 | hb0
  ·refine sD kk [bF,bF,bF,bF,bT,bF,bF,bF,bF,bT,bF,bF,bF,bF,bF,bF,bT] [] [(94,vB true)] (obC (gff hb0) (obC (gff hb0) (obC (gff hb0) (obC (gff hb0) (obC hb0 (oF (oF (oF (oF (oT (oF (oF (oF (oF (oF (oF (oT obN))))))))))))))))) ?_
   exact Sem.cast (by try rw [hb0];kernel_rfl) hk0
  ·rcases Bool.eq_false_or_eq_true (decide ((↑(List.length (List.map enc_api_Cond (api_Spec.Conds s0))):Int) > (8:Int))) with hb1 | hb1
   ·refine sD kk [bT,bT,bT,bT,bF,bF,bF,bF,bF,bT,bF,bF,bF,bF,bF,bF,bT] [] [(94,vB true)] (obC (gft hb0) (obC (gft hb0) (obC (gft hb0) (obC (gft hb0) (obC hb0 (obC (gff hb1) (obC (gff hb1) (obC (gff hb1) (obC (gff hb1) (obC hb1 (oF (oF (oF (oF (oF (oF (oT obN))))))))))))))))) ?_
    exact Sem.cast (by try rw [hb0];try rw [hb1];kernel_rfl) hk0
   ·rcases Bool.eq_false_or_eq_true (decide ((↑(List.length (List.map enc_api_Rule (api_Spec.Rules s0))):Int) > (40:Int))) with hb2 | hb2
    ·refine sD kk [bT,bT,bT,bT,bF,bT,bT,bT,bT,bF,bF,bF,bF,bF,bF,bF,bT] [] [(94,vB true)] (obC (gft hb0) (obC (gft hb0) (obC (gft hb0) (obC (gft hb0) (obC hb0 (obC (gft hb1) (obC (gft hb1) (obC (gft hb1) (obC (gft hb1) (obC hb1 (obC (gff hb2) (obC (gff hb2) (obC (gff hb2) (obC (gff hb2) (obC (gff hb2) (obC (gff hb2) (obC hb2 obN))))))))))))))))) ?_
     exact Sem.cast (by try rw [hb0];try rw [hb1];try rw [hb2];kernel_rfl) hk0
    ·refine sD kk [bT,bT,bT,bT,bF,bT,bT,bT,bT,bF,bT,bT,bT,.e (fv_api_Cond (List.getD (api_Spec.Conds s0) (0:Nat) default)),bT,bT,bT,bF] [] [(94,vB (!(ByteArray.toList (api_Cond.Name (List.getD (api_Spec.Conds s0) (0:Nat) default)) == ByteArray.toList { data:=#[(73:UInt8),(78:UInt8),(73:UInt8),(84:UInt8),(73:UInt8),(65:UInt8),(76:UInt8)] } && (api_Cond.Exclusive (List.getD (api_Spec.Conds s0) (0:Nat) default) == false && true))))] (obC (gft hb0) (obC (gft hb0) (obC (gft hb0) (obC (gft hb0) (obC hb0 (obC (gft hb1) (obC (gft hb1) (obC (gft hb1) (obC (gft hb1) (obC hb1 (obC (gft hb2) (obC (gft hb2) (obC (gft hb2) (obC (show (0:Int)≤(0:Int) from by first | decide | rfl | trivial) (obC (show (List.map enc_api_Cond (api_Spec.Conds s0))[(Int.toNat (0:Int):Nat)]?=some (fv_api_Cond (List.getD (api_Spec.Conds s0) (0:Nat) default)) from by have:=idx_ok' enc_api_Cond (api_Spec.Conds s0) ((0:Nat)) _ (enc_api_Cond_eq _) (((h3 hb0) hb1) hb2);simpa only [nm,enq,enc_api_Cond_eq] using this) (obC (gft hb2) (obC (gft hb2) (obC (gft hb2) (obC hb2 obN))))))))))))))))))) ?_
     exact Sem.cast (by try rw [hb0];try rw [hb1];try rw [hb2];kernel_rfl) hk0
set_option maxHeartbeats 1000000 in
theorem W_place_builder_place (s0:arr4_uint64) (b:place_builder) (res:place_piece) (fin:place_builder)
 (h:((List.length (place_builder.sets b)+(1:Nat)) * (32:Nat)≤(2:Nat) ^ (47:Nat))∧((List.length (place_builder.follow b)+(1:Nat)) * (24:Nat)≤(2:Nat) ^ (47:Nat))∧(res=({ first:=[(↑(List.length (place_builder.sets b)):Int)],last:=[(↑(List.length (place_builder.sets b)):Int)],null:=false })∧fin=({ sets:=place_builder.sets b++[s0],follow:=place_builder.follow b++[[]] }))):C_place_builder_place s0 b res fin:=by
 unfold C_place_builder_place
 have kk:=cfOk [] 34
 refine fD (x:=bodyOf Try.f112) kk Try.func112 ?_
 refine wkS [1,3,4] [(1,.ptr 3 0),(3,ao_place_builder b),(4,av_arr4_uint64 s0)] (by kernel_rfl) ?_
 refine sDE kk [] [4] [(10,.ptr 20 0),(13,.ptr 26 0),(20,av_arr4_uint64 s0),(26,.agg [.own 3 ([]),.own 3 ([]),vB false])] [(10,.ptr 20 0),(13,.ptr 26 0),(20,av_arr4_uint64 s0),(26,.agg [oL 3 enc_i64 ([]),oL 3 enc_i64 ([]),vB false])] obN ?_
 refine sDE kk [] [] [(16,.own 3 ([FV.pv (Value.int IntKind.i64 (↑(List.length (List.map enc_arr4_uint64 (place_builder.sets b))):Int))]))] [(16,oL 3 enc_i64 ([(↑(List.length (place_builder.sets b)):Int)]))] obN ?_
 obtain ⟨h0,h⟩:=h
 obtain ⟨h1,h⟩:=h
 refine sDE kk [] [1,10,20] [(3,.agg [.own 33 (List.map enc_arr4_uint64 (place_builder.sets b)++List.take (List.length [FV.agg [FV.pv (Value.int IntKind.u64 (arr4_uint64.e0 s0)),FV.pv (Value.int IntKind.u64 (arr4_uint64.e1 s0)),FV.pv (Value.int IntKind.u64 (arr4_uint64.e2 s0)),FV.pv (Value.int IntKind.u64 (arr4_uint64.e3 s0))]]) (List.drop (0:Nat) [FV.agg [FV.pv (Value.int IntKind.u64 (arr4_uint64.e0 s0)),FV.pv (Value.int IntKind.u64 (arr4_uint64.e1 s0)),FV.pv (Value.int IntKind.u64 (arr4_uint64.e2 s0)),FV.pv (Value.int IntKind.u64 (arr4_uint64.e3 s0))]])),.own 30 (List.map encs_i64 (place_builder.follow b)++List.take (List.length [FV.sl []]) (List.drop (0:Nat) [FV.sl []]))])] [(3,.agg [oL 33 enc_arr4_uint64 (place_builder.sets b++[s0]),oL 30 encs_i64 (place_builder.follow b++[[]])])] (obC (show (0:Nat)=(0:Nat)∧List.length (List.map enc_arr4_uint64 (place_builder.sets b))=List.length (List.map enc_arr4_uint64 (place_builder.sets b)) from ⟨rfl,rfl⟩) (obC (show (List.length (List.map enc_arr4_uint64 (place_builder.sets b))+List.length (List.take (1:Nat) (List.drop (0:Nat) [FV.agg [FV.pv (Value.int IntKind.u64 (arr4_uint64.e0 s0)),FV.pv (Value.int IntKind.u64 (arr4_uint64.e1 s0)),FV.pv (Value.int IntKind.u64 (arr4_uint64.e2 s0)),FV.pv (Value.int IntKind.u64 (arr4_uint64.e3 s0))]]))) * (32:Nat)≤(2:Nat) ^ (47:Nat) from by simpa only [nm] using h0) (obC (show List.all (List.take (1:Nat) (List.drop (0:Nat) [FV.agg [FV.pv (Value.int IntKind.u64 (arr4_uint64.e0 s0)),FV.pv (Value.int IntKind.u64 (arr4_uint64.e1 s0)),FV.pv (Value.int IntKind.u64 (arr4_uint64.e2 s0)),FV.pv (Value.int IntKind.u64 (arr4_uint64.e3 s0))]])) (FV.fits (4:Nat))=true from by first | exact fits_u64 _ | exact keysenc_u64 _ | rfl | simp [isByteF,FV.fits,FV.size,FV.cells,FV.one,]) (obC (show (0:Nat)=(0:Nat)∧List.length (List.map encs_i64 (place_builder.follow b))=List.length (List.map encs_i64 (place_builder.follow b)) from ⟨rfl,rfl⟩) (obC (show (List.length (List.map encs_i64 (place_builder.follow b))+List.length (List.take (1:Nat) (List.drop (0:Nat) [FV.sl []]))) * (24:Nat)≤(2:Nat) ^ (47:Nat) from by simpa only [nm] using h1) (obC (show List.all (List.take (1:Nat) (List.drop (0:Nat) [FV.sl []])) (FV.fits (1:Nat))=true from by first | decide | rfl | trivial) obN)))))) ?_
 refine sDE kk [] [16] [(26,.agg [.f (FV.sl (List.take (1:Nat) (List.drop (0:Nat) (List.map enc_i64 [(↑(List.length (place_builder.sets b)):Int)])))),.f (FV.sl (List.take (1:Nat) (List.drop (0:Nat) (List.map enc_i64 [(↑(List.length (place_builder.sets b)):Int)])))),vB false])] [(26,.agg [vL enc_i64 ([(↑(List.length (place_builder.sets b)):Int)]),vL enc_i64 ([(↑(List.length (place_builder.sets b)):Int)]),vB false])] obN ?_
 refine tD ?_
 obtain ⟨he0,he1⟩:=h
 subst res fin
 exact (endD [] (.agg [vL enc_i64 ([(↑(List.length (place_builder.sets b)):Int)]),vL enc_i64 ([(↑(List.length (place_builder.sets b)):Int)]),vB false]) [.agg [oL 33 enc_arr4_uint64 (place_builder.sets b++[s0]),oL 30 encs_i64 (place_builder.follow b++[[]])]]).1
set_option maxHeartbeats 1000000 in
theorem W_slices_Concat__int_int (slices:(List (List Int))) (res:(List Int))
 (h:(∃ (Inv14:Int→Int→Prop) (mu15:Int→Int→Nat),Inv14 0 0∧(∀ (size:Int) (t11:Int),Inv14 size t11→(((decide (t11 < (↑(List.length slices):Int)))=true→(∃ J20:Prop,(J20→(Inv14 (w64 (size+(↑(List.length (gd slices t11)):Int))) (w64 (t11+1))∧mu15 (w64 (size+(↑(List.length (gd slices t11)):Int))) (w64 (t11+1)) < mu15 size t11))∧((0:Int)≤t11)∧t11 < ↑(List.length slices)∧(((decide (w64 (size+(↑(List.length (gd slices t11)):Int)) < (0:Int)))=true→False)∧((decide (w64 (size+(↑(List.length (gd slices t11)):Int)) < (0:Int)))=false→J20))))∧((decide (t11 < (↑(List.length slices):Int)))=false→((0:Int)≤size∧size≤(2:Int) ^ (40:Nat))∧(∃ (Inv32:List Int→Int→Prop) (mu33:List Int→Int→Nat),Inv32 ([]) 0∧(∀ (newslice:List Int) (t27:Int),Inv32 newslice t27→(((decide (t27 < (↑(List.length slices):Int)))=true→((0:Int)≤t27)∧t27 < ↑(List.length slices)∧((List.length newslice+List.length (gd slices t27)) * (8:Nat)≤(2:Nat) ^ (47:Nat))∧(Inv32 (newslice++gd slices t27) (w64 (t27+1))∧mu33 (newslice++gd slices t27) (w64 (t27+1)) < mu33 newslice t27))∧((decide (t27 < (↑(List.length slices):Int)))=false→(res=newslice)))))))))):C_slices_Concat__int_int slices res:=by
 unfold C_slices_Concat__int_int
 have kk:=cfOk [35] 36
 refine fD (x:=bodyOf Try.f79) kk Try.func79 ?_
 refine wkS [1] [(1,vL encs_i64 slices)] (by kernel_rfl) ?_
 refine sD kk [] [] [] obN ?_
 refine sD kk [] [] [(10,vi 0)] obN ?_
 refine qD ?_
 refine sDE kk [] [] [(28,vL encs_i64 slices),(31,vi ((↑(List.length (List.map encs_i64 slices)):Int))),(34,vi 0)] [(28,vL encs_i64 slices),(31,vi ((↑(List.length slices):Int))),(34,vi 0)] obN ?_
 refine bD (id:=0) ?_
 obtain ⟨Inv14,mu15,h0Inv14,hInv14⟩:=h
 refine loD (fun (q:Int×Int)=>(fun (size:Int) (t11:Int)=>([(1,vL encs_i64 slices),(10,vi size),(28,vL encs_i64 slices),(31,vi ((↑(List.length slices):Int))),(34,vi t11)]:Sta)) q.1 q.2) (fun (q:Int×Int)=>Inv14 q.1 q.2) (fun (q:Int×Int)=>mu15 q.1 q.2) (0,0) [] h0Inv14 ?_
 rintro ⟨size,t11⟩ hi
 have h:=hInv14 size t11 hi
 refine sD kk [] [] [(37,vB (decide (t11 < (↑(List.length slices):Int))))] obN ?_
 refine qD ?_
 refine cD (t:=12) (b:=decide (t11 < (↑(List.length slices):Int))) (fun hb16=>?_) (fun hb16=>?_)
 ·have h:=h.1 hb16
  refine Sem.skip' (by kernel_rfl) Wk.refl ?_
  show Sem _ _ _ _ _
  refine wkD [37] ?_
  obtain ⟨J20,hJ20,h⟩:=h
  refine sjD (fun (_:Unit)=>J20) (fun (_:Unit)=>[(1,vL encs_i64 slices),(10,vi (w64 (size+(↑(List.length (gd slices t11)):Int)))),(28,vL encs_i64 slices),(31,vi ((↑(List.length slices):Int))),(34,vi t11)]) ?_ ?_
  ·rintro _ hj
   have h:=hJ20 hj
   refine rD kk [] [] [(34,vi (w64 (t11+1)))] obN ?_
   exact lD ((w64 (size+(↑(List.length (gd slices t11)):Int))),(w64 (t11+1))) [] h
  ·refine bD (id:=1) ?_
   obtain ⟨h21,h⟩:=h
   obtain ⟨h22,h⟩:=h
   refine sD kk [.e (fL enc_i64 (gd slices t11))] [] [(16,vL enc_i64 (gd slices t11))] (obC h21 (obC (idx_ok encs_i64 slices t11 _ rfl h21 h22) obN)) ?_
   refine sDE kk [] [16] [(10,vi (w64 (size+(↑(List.length (List.map enc_i64 (gd slices t11))):Int))))] [(10,vi (w64 (size+(↑(List.length (gd slices t11)):Int))))] obN ?_
   refine sD kk [] [] [(61,vB (decide (w64 (size+(↑(List.length (gd slices t11)):Int)) < (0:Int))))] obN ?_
   refine cD (t:=20) (b:=decide (w64 (size+(↑(List.length (gd slices t11)):Int)) < (0:Int))) (fun hb23=>?_) (fun hb23=>?_)
   ·have h:=h.1 hb23
    exact h.elim
   ·have h:=h.2 hb23
    refine Sem.skip' (by kernel_rfl) Wk.refl ?_
    exact jD () [] h
 ·have h:=h.2 hb16
  refine xD (i:=0) ?_
  show Sem _ _ _ _ _
  refine wkD [28,31,34,37] ?_
  obtain ⟨h24,h⟩:=h
  refine sDE kk [] [10] [(19,.own 3 ([]))] [(19,oL 3 enc_i64 ([]))] (obC h24 obN) ?_
  refine qD ?_
  refine sDE kk [] [1] [(76,vL encs_i64 slices),(79,vi ((↑(List.length (List.map encs_i64 slices)):Int))),(82,vi 0)] [(76,vL encs_i64 slices),(79,vi ((↑(List.length slices):Int))),(82,vi 0)] obN ?_
  refine bD (id:=2) ?_
  obtain ⟨Inv32,mu33,h0Inv32,hInv32⟩:=h
  refine loD (fun (q:List Int×Int)=>(fun (newslice:List Int) (t27:Int)=>([(19,oL 3 enc_i64 newslice),(76,vL encs_i64 slices),(79,vi ((↑(List.length slices):Int))),(82,vi t27)]:Sta)) q.1 q.2) (fun (q:List Int×Int)=>Inv32 q.1 q.2) (fun (q:List Int×Int)=>mu33 q.1 q.2) (([]),0) [] h0Inv32 ?_
  rintro ⟨newslice,t27⟩ hi
  have h:=hInv32 newslice t27 hi
  refine sD kk [] [] [(85,vB (decide (t27 < (↑(List.length slices):Int))))] obN ?_
  refine qD ?_
  refine cD (t:=28) (b:=decide (t27 < (↑(List.length slices):Int))) (fun hb34=>?_) (fun hb34=>?_)
  ·have h:=h.1 hb34
   refine Sem.skip' (by kernel_rfl) Wk.refl ?_
   show Sem _ _ _ _ _
   refine wkD [85] ?_
   refine qD ?_
   refine bD (id:=3) ?_
   obtain ⟨h35,h⟩:=h
   obtain ⟨h36,h⟩:=h
   refine sD kk [.e (fL enc_i64 (gd slices t27))] [] [(25,vL enc_i64 (gd slices t27))] (obC h35 (obC (idx_ok encs_i64 slices t27 _ rfl h35 h36) obN)) ?_
   obtain ⟨h37,h⟩:=h
   refine rDE kk [] [25] [(19,.own 3 (List.map enc_i64 newslice++List.map enc_i64 (gd slices t27)))] [(19,oL 3 enc_i64 (newslice++gd slices t27))] (obC (show (0:Nat)=(0:Nat)∧List.length (List.map enc_i64 newslice)=List.length (List.map enc_i64 newslice) from ⟨rfl,rfl⟩) (obC (show (List.length (List.map enc_i64 newslice)+List.length (List.map enc_i64 (gd slices t27))) * (8:Nat)≤(2:Nat) ^ (47:Nat) from by simpa only [nm] using h37) (obC (show List.all (List.map enc_i64 (gd slices t27)) (FV.fits (1:Nat))=true from by first | exact fits_i64 _ | exact keysenc_i64 _ | rfl | simp [isByteF,FV.fits,FV.size,FV.cells,FV.one,enc_i64]) obN))) ?_
   show Sem _ _ _ _ _
   refine rD kk [] [] [(82,vi (w64 (t27+1)))] obN ?_
   exact lD ((newslice++gd slices t27),(w64 (t27+1))) [] h
  ·have h:=h.2 hb34
   refine xD (i:=2) ?_
   show Sem _ _ _ _ _
   refine wkD [76,79,82,85] ?_
   refine sD kk [] [19] [(7,oL 3 enc_i64 newslice)] obN ?_
   refine tD ?_
   obtain he0:=h
   subst res
   exact (endD [] (oL 3 enc_i64 newslice) []).1
set_option maxHeartbeats 1000000 in
theorem W_place_Join_int (a:(List Int)) (b:(List Int)) (res:(List Int))
 (h:(∃ r0:List Int,C_slices_Concat__int_int ([a,b]) r0∧List.length r0 < 1099511627776∧(List.length (sortInts r0)=List.length r0)∧List.length (sortInts r0) < 1099511627776∧(res=(compactInts (sortInts r0))))):C_place_Join_int a b res:=by
 unfold C_place_Join_int
 have kk:=cfOk [] 14
 refine fD (x:=bodyOf Try.f64) kk Try.func64 ?_
 refine wkS [1,4] [(1,vL enc_i64 a),(4,vL enc_i64 b)] (by kernel_rfl) ?_
 refine sD kk [] [] [] obN ?_
 obtain ⟨r0,hc0,h⟩:=h
 refine sD kk [.c (oL 3 enc_i64 r0) []] [1,4] [(16,oL 3 enc_i64 r0)] (obC (Eq.mp (by unfold C_slices_Concat__int_int;(try simp only [List.drop_zero,List.take_length]);first | done | simp only [nm,enq]:C_slices_Concat__int_int ([a,b]) r0=CallE Try.prog 79 [.f (FV.sl (List.take (List.length [FV.sl (List.map enc_i64 a),FV.sl (List.map enc_i64 b)]) (List.drop (0:Nat) [FV.sl (List.map enc_i64 a),FV.sl (List.map enc_i64 b)])))] [] (oL 3 enc_i64 r0) []) hc0) obN) ?_
 obtain ⟨h1,h⟩:=h
 obtain ⟨h2,h⟩:=h
 refine sD kk [.l (List.map enc_i64 (sortInts r0))] [] [(16,oL 3 enc_i64 (sortInts r0))] (obC (show (0:Nat)=(0:Nat)∧List.length (List.map enc_i64 r0)=List.length (List.map enc_i64 r0) from ⟨rfl,rfl⟩) (obC (show Prod.fst (sortF,false) (List.map enc_i64 r0)=some (List.map enc_i64 (sortInts r0)) from by first | exact sortF_map enc_i64 (fun _=>rfl) _ h1 | (have:=sortF_map enc_i64 (fun _=>rfl) _ h1;simpa only [nm,enq] using this)) (obC (show List.length (List.map enc_i64 (sortInts r0))=List.length (List.map enc_i64 r0) from by simpa only [nm] using h2) obN))) ?_
 obtain ⟨h3,h⟩:=h
 refine sD kk [.l (List.map enc_i64 (compactInts (sortInts r0)))] [16] [(13,oL 3 enc_i64 (compactInts (sortInts r0)))] (obC (show (0:Nat)=(0:Nat)∧List.length (List.map enc_i64 (sortInts r0))=List.length (List.map enc_i64 (sortInts r0)) from ⟨rfl,rfl⟩) (obC (show Prod.fst (compactF,true) (List.map enc_i64 (sortInts r0))=some (List.map enc_i64 (compactInts (sortInts r0))) from by first | exact compactF_map enc_i64 (fun _=>rfl) _ h3 | (have:=compactF_map enc_i64 (fun _=>rfl) _ h3;simpa only [nm,enq] using this)) obN)) ?_
 refine tD ?_
 obtain he0:=h
 subst res
 exact (endD [(13,0)] (vL enc_i64 (compactInts (sortInts r0))) []).1
set_option maxHeartbeats 1000000 in
theorem W_place_builder_lead (from0:(List Int)) (to0:(List Int)) (b:place_builder) (fin:place_builder)
 (h:(∃ (Inv19:List (List Int)→Int→Prop) (mu20:List (List Int)→Int→Nat),Inv19 (place_builder.follow b) 0∧(∀ (o0_follow:List (List Int)) (t10:Int),Inv19 o0_follow t10→(((decide (t10 < (↑(List.length from0):Int)))=true→((0:Int)≤t10)∧t10 < ↑(List.length from0)∧((0:Int)≤gd from0 t10)∧(Int.toNat (gd from0 t10) < List.length o0_follow)∧gd from0 t10 < ↑(List.length o0_follow)∧(∃ r0_2:List Int,C_place_Join_int (gd o0_follow (gd from0 t10)) to0 r0_2∧((0:Int)≤gd from0 t10)∧(Int.toNat (gd from0 t10) < List.length o0_follow)∧gd from0 t10 < ↑(List.length o0_follow)∧(Inv19 (List.set o0_follow (Int.toNat (gd from0 t10)) r0_2) (w64 (t10+1))∧mu20 (List.set o0_follow (Int.toNat (gd from0 t10)) r0_2) (w64 (t10+1)) < mu20 o0_follow t10)))∧((decide (t10 < (↑(List.length from0):Int)))=false→(fin=({ sets:=place_builder.sets b,follow:=o0_follow }))))))):C_place_builder_lead from0 to0 b fin:=by
 unfold C_place_builder_lead
 have kk:=cfOk [] 30
 refine fD (x:=bodyOf Try.f119) kk Try.func119 ?_
 refine wkS [1,3,4,7] [(1,.ptr 3 0),(3,ao_place_builder b),(4,vL enc_i64 from0),(7,vL enc_i64 to0)] (by kernel_rfl) ?_
 refine sDE kk [] [4] [(25,vL enc_i64 from0),(28,vi ((↑(List.length (List.map enc_i64 from0)):Int))),(31,vi 0)] [(25,vL enc_i64 from0),(28,vi ((↑(List.length from0):Int))),(31,vi 0)] obN ?_
 refine bD (id:=0) ?_
 obtain ⟨Inv19,mu20,h0Inv19,hInv19⟩:=h
 refine loD (fun (q:List (List Int)×Int)=>(fun (o0_follow:List (List Int)) (t10:Int)=>([(1,.ptr 3 0),(3,.agg [oL 33 enc_arr4_uint64 (place_builder.sets b),oL 30 encs_i64 o0_follow]),(7,vL enc_i64 to0),(25,vL enc_i64 from0),(28,vi ((↑(List.length from0):Int))),(31,vi t10)]:Sta)) q.1 q.2) (fun (q:List (List Int)×Int)=>Inv19 q.1 q.2) (fun (q:List (List Int)×Int)=>mu20 q.1 q.2) ((place_builder.follow b),0) [] h0Inv19 ?_
 rintro ⟨o0_follow,t10⟩ hi
 have h:=hInv19 o0_follow t10 hi
 refine sD kk [] [] [(34,vB (decide (t10 < (↑(List.length from0):Int))))] obN ?_
 refine qD ?_
 refine cD (t:=11) (b:=decide (t10 < (↑(List.length from0):Int))) (fun hb21=>?_) (fun hb21=>?_)
 ·have h:=h.1 hb21
  refine Sem.skip' (by kernel_rfl) Wk.refl ?_
  show Sem _ _ _ _ _
  refine wkD [34] ?_
  refine qD ?_
  refine bD (id:=1) ?_
  obtain ⟨h22,h⟩:=h
  obtain ⟨h23,h⟩:=h
  refine sD kk [.e (fi (gd from0 t10))] [] [(22,vi (gd from0 t10))] (obC h22 (obC (idx_ok enc_i64 from0 t10 _ rfl h22 h23) obN)) ?_
  obtain ⟨h24,h⟩:=h
  obtain ⟨h25,h⟩:=h
  obtain ⟨h26,h⟩:=h
  obtain ⟨r0_2,hc27,h⟩:=h
  obtain ⟨h28,h⟩:=h
  obtain ⟨h29,h⟩:=h
  obtain ⟨h30,h⟩:=h
  refine rDE kk [.e (fL enc_i64 (gd o0_follow (gd from0 t10))),.c (vL enc_i64 r0_2) [],.e (fL enc_i64 (gd o0_follow (gd from0 t10)))] [22] [(3,.agg [oL 33 enc_arr4_uint64 (place_builder.sets b),.own 30 (List.set (List.map encs_i64 o0_follow) ((0:Nat)+Int.toNat (gd from0 t10)) (FV.sl (List.map enc_i64 r0_2)))])] [(3,.agg [oL 33 enc_arr4_uint64 (place_builder.sets b),oL 30 encs_i64 (List.set o0_follow (Int.toNat (gd from0 t10)) r0_2)])] (obC h24 (obC (show Int.toNat (gd from0 t10) < List.length (List.map encs_i64 o0_follow) from by simpa only [nm] using h25) (obC (show (List.map encs_i64 o0_follow)[((0:Nat)+Int.toNat (gd from0 t10):Nat)]?=some (fL enc_i64 (gd o0_follow (gd from0 t10))) from by have:=idx_ok encs_i64 o0_follow (gd from0 t10) _ rfl h24 h26;simpa only [nm,enq,encs_i64] using this) (obC hc27 (obC h28 (obC (show Int.toNat (gd from0 t10) < List.length (List.map encs_i64 o0_follow) from by simpa only [nm] using h29) (obC (show (List.map encs_i64 o0_follow)[((0:Nat)+Int.toNat (gd from0 t10):Nat)]?=some (fL enc_i64 (gd o0_follow (gd from0 t10))) from by have:=idx_ok encs_i64 o0_follow (gd from0 t10) _ rfl h28 h30;simpa only [nm,enq,encs_i64] using this) obN))))))) ?_
  show Sem _ _ _ _ _
  refine rD kk [] [] [(31,vi (w64 (t10+1)))] obN ?_
  exact lD ((List.set o0_follow (Int.toNat (gd from0 t10)) r0_2),(w64 (t10+1))) [] h
 ·have h:=h.2 hb21
  refine xD (i:=0) ?_
  obtain he0:=h
  subst fin
  exact (endD [] (.tup []) [.agg [oL 33 enc_arr4_uint64 (place_builder.sets b),oL 30 encs_i64 o0_follow]]).2
end Go.Ev
set_option linter.unusedSimpArgs false
set_option linter.unusedVariables false
namespace Go.Ev
open Go Go.Proofs
set_option maxRecDepth 8000
set_option maxHeartbeats 1000000 in
theorem W_place_builder_cat (x:place_piece) (y:place_piece) (b:place_builder) (res:place_piece) (fin:place_builder)
 (h:(∃ o:place_builder,C_place_builder_lead (place_piece.last x) (place_piece.first y) b o∧(∃ J4:List Int→Prop,(∀ (out_first:List Int),J4 out_first→(∃ J7:List Int→Prop,(∀ (out_last:List Int),J7 out_last→(res=({ first:=out_first,last:=out_last,null:=place_piece.null x && place_piece.null y })∧fin=o))∧(((place_piece.null y)=true→(∃ r0_2:List Int,C_place_Join_int (place_piece.last x) (place_piece.last y) r0_2∧J7 r0_2))∧((place_piece.null y)=false→J7 (place_piece.last y)))))∧(((place_piece.null x)=true→(∃ r0_3:List Int,C_place_Join_int (place_piece.first x) (place_piece.first y) r0_3∧J4 r0_3))∧((place_piece.null x)=false→J4 (place_piece.first x)))))):C_place_builder_cat x y b res fin:=by
 unfold C_place_builder_cat
 have kk:=cfOk [41] 42
 refine fD (x:=bodyOf Try.f113) kk Try.func113 ?_
 refine wkS [1,3,4,7] [(1,.ptr 3 0),(3,ao_place_builder b),(4,av_place_piece x),(7,av_place_piece y)] (by kernel_rfl) ?_
 refine sDE kk [] [4,7] [(13,.ptr 26 0),(16,.ptr 32 0),(19,.ptr 38 0),(26,av_place_piece x),(32,av_place_piece y),(38,.agg [.own 3 ([]),.own 3 ([]),vB false])] [(13,.ptr 26 0),(16,.ptr 32 0),(19,.ptr 38 0),(26,av_place_piece x),(32,av_place_piece y),(38,.agg [oL 3 enc_i64 ([]),oL 3 enc_i64 ([]),vB false])] obN ?_
 obtain ⟨o,hc0,h⟩:=h
 refine sD kk [.c (.tup []) [ao_place_builder o]] [1] [(3,ao_place_builder o)] (obC hc0 obN) ?_
 refine sM [] [(22,.ptr 44 0),(44,.agg [vL enc_i64 (place_piece.first x),vL enc_i64 (place_piece.last y),vB (place_piece.null x && place_piece.null y)])] ?_ (fun hk0=>?_)
 ·obtain ⟨J4,hJ4,h⟩:=h
  refine sjD (fun (q:List Int)=>J4 q) (fun (q:List Int)=>(fun (out_first:List Int)=>([(3,ao_place_builder o),(13,.ptr 26 0),(16,.ptr 32 0),(19,.ptr 38 0),(22,.ptr 44 0),(26,av_place_piece x),(32,av_place_piece y),(38,.agg [oL 3 enc_i64 ([]),oL 3 enc_i64 ([]),vB false]),(44,.agg [vL enc_i64 out_first,vL enc_i64 (place_piece.last y),vB (place_piece.null x && place_piece.null y)])]:Sta)) q) ?_ ?_
  ·rintro out_first hj
   have h:=hJ4 out_first hj
   obtain ⟨J7,hJ7,h⟩:=h
   refine sjD (fun (q:List Int)=>J7 q) (fun (q:List Int)=>(fun (out_last:List Int)=>([(3,ao_place_builder o),(19,.ptr 38 0),(22,.ptr 44 0),(38,.agg [oL 3 enc_i64 ([]),oL 3 enc_i64 ([]),vB false]),(44,.agg [vL enc_i64 out_first,vL enc_i64 out_last,vB (place_piece.null x && place_piece.null y)])]:Sta)) q) ?_ ?_
   ·rintro out_last hj
    have h:=hJ7 out_last hj
    refine sD kk [] [22,44] [(38,.agg [vL enc_i64 out_first,vL enc_i64 out_last,vB (place_piece.null x && place_piece.null y)])] obN ?_
    refine tD ?_
    obtain ⟨he0,he1⟩:=h
    subst res fin
    exact (endD [] (.agg [vL enc_i64 out_first,vL enc_i64 out_last,vB (place_piece.null x && place_piece.null y)]) [ao_place_builder o]).1
   ·refine sD kk [] [] [(103,vB (place_piece.null y))] obN ?_
    refine cD (t:=34) (b:=place_piece.null y) (fun hb8=>?_) (fun hb8=>?_)
    ·have h:=h.1 hb8
     obtain ⟨r0_2,hc9,h⟩:=h
     refine rD kk [.c (vL enc_i64 r0_2) []] [13,16,26,32,103] [(44,.agg [vL enc_i64 out_first,vL enc_i64 r0_2,vB (place_piece.null x && place_piece.null y)])] (obC hc9 obN) ?_
     exact jD r0_2 [] h
    ·have h:=h.2 hb8
     refine Sem.skip' (by kernel_rfl) Wk.refl ?_
     exact jD (place_piece.last y) [] h
  ·refine sD kk [] [] [(79,vB (place_piece.null x))] obN ?_
   refine cD (t:=26) (b:=place_piece.null x) (fun hb10=>?_) (fun hb10=>?_)
   ·have h:=h.1 hb10
    obtain ⟨r0_3,hc11,h⟩:=h
    refine rD kk [.c (vL enc_i64 r0_3) []] [79] [(44,.agg [vL enc_i64 r0_3,vL enc_i64 (place_piece.last y),vB (place_piece.null x && place_piece.null y)])] (obC hc11 obN) ?_
    exact jD r0_3 [] h
   ·have h:=h.2 hb10
    refine Sem.skip' (by kernel_rfl) Wk.refl ?_
    exact jD (place_piece.first x) [] h
 ·rcases Bool.eq_false_or_eq_true (place_piece.null x) with hb1 | hb1
  ·refine sD kk [bT,bT,bT] [] [(22,.ptr 44 0),(44,.agg [vL enc_i64 (place_piece.first x),vL enc_i64 (place_piece.last y),vB (place_piece.null y)])] (obC (gtt hb1) (obC (gtt hb1) (obC hb1 obN))) ?_
   exact Sem.cast (by try rw [hb1];kernel_rfl) hk0
  ·refine sD kk [bF,bF,bF] [] [(22,.ptr 44 0),(44,.agg [vL enc_i64 (place_piece.first x),vL enc_i64 (place_piece.last y),vB false])] (obC (gtf hb1) (obC (gtf hb1) (obC hb1 obN))) ?_
   exact Sem.cast (by try rw [hb1];kernel_rfl) hk0
set_option maxHeartbeats 1000000 in
theorem W_place_builder_copies (x:api_Rx) (n:Int) (b:place_builder) (res:(List place_piece)) (fin:place_builder)
 (h:(∃ (Inv5:List arr4_uint64→List (List Int)→List place_piece→Int→Prop) (mu6:List arr4_uint64→List (List Int)→List place_piece→Int→Nat),Inv5 (place_builder.sets b) (place_builder.follow b) ([]) 0∧(∀ (o0_sets:List arr4_uint64) (o0_follow:List (List Int)) (out:List place_piece) (t8:Int),Inv5 o0_sets o0_follow out t8→(((decide (t8 < n))=true→(∃ r0_2:place_piece,∃ o_2:place_builder,C_place_builder_piece x ({ sets:=o0_sets,follow:=o0_follow }) r0_2 o_2∧((List.length out+(1:Nat)) * (56:Nat)≤(2:Nat) ^ (47:Nat))∧(Inv5 (place_builder.sets o_2) (place_builder.follow o_2) (out++[r0_2]) (w64 (t8+1))∧mu6 (place_builder.sets o_2) (place_builder.follow o_2) (out++[r0_2]) (w64 (t8+1)) < mu6 o0_sets o0_follow out t8)))∧((decide (t8 < n))=false→(res=out∧fin=({ sets:=o0_sets,follow:=o0_follow }))))))):C_place_builder_copies x n b res fin:=by
 unfold C_place_builder_copies
 have kk:=cfOk [17] 18
 refine fD (x:=bodyOf Try.f120) kk Try.func120 ?_
 refine wkS [1,3,4,7] [(1,.ptr 3 0),(3,ao_place_builder b),(4,av_api_Rx x),(7,vi n)] (by kernel_rfl) ?_
 refine sDE kk [] [4] [(13,.ptr 26 0),(19,.own 133 ([])),(26,av_api_Rx x)] [(13,.ptr 26 0),(19,oL 133 enc_place_piece ([])),(26,av_api_Rx x)] obN ?_
 refine qD ?_
 refine sD kk [] [7] [(22,vi n),(25,vi 0)] obN ?_
 refine bD (id:=0) ?_
 obtain ⟨Inv5,mu6,h0Inv5,hInv5⟩:=h
 refine loD (fun (q:List arr4_uint64×List (List Int)×List place_piece×Int)=>(fun (o0_sets:List arr4_uint64) (o0_follow:List (List Int)) (out:List place_piece) (t8:Int)=>([(1,.ptr 3 0),(3,.agg [oL 33 enc_arr4_uint64 o0_sets,oL 30 encs_i64 o0_follow]),(13,.ptr 26 0),(19,oL 133 enc_place_piece out),(22,vi n),(25,vi t8),(26,av_api_Rx x)]:Sta)) q.1 q.2.1 q.2.2.1 q.2.2.2) (fun (q:List arr4_uint64×List (List Int)×List place_piece×Int)=>Inv5 q.1 q.2.1 q.2.2.1 q.2.2.2) (fun (q:List arr4_uint64×List (List Int)×List place_piece×Int)=>mu6 q.1 q.2.1 q.2.2.1 q.2.2.2) ((place_builder.sets b),(place_builder.follow b),([]),0) [] h0Inv5 ?_
 rintro ⟨o0_sets,o0_follow,out,t8⟩ hi
 have h:=hInv5 o0_sets o0_follow out t8 hi
 refine sD kk [] [] [(28,vB (decide (t8 < n)))] obN ?_
 refine qD ?_
 refine cD (t:=9) (b:=decide (t8 < n)) (fun hb7=>?_) (fun hb7=>?_)
 ·have h:=h.1 hb7
  refine Sem.skip' (by kernel_rfl) Wk.refl ?_
  show Sem _ _ _ _ _
  refine wkD [28] ?_
  refine qD ?_
  refine bD (id:=1) ?_
  obtain ⟨r0_2,o_2,hc8,h⟩:=h
  obtain ⟨h9,h⟩:=h
  refine rDE kk [.c (av_place_piece r0_2) [ao_place_builder o_2]] [] [(3,ao_place_builder o_2),(19,.own 133 (List.map enc_place_piece out++List.take (List.length [FV.agg [FV.sl (List.map enc_i64 (place_piece.first r0_2)),FV.sl (List.map enc_i64 (place_piece.last r0_2)),FV.pv (Value.bool (place_piece.null r0_2))]]) (List.drop (0:Nat) [FV.agg [FV.sl (List.map enc_i64 (place_piece.first r0_2)),FV.sl (List.map enc_i64 (place_piece.last r0_2)),FV.pv (Value.bool (place_piece.null r0_2))]])))] [(3,ao_place_builder o_2),(19,oL 133 enc_place_piece (out++[r0_2]))] (obC hc8 (obC (show (0:Nat)=(0:Nat)∧List.length (List.map enc_place_piece out)=List.length (List.map enc_place_piece out) from ⟨rfl,rfl⟩) (obC (show (List.length (List.map enc_place_piece out)+List.length (List.take (1:Nat) (List.drop (0:Nat) [FV.agg [FV.sl (List.map enc_i64 (place_piece.first r0_2)),FV.sl (List.map enc_i64 (place_piece.last r0_2)),FV.pv (Value.bool (place_piece.null r0_2))]]))) * (56:Nat)≤(2:Nat) ^ (47:Nat) from by simpa only [nm] using h9) (obC (show List.all (List.take (1:Nat) (List.drop (0:Nat) [FV.agg [FV.sl (List.map enc_i64 (place_piece.first r0_2)),FV.sl (List.map enc_i64 (place_piece.last r0_2)),FV.pv (Value.bool (place_piece.null r0_2))]])) (FV.fits (3:Nat))=true from by first | exact fits_i64 _ | exact keysenc_i64 _ | rfl | simp [isByteF,FV.fits,FV.size,FV.cells,FV.one,enc_i64]) obN)))) ?_
  show Sem _ _ _ _ _
  refine rD kk [] [] [(25,vi (w64 (t8+1)))] obN ?_
  exact lD ((place_builder.sets o_2),(place_builder.follow o_2),(out++[r0_2]),(w64 (t8+1))) [] h
 ·have h:=h.2 hb7
  refine xD (i:=0) ?_
  show Sem _ _ _ _ _
  refine wkD [1,13,22,25,26,28] ?_
  refine sD kk [] [] [] obN ?_
  refine tD ?_
  obtain ⟨he0,he1⟩:=h
  subst res fin
  exact (endD [] (oL 133 enc_place_piece out) [.agg [oL 33 enc_arr4_uint64 o0_sets,oL 30 encs_i64 o0_follow]]).1
set_option maxHeartbeats 1000000 in
theorem W_place_maybe (x:place_piece) (res:place_piece)
 (h:(res=({ first:=place_piece.first x,last:=place_piece.last x,null:=true }))):C_place_maybe x res:=by
 unfold C_place_maybe
 have kk:=cfOk [4] 5
 refine fD (x:=bodyOf Try.f122) kk Try.func122 ?_
 refine wkS [1] [(1,av_place_piece x)] (by kernel_rfl) ?_
 refine sDE kk [] [1] [(4,.ptr 8 0),(7,.ptr 14 0),(8,av_place_piece x),(14,.agg [.own 3 ([]),.own 3 ([]),vB false])] [(4,.ptr 8 0),(7,.ptr 14 0),(8,av_place_piece x),(14,.agg [oL 3 enc_i64 ([]),oL 3 enc_i64 ([]),vB false])] obN ?_
 refine sD kk [] [] [(8,.agg [vL enc_i64 (place_piece.first x),vL enc_i64 (place_piece.last x),vB true])] obN ?_
 refine sD kk [] [4,8] [(14,.agg [vL enc_i64 (place_piece.first x),vL enc_i64 (place_piece.last x),vB true])] obN ?_
 refine tD ?_
 obtain he0:=h
 subst res
 exact (endD [] (.agg [vL enc_i64 (place_piece.first x),vL enc_i64 (place_piece.last x),vB true]) []).1
set_option maxHeartbeats 1000000 in
theorem W_place_builder_rep (x:api_Rx) (b:place_builder) (res:place_piece) (fin:place_builder)
 (h:(∃ r0:Int,C_rx_Size x r0∧(((r0 == 0)=true→(res=({ first:=[],last:=[],null:=true })∧fin=b))∧((r0 == 0)=false→(0:Nat) < List.length (api_Rx.Kids x)∧(∃ r0_1:List place_piece,∃ o:place_builder,C_place_builder_copies (List.getD (api_Rx.Kids x) (0:Nat) default) (if (1:Int) > if api_Rx.Hi x > api_Rx.Lo x then api_Rx.Hi x else api_Rx.Lo x then (1:Int) else if api_Rx.Hi x > api_Rx.Lo x then api_Rx.Hi x else api_Rx.Lo x) b r0_1 o∧(∃ J14:List arr4_uint64→List (List Int)→List place_piece→Prop,(∀ (o0_sets:List arr4_uint64) (o0_follow:List (List Int)) (l:List place_piece),J14 o0_sets o0_follow l→(C_slices_Backward__place_piece_place_piece l∧(List.length l < 1099511627776∧∃ (Inv24:Nat→List arr4_uint64→List (List Int)→List Int→List Int→Bool→Prop),Inv24 0 o0_sets o0_follow ([]) ([]) true∧(∀ (i:Nat) (y:place_piece),i < List.length l→l[List.length l - 1 - i]?=some y→∀ (o0_sets_1:List arr4_uint64) (o0_follow_1:List (List Int)) (out_first:List Int) (out_last:List Int) (out_null:Bool),Inv24 i o0_sets_1 o0_follow_1 out_first out_last out_null→(∃ r0_6:place_piece,∃ o_4:place_builder,C_place_builder_cat y ({ first:=out_first,last:=out_last,null:=out_null }) ({ sets:=o0_sets_1,follow:=o0_follow_1 }) r0_6 o_4∧(((decide (api_Rx.Hi x≥(0:Int)) && decide ((↑(List.length l):Int) - 1 - (↑i:Int)≥api_Rx.Lo x))=true→(∃ r0_7:place_piece,C_place_maybe r0_6 r0_7∧Inv24 (i+1) (place_builder.sets o_4) (place_builder.follow o_4) (place_piece.first r0_7) (place_piece.last r0_7) (place_piece.null r0_7)))∧((decide (api_Rx.Hi x≥(0:Int)) && decide ((↑(List.length l):Int) - 1 - (↑i:Int)≥api_Rx.Lo x))=false→Inv24 (i+1) (place_builder.sets o_4) (place_builder.follow o_4) (place_piece.first r0_6) (place_piece.last r0_6) (place_piece.null r0_6)))))∧(∀ (o0_sets_1:List arr4_uint64) (o0_follow_1:List (List Int)) (out_first:List Int) (out_last:List Int) (out_null:Bool),Inv24 (List.length l) o0_sets_1 o0_follow_1 out_first out_last out_null→(res=({ first:=out_first,last:=out_last,null:=out_null })∧fin=({ sets:=o0_sets_1,follow:=o0_follow_1 }))))))∧(((decide (api_Rx.Hi x < (0:Int)))=true→((0:Int)≤w64 ((↑(List.length r0_1):Int) - 1))∧(Int.toNat (w64 ((↑(List.length r0_1):Int) - 1)) < List.length r0_1)∧Int.toNat (w64 ((↑(List.length r0_1):Int) - 1)) < List.length r0_1∧Int.toNat (w64 ((↑(List.length r0_1):Int) - 1)) < List.length r0_1∧(∃ o_5:place_builder,C_place_builder_lead (place_piece.last (gd r0_1 (w64 ((↑(List.length r0_1):Int) - 1)))) (place_piece.first (gd r0_1 (w64 ((↑(List.length r0_1):Int) - 1)))) o o_5∧Int.toNat (w64 ((↑(List.length r0_1):Int) - 1)) < List.length r0_1∧(((place_piece.null (gd r0_1 (w64 ((↑(List.length r0_1):Int) - 1))))=true→((place_piece.null (gd r0_1 (w64 ((↑(List.length r0_1):Int) - 1))))=true→Int.toNat (w64 ((↑(List.length r0_1):Int) - 1)) < List.length r0_1)∧J14 (place_builder.sets o_5) (place_builder.follow o_5) (List.set r0_1 (Int.toNat (w64 ((↑(List.length r0_1):Int) - 1))) { first:=place_piece.first (gd r0_1 (w64 ((↑(List.length r0_1):Int) - 1))),last:=place_piece.last (gd r0_1 (w64 ((↑(List.length r0_1):Int) - 1))),null:=true }))∧((place_piece.null (gd r0_1 (w64 ((↑(List.length r0_1):Int) - 1))))=false→((place_piece.null (gd r0_1 (w64 ((↑(List.length r0_1):Int) - 1))))=false→Int.toNat (w64 ((↑(List.length r0_1):Int) - 1)) < List.length r0_1)∧J14 (place_builder.sets o_5) (place_builder.follow o_5) (List.set r0_1 (Int.toNat (w64 ((↑(List.length r0_1):Int) - 1))) { first:=place_piece.first (gd r0_1 (w64 ((↑(List.length r0_1):Int) - 1))),last:=place_piece.last (gd r0_1 (w64 ((↑(List.length r0_1):Int) - 1))),null:=api_Rx.Lo x == 0 })))))∧((decide (api_Rx.Hi x < (0:Int)))=false→J14 (place_builder.sets o) (place_builder.follow o) r0_1)))))))):C_place_builder_rep x b res fin:=by
 unfold C_place_builder_rep
 have kk:=cfOk [75] 76
 refine fD (x:=bodyOf Try.f114) kk Try.func114 ?_
 refine wkS [1,3,4] [(1,.ptr 3 0),(3,ao_place_builder b),(4,av_api_Rx x)] (by kernel_rfl) ?_
 refine sDE kk [] [1,4] [(7,.ptr 14 0),(10,.ptr 20 0),(13,.ptr 26 0),(14,.ptr 3 0),(20,av_api_Rx x),(26,.agg [.own 3 ([]),.own 3 ([]),vB false])] [(7,.ptr 14 0),(10,.ptr 20 0),(13,.ptr 26 0),(14,.ptr 3 0),(20,av_api_Rx x),(26,.agg [oL 3 enc_i64 ([]),oL 3 enc_i64 ([]),vB false])] obN ?_
 refine qD ?_
 obtain ⟨r0,hc0,h⟩:=h
 refine sD kk [.c (vi r0) []] [] [(37,vB (r0 == 0))] (obC hc0 obN) ?_
 refine cD (t:=12) (b:=r0 == 0) (fun hb1=>?_) (fun hb1=>?_)
 ·have h:=h.1 hb1
  refine sDE kk [] [7,10,14,20,37] [(26,.agg [.own 3 ([]),.own 3 ([]),vB true])] [(26,.agg [oL 3 enc_i64 ([]),oL 3 enc_i64 ([]),vB true])] obN ?_
  refine tD ?_
  obtain ⟨he0,he1⟩:=h
  subst res fin
  exact (endD [(26,0),(26,1)] (.agg [vL enc_i64 ([]),vL enc_i64 ([]),vB true]) [ao_place_builder b]).1
 ·have h:=h.2 hb1
  refine Sem.skip' (by kernel_rfl) Wk.refl ?_
  show Sem _ _ _ _ _
  refine wkD [37] ?_
  obtain ⟨h2,h⟩:=h
  obtain ⟨r0_1,o,hc3,h⟩:=h
  refine sD kk [.e (fv_api_Rx (List.getD (api_Rx.Kids x) (0:Nat) default)),.c (oL 133 enc_place_piece r0_1) [ao_place_builder o]] [] [(3,ao_place_builder o),(16,oL 133 enc_place_piece r0_1)] (obC (show (0:Int)≤(0:Int) from by first | decide | rfl | trivial) (obC (show (List.map enc_api_Rx (api_Rx.Kids x))[(Int.toNat (0:Int):Nat)]?=some (fv_api_Rx (List.getD (api_Rx.Kids x) (0:Nat) default)) from by have:=idx_ok' enc_api_Rx (api_Rx.Kids x) ((0:Nat)) _ (enc_api_Rx_eq _) h2;simpa only [nm,enq,enc_api_Rx_eq] using this) (obC (Eq.mp (by unfold C_place_builder_copies;(try simp only [List.drop_zero,List.take_length]);first | done | simp only [nm,enq]:C_place_builder_copies (List.getD (api_Rx.Kids x) (0:Nat) default) (if (1:Int) > if api_Rx.Hi x > api_Rx.Lo x then api_Rx.Hi x else api_Rx.Lo x then (1:Int) else if api_Rx.Hi x > api_Rx.Lo x then api_Rx.Hi x else api_Rx.Lo x) b r0_1 o=CallE Try.prog 120 [.ptr 3 0,.agg [vi (api_Rx.Kind (List.getD (api_Rx.Kids x) (0:Nat) default)),vI .u64 (arr4_uint64.e0 (api_Rx.Set (List.getD (api_Rx.Kids x) (0:Nat) default))),vI .u64 (arr4_uint64.e1 (api_Rx.Set (List.getD (api_Rx.Kids x) (0:Nat) default))),vI .u64 (arr4_uint64.e2 (api_Rx.Set (List.getD (api_Rx.Kids x) (0:Nat) default))),vI .u64 (arr4_uint64.e3 (api_Rx.Set (List.getD (api_Rx.Kids x) (0:Nat) default))),vi (api_Rx.Lo (List.getD (api_Rx.Kids x) (0:Nat) default)),vi (api_Rx.Hi (List.getD (api_Rx.Kids x) (0:Nat) default)),vL enc_api_Rx (api_Rx.Kids (List.getD (api_Rx.Kids x) (0:Nat) default))],vi (if true=true then if (1:Int) > if true=true then if api_Rx.Hi x > api_Rx.Lo x then api_Rx.Hi x else api_Rx.Lo x else if api_Rx.Hi x < api_Rx.Lo x then api_Rx.Hi x else api_Rx.Lo x then (1:Int) else if true=true then if api_Rx.Hi x > api_Rx.Lo x then api_Rx.Hi x else api_Rx.Lo x else if api_Rx.Hi x < api_Rx.Lo x then api_Rx.Hi x else api_Rx.Lo x else if (1:Int) < if true=true then if api_Rx.Hi x > api_Rx.Lo x then api_Rx.Hi x else api_Rx.Lo x else if api_Rx.Hi x < api_Rx.Lo x then api_Rx.Hi x else api_Rx.Lo x then (1:Int) else if true=true then if api_Rx.Hi x > api_Rx.Lo x then api_Rx.Hi x else api_Rx.Lo x else if api_Rx.Hi x < api_Rx.Lo x then api_Rx.Hi x else api_Rx.Lo x)] [.agg [oL 33 enc_arr4_uint64 (place_builder.sets b),oL 30 encs_i64 (place_builder.follow b)]] (oL 133 enc_place_piece r0_1) [ao_place_builder o]) hc3) obN))) ?_
  refine sDE kk [] [] [(19,.ptr 38 0),(38,.agg [.own 3 ([]),.own 3 ([]),vB true])] [(19,.ptr 38 0),(38,.agg [oL 3 enc_i64 ([]),oL 3 enc_i64 ([]),vB true])] obN ?_
  obtain ⟨J14,hJ14,h⟩:=h
  refine sjD (fun (q:List arr4_uint64×List (List Int)×List place_piece)=>J14 q.1 q.2.1 q.2.2) (fun (q:List arr4_uint64×List (List Int)×List place_piece)=>(fun (o0_sets:List arr4_uint64) (o0_follow:List (List Int)) (l:List place_piece)=>([(3,.agg [oL 33 enc_arr4_uint64 o0_sets,oL 30 encs_i64 o0_follow]),(7,.ptr 14 0),(10,.ptr 20 0),(13,.ptr 26 0),(14,.ptr 3 0),(16,oL 133 enc_place_piece l),(19,.ptr 38 0),(20,av_api_Rx x),(26,.agg [oL 3 enc_i64 ([]),oL 3 enc_i64 ([]),vB false]),(38,.agg [oL 3 enc_i64 ([]),oL 3 enc_i64 ([]),vB true])]:Sta)) q.1 q.2.1 q.2.2) ?_ ?_
  ·rintro ⟨o0_sets,o0_follow,l⟩ hj
   have h:=hJ14 o0_sets o0_follow l hj
   refine qD ?_
   obtain ⟨hc15,h⟩:=h
   refine sD kk [.c (.clo 134 [.fp (fL enc_place_piece l) 0]) []] [16] [(172,.clo 134 [.fp (fL enc_place_piece l) 0])] (obC (Eq.mp (by unfold C_slices_Backward__place_piece_place_piece;(try simp only [List.drop_zero,List.take_length]);first | done | simp only [nm,enq]:C_slices_Backward__place_piece_place_piece l=CallE Try.prog 121 [.f (FV.sl (List.take (List.length (List.map enc_place_piece l)) (List.drop (0:Nat) (List.map enc_place_piece l))))] [] (.clo 134 [.fp (fL enc_place_piece l) 0]) []) hc15) obN) ?_
   refine bD (id:=0) ?_
   obtain ⟨hl25,Inv24,h0Inv24,hRInv24,hDInv24⟩:=h
   refine Sem.range (α:=place_piece) (σ:=List arr4_uint64×List (List Int)×List Int×List Int×Bool) (c:=(cf [75] 76)) (by rfl) (tg:=57) (p0:=58) (p1:=59) (by kernel_rfl) (xs:=l) (by kernel_rfl) back_ok_134 (ey:=(fun (y:place_piece)=>(fv_place_piece y:FV))) (sz:=3) (fun y=>enc_place_piece_eq y) (fun y=>by simp [FV.fits,FV.size,FV.cells,FV.one,enc_place_piece_eq]) (by omega) [(7,.ptr 14 0),(10,.ptr 20 0),(13,.ptr 26 0),(19,.ptr 38 0)] [3,14,20,26,38] (fun (q:List arr4_uint64×List (List Int)×List Int×List Int×Bool)=>(fun (o0_sets_1:List arr4_uint64) (o0_follow_1:List (List Int)) (out_first:List Int) (out_last:List Int) (out_null:Bool)=>([.agg [oL 33 enc_arr4_uint64 o0_sets_1,oL 30 encs_i64 o0_follow_1],.ptr 3 0,av_api_Rx x,.agg [oL 3 enc_i64 ([]),oL 3 enc_i64 ([]),vB false],.agg [vL enc_i64 out_first,vL enc_i64 out_last,vB out_null]]:List AV)) q.1 q.2.1 q.2.2.1 q.2.2.2.1 q.2.2.2.2) (fun (i:Nat) (q:List arr4_uint64×List (List Int)×List Int×List Int×Bool)=>Inv24 i q.1 q.2.1 q.2.2.1 q.2.2.2.1 q.2.2.2.2) (o0_sets,o0_follow,([]),([]),true) ((wkE (G':=[(3,.agg [oL 33 enc_arr4_uint64 o0_sets,oL 30 encs_i64 o0_follow]),(7,.ptr 14 0),(10,.ptr 20 0),(13,.ptr 26 0),(14,.ptr 3 0),(19,.ptr 38 0),(20,av_api_Rx x),(26,.agg [oL 3 enc_i64 ([]),oL 3 enc_i64 ([]),vB false]),(38,.agg [vL enc_i64 ([]),vL enc_i64 ([]),vB true])]) [(38,0),(38,1)] [3,7,10,13,14,19,20,26,38] (by kernel_rfl)).trans (Wk.pick [7,10,13,19,3,14,20,26,38] (by kernel_rfl))) h0Inv24 (by rfl) (fun q=>by rfl) (by rfl) (by decide) (fun q q'=>by rfl) (Nat.le_of_ble_eq_true rfl) (Nat.le_of_ble_eq_true rfl) (by decide) ?_ ?_
   ·rintro i ⟨o0_sets_1,o0_follow_1,out_first,out_last,out_null⟩ y hi hy hinv
    have h:=hRInv24 i y hi hy o0_sets_1 o0_follow_1 out_first out_last out_null hinv
    refine Sem.weak (Wk.pick [3,6,7,9,10,12,13,15,19,175,178] (G':=[(3,.agg [oL 33 enc_arr4_uint64 o0_sets_1,oL 30 encs_i64 o0_follow_1]),(6,.ptr 3 0),(7,.ptr 6 0),(9,av_api_Rx x),(10,.ptr 9 0),(12,.agg [oL 3 enc_i64 ([]),oL 3 enc_i64 ([]),vB false]),(13,.ptr 12 0),(15,.agg [vL enc_i64 out_first,vL enc_i64 out_last,vB out_null]),(19,.ptr 15 0),(175,vi ((↑(List.length l):Int) - 1 - (↑i:Int))),(178,av_place_piece y)]) (by kernel_rfl)) ?_
    show Sem _ (cfr [75] 76) (sq1 (sq1 (sq2 (sq1 (sq2 (sq2 (sq2 (sq2 (sq2 (bodyOf Try.f114)))))))))) _ _
    have kr:=cfrOk [75] 76
    refine sD kr [] [13,175] [(25,vi ((↑(List.length l):Int) - 1 - (↑i:Int)))] obN ?_
    refine rD kr [] [178] [(28,.ptr 56 0),(56,av_place_piece y)] obN ?_
    refine ⟨rfl,?_⟩
    show Sem _ (cfr [75] 76) (sq2 (sq1 (sq2 (sq1 (sq2 (sq2 (sq2 (sq2 (sq2 (bodyOf Try.f114)))))))))) _ _
    refine bD (id:=1) ?_
    obtain ⟨r0_6,o_4,hc27,h⟩:=h
    refine sD kr [.c (av_place_piece r0_6) [ao_place_builder o_4]] [7,28,56] [(3,ao_place_builder o_4),(15,av_place_piece r0_6)] (obC hc27 obN) ?_
    refine sM [10,25] [(217,vB (decide (api_Rx.Hi x≥(0:Int)) && decide ((↑(List.length l):Int) - 1 - (↑i:Int)≥api_Rx.Lo x)))] ?_ (fun hk0=>?_)
    ·refine cD (t:=72) (b:=decide (api_Rx.Hi x≥(0:Int)) && decide ((↑(List.length l):Int) - 1 - (↑i:Int)≥api_Rx.Lo x)) (fun hb29=>?_) (fun hb29=>?_)
     ·have h:=h.1 hb29
      obtain ⟨r0_7,hc30,h⟩:=h
      refine rD kr [.c (av_place_piece r0_7) []] [19,217] [(15,av_place_piece r0_7)] (obC hc30 obN) ?_
      exact rndE (wkE [] [3,6,9,12,15] (by rfl)) (by kernel_rfl) ⟨((place_builder.sets o_4),(place_builder.follow o_4),(place_piece.first r0_7),(place_piece.last r0_7),(place_piece.null r0_7)),rfl,h⟩
     ·have h:=h.2 hb29
      refine Sem.skip' (by kernel_rfl) Wk.refl ?_
      exact rndE (wkE [] [3,6,9,12,15] (by rfl)) (by kernel_rfl) ⟨((place_builder.sets o_4),(place_builder.follow o_4),(place_piece.first r0_6),(place_piece.last r0_6),(place_piece.null r0_6)),rfl,h⟩
    ·rcases Bool.eq_false_or_eq_true (decide (api_Rx.Hi x≥(0:Int))) with hb28 | hb28
     ·refine sD kr [bT,bT,bT,bT,bT] [10,25] [(217,vB (decide ((↑(List.length l):Int) - 1 - (↑i:Int)≥api_Rx.Lo x)))] (obC (gtt hb28) (obC (gtt hb28) (obC (gtt hb28) (obC (gtt hb28) (obC hb28 obN))))) ?_
      exact Sem.cast (by try rw [hb28];kernel_rfl) hk0
     ·refine sD kr [bF,bF,bF,bF,bF] [10,25] [(217,vB false)] (obC (gtf hb28) (obC (gtf hb28) (obC (gtf hb28) (obC (gtf hb28) (obC hb28 obN))))) ?_
      exact Sem.cast (by try rw [hb28];kernel_rfl) hk0
   ·rintro ⟨o0_sets_1,o0_follow_1,out_first,out_last,out_null⟩ hinv
    have h:=hDInv24 o0_sets_1 o0_follow_1 out_first out_last out_null hinv
    refine ⟨[(3,.agg [oL 33 enc_arr4_uint64 o0_sets_1,oL 30 encs_i64 o0_follow_1]),(13,.ptr 26 0),(19,.ptr 38 0),(26,.agg [oL 3 enc_i64 ([]),oL 3 enc_i64 ([]),vB false]),(38,.agg [vL enc_i64 out_first,vL enc_i64 out_last,vB out_null])],Wk.pick [3,13,19,26,38] (by kernel_rfl),?_⟩
    show Sem _ _ _ _ _
    refine sD kk [] [19,38] [(26,.agg [vL enc_i64 out_first,vL enc_i64 out_last,vB out_null])] obN ?_
    refine tD ?_
    obtain ⟨he0,he1⟩:=h
    subst res fin
    exact (endD [] (.agg [vL enc_i64 out_first,vL enc_i64 out_last,vB out_null]) [.agg [oL 33 enc_arr4_uint64 o0_sets_1,oL 30 encs_i64 o0_follow_1]]).1
  ·refine sD kk [] [] [(85,vB (decide (api_Rx.Hi x < (0:Int))))] obN ?_
   refine cD (t:=28) (b:=decide (api_Rx.Hi x < (0:Int))) (fun hb31=>?_) (fun hb31=>?_)
   ·have h:=h.1 hb31
    obtain ⟨h32,h⟩:=h
    obtain ⟨h33,h⟩:=h
    refine sDE kk [] [85] [(22,AV.ep (16:Nat) (0:Nat) ((0:Nat)+Int.toNat (w64 ((↑(List.length (List.map enc_place_piece r0_1)):Int) - 1))) (0:Nat))] [(22,AV.ep (16:Nat) (0:Nat) (Int.toNat (w64 ((↑(List.length r0_1):Int) - 1))) (0:Nat))] (obC (show (0:Int)≤w64 ((↑(List.length (List.map enc_place_piece r0_1)):Int) - 1) from by simpa only [nm] using h32) (obC (show Int.toNat (w64 ((↑(List.length (List.map enc_place_piece r0_1)):Int) - 1)) < List.length (List.map enc_place_piece r0_1) from by simpa only [nm] using h33) obN)) ?_
    obtain ⟨h34,h⟩:=h
    obtain ⟨h35,h⟩:=h
    obtain ⟨o_5,hc36,h⟩:=h
    refine sD kk [.e (fv_place_piece (gd r0_1 (w64 ((↑(List.length r0_1):Int) - 1)))),.e (fv_place_piece (gd r0_1 (w64 ((↑(List.length r0_1):Int) - 1)))),.c (.tup []) [ao_place_builder o_5]] [] [(3,ao_place_builder o_5)] (obC (idx_ok' enc_place_piece r0_1 (Int.toNat (w64 ((↑(List.length r0_1):Int) - 1))) _ (enc_place_piece_eq _) h34) (obC (idx_ok' enc_place_piece r0_1 (Int.toNat (w64 ((↑(List.length r0_1):Int) - 1))) _ (enc_place_piece_eq _) h35) (obC hc36 obN))) ?_
    obtain ⟨h37,h⟩:=h
    rcases Bool.eq_false_or_eq_true (place_piece.null (gd r0_1 (w64 ((↑(List.length r0_1):Int) - 1)))) with hb38 | hb38
    ·have h:=h.1 hb38
     obtain ⟨h40,h⟩:=h
     refine rDE kk [.e (fv_place_piece (gd r0_1 (w64 ((↑(List.length r0_1):Int) - 1)))),bF,bF,bF,bT,.e (fv_place_piece (gd r0_1 (w64 ((↑(List.length r0_1):Int) - 1))))] [22] [(16,.own 133 (List.set (List.map enc_place_piece r0_1) (Int.toNat (w64 ((↑(List.length r0_1):Int) - 1))) (FV.agg [FV.sl (List.map enc_i64 (place_piece.first (gd r0_1 (w64 ((↑(List.length r0_1):Int) - 1))))),FV.sl (List.map enc_i64 (place_piece.last (gd r0_1 (w64 ((↑(List.length r0_1):Int) - 1))))),FV.pv (Value.bool true)])))] [(16,oL 133 enc_place_piece (List.set r0_1 (Int.toNat (w64 ((↑(List.length r0_1):Int) - 1))) { first:=place_piece.first (gd r0_1 (w64 ((↑(List.length r0_1):Int) - 1))),last:=place_piece.last (gd r0_1 (w64 ((↑(List.length r0_1):Int) - 1))),null:=true }))] (obC (idx_ok' enc_place_piece r0_1 (Int.toNat (w64 ((↑(List.length r0_1):Int) - 1))) _ (enc_place_piece_eq _) h37) (obC (gff hb38) (obC (gff hb38) (obC (gff hb38) (obC hb38 (obC (idx_ok' enc_place_piece r0_1 (Int.toNat (w64 ((↑(List.length r0_1):Int) - 1))) _ (enc_place_piece_eq _) (h40 hb38)) obN)))))) ?_
     exact jD ((place_builder.sets o_5),(place_builder.follow o_5),(List.set r0_1 (Int.toNat (w64 ((↑(List.length r0_1):Int) - 1))) { first:=place_piece.first (gd r0_1 (w64 ((↑(List.length r0_1):Int) - 1))),last:=place_piece.last (gd r0_1 (w64 ((↑(List.length r0_1):Int) - 1))),null:=true })) [] h
    ·have h:=h.2 hb38
     obtain ⟨h39,h⟩:=h
     refine rDE kk [.e (fv_place_piece (gd r0_1 (w64 ((↑(List.length r0_1):Int) - 1)))),bT,bT,bT,bF,.e (fv_place_piece (gd r0_1 (w64 ((↑(List.length r0_1):Int) - 1))))] [22] [(16,.own 133 (List.set (List.map enc_place_piece r0_1) (Int.toNat (w64 ((↑(List.length r0_1):Int) - 1))) (FV.agg [FV.sl (List.map enc_i64 (place_piece.first (gd r0_1 (w64 ((↑(List.length r0_1):Int) - 1))))),FV.sl (List.map enc_i64 (place_piece.last (gd r0_1 (w64 ((↑(List.length r0_1):Int) - 1))))),FV.pv (Value.bool (api_Rx.Lo x == 0))])))] [(16,oL 133 enc_place_piece (List.set r0_1 (Int.toNat (w64 ((↑(List.length r0_1):Int) - 1))) { first:=place_piece.first (gd r0_1 (w64 ((↑(List.length r0_1):Int) - 1))),last:=place_piece.last (gd r0_1 (w64 ((↑(List.length r0_1):Int) - 1))),null:=api_Rx.Lo x == 0 }))] (obC (idx_ok' enc_place_piece r0_1 (Int.toNat (w64 ((↑(List.length r0_1):Int) - 1))) _ (enc_place_piece_eq _) h37) (obC (gft hb38) (obC (gft hb38) (obC (gft hb38) (obC hb38 (obC (idx_ok' enc_place_piece r0_1 (Int.toNat (w64 ((↑(List.length r0_1):Int) - 1))) _ (enc_place_piece_eq _) (h39 hb38)) obN)))))) ?_
     exact jD ((place_builder.sets o_5),(place_builder.follow o_5),(List.set r0_1 (Int.toNat (w64 ((↑(List.length r0_1):Int) - 1))) { first:=place_piece.first (gd r0_1 (w64 ((↑(List.length r0_1):Int) - 1))),last:=place_piece.last (gd r0_1 (w64 ((↑(List.length r0_1):Int) - 1))),null:=api_Rx.Lo x == 0 })) [] h
   ·have h:=h.2 hb31
    refine Sem.skip' (by kernel_rfl) Wk.refl ?_
    exact jD ((place_builder.sets o),(place_builder.follow o),r0_1) [] h
set_option maxHeartbeats 1000000 in
theorem W_place_builder_piece (x:api_Rx) (b:place_builder) (res:place_piece) (fin:place_builder)
 (h:(((api_Rx.Kind x == (2:Int))=true→(∃ r0:place_piece,∃ o:place_builder,C_place_builder_place (api_Rx.Set x) b r0 o∧(res=r0∧fin=o)))∧((api_Rx.Kind x == (2:Int))=false→(((api_Rx.Kind x == (3:Int))=true→(∃ (Inv12:List arr4_uint64→List (List Int)→List Int→List Int→Bool→Int→Prop) (mu13:List arr4_uint64→List (List Int)→List Int→List Int→Bool→Int→Nat),Inv12 (place_builder.sets b) (place_builder.follow b) ([]) ([]) true 0∧(∀ (o0_sets:List arr4_uint64) (o0_follow:List (List Int)) (out_first:List Int) (out_last:List Int) (out_null:Bool) (t26:Int),Inv12 o0_sets o0_follow out_first out_last out_null t26→(((decide (t26 < (↑(List.length (api_Rx.Kids x)):Int)))=true→((0:Int)≤t26)∧t26 < ↑(List.length (api_Rx.Kids x))∧(∃ r0_5:place_piece,∃ o_5:place_builder,C_place_builder_piece (gd (api_Rx.Kids x) t26) ({ sets:=o0_sets,follow:=o0_follow }) r0_5 o_5∧(∃ r0_6:place_piece,∃ o_6:place_builder,C_place_builder_cat ({ first:=out_first,last:=out_last,null:=out_null }) r0_5 o_5 r0_6 o_6∧(Inv12 (place_builder.sets o_6) (place_builder.follow o_6) (place_piece.first r0_6) (place_piece.last r0_6) (place_piece.null r0_6) (w64 (t26+1))∧mu13 (place_builder.sets o_6) (place_builder.follow o_6) (place_piece.first r0_6) (place_piece.last r0_6) (place_piece.null r0_6) (w64 (t26+1)) < mu13 o0_sets o0_follow out_first out_last out_null t26))))∧((decide (t26 < (↑(List.length (api_Rx.Kids x)):Int)))=false→(res=({ first:=out_first,last:=out_last,null:=out_null })∧fin=({ sets:=o0_sets,follow:=o0_follow })))))))∧((api_Rx.Kind x == (3:Int))=false→(((api_Rx.Kind x == (4:Int))=true→(∃ (Inv32:List arr4_uint64→List (List Int)→List Int→List Int→Bool→Int→Prop) (mu33:List arr4_uint64→List (List Int)→List Int→List Int→Bool→Int→Nat),Inv32 (place_builder.sets b) (place_builder.follow b) ([]) ([]) false 0∧(∀ (o0_sets_1:List arr4_uint64) (o0_follow_1:List (List Int)) (out_first_1:List Int) (out_last_1:List Int) (out_null_1:Bool) (t43:Int),Inv32 o0_sets_1 o0_follow_1 out_first_1 out_last_1 out_null_1 t43→(((decide (t43 < (↑(List.length (api_Rx.Kids x)):Int)))=true→((0:Int)≤t43)∧t43 < ↑(List.length (api_Rx.Kids x))∧(∃ r0_13:place_piece,∃ o_9:place_builder,C_place_builder_piece (gd (api_Rx.Kids x) t43) ({ sets:=o0_sets_1,follow:=o0_follow_1 }) r0_13 o_9∧(∃ r0_14:List Int,C_place_Join_int out_first_1 (place_piece.first r0_13) r0_14∧(∃ r0_15:List Int,C_place_Join_int out_last_1 (place_piece.last r0_13) r0_15∧(Inv32 (place_builder.sets o_9) (place_builder.follow o_9) r0_14 r0_15 (out_null_1 || place_piece.null r0_13) (w64 (t43+1))∧mu33 (place_builder.sets o_9) (place_builder.follow o_9) r0_14 r0_15 (out_null_1 || place_piece.null r0_13) (w64 (t43+1)) < mu33 o0_sets_1 o0_follow_1 out_first_1 out_last_1 out_null_1 t43)))))∧((decide (t43 < (↑(List.length (api_Rx.Kids x)):Int)))=false→(res=({ first:=out_first_1,last:=out_last_1,null:=out_null_1 })∧fin=({ sets:=o0_sets_1,follow:=o0_follow_1 })))))))∧((api_Rx.Kind x == (4:Int))=false→(((api_Rx.Kind x == (5:Int))=true→(∃ r0_16:place_piece,∃ o_10:place_builder,C_place_builder_rep x b r0_16 o_10∧(res=r0_16∧fin=o_10)))∧((api_Rx.Kind x == (5:Int))=false→(res=({ first:=[],last:=[],null:=true })∧fin=b)))))))))):C_place_builder_piece x b res fin:=by
 unfold C_place_builder_piece
 have kk:=cfOk [37,68] 75
 refine fD (x:=bodyOf Try.f91) kk Try.func91 ?_
 refine wkS [1,3,4] [(1,.ptr 3 0),(3,ao_place_builder b),(4,av_api_Rx x)] (by kernel_rfl) ?_
 refine sDE kk [] [4] [(10,.ptr 20 0),(13,.ptr 26 0),(20,av_api_Rx x),(26,.agg [.own 3 ([]),.own 3 ([]),vB false])] [(10,.ptr 20 0),(13,.ptr 26 0),(20,av_api_Rx x),(26,.agg [oL 3 enc_i64 ([]),oL 3 enc_i64 ([]),vB false])] obN ?_
 refine qD ?_
 refine sD kk [] [] [(40,vi (api_Rx.Kind x))] obN ?_
 refine bD (id:=0) ?_
 refine sD kk [] [] [(43,vB (api_Rx.Kind x == (2:Int)))] obN ?_
 refine cD (t:=14) (b:=api_Rx.Kind x == (2:Int)) (fun hb0=>?_) (fun hb0=>?_)
 ·have h:=h.1 hb0
  obtain ⟨r0,o,hc1,h⟩:=h
  refine sD kk [.c (av_place_piece r0) [ao_place_builder o]] [1,10,20,40,43] [(3,ao_place_builder o),(26,av_place_piece r0)] (obC hc1 obN) ?_
  refine tD ?_
  obtain ⟨he0,he1⟩:=h
  subst res fin
  exact (endD [] (av_place_piece r0) [ao_place_builder o]).1
 ·have h:=h.2 hb0
  refine sD kk [] [43] [(61,vB (api_Rx.Kind x == (3:Int)))] obN ?_
  refine cD (t:=20) (b:=api_Rx.Kind x == (3:Int)) (fun hb2=>?_) (fun hb2=>?_)
  ·have h:=h.1 hb2
   refine sDE kk [] [40,61] [(16,.ptr 32 0),(32,.agg [.own 3 ([]),.own 3 ([]),vB true])] [(16,.ptr 32 0),(32,.agg [oL 3 enc_i64 ([]),oL 3 enc_i64 ([]),vB true])] obN ?_
   refine qD ?_
   refine sDE kk [] [10,20] [(73,vL enc_api_Rx (api_Rx.Kids x)),(76,vi ((↑(List.length (List.map enc_api_Rx (api_Rx.Kids x))):Int))),(79,vi 0)] [(73,vL enc_api_Rx (api_Rx.Kids x)),(76,vi ((↑(List.length (api_Rx.Kids x)):Int))),(79,vi 0)] obN ?_
   refine bD (id:=1) ?_
   obtain ⟨Inv12,mu13,h0Inv12,hInv12⟩:=h
   refine loD (fun (q:List arr4_uint64×List (List Int)×List Int×List Int×Bool×Int)=>(fun (o0_sets:List arr4_uint64) (o0_follow:List (List Int)) (out_first:List Int) (out_last:List Int) (out_null:Bool) (t26:Int)=>([(1,.ptr 3 0),(3,.agg [oL 33 enc_arr4_uint64 o0_sets,oL 30 encs_i64 o0_follow]),(13,.ptr 26 0),(16,.ptr 32 0),(26,.agg [oL 3 enc_i64 ([]),oL 3 enc_i64 ([]),vB false]),(32,.agg [vL enc_i64 out_first,vL enc_i64 out_last,vB out_null]),(73,vL enc_api_Rx (api_Rx.Kids x)),(76,vi ((↑(List.length (api_Rx.Kids x)):Int))),(79,vi t26)]:Sta)) q.1 q.2.1 q.2.2.1 q.2.2.2.1 q.2.2.2.2.1 q.2.2.2.2.2) (fun (q:List arr4_uint64×List (List Int)×List Int×List Int×Bool×Int)=>Inv12 q.1 q.2.1 q.2.2.1 q.2.2.2.1 q.2.2.2.2.1 q.2.2.2.2.2) (fun (q:List arr4_uint64×List (List Int)×List Int×List Int×Bool×Int)=>mu13 q.1 q.2.1 q.2.2.1 q.2.2.2.1 q.2.2.2.2.1 q.2.2.2.2.2) ((place_builder.sets b),(place_builder.follow b),([]),([]),true,0) [(32,0),(32,1)] h0Inv12 ?_
   rintro ⟨o0_sets,o0_follow,out_first,out_last,out_null,t26⟩ hi
   have h:=hInv12 o0_sets o0_follow out_first out_last out_null t26 hi
   refine sD kk [] [] [(82,vB (decide (t26 < (↑(List.length (api_Rx.Kids x)):Int))))] obN ?_
   refine qD ?_
   refine cD (t:=27) (b:=decide (t26 < (↑(List.length (api_Rx.Kids x)):Int))) (fun hb14=>?_) (fun hb14=>?_)
   ·have h:=h.1 hb14
    refine Sem.skip' (by kernel_rfl) Wk.refl ?_
    show Sem _ _ _ _ _
    refine wkD [82] ?_
    refine qD ?_
    refine bD (id:=2) ?_
    obtain ⟨h15,h⟩:=h
    obtain ⟨h16,h⟩:=h
    refine sD kk [.e (fv_api_Rx (gd (api_Rx.Kids x) t26))] [] [(22,.ptr 44 0),(44,av_api_Rx (gd (api_Rx.Kids x) t26))] (obC h15 (obC (idx_ok enc_api_Rx (api_Rx.Kids x) t26 _ (enc_api_Rx_eq _) h15 h16) obN)) ?_
    obtain ⟨r0_5,o_5,hc17,h⟩:=h
    obtain ⟨r0_6,o_6,hc18,h⟩:=h
    refine rD kk [.c (av_place_piece r0_5) [ao_place_builder o_5],.c (av_place_piece r0_6) [ao_place_builder o_6]] [22,44] [(3,ao_place_builder o_6),(32,av_place_piece r0_6)] (obC hc17 (obC hc18 obN)) ?_
    show Sem _ _ _ _ _
    refine rD kk [] [] [(79,vi (w64 (t26+1)))] obN ?_
    exact lD ((place_builder.sets o_6),(place_builder.follow o_6),(place_piece.first r0_6),(place_piece.last r0_6),(place_piece.null r0_6),(w64 (t26+1))) [] h
   ·have h:=h.2 hb14
    refine xD (i:=1) ?_
    show Sem _ _ _ _ _
    refine wkD [1,73,76,79,82] ?_
    refine sD kk [] [16,32] [(26,.agg [vL enc_i64 out_first,vL enc_i64 out_last,vB out_null])] obN ?_
    refine tD ?_
    obtain ⟨he0,he1⟩:=h
    subst res fin
    exact (endD [] (.agg [vL enc_i64 out_first,vL enc_i64 out_last,vB out_null]) [.agg [oL 33 enc_arr4_uint64 o0_sets,oL 30 encs_i64 o0_follow]]).1
  ·have h:=h.2 hb2
   refine sD kk [] [61] [(115,vB (api_Rx.Kind x == (4:Int)))] obN ?_
   refine cD (t:=38) (b:=api_Rx.Kind x == (4:Int)) (fun hb19=>?_) (fun hb19=>?_)
   ·have h:=h.1 hb19
    refine sDE kk [] [40,115] [(25,.ptr 50 0),(50,.agg [.own 3 ([]),.own 3 ([]),vB false])] [(25,.ptr 50 0),(50,.agg [oL 3 enc_i64 ([]),oL 3 enc_i64 ([]),vB false])] obN ?_
    refine qD ?_
    refine sDE kk [] [10,20] [(124,vL enc_api_Rx (api_Rx.Kids x)),(127,vi ((↑(List.length (List.map enc_api_Rx (api_Rx.Kids x))):Int))),(130,vi 0)] [(124,vL enc_api_Rx (api_Rx.Kids x)),(127,vi ((↑(List.length (api_Rx.Kids x)):Int))),(130,vi 0)] obN ?_
    refine bD (id:=3) ?_
    obtain ⟨Inv32,mu33,h0Inv32,hInv32⟩:=h
    refine loD (fun (q:List arr4_uint64×List (List Int)×List Int×List Int×Bool×Int)=>(fun (o0_sets_1:List arr4_uint64) (o0_follow_1:List (List Int)) (out_first_1:List Int) (out_last_1:List Int) (out_null_1:Bool) (t43:Int)=>([(1,.ptr 3 0),(3,.agg [oL 33 enc_arr4_uint64 o0_sets_1,oL 30 encs_i64 o0_follow_1]),(13,.ptr 26 0),(25,.ptr 50 0),(26,.agg [oL 3 enc_i64 ([]),oL 3 enc_i64 ([]),vB false]),(50,.agg [vL enc_i64 out_first_1,vL enc_i64 out_last_1,vB out_null_1]),(124,vL enc_api_Rx (api_Rx.Kids x)),(127,vi ((↑(List.length (api_Rx.Kids x)):Int))),(130,vi t43)]:Sta)) q.1 q.2.1 q.2.2.1 q.2.2.2.1 q.2.2.2.2.1 q.2.2.2.2.2) (fun (q:List arr4_uint64×List (List Int)×List Int×List Int×Bool×Int)=>Inv32 q.1 q.2.1 q.2.2.1 q.2.2.2.1 q.2.2.2.2.1 q.2.2.2.2.2) (fun (q:List arr4_uint64×List (List Int)×List Int×List Int×Bool×Int)=>mu33 q.1 q.2.1 q.2.2.1 q.2.2.2.1 q.2.2.2.2.1 q.2.2.2.2.2) ((place_builder.sets b),(place_builder.follow b),([]),([]),false,0) [(50,0),(50,1)] h0Inv32 ?_
    rintro ⟨o0_sets_1,o0_follow_1,out_first_1,out_last_1,out_null_1,t43⟩ hi
    have h:=hInv32 o0_sets_1 o0_follow_1 out_first_1 out_last_1 out_null_1 t43 hi
    refine sD kk [] [] [(133,vB (decide (t43 < (↑(List.length (api_Rx.Kids x)):Int))))] obN ?_
    refine qD ?_
    refine cD (t:=44) (b:=decide (t43 < (↑(List.length (api_Rx.Kids x)):Int))) (fun hb34=>?_) (fun hb34=>?_)
    ·have h:=h.1 hb34
     refine Sem.skip' (by kernel_rfl) Wk.refl ?_
     show Sem _ _ _ _ _
     refine wkD [133] ?_
     refine qD ?_
     refine bD (id:=4) ?_
     obtain ⟨h35,h⟩:=h
     obtain ⟨h36,h⟩:=h
     refine sD kk [.e (fv_api_Rx (gd (api_Rx.Kids x) t43))] [] [(31,.ptr 62 0),(62,av_api_Rx (gd (api_Rx.Kids x) t43))] (obC h35 (obC (idx_ok enc_api_Rx (api_Rx.Kids x) t43 _ (enc_api_Rx_eq _) h35 h36) obN)) ?_
     obtain ⟨r0_13,o_9,hc37,h⟩:=h
     refine sD kk [.c (av_place_piece r0_13) [ao_place_builder o_9]] [31,62] [(3,ao_place_builder o_9),(34,.ptr 68 0),(68,av_place_piece r0_13)] (obC hc37 obN) ?_
     obtain ⟨r0_14,hc38,h⟩:=h
     obtain ⟨r0_15,hc39,h⟩:=h
     refine rM [34,68] [(50,.agg [vL enc_i64 r0_14,vL enc_i64 r0_15,vB (out_null_1 || place_piece.null r0_13)])] ?_ (fun hk0=>?_)
     ·show Sem _ _ _ _ _
      refine rD kk [] [] [(130,vi (w64 (t43+1)))] obN ?_
      exact lD ((place_builder.sets o_9),(place_builder.follow o_9),r0_14,r0_15,(out_null_1 || place_piece.null r0_13),(w64 (t43+1))) [] h
     ·rcases Bool.eq_false_or_eq_true (out_null_1) with hb40 | hb40
      ·refine rD kk [.c (vL enc_i64 r0_14) [],.c (vL enc_i64 r0_15) [],bF,bF,bT] [34,68] [(50,.agg [vL enc_i64 r0_14,vL enc_i64 r0_15,vB true])] (obC hc38 (obC hc39 (obC (gff hb40) (obC (gff hb40) (obC hb40 obN))))) ?_
       exact kcast (by try rw [hb40];kernel_rfl) hk0
      ·refine rD kk [.c (vL enc_i64 r0_14) [],.c (vL enc_i64 r0_15) [],bT,bT,bF] [34,68] [(50,.agg [vL enc_i64 r0_14,vL enc_i64 r0_15,vB (place_piece.null r0_13)])] (obC hc38 (obC hc39 (obC (gft hb40) (obC (gft hb40) (obC hb40 obN))))) ?_
       exact kcast (by try rw [hb40];kernel_rfl) hk0
    ·have h:=h.2 hb34
     refine xD (i:=3) ?_
     show Sem _ _ _ _ _
     refine wkD [1,124,127,130,133] ?_
     refine sD kk [] [25,50] [(26,.agg [vL enc_i64 out_first_1,vL enc_i64 out_last_1,vB out_null_1])] obN ?_
     refine tD ?_
     obtain ⟨he0,he1⟩:=h
     subst res fin
     exact (endD [] (.agg [vL enc_i64 out_first_1,vL enc_i64 out_last_1,vB out_null_1]) [.agg [oL 33 enc_arr4_uint64 o0_sets_1,oL 30 encs_i64 o0_follow_1]]).1
   ·have h:=h.2 hb19
    refine sD kk [] [40,115] [(208,vB (api_Rx.Kind x == (5:Int)))] obN ?_
    refine cD (t:=69) (b:=api_Rx.Kind x == (5:Int)) (fun hb41=>?_) (fun hb41=>?_)
    ·have h:=h.1 hb41
     obtain ⟨r0_16,o_10,hc42,h⟩:=h
     refine sD kk [.c (av_place_piece r0_16) [ao_place_builder o_10]] [1,10,20,208] [(3,ao_place_builder o_10),(26,av_place_piece r0_16)] (obC hc42 obN) ?_
     refine tD ?_
     obtain ⟨he0,he1⟩:=h
     subst res fin
     exact (endD [] (av_place_piece r0_16) [ao_place_builder o_10]).1
    ·have h:=h.2 hb41
     refine Sem.skip' (by kernel_rfl) Wk.refl ?_
     show Sem _ _ _ _ _
     refine wkD [1,10,20,208] ?_
     refine sDE kk [] [] [(26,.agg [.own 3 ([]),.own 3 ([]),vB true])] [(26,.agg [oL 3 enc_i64 ([]),oL 3 enc_i64 ([]),vB true])] obN ?_
     refine tD ?_
     obtain ⟨he0,he1⟩:=h
     subst res fin
     exact (endD [(26,0),(26,1)] (.agg [vL enc_i64 ([]),vL enc_i64 ([]),vB true]) [ao_place_builder b]).1
set_option maxHeartbeats 1000000 in
theorem W_place_Of (x:api_Rx) (res:api_Places) (res_1:Int)
 (h:(∃ r0:Bool,C_rx_Right x r0∧(((!r0)=true→(res=({ Sets:=[],First:=[],Last:=[],Follow:=[],Null:=false })∧res_1=1))∧((!r0)=false→(∃ r0_1:place_piece,∃ o:place_builder,C_place_builder_piece x ({ sets:=[],follow:=[] }) r0_1 o∧(res=({ Sets:=place_builder.sets o,First:=place_piece.first r0_1,Last:=place_piece.last r0_1,Follow:=place_builder.follow o,Null:=place_piece.null r0_1 })∧res_1=0)))))):C_place_Of x res res_1:=by
 unfold C_place_Of
 have kk:=cfOk [] 30
 refine fD (x:=bodyOf Try.f60) kk Try.func60 ?_
 refine wkS [1] [(1,av_api_Rx x)] (by kernel_rfl) ?_
 refine sDE kk [] [1] [(4,.ptr 8 0),(7,.ptr 14 0),(8,av_api_Rx x),(14,.agg [.own 33 ([]),.own 3 ([]),.own 3 ([]),.own 30 ([]),vB false])] [(4,.ptr 8 0),(7,.ptr 14 0),(8,av_api_Rx x),(14,.agg [oL 33 enc_arr4_uint64 ([]),oL 3 enc_i64 ([]),oL 3 enc_i64 ([]),oL 30 encs_i64 ([]),vB false])] obN ?_
 refine qD ?_
 obtain ⟨r0,hc0,h⟩:=h
 refine sD kk [.c (vB r0) []] [] [(25,vB (!r0))] (obC hc0 obN) ?_
 refine cD (t:=8) (b:=!r0) (fun hb1=>?_) (fun hb1=>?_)
 ·have h:=h.1 hb1
  refine sDE kk [] [4,8,25] [(10,vi 1),(14,.agg [.own 33 ([]),.own 3 ([]),.own 3 ([]),.own 30 ([]),vB false])] [(10,vi 1),(14,.agg [oL 33 enc_arr4_uint64 ([]),oL 3 enc_i64 ([]),oL 3 enc_i64 ([]),oL 30 encs_i64 ([]),vB false])] obN ?_
  refine tD ?_
  obtain ⟨he0,he1⟩:=h
  subst res res_1
  exact (endD [] (.tup [.agg [.f (FV.sl (List.take (List.length (List.map enc_arr4_uint64 [])) (List.drop (0:Nat) (List.map enc_arr4_uint64 [])))),.f (FV.sl (List.take (List.length (List.map enc_i64 [])) (List.drop (0:Nat) (List.map enc_i64 [])))),.f (FV.sl (List.take (List.length (List.map enc_i64 [])) (List.drop (0:Nat) (List.map enc_i64 [])))),.f (FV.sl (List.take (List.length (List.map encs_i64 [])) (List.drop (0:Nat) (List.map encs_i64 [])))),vB false],vi 1]) []).1
 ·have h:=h.2 hb1
  refine Sem.skip' (by kernel_rfl) Wk.refl ?_
  show Sem _ _ _ _ _
  refine wkD [25] ?_
  refine sDE kk [] [] [(13,.ptr 68 0),(68,.agg [.own 33 ([]),.own 30 ([])])] [(13,.ptr 68 0),(68,.agg [oL 33 enc_arr4_uint64 ([]),oL 30 encs_i64 ([])])] obN ?_
  obtain ⟨r0_1,o,hc2,h⟩:=h
  refine sD kk [.c (av_place_piece r0_1) [ao_place_builder o]] [4,8] [(16,.ptr 32 0),(32,av_place_piece r0_1),(68,ao_place_builder o)] (obC hc2 obN) ?_
  refine sDE kk [] [13,16,32,68] [(10,vi 0),(14,.agg [.f (FV.sl (List.take (List.length (List.map enc_arr4_uint64 (place_builder.sets o))) (List.drop (0:Nat) (List.map enc_arr4_uint64 (place_builder.sets o))))),vL enc_i64 (place_piece.first r0_1),vL enc_i64 (place_piece.last r0_1),.f (FV.sl (List.take (List.length (List.map encs_i64 (place_builder.follow o))) (List.drop (0:Nat) (List.map encs_i64 (place_builder.follow o))))),vB (place_piece.null r0_1)])] [(10,vi 0),(14,.agg [vL enc_arr4_uint64 (place_builder.sets o),vL enc_i64 (place_piece.first r0_1),vL enc_i64 (place_piece.last r0_1),vL encs_i64 (place_builder.follow o),vB (place_piece.null r0_1)])] obN ?_
  refine tD ?_
  obtain ⟨he0,he1⟩:=h
  subst res res_1
  exact (endD [] (.tup [.agg [vL enc_arr4_uint64 (place_builder.sets o),vL enc_i64 (place_piece.first r0_1),vL enc_i64 (place_piece.last r0_1),vL encs_i64 (place_builder.follow o),vB (place_piece.null r0_1)],vi 0]) []).1
set_option maxHeartbeats 1000000 in
theorem W_auto_moved (l:(List Int)) (by0:Int) (res:(List Int))
 (h:(∃ (Inv6:List Int→Int→Prop) (mu7:List Int→Int→Nat),Inv6 ([]) 0∧(∀ (out:List Int) (t9:Int),Inv6 out t9→(((decide (t9 < (↑(List.length l):Int)))=true→((0:Int)≤t9)∧t9 < ↑(List.length l)∧((List.length out+(1:Nat)) * (8:Nat)≤(2:Nat) ^ (47:Nat))∧(Inv6 (out++[w64 (gd l t9+by0)]) (w64 (t9+1))∧mu7 (out++[w64 (gd l t9+by0)]) (w64 (t9+1)) < mu7 out t9))∧((decide (t9 < (↑(List.length l):Int)))=false→(res=out)))))):C_auto_moved l by0 res:=by
 unfold C_auto_moved
 have kk:=cfOk [20] 21
 refine fD (x:=bodyOf Try.f109) kk Try.func109 ?_
 refine wkS [1,4] [(1,vL enc_i64 l),(4,vi by0)] (by kernel_rfl) ?_
 refine sDE kk [] [] [(13,.own 3 ([]))] [(13,oL 3 enc_i64 ([]))] obN ?_
 refine qD ?_
 refine sDE kk [] [1] [(22,vL enc_i64 l),(25,vi ((↑(List.length (List.map enc_i64 l)):Int))),(28,vi 0)] [(22,vL enc_i64 l),(25,vi ((↑(List.length l):Int))),(28,vi 0)] obN ?_
 refine bD (id:=0) ?_
 obtain ⟨Inv6,mu7,h0Inv6,hInv6⟩:=h
 refine loD (fun (q:List Int×Int)=>(fun (out:List Int) (t9:Int)=>([(4,vi by0),(13,oL 3 enc_i64 out),(22,vL enc_i64 l),(25,vi ((↑(List.length l):Int))),(28,vi t9)]:Sta)) q.1 q.2) (fun (q:List Int×Int)=>Inv6 q.1 q.2) (fun (q:List Int×Int)=>mu7 q.1 q.2) (([]),0) [] h0Inv6 ?_
 rintro ⟨out,t9⟩ hi
 have h:=hInv6 out t9 hi
 refine sD kk [] [] [(31,vB (decide (t9 < (↑(List.length l):Int))))] obN ?_
 refine qD ?_
 refine cD (t:=10) (b:=decide (t9 < (↑(List.length l):Int))) (fun hb8=>?_) (fun hb8=>?_)
 ·have h:=h.1 hb8
  refine Sem.skip' (by kernel_rfl) Wk.refl ?_
  show Sem _ _ _ _ _
  refine wkD [31] ?_
  refine qD ?_
  refine bD (id:=1) ?_
  obtain ⟨h9,h⟩:=h
  obtain ⟨h10,h⟩:=h
  refine sD kk [.e (fi (gd l t9))] [] [(19,vi (gd l t9))] (obC h9 (obC (idx_ok enc_i64 l t9 _ rfl h9 h10) obN)) ?_
  obtain ⟨h11,h⟩:=h
  refine rDE kk [] [19] [(13,.own 3 (List.map enc_i64 out++List.take (List.length [FV.pv (Value.int IntKind.i64 (w64 (gd l t9+by0)))]) (List.drop (0:Nat) [FV.pv (Value.int IntKind.i64 (w64 (gd l t9+by0)))])))] [(13,oL 3 enc_i64 (out++[w64 (gd l t9+by0)]))] (obC (show (0:Nat)=(0:Nat)∧List.length (List.map enc_i64 out)=List.length (List.map enc_i64 out) from ⟨rfl,rfl⟩) (obC (show (List.length (List.map enc_i64 out)+List.length (List.take (1:Nat) (List.drop (0:Nat) [FV.pv (Value.int IntKind.i64 (w64 (gd l t9+by0)))]))) * (8:Nat)≤(2:Nat) ^ (47:Nat) from by simpa only [nm] using h11) (obC (show List.all (List.take (1:Nat) (List.drop (0:Nat) [FV.pv (Value.int IntKind.i64 (w64 (gd l t9+by0)))])) (FV.fits (1:Nat))=true from by first | exact fits_i64 _ | exact keysenc_i64 _ | rfl | simp [isByteF,FV.fits,FV.size,FV.cells,FV.one,]) obN))) ?_
  show Sem _ _ _ _ _
  refine rD kk [] [] [(28,vi (w64 (t9+1)))] obN ?_
  exact lD ((out++[w64 (gd l t9+by0)]),(w64 (t9+1))) [] h
 ·have h:=h.2 hb8
  refine xD (i:=0) ?_
  show Sem _ _ _ _ _
  refine wkD [4,22,25,28,31] ?_
  refine sD kk [] [] [] obN ?_
  refine tD ?_
  obtain he0:=h
  subst res
  exact (endD [] (oL 3 enc_i64 out) []).1
set_option maxHeartbeats 1000000 in
theorem W_auto_builder_put (x:api_Rx) (rule0:Int) (b:auto_builder) (res:(List Int)) (res_1:(List Int)) (res_2:Bool) (fin:auto_builder)
 (h:(∃ r0:api_Places,∃ r0_1:Int,C_place_Of x r0 r0_1∧((List.length (api_Auto.Sets (auto_builder.Auto b))+List.length (api_Places.Sets r0)) * (32:Nat)≤(2:Nat) ^ (47:Nat))∧(∃ (Inv15:List Int→List (List Int)→List Bool→Int→Prop) (mu16:List Int→List (List Int)→List Bool→Int→Nat),Inv15 (api_Auto.Owner (auto_builder.Auto b)) (api_Auto.Follow (auto_builder.Auto b)) (api_Auto.Ends (auto_builder.Auto b)) 0∧(∀ (o0_Auto_Owner:List Int) (o0_Auto_Follow:List (List Int)) (o0_Auto_Ends:List Bool) (t40:Int),Inv15 o0_Auto_Owner o0_Auto_Follow o0_Auto_Ends t40→(((decide (t40 < (↑(List.length (api_Places.Follow r0)):Int)))=true→((0:Int)≤t40)∧t40 < ↑(List.length (api_Places.Follow r0))∧((List.length o0_Auto_Owner+(1:Nat)) * (8:Nat)≤(2:Nat) ^ (47:Nat))∧((List.length o0_Auto_Ends+(1:Nat)) * (1:Nat)≤(2:Nat) ^ (47:Nat))∧(∃ r0_4:List Int,C_auto_moved (gd (api_Places.Follow r0) t40) ((↑(List.length (api_Auto.Sets (auto_builder.Auto b))):Int)) r0_4∧((List.length o0_Auto_Follow+(1:Nat)) * (24:Nat)≤(2:Nat) ^ (47:Nat))∧(Inv15 (o0_Auto_Owner++[rule0]) (o0_Auto_Follow++[r0_4]) (o0_Auto_Ends++[false]) (w64 (t40+1))∧mu16 (o0_Auto_Owner++[rule0]) (o0_Auto_Follow++[r0_4]) (o0_Auto_Ends++[false]) (w64 (t40+1)) < mu16 o0_Auto_Owner o0_Auto_Follow o0_Auto_Ends t40)))∧((decide (t40 < (↑(List.length (api_Places.Follow r0)):Int)))=false→(∃ r0_5:List Int,C_auto_moved (api_Places.First r0) ((↑(List.length (api_Auto.Sets (auto_builder.Auto b))):Int)) r0_5∧(∃ r0_6:List Int,C_auto_moved (api_Places.Last r0) ((↑(List.length (api_Auto.Sets (auto_builder.Auto b))):Int)) r0_6∧(res=r0_5∧res_1=r0_6∧res_2=(api_Places.Null r0)∧fin=({ Auto:={ Sets:=api_Auto.Sets (auto_builder.Auto b)++api_Places.Sets r0,Owner:=o0_Auto_Owner,Follow:=o0_Auto_Follow,Ends:=o0_Auto_Ends,Starts:=api_Auto.Starts (auto_builder.Auto b) } })))))))))):C_auto_builder_put x rule0 b res res_1 res_2 fin:=by
 unfold C_auto_builder_put
 have kk:=cfOk [] 92
 refine fD (x:=bodyOf Try.f86) kk Try.func86 ?_
 refine wkS [1,3,4,7] [(1,.ptr 3 0),(3,ao_auto_builder b),(4,av_api_Rx x),(7,vi rule0)] (by kernel_rfl) ?_
 refine sD kk [] [4] [(13,.ptr 26 0),(26,av_api_Rx x)] obN ?_
 obtain ⟨r0,r0_1,hc0,h⟩:=h
 refine sD kk [.c (.tup [av_api_Places r0,vi r0_1]) []] [13,26] [(28,.ptr 56 0),(56,av_api_Places r0)] (obC hc0 obN) ?_
 refine sDE kk [] [] [(34,vi ((↑(List.length (List.map enc_arr4_uint64 (api_Auto.Sets (auto_builder.Auto b)))):Int)))] [(34,vi ((↑(List.length (api_Auto.Sets (auto_builder.Auto b))):Int)))] obN ?_
 obtain ⟨h1,h⟩:=h
 refine sDE kk [] [] [(3,.agg [.own 33 (List.map enc_arr4_uint64 (api_Auto.Sets (auto_builder.Auto b))++List.map enc_arr4_uint64 (api_Places.Sets r0)),oL 3 enc_i64 (api_Auto.Owner (auto_builder.Auto b)),oL 30 encs_i64 (api_Auto.Follow (auto_builder.Auto b)),oL 4 enc_bool (api_Auto.Ends (auto_builder.Auto b)),oL 30 encs_i64 (api_Auto.Starts (auto_builder.Auto b))])] [(3,.agg [oL 33 enc_arr4_uint64 (api_Auto.Sets (auto_builder.Auto b)++api_Places.Sets r0),oL 3 enc_i64 (api_Auto.Owner (auto_builder.Auto b)),oL 30 encs_i64 (api_Auto.Follow (auto_builder.Auto b)),oL 4 enc_bool (api_Auto.Ends (auto_builder.Auto b)),oL 30 encs_i64 (api_Auto.Starts (auto_builder.Auto b))])] (obC (show (0:Nat)=(0:Nat)∧List.length (List.map enc_arr4_uint64 (api_Auto.Sets (auto_builder.Auto b)))=List.length (List.map enc_arr4_uint64 (api_Auto.Sets (auto_builder.Auto b))) from ⟨rfl,rfl⟩) (obC (show (List.length (List.map enc_arr4_uint64 (api_Auto.Sets (auto_builder.Auto b)))+List.length (List.map enc_arr4_uint64 (api_Places.Sets r0))) * (32:Nat)≤(2:Nat) ^ (47:Nat) from by simpa only [nm] using h1) (obC (show List.all (List.map enc_arr4_uint64 (api_Places.Sets r0)) (FV.fits (4:Nat))=true from by first | exact fits_arr4_uint64 _ | exact keysenc_arr4_uint64 _ | rfl | simp [isByteF,FV.fits,FV.size,FV.cells,FV.one,enc_arr4_uint64_eq]) obN))) ?_
 refine qD ?_
 refine sDE kk [] [] [(115,vL encs_i64 (api_Places.Follow r0)),(118,vi ((↑(List.length (List.map encs_i64 (api_Places.Follow r0))):Int))),(121,vi 0)] [(115,vL encs_i64 (api_Places.Follow r0)),(118,vi ((↑(List.length (api_Places.Follow r0)):Int))),(121,vi 0)] obN ?_
 refine bD (id:=0) ?_
 obtain ⟨Inv15,mu16,h0Inv15,hInv15⟩:=h
 refine loD (fun (q:List Int×List (List Int)×List Bool×Int)=>(fun (o0_Auto_Owner:List Int) (o0_Auto_Follow:List (List Int)) (o0_Auto_Ends:List Bool) (t40:Int)=>([(1,.ptr 3 0),(3,.agg [oL 33 enc_arr4_uint64 (api_Auto.Sets (auto_builder.Auto b)++api_Places.Sets r0),oL 3 enc_i64 o0_Auto_Owner,oL 30 encs_i64 o0_Auto_Follow,oL 4 enc_bool o0_Auto_Ends,oL 30 encs_i64 (api_Auto.Starts (auto_builder.Auto b))]),(7,vi rule0),(28,.ptr 56 0),(34,vi ((↑(List.length (api_Auto.Sets (auto_builder.Auto b))):Int))),(56,av_api_Places r0),(115,vL encs_i64 (api_Places.Follow r0)),(118,vi ((↑(List.length (api_Places.Follow r0)):Int))),(121,vi t40)]:Sta)) q.1 q.2.1 q.2.2.1 q.2.2.2) (fun (q:List Int×List (List Int)×List Bool×Int)=>Inv15 q.1 q.2.1 q.2.2.1 q.2.2.2) (fun (q:List Int×List (List Int)×List Bool×Int)=>mu16 q.1 q.2.1 q.2.2.1 q.2.2.2) ((api_Auto.Owner (auto_builder.Auto b)),(api_Auto.Follow (auto_builder.Auto b)),(api_Auto.Ends (auto_builder.Auto b)),0) [] h0Inv15 ?_
 rintro ⟨o0_Auto_Owner,o0_Auto_Follow,o0_Auto_Ends,t40⟩ hi
 have h:=hInv15 o0_Auto_Owner o0_Auto_Follow o0_Auto_Ends t40 hi
 refine sD kk [] [] [(124,vB (decide (t40 < (↑(List.length (api_Places.Follow r0)):Int))))] obN ?_
 refine qD ?_
 refine cD (t:=41) (b:=decide (t40 < (↑(List.length (api_Places.Follow r0)):Int))) (fun hb17=>?_) (fun hb17=>?_)
 ·have h:=h.1 hb17
  refine Sem.skip' (by kernel_rfl) Wk.refl ?_
  show Sem _ _ _ _ _
  refine wkD [124] ?_
  refine qD ?_
  refine bD (id:=1) ?_
  obtain ⟨h18,h⟩:=h
  obtain ⟨h19,h⟩:=h
  refine sD kk [.e (fL enc_i64 (gd (api_Places.Follow r0) t40))] [] [(40,vL enc_i64 (gd (api_Places.Follow r0) t40))] (obC h18 (obC (idx_ok encs_i64 (api_Places.Follow r0) t40 _ rfl h18 h19) obN)) ?_
  obtain ⟨h20,h⟩:=h
  obtain ⟨h21,h⟩:=h
  obtain ⟨r0_4,hc22,h⟩:=h
  obtain ⟨h23,h⟩:=h
  refine rDE kk [.c (oL 3 enc_i64 r0_4) []] [40] [(3,.agg [oL 33 enc_arr4_uint64 (api_Auto.Sets (auto_builder.Auto b)++api_Places.Sets r0),.own 3 (List.map enc_i64 o0_Auto_Owner++List.take (List.length [FV.pv (Value.int IntKind.i64 rule0)]) (List.drop (0:Nat) [FV.pv (Value.int IntKind.i64 rule0)])),.own 30 (List.map encs_i64 o0_Auto_Follow++List.take (List.length [FV.sl (List.take (List.length (List.map enc_i64 r0_4)) (List.drop (0:Nat) (List.map enc_i64 r0_4)))]) (List.drop (0:Nat) [FV.sl (List.take (List.length (List.map enc_i64 r0_4)) (List.drop (0:Nat) (List.map enc_i64 r0_4)))])),.own 4 (List.map enc_bool o0_Auto_Ends++List.take (List.length [FV.pv (Value.bool false)]) (List.drop (0:Nat) [FV.pv (Value.bool false)])),oL 30 encs_i64 (api_Auto.Starts (auto_builder.Auto b))])] [(3,.agg [oL 33 enc_arr4_uint64 (api_Auto.Sets (auto_builder.Auto b)++api_Places.Sets r0),oL 3 enc_i64 (o0_Auto_Owner++[rule0]),oL 30 encs_i64 (o0_Auto_Follow++[r0_4]),oL 4 enc_bool (o0_Auto_Ends++[false]),oL 30 encs_i64 (api_Auto.Starts (auto_builder.Auto b))])] (obC (show (0:Nat)=(0:Nat)∧List.length (List.map enc_i64 o0_Auto_Owner)=List.length (List.map enc_i64 o0_Auto_Owner) from ⟨rfl,rfl⟩) (obC (show (List.length (List.map enc_i64 o0_Auto_Owner)+List.length (List.take (1:Nat) (List.drop (0:Nat) [FV.pv (Value.int IntKind.i64 rule0)]))) * (8:Nat)≤(2:Nat) ^ (47:Nat) from by simpa only [nm] using h20) (obC (show List.all (List.take (1:Nat) (List.drop (0:Nat) [FV.pv (Value.int IntKind.i64 rule0)])) (FV.fits (1:Nat))=true from by first | exact fits_i64 _ | exact keysenc_i64 _ | rfl | simp [isByteF,FV.fits,FV.size,FV.cells,FV.one,]) (obC (show (0:Nat)=(0:Nat)∧List.length (List.map enc_bool o0_Auto_Ends)=List.length (List.map enc_bool o0_Auto_Ends) from ⟨rfl,rfl⟩) (obC (show (List.length (List.map enc_bool o0_Auto_Ends)+List.length (List.take (1:Nat) (List.drop (0:Nat) [FV.pv (Value.bool false)]))) * (1:Nat)≤(2:Nat) ^ (47:Nat) from by simpa only [nm] using h21) (obC (show List.all (List.take (1:Nat) (List.drop (0:Nat) [FV.pv (Value.bool false)])) (FV.fits (1:Nat))=true from by first | decide | rfl | trivial) (obC hc22 (obC (show (0:Nat)=(0:Nat)∧List.length (List.map encs_i64 o0_Auto_Follow)=List.length (List.map encs_i64 o0_Auto_Follow) from ⟨rfl,rfl⟩) (obC (show (List.length (List.map encs_i64 o0_Auto_Follow)+List.length (List.take (1:Nat) (List.drop (0:Nat) [FV.sl (List.take (List.length (List.map enc_i64 r0_4)) (List.drop (0:Nat) (List.map enc_i64 r0_4)))]))) * (24:Nat)≤(2:Nat) ^ (47:Nat) from by simpa only [nm] using h23) (obC (show List.all (List.take (1:Nat) (List.drop (0:Nat) [FV.sl (List.take (List.length (List.map enc_i64 r0_4)) (List.drop (0:Nat) (List.map enc_i64 r0_4)))])) (FV.fits (1:Nat))=true from by first | exact fits_i64 _ | exact keysenc_i64 _ | rfl | simp [isByteF,FV.fits,FV.size,FV.cells,FV.one,enc_i64]) obN)))))))))) ?_
  show Sem _ _ _ _ _
  refine rD kk [] [] [(121,vi (w64 (t40+1)))] obN ?_
  exact lD ((o0_Auto_Owner++[rule0]),(o0_Auto_Follow++[r0_4]),(o0_Auto_Ends++[false]),(w64 (t40+1))) [] h
 ·have h:=h.2 hb17
  refine xD (i:=0) ?_
  show Sem _ _ _ _ _
  refine wkD [1,7,115,118,121,124] ?_
  obtain ⟨r0_5,hc24,h⟩:=h
  obtain ⟨r0_6,hc25,h⟩:=h
  refine sD kk [.c (oL 3 enc_i64 r0_5) [],.c (oL 3 enc_i64 r0_6) []] [28,34,56] [(19,oL 3 enc_i64 r0_5),(22,oL 3 enc_i64 r0_6),(25,vB (api_Places.Null r0))] (obC hc24 (obC hc25 obN)) ?_
  refine tD ?_
  obtain ⟨he0,he1,he2,he3⟩:=h
  subst res res_1 res_2 fin
  exact (endD [] (.tup [.f (FV.sl (List.take (List.length (List.map enc_i64 r0_5)) (List.drop (0:Nat) (List.map enc_i64 r0_5)))),.f (FV.sl (List.take (List.length (List.map enc_i64 r0_6)) (List.drop (0:Nat) (List.map enc_i64 r0_6)))),vB (api_Places.Null r0)]) [.agg [oL 33 enc_arr4_uint64 (api_Auto.Sets (auto_builder.Auto b)++api_Places.Sets r0),oL 3 enc_i64 o0_Auto_Owner,oL 30 encs_i64 o0_Auto_Follow,oL 4 enc_bool o0_Auto_Ends,oL 30 encs_i64 (api_Auto.Starts (auto_builder.Auto b))]]).1
end Go.Ev
set_option linter.unusedSimpArgs false
set_option linter.unusedVariables false
namespace Go.Ev
open Go Go.Proofs
set_option maxRecDepth 8000
set_option maxHeartbeats 1000000 in
theorem W_auto_builder_rule (r0:api_Rule) (i:Int) (b:auto_builder) (res:(List Int)) (fin:auto_builder)
 (h:(((api_Rule.Eof r0)=true→(res=([])∧fin=b))∧((api_Rule.Eof r0)=false→(∃ r0_1:List Int,∃ r0_2:List Int,∃ r0_3:Bool,∃ o:auto_builder,C_auto_builder_put (api_Rule.Rx r0) i b r0_1 r0_2 r0_3 o∧(∃ J40:List arr4_uint64→List Int→List (List Int)→List Bool→List (List Int)→List Int→Prop,(∀ (o0_Auto_Sets:List arr4_uint64) (o0_Auto_Owner:List Int) (o0_Auto_Follow_1:List (List Int)) (o0_Auto_Ends:List Bool) (o0_Auto_Starts:List (List Int)) (end0:List Int),J40 o0_Auto_Sets o0_Auto_Owner o0_Auto_Follow_1 o0_Auto_Ends o0_Auto_Starts end0→(∃ (Inv52:List Bool→Int→Prop) (mu53:List Bool→Int→Nat),Inv52 o0_Auto_Ends 0∧(∀ (o0_Auto_Ends_1:List Bool) (t72:Int),Inv52 o0_Auto_Ends_1 t72→(((decide (t72 < (↑(List.length end0):Int)))=true→((0:Int)≤t72)∧t72 < ↑(List.length end0)∧((0:Int)≤gd end0 t72)∧(Int.toNat (gd end0 t72) < List.length o0_Auto_Ends_1)∧gd end0 t72 < ↑(List.length o0_Auto_Ends_1)∧(Inv52 (List.set o0_Auto_Ends_1 (Int.toNat (gd end0 t72)) true) (w64 (t72+1))∧mu53 (List.set o0_Auto_Ends_1 (Int.toNat (gd end0 t72)) true) (w64 (t72+1)) < mu53 o0_Auto_Ends_1 t72))∧((decide (t72 < (↑(List.length end0):Int)))=false→(res=r0_1∧fin=({ Auto:={ Sets:=o0_Auto_Sets,Owner:=o0_Auto_Owner,Follow:=o0_Auto_Follow_1,Ends:=o0_Auto_Ends_1,Starts:=o0_Auto_Starts } })))))))∧(((api_Rx.Kind (api_Rule.Trail r0) != (0:Int))=true→(∃ r0_12:List Int,∃ r0_13:List Int,∃ r0_14:Bool,∃ o_2:auto_builder,C_auto_builder_put (api_Rule.Trail r0) i o r0_12 r0_13 r0_14 o_2∧(∃ (Inv81:List (List Int)→Int→Prop) (mu82:List (List Int)→Int→Nat),Inv81 (api_Auto.Follow (auto_builder.Auto o_2)) 0∧(∀ (o0_Auto_Follow_2:List (List Int)) (t43_1:Int),Inv81 o0_Auto_Follow_2 t43_1→(((decide (t43_1 < (↑(List.length r0_2):Int)))=true→((0:Int)≤t43_1)∧t43_1 < ↑(List.length r0_2)∧((0:Int)≤gd r0_2 t43_1)∧(Int.toNat (gd r0_2 t43_1) < List.length o0_Auto_Follow_2)∧gd r0_2 t43_1 < ↑(List.length o0_Auto_Follow_2)∧(∃ r0_17:List Int,C_place_Join_int (gd o0_Auto_Follow_2 (gd r0_2 t43_1)) r0_12 r0_17∧((0:Int)≤gd r0_2 t43_1)∧(Int.toNat (gd r0_2 t43_1) < List.length o0_Auto_Follow_2)∧gd r0_2 t43_1 < ↑(List.length o0_Auto_Follow_2)∧(Inv81 (List.set o0_Auto_Follow_2 (Int.toNat (gd r0_2 t43_1)) r0_17) (w64 (t43_1+1))∧mu82 (List.set o0_Auto_Follow_2 (Int.toNat (gd r0_2 t43_1)) r0_17) (w64 (t43_1+1)) < mu82 o0_Auto_Follow_2 t43_1)))∧((decide (t43_1 < (↑(List.length r0_2):Int)))=false→(∃ J95:List Int→Prop,(∀ (last_1:List Int),J95 last_1→J40 (api_Auto.Sets (auto_builder.Auto o_2)) (api_Auto.Owner (auto_builder.Auto o_2)) o0_Auto_Follow_2 (api_Auto.Ends (auto_builder.Auto o_2)) (api_Auto.Starts (auto_builder.Auto o_2)) last_1)∧(((r0_14)=true→(∃ r0_19:List Int,C_place_Join_int r0_2 r0_13 r0_19∧J95 r0_19))∧((r0_14)=false→J95 r0_13)))))))))∧((api_Rx.Kind (api_Rule.Trail r0) != (0:Int))=false→J40 (api_Auto.Sets (auto_builder.Auto o)) (api_Auto.Owner (auto_builder.Auto o)) (api_Auto.Follow (auto_builder.Auto o)) (api_Auto.Ends (auto_builder.Auto o)) (api_Auto.Starts (auto_builder.Auto o)) r0_2))))))):C_auto_builder_rule r0 i b res fin:=by
 unfold C_auto_builder_rule
 have kk:=cfOk [84] 85
 refine fD (x:=bodyOf Try.f54) kk Try.func54 ?_
 refine wkS [1,3,4,7] [(1,.ptr 3 0),(3,ao_auto_builder b),(4,av_api_Rule r0),(7,vi i)] (by kernel_rfl) ?_
 refine sD kk [] [4] [(13,.ptr 26 0),(26,av_api_Rule r0)] obN ?_
 refine qD ?_
 refine sD kk [] [] [(55,vB (api_Rule.Eof r0))] obN ?_
 refine cD (t:=18) (b:=api_Rule.Eof r0) (fun hb0=>?_) (fun hb0=>?_)
 ·have h:=h.1 hb0
  refine sDE kk [] [1,7,13,26,55] [(19,.own 3 ([]))] [(19,oL 3 enc_i64 ([]))] obN ?_
  refine tD ?_
  obtain ⟨he0,he1⟩:=h
  subst res fin
  exact (endD [(19,0)] (vL enc_i64 ([])) [ao_auto_builder b]).1
 ·have h:=h.2 hb0
  refine Sem.skip' (by kernel_rfl) Wk.refl ?_
  show Sem _ _ _ _ _
  refine wkD [55] ?_
  obtain ⟨r0_1,r0_2,r0_3,o,hc1,h⟩:=h
  refine sD kk [.c (.tup [vL enc_i64 r0_1,vL enc_i64 r0_2,vB r0_3]) [ao_auto_builder o]] [] [(3,ao_auto_builder o),(22,vL enc_i64 r0_1),(25,vL enc_i64 r0_2)] (obC hc1 obN) ?_
  obtain ⟨J40,hJ40,h⟩:=h
  refine sjD (fun (q:List arr4_uint64×List Int×List (List Int)×List Bool×List (List Int)×List Int)=>J40 q.1 q.2.1 q.2.2.1 q.2.2.2.1 q.2.2.2.2.1 q.2.2.2.2.2) (fun (q:List arr4_uint64×List Int×List (List Int)×List Bool×List (List Int)×List Int)=>(fun (o0_Auto_Sets:List arr4_uint64) (o0_Auto_Owner:List Int) (o0_Auto_Follow_1:List (List Int)) (o0_Auto_Ends:List Bool) (o0_Auto_Starts:List (List Int)) (end0:List Int)=>([(1,.ptr 3 0),(3,.agg [oL 33 enc_arr4_uint64 o0_Auto_Sets,oL 3 enc_i64 o0_Auto_Owner,oL 30 encs_i64 o0_Auto_Follow_1,oL 4 enc_bool o0_Auto_Ends,oL 30 encs_i64 o0_Auto_Starts]),(22,vL enc_i64 r0_1),(25,vL enc_i64 end0)]:Sta)) q.1 q.2.1 q.2.2.1 q.2.2.2.1 q.2.2.2.2.1 q.2.2.2.2.2) ?_ ?_
  ·rintro ⟨o0_Auto_Sets,o0_Auto_Owner,o0_Auto_Follow_1,o0_Auto_Ends,o0_Auto_Starts,end0⟩ hj
   have h:=hJ40 o0_Auto_Sets o0_Auto_Owner o0_Auto_Follow_1 o0_Auto_Ends o0_Auto_Starts end0 hj
   refine qD ?_
   refine sDE kk [] [25] [(211,vL enc_i64 end0),(214,vi ((↑(List.length (List.map enc_i64 end0)):Int))),(217,vi 0)] [(211,vL enc_i64 end0),(214,vi ((↑(List.length end0):Int))),(217,vi 0)] obN ?_
   refine bD (id:=2) ?_
   obtain ⟨Inv52,mu53,h0Inv52,hInv52⟩:=h
   refine loD (fun (q:List Bool×Int)=>(fun (o0_Auto_Ends_1:List Bool) (t72:Int)=>([(1,.ptr 3 0),(3,.agg [oL 33 enc_arr4_uint64 o0_Auto_Sets,oL 3 enc_i64 o0_Auto_Owner,oL 30 encs_i64 o0_Auto_Follow_1,oL 4 enc_bool o0_Auto_Ends_1,oL 30 encs_i64 o0_Auto_Starts]),(22,vL enc_i64 r0_1),(211,vL enc_i64 end0),(214,vi ((↑(List.length end0):Int))),(217,vi t72)]:Sta)) q.1 q.2) (fun (q:List Bool×Int)=>Inv52 q.1 q.2) (fun (q:List Bool×Int)=>mu53 q.1 q.2) (o0_Auto_Ends,0) [] h0Inv52 ?_
   rintro ⟨o0_Auto_Ends_1,t72⟩ hi
   have h:=hInv52 o0_Auto_Ends_1 t72 hi
   refine sD kk [] [] [(220,vB (decide (t72 < (↑(List.length end0):Int))))] obN ?_
   refine qD ?_
   refine cD (t:=73) (b:=decide (t72 < (↑(List.length end0):Int))) (fun hb54=>?_) (fun hb54=>?_)
   ·have h:=h.1 hb54
    refine Sem.skip' (by kernel_rfl) Wk.refl ?_
    show Sem _ _ _ _ _
    refine wkD [220] ?_
    refine qD ?_
    refine bD (id:=3) ?_
    obtain ⟨h55,h⟩:=h
    obtain ⟨h56,h⟩:=h
    refine sD kk [.e (fi (gd end0 t72))] [] [(49,vi (gd end0 t72))] (obC h55 (obC (idx_ok enc_i64 end0 t72 _ rfl h55 h56) obN)) ?_
    obtain ⟨h57,h⟩:=h
    obtain ⟨h58,h⟩:=h
    obtain ⟨h59,h⟩:=h
    refine rDE kk [.e (fB (gd o0_Auto_Ends_1 (gd end0 t72)))] [49] [(3,.agg [oL 33 enc_arr4_uint64 o0_Auto_Sets,oL 3 enc_i64 o0_Auto_Owner,oL 30 encs_i64 o0_Auto_Follow_1,.own 4 (List.set (List.map enc_bool o0_Auto_Ends_1) ((0:Nat)+Int.toNat (gd end0 t72)) (FV.pv (Value.bool true))),oL 30 encs_i64 o0_Auto_Starts])] [(3,.agg [oL 33 enc_arr4_uint64 o0_Auto_Sets,oL 3 enc_i64 o0_Auto_Owner,oL 30 encs_i64 o0_Auto_Follow_1,oL 4 enc_bool (List.set o0_Auto_Ends_1 (Int.toNat (gd end0 t72)) true),oL 30 encs_i64 o0_Auto_Starts])] (obC h57 (obC (show Int.toNat (gd end0 t72) < List.length (List.map enc_bool o0_Auto_Ends_1) from by simpa only [nm] using h58) (obC (show (List.map enc_bool o0_Auto_Ends_1)[((0:Nat)+Int.toNat (gd end0 t72):Nat)]?=some (fB (gd o0_Auto_Ends_1 (gd end0 t72))) from by have:=idx_ok enc_bool o0_Auto_Ends_1 (gd end0 t72) _ rfl h57 h59;simpa only [nm,enq,enc_bool] using this) obN))) ?_
    show Sem _ _ _ _ _
    refine rD kk [] [] [(217,vi (w64 (t72+1)))] obN ?_
    exact lD ((List.set o0_Auto_Ends_1 (Int.toNat (gd end0 t72)) true),(w64 (t72+1))) [] h
   ·have h:=h.2 hb54
    refine xD (i:=2) ?_
    show Sem _ _ _ _ _
    refine wkD [1,211,214,217,220] ?_
    refine sD kk [] [22] [(19,vL enc_i64 r0_1)] obN ?_
    refine tD ?_
    obtain ⟨he0,he1⟩:=h
    subst res fin
    exact (endD [] (vL enc_i64 r0_1) [.agg [oL 33 enc_arr4_uint64 o0_Auto_Sets,oL 3 enc_i64 o0_Auto_Owner,oL 30 encs_i64 o0_Auto_Follow_1,oL 4 enc_bool o0_Auto_Ends_1,oL 30 encs_i64 o0_Auto_Starts]]).1
  ·refine sD kk [] [] [(94,vB (api_Rx.Kind (api_Rule.Trail r0) != (0:Int)))] obN ?_
   refine cD (t:=31) (b:=api_Rx.Kind (api_Rule.Trail r0) != (0:Int)) (fun hb60=>?_) (fun hb60=>?_)
   ·have h:=h.1 hb60
    obtain ⟨r0_12,r0_13,r0_14,o_2,hc61,h⟩:=h
    refine sD kk [.c (.tup [vL enc_i64 r0_12,vL enc_i64 r0_13,vB r0_14]) [ao_auto_builder o_2]] [7,13,26,94] [(3,ao_auto_builder o_2),(31,vL enc_i64 r0_12),(34,vL enc_i64 r0_13),(37,vB r0_14)] (obC hc61 obN) ?_
    refine qD ?_
    refine sDE kk [] [] [(124,vL enc_i64 r0_2),(127,vi ((↑(List.length (List.map enc_i64 r0_2)):Int))),(130,vi 0)] [(124,vL enc_i64 r0_2),(127,vi ((↑(List.length r0_2):Int))),(130,vi 0)] obN ?_
    refine bD (id:=0) ?_
    obtain ⟨Inv81,mu82,h0Inv81,hInv81⟩:=h
    refine loD (fun (q:List (List Int)×Int)=>(fun (o0_Auto_Follow_2:List (List Int)) (t43_1:Int)=>([(1,.ptr 3 0),(3,.agg [oL 33 enc_arr4_uint64 (api_Auto.Sets (auto_builder.Auto o_2)),oL 3 enc_i64 (api_Auto.Owner (auto_builder.Auto o_2)),oL 30 encs_i64 o0_Auto_Follow_2,oL 4 enc_bool (api_Auto.Ends (auto_builder.Auto o_2)),oL 30 encs_i64 (api_Auto.Starts (auto_builder.Auto o_2))]),(22,vL enc_i64 r0_1),(25,vL enc_i64 r0_2),(31,vL enc_i64 r0_12),(34,vL enc_i64 r0_13),(37,vB r0_14),(124,vL enc_i64 r0_2),(127,vi ((↑(List.length r0_2):Int))),(130,vi t43_1)]:Sta)) q.1 q.2) (fun (q:List (List Int)×Int)=>Inv81 q.1 q.2) (fun (q:List (List Int)×Int)=>mu82 q.1 q.2) ((api_Auto.Follow (auto_builder.Auto o_2)),0) [] h0Inv81 ?_
    rintro ⟨o0_Auto_Follow_2,t43_1⟩ hi
    have h:=hInv81 o0_Auto_Follow_2 t43_1 hi
    refine sD kk [] [] [(133,vB (decide (t43_1 < (↑(List.length r0_2):Int))))] obN ?_
    refine qD ?_
    refine cD (t:=44) (b:=decide (t43_1 < (↑(List.length r0_2):Int))) (fun hb83=>?_) (fun hb83=>?_)
    ·have h:=h.1 hb83
     refine Sem.skip' (by kernel_rfl) Wk.refl ?_
     show Sem _ _ _ _ _
     refine wkD [133] ?_
     refine qD ?_
     refine bD (id:=1) ?_
     obtain ⟨h84,h⟩:=h
     obtain ⟨h85,h⟩:=h
     refine sD kk [.e (fi (gd r0_2 t43_1))] [] [(43,vi (gd r0_2 t43_1))] (obC h84 (obC (idx_ok enc_i64 r0_2 t43_1 _ rfl h84 h85) obN)) ?_
     obtain ⟨h86,h⟩:=h
     obtain ⟨h87,h⟩:=h
     obtain ⟨h88,h⟩:=h
     obtain ⟨r0_17,hc89,h⟩:=h
     obtain ⟨h90,h⟩:=h
     obtain ⟨h91,h⟩:=h
     obtain ⟨h92,h⟩:=h
     refine rDE kk [.e (fL enc_i64 (gd o0_Auto_Follow_2 (gd r0_2 t43_1))),.c (vL enc_i64 r0_17) [],.e (fL enc_i64 (gd o0_Auto_Follow_2 (gd r0_2 t43_1)))] [43] [(3,.agg [oL 33 enc_arr4_uint64 (api_Auto.Sets (auto_builder.Auto o_2)),oL 3 enc_i64 (api_Auto.Owner (auto_builder.Auto o_2)),.own 30 (List.set (List.map encs_i64 o0_Auto_Follow_2) ((0:Nat)+Int.toNat (gd r0_2 t43_1)) (FV.sl (List.map enc_i64 r0_17))),oL 4 enc_bool (api_Auto.Ends (auto_builder.Auto o_2)),oL 30 encs_i64 (api_Auto.Starts (auto_builder.Auto o_2))])] [(3,.agg [oL 33 enc_arr4_uint64 (api_Auto.Sets (auto_builder.Auto o_2)),oL 3 enc_i64 (api_Auto.Owner (auto_builder.Auto o_2)),oL 30 encs_i64 (List.set o0_Auto_Follow_2 (Int.toNat (gd r0_2 t43_1)) r0_17),oL 4 enc_bool (api_Auto.Ends (auto_builder.Auto o_2)),oL 30 encs_i64 (api_Auto.Starts (auto_builder.Auto o_2))])] (obC h86 (obC (show Int.toNat (gd r0_2 t43_1) < List.length (List.map encs_i64 o0_Auto_Follow_2) from by simpa only [nm] using h87) (obC (show (List.map encs_i64 o0_Auto_Follow_2)[((0:Nat)+Int.toNat (gd r0_2 t43_1):Nat)]?=some (fL enc_i64 (gd o0_Auto_Follow_2 (gd r0_2 t43_1))) from by have:=idx_ok encs_i64 o0_Auto_Follow_2 (gd r0_2 t43_1) _ rfl h86 h88;simpa only [nm,enq,encs_i64] using this) (obC hc89 (obC h90 (obC (show Int.toNat (gd r0_2 t43_1) < List.length (List.map encs_i64 o0_Auto_Follow_2) from by simpa only [nm] using h91) (obC (show (List.map encs_i64 o0_Auto_Follow_2)[((0:Nat)+Int.toNat (gd r0_2 t43_1):Nat)]?=some (fL enc_i64 (gd o0_Auto_Follow_2 (gd r0_2 t43_1))) from by have:=idx_ok encs_i64 o0_Auto_Follow_2 (gd r0_2 t43_1) _ rfl h90 h92;simpa only [nm,enq,encs_i64] using this) obN))))))) ?_
     show Sem _ _ _ _ _
     refine rD kk [] [] [(130,vi (w64 (t43_1+1)))] obN ?_
     exact lD ((List.set o0_Auto_Follow_2 (Int.toNat (gd r0_2 t43_1)) r0_17),(w64 (t43_1+1))) [] h
    ·have h:=h.2 hb83
     refine xD (i:=0) ?_
     show Sem _ _ _ _ _
     refine wkD [31,124,127,130,133] ?_
     obtain ⟨J95,hJ95,h⟩:=h
     refine sjD (fun (q:List Int)=>J95 q) (fun (q:List Int)=>(fun (last_1:List Int)=>([(1,.ptr 3 0),(3,.agg [oL 33 enc_arr4_uint64 (api_Auto.Sets (auto_builder.Auto o_2)),oL 3 enc_i64 (api_Auto.Owner (auto_builder.Auto o_2)),oL 30 encs_i64 o0_Auto_Follow_2,oL 4 enc_bool (api_Auto.Ends (auto_builder.Auto o_2)),oL 30 encs_i64 (api_Auto.Starts (auto_builder.Auto o_2))]),(22,vL enc_i64 r0_1),(34,vL enc_i64 last_1)]:Sta)) q) ?_ ?_
     ·rintro last_1 hj
      have h:=hJ95 last_1 hj
      refine rD kk [] [34] [(25,vL enc_i64 last_1)] obN ?_
      exact jD ((api_Auto.Sets (auto_builder.Auto o_2)),(api_Auto.Owner (auto_builder.Auto o_2)),o0_Auto_Follow_2,(api_Auto.Ends (auto_builder.Auto o_2)),(api_Auto.Starts (auto_builder.Auto o_2)),last_1) [] h
     ·refine sD kk [] [37] [(196,vB r0_14)] obN ?_
      refine cD (t:=65) (b:=r0_14) (fun hb96=>?_) (fun hb96=>?_)
      ·have h:=h.1 hb96
       obtain ⟨r0_19,hc97,h⟩:=h
       refine rD kk [.c (vL enc_i64 r0_19) []] [25,196] [(34,vL enc_i64 r0_19)] (obC hc97 obN) ?_
       exact jD r0_19 [] h
      ·have h:=h.2 hb96
       refine Sem.skip' (by kernel_rfl) Wk.refl ?_
       exact jD r0_13 [] h
   ·have h:=h.2 hb60
    refine Sem.skip' (by kernel_rfl) Wk.refl ?_
    exact jD ((api_Auto.Sets (auto_builder.Auto o)),(api_Auto.Owner (auto_builder.Auto o)),(api_Auto.Follow (auto_builder.Auto o)),(api_Auto.Ends (auto_builder.Auto o)),(api_Auto.Starts (auto_builder.Auto o)),r0_2) [] h
set_option maxHeartbeats 1000000 in
theorem W_slices_Index__int_int (s0:(List Int)) (v:Int) (res:Int)
 (h:(∃ (Inv7:Int→Prop) (mu8:Int→Nat),Inv7 0∧(∀ (t8:Int),Inv7 t8→(((decide (t8 < (↑(List.length s0):Int)))=true→((0:Int)≤t8)∧t8 < ↑(List.length s0)∧(((v == gd s0 t8)=true→(res=t8))∧((v == gd s0 t8)=false→(Inv7 (w64 (t8+1))∧mu8 (w64 (t8+1)) < mu8 t8))))∧((decide (t8 < (↑(List.length s0):Int)))=false→(res=(-1))))))):C_slices_Index__int_int s0 v res:=by
 unfold C_slices_Index__int_int
 have kk:=cfOk [17] 19
 refine fD (x:=bodyOf Try.f92) kk Try.func92 ?_
 refine wkS [1,4] [(1,vL enc_i64 s0),(4,vi v)] (by kernel_rfl) ?_
 refine sD kk [] [] [] obN ?_
 refine qD ?_
 refine sDE kk [] [] [(22,vi ((↑(List.length (List.map enc_i64 s0)):Int))),(25,vi 0)] [(22,vi ((↑(List.length s0):Int))),(25,vi 0)] obN ?_
 refine bD (id:=0) ?_
 obtain ⟨Inv7,mu8,h0Inv7,hInv7⟩:=h
 refine loD (fun (q:Int)=>(fun (t8:Int)=>([(1,vL enc_i64 s0),(4,vi v),(22,vi ((↑(List.length s0):Int))),(25,vi t8)]:Sta)) q) (fun (q:Int)=>Inv7 q) (fun (q:Int)=>mu8 q) 0 [] h0Inv7 ?_
 rintro t8 hi
 have h:=hInv7 t8 hi
 refine sD kk [] [] [(28,vB (decide (t8 < (↑(List.length s0):Int))))] obN ?_
 refine qD ?_
 refine cD (t:=9) (b:=decide (t8 < (↑(List.length s0):Int))) (fun hb9=>?_) (fun hb9=>?_)
 ·have h:=h.1 hb9
  refine Sem.skip' (by kernel_rfl) Wk.refl ?_
  show Sem _ _ _ _ _
  refine wkD [28] ?_
  refine qD ?_
  refine bD (id:=1) ?_
  refine sD kk [] [] [(16,vi t8)] obN ?_
  obtain ⟨h10,h⟩:=h
  obtain ⟨h11,h⟩:=h
  refine sD kk [.e (fi (gd s0 t8))] [] [(49,vB (v == gd s0 t8))] (obC h10 (obC (idx_ok enc_i64 s0 t8 _ rfl h10 h11) obN)) ?_
  refine cD (t:=16) (b:=v == gd s0 t8) (fun hb12=>?_) (fun hb12=>?_)
  ·have h:=h.1 hb12
   refine sD kk [] [1,4,16,22,25,49] [(13,vi t8)] obN ?_
   refine tD ?_
   obtain he0:=h
   subst res
   exact (endD [] (vi t8) []).1
  ·have h:=h.2 hb12
   refine Sem.skip' (by kernel_rfl) Wk.refl ?_
   show Sem _ _ _ _ _
   refine wkD [16,49] ?_
   refine rD kk [] [] [(25,vi (w64 (t8+1)))] obN ?_
   exact lD (w64 (t8+1)) [] h
 ·have h:=h.2 hb9
  refine xD (i:=0) ?_
  show Sem _ _ _ _ _
  refine wkD [1,4,22,25,28] ?_
  refine sD kk [] [] [(13,vi (-1))] obN ?_
  refine tD ?_
  obtain he0:=h
  subst res
  exact (endD [] (vi (-1)) []).1
set_option maxHeartbeats 1000000 in
theorem W_slices_Contains__int_int (s0:(List Int)) (v:Int) (res:Bool)
 (h:(∃ r0:Int,C_slices_Index__int_int s0 v r0∧(res=(decide (r0≥(0:Int)))))):C_slices_Contains__int_int s0 v res:=by
 unfold C_slices_Contains__int_int
 have kk:=cfOk [] 9
 refine fD (x:=bodyOf Try.f63) kk Try.func63 ?_
 refine wkS [1,4] [(1,vL enc_i64 s0),(4,vi v)] (by kernel_rfl) ?_
 refine sD kk [] [] [] obN ?_
 obtain ⟨r0,hc0,h⟩:=h
 refine sD kk [.c (vi r0) []] [1,4] [(13,vB (decide (r0≥(0:Int))))] (obC hc0 obN) ?_
 refine tD ?_
 obtain he0:=h
 subst res
 exact (endD [] (vB (decide (r0≥(0:Int)))) []).1
set_option maxHeartbeats 1000000 in
theorem W_spec_Active (s0:api_Spec) (rule0:Int) (cond:Int) (res:Bool)
 (h:(((decide (rule0 < (0:Int)) || (decide (rule0≥(↑(List.length (List.map enc_api_Rule (api_Spec.Rules s0))):Int)) || (decide (cond < (0:Int)) || decide (cond≥(↑(List.length (api_Spec.Conds s0)):Int)))))=true→(res=false))∧((decide (rule0 < (0:Int)) || (decide (rule0≥(↑(List.length (List.map enc_api_Rule (api_Spec.Rules s0))):Int)) || (decide (cond < (0:Int)) || decide (cond≥(↑(List.length (api_Spec.Conds s0)):Int)))))=false→((0:Int)≤rule0)∧rule0 < ↑(List.length (api_Spec.Rules s0))∧(((api_Rule.All (gd (api_Spec.Rules s0) rule0))=true→(res=true))∧((api_Rule.All (gd (api_Spec.Rules s0) rule0))=false→(∃ r0:Bool,C_slices_Contains__int_int (api_Rule.Conds (gd (api_Spec.Rules s0) rule0)) cond r0∧(((r0)=true→(res=true))∧((r0)=false→((((↑(List.length (List.map enc_i64 (api_Rule.Conds (gd (api_Spec.Rules s0) rule0)))):Int) == 0)=true→((api_Rule.All (gd (api_Spec.Rules s0) rule0))=false→((r0)=false→(((↑(List.length (List.map enc_i64 (api_Rule.Conds (gd (api_Spec.Rules s0) rule0)))):Int) == 0)=true→((0:Int)≤cond))))∧((api_Rule.All (gd (api_Spec.Rules s0) rule0))=false→((r0)=false→(((↑(List.length (List.map enc_i64 (api_Rule.Conds (gd (api_Spec.Rules s0) rule0)))):Int) == 0)=true→cond < ↑(List.length (api_Spec.Conds s0)))))∧(res=(!api_Cond.Exclusive (gd (api_Spec.Conds s0) cond))))∧(((↑(List.length (List.map enc_i64 (api_Rule.Conds (gd (api_Spec.Rules s0) rule0)))):Int) == 0)=false→(res=false))))))))))):C_spec_Active s0 rule0 cond res:=by
 unfold C_spec_Active
 have kk:=cfOk [] 56
 refine fD (x:=bodyOf Try.f87) kk Try.func87 ?_
 refine wkS [1,4,7] [(1,av_api_Spec s0),(4,vi rule0),(7,vi cond)] (by kernel_rfl) ?_
 refine sD kk [] [1] [(10,.ptr 20 0),(20,av_api_Spec s0)] obN ?_
 refine qD ?_
 refine sM [] [(82,vB (decide (rule0 < (0:Int)) || (decide (rule0≥(↑(List.length (List.map enc_api_Rule (api_Spec.Rules s0))):Int)) || (decide (cond < (0:Int)) || decide (cond≥(↑(List.length (api_Spec.Conds s0)):Int))))))] ?_ (fun hk0=>?_)
 ·refine cD (t:=27) (b:=decide (rule0 < (0:Int)) || (decide (rule0≥(↑(List.length (List.map enc_api_Rule (api_Spec.Rules s0))):Int)) || (decide (cond < (0:Int)) || decide (cond≥(↑(List.length (api_Spec.Conds s0)):Int))))) (fun hb3=>?_) (fun hb3=>?_)
  ·have h:=h.1 hb3
   refine sD kk [] [4,7,10,20,82] [(19,vB false)] obN ?_
   refine tD ?_
   obtain he0:=h
   subst res
   exact (endD [] (vB false) []).1
  ·have h:=h.2 hb3
   refine Sem.skip' (by kernel_rfl) Wk.refl ?_
   show Sem _ _ _ _ _
   refine wkD [82] ?_
   obtain ⟨h4,h⟩:=h
   obtain ⟨h5,h⟩:=h
   refine sD kk [.e (fv_api_Rule (gd (api_Spec.Rules s0) rule0))] [4] [(22,.ptr 44 0),(44,av_api_Rule (gd (api_Spec.Rules s0) rule0))] (obC h4 (obC (idx_ok enc_api_Rule (api_Spec.Rules s0) rule0 _ (enc_api_Rule_eq _) h4 h5) obN)) ?_
   rcases Bool.eq_false_or_eq_true (api_Rule.All (gd (api_Spec.Rules s0) rule0)) with hb6 | hb6
   ·have h:=h.1 hb6
    refine sD kk [bF,bF,bF,bF,bT,bF,bF,bF,bF,bF,bF,bT] [7,10,20,22,44] [(19,vB true)] (obC (gff hb6) (obC (gff hb6) (obC (gff hb6) (obC (gff hb6) (obC hb6 (oF (oF (oF (oF (oF (oF (oT obN)))))))))))) ?_
    refine tD ?_
    obtain he0:=h
    subst res
    exact (endD [] (vB true) []).1
   ·have h:=h.2 hb6
    obtain ⟨r0,hc7,h⟩:=h
    rcases Bool.eq_false_or_eq_true (r0) with hb12 | hb12
    ·have h:=h.1 hb12
     refine sD kk [bT,bT,bT,bT,.c (vB r0) [],bF,bF,bF,bF,bF,bF,bF,bT] [7,10,20,22,44] [(19,vB true)] (obC (gft hb6) (obC (gft hb6) (obC (gft hb6) (obC (gft hb6) (obC hc7 (obC hb6 (obC (gff hb12) (obC (gff hb12) (obC (gff hb12) (obC (gff hb12) (obC (gff hb12) (obC (gff hb12) (obC hb12 obN))))))))))))) ?_
     refine tD ?_
     obtain he0:=h
     subst res
     exact (endD [] (vB true) []).1
    ·have h:=h.2 hb12
     rcases Bool.eq_false_or_eq_true ((↑(List.length (List.map enc_i64 (api_Rule.Conds (gd (api_Spec.Rules s0) rule0)))):Int) == 0) with hb16 | hb16
     ·have h:=h.1 hb16
      obtain ⟨h17,h⟩:=h
      obtain ⟨h18,h⟩:=h
      refine sD kk [bT,bT,bT,bT,.c (vB r0) [],bF,bT,bT,bT,bT,bT,bT,bT,bT,bT,.e (fv_api_Cond (gd (api_Spec.Conds s0) cond)),bT,bT,bT,bT,bT,bF] [7,10,20,22,44] [(19,vB (!api_Cond.Exclusive (gd (api_Spec.Conds s0) cond)))] (obC (gft hb6) (obC (gft hb6) (obC (gft hb6) (obC (gft hb6) (obC hc7 (obC hb6 (obC (gft hb12) (obC (gft hb12) (obC (gft hb12) (obC (gft hb12) (obC (gft hb12) (obC (gtt hb16) (obC (gtt hb16) (obC (gtt hb16) (obC (gtt hb16) (obC (((h17 hb6) hb12) hb16) (obC (idx_ok enc_api_Cond (api_Spec.Conds s0) cond _ (enc_api_Cond_eq _) (((h17 hb6) hb12) hb16) (((h18 hb6) hb12) hb16)) (obC (gtt hb16) (obC (gtt hb16) (obC (gtt hb16) (obC (gft hb12) (obC hb16 (obC hb12 obN))))))))))))))))))))))) ?_
      refine tD ?_
      obtain he0:=h
      subst res
      exact (endD [] (vB (!api_Cond.Exclusive (gd (api_Spec.Conds s0) cond))) []).1
     ·have h:=h.2 hb16
      refine sD kk [bT,bT,bT,bT,.c (vB r0) [],bF,bT,bT,bT,bT,bT,bF,bF,bF,bF,bF,bF,bF,bT,bF,bF] [7,10,20,22,44] [(19,vB false)] (obC (gft hb6) (obC (gft hb6) (obC (gft hb6) (obC (gft hb6) (obC hc7 (obC hb6 (obC (gft hb12) (obC (gft hb12) (obC (gft hb12) (obC (gft hb12) (obC (gft hb12) (obC (gtf hb16) (obC (gtf hb16) (obC (gtf hb16) (obC (gtf hb16) (obC (gtf hb16) (obC (gtf hb16) (obC (gtf hb16) (obC (gft hb12) (obC hb16 (obC hb12 obN))))))))))))))))))))) ?_
      refine tD ?_
      obtain he0:=h
      subst res
      exact (endD [] (vB false) []).1
 ·rcases Bool.eq_false_or_eq_true (decide (rule0 < (0:Int))) with hb0 | hb0
  ·refine sD kk [bF,bF,bF,bF,bF,bT,bF,bF,bT,bF,bF,bF,bF,bF,bT] [] [(82,vB true)] (obC (gff hb0) (obC (gff hb0) (obC (gff hb0) (obC (gff hb0) (obC (gff hb0) (obC hb0 (oF (oF (oT (oF (oF (oF (oF (oF (oT obN))))))))))))))) ?_
   exact Sem.cast (by try rw [hb0];kernel_rfl) hk0
  ·rcases Bool.eq_false_or_eq_true (decide (rule0≥(↑(List.length (List.map enc_api_Rule (api_Spec.Rules s0))):Int))) with hb1 | hb1
   ·refine sD kk [bT,bT,bT,bT,bT,bF,bF,bF,bT,bF,bF,bF,bF,bF,bT] [] [(82,vB true)] (obC (gft hb0) (obC (gft hb0) (obC (gft hb0) (obC (gft hb0) (obC (gft hb0) (obC hb0 (obC (gff hb1) (obC (gff hb1) (obC hb1 (oF (oF (oF (oF (oF (oT obN))))))))))))))) ?_
    exact Sem.cast (by try rw [hb0];try rw [hb1];kernel_rfl) hk0
   ·rcases Bool.eq_false_or_eq_true (decide (cond < (0:Int))) with hb2 | hb2
    ·refine sD kk [bT,bT,bT,bT,bT,bF,bT,bT,bF,bF,bF,bF,bF,bF,bT] [] [(82,vB true)] (obC (gft hb0) (obC (gft hb0) (obC (gft hb0) (obC (gft hb0) (obC (gft hb0) (obC hb0 (obC (gft hb1) (obC (gft hb1) (obC hb1 (obC (gff hb2) (obC (gff hb2) (obC (gff hb2) (obC (gff hb2) (obC (gff hb2) (obC hb2 obN))))))))))))))) ?_
     exact Sem.cast (by try rw [hb0];try rw [hb1];try rw [hb2];kernel_rfl) hk0
    ·refine sDE kk [bT,bT,bT,bT,bT,bF,bT,bT,bF,bT,bT,bT,bT,bT,bF] [] [(82,vB (decide (cond≥(↑(List.length (List.map enc_api_Cond (api_Spec.Conds s0))):Int))))] [(82,vB (decide (cond≥(↑(List.length (api_Spec.Conds s0)):Int))))] (obC (gft hb0) (obC (gft hb0) (obC (gft hb0) (obC (gft hb0) (obC (gft hb0) (obC hb0 (obC (gft hb1) (obC (gft hb1) (obC hb1 (obC (gft hb2) (obC (gft hb2) (obC (gft hb2) (obC (gft hb2) (obC (gft hb2) (obC hb2 obN))))))))))))))) ?_
     exact Sem.cast (by try rw [hb0];try rw [hb1];try rw [hb2];kernel_rfl) hk0
set_option maxHeartbeats 1000000 in
theorem W_auto_start (s0:api_Spec) (begins:(List (List Int))) (cond:Int) (bol:Bool) (res:(List Int))
 (h:(∃ (Inv36:List Int→Int→Prop) (mu37:List Int→Int→Nat),Inv36 ([]) 0∧(∀ (out_1:List Int) (t13:Int),Inv36 out_1 t13→(((decide (t13 < (↑(List.length begins):Int)))=true→(∃ J48:List Int→Prop,(∀ (out_3:List Int),J48 out_3→(Inv36 out_3 (w64 (t13+1))∧mu37 out_3 (w64 (t13+1)) < mu37 out_1 t13))∧((0:Int)≤t13)∧t13 < ↑(List.length begins)∧(∃ r0_10:Bool,C_spec_Active s0 t13 cond r0_10∧((r0_10)=true→((bol)=false→((0:Int)≤t13)))∧((r0_10)=true→((bol)=false→t13 < ↑(List.length (api_Spec.Rules s0))))∧(((r0_10 && (bol || !api_Rule.Bol (gd (api_Spec.Rules s0) t13)))=true→(∃ r0_11:List Int,C_place_Join_int out_1 (gd begins t13) r0_11∧J48 r0_11))∧((r0_10 && (bol || !api_Rule.Bol (gd (api_Spec.Rules s0) t13)))=false→J48 out_1)))))∧((decide (t13 < (↑(List.length begins):Int)))=false→(res=out_1)))))):C_auto_start s0 begins cond bol res:=by
 unfold C_auto_start
 have kk:=cfOk [38] 39
 refine fD (x:=bodyOf Try.f55) kk Try.func55 ?_
 refine wkS [1,4,7,10] [(1,av_api_Spec s0),(4,vL encs_i64 begins),(7,vi cond),(10,vB bol)] (by kernel_rfl) ?_
 refine sDE kk [] [1] [(13,.ptr 26 0),(25,.own 3 ([])),(26,av_api_Spec s0)] [(13,.ptr 26 0),(25,oL 3 enc_i64 ([])),(26,av_api_Spec s0)] obN ?_
 refine qD ?_
 refine sDE kk [] [4] [(34,vL encs_i64 begins),(37,vi ((↑(List.length (List.map encs_i64 begins)):Int))),(40,vi 0)] [(34,vL encs_i64 begins),(37,vi ((↑(List.length begins):Int))),(40,vi 0)] obN ?_
 refine bD (id:=0) ?_
 obtain ⟨Inv36,mu37,h0Inv36,hInv36⟩:=h
 refine loD (fun (q:List Int×Int)=>(fun (out_1:List Int) (t13:Int)=>([(7,vi cond),(10,vB bol),(13,.ptr 26 0),(25,vL enc_i64 out_1),(26,av_api_Spec s0),(34,vL encs_i64 begins),(37,vi ((↑(List.length begins):Int))),(40,vi t13)]:Sta)) q.1 q.2) (fun (q:List Int×Int)=>Inv36 q.1 q.2) (fun (q:List Int×Int)=>mu37 q.1 q.2) (([]),0) [(25,0)] h0Inv36 ?_
 rintro ⟨out_1,t13⟩ hi
 have h:=hInv36 out_1 t13 hi
 refine sD kk [] [] [(43,vB (decide (t13 < (↑(List.length begins):Int))))] obN ?_
 refine qD ?_
 refine cD (t:=14) (b:=decide (t13 < (↑(List.length begins):Int))) (fun hb38=>?_) (fun hb38=>?_)
 ·have h:=h.1 hb38
  refine Sem.skip' (by kernel_rfl) Wk.refl ?_
  show Sem _ _ _ _ _
  refine wkD [43] ?_
  obtain ⟨J48,hJ48,h⟩:=h
  refine sjD (fun (q:List Int)=>J48 q) (fun (q:List Int)=>(fun (out_3:List Int)=>([(7,vi cond),(10,vB bol),(13,.ptr 26 0),(25,vL enc_i64 out_3),(26,av_api_Spec s0),(34,vL encs_i64 begins),(37,vi ((↑(List.length begins):Int))),(40,vi t13)]:Sta)) q) ?_ ?_
  ·rintro out_3 hj
   have h:=hJ48 out_3 hj
   refine rD kk [] [] [(40,vi (w64 (t13+1)))] obN ?_
   exact lD (out_3,(w64 (t13+1))) [] h
  ·refine bD (id:=1) ?_
   obtain ⟨h49,h⟩:=h
   obtain ⟨h50,h⟩:=h
   refine sD kk [.e (fL enc_i64 (gd begins t13))] [] [(28,vi t13),(31,vL enc_i64 (gd begins t13))] (obC h49 (obC (idx_ok encs_i64 begins t13 _ rfl h49 h50) obN)) ?_
   obtain ⟨r0_10,hc51,h⟩:=h
   obtain ⟨h54,h55,h⟩:=h
   refine sM [28] [(100,vB (r0_10 && (bol || !api_Rule.Bol (gd (api_Spec.Rules s0) t13))))] ?_ (fun hk0=>?_)
   ·refine cD (t:=33) (b:=r0_10 && (bol || !api_Rule.Bol (gd (api_Spec.Rules s0) t13))) (fun hb56=>?_) (fun hb56=>?_)
    ·have h:=h.1 hb56
     obtain ⟨r0_11,hc57,h⟩:=h
     refine rD kk [.c (vL enc_i64 r0_11) []] [31,100] [(25,vL enc_i64 r0_11)] (obC hc57 obN) ?_
     exact jD r0_11 [] h
    ·have h:=h.2 hb56
     refine Sem.skip' (by kernel_rfl) Wk.refl ?_
     exact jD out_1 [] h
   ·rcases Bool.eq_false_or_eq_true (r0_10) with hb52 | hb52
    ·rcases Bool.eq_false_or_eq_true (bol) with hb53 | hb53
     ·refine sD kk [.c (vB r0_10) [],bT,bT,bF,bF,bF,bF,bF,bF,bF,bT,bT,bT] [28] [(100,vB true)] (obC hc51 (obC (gtt hb52) (obC (gtt hb52) (obC (gff hb53) (obC (gff hb53) (obC (gff hb53) (obC (gff hb53) (obC (gff hb53) (obC (gff hb53) (obC (gff hb53) (obC (gtt hb52) (obC hb53 (obC hb52 obN))))))))))))) ?_
      exact Sem.cast (by try rw [hb52];try rw [hb53];kernel_rfl) hk0
     ·refine sD kk [.c (vB r0_10) [],bT,bT,bT,bT,bT,bT,.e (fv_api_Rule (gd (api_Spec.Rules s0) t13)),bT,bT,bT,bT,bF,bT] [28] [(100,vB (!api_Rule.Bol (gd (api_Spec.Rules s0) t13)))] (obC hc51 (obC (gtt hb52) (obC (gtt hb52) (obC (gft hb53) (obC (gft hb53) (obC (gft hb53) (obC (gft hb53) (obC ((h54 hb52) hb53) (obC (idx_ok enc_api_Rule (api_Spec.Rules s0) t13 _ (enc_api_Rule_eq _) ((h54 hb52) hb53) ((h55 hb52) hb53)) (obC (gft hb53) (obC (gft hb53) (obC (gft hb53) (obC (gtt hb52) (obC hb53 (obC hb52 obN))))))))))))))) ?_
      exact Sem.cast (by try rw [hb52];try rw [hb53];kernel_rfl) hk0
    ·refine sD kk [.c (vB r0_10) [],bF,bF,bF,bF] [28] [(100,vB false)] (obC hc51 (obC (gtf hb52) (obC (gtf hb52) (obC (gtf hb52) (obC hb52 obN))))) ?_
     exact Sem.cast (by try rw [hb52];kernel_rfl) hk0
 ·have h:=h.2 hb38
  refine xD (i:=0) ?_
  show Sem _ _ _ _ _
  refine wkD [7,10,13,26,34,37,40,43] ?_
  refine sD kk [] [] [] obN ?_
  refine tD ?_
  obtain he0:=h
  subst res
  exact (endD [] (vL enc_i64 out_1) []).1
set_option maxHeartbeats 1000000 in
theorem W_auto_Build (s0:api_Spec) (res:api_Auto) (res_1:Int)
 (h:(∃ r0:Bool,C_spec_Right s0 r0∧(((!r0)=true→(res=({ Sets:=[],Owner:=[],Follow:=[],Ends:=[],Starts:=[] })∧res_1=1))∧((!r0)=false→(∃ (Inv10:List (List Int)→List arr4_uint64→List Int→List (List Int)→List Bool→List (List Int)→Int→Prop) (mu11:List (List Int)→List arr4_uint64→List Int→List (List Int)→List Bool→List (List Int)→Int→Nat),Inv10 ([]) ([]) ([]) ([]) ([]) ([]) 0∧(∀ (begins:List (List Int)) (t28_Auto_Sets:List arr4_uint64) (t28_Auto_Owner:List Int) (t28_Auto_Follow:List (List Int)) (t28_Auto_Ends:List Bool) (t28_Auto_Starts:List (List Int)) (t18:Int),Inv10 begins t28_Auto_Sets t28_Auto_Owner t28_Auto_Follow t28_Auto_Ends t28_Auto_Starts t18→(((decide (t18 < (↑(List.length (api_Spec.Rules s0)):Int)))=true→((0:Int)≤t18)∧t18 < ↑(List.length (api_Spec.Rules s0))∧(∃ r0_3:List Int,∃ o_2:auto_builder,C_auto_builder_rule (gd (api_Spec.Rules s0) t18) t18 ({ Auto:={ Sets:=t28_Auto_Sets,Owner:=t28_Auto_Owner,Follow:=t28_Auto_Follow,Ends:=t28_Auto_Ends,Starts:=t28_Auto_Starts } }) r0_3 o_2∧((List.length begins+(1:Nat)) * (24:Nat)≤(2:Nat) ^ (47:Nat))∧(Inv10 (begins++[r0_3]) (api_Auto.Sets (auto_builder.Auto o_2)) (api_Auto.Owner (auto_builder.Auto o_2)) (api_Auto.Follow (auto_builder.Auto o_2)) (api_Auto.Ends (auto_builder.Auto o_2)) (api_Auto.Starts (auto_builder.Auto o_2)) (w64 (t18+1))∧mu11 (begins++[r0_3]) (api_Auto.Sets (auto_builder.Auto o_2)) (api_Auto.Owner (auto_builder.Auto o_2)) (api_Auto.Follow (auto_builder.Auto o_2)) (api_Auto.Ends (auto_builder.Auto o_2)) (api_Auto.Starts (auto_builder.Auto o_2)) (w64 (t18+1)) < mu11 begins t28_Auto_Sets t28_Auto_Owner t28_Auto_Follow t28_Auto_Ends t28_Auto_Starts t18)))∧((decide (t18 < (↑(List.length (api_Spec.Rules s0)):Int)))=false→(((decide ((↑(List.length t28_Auto_Sets):Int) > (600:Int)))=true→(res=({ Sets:=[],Owner:=[],Follow:=[],Ends:=[],Starts:=[] })∧res_1=2))∧((decide ((↑(List.length t28_Auto_Sets):Int) > (600:Int)))=false→(∃ (Inv24:List (List Int)→Int→Prop) (mu25:List (List Int)→Int→Nat),Inv24 t28_Auto_Starts 0∧(∀ (t28_Auto_Starts_1:List (List Int)) (t43:Int),Inv24 t28_Auto_Starts_1 t43→(((decide (t43 < w64 ((2:Int) * (↑(List.length (api_Spec.Conds s0)):Int))))=true→(∃ r0_6:List Int,C_auto_start s0 begins (w64 (Int.tdiv t43 (2:Int))) (Int.tmod t43 (2:Int) == 1) r0_6∧((List.length t28_Auto_Starts_1+(1:Nat)) * (24:Nat)≤(2:Nat) ^ (47:Nat))∧(Inv24 (t28_Auto_Starts_1++[r0_6]) (w64 (t43+1))∧mu25 (t28_Auto_Starts_1++[r0_6]) (w64 (t43+1)) < mu25 t28_Auto_Starts_1 t43)))∧((decide (t43 < w64 ((2:Int) * (↑(List.length (api_Spec.Conds s0)):Int))))=false→(res=({ Sets:=t28_Auto_Sets,Owner:=t28_Auto_Owner,Follow:=t28_Auto_Follow,Ends:=t28_Auto_Ends,Starts:=t28_Auto_Starts_1 })∧res_1=0))))))))))))))):C_auto_Build s0 res res_1:=by
 unfold C_auto_Build
 have kk:=cfOk [] 70
 refine fD (x:=bodyOf Try.f25) kk Try.func25 ?_
 refine wkS [1] [(1,av_api_Spec s0)] (by kernel_rfl) ?_
 refine sDE kk [] [1] [(4,.ptr 8 0),(7,.ptr 14 0),(8,av_api_Spec s0),(14,.agg [.own 33 ([]),.own 3 ([]),.own 30 ([]),.own 4 ([]),.own 30 ([])])] [(4,.ptr 8 0),(7,.ptr 14 0),(8,av_api_Spec s0),(14,.agg [oL 33 enc_arr4_uint64 ([]),oL 3 enc_i64 ([]),oL 30 encs_i64 ([]),oL 4 enc_bool ([]),oL 30 encs_i64 ([])])] obN ?_
 refine qD ?_
 obtain ⟨r0,hc0,h⟩:=h
 refine sD kk [.c (vB r0) []] [] [(34,vB (!r0))] (obC hc0 obN) ?_
 refine cD (t:=11) (b:=!r0) (fun hb1=>?_) (fun hb1=>?_)
 ·have h:=h.1 hb1
  refine sDE kk [] [4,8,34] [(10,vi 1),(14,.agg [.own 33 ([]),.own 3 ([]),.own 30 ([]),.own 4 ([]),.own 30 ([])])] [(10,vi 1),(14,.agg [oL 33 enc_arr4_uint64 ([]),oL 3 enc_i64 ([]),oL 30 encs_i64 ([]),oL 4 enc_bool ([]),oL 30 encs_i64 ([])])] obN ?_
  refine tD ?_
  obtain ⟨he0,he1⟩:=h
  subst res res_1
  exact (endD [] (.tup [.agg [.f (FV.sl (List.take (List.length (List.map enc_arr4_uint64 [])) (List.drop (0:Nat) (List.map enc_arr4_uint64 [])))),.f (FV.sl (List.take (List.length (List.map enc_i64 [])) (List.drop (0:Nat) (List.map enc_i64 [])))),.f (FV.sl (List.take (List.length (List.map encs_i64 [])) (List.drop (0:Nat) (List.map encs_i64 [])))),.f (FV.sl (List.take (List.length (List.map enc_bool [])) (List.drop (0:Nat) (List.map enc_bool [])))),.f (FV.sl (List.take (List.length (List.map encs_i64 [])) (List.drop (0:Nat) (List.map encs_i64 []))))],vi 1]) []).1
 ·have h:=h.2 hb1
  refine Sem.skip' (by kernel_rfl) Wk.refl ?_
  show Sem _ _ _ _ _
  refine wkD [34] ?_
  refine sDE kk [] [] [(13,.ptr 86 0),(86,.agg [.own 33 ([]),.own 3 ([]),.own 30 ([]),.own 4 ([]),.own 30 ([])])] [(13,.ptr 86 0),(86,.agg [oL 33 enc_arr4_uint64 ([]),oL 3 enc_i64 ([]),oL 30 encs_i64 ([]),oL 4 enc_bool ([]),oL 30 encs_i64 ([])])] obN ?_
  refine sDE kk [] [] [(16,.own 30 ([]))] [(16,oL 30 encs_i64 ([]))] obN ?_
  refine qD ?_
  refine sDE kk [] [] [(49,vL enc_api_Rule (api_Spec.Rules s0)),(52,vi ((↑(List.length (List.map enc_api_Rule (api_Spec.Rules s0))):Int))),(55,vi 0)] [(49,vL enc_api_Rule (api_Spec.Rules s0)),(52,vi ((↑(List.length (api_Spec.Rules s0)):Int))),(55,vi 0)] obN ?_
  refine bD (id:=0) ?_
  obtain ⟨Inv10,mu11,h0Inv10,hInv10⟩:=h
  refine loD (fun (q:List (List Int)×List arr4_uint64×List Int×List (List Int)×List Bool×List (List Int)×Int)=>(fun (begins:List (List Int)) (t28_Auto_Sets:List arr4_uint64) (t28_Auto_Owner:List Int) (t28_Auto_Follow:List (List Int)) (t28_Auto_Ends:List Bool) (t28_Auto_Starts:List (List Int)) (t18:Int)=>([(4,.ptr 8 0),(7,.ptr 14 0),(8,av_api_Spec s0),(13,.ptr 86 0),(14,.agg [oL 33 enc_arr4_uint64 ([]),oL 3 enc_i64 ([]),oL 30 encs_i64 ([]),oL 4 enc_bool ([]),oL 30 encs_i64 ([])]),(16,oL 30 encs_i64 begins),(49,vL enc_api_Rule (api_Spec.Rules s0)),(52,vi ((↑(List.length (api_Spec.Rules s0)):Int))),(55,vi t18),(86,.agg [oL 33 enc_arr4_uint64 t28_Auto_Sets,oL 3 enc_i64 t28_Auto_Owner,oL 30 encs_i64 t28_Auto_Follow,oL 4 enc_bool t28_Auto_Ends,oL 30 encs_i64 t28_Auto_Starts])]:Sta)) q.1 q.2.1 q.2.2.1 q.2.2.2.1 q.2.2.2.2.1 q.2.2.2.2.2.1 q.2.2.2.2.2.2) (fun (q:List (List Int)×List arr4_uint64×List Int×List (List Int)×List Bool×List (List Int)×Int)=>Inv10 q.1 q.2.1 q.2.2.1 q.2.2.2.1 q.2.2.2.2.1 q.2.2.2.2.2.1 q.2.2.2.2.2.2) (fun (q:List (List Int)×List arr4_uint64×List Int×List (List Int)×List Bool×List (List Int)×Int)=>mu11 q.1 q.2.1 q.2.2.1 q.2.2.2.1 q.2.2.2.2.1 q.2.2.2.2.2.1 q.2.2.2.2.2.2) (([]),([]),([]),([]),([]),([]),0) [] h0Inv10 ?_
  rintro ⟨begins,t28_Auto_Sets,t28_Auto_Owner,t28_Auto_Follow,t28_Auto_Ends,t28_Auto_Starts,t18⟩ hi
  have h:=hInv10 begins t28_Auto_Sets t28_Auto_Owner t28_Auto_Follow t28_Auto_Ends t28_Auto_Starts t18 hi
  refine sD kk [] [] [(58,vB (decide (t18 < (↑(List.length (api_Spec.Rules s0)):Int))))] obN ?_
  refine qD ?_
  refine cD (t:=19) (b:=decide (t18 < (↑(List.length (api_Spec.Rules s0)):Int))) (fun hb12=>?_) (fun hb12=>?_)
  ·have h:=h.1 hb12
   refine Sem.skip' (by kernel_rfl) Wk.refl ?_
   show Sem _ _ _ _ _
   refine wkD [58] ?_
   refine qD ?_
   refine bD (id:=1) ?_
   obtain ⟨h13,h⟩:=h
   obtain ⟨h14,h⟩:=h
   refine sD kk [.e (fv_api_Rule (gd (api_Spec.Rules s0) t18))] [] [(19,vi t18),(22,.ptr 44 0),(44,av_api_Rule (gd (api_Spec.Rules s0) t18))] (obC h13 (obC (idx_ok enc_api_Rule (api_Spec.Rules s0) t18 _ (enc_api_Rule_eq _) h13 h14) obN)) ?_
   obtain ⟨r0_3,o_2,hc15,h⟩:=h
   obtain ⟨h16,h⟩:=h
   refine rDE kk [.c (vL enc_i64 r0_3) [ao_auto_builder o_2]] [19,22,44] [(16,.own 30 (List.map encs_i64 begins++List.take (List.length [FV.sl (List.map enc_i64 r0_3)]) (List.drop (0:Nat) [FV.sl (List.map enc_i64 r0_3)]))),(86,ao_auto_builder o_2)] [(16,oL 30 encs_i64 (begins++[r0_3])),(86,ao_auto_builder o_2)] (obC hc15 (obC (show (0:Nat)=(0:Nat)∧List.length (List.map encs_i64 begins)=List.length (List.map encs_i64 begins) from ⟨rfl,rfl⟩) (obC (show (List.length (List.map encs_i64 begins)+List.length (List.take (1:Nat) (List.drop (0:Nat) [FV.sl (List.map enc_i64 r0_3)]))) * (24:Nat)≤(2:Nat) ^ (47:Nat) from by simpa only [nm] using h16) (obC (show List.all (List.take (1:Nat) (List.drop (0:Nat) [FV.sl (List.map enc_i64 r0_3)])) (FV.fits (1:Nat))=true from by first | exact fits_i64 _ | exact keysenc_i64 _ | rfl | simp [isByteF,FV.fits,FV.size,FV.cells,FV.one,enc_i64]) obN)))) ?_
   show Sem _ _ _ _ _
   refine rD kk [] [] [(55,vi (w64 (t18+1)))] obN ?_
   exact lD ((begins++[r0_3]),(api_Auto.Sets (auto_builder.Auto o_2)),(api_Auto.Owner (auto_builder.Auto o_2)),(api_Auto.Follow (auto_builder.Auto o_2)),(api_Auto.Ends (auto_builder.Auto o_2)),(api_Auto.Starts (auto_builder.Auto o_2)),(w64 (t18+1))) [] h
  ·have h:=h.2 hb12
   refine xD (i:=0) ?_
   show Sem _ _ _ _ _
   refine wkD [49,52,55,58] ?_
   refine qD ?_
   refine sDE kk [] [] [(112,vB (decide ((↑(List.length (List.map enc_arr4_uint64 t28_Auto_Sets)):Int) > (600:Int))))] [(112,vB (decide ((↑(List.length t28_Auto_Sets):Int) > (600:Int))))] obN ?_
   refine cD (t:=37) (b:=decide ((↑(List.length t28_Auto_Sets):Int) > (600:Int))) (fun hb17=>?_) (fun hb17=>?_)
   ·have h:=h.1 hb17
    refine sDE kk [] [4,8,13,16,86,112] [(10,vi 2),(14,.agg [.own 33 ([]),.own 3 ([]),.own 30 ([]),.own 4 ([]),.own 30 ([])])] [(10,vi 2),(14,.agg [oL 33 enc_arr4_uint64 ([]),oL 3 enc_i64 ([]),oL 30 encs_i64 ([]),oL 4 enc_bool ([]),oL 30 encs_i64 ([])])] obN ?_
    refine tD ?_
    obtain ⟨he0,he1⟩:=h
    subst res res_1
    exact (endD [] (.tup [.agg [.f (FV.sl (List.take (List.length (List.map enc_arr4_uint64 [])) (List.drop (0:Nat) (List.map enc_arr4_uint64 [])))),.f (FV.sl (List.take (List.length (List.map enc_i64 [])) (List.drop (0:Nat) (List.map enc_i64 [])))),.f (FV.sl (List.take (List.length (List.map encs_i64 [])) (List.drop (0:Nat) (List.map encs_i64 [])))),.f (FV.sl (List.take (List.length (List.map enc_bool [])) (List.drop (0:Nat) (List.map enc_bool [])))),.f (FV.sl (List.take (List.length (List.map encs_i64 [])) (List.drop (0:Nat) (List.map encs_i64 []))))],vi 2]) []).1
   ·have h:=h.2 hb17
    refine Sem.skip' (by kernel_rfl) Wk.refl ?_
    show Sem _ _ _ _ _
    refine wkD [112] ?_
    refine qD ?_
    refine sDE kk [] [] [(127,vi (w64 ((2:Int) * (↑(List.length (List.map enc_api_Cond (api_Spec.Conds s0))):Int)))),(130,vi 0)] [(127,vi (w64 ((2:Int) * (↑(List.length (api_Spec.Conds s0)):Int)))),(130,vi 0)] obN ?_
    refine bD (id:=2) ?_
    obtain ⟨Inv24,mu25,h0Inv24,hInv24⟩:=h
    refine loD (fun (q:List (List Int)×Int)=>(fun (t28_Auto_Starts_1:List (List Int)) (t43:Int)=>([(4,.ptr 8 0),(7,.ptr 14 0),(8,av_api_Spec s0),(13,.ptr 86 0),(14,.agg [oL 33 enc_arr4_uint64 ([]),oL 3 enc_i64 ([]),oL 30 encs_i64 ([]),oL 4 enc_bool ([]),oL 30 encs_i64 ([])]),(16,vL encs_i64 begins),(86,.agg [oL 33 enc_arr4_uint64 t28_Auto_Sets,oL 3 enc_i64 t28_Auto_Owner,oL 30 encs_i64 t28_Auto_Follow,oL 4 enc_bool t28_Auto_Ends,oL 30 encs_i64 t28_Auto_Starts_1]),(127,vi (w64 ((2:Int) * (↑(List.length (api_Spec.Conds s0)):Int)))),(130,vi t43)]:Sta)) q.1 q.2) (fun (q:List (List Int)×Int)=>Inv24 q.1 q.2) (fun (q:List (List Int)×Int)=>mu25 q.1 q.2) (t28_Auto_Starts,0) [(16,0)] h0Inv24 ?_
    rintro ⟨t28_Auto_Starts_1,t43⟩ hi
    have h:=hInv24 t28_Auto_Starts_1 t43 hi
    refine sD kk [] [] [(133,vB (decide (t43 < w64 ((2:Int) * (↑(List.length (api_Spec.Conds s0)):Int)))))] obN ?_
    refine qD ?_
    refine cD (t:=44) (b:=decide (t43 < w64 ((2:Int) * (↑(List.length (api_Spec.Conds s0)):Int)))) (fun hb26=>?_) (fun hb26=>?_)
    ·have h:=h.1 hb26
     refine Sem.skip' (by kernel_rfl) Wk.refl ?_
     show Sem _ _ _ _ _
     refine wkD [133] ?_
     refine qD ?_
     refine bD (id:=3) ?_
     refine sD kk [] [] [(25,vi t43)] obN ?_
     obtain ⟨r0_6,hc27,h⟩:=h
     obtain ⟨h28,h⟩:=h
     refine rDE kk [.c (vL enc_i64 r0_6) []] [25] [(86,.agg [oL 33 enc_arr4_uint64 t28_Auto_Sets,oL 3 enc_i64 t28_Auto_Owner,oL 30 encs_i64 t28_Auto_Follow,oL 4 enc_bool t28_Auto_Ends,.own 30 (List.map encs_i64 t28_Auto_Starts_1++List.take (List.length [FV.sl (List.map enc_i64 r0_6)]) (List.drop (0:Nat) [FV.sl (List.map enc_i64 r0_6)]))])] [(86,.agg [oL 33 enc_arr4_uint64 t28_Auto_Sets,oL 3 enc_i64 t28_Auto_Owner,oL 30 encs_i64 t28_Auto_Follow,oL 4 enc_bool t28_Auto_Ends,oL 30 encs_i64 (t28_Auto_Starts_1++[r0_6])])] (obC (show (2:Int)≠(0:Int) from by first | decide | rfl | trivial) (obC (show (2:Int)≠(0:Int) from by first | decide | rfl | trivial) (obC hc27 (obC (show (0:Nat)=(0:Nat)∧List.length (List.map encs_i64 t28_Auto_Starts_1)=List.length (List.map encs_i64 t28_Auto_Starts_1) from ⟨rfl,rfl⟩) (obC (show (List.length (List.map encs_i64 t28_Auto_Starts_1)+List.length (List.take (1:Nat) (List.drop (0:Nat) [FV.sl (List.map enc_i64 r0_6)]))) * (24:Nat)≤(2:Nat) ^ (47:Nat) from by simpa only [nm] using h28) (obC (show List.all (List.take (1:Nat) (List.drop (0:Nat) [FV.sl (List.map enc_i64 r0_6)])) (FV.fits (1:Nat))=true from by first | exact fits_i64 _ | exact keysenc_i64 _ | rfl | simp [isByteF,FV.fits,FV.size,FV.cells,FV.one,enc_i64]) obN)))))) ?_
     show Sem _ _ _ _ _
     refine rD kk [] [] [(130,vi (w64 (t43+1)))] obN ?_
     exact lD ((t28_Auto_Starts_1++[r0_6]),(w64 (t43+1))) [] h
    ·have h:=h.2 hb26
     refine xD (i:=2) ?_
     show Sem _ _ _ _ _
     refine wkD [4,8,16,127,130,133] ?_
     refine sDE kk [] [13,86] [(10,vi 0),(14,.agg [.f (FV.sl (List.take (List.length (List.map enc_arr4_uint64 t28_Auto_Sets)) (List.drop (0:Nat) (List.map enc_arr4_uint64 t28_Auto_Sets)))),.f (FV.sl (List.take (List.length (List.map enc_i64 t28_Auto_Owner)) (List.drop (0:Nat) (List.map enc_i64 t28_Auto_Owner)))),.f (FV.sl (List.take (List.length (List.map encs_i64 t28_Auto_Follow)) (List.drop (0:Nat) (List.map encs_i64 t28_Auto_Follow)))),.f (FV.sl (List.take (List.length (List.map enc_bool t28_Auto_Ends)) (List.drop (0:Nat) (List.map enc_bool t28_Auto_Ends)))),.f (FV.sl (List.take (List.length (List.map encs_i64 t28_Auto_Starts_1)) (List.drop (0:Nat) (List.map encs_i64 t28_Auto_Starts_1))))])] [(10,vi 0),(14,.agg [vL enc_arr4_uint64 t28_Auto_Sets,vL enc_i64 t28_Auto_Owner,vL encs_i64 t28_Auto_Follow,vL enc_bool t28_Auto_Ends,vL encs_i64 t28_Auto_Starts_1])] obN ?_
     refine tD ?_
     obtain ⟨he0,he1⟩:=h
     subst res res_1
     exact (endD [] (.tup [.agg [vL enc_arr4_uint64 t28_Auto_Sets,vL enc_i64 t28_Auto_Owner,vL encs_i64 t28_Auto_Follow,vL enc_bool t28_Auto_Ends,vL encs_i64 t28_Auto_Starts_1],vi 0]) []).1
set_option maxHeartbeats 1000000 in
theorem W_auto_Right_L1 (i:Int) (res:Bool)
 (h:(res=(decide (i < (0:Int)) || decide (i≥(40:Int))))):C_auto_Right_L1 i res:=by
 unfold C_auto_Right_L1
 have kk:=cfOk [] 9
 refine fD (x:=bodyOf Try.f44) kk Try.func44 ?_
 refine wkS [1] [(1,vi i)] (by kernel_rfl) ?_
 refine sD kk [] [] [] obN ?_
 refine sM [1] [(7,vB (decide (i < (0:Int)) || decide (i≥(40:Int))))] ?_ (fun hk0=>?_)
 ·refine tD ?_
  obtain he0:=h
  subst res
  exact (endD [] (vB (decide (i < (0:Int)) || decide (i≥(40:Int)))) []).1
 ·rcases Bool.eq_false_or_eq_true (decide (i < (0:Int))) with hb0 | hb0
  ·refine sD kk [bF,bF,bT] [1] [(7,vB true)] (obC (gff hb0) (obC (gff hb0) (obC hb0 obN))) ?_
   exact Sem.cast (by try rw [hb0];kernel_rfl) hk0
  ·refine sD kk [bT,bT,bF] [1] [(7,vB (decide (i≥(40:Int))))] (obC (gft hb0) (obC (gft hb0) (obC hb0 obN))) ?_
   exact Sem.cast (by try rw [hb0];kernel_rfl) hk0
set_option maxHeartbeats 1000000 in
theorem W_slices_Index__api_Set_api_Set (s0:(List arr4_uint64)) (v:arr4_uint64) (res:Int)
 (h:(∃ (Inv7:Int→Prop) (mu8:Int→Nat),Inv7 0∧(∀ (t8:Int),Inv7 t8→(((decide (t8 < (↑(List.length s0):Int)))=true→((0:Int)≤t8)∧t8 < ↑(List.length s0)∧(((arr4_uint64.e0 v == arr4_uint64.e0 (gd s0 t8) && (arr4_uint64.e1 v == arr4_uint64.e1 (gd s0 t8) && (arr4_uint64.e2 v == arr4_uint64.e2 (gd s0 t8) && (arr4_uint64.e3 v == arr4_uint64.e3 (gd s0 t8) && true))))=true→(res=t8))∧((arr4_uint64.e0 v == arr4_uint64.e0 (gd s0 t8) && (arr4_uint64.e1 v == arr4_uint64.e1 (gd s0 t8) && (arr4_uint64.e2 v == arr4_uint64.e2 (gd s0 t8) && (arr4_uint64.e3 v == arr4_uint64.e3 (gd s0 t8) && true))))=false→(Inv7 (w64 (t8+1))∧mu8 (w64 (t8+1)) < mu8 t8))))∧((decide (t8 < (↑(List.length s0):Int)))=false→(res=(-1))))))):C_slices_Index__api_Set_api_Set s0 v res:=by
 unfold C_slices_Index__api_Set_api_Set
 have kk:=cfOk [17] 19
 refine fD (x:=bodyOf Try.f77) kk Try.func77 ?_
 refine wkS [1,4] [(1,vL enc_arr4_uint64 s0),(4,av_arr4_uint64 v)] (by kernel_rfl) ?_
 refine sD kk [] [4] [(10,.ptr 20 0),(20,av_arr4_uint64 v)] obN ?_
 refine qD ?_
 refine sDE kk [] [] [(22,vi ((↑(List.length (List.map enc_arr4_uint64 s0)):Int))),(25,vi 0)] [(22,vi ((↑(List.length s0):Int))),(25,vi 0)] obN ?_
 refine bD (id:=0) ?_
 obtain ⟨Inv7,mu8,h0Inv7,hInv7⟩:=h
 refine loD (fun (q:Int)=>(fun (t8:Int)=>([(1,vL enc_arr4_uint64 s0),(10,.ptr 20 0),(20,av_arr4_uint64 v),(22,vi ((↑(List.length s0):Int))),(25,vi t8)]:Sta)) q) (fun (q:Int)=>Inv7 q) (fun (q:Int)=>mu8 q) 0 [] h0Inv7 ?_
 rintro t8 hi
 have h:=hInv7 t8 hi
 refine sD kk [] [] [(28,vB (decide (t8 < (↑(List.length s0):Int))))] obN ?_
 refine qD ?_
 refine cD (t:=9) (b:=decide (t8 < (↑(List.length s0):Int))) (fun hb9=>?_) (fun hb9=>?_)
 ·have h:=h.1 hb9
  refine Sem.skip' (by kernel_rfl) Wk.refl ?_
  show Sem _ _ _ _ _
  refine wkD [28] ?_
  refine qD ?_
  refine bD (id:=1) ?_
  refine sD kk [] [] [(16,vi t8)] obN ?_
  obtain ⟨h10,h⟩:=h
  obtain ⟨h11,h⟩:=h
  refine sD kk [.e (fv_arr4_uint64 (gd s0 t8))] [] [(49,vB (arr4_uint64.e0 v == arr4_uint64.e0 (gd s0 t8) && (arr4_uint64.e1 v == arr4_uint64.e1 (gd s0 t8) && (arr4_uint64.e2 v == arr4_uint64.e2 (gd s0 t8) && (arr4_uint64.e3 v == arr4_uint64.e3 (gd s0 t8) && true)))))] (obC h10 (obC (idx_ok enc_arr4_uint64 s0 t8 _ (enc_arr4_uint64_eq _) h10 h11) obN)) ?_
  refine cD (t:=16) (b:=arr4_uint64.e0 v == arr4_uint64.e0 (gd s0 t8) && (arr4_uint64.e1 v == arr4_uint64.e1 (gd s0 t8) && (arr4_uint64.e2 v == arr4_uint64.e2 (gd s0 t8) && (arr4_uint64.e3 v == arr4_uint64.e3 (gd s0 t8) && true)))) (fun hb12=>?_) (fun hb12=>?_)
  ·have h:=h.1 hb12
   refine sD kk [] [1,10,16,20,22,25,49] [(13,vi t8)] obN ?_
   refine tD ?_
   obtain he0:=h
   subst res
   exact (endD [] (vi t8) []).1
  ·have h:=h.2 hb12
   refine Sem.skip' (by kernel_rfl) Wk.refl ?_
   show Sem _ _ _ _ _
   refine wkD [16,49] ?_
   refine rD kk [] [] [(25,vi (w64 (t8+1)))] obN ?_
   exact lD (w64 (t8+1)) [] h
 ·have h:=h.2 hb9
  refine xD (i:=0) ?_
  show Sem _ _ _ _ _
  refine wkD [1,10,20,22,25,28] ?_
  refine sD kk [] [] [(13,vi (-1))] obN ?_
  refine tD ?_
  obtain he0:=h
  subst res
  exact (endD [] (vi (-1)) []).1
set_option maxHeartbeats 1000000 in
theorem W_slices_Contains__api_Set_api_Set (s0:(List arr4_uint64)) (v:arr4_uint64) (res:Bool)
 (h:(∃ r0:Int,C_slices_Index__api_Set_api_Set s0 v r0∧(res=(decide (r0≥(0:Int)))))):C_slices_Contains__api_Set_api_Set s0 v res:=by
 unfold C_slices_Contains__api_Set_api_Set
 have kk:=cfOk [] 9
 refine fD (x:=bodyOf Try.f46) kk Try.func46 ?_
 refine wkS [1,4] [(1,vL enc_arr4_uint64 s0),(4,av_arr4_uint64 v)] (by kernel_rfl) ?_
 refine sD kk [] [4] [(10,.ptr 20 0),(20,av_arr4_uint64 v)] obN ?_
 obtain ⟨r0,hc0,h⟩:=h
 refine sD kk [.c (vi r0) []] [1,10,20] [(13,vB (decide (r0≥(0:Int))))] (obC hc0 obN) ?_
 refine tD ?_
 obtain he0:=h
 subst res
 exact (endD [] (vB (decide (r0≥(0:Int)))) []).1
set_option maxHeartbeats 1000000 in
theorem W_auto_places (l:(List Int)) (many:Int) (res:Bool)
 (h:(∃ (Inv9:Int→Int→Prop) (mu10:Int→Int→Nat),Inv9 (-1) 0∧(∀ (last:Int) (t10:Int),Inv9 last t10→(((decide (t10 < (↑(List.length l):Int)))=true→((0:Int)≤t10)∧t10 < ↑(List.length l)∧(((decide (gd l t10≤last) || decide (gd l t10≥many))=true→(res=false))∧((decide (gd l t10≤last) || decide (gd l t10≥many))=false→(Inv9 (gd l t10) (w64 (t10+1))∧mu10 (gd l t10) (w64 (t10+1)) < mu10 last t10))))∧((decide (t10 < (↑(List.length l):Int)))=false→(res=true)))))):C_auto_places l many res:=by
 unfold C_auto_places
 have kk:=cfOk [] 24
 refine fD (x:=bodyOf Try.f48) kk Try.func48 ?_
 refine wkS [1,4] [(1,vL enc_i64 l),(4,vi many)] (by kernel_rfl) ?_
 refine sD kk [] [] [] obN ?_
 refine sD kk [] [] [(16,vi (-1))] obN ?_
 refine qD ?_
 refine sDE kk [] [1] [(25,vL enc_i64 l),(28,vi ((↑(List.length (List.map enc_i64 l)):Int))),(31,vi 0)] [(25,vL enc_i64 l),(28,vi ((↑(List.length l):Int))),(31,vi 0)] obN ?_
 refine bD (id:=0) ?_
 obtain ⟨Inv9,mu10,h0Inv9,hInv9⟩:=h
 refine loD (fun (q:Int×Int)=>(fun (last:Int) (t10:Int)=>([(4,vi many),(16,vi last),(25,vL enc_i64 l),(28,vi ((↑(List.length l):Int))),(31,vi t10)]:Sta)) q.1 q.2) (fun (q:Int×Int)=>Inv9 q.1 q.2) (fun (q:Int×Int)=>mu10 q.1 q.2) ((-1),0) [] h0Inv9 ?_
 rintro ⟨last,t10⟩ hi
 have h:=hInv9 last t10 hi
 refine sD kk [] [] [(34,vB (decide (t10 < (↑(List.length l):Int))))] obN ?_
 refine qD ?_
 refine cD (t:=11) (b:=decide (t10 < (↑(List.length l):Int))) (fun hb11=>?_) (fun hb11=>?_)
 ·have h:=h.1 hb11
  refine Sem.skip' (by kernel_rfl) Wk.refl ?_
  show Sem _ _ _ _ _
  refine wkD [34] ?_
  refine qD ?_
  refine bD (id:=1) ?_
  obtain ⟨h12,h⟩:=h
  obtain ⟨h13,h⟩:=h
  refine sD kk [.e (fi (gd l t10))] [] [(22,vi (gd l t10))] (obC h12 (obC (idx_ok enc_i64 l t10 _ rfl h12 h13) obN)) ?_
  refine qD ?_
  refine sM [16] [(64,vB (decide (gd l t10≤last) || decide (gd l t10≥many)))] ?_ (fun hk0=>?_)
  ·refine cD (t:=21) (b:=decide (gd l t10≤last) || decide (gd l t10≥many)) (fun hb15=>?_) (fun hb15=>?_)
   ·have h:=h.1 hb15
    refine sD kk [] [4,22,25,28,31,64] [(13,vB false)] obN ?_
    refine tD ?_
    obtain he0:=h
    subst res
    exact (endD [] (vB false) []).1
   ·have h:=h.2 hb15
    refine Sem.skip' (by kernel_rfl) Wk.refl ?_
    show Sem _ _ _ _ _
    refine wkD [64] ?_
    refine rD kk [] [22] [(16,vi (gd l t10))] obN ?_
    show Sem _ _ _ _ _
    refine rD kk [] [] [(31,vi (w64 (t10+1)))] obN ?_
    exact lD ((gd l t10),(w64 (t10+1))) [] h
  ·rcases Bool.eq_false_or_eq_true (decide (gd l t10≤last)) with hb14 | hb14
   ·refine sD kk [bF,bF,bF,bT] [16] [(64,vB true)] (obC (gff hb14) (obC (gff hb14) (obC (gff hb14) (obC hb14 obN)))) ?_
    exact Sem.cast (by try rw [hb14];kernel_rfl) hk0
   ·refine sD kk [bT,bT,bT,bF] [16] [(64,vB (decide (gd l t10≥many)))] (obC (gft hb14) (obC (gft hb14) (obC (gft hb14) (obC hb14 obN)))) ?_
    exact Sem.cast (by try rw [hb14];kernel_rfl) hk0
 ·have h:=h.2 hb11
  refine xD (i:=0) ?_
  show Sem _ _ _ _ _
  refine wkD [4,16,25,28,31,34] ?_
  refine sD kk [] [] [(13,vB true)] obN ?_
  refine tD ?_
  obtain he0:=h
  subst res
  exact (endD [] (vB true) []).1
set_option maxHeartbeats 1000000 in
theorem W_slices_IndexFunc__int_int_at_auto_Right_L1 (s0:(List Int)) (res:Int)
 (h:(∃ (Inv9:Int→Prop) (mu10:Int→Nat),Inv9 0∧(∀ (t8:Int),Inv9 t8→(((decide (t8 < (↑(List.length s0):Int)))=true→((0:Int)≤t8)∧t8 < ↑(List.length s0)∧(∃ r0_2:Bool,C_auto_Right_L1 (gd s0 t8) r0_2∧(((r0_2)=true→(res=t8))∧((r0_2)=false→(Inv9 (w64 (t8+1))∧mu10 (w64 (t8+1)) < mu10 t8)))))∧((decide (t8 < (↑(List.length s0):Int)))=false→(res=(-1))))))):C_slices_IndexFunc__int_int_at_auto_Right_L1 s0 res:=by
 unfold C_slices_IndexFunc__int_int_at_auto_Right_L1
 have kk:=cfOk [17] 19
 refine fD (x:=bodyOf Try.f76) kk Try.func76 ?_
 refine wkS [1,4] [(1,vL enc_i64 s0),(4,.clo 44 [])] (by kernel_rfl) ?_
 refine sD kk [] [] [] obN ?_
 refine qD ?_
 refine sDE kk [] [] [(22,vi ((↑(List.length (List.map enc_i64 s0)):Int))),(25,vi 0)] [(22,vi ((↑(List.length s0):Int))),(25,vi 0)] obN ?_
 refine bD (id:=0) ?_
 obtain ⟨Inv9,mu10,h0Inv9,hInv9⟩:=h
 refine loD (fun (q:Int)=>(fun (t8:Int)=>([(1,vL enc_i64 s0),(4,.clo 44 []),(22,vi ((↑(List.length s0):Int))),(25,vi t8)]:Sta)) q) (fun (q:Int)=>Inv9 q) (fun (q:Int)=>mu10 q) 0 [] h0Inv9 ?_
 rintro t8 hi
 have h:=hInv9 t8 hi
 refine sD kk [] [] [(28,vB (decide (t8 < (↑(List.length s0):Int))))] obN ?_
 refine qD ?_
 refine cD (t:=9) (b:=decide (t8 < (↑(List.length s0):Int))) (fun hb11=>?_) (fun hb11=>?_)
 ·have h:=h.1 hb11
  refine Sem.skip' (by kernel_rfl) Wk.refl ?_
  show Sem _ _ _ _ _
  refine wkD [28] ?_
  refine qD ?_
  refine bD (id:=1) ?_
  refine sD kk [] [] [(16,vi t8)] obN ?_
  obtain ⟨h12,h⟩:=h
  obtain ⟨h13,h⟩:=h
  obtain ⟨r0_2,hc14,h⟩:=h
  refine sD kk [.e (fi (gd s0 t8)),.c (vB r0_2) []] [] [(49,vB r0_2)] (obC h12 (obC (idx_ok enc_i64 s0 t8 _ rfl h12 h13) (obC hc14 obN))) ?_
  refine cD (t:=16) (b:=r0_2) (fun hb15=>?_) (fun hb15=>?_)
  ·have h:=h.1 hb15
   refine sD kk [] [1,4,16,22,25,49] [(13,vi t8)] obN ?_
   refine tD ?_
   obtain he0:=h
   subst res
   exact (endD [] (vi t8) []).1
  ·have h:=h.2 hb15
   refine Sem.skip' (by kernel_rfl) Wk.refl ?_
   show Sem _ _ _ _ _
   refine wkD [16,49] ?_
   refine rD kk [] [] [(25,vi (w64 (t8+1)))] obN ?_
   exact lD (w64 (t8+1)) [] h
 ·have h:=h.2 hb11
  refine xD (i:=0) ?_
  show Sem _ _ _ _ _
  refine wkD [1,4,22,25,28] ?_
  refine sD kk [] [] [(13,vi (-1))] obN ?_
  refine tD ?_
  obtain he0:=h
  subst res
  exact (endD [] (vi (-1)) []).1
set_option maxHeartbeats 1000000 in
theorem W_slices_ContainsFunc__int_int_at_auto_Right_L1 (s0:(List Int)) (res:Bool)
 (h:(∃ r0:Int,C_slices_IndexFunc__int_int_at_auto_Right_L1 s0 r0∧(res=(decide (r0≥(0:Int)))))):C_slices_ContainsFunc__int_int_at_auto_Right_L1 s0 res:=by
 unfold C_slices_ContainsFunc__int_int_at_auto_Right_L1
 have kk:=cfOk [] 9
 refine fD (x:=bodyOf Try.f45) kk Try.func45 ?_
 refine wkS [1,4] [(1,vL enc_i64 s0),(4,.clo 44 [])] (by kernel_rfl) ?_
 refine sD kk [] [] [] obN ?_
 obtain ⟨r0,hc0,h⟩:=h
 refine sD kk [.c (vi r0) []] [1,4] [(13,vB (decide (r0≥(0:Int))))] (obC hc0 obN) ?_
 refine tD ?_
 obtain he0:=h
 subst res
 exact (endD [] (vB (decide (r0≥(0:Int)))) []).1
end Go.Ev
